/- Parts of a proof: what its last text mentions. -/
import Derived.Test.YtaoadjbjpagdoaaCud
set_option linter.unusedVariables false
set_option linter.unusedSimpArgs false
set_option maxRecDepth 100000
set_option maxHeartbeats 4000000
namespace Go.Vs
open Go.Proofs
attribute [local irreducible] exec vwp thenQ blkQ loopQ RetPost RetPostR
theorem k_l2Clear (t : Terrain) (xs : List Int) (hg : GoodT t) (hx : CelT t xs) (hxl : xs.length ≤ 1000000) : Con Try.prog 102 [.agg t.pv, .list 1 (ints xs)] (.agg [.int .i64 t.width, .int .i64 t.height, .olist 3 1 (ints (clrB t.burn xs))]) := by
  intro al
  refine contract_of hmix Try.func102 rfl (by kernel_rfl) (by kernel_rfl) (Nat.le_of_ble_eq_true rfl) (fun row h => by cases h) ?_
  have hty_a26 := ty_a26
  have hty_z26 := ty_z26
  have hty_f26_0 := ty_f26_0
  have hty_c3 := ty_c3
  have hty_f26_1 := ty_f26_1
  have hty_f26_2 := ty_f26_2
  have hty_c24 := ty_c24
  have hty_u24 := ty_u24
  have hty_s24 := ty_s24
  have hty_st26 := ty_st26
  have hty_t26 := ty_t26
  have hty_t3 := ty_t3
  have hl1 : (ints xs).length = xs.length := by simp
  have hlen := goodT_len hg
  repeat' (first | (refine pA (k := ?_)) | (refine g_exec ?_; first | (refine g_call ?_; refine x_callG true (k_l1OwnF t.burn aO) rfl rfl rfl aS rfl aH ?_; simp only [cl]) | (refine x_nil (hK _ _ aI ?_); clear hK K)) | (refine v_region (fun K hK => ?_)) | (refine v_condt rfl (fun h => ?_) (fun h => ?_) <;> (have h' := h; try simp only [sx] at h')))
  refine v_loopK [1, 4, 5] [(5, 0), (1001, 0)] (fun q : Nat × List (List PV) => [(6, .int .i64 q.1)]) (fun q : Nat × List (List PV) => [((5, 0), some ⟨26, 3, [[.int .i64 t.width, .int .i64 t.height, .osl (1001, 0) 0 t.burn.length]], true⟩), ((1001, 0), some ⟨3, 1, q.2, false⟩)]) (fun q : Nat × List (List PV) => q.1 ≤ xs.length ∧ q.2 = ints (clrB t.burn (xs.take q.1))) (fun q : Nat × List (List PV) => xs.length - q.1) ((0, ints t.burn)) rfl rfl (fun _ => rfl) (fun _ => rfl) rfl (by refine ⟨?_, ?_, rfl, rfl⟩ <;> (repeat' (first | exact trivial | exact ⟨rfl, rfl⟩ | exact rfl | exact ⟨sub_fn, refs_fn⟩ | refine ⟨⟨rfl, rfl⟩, ?_⟩ | refine ⟨⟨sub_fn, refs_fn⟩, ?_⟩ | refine ⟨⟨rfl, fun h => Bool.noConfusion h⟩, ?_⟩ | refine ⟨⟨rfl, fun h => ?_⟩, ?_⟩ | refine ⟨rfl, ?_⟩ | refine ⟨?_, ?_⟩ | fail))) ⟨by simp, by simp [clrB]⟩ (fun q hq => ?_)
  obtain ⟨i, es⟩ := q
  obtain ⟨hi1, hi2⟩ := hq
  simp only at hi1 hi2
  have hel : es.length = (ints t.burn).length := by rw [hi2, ints_len, ints_len, clrB_len]
  have hbl : (ints t.burn).length = t.burn.length := by simp
  dsimp only
  rcases Nat.lt_or_ge i xs.length with hlt | hge
  · obtain ⟨a, hga⟩ := get_ex hlt
    have hga' := ints_at hga
    have hcc := hx.at hga
    unfold IsCell at hcc
    obtain ⟨y, hy⟩ := get_ex (show a.toNat < (clrB t.burn (xs.take i)).length by rw [clrB_len]; omega)
    have hy2 := ints_at hy
    rw [← hi2] at hy2
    have e := ints_setF (clrB t.burn (xs.take i)) a.toNat 0
    repeat' (first | (refine pA (k := ?_)) | (refine g_exec ?_; refine x_nil (hK _ _ aI ?_); clear hK K) | (refine v_region (fun K hK => ?_)) | (refine v_condt rfl (fun h => ?_) (fun h => ?_) <;> (have h' := h; try simp only [sx] at h')))
    all_goals try (exfalso; omega)
    all_goals (refine q_next (i + 1, es.set a.toNat [.int .i64 0]) rfl (by refine ⟨?_, ?_, rfl, rfl⟩ <;> (repeat' (first | exact trivial | exact ⟨rfl, rfl⟩ | exact rfl | exact ⟨sub_fn, refs_fn⟩ | refine ⟨⟨rfl, rfl⟩, ?_⟩ | refine ⟨⟨sub_fn, refs_fn⟩, ?_⟩ | refine ⟨⟨rfl, fun h => Bool.noConfusion h⟩, ?_⟩ | refine ⟨⟨rfl, fun h => ?_⟩, ?_⟩ | refine ⟨rfl, ?_⟩ | refine ⟨?_, ?_⟩ | fail))) ⟨by simp only; omega, by simp only; rw [hi2, e, take_succ hga, clrB_snoc]⟩ (by simp only; omega))
  · rw [take_all hge] at hi2
    subst hi2
    repeat' (first | (refine pA (k := ?_)) | (refine g_exec ?_; refine x_nil (hK _ _ aI ?_); clear hK K) | (refine v_region (fun K hK => ?_)) | (refine v_condt rfl (fun h => ?_) (fun h => ?_) <;> (have h' := h; try simp only [sx] at h')))
    (first | refine ret_T rfl rfl rfl (by first | exact trivial | (repeat' (first | exact trivial | refine ⟨by assumption, ?_⟩))) (by repeat' (first | exact trivial | refine ⟨by simp, ?_⟩)) ?_ | refine ret_A rfl rfl rfl (by first | exact trivial | (repeat' (first | exact trivial | refine ⟨by assumption, ?_⟩))) (by repeat' (first | exact trivial | refine ⟨by simp, ?_⟩)) ?_); (repeat' (first | exact et_end | exact el_end | refine et_int rfl ?_ ?_ | refine et_bool ?_ ?_ | refine et_str ?_ ?_ | refine et_list (by rfl) (by decide) rfl rfl ?_ ?_ ?_ ?_ | refine et_nil ?_ ?_ | refine et_agg ?_ ?_ | refine el_int rfl ?_ ?_ | refine el_bool ?_ ?_ | refine el_str ?_ ?_ | refine el_list (by rfl) (by decide) rfl rfl ?_ ?_ ?_ ?_ | refine el_nil ?_ ?_)) <;> first | rfl | exact ints_flat _ | (simp [clrB_len]; done)
def rst (t : Terrain) (s : List Int × List Int) : List Int × List Int :=
  match s.2 with
  | [] => s
  | c :: r => if burnAt t c = 0 ∨ c ∈ s.1 then (s.1, r) else (put s.1 c, r ++ nears t c)
def rcF (t : Terrain) (xs : List Int) : Nat → List Int × List Int
  | 0 => ([], xs)
  | k + 1 => rst t (rcF t xs k)
def msn (t : Terrain) (l : List Int) : Nat := ((List.range t.burn.length).filter fun i : Nat => decide ((i : Int) ∉ l)).length
def rms (t : Terrain) (s : List Int × List Int) : Nat := 30 * msn t s.1 + s.2.length
theorem filter_lt {α : Type} {p q : α → Bool} (hpq : ∀ x, q x = true → p x = true) : ∀ {l : List α} {a : α}, a ∈ l → p a = true → q a = false → (l.filter q).length < (l.filter p).length
  | [], a, h, _, _ => by cases h
  | x :: l, a, h, hp, hq => by
    have hle : ∀ l : List α, (l.filter q).length ≤ (l.filter p).length := by
      intro l
      induction l with
      | nil => simp
      | cons y l ih =>
        simp only [List.filter_cons]
        cases hy : q y with
        | true => rw [hpq y hy]; simp; exact ih
        | false => cases p y <;> simp <;> omega
    rcases List.mem_cons.1 h with rfl | h
    · simp only [List.filter_cons, hp, hq]
      have := hle l
      simp
      omega
    · have := filter_lt hpq h hp hq
      simp only [List.filter_cons]
      cases hy : q x with
      | true => rw [hpq x hy]; simp; exact this
      | false => cases p x <;> simp <;> omega
theorem msn_put {t : Terrain} {l : List Int} {c : Int} (hc : IsCell t c) (h : c ∉ l) : msn t (put l c) < msn t l := by
  unfold msn
  refine filter_lt (a := c.toNat) (fun x hx => ?_) ?_ ?_ ?_
  · simp only [decide_eq_true_iff, put_mem, not_or] at hx ⊢
    exact hx.1
  · have := hc
    unfold IsCell at this
    simp
    omega
  · have : ((c.toNat : Nat) : Int) = c := by have := hc.1; omega
    rw [this]
    simpa using h
  · have : ((c.toNat : Nat) : Int) = c := by have := hc.1; omega
    rw [this]
    simp [put_mem]
theorem msn_nil (t : Terrain) : msn t [] ≤ t.burn.length := by
  unfold msn
  have := List.length_filter_le (fun i : Nat => decide ((i : Int) ∉ ([] : List Int))) (List.range t.burn.length)
  simpa using this
structure RcF (t : Terrain) (s : List Int × List Int) : Prop where
  out : CelT t s.1
  nx : CelT t s.2
  len : s.1.length + msn t s.1 ≤ 25
  rm : rms t s ≤ 1000755
theorem rst_rch {t : Terrain} (hg : GoodT t) {s : List Int × List Int} (h : RcF t s) (hne : s.2 ≠ []) : RcF t (rst t s) ∧ rms t (rst t s) < rms t s := by
  obtain ⟨o, nx⟩ := s
  cases nx with
  | nil => exact absurd rfl hne
  | cons c r =>
    have hc : IsCell t c := h.nx c List.mem_cons_self
    have hr : CelT t r := fun y hy => h.nx y (List.mem_cons_of_mem _ hy)
    have hm := h.rm
    unfold rst
    simp only
    split
    · have hlt : rms t (o, r) < rms t (o, c :: r) := by simp [rms]
      exact ⟨⟨h.out, hr, h.len, by omega⟩, hlt⟩
    · rename_i hn
      have hni : c ∉ o := fun hh => hn (.inr hh)
      have h1 := msn_put hc hni
      have h2 := put_len o c
      have h3 := nears_len t c
      have h4 := goodT_len hg
      have h5 := h.len
      simp only at h5
      have hlt : rms t (put o c, r ++ nears t c) < rms t (o, c :: r) := by simp only [rms, List.length_append, List.length_cons]; omega
      refine ⟨⟨fun y hy => ?_, fun y hy => ?_, by simp only; omega, by omega⟩, hlt⟩
      · rcases put_mem.1 hy with g | g
        · exact h.out y g
        · rw [g]; exact hc
      · rcases List.mem_append.1 hy with g | g
        · exact hr y g
        · exact (nears_mem.1 g).1
theorem k_l2Reach (t : Terrain) (xs : List Int) (hg : GoodT t) (hx : CelT t xs) (hxl : xs.length ≤ 1000000) : ∃ out, CelT t out ∧ out.length ≤ 25 ∧ Con Try.prog 101 [.agg t.pv, .list 1 (ints xs)] (.olist 3 1 (ints out)) := by
  have hlen := goodT_len hg
  have h0 : RcF t (rcF t xs 0) := ⟨fun y hy => by simp [rcF] at hy, hx, by have := msn_nil t; simp [rcF]; omega, by have := msn_nil t; simp [rcF, rms]; omega⟩
  have key : ∀ m k, rms t (rcF t xs k) ≤ m → RcF t (rcF t xs k) → ∃ N, k ≤ N ∧ (rcF t xs N).2 = [] ∧ ∀ j, k ≤ j → j < N → RcF t (rcF t xs j) ∧ (rcF t xs j).2 ≠ [] := by
    intro m
    induction m with
    | zero =>
      intro k hk h
      refine ⟨k, Nat.le_refl _, ?_, fun j h1 h2 => by omega⟩
      apply List.eq_nil_of_length_eq_zero
      unfold rms at hk
      omega
    | succ m ih =>
      intro k hk h
      by_cases he : (rcF t xs k).2 = []
      · exact ⟨k, Nat.le_refl _, he, fun j h1 h2 => by omega⟩
      · obtain ⟨h1, h2⟩ := rst_rch hg h he
        obtain ⟨N, g1, g2, g3⟩ := ih (k + 1) (by show rms t (rst t _) ≤ m; omega) h1
        refine ⟨N, by omega, g2, fun j h3 h4 => ?_⟩
        by_cases hj : j = k
        · subst hj; exact ⟨h, he⟩
        · exact g3 j aO h4
  obtain ⟨N, _, hN, hall⟩ := key _ 0 (Nat.le_refl _) h0
  have hR : ∀ j, j ≤ N → RcF t (rcF t xs j) := by
    intro j hj
    cases j with
    | zero => exact h0
    | succ j => exact (rst_rch hg (hall j aO aO).1 (hall j aO aO).2).1
  refine ⟨(rcF t xs N).1, (hR N (Nat.le_refl _)).out, by have := (hR N (Nat.le_refl _)).len; omega, ?_⟩
  intro al
  refine contract_of hmix Try.func101 rfl (by kernel_rfl) (by kernel_rfl) (Nat.le_of_ble_eq_true rfl) (fun row h => by cases h) ?_
  have hty_s24 := ty_s24
  have hty_u24 := ty_u24
  have hty_c3 := ty_c3
  have hty_f26_2 := ty_f26_2
  have hty_c24 := ty_c24
  have hty_a26 := ty_a26
  have hl1 : (ints xs).length = xs.length := by simp
  have hl2 : (ints t.burn).length = t.burn.length := by simp
  repeat' (first | (refine pA (k := ?_)) | (refine g_exec ?_; first | (refine g_call ?_; refine x_callG true (k_l1OwnF xs hxl) rfl rfl rfl aS rfl aH ?_; simp only [cl]) | (refine g_guard ?_; refine x_gsplit rfl rfl (fun h => ?_) (fun h => ?_) <;> (have h' := h; try simp only [sx] at h')) | (refine x_nil (hK _ _ aI ?_); clear hK K)) | (refine v_region (fun K hK => ?_)) | (refine v_condt rfl (fun h => ?_) (fun h => ?_) <;> (have h' := h; try simp only [sx] at h')))
  refine v_loopK [2] [] (fun q : Nat × List Int × Nat × Nat × List (List PV) × Nat => [(5, .osl (1001, 0) 0 q.2.2.1), (6, .osl (1002, 0) q.2.2.2.1 q.2.2.2.2.2)]) (fun q : Nat × List Int × Nat × Nat × List (List PV) × Nat => [((1001, 0), some ⟨3, 1, ints q.2.1, false⟩), ((1002, 0), some ⟨3, 1, q.2.2.2.2.1, false⟩)]) (fun q : Nat × List Int × Nat × Nat × List (List PV) × Nat => q.1 ≤ N ∧ q.2.1 = (rcF t xs q.1).1 ∧ (ints q.2.1).length = q.2.2.1 ∧ q.2.2.2.2.1.drop q.2.2.2.1 = ints (rcF t xs q.1).2 ∧ q.2.2.2.2.1.length = q.2.2.2.1 + q.2.2.2.2.2) (fun q : Nat × List Int × Nat × Nat × List (List PV) × Nat => N - q.1) ((0, [], 0, 0, ints xs, (ints xs).length)) rfl rfl (fun _ => rfl) (fun _ => rfl) rfl (by refine ⟨?_, ?_, rfl, rfl⟩ <;> (repeat' (first | exact trivial | exact ⟨rfl, rfl⟩ | exact rfl | exact ⟨sub_fn, refs_fn⟩ | refine ⟨⟨rfl, rfl⟩, ?_⟩ | refine ⟨⟨sub_fn, refs_fn⟩, ?_⟩ | refine ⟨⟨rfl, fun h => Bool.noConfusion h⟩, ?_⟩ | refine ⟨⟨rfl, fun h => ?_⟩, ?_⟩ | refine ⟨rfl, ?_⟩ | refine ⟨?_, ?_⟩ | fail))) ⟨by simp, rfl, rfl, rfl, by simp⟩ (fun q hq => ?_)
  obtain ⟨k, out, ol, o, R, m⟩ := q
  obtain ⟨h1, h2, h3, h4, h5⟩ := hq
  simp only at h1 h2 h3 h4 h5
  have hlu := h3.symm
  have hml : m = (rcF t xs k).2.length := by
    have := congrArg List.length h4
    rw [List.length_drop, ints_len] at this
    omega
  dsimp only
  rcases Nat.lt_or_ge k N with hlt | hge
  · obtain ⟨hRk, hne⟩ := hall k aO hlt
    have hsk : rcF t xs (k + 1) = rst t (rcF t xs k) := rfl
    generalize rcF t xs k = s at *
    obtain ⟨o', nx⟩ := s
    simp only at h2 h4 hml hne
    subst h2
    cases nx with
    | nil => exact absurd rfl hne
    | cons c r =>
      simp only [List.length_cons] at hml
      have hc : IsCell t c := hRk.nx c List.mem_cons_self
      have hcc := hc
      unfold IsCell at hcc
      have hb := ints_at (burn_at hc)
      have hR0 : R[o + Int.toNat 0]? = some [.int .i64 c] := by
        have := congrArg (fun l => l[0]?) h4
        simp only [List.getElem?_drop] at this
        rw [show o + Int.toNat 0 = o + 0 from rfl, this]
        rfl
      have hdr : R.drop (o + 1) = ints r := by
        have := congrArg List.tail h4
        rw [List.tail_drop] at this
        rw [this]
        rfl
      have hol := hRk.len
      simp only at hol
      have hrm := hRk.rm
      simp only [rms, List.length_cons] at hrm
      by_cases hb0 : burnAt t c = 0
      · have hst : rst t (out, c :: r) = (out, r) := by unfold rst; simp only; rw [if_pos (.inl hb0)]
        repeat' (first | (refine pA (k := ?_)) | (refine g_exec ?_; first | (refine g_call ?_; refine x_callG true (k_l1Has out c aO) rfl rfl rfl aS rfl aH ?_; simp only [cl]) | (refine g_guard ?_; refine x_gsplit rfl rfl (fun h => ?_) (fun h => ?_) <;> (have h' := h; try simp only [sx] at h')) | (refine x_nil (hK _ _ aI ?_); clear hK K)) | (refine v_region (fun K hK => ?_)) | (refine v_condt rfl (fun h => ?_) (fun h => ?_) <;> (have h' := h; try simp only [sx] at h')))
        all_goals first
          | (exfalso; omega)
          | (refine q_next (k + 1, out, ol, o + 1, R, m - 1) rfl (by refine ⟨?_, ?_, rfl, rfl⟩ <;> (repeat' (first | exact trivial | exact ⟨rfl, rfl⟩ | exact rfl | exact ⟨sub_fn, refs_fn⟩ | refine ⟨⟨rfl, rfl⟩, ?_⟩ | refine ⟨⟨sub_fn, refs_fn⟩, ?_⟩ | refine ⟨⟨rfl, fun h => Bool.noConfusion h⟩, ?_⟩ | refine ⟨⟨rfl, fun h => ?_⟩, ?_⟩ | refine ⟨rfl, ?_⟩ | refine ⟨?_, ?_⟩ | fail))) ⟨by simp only; omega, by simp only; rw [hsk, hst], h3, by simp only; rw [hsk, hst, hdr], by simp only; omega⟩ (by simp only; omega))
      · by_cases hin : c ∈ out
        · have hst : rst t (out, c :: r) = (out, r) := by unfold rst; simp only; rw [if_pos (.inr hin)]
          repeat' (first | (refine pA (k := ?_)) | (refine g_exec ?_; first | (refine g_call ?_; refine x_callG true (k_l1Has out c aO) rfl rfl rfl aS rfl aH ?_; simp only [cl]) | (refine g_guard ?_; refine x_gsplit rfl rfl (fun h => ?_) (fun h => ?_) <;> (have h' := h; try simp only [sx] at h')) | (refine x_nil (hK _ _ aI ?_); clear hK K)) | (refine v_region (fun K hK => ?_)) | (refine v_condt rfl (fun h => ?_) (fun h => ?_) <;> (have h' := h; try simp only [sx] at h')))
          all_goals first
            | (exfalso; omega)
            | (exact absurd hin aA)
            | (refine q_next (k + 1, out, ol, o + 1, R, m - 1) rfl (by refine ⟨?_, ?_, rfl, rfl⟩ <;> (repeat' (first | exact trivial | exact ⟨rfl, rfl⟩ | exact rfl | exact ⟨sub_fn, refs_fn⟩ | refine ⟨⟨rfl, rfl⟩, ?_⟩ | refine ⟨⟨sub_fn, refs_fn⟩, ?_⟩ | refine ⟨⟨rfl, fun h => Bool.noConfusion h⟩, ?_⟩ | refine ⟨⟨rfl, fun h => ?_⟩, ?_⟩ | refine ⟨rfl, ?_⟩ | refine ⟨?_, ?_⟩ | fail))) ⟨by simp only; omega, by simp only; rw [hsk, hst], h3, by simp only; rw [hsk, hst, hdr], by simp only; omega⟩ (by simp only; omega))
        · have hst : rst t (out, c :: r) = (put out c, r ++ nears t c) := by unfold rst; simp only; rw [if_neg (fun h => h.elim hb0 hin)]
          have hpn : out[kPut out c]? ≠ some c := fun h => hin (get_mem h)
          have hnl := nears_len t c
          have hnl2 : (ints (nears t c)).length = (nears t c).length := by simp
          repeat' (first | (refine pA (k := ?_)) | (refine g_exec ?_; first | (refine g_call ?_; first | (refine x_callG true (k_l1Has out c aO) rfl rfl rfl aS rfl aH ?_; simp only [cl]) | (refine x_callG true (k_l1PutN out c aO hpn) rfl rfl rfl aS rfl aH ?_; simp only [cl]) | (refine x_callG true (k_l2Near t c hg hc) rfl rfl rfl aS rfl aH ?_; simp only [cl])) | (refine g_guard ?_; refine x_gsplit rfl rfl (fun h => ?_) (fun h => ?_) <;> (have h' := h; try simp only [sx] at h')) | (refine x_nil (hK _ _ aI ?_); clear hK K)) | (refine v_region (fun K hK => ?_)) | (refine v_condt rfl (fun h => ?_) (fun h => ?_) <;> (have h' := h; try simp only [sx] at h')))
          all_goals first
            | (exfalso; omega)
            | (exact absurd aA hin)
            | (refine q_next (k + 1, put out c, (ints (put out c)).length, 0, R.drop (o + 1) ++ ints (nears t c), m - 1 + (ints (nears t c)).length) rfl (by refine ⟨?_, ?_, rfl, rfl⟩ <;> (repeat' (first | exact trivial | exact ⟨rfl, rfl⟩ | exact rfl | exact ⟨sub_fn, refs_fn⟩ | refine ⟨⟨rfl, rfl⟩, ?_⟩ | refine ⟨⟨sub_fn, refs_fn⟩, ?_⟩ | refine ⟨⟨rfl, fun h => Bool.noConfusion h⟩, ?_⟩ | refine ⟨⟨rfl, fun h => ?_⟩, ?_⟩ | refine ⟨rfl, ?_⟩ | refine ⟨?_, ?_⟩ | fail))) ⟨by simp only; omega, by simp only; rw [hsk, hst], rfl, by simp only [List.drop_zero]; rw [hsk, hst, hdr]; simp [ints], by simp only [List.length_append, List.length_drop]; omega⟩ (by simp only; omega))
  · have hkN : k = N := by omega
    subst hkN
    rw [hN] at h4 hml
    simp at hml
    subst hml
    repeat' (first | (refine pA (k := ?_)) | (refine g_exec ?_; first | (refine g_guard ?_; refine x_gsplit rfl rfl (fun h => ?_) (fun h => ?_) <;> (have h' := h; try simp only [sx] at h')) | (refine x_nil (hK _ _ aI ?_); clear hK K)) | (refine v_region (fun K hK => ?_)) | (refine v_condt rfl (fun h => ?_) (fun h => ?_) <;> (have h' := h; try simp only [sx] at h')))
    all_goals first
      | (exfalso; omega)
      | exact ret_list rfl (lookE_ok (by rfl)) (by rfl) (by decide) hlu (ints_flat _) (by rw [h2])
end Go.Vs
set_option linter.unusedVariables false
set_option linter.unusedSimpArgs false
set_option maxRecDepth 100000
set_option maxHeartbeats 4000000
namespace Go.Vs
open Go.Proofs
attribute [local irreducible] exec vwp thenQ blkQ loopQ RetPost RetPostR
def badB (t : Terrain) (xs ys : List Int) (c : Int) : Bool := decide (burnAt t c = 0 ∨ c ∈ xs ∨ c ∈ ys)
theorem k_l9Line (t : Terrain) (xs ys ln : List Int) (hg : GoodT t) (hx : CelT t xs) (hl : CelT t ln) (hxl : xs.length ≤ 1000000) (hyl : ys.length ≤ 1000000) (hll : ln.length ≤ 1000000) : ∃ b, Con Try.prog 98 [.agg t.pv, .list 1 (ints xs), .list 1 (ints ys), .list 1 (ints ln)] (.bool b) := by
  obtain ⟨out, ho, hol, kR⟩ := k_l2Reach (clrT t ln) xs (clrT_good hg ln) (fun y hy => clrT_cell (hx y hy)) hxl
  have kC := k_l2Clear t ln hg hl hll
  have kM := k_l9Meet out ys aO hyl
  have hlen := goodT_len hg
  refine ⟨if ln.any (badB t xs ys) = true then false else !metB out ys, ?_⟩
  intro al
  refine contract_of hmix Try.func98 rfl (by kernel_rfl) (by kernel_rfl) (Nat.le_of_ble_eq_true rfl) (fun row h => by cases h) ?_
  have hty_u24 := ty_u24
  have hty_s24 := ty_s24
  have hty_f26_2 := ty_f26_2
  have hty_c24 := ty_c24
  have hty_c3 := ty_c3
  have hty_a26 := ty_a26
  have hl1 : (ints ln).length = ln.length := by simp
  have hl2 : (ints t.burn).length = t.burn.length := by simp
  repeat' (first | (refine g_exec ?_; refine x_buildSliceL (d := 66) aA rfl rfl rfl ?_) | (refine pA (k := ?_)) | (refine g_exec ?_; first | (refine g_guard ?_; refine x_gsplit rfl rfl (fun h => ?_) (fun h => ?_) <;> (have h' := h; try simp only [sx] at h')) | (refine x_nil (hK _ _ aI ?_); clear hK K)) | (refine v_region (fun K hK => ?_)) | (refine v_condt rfl (fun h => ?_) (fun h => ?_) <;> (have h' := h; try simp only [sx] at h')))
  refine v_loopK [1, 2, 3, 4] [] (fun i : Nat => [(9, .int .i64 i)]) (fun i : Nat => []) (fun i : Nat => i ≤ ln.length ∧ ∀ y ∈ ln.take i, badB t xs ys y = false) (fun i : Nat => ln.length - i) (0) rfl rfl (fun _ => rfl) (fun _ => rfl) rfl (by refine ⟨?_, ?_, rfl, rfl⟩ <;> (repeat' (first | exact trivial | exact ⟨rfl, rfl⟩ | exact rfl | exact ⟨sub_fn, refs_fn⟩ | refine ⟨⟨rfl, rfl⟩, ?_⟩ | refine ⟨⟨sub_fn, refs_fn⟩, ?_⟩ | refine ⟨⟨rfl, fun h => Bool.noConfusion h⟩, ?_⟩ | refine ⟨⟨rfl, fun h => ?_⟩, ?_⟩ | refine ⟨rfl, ?_⟩ | refine ⟨?_, ?_⟩ | fail))) ⟨by omega, fun y hy => by simp at hy⟩ (fun i hi => ?_)
  obtain ⟨hi1, hi2⟩ := hi
  rcases Nat.lt_or_ge i ln.length with hlt | hge
  · obtain ⟨a, hga⟩ := get_ex hlt
    have hg' := ints_at hga
    have hca := hl.at hga
    have hcc := hca
    unfold IsCell at hcc
    have hb := ints_at (burn_at hca)
    by_cases hin : burnAt t a = 0 ∨ a ∈ xs ∨ a ∈ ys
    · have hy := any_yes (p := badB t xs ys) hga (decide_eq_true hin)
      repeat' (first | (refine g_exec ?_; refine x_buildSliceL (d := 66) aA rfl rfl rfl ?_) | (refine pA (k := ?_)) | (refine g_exec ?_; first | (refine g_call ?_; first | (refine x_callG true (k_l1Has xs a aO) rfl rfl rfl aS rfl aH ?_; simp only [cl]) | (refine x_callG true (k_l1Has ys a aO) rfl rfl rfl aS rfl aH ?_; simp only [cl])) | (refine g_guard ?_; refine x_gsplit rfl rfl (fun h => ?_) (fun h => ?_) <;> (have h' := h; try simp only [sx] at h')) | (refine x_nil (hK _ _ aI ?_); clear hK K)) | (refine v_region (fun K hK => ?_)) | (refine v_condt rfl (fun h => ?_) (fun h => ?_) <;> (have h' := h; try simp only [sx] at h')))
      all_goals first
        | exact ret_bool rfl (lookE_ok rfl) (by rw [if_pos hy])
        | (exfalso; rcases hin with g | g | g <;> first | (exact absurd g aA) | omega)
    · have n1 : burnAt t a ≠ 0 := fun h => hin (.inl h)
      have n2 : a ∉ xs := fun h => hin (.inr (.inl h))
      have n3 : a ∉ ys := fun h => hin (.inr (.inr h))
      repeat' (first | (refine g_exec ?_; refine x_buildSliceL (d := 66) aA rfl rfl rfl ?_) | (refine pA (k := ?_)) | (refine g_exec ?_; first | (refine g_call ?_; first | (refine x_callG true (k_l1Has xs a aO) rfl rfl rfl aS rfl aH ?_; simp only [cl]) | (refine x_callG true (k_l1Has ys a aO) rfl rfl rfl aS rfl aH ?_; simp only [cl])) | (refine g_guard ?_; refine x_gsplit rfl rfl (fun h => ?_) (fun h => ?_) <;> (have h' := h; try simp only [sx] at h')) | (refine x_nil (hK _ _ aI ?_); clear hK K)) | (refine v_region (fun K hK => ?_)) | (refine v_condt rfl (fun h => ?_) (fun h => ?_) <;> (have h' := h; try simp only [sx] at h')))
      all_goals first
        | (exact absurd aA n2)
        | (exact absurd aA n3)
        | (exfalso; omega)
        | (refine q_next (i + 1) rfl (by refine ⟨?_, ?_, rfl, rfl⟩ <;> (repeat' (first | exact trivial | exact ⟨rfl, rfl⟩ | exact rfl | exact ⟨sub_fn, refs_fn⟩ | refine ⟨⟨rfl, rfl⟩, ?_⟩ | refine ⟨⟨sub_fn, refs_fn⟩, ?_⟩ | refine ⟨⟨rfl, fun h => Bool.noConfusion h⟩, ?_⟩ | refine ⟨⟨rfl, fun h => ?_⟩, ?_⟩ | refine ⟨rfl, ?_⟩ | refine ⟨?_, ?_⟩ | fail))) ⟨by omega, any_step hi2 hga (decide_eq_false hin)⟩ aO)
  · have hno := any_no hi2 hge
    repeat' (first | (refine g_exec ?_; refine x_buildSliceL (d := 66) aA rfl rfl rfl ?_) | (refine pA (k := ?_)) | (refine g_exec ?_; first | (refine g_call ?_; first | (refine x_callG true (kC) rfl rfl rfl aS rfl aH ?_; simp only [cl]) | (refine x_callG true (kR) rfl rfl rfl aS rfl aH ?_; simp only [cl]) | (refine x_callG true (kM) rfl rfl rfl aS rfl aH ?_; simp only [cl])) | (refine g_guard ?_; refine x_gsplit rfl rfl (fun h => ?_) (fun h => ?_) <;> (have h' := h; try simp only [sx] at h')) | (refine x_nil (hK _ _ aI ?_); clear hK K)) | (refine v_region (fun K hK => ?_)) | (refine v_condt rfl (fun h => ?_) (fun h => ?_) <;> (have h' := h; try simp only [sx] at h')))
    exact ret_bool rfl (lookE_ok rfl) (by rw [if_neg (by rw [hno]; exact Bool.false_ne_true)])
def FstP (t : Terrain) (xs ys bg : List Int) (N : Nat) (r : List Int) (b : Bool) : Prop :=
  ContractP Try.prog 93 true [.agg t.pv, .list 1 (ints xs), .list 1 (ints ys), .list 1 (ints bg), .int .i64 N] [] (Ret (.tuple [.list 1 (ints r), .bool b]))
theorem ex_least {P : Nat → Prop} (n : Nat) : ∃ k, k ≤ n ∧ (k = n ∨ P k) ∧ ∀ j, j < k → ¬ P j := by
  induction n with
  | zero => exact ⟨0, Nat.le_refl _, .inl rfl, fun j h => by omega⟩
  | succ n ih =>
    obtain ⟨k, h1, h2, h3⟩ := ih
    by_cases hk : P k
    · exact ⟨k, by omega, .inr hk, h3⟩
    · rcases h2 with h2 | h2
      · subst h2
        exact ⟨k + 1, Nat.le_refl _, .inl rfl, fun j hj => by
          by_cases hjk : j = k
          · subst hjk; exact hk
          · exact h3 j aO⟩
      · exact absurd h2 hk
theorem k_l9First (t : Terrain) (xs ys : List Int) (hg : GoodT t) (hx : CelT t xs) (hy : CelT t ys) (hxl : xs.length ≤ 1000000) (hyl : ys.length ≤ 1000000) (N : Nat) (hN : N ≤ 1000) : ∀ (d : Nat) (bg : List Int), CelT t bg → bg.length + d = N →
    ∃ r b, r.length ≤ N ∧ CelT t r ∧ FstP t xs ys bg N r b := by
  have hlen := goodT_len hg
  have hl2 : (ints t.burn).length = t.burn.length := by simp
  intro d
  induction d with
  | zero =>
    intro bg hbg hd
    obtain ⟨b, kL⟩ := k_l9Line t xs ys bg hg hx hbg hxl hyl aO
    refine ⟨bg, b, by omega, hbg, ?_⟩
    unfold FstP
    have hl1 : (ints bg).length = bg.length := by simp
    refine contract_of hmix Try.func93 rfl (by kernel_rfl) (by kernel_rfl) (Nat.le_of_ble_eq_true rfl) (fun row h => by cases h) ?_
    have hty_u24 := ty_u24
    have hty_s24 := ty_s24
    have hty_a26 := ty_a26
    have hty_c3 := ty_c3
    have hty_f26_2 := ty_f26_2
    have hty_c24 := ty_c24
    repeat' (first | (refine g_exec ?_; refine x_buildSliceL (d := 66) aA rfl rfl rfl ?_) | (refine pA (k := ?_)) | (refine g_exec ?_; first | (refine g_call ?_; refine x_callG true (kL) rfl rfl rfl aS rfl aH ?_; simp only [cl]) | (refine x_nil (hK _ _ aI ?_); clear hK K)) | (refine v_region (fun K hK => ?_)) | (refine v_condt rfl (fun h => ?_) (fun h => ?_) <;> (have h' := h; try simp only [sx] at h')))
    all_goals first
      | (exfalso; omega)
      | exact ret_lstb rfl (lookE_ok rfl) (lookE_ok rfl) rfl rfl
  | succ d ih =>
    intro bg hbg hd
    have hl1 : (ints bg).length = bg.length := by simp
    obtain ⟨fr, hfr⟩ : ∃ fr : Nat, fr ≤ t.burn.length ∧ ((bg = [] ∧ fr = 0) ∨ ∃ a, bg[bg.length - 1]? = some a ∧ 0 < bg.length ∧ (fr : Int) = a + 1) := by
      cases hb : bg with
      | nil => exact ⟨0, by omega, .inl ⟨rfl, rfl⟩⟩
      | cons b0 rest =>
        rw [← hb]
        obtain ⟨a, ha⟩ := get_ex (show bg.length - 1 < bg.length by rw [hb]; simp)
        have hc := hbg.at ha
        unfold IsCell at hc
        exact ⟨(a + 1).toNat, by omega, .inr ⟨a, ha, by rw [hb]; simp, by omega⟩⟩
    obtain ⟨hfr1, hfr2⟩ := hfr
    have hnext : ∀ i : Nat, i < t.burn.length → (∃ r, r.length ≤ N ∧ CelT t r ∧ FstP t xs ys (bg ++ [(i : Int)]) N r true) ∨ ∃ r, FstP t xs ys (bg ++ [(i : Int)]) N r false := by
      intro i hi
      obtain ⟨r, b, h1, h2, h3⟩ := ih (bg ++ [(i : Int)]) (fun y hy => by
        rcases List.mem_append.1 hy with h | h
        · exact hbg y h
        · simp at h; rw [h]; exact ⟨by omega, by omega⟩) (by simp; omega)
      cases b with
      | true => exact .inl ⟨r, h1, h2, h3⟩
      | false => exact .inr ⟨r, h3⟩
    obtain ⟨i0, hi0, hat, hbef⟩ := ex_least (P := fun i => fr ≤ i ∧ freB t xs ys i = true ∧ ∃ r, r.length ≤ N ∧ CelT t r ∧ FstP t xs ys (bg ++ [(i : Int)]) N r true) t.burn.length
    have hbad : ∀ i : Nat, i < i0 → fr ≤ i → freB t xs ys i = true → ∃ r, FstP t xs ys (bg ++ [(i : Int)]) N r false := by
      intro i hi h1 h2
      rcases hnext i aO with h | h
      · exact absurd ⟨h1, h2, h⟩ (hbef i hi)
      · exact h
    obtain ⟨r0, b0, hr1, hr2, hr3⟩ : ∃ (r0 : List Int) (b0 : Bool), r0.length ≤ N ∧ CelT t r0 ∧ ((i0 = t.burn.length ∧ r0 = [] ∧ b0 = false) ∨ (i0 < t.burn.length ∧ b0 = true ∧ fr ≤ i0 ∧ freB t xs ys i0 = true ∧ FstP t xs ys (bg ++ [(i0 : Int)]) N r0 true)) := by
      by_cases he : i0 = t.burn.length
      · exact ⟨[], false, by simp, fun y hy => by simp at hy, .inl ⟨he, rfl, rfl⟩⟩
      · rcases hat with h | ⟨h1, h2, r, h3, h4, h5⟩
        · exact absurd h he
        · exact ⟨r, true, h3, h4, .inr ⟨by omega, rfl, h1, h2, h5⟩⟩
    refine ⟨r0, b0, hr1, hr2, ?_⟩
    unfold FstP
    refine contract_of hmix Try.func93 rfl (by kernel_rfl) (by kernel_rfl) (Nat.le_of_ble_eq_true rfl) (fun row h => by cases h) ?_
    have hty_u24 := ty_u24
    have hty_s24 := ty_s24
    have hty_a26 := ty_a26
    have hty_c3 := ty_c3
    have hty_f26_2 := ty_f26_2
    have hty_c24 := ty_c24
    have hfi : fr ≤ i0 := by rcases hat with h | h <;> omega
    rcases hfr2 with ⟨hb0, rfl⟩ | ⟨a, ha, hbp, hfa⟩
    · have hbl0 : bg.length = 0 := by rw [hb0]; rfl
      repeat' (first | (refine g_exec ?_; refine x_buildSliceL (d := 66) aA rfl rfl rfl ?_) | (refine pA (k := ?_)) | (refine g_exec ?_; refine x_nil (hK _ _ aI ?_); clear hK K) | (refine v_region (fun K hK => ?_)) | (refine v_condt rfl (fun h => ?_) (fun h => ?_) <;> (have h' := h; try simp only [sx] at h')))
      all_goals try (exfalso; omega)
      refine v_loopK [1, 2, 3, 4, 5] [] (fun i : Nat => [(14, .int .i64 i)]) (fun i : Nat => []) (fun i : Nat => i ≤ i0) (fun i : Nat => i0 - i) (0) rfl rfl (fun _ => rfl) (fun _ => rfl) rfl (by refine ⟨?_, ?_, rfl, rfl⟩ <;> (repeat' (first | exact trivial | exact ⟨rfl, rfl⟩ | exact rfl | exact ⟨sub_fn, refs_fn⟩ | refine ⟨⟨rfl, rfl⟩, ?_⟩ | refine ⟨⟨sub_fn, refs_fn⟩, ?_⟩ | refine ⟨⟨rfl, fun h => Bool.noConfusion h⟩, ?_⟩ | refine ⟨⟨rfl, fun h => ?_⟩, ?_⟩ | refine ⟨rfl, ?_⟩ | refine ⟨?_, ?_⟩ | fail))) aO (fun i hi => ?_)
      rcases Nat.lt_or_ge i i0 with hlt | hge
      · have hca : IsCell t (i : Int) := ⟨by omega, by omega⟩
        have kF := k_l9Free t xs ys i hg hca hxl hyl
        cases hf : freB t xs ys i with
        | false =>
          rw [hf] at kF
          repeat' (first | (refine g_exec ?_; refine x_buildSliceL (d := 66) aA rfl rfl rfl ?_) | (refine pA (k := ?_)) | (refine g_exec ?_; first | (refine g_call ?_; refine x_callG true (kF) rfl rfl rfl aS rfl aH ?_; simp only [cl]) | (refine x_nil (hK _ _ aI ?_); clear hK K)) | (refine v_region (fun K hK => ?_)) | (refine v_condt rfl (fun h => ?_) (fun h => ?_) <;> (have h' := h; try simp only [sx] at h')))
          all_goals first
            | (exfalso; omega)
            | (refine q_next (i + 1) rfl (by refine ⟨?_, ?_, rfl, rfl⟩ <;> (repeat' (first | exact trivial | exact ⟨rfl, rfl⟩ | exact rfl | exact ⟨sub_fn, refs_fn⟩ | refine ⟨⟨rfl, rfl⟩, ?_⟩ | refine ⟨⟨sub_fn, refs_fn⟩, ?_⟩ | refine ⟨⟨rfl, fun h => Bool.noConfusion h⟩, ?_⟩ | refine ⟨⟨rfl, fun h => ?_⟩, ?_⟩ | refine ⟨rfl, ?_⟩ | refine ⟨?_, ?_⟩ | fail))) aO aO)
        | true =>
          rw [hf] at kF
          obtain ⟨r, kB⟩ := hbad i hlt aO hf
          unfold FstP at kB
          rw [ints_snoc] at kB
          have kO := k_l1OwnF bg aO
          repeat' (first | (refine g_exec ?_; refine x_buildSliceL (d := 66) aA rfl rfl rfl ?_) | (refine pA (k := ?_)) | (refine g_exec ?_; first | (refine g_call ?_; first | (refine x_callG true (kF) rfl rfl rfl aS rfl aH ?_; simp only [cl]) | (refine x_callG true (kO) rfl rfl rfl aS rfl aH ?_; simp only [cl]) | (refine x_callA true (kB) rfl rfl rfl rfl rfl aS rfl aH ?_; simp only [cl])) | (refine x_nil (hK _ _ aI ?_); clear hK K)) | (refine v_region (fun K hK => ?_)) | (refine v_condt rfl (fun h => ?_) (fun h => ?_) <;> (have h' := h; try simp only [sx] at h')))
          all_goals first
            | (exfalso; omega)
            | (refine q_next (i + 1) rfl (by refine ⟨?_, ?_, rfl, rfl⟩ <;> (repeat' (first | exact trivial | exact ⟨rfl, rfl⟩ | exact rfl | exact ⟨sub_fn, refs_fn⟩ | refine ⟨⟨rfl, rfl⟩, ?_⟩ | refine ⟨⟨sub_fn, refs_fn⟩, ?_⟩ | refine ⟨⟨rfl, fun h => Bool.noConfusion h⟩, ?_⟩ | refine ⟨⟨rfl, fun h => ?_⟩, ?_⟩ | refine ⟨rfl, ?_⟩ | refine ⟨?_, ?_⟩ | fail))) aO aO)
      · have : i = i0 := by omega
        subst this
        rcases hr3 with ⟨g1, rfl, rfl⟩ | ⟨g1, rfl, g2, g3, kG⟩
        · repeat' (first | (refine g_exec ?_; refine x_buildSliceL (d := 66) aA rfl rfl rfl ?_) | (refine pA (k := ?_)) | (refine g_exec ?_; refine x_nil (hK _ _ aI ?_); clear hK K) | (refine v_region (fun K hK => ?_)) | (refine v_condt rfl (fun h => ?_) (fun h => ?_) <;> (have h' := h; try simp only [sx] at h')))
          all_goals first
            | (exfalso; omega)
            | exact ret_lstb rfl (lookE_ok rfl) (lookE_ok rfl) rfl rfl
        · have hca : IsCell t (i : Int) := ⟨by omega, by omega⟩
          have kF := k_l9Free t xs ys i hg hca hxl hyl
          rw [g3] at kF
          unfold FstP at kG
          rw [ints_snoc] at kG
          have kO := k_l1OwnF bg aO
          repeat' (first | (refine g_exec ?_; refine x_buildSliceL (d := 66) aA rfl rfl rfl ?_) | (refine pA (k := ?_)) | (refine g_exec ?_; first | (refine g_call ?_; first | (refine x_callG true (kF) rfl rfl rfl aS rfl aH ?_; simp only [cl]) | (refine x_callG true (kO) rfl rfl rfl aS rfl aH ?_; simp only [cl]) | (refine x_callA true (kG) rfl rfl rfl rfl rfl aS rfl aH ?_; simp only [cl])) | (refine x_nil (hK _ _ aI ?_); clear hK K)) | (refine v_region (fun K hK => ?_)) | (refine v_condt rfl (fun h => ?_) (fun h => ?_) <;> (have h' := h; try simp only [sx] at h')))
          all_goals first
            | (exfalso; omega)
            | exact ret_lstb rfl (lookE_ok rfl) (lookE_ok rfl) rfl rfl
    · have hai : (ints bg)[(((ints bg).length : Int) - 1).toNat]? = some [.int .i64 a] := by
        rw [show (((ints bg).length : Int) - 1).toNat = bg.length - 1 by omega]
        exact ints_at ha
      have hac := hbg.at ha
      unfold IsCell at hac
      repeat' (first | (refine g_exec ?_; refine x_buildSliceL (d := 66) aA rfl rfl rfl ?_) | (refine pA (k := ?_)) | (refine g_exec ?_; refine x_nil (hK _ _ aI ?_); clear hK K) | (refine v_region (fun K hK => ?_)) | (refine v_condt rfl (fun h => ?_) (fun h => ?_) <;> (have h' := h; try simp only [sx] at h')))
      all_goals try (exfalso; omega)
      refine v_loopK [1, 2, 3, 4, 5] [] (fun i : Int => [(14, .int .i64 i)]) (fun i : Int => []) (fun i : Int => (fr : Int) ≤ i ∧ i ≤ i0) (fun i : Int => ((i0 : Int) - i).toNat) ((a + 1)) rfl rfl (fun _ => rfl) (fun _ => rfl) rfl (by refine ⟨?_, ?_, rfl, rfl⟩ <;> (repeat' (first | exact trivial | exact ⟨rfl, rfl⟩ | exact rfl | exact ⟨sub_fn, refs_fn⟩ | refine ⟨⟨rfl, rfl⟩, ?_⟩ | refine ⟨⟨sub_fn, refs_fn⟩, ?_⟩ | refine ⟨⟨rfl, fun h => Bool.noConfusion h⟩, ?_⟩ | refine ⟨⟨rfl, fun h => ?_⟩, ?_⟩ | refine ⟨rfl, ?_⟩ | refine ⟨?_, ?_⟩ | fail))) aO (fun i hi => ?_)
      obtain ⟨i', hi'⟩ : ∃ k : Nat, i = (k : Int) := ⟨i.toNat, by omega⟩
      subst hi'
      rename Nat => i
      rcases Nat.lt_or_ge i i0 with hlt | hge
      · have hca : IsCell t (i : Int) := ⟨by omega, by omega⟩
        have kF := k_l9Free t xs ys i hg hca hxl hyl
        cases hf : freB t xs ys i with
        | false =>
          rw [hf] at kF
          repeat' (first | (refine g_exec ?_; refine x_buildSliceL (d := 66) aA rfl rfl rfl ?_) | (refine pA (k := ?_)) | (refine g_exec ?_; first | (refine g_call ?_; refine x_callG true (kF) rfl rfl rfl aS rfl aH ?_; simp only [cl]) | (refine x_nil (hK _ _ aI ?_); clear hK K)) | (refine v_region (fun K hK => ?_)) | (refine v_condt rfl (fun h => ?_) (fun h => ?_) <;> (have h' := h; try simp only [sx] at h')))
          all_goals first
            | (exfalso; omega)
            | (refine q_next ((i : Int) + 1) rfl (by refine ⟨?_, ?_, rfl, rfl⟩ <;> (repeat' (first | exact trivial | exact ⟨rfl, rfl⟩ | exact rfl | exact ⟨sub_fn, refs_fn⟩ | refine ⟨⟨rfl, rfl⟩, ?_⟩ | refine ⟨⟨sub_fn, refs_fn⟩, ?_⟩ | refine ⟨⟨rfl, fun h => Bool.noConfusion h⟩, ?_⟩ | refine ⟨⟨rfl, fun h => ?_⟩, ?_⟩ | refine ⟨rfl, ?_⟩ | refine ⟨?_, ?_⟩ | fail))) aO aO)
        | true =>
          rw [hf] at kF
          obtain ⟨r, kB⟩ := hbad i hlt aO hf
          unfold FstP at kB
          rw [ints_snoc] at kB
          have kO := k_l1OwnF bg aO
          repeat' (first | (refine g_exec ?_; refine x_buildSliceL (d := 66) aA rfl rfl rfl ?_) | (refine pA (k := ?_)) | (refine g_exec ?_; first | (refine g_call ?_; first | (refine x_callG true (kF) rfl rfl rfl aS rfl aH ?_; simp only [cl]) | (refine x_callG true (kO) rfl rfl rfl aS rfl aH ?_; simp only [cl]) | (refine x_callA true (kB) rfl rfl rfl rfl rfl aS rfl aH ?_; simp only [cl])) | (refine x_nil (hK _ _ aI ?_); clear hK K)) | (refine v_region (fun K hK => ?_)) | (refine v_condt rfl (fun h => ?_) (fun h => ?_) <;> (have h' := h; try simp only [sx] at h')))
          all_goals first
            | (exfalso; omega)
            | (refine q_next ((i : Int) + 1) rfl (by refine ⟨?_, ?_, rfl, rfl⟩ <;> (repeat' (first | exact trivial | exact ⟨rfl, rfl⟩ | exact rfl | exact ⟨sub_fn, refs_fn⟩ | refine ⟨⟨rfl, rfl⟩, ?_⟩ | refine ⟨⟨sub_fn, refs_fn⟩, ?_⟩ | refine ⟨⟨rfl, fun h => Bool.noConfusion h⟩, ?_⟩ | refine ⟨⟨rfl, fun h => ?_⟩, ?_⟩ | refine ⟨rfl, ?_⟩ | refine ⟨?_, ?_⟩ | fail))) aO aO)
      · have : i = i0 := by omega
        subst this
        rcases hr3 with ⟨g1, rfl, rfl⟩ | ⟨g1, rfl, g2, g3, kG⟩
        · repeat' (first | (refine g_exec ?_; refine x_buildSliceL (d := 66) aA rfl rfl rfl ?_) | (refine pA (k := ?_)) | (refine g_exec ?_; refine x_nil (hK _ _ aI ?_); clear hK K) | (refine v_region (fun K hK => ?_)) | (refine v_condt rfl (fun h => ?_) (fun h => ?_) <;> (have h' := h; try simp only [sx] at h')))
          all_goals first
            | (exfalso; omega)
            | exact ret_lstb rfl (lookE_ok rfl) (lookE_ok rfl) rfl rfl
        · have hca : IsCell t (i : Int) := ⟨by omega, by omega⟩
          have kF := k_l9Free t xs ys i hg hca hxl hyl
          rw [g3] at kF
          unfold FstP at kG
          rw [ints_snoc] at kG
          have kO := k_l1OwnF bg aO
          repeat' (first | (refine g_exec ?_; refine x_buildSliceL (d := 66) aA rfl rfl rfl ?_) | (refine pA (k := ?_)) | (refine g_exec ?_; first | (refine g_call ?_; first | (refine x_callG true (kF) rfl rfl rfl aS rfl aH ?_; simp only [cl]) | (refine x_callG true (kO) rfl rfl rfl aS rfl aH ?_; simp only [cl]) | (refine x_callA true (kG) rfl rfl rfl rfl rfl aS rfl aH ?_; simp only [cl])) | (refine x_nil (hK _ _ aI ?_); clear hK K)) | (refine v_region (fun K hK => ?_)) | (refine v_condt rfl (fun h => ?_) (fun h => ?_) <;> (have h' := h; try simp only [sx] at h')))
          all_goals first
            | (exfalso; omega)
            | exact ret_lstb rfl (lookE_ok rfl) (lookE_ok rfl) rfl rfl
end Go.Vs
set_option linter.unusedVariables false
set_option linter.unusedSimpArgs false
set_option linter.unusedSectionVars false
set_option maxRecDepth 100000
set_option maxHeartbeats 4000000
namespace Go.Vs
open Go.Proofs
attribute [local irreducible] exec vwp thenQ blkQ loopQ RetPost
section
variable [fl : Inhabited FlrT] {ops : Array Oper} {rest : List Oper} {env : List (Nat × PV)} {mem : List (Id × Option Row)} {tr : List (List Id × List Id)} {K : St → List (List Id × List Id) → Prop}
  {d : Nat} {ty : TypeId} {pos : String} {af : Array Edge}
theorem x_caps {f : Operand} {args : List Operand} {ats : Array TypeId} {fi ca : List PV} (hok : ∀ (w0 : World) X, FlOk w0 X → ∀ b, (w0.heap.size ≤ b ∨ ∃ z, some (b, z) ∈ X) → flW b) (t : Terrain) (xs ys : List Int) (hg : GoodT t) (hx : CelT t xs) (hy : CelT t ys) (hxl : xs.length ≤ 1000000) (hyl : ys.length ≤ 1000000) (N : Nat) (hN : N = 2 * t.burn.length + 2)
    (hf : ev (getE env) f = .fn 96 fi ca) (hxs : fi ++ args.map (ev (getE env)) ++ ca = [.agg t.pv, .list 1 (ints xs), .list 1 (ints ys)]) (hd0 : Nat.beq d io = false)
    (hk : ∀ qs : List Plc, qs.length = N → Apt qs → (∀ q ∈ qs, ∀ b, inQ q b → flN ≤ b ∧ flW b) → exec Try.prog ops false rest ⟨[(d, .osl (d, 0) 0 N)], [((d, 0), some ⟨24, 1, rowM 3 qs (capM t xs ys N t.burn.length), false⟩)]⟩ (([], []) :: tr) K) :
    exec Try.prog ops false (⟨some d, .call ⟨.value f, args.toArray, ats⟩, ty, pos, af, none⟩ :: rest) ⟨env, mem⟩ tr K :=
  x_big _ rfl (big_caps hok t xs ys hg hx hy hxl hyl N hN rfl rfl hf rfl (by simpa using hxs) (fun e => by rw [e] at hd0; simp at hd0)) rfl fun st' ⟨qs, h1, h2, h3, e⟩ => by rw [e]; exact hk qs h1 h2 h3
theorem x_pushN {f : Operand} {args : List Operand} {ats : Array TypeId} {fi ca : List PV} {id : Id} (env' : List (Nat × PV)) (hok : ∀ (w0 : World) X, FlOk w0 X → ∀ b, (w0.heap.size ≤ b ∨ ∃ z, some (b, z) ∈ X) → flW b) (n : Nat) (hn : 2 ≤ n) (hn2 : n ≤ 1000) (M : Mtx) (hD : Dim n M) (hD2 : canP M n = true → Dim n (pshM M n)) (qs : List Plc) (hl : qs.length = n) (hA : Apt qs) (hw : ∀ x ∈ qs, ∀ b, inQ x b → flN ≤ b ∧ flW b)
    (b : Bool) (hb : canP M n = b) (M2 : Mtx) (hM2 : (if b = true then pshM M n else M) = M2) (hid0 : id.1 ≠ io)
    (hf : ev (getE env) f = .fn 97 fi ca) (hxs : fi ++ args.map (ev (getE env)) ++ ca = [.osl id 0 n])
    (hm : getM mem id = some (some ⟨24, 1, rowM 3 qs M, false⟩)) (henv : allL (fun p : Nat × PV => getE env p.1 = p.2 ∧ (p.2.flat = true ∨ p.2 = .osl id 0 n)) env')
    (hk : ∀ ps : List Plc, ps.length = n → Apt ps → (∀ q ∈ ps, ∀ b, inQ q b → flN ≤ b ∧ flW b) → exec Try.prog ops false rest ⟨(d, .bool b) :: env', [(id, some ⟨24, 1, rowM 3 ps M2, false⟩)]⟩ (([], []) :: tr) K) :
    exec Try.prog ops false (⟨some d, .call ⟨.value f, args.toArray, ats⟩, ty, pos, af, none⟩ :: rest) ⟨env, mem⟩ tr K := by
  subst hM2
  subst hb
  exact x_big _ rfl (big_push hok n hn hn2 M hD hD2 qs hl hA hw rfl rfl hf rfl (by simpa using hxs) hid0 hm henv) rfl fun st' ⟨qs, h1, h2, h3, e⟩ => by rw [e]; exact hk qs h1 h2 h3
end
theorem ways_at [fl : Inhabited FlrT] {al : Bool} (hok : ∀ (w0 : World) X, FlOk w0 X → ∀ b, (w0.heap.size ≤ b ∨ ∃ z, some (b, z) ∈ X) → flW b) (t : Terrain) (xs ys : List Int) (hg : GoodT t) (hx : CelT t xs) (hy : CelT t ys) (hxl : xs.length ≤ 1000000) (hyl : ys.length ≤ 1000000) (n : Nat) (hn : n = 2 * t.burn.length + 2)
    (W : Nat) (hW1 : W ≤ n) (hW2 : canP (wys (capM t xs ys n t.burn.length) n W) n = false) (hW3 : ∀ k, k < W → canP (wys (capM t xs ys n t.burn.length) n k) n = true)
    {G : Nat → Prop} {w : World} {X : List (Option (Nat × Nat))} {ρ : Id → Option (Nat × Nat)} {cargs : Array Value}
    (hF : FlOk w X) (hW : WRel G ρ w X (ioMem []) w) (hC : Comps ρ w (Stab G ρ (ioMem []) w) (ioMem []) cargs [.agg t.pv, .list 1 (ints xs), .list 1 (ints ys)]) :
    Calls Try.prog 92 cargs w fun e w' => ∃ v r fin, e = .returned v ∧ Ret (.int .i64 (W : Nat)) r fin ∧ fin.length = ([] : List Row).length ∧
      (∀ (k : Nat) row f, ([] : List Row)[k]? = some row → fin[k]? = some f → f.length = row.es.length ∧ (row.bx = true → f = row.es)) ∧ ∀ t, t ≠ io → ∃ ρ', RetOk G al w X w' v r [] fin t ρ' := by
  refine contract_at hmix Try.func92 rfl (by kernel_rfl) (Nat.le_of_ble_eq_true rfl) (fun row h => by cases h) ?_ hF hW hC
  have hty_a26 := ty_a26
  have hty_u24 := ty_u24
  have hty_s24 := ty_s24
  have hty_u104 := ty_u104
  have hty_s104 := ty_s104
  have hlen := goodT_len hg
  have hZ := capM_zo (xs := xs) (ys := ys) hn t.burn.length (Nat.le_refl _)
  have hS := hZ.src aO
  generalize hM0 : capM t xs ys n t.burn.length = M0 at *
  have hsrc : ∀ k, k ≤ W → SrcM n (wys M0 n k) := fun k hk => (wys_src aO hS k fun t' ht => hW3 t' aO).1
  repeat' (first | (refine pA (k := ?_)) | (refine g_exec ?_; first | (refine g_call ?_; refine x_caps hok t xs ys hg hx hy hxl hyl n hn rfl rfl rfl (fun qs_ hl_ ha_ hw_ => ?_)) | (refine x_nil (hK _ _ aI ?_); clear hK K)) | (refine v_region (fun K hK => ?_)) | (refine v_condt rfl (fun h => ?_) (fun h => ?_) <;> (have h' := h; try simp only [sx] at h')))
  rw [hM0]
  repeat' (first | (refine pA (k := ?_)) | (refine g_exec ?_; refine x_nil (hK _ _ aI ?_); clear hK K) | (refine v_region (fun K hK => ?_)) | (refine v_condt rfl (fun h => ?_) (fun h => ?_) <;> (have h' := h; try simp only [sx] at h')))
  refine v_loopK [7] [(12, 0)] (fun q : Nat × List Plc => [(8, .int .i64 q.1)]) (fun q : Nat × List Plc => [((12, 0), some ⟨24, 1, rowM 3 q.2 (wys M0 n q.1), false⟩)]) (fun q : Nat × List Plc => q.1 ≤ W ∧ q.2.length = n ∧ Apt q.2 ∧ ∀ x ∈ q.2, ∀ b, inQ x b → flN ≤ b ∧ flW b) (fun q : Nat × List Plc => W - q.1) ((0, qs_)) rfl rfl (fun _ => rfl) (fun _ => rfl) rfl (by refine ⟨?_, ?_, rfl, rfl⟩ <;> (repeat' (first | exact trivial | exact ⟨rfl, rfl⟩ | exact rfl | exact ⟨sub_fn, refs_fn⟩ | refine ⟨⟨rfl, rfl⟩, ?_⟩ | refine ⟨⟨sub_fn, refs_fn⟩, ?_⟩ | refine ⟨⟨rfl, fun h => Bool.noConfusion h⟩, ?_⟩ | refine ⟨⟨rfl, fun h => ?_⟩, ?_⟩ | refine ⟨rfl, ?_⟩ | refine ⟨?_, ?_⟩ | fail))) ⟨by simp, hl_, ha_, hw_⟩ (fun q hq => ?_)
  obtain ⟨k, ps⟩ := q
  obtain ⟨g1, g2, g3, g4⟩ := hq
  simp only at g1 g2 g3 g4
  have hs := hsrc k g1
  have hpD : canP (wys M0 n k) n = true → Dim n (pshM (wys M0 n k) n) := fun h => (hs.push aO h).1.1
  dsimp only
  rcases Nat.lt_or_ge k W with hlt | hge
  · repeat' (first | (refine pA (k := ?_)) | (refine g_exec ?_; first | (refine g_call ?_; refine x_pushN (id := (12, 0)) [(7, .osl (12, 0) 0 n), (8, .int .i64 (k : Nat))] hok n aO aO (wys M0 n k) hs.1 hpD ps g2 g3 g4 true (hW3 k hlt) (wys M0 n (k + 1)) rfl (by decide) rfl rfl rfl ⟨⟨rfl, .inr rfl⟩, ⟨rfl, .inl rfl⟩, trivial⟩ (fun ps_ hl2_ ha2_ hw2_ => ?_)) | (refine x_nil (hK _ _ aI ?_); clear hK K)) | (refine v_region (fun K hK => ?_)) | (refine v_condt rfl (fun h => ?_) (fun h => ?_) <;> (have h' := h; try simp only [sx] at h')))
    all_goals try (exfalso; omega)
    all_goals (refine q_next (k + 1, ps_) rfl (by refine ⟨?_, ?_, rfl, rfl⟩ <;> (repeat' (first | exact trivial | exact ⟨rfl, rfl⟩ | exact rfl | exact ⟨sub_fn, refs_fn⟩ | refine ⟨⟨rfl, rfl⟩, ?_⟩ | refine ⟨⟨sub_fn, refs_fn⟩, ?_⟩ | refine ⟨⟨rfl, fun h => Bool.noConfusion h⟩, ?_⟩ | refine ⟨⟨rfl, fun h => ?_⟩, ?_⟩ | refine ⟨rfl, ?_⟩ | refine ⟨?_, ?_⟩ | fail))) ⟨by simp only; omega, hl2_, ha2_, hw2_⟩ (by simp only; omega))
  · have hkW : k = W := by omega
    subst hkW
    repeat' (first | (refine pA (k := ?_)) | (refine g_exec ?_; first | (refine g_call ?_; refine x_pushN (id := (12, 0)) [(7, .osl (12, 0) 0 n), (8, .int .i64 (k : Nat))] hok n aO aO (wys M0 n k) hs.1 hpD ps g2 g3 g4 false hW2 (wys M0 n k) rfl (by decide) rfl rfl rfl ⟨⟨rfl, .inr rfl⟩, ⟨rfl, .inl rfl⟩, trivial⟩ (fun ps_ hl2_ ha2_ hw2_ => ?_)) | (refine x_nil (hK _ _ aI ?_); clear hK K)) | (refine v_region (fun K hK => ?_)) | (refine v_condt rfl (fun h => ?_) (fun h => ?_) <;> (have h' := h; try simp only [sx] at h')))
    all_goals try (exfalso; omega)
    exact ret_int rfl (lookE_ok rfl) rfl
theorem k_l9Ways (t : Terrain) (xs ys : List Int) (hg : GoodT t) (hx : CelT t xs) (hy : CelT t ys) (hxl : xs.length ≤ 1000000) (hyl : ys.length ≤ 1000000) : ∃ W : Nat, W ≤ 60 ∧ Con Try.prog 92 [.agg t.pv, .list 1 (ints xs), .list 1 (ints ys)] (.int .i64 (W : Nat)) := by
  have hlen := goodT_len hg
  obtain ⟨n, hn⟩ : ∃ n, n = 2 * t.burn.length + 2 := ⟨_, rfl⟩
  obtain ⟨W, h1, h2, h3⟩ := wys_ex (M := capM t xs ys n t.burn.length) (n := n) aO ((capM_zo hn _ (Nat.le_refl _)).src aO)
  refine ⟨W, by omega, fun al => ⟨⟨_, Try.func92, by kernel_rfl, rfl⟩, fun G w X ρ cargs hW _ hC => ?_⟩⟩
  exact ways_at (fl := ⟨⟨0, fun b => w.heap.size ≤ b ∨ ∃ z, some (b, z) ∈ X, fun w0 X' => ∀ b, (w0.heap.size ≤ b ∨ ∃ z, some (b, z) ∈ X') → (w.heap.size ≤ b ∨ ∃ z, some (b, z) ∈ X)⟩⟩) (fun w0 X' h => h.2.2.2) t xs ys hg hx hy hxl hyl n hn W h1 h2 h3 ⟨Nat.zero_le _, fun b h => h, fun _ _ _ => Nat.zero_le _, fun b h => h⟩ hW hC
end Go.Vs
set_option linter.unusedVariables false
set_option linter.unusedSimpArgs false
set_option linter.unusedSectionVars false
set_option maxRecDepth 100000
set_option maxHeartbeats 4000000
namespace Go.Vs
open Go.Proofs
attribute [local irreducible] exec vwp thenQ blkQ loopQ RetPost
theorem k_BestLine (t : Terrain) (xs ys : List Int) (hn : t.burn.length ≤ 1000) (hxl : xs.length ≤ 1000000) (hyl : ys.length ≤ 1000000) :
    ∃ r b, r.length ≤ 3 ∧ ContractP Try.prog 83 true [.agg t.pv, .list 1 (ints xs), .list 1 (ints ys)] [] (Ret (.tuple [.list 1 (ints r), .bool b])) := by
  have kA := k_l9Asked t xs ys aO hxl hyl
  by_cases hA : AskL t xs ys
  · rw [decide_eq_true hA] at kA
    obtain ⟨hg, hx, _, hy, _, _⟩ := hA
    have kO := k_l9Open t xs ys hg hx hxl hyl
    cases ho : opnB t xs ys with
    | true =>
      rw [ho] at kO
      refine ⟨[], false, by simp, ?_⟩
      refine contract_of hmix Try.func83 rfl (by kernel_rfl) (by kernel_rfl) (Nat.le_of_ble_eq_true rfl) (fun row h => by cases h) ?_
      have hty_a26 := ty_a26
      have hty_u24 := ty_u24
      have hty_s24 := ty_s24
      repeat' (first | (refine g_exec ?_; first | (refine x_buildSliceL (d := 20) aA rfl rfl rfl ?_) | (refine x_buildSliceL (d := 27) aA rfl rfl rfl ?_)) | (refine pA (k := ?_)) | (refine g_exec ?_; first | (refine g_call ?_; first | (refine x_callG true (kA) rfl rfl rfl aS rfl aH ?_; simp only [cl]) | (refine x_callG true (kO) rfl rfl rfl aS rfl aH ?_; simp only [cl])) | (refine g_guard ?_; refine x_gsplit rfl rfl (fun h => ?_) (fun h => ?_) <;> (have h' := h; try simp only [sx] at h')) | (refine x_nil (hK _ _ aI ?_); clear hK K)) | (refine v_region (fun K hK => ?_)) | (refine v_condt rfl (fun h => ?_) (fun h => ?_) <;> (have h' := h; try simp only [sx] at h')))
      all_goals first
        | (exfalso; omega)
        | exact ret_lstb rfl (lookE_ok rfl) (lookE_ok rfl) rfl rfl
    | false =>
      rw [ho] at kO
      obtain ⟨W, hW, kW⟩ := k_l9Ways t xs ys hg hx hy hxl hyl
      by_cases h3 : 3 < W
      · refine ⟨[], false, by simp, ?_⟩
        refine contract_of hmix Try.func83 rfl (by kernel_rfl) (by kernel_rfl) (Nat.le_of_ble_eq_true rfl) (fun row h => by cases h) ?_
        have hty_a26 := ty_a26
        have hty_u24 := ty_u24
        have hty_s24 := ty_s24
        repeat' (first | (refine g_exec ?_; first | (refine x_buildSliceL (d := 20) aA rfl rfl rfl ?_) | (refine x_buildSliceL (d := 27) aA rfl rfl rfl ?_)) | (refine pA (k := ?_)) | (refine g_exec ?_; first | (refine g_call ?_; first | (refine x_callG true (kA) rfl rfl rfl aS rfl aH ?_; simp only [cl]) | (refine x_callG true (kO) rfl rfl rfl aS rfl aH ?_; simp only [cl]) | (refine x_callG true (kW) rfl rfl rfl aS rfl aH ?_; simp only [cl])) | (refine g_guard ?_; refine x_gsplit rfl rfl (fun h => ?_) (fun h => ?_) <;> (have h' := h; try simp only [sx] at h')) | (refine x_nil (hK _ _ aI ?_); clear hK K)) | (refine v_region (fun K hK => ?_)) | (refine v_condt rfl (fun h => ?_) (fun h => ?_) <;> (have h' := h; try simp only [sx] at h')))
        all_goals first
          | (exfalso; omega)
          | exact ret_lstb rfl (lookE_ok rfl) (lookE_ok rfl) rfl rfl
      · obtain ⟨r, b, h1, h2, kF⟩ := k_l9First t xs ys hg hx hy hxl hyl W aO W [] (fun y hy => by simp at hy) (by simp)
        unfold FstP at kF
        refine ⟨r, b, by omega, ?_⟩
        refine contract_of hmix Try.func83 rfl (by kernel_rfl) (by kernel_rfl) (Nat.le_of_ble_eq_true rfl) (fun row h => by cases h) ?_
        have hty_a26 := ty_a26
        have hty_u24 := ty_u24
        have hty_s24 := ty_s24
        repeat' (first | (refine g_exec ?_; first | (refine x_buildSliceL (d := 20) aA rfl rfl rfl ?_) | (refine x_buildSliceL (d := 27) aA rfl rfl rfl ?_)) | (refine pA (k := ?_)) | (refine g_exec ?_; first | (refine g_call ?_; first | (refine x_callG true (kA) rfl rfl rfl aS rfl aH ?_; simp only [cl]) | (refine x_callG true (kO) rfl rfl rfl aS rfl aH ?_; simp only [cl]) | (refine x_callG true (kW) rfl rfl rfl aS rfl aH ?_; simp only [cl]) | (refine x_callA true (kF) rfl rfl rfl rfl rfl aS rfl aH ?_; simp only [cl])) | (refine g_guard ?_; refine x_gsplit rfl rfl (fun h => ?_) (fun h => ?_) <;> (have h' := h; try simp only [sx] at h')) | (refine x_nil (hK _ _ aI ?_); clear hK K)) | (refine v_region (fun K hK => ?_)) | (refine v_condt rfl (fun h => ?_) (fun h => ?_) <;> (have h' := h; try simp only [sx] at h')))
        all_goals first
          | (exfalso; omega)
          | exact ret_lstb rfl (lookE_ok rfl) (lookE_ok rfl) rfl rfl
  · rw [decide_eq_false hA] at kA
    refine ⟨[], false, by simp, ?_⟩
    refine contract_of hmix Try.func83 rfl (by kernel_rfl) (by kernel_rfl) (Nat.le_of_ble_eq_true rfl) (fun row h => by cases h) ?_
    have hty_a26 := ty_a26
    have hty_u24 := ty_u24
    have hty_s24 := ty_s24
    repeat' (first | (refine g_exec ?_; first | (refine x_buildSliceL (d := 20) aA rfl rfl rfl ?_) | (refine x_buildSliceL (d := 27) aA rfl rfl rfl ?_)) | (refine pA (k := ?_)) | (refine g_exec ?_; first | (refine g_call ?_; refine x_callG true (kA) rfl rfl rfl aS rfl aH ?_; simp only [cl]) | (refine g_guard ?_; refine x_gsplit rfl rfl (fun h => ?_) (fun h => ?_) <;> (have h' := h; try simp only [sx] at h')) | (refine x_nil (hK _ _ aI ?_); clear hK K)) | (refine v_region (fun K hK => ?_)) | (refine v_condt rfl (fun h => ?_) (fun h => ?_) <;> (have h' := h; try simp only [sx] at h')))
    all_goals first
      | (exfalso; omega)
      | exact ret_lstb rfl (lookE_ok rfl) (lookE_ok rfl) rfl rfl
end Go.Vs
set_option linter.unusedVariables false
set_option linter.unusedSimpArgs false
set_option maxRecDepth 100000
set_option maxHeartbeats 4000000
namespace Go.Vs
open Go.Proofs
attribute [local irreducible] exec vwp thenQ blkQ loopQ RetPost
structure Phase where
  (frm : Int)
  (speed : Int)
  deriving DecidableEq
@[reducible] def Phase.pv (c : Phase) : List PV := [.int .i64 c.frm, .int .i64 c.speed]
theorem Phase.at {xs : List Phase} {i : Nat} {a : Phase} (h : xs[i]? = some a) : (xs.map Phase.pv)[i]? = some [.int .i64 a.frm, .int .i64 a.speed] := by simp [h]
theorem Phase.flat (xs : List Phase) : ∀ e ∈ xs.map Phase.pv, ∀ c ∈ e, c.flat = true := by
  intro e he c hc
  obtain ⟨a, _, rfl⟩ := List.mem_map.1 he
  simp only [Phase.pv, List.mem_cons, List.not_mem_nil, or_false] at hc
  rcases hc with rfl | rfl <;> rfl
end Go.Vs
set_option linter.unusedVariables false
set_option linter.unusedSimpArgs false
set_option maxRecDepth 100000
set_option maxHeartbeats 4000000
namespace Go.Vs
open Go.Proofs
attribute [local irreducible] exec vwp thenQ blkQ loopQ RetPost
def p0 : Phase := ⟨0, 0⟩
def OkP (ps : List Phase) (j : Nat) : Prop := (0 ≤ (ps.getD j p0).frm ∧ (ps.getD j p0).frm ≤ 9999) ∧ (1 ≤ (ps.getD j p0).speed ∧ (ps.getD j p0).speed ≤ 9) ∧ (j = 0 → (ps.getD j p0).frm = 0) ∧ (0 < j → (ps.getD (j - 1) p0).frm < (ps.getD j p0).frm)
instance (ps : List Phase) (j : Nat) : Decidable (OkP ps j) := by unfold OkP; infer_instance
def GoodP (ps : List Phase) : Prop := (∀ j, j < ps.length → OkP ps j) ∧ 1 ≤ ps.length ∧ ps.length ≤ 6
instance (ps : List Phase) : Decidable (GoodP ps) := by unfold GoodP; infer_instance
theorem getP {ps : List Phase} {i : Nat} {a : Phase} (h : ps[i]? = some a) : ps.getD i p0 = a := by simp [List.getD_eq_getElem?_getD, h]
theorem not_goodP {ps : List Phase} {i : Nat} (hi : i < ps.length) (h : ¬ OkP ps i) : ¬ GoodP ps := fun hg => h (hg.1 i hi)
theorem okP_step {ps : List Phase} {i : Nat} (h : ∀ j, j < i → OkP ps j) (hi : OkP ps i) : ∀ j, j < i + 1 → OkP ps j := fun j hj => by
  rcases Nat.lt_or_ge j i with h1 | h1
  · exact h j h1
  · have : j = i := by omega
    rw [this]; exact hi
theorem k_l4Phases (ps : List Phase) (hn : ps.length ≤ 1099511627776) : Con Try.prog 59 [.list 2 (ps.map Phase.pv)] (.bool (decide (GoodP ps))) := by
  intro al
  refine contract_of hmix Try.func59 rfl (by kernel_rfl) (by kernel_rfl) (Nat.le_of_ble_eq_true rfl) (fun row h => by cases h) ?_
  have hty_u27 := ty_u27
  have hty_s27 := ty_s27
  have hty_f93_0 := ty_f93_0
  have hty_c3 := ty_c3
  have hty_f93_1 := ty_f93_1
  have hl1 : (ps.map Phase.pv).length = ps.length := by simp
  by_cases hlen : 1 ≤ ps.length ∧ ps.length ≤ 6
  · obtain ⟨f, hgf⟩ := get_ex (show 0 < ps.length by omega)
    have hf := Phase.at hgf
    have hdf := getP hgf
    by_cases hf0 : f.frm = 0
    · repeat' (first | (refine pA (k := ?_)) | (refine g_exec ?_; first | (refine g_call ?_; refine x_callG true (k_l1In _ _ _) rfl rfl rfl aS rfl aH ?_; simp only [cl]) | (refine g_guard ?_; refine x_gsplit rfl rfl (fun h => ?_) (fun h => ?_) <;> (have h' := h; try simp only [sx] at h')) | (refine x_nil (hK _ _ aI ?_); clear hK K)) | (refine v_region (fun K hK => ?_)) | (refine v_condt rfl (fun h => ?_) (fun h => ?_) <;> (have h' := h; try simp only [sx] at h')))
      all_goals try (exfalso; omega)
      refine v_loopK [0] [] (fun i : Nat => [(3, .int .i64 i)]) (fun i : Nat => []) (fun i : Nat => i ≤ ps.length ∧ ∀ j, j < i → OkP ps j) (fun i : Nat => ps.length - i) (0) rfl rfl (fun _ => rfl) (fun _ => rfl) rfl (by refine ⟨?_, ?_, rfl, rfl⟩ <;> (repeat' (first | exact trivial | exact ⟨rfl, rfl⟩ | exact rfl | exact ⟨sub_fn, refs_fn⟩ | refine ⟨⟨rfl, rfl⟩, ?_⟩ | refine ⟨⟨sub_fn, refs_fn⟩, ?_⟩ | refine ⟨⟨rfl, fun h => Bool.noConfusion h⟩, ?_⟩ | refine ⟨⟨rfl, fun h => ?_⟩, ?_⟩ | refine ⟨rfl, ?_⟩ | refine ⟨?_, ?_⟩ | fail))) ⟨by omega, fun j hj => by omega⟩ (fun i hi => ?_)
      obtain ⟨hi1, hi2⟩ := hi
      rcases Nat.lt_or_ge i ps.length with hlt | hge
      · obtain ⟨a, hga⟩ := get_ex hlt
        have hx := Phase.at hga
        have hd := getP hga
        by_cases hi0 : 0 < i
        · obtain ⟨b, hgb⟩ := get_ex (show i - 1 < ps.length by omega)
          have hy := Phase.at hgb
          have hd' := getP hgb
          have e1 : ((i : Int) - 1).toNat = i - 1 := by omega
          rw [← e1] at hy
          repeat' (first | (refine pA (k := ?_)) | (refine g_exec ?_; first | (refine g_call ?_; first | (refine x_callG true (k_l4Tick _) rfl rfl rfl aS rfl aH ?_; simp only [cl]) | (refine x_callG true (k_l1In _ _ _) rfl rfl rfl aS rfl aH ?_; simp only [cl])) | (refine g_guard ?_; refine x_gsplit rfl rfl (fun h => ?_) (fun h => ?_) <;> (have h' := h; try simp only [sx] at h')) | (refine x_nil (hK _ _ aI ?_); clear hK K)) | (refine v_region (fun K hK => ?_)) | (refine v_condt rfl (fun h => ?_) (fun h => ?_) <;> (have h' := h; try simp only [sx] at h')))
          all_goals first
            | (refine q_next (i + 1) rfl (by refine ⟨?_, ?_, rfl, rfl⟩ <;> (repeat' (first | exact trivial | exact ⟨rfl, rfl⟩ | exact rfl | exact ⟨sub_fn, refs_fn⟩ | refine ⟨⟨rfl, rfl⟩, ?_⟩ | refine ⟨⟨sub_fn, refs_fn⟩, ?_⟩ | refine ⟨⟨rfl, fun h => Bool.noConfusion h⟩, ?_⟩ | refine ⟨⟨rfl, fun h => ?_⟩, ?_⟩ | refine ⟨rfl, ?_⟩ | refine ⟨?_, ?_⟩ | fail))) ⟨by omega, okP_step hi2 ?_⟩ aO; unfold OkP; rw [hd, hd']; exact ⟨by omega, by omega, by omega, by omega⟩)
            | (refine ret_bool rfl (lookE_ok rfl) ?_
               have : ¬ GoodP ps := not_goodP hlt (fun hk => by
                 unfold OkP at hk
                 rw [hd, hd'] at hk
                 omega)
               simp [this])
        · have hi00 : i = 0 := by omega
          have : a = f := by subst hi00; rw [hga] at hgf; exact Option.some.inj hgf
          subst this
          repeat' (first | (refine pA (k := ?_)) | (refine g_exec ?_; first | (refine g_call ?_; first | (refine x_callG true (k_l4Tick _) rfl rfl rfl aS rfl aH ?_; simp only [cl]) | (refine x_callG true (k_l1In _ _ _) rfl rfl rfl aS rfl aH ?_; simp only [cl])) | (refine g_guard ?_; refine x_gsplit rfl rfl (fun h => ?_) (fun h => ?_) <;> (have h' := h; try simp only [sx] at h')) | (refine x_nil (hK _ _ aI ?_); clear hK K)) | (refine v_region (fun K hK => ?_)) | (refine v_condt rfl (fun h => ?_) (fun h => ?_) <;> (have h' := h; try simp only [sx] at h')))
          all_goals first
            | (refine q_next (i + 1) rfl (by refine ⟨?_, ?_, rfl, rfl⟩ <;> (repeat' (first | exact trivial | exact ⟨rfl, rfl⟩ | exact rfl | exact ⟨sub_fn, refs_fn⟩ | refine ⟨⟨rfl, rfl⟩, ?_⟩ | refine ⟨⟨sub_fn, refs_fn⟩, ?_⟩ | refine ⟨⟨rfl, fun h => Bool.noConfusion h⟩, ?_⟩ | refine ⟨⟨rfl, fun h => ?_⟩, ?_⟩ | refine ⟨rfl, ?_⟩ | refine ⟨?_, ?_⟩ | fail))) ⟨by omega, okP_step hi2 ?_⟩ aO; unfold OkP; rw [hd]; exact ⟨by omega, by omega, by omega, fun h0 => absurd h0 hi0⟩)
            | (refine ret_bool rfl (lookE_ok rfl) ?_
               have : ¬ GoodP ps := not_goodP hlt (fun hk => by
                 unfold OkP at hk
                 rw [hd] at hk
                 omega)
               simp [this])
      · repeat' (first | (refine pA (k := ?_)) | (refine g_exec ?_; first | (refine g_guard ?_; refine x_gsplit rfl rfl (fun h => ?_) (fun h => ?_) <;> (have h' := h; try simp only [sx] at h')) | (refine x_nil (hK _ _ aI ?_); clear hK K)) | (refine v_region (fun K hK => ?_)) | (refine v_condt rfl (fun h => ?_) (fun h => ?_) <;> (have h' := h; try simp only [sx] at h')))
        refine ret_bool rfl (lookE_ok rfl) ?_
        have : GoodP ps := ⟨fun j hj => hi2 j aO, hlen⟩
        simp [this]
    · have hng : ¬ GoodP ps := not_goodP (i := 0) aO (fun hk => by
        unfold OkP at hk
        rw [hdf] at hk
        exact hf0 (hk.2.2.1 rfl))
      repeat' (first | (refine pA (k := ?_)) | (refine g_exec ?_; first | (refine g_call ?_; refine x_callG true (k_l1In _ _ _) rfl rfl rfl aS rfl aH ?_; simp only [cl]) | (refine g_guard ?_; refine x_gsplit rfl rfl (fun h => ?_) (fun h => ?_) <;> (have h' := h; try simp only [sx] at h')) | (refine x_nil (hK _ _ aI ?_); clear hK K)) | (refine v_region (fun K hK => ?_)) | (refine v_condt rfl (fun h => ?_) (fun h => ?_) <;> (have h' := h; try simp only [sx] at h')))
      all_goals first
        | exact ret_bool rfl (lookE_ok rfl) (by simp [hng])
        | (exfalso; omega)
  · have hng : ¬ GoodP ps := fun h => hlen h.2
    repeat' (first | (refine pA (k := ?_)) | (refine g_exec ?_; first | (refine g_call ?_; refine x_callG true (k_l1In _ _ _) rfl rfl rfl aS rfl aH ?_; simp only [cl]) | (refine g_guard ?_; refine x_gsplit rfl rfl (fun h => ?_) (fun h => ?_) <;> (have h' := h; try simp only [sx] at h')) | (refine x_nil (hK _ _ aI ?_); clear hK K)) | (refine v_region (fun K hK => ?_)) | (refine v_condt rfl (fun h => ?_) (fun h => ?_) <;> (have h' := h; try simp only [sx] at h')))
    all_goals first
      | exact ret_bool rfl (lookE_ok rfl) (by simp [hng])
      | (exfalso; omega)
theorem k_ArePhases (ps : List Phase) (hn : ps.length ≤ 1099511627776) : Con Try.prog 46 [.list 2 (ps.map Phase.pv)] (.bool (decide (GoodP ps))) := by
  intro al
  refine contract_of hmix Try.func46 rfl (by kernel_rfl) (by kernel_rfl) (Nat.le_of_ble_eq_true rfl) (fun row h => by cases h) ?_
  have hty_u27 := ty_u27
  have hty_s27 := ty_s27
  have hty_a93 := ty_a93
  have hty_z93 := ty_z93
  have hty_t93 := ty_t93
  have hty_f93_0 := ty_f93_0
  have hty_c3 := ty_c3
  have hty_f93_1 := ty_f93_1
  have hl1 : (ps.map Phase.pv).length = ps.length := by simp
  repeat' (first | (refine pA (k := ?_)) | (refine g_exec ?_; first | (refine g_guard ?_; refine x_gsplit rfl rfl (fun h => ?_) (fun h => ?_) <;> (have h' := h; try simp only [sx] at h')) | (refine x_nil (hK _ _ aI ?_); clear hK K)) | (refine v_region (fun K hK => ?_)) | (refine v_condt rfl (fun h => ?_) (fun h => ?_) <;> (have h' := h; try simp only [sx] at h')))
  refine v_loopK [0, 5, 6] [] (fun i : Nat => [(7, .int .i64 i)]) (fun i : Nat => []) (fun i : Nat => i ≤ ps.length ∧ ∀ j, j < i → OkP ps j) (fun i : Nat => ps.length - i) (0) rfl rfl (fun _ => rfl) (fun _ => rfl) rfl (by refine ⟨?_, ?_, rfl, rfl⟩ <;> (repeat' (first | exact trivial | exact ⟨rfl, rfl⟩ | exact rfl | exact ⟨sub_fn, refs_fn⟩ | refine ⟨⟨rfl, rfl⟩, ?_⟩ | refine ⟨⟨sub_fn, refs_fn⟩, ?_⟩ | refine ⟨⟨rfl, fun h => Bool.noConfusion h⟩, ?_⟩ | refine ⟨⟨rfl, fun h => ?_⟩, ?_⟩ | refine ⟨rfl, ?_⟩ | refine ⟨?_, ?_⟩ | fail))) ⟨by omega, fun j hj => by omega⟩ (fun i hi => ?_)
  obtain ⟨hi1, hi2⟩ := hi
  rcases Nat.lt_or_ge i ps.length with hlt | hge
  · obtain ⟨a, hga⟩ := get_ex hlt
    have hx := Phase.at hga
    have hd := getP hga
    by_cases hi0 : 0 < i
    · obtain ⟨b, hgb⟩ := get_ex (show i - 1 < ps.length by omega)
      have hy := Phase.at hgb
      have hd' := getP hgb
      have e1 : ((i : Int) - 1).toNat = i - 1 := by omega
      rw [← e1] at hy
      repeat' (first | (refine pA (k := ?_)) | (refine g_exec ?_; first | (refine g_call ?_; first | (refine x_callG true (k_isTick _) rfl rfl rfl aS rfl aH ?_; simp only [cl]) | (refine x_callG true (k_in _ _ _) rfl rfl rfl aS rfl aH ?_; simp only [cl])) | (refine g_guard ?_; refine x_gsplit rfl rfl (fun h => ?_) (fun h => ?_) <;> (have h' := h; try simp only [sx] at h')) | (refine x_nil (hK _ _ aI ?_); clear hK K)) | (refine v_region (fun K hK => ?_)) | (refine v_condt rfl (fun h => ?_) (fun h => ?_) <;> (have h' := h; try simp only [sx] at h')))
      all_goals first
        | (refine q_next (i + 1) rfl (by refine ⟨?_, ?_, rfl, rfl⟩ <;> (repeat' (first | exact trivial | exact ⟨rfl, rfl⟩ | exact rfl | exact ⟨sub_fn, refs_fn⟩ | refine ⟨⟨rfl, rfl⟩, ?_⟩ | refine ⟨⟨sub_fn, refs_fn⟩, ?_⟩ | refine ⟨⟨rfl, fun h => Bool.noConfusion h⟩, ?_⟩ | refine ⟨⟨rfl, fun h => ?_⟩, ?_⟩ | refine ⟨rfl, ?_⟩ | refine ⟨?_, ?_⟩ | fail))) ⟨by omega, okP_step hi2 ?_⟩ aO; unfold OkP; rw [hd, hd']; exact ⟨by omega, by omega, by omega, by omega⟩)
        | (refine ret_bool rfl (lookE_ok rfl) ?_
           have : ¬ GoodP ps := not_goodP hlt (fun hk => by
             unfold OkP at hk
             rw [hd, hd'] at hk
             omega)
           simp [this])
        | (exfalso; omega)
    · repeat' (first | (refine pA (k := ?_)) | (refine g_exec ?_; first | (refine g_call ?_; first | (refine x_callG true (k_isTick _) rfl rfl rfl aS rfl aH ?_; simp only [cl]) | (refine x_callG true (k_in _ _ _) rfl rfl rfl aS rfl aH ?_; simp only [cl])) | (refine g_guard ?_; refine x_gsplit rfl rfl (fun h => ?_) (fun h => ?_) <;> (have h' := h; try simp only [sx] at h')) | (refine x_nil (hK _ _ aI ?_); clear hK K)) | (refine v_region (fun K hK => ?_)) | (refine v_condt rfl (fun h => ?_) (fun h => ?_) <;> (have h' := h; try simp only [sx] at h')))
      all_goals first
        | (refine q_next (i + 1) rfl (by refine ⟨?_, ?_, rfl, rfl⟩ <;> (repeat' (first | exact trivial | exact ⟨rfl, rfl⟩ | exact rfl | exact ⟨sub_fn, refs_fn⟩ | refine ⟨⟨rfl, rfl⟩, ?_⟩ | refine ⟨⟨sub_fn, refs_fn⟩, ?_⟩ | refine ⟨⟨rfl, fun h => Bool.noConfusion h⟩, ?_⟩ | refine ⟨⟨rfl, fun h => ?_⟩, ?_⟩ | refine ⟨rfl, ?_⟩ | refine ⟨?_, ?_⟩ | fail))) ⟨by omega, okP_step hi2 ?_⟩ aO; unfold OkP; rw [hd]; exact ⟨by omega, by omega, by omega, fun h0 => absurd h0 hi0⟩)
        | (refine ret_bool rfl (lookE_ok rfl) ?_
           have : ¬ GoodP ps := not_goodP hlt (fun hk => by
             unfold OkP at hk
             rw [hd] at hk
             omega)
           simp [this])
        | (exfalso; omega)
  · repeat' (first | (refine pA (k := ?_)) | (refine g_exec ?_; first | (refine g_call ?_; refine x_callG true (k_in _ _ _) rfl rfl rfl aS rfl aH ?_; simp only [cl]) | (refine g_guard ?_; refine x_gsplit rfl rfl (fun h => ?_) (fun h => ?_) <;> (have h' := h; try simp only [sx] at h')) | (refine x_nil (hK _ _ aI ?_); clear hK K)) | (refine v_region (fun K hK => ?_)) | (refine v_condt rfl (fun h => ?_) (fun h => ?_) <;> (have h' := h; try simp only [sx] at h')))
    (refine ret_bool rfl (lookE_ok rfl) ?_; rw [Bool.eq_iff_iff]; try simp only [sx] at *)
    unfold GoodP
    constructor
    · intro h
      exact ⟨fun j hj => hi2 j aO, by omega⟩
    · intro h
      have := h.2
      omega
@[reducible] def spStep (t : Int) (o : Int) (p : Phase) : Int := if p.frm ≤ t then p.speed else o
def spF (ps : List Phase) (t : Int) : Int := ps.foldl (spStep t) 0
theorem spF_take_succ {ps : List Phase} {i : Nat} {a : Phase} (t : Int) (h : ps[i]? = some a) : spF (ps.take (i + 1)) t = if a.frm ≤ t then a.speed else spF (ps.take i) t := by
  rw [take_succ h, spF, List.foldl_append]; rfl
theorem GoodP.at {ps : List Phase} (hg : GoodP ps) {i : Nat} {a : Phase} (h : ps[i]? = some a) : (0 ≤ a.frm ∧ a.frm ≤ 9999) ∧ (1 ≤ a.speed ∧ a.speed ≤ 9) ∧ (i = 0 → a.frm = 0) := by
  have := hg.1 i (get_lt h)
  unfold OkP at this
  rw [getP h] at this
  exact ⟨this.1, this.2.1, this.2.2.1⟩
theorem GoodP.lt {ps : List Phase} (hg : GoodP ps) {i : Nat} {a b : Phase} (ha : ps[i]? = some a) (hb : ps[i + 1]? = some b) : a.frm < b.frm := by
  have := hg.1 (i + 1) (get_lt hb)
  unfold OkP at this
  rw [getP hb, Nat.add_sub_cancel, getP ha] at this
  exact this.2.2.2 aO
theorem sp_range {ps : List Phase} (hg : GoodP ps) {t : Int} (ht : 0 ≤ t) : ∀ i, 0 < i → i ≤ ps.length → 1 ≤ spF (ps.take i) t ∧ spF (ps.take i) t ≤ 9
  | 0, h, _ => by omega
  | 1, _, h => by
    obtain ⟨a, ha⟩ := get_ex (show 0 < ps.length by omega)
    have := hg.at ha
    rw [spF_take_succ t ha, if_pos aO]
    exact this.2.1
  | i + 2, _, h => by
    obtain ⟨a, ha⟩ := get_ex (show i + 1 < ps.length by omega)
    have := hg.at ha
    rw [spF_take_succ t ha]
    split
    · exact this.2.1
    · exact sp_range hg ht (i + 1) aO aO
theorem sp_bounds {ps : List Phase} (hg : GoodP ps) {t : Int} (ht : 0 ≤ t) : 1 ≤ spF ps t ∧ spF ps t ≤ 9 := by
  have := sp_range hg ht ps.length (by have := hg.2; omega) (Nat.le_refl _)
  rwa [List.take_length] at this
theorem sp_min {ps : List Phase} (hg : GoodP ps) (t : Int) : spF ps (min t 9999) = spF ps t := by
  have key : ∀ i, i ≤ ps.length → spF (ps.take i) (min t 9999) = spF (ps.take i) t := by
    intro i
    induction i with
    | zero => intro _; rfl
    | succ i ih =>
      intro h
      obtain ⟨a, ha⟩ := get_ex (show i < ps.length by omega)
      have := (hg.at ha).1
      rw [spF_take_succ _ ha, spF_take_succ _ ha, ih aO]
      by_cases hc : a.frm ≤ t
      · rw [if_pos aO, if_pos hc]
      · rw [if_neg aO, if_neg hc]
  have := key ps.length (Nat.le_refl _)
  rwa [List.take_length] at this
theorem sp_at {ps : List Phase} (hg : GoodP ps) {t : Int} {i : Nat} {a : Phase} (ha : ps[i]? = some a) (h1 : a.frm ≤ t) (h2 : ∀ b, ps[i + 1]? = some b → t < b.frm) : spF ps t = a.speed := by
  have key : ∀ d, i + 1 + d ≤ ps.length → spF (ps.take (i + 1 + d)) t = a.speed ∧ ∀ b, ps[i + 1 + d]? = some b → t < b.frm := by
    intro d
    induction d with
    | zero =>
      intro _
      rw [Nat.add_zero, spF_take_succ t ha, if_pos h1]
      exact ⟨rfl, h2⟩
    | succ d ih =>
      intro h
      obtain ⟨g1, g2⟩ := ih aO
      obtain ⟨b, hb⟩ := get_ex (show i + 1 + d < ps.length by omega)
      have := g2 b hb
      refine ⟨?_, fun c hc => ?_⟩
      · rw [show i + 1 + (d + 1) = i + 1 + d + 1 by omega, spF_take_succ t hb, if_neg aO, g1]
      · have := hg.lt hb (by rw [← hc]; rfl)
        omega
  have := (key (ps.length - (i + 1)) (by have := get_lt ha; omega)).1
  rwa [show i + 1 + (ps.length - (i + 1)) = ps.length by have := get_lt ha; omega, List.take_length] at this
theorem k_speedAt (ps : List Phase) (t : Int) (hn : ps.length ≤ 1099511627776) : Con Try.prog 78 [.list 2 (ps.map Phase.pv), .int .i64 t] (.int .i64 (spF ps t)) := by
  intro al
  refine contract_of hmix Try.func78 rfl (by kernel_rfl) (by kernel_rfl) (Nat.le_of_ble_eq_true rfl) (fun row h => by cases h) ?_
  have hty_u27 := ty_u27
  have hty_s27 := ty_s27
  have hty_a93 := ty_a93
  have hty_z93 := ty_z93
  have hty_t93 := ty_t93
  have hty_f93_0 := ty_f93_0
  have hty_c3 := ty_c3
  have hty_f93_1 := ty_f93_1
  have hl1 : (ps.map Phase.pv).length = ps.length := by simp
  repeat' (first | (refine pA (k := ?_)) | (refine g_exec ?_; refine x_nil (hK _ _ aI ?_); clear hK K) | (refine v_region (fun K hK => ?_)) | (refine v_condt rfl (fun h => ?_) (fun h => ?_) <;> (have h' := h; try simp only [sx] at h')))
  refine v_loopK [1, 8, 9] [] (fun q : Nat × Int => [(5, .int .i64 q.2), (10, .int .i64 q.1)]) (fun q : Nat × Int => []) (fun q : Nat × Int => q.1 ≤ ps.length ∧ q.2 = spF (ps.take q.1) t) (fun q : Nat × Int => ps.length - q.1) ((0, 0)) rfl rfl (fun _ => rfl) (fun _ => rfl) rfl (by refine ⟨?_, ?_, rfl, rfl⟩ <;> (repeat' (first | exact trivial | exact ⟨rfl, rfl⟩ | exact rfl | exact ⟨sub_fn, refs_fn⟩ | refine ⟨⟨rfl, rfl⟩, ?_⟩ | refine ⟨⟨sub_fn, refs_fn⟩, ?_⟩ | refine ⟨⟨rfl, fun h => Bool.noConfusion h⟩, ?_⟩ | refine ⟨⟨rfl, fun h => ?_⟩, ?_⟩ | refine ⟨rfl, ?_⟩ | refine ⟨?_, ?_⟩ | fail))) ⟨by simp, rfl⟩ (fun q hq => ?_)
  obtain ⟨i, o⟩ := q
  obtain ⟨h1, h2⟩ := hq
  simp only at h1 h2
  dsimp only
  rcases Nat.lt_or_ge i ps.length with hlt | hge
  · obtain ⟨a, hga⟩ := get_ex hlt
    have hx := Phase.at hga
    have hs := spF_take_succ t hga
    repeat' (first | (refine pA (k := ?_)) | (refine g_exec ?_; refine x_nil (hK _ _ aI ?_); clear hK K) | (refine v_region (fun K hK => ?_)) | (refine v_condt rfl (fun h => ?_) (fun h => ?_) <;> (have h' := h; try simp only [sx] at h')))
    · refine q_next (i + 1, a.speed) rfl (by refine ⟨?_, ?_, rfl, rfl⟩ <;> (repeat' (first | exact trivial | exact ⟨rfl, rfl⟩ | exact rfl | exact ⟨sub_fn, refs_fn⟩ | refine ⟨⟨rfl, rfl⟩, ?_⟩ | refine ⟨⟨sub_fn, refs_fn⟩, ?_⟩ | refine ⟨⟨rfl, fun h => Bool.noConfusion h⟩, ?_⟩ | refine ⟨⟨rfl, fun h => ?_⟩, ?_⟩ | refine ⟨rfl, ?_⟩ | refine ⟨?_, ?_⟩ | fail))) ⟨by simp only; omega, by simp only [hs]; rw [if_pos aA]⟩ (by simp only; omega)
    · refine q_next (i + 1, o) rfl (by refine ⟨?_, ?_, rfl, rfl⟩ <;> (repeat' (first | exact trivial | exact ⟨rfl, rfl⟩ | exact rfl | exact ⟨sub_fn, refs_fn⟩ | refine ⟨⟨rfl, rfl⟩, ?_⟩ | refine ⟨⟨sub_fn, refs_fn⟩, ?_⟩ | refine ⟨⟨rfl, fun h => Bool.noConfusion h⟩, ?_⟩ | refine ⟨⟨rfl, fun h => ?_⟩, ?_⟩ | refine ⟨rfl, ?_⟩ | refine ⟨?_, ?_⟩ | fail))) ⟨by simp only; omega, by simp only [hs]; rw [if_neg aA]; exact h2⟩ (by simp only; omega)
  · repeat' (first | (refine pA (k := ?_)) | (refine g_exec ?_; refine x_nil (hK _ _ aI ?_); clear hK K) | (refine v_region (fun K hK => ?_)) | (refine v_condt rfl (fun h => ?_) (fun h => ?_) <;> (have h' := h; try simp only [sx] at h')))
    rw [take_all hge] at h2
    exact ret_int rfl (lookE_ok rfl) h2
theorem k_l4Speed (ps : List Phase) (t : Int) (hg : GoodP ps) (ht : 0 ≤ t) : Con Try.prog 82 [.list 2 (ps.map Phase.pv), .int .i64 t] (.int .i64 (spF ps t)) := by
  intro al
  refine contract_of hmix Try.func82 rfl (by kernel_rfl) (by kernel_rfl) (Nat.le_of_ble_eq_true rfl) (fun row h => by cases h) ?_
  have hty_u27 := ty_u27
  have hty_s27 := ty_s27
  have hty_f93_0 := ty_f93_0
  have hty_c3 := ty_c3
  have hty_f93_1 := ty_f93_1
  have hl1 : (ps.map Phase.pv).length = ps.length := by simp
  have hlen := hg.2
  have hini : (ps.getD 0 p0).frm ≤ t := by
    obtain ⟨a, ha⟩ := get_ex (show 0 < ps.length by omega)
    rw [getP ha, (hg.at ha).2.2 rfl]; exact ht
  repeat' (first | (refine pA (k := ?_)) | (refine g_exec ?_; first | (refine g_guard ?_; refine x_gsplit rfl rfl (fun h => ?_) (fun h => ?_) <;> (have h' := h; try simp only [sx] at h')) | (refine x_nil (hK _ _ aI ?_); clear hK K)) | (refine v_region (fun K hK => ?_)) | (refine v_condt rfl (fun h => ?_) (fun h => ?_) <;> (have h' := h; try simp only [sx] at h')))
  refine v_loopK [0, 1] [] (fun i : Nat => [(5, .int .i64 i)]) (fun i : Nat => []) (fun i : Nat => i < ps.length ∧ (ps.getD i p0).frm ≤ t) (fun i : Nat => ps.length - i) (0) rfl rfl (fun _ => rfl) (fun _ => rfl) rfl (by refine ⟨?_, ?_, rfl, rfl⟩ <;> (repeat' (first | exact trivial | exact ⟨rfl, rfl⟩ | exact rfl | exact ⟨sub_fn, refs_fn⟩ | refine ⟨⟨rfl, rfl⟩, ?_⟩ | refine ⟨⟨sub_fn, refs_fn⟩, ?_⟩ | refine ⟨⟨rfl, fun h => Bool.noConfusion h⟩, ?_⟩ | refine ⟨⟨rfl, fun h => ?_⟩, ?_⟩ | refine ⟨rfl, ?_⟩ | refine ⟨?_, ?_⟩ | fail))) ⟨by omega, hini⟩ (fun i hi => ?_)
  obtain ⟨h1, h2⟩ := hi
  obtain ⟨a, hga⟩ := get_ex h1
  have hx := Phase.at hga
  rw [getP hga] at h2
  rcases Nat.lt_or_ge (i + 1) ps.length with hlt | hge
  · obtain ⟨b, hgb⟩ := get_ex hlt
    have hy := Phase.at hgb
    have e1 : ((i : Int) + 1).toNat = i + 1 := by omega
    rw [← e1] at hy
    by_cases hc : b.frm ≤ t
    · repeat' (first | (refine pA (k := ?_)) | (refine g_exec ?_; first | (refine g_guard ?_; refine x_gsplit rfl rfl (fun h => ?_) (fun h => ?_) <;> (have h' := h; try simp only [sx] at h')) | (refine x_nil (hK _ _ aI ?_); clear hK K)) | (refine v_region (fun K hK => ?_)) | (refine v_condt rfl (fun h => ?_) (fun h => ?_) <;> (have h' := h; try simp only [sx] at h')))
      all_goals first
        | (refine q_next (i + 1) rfl (by refine ⟨?_, ?_, rfl, rfl⟩ <;> (repeat' (first | exact trivial | exact ⟨rfl, rfl⟩ | exact rfl | exact ⟨sub_fn, refs_fn⟩ | refine ⟨⟨rfl, rfl⟩, ?_⟩ | refine ⟨⟨sub_fn, refs_fn⟩, ?_⟩ | refine ⟨⟨rfl, fun h => Bool.noConfusion h⟩, ?_⟩ | refine ⟨⟨rfl, fun h => ?_⟩, ?_⟩ | refine ⟨rfl, ?_⟩ | refine ⟨?_, ?_⟩ | fail))) ⟨hlt, by rw [getP hgb]; exact hc⟩ aO)
        | (exfalso; omega)
    · repeat' (first | (refine pA (k := ?_)) | (refine g_exec ?_; first | (refine g_guard ?_; refine x_gsplit rfl rfl (fun h => ?_) (fun h => ?_) <;> (have h' := h; try simp only [sx] at h')) | (refine x_nil (hK _ _ aI ?_); clear hK K)) | (refine v_region (fun K hK => ?_)) | (refine v_condt rfl (fun h => ?_) (fun h => ?_) <;> (have h' := h; try simp only [sx] at h')))
      all_goals first
        | exact ret_int rfl (lookE_ok rfl) (sp_at hg hga h2 (fun c hcc => by rw [hgb] at hcc; cases hcc; omega)).symm
        | (exfalso; omega)
  · repeat' (first | (refine pA (k := ?_)) | (refine g_exec ?_; first | (refine g_guard ?_; refine x_gsplit rfl rfl (fun h => ?_) (fun h => ?_) <;> (have h' := h; try simp only [sx] at h')) | (refine x_nil (hK _ _ aI ?_); clear hK K)) | (refine v_region (fun K hK => ?_)) | (refine v_condt rfl (fun h => ?_) (fun h => ?_) <;> (have h' := h; try simp only [sx] at h')))
    all_goals first
      | exact ret_int rfl (lookE_ok rfl) (sp_at hg hga h2 (fun c hcc => by have := get_lt hcc; omega)).symm
      | (exfalso; omega)
def dnF (sp : Int → Int) : Nat → Int → Int → Int
  | 0, t, _ => t
  | n + 1, t, w => if 0 < w then dnF sp n (t + 1) (w - sp t) else t
def dn (sp : Int → Int) (t w : Int) : Int := dnF sp w.toNat t w
section
variable {sp : Int → Int} (hsp : ∀ t, 0 ≤ t → 1 ≤ sp t)
include hsp
theorem dnF_any : ∀ (n m : Nat) (t w : Int), 0 ≤ t → w.toNat ≤ n → w.toNat ≤ m → dnF sp n t w = dnF sp m t w
  | 0, 0, _, _, _, _, _ => rfl
  | 0, m + 1, t, w, _, h1, _ => by rw [dnF, dnF, if_neg aO]
  | n + 1, 0, t, w, _, _, h2 => by rw [dnF, dnF, if_neg aO]
  | n + 1, m + 1, t, w, ht, h1, h2 => by
    rw [dnF, dnF]
    split
    · have := hsp t ht
      exact dnF_any n m (t + 1) (w - sp t) aO aO aO
    · rfl
theorem dn_pos {t w : Int} (ht : 0 ≤ t) (hw : 0 < w) : dn sp t w = dn sp (t + 1) (w - sp t) := by
  have := hsp t ht
  obtain ⟨n, hn⟩ : ∃ n, w.toNat = n + 1 := ⟨w.toNat - 1, by omega⟩
  rw [dn, hn, dnF, if_pos hw]
  exact dnF_any hsp n _ _ _ aO aO (Nat.le_refl _)
omit hsp in
theorem dn_zero {t w : Int} (hw : ¬ 0 < w) : dn sp t w = t := by
  rw [dn]
  cases hn : w.toNat with
  | zero => rfl
  | succ n => rw [dnF, if_neg hw]
theorem dn_ge : ∀ (n : Nat) (t w : Int), w.toNat = n → 0 ≤ t → t ≤ dn sp t w ∧ dn sp t w ≤ t + n ∧ (0 < w → t < dn sp t w) := by
  intro n
  induction n using Nat.strongRecOn with
  | _ n ih =>
    intro t w hn ht
    by_cases hw : 0 < w
    · have h1 := hsp t ht
      have := ih (w - sp t).toNat aO (t + 1) (w - sp t) rfl aO
      rw [dn_pos hsp ht hw]
      omega
    · rw [dn_zero hw]
      omega
theorem dn_mono_w : ∀ (n : Nat) (t w w' : Int), w'.toNat = n → 0 ≤ t → w ≤ w' → dn sp t w ≤ dn sp t w' := by
  intro n
  induction n using Nat.strongRecOn with
  | _ n ih =>
    intro t w w' hn ht hww
    by_cases hw : 0 < w
    · have h1 := hsp t ht
      rw [dn_pos hsp ht hw, dn_pos hsp ht (show 0 < w' by omega)]
      exact ih (w' - sp t).toNat aO (t + 1) (w - sp t) (w' - sp t) rfl aO aO
    · rw [dn_zero hw]
      exact (dn_ge hsp _ t w' rfl ht).1
theorem dn_mono_1 {t w : Int} (ht : 0 ≤ t) : dn sp t w ≤ dn sp (t + 1) w := by
  by_cases hw : 0 < w
  · have h1 := hsp t ht
    rw [dn_pos hsp ht hw]
    exact dn_mono_w hsp _ (t + 1) (w - sp t) w rfl aO aO
  · rw [dn_zero hw, dn_zero hw]; omega
theorem dn_mono {t t' w : Int} (ht : 0 ≤ t) (htt : t ≤ t') : dn sp t w ≤ dn sp t' w := by
  obtain ⟨k, hk⟩ : ∃ k : Nat, t' = t + k := ⟨(t' - t).toNat, by omega⟩
  subst hk
  clear htt
  induction k with
  | zero => simp
  | succ k ih =>
    have := dn_mono_1 hsp (t := t + k) (w := w) aO
    rw [show t + ((k + 1 : Nat) : Int) = t + k + 1 by omega]
    omega
end
theorem k_done (ps : List Phase) (t w : Int) (hg : GoodP ps) (ht : 0 ≤ t ∧ t ≤ 100000) (hw : 0 ≤ w ∧ w ≤ 1000) : Con Try.prog 54 [.list 2 (ps.map Phase.pv), .int .i64 t, .int .i64 w] (.int .i64 (dn (spF ps) t w)) := by
  intro al
  refine contract_of hmix Try.func54 rfl (by kernel_rfl) (by kernel_rfl) (Nat.le_of_ble_eq_true rfl) (fun row h => by cases h) ?_
  have hty_u27 := ty_u27
  have hty_s27 := ty_s27
  have hlen := hg.2
  have hsp : ∀ t, 0 ≤ t → 1 ≤ spF ps t := fun t h => (sp_bounds hg h).1
  repeat' (first | (refine pA (k := ?_)) | (refine g_exec ?_; refine x_nil (hK _ _ aI ?_); clear hK K) | (refine v_region (fun K hK => ?_)) | (refine v_condt rfl (fun h => ?_) (fun h => ?_) <;> (have h' := h; try simp only [sx] at h')))
  refine v_loopK [0] [] (fun q : Int × Int => [(1, .int .i64 q.1), (2, .int .i64 q.2)]) (fun q : Int × Int => []) (fun q : Int × Int => dn (spF ps) q.1 q.2 = dn (spF ps) t w ∧ 0 ≤ q.1 ∧ -9 ≤ q.2 ∧ q.2 ≤ 1000 ∧ q.1 + q.2 ≤ 101000) (fun q : Int × Int => q.2.toNat) ((t, w)) rfl rfl (fun _ => rfl) (fun _ => rfl) rfl (by refine ⟨?_, ?_, rfl, rfl⟩ <;> (repeat' (first | exact trivial | exact ⟨rfl, rfl⟩ | exact rfl | exact ⟨sub_fn, refs_fn⟩ | refine ⟨⟨rfl, rfl⟩, ?_⟩ | refine ⟨⟨sub_fn, refs_fn⟩, ?_⟩ | refine ⟨⟨rfl, fun h => Bool.noConfusion h⟩, ?_⟩ | refine ⟨⟨rfl, fun h => ?_⟩, ?_⟩ | refine ⟨rfl, ?_⟩ | refine ⟨?_, ?_⟩ | fail))) ⟨rfl, by simp only; omega, by simp only; omega, by simp only; omega, by simp only; omega⟩ (fun q hq => ?_)
  obtain ⟨x, y⟩ := q
  obtain ⟨h1, h2, h3, h4, h5⟩ := hq
  simp only at h1 h2 h3 h4 h5
  dsimp only
  by_cases hy : 0 < y
  · have hb := sp_bounds hg h2
    have hm := sp_min hg x
    have hd := dn_pos hsp h2 hy
    have kS := k_speedAt ps (min x 9999) aO
    rw [hm] at kS
    repeat' (first | (refine pA (k := ?_)) | (refine g_exec ?_; first | (refine g_call ?_; refine x_callG true (kS) rfl rfl rfl aS rfl aH ?_; simp only [cl]) | (refine x_nil (hK _ _ aI ?_); clear hK K)) | (refine v_region (fun K hK => ?_)) | (refine v_condt rfl (fun h => ?_) (fun h => ?_) <;> (have h' := h; try simp only [sx] at h')))
    refine q_next (x + 1, y - spF ps x) rfl (by refine ⟨?_, ?_, rfl, rfl⟩ <;> (repeat' (first | exact trivial | exact ⟨rfl, rfl⟩ | exact rfl | exact ⟨sub_fn, refs_fn⟩ | refine ⟨⟨rfl, rfl⟩, ?_⟩ | refine ⟨⟨sub_fn, refs_fn⟩, ?_⟩ | refine ⟨⟨rfl, fun h => Bool.noConfusion h⟩, ?_⟩ | refine ⟨⟨rfl, fun h => ?_⟩, ?_⟩ | refine ⟨rfl, ?_⟩ | refine ⟨?_, ?_⟩ | fail))) ⟨by simp only; rw [← hd]; exact h1, by simp only; omega, by simp only; omega, by simp only; omega, by simp only; omega⟩ (by simp only; omega)
  · repeat' (first | (refine pA (k := ?_)) | (refine g_exec ?_; refine x_nil (hK _ _ aI ?_); clear hK K) | (refine v_region (fun K hK => ?_)) | (refine v_condt rfl (fun h => ?_) (fun h => ?_) <;> (have h' := h; try simp only [sx] at h')))
    exact ret_int rfl (lookE_ok rfl) (by rw [← h1, dn_zero hy])
theorem k_l4Done (ps : List Phase) (t w : Int) (hg : GoodP ps) (ht : 0 ≤ t ∧ t ≤ 100000) (hw : 0 ≤ w ∧ w ≤ 1000) : Con Try.prog 65 [.list 2 (ps.map Phase.pv), .int .i64 t, .int .i64 w] (.int .i64 (dn (spF ps) t w)) := by
  intro al
  refine contract_of hmix Try.func65 rfl (by kernel_rfl) (by kernel_rfl) (Nat.le_of_ble_eq_true rfl) (fun row h => by cases h) ?_
  have hty_u27 := ty_u27
  have hty_s27 := ty_s27
  have hlen := hg.2
  have hsp : ∀ t, 0 ≤ t → 1 ≤ spF ps t := fun t h => (sp_bounds hg h).1
  repeat' (first | (refine pA (k := ?_)) | (refine g_exec ?_; refine x_nil (hK _ _ aI ?_); clear hK K) | (refine v_region (fun K hK => ?_)) | (refine v_condt rfl (fun h => ?_) (fun h => ?_) <;> (have h' := h; try simp only [sx] at h')))
  refine v_loopK [0] [] (fun q : Int × Int => [(1, .int .i64 q.1), (2, .int .i64 q.2)]) (fun q : Int × Int => []) (fun q : Int × Int => dn (spF ps) q.1 q.2 = dn (spF ps) t w ∧ 0 ≤ q.1 ∧ -9 ≤ q.2 ∧ q.2 ≤ 1000 ∧ q.1 + q.2 ≤ 101000) (fun q : Int × Int => q.2.toNat) ((t, w)) rfl rfl (fun _ => rfl) (fun _ => rfl) rfl (by refine ⟨?_, ?_, rfl, rfl⟩ <;> (repeat' (first | exact trivial | exact ⟨rfl, rfl⟩ | exact rfl | exact ⟨sub_fn, refs_fn⟩ | refine ⟨⟨rfl, rfl⟩, ?_⟩ | refine ⟨⟨sub_fn, refs_fn⟩, ?_⟩ | refine ⟨⟨rfl, fun h => Bool.noConfusion h⟩, ?_⟩ | refine ⟨⟨rfl, fun h => ?_⟩, ?_⟩ | refine ⟨rfl, ?_⟩ | refine ⟨?_, ?_⟩ | fail))) ⟨rfl, by simp only; omega, by simp only; omega, by simp only; omega, by simp only; omega⟩ (fun q hq => ?_)
  obtain ⟨x, y⟩ := q
  obtain ⟨h1, h2, h3, h4, h5⟩ := hq
  simp only at h1 h2 h3 h4 h5
  dsimp only
  by_cases hy : 0 < y
  · have hb := sp_bounds hg h2
    have hd := dn_pos hsp h2 hy
    have kS := k_l4Speed ps x hg h2
    repeat' (first | (refine pA (k := ?_)) | (refine g_exec ?_; first | (refine g_call ?_; refine x_callG true (kS) rfl rfl rfl aS rfl aH ?_; simp only [cl]) | (refine x_nil (hK _ _ aI ?_); clear hK K)) | (refine v_region (fun K hK => ?_)) | (refine v_condt rfl (fun h => ?_) (fun h => ?_) <;> (have h' := h; try simp only [sx] at h')))
    refine q_next (x + 1, y - spF ps x) rfl (by refine ⟨?_, ?_, rfl, rfl⟩ <;> (repeat' (first | exact trivial | exact ⟨rfl, rfl⟩ | exact rfl | exact ⟨sub_fn, refs_fn⟩ | refine ⟨⟨rfl, rfl⟩, ?_⟩ | refine ⟨⟨sub_fn, refs_fn⟩, ?_⟩ | refine ⟨⟨rfl, fun h => Bool.noConfusion h⟩, ?_⟩ | refine ⟨⟨rfl, fun h => ?_⟩, ?_⟩ | refine ⟨rfl, ?_⟩ | refine ⟨?_, ?_⟩ | fail))) ⟨by simp only; rw [← hd]; exact h1, by simp only; omega, by simp only; omega, by simp only; omega, by simp only; omega⟩ (by simp only; omega)
  · repeat' (first | (refine pA (k := ?_)) | (refine g_exec ?_; refine x_nil (hK _ _ aI ?_); clear hK K) | (refine v_region (fun K hK => ?_)) | (refine v_condt rfl (fun h => ?_) (fun h => ?_) <;> (have h' := h; try simp only [sx] at h')))
    exact ret_int rfl (lookE_ok rfl) (by rw [← h1, dn_zero hy])
@[reducible] def wkF (t : Terrain) (a b : Int) : Int := (if colOf t a = colOf t b ∨ rowOf t a = rowOf t b then 2 else 3) * (burnAt t a + burnAt t b)
end Go.Vs
set_option linter.unusedVariables false
set_option linter.unusedSimpArgs false
set_option maxRecDepth 100000
set_option maxHeartbeats 4000000
namespace Go.Vs
def tv (T : List Int) (c : Int) : Int := T.getD c.toNat (-1)
theorem tv_at {T : List Int} {c : Int} (h : c.toNat < T.length) : T[c.toNat]? = some (tv T c) := by
  obtain ⟨a, ha⟩ := get_ex h
  rw [ha, tv]
  simp [List.getD_eq_getElem?_getD, ha]
theorem tv_set {T : List Int} {i : Nat} (x : Int) (h : i < T.length) (c : Int) : tv (T.set i x) c = if c.toNat = i then x else tv T c := by
  unfold tv
  rw [List.getD_eq_getElem?_getD, List.getD_eq_getElem?_getD, List.getElem?_set]
  by_cases he : i = c.toNat
  · simp [he, he ▸ h]
  · simp [he, Ne.symm he]
theorem sumBy_set {α : Type} (g : α → Int) {l : List α} : ∀ {i : Nat} {a : α} (x : α), l[i]? = some a → sumBy g (l.set i x) = sumBy g l - g a + g x := by
  induction l with
  | nil => intro i a x h; simp at h
  | cons y l ih =>
    intro i a x h
    cases i with
    | zero =>
      simp only [List.getElem?_cons_zero, Option.some.injEq] at h
      subst h
      rw [List.set_cons_zero, sumBy_cons, sumBy_cons]
      omega
    | succ i =>
      rw [List.set_cons_succ, sumBy_cons, sumBy_cons, ih x (by simpa using h)]
      omega
theorem ints_set (T : List Int) (i : Nat) (x : Int) : ints (T.set i x) = (ints T).set i [PV.int .i64 x] := by simp [ints, List.map_set]
theorem tv_nat {T : List Int} {i : Nat} (h : i < T.length) : (ints T)[i]? = some [PV.int .i64 (tv T i)] := by
  have := tv_at (T := T) (c := (i : Int)) (by rw [Int.toNat_natCast]; exact h)
  rw [Int.toNat_natCast] at this
  exact ints_at this
theorem tv_int {T : List Int} {c : Int} (h : c.toNat < T.length) : (ints T)[c.toNat]? = some [PV.int .i64 (tv T c)] := ints_at (tv_at h)
end Go.Vs
set_option linter.unusedVariables false
set_option linter.unusedSimpArgs false
set_option maxRecDepth 100000
set_option maxHeartbeats 4000000
namespace Go.Vs
open Go.Proofs
structure Blz where
  (t : Terrain)
  (ps : List Phase)
  (src : List Int)
  (st : Int)
def GoodB (b : Blz) : Prop := (GoodT b.t ∧ (∀ s ∈ b.src, IsCell b.t s) ∧ Rising b.src) ∧ GoodP b.ps ∧ 0 ≤ b.st ∧ b.st ≤ 1000
instance (b : Blz) : Decidable (GoodB b) := by unfold GoodB; infer_instance
def hop (b : Blz) (a c v : Int) : Int := dn (spF b.ps) v (wkF b.t a c)
def Edge (b : Blz) (a c : Int) : Prop := IsCell b.t a ∧ IsCell b.t c ∧ apart b.t a c = 1 ∧ 0 < burnAt b.t c
def Lit (b : Blz) (s : Int) : Prop := IsCell b.t s ∧ 0 < burnAt b.t s ∧ s ∈ b.src
inductive Rch (b : Blz) : Int → Int → Prop
  | lit {s : Int} : Lit b s → Rch b s b.st
  | hop {a c v : Int} : Rch b a v → Edge b a c → Rch b c (hop b a c v)
structure Pre (b : Blz) (T : List Int) : Prop where
  len : T.length = b.t.burn.length
  lit : ∀ s, Lit b s → tv T s ≠ -1 ∧ tv T s ≤ b.st
  att : ∀ c, IsCell b.t c → tv T c ≠ -1 → Rch b c (tv T c)
def Clsd (b : Blz) (T : List Int) (a : Int) : Prop := tv T a ≠ -1 → ∀ c, Edge b a c → tv T c ≠ -1 ∧ tv T c ≤ hop b a c (tv T a)
structure IsArr (b : Blz) (T : List Int) : Prop where
  pre : Pre b T
  clo : ∀ a, IsCell b.t a → Clsd b T a
section
variable {b : Blz}
theorem GoodB.sp (h : GoodB b) : ∀ t, 0 ≤ t → 1 ≤ spF b.ps t := fun t ht => (sp_bounds h.2.1 ht).1
theorem wk_bnd (h : GoodB b) {a c : Int} (ha : IsCell b.t a) (hc : IsCell b.t c) : 0 ≤ wkF b.t a c ∧ wkF b.t a c ≤ 120 ∧ (0 < burnAt b.t a → 4 ≤ wkF b.t a c ∨ burnAt b.t c = 0) := by
  have h1 := burn_bound h.1.1 ha
  have h2 := burn_bound h.1.1 hc
  simp only [wkF]
  split <;> omega
theorem rch_facts (h : GoodB b) {c v : Int} (hr : Rch b c v) : b.st ≤ v ∧ 0 < burnAt b.t c ∧ IsCell b.t c := by
  induction hr with
  | lit hs => exact ⟨Int.le_refl _, hs.2.1, hs.1⟩
  | @hop a c v hr he ih =>
    have hst := h.2.2
    have := dn_ge h.sp _ v (wkF b.t a c) rfl aO
    exact ⟨by unfold hop; omega, he.2.2.2, he.2.1⟩
theorem hop_bnd (h : GoodB b) {a c v : Int} (hv : 0 ≤ v) (he : Edge b a c) (ha : 0 < burnAt b.t a) : v < hop b a c v ∧ hop b a c v ≤ v + 120 := by
  have hw := wk_bnd h he.1 he.2.1
  have := dn_ge h.sp _ v (wkF b.t a c) rfl hv
  have hb := he.2.2.2
  unfold hop
  rcases hw.2.2 ha with h1 | h1 <;> omega
theorem hop_mono (h : GoodB b) {a c v v' : Int} (hv : 0 ≤ v) (hvv : v ≤ v') : hop b a c v ≤ hop b a c v' := dn_mono h.sp hv hvv
theorem arr_le (h : GoodB b) {T : List Int} (hT : IsArr b T) {c v : Int} (hr : Rch b c v) : tv T c ≠ -1 ∧ tv T c ≤ v := by
  have hst := h.2.2
  induction hr with
  | lit hs => exact hT.pre.lit _ hs
  | @hop a c v hr he ih =>
    have h1 := hT.clo a he.1 ih.1 c he
    have h2 := rch_facts h (hT.pre.att a he.1 ih.1)
    have := hop_mono h (a := a) (c := c) (show 0 ≤ tv T a by omega) ih.2
    exact ⟨h1.1, by omega⟩
theorem arr_unique (h : GoodB b) {T T' : List Int} (hT : IsArr b T) (hT' : IsArr b T') : T = T' := by
  have key : ∀ {T T' : List Int}, IsArr b T → IsArr b T' → ∀ c, IsCell b.t c → tv T c ≠ -1 → tv T' c ≠ -1 ∧ tv T' c ≤ tv T c := fun h1 h2 c hc hne => arr_le h h2 (h1.pre.att c hc hne)
  refine List.ext_getElem? fun j => ?_
  by_cases hj : j < b.t.burn.length
  · have hc : IsCell b.t (j : Int) := ⟨by omega, by omega⟩
    have e1 := tv_at (T := T) (c := (j : Int)) (by rw [Int.toNat_natCast, hT.pre.len]; exact hj)
    have e2 := tv_at (T := T') (c := (j : Int)) (by rw [Int.toNat_natCast, hT'.pre.len]; exact hj)
    rw [Int.toNat_natCast] at e1 e2
    rw [e1, e2]
    congr 1
    by_cases h1 : tv T j = -1
    · by_cases h2 : tv T' j = -1
      · rw [h1, h2]
      · exact absurd h1 (key hT' hT j hc h2).1
    · have g1 := key hT hT' j hc h1
      have g2 := key hT' hT j hc g1.1
      omega
  · rw [List.getElem?_eq_none (by rw [hT.pre.len]; omega), List.getElem?_eq_none (by rw [hT'.pre.len]; omega)]
end
noncomputable def arr (b : Blz) : List Int := Classical.epsilon fun T => IsArr b T
theorem arr_is {b : Blz} {T : List Int} (h : IsArr b T) : IsArr b (arr b) := Classical.epsilon_spec (p := fun T => IsArr b T) ⟨T, h⟩
theorem arr_eq {b : Blz} (hb : GoodB b) {T : List Int} (h : IsArr b T) : T = arr b := arr_unique hb h (arr_is h)
@[reducible] def gfin (v : Int) : Int := if v = -1 then 0 else 1
@[reducible] def gval (v : Int) : Int := if v = -1 then 9000 else v
def cntF (T : List Int) : Int := sumBy gfin T
def valF (T : List Int) : Int := sumBy gval T
theorem cntF_bnd (T : List Int) : 0 ≤ cntF T ∧ cntF T ≤ T.length := by
  have := sumBy_bound gfin 1 T fun y _ => by simp only [gfin]; split <;> omega
  unfold cntF; omega
structure Mid (b : Blz) (T : List Int) : Prop where
  pre : Pre b T
  bnd : ∀ c, IsCell b.t c → tv T c ≤ b.st + 120 * cntF T
section
variable {b : Blz} {T : List Int}
theorem Mid.le (h : Mid b T) (hb : GoodB b) {c : Int} (hc : IsCell b.t c) : tv T c ≤ 4000 := by
  have h1 := h.bnd c hc
  have h2 := (cntF_bnd T).2
  have h3 := goodT_len hb.1.1
  have h4 := h.pre.len
  have h5 := hb.2.2
  omega
theorem Mid.ge (h : Mid b T) (hb : GoodB b) {c : Int} (hc : IsCell b.t c) (hne : tv T c ≠ -1) : 0 ≤ tv T c ∧ 0 < burnAt b.t c := by
  have h1 := rch_facts hb (h.pre.att c hc hne)
  have h5 := hb.2.2
  exact ⟨by omega, h1.2.1⟩
theorem cell_inT {c : Int} (h : T.length = b.t.burn.length) (hc : IsCell b.t c) : c.toNat < T.length := by
  have := hc; unfold IsCell at this; omega
theorem Mid.val (h : Mid b T) (hb : GoodB b) : 0 ≤ valF T := by
  have h5 := hb.2.2
  unfold valF
  have := sumBy_take_le gval T (fun y hy => by
    obtain ⟨i, hi⟩ := List.getElem?_of_mem hy
    have hlt := get_lt hi
    have hlen := h.pre.len
    have hc : IsCell b.t (i : Int) := ⟨by omega, by omega⟩
    have e := tv_at (T := T) (c := (i : Int)) (by rw [Int.toNat_natCast]; exact hlt)
    rw [Int.toNat_natCast, hi] at e
    injection e with e
    simp only [gval]
    split
    · omega
    · rename_i hne
      rw [e] at hne ⊢
      exact (h.ge hb hc hne).1) T.length
  rw [List.take_length] at this
  omega
theorem Mid.relax (h : Mid b T) (hb : GoodB b) {a c : Int} (he : Edge b a c) (ha : tv T a ≠ -1) (hx : tv T c = -1 ∨ hop b a c (tv T a) < tv T c) :
    Mid b (T.set c.toNat (hop b a c (tv T a))) ∧ valF (T.set c.toNat (hop b a c (tv T a))) < valF T := by
  have g1 := h.ge hb he.1 ha
  have g2 := hop_bnd hb g1.1 he g1.2
  have g3 := h.le hb he.1
  have hcl := cell_inT h.pre.len he.2.1
  have hst := hb.2.2
  have hat := tv_at hcl
  have hcnt : cntF (T.set c.toNat (hop b a c (tv T a))) = cntF T - gfin (tv T c) + 1 := by
    rw [cntF, sumBy_set gfin _ hat, cntF]
    simp only [gfin]
    rw [if_neg (show ¬ hop b a c (tv T a) = -1 by omega)]
  have hset := tv_set (hop b a c (tv T a)) hcl
  have hcell : ∀ y, IsCell b.t y → (y.toNat = c.toNat ↔ y = c) := fun y hy => by
    have h1 := hy.1
    have h2 := he.2.1.1
    omega
  refine ⟨⟨⟨by rw [List.length_set]; exact h.pre.len, fun s hs => ?_, fun y hy hne => ?_⟩, fun y hy => ?_⟩, ?_⟩
  · rw [hset]
    have hl := h.pre.lit s hs
    split
    · rename_i e
      have := (hcell s hs.1).1 e
      subst this
      rcases hx with hx | hx
      · exact absurd hx hl.1
      · omega
    · exact hl
  · rw [hset] at hne ⊢
    split
    · rename_i e
      have := (hcell y hy).1 e
      subst this
      exact .hop (h.pre.att a he.1 ha) he
    · rename_i e
      rw [if_neg e] at hne
      exact h.pre.att y hy hne
  · rw [hset, hcnt]
    have hbc := h.bnd c he.2.1
    have hba := h.bnd a he.1
    have hby := h.bnd y hy
    simp only [gfin]
    split
    · split
      · omega
      · rename_i hne
        rcases hx with hx | hx
        · exact absurd hx hne
        · omega
    · split <;> omega
  · rw [valF, sumBy_set gval _ hat, valF]
    simp only [gval]
    rw [if_neg (show ¬ hop b a c (tv T a) = -1 by omega)]
    split
    · omega
    · rename_i hne
      rcases hx with hx | hx
      · exact absurd hx hne
      · omega
@[reducible] def iniV (b : Blz) (i : Nat) : Int := if 0 < burnAt b.t i ∧ (i : Int) ∈ b.src then b.st else -1
def iniL (b : Blz) : List Int := (List.range b.t.burn.length).map (iniV b)
theorem iniL_len (b : Blz) : (iniL b).length = b.t.burn.length := by simp [iniL]
theorem ini_tv {c : Int} (hc : IsCell b.t c) : tv (iniL b) c = if 0 < burnAt b.t c ∧ c ∈ b.src then b.st else -1 := by
  have h1 := hc; unfold IsCell at h1
  have e : ((c.toNat : Nat) : Int) = c := by omega
  have h2 : c.toNat < b.t.burn.length := by omega
  unfold tv iniL
  rw [List.getD_eq_getElem?_getD, List.getElem?_map, List.getElem?_range h2]
  simp only [Option.map_some, Option.getD_some, iniV, e]
theorem ini_mid (hb : GoodB b) : Mid b (iniL b) := by
  have hst := hb.2.2
  refine ⟨⟨iniL_len b, fun s hs => ?_, fun c hc hne => ?_⟩, fun c hc => ?_⟩
  · rw [ini_tv hs.1, if_pos ⟨hs.2.1, hs.2.2⟩]; omega
  · rw [ini_tv hc] at hne ⊢
    split
    · rename_i h; exact .lit ⟨hc, h.1, h.2⟩
    · rename_i h; rw [if_neg h] at hne; exact absurd rfl hne
  · have := cntF_bnd (iniL b)
    rw [ini_tv hc]
    split <;> omega
end
end Go.Vs
set_option linter.unusedVariables false
set_option linter.unusedSimpArgs false
set_option maxRecDepth 100000
set_option maxHeartbeats 4000000
namespace Go.Vs
open Go.Proofs
attribute [local irreducible] exec vwp thenQ blkQ loopQ RetPost
theorem k_l4Work (t : Terrain) (a c : Int) (hg : GoodT t) (ha : IsCell t a) (hc : IsCell t c) : Con Try.prog 66 [.agg t.pv, .int .i64 a, .int .i64 c] (.int .i64 (wkF t a c)) := by
  intro al
  refine contract_of hmix Try.func66 rfl (by kernel_rfl) (by kernel_rfl) (Nat.le_of_ble_eq_true rfl) (fun row h => by cases h) ?_
  have hty_f26_2 := ty_f26_2
  have hty_c24 := ty_c24
  have hty_s24 := ty_s24
  have hty_c3 := ty_c3
  have hty_f26_0 := ty_f26_0
  have hl1 : (ints t.burn).length = t.burn.length := by simp
  have hw := hg.1.1
  have hx := ints_at (burn_at ha)
  have hy := ints_at (burn_at hc)
  have b1 := burn_bound hg ha
  have b2 := burn_bound hg hc
  have hca := ha
  have hcc := hc
  unfold IsCell at hca hcc
  have hlen := goodT_len hg
  by_cases h1 : a % t.width = c % t.width
  · repeat' (first | (refine pA (k := ?_)) | (refine g_exec ?_; first | (refine g_guard ?_; refine x_gsplit rfl rfl (fun h => ?_) (fun h => ?_) <;> (have h' := h; try simp only [sx] at h')) | (refine x_nil (hK _ _ aI ?_); clear hK K)) | (refine v_region (fun K hK => ?_)) | (refine v_condt rfl (fun h => ?_) (fun h => ?_) <;> (have h' := h; try simp only [sx] at h')))
    all_goals first
      | (exfalso; omega)
      | (refine ret_int rfl (lookE_ok rfl) ?_
         simp only [wkF, colOf, rowOf]
         rw [if_pos (.inl h1)])
  · by_cases h2 : a / t.width = c / t.width
    · repeat' (first | (refine pA (k := ?_)) | (refine g_exec ?_; first | (refine g_guard ?_; refine x_gsplit rfl rfl (fun h => ?_) (fun h => ?_) <;> (have h' := h; try simp only [sx] at h')) | (refine x_nil (hK _ _ aI ?_); clear hK K)) | (refine v_region (fun K hK => ?_)) | (refine v_condt rfl (fun h => ?_) (fun h => ?_) <;> (have h' := h; try simp only [sx] at h')))
      all_goals first
        | (exfalso; omega)
        | (refine ret_int rfl (lookE_ok rfl) ?_
           simp only [wkF, colOf, rowOf]
           rw [if_pos (.inr h2)])
    · repeat' (first | (refine pA (k := ?_)) | (refine g_exec ?_; first | (refine g_guard ?_; refine x_gsplit rfl rfl (fun h => ?_) (fun h => ?_) <;> (have h' := h; try simp only [sx] at h')) | (refine x_nil (hK _ _ aI ?_); clear hK K)) | (refine v_region (fun K hK => ?_)) | (refine v_condt rfl (fun h => ?_) (fun h => ?_) <;> (have h' := h; try simp only [sx] at h')))
      all_goals first
        | (exfalso; omega)
        | (refine ret_int rfl (lookE_ok rfl) ?_
           simp only [wkF, colOf, rowOf]
           rw [if_neg aO])
theorem k_l4Arrivals (b : Blz) (hb : GoodB b) (hs : b.src.length ≤ 1099511627776) :
    Con Try.prog 28 [.agg b.t.pv, .list 2 (b.ps.map Phase.pv), .list 1 (ints b.src), .int .i64 b.st] (.olist 3 1 (ints (arr b))) := by
  intro al
  refine contract_of hmix Try.func28 rfl (by kernel_rfl) (by kernel_rfl) (Nat.le_of_ble_eq_true rfl) (fun row h => by cases h) ?_
  have hty_s24 := ty_s24
  have hty_f26_2 := ty_f26_2
  have hty_c24 := ty_c24
  have hty_u24 := ty_u24
  have hty_c3 := ty_c3
  have hty_a26 := ty_a26
  have hty_u27 := ty_u27
  have hty_s27 := ty_s27
  have hty_t3 := ty_t3
  have hl1 : (ints b.t.burn).length = b.t.burn.length := by simp
  have hg := hb.1.1
  have hlen := goodT_len hg
  have hst := hb.2.2
  repeat' (first | (refine pA (k := ?_)) | (refine g_exec ?_; first | (refine g_guard ?_; refine x_gsplit rfl rfl (fun h => ?_) (fun h => ?_) <;> (have h' := h; try simp only [sx] at h')) | (refine x_nil (hK _ _ aI ?_); clear hK K)) | (refine v_region (fun K hK => ?_)) | (refine v_condt rfl (fun h => ?_) (fun h => ?_) <;> (have h' := h; try simp only [sx] at h')))
  refine v_loopK [1, 2, 3, 4] [] (fun q : Nat × List (List PV) => [(9, .osl (1001, 0) 0 q.1), (10, .int .i64 q.1)]) (fun q : Nat × List (List PV) => [((1001, 0), some ⟨3, 1, q.2, false⟩)]) (fun q : Nat × List (List PV) => q.1 ≤ b.t.burn.length ∧ q.2 = ints ((iniL b).take q.1)) (fun q : Nat × List (List PV) => b.t.burn.length - q.1) ((0, [])) rfl rfl (fun _ => rfl) (fun _ => rfl) rfl (by refine ⟨?_, ?_, rfl, rfl⟩ <;> (repeat' (first | exact trivial | exact ⟨rfl, rfl⟩ | exact rfl | exact ⟨sub_fn, refs_fn⟩ | refine ⟨⟨rfl, rfl⟩, ?_⟩ | refine ⟨⟨sub_fn, refs_fn⟩, ?_⟩ | refine ⟨⟨rfl, fun h => Bool.noConfusion h⟩, ?_⟩ | refine ⟨⟨rfl, fun h => ?_⟩, ?_⟩ | refine ⟨rfl, ?_⟩ | refine ⟨?_, ?_⟩ | fail))) ⟨by simp, by simp⟩ (fun q hq => ?_)
  obtain ⟨i, es⟩ := q
  obtain ⟨hi1, hi2⟩ := hq
  simp only at hi1 hi2
  have hl : es.length = i := by rw [hi2, ints_len, List.length_take, iniL_len]; omega
  dsimp only
  rcases Nat.lt_or_ge i b.t.burn.length with hlt | hge
  · have hci : IsCell b.t (i : Int) := ⟨by omega, by omega⟩
    have hx := ints_at (burn_at hci)
    have hat : (iniL b)[i]? = some (iniV b i) := by simp [iniL, hlt]
    by_cases hc : 0 < burnAt b.t i ∧ (i : Int) ∈ b.src
    · obtain ⟨hc1, hc2⟩ := hc
      have eV : iniV b i = b.st := by rw [iniV, if_pos ⟨hc1, hc2⟩]
      repeat' (first | (refine pA (k := ?_)) | (refine g_exec ?_; first | (refine g_call ?_; refine x_callG true (k_l1Has b.src i hs) rfl rfl rfl aS rfl aH ?_; simp only [cl]) | (refine g_guard ?_; refine x_gsplit rfl rfl (fun h => ?_) (fun h => ?_) <;> (have h' := h; try simp only [sx] at h')) | (refine x_nil (hK _ _ aI ?_); clear hK K)) | (refine v_region (fun K hK => ?_)) | (refine v_condt rfl (fun h => ?_) (fun h => ?_) <;> (have h' := h; try simp only [sx] at h')))
      all_goals first
        | (exfalso; first | omega | exact absurd hc2 aA)
        | (refine q_next (i + 1, es ++ [[.int .i64 b.st]]) rfl (by refine ⟨?_, ?_, rfl, rfl⟩ <;> (repeat' (first | exact trivial | exact ⟨rfl, rfl⟩ | exact rfl | exact ⟨sub_fn, refs_fn⟩ | refine ⟨⟨rfl, rfl⟩, ?_⟩ | refine ⟨⟨sub_fn, refs_fn⟩, ?_⟩ | refine ⟨⟨rfl, fun h => Bool.noConfusion h⟩, ?_⟩ | refine ⟨⟨rfl, fun h => ?_⟩, ?_⟩ | refine ⟨rfl, ?_⟩ | refine ⟨?_, ?_⟩ | fail))) ⟨by simp only; omega, ?_⟩ (by simp only; omega)
           simp only [take_succ hat, ints_snoc, hi2, eV])
    · have eV : iniV b i = -1 := by rw [iniV, if_neg hc]
      repeat' (first | (refine pA (k := ?_)) | (refine g_exec ?_; first | (refine g_call ?_; refine x_callG true (k_l1Has b.src i hs) rfl rfl rfl aS rfl aH ?_; simp only [cl]) | (refine g_guard ?_; refine x_gsplit rfl rfl (fun h => ?_) (fun h => ?_) <;> (have h' := h; try simp only [sx] at h')) | (refine x_nil (hK _ _ aI ?_); clear hK K)) | (refine v_region (fun K hK => ?_)) | (refine v_condt rfl (fun h => ?_) (fun h => ?_) <;> (have h' := h; try simp only [sx] at h')))
      all_goals first
        | (exfalso; exact hc ⟨by assumption, by assumption⟩)
        | (refine q_next (i + 1, es ++ [[.int .i64 (-1)]]) rfl (by refine ⟨?_, ?_, rfl, rfl⟩ <;> (repeat' (first | exact trivial | exact ⟨rfl, rfl⟩ | exact rfl | exact ⟨sub_fn, refs_fn⟩ | refine ⟨⟨rfl, rfl⟩, ?_⟩ | refine ⟨⟨sub_fn, refs_fn⟩, ?_⟩ | refine ⟨⟨rfl, fun h => Bool.noConfusion h⟩, ?_⟩ | refine ⟨⟨rfl, fun h => ?_⟩, ?_⟩ | refine ⟨rfl, ?_⟩ | refine ⟨?_, ?_⟩ | fail))) ⟨by simp only; omega, ?_⟩ (by simp only; omega)
           simp only [take_succ hat, ints_snoc, hi2, eV])
  have hi3 : i = b.t.burn.length := by omega
  subst hi3
  rw [take_all (by rw [iniL_len]; exact Nat.le_refl _)] at hi2
  subst hi2
  repeat' (first | (refine pA (k := ?_)) | (refine g_exec ?_; first | (refine g_guard ?_; refine x_gsplit rfl rfl (fun h => ?_) (fun h => ?_) <;> (have h' := h; try simp only [sx] at h')) | (refine x_nil (hK _ _ aI ?_); clear hK K)) | (refine v_region (fun K hK => ?_)) | (refine v_condt rfl (fun h => ?_) (fun h => ?_) <;> (have h' := h; try simp only [sx] at h')))
  refine v_loopK [1, 4] [] (fun q : List (List PV) × List Int × Bool => [(9, .osl (1001, 0) 0 b.t.burn.length), (11, .bool q.2.2)]) (fun q : List (List PV) × List Int × Bool => [((1001, 0), some ⟨3, 1, q.1, false⟩)]) (fun q : List (List PV) × List Int × Bool => q.1 = ints q.2.1 ∧ Mid b q.2.1 ∧ (q.2.2 = false → ∀ a, IsCell b.t a → Clsd b q.2.1 a)) (fun q : List (List PV) × List Int × Bool => (if q.2.2 = true then valF q.2.1 + 1 else 0).toNat) ((ints (iniL b), iniL b, true)) rfl rfl (fun _ => rfl) (fun _ => rfl) rfl (by refine ⟨?_, ?_, rfl, rfl⟩ <;> (repeat' (first | exact trivial | exact ⟨rfl, rfl⟩ | exact rfl | exact ⟨sub_fn, refs_fn⟩ | refine ⟨⟨rfl, rfl⟩, ?_⟩ | refine ⟨⟨sub_fn, refs_fn⟩, ?_⟩ | refine ⟨⟨rfl, fun h => Bool.noConfusion h⟩, ?_⟩ | refine ⟨⟨rfl, fun h => ?_⟩, ?_⟩ | refine ⟨rfl, ?_⟩ | refine ⟨?_, ?_⟩ | fail))) ⟨rfl, ini_mid hb, fun h => by cases h⟩ (fun q hq => ?_)
  obtain ⟨es, T, again⟩ := q
  obtain ⟨hq1, hq2, hq3⟩ := hq
  simp only at hq1 hq2 hq3
  have hle : es.length = b.t.burn.length := by rw [hq1, ints_len, hq2.pre.len]
  dsimp only
  cases again
  · repeat' (first | (refine pA (k := ?_)) | (refine g_exec ?_; first | (refine g_guard ?_; refine x_gsplit rfl rfl (fun h => ?_) (fun h => ?_) <;> (have h' := h; try simp only [sx] at h')) | (refine x_nil (hK _ _ aI ?_); clear hK K)) | (refine v_region (fun K hK => ?_)) | (refine v_condt rfl (fun h => ?_) (fun h => ?_) <;> (have h' := h; try simp only [sx] at h')))
    have : T = arr b := arr_eq hb ⟨hq2.pre, hq3 rfl⟩
    exact ret_list rfl (lookE_ok (by rfl)) (by rfl) (by decide) hle.symm (by rw [hq1]; exact ints_flat _) (by rw [hq1, this])
  · have hvT := hq2.val hb
    repeat' (first | (refine pA (k := ?_)) | (refine g_exec ?_; first | (refine g_guard ?_; refine x_gsplit rfl rfl (fun h => ?_) (fun h => ?_) <;> (have h' := h; try simp only [sx] at h')) | (refine x_nil (hK _ _ aI ?_); clear hK K)) | (refine v_region (fun K hK => ?_)) | (refine v_condt rfl (fun h => ?_) (fun h => ?_) <;> (have h' := h; try simp only [sx] at h')))
    refine v_loopK [1, 4] [] (fun r : Nat × List (List PV) × List Int × Bool => [(9, .osl (1001, 0) 0 b.t.burn.length), (11, .bool r.2.2.2), (12, .int .i64 r.1)]) (fun r : Nat × List (List PV) × List Int × Bool => [((1001, 0), some ⟨3, 1, r.2.1, false⟩)]) (fun r : Nat × List (List PV) × List Int × Bool => r.1 ≤ b.t.burn.length ∧ r.2.1 = ints r.2.2.1 ∧ Mid b r.2.2.1 ∧ (r.2.2.2 = false → r.2.2.1 = T ∧ ∀ a : Nat, a < r.1 → Clsd b T a) ∧ (r.2.2.2 = true → valF r.2.2.1 < valF T)) (fun r : Nat × List (List PV) × List Int × Bool => b.t.burn.length - r.1) ((0, es, T, false)) rfl rfl (fun _ => rfl) (fun _ => rfl) rfl (by refine ⟨?_, ?_, rfl, rfl⟩ <;> (repeat' (first | exact trivial | exact ⟨rfl, rfl⟩ | exact rfl | exact ⟨sub_fn, refs_fn⟩ | refine ⟨⟨rfl, rfl⟩, ?_⟩ | refine ⟨⟨sub_fn, refs_fn⟩, ?_⟩ | refine ⟨⟨rfl, fun h => Bool.noConfusion h⟩, ?_⟩ | refine ⟨⟨rfl, fun h => ?_⟩, ?_⟩ | refine ⟨rfl, ?_⟩ | refine ⟨?_, ?_⟩ | fail))) ⟨by simp, hq1, hq2, fun _ => ⟨rfl, fun a h => by simp at h⟩, fun h => by cases h⟩ (fun r hr => ?_)
    obtain ⟨a, fs, U, ag⟩ := r
    obtain ⟨hr1, hr2, hr3, hr4, hr5⟩ := hr
    simp only at hr1 hr2 hr3 hr4 hr5
    have hlf : fs.length = b.t.burn.length := by rw [hr2, ints_len, hr3.pre.len]
    dsimp only
    rcases Nat.lt_or_ge a b.t.burn.length with hlt | hge
    · have hca : IsCell b.t (a : Int) := ⟨by omega, by omega⟩
      have hfa : fs[a]? = some [.int .i64 (tv U a)] := by rw [hr2]; exact tv_nat (by rw [hr3.pre.len]; exact hlt)
      by_cases hu : tv U a = -1
      · repeat' (first | (refine pA (k := ?_)) | (refine g_exec ?_; first | (refine g_guard ?_; refine x_gsplit rfl rfl (fun h => ?_) (fun h => ?_) <;> (have h' := h; try simp only [sx] at h')) | (refine x_nil (hK _ _ aI ?_); clear hK K)) | (refine v_region (fun K hK => ?_)) | (refine v_condt rfl (fun h => ?_) (fun h => ?_) <;> (have h' := h; try simp only [sx] at h')))
        all_goals try (exfalso; omega)
        refine q_next (a + 1, fs, U, ag) rfl (by refine ⟨?_, ?_, rfl, rfl⟩ <;> (repeat' (first | exact trivial | exact ⟨rfl, rfl⟩ | exact rfl | exact ⟨sub_fn, refs_fn⟩ | refine ⟨⟨rfl, rfl⟩, ?_⟩ | refine ⟨⟨sub_fn, refs_fn⟩, ?_⟩ | refine ⟨⟨rfl, fun h => Bool.noConfusion h⟩, ?_⟩ | refine ⟨⟨rfl, fun h => ?_⟩, ?_⟩ | refine ⟨rfl, ?_⟩ | refine ⟨?_, ?_⟩ | fail))) ⟨by simp only; omega, hr2, hr3, fun h => ⟨(hr4 h).1, fun a' ha' => ?_⟩, hr5⟩ (by simp only; omega)
        simp only at ha'
        rcases Nat.lt_or_ge a' a with h1 | h1
        · exact (hr4 h).2 a' h1
        · have : a' = a := by omega
          subst this
          intro hne
          rw [← (hr4 h).1] at hne
          exact absurd hu hne
      · have ln : (ints (nears b.t a)).length = (nears b.t a).length := by simp
        have hnl := nears_len b.t a
        repeat' (first | (refine pA (k := ?_)) | (refine g_exec ?_; first | (refine g_call ?_; refine x_callG true (k_l2Near b.t a hg hca) rfl rfl rfl aS rfl aH ?_; simp only [cl]) | (refine g_guard ?_; refine x_gsplit rfl rfl (fun h => ?_) (fun h => ?_) <;> (have h' := h; try simp only [sx] at h')) | (refine x_nil (hK _ _ aI ?_); clear hK K)) | (refine v_region (fun K hK => ?_)) | (refine v_condt rfl (fun h => ?_) (fun h => ?_) <;> (have h' := h; try simp only [sx] at h')))
        all_goals try (exfalso; omega)
        refine v_loopK [1, 4, 12, 13] [] (fun s : Nat × List (List PV) × List Int × Bool => [(9, .osl (1001, 0) 0 b.t.burn.length), (11, .bool s.2.2.2), (14, .int .i64 s.1)]) (fun s : Nat × List (List PV) × List Int × Bool => [((1001, 0), some ⟨3, 1, s.2.1, false⟩)]) (fun s : Nat × List (List PV) × List Int × Bool => s.1 ≤ (nears b.t a).length ∧ s.2.1 = ints s.2.2.1 ∧ Mid b s.2.2.1 ∧ tv s.2.2.1 a ≠ -1 ∧ (s.2.2.2 = false → s.2.2.1 = T ∧ (∀ a' : Nat, a' < a → Clsd b T a') ∧ ∀ j, j < s.1 → ∀ c, (nears b.t a)[j]? = some c → 0 < burnAt b.t c → tv T c ≠ -1 ∧ tv T c ≤ hop b a c (tv T a)) ∧ (s.2.2.2 = true → valF s.2.2.1 < valF T)) (fun s : Nat × List (List PV) × List Int × Bool => (nears b.t a).length - s.1) ((0, fs, U, ag)) rfl rfl (fun _ => rfl) (fun _ => rfl) rfl (by refine ⟨?_, ?_, rfl, rfl⟩ <;> (repeat' (first | exact trivial | exact ⟨rfl, rfl⟩ | exact rfl | exact ⟨sub_fn, refs_fn⟩ | refine ⟨⟨rfl, rfl⟩, ?_⟩ | refine ⟨⟨sub_fn, refs_fn⟩, ?_⟩ | refine ⟨⟨rfl, fun h => Bool.noConfusion h⟩, ?_⟩ | refine ⟨⟨rfl, fun h => ?_⟩, ?_⟩ | refine ⟨rfl, ?_⟩ | refine ⟨?_, ?_⟩ | fail))) ⟨by simp, hr2, hr3, hu, fun h => ⟨(hr4 h).1, (hr4 h).2, fun j hj => by simp at hj⟩, hr5⟩ (fun s hs => ?_)
        obtain ⟨k, gs, V, bg⟩ := s
        obtain ⟨hs1, hs2, hs3, hs4, hs5, hs6⟩ := hs
        simp only at hs1 hs2 hs3 hs4 hs5 hs6
        have hlg : gs.length = b.t.burn.length := by rw [hs2, ints_len, hs3.pre.len]
        have hga : gs[a]? = some [.int .i64 (tv V a)] := by rw [hs2]; exact tv_nat (by rw [hs3.pre.len]; exact hlt)
        dsimp only
        rcases Nat.lt_or_ge k (nears b.t a).length with hkt | hkg
        · obtain ⟨c, hc⟩ := get_ex hkt
          have hxc := ints_at hc
          have hnc := nears_mem.1 (get_mem hc)
          have hcc := hnc.1
          unfold IsCell at hcc
          have hbc := ints_at (burn_at hnc.1)
          have hbb := burn_bound hg hnc.1
          have hgc : gs[c.toNat]? = some [.int .i64 (tv V c)] := by rw [hs2]; exact tv_int (cell_inT hs3.pre.len hnc.1)
          by_cases hb0 : burnAt b.t c = 0
          · repeat' (first | (refine pA (k := ?_)) | (refine g_exec ?_; first | (refine g_guard ?_; refine x_gsplit rfl rfl (fun h => ?_) (fun h => ?_) <;> (have h' := h; try simp only [sx] at h')) | (refine x_nil (hK _ _ aI ?_); clear hK K)) | (refine v_region (fun K hK => ?_)) | (refine v_condt rfl (fun h => ?_) (fun h => ?_) <;> (have h' := h; try simp only [sx] at h')))
            all_goals try (exfalso; omega)
            refine q_next (k + 1, gs, V, bg) rfl (by refine ⟨?_, ?_, rfl, rfl⟩ <;> (repeat' (first | exact trivial | exact ⟨rfl, rfl⟩ | exact rfl | exact ⟨sub_fn, refs_fn⟩ | refine ⟨⟨rfl, rfl⟩, ?_⟩ | refine ⟨⟨sub_fn, refs_fn⟩, ?_⟩ | refine ⟨⟨rfl, fun h => Bool.noConfusion h⟩, ?_⟩ | refine ⟨⟨rfl, fun h => ?_⟩, ?_⟩ | refine ⟨rfl, ?_⟩ | refine ⟨?_, ?_⟩ | fail))) ⟨by simp only; omega, hs2, hs3, hs4, fun h => ⟨(hs5 h).1, (hs5 h).2.1, fun j hj c' hc' hb' => ?_⟩, hs6⟩ (by simp only; omega)
            simp only at hj
            rcases Nat.lt_or_ge j k with h1 | h1
            · exact (hs5 h).2.2 j h1 c' hc' hb'
            · have : j = k := by omega
              subst this
              rw [hc] at hc'
              injection hc' with hc'
              subst hc'
              omega
          · have he : Edge b a c := ⟨hca, hnc.1, hnc.2, by omega⟩
            have hva := hs3.ge hb hca hs4
            have hval := hs3.le hb hca
            have hwk := wk_bnd hb hca hnc.1
            have hop1 := hop_bnd hb hva.1 he hva.2
            have hvc := hs3.le hb hnc.1
            have kW := k_l4Work b.t a c hg hca hnc.1
            have kD : Con Try.prog 65 [.list 2 (b.ps.map Phase.pv), .int .i64 (tv V a), .int .i64 (wkF b.t a c)] (.int .i64 (hop b a c (tv V a))) := k_l4Done b.ps (tv V a) (wkF b.t a c) hb.2.1 aO aO
            generalize hxx : hop b a c (tv V a) = x at *
            generalize hww : wkF b.t a c = wk at *
            by_cases hx : tv V c = -1 ∨ x < tv V c
            · have hrel := hs3.relax hb he hs4 (by rw [hxx]; exact hx)
              rw [hxx] at hrel
              repeat' (first | (refine pA (k := ?_)) | (refine g_exec ?_; first | (refine g_call ?_; first | (refine x_callG true (kW) rfl rfl rfl aS rfl aH ?_; simp only [cl]) | (refine x_callG true (kD) rfl rfl rfl aS rfl aH ?_; simp only [cl])) | (refine g_guard ?_; refine x_gsplit rfl rfl (fun h => ?_) (fun h => ?_) <;> (have h' := h; try simp only [sx] at h')) | (refine x_nil (hK _ _ aI ?_); clear hK K)) | (refine v_region (fun K hK => ?_)) | (refine v_condt rfl (fun h => ?_) (fun h => ?_) <;> (have h' := h; try simp only [sx] at h')))
              all_goals first
                | (exfalso; omega)
                | (refine q_next (k + 1, gs.set c.toNat [.int .i64 x], V.set c.toNat x, true) rfl (by refine ⟨?_, ?_, rfl, rfl⟩ <;> (repeat' (first | exact trivial | exact ⟨rfl, rfl⟩ | exact rfl | exact ⟨sub_fn, refs_fn⟩ | refine ⟨⟨rfl, rfl⟩, ?_⟩ | refine ⟨⟨sub_fn, refs_fn⟩, ?_⟩ | refine ⟨⟨rfl, fun h => Bool.noConfusion h⟩, ?_⟩ | refine ⟨⟨rfl, fun h => ?_⟩, ?_⟩ | refine ⟨rfl, ?_⟩ | refine ⟨?_, ?_⟩ | fail))) ⟨by simp only; omega, by simp only [ints_set, hs2], hrel.1, ?_, fun h => (by cases h), fun _ => ?_⟩ (by simp only; omega)
                   · simp only [tv_set x (cell_inT hs3.pre.len hnc.1)]
                     split
                     · omega
                     · exact hs4
                   · have h2 := hrel.2
                     cases bg
                     · have := (hs5 rfl).1; subst this; exact h2
                     · have := hs6 rfl; simp only; omega)
            · repeat' (first | (refine pA (k := ?_)) | (refine g_exec ?_; first | (refine g_call ?_; first | (refine x_callG true (kW) rfl rfl rfl aS rfl aH ?_; simp only [cl]) | (refine x_callG true (kD) rfl rfl rfl aS rfl aH ?_; simp only [cl])) | (refine g_guard ?_; refine x_gsplit rfl rfl (fun h => ?_) (fun h => ?_) <;> (have h' := h; try simp only [sx] at h')) | (refine x_nil (hK _ _ aI ?_); clear hK K)) | (refine v_region (fun K hK => ?_)) | (refine v_condt rfl (fun h => ?_) (fun h => ?_) <;> (have h' := h; try simp only [sx] at h')))
              all_goals first
                | (exfalso; omega)
                | (refine q_next (k + 1, gs, V, bg) rfl (by refine ⟨?_, ?_, rfl, rfl⟩ <;> (repeat' (first | exact trivial | exact ⟨rfl, rfl⟩ | exact rfl | exact ⟨sub_fn, refs_fn⟩ | refine ⟨⟨rfl, rfl⟩, ?_⟩ | refine ⟨⟨sub_fn, refs_fn⟩, ?_⟩ | refine ⟨⟨rfl, fun h => Bool.noConfusion h⟩, ?_⟩ | refine ⟨⟨rfl, fun h => ?_⟩, ?_⟩ | refine ⟨rfl, ?_⟩ | refine ⟨?_, ?_⟩ | fail))) ⟨by simp only; omega, hs2, hs3, hs4, fun h => ⟨(hs5 h).1, (hs5 h).2.1, fun j hj c' hc' hb' => ?_⟩, hs6⟩ (by simp only; omega)
                   simp only at hj
                   rcases Nat.lt_or_ge j k with h1 | h1
                   · exact (hs5 h).2.2 j h1 c' hc' hb'
                   · have : j = k := by omega
                     subst this
                     rw [hc] at hc'
                     injection hc' with hc'
                     subst hc'
                     have hVT := (hs5 h).1
                     subst hVT
                     rw [hxx]
                     omega)
        · repeat' (first | (refine pA (k := ?_)) | (refine g_exec ?_; first | (refine g_guard ?_; refine x_gsplit rfl rfl (fun h => ?_) (fun h => ?_) <;> (have h' := h; try simp only [sx] at h')) | (refine x_nil (hK _ _ aI ?_); clear hK K)) | (refine v_region (fun K hK => ?_)) | (refine v_condt rfl (fun h => ?_) (fun h => ?_) <;> (have h' := h; try simp only [sx] at h')))
          refine q_next (a + 1, gs, V, bg) rfl (by refine ⟨?_, ?_, rfl, rfl⟩ <;> (repeat' (first | exact trivial | exact ⟨rfl, rfl⟩ | exact rfl | exact ⟨sub_fn, refs_fn⟩ | refine ⟨⟨rfl, rfl⟩, ?_⟩ | refine ⟨⟨sub_fn, refs_fn⟩, ?_⟩ | refine ⟨⟨rfl, fun h => Bool.noConfusion h⟩, ?_⟩ | refine ⟨⟨rfl, fun h => ?_⟩, ?_⟩ | refine ⟨rfl, ?_⟩ | refine ⟨?_, ?_⟩ | fail))) ⟨by simp only; omega, hs2, hs3, fun h => ⟨(hs5 h).1, fun a' ha' => ?_⟩, hs6⟩ (by simp only; omega)
          simp only at ha'
          rcases Nat.lt_or_ge a' a with h1 | h1
          · exact (hs5 h).2.1 a' h1
          · have : a' = a := by omega
            subst this
            intro hne c he
            obtain ⟨j, hj⟩ := List.getElem?_of_mem (nears_mem.2 ⟨he.2.1, he.2.2.1⟩)
            exact (hs5 h).2.2 j (by have := get_lt hj; omega) c hj he.2.2.2
    · repeat' (first | (refine pA (k := ?_)) | (refine g_exec ?_; first | (refine g_guard ?_; refine x_gsplit rfl rfl (fun h => ?_) (fun h => ?_) <;> (have h' := h; try simp only [sx] at h')) | (refine x_nil (hK _ _ aI ?_); clear hK K)) | (refine v_region (fun K hK => ?_)) | (refine v_condt rfl (fun h => ?_) (fun h => ?_) <;> (have h' := h; try simp only [sx] at h')))
      refine q_next (fs, U, ag) rfl (by refine ⟨?_, ?_, rfl, rfl⟩ <;> (repeat' (first | exact trivial | exact ⟨rfl, rfl⟩ | exact rfl | exact ⟨sub_fn, refs_fn⟩ | refine ⟨⟨rfl, rfl⟩, ?_⟩ | refine ⟨⟨sub_fn, refs_fn⟩, ?_⟩ | refine ⟨⟨rfl, fun h => Bool.noConfusion h⟩, ?_⟩ | refine ⟨⟨rfl, fun h => ?_⟩, ?_⟩ | refine ⟨rfl, ?_⟩ | refine ⟨?_, ?_⟩ | fail))) ⟨hr2, hr3, fun h a ha => ?_⟩ ?_
      · simp only at h ⊢
        have h4 := hr4 h
        rw [h4.1]
        have h5 := ha; unfold IsCell at h5
        have := h4.2 a.toNat aO
        rwa [show ((a.toNat : Nat) : Int) = a by omega] at this
      · have hvU := hr3.val hb
        simp only [if_true]
        cases ag
        · simp; omega
        · have := hr5 rfl
          simp only [if_true]
          omega
end Go.Vs
set_option linter.unusedVariables false
set_option linter.unusedSimpArgs false
set_option maxRecDepth 100000
set_option maxHeartbeats 4000000
namespace Go.Vs
open Go.Proofs
attribute [local irreducible] exec vwp thenQ blkQ loopQ RetPost
theorem k_work (t : Terrain) (a c : Int) (hg : GoodT t) (ha : IsCell t a) (hc : IsCell t c) : Con Try.prog 55 [.agg t.pv, .int .i64 a, .int .i64 c] (.int .i64 (wkF t a c)) := by
  intro al
  refine contract_of hmix Try.func55 rfl (by kernel_rfl) (by kernel_rfl) (Nat.le_of_ble_eq_true rfl) (fun row h => by cases h) ?_
  have hty_f26_2 := ty_f26_2
  have hty_c24 := ty_c24
  have hty_s24 := ty_s24
  have hty_c3 := ty_c3
  have hty_a26 := ty_a26
  have hl1 : (ints t.burn).length = t.burn.length := by simp
  have hw := hg.1.1
  have hx := ints_at (burn_at ha)
  have hy := ints_at (burn_at hc)
  have b1 := burn_bound hg ha
  have b2 := burn_bound hg hc
  have hca := ha
  have hcc := hc
  unfold IsCell at hca hcc
  have hlen := goodT_len hg
  by_cases h1 : a % t.width = c % t.width
  · repeat' (first | (refine pA (k := ?_)) | (refine g_exec ?_; first | (refine g_call ?_; first | (refine x_callG true (k_column t a hw.1 aO) rfl rfl rfl aS rfl aH ?_; simp only [cl]) | (refine x_callG true (k_column t c hw.1 aO) rfl rfl rfl aS rfl aH ?_; simp only [cl]) | (refine x_callG true (k_row t a hw.1 aO) rfl rfl rfl aS rfl aH ?_; simp only [cl]) | (refine x_callG true (k_row t c hw.1 aO) rfl rfl rfl aS rfl aH ?_; simp only [cl])) | (refine g_guard ?_; refine x_gsplit rfl rfl (fun h => ?_) (fun h => ?_) <;> (have h' := h; try simp only [sx] at h')) | (refine x_nil (hK _ _ aI ?_); clear hK K)) | (refine v_region (fun K hK => ?_)) | (refine v_condt rfl (fun h => ?_) (fun h => ?_) <;> (have h' := h; try simp only [sx] at h')))
    all_goals first
      | (exfalso; omega)
      | (refine ret_int rfl (lookE_ok rfl) ?_
         simp only [wkF, colOf, rowOf]
         rw [if_pos (.inl h1)])
  · by_cases h2 : a / t.width = c / t.width
    · repeat' (first | (refine pA (k := ?_)) | (refine g_exec ?_; first | (refine g_call ?_; first | (refine x_callG true (k_column t a hw.1 aO) rfl rfl rfl aS rfl aH ?_; simp only [cl]) | (refine x_callG true (k_column t c hw.1 aO) rfl rfl rfl aS rfl aH ?_; simp only [cl]) | (refine x_callG true (k_row t a hw.1 aO) rfl rfl rfl aS rfl aH ?_; simp only [cl]) | (refine x_callG true (k_row t c hw.1 aO) rfl rfl rfl aS rfl aH ?_; simp only [cl])) | (refine g_guard ?_; refine x_gsplit rfl rfl (fun h => ?_) (fun h => ?_) <;> (have h' := h; try simp only [sx] at h')) | (refine x_nil (hK _ _ aI ?_); clear hK K)) | (refine v_region (fun K hK => ?_)) | (refine v_condt rfl (fun h => ?_) (fun h => ?_) <;> (have h' := h; try simp only [sx] at h')))
      all_goals first
        | (exfalso; omega)
        | (refine ret_int rfl (lookE_ok rfl) ?_
           simp only [wkF, colOf, rowOf]
           rw [if_pos (.inr h2)])
    · repeat' (first | (refine pA (k := ?_)) | (refine g_exec ?_; first | (refine g_call ?_; first | (refine x_callG true (k_column t a hw.1 aO) rfl rfl rfl aS rfl aH ?_; simp only [cl]) | (refine x_callG true (k_column t c hw.1 aO) rfl rfl rfl aS rfl aH ?_; simp only [cl]) | (refine x_callG true (k_row t a hw.1 aO) rfl rfl rfl aS rfl aH ?_; simp only [cl]) | (refine x_callG true (k_row t c hw.1 aO) rfl rfl rfl aS rfl aH ?_; simp only [cl])) | (refine g_guard ?_; refine x_gsplit rfl rfl (fun h => ?_) (fun h => ?_) <;> (have h' := h; try simp only [sx] at h')) | (refine x_nil (hK _ _ aI ?_); clear hK K)) | (refine v_region (fun K hK => ?_)) | (refine v_condt rfl (fun h => ?_) (fun h => ?_) <;> (have h' := h; try simp only [sx] at h')))
      all_goals first
        | (exfalso; omega)
        | (refine ret_int rfl (lookE_ok rfl) ?_
           simp only [wkF, colOf, rowOf]
           rw [if_neg aO])
theorem k_filterIntT (xs : List Int) (g : FuncId) (t : Terrain) (p : Int → Bool) (hg : ∀ a ∈ xs, Con Try.prog g [.agg t.pv, .int .i64 a] (.bool (p a))) (hn : xs.length ≤ 1099511627776) :
    Con Try.prog 51 [.list 1 (ints xs), .fn g [.agg t.pv] []] (.olist 3 1 (ints (xs.filter p))) := by
  intro al
  refine contract_of hmix Try.func51 rfl (by kernel_rfl) (by kernel_rfl) (Nat.le_of_ble_eq_true rfl) (fun row h => by cases h) ?_
  have hty_s24 := ty_s24
  have hty_u24 := ty_u24
  have hty_c3 := ty_c3
  have hl1 : (ints xs).length = xs.length := by simp
  repeat' (first | (refine pA (k := ?_)) | (refine g_exec ?_; refine x_nil (hK _ _ aI ?_); clear hK K) | (refine v_region (fun K hK => ?_)) | (refine v_condt rfl (fun h => ?_) (fun h => ?_) <;> (have h' := h; try simp only [sx] at h')))
  refine v_loopK [1, 9, 10] [] (fun q : Nat × Nat × List (List PV) => [(5, .osl (1001, 0) 0 q.2.1), (11, .int .i64 q.1)]) (fun q : Nat × Nat × List (List PV) => [((1001, 0), some ⟨3, 1, q.2.2, false⟩)]) (fun q : Nat × Nat × List (List PV) => q.1 ≤ xs.length ∧ q.2.2 = ints ((xs.take q.1).filter p) ∧ q.2.2.length = q.2.1) (fun q : Nat × Nat × List (List PV) => xs.length - q.1) ((0, 0, [])) rfl rfl (fun _ => rfl) (fun _ => rfl) rfl (by refine ⟨?_, ?_, rfl, rfl⟩ <;> (repeat' (first | exact trivial | exact ⟨rfl, rfl⟩ | exact rfl | exact ⟨sub_fn, refs_fn⟩ | refine ⟨⟨rfl, rfl⟩, ?_⟩ | refine ⟨⟨sub_fn, refs_fn⟩, ?_⟩ | refine ⟨⟨rfl, fun h => Bool.noConfusion h⟩, ?_⟩ | refine ⟨⟨rfl, fun h => ?_⟩, ?_⟩ | refine ⟨rfl, ?_⟩ | refine ⟨?_, ?_⟩ | fail))) ⟨by simp, by simp, rfl⟩ (fun q hq => ?_)
  obtain ⟨i, m, es⟩ := q
  obtain ⟨hi1, hi2, hl⟩ := hq
  simp only at hi1 hi2 hl
  have hle : es.length ≤ i := by rw [hi2]; simp only [List.length_map]; exact Nat.le_trans (List.length_filter_le _ _) (by rw [List.length_take]; omega)
  rcases Nat.lt_or_ge i xs.length with hlt | hge
  · obtain ⟨a, hga⟩ := get_ex hlt
    have hx := ints_at hga
    have kg := hg a (get_mem hga)
    dsimp only
    repeat' (first | (refine pA (k := ?_)) | (refine g_exec ?_; first | (refine g_call ?_; first | (refine x_callG true (kg) rfl rfl rfl aS rfl aH ?_; simp only [cl]) | (refine x_call [] _ (kg) rfl rfl aS rfl aH ?_; simp only [cl])) | (refine x_nil (hK _ _ aI ?_); clear hK K)) | (refine v_region (fun K hK => ?_)) | (refine v_condt rfl (fun h => ?_) (fun h => ?_) <;> (have h' := h; try simp only [sx] at h')))
    · refine q_next (i + 1, m + 1, es ++ [[.int .i64 a]]) rfl (by refine ⟨?_, ?_, rfl, rfl⟩ <;> (repeat' (first | exact trivial | exact ⟨rfl, rfl⟩ | exact rfl | exact ⟨sub_fn, refs_fn⟩ | refine ⟨⟨rfl, rfl⟩, ?_⟩ | refine ⟨⟨sub_fn, refs_fn⟩, ?_⟩ | refine ⟨⟨rfl, fun h => Bool.noConfusion h⟩, ?_⟩ | refine ⟨⟨rfl, fun h => ?_⟩, ?_⟩ | refine ⟨rfl, ?_⟩ | refine ⟨?_, ?_⟩ | fail))) ⟨by simp only; omega, ?_, by simp [hl]⟩ (by simp only; omega)
      simp only [filter_take_t hga (show p a = true by assumption), ints_snoc, hi2, List.map_cons, List.map_nil]
    · refine q_next (i + 1, m, es) rfl (by refine ⟨?_, ?_, rfl, rfl⟩ <;> (repeat' (first | exact trivial | exact ⟨rfl, rfl⟩ | exact rfl | exact ⟨sub_fn, refs_fn⟩ | refine ⟨⟨rfl, rfl⟩, ?_⟩ | refine ⟨⟨sub_fn, refs_fn⟩, ?_⟩ | refine ⟨⟨rfl, fun h => Bool.noConfusion h⟩, ?_⟩ | refine ⟨⟨rfl, fun h => ?_⟩, ?_⟩ | refine ⟨rfl, ?_⟩ | refine ⟨?_, ?_⟩ | fail))) ⟨by simp only; omega, ?_, hl⟩ (by simp only; omega)
      simp only [filter_take_f hga (show p a = false by assumption), hi2]
  · repeat' (first | (refine pA (k := ?_)) | (refine g_exec ?_; refine x_nil (hK _ _ aI ?_); clear hK K) | (refine v_region (fun K hK => ?_)) | (refine v_condt rfl (fun h => ?_) (fun h => ?_) <;> (have h' := h; try simp only [sx] at h')))
    have : xs.take i = xs := take_all aO
    rw [this] at hi2
    subst hi2
    exact ret_list rfl (lookE_ok (by rfl)) (by rfl) (by decide) hl.symm (ints_flat _) rfl
@[reducible] def bools (F : List Bool) : List (List PV) := F.map fun b => [PV.bool b]
theorem bools_set (F : List Bool) (i : Nat) (x : Bool) : bools (F.set i x) = (bools F).set i [PV.bool x] := by simp [bools, List.map_set]
def fv (F : List Bool) (c : Int) : Bool := F.getD c.toNat false
theorem fv_at {F : List Bool} {c : Int} (h : c.toNat < F.length) : (bools F)[c.toNat]? = some [PV.bool (fv F c)] := by
  obtain ⟨a, ha⟩ := get_ex h
  have : fv F c = a := by simp [fv, List.getD_eq_getElem?_getD, ha]
  simp [bools, ha, this]
theorem fv_set {F : List Bool} {i : Nat} (x : Bool) (h : i < F.length) (c : Int) : fv (F.set i x) c = if c.toNat = i then x else fv F c := by
  unfold fv
  rw [List.getD_eq_getElem?_getD, List.getD_eq_getElem?_getD, List.getElem?_set]
  by_cases he : i = c.toNat
  · simp [he, he ▸ h]
  · simp [he, Ne.symm he]
@[reducible] def gfree (f : Bool) : Int := if f = true then 0 else 1
def freeN (F : List Bool) : Int := sumBy gfree F
theorem freeN_ge (F : List Bool) : 0 ≤ freeN F := by
  have := sumBy_bound gfree 1 F fun y _ => by simp only [gfree]; split <;> omega
  unfold freeN; omega
theorem freeN_set {F : List Bool} {i : Nat} (h : F[i]? = some false) : freeN (F.set i true) = freeN F - 1 := by
  rw [freeN, sumBy_set gfree true h, freeN]
  simp [gfree]
theorem tv_extB {b : Blz} {T U : List Int} (h1 : T.length = b.t.burn.length) (h2 : U.length = b.t.burn.length) (h : ∀ c, IsCell b.t c → tv T c = tv U c) : T = U := List.ext_getElem? fun j => by
  by_cases hj : j < b.t.burn.length
  · have e1 := tv_at (T := T) (c := (j : Int)) (by rw [Int.toNat_natCast, h1]; exact hj)
    have e2 := tv_at (T := U) (c := (j : Int)) (by rw [Int.toNat_natCast, h2]; exact hj)
    rw [Int.toNat_natCast] at e1 e2
    rw [e1, e2, h j ⟨by omega, by omega⟩]
  · rw [List.getElem?_eq_none aO, List.getElem?_eq_none aO]
structure Fix (b : Blz) (T : List Int) (F : List Bool) : Prop where
  len : F.length = b.t.burn.length
  fin : ∀ a, IsCell b.t a → fv F a = true → tv T a ≠ -1 ∧ Clsd b T a
  ord : ∀ a c, IsCell b.t a → IsCell b.t c → fv F a = true → fv F c = false → tv T c ≠ -1 → tv T a ≤ tv T c
def BestOf (T : List Int) (F : List Bool) (i : Nat) (m : Int) : Prop :=
  (m = -1 ∧ ∀ c : Nat, c < i → fv F c = true ∨ tv T c = -1) ∨
  (0 ≤ m ∧ m < i ∧ fv F m = false ∧ tv T m ≠ -1 ∧ ∀ c : Nat, c < i → fv F c = false → tv T c ≠ -1 → tv T m ≤ tv T c)
theorem best_same {T : List Int} {F : List Bool} {i : Nat} {m : Int} (h : BestOf T F i m) (hi : fv F i = true ∨ tv T i = -1 ∨ (0 ≤ m ∧ tv T m ≤ tv T i)) : BestOf T F (i + 1) m := by
  rcases h with ⟨h1, h2⟩ | ⟨h1, h2, h3, h4, h5⟩
  · refine .inl ⟨h1, fun c hc => ?_⟩
    rcases Nat.lt_or_ge c i with h | h
    · exact h2 c h
    · have : c = i := by omega
      subst this
      rcases hi with hi | hi | hi
      · exact .inl hi
      · exact .inr hi
      · omega
  · refine .inr ⟨h1, by omega, h3, h4, fun c hc hf hn => ?_⟩
    rcases Nat.lt_or_ge c i with h | h
    · exact h5 c h hf hn
    · have : c = i := by omega
      subst this
      rcases hi with hi | hi | hi
      · rw [hi] at hf; cases hf
      · exact absurd hi hn
      · exact hi.2
theorem best_new {T : List Int} {F : List Bool} {i : Nat} {m : Int} (h : BestOf T F i m) (h1 : fv F i = false) (h2 : tv T i ≠ -1) (h3 : m < 0 ∨ tv T i < tv T m) : BestOf T F (i + 1) i := by
  refine .inr ⟨by omega, by omega, h1, h2, fun c hc hf hn => ?_⟩
  rcases Nat.lt_or_ge c i with g | g
  · rcases h with ⟨k1, k2⟩ | ⟨k1, k2, k3, k4, k5⟩
    · rcases k2 c g with k | k
      · rw [k] at hf; cases hf
      · exact absurd k hn
    · have := k5 c g hf hn
      omega
  · have : c = i := by omega
    subst this
    exact Int.le_refl _
structure Rnd (b : Blz) (T U : List Int) (F : List Bool) (a : Int) (k : Nat) : Prop where
  mid : Mid b U
  fix : ∀ c, IsCell b.t c → fv F c = true ∨ c = a → tv U c = tv T c
  low : ∀ c, IsCell b.t c → tv T c ≠ -1 → tv U c ≠ -1 ∧ tv U c ≤ tv T c
  hi : ∀ c, IsCell b.t c → fv F c = false → tv U c ≠ -1 → tv T a ≤ tv U c
  told : ∀ j, j < k → ∀ c, (nears b.t a)[j]? = some c → 0 < burnAt b.t c → tv U c ≠ -1 ∧ tv U c ≤ hop b a c (tv T a)
theorem apart_self (t : Terrain) (a : Int) : apart t a a = 0 := by simp only [apart, absI]; omega
theorem rnd_end {b : Blz} (hb : GoodB b) {T U : List Int} {F : List Bool} {a : Int} {k : Nat} (hF : Fix b T F) (hM : Mid b T) (ha : IsCell b.t a) (hf : fv F a = false) (hn : tv T a ≠ -1) (h : Rnd b T U F a k) (hk : (nears b.t a).length ≤ k) :
    Fix b U (F.set a.toNat true) := by
  have hal : a.toNat < F.length := by have := ha; unfold IsCell at this; rw [hF.len]; omega
  have hset := fv_set true hal
  have hcell : ∀ y, IsCell b.t y → (y.toNat = a.toNat ↔ y = a) := fun y hy => by
    have h1 := hy.1
    have h2 := ha.1
    omega
  have eT : tv U a = tv T a := h.fix a ha (.inr rfl)
  refine ⟨by rw [List.length_set]; exact hF.len, fun c hc hcf => ?_, fun c d hc hd hcf hdf hdn => ?_⟩
  · rw [hset] at hcf
    by_cases he : c = a
    · subst he
      rw [Clsd, eT]
      refine ⟨hn, fun _ y hy => ?_⟩
      obtain ⟨j, hj⟩ := List.getElem?_of_mem (nears_mem.2 ⟨hy.2.1, hy.2.2.1⟩)
      exact h.told j (by have := get_lt hj; omega) y hj hy.2.2.2
    · rw [if_neg (fun e => he ((hcell c hc).1 e))] at hcf
      have e := h.fix c hc (.inl hcf)
      obtain ⟨g1, g2⟩ := hF.fin c hc hcf
      rw [Clsd, e]
      refine ⟨g1, fun _ y hy => ?_⟩
      obtain ⟨k1, k2⟩ := g2 g1 y hy
      have k3 := h.low y hy.2.1 k1
      exact ⟨k3.1, by omega⟩
  · rw [hset] at hcf hdf
    have hda : ¬ d.toNat = a.toNat := fun e => by rw [if_pos e] at hdf; cases hdf
    rw [if_neg hda] at hdf
    have h1 := h.hi d hd hdf hdn
    by_cases he : c = a
    · subst he; rw [eT]; exact h1
    · rw [if_neg (fun e => he ((hcell c hc).1 e))] at hcf
      rw [h.fix c hc (.inl hcf)]
      have := hF.ord c a hc ha hcf hf hn
      omega
theorem rnd_skip {b : Blz} {T U : List Int} {F : List Bool} {a : Int} {k : Nat} (h : Rnd b T U F a k)
    (hs : ∀ c, (nears b.t a)[k]? = some c → 0 < burnAt b.t c → tv U c ≠ -1 ∧ tv U c ≤ hop b a c (tv T a)) : Rnd b T U F a (k + 1) :=
  ⟨h.mid, h.fix, h.low, h.hi, fun j hj c hc hb => by
    rcases Nat.lt_or_ge j k with h1 | h1
    · exact h.told j h1 c hc hb
    · have : j = k := by omega
      subst this
      exact hs c hc hb⟩
theorem rnd_set {b : Blz} (hb : GoodB b) {T U : List Int} {F : List Bool} {a c : Int} {k : Nat} (h : Rnd b T U F a k) (hc : (nears b.t a)[k]? = some c) (he : Edge b a c) (hn : tv T a ≠ -1) (hf : fv F c = false)
    (hx : tv U c = -1 ∨ hop b a c (tv T a) < tv U c) : Rnd b T (U.set c.toNat (hop b a c (tv T a))) F a (k + 1) := by
  have eT : tv U a = tv T a := h.fix a he.1 (.inr rfl)
  have hrel := (h.mid.relax hb he (by rw [eT]; exact hn) (by rw [eT]; exact hx)).1
  rw [eT] at hrel
  have hva := h.mid.ge hb he.1 (by rw [eT]; exact hn)
  rw [eT] at hva
  have hop1 := hop_bnd hb hva.1 he hva.2
  have hcl := cell_inT h.mid.pre.len he.2.1
  have hset := tv_set (hop b a c (tv T a)) hcl
  have hcell : ∀ y, IsCell b.t y → (y.toNat = c.toNat ↔ y = c) := fun y hy => by
    have h1 := hy.1
    have h2 := he.2.1.1
    omega
  have hca : c ≠ a := fun e => by
    have h1 := he.2.2.1
    rw [e, apart_self] at h1
    omega
  refine ⟨hrel, fun y hy hyf => ?_, fun y hy hyn => ?_, fun y hy hyf hyn => ?_, fun j hj y hjy hyb => ?_⟩
  · have : ¬ y.toNat = c.toNat := fun e => by
      have := (hcell y hy).1 e
      subst this
      rcases hyf with g | g
      · rw [hf] at g; cases g
      · exact hca g
    rw [hset, if_neg this]
    exact h.fix y hy hyf
  · rw [hset]
    have := h.low y hy hyn
    split
    · rename_i e
      have e2 := (hcell y hy).1 e
      subst e2
      rcases hx with hx | hx
      · exact absurd hx this.1
      · omega
    · exact this
  · rw [hset] at hyn ⊢
    split
    · omega
    · rename_i e
      rw [if_neg e] at hyn
      exact h.hi y hy hyf hyn
  · rw [hset]
    rcases Nat.lt_or_ge j k with h1 | h1
    · have := h.told j h1 y hjy hyb
      have hyc := (nears_mem.1 (get_mem hjy)).1
      split
      · rename_i e
        have e2 := (hcell y hyc).1 e
        subst e2
        exact ⟨by omega, Int.le_refl _⟩
      · exact this
    · have : j = k := by omega
      subst this
      rw [hc] at hjy
      injection hjy with hjy
      subst hjy
      rw [if_pos rfl]
      exact ⟨by omega, Int.le_refl _⟩
theorem fix_ini {b : Blz} {T : List Int} : Fix b T (List.replicate b.t.burn.length false) := by
  have hf : ∀ c, fv (List.replicate b.t.burn.length false) c = false := fun c => by
    unfold fv
    rw [List.getD_eq_getElem?_getD, List.getElem?_replicate]
    split <;> rfl
  exact ⟨by simp, fun a _ h => (by rw [hf] at h; cases h), fun a c _ _ h => (by rw [hf] at h; cases h)⟩
end Go.Vs
set_option linter.unusedVariables false
set_option linter.unusedSimpArgs false
set_option maxRecDepth 100000
set_option maxHeartbeats 4000000
namespace Go.Vs
open Go.Proofs
attribute [local irreducible] exec vwp thenQ blkQ loopQ RetPost
theorem k_arrivals (b : Blz) (hb : GoodB b) (hs : b.src.length ≤ 1099511627776) :
    Con Try.prog 24 [.agg b.t.pv, .list 2 (b.ps.map Phase.pv), .list 1 (ints b.src), .int .i64 b.st] (.olist 3 1 (ints (arr b))) := by
  intro al
  refine contract_of hmix Try.func24 rfl (by kernel_rfl) (by kernel_rfl) (Nat.le_of_ble_eq_true rfl) (fun row h => by cases h) ?_
  have hty_f26_2 := ty_f26_2
  have hty_c24 := ty_c24
  have hty_u24 := ty_u24
  have hty_s24 := ty_s24
  have hty_z3 := ty_z3
  have hty_s76 := ty_s76
  have hty_z4 := ty_z4
  have hty_t3 := ty_t3
  have hty_a26 := ty_a26
  have hty_c3 := ty_c3
  have hty_c4 := ty_c4
  have hty_t4 := ty_t4
  have hty_u27 := ty_u27
  have hty_s27 := ty_s27
  have hl1 : (ints b.t.burn).length = b.t.burn.length := by simp
  have hg := hb.1.1
  have hlen := goodT_len hg
  have hst := hb.2.2
  have hfil := List.length_filter_le (fun s => decide (0 < burnAt b.t s)) b.src
  have kF := k_filterIntT b.src 52 b.t (fun s => decide (0 < burnAt b.t s)) (fun s h => k_burns b.t s hg (hb.1.2.1 s h)) hs
  generalize hfl : b.src.filter (fun s => decide (0 < burnAt b.t s)) = fl at kF hfil
  have hl2 : (ints fl).length = fl.length := by simp
  repeat' (first | (refine pA (k := ?_)) | (refine g_exec ?_; first | (refine g_guard ?_; refine x_gsplit rfl rfl (fun h => ?_) (fun h => ?_) <;> (have h' := h; try simp only [sx] at h')) | (refine x_nil (hK _ _ aI ?_); clear hK K)) | (refine v_region (fun K hK => ?_)) | (refine v_condt rfl (fun h => ?_) (fun h => ?_) <;> (have h' := h; try simp only [sx] at h')))
  refine v_loopK [1, 2, 3, 4, 10, 29] [] (fun q : Nat × List (List PV) => [(9, .osl (1001, 0) 0 (ints b.t.burn).length), (30, .int .i64 q.1)]) (fun q : Nat × List (List PV) => [((1001, 0), some ⟨3, 1, q.2, false⟩)]) (fun q : Nat × List (List PV) => q.1 ≤ b.t.burn.length ∧ q.2.length = b.t.burn.length ∧ (∀ j, j < q.1 → q.2[j]? = some [PV.int .i64 (-1)]) ∧ ∀ e ∈ q.2, e.length = 1) (fun q : Nat × List (List PV) => b.t.burn.length - q.1) ((0, List.replicate (ints b.t.burn).length [.int .i64 0])) rfl rfl (fun _ => rfl) (fun _ => rfl) rfl (by refine ⟨?_, ?_, rfl, rfl⟩ <;> (repeat' (first | exact trivial | exact ⟨rfl, rfl⟩ | exact rfl | exact ⟨sub_fn, refs_fn⟩ | refine ⟨⟨rfl, rfl⟩, ?_⟩ | refine ⟨⟨sub_fn, refs_fn⟩, ?_⟩ | refine ⟨⟨rfl, fun h => Bool.noConfusion h⟩, ?_⟩ | refine ⟨⟨rfl, fun h => ?_⟩, ?_⟩ | refine ⟨rfl, ?_⟩ | refine ⟨?_, ?_⟩ | fail))) ⟨by simp, by simp, fun j hj => by simp at hj, fun e he => by rw [List.eq_of_mem_replicate he]; rfl⟩ (fun q hq => ?_)
  obtain ⟨i, es⟩ := q
  obtain ⟨hi1, hi2, hi3, hi4⟩ := hq
  simp only at hi1 hi2 hi3 hi4
  dsimp only
  rcases Nat.lt_or_ge i b.t.burn.length with hlt | hge
  · obtain ⟨e, he⟩ := get_ex (show i < es.length by omega)
    obtain ⟨e0, rfl⟩ : ∃ e0, e = [e0] := by
      have := hi4 e (get_mem he)
      match e, this with
      | [a], _ => exact ⟨a, rfl⟩
    repeat' (first | (refine pA (k := ?_)) | (refine g_exec ?_; first | (refine g_guard ?_; refine x_gsplit rfl rfl (fun h => ?_) (fun h => ?_) <;> (have h' := h; try simp only [sx] at h')) | (refine x_nil (hK _ _ aI ?_); clear hK K)) | (refine v_region (fun K hK => ?_)) | (refine v_condt rfl (fun h => ?_) (fun h => ?_) <;> (have h' := h; try simp only [sx] at h')))
    refine q_next (i + 1, es.set i [.int .i64 (-1)]) rfl (by refine ⟨?_, ?_, rfl, rfl⟩ <;> (repeat' (first | exact trivial | exact ⟨rfl, rfl⟩ | exact rfl | exact ⟨sub_fn, refs_fn⟩ | refine ⟨⟨rfl, rfl⟩, ?_⟩ | refine ⟨⟨sub_fn, refs_fn⟩, ?_⟩ | refine ⟨⟨rfl, fun h => Bool.noConfusion h⟩, ?_⟩ | refine ⟨⟨rfl, fun h => ?_⟩, ?_⟩ | refine ⟨rfl, ?_⟩ | refine ⟨?_, ?_⟩ | fail))) ⟨by simp only; omega, by simp [hi2], fun j hj => ?_, fun e he => ?_⟩ (by simp only; omega)
    · simp only at hj ⊢
      by_cases hji : j = i
      · subst hji
        rw [List.getElem?_set_self aO]
      · rw [List.getElem?_set_ne (fun e => hji e.symm)]
        exact hi3 j aO
    · rcases List.mem_or_eq_of_mem_set he with h1 | h1
      · exact hi4 e h1
      · rw [h1]; rfl
  have hes : es = ints (List.replicate b.t.burn.length (-1)) := List.ext_getElem? fun j => by
    rcases Nat.lt_or_ge j b.t.burn.length with hj | hj
    · rw [hi3 j aO]
      simp [ints, hj]
    · rw [List.getElem?_eq_none aO, List.getElem?_eq_none (by simp; omega)]
  subst hes
  repeat' (first | (refine pA (k := ?_)) | (refine g_exec ?_; first | (refine g_call ?_; refine x_callG true (kF) rfl rfl rfl aS rfl aH ?_; simp only [cl]) | (refine g_guard ?_; refine x_gsplit rfl rfl (fun h => ?_) (fun h => ?_) <;> (have h' := h; try simp only [sx] at h')) | (refine x_nil (hK _ _ aI ?_); clear hK K)) | (refine v_region (fun K hK => ?_)) | (refine v_condt rfl (fun h => ?_) (fun h => ?_) <;> (have h' := h; try simp only [sx] at h')))
  refine v_loopK [1, 3, 4, 10, 40, 41] [] (fun q : Nat × List (List PV) × List Int => [(9, .osl (1001, 0) 0 (ints b.t.burn).length), (42, .int .i64 q.1)]) (fun q : Nat × List (List PV) × List Int => [((1001, 0), some ⟨3, 1, q.2.1, false⟩)]) (fun q : Nat × List (List PV) × List Int => q.1 ≤ fl.length ∧ q.2.1 = ints q.2.2 ∧ q.2.2.length = b.t.burn.length ∧ ∀ c, IsCell b.t c → tv q.2.2 c = if c ∈ fl.take q.1 then b.st else -1) (fun q : Nat × List (List PV) × List Int => fl.length - q.1) ((0, ints (List.replicate b.t.burn.length (-1)), List.replicate b.t.burn.length (-1))) rfl rfl (fun _ => rfl) (fun _ => rfl) rfl (by refine ⟨?_, ?_, rfl, rfl⟩ <;> (repeat' (first | exact trivial | exact ⟨rfl, rfl⟩ | exact rfl | exact ⟨sub_fn, refs_fn⟩ | refine ⟨⟨rfl, rfl⟩, ?_⟩ | refine ⟨⟨sub_fn, refs_fn⟩, ?_⟩ | refine ⟨⟨rfl, fun h => Bool.noConfusion h⟩, ?_⟩ | refine ⟨⟨rfl, fun h => ?_⟩, ?_⟩ | refine ⟨rfl, ?_⟩ | refine ⟨?_, ?_⟩ | fail))) ⟨by simp, rfl, by simp, fun c hc => by unfold tv; rw [List.getD_eq_getElem?_getD, List.getElem?_replicate]; simp; split <;> rfl⟩ (fun q hq => ?_)
  obtain ⟨j, fs, T⟩ := q
  obtain ⟨hj1, hj2, hj3, hj4⟩ := hq
  simp only at hj1 hj2 hj3 hj4
  have hlf : fs.length = b.t.burn.length := by rw [hj2, ints_len, hj3]
  dsimp only
  rcases Nat.lt_or_ge j fl.length with hlt | hge2
  · obtain ⟨c, hc⟩ := get_ex hlt
    have hxc := ints_at hc
    have hcs : c ∈ b.src ∧ 0 < burnAt b.t c := by
      have := get_mem hc
      rw [← hfl, List.mem_filter] at this
      exact ⟨this.1, by simpa using this.2⟩
    have hcc := hb.1.2.1 c hcs.1
    have hcc' := hcc
    unfold IsCell at hcc'
    have hgc : fs[c.toNat]? = some [.int .i64 (tv T c)] := by rw [hj2]; exact tv_int (cell_inT (b := b) hj3 hcc)
    repeat' (first | (refine pA (k := ?_)) | (refine g_exec ?_; first | (refine g_guard ?_; refine x_gsplit rfl rfl (fun h => ?_) (fun h => ?_) <;> (have h' := h; try simp only [sx] at h')) | (refine x_nil (hK _ _ aI ?_); clear hK K)) | (refine v_region (fun K hK => ?_)) | (refine v_condt rfl (fun h => ?_) (fun h => ?_) <;> (have h' := h; try simp only [sx] at h')))
    refine q_next (j + 1, fs.set c.toNat [.int .i64 b.st], T.set c.toNat b.st) rfl (by refine ⟨?_, ?_, rfl, rfl⟩ <;> (repeat' (first | exact trivial | exact ⟨rfl, rfl⟩ | exact rfl | exact ⟨sub_fn, refs_fn⟩ | refine ⟨⟨rfl, rfl⟩, ?_⟩ | refine ⟨⟨sub_fn, refs_fn⟩, ?_⟩ | refine ⟨⟨rfl, fun h => Bool.noConfusion h⟩, ?_⟩ | refine ⟨⟨rfl, fun h => ?_⟩, ?_⟩ | refine ⟨rfl, ?_⟩ | refine ⟨?_, ?_⟩ | fail))) ⟨by simp only; omega, by simp only [ints_set, hj2], by simp [hj3], fun y hy => ?_⟩ (by simp only; omega)
    simp only [take_succ hc, List.mem_append, List.mem_singleton]
    rw [tv_set b.st (cell_inT (b := b) hj3 hcc), hj4 y hy]
    have hyc : y.toNat = c.toNat ↔ y = c := by have h1 := hy.1; have h2 := hcc.1; omega
    by_cases he : y = c
    · rw [if_pos (hyc.2 he), if_pos (.inr he)]
    · rw [if_neg (fun h => he (hyc.1 h))]
      by_cases hm : y ∈ fl.take j
      · rw [if_pos hm, if_pos (.inl hm)]
      · rw [if_neg hm, if_neg (fun h => h.elim hm he)]
  have hT : T = iniL b := tv_extB (b := b) hj3 (iniL_len b) fun c hc => by
    rw [hj4 c hc, ini_tv hc, take_all hge2, ← hfl]
    simp only [List.mem_filter, decide_eq_true_eq, and_comm]
  subst hT
  repeat' (first | (refine pA (k := ?_)) | (refine g_exec ?_; first | (refine g_guard ?_; refine x_gsplit rfl rfl (fun h => ?_) (fun h => ?_) <;> (have h' := h; try simp only [sx] at h')) | (refine x_nil (hK _ _ aI ?_); clear hK K)) | (refine v_region (fun K hK => ?_)) | (refine v_condt rfl (fun h => ?_) (fun h => ?_) <;> (have h' := h; try simp only [sx] at h')))
  refine v_loopK [1, 4] [] (fun q : List (List PV) × List (List PV) × List Int × List Bool => [(9, .osl (1001, 0) 0 (ints b.t.burn).length), (10, .osl (1002, 0) 0 (ints b.t.burn).length)]) (fun q : List (List PV) × List (List PV) × List Int × List Bool => [((1001, 0), some ⟨3, 1, q.1, false⟩), ((1002, 0), some ⟨4, 1, q.2.1, false⟩)]) (fun q : List (List PV) × List (List PV) × List Int × List Bool => q.1 = ints q.2.2.1 ∧ q.2.1 = bools q.2.2.2 ∧ Mid b q.2.2.1 ∧ Fix b q.2.2.1 q.2.2.2) (fun q : List (List PV) × List (List PV) × List Int × List Bool => (freeN q.2.2.2).toNat) ((fs, List.replicate (ints b.t.burn).length [.bool false], iniL b, List.replicate b.t.burn.length false)) rfl rfl (fun _ => rfl) (fun _ => rfl) rfl (by refine ⟨?_, ?_, rfl, rfl⟩ <;> (repeat' (first | exact trivial | exact ⟨rfl, rfl⟩ | exact rfl | exact ⟨sub_fn, refs_fn⟩ | refine ⟨⟨rfl, rfl⟩, ?_⟩ | refine ⟨⟨sub_fn, refs_fn⟩, ?_⟩ | refine ⟨⟨rfl, fun h => Bool.noConfusion h⟩, ?_⟩ | refine ⟨⟨rfl, fun h => ?_⟩, ?_⟩ | refine ⟨rfl, ?_⟩ | refine ⟨?_, ?_⟩ | fail))) ⟨hj2, by simp [bools], ini_mid hb, fix_ini⟩ (fun q hq => ?_)
  obtain ⟨us, gs, U, F⟩ := q
  obtain ⟨hq1, hq2, hM, hF⟩ := hq
  simp only at hq1 hq2 hM hF
  have hlu : us.length = b.t.burn.length := by rw [hq1, ints_len, hM.pre.len]
  have hlg : gs.length = b.t.burn.length := by rw [hq2, List.length_map, hF.len]
  dsimp only
  repeat' (first | (refine pA (k := ?_)) | (refine g_exec ?_; first | (refine g_guard ?_; refine x_gsplit rfl rfl (fun h => ?_) (fun h => ?_) <;> (have h' := h; try simp only [sx] at h')) | (refine x_nil (hK _ _ aI ?_); clear hK K)) | (refine v_region (fun K hK => ?_)) | (refine v_condt rfl (fun h => ?_) (fun h => ?_) <;> (have h' := h; try simp only [sx] at h')))
  refine v_loopK [1, 4, 9, 10, 51, 52] [] (fun r : Nat × Int => [(14, .int .i64 r.2), (53, .int .i64 r.1)]) (fun r : Nat × Int => []) (fun r : Nat × Int => r.1 ≤ b.t.burn.length ∧ BestOf U F r.1 r.2) (fun r : Nat × Int => b.t.burn.length - r.1) ((0, -1)) rfl rfl (fun _ => rfl) (fun _ => rfl) rfl (by refine ⟨?_, ?_, rfl, rfl⟩ <;> (repeat' (first | exact trivial | exact ⟨rfl, rfl⟩ | exact rfl | exact ⟨sub_fn, refs_fn⟩ | refine ⟨⟨rfl, rfl⟩, ?_⟩ | refine ⟨⟨sub_fn, refs_fn⟩, ?_⟩ | refine ⟨⟨rfl, fun h => Bool.noConfusion h⟩, ?_⟩ | refine ⟨⟨rfl, fun h => ?_⟩, ?_⟩ | refine ⟨rfl, ?_⟩ | refine ⟨?_, ?_⟩ | fail))) ⟨by simp, .inl ⟨rfl, fun c hc => by simp at hc⟩⟩ (fun r hr => ?_)
  obtain ⟨n, m⟩ := r
  obtain ⟨hn1, hn2⟩ := hr
  simp only at hn1 hn2
  dsimp only
  rcases Nat.lt_or_ge n b.t.burn.length with hlt3 | hge3
  · have hcn : IsCell b.t (n : Int) := ⟨by omega, by omega⟩
    have hun : us[n]? = some [.int .i64 (tv U n)] := by rw [hq1]; exact tv_nat (by rw [hM.pre.len]; exact hlt3)
    have hgn : gs[n]? = some [.bool (fv F n)] := by
      have := fv_at (F := F) (c := (n : Int)) (by rw [Int.toNat_natCast, hF.len]; exact hlt3)
      rw [Int.toNat_natCast] at this
      rw [hq2]; exact this
    by_cases hm0 : m < 0
    · by_cases hnew : fv F n = false ∧ tv U n ≠ -1
      · obtain ⟨hnew1, hnew2⟩ := hnew
        rw [hnew1] at hgn
        repeat' (first | (refine pA (k := ?_)) | (refine g_exec ?_; first | (refine g_guard ?_; refine x_gsplit rfl rfl (fun h => ?_) (fun h => ?_) <;> (have h' := h; try simp only [sx] at h')) | (refine x_nil (hK _ _ aI ?_); clear hK K)) | (refine v_region (fun K hK => ?_)) | (refine v_condt rfl (fun h => ?_) (fun h => ?_) <;> (have h' := h; try simp only [sx] at h')))
        all_goals first
          | (exfalso; omega)
          | (refine q_next (n + 1, (n : Int)) rfl (by refine ⟨?_, ?_, rfl, rfl⟩ <;> (repeat' (first | exact trivial | exact ⟨rfl, rfl⟩ | exact rfl | exact ⟨sub_fn, refs_fn⟩ | refine ⟨⟨rfl, rfl⟩, ?_⟩ | refine ⟨⟨sub_fn, refs_fn⟩, ?_⟩ | refine ⟨⟨rfl, fun h => Bool.noConfusion h⟩, ?_⟩ | refine ⟨⟨rfl, fun h => ?_⟩, ?_⟩ | refine ⟨rfl, ?_⟩ | refine ⟨?_, ?_⟩ | fail))) ⟨by simp only; omega, best_new hn2 hnew1 hnew2 (.inl hm0)⟩ (by simp only; omega))
      · have hold : BestOf U F (n + 1) m := best_same hn2 (by
          by_cases h1 : fv F n = true
          · exact .inl h1
          · by_cases h2 : tv U n = -1
            · exact .inr (.inl h2)
            · exact absurd ⟨by simpa using h1, h2⟩ hnew)
        cases hfn : fv F n
        · rw [hfn] at hgn
          have h2 : tv U n = -1 := Decidable.byContradiction fun h => hnew ⟨hfn, h⟩
          rw [h2] at hun
          repeat' (first | (refine pA (k := ?_)) | (refine g_exec ?_; first | (refine g_guard ?_; refine x_gsplit rfl rfl (fun h => ?_) (fun h => ?_) <;> (have h' := h; try simp only [sx] at h')) | (refine x_nil (hK _ _ aI ?_); clear hK K)) | (refine v_region (fun K hK => ?_)) | (refine v_condt rfl (fun h => ?_) (fun h => ?_) <;> (have h' := h; try simp only [sx] at h')))
          all_goals first
            | (exfalso; omega)
            | (refine q_next (n + 1, m) rfl (by refine ⟨?_, ?_, rfl, rfl⟩ <;> (repeat' (first | exact trivial | exact ⟨rfl, rfl⟩ | exact rfl | exact ⟨sub_fn, refs_fn⟩ | refine ⟨⟨rfl, rfl⟩, ?_⟩ | refine ⟨⟨sub_fn, refs_fn⟩, ?_⟩ | refine ⟨⟨rfl, fun h => Bool.noConfusion h⟩, ?_⟩ | refine ⟨⟨rfl, fun h => ?_⟩, ?_⟩ | refine ⟨rfl, ?_⟩ | refine ⟨?_, ?_⟩ | fail))) ⟨by simp only; omega, hold⟩ (by simp only; omega))
        · rw [hfn] at hgn
          repeat' (first | (refine pA (k := ?_)) | (refine g_exec ?_; first | (refine g_guard ?_; refine x_gsplit rfl rfl (fun h => ?_) (fun h => ?_) <;> (have h' := h; try simp only [sx] at h')) | (refine x_nil (hK _ _ aI ?_); clear hK K)) | (refine v_region (fun K hK => ?_)) | (refine v_condt rfl (fun h => ?_) (fun h => ?_) <;> (have h' := h; try simp only [sx] at h')))
          all_goals first
            | (exfalso; omega)
            | (refine q_next (n + 1, m) rfl (by refine ⟨?_, ?_, rfl, rfl⟩ <;> (repeat' (first | exact trivial | exact ⟨rfl, rfl⟩ | exact rfl | exact ⟨sub_fn, refs_fn⟩ | refine ⟨⟨rfl, rfl⟩, ?_⟩ | refine ⟨⟨sub_fn, refs_fn⟩, ?_⟩ | refine ⟨⟨rfl, fun h => Bool.noConfusion h⟩, ?_⟩ | refine ⟨⟨rfl, fun h => ?_⟩, ?_⟩ | refine ⟨rfl, ?_⟩ | refine ⟨?_, ?_⟩ | fail))) ⟨by simp only; omega, hold⟩ (by simp only; omega))
    · have hmc : IsCell b.t m := by
        rcases hn2 with ⟨h1, _⟩ | ⟨h1, h2, _⟩
        · omega
        · exact ⟨h1, by omega⟩
      have hmc' := hmc
      unfold IsCell at hmc'
      have hum : us[m.toNat]? = some [.int .i64 (tv U m)] := by rw [hq1]; exact tv_int (cell_inT hM.pre.len hmc)
      by_cases hnew : fv F n = false ∧ tv U n ≠ -1 ∧ tv U n < tv U m
      · obtain ⟨hnew1, hnew2, hnew3⟩ := hnew
        rw [hnew1] at hgn
        repeat' (first | (refine pA (k := ?_)) | (refine g_exec ?_; first | (refine g_guard ?_; refine x_gsplit rfl rfl (fun h => ?_) (fun h => ?_) <;> (have h' := h; try simp only [sx] at h')) | (refine x_nil (hK _ _ aI ?_); clear hK K)) | (refine v_region (fun K hK => ?_)) | (refine v_condt rfl (fun h => ?_) (fun h => ?_) <;> (have h' := h; try simp only [sx] at h')))
        all_goals first
          | (exfalso; omega)
          | (refine q_next (n + 1, (n : Int)) rfl (by refine ⟨?_, ?_, rfl, rfl⟩ <;> (repeat' (first | exact trivial | exact ⟨rfl, rfl⟩ | exact rfl | exact ⟨sub_fn, refs_fn⟩ | refine ⟨⟨rfl, rfl⟩, ?_⟩ | refine ⟨⟨sub_fn, refs_fn⟩, ?_⟩ | refine ⟨⟨rfl, fun h => Bool.noConfusion h⟩, ?_⟩ | refine ⟨⟨rfl, fun h => ?_⟩, ?_⟩ | refine ⟨rfl, ?_⟩ | refine ⟨?_, ?_⟩ | fail))) ⟨by simp only; omega, best_new hn2 hnew1 hnew2 (.inr hnew3)⟩ (by simp only; omega))
      · have hold : BestOf U F (n + 1) m := best_same hn2 (by
          by_cases h1 : fv F n = true
          · exact .inl h1
          · by_cases h2 : tv U n = -1
            · exact .inr (.inl h2)
            · refine .inr (.inr ⟨by omega, ?_⟩)
              have : ¬ tv U n < tv U m := fun h => hnew ⟨by simpa using h1, h2, h⟩
              omega)
        cases hfn : fv F n
        · rw [hfn] at hgn
          by_cases h2 : tv U n = -1
          · repeat' (first | (refine pA (k := ?_)) | (refine g_exec ?_; first | (refine g_guard ?_; refine x_gsplit rfl rfl (fun h => ?_) (fun h => ?_) <;> (have h' := h; try simp only [sx] at h')) | (refine x_nil (hK _ _ aI ?_); clear hK K)) | (refine v_region (fun K hK => ?_)) | (refine v_condt rfl (fun h => ?_) (fun h => ?_) <;> (have h' := h; try simp only [sx] at h')))
            all_goals first
              | (exfalso; omega)
              | (refine q_next (n + 1, m) rfl (by refine ⟨?_, ?_, rfl, rfl⟩ <;> (repeat' (first | exact trivial | exact ⟨rfl, rfl⟩ | exact rfl | exact ⟨sub_fn, refs_fn⟩ | refine ⟨⟨rfl, rfl⟩, ?_⟩ | refine ⟨⟨sub_fn, refs_fn⟩, ?_⟩ | refine ⟨⟨rfl, fun h => Bool.noConfusion h⟩, ?_⟩ | refine ⟨⟨rfl, fun h => ?_⟩, ?_⟩ | refine ⟨rfl, ?_⟩ | refine ⟨?_, ?_⟩ | fail))) ⟨by simp only; omega, hold⟩ (by simp only; omega))
          · have h3 : ¬ tv U n < tv U m := fun h => hnew ⟨hfn, h2, h⟩
            repeat' (first | (refine pA (k := ?_)) | (refine g_exec ?_; first | (refine g_guard ?_; refine x_gsplit rfl rfl (fun h => ?_) (fun h => ?_) <;> (have h' := h; try simp only [sx] at h')) | (refine x_nil (hK _ _ aI ?_); clear hK K)) | (refine v_region (fun K hK => ?_)) | (refine v_condt rfl (fun h => ?_) (fun h => ?_) <;> (have h' := h; try simp only [sx] at h')))
            all_goals first
              | (exfalso; omega)
              | (refine q_next (n + 1, m) rfl (by refine ⟨?_, ?_, rfl, rfl⟩ <;> (repeat' (first | exact trivial | exact ⟨rfl, rfl⟩ | exact rfl | exact ⟨sub_fn, refs_fn⟩ | refine ⟨⟨rfl, rfl⟩, ?_⟩ | refine ⟨⟨sub_fn, refs_fn⟩, ?_⟩ | refine ⟨⟨rfl, fun h => Bool.noConfusion h⟩, ?_⟩ | refine ⟨⟨rfl, fun h => ?_⟩, ?_⟩ | refine ⟨rfl, ?_⟩ | refine ⟨?_, ?_⟩ | fail))) ⟨by simp only; omega, hold⟩ (by simp only; omega))
        · rw [hfn] at hgn
          repeat' (first | (refine pA (k := ?_)) | (refine g_exec ?_; first | (refine g_guard ?_; refine x_gsplit rfl rfl (fun h => ?_) (fun h => ?_) <;> (have h' := h; try simp only [sx] at h')) | (refine x_nil (hK _ _ aI ?_); clear hK K)) | (refine v_region (fun K hK => ?_)) | (refine v_condt rfl (fun h => ?_) (fun h => ?_) <;> (have h' := h; try simp only [sx] at h')))
          all_goals first
            | (exfalso; omega)
            | (refine q_next (n + 1, m) rfl (by refine ⟨?_, ?_, rfl, rfl⟩ <;> (repeat' (first | exact trivial | exact ⟨rfl, rfl⟩ | exact rfl | exact ⟨sub_fn, refs_fn⟩ | refine ⟨⟨rfl, rfl⟩, ?_⟩ | refine ⟨⟨sub_fn, refs_fn⟩, ?_⟩ | refine ⟨⟨rfl, fun h => Bool.noConfusion h⟩, ?_⟩ | refine ⟨⟨rfl, fun h => ?_⟩, ?_⟩ | refine ⟨rfl, ?_⟩ | refine ⟨?_, ?_⟩ | fail))) ⟨by simp only; omega, hold⟩ (by simp only; omega))
  have hnn : n = b.t.burn.length := by omega
  subst hnn
  rcases hn2 with ⟨hm1, hm2⟩ | ⟨hm1, hm2, hm3, hm4, hm5⟩
  · repeat' (first | (refine pA (k := ?_)) | (refine g_exec ?_; first | (refine g_guard ?_; refine x_gsplit rfl rfl (fun h => ?_) (fun h => ?_) <;> (have h' := h; try simp only [sx] at h')) | (refine x_nil (hK _ _ aI ?_); clear hK K)) | (refine v_region (fun K hK => ?_)) | (refine v_condt rfl (fun h => ?_) (fun h => ?_) <;> (have h' := h; try simp only [sx] at h')))
    all_goals try (exfalso; omega)
    have hA : IsArr b U := ⟨hM.pre, fun a ha => by
      have h5 := ha; unfold IsCell at h5
      have h6 := hm2 a.toNat aO
      rw [show ((a.toNat : Nat) : Int) = a by omega] at h6
      rcases h6 with h6 | h6
      · exact (hF.fin a ha h6).2
      · exact fun h => absurd h6 h⟩
    exact ret_list rfl (lookE_ok (by rfl)) (by rfl) (by decide) aO (by rw [hq1]; exact ints_flat _) (by rw [hq1, arr_eq hb hA])
  have hmc : IsCell b.t m := ⟨hm1, by omega⟩
  have hgm : gs[m.toNat]? = some [.bool (fv F m)] := by rw [hq2]; exact fv_at (by rw [hF.len]; omega)
  have hum : us[m.toNat]? = some [.int .i64 (tv U m)] := by rw [hq1]; exact tv_int (cell_inT hM.pre.len hmc)
  have hva := hM.ge hb hmc hm4
  have hvm := hM.le hb hmc
  have hnl := nears_len b.t m
  have ln : (ints (nears b.t m)).length = (nears b.t m).length := by simp
  have hlow : ∀ c, IsCell b.t c → fv F c = false → tv U c ≠ -1 → tv U m ≤ tv U c := fun c hc h1 h2 => by
    have h5 := hc; unfold IsCell at h5
    have := hm5 c.toNat aO
    rw [show ((c.toNat : Nat) : Int) = c by omega] at this
    exact this h1 h2
  repeat' (first | (refine pA (k := ?_)) | (refine g_exec ?_; first | (refine g_call ?_; refine x_callG true (k_neighbors b.t m hg hmc) rfl rfl rfl aS rfl aH ?_; simp only [cl]) | (refine g_guard ?_; refine x_gsplit rfl rfl (fun h => ?_) (fun h => ?_) <;> (have h' := h; try simp only [sx] at h')) | (refine x_nil (hK _ _ aI ?_); clear hK K)) | (refine v_region (fun K hK => ?_)) | (refine v_condt rfl (fun h => ?_) (fun h => ?_) <;> (have h' := h; try simp only [sx] at h')))
  all_goals try (exfalso; omega)
  refine v_loopK [1, 4, 10, 14, 89, 90] [] (fun s : Nat × List (List PV) × List Int => [(9, .osl (1001, 0) 0 (ints b.t.burn).length), (91, .int .i64 s.1)]) (fun s : Nat × List (List PV) × List Int => [((1001, 0), some ⟨3, 1, s.2.1, false⟩)]) (fun s : Nat × List (List PV) × List Int => s.1 ≤ (nears b.t m).length ∧ s.2.1 = ints s.2.2 ∧ Rnd b U s.2.2 F m s.1) (fun s : Nat × List (List PV) × List Int => (nears b.t m).length - s.1) ((0, us, U)) rfl rfl (fun _ => rfl) (fun _ => rfl) rfl (by refine ⟨?_, ?_, rfl, rfl⟩ <;> (repeat' (first | exact trivial | exact ⟨rfl, rfl⟩ | exact rfl | exact ⟨sub_fn, refs_fn⟩ | refine ⟨⟨rfl, rfl⟩, ?_⟩ | refine ⟨⟨sub_fn, refs_fn⟩, ?_⟩ | refine ⟨⟨rfl, fun h => Bool.noConfusion h⟩, ?_⟩ | refine ⟨⟨rfl, fun h => ?_⟩, ?_⟩ | refine ⟨rfl, ?_⟩ | refine ⟨?_, ?_⟩ | fail))) ⟨by simp, hq1, ⟨hM, fun c _ _ => rfl, fun c _ h => ⟨h, Int.le_refl _⟩, hlow, fun j hj => by simp at hj⟩⟩ (fun s hs => ?_)
  obtain ⟨k, vs, V⟩ := s
  obtain ⟨hs1, hs2, hs3⟩ := hs
  simp only at hs1 hs2 hs3
  have hlv : vs.length = b.t.burn.length := by rw [hs2, ints_len, hs3.mid.pre.len]
  dsimp only
  rcases Nat.lt_or_ge k (nears b.t m).length with hkt | hkg
  · obtain ⟨c, hc⟩ := get_ex hkt
    have hxc := ints_at hc
    have hnc := nears_mem.1 (get_mem hc)
    have hcc := hnc.1
    unfold IsCell at hcc
    have hbb := burn_bound hg hnc.1
    have hca : c ≠ m := fun e => by
      have h1 := hnc.2
      rw [e, apart_self] at h1
      omega
    have hvc : vs[c.toNat]? = some [.int .i64 (tv V c)] := by rw [hs2]; exact tv_int (cell_inT hs3.mid.pre.len hnc.1)
    have eVm : tv V m = tv U m := hs3.fix m hmc (.inr rfl)
    have hvm2 : vs[m.toNat]? = some [.int .i64 (tv U m)] := by rw [← eVm, hs2]; exact tv_int (cell_inT hs3.mid.pre.len hmc)
    have hgc : (gs.set m.toNat [.bool true])[c.toNat]? = some [.bool (fv F c)] := by
      rw [List.getElem?_set_ne aO, hq2]
      exact fv_at (by rw [hF.len]; omega)
    have kB := k_burns b.t c hg hnc.1
    by_cases hb0 : 0 < burnAt b.t c
    · rw [decide_eq_true hb0] at kB
      have he : Edge b m c := ⟨hmc, hnc.1, hnc.2, hb0⟩
      have hwk := wk_bnd hb hmc hnc.1
      have hop1 := hop_bnd hb hva.1 he hva.2
      have hvcb := hs3.mid.le hb hnc.1
      cases hfc : fv F c
      · rw [hfc] at hgc
        have kW := k_work b.t m c hg hmc hnc.1
        have kD : Con Try.prog 54 [.list 2 (b.ps.map Phase.pv), .int .i64 (tv U m), .int .i64 (wkF b.t m c)] (.int .i64 (hop b m c (tv U m))) := k_done b.ps (tv U m) (wkF b.t m c) hb.2.1 aO aO
        by_cases hx : tv V c = -1 ∨ hop b m c (tv U m) < tv V c
        · have hR := rnd_set hb hs3 hc he hm4 hfc hx
          generalize hxx : hop b m c (tv U m) = x at *
          generalize hww : wkF b.t m c = wk at *
          repeat' (first | (refine pA (k := ?_)) | (refine g_exec ?_; first | (refine g_call ?_; first | (refine x_callG true (kB) rfl rfl rfl aS rfl aH ?_; simp only [cl]) | (refine x_callG true (kW) rfl rfl rfl aS rfl aH ?_; simp only [cl]) | (refine x_callG true (kD) rfl rfl rfl aS rfl aH ?_; simp only [cl])) | (refine g_guard ?_; refine x_gsplit rfl rfl (fun h => ?_) (fun h => ?_) <;> (have h' := h; try simp only [sx] at h')) | (refine x_nil (hK _ _ aI ?_); clear hK K)) | (refine v_region (fun K hK => ?_)) | (refine v_condt rfl (fun h => ?_) (fun h => ?_) <;> (have h' := h; try simp only [sx] at h')))
          all_goals first
            | (exfalso; omega)
            | (refine q_next (k + 1, vs.set c.toNat [.int .i64 x], V.set c.toNat x) rfl (by refine ⟨?_, ?_, rfl, rfl⟩ <;> (repeat' (first | exact trivial | exact ⟨rfl, rfl⟩ | exact rfl | exact ⟨sub_fn, refs_fn⟩ | refine ⟨⟨rfl, rfl⟩, ?_⟩ | refine ⟨⟨sub_fn, refs_fn⟩, ?_⟩ | refine ⟨⟨rfl, fun h => Bool.noConfusion h⟩, ?_⟩ | refine ⟨⟨rfl, fun h => ?_⟩, ?_⟩ | refine ⟨rfl, ?_⟩ | refine ⟨?_, ?_⟩ | fail))) ⟨by simp only; omega, by simp only [ints_set, hs2], hR⟩ (by simp only; omega))
        · have hR := rnd_skip hs3 (fun c' hc' _ => by
            rw [hc] at hc'
            injection hc' with hc'
            subst hc'
            omega)
          generalize hxx : hop b m c (tv U m) = x at *
          generalize hww : wkF b.t m c = wk at *
          repeat' (first | (refine pA (k := ?_)) | (refine g_exec ?_; first | (refine g_call ?_; first | (refine x_callG true (kB) rfl rfl rfl aS rfl aH ?_; simp only [cl]) | (refine x_callG true (kW) rfl rfl rfl aS rfl aH ?_; simp only [cl]) | (refine x_callG true (kD) rfl rfl rfl aS rfl aH ?_; simp only [cl])) | (refine g_guard ?_; refine x_gsplit rfl rfl (fun h => ?_) (fun h => ?_) <;> (have h' := h; try simp only [sx] at h')) | (refine x_nil (hK _ _ aI ?_); clear hK K)) | (refine v_region (fun K hK => ?_)) | (refine v_condt rfl (fun h => ?_) (fun h => ?_) <;> (have h' := h; try simp only [sx] at h')))
          all_goals first
            | (exfalso; omega)
            | (refine q_next (k + 1, vs, V) rfl (by refine ⟨?_, ?_, rfl, rfl⟩ <;> (repeat' (first | exact trivial | exact ⟨rfl, rfl⟩ | exact rfl | exact ⟨sub_fn, refs_fn⟩ | refine ⟨⟨rfl, rfl⟩, ?_⟩ | refine ⟨⟨sub_fn, refs_fn⟩, ?_⟩ | refine ⟨⟨rfl, fun h => Bool.noConfusion h⟩, ?_⟩ | refine ⟨⟨rfl, fun h => ?_⟩, ?_⟩ | refine ⟨rfl, ?_⟩ | refine ⟨?_, ?_⟩ | fail))) ⟨by simp only; omega, hs2, hR⟩ (by simp only; omega))
      · rw [hfc] at hgc
        have hR := rnd_skip hs3 (fun c' hc' _ => by
          rw [hc] at hc'
          injection hc' with hc'
          subst hc'
          have h1 := hF.fin c hnc.1 hfc
          have h2 := hF.ord c m hnc.1 hmc hfc hm3 hm4
          rw [hs3.fix c hnc.1 (.inl hfc)]
          exact ⟨h1.1, by omega⟩)
        repeat' (first | (refine pA (k := ?_)) | (refine g_exec ?_; first | (refine g_call ?_; refine x_callG true (kB) rfl rfl rfl aS rfl aH ?_; simp only [cl]) | (refine g_guard ?_; refine x_gsplit rfl rfl (fun h => ?_) (fun h => ?_) <;> (have h' := h; try simp only [sx] at h')) | (refine x_nil (hK _ _ aI ?_); clear hK K)) | (refine v_region (fun K hK => ?_)) | (refine v_condt rfl (fun h => ?_) (fun h => ?_) <;> (have h' := h; try simp only [sx] at h')))
        all_goals first
          | (exfalso; omega)
          | (refine q_next (k + 1, vs, V) rfl (by refine ⟨?_, ?_, rfl, rfl⟩ <;> (repeat' (first | exact trivial | exact ⟨rfl, rfl⟩ | exact rfl | exact ⟨sub_fn, refs_fn⟩ | refine ⟨⟨rfl, rfl⟩, ?_⟩ | refine ⟨⟨sub_fn, refs_fn⟩, ?_⟩ | refine ⟨⟨rfl, fun h => Bool.noConfusion h⟩, ?_⟩ | refine ⟨⟨rfl, fun h => ?_⟩, ?_⟩ | refine ⟨rfl, ?_⟩ | refine ⟨?_, ?_⟩ | fail))) ⟨by simp only; omega, hs2, hR⟩ (by simp only; omega))
    · rw [decide_eq_false hb0] at kB
      have hR := rnd_skip hs3 (fun c' hc' hb' => by
        rw [hc] at hc'
        injection hc' with hc'
        subst hc'
        exact absurd hb' hb0)
      repeat' (first | (refine pA (k := ?_)) | (refine g_exec ?_; first | (refine g_call ?_; refine x_callG true (kB) rfl rfl rfl aS rfl aH ?_; simp only [cl]) | (refine g_guard ?_; refine x_gsplit rfl rfl (fun h => ?_) (fun h => ?_) <;> (have h' := h; try simp only [sx] at h')) | (refine x_nil (hK _ _ aI ?_); clear hK K)) | (refine v_region (fun K hK => ?_)) | (refine v_condt rfl (fun h => ?_) (fun h => ?_) <;> (have h' := h; try simp only [sx] at h')))
      all_goals first
        | (exfalso; omega)
        | (refine q_next (k + 1, vs, V) rfl (by refine ⟨?_, ?_, rfl, rfl⟩ <;> (repeat' (first | exact trivial | exact ⟨rfl, rfl⟩ | exact rfl | exact ⟨sub_fn, refs_fn⟩ | refine ⟨⟨rfl, rfl⟩, ?_⟩ | refine ⟨⟨sub_fn, refs_fn⟩, ?_⟩ | refine ⟨⟨rfl, fun h => Bool.noConfusion h⟩, ?_⟩ | refine ⟨⟨rfl, fun h => ?_⟩, ?_⟩ | refine ⟨rfl, ?_⟩ | refine ⟨?_, ?_⟩ | fail))) ⟨by simp only; omega, hs2, hR⟩ (by simp only; omega))
  · have hE := rnd_end hb hF hM hmc hm3 hm4 hs3 hkg
    repeat' (first | (refine pA (k := ?_)) | (refine g_exec ?_; first | (refine g_guard ?_; refine x_gsplit rfl rfl (fun h => ?_) (fun h => ?_) <;> (have h' := h; try simp only [sx] at h')) | (refine x_nil (hK _ _ aI ?_); clear hK K)) | (refine v_region (fun K hK => ?_)) | (refine v_condt rfl (fun h => ?_) (fun h => ?_) <;> (have h' := h; try simp only [sx] at h')))
    refine q_next (vs, gs.set m.toNat [.bool true], V, F.set m.toNat true) rfl (by refine ⟨?_, ?_, rfl, rfl⟩ <;> (repeat' (first | exact trivial | exact ⟨rfl, rfl⟩ | exact rfl | exact ⟨sub_fn, refs_fn⟩ | refine ⟨⟨rfl, rfl⟩, ?_⟩ | refine ⟨⟨sub_fn, refs_fn⟩, ?_⟩ | refine ⟨⟨rfl, fun h => Bool.noConfusion h⟩, ?_⟩ | refine ⟨⟨rfl, fun h => ?_⟩, ?_⟩ | refine ⟨rfl, ?_⟩ | refine ⟨?_, ?_⟩ | fail))) ⟨hs2, by simp only [bools_set, hq2], hs3.mid, hE⟩ ?_
    simp only
    have hfm : F[m.toNat]? = some false := by
      obtain ⟨x, hx⟩ := get_ex (show m.toNat < F.length by rw [hF.len]; omega)
      have : fv F m = x := by simp [fv, List.getD_eq_getElem?_getD, hx]
      rw [hx, ← this, hm3]
    have h1 := freeN_set hfm
    have h2 := freeN_ge (F.set m.toNat true)
    omega
end Go.Vs
set_option linter.unusedVariables false
set_option linter.unusedSimpArgs false
set_option maxRecDepth 100000
set_option maxHeartbeats 4000000
namespace Go.Vs
open Go.Proofs
attribute [local irreducible] exec vwp thenQ blkQ loopQ RetPost
theorem k_l2Cell (t : Terrain) (c : Int) (hn : t.burn.length ≤ 1099511627776) : Con Try.prog 67 [.agg t.pv, .int .i64 c] (.bool (decide (GoodT t ∧ IsCell t c))) := by
  intro al
  refine contract_of hmix Try.func67 rfl (by kernel_rfl) (by kernel_rfl) (Nat.le_of_ble_eq_true rfl) (fun row h => by cases h) ?_
  have hty_a26 := ty_a26
  have hty_f26_2 := ty_f26_2
  have hty_c24 := ty_c24
  have hty_u24 := ty_u24
  have hty_s24 := ty_s24
  have hl1 : (ints t.burn).length = t.burn.length := by simp
  repeat' (first | (refine pA (k := ?_)) | (refine g_exec ?_; first | (refine g_call ?_; first | (refine x_callG true (k_l2Good t hn) rfl rfl rfl aS rfl aH ?_; simp only [cl]) | (refine x_callG true (k_l1In _ _ _) rfl rfl rfl aS rfl aH ?_; simp only [cl])) | (refine g_guard ?_; refine x_gsplit rfl rfl (fun h => ?_) (fun h => ?_) <;> (have h' := h; try simp only [sx] at h')) | (refine x_nil (hK _ _ aI ?_); clear hK K)) | (refine v_region (fun K hK => ?_)))
  all_goals ((refine ret_bool rfl (lookE_ok rfl) ?_; rw [Bool.eq_iff_iff]; try simp only [sx] at *); simp only [IsCell]; constructor <;> intro hq <;> first | contradiction | (exact ⟨by assumption, by omega⟩) | omega | (exact absurd hq.1 aA))
end Go.Vs
set_option linter.unusedVariables false
set_option linter.unusedSimpArgs false
set_option maxRecDepth 100000
set_option maxHeartbeats 4000000
namespace Go.Vs
open Go.Proofs
attribute [local irreducible] exec vwp thenQ blkQ loopQ RetPost
noncomputable section
theorem arr_ok {b : Blz} (hb : GoodB b) : Mid b (arr b) ∧ IsArr b (arr b) := by
  obtain ⟨n, ⟨T, hT, hn⟩, hmin⟩ := exists_least (fun n => ∃ T, Mid b T ∧ (valF T).toNat = n) ⟨_, _, ini_mid hb, rfl⟩
  have hA : IsArr b T := by
    refine ⟨hT.pre, fun a ha hne c he => ?_⟩
    refine Decidable.byContradiction fun hc => ?_
    have hr := hT.relax hb he hne aO
    have h1 := hmin (valF (T.set c.toNat (hop b a c (tv T a)))).toNat (show ∃ T', Mid b T' ∧ (valF T').toNat = (valF (T.set c.toNat (hop b a c (tv T a)))).toNat from ⟨_, hr.1, rfl⟩)
    have h2 := hr.1.val hb
    have h3 := hr.2
    omega
  have := arr_eq hb hA
  subst this
  exact ⟨hT, hA⟩
structure SzB (b : Blz) : Prop where
  (hn : b.t.burn.length ≤ 1099511627776) (hp : b.ps.length ≤ 1099511627776) (hs : b.src.length ≤ 1099511627776)
theorem k_l4Asked (b : Blz) (z : SzB b) : Con Try.prog 26 [.agg b.t.pv, .list 2 (b.ps.map Phase.pv), .list 1 (ints b.src), .int .i64 b.st] (.bool (decide (GoodB b))) := by
  intro al
  refine contract_of hmix Try.func26 rfl (by kernel_rfl) (by kernel_rfl) (Nat.le_of_ble_eq_true rfl) (fun row h => by cases h) ?_
  have hty_a26 := ty_a26
  have hty_u24 := ty_u24
  have hty_s24 := ty_s24
  have hty_u27 := ty_u27
  have hty_s27 := ty_s27
  have kS : Con Try.prog 27 [.agg b.t.pv, .list 1 (ints b.src)] (.bool (decide (GoodT b.t ∧ (∀ s ∈ b.src, IsCell b.t s) ∧ Rising b.src))) := k_l2Set b.t b.src z.hn z.hs
  repeat' (first | (refine pA (k := ?_)) | (refine g_exec ?_; first | (refine g_call ?_; first | (refine x_callG true (kS) rfl rfl rfl aS rfl aH ?_; simp only [cl]) | (refine x_callG true (k_l4Phases b.ps z.hp) rfl rfl rfl aS rfl aH ?_; simp only [cl]) | (refine x_callG true (k_l1In _ _ _) rfl rfl rfl aS rfl aH ?_; simp only [cl])) | (refine g_guard ?_; refine x_gsplit rfl rfl (fun h => ?_) (fun h => ?_) <;> (have h' := h; try simp only [sx] at h')) | (refine x_nil (hK _ _ aI ?_); clear hK K)) | (refine v_region (fun K hK => ?_)))
  all_goals ((refine ret_bool rfl (lookE_ok rfl) ?_; rw [Bool.eq_iff_iff]; try simp only [sx] at *); unfold GoodB; constructor <;> intro hq <;> first | contradiction | (exact ⟨by assumption, by assumption, by omega⟩) | (exact absurd hq.1 aA) | (exact absurd hq.2.1 aA) | (have := hq.2.2; omega))
theorem k_isSet (t : Terrain) (xs : List Int) (hn : t.burn.length ≤ 1099511627776) (hm : xs.length ≤ 1099511627776) : Con Try.prog 23 [.agg t.pv, .list 1 (ints xs)] (.bool (decide ((∀ s ∈ xs, IsCell t s) ∧ Rising xs))) := by
  intro al
  refine contract_of hmix Try.func23 rfl (by kernel_rfl) (by kernel_rfl) (Nat.le_of_ble_eq_true rfl) (fun row h => by cases h) ?_
  have hty_u24 := ty_u24
  have hty_s24 := ty_s24
  have hty_a26 := ty_a26
  have hall : (xs.all fun c => decide (0 ≤ c ∧ c < t.burn.length)) = true ↔ ∀ s ∈ xs, IsCell t s := by simp [IsCell]
  repeat' (first | (refine pA (k := ?_)) | (refine g_exec ?_; first | (refine g_call ?_; first | (refine x_callG true (k_isRising xs hm) rfl rfl rfl aS rfl aH ?_; simp only [cl]) | (refine x_callG true (k_allIntT xs 50 t (fun c => decide (0 ≤ c ∧ c < t.burn.length)) (fun c _ => k_isCell t c hn) hm) rfl rfl rfl aS rfl aH ?_; simp only [cl])) | (refine g_guard ?_; refine x_gsplit rfl rfl (fun h => ?_) (fun h => ?_) <;> (have h' := h; try simp only [sx] at h')) | (refine x_nil (hK _ _ aI ?_); clear hK K)) | (refine v_region (fun K hK => ?_)))
  all_goals
    (refine ret_bool rfl (lookE_ok rfl) ?_; rw [Bool.eq_iff_iff]; try simp only [sx] at *)
    first
      | (constructor
         · intro hq; exact ⟨hall.1 hq, by assumption⟩
         · intro hq; exact hall.2 hq.1)
      | (constructor <;> intro hq <;> first | contradiction | (exact absurd hq.2 aA))
theorem k_isFire (b : Blz) (z : SzB b) : Con Try.prog 22 [.agg b.t.pv, .list 2 (b.ps.map Phase.pv), .list 1 (ints b.src), .int .i64 b.st] (.bool (decide (GoodB b))) := by
  intro al
  refine contract_of hmix Try.func22 rfl (by kernel_rfl) (by kernel_rfl) (Nat.le_of_ble_eq_true rfl) (fun row h => by cases h) ?_
  have hty_a26 := ty_a26
  have hty_u27 := ty_u27
  have hty_s27 := ty_s27
  have hty_u24 := ty_u24
  have hty_s24 := ty_s24
  repeat' (first | (refine pA (k := ?_)) | (refine g_exec ?_; first | (refine g_call ?_; first | (refine x_callG true (k_IsTerrain b.t z.hn) rfl rfl rfl aS rfl aH ?_; simp only [cl]) | (refine x_callG true (k_ArePhases b.ps z.hp) rfl rfl rfl aS rfl aH ?_; simp only [cl]) | (refine x_callG true (k_isSet b.t b.src z.hn z.hs) rfl rfl rfl aS rfl aH ?_; simp only [cl]) | (refine x_callG true (k_in _ _ _) rfl rfl rfl aS rfl aH ?_; simp only [cl])) | (refine g_guard ?_; refine x_gsplit rfl rfl (fun h => ?_) (fun h => ?_) <;> (have h' := h; try simp only [sx] at h')) | (refine x_nil (hK _ _ aI ?_); clear hK K)) | (refine v_region (fun K hK => ?_)))
  all_goals
    (refine ret_bool rfl (lookE_ok rfl) ?_; rw [Bool.eq_iff_iff]; try simp only [sx] at *)
    unfold GoodB
    constructor
    · intro hq
      first
        | contradiction
        | (have hS : (∀ s ∈ b.src, IsCell b.t s) ∧ Rising b.src := by assumption
           exact ⟨⟨by assumption, hS.1, hS.2⟩, by assumption, by omega⟩)
    · intro hq
      first
        | (exact absurd hq.1.1 aA)
        | (exact absurd hq.2.1 aA)
        | (exact absurd (show (∀ s ∈ b.src, IsCell b.t s) ∧ Rising b.src from ⟨hq.1.2.1, hq.1.2.2⟩) aA)
        | (have := hq.2.2; omega)
end
end Go.Vs
set_option linter.unusedVariables false
set_option linter.unusedSimpArgs false
set_option maxRecDepth 100000
set_option maxHeartbeats 4000000
namespace Go.Vs
open Go.Proofs
attribute [local irreducible] exec vwp thenQ blkQ loopQ RetPost
structure Cut where
  (cell : Int)
  (tick : Int)
  deriving DecidableEq
@[reducible] def Cut.pv (c : Cut) : List PV := [.int .i64 c.cell, .int .i64 c.tick]
theorem Cut.at {xs : List Cut} {i : Nat} {a : Cut} (h : xs[i]? = some a) : (xs.map Cut.pv)[i]? = some [.int .i64 a.cell, .int .i64 a.tick] := by simp [h]
theorem Cut.flat (xs : List Cut) : ∀ e ∈ xs.map Cut.pv, ∀ c ∈ e, c.flat = true := by
  intro e he c hc
  obtain ⟨a, _, rfl⟩ := List.mem_map.1 he
  simp only [Cut.pv, List.mem_cons, List.not_mem_nil, or_false] at hc
  rcases hc with rfl | rfl <;> rfl
end Go.Vs
set_option linter.unusedVariables false
set_option linter.unusedSimpArgs false
set_option maxRecDepth 100000
set_option maxHeartbeats 4000000
namespace Go.Vs
open Go.Proofs
attribute [local irreducible] exec vwp thenQ blkQ loopQ RetPost
def OneC (t : Terrain) (c : Cut) : Prop := IsCell t c.cell ∧ 0 < burnAt t c.cell ∧ 0 ≤ c.tick ∧ c.tick ≤ 9999
instance (t : Terrain) (c : Cut) : Decidable (OneC t c) := by unfold OneC; infer_instance
def c0 : Cut := ⟨0, 0⟩
def OkC (t : Terrain) (cs : List Cut) (j : Nat) : Prop := OneC t (cs.getD j c0) ∧ (0 < j → (cs.getD (j - 1) c0).cell < (cs.getD j c0).cell)
instance (t : Terrain) (cs : List Cut) (j : Nat) : Decidable (OkC t cs j) := by unfold OkC; infer_instance
def LstC (t : Terrain) (cs : List Cut) : Prop := (∀ j, j < cs.length → OkC t cs j) ∧ cs.length ≤ 8
instance (t : Terrain) (cs : List Cut) : Decidable (LstC t cs) := by unfold LstC; infer_instance
def GoodC (t : Terrain) (cs : List Cut) : Prop := GoodT t ∧ LstC t cs
instance (t : Terrain) (cs : List Cut) : Decidable (GoodC t cs) := by unfold GoodC; infer_instance
theorem getC {cs : List Cut} {i : Nat} {a : Cut} (h : cs[i]? = some a) : cs.getD i c0 = a := by simp [List.getD_eq_getElem?_getD, h]
theorem not_lstC {t : Terrain} {cs : List Cut} {i : Nat} (hi : i < cs.length) (h : ¬ OkC t cs i) : ¬ LstC t cs := fun hg => h (hg.1 i hi)
theorem okC_step {t : Terrain} {cs : List Cut} {i : Nat} (h : ∀ j, j < i → OkC t cs j) (hi : OkC t cs i) : ∀ j, j < i + 1 → OkC t cs j := fun j hj => by
  rcases Nat.lt_or_ge j i with h1 | h1
  · exact h j h1
  · have : j = i := by omega
    rw [this]; exact hi
theorem LstC.one {t : Terrain} {cs : List Cut} (h : LstC t cs) : ∀ c ∈ cs, OneC t c := fun c hc => by
  obtain ⟨i, hi⟩ := List.getElem?_of_mem hc
  have := (h.1 i (get_lt hi)).1
  rwa [getC hi] at this
theorem k_l25Good (t : Terrain) (cs : List Cut) (hn : t.burn.length ≤ 1099511627776) (hm : cs.length ≤ 1099511627776) : Con Try.prog 29 [.agg t.pv, .list 2 (cs.map Cut.pv)] (.bool (decide (GoodC t cs))) := by
  intro al
  refine contract_of hmix Try.func29 rfl (by kernel_rfl) (by kernel_rfl) (Nat.le_of_ble_eq_true rfl) (fun row h => by cases h) ?_
  have hty_u30 := ty_u30
  have hty_s30 := ty_s30
  have hty_a26 := ty_a26
  have hty_f38_0 := ty_f38_0
  have hty_c3 := ty_c3
  have hty_f38_1 := ty_f38_1
  have hty_f26_2 := ty_f26_2
  have hty_c24 := ty_c24
  have hty_s24 := ty_s24
  have hl1 : (cs.map Cut.pv).length = cs.length := by simp
  have hl2 : (ints t.burn).length = t.burn.length := by simp
  by_cases hg : GoodT t
  · have kG := k_l2Good t hn
    rw [decide_eq_true hg] at kG
    have eG : decide (GoodC t cs) = decide (LstC t cs) := by simp [GoodC, hg]
    rw [eG]
    repeat' (first | (refine pA (k := ?_)) | (refine g_exec ?_; first | (refine g_guard ?_; refine x_gsplit rfl rfl (fun h => ?_) (fun h => ?_) <;> (have h' := h; try simp only [sx] at h')) | (refine x_nil (hK _ _ aI ?_); clear hK K)) | (refine v_region (fun K hK => ?_)) | (refine v_condt rfl (fun h => ?_) (fun h => ?_) <;> (have h' := h; try simp only [sx] at h')))
    refine v_loopK [1, 2] [] (fun i : Nat => [(5, .int .i64 i)]) (fun i : Nat => []) (fun i : Nat => i ≤ cs.length ∧ ∀ j, j < i → OkC t cs j) (fun i : Nat => cs.length - i) (0) rfl rfl (fun _ => rfl) (fun _ => rfl) rfl (by refine ⟨?_, ?_, rfl, rfl⟩ <;> (repeat' (first | exact trivial | exact ⟨rfl, rfl⟩ | exact rfl | exact ⟨sub_fn, refs_fn⟩ | refine ⟨⟨rfl, rfl⟩, ?_⟩ | refine ⟨⟨sub_fn, refs_fn⟩, ?_⟩ | refine ⟨⟨rfl, fun h => Bool.noConfusion h⟩, ?_⟩ | refine ⟨⟨rfl, fun h => ?_⟩, ?_⟩ | refine ⟨rfl, ?_⟩ | refine ⟨?_, ?_⟩ | fail))) ⟨by omega, fun j hj => by omega⟩ (fun i hi => ?_)
    obtain ⟨hi1, hi2⟩ := hi
    rcases Nat.lt_or_ge i cs.length with hlt | hge
    · obtain ⟨a, hga⟩ := get_ex hlt
      have hx := Cut.at hga
      have hd := getC hga
      have kC := k_l2Cell t a.cell hn
      by_cases hc : IsCell t a.cell
      · rw [decide_eq_true (show GoodT t ∧ IsCell t a.cell from ⟨hg, hc⟩)] at kC
        have hb := ints_at (burn_at hc)
        have bb := burn_bound hg hc
        have hcc := hc
        unfold IsCell at hcc
        by_cases hi0 : 0 < i
        · obtain ⟨b, hgb⟩ := get_ex (show i - 1 < cs.length by omega)
          have hy := Cut.at hgb
          have hd' := getC hgb
          have e1 : ((i : Int) - 1).toNat = i - 1 := by omega
          rw [← e1] at hy
          repeat' (first | (refine pA (k := ?_)) | (refine g_exec ?_; first | (refine g_call ?_; first | (refine x_callG true (kC) rfl rfl rfl aS rfl aH ?_; simp only [cl]) | (refine x_callG true (k_l4Tick _) rfl rfl rfl aS rfl aH ?_; simp only [cl])) | (refine g_guard ?_; refine x_gsplit rfl rfl (fun h => ?_) (fun h => ?_) <;> (have h' := h; try simp only [sx] at h')) | (refine x_nil (hK _ _ aI ?_); clear hK K)) | (refine v_region (fun K hK => ?_)) | (refine v_condt rfl (fun h => ?_) (fun h => ?_) <;> (have h' := h; try simp only [sx] at h')))
          all_goals first
            | (refine q_next (i + 1) rfl (by refine ⟨?_, ?_, rfl, rfl⟩ <;> (repeat' (first | exact trivial | exact ⟨rfl, rfl⟩ | exact rfl | exact ⟨sub_fn, refs_fn⟩ | refine ⟨⟨rfl, rfl⟩, ?_⟩ | refine ⟨⟨sub_fn, refs_fn⟩, ?_⟩ | refine ⟨⟨rfl, fun h => Bool.noConfusion h⟩, ?_⟩ | refine ⟨⟨rfl, fun h => ?_⟩, ?_⟩ | refine ⟨rfl, ?_⟩ | refine ⟨?_, ?_⟩ | fail))) ⟨by omega, okC_step hi2 ?_⟩ aO; unfold OkC; rw [hd, hd']; exact ⟨⟨hc, by omega, by omega, by omega⟩, fun _ => by omega⟩)
            | (refine ret_bool rfl (lookE_ok rfl) ?_
               have : ¬ LstC t cs := not_lstC hlt (fun hk => by
                 unfold OkC OneC at hk
                 rw [hd, hd'] at hk
                 have := hk.2 hi0
                 omega)
               simp [this])
        · repeat' (first | (refine pA (k := ?_)) | (refine g_exec ?_; first | (refine g_call ?_; first | (refine x_callG true (kC) rfl rfl rfl aS rfl aH ?_; simp only [cl]) | (refine x_callG true (k_l4Tick _) rfl rfl rfl aS rfl aH ?_; simp only [cl])) | (refine g_guard ?_; refine x_gsplit rfl rfl (fun h => ?_) (fun h => ?_) <;> (have h' := h; try simp only [sx] at h')) | (refine x_nil (hK _ _ aI ?_); clear hK K)) | (refine v_region (fun K hK => ?_)) | (refine v_condt rfl (fun h => ?_) (fun h => ?_) <;> (have h' := h; try simp only [sx] at h')))
          all_goals first
            | (refine q_next (i + 1) rfl (by refine ⟨?_, ?_, rfl, rfl⟩ <;> (repeat' (first | exact trivial | exact ⟨rfl, rfl⟩ | exact rfl | exact ⟨sub_fn, refs_fn⟩ | refine ⟨⟨rfl, rfl⟩, ?_⟩ | refine ⟨⟨sub_fn, refs_fn⟩, ?_⟩ | refine ⟨⟨rfl, fun h => Bool.noConfusion h⟩, ?_⟩ | refine ⟨⟨rfl, fun h => ?_⟩, ?_⟩ | refine ⟨rfl, ?_⟩ | refine ⟨?_, ?_⟩ | fail))) ⟨by omega, okC_step hi2 ?_⟩ aO; unfold OkC; rw [hd]; exact ⟨⟨hc, by omega, by omega, by omega⟩, fun h0 => absurd h0 hi0⟩)
            | (refine ret_bool rfl (lookE_ok rfl) ?_
               have : ¬ LstC t cs := not_lstC hlt (fun hk => by
                 unfold OkC OneC at hk
                 rw [hd] at hk
                 omega)
               simp [this])
      · rw [decide_eq_false (fun h => hc h.2)] at kC
        have : ¬ LstC t cs := not_lstC hlt (fun hk => by
          unfold OkC OneC at hk
          rw [hd] at hk
          exact hc hk.1.1)
        repeat' (first | (refine pA (k := ?_)) | (refine g_exec ?_; first | (refine g_call ?_; first | (refine x_callG true (kC) rfl rfl rfl aS rfl aH ?_; simp only [cl]) | (refine x_callG true (k_l4Tick _) rfl rfl rfl aS rfl aH ?_; simp only [cl])) | (refine g_guard ?_; refine x_gsplit rfl rfl (fun h => ?_) (fun h => ?_) <;> (have h' := h; try simp only [sx] at h')) | (refine x_nil (hK _ _ aI ?_); clear hK K)) | (refine v_region (fun K hK => ?_)) | (refine v_condt rfl (fun h => ?_) (fun h => ?_) <;> (have h' := h; try simp only [sx] at h')))
        exact ret_bool rfl (lookE_ok rfl) (by simp [this])
    · repeat' (first | (refine pA (k := ?_)) | (refine g_exec ?_; first | (refine g_call ?_; refine x_callG true (kG) rfl rfl rfl aS rfl aH ?_; simp only [cl]) | (refine g_guard ?_; refine x_gsplit rfl rfl (fun h => ?_) (fun h => ?_) <;> (have h' := h; try simp only [sx] at h')) | (refine x_nil (hK _ _ aI ?_); clear hK K)) | (refine v_region (fun K hK => ?_)) | (refine v_condt rfl (fun h => ?_) (fun h => ?_) <;> (have h' := h; try simp only [sx] at h')))
      all_goals
        (refine ret_bool rfl (lookE_ok rfl) ?_; rw [Bool.eq_iff_iff]; try simp only [sx] at *)
        constructor
        · intro h
          exact ⟨fun j hj => hi2 j aO, by omega⟩
        · intro h
          have := h.2
          omega
  · have kG := k_l2Good t hn
    rw [decide_eq_false hg] at kG
    rw [decide_eq_false (fun h : GoodC t cs => hg h.1)]
    repeat' (first | (refine pA (k := ?_)) | (refine g_exec ?_; first | (refine g_guard ?_; refine x_gsplit rfl rfl (fun h => ?_) (fun h => ?_) <;> (have h' := h; try simp only [sx] at h')) | (refine x_nil (hK _ _ aI ?_); clear hK K)) | (refine v_region (fun K hK => ?_)) | (refine v_condt rfl (fun h => ?_) (fun h => ?_) <;> (have h' := h; try simp only [sx] at h')))
    refine v_loopK [1, 2] [] (fun i : Nat => [(5, .int .i64 i)]) (fun i : Nat => []) (fun i : Nat => i ≤ cs.length) (fun i : Nat => cs.length - i) (0) rfl rfl (fun _ => rfl) (fun _ => rfl) rfl (by refine ⟨?_, ?_, rfl, rfl⟩ <;> (repeat' (first | exact trivial | exact ⟨rfl, rfl⟩ | exact rfl | exact ⟨sub_fn, refs_fn⟩ | refine ⟨⟨rfl, rfl⟩, ?_⟩ | refine ⟨⟨sub_fn, refs_fn⟩, ?_⟩ | refine ⟨⟨rfl, fun h => Bool.noConfusion h⟩, ?_⟩ | refine ⟨⟨rfl, fun h => ?_⟩, ?_⟩ | refine ⟨rfl, ?_⟩ | refine ⟨?_, ?_⟩ | fail))) aO (fun i hi => ?_)
    rcases Nat.lt_or_ge i cs.length with hlt | hge
    · obtain ⟨a, hga⟩ := get_ex hlt
      have hx := Cut.at hga
      have kC := k_l2Cell t a.cell hn
      rw [decide_eq_false (fun h => hg h.1)] at kC
      repeat' (first | (refine pA (k := ?_)) | (refine g_exec ?_; first | (refine g_call ?_; first | (refine x_callG true (kC) rfl rfl rfl aS rfl aH ?_; simp only [cl]) | (refine x_callG true (k_l4Tick _) rfl rfl rfl aS rfl aH ?_; simp only [cl])) | (refine g_guard ?_; refine x_gsplit rfl rfl (fun h => ?_) (fun h => ?_) <;> (have h' := h; try simp only [sx] at h')) | (refine x_nil (hK _ _ aI ?_); clear hK K)) | (refine v_region (fun K hK => ?_)) | (refine v_condt rfl (fun h => ?_) (fun h => ?_) <;> (have h' := h; try simp only [sx] at h')))
      exact ret_bool rfl (lookE_ok rfl) rfl
    · repeat' (first | (refine pA (k := ?_)) | (refine g_exec ?_; first | (refine g_call ?_; refine x_callG true (kG) rfl rfl rfl aS rfl aH ?_; simp only [cl]) | (refine g_guard ?_; refine x_gsplit rfl rfl (fun h => ?_) (fun h => ?_) <;> (have h' := h; try simp only [sx] at h')) | (refine x_nil (hK _ _ aI ?_); clear hK K)) | (refine v_region (fun K hK => ?_)) | (refine v_condt rfl (fun h => ?_) (fun h => ?_) <;> (have h' := h; try simp only [sx] at h')))
      exact ret_bool rfl (lookE_ok rfl) rfl
theorem k_AreCuts1 (t : Terrain) (c : Cut) (hg : GoodT t) : Con Try.prog 56 [.agg c.pv, .ptr t.pv] (.bool (decide (OneC t c))) := by
  intro al
  refine contract_of hmix Try.func56 rfl (by kernel_rfl) (by kernel_rfl) (Nat.le_of_ble_eq_true rfl) (fun row h => by cases h) ?_
  have hty_a26 := ty_a26
  have hty_f38_0 := ty_f38_0
  have hty_c3 := ty_c3
  have hty_f38_1 := ty_f38_1
  have hlen := goodT_len hg
  have kI := k_isCell t c.cell aO
  by_cases hc : IsCell t c.cell
  · rw [decide_eq_true (show 0 ≤ c.cell ∧ c.cell < t.burn.length from hc)] at kI
    repeat' (first | (refine pA (k := ?_)) | (refine g_exec ?_; first | (refine g_call ?_; first | (refine x_callG true (kI) rfl rfl rfl aS rfl aH ?_; simp only [cl]) | (refine x_callG true (k_burns t c.cell hg hc) rfl rfl rfl aS rfl aH ?_; simp only [cl]) | (refine x_callG true (k_isTick _) rfl rfl rfl aS rfl aH ?_; simp only [cl])) | (refine g_guard ?_; refine x_gsplit rfl rfl (fun h => ?_) (fun h => ?_) <;> (have h' := h; try simp only [sx] at h')) | (refine x_nil (hK _ _ aI ?_); clear hK K)) | (refine v_region (fun K hK => ?_)))
    all_goals ((refine ret_bool rfl (lookE_ok rfl) ?_; rw [Bool.eq_iff_iff]; try simp only [sx] at *); unfold OneC; constructor <;> intro hq <;> first | contradiction | (exact ⟨hc, by omega, by omega, by omega⟩) | omega)
  · rw [decide_eq_false (show ¬ (0 ≤ c.cell ∧ c.cell < t.burn.length) from hc)] at kI
    have : ¬ OneC t c := fun h => hc h.1
    repeat' (first | (refine pA (k := ?_)) | (refine g_exec ?_; first | (refine g_call ?_; first | (refine x_callG true (kI) rfl rfl rfl aS rfl aH ?_; simp only [cl]) | (refine x_callG true (k_isTick _) rfl rfl rfl aS rfl aH ?_; simp only [cl])) | (refine g_guard ?_; refine x_gsplit rfl rfl (fun h => ?_) (fun h => ?_) <;> (have h' := h; try simp only [sx] at h')) | (refine x_nil (hK _ _ aI ?_); clear hK K)) | (refine v_region (fun K hK => ?_)))
    exact ret_bool rfl (lookE_ok rfl) (by simp [this])
theorem k_AreCuts2 (c : Cut) : Con Try.prog 58 [.agg c.pv] (.int .i64 c.cell) := by
  intro al
  refine contract_of hmix Try.func58 rfl (by kernel_rfl) (by kernel_rfl) (Nat.le_of_ble_eq_true rfl) (fun row h => by cases h) ?_
  have hty_f38_0 := ty_f38_0
  have hty_c3 := ty_c3
  repeat' (first | (refine pA (k := ?_)) | (refine g_exec ?_; refine x_nil (hK _ _ aI ?_); clear hK K) | (refine v_region (fun K hK => ?_)))
  exact ret_int rfl (lookE_ok rfl) rfl
theorem k_areListedCut (t : Terrain) (cs : List Cut) (hg : GoodT t) (hm : cs.length ≤ 1099511627776) : Con Try.prog 57 [.list 2 (cs.map Cut.pv), .int .i64 8, .fn 56 [] [.ptr t.pv], .fn 58 [] []] (.bool (decide (LstC t cs))) := by
  intro al
  refine contract_of hmix Try.func57 rfl (by kernel_rfl) (by kernel_rfl) (Nat.le_of_ble_eq_true rfl) (fun row h => by cases h) ?_
  have hty_u30 := ty_u30
  have hty_s30 := ty_s30
  have hty_a38 := ty_a38
  have hty_z38 := ty_z38
  have hty_t38 := ty_t38
  have hl1 : (cs.map Cut.pv).length = cs.length := by simp
  repeat' (first | (refine pA (k := ?_)) | (refine g_exec ?_; first | (refine g_guard ?_; refine x_gsplit rfl rfl (fun h => ?_) (fun h => ?_) <;> (have h' := h; try simp only [sx] at h')) | (refine x_nil (hK _ _ aI ?_); clear hK K)) | (refine v_region (fun K hK => ?_)) | (refine v_condt rfl (fun h => ?_) (fun h => ?_) <;> (have h' := h; try simp only [sx] at h')))
  refine v_loopK [0, 1, 2, 3, 11, 12] [] (fun i : Nat => [(13, .int .i64 i)]) (fun i : Nat => []) (fun i : Nat => i ≤ cs.length ∧ ∀ j, j < i → OkC t cs j) (fun i : Nat => cs.length - i) (0) rfl rfl (fun _ => rfl) (fun _ => rfl) rfl (by refine ⟨?_, ?_, rfl, rfl⟩ <;> (repeat' (first | exact trivial | exact ⟨rfl, rfl⟩ | exact rfl | exact ⟨sub_fn, refs_fn⟩ | refine ⟨⟨rfl, rfl⟩, ?_⟩ | refine ⟨⟨sub_fn, refs_fn⟩, ?_⟩ | refine ⟨⟨rfl, fun h => Bool.noConfusion h⟩, ?_⟩ | refine ⟨⟨rfl, fun h => ?_⟩, ?_⟩ | refine ⟨rfl, ?_⟩ | refine ⟨?_, ?_⟩ | fail))) ⟨by omega, fun j hj => by omega⟩ (fun i hi => ?_)
  obtain ⟨hi1, hi2⟩ := hi
  rcases Nat.lt_or_ge i cs.length with hlt | hge
  · obtain ⟨a, hga⟩ := get_ex hlt
    have hx := Cut.at hga
    have hd := getC hga
    by_cases hi0 : 0 < i
    · obtain ⟨b, hgb⟩ := get_ex (show i - 1 < cs.length by omega)
      have hy := Cut.at hgb
      have hd' := getC hgb
      have e1 : ((i : Int) - 1).toNat = i - 1 := by omega
      rw [← e1] at hy
      repeat' (first | (refine pA (k := ?_)) | (refine g_exec ?_; first | (refine g_call ?_; first | (refine x_callG true (k_AreCuts1 t a hg) rfl rfl rfl aS rfl aH ?_; simp only [cl]) | (refine x_callG true (k_AreCuts2 a) rfl rfl rfl aS rfl aH ?_; simp only [cl]) | (refine x_callG true (k_AreCuts2 b) rfl rfl rfl aS rfl aH ?_; simp only [cl])) | (refine g_guard ?_; refine x_gsplit rfl rfl (fun h => ?_) (fun h => ?_) <;> (have h' := h; try simp only [sx] at h')) | (refine x_nil (hK _ _ aI ?_); clear hK K)) | (refine v_region (fun K hK => ?_)) | (refine v_condt rfl (fun h => ?_) (fun h => ?_) <;> (have h' := h; try simp only [sx] at h')))
      all_goals first
        | (refine q_next (i + 1) rfl (by refine ⟨?_, ?_, rfl, rfl⟩ <;> (repeat' (first | exact trivial | exact ⟨rfl, rfl⟩ | exact rfl | exact ⟨sub_fn, refs_fn⟩ | refine ⟨⟨rfl, rfl⟩, ?_⟩ | refine ⟨⟨sub_fn, refs_fn⟩, ?_⟩ | refine ⟨⟨rfl, fun h => Bool.noConfusion h⟩, ?_⟩ | refine ⟨⟨rfl, fun h => ?_⟩, ?_⟩ | refine ⟨rfl, ?_⟩ | refine ⟨?_, ?_⟩ | fail))) ⟨by omega, okC_step hi2 ?_⟩ aO; unfold OkC; rw [hd, hd']; exact ⟨by assumption, fun _ => by omega⟩)
        | (refine ret_bool rfl (lookE_ok rfl) ?_
           have : ¬ LstC t cs := not_lstC hlt (fun hk => by
             unfold OkC at hk
             rw [hd, hd'] at hk
             first | exact absurd hk.1 aA | (have := hk.2 hi0; omega))
           simp [this])
    · repeat' (first | (refine pA (k := ?_)) | (refine g_exec ?_; first | (refine g_call ?_; first | (refine x_callG true (k_AreCuts1 t a hg) rfl rfl rfl aS rfl aH ?_; simp only [cl]) | (refine x_callG true (k_AreCuts2 a) rfl rfl rfl aS rfl aH ?_; simp only [cl])) | (refine g_guard ?_; refine x_gsplit rfl rfl (fun h => ?_) (fun h => ?_) <;> (have h' := h; try simp only [sx] at h')) | (refine x_nil (hK _ _ aI ?_); clear hK K)) | (refine v_region (fun K hK => ?_)) | (refine v_condt rfl (fun h => ?_) (fun h => ?_) <;> (have h' := h; try simp only [sx] at h')))
      all_goals first
        | (refine q_next (i + 1) rfl (by refine ⟨?_, ?_, rfl, rfl⟩ <;> (repeat' (first | exact trivial | exact ⟨rfl, rfl⟩ | exact rfl | exact ⟨sub_fn, refs_fn⟩ | refine ⟨⟨rfl, rfl⟩, ?_⟩ | refine ⟨⟨sub_fn, refs_fn⟩, ?_⟩ | refine ⟨⟨rfl, fun h => Bool.noConfusion h⟩, ?_⟩ | refine ⟨⟨rfl, fun h => ?_⟩, ?_⟩ | refine ⟨rfl, ?_⟩ | refine ⟨?_, ?_⟩ | fail))) ⟨by omega, okC_step hi2 ?_⟩ aO; unfold OkC; rw [hd]; exact ⟨by assumption, fun h0 => absurd h0 hi0⟩)
        | (refine ret_bool rfl (lookE_ok rfl) ?_
           have : ¬ LstC t cs := not_lstC hlt (fun hk => by
             unfold OkC at hk
             rw [hd] at hk
             first | exact absurd hk.1 aA | (have := hk.2 hi0; omega))
           simp [this])
  · repeat' (first | (refine pA (k := ?_)) | (refine g_exec ?_; first | (refine g_guard ?_; refine x_gsplit rfl rfl (fun h => ?_) (fun h => ?_) <;> (have h' := h; try simp only [sx] at h')) | (refine x_nil (hK _ _ aI ?_); clear hK K)) | (refine v_region (fun K hK => ?_)) | (refine v_condt rfl (fun h => ?_) (fun h => ?_) <;> (have h' := h; try simp only [sx] at h')))
    (refine ret_bool rfl (lookE_ok rfl) ?_; rw [Bool.eq_iff_iff]; try simp only [sx] at *)
    constructor
    · intro h
      exact ⟨fun j hj => hi2 j aO, by omega⟩
    · intro h
      have := h.2
      omega
theorem k_iAreCuts (t : Terrain) (cs : List Cut) (hn : t.burn.length ≤ 1099511627776) (hm : cs.length ≤ 1099511627776) : Con Try.prog 25 [.agg t.pv, .list 2 (cs.map Cut.pv)] (.bool (decide (GoodC t cs))) := by
  intro al
  refine contract_of hmix Try.func25 rfl (by kernel_rfl) (by kernel_rfl) (Nat.le_of_ble_eq_true rfl) (fun row h => by cases h) ?_
  have hty_a26 := ty_a26
  have hty_u30 := ty_u30
  have hty_s30 := ty_s30
  have kG := k_IsTerrain t hn
  by_cases hg : GoodT t
  · rw [decide_eq_true hg] at kG
    repeat' (first | (refine pA (k := ?_)) | (refine g_exec ?_; first | (refine g_call ?_; first | (refine x_callG true (kG) rfl rfl rfl aS rfl aH ?_; simp only [cl]) | (refine x_callG true (k_areListedCut t cs hg hm) rfl rfl rfl aS rfl aH ?_; simp only [cl])) | (refine g_guard ?_; refine x_gsplit rfl rfl (fun h => ?_) (fun h => ?_) <;> (have h' := h; try simp only [sx] at h')) | (refine x_nil (hK _ _ aI ?_); clear hK K)) | (refine v_region (fun K hK => ?_)))
    exact ret_bool rfl (lookE_ok rfl) (by simp [GoodC, hg])
  · rw [decide_eq_false hg] at kG
    repeat' (first | (refine pA (k := ?_)) | (refine g_exec ?_; first | (refine g_call ?_; refine x_callG true (kG) rfl rfl rfl aS rfl aH ?_; simp only [cl]) | (refine g_guard ?_; refine x_gsplit rfl rfl (fun h => ?_) (fun h => ?_) <;> (have h' := h; try simp only [sx] at h')) | (refine x_nil (hK _ _ aI ?_); clear hK K)) | (refine v_region (fun K hK => ?_)))
    exact ret_bool rfl (lookE_ok rfl) (by simp [GoodC, hg])
end Go.Vs
set_option linter.unusedVariables false
set_option linter.unusedSimpArgs false
set_option maxRecDepth 100000
set_option maxHeartbeats 4000000
namespace Go.Vs
open Go.Proofs
attribute [local irreducible] exec vwp thenQ blkQ loopQ RetPost
noncomputable section
def ltF (b : Blz) (c : Int) : Cut := ⟨c, if tv (arr b) c = -1 then 9999 else tv (arr b) c - 1⟩
def ltL (b : Blz) (cs : List Int) : List Cut := cs.map (ltF b)
theorem ltL_len (b : Blz) (cs : List Int) : (ltL b cs).length = cs.length := by simp [ltL]
theorem ltL_succ {b : Blz} {cs : List Int} {i : Nat} {c : Int} (h : cs[i]? = some c) : (ltL b (cs.take (i + 1))).map Cut.pv = (ltL b (cs.take i)).map Cut.pv ++ [(ltF b c).pv] := by simp only [ltL, map_take_succ _ h, List.map_append, List.map_cons, List.map_nil]
def SetOk (t : Terrain) (cs : List Int) : Prop := (∀ c ∈ cs, IsCell t c) ∧ Rising cs
instance (t : Terrain) (cs : List Int) : Decidable (SetOk t cs) := by unfold SetOk; infer_instance
def LtOk (b : Blz) (cs : List Int) : Prop := GoodB b ∧ SetOk b.t cs ∧ GoodC b.t (ltL b cs)
instance (b : Blz) (cs : List Int) : Decidable (LtOk b cs) := by unfold LtOk; infer_instance
def lcL (b : Blz) (cs : List Int) : List Cut := if LtOk b cs then ltL b cs else []
theorem lcL_len (b : Blz) (cs : List Int) : (lcL b cs).length ≤ cs.length := by unfold lcL; split <;> simp [ltL_len]
@[reducible] def lcRes (b : Blz) (cs : List Int) : PV := .tuple [.olist 38 2 ((lcL b cs).map Cut.pv), .bool (decide (LtOk b cs))]
theorem k_sLatest (b : Blz) (cs : List Int) (z : SzB b) (hm : cs.length ≤ 1000000000) :
    Con Try.prog 7 [.agg b.t.pv, .list 2 (b.ps.map Phase.pv), .list 1 (ints b.src), .int .i64 b.st, .list 1 (ints cs)] (lcRes b cs) := by
  intro al
  refine contract_of hmix Try.func7 rfl (by kernel_rfl) (by kernel_rfl) (Nat.le_of_ble_eq_true rfl) (fun row h => by cases h) ?_
  have hty_s30 := ty_s30
  have hty_a26 := ty_a26
  have hty_u27 := ty_u27
  have hty_s27 := ty_s27
  have hty_u24 := ty_u24
  have hty_s24 := ty_s24
  have hty_c3 := ty_c3
  have hty_st38 := ty_st38
  have hty_u30 := ty_u30
  have hl1 : (ints cs).length = cs.length := by simp
  have k1 := k_l4Asked b z
  have k2 := k_l2Set b.t cs z.hn aO
  by_cases hb : GoodB b
  · rw [decide_eq_true hb] at k1
    by_cases hset : SetOk b.t cs
    · rw [decide_eq_true (show GoodT b.t ∧ (∀ y ∈ cs, 0 ≤ y ∧ y < b.t.burn.length) ∧ Rising cs from ⟨hb.1.1, hset.1, hset.2⟩)] at k2
      obtain ⟨hM, hA⟩ := arr_ok hb
      have la : (ints (arr b)).length = b.t.burn.length := by rw [ints_len, hM.pre.len]
      repeat' (first | (refine pA (k := ?_)) | (refine g_exec ?_; first | (refine g_call ?_; first | (refine x_callG true (k1) rfl rfl rfl aS rfl aH ?_; simp only [cl]) | (refine x_callG true (k2) rfl rfl rfl aS rfl aH ?_; simp only [cl]) | (refine x_callG true (k_l4Arrivals b hb z.hs) rfl rfl rfl aS rfl aH ?_; simp only [cl])) | (refine g_guard ?_; refine x_gsplit rfl rfl (fun h => ?_) (fun h => ?_) <;> (have h' := h; try simp only [sx] at h')) | (refine x_nil (hK _ _ aI ?_); clear hK K)) | (refine v_region (fun K hK => ?_)) | (refine v_condt rfl (fun h => ?_) (fun h => ?_) <;> (have h' := h; try simp only [sx] at h')))
      refine v_loopK [4, 5, 13] [] (fun q : Nat × List (List PV) => [(12, .osl (1001, 0) 0 q.1), (14, .int .i64 q.1)]) (fun q : Nat × List (List PV) => [((1001, 0), some ⟨38, 2, q.2, false⟩)]) (fun q : Nat × List (List PV) => q.1 ≤ cs.length ∧ q.2 = (ltL b (cs.take q.1)).map Cut.pv) (fun q : Nat × List (List PV) => cs.length - q.1) ((0, [])) rfl rfl (fun _ => rfl) (fun _ => rfl) rfl (by refine ⟨?_, ?_, rfl, rfl⟩ <;> (repeat' (first | exact trivial | exact ⟨rfl, rfl⟩ | exact rfl | exact ⟨sub_fn, refs_fn⟩ | refine ⟨⟨rfl, rfl⟩, ?_⟩ | refine ⟨⟨sub_fn, refs_fn⟩, ?_⟩ | refine ⟨⟨rfl, fun h => Bool.noConfusion h⟩, ?_⟩ | refine ⟨⟨rfl, fun h => ?_⟩, ?_⟩ | refine ⟨rfl, ?_⟩ | refine ⟨?_, ?_⟩ | fail))) ⟨by simp, by simp [ltL]⟩ (fun q hq => ?_)
      obtain ⟨i, es⟩ := q
      obtain ⟨h1, h2⟩ := hq
      simp only at h1 h2
      have hl : es.length = i := by rw [h2, List.length_map, ltL_len, List.length_take]; omega
      dsimp only
      rcases Nat.lt_or_ge i cs.length with hlt | hge
      · obtain ⟨c, hgc⟩ := get_ex hlt
        have hx := ints_at hgc
        have ho := hset.1 c (get_mem hgc)
        have hcc := ho
        unfold IsCell at hcc
        have hat : (ints (arr b))[c.toNat]? = some [.int .i64 (tv (arr b) c)] := tv_int (cell_inT hM.pre.len ho)
        have hle := hM.le hb ho
        by_cases hne : tv (arr b) c = -1
        · have hsl : (ltF b c).pv = [.int .i64 c, .int .i64 9999] := by rw [ltF, if_pos hne]
          repeat' (first | (refine pA (k := ?_)) | (refine g_exec ?_; first | (refine g_guard ?_; refine x_gsplit rfl rfl (fun h => ?_) (fun h => ?_) <;> (have h' := h; try simp only [sx] at h')) | (refine x_nil (hK _ _ aI ?_); clear hK K)) | (refine v_region (fun K hK => ?_)) | (refine v_condt rfl (fun h => ?_) (fun h => ?_) <;> (have h' := h; try simp only [sx] at h')))
          all_goals first
            | (exfalso; omega)
            | (refine q_next (i + 1, es ++ [[.int .i64 c, .int .i64 9999]]) rfl (by refine ⟨?_, ?_, rfl, rfl⟩ <;> (repeat' (first | exact trivial | exact ⟨rfl, rfl⟩ | exact rfl | exact ⟨sub_fn, refs_fn⟩ | refine ⟨⟨rfl, rfl⟩, ?_⟩ | refine ⟨⟨sub_fn, refs_fn⟩, ?_⟩ | refine ⟨⟨rfl, fun h => Bool.noConfusion h⟩, ?_⟩ | refine ⟨⟨rfl, fun h => ?_⟩, ?_⟩ | refine ⟨rfl, ?_⟩ | refine ⟨?_, ?_⟩ | fail))) ⟨by simp only; omega, by simp only [ltL_succ hgc, hsl, h2]⟩ (by simp only; omega))
        · have hge2 := (hM.ge hb ho hne).1
          have hsl : (ltF b c).pv = [.int .i64 c, .int .i64 (tv (arr b) c - 1)] := by rw [ltF, if_neg hne]
          repeat' (first | (refine pA (k := ?_)) | (refine g_exec ?_; first | (refine g_guard ?_; refine x_gsplit rfl rfl (fun h => ?_) (fun h => ?_) <;> (have h' := h; try simp only [sx] at h')) | (refine x_nil (hK _ _ aI ?_); clear hK K)) | (refine v_region (fun K hK => ?_)) | (refine v_condt rfl (fun h => ?_) (fun h => ?_) <;> (have h' := h; try simp only [sx] at h')))
          all_goals first
            | (exfalso; omega)
            | (refine q_next (i + 1, es ++ [[.int .i64 c, .int .i64 (tv (arr b) c - 1)]]) rfl (by refine ⟨?_, ?_, rfl, rfl⟩ <;> (repeat' (first | exact trivial | exact ⟨rfl, rfl⟩ | exact rfl | exact ⟨sub_fn, refs_fn⟩ | refine ⟨⟨rfl, rfl⟩, ?_⟩ | refine ⟨⟨sub_fn, refs_fn⟩, ?_⟩ | refine ⟨⟨rfl, fun h => Bool.noConfusion h⟩, ?_⟩ | refine ⟨⟨rfl, fun h => ?_⟩, ?_⟩ | refine ⟨rfl, ?_⟩ | refine ⟨?_, ?_⟩ | fail))) ⟨by simp only; omega, by simp only [ltL_succ hgc, hsl, h2]⟩ (by simp only; omega))
      · rw [take_all hge] at h2
        subst h2
        have k3 := k_l25Good b.t (ltL b cs) z.hn (by rw [ltL_len]; omega)
        by_cases hgc : GoodC b.t (ltL b cs)
        · rw [decide_eq_true hgc] at k3
          have hok : LtOk b cs := ⟨hb, hset, hgc⟩
          have hfl := Cut.flat (ltL b cs)
          rw [lcRes, decide_eq_true hok, lcL, if_pos hok]
          repeat' (first | (refine pA (k := ?_)) | (refine g_exec ?_; first | (refine g_call ?_; refine x_callG true (k3) rfl rfl rfl aS rfl aH ?_; simp only [cl]) | (refine g_guard ?_; refine x_gsplit rfl rfl (fun h => ?_) (fun h => ?_) <;> (have h' := h; try simp only [sx] at h')) | (refine x_nil (hK _ _ aI ?_); clear hK K)) | (refine v_region (fun K hK => ?_)) | (refine v_condt rfl (fun h => ?_) (fun h => ?_) <;> (have h' := h; try simp only [sx] at h')))
          (first | refine ret_T rfl rfl rfl (by first | exact trivial | (repeat' (first | exact trivial | refine ⟨by assumption, ?_⟩))) (by repeat' (first | exact trivial | refine ⟨by simp, ?_⟩)) ?_ | refine ret_A rfl rfl rfl (by first | exact trivial | (repeat' (first | exact trivial | refine ⟨by assumption, ?_⟩))) (by repeat' (first | exact trivial | refine ⟨by simp, ?_⟩)) ?_); (repeat' (first | exact et_end | exact el_end | refine et_int rfl ?_ ?_ | refine et_bool ?_ ?_ | refine et_str ?_ ?_ | refine et_list (by rfl) (by decide) rfl rfl ?_ ?_ ?_ ?_ | refine et_nil ?_ ?_ | refine et_agg ?_ ?_ | refine el_int rfl ?_ ?_ | refine el_bool ?_ ?_ | refine el_str ?_ ?_ | refine el_list (by rfl) (by decide) rfl rfl ?_ ?_ ?_ ?_ | refine el_nil ?_ ?_))
          · exact hl.symm
          · exact hfl
          · rfl
          · rfl
        · rw [decide_eq_false hgc] at k3
          have hok : ¬ LtOk b cs := fun h => hgc h.2.2
          rw [lcRes, decide_eq_false hok, lcL, if_neg hok]
          repeat' (first | (refine pA (k := ?_)) | (refine g_exec ?_; first | (refine g_call ?_; refine x_callG true (k3) rfl rfl rfl aS rfl aH ?_; simp only [cl]) | (refine g_guard ?_; refine x_gsplit rfl rfl (fun h => ?_) (fun h => ?_) <;> (have h' := h; try simp only [sx] at h')) | (refine x_nil (hK _ _ aI ?_); clear hK K)) | (refine v_region (fun K hK => ?_)) | (refine v_condt rfl (fun h => ?_) (fun h => ?_) <;> (have h' := h; try simp only [sx] at h')))
          exact aR
    · rw [decide_eq_false (show ¬ (GoodT b.t ∧ (∀ y ∈ cs, 0 ≤ y ∧ y < b.t.burn.length) ∧ Rising cs) from fun h => hset ⟨h.2.1, h.2.2⟩)] at k2
      have hok : ¬ LtOk b cs := fun h => hset h.2.1
      rw [lcRes, decide_eq_false hok, lcL, if_neg hok]
      repeat' (first | (refine pA (k := ?_)) | (refine g_exec ?_; first | (refine g_call ?_; first | (refine x_callG true (k1) rfl rfl rfl aS rfl aH ?_; simp only [cl]) | (refine x_callG true (k2) rfl rfl rfl aS rfl aH ?_; simp only [cl])) | (refine g_guard ?_; refine x_gsplit rfl rfl (fun h => ?_) (fun h => ?_) <;> (have h' := h; try simp only [sx] at h')) | (refine x_nil (hK _ _ aI ?_); clear hK K)) | (refine v_region (fun K hK => ?_)) | (refine v_condt rfl (fun h => ?_) (fun h => ?_) <;> (have h' := h; try simp only [sx] at h')))
      exact aR
  · rw [decide_eq_false hb] at k1
    have hok : ¬ LtOk b cs := fun h => hb h.1
    rw [lcRes, decide_eq_false hok, lcL, if_neg hok]
    repeat' (first | (refine pA (k := ?_)) | (refine g_exec ?_; first | (refine g_call ?_; first | (refine x_callG true (k1) rfl rfl rfl aS rfl aH ?_; simp only [cl]) | (refine x_callG true (k2) rfl rfl rfl aS rfl aH ?_; simp only [cl])) | (refine g_guard ?_; refine x_gsplit rfl rfl (fun h => ?_) (fun h => ?_) <;> (have h' := h; try simp only [sx] at h')) | (refine x_nil (hK _ _ aI ?_); clear hK K)) | (refine v_region (fun K hK => ?_)) | (refine v_condt rfl (fun h => ?_) (fun h => ?_) <;> (have h' := h; try simp only [sx] at h')))
    exact aR
theorem k_iLatest (b : Blz) (cs : List Int) (z : SzB b) (hm : cs.length ≤ 1000000000) :
    Con Try.prog 6 [.agg b.t.pv, .list 2 (b.ps.map Phase.pv), .list 1 (ints b.src), .int .i64 b.st, .list 1 (ints cs)] (lcRes b cs) := by
  intro al
  refine contract_of hmix Try.func6 rfl (by kernel_rfl) (by kernel_rfl) (Nat.le_of_ble_eq_true rfl) (fun row h => by cases h) ?_
  have hty_a26 := ty_a26
  have hty_u27 := ty_u27
  have hty_s27 := ty_s27
  have hty_u24 := ty_u24
  have hty_s24 := ty_s24
  have hty_s30 := ty_s30
  have hty_c3 := ty_c3
  have hty_st38 := ty_st38
  have hty_u30 := ty_u30
  have hl1 : (ints cs).length = cs.length := by simp
  have k1 := k_isFire b z
  have k2 := k_isSet b.t cs z.hn aO
  by_cases hb : GoodB b
  · rw [decide_eq_true hb] at k1
    by_cases hset : SetOk b.t cs
    · rw [decide_eq_true (show (∀ s ∈ cs, IsCell b.t s) ∧ Rising cs from hset)] at k2
      obtain ⟨hM, hA⟩ := arr_ok hb
      have la : (ints (arr b)).length = b.t.burn.length := by rw [ints_len, hM.pre.len]
      repeat' (first | (refine pA (k := ?_)) | (refine g_exec ?_; first | (refine g_call ?_; first | (refine x_callG true (k1) rfl rfl rfl aS rfl aH ?_; simp only [cl]) | (refine x_callG true (k2) rfl rfl rfl aS rfl aH ?_; simp only [cl]) | (refine x_callG true (k_arrivals b hb z.hs) rfl rfl rfl aS rfl aH ?_; simp only [cl])) | (refine g_guard ?_; refine x_gsplit rfl rfl (fun h => ?_) (fun h => ?_) <;> (have h' := h; try simp only [sx] at h')) | (refine x_nil (hK _ _ aI ?_); clear hK K)) | (refine v_region (fun K hK => ?_)) | (refine v_condt rfl (fun h => ?_) (fun h => ?_) <;> (have h' := h; try simp only [sx] at h')))
      refine v_loopK [5, 12, 34, 35] [] (fun q : Nat × List (List PV) => [(13, .osl (1001, 0) 0 q.1), (36, .int .i64 q.1)]) (fun q : Nat × List (List PV) => [((1001, 0), some ⟨38, 2, q.2, false⟩)]) (fun q : Nat × List (List PV) => q.1 ≤ cs.length ∧ q.2 = (ltL b (cs.take q.1)).map Cut.pv) (fun q : Nat × List (List PV) => cs.length - q.1) ((0, [])) rfl rfl (fun _ => rfl) (fun _ => rfl) rfl (by refine ⟨?_, ?_, rfl, rfl⟩ <;> (repeat' (first | exact trivial | exact ⟨rfl, rfl⟩ | exact rfl | exact ⟨sub_fn, refs_fn⟩ | refine ⟨⟨rfl, rfl⟩, ?_⟩ | refine ⟨⟨sub_fn, refs_fn⟩, ?_⟩ | refine ⟨⟨rfl, fun h => Bool.noConfusion h⟩, ?_⟩ | refine ⟨⟨rfl, fun h => ?_⟩, ?_⟩ | refine ⟨rfl, ?_⟩ | refine ⟨?_, ?_⟩ | fail))) ⟨by simp, by simp [ltL]⟩ (fun q hq => ?_)
      obtain ⟨i, es⟩ := q
      obtain ⟨h1, h2⟩ := hq
      simp only at h1 h2
      have hl : es.length = i := by rw [h2, List.length_map, ltL_len, List.length_take]; omega
      dsimp only
      rcases Nat.lt_or_ge i cs.length with hlt | hge
      · obtain ⟨c, hgc⟩ := get_ex hlt
        have hx := ints_at hgc
        have ho := hset.1 c (get_mem hgc)
        have hcc := ho
        unfold IsCell at hcc
        have hat : (ints (arr b))[c.toNat]? = some [.int .i64 (tv (arr b) c)] := tv_int (cell_inT hM.pre.len ho)
        have hle := hM.le hb ho
        by_cases hne : tv (arr b) c = -1
        · have hsl : (ltF b c).pv = [.int .i64 c, .int .i64 9999] := by rw [ltF, if_pos hne]
          repeat' (first | (refine pA (k := ?_)) | (refine g_exec ?_; first | (refine g_guard ?_; refine x_gsplit rfl rfl (fun h => ?_) (fun h => ?_) <;> (have h' := h; try simp only [sx] at h')) | (refine x_nil (hK _ _ aI ?_); clear hK K)) | (refine v_region (fun K hK => ?_)) | (refine v_condt rfl (fun h => ?_) (fun h => ?_) <;> (have h' := h; try simp only [sx] at h')))
          all_goals first
            | (exfalso; omega)
            | (refine q_next (i + 1, es ++ [[.int .i64 c, .int .i64 9999]]) rfl (by refine ⟨?_, ?_, rfl, rfl⟩ <;> (repeat' (first | exact trivial | exact ⟨rfl, rfl⟩ | exact rfl | exact ⟨sub_fn, refs_fn⟩ | refine ⟨⟨rfl, rfl⟩, ?_⟩ | refine ⟨⟨sub_fn, refs_fn⟩, ?_⟩ | refine ⟨⟨rfl, fun h => Bool.noConfusion h⟩, ?_⟩ | refine ⟨⟨rfl, fun h => ?_⟩, ?_⟩ | refine ⟨rfl, ?_⟩ | refine ⟨?_, ?_⟩ | fail))) ⟨by simp only; omega, by simp only [ltL_succ hgc, hsl, h2]⟩ (by simp only; omega))
        · have hge2 := (hM.ge hb ho hne).1
          have hsl : (ltF b c).pv = [.int .i64 c, .int .i64 (tv (arr b) c - 1)] := by rw [ltF, if_neg hne]
          repeat' (first | (refine pA (k := ?_)) | (refine g_exec ?_; first | (refine g_guard ?_; refine x_gsplit rfl rfl (fun h => ?_) (fun h => ?_) <;> (have h' := h; try simp only [sx] at h')) | (refine x_nil (hK _ _ aI ?_); clear hK K)) | (refine v_region (fun K hK => ?_)) | (refine v_condt rfl (fun h => ?_) (fun h => ?_) <;> (have h' := h; try simp only [sx] at h')))
          all_goals first
            | (exfalso; omega)
            | (refine q_next (i + 1, es ++ [[.int .i64 c, .int .i64 (tv (arr b) c - 1)]]) rfl (by refine ⟨?_, ?_, rfl, rfl⟩ <;> (repeat' (first | exact trivial | exact ⟨rfl, rfl⟩ | exact rfl | exact ⟨sub_fn, refs_fn⟩ | refine ⟨⟨rfl, rfl⟩, ?_⟩ | refine ⟨⟨sub_fn, refs_fn⟩, ?_⟩ | refine ⟨⟨rfl, fun h => Bool.noConfusion h⟩, ?_⟩ | refine ⟨⟨rfl, fun h => ?_⟩, ?_⟩ | refine ⟨rfl, ?_⟩ | refine ⟨?_, ?_⟩ | fail))) ⟨by simp only; omega, by simp only [ltL_succ hgc, hsl, h2]⟩ (by simp only; omega))
      · rw [take_all hge] at h2
        subst h2
        have k3 := k_iAreCuts b.t (ltL b cs) z.hn (by rw [ltL_len]; omega)
        by_cases hgc : GoodC b.t (ltL b cs)
        · rw [decide_eq_true hgc] at k3
          have hok : LtOk b cs := ⟨hb, hset, hgc⟩
          have hfl := Cut.flat (ltL b cs)
          rw [lcRes, decide_eq_true hok, lcL, if_pos hok]
          repeat' (first | (refine pA (k := ?_)) | (refine g_exec ?_; first | (refine g_call ?_; refine x_callG true (k3) rfl rfl rfl aS rfl aH ?_; simp only [cl]) | (refine g_guard ?_; refine x_gsplit rfl rfl (fun h => ?_) (fun h => ?_) <;> (have h' := h; try simp only [sx] at h')) | (refine x_nil (hK _ _ aI ?_); clear hK K)) | (refine v_region (fun K hK => ?_)) | (refine v_condt rfl (fun h => ?_) (fun h => ?_) <;> (have h' := h; try simp only [sx] at h')))
          (first | refine ret_T rfl rfl rfl (by first | exact trivial | (repeat' (first | exact trivial | refine ⟨by assumption, ?_⟩))) (by repeat' (first | exact trivial | refine ⟨by simp, ?_⟩)) ?_ | refine ret_A rfl rfl rfl (by first | exact trivial | (repeat' (first | exact trivial | refine ⟨by assumption, ?_⟩))) (by repeat' (first | exact trivial | refine ⟨by simp, ?_⟩)) ?_); (repeat' (first | exact et_end | exact el_end | refine et_int rfl ?_ ?_ | refine et_bool ?_ ?_ | refine et_str ?_ ?_ | refine et_list (by rfl) (by decide) rfl rfl ?_ ?_ ?_ ?_ | refine et_nil ?_ ?_ | refine et_agg ?_ ?_ | refine el_int rfl ?_ ?_ | refine el_bool ?_ ?_ | refine el_str ?_ ?_ | refine el_list (by rfl) (by decide) rfl rfl ?_ ?_ ?_ ?_ | refine el_nil ?_ ?_))
          · exact hl.symm
          · exact hfl
          · rfl
          · rfl
        · rw [decide_eq_false hgc] at k3
          have hok : ¬ LtOk b cs := fun h => hgc h.2.2
          rw [lcRes, decide_eq_false hok, lcL, if_neg hok]
          repeat' (first | (refine pA (k := ?_)) | (refine g_exec ?_; first | (refine g_call ?_; refine x_callG true (k3) rfl rfl rfl aS rfl aH ?_; simp only [cl]) | (refine g_guard ?_; refine x_gsplit rfl rfl (fun h => ?_) (fun h => ?_) <;> (have h' := h; try simp only [sx] at h')) | (refine x_nil (hK _ _ aI ?_); clear hK K)) | (refine v_region (fun K hK => ?_)) | (refine v_condt rfl (fun h => ?_) (fun h => ?_) <;> (have h' := h; try simp only [sx] at h')))
          exact aR
    · rw [decide_eq_false (show ¬ ((∀ s ∈ cs, IsCell b.t s) ∧ Rising cs) from hset)] at k2
      have hok : ¬ LtOk b cs := fun h => hset h.2.1
      rw [lcRes, decide_eq_false hok, lcL, if_neg hok]
      repeat' (first | (refine pA (k := ?_)) | (refine g_exec ?_; first | (refine g_call ?_; first | (refine x_callG true (k1) rfl rfl rfl aS rfl aH ?_; simp only [cl]) | (refine x_callG true (k2) rfl rfl rfl aS rfl aH ?_; simp only [cl])) | (refine g_guard ?_; refine x_gsplit rfl rfl (fun h => ?_) (fun h => ?_) <;> (have h' := h; try simp only [sx] at h')) | (refine x_nil (hK _ _ aI ?_); clear hK K)) | (refine v_region (fun K hK => ?_)) | (refine v_condt rfl (fun h => ?_) (fun h => ?_) <;> (have h' := h; try simp only [sx] at h')))
      exact aR
  · rw [decide_eq_false hb] at k1
    have hok : ¬ LtOk b cs := fun h => hb h.1
    rw [lcRes, decide_eq_false hok, lcL, if_neg hok]
    repeat' (first | (refine pA (k := ?_)) | (refine g_exec ?_; first | (refine g_call ?_; first | (refine x_callG true (k1) rfl rfl rfl aS rfl aH ?_; simp only [cl]) | (refine x_callG true (k2) rfl rfl rfl aS rfl aH ?_; simp only [cl])) | (refine g_guard ?_; refine x_gsplit rfl rfl (fun h => ?_) (fun h => ?_) <;> (have h' := h; try simp only [sx] at h')) | (refine x_nil (hK _ _ aI ?_); clear hK K)) | (refine v_region (fun K hK => ?_)) | (refine v_condt rfl (fun h => ?_) (fun h => ?_) <;> (have h' := h; try simp only [sx] at h')))
    exact aR
end
end Go.Vs
set_option linter.unusedVariables false
set_option linter.unusedSimpArgs false
set_option maxRecDepth 100000
set_option maxHeartbeats 4000000
namespace Go.Vs
open Go.Proofs
attribute [local irreducible] exec vwp thenQ blkQ loopQ RetPost
theorem et_agg0 {st : St} {al : Bool} {xs ys cs ds : List PV} {u : List (Option Id)} (h : ExpL al st cs ds []) (ht : ExpT al st xs ys u) : ExpT al st (.agg cs :: xs) (.agg ds :: ys) u := ⟨[], u, h, ht, rfl⟩
structure Cu where
  bs : List Int
  pos : Int
  seed : Int
@[reducible] def bytesP (bs : List Int) : List (List PV) := bs.map fun b => [PV.int .u8 b]
theorem bytes_at {bs : List Int} {i : Nat} {b : Int} (h : bs[i]? = some b) : (bytesP bs)[i]? = some [PV.int .u8 b] := by simp [bytesP, h]
@[reducible] def Cu.pv (c : Cu) : List PV := [.list 1 (bytesP c.bs), .int .i64 c.pos, .int .u64 c.seed]
structure Cu.Ok (c : Cu) : Prop where
  byte : ∀ b ∈ c.bs, 0 ≤ b ∧ b ≤ 255
  len : c.bs.length ≤ 1099511627776
  pos : 0 ≤ c.pos ∧ c.pos ≤ 1152921504606846976
structure Aft (c c' : Cu) (k : Int) : Prop where
  bs : c'.bs = c.bs
  pos : c.pos ≤ c'.pos ∧ c'.pos ≤ c.pos + k
theorem Aft.ok {c c' : Cu} {k : Int} (h : Aft c c' k) (hc : c.Ok) (hk : c.pos + k ≤ 1152921504606846976) : c'.Ok := ⟨by rw [h.bs]; exact hc.byte, by rw [h.bs]; exact hc.len, by have := h.pos; have := hc.pos; omega⟩
theorem Aft.trans {c c' c'' : Cu} {k l : Int} (h : Aft c c' k) (g : Aft c' c'' l) : Aft c c'' (k + l) := ⟨g.bs.trans h.bs, by have := h.pos; have := g.pos; omega⟩
theorem Aft.le {c c' : Cu} {k l : Int} (h : Aft c c' k) (hl : k ≤ l) : Aft c c' l := ⟨h.bs, by have := h.pos; omega⟩
theorem Aft.refl (c : Cu) : Aft c c 0 := ⟨rfl, by omega⟩
@[reducible] def cuRow (c : Cu) : Row := ⟨50, 3, [c.pv], false⟩
@[reducible] def Dr (f : FuncId) (args : List PV) (c : Cu) (r : PV) (c' : Cu) : Prop := ContractP Try.prog f true (.own (io, 0) 0 0 :: args) [cuRow c] (fun r' fin' => r' = r ∧ fin' = [[c'.pv]])
def nxS (c : Cu) (b : Int) : Int := IntKind.u64.wrap (IntKind.u64.wrap (IntKind.u64.wrap (c.seed * 6364136223846793005) + IntKind.u64.wrap b) + 917917)
def nxX (s : Int) : Int := IntKind.i64.wrap (IntKind.u64.wrap ((BitVec.ofInt IntKind.u64.bits (s.fdiv (2 ^ min (Int.toNat 40) IntKind.u64.bits)) &&& BitVec.ofInt IntKind.u64.bits 255).toNat : Nat))
theorem wrap_u {n : Int} (h : 0 ≤ n ∧ n < 18446744073709551616) : IntKind.u64.wrap n = n := by
  simp [IntKind.wrap, IntKind.signed, IntKind.bits]
  omega
theorem nxX_bnd (s : Int) : 0 ≤ nxX s ∧ nxX s ≤ 255 := by
  unfold nxX
  have h : (BitVec.ofInt IntKind.u64.bits (s.fdiv (2 ^ min (Int.toNat 40) IntKind.u64.bits)) &&& BitVec.ofInt IntKind.u64.bits 255).toNat ≤ 255 := by
    rw [BitVec.toNat_and]
    exact Nat.le_trans Nat.and_le_right (by decide)
  generalize (BitVec.ofInt IntKind.u64.bits (s.fdiv (2 ^ min (Int.toNat 40) IntKind.u64.bits)) &&& BitVec.ofInt IntKind.u64.bits 255).toNat = m at *
  rw [wrap_u aO, wrap_in aO]
  omega
theorem k_next (c : Cu) (hc : c.Ok) (hp : c.pos + 1 ≤ 1152921504606846976) : ∃ (r : Int) (c' : Cu), Dr 71 [] c (.int .i64 r) c' ∧ Aft c c' 1 ∧ 0 ≤ r ∧ r ≤ 255 := by
  have hpos := hc.pos
  have hlen := hc.len
  have hl1 : (bytesP c.bs).length = c.bs.length := by simp
  by_cases hlt : c.pos < c.bs.length
  · obtain ⟨b, hb⟩ := get_ex (show c.pos.toNat < c.bs.length by omega)
    have hx := bytes_at hb
    have hbb := hc.byte b (get_mem hb)
    refine ⟨b, ⟨c.bs, c.pos + 1, nxS c b⟩, ?_, ⟨rfl, by simp only; omega⟩, hbb⟩
    refine contract_of hmix Try.func71 rfl (by kernel_rfl) (by kernel_rfl) (Nat.le_of_ble_eq_true rfl) (fun row h => by (simp only [List.mem_cons, List.not_mem_nil, or_false] at h; first | (subst h; (first | exact .inl rfl | exact .inr (fun e he u hu => by (simp only [List.mem_cons, List.not_mem_nil, or_false] at he; subst he; simp only [List.mem_cons, List.not_mem_nil, or_false] at hu; subst hu; rfl)))) | (rcases h with rfl | rfl <;> (first | exact .inl rfl | exact .inr (fun e he u hu => by (simp only [List.mem_cons, List.not_mem_nil, or_false] at he; subst he; simp only [List.mem_cons, List.not_mem_nil, or_false] at hu; subst hu; rfl)))) | (rcases h with rfl | rfl | rfl <;> (first | exact .inl rfl | exact .inr (fun e he u hu => by (simp only [List.mem_cons, List.not_mem_nil, or_false] at he; subst he; simp only [List.mem_cons, List.not_mem_nil, or_false] at hu; subst hu; rfl)))) | (rcases h with rfl | rfl | rfl | rfl <;> (first | exact .inl rfl | exact .inr (fun e he u hu => by (simp only [List.mem_cons, List.not_mem_nil, or_false] at he; subst he; simp only [List.mem_cons, List.not_mem_nil, or_false] at hu; subst hu; rfl)))))) ?_
    have hty_f50_1 := ty_f50_1
    have hty_c3 := ty_c3
    have hty_f50_0 := ty_f50_0
    have hty_c22 := ty_c22
    have hty_u22 := ty_u22
    have hty_s22 := ty_s22
    have hty_c5 := ty_c5
    have hty_u5 := ty_u5
    have hty_u3 := ty_u3
    have hty_t3 := ty_t3
    have hty_f50_2 := ty_f50_2
    have hty_c48 := ty_c48
    have hty_u48 := ty_u48
    have hty_t48 := ty_t48
    repeat' (first | (refine pA (k := ?_)) | (refine g_exec ?_; refine x_nil (hK _ _ aI ?_); clear hK K) | (refine v_region (fun K hK => ?_)) | (refine v_condt rfl (fun h => ?_) (fun h => ?_) <;> (have h' := h; try simp only [sx] at h')))
    all_goals first
      | (exfalso; omega)
      | exact ret_iL rfl rfl ⟨⟨rfl, rfl, fun h => by cases h⟩, trivial⟩ rfl
  · refine ⟨nxX (nxS c 0), ⟨c.bs, c.pos + 1, nxS c 0⟩, ?_, ⟨rfl, by simp only; omega⟩, nxX_bnd _⟩
    refine contract_of hmix Try.func71 rfl (by kernel_rfl) (by kernel_rfl) (Nat.le_of_ble_eq_true rfl) (fun row h => by (simp only [List.mem_cons, List.not_mem_nil, or_false] at h; first | (subst h; (first | exact .inl rfl | exact .inr (fun e he u hu => by (simp only [List.mem_cons, List.not_mem_nil, or_false] at he; subst he; simp only [List.mem_cons, List.not_mem_nil, or_false] at hu; subst hu; rfl)))) | (rcases h with rfl | rfl <;> (first | exact .inl rfl | exact .inr (fun e he u hu => by (simp only [List.mem_cons, List.not_mem_nil, or_false] at he; subst he; simp only [List.mem_cons, List.not_mem_nil, or_false] at hu; subst hu; rfl)))) | (rcases h with rfl | rfl | rfl <;> (first | exact .inl rfl | exact .inr (fun e he u hu => by (simp only [List.mem_cons, List.not_mem_nil, or_false] at he; subst he; simp only [List.mem_cons, List.not_mem_nil, or_false] at hu; subst hu; rfl)))) | (rcases h with rfl | rfl | rfl | rfl <;> (first | exact .inl rfl | exact .inr (fun e he u hu => by (simp only [List.mem_cons, List.not_mem_nil, or_false] at he; subst he; simp only [List.mem_cons, List.not_mem_nil, or_false] at hu; subst hu; rfl)))))) ?_
    have hty_f50_1 := ty_f50_1
    have hty_c3 := ty_c3
    have hty_f50_0 := ty_f50_0
    have hty_c22 := ty_c22
    have hty_u22 := ty_u22
    have hty_s22 := ty_s22
    have hty_c5 := ty_c5
    have hty_u5 := ty_u5
    have hty_u3 := ty_u3
    have hty_t3 := ty_t3
    have hty_f50_2 := ty_f50_2
    have hty_c48 := ty_c48
    have hty_u48 := ty_u48
    have hty_t48 := ty_t48
    repeat' (first | (refine pA (k := ?_)) | (refine g_exec ?_; refine x_nil (hK _ _ aI ?_); clear hK K) | (refine v_region (fun K hK => ?_)) | (refine v_condt rfl (fun h => ?_) (fun h => ?_) <;> (have h' := h; try simp only [sx] at h')))
    all_goals first
      | (exfalso; omega)
      | exact ret_iL rfl rfl ⟨⟨rfl, rfl, fun h => by cases h⟩, trivial⟩ rfl
theorem k_pick (c : Cu) (n : Int) (hc : c.Ok) (hp : c.pos + 2 ≤ 1152921504606846976) (hn : n ≤ 1000000000) : ∃ (r : Int) (c' : Cu), Dr 43 [.int .i64 n] c (.int .i64 r) c' ∧ Aft c c' 2 ∧ 0 ≤ r ∧ (1 ≤ n → r < n) ∧ (n ≤ 1 → r = 0) := by
  by_cases h1 : n ≤ 1
  · refine ⟨0, c, ?_, (Aft.refl c).le aO, by omega, by omega, by omega⟩
    refine contract_of hmix Try.func43 rfl (by kernel_rfl) (by kernel_rfl) (Nat.le_of_ble_eq_true rfl) (fun row h => by (simp only [List.mem_cons, List.not_mem_nil, or_false] at h; first | (subst h; (first | exact .inl rfl | exact .inr (fun e he u hu => by (simp only [List.mem_cons, List.not_mem_nil, or_false] at he; subst he; simp only [List.mem_cons, List.not_mem_nil, or_false] at hu; subst hu; rfl)))) | (rcases h with rfl | rfl <;> (first | exact .inl rfl | exact .inr (fun e he u hu => by (simp only [List.mem_cons, List.not_mem_nil, or_false] at he; subst he; simp only [List.mem_cons, List.not_mem_nil, or_false] at hu; subst hu; rfl)))) | (rcases h with rfl | rfl | rfl <;> (first | exact .inl rfl | exact .inr (fun e he u hu => by (simp only [List.mem_cons, List.not_mem_nil, or_false] at he; subst he; simp only [List.mem_cons, List.not_mem_nil, or_false] at hu; subst hu; rfl)))) | (rcases h with rfl | rfl | rfl | rfl <;> (first | exact .inl rfl | exact .inr (fun e he u hu => by (simp only [List.mem_cons, List.not_mem_nil, or_false] at he; subst he; simp only [List.mem_cons, List.not_mem_nil, or_false] at hu; subst hu; rfl)))))) ?_
    repeat' (first | (refine pA (k := ?_)) | (refine g_exec ?_; refine x_nil (hK _ _ aI ?_); clear hK K) | (refine v_region (fun K hK => ?_)) | (refine v_condt rfl (fun h => ?_) (fun h => ?_) <;> (have h' := h; try simp only [sx] at h')))
    all_goals first
      | (exfalso; omega)
      | exact ret_iL rfl rfl ⟨⟨rfl, rfl, fun h => by cases h⟩, trivial⟩ rfl
  · obtain ⟨r1, c1, k1, a1, b1, b2⟩ := k_next c hc aO
    by_cases h2 : n > 200
    · obtain ⟨r2, c2, k2, a2, b3, b4⟩ := k_next c1 (a1.ok hc aO) (by have := a1.pos; omega)
      refine ⟨(r1 * 256 + r2) % n, c2, ?_, (a1.trans a2).le aO, Int.emod_nonneg _ aO, fun _ => Int.emod_lt_of_pos _ aO, fun h => by omega⟩
      refine contract_of hmix Try.func43 rfl (by kernel_rfl) (by kernel_rfl) (Nat.le_of_ble_eq_true rfl) (fun row h => by (simp only [List.mem_cons, List.not_mem_nil, or_false] at h; first | (subst h; (first | exact .inl rfl | exact .inr (fun e he u hu => by (simp only [List.mem_cons, List.not_mem_nil, or_false] at he; subst he; simp only [List.mem_cons, List.not_mem_nil, or_false] at hu; subst hu; rfl)))) | (rcases h with rfl | rfl <;> (first | exact .inl rfl | exact .inr (fun e he u hu => by (simp only [List.mem_cons, List.not_mem_nil, or_false] at he; subst he; simp only [List.mem_cons, List.not_mem_nil, or_false] at hu; subst hu; rfl)))) | (rcases h with rfl | rfl | rfl <;> (first | exact .inl rfl | exact .inr (fun e he u hu => by (simp only [List.mem_cons, List.not_mem_nil, or_false] at he; subst he; simp only [List.mem_cons, List.not_mem_nil, or_false] at hu; subst hu; rfl)))) | (rcases h with rfl | rfl | rfl | rfl <;> (first | exact .inl rfl | exact .inr (fun e he u hu => by (simp only [List.mem_cons, List.not_mem_nil, or_false] at he; subst he; simp only [List.mem_cons, List.not_mem_nil, or_false] at hu; subst hu; rfl)))))) ?_
      repeat' (first | (refine pA (k := ?_)) | (refine g_exec ?_; first | (refine g_call ?_; first | (refine x_callL [(io, 0)] (k1) rfl rfl aF rfl rfl aS rfl aH rfl ?_; simp only [cl]) | (refine x_callL [(io, 0)] (k2) rfl rfl aF rfl rfl aS rfl aH rfl ?_; simp only [cl])) | (refine x_nil (hK _ _ aI ?_); clear hK K)) | (refine v_region (fun K hK => ?_)) | (refine v_condt rfl (fun h => ?_) (fun h => ?_) <;> (have h' := h; try simp only [sx] at h')))
      all_goals first
        | (exfalso; omega)
        | exact ret_iL rfl rfl ⟨⟨rfl, rfl, fun h => by cases h⟩, trivial⟩ rfl
    · refine ⟨r1 % n, c1, ?_, a1.le aO, Int.emod_nonneg _ aO, fun _ => Int.emod_lt_of_pos _ aO, fun h => by omega⟩
      refine contract_of hmix Try.func43 rfl (by kernel_rfl) (by kernel_rfl) (Nat.le_of_ble_eq_true rfl) (fun row h => by (simp only [List.mem_cons, List.not_mem_nil, or_false] at h; first | (subst h; (first | exact .inl rfl | exact .inr (fun e he u hu => by (simp only [List.mem_cons, List.not_mem_nil, or_false] at he; subst he; simp only [List.mem_cons, List.not_mem_nil, or_false] at hu; subst hu; rfl)))) | (rcases h with rfl | rfl <;> (first | exact .inl rfl | exact .inr (fun e he u hu => by (simp only [List.mem_cons, List.not_mem_nil, or_false] at he; subst he; simp only [List.mem_cons, List.not_mem_nil, or_false] at hu; subst hu; rfl)))) | (rcases h with rfl | rfl | rfl <;> (first | exact .inl rfl | exact .inr (fun e he u hu => by (simp only [List.mem_cons, List.not_mem_nil, or_false] at he; subst he; simp only [List.mem_cons, List.not_mem_nil, or_false] at hu; subst hu; rfl)))) | (rcases h with rfl | rfl | rfl | rfl <;> (first | exact .inl rfl | exact .inr (fun e he u hu => by (simp only [List.mem_cons, List.not_mem_nil, or_false] at he; subst he; simp only [List.mem_cons, List.not_mem_nil, or_false] at hu; subst hu; rfl)))))) ?_
      repeat' (first | (refine pA (k := ?_)) | (refine g_exec ?_; first | (refine g_call ?_; refine x_callL [(io, 0)] (k1) rfl rfl aF rfl rfl aS rfl aH rfl ?_; simp only [cl]) | (refine x_nil (hK _ _ aI ?_); clear hK K)) | (refine v_region (fun K hK => ?_)) | (refine v_condt rfl (fun h => ?_) (fun h => ?_) <;> (have h' := h; try simp only [sx] at h')))
      all_goals first
        | (exfalso; omega)
        | exact ret_iL rfl rfl ⟨⟨rfl, rfl, fun h => by cases h⟩, trivial⟩ rfl
theorem k_one (c : Cu) (n : Int) (hc : c.Ok) (hp : c.pos + 2 ≤ 1152921504606846976) (hn : n ≤ 1000000000) : ∃ (b : Bool) (c' : Cu), Dr 20 [.int .i64 n] c (.bool b) c' ∧ Aft c c' 2 := by
  obtain ⟨r, c1, k1, a1, b1, b2⟩ := k_pick c n hc hp hn
  refine ⟨r == 0, c1, ?_, a1⟩
  refine contract_of hmix Try.func20 rfl (by kernel_rfl) (by kernel_rfl) (Nat.le_of_ble_eq_true rfl) (fun row h => by (simp only [List.mem_cons, List.not_mem_nil, or_false] at h; first | (subst h; (first | exact .inl rfl | exact .inr (fun e he u hu => by (simp only [List.mem_cons, List.not_mem_nil, or_false] at he; subst he; simp only [List.mem_cons, List.not_mem_nil, or_false] at hu; subst hu; rfl)))) | (rcases h with rfl | rfl <;> (first | exact .inl rfl | exact .inr (fun e he u hu => by (simp only [List.mem_cons, List.not_mem_nil, or_false] at he; subst he; simp only [List.mem_cons, List.not_mem_nil, or_false] at hu; subst hu; rfl)))) | (rcases h with rfl | rfl | rfl <;> (first | exact .inl rfl | exact .inr (fun e he u hu => by (simp only [List.mem_cons, List.not_mem_nil, or_false] at he; subst he; simp only [List.mem_cons, List.not_mem_nil, or_false] at hu; subst hu; rfl)))) | (rcases h with rfl | rfl | rfl | rfl <;> (first | exact .inl rfl | exact .inr (fun e he u hu => by (simp only [List.mem_cons, List.not_mem_nil, or_false] at he; subst he; simp only [List.mem_cons, List.not_mem_nil, or_false] at hu; subst hu; rfl)))))) ?_
  repeat' (first | (refine pA (k := ?_)) | (refine g_exec ?_; first | (refine g_call ?_; refine x_callL [(io, 0)] (k1) rfl rfl aF rfl rfl aS rfl aH rfl ?_; simp only [cl]) | (refine x_nil (hK _ _ aI ?_); clear hK K)) | (refine v_region (fun K hK => ?_)))
  all_goals exact ret_bL rfl rfl ⟨⟨rfl, rfl, fun h => by cases h⟩, trivial⟩ rfl
theorem k_among (c : Cu) (l : List Int) (hc : c.Ok) (hp : c.pos + 2 ≤ 1152921504606846976) (hl : 1 ≤ l.length ∧ l.length ≤ 1000000) : ∃ (x : Int) (c' : Cu), Dr 35 [.list 1 (ints l)] c (.int .i64 x) c' ∧ Aft c c' 2 ∧ x ∈ l := by
  obtain ⟨r, c1, k1, a1, b1, b2, b3⟩ := k_pick c l.length hc hp aO
  have b2 := b2 aO
  obtain ⟨x, hx⟩ := get_ex (show r.toNat < l.length by omega)
  have hy := ints_at hx
  have hl1 : (ints l).length = l.length := by simp
  rw [← hl1] at k1
  refine ⟨x, c1, ?_, a1, get_mem hx⟩
  refine contract_of hmix Try.func35 rfl (by kernel_rfl) (by kernel_rfl) (Nat.le_of_ble_eq_true rfl) (fun row h => by (simp only [List.mem_cons, List.not_mem_nil, or_false] at h; first | (subst h; (first | exact .inl rfl | exact .inr (fun e he u hu => by (simp only [List.mem_cons, List.not_mem_nil, or_false] at he; subst he; simp only [List.mem_cons, List.not_mem_nil, or_false] at hu; subst hu; rfl)))) | (rcases h with rfl | rfl <;> (first | exact .inl rfl | exact .inr (fun e he u hu => by (simp only [List.mem_cons, List.not_mem_nil, or_false] at he; subst he; simp only [List.mem_cons, List.not_mem_nil, or_false] at hu; subst hu; rfl)))) | (rcases h with rfl | rfl | rfl <;> (first | exact .inl rfl | exact .inr (fun e he u hu => by (simp only [List.mem_cons, List.not_mem_nil, or_false] at he; subst he; simp only [List.mem_cons, List.not_mem_nil, or_false] at hu; subst hu; rfl)))) | (rcases h with rfl | rfl | rfl | rfl <;> (first | exact .inl rfl | exact .inr (fun e he u hu => by (simp only [List.mem_cons, List.not_mem_nil, or_false] at he; subst he; simp only [List.mem_cons, List.not_mem_nil, or_false] at hu; subst hu; rfl)))))) ?_
  have hty_u24 := ty_u24
  have hty_s24 := ty_s24
  have hty_c3 := ty_c3
  repeat' (first | (refine pA (k := ?_)) | (refine g_exec ?_; first | (refine g_call ?_; refine x_callL [(io, 0)] (k1) rfl rfl aF rfl rfl aS rfl aH rfl ?_; simp only [cl]) | (refine x_nil (hK _ _ aI ?_); clear hK K)) | (refine v_region (fun K hK => ?_)))
  all_goals first
    | (exfalso; omega)
    | exact ret_iL rfl rfl ⟨⟨rfl, rfl, fun h => by cases h⟩, trivial⟩ rfl
@[reducible] def cu0 (code : List Int) : Cu := ⟨code, 0, 0⟩
structure CodeOk (code : List Int) : Prop where
  len : code.length ≤ 1099511627776
  byte : ∀ b ∈ code, 0 ≤ b ∧ b ≤ 255
theorem cu0_ok {code : List Int} (h : CodeOk code) : (cu0 code).Ok := ⟨h.byte, h.len, by simp⟩
end Go.Vs
set_option linter.unusedVariables false
set_option linter.unusedSimpArgs false
set_option maxRecDepth 100000
set_option maxHeartbeats 4000000
namespace Go.Vs
open Go.Proofs
attribute [local irreducible] exec vwp thenQ blkQ loopQ RetPost
theorem area5 {p q : Int} (hp : 0 ≤ p ∧ p ≤ 4) (hq : 0 ≤ q ∧ q ≤ 4) : 1 ≤ (1 + p) * (1 + q) ∧ (1 + p) * (1 + q) ≤ 25 := by
  have h1 : (1 + p) * (1 + q) ≤ 5 * 5 := Int.mul_le_mul aO aO aO aO
  have h2 : (1 : Int) * 1 ≤ (1 + p) * (1 + q) := Int.mul_le_mul aO aO aO aO
  omega
theorem k_terrain (c : Cu) (hc : c.Ok) (hp : c.pos + 100 ≤ 1152921504606846976) :
    ContractP Try.prog 70 true [.own (io, 0) 0 0] [cuRow c] (fun r' fin' => ∃ (t : Terrain) (c' : Cu), (r' = .agg [.int .i64 t.width, .int .i64 t.height, .olist 3 1 (ints t.burn)] ∧ fin' = [[c'.pv]]) ∧ Aft c c' 100 ∧ (1 ≤ t.width ∧ t.width ≤ 5) ∧ (1 ≤ t.height ∧ t.height ≤ 5) ∧ 1 ≤ t.burn.length ∧ t.burn.length ≤ 25) := by
  obtain ⟨r1, c1, k1, a1, g0, g1, _⟩ := k_pick c 5 hc aO aO
  have g1 := g1 aO
  have o1 := a1.ok hc aO
  have p1 := a1.pos
  obtain ⟨r2, c2, k2, a2, g2, g3, _⟩ := k_pick c1 5 o1 aO aO
  have g3 := g3 aO
  have o2 := a2.ok o1 aO
  have p2 := a2.pos
  have har := area5 (p := r1) (q := r2) aO aO
  refine contract_of hmix Try.func70 rfl (by kernel_rfl) (by kernel_rfl) (Nat.le_of_ble_eq_true rfl) (fun row h => by (simp only [List.mem_cons, List.not_mem_nil, or_false] at h; first | (subst h; (first | exact .inl rfl | exact .inr (fun e he u hu => by (simp only [List.mem_cons, List.not_mem_nil, or_false] at he; subst he; simp only [List.mem_cons, List.not_mem_nil, or_false] at hu; subst hu; rfl)))) | (rcases h with rfl | rfl <;> (first | exact .inl rfl | exact .inr (fun e he u hu => by (simp only [List.mem_cons, List.not_mem_nil, or_false] at he; subst he; simp only [List.mem_cons, List.not_mem_nil, or_false] at hu; subst hu; rfl)))) | (rcases h with rfl | rfl | rfl <;> (first | exact .inl rfl | exact .inr (fun e he u hu => by (simp only [List.mem_cons, List.not_mem_nil, or_false] at he; subst he; simp only [List.mem_cons, List.not_mem_nil, or_false] at hu; subst hu; rfl)))) | (rcases h with rfl | rfl | rfl | rfl <;> (first | exact .inl rfl | exact .inr (fun e he u hu => by (simp only [List.mem_cons, List.not_mem_nil, or_false] at he; subst he; simp only [List.mem_cons, List.not_mem_nil, or_false] at hu; subst hu; rfl)))))) ?_
  have hty_a26 := ty_a26
  have hty_z26 := ty_z26
  have hty_s24 := ty_s24
  have hty_st26 := ty_st26
  have hty_t26 := ty_t26
  have hty_f26_0 := ty_f26_0
  have hty_c3 := ty_c3
  have hty_f26_1 := ty_f26_1
  have hty_f26_2 := ty_f26_2
  have hty_c24 := ty_c24
  have hty_u24 := ty_u24
  have hty_t24 := ty_t24
  repeat' (first | (refine pA (k := ?_)) | (refine g_exec ?_; first | (refine g_call ?_; first | (refine x_callL [(io, 0)] (k1) rfl rfl aF rfl rfl aS rfl aH rfl ?_; simp only [cl]) | (refine x_callL [(io, 0)] (k2) rfl rfl aF rfl rfl aS rfl aH rfl ?_; simp only [cl])) | (refine x_nil (hK _ _ aI ?_); clear hK K)) | (refine v_region (fun K hK => ?_)) | (refine v_condt rfl (fun h => ?_) (fun h => ?_) <;> (have h' := h; try simp only [sx] at h')))
  all_goals try (exfalso; omega)
  refine v_loopK [0, 2, 3] [(io, 0), (3, 0), (1001, 0)] (fun q : Cu × List (List PV) × Nat => [(4, .int .i64 q.2.2)]) (fun q : Cu × List (List PV) × Nat => [((io, 0), some (cuRow q.1)), ((3, 0), some ⟨26, 3, [[.int .i64 (1 + r1), .int .i64 (1 + r2), .osl (1001, 0) 0 q.2.2]], true⟩), ((1001, 0), some ⟨3, 1, q.2.1, false⟩)]) (fun q : Cu × List (List PV) × Nat => Aft c2 q.1 (2 * q.2.2) ∧ (q.2.2 : Int) ≤ (1 + r1) * (1 + r2) ∧ ∃ b : List Int, q.2.1 = ints b ∧ b.length = q.2.2) (fun q : Cu × List (List PV) × Nat => ((1 + r1) * (1 + r2) - q.2.2).toNat) ((c2, [], 0)) rfl rfl (fun _ => rfl) (fun _ => rfl) rfl (by refine ⟨?_, ?_, rfl, rfl⟩ <;> (repeat' (first | exact trivial | exact ⟨rfl, rfl⟩ | exact rfl | exact ⟨sub_fn, refs_fn⟩ | refine ⟨⟨rfl, rfl⟩, ?_⟩ | refine ⟨⟨sub_fn, refs_fn⟩, ?_⟩ | refine ⟨⟨rfl, fun h => Bool.noConfusion h⟩, ?_⟩ | refine ⟨⟨rfl, fun h => ?_⟩, ?_⟩ | refine ⟨rfl, ?_⟩ | refine ⟨?_, ?_⟩ | fail))) ⟨Aft.refl c2, by simp only; omega, [], rfl, rfl⟩ (fun q hq => ?_)
  obtain ⟨d, es, m⟩ := q
  obtain ⟨ad, hm, b, hes, hlen⟩ := hq
  simp only at ad hm hes hlen
  dsimp only
  have hel : es.length = m := by rw [hes, ints_len, hlen]
  have hme := hel.symm
  have od := ad.ok o2 aO
  have pd := ad.pos
  by_cases hlt : (m : Int) < (1 + r1) * (1 + r2)
  · obtain ⟨x, c3, k3, a3, _⟩ := k_among d [0, 0, 1, 1, 2, 3, 5, 9, 20] od aO (by decide)
    repeat' (first | (refine pA (k := ?_)) | (refine g_exec ?_; first | (refine g_call ?_; refine x_callL [(io, 0)] (k3) rfl rfl aF rfl rfl aS rfl aH rfl ?_; simp only [cl]) | (refine x_nil (hK _ _ aI ?_); clear hK K)) | (refine v_region (fun K hK => ?_)) | (refine v_condt rfl (fun h => ?_) (fun h => ?_) <;> (have h' := h; try simp only [sx] at h')))
    all_goals try (exfalso; omega)
    all_goals (refine q_next (c3, es ++ [[.int .i64 x]], m + 1) rfl (by refine ⟨?_, ?_, rfl, rfl⟩ <;> (repeat' (first | exact trivial | exact ⟨rfl, rfl⟩ | exact rfl | exact ⟨sub_fn, refs_fn⟩ | refine ⟨⟨rfl, rfl⟩, ?_⟩ | refine ⟨⟨sub_fn, refs_fn⟩, ?_⟩ | refine ⟨⟨rfl, fun h => Bool.noConfusion h⟩, ?_⟩ | refine ⟨⟨rfl, fun h => ?_⟩, ?_⟩ | refine ⟨rfl, ?_⟩ | refine ⟨?_, ?_⟩ | fail))) ⟨(ad.trans a3).le (by simp only; omega), by simp only; omega, b ++ [x], by simp [hes], by simp [hlen]⟩ (by simp only; omega))
  · repeat' (first | (refine pA (k := ?_)) | (refine g_exec ?_; refine x_nil (hK _ _ aI ?_); clear hK K) | (refine v_region (fun K hK => ?_)) | (refine v_condt rfl (fun h => ?_) (fun h => ?_) <;> (have h' := h; try simp only [sx] at h')))
    all_goals first
      | (exfalso; omega)
      | (refine RetPost.mono (fun r fin h => ⟨⟨1 + r1, 1 + r2, b⟩, d, h, ((a1.trans a2).trans ad).le aO, by simp only; omega, by simp only; omega, by simp only; omega, by simp only; omega⟩) ?_
         ((first | refine ret_TL rfl rfl rfl (by first | exact trivial | (repeat' (first | exact trivial | refine ⟨by assumption, ?_⟩))) (by repeat' (first | exact trivial | refine ⟨by simp, ?_⟩)) (by first | exact trivial | exact ⟨⟨rfl, rfl, fun h => by cases h⟩, trivial⟩) ?_ | refine ret_AL rfl rfl rfl (by first | exact trivial | (repeat' (first | exact trivial | refine ⟨by assumption, ?_⟩))) (by repeat' (first | exact trivial | refine ⟨by simp, ?_⟩)) (by first | exact trivial | exact ⟨⟨rfl, rfl, fun h => by cases h⟩, trivial⟩) ?_); (repeat' (first | exact et_end | exact el_end | refine et_int rfl ?_ ?_ | refine et_bool ?_ ?_ | refine et_str ?_ ?_ | refine et_lst rfl rfl ?_ ?_ | refine et_listA rfl (by rfl) (by decide) rfl rfl ?_ ?_ ?_ | refine et_nil ?_ ?_ | refine et_agg0 ?_ ?_ | refine et_agg ?_ ?_ | refine el_int rfl ?_ ?_ | refine el_bool ?_ ?_ | refine el_str ?_ ?_ | refine el_lst rfl rfl ?_ ?_ | refine el_listA rfl (by rfl) (by decide) rfl rfl ?_ ?_ ?_ | refine el_nil ?_ ?_)) <;> (first | rfl | assumption | (simp; done) | omega)))
def TrSz (t : Terrain) : Prop := (0 ≤ t.width ∧ t.width ≤ 6) ∧ (0 ≤ t.height ∧ t.height ≤ 6) ∧ 1 ≤ t.burn.length ∧ t.burn.length ≤ 26
theorem k_anyTerrain (c : Cu) (hc : c.Ok) (hp : c.pos + 200 ≤ 1152921504606846976) :
    ContractP Try.prog 40 true [.own (io, 0) 0 0] [cuRow c] (fun r' fin' => ∃ (t : Terrain) (c' : Cu), (r' = .agg [.int .i64 t.width, .int .i64 t.height, .olist 3 1 (ints t.burn)] ∧ fin' = [[c'.pv]]) ∧ Aft c c' 200 ∧ TrSz t) := by
  refine contract_of hmix Try.func40 rfl (by kernel_rfl) (by kernel_rfl) (Nat.le_of_ble_eq_true rfl) (fun row h => by (simp only [List.mem_cons, List.not_mem_nil, or_false] at h; first | (subst h; (first | exact .inl rfl | exact .inr (fun e he u hu => by (simp only [List.mem_cons, List.not_mem_nil, or_false] at he; subst he; simp only [List.mem_cons, List.not_mem_nil, or_false] at hu; subst hu; rfl)))) | (rcases h with rfl | rfl <;> (first | exact .inl rfl | exact .inr (fun e he u hu => by (simp only [List.mem_cons, List.not_mem_nil, or_false] at he; subst he; simp only [List.mem_cons, List.not_mem_nil, or_false] at hu; subst hu; rfl)))) | (rcases h with rfl | rfl | rfl <;> (first | exact .inl rfl | exact .inr (fun e he u hu => by (simp only [List.mem_cons, List.not_mem_nil, or_false] at he; subst he; simp only [List.mem_cons, List.not_mem_nil, or_false] at hu; subst hu; rfl)))) | (rcases h with rfl | rfl | rfl | rfl <;> (first | exact .inl rfl | exact .inr (fun e he u hu => by (simp only [List.mem_cons, List.not_mem_nil, or_false] at he; subst he; simp only [List.mem_cons, List.not_mem_nil, or_false] at hu; subst hu; rfl)))))) ?_
  have hty_a26 := ty_a26
  have hty_z26 := ty_z26
  have hty_t26 := ty_t26
  have hty_f26_0 := ty_f26_0
  have hty_c3 := ty_c3
  have hty_s24 := ty_s24
  have hty_u24 := ty_u24
  have hty_t3 := ty_t3
  have hty_f26_1 := ty_f26_1
  have hty_f26_2 := ty_f26_2
  have hty_c24 := ty_c24
  have hty_t24 := ty_t24
  repeat' (first | (refine pA (k := ?_)) | (refine g_exec ?_; first | (refine g_call ?_; refine x_callLP [(io, 0)] (k_terrain c hc aO) rfl rfl aF rfl rfl aS rfl (fun r_ fin_ hP_ => ?_); obtain ⟨t, c1, ⟨rfl, rfl⟩, a1, hw, hh, hl1, hl2⟩ := hP_; refine ⟨_, _, _, aH, rfl, ?_⟩; simp only [cl]) | (refine x_nil (hK _ _ aI ?_); clear hK K)) | (refine v_region (fun K hK => ?_)) | (refine v_condt rfl (fun h => ?_) (fun h => ?_) <;> (have h' := h; try simp only [sx] at h')))
  have o1 := a1.ok hc aO
  have p1 := a1.pos
  obtain ⟨r, c2, k2, a2, g0, g1, _⟩ := k_pick c1 32 o1 aO aO
  have o2 := a2.ok o1 aO
  have p2 := a2.pos
  have aft2 := a1.trans a2
  have hil : (ints t.burn).length = t.burn.length := by simp
  by_cases e0 : r = 0
  · obtain ⟨x, c3, k3, a3, hx⟩ := k_among c2 [0, 6, t.width + 1] o2 aO (by simp)
    have hx6 : 0 ≤ x ∧ x ≤ 6 := by simp at hx; omega
    repeat' (first | (refine pA (k := ?_)) | (refine g_exec ?_; first | (refine g_call ?_; first | (refine x_callL [(io, 0)] (k2) rfl rfl aF rfl rfl aS rfl aH rfl ?_; simp only [cl]) | (refine x_callL [(io, 0)] (k3) rfl rfl aF rfl rfl aS rfl aH rfl ?_; simp only [cl])) | (refine x_nil (hK _ _ aI ?_); clear hK K)) | (refine v_region (fun K hK => ?_)) | (refine v_condt rfl (fun h => ?_) (fun h => ?_) <;> (have h' := h; try simp only [sx] at h')))
    all_goals first
      | (exfalso; omega)
      | (refine RetPost.mono (fun r fin h => ⟨⟨x, t.height, t.burn⟩, c3, h, (aft2.trans a3).le aO, hx6, by simp only; omega, hl1, by simp only; omega⟩) ?_
         ((first | refine ret_TL rfl rfl rfl (by first | exact trivial | (repeat' (first | exact trivial | refine ⟨by assumption, ?_⟩))) (by repeat' (first | exact trivial | refine ⟨by simp, ?_⟩)) (by first | exact trivial | exact ⟨⟨rfl, rfl, fun h => by cases h⟩, trivial⟩) ?_ | refine ret_AL rfl rfl rfl (by first | exact trivial | (repeat' (first | exact trivial | refine ⟨by assumption, ?_⟩))) (by repeat' (first | exact trivial | refine ⟨by simp, ?_⟩)) (by first | exact trivial | exact ⟨⟨rfl, rfl, fun h => by cases h⟩, trivial⟩) ?_); (repeat' (first | exact et_end | exact el_end | refine et_int rfl ?_ ?_ | refine et_bool ?_ ?_ | refine et_str ?_ ?_ | refine et_lst rfl rfl ?_ ?_ | refine et_listA rfl (by rfl) (by decide) rfl rfl ?_ ?_ ?_ | refine et_nil ?_ ?_ | refine et_agg0 ?_ ?_ | refine et_agg ?_ ?_ | refine el_int rfl ?_ ?_ | refine el_bool ?_ ?_ | refine el_str ?_ ?_ | refine el_lst rfl rfl ?_ ?_ | refine el_listA rfl (by rfl) (by decide) rfl rfl ?_ ?_ ?_ | refine el_nil ?_ ?_)) <;> (first | rfl | assumption | (simp; done) | omega)))
  · by_cases e1 : r = 1
    · obtain ⟨x, c3, k3, a3, hx⟩ := k_among c2 [0, 6, t.height + 1] o2 aO (by simp)
      have hx6 : 0 ≤ x ∧ x ≤ 6 := by simp at hx; omega
      repeat' (first | (refine pA (k := ?_)) | (refine g_exec ?_; first | (refine g_call ?_; first | (refine x_callL [(io, 0)] (k2) rfl rfl aF rfl rfl aS rfl aH rfl ?_; simp only [cl]) | (refine x_callL [(io, 0)] (k3) rfl rfl aF rfl rfl aS rfl aH rfl ?_; simp only [cl])) | (refine x_nil (hK _ _ aI ?_); clear hK K)) | (refine v_region (fun K hK => ?_)) | (refine v_condt rfl (fun h => ?_) (fun h => ?_) <;> (have h' := h; try simp only [sx] at h')))
      all_goals first
        | (exfalso; omega)
        | (refine RetPost.mono (fun r fin h => ⟨⟨t.width, x, t.burn⟩, c3, h, (aft2.trans a3).le aO, by simp only; omega, hx6, hl1, by simp only; omega⟩) ?_
           ((first | refine ret_TL rfl rfl rfl (by first | exact trivial | (repeat' (first | exact trivial | refine ⟨by assumption, ?_⟩))) (by repeat' (first | exact trivial | refine ⟨by simp, ?_⟩)) (by first | exact trivial | exact ⟨⟨rfl, rfl, fun h => by cases h⟩, trivial⟩) ?_ | refine ret_AL rfl rfl rfl (by first | exact trivial | (repeat' (first | exact trivial | refine ⟨by assumption, ?_⟩))) (by repeat' (first | exact trivial | refine ⟨by simp, ?_⟩)) (by first | exact trivial | exact ⟨⟨rfl, rfl, fun h => by cases h⟩, trivial⟩) ?_); (repeat' (first | exact et_end | exact el_end | refine et_int rfl ?_ ?_ | refine et_bool ?_ ?_ | refine et_str ?_ ?_ | refine et_lst rfl rfl ?_ ?_ | refine et_listA rfl (by rfl) (by decide) rfl rfl ?_ ?_ ?_ | refine et_nil ?_ ?_ | refine et_agg0 ?_ ?_ | refine et_agg ?_ ?_ | refine el_int rfl ?_ ?_ | refine el_bool ?_ ?_ | refine el_str ?_ ?_ | refine el_lst rfl rfl ?_ ?_ | refine el_listA rfl (by rfl) (by decide) rfl rfl ?_ ?_ ?_ | refine el_nil ?_ ?_)) <;> (first | rfl | assumption | (simp; done) | omega)))
    · by_cases e2 : r = 2
      · obtain ⟨k, c3, k3, a3, g2, g3, _⟩ := k_pick c2 t.burn.length o2 aO aO
        have g3 := g3 aO
        have o3 := a3.ok o2 aO
        have p3 := a3.pos
        obtain ⟨x, c4, k4, a4, _⟩ := k_among c3 [-1, 20, 21] o3 aO (by decide)
        obtain ⟨y, hy⟩ := get_ex (show k.toNat < t.burn.length by omega)
        have hy2 := ints_at hy
        have e := ints_set t.burn k.toNat x
        rw [← hil] at k3
        repeat' (first | (refine pA (k := ?_)) | (refine g_exec ?_; first | (refine g_call ?_; first | (refine x_callL [(io, 0)] (k2) rfl rfl aF rfl rfl aS rfl aH rfl ?_; simp only [cl]) | (refine x_callL [(io, 0)] (k3) rfl rfl aF rfl rfl aS rfl aH rfl ?_; simp only [cl]) | (refine x_callL [(io, 0)] (k4) rfl rfl aF rfl rfl aS rfl aH rfl ?_; simp only [cl])) | (refine x_nil (hK _ _ aI ?_); clear hK K)) | (refine v_region (fun K hK => ?_)) | (refine v_condt rfl (fun h => ?_) (fun h => ?_) <;> (have h' := h; try simp only [sx] at h')))
        all_goals first
          | (exfalso; omega)
          | (refine RetPost.mono (fun r fin h => ⟨⟨t.width, t.height, t.burn.set k.toNat x⟩, c4, h, ((aft2.trans a3).trans a4).le aO, by simp only; omega, by simp only; omega, by simp only [List.length_set]; omega, by simp only [List.length_set]; omega⟩) ?_
             (first | refine ret_TL rfl rfl rfl (by first | exact trivial | (repeat' (first | exact trivial | refine ⟨by assumption, ?_⟩))) (by repeat' (first | exact trivial | refine ⟨by simp, ?_⟩)) (by first | exact trivial | exact ⟨⟨rfl, rfl, fun h => by cases h⟩, trivial⟩) ?_ | refine ret_AL rfl rfl rfl (by first | exact trivial | (repeat' (first | exact trivial | refine ⟨by assumption, ?_⟩))) (by repeat' (first | exact trivial | refine ⟨by simp, ?_⟩)) (by first | exact trivial | exact ⟨⟨rfl, rfl, fun h => by cases h⟩, trivial⟩) ?_); (repeat' (first | exact et_end | exact el_end | refine et_int rfl ?_ ?_ | refine et_bool ?_ ?_ | refine et_str ?_ ?_ | refine et_lst rfl rfl ?_ ?_ | refine et_listA rfl (by rfl) (by decide) rfl rfl ?_ ?_ ?_ | refine et_nil ?_ ?_ | refine et_agg0 ?_ ?_ | refine et_agg ?_ ?_ | refine el_int rfl ?_ ?_ | refine el_bool ?_ ?_ | refine el_str ?_ ?_ | refine el_lst rfl rfl ?_ ?_ | refine el_listA rfl (by rfl) (by decide) rfl rfl ?_ ?_ ?_ | refine el_nil ?_ ?_)) <;> first | rfl | (simp [e]; done) | (simp; done) | omega)
      · by_cases e3 : r = 3
        · repeat' (first | (refine pA (k := ?_)) | (refine g_exec ?_; first | (refine g_call ?_; refine x_callL [(io, 0)] (k2) rfl rfl aF rfl rfl aS rfl aH rfl ?_; simp only [cl]) | (refine x_nil (hK _ _ aI ?_); clear hK K)) | (refine v_region (fun K hK => ?_)) | (refine v_condt rfl (fun h => ?_) (fun h => ?_) <;> (have h' := h; try simp only [sx] at h')))
          all_goals first
            | (exfalso; omega)
            | (refine RetPost.mono (fun r fin h => ⟨⟨t.width, t.height, t.burn ++ [1]⟩, c2, h, aft2.le aO, by simp only; omega, by simp only; omega, by simp, by simp; omega⟩) ?_
               (first | refine ret_TL rfl rfl rfl (by first | exact trivial | (repeat' (first | exact trivial | refine ⟨by assumption, ?_⟩))) (by repeat' (first | exact trivial | refine ⟨by simp, ?_⟩)) (by first | exact trivial | exact ⟨⟨rfl, rfl, fun h => by cases h⟩, trivial⟩) ?_ | refine ret_AL rfl rfl rfl (by first | exact trivial | (repeat' (first | exact trivial | refine ⟨by assumption, ?_⟩))) (by repeat' (first | exact trivial | refine ⟨by simp, ?_⟩)) (by first | exact trivial | exact ⟨⟨rfl, rfl, fun h => by cases h⟩, trivial⟩) ?_); (repeat' (first | exact et_end | exact el_end | refine et_int rfl ?_ ?_ | refine et_bool ?_ ?_ | refine et_str ?_ ?_ | refine et_lst rfl rfl ?_ ?_ | refine et_listA rfl (by rfl) (by decide) rfl rfl ?_ ?_ ?_ | refine et_nil ?_ ?_ | refine et_agg0 ?_ ?_ | refine et_agg ?_ ?_ | refine el_int rfl ?_ ?_ | refine el_bool ?_ ?_ | refine el_str ?_ ?_ | refine el_lst rfl rfl ?_ ?_ | refine el_listA rfl (by rfl) (by decide) rfl rfl ?_ ?_ ?_ | refine el_nil ?_ ?_)) <;> first | rfl | (simp; done) | omega)
        · repeat' (first | (refine pA (k := ?_)) | (refine g_exec ?_; first | (refine g_call ?_; refine x_callL [(io, 0)] (k2) rfl rfl aF rfl rfl aS rfl aH rfl ?_; simp only [cl]) | (refine x_nil (hK _ _ aI ?_); clear hK K)) | (refine v_region (fun K hK => ?_)) | (refine v_condt rfl (fun h => ?_) (fun h => ?_) <;> (have h' := h; try simp only [sx] at h')))
          all_goals first
            | (exfalso; omega)
            | (refine RetPost.mono (fun r fin h => ⟨t, c2, h, aft2.le aO, by omega, by omega, by omega, by omega⟩) ?_
               (first | refine ret_TL rfl rfl rfl (by first | exact trivial | (repeat' (first | exact trivial | refine ⟨by assumption, ?_⟩))) (by repeat' (first | exact trivial | refine ⟨by simp, ?_⟩)) (by first | exact trivial | exact ⟨⟨rfl, rfl, fun h => by cases h⟩, trivial⟩) ?_ | refine ret_AL rfl rfl rfl (by first | exact trivial | (repeat' (first | exact trivial | refine ⟨by assumption, ?_⟩))) (by repeat' (first | exact trivial | refine ⟨by simp, ?_⟩)) (by first | exact trivial | exact ⟨⟨rfl, rfl, fun h => by cases h⟩, trivial⟩) ?_); (repeat' (first | exact et_end | exact el_end | refine et_int rfl ?_ ?_ | refine et_bool ?_ ?_ | refine et_str ?_ ?_ | refine et_lst rfl rfl ?_ ?_ | refine et_listA rfl (by rfl) (by decide) rfl rfl ?_ ?_ ?_ | refine et_nil ?_ ?_ | refine et_agg0 ?_ ?_ | refine et_agg ?_ ?_ | refine el_int rfl ?_ ?_ | refine el_bool ?_ ?_ | refine el_str ?_ ?_ | refine el_lst rfl rfl ?_ ?_ | refine el_listA rfl (by rfl) (by decide) rfl rfl ?_ ?_ ?_ | refine el_nil ?_ ?_)) <;> first | rfl | (simp; done) | omega)
theorem k_anyTerrainZ (c : Cu) (hc : c.Ok) (hp : c.pos + 200 ≤ 1152921504606846976) :
    ContractP Try.prog 40 true [.own (io, 0) 0 0] [cuRow c] (fun r' fin' => ∃ (t : Terrain) (c' : Cu), (r' = .agg t.pv ∧ fin' = [[c'.pv]]) ∧ Aft c c' 200 ∧ TrSz t) := by
  refine ContractP.mono ?_ (ConL.frzP (k_anyTerrain c hc hp) (by rintro r fin ⟨t, c', ⟨rfl, rfl⟩, _⟩; rfl) (by intro row h; simp at h; subst h; rfl))
  rintro r fin ⟨r', rfl, t, c', ⟨rfl, rfl⟩, h⟩
  exact ⟨t, c', ⟨rfl, rfl⟩, h⟩
end Go.Vs
