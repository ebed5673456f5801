/- Parts of a proof: what its last text mentions. -/
import Derived.Test.YtaoadjbjpagdoaaCxc
set_option linter.unusedVariables false
set_option linter.unusedSimpArgs false
namespace Go.Vs
section
variable {α β : Type} {xs : List α} {x : α} {i : Nat}
theorem get_ex (h : i < xs.length) : ∃ a, xs[i]? = some a := ⟨xs[i], List.getElem?_eq_getElem h⟩
theorem get_lt (h : xs[i]? = some x) : i < xs.length := (List.getElem?_eq_some_iff.1 h).1
theorem get_mem (h : xs[i]? = some x) : x ∈ xs := List.mem_of_getElem? h
theorem take_succ (h : xs[i]? = some x) : xs.take (i + 1) = xs.take i ++ [x] := by rw [List.take_add_one, h]; rfl
theorem take_all (h : xs.length ≤ i) : xs.take i = xs := List.take_of_length_le h
theorem map_take_succ (f : α → β) (h : xs[i]? = some x) : (xs.take (i + 1)).map f = (xs.take i).map f ++ [f x] := by rw [take_succ h]; simp
theorem filter_take_succ (p : α → Bool) (h : xs[i]? = some x) : (xs.take (i + 1)).filter p = (xs.take i).filter p ++ (if p x then [x] else []) := by
  rw [take_succ h, List.filter_append]
  cases hp : p x <;> simp [hp]
theorem filter_take_t {p : α → Bool} (h : xs[i]? = some x) (hp : p x = true) : (xs.take (i + 1)).filter p = (xs.take i).filter p ++ [x] := by rw [filter_take_succ p h, if_pos hp]
theorem filter_take_f {p : α → Bool} (h : xs[i]? = some x) (hp : p x = false) : (xs.take (i + 1)).filter p = (xs.take i).filter p := by rw [filter_take_succ p h, hp]; simp
theorem all_take_succ {p : α → Prop} (h : xs[i]? = some x) (ha : ∀ y ∈ xs.take i, p y) (hx : p x) : ∀ y ∈ xs.take (i + 1), p y := fun y hy => by
  rw [take_succ h] at hy
  rcases List.mem_append.1 hy with h1 | h1
  · exact ha y h1
  · rw [List.mem_singleton.1 h1]; exact hx
def sumBy (f : α → Int) (l : List α) : Int := (l.map f).sum
theorem sumBy_cons (f : α → Int) (a : α) (l : List α) : sumBy f (a :: l) = f a + sumBy f l := by simp [sumBy]
theorem sumBy_app (f : α → Int) (a b : List α) : sumBy f (a ++ b) = sumBy f a + sumBy f b := by simp [sumBy]
theorem sumBy_bound (f : α → Int) (B : Int) : ∀ (l : List α), (∀ y ∈ l, 0 ≤ f y ∧ f y ≤ B) → 0 ≤ sumBy f l ∧ sumBy f l ≤ B * l.length
  | [], _ => by simp [sumBy]
  | a :: l, h => by
    obtain ⟨h1, h2⟩ := sumBy_bound f B l fun y hy => h y (List.mem_cons_of_mem _ hy)
    obtain ⟨h3, h4⟩ := h a List.mem_cons_self
    rw [sumBy_cons, List.length_cons]
    constructor
    · omega
    · rw [Int.natCast_add, Int.mul_add]; omega
theorem sumBy_take_le (f : α → Int) (l : List α) (h : ∀ y ∈ l, 0 ≤ f y) (i : Nat) : sumBy f (l.take i) ≤ sumBy f l ∧ 0 ≤ sumBy f (l.take i) := by
  have h0 : ∀ l : List α, (∀ y ∈ l, 0 ≤ f y) → 0 ≤ sumBy f l := by
    intro l
    induction l with
    | nil => intro _; simp [sumBy]
    | cons a l ih => intro hl; rw [sumBy_cons]; have := hl a List.mem_cons_self; have := ih fun y hy => hl y (List.mem_cons_of_mem _ hy); omega
  have h1 := h0 (l.take i) fun y hy => h y (List.mem_of_mem_take hy)
  have h2 := h0 (l.drop i) fun y hy => h y (List.mem_of_mem_drop hy)
  have h3 : sumBy f l = sumBy f (l.take i) + sumBy f (l.drop i) := by rw [← sumBy_app, List.take_append_drop]
  omega
@[reducible] def ints (l : List Int) : List (List PV) := l.map fun n => [PV.int .i64 n]
theorem ints_at {l : List Int} {i : Nat} {n : Int} (h : l[i]? = some n) : (ints l)[i]? = some [PV.int .i64 n] := by simp [ints, h]
theorem ints_flat (l : List Int) : ∀ e ∈ ints l, ∀ c ∈ e, c.flat = true := by
  intro e he c hc
  obtain ⟨a, _, rfl⟩ := List.mem_map.1 he
  simp only [List.mem_cons, List.not_mem_nil, or_false] at hc
  rw [hc]
  rfl
theorem ints_len (l : List Int) : (ints l).length = l.length := by simp [ints]
theorem ints_snoc (l : List Int) (n : Int) : ints (l ++ [n]) = ints l ++ [[PV.int .i64 n]] := by simp [ints]
end
end Go.Vs
namespace Go.Vs
def idx {α : Type} (p : α → Bool) (xs : List α) : Int := match xs.findIdx? p with | some i => (i : Int) | none => -1
section
variable {α : Type} {xs : List α} {p : α → Bool} {i : Nat} {a : α}
theorem idx_some (h : ∀ j, j < i → ∀ c, xs[j]? = some c → p c = false) (ha : xs[i]? = some a) (he : p a = true) : idx p xs = i := by
  have : xs.findIdx? p = some i := by
    rw [List.findIdx?_eq_some_iff_getElem]
    obtain ⟨hi, hx⟩ := List.getElem?_eq_some_iff.1 ha
    refine ⟨hi, by rw [hx, he], fun j hj => ?_⟩
    have := h j hj _ (List.getElem?_eq_getElem (by omega))
    simpa using this
  rw [idx, this]
theorem idx_none (h : ∀ j, j < xs.length → ∀ c, xs[j]? = some c → p c = false) : idx p xs = -1 := by
  have : xs.findIdx? p = none := by
    rw [List.findIdx?_eq_none_iff]
    intro c hc
    obtain ⟨j, hj⟩ := List.getElem?_of_mem hc
    exact h j (List.getElem?_eq_some_iff.1 hj).1 c hj
  rw [idx, this]
theorem idx_step (h : ∀ j, j < i → ∀ c, xs[j]? = some c → p c = false) (ha : xs[i]? = some a) (he : p a = false) : ∀ j, j < i + 1 → ∀ c, xs[j]? = some c → p c = false := fun j hj c hc => by
  rcases Nat.lt_or_ge j i with h1 | h1
  · exact h j h1 c hc
  · have : j = i := by omega
    rw [this, ha] at hc
    injection hc with hc
    rw [← hc]; exact he
theorem idx_at (h : 0 ≤ idx p xs) : ∃ (i : Nat) (a : α), idx p xs = i ∧ xs[i]? = some a ∧ p a = true := by
  unfold idx at h ⊢
  cases hf : xs.findIdx? p with
  | none => rw [hf] at h; simp at h
  | some i =>
    obtain ⟨hi, h1, _⟩ := List.findIdx?_eq_some_iff_getElem.1 hf
    exact ⟨i, xs[i], rfl, List.getElem?_eq_getElem hi, h1⟩
theorem idx_any : decide (0 ≤ idx p xs) = xs.any p := by
  rw [Bool.eq_iff_iff, decide_eq_true_iff]
  constructor
  · intro h
    obtain ⟨i, a, _, h1, h2⟩ := idx_at h
    exact List.any_eq_true.2 ⟨a, List.mem_of_getElem? h1, h2⟩
  · intro h
    obtain ⟨a, ha, hp⟩ := List.any_eq_true.1 h
    rcases Int.lt_or_le (idx p xs) 0 with hlt | hle
    · exfalso
      unfold idx at hlt
      cases hf : xs.findIdx? p with
      | none =>
        rw [List.findIdx?_eq_none_iff] at hf
        rw [hf a ha] at hp
        cases hp
      | some i => rw [hf] at hlt; simp only at hlt; omega
    · exact hle
end
theorem allR_ptrs {d : Nat} {M : Mem} {ids rd : List Id} : ∀ (l : List (List PV)), AllR (SnapD (d + 1) M ids rd) (l.map PV.ptr) (l.map PV.ptr)
  | [] => trivial
  | _ :: l => ⟨rfl, allR_ptrs l⟩
end Go.Vs
namespace Go.Vs
section
variable {α : Type} {xs : List α} {x : α} {i : Nat}
end
end Go.Vs
set_option maxRecDepth 100000
set_option maxHeartbeats 4000000
namespace Go.Vs
theorem aE {p : Prop} (h : p := by first | rfl | assumption | exact getSelf (by omega) | exact getNe (by omega) (by assumption)) : p := h
theorem aH {p : Prop} (h : p := by simp only [thaw, thawT, thaw1, thawL, Nat.zero_add, Nat.reduceAdd]; exact rfl) : p := h
theorem aS {p : Prop} (h : p := by (repeat' (first | exact trivial | exact rfl | exact allR_ptrs _ | exact .inl rfl | exact sn_all rfl rfl rfl | exact sn_all rfl rfl (by first | omega | (simp; done) | fail) | exact sn_part rfl rfl (by first | (simp; done) | exact (takeAll (by assumption)).symm | exact (takeAll (by first | (simp; done) | omega | fail)).symm | (first | (simp only [lx, Nat.reduceAdd]; first | done | rfl) | fail) | fail) | refine sn_own rfl rfl rfl ?_ | exact List.length_map .. | refine ⟨?_, ?_⟩)); first | done | fail) : p := h
theorem aO {p : Prop} (h : p := by omega) : p := h
theorem aA {p : Prop} (h : p := by assumption) : p := h
theorem cl : (∀ (α : Type) (a : α) (l m : List α), (a :: l) ++ m = a :: (l ++ m)) ∧ (∀ (α : Type) (l : List α), [] ++ l = l) ∧ (∀ (α β : Type) (f : α → β) (a : α) (l : List α), (a :: l).map f = f a :: l.map f) ∧ (∀ (α β : Type) (f : α → β), ([] : List α).map f = []) := ⟨fun _ _ _ _ => rfl, fun _ _ => rfl, fun _ _ _ _ _ => rfl, fun _ _ _ => rfl⟩
theorem aR {p : Prop} (h : p := by ((first | refine ret_T rfl rfl rfl (by first | exact trivial | (repeat' (first | exact trivial | refine ⟨by assumption, ?_⟩))) (by repeat' (first | exact trivial | refine ⟨by simp, ?_⟩)) ?_ | refine ret_A rfl rfl rfl (by first | exact trivial | (repeat' (first | exact trivial | refine ⟨by assumption, ?_⟩))) (by repeat' (first | exact trivial | refine ⟨by simp, ?_⟩)) ?_); (repeat' (first | exact et_end | exact el_end | refine et_int rfl ?_ ?_ | refine et_bool ?_ ?_ | refine et_str ?_ ?_ | refine et_list (by rfl) (by decide) rfl rfl ?_ ?_ ?_ ?_ | refine et_nil ?_ ?_ | refine et_agg ?_ ?_ | refine el_int rfl ?_ ?_ | refine el_bool ?_ ?_ | refine el_str ?_ ?_ | refine el_list (by rfl) (by decide) rfl rfl ?_ ?_ ?_ ?_ | refine el_nil ?_ ?_)) <;> (first | rfl | assumption | (exact ints_flat _) | (simp; done) | omega))) : p := h
structure Hid (q : Prop) : Prop where
  p : q
theorem aI {p : Prop} (h : p := by first | exact .inl rfl | exact .inr (by kernel_rfl) | fail) : p := h
theorem aF {p : Prop} (h : p := by (repeat' (first | exact trivial | refine ⟨⟨_, rfl, ?_⟩, ?_⟩ | exact .inl ⟨rfl, .inl rfl⟩ | exact .inr ⟨rfl, rfl, rfl, rfl, rfl, fun e he u hu => by (simp only [List.mem_cons, List.not_mem_nil, or_false] at he; subst he; simp only [List.mem_cons, List.not_mem_nil, or_false] at hu; subst hu; rfl)⟩ | exact .inl ⟨rfl, .inr (fun e he => by (simp only [List.mem_cons, List.not_mem_nil, or_false] at he; subst he; rfl))⟩ | fail)); first | done | fail) : p := h
theorem pA {p q : Prop} (h : Hid q → p := by intro k; first | (refine g_exec ?_; first | (refine g_move ?_; first | (exact x_moveO _ rfl k.p) | fail) | (refine g_assign ?_; first | (exact x_assignO _ rfl k.p) | fail) | (refine g_bin ?_; first | (exact x_add rfl rfl (by omega) k.p) | (exact x_sub rfl rfl (by omega) k.p) | (exact x_mul rfl rfl (by omega) k.p) | (exact x_quo rfl rfl (by omega) k.p) | (exact x_rem rfl rfl (by omega) k.p) | (exact x_quoT rfl rfl (by omega) k.p) | (exact x_remT rfl rfl (by omega) k.p) | (exact x_bin _ rfl rfl rfl k.p) | (exact x_shr _ rfl rfl rfl k.p) | (exact x_boolEq (by assumption) rfl rfl k.p) | (exact x_boolNe (by assumption) rfl rfl k.p) | (exact x_strBin _ rfl rfl rfl k.p) | fail) | (refine g_un ?_; first | (exact x_not rfl k.p) | (exact x_neg rfl (by omega) k.p) | fail) | (refine g_load ?_; first | (exact x_load_pc (by assumption) rfl k.p) | (exact x_load_oc _ (by assumption) rfl rfl (by first | rfl | assumption | exact getSelf (by omega) | exact getNe (by omega) (by assumption)) rfl k.p) | (exact x_load_pa _ (by assumption) rfl (by first | (simp; done) | fail) (by (first | (simp only [lx, Nat.reduceAdd]; first | done | rfl) | fail)) k.p) | (exact x_load_oa _ (by assumption) rfl rfl (by first | rfl | assumption | exact getSelf (by omega) | exact getNe (by omega) (by assumption)) (by first | (simp; done) | fail) (by (first | (simp only [lx, Nat.reduceAdd]; first | done | rfl) | fail)) k.p) | fail) | (refine g_field ?_; first | (exact x_field_p _ (by assumption) rfl (by (first | (simp only [lx, Nat.reduceAdd]; first | done | rfl) | fail)) k.p) | (exact x_field_o _ (by assumption) rfl rfl (by simp only [lx, Nat.reduceAdd]; first | done | rfl) k.p) | fail) | (refine g_index ?_; first | (exact x_index_l _ (by assumption) rfl rfl (by omega) (by assumption) k.p) | (exact x_index_o _ (by assumption) rfl rfl rfl rfl (by omega) (by omega) (by first | (rw [Nat.zero_add, Int.toNat_natCast]) | (rw [Nat.zero_add]) | rfl) k.p) | fail) | (refine g_pick ?_; first | (exact x_pick_b rfl (by first | rfl | assumption | (simp only [sx]; omega) | (simp; done) | fail) rfl k.p) | (exact x_pick_c rfl (by first | rfl | assumption | (simp only [sx]; omega) | (simp; done) | fail) k.p) | (exact x_pick_a rfl (by first | rfl | assumption | (simp only [sx]; omega) | (simp; done) | fail) k.p) | (exact x_pick_d rfl (by first | rfl | assumption | (simp only [sx]; omega) | (simp; done) | fail) rfl k.p) | fail) | (refine g_guard ?_; first | (exact x_gyes rfl rfl (by first | rfl | assumption | (simp only [sx]; omega) | (simp; done) | fail) k.p) | (exact x_gno rfl rfl (by first | rfl | assumption | (simp only [sx]; omega) | (simp; done) | fail) k.p) | (exact x_gun rfl rfl k.p) | fail) | (refine g_call ?_; first | (exact x_len_l (by assumption) rfl k.p) | (exact x_len_o (by assumption) rfl rfl k.p) | (exact x_len_n (by assumption) rfl k.p) | (exact x_len_s (by assumption) (evO_ok rfl) k.p) | (exact x_max rfl rfl k.p) | (exact x_min rfl rfl k.p) | (exact x_appOO _ _ (by assumption) rfl (lookM (by rfl)) rfl (lookM (by rfl)) rfl (by first | exact (takeAll rfl).symm | exact (takeAll (by assumption)).symm | exact (takeAll (by first | (simp; done) | omega | fail)).symm | (first | (simp only [lx, Nat.reduceAdd]; first | done | rfl) | fail) | fail) ⟨rfl, rfl, by decide, by decide⟩ (by first | rfl | omega | (simp; done) | (simp; omega) | fail) ⟨by first | (simp only [List.length_cons, List.length_nil]; omega) | omega | fail, by decide⟩ rfl (by first | (first | (simp only [lx, Nat.reduceAdd]; first | done | rfl) | fail) | rfl) (by first | (simp only [List.length_cons, List.length_nil, Nat.zero_add, Nat.reduceAdd]; exact rfl) | exact rfl) k.p) | (exact x_appCO _ _ (by assumption) rfl rfl (lookM (by rfl)) ⟨rfl, by decide⟩ (by first | exact (takeAll rfl).symm | exact (takeAll (by assumption)).symm | exact (takeAll (by first | (simp; done) | omega | fail)).symm | (first | (simp only [lx, Nat.reduceAdd]; first | done | rfl) | fail) | fail) (by first | exact Nat.succ_pos _ | omega | (simp; done)) ⟨by first | (simp only [List.length_cons, List.length_nil]; omega) | omega | fail, by decide⟩ rfl rfl (by first | (simp only [List.length_cons, List.length_nil, Nat.zero_add, Nat.reduceAdd]; exact rfl) | exact rfl) k.p) | (exact x_appNO _ (by assumption) rfl rfl (lookM (by rfl)) ⟨rfl, by decide⟩ (by first | exact (takeAll rfl).symm | exact (takeAll (by assumption)).symm | exact (takeAll (by first | (simp; done) | omega | fail)).symm | (first | (simp only [lx, Nat.reduceAdd]; first | done | rfl) | fail) | fail) ⟨by first | (simp only [List.length_cons, List.length_nil]; omega) | omega | fail, by decide⟩ rfl (by first | (simp only [List.length_cons, List.length_nil, Nat.zero_add, Nat.reduceAdd]; exact rfl) | exact rfl) k.p) | (exact x_app_ol _ (by assumption) rfl rfl rfl ⟨rfl, rfl, rfl, by decide, by decide⟩ (by first | rfl | (simp; done) | fail) ⟨by omega, by decide⟩ rfl (by (first | (simp only [lx, Nat.reduceAdd]; first | done | rfl) | fail)) (by first | (rw [Nat.zero_add]) | rfl) k.p) | fail) | (refine g_slice ?_; first | (exact x_sliceL _ (by assumption) rfl rfl rfl (by omega) (by first | assumption | rfl) k.p) | (exact x_sliceO _ _ (by assumption) rfl (lookM (by rfl)) rfl rfl rfl (by omega) (by first | (simp only [Nat.zero_add, Int.toNat_natCast]; exact rfl) | rfl) (by first | (simp only [Nat.sub_zero, Int.toNat_natCast]; exact rfl) | rfl) k.p) | (exact x_sliceS (by assumption) rfl rfl rfl (by omega) rfl k.p) | fail) | (exact x_slice3 _ (by assumption) rfl rfl rfl (by omega) (by first | exact List.take_of_length_le (by omega) | rfl) k.p) | (exact x_index_s _ (by assumption) (evO_ok rfl) (evO_ok rfl) (by omega) (by assumption) k.p) | (exact x_convert_i (by assumption) (by assumption) (evO_ok rfl) (by omega) k.p) | (exact x_convert (by assumption) (by assumption) (evO_ok rfl) k.p) | (exact x_buildSliceO (by assumption) rfl rfl rfl k.p) | (exact x_buildO _ _ (by assumption) rfl rfl (by simp [buildPV, PV.cells]; first | done | rfl) k.p) | (exact x_boxO _ _ rfl rfl rfl rfl k.p) | (exact x_alloc _ (by assumption) rfl k.p) | (exact x_allocF (by assumption) rfl k.p) | (exact x_mkfn _ _ rfl rfl k.p) | (exact x_storeO _ _ _ rfl rfl (by first | rfl | assumption | exact getSelf (by omega) | exact getNe (by omega) (by assumption)) (by first | assumption | (exact TAgg.size (by assumption))) rfl rfl rfl (by first | (simp; done) | fail) rfl (by (first | (simp only [lx, Nat.reduceAdd]; first | done | rfl) | fail)) (by first | (first | (simp only [lx, Nat.reduceAdd]; first | done | rfl) | fail) | rfl) k.p) | (exact x_make (by assumption) (by assumption) rfl rfl rfl (by omega) rfl k.p) | (exact x_nil_p rfl k.p) | (exact x_nil_o rfl rfl k.p) | (exact x_nil_f rfl k.p) | (exact x_extract _ rfl rfl k.p) | fail) | (refine g_code ?_; first | (exact v_seq k.p) | (exact v_block k.p) | (exact v_skip k.p) | (exact v_ret k.p) | (exact v_exit k.p) | (refine g_cond ?_; first | (exact v_cond_y rfl (by first | rfl | assumption | (simp only [sx]; omega) | (simp; done) | fail) k.p) | (exact v_cond_n rfl (by first | rfl | assumption | (simp only [sx]; omega) | (simp; done) | fail) k.p) | fail) | fail) | (exact q_then k.p) | (exact q_then_r k.p) | (exact q_then_e k.p) | (exact q_blk_n k.p) | (exact q_blk_r k.p) | (exact q_blk_e k.p) | (exact q_blk_o rfl k.p) | (exact q_loop_r k.p) | (exact q_loop_e k.p) | (exact ret_n k.p) | fail) (k : q) : p := h ⟨k⟩
theorem pB {p q : Prop} (h : Hid q → p := by intro k; first | (refine g_exec ?_; first | (refine g_move ?_; first | (exact x_moveO _ rfl k.p) | fail) | (refine g_assign ?_; first | (exact x_assignO _ rfl k.p) | fail) | (refine g_bin ?_; first | (exact x_add rfl rfl (by omega) k.p) | (exact x_sub rfl rfl (by omega) k.p) | (exact x_mul rfl rfl (by omega) k.p) | (exact x_quo rfl rfl (by omega) k.p) | (exact x_rem rfl rfl (by omega) k.p) | (exact x_quoT rfl rfl (by omega) k.p) | (exact x_remT rfl rfl (by omega) k.p) | (exact x_bin _ rfl rfl rfl k.p) | (exact x_shr _ rfl rfl rfl k.p) | (exact x_boolEq (by assumption) rfl rfl k.p) | (exact x_boolNe (by assumption) rfl rfl k.p) | (exact x_strBin _ rfl rfl rfl k.p) | fail) | (refine g_un ?_; first | (exact x_not rfl k.p) | (exact x_neg rfl (by omega) k.p) | fail) | (refine g_load ?_; first | (exact x_load_pc (by assumption) rfl k.p) | (exact x_load_oc _ (by assumption) rfl rfl (by first | rfl | assumption | exact getSelf (by omega) | exact getNe (by omega) (by assumption)) rfl k.p) | (exact x_load_pa _ (by assumption) rfl (by first | (simp; done) | fail) (by (first | (simp only [lx, Nat.reduceAdd]; first | done | rfl) | fail)) k.p) | (exact x_load_oa _ (by assumption) rfl rfl (by first | rfl | assumption | exact getSelf (by omega) | exact getNe (by omega) (by assumption)) (by first | (simp; done) | fail) (by (first | (simp only [lx, Nat.reduceAdd]; first | done | rfl) | fail)) k.p) | fail) | (refine g_field ?_; first | (exact x_field_p _ (by assumption) rfl (by (first | (simp only [lx, Nat.reduceAdd]; first | done | rfl) | fail)) k.p) | (exact x_field_o _ (by assumption) rfl rfl (by simp only [lx, Nat.reduceAdd]; first | done | rfl) k.p) | fail) | (refine g_index ?_; first | (exact x_index_l _ (by assumption) rfl rfl (by omega) (by assumption) k.p) | (exact x_index_o _ (by assumption) rfl rfl rfl rfl (by omega) (by omega) (by first | (rw [Nat.zero_add, Int.toNat_natCast]) | (rw [Nat.zero_add]) | rfl) k.p) | fail) | (refine g_pick ?_; first | (exact x_pick_b rfl (by first | rfl | assumption | (simp only [sx]; omega) | (simp; done) | fail) rfl k.p) | (exact x_pick_c rfl (by first | rfl | assumption | (simp only [sx]; omega) | (simp; done) | fail) k.p) | (exact x_pick_a rfl (by first | rfl | assumption | (simp only [sx]; omega) | (simp; done) | fail) k.p) | (exact x_pick_d rfl (by first | rfl | assumption | (simp only [sx]; omega) | (simp; done) | fail) rfl k.p) | fail) | (refine g_guard ?_; first | (exact x_gyes rfl rfl (by first | rfl | assumption | (simp only [sx]; omega) | (simp; done) | fail) k.p) | (exact x_gno rfl rfl (by first | rfl | assumption | (simp only [sx]; omega) | (simp; done) | fail) k.p) | (exact x_gun rfl rfl k.p) | fail) | (refine g_call ?_; first | (exact x_len_l (by assumption) rfl k.p) | (exact x_len_o (by assumption) rfl rfl k.p) | (exact x_len_n (by assumption) rfl k.p) | (exact x_len_s (by assumption) (evO_ok rfl) k.p) | (exact x_max rfl rfl k.p) | (exact x_min rfl rfl k.p) | (exact x_appOO _ _ (by assumption) rfl (lookM (by rfl)) rfl (lookM (by rfl)) rfl (by first | exact (takeAll rfl).symm | exact (takeAll (by assumption)).symm | exact (takeAll (by first | (simp; done) | omega | fail)).symm | (first | (simp only [lx, Nat.reduceAdd]; first | done | rfl) | fail) | fail) ⟨rfl, rfl, by decide, by decide⟩ (by first | rfl | omega | (simp; done) | (simp; omega) | fail) ⟨by first | (simp only [List.length_cons, List.length_nil]; omega) | omega | fail, by decide⟩ rfl (by first | (first | (simp only [lx, Nat.reduceAdd]; first | done | rfl) | fail) | rfl) (by first | (simp only [List.length_cons, List.length_nil, Nat.zero_add, Nat.reduceAdd]; exact rfl) | exact rfl) k.p) | (exact x_appCO _ _ (by assumption) rfl rfl (lookM (by rfl)) ⟨rfl, by decide⟩ (by first | exact (takeAll rfl).symm | exact (takeAll (by assumption)).symm | exact (takeAll (by first | (simp; done) | omega | fail)).symm | (first | (simp only [lx, Nat.reduceAdd]; first | done | rfl) | fail) | fail) (by first | exact Nat.succ_pos _ | omega | (simp; done)) ⟨by first | (simp only [List.length_cons, List.length_nil]; omega) | omega | fail, by decide⟩ rfl rfl (by first | (simp only [List.length_cons, List.length_nil, Nat.zero_add, Nat.reduceAdd]; exact rfl) | exact rfl) k.p) | (exact x_appNO _ (by assumption) rfl rfl (lookM (by rfl)) ⟨rfl, by decide⟩ (by first | exact (takeAll rfl).symm | exact (takeAll (by assumption)).symm | exact (takeAll (by first | (simp; done) | omega | fail)).symm | (first | (simp only [lx, Nat.reduceAdd]; first | done | rfl) | fail) | fail) ⟨by first | (simp only [List.length_cons, List.length_nil]; omega) | omega | fail, by decide⟩ rfl (by first | (simp only [List.length_cons, List.length_nil, Nat.zero_add, Nat.reduceAdd]; exact rfl) | exact rfl) k.p) | (exact x_app_ol _ (by assumption) rfl rfl rfl ⟨rfl, rfl, rfl, by decide, by decide⟩ (by first | rfl | (simp; done) | fail) ⟨by omega, by decide⟩ rfl (by (first | (simp only [lx, Nat.reduceAdd]; first | done | rfl) | fail)) (by first | (rw [Nat.zero_add]) | rfl) k.p) | fail) | (refine g_slice ?_; first | (exact x_sliceL _ (by assumption) rfl rfl rfl (by omega) (by first | assumption | rfl) k.p) | (exact x_sliceO _ _ (by assumption) rfl (lookM (by rfl)) rfl rfl rfl (by omega) (by first | (simp only [Nat.zero_add, Int.toNat_natCast]; exact rfl) | rfl) (by first | (simp only [Nat.sub_zero, Int.toNat_natCast]; exact rfl) | rfl) k.p) | (exact x_sliceS (by assumption) rfl rfl rfl (by omega) rfl k.p) | fail) | (exact x_slice3 _ (by assumption) rfl rfl rfl (by omega) (by first | exact List.take_of_length_le (by omega) | rfl) k.p) | (exact x_index_s _ (by assumption) (evO_ok rfl) (evO_ok rfl) (by omega) (by assumption) k.p) | (exact x_convert_i (by assumption) (by assumption) (evO_ok rfl) (by omega) k.p) | (exact x_convert (by assumption) (by assumption) (evO_ok rfl) k.p) | (exact x_buildSliceO (by assumption) rfl rfl rfl k.p) | (exact x_buildO _ _ (by assumption) rfl rfl (by simp [buildPV, PV.cells]; first | done | rfl) k.p) | (exact x_boxO _ _ rfl rfl rfl rfl k.p) | (exact x_alloc _ (by assumption) rfl k.p) | (exact x_allocF (by assumption) rfl k.p) | (exact x_mkfn _ _ rfl rfl k.p) | (exact x_storeO _ _ _ rfl rfl (by first | rfl | assumption | exact getSelf (by omega) | exact getNe (by omega) (by assumption)) (by first | assumption | (exact TAgg.size (by assumption))) rfl rfl rfl (by first | (simp; done) | fail) rfl (by (first | (simp only [lx, Nat.reduceAdd]; first | done | rfl) | fail)) (by first | (first | (simp only [lx, Nat.reduceAdd]; first | done | rfl) | fail) | rfl) k.p) | (exact x_make (by assumption) (by assumption) rfl rfl rfl (by omega) rfl k.p) | (exact x_nil_p rfl k.p) | (exact x_nil_o rfl rfl k.p) | (exact x_nil_f rfl k.p) | (exact x_extract _ rfl rfl k.p) | fail) | (refine g_code ?_; first | (exact v_block k.p) | (exact v_skip k.p) | (exact v_ret k.p) | (exact v_exit k.p) | (refine g_cond ?_; first | (exact v_cond_y rfl (by first | rfl | assumption | (simp only [sx]; omega) | (simp; done) | fail) k.p) | (exact v_cond_n rfl (by first | rfl | assumption | (simp only [sx]; omega) | (simp; done) | fail) k.p) | fail) | fail) | (exact q_then k.p) | (exact q_then_r k.p) | (exact q_then_e k.p) | (exact q_blk_n k.p) | (exact q_blk_r k.p) | (exact q_blk_e k.p) | (exact q_blk_o rfl k.p) | (exact q_loop_r k.p) | (exact q_loop_e k.p) | (exact ret_n k.p) | fail) (k : q) : p := h ⟨k⟩
end Go.Vs
set_option linter.unusedVariables false
set_option linter.unusedSimpArgs false
namespace Go.Vs
open Go.RowKit Go.Deep
theorem ioMem_nil : ioMem [] = noMem := by funext id; simp [ioMem, noMem]
theorem calls_below {P : Program} {f : FuncId} {args : List PV} {cargs : Array Value} {w : World} {b : Bool} (hC : Con P f args (.bool b)) (ha : Comps (fun _ => none) w (fun b => b < w.heap.size) noMem cargs args) (hT : TabsAt w := by exact tabs0 _) :
    Calls P f cargs w fun e w' => e = .returned (.bool b) ∧ Below w.heap.size w w' := by
  have hM := ioMem_nil
  have hno : ∀ id (r : Row), ioMem [] id ≠ some (some r) := fun id r h => by rw [hM] at h; cases h
  have hW : WRel (fun _ => True) (fun _ => none) w [] (ioMem []) w :=
    ⟨fun _ _ r _ _ _ _ h => absurd h (hno _ r), fun _ r h => absurd h (hno _ r), fun _ r h => absurd h (hno _ r), ⟨rfl, rfl, rfl, Nat.le_refl _, fun _ _ _ => rfl, fun b cur ty fr h => ⟨cur, h, rfl⟩⟩, fun _ _ => trivial, let ⟨hp, h1, h2⟩ := hT; ⟨hp, h1, fun g hg => ⟨⟨(h2 g hg).1, fun id r z h => absurd h (hno id r), trivial⟩, (h2 g hg).2⟩⟩⟩
  have hS : (Stab (fun _ => True) (fun _ => none) (ioMem []) w) = (fun b => b < w.heap.size) := by
    funext x
    apply propext
    exact ⟨fun h => h.1, fun h => ⟨h, fun id r z hm => absurd hm (hno _ r), trivial⟩⟩
  refine (((hC false).2 (fun _ => True) w [] (fun _ => none) cargs hW rfl ?_).mono) ?_
  · rw [hS, hM]; exact ha
  · rintro e w' ⟨v, r, fin, rfl, ⟨rfl, rfl⟩, _, _, hr⟩
    obtain ⟨ρ', hr⟩ := hr 0 (by unfold io; omega)
    have hv := rep_bool.1 hr.val
    subst hv
    have hk := hr.rel.keep
    exact ⟨rfl, hk.os, hk.tape, hk.output, hk.size, fun k hk' => hk.block k hk' (fun z h => by cases h)⟩
section
variable {H : Type} {enc : TypeId × Value → H} {P : Program} {w : World} {base : Nat} {spare : Nat → Bool} {held : Bool}
theorem lit_bounds {n : Int} (h : (Lit.int .i64 n).wf = true) : -9223372036854775808 ≤ n ∧ n ≤ 9223372036854775807 := by
  simp only [Lit.wf, Bool.and_eq_true, decide_eq_true_eq] at h
  exact h
theorem cell_lt {a : Addr} {c : Value} (h : w.cell? a = some c) : a.block < w.heap.size := by
  rcases Nat.lt_or_ge a.block w.heap.size with h1 | h1
  · exact h1
  · rw [World.cell?, Array.getElem?_eq_none h1] at h
    cases h
end
end Go.Vs
set_option linter.unusedVariables false
set_option linter.unusedSimpArgs false
namespace Go.Vs
open Go.RowKit Go.Deep
inductive Sh where
  | int
  | str
  | bool
  | byte
  | slice (e : List Sh)
def CellIs : Nat → Sh → PV → Prop
  | 0, _, _ => False
  | d + 1, sh, u => match sh with
    | .int => ∃ n : Int, u = .int .i64 n ∧ -9223372036854775808 ≤ n ∧ n ≤ 9223372036854775807
    | .str => ∃ s, u = .str s ∧ s.size ≤ Go.maxLen
    | .bool => ∃ b, u = .bool b
    | .byte => ∃ n : Int, u = .int .u8 n ∧ 0 ≤ n ∧ n ≤ 255
    | .slice es => ∃ els : List (List PV), u = .list es.length els ∧ els.length ≤ Go.maxLen ∧ ∀ el ∈ els, el.length = es.length ∧ ∀ (j : Nat) sh' u', es[j]? = some sh' → el[j]? = some u' → CellIs d sh' u'
def fieldsOk (P : Program) (ok : TypeId → List Sh → Bool) : List Field → Nat → List Sh → Bool
  | [], _, shs => shs.isEmpty
  | f :: fs, off, shs => Nat.beq f.offset off && (Nat.ble (P.cellsOf f.type) shs.length && (ok f.type (shs.take (P.cellsOf f.type)) && fieldsOk P ok fs (off + P.cellsOf f.type) (shs.drop (P.cellsOf f.type))))
def shOk (P : Program) : Nat → TypeId → List Sh → Bool
  | 0, _, _ => false
  | d + 1, T, shs => match P.underlying T with
    | some (.int .i64) => match shs with | [.int] => true | _ => false
    | some .string => match shs with | [.str] => true | _ => false
    | some .bool => match shs with | [.bool] => true | _ => false
    | some (.int .u8) => match shs with | [.byte] => true | _ => false
    | some (.slice e) => match shs with | [.slice es] => Nat.beq (P.cellsOf e) es.length && (Nat.blt 0 es.length && shOk P d e es) | _ => false
    | some (.struct fs) => Nat.beq (P.cellsOf T) shs.length && fieldsOk P (shOk P d) fs.toList 0 shs
    | _ => false
theorem lit_bytes {n : Int} (h : (Lit.int .u8 n).wf = true) : 0 ≤ n ∧ n ≤ 255 := by
  simp only [Lit.wf, Bool.and_eq_true, decide_eq_true_eq] at h
  exact h
section
variable {H : Type} {enc : TypeId × Value → H} {P : Program} {w : World} {base : Nat} {spare : Nat → Bool} {held : Bool}
def OpenAt (w : World) (d : Nat) (sh : Sh) (oc : Option Value) : Prop := ∃ c u, oc = some c ∧ c.oneCell' = true ∧ CellIs d sh u ∧ ∀ ρ, Rep ρ w (fun b => b < w.heap.size) noMem c u
theorem fields_open {d n : Nat} {cs : List Value} (ih : ∀ T shs fuel cs x, shOk P d T shs = true → DataW.trod enc P w base spare held fuel T cs = some x → cs.length = shs.length ∧ ∀ (j : Nat) sh, shs[j]? = some sh → OpenAt w d sh cs[j]?) :
    ∀ (l : List Field) (off : Nat) (shs : List Sh), fieldsOk P (shOk P d) l off shs = true → (∀ f ∈ l, ∃ x, DataW.trod enc P w base spare held n f.type ((cs.drop f.offset).take (P.cellsOf f.type)) = some x) →
      ∀ (j : Nat) sh, shs[j]? = some sh → OpenAt w d sh cs[off + j]?
  | [], off, shs, h, _, j, sh, hj => by
    cases shs with
    | nil => simp at hj
    | cons a r => cases h
  | f :: fs, off, shs, h, hf, j, sh, hj => by
    simp only [fieldsOk, Bool.and_eq_true] at h
    obtain ⟨h1, h2, h3, h4⟩ := h
    have h1 := Nat.eq_of_beq_eq_true h1
    have h2 := Nat.le_of_ble_eq_true h2
    obtain ⟨x, hx⟩ := hf f List.mem_cons_self
    obtain ⟨g1, g2⟩ := ih _ _ _ _ _ h3 hx
    rcases Nat.lt_or_ge j (P.cellsOf f.type) with hlt | hge
    · have := g2 j sh (by rw [List.getElem?_take, if_pos hlt]; exact hj)
      rw [List.getElem?_take, if_pos hlt, List.getElem?_drop, h1] at this
      exact this
    · have := fields_open ih fs (off + P.cellsOf f.type) _ h4 (fun g hg => hf g (List.mem_cons_of_mem _ hg)) (j - P.cellsOf f.type) sh (by rw [List.getElem?_drop]; rw [show P.cellsOf f.type + (j - P.cellsOf f.type) = j by omega]; exact hj)
      rw [show off + P.cellsOf f.type + (j - P.cellsOf f.type) = off + j by omega] at this
      exact this
theorem open_cells : ∀ (d : Nat) (T : TypeId) (shs : List Sh) (fuel : Nat) (cs : List Value) (x : DataW H × List MemPlace), shOk P d T shs = true → DataW.trod enc P w base spare held fuel T cs = some x →
    cs.length = shs.length ∧ ∀ (j : Nat) sh, shs[j]? = some sh → OpenAt w d sh cs[j]?
  | 0, _, _, _, _, _, h, _ => by cases h
  | d + 1, T, shs, fuel, cs, x, h, hx => by
    have ih := fun T shs fuel cs x => open_cells d T shs fuel cs x
    have single : ∀ {sh : Sh} {c : Value} {u : PV}, c.oneCell' = true → CellIs (d + 1) sh u → (∀ ρ, Rep ρ w (fun b => b < w.heap.size) noMem c u) → [c].length = [sh].length ∧ ∀ (j : Nat) sh', [sh][j]? = some sh' → OpenAt w (d + 1) sh' [c][j]? := by
      intro sh c u h1 h2 h3
      refine ⟨rfl, fun j sh' hj => ?_⟩
      cases j with
      | zero => simp at hj; subst hj; exact ⟨c, u, rfl, h1, h2, h3⟩
      | succ j => simp at hj
    simp only [shOk] at h
    split at h
    · rename_i hu
      split at h
      · obtain ⟨n, rfl, _, hwf⟩ := DataW.trod_int hu hx
        exact single (u := .int .i64 n) rfl ⟨n, rfl, lit_bounds hwf⟩ fun ρ => rep_int.2 rfl
      · cases h
    · rename_i hu
      split at h
      · obtain ⟨s, rfl, _, hs⟩ := DataW.trod_string hu hx
        exact single (u := .str s) rfl ⟨s, rfl, hs⟩ fun ρ => rep_str.2 rfl
      · cases h
    · rename_i hu
      split at h
      · obtain ⟨b, rfl, _⟩ := DataW.trod_bool hu hx
        exact single (u := .bool b) rfl ⟨b, rfl⟩ fun ρ => rep_bool.2 rfl
      · cases h
    · rename_i hu
      split at h
      · obtain ⟨n, rfl, _, hwf⟩ := DataW.trod_int hu hx
        exact single (u := .int .u8 n) rfl ⟨n, rfl, lit_bytes hwf⟩ fun ρ => rep_int.2 rfl
      · cases h
    · rename_i e hu
      split at h
      · rename_i es
        simp only [Bool.and_eq_true] at h
        obtain ⟨h1, h2, h3⟩ := h
        have h1 := Nat.eq_of_beq_eq_true h1
        have h2 : 0 < es.length := by simpa using h2
        rcases open_slice hu hx with ⟨rfl, _⟩ | ⟨a, len, cap, m, n, D, Pl, rfl, hb, hl, hm, hmm, _, hi⟩
        · exact single (u := .list es.length []) rfl ⟨[], rfl, by simp, fun el hel => by simp at hel⟩ fun ρ => rep_list.2 ⟨none, 0, rfl, Nat.le_refl _, fun h => absurd rfl h⟩
        · have hlm : len ≤ m := by rw [hmm]; split <;> omega
          have key : ∀ i, i < len → ∃ el : List PV, el.length = es.length ∧ ∀ (j : Nat) u, el[j]? = some u → ∃ c, w.cell? (a.add (i * es.length + j)) = some c ∧ c.oneCell' = true ∧ (∀ sh', es[j]? = some sh' → CellIs d sh' u) ∧
              ∀ ρ, Rep ρ w (fun b => b < w.heap.size) noMem c u := by
            intro i hil
            obtain ⟨cs', hc, ht'⟩ := hi i (by omega)
            obtain ⟨g1, g2⟩ := ih _ _ _ _ _ h3 ht'
            rw [h1] at hc
            obtain ⟨_, hcl, hat⟩ := World.cells?_some hc
            classical
            refine ⟨(List.range es.length).map fun j => if hj : j < es.length then Classical.choose (Classical.choose_spec (g2 j es[j] (List.getElem?_eq_getElem hj))) else .any, by simp, fun j u hu => ?_⟩
            have hj : j < es.length := by
              have := (List.getElem?_eq_some_iff.1 hu).1
              simpa using this
            rw [List.getElem?_map, List.getElem?_range hj] at hu
            simp only [Option.map_some, Option.some.injEq, dif_pos hj] at hu
            have hsp := Classical.choose_spec (Classical.choose_spec (g2 j es[j] (List.getElem?_eq_getElem hj)))
            rw [hu] at hsp
            refine ⟨_, ?_, hsp.2.1, fun sh' hs' => ?_, hsp.2.2.2⟩
            · rw [← Go.Deep.add_add, hat j (by omega)]
              exact hsp.1
            · rw [List.getElem?_eq_getElem hj] at hs'
              injection hs' with hs'
              rw [← hs']
              exact hsp.2.2.1
          have hall : ∃ els : List (List PV), els.length = len ∧ ∀ i el, els[i]? = some el → el.length = es.length ∧ ∀ (j : Nat) u, el[j]? = some u → ∃ c, w.cell? (a.add (i * es.length + j)) = some c ∧ c.oneCell' = true ∧ (∀ sh', es[j]? = some sh' → CellIs d sh' u) ∧
              ∀ ρ, Rep ρ w (fun b => b < w.heap.size) noMem c u := by
            classical
            refine ⟨(List.range len).map fun i => if h : i < len then Classical.choose (key i h) else [], by simp, fun i r hr => ?_⟩
            have hi' : i < len := by
              have := (List.getElem?_eq_some_iff.1 hr).1
              simpa using this
            rw [List.getElem?_map, List.getElem?_range hi'] at hr
            simp only [Option.map_some, Option.some.injEq, dif_pos hi'] at hr
            subst hr
            exact Classical.choose_spec (key i hi')
          obtain ⟨els, hlen, hels⟩ := hall
          refine single (u := .list es.length els) rfl ⟨els, rfl, by omega, fun el hel => ?_⟩ fun ρ => rep_list.2 ⟨some a, cap, by rw [hlen], by omega, fun hne => ⟨a, rfl, ?_, fun i el hi => ⟨(hels i el hi).1, fun j u hu => ?_⟩⟩⟩
          · obtain ⟨i, hi⟩ := List.getElem?_of_mem hel
            refine ⟨(hels i el hi).1, fun j sh' u' hs hu => ?_⟩
            obtain ⟨c, _, _, h5, _⟩ := (hels i el hi).2 j u' hu
            exact h5 sh' hs
          · obtain ⟨el, hel⟩ : ∃ el, els[0]? = some el := by
              cases els with
              | nil => exact absurd rfl hne
              | cons r _ => exact ⟨r, rfl⟩
            obtain ⟨g1, g2⟩ := hels 0 el hel
            obtain ⟨c, k1, _⟩ := g2 0 (el[0]'(by omega)) (List.getElem?_eq_getElem (by omega))
            have h3 := cell_lt k1
            have h4 : (a.add (0 * es.length + 0)).block = a.block := by simp only [Addr.add]; split <;> rfl
            rw [h4] at h3
            exact h3
          · obtain ⟨c, k1, k2, _, k4⟩ := (hels i el hi).2 j u hu
            refine ⟨c, ?_, k2, k4 ρ⟩
            rw [Go.Deep.add_add]
            exact k1
      · cases h
    · rename_i fs hu
      rw [Bool.and_eq_true] at h
      obtain ⟨ys, n, _, _, hlen, hyl, hf⟩ := DataW.trod_struct hu hx
      have hc := Nat.eq_of_beq_eq_true h.1
      refine ⟨by rw [hlen, hc], fun j sh hj => ?_⟩
      have := fields_open (cs := cs) (n := n) ih fs.toList 0 shs h.2 (fun f hfm => ?_) j sh hj
      · rw [Nat.zero_add] at this
        obtain ⟨c, u, k1, k2, k3, k4⟩ := this
        refine ⟨c, u, k1, k2, ?_, k4⟩
        have mono : ∀ (d : Nat) (sh : Sh) (u : PV), CellIs d sh u → CellIs (d + 1) sh u := by
          intro d
          induction d with
          | zero => intro sh u h; exact h.elim
          | succ d ihd =>
            intro sh u h
            cases sh with
            | int => exact h
            | str => exact h
            | bool => exact h
            | byte => exact h
            | slice es =>
              obtain ⟨els, h1, h2, h3⟩ := h
              exact ⟨els, h1, h2, fun el hel => ⟨(h3 el hel).1, fun j sh' u' hs hu => ihd _ _ ((h3 el hel).2 j sh' u' hs hu)⟩⟩
        exact mono d sh u k3
      · obtain ⟨i, hi⟩ := List.getElem?_of_mem hfm
        rw [Array.getElem?_toList] at hi
        have hil : i < ys.length := by rw [hyl]; exact (Array.getElem?_eq_some_iff.1 hi).1
        exact ⟨ys[i], by rw [hf i f hi, List.getElem?_eq_getElem hil]⟩
    · cases h
theorem open_all {d : Nat} {T : TypeId} {shs : List Sh} {fuel : Nat} {cs : List Value} {x : DataW H × List MemPlace} (h : shOk P d T shs = true) (hx : DataW.trod enc P w base spare held fuel T cs = some x) :
    ∃ us : List PV, us.length = shs.length ∧ (∀ (j : Nat) sh u, shs[j]? = some sh → us[j]? = some u → CellIs d sh u) ∧ ∀ ρ, Comps ρ w (fun b => b < w.heap.size) noMem cs.toArray us := by
  obtain ⟨h1, h2⟩ := open_cells d T shs fuel cs x h hx
  classical
  refine ⟨(List.range shs.length).map fun j => if hj : j < shs.length then Classical.choose (Classical.choose_spec (h2 j shs[j] (List.getElem?_eq_getElem hj))) else .any, by simp, fun j sh u hs hu => ?_, fun ρ => ⟨by simp [h1], fun j u hu => ?_⟩⟩
  · have hj : j < shs.length := (List.getElem?_eq_some_iff.1 hs).1
    rw [List.getElem?_map, List.getElem?_range hj] at hu
    simp only [Option.map_some, Option.some.injEq, dif_pos hj] at hu
    have hsp := Classical.choose_spec (Classical.choose_spec (h2 j shs[j] (List.getElem?_eq_getElem hj)))
    rw [hu] at hsp
    rw [List.getElem?_eq_getElem hj] at hs
    injection hs with hs
    rw [← hs]
    exact hsp.2.2.1
  · have hj : j < shs.length := by
      have := (List.getElem?_eq_some_iff.1 hu).1
      simpa using this
    rw [List.getElem?_map, List.getElem?_range hj] at hu
    simp only [Option.map_some, Option.some.injEq, dif_pos hj] at hu
    have hsp := Classical.choose_spec (Classical.choose_spec (h2 j shs[j] (List.getElem?_eq_getElem hj)))
    rw [hu] at hsp
    refine ⟨_, ?_, hsp.2.2.2 ρ⟩
    rw [List.getElem?_toArray]
    exact hsp.1
end
theorem cell_byte {d : Nat} {u : PV} (h : CellIs (d + 1) .byte u) : ∃ n : Int, u = .int .u8 n ∧ 0 ≤ n ∧ n ≤ 255 := h
theorem cell_list {α : Type} {d : Nat} {es : List Sh} {u : PV} (f : α → List PV) (h : CellIs (d + 1) (.slice es) u)
    (hf : ∀ el : List PV, el.length = es.length → (∀ (j : Nat) sh' u', es[j]? = some sh' → el[j]? = some u' → CellIs d sh' u') → ∃ a, el = f a) : ∃ xs : List α, u = .list es.length (xs.map f) ∧ xs.length ≤ Go.maxLen := by
  obtain ⟨els, rfl, h2, h3⟩ := h
  have : ∃ xs : List α, els = xs.map f := by
    clear h2
    induction els with
    | nil => exact ⟨[], rfl⟩
    | cons el r ih =>
      obtain ⟨xs, hx⟩ := ih fun el' hel => h3 el' (List.mem_cons_of_mem _ hel)
      obtain ⟨a, ha⟩ := hf el (h3 el List.mem_cons_self).1 (h3 el List.mem_cons_self).2
      exact ⟨a :: xs, by rw [List.map_cons, ← hx, ← ha]⟩
  obtain ⟨xs, rfl⟩ := this
  exact ⟨xs, rfl, by simpa using h2⟩
end Go.Vs
set_option linter.unusedVariables false
set_option linter.unusedSimpArgs false
set_option linter.unusedSectionVars false
namespace Go.Vs
abbrev Plc := Option (Nat × Nat)
def inQ (q : Plc) (b : Nat) : Prop := ∃ z, q = some (b, z)
def flatE (es : List (List PV)) : Prop := ∀ e ∈ es, ∀ c ∈ e, c.flat = true
theorem oslOk_cong {w w' : World} {r : Row} {v : Value} {o n : Nat} {q : Plc} (h : OslOk w r v o n q) (hb : ∀ b, inQ q b → w'.heap[b]? = w.heap[b]?) : OslOk w' r v o n q := by
  cases q with
  | none => exact h
  | some bz =>
    obtain ⟨b, z⟩ := bz
    obtain ⟨ad, cap, h1, h2, h3, h4, h5⟩ := h
    exact ⟨ad, cap, h1, h2, h3, h4, fun hc => by rw [hb b ⟨z, rfl⟩]; exact h5 hc⟩
theorem rowFlat_cong {G G' : Nat → Prop} {ρ ρ' : Id → Option (Nat × Nat)} {M M' : Mem} {w w' : World} {r : Row} {q : Plc} (hf : flatE r.es) (h : RowOk G ρ w M r q) (hb : ∀ b, inQ q b → w'.heap[b]? = w.heap[b]?) : RowOk G' ρ' w' M' r q := by
  cases q with
  | none => exact h
  | some bz =>
    obtain ⟨b, z⟩ := bz
    obtain ⟨cur, C, h1, h2, h3, h4, h5, h6⟩ := h
    exact ⟨cur, C, by rw [hb b ⟨z, rfl⟩]; exact h1, h2, h3, h4, h5, fun i e hi => ⟨(h6 i e hi).1, fun j u hu => let ⟨c, g1, g2, g3⟩ := (h6 i e hi).2 j u hu; ⟨c, g1, g2, rep_flat (hf e (List.mem_of_getElem? hi) u (List.mem_of_getElem? hu)) g3⟩⟩⟩
theorem rowOk_lt {G : Nat → Prop} {ρ : Id → Option (Nat × Nat)} {M : Mem} {w : World} {r : Row} {q : Plc} (h : RowOk G ρ w M r q) {b : Nat} (hq : inQ q b) : b < w.heap.size := by
  obtain ⟨z, rfl⟩ := hq
  exact RowOk.lt h
def LP (q : Plc) (T : TypeId) (es : List (List PV)) (B : Nat → Prop) (w : World) (v : Value) : Prop :=
  (∀ b, inQ q b → B b) ∧ OslOk w ⟨T, 1, es, false⟩ v 0 es.length q ∧ RowOk (fun _ => False) (fun _ => none) w noMem ⟨T, 1, es, false⟩ q ∧ flatE es
section
variable {q : Plc} {T : TypeId} {es : List (List PV)} {B B' : Nat → Prop} {w w' : World} {v : Value}
theorem LP.cong (h : LP q T es B w v) (hb : ∀ b, inQ q b → w'.heap[b]? = w.heap[b]?) (hB : ∀ b, inQ q b → B' b) : LP q T es B' w' v :=
  ⟨hB, oslOk_cong h.2.1 hb, rowFlat_cong h.2.2.2 h.2.2.1 hb, h.2.2.2⟩
theorem LP.lt (h : LP q T es B w v) {b : Nat} (hq : inQ q b) : b < w.heap.size := rowOk_lt h.2.2.1 hq
theorem oslOk_one {r : Row} {o n : Nat} (h : OslOk w r v o n q) : v.oneCell' = true := by
  cases q with
  | none => obtain ⟨rfl, _⟩ := h; rfl
  | some bz => obtain ⟨ad, cap, rfl, _⟩ := h; rfl
theorem LP.one (h : LP q T es B w v) : v.oneCell' = true := oslOk_one h.2.1
theorem rep_LP {ρ : Id → Option (Nat × Nat)} {S : Nat → Prop} {M : Mem} : Rep ρ w S M v (.sem (LP q T es)) ↔ LP q T es S w v := by
  constructor
  · intro h
    obtain ⟨_, B, hB, h⟩ := rep_sem.1 h
    have := h w fun _ _ => rfl
    exact this.cong (fun _ _ => rfl) fun b hb => hB b (this.1 b hb)
  · intro h
    exact rep_sem.2 ⟨h.one, inQ q, h.1, fun w' ha => h.cong ha fun _ h => h⟩
theorem list_of_row {G : Nat → Prop} {ρ : Id → Option (Nat × Nat)} {r : Row} {ys : List (List PV)} (h1 : OslOk w r v 0 r.es.length q) (h2 : RowOk G ρ w noMem r q) (hq : ∀ b, inQ q b → B b) (hl : ys.length = r.es.length)
    (hc : ∀ (i : Nat) e e', r.es[i]? = some e → ys[i]? = some e' → e'.length = e.length ∧ ∀ (j : Nat) u', e'[j]? = some u' → ∃ u, e[j]? = some u ∧ ∀ c, Rep ρ w (Stab G ρ noMem w) noMem c u → Rep (fun _ => none) w B noMem c u') :
    Rep (fun _ => none) w B noMem v (.list r.sz ys) := by
  cases q with
  | none =>
    obtain ⟨rfl, _, h0⟩ := h1
    exact rep_list.2 ⟨none, 0, by rw [hl, h0], by omega, fun hne => absurd (List.eq_nil_of_length_eq_zero (hl.trans h0)) hne⟩
  | some bz =>
    obtain ⟨b, z⟩ := bz
    obtain ⟨ad, cap, rfl, k2, k3, k4, k5⟩ := h1
    obtain ⟨cur, C, g1, g2, g3, g4, g5, g6⟩ := h2
    refine rep_list.2 ⟨some ad, cap, by rw [hl], by omega, fun hne => ⟨ad, rfl, ?_, fun i e' hi => ?_⟩⟩
    · have hp : 0 < cap := by
        have : 0 < ys.length := List.length_pos_iff.2 hne
        omega
      obtain ⟨rfl, _⟩ := k5 hp
      exact hq b ⟨z, rfl⟩
    · have hp : 0 < cap := by
        have : 0 < ys.length := List.length_pos_iff.2 hne
        omega
      obtain ⟨rfl, _⟩ := k5 hp
      have hlt : i < r.es.length := by rw [← hl]; exact (List.getElem?_eq_some_iff.1 hi).1
      have hi0 := List.getElem?_eq_getElem hlt
      obtain ⟨e1, e2⟩ := hc i _ e' hi0 hi
      refine ⟨e1.trans (g6 i _ hi0).1, fun j u' hu' => ?_⟩
      obtain ⟨u, hu, hr⟩ := e2 j u' hu'
      obtain ⟨c, c1, c2, c3⟩ := (g6 i _ hi0).2 j u hu
      refine ⟨c, ?_, c2, hr c (by cases hb : r.bx <;> simpa [hb] using c3)⟩
      rw [add_off, add_off, cell_of_row w b _ cur r.ty (0, 0) g1, ← c1]
      congr 1; omega
theorem semTo_LP : SemTo (LP q T es) (.list 1 es) := by
  intro w B v h0 h
  have h := h w fun _ _ => rfl
  exact list_of_row (r := ⟨T, 1, es, false⟩) h.2.1 h.2.2.1 h.1 rfl fun i e e' h1 h2 => by
    simp only at h1
    rw [h1] at h2
    injection h2 with h2
    subst h2
    exact ⟨rfl, fun j u' hu => ⟨u', hu, fun c hc => rep_flat (h.2.2.2 e (List.mem_of_getElem? h1) u' (List.mem_of_getElem? hu)) hc⟩⟩
end
def rowQ (TI : TypeId) (ps : List (Int × List (List PV))) (qs : List Plc) : List (List PV) := List.zipWith (fun p q => [.int .i64 p.1, .sem (LP q TI p.2)]) ps qs
def Tree (TS TI : TypeId) (ps : List (Int × List (List PV))) (q : Plc) (qs : List Plc) (B : Nat → Prop) (w : World) (v : Value) : Prop :=
  (∀ b, inQ q b → B b) ∧ OslOk w ⟨TS, 2, rowQ TI ps qs, false⟩ v 0 (rowQ TI ps qs).length q ∧ RowOk B (fun _ => none) w noMem ⟨TS, 2, rowQ TI ps qs, false⟩ q ∧ qs.length = ps.length
section
variable {TS TI : TypeId} {ps : List (Int × List (List PV))} {q : Plc} {qs : List Plc} {B B' : Nat → Prop} {w w' : World} {v : Value}
theorem rowQ_at {i : Nat} {p : Int × List (List PV)} {q : Plc} (hp : ps[i]? = some p) (hq : qs[i]? = some q) : (rowQ TI ps qs)[i]? = some [.int .i64 p.1, .sem (LP q TI p.2)] := by simp [rowQ, List.getElem?_zipWith, hp, hq]
theorem Tree.cong (h : Tree TS TI ps q qs B w v) (hb : ∀ b, B b → w'.heap[b]? = w.heap[b]?) : Tree TS TI ps q qs B w' v := by
  refine ⟨h.1, oslOk_cong h.2.1 fun b hq => hb b (h.1 b hq), h.2.2.1.mono ⟨fun b hS => ⟨⟨(Array.getElem?_eq_some_iff.1 ((hb b hS.2.2).trans (Array.getElem?_eq_getElem hS.1))).1, hS.2.1, hS.2.2⟩, hb b hS.2.2⟩, MLe.noMem⟩ fun b z e => hb b (h.1 b ⟨z, e⟩), h.2.2.2⟩
theorem Tree.inner (h : Tree TS TI ps q qs B w v) {i : Nat} {p : Int × List (List PV)} {qi : Plc} (hp : ps[i]? = some p) (hq : qs[i]? = some qi) : ∀ b, inQ qi b → B b ∧ b < w.heap.size := by
  intro b hb
  have hr := h.2.2.1
  have hat := rowQ_at (TI := TI) hp hq
  cases q with
  | none =>
    have : rowQ TI ps qs = [] := hr.1
    rw [this] at hat
    simp at hat
  | some bz =>
    obtain ⟨b0, z⟩ := bz
    obtain ⟨cur, C, g1, g2, g3, g4, g5, g6⟩ := hr
    obtain ⟨c, c1, c2, c3⟩ := (g6 i _ hat).2 1 _ rfl
    have := rep_LP.1 c3
    exact ⟨(this.1 b hb).2.2, this.lt hb⟩
theorem rowQ_inv {i : Nat} {e : List PV} (h : (rowQ TI ps qs)[i]? = some e) : ∃ p q, ps[i]? = some p ∧ qs[i]? = some q ∧ e = [.int .i64 p.1, .sem (LP q TI p.2)] := by
  simp only [rowQ, List.getElem?_zipWith] at h
  cases hp : ps[i]? with
  | none => simp [hp] at h
  | some p =>
    cases hq : qs[i]? with
    | none => simp [hp, hq] at h
    | some q => simp [hp, hq] at h; exact ⟨p, q, rfl, rfl, h.symm⟩
theorem rowQ_cong {G G' : Nat → Prop} {ρ ρ' : Id → Option (Nat × Nat)} {M M' : Mem} (h : RowOk G ρ w M ⟨TS, 2, rowQ TI ps qs, false⟩ q) (hq : ∀ b, inQ q b → w'.heap[b]? = w.heap[b]?) (hqs : ∀ q' ∈ qs, ∀ b, inQ q' b → Stab G ρ M w b → w'.heap[b]? = w.heap[b]? ∧ Stab G' ρ' M' w' b) :
    RowOk G' ρ' w' M' ⟨TS, 2, rowQ TI ps qs, false⟩ q := by
  cases q with
  | none => exact h
  | some bz =>
    obtain ⟨b, z⟩ := bz
    obtain ⟨cur, C, g1, g2, g3, g4, g5, g6⟩ := h
    refine ⟨cur, C, by rw [hq b ⟨z, rfl⟩]; exact g1, g2, g3, g4, g5, fun i e hi => ⟨(g6 i e hi).1, fun j u hu => ?_⟩⟩
    obtain ⟨c, c1, c2, c3⟩ := (g6 i e hi).2 j u hu
    refine ⟨c, c1, c2, ?_⟩
    obtain ⟨p, q', hp, hq', rfl⟩ := rowQ_inv hi
    match j, hu with
    | 0, hu => simp at hu; subst hu; exact rep_flat rfl c3
    | 1, hu =>
      simp at hu
      subst hu
      have h5 := rep_LP.1 c3
      exact rep_LP.2 (h5.cong (fun b hb => (hqs q' (List.mem_of_getElem? hq') b hb (h5.1 b hb)).1) fun b hb => (hqs q' (List.mem_of_getElem? hq') b hb (h5.1 b hb)).2)
    | j + 2, hu => simp at hu
theorem Tree.at (h : Tree TS TI ps q qs B w v) (hq : ∀ b, inQ q b → w'.heap[b]? = w.heap[b]? ∧ B' b) (hqs : ∀ q' ∈ qs, ∀ b, inQ q' b → w'.heap[b]? = w.heap[b]? ∧ B' b) : Tree TS TI ps q qs B' w' v :=
  ⟨fun b hb => (hq b hb).2, oslOk_cong h.2.1 fun b hb => (hq b hb).1, rowQ_cong h.2.2.1 (fun b hb => (hq b hb).1) fun q' hq' b hb hs => ⟨(hqs q' hq' b hb).1, (Array.getElem?_eq_some_iff.1 (((hqs q' hq' b hb).1).trans (Array.getElem?_eq_getElem hs.1))).1, hs.2.1, (hqs q' hq' b hb).2⟩, h.2.2.2⟩
theorem Tree.inB (h : Tree TS TI ps q qs B w v) : ∀ q' ∈ q :: qs, ∀ b, inQ q' b → B b ∧ b < w.heap.size := by
  intro q' hq' b hb
  rcases List.mem_cons.1 hq' with rfl | hq'
  · exact ⟨h.1 b hb, rowOk_lt h.2.2.1 hb⟩
  · obtain ⟨i, hi⟩ := List.mem_iff_getElem?.1 hq'
    have hlt := (List.getElem?_eq_some_iff.1 hi).1
    exact h.inner (List.getElem?_eq_getElem (show i < ps.length by rw [← h.2.2.2]; exact hlt)) hi b hb
theorem Tree.one (h : Tree TS TI ps q qs B w v) : v.oneCell' = true := oslOk_one h.2.1
end
section
variable [fl : Inhabited FlrT]
def EntN (st : St) (Φ : St → Prop) : Prop := ∀ (G : Nat → Prop) (w0 : World) (X : List (Option (Nat × Nat))) (N : Nat) (a : Act) (w : World), FlOk w0 X → RelF G w0 X N st.V st.M a w → ∃ st', Φ st' ∧ RelF G w0 X N st'.V st'.M a w
def NewQ (mem : List (Id × Option Row)) (q : Plc) : Prop :=
  (∀ b, inQ q b → flN ≤ b) ∧ ∀ id row, getM mem id = some (some row) → ∀ e ∈ row.es, ∀ q' T' es', PV.sem (LP q' T' es') ∈ e → ∀ b, inQ q b → ¬ inQ q' b
theorem keep_trans {G : Nat → Prop} {ρ : Id → Option (Nat × Nat)} {w0 w w' : World} {X : List (Option (Nat × Nat))} {M : Mem} (hk : Keep w [] w') (hW : WRel G ρ w0 X M w) : Trans G ρ M w ρ M w' ∧ WRel G ρ w0 X M w' := by
  have hb : ∀ b, b < w.heap.size → w'.heap[b]? = w.heap[b]? := fun b h => hk.block b h fun z hz => by simp at hz
  have T : Trans G ρ M w ρ M w' := by
    refine ⟨fun b h => ⟨⟨Nat.lt_of_lt_of_le h.1 hk.size, h.2.1, h.2.2⟩, hb b h.1⟩, fun id => ?_⟩
    cases hM : M id with
    | none => trivial
    | some o =>
      cases o with
      | none => rfl
      | some r => exact .inr ⟨r, rfl, rfl, rfl, Nat.le_refl _, rfl, fun b z hρ cur hc => ⟨cur, by rw [hb b (hW.lt hM hρ)]; exact hc, rfl⟩⟩
  have hk0 := hW.keep
  refine ⟨T, hW.inj, fun id r h => (hW.row id r h).mono T fun b z e => hb b (hW.lt h e), hW.new, ⟨hk.os.trans hk0.os, hk.tape.trans hk0.tape, hk.output.trans hk0.output, Nat.le_trans hk0.size hk.size, fun b h hn => (hb b (Nat.lt_of_lt_of_le h hk0.size)).trans (hk0.block b h hn), fun b cur ty fr h => ?_⟩, hW.good, hW.tab.mono T.stab⟩
  obtain ⟨c1, h1, h2⟩ := hk0.shape b cur ty fr h
  obtain ⟨c2, h3, h4⟩ := hk.shape b c1 ty fr h1
  exact ⟨c2, h3, h4.trans h2⟩
def Old (n : Nat) (x : PV) (B : Nat → Prop) (w : World) (v : Value) : Prop := (∀ b, B b → b < n) ∧ v.oneCell' = true ∧ Rep (fun _ => none) w B noMem v x
theorem semTo_Old {n : Nat} {x : PV} : SemTo (Old n x) x := fun w B v _ h => (h w fun _ _ => rfl).2.2
theorem rep_old_after {n : Nat} {y : PV} {ρ ρ' : Id → Option (Nat × Nat)} {M M' : Mem} {S S' : Nat → Prop} {w w' : World} {v : Value} (h : Rep ρ w S M v (.sem (Old n y))) (hS : ∀ b, S b → b < n → S' b ∧ w'.heap[b]? = w.heap[b]?) : Rep ρ' w' S' M' v (.sem (Old n y)) := by
  obtain ⟨h0, B, h1, h2⟩ := rep_sem.1 h
  have h3 := h2 w fun _ _ => rfl
  refine rep_sem.2 ⟨h0, B, fun b hb => (hS b (h1 b hb) (h3.1 b hb)).1, fun w2 ha => h2 w2 fun b hb => (ha b hb).trans (hS b (h1 b hb) (h3.1 b hb)).2⟩
theorem wrel_one {w : World} {row : Row} {q : Plc} {qs : List Plc} (hr : RowOk (fun _ => True) (fun _ => q) w (ioMem [row]) row q) (htab : ∃ hp, TabOk hp) (ht : tabG = []) : WRel (fun _ => True) (fun _ => q) w (q :: qs) (ioMem [row]) w := by
  have hid : ∀ id r, ioMem [row] id = some (some r) → id = (io, 0) ∧ r = row := by
    intro id r h
    simp only [ioMem] at h
    split at h
    · rename_i h1
      obtain ⟨i1, i2⟩ := id
      simp only at h1 h
      cases i2 with
      | zero => simp at h; exact ⟨by rw [h1], h.symm⟩
      | succ n => simp at h
    · cases h
  refine ⟨?_, ?_, ?_, ⟨rfl, rfl, rfl, Nat.le_refl _, fun _ _ _ => rfl, fun b cur ty fr h => ⟨cur, h, rfl⟩⟩, fun _ _ => trivial, ?_⟩
  · intro i1 i2 r1 r2 b z1 z2 h1 h2 _ _
    rw [(hid i1 r1 h1).1, (hid i2 r2 h2).1]
  · intro id r h
    rw [(hid id r h).2]
    exact hr
  · intro id r h
    rw [if_pos (by rw [(hid id r h).1]), (hid id r h).1]
    rfl
  · obtain ⟨hp, h⟩ := htab
    exact ⟨hp, h, fun g hg => by rw [ht] at hg; cases hg⟩
section
variable {P : Program} {ops : Array Oper} {draw : Bool} {rest : List Oper} {env : List (Nat × PV)} {mem : List (Id × Option Row)} {tr : List (List Id × List Id)} {K : St → List (List Id × List Id) → Prop}
  {d : Nat} {ty : TypeId} {pos : String} {af : Array Edge} {x y c : Operand} {T yT : TypeId}
end
end
end Go.Vs
set_option linter.unusedVariables false
set_option linter.unusedSimpArgs false
set_option linter.unusedSectionVars false
namespace Go.Vs
section
variable [fl : Inhabited FlrT]
theorem row_apart {G : Nat → Prop} {ρ : Id → Option (Nat × Nat)} {w0 w : World} {X : List (Option (Nat × Nat))} {M : Mem} (hW : WRel G ρ w0 X M w) {idr id : Id} {row r : Row} (h1 : M idr = some (some row)) (h2 : M id = some (some r))
    {e : List PV} (he : e ∈ row.es) {q' : Plc} {T' : TypeId} {es' : List (List PV)} (hc : PV.sem (LP q' T' es') ∈ e) {b : Nat} (hb : inQ (ρ id) b) : ¬ inQ q' b := by
  intro hq'
  obtain ⟨z, hz⟩ := hb
  have hr := hW.row idr row h1
  obtain ⟨i, hi⟩ := List.mem_iff_getElem?.1 he
  obtain ⟨j, hj⟩ := List.mem_iff_getElem?.1 hc
  cases hb : ρ idr with
  | none => rw [hb] at hr; rw [hr.1] at he; cases he
  | some bz =>
    obtain ⟨b0, z0⟩ := bz
    rw [hb] at hr
    obtain ⟨cur, C, g1, g2, g3, g4, g5, g6⟩ := hr
    obtain ⟨c, c1, c2, c3⟩ := (g6 i e hi).2 j _ hj
    exact ((rep_LP.1 c3).1 b hq').2.1 id _ z h2 hz
section
variable {P : Program} {ops : Array Oper} {draw : Bool} {rest : List Oper} {env : List (Nat × PV)} {mem : List (Id × Option Row)} {tr : List (List Id × List Id)} {K : St → List (List Id × List Id) → Prop}
  {d : Nat} {ty : TypeId} {pos : String} {af : Array Edge} {x y c : Operand} {T yT : TypeId}
end
end
end Go.Vs
set_option linter.unusedVariables false
set_option linter.unusedSimpArgs false
set_option linter.unusedSectionVars false
namespace Go.Vs
section
variable [fl : Inhabited FlrT]
def Calm (W : Nat → Prop) (x : PV) : Prop := x.flat = true ∨ ∃ n y, x = .sem (Old n y) ∧ ∀ b, W b → n ≤ b
def Stays (W : Nat → Prop) (mem' : List (Id × Option Row)) (ida : Id) (mem : List (Id × Option Row)) (x : PV) : Prop := Calm W x ∨ ∃ id o n r r', (x = .osl id o n ∨ (x = .own id o n ∧ r' = r)) ∧ id ≠ ida ∧ getM mem id = some (some r) ∧ getM mem' id = some (some r') ∧ r'.ty = r.ty ∧ r'.sz = r.sz ∧ r'.es.length = r.es.length
theorem rep_calm {W : Nat → Prop} {x : PV} {ρ ρ' : Id → Option (Nat × Nat)} {w : World} {S S' : Nat → Prop} {M M' : Mem} {v : Value} (hx : Calm W x) (h : Rep ρ w S M v x) (hS : ∀ b, S b → ¬ W b → S' b) : Rep ρ' w S' M' v x := by
  rcases hx with hx | ⟨n, y, rfl, hn⟩
  · exact rep_flat hx h
  · exact rep_old_after h fun b hb hlt => ⟨hS b hb fun hw => by have := hn b hw; omega, rfl⟩
theorem rowCalm {W : Nat → Prop} {G G' : Nat → Prop} {ρ ρ' : Id → Option (Nat × Nat)} {M M' : Mem} {w : World} {r : Row} {q : Plc} (hc : ∀ e ∈ r.es, ∀ u ∈ e, Calm W u) (h : RowOk G ρ w M r q) (hS : ∀ b, Stab G ρ M w b → ¬ W b → Stab G' ρ' M' w b) : RowOk G' ρ' w M' r q := by
  cases q with
  | none => exact h
  | some bz =>
    obtain ⟨b, z⟩ := bz
    obtain ⟨cur, C, h1, h2, h3, h4, h5, h6⟩ := h
    exact ⟨cur, C, h1, h2, h3, h4, h5, fun i e hi => ⟨(h6 i e hi).1, fun j u hu => let ⟨c, g1, g2, g3⟩ := (h6 i e hi).2 j u hu; ⟨c, g1, g2, rep_calm (hc e (List.mem_of_getElem? hi) u (List.mem_of_getElem? hu)) g3 hS⟩⟩⟩
theorem ent_focus {env env' : List (Nat × PV)} {mem memk : List (Id × Option Row)} {id ida : Id} {TS T : TypeId} {es esa : List (List PV)} {i : Nat} {q : Plc} {bx : Bool} (hm : getM mem id = some (some ⟨TS, 1, es, bx⟩)) (hi : es[i]? = some [.sem (LP q T esa)]) (hfree : getM mem ida = none) (hio : ida.1 ≠ io)
    (ht : tabG = []) (hw : ∀ b, inQ q b → flW b) (hap : ∀ (j : Nat) e, j ≠ i → es[j]? = some e → (∃ q' T' es', e = [.sem (LP q' T' es')] ∧ ∀ b, inQ q b → ¬ inQ q' b) ∨ (bx = true ∧ ∃ u, e = [u] ∧ Stays (inQ q) ((ida, some ⟨T, 1, esa, false⟩) :: (id, some ⟨TS, 1, es.set i [.osl ida 0 esa.length], true⟩) :: memk) ida mem u))
    (hk : allL (fun p : Id × Option Row => getM mem p.1 = some p.2 ∧ p.1 ≠ id ∧ ∀ r, p.2 = some r → ∀ e ∈ r.es, ∀ u ∈ e, Calm (inQ q) u) memk)
    (henv : allL (fun p : Nat × PV => getE env p.1 = p.2 ∧ Stays (inQ q) ((ida, some ⟨T, 1, esa, false⟩) :: (id, some ⟨TS, 1, es.set i [.osl ida 0 esa.length], true⟩) :: memk) ida mem p.2) env') :
    EntN ⟨env, mem⟩ (· = ⟨env', (ida, some ⟨T, 1, esa, false⟩) :: (id, some ⟨TS, 1, es.set i [.osl ida 0 esa.length], true⟩) :: memk⟩) := by
  rintro G w0 X N a w hF ⟨ρ, hW, hd, hs, hV⟩
  refine ⟨_, rfl, ?_⟩
  have hne : id ≠ ida := fun e => by rw [e, hfree] at hm; cases hm
  generalize hmem' : ((ida, some (⟨T, 1, esa, false⟩ : Row)) :: (id, some ⟨TS, 1, es.set i [.osl ida 0 esa.length], true⟩) :: memk) = mem' at *
  have hMa : getM mem' ida = some (some ⟨T, 1, esa, false⟩) := by rw [← hmem']; simp [getM]
  have hMi : getM mem' id = some (some ⟨TS, 1, es.set i [.osl ida 0 esa.length], true⟩) := by
    rw [← hmem']
    have : (Nat.beq ida.1 id.1 && Nat.beq ida.2 id.2) = false := by
      cases hb : (Nat.beq ida.1 id.1 && Nat.beq ida.2 id.2) with
      | false => rfl
      | true =>
        rw [Bool.and_eq_true] at hb
        exact absurd (Prod.ext (Nat.eq_of_beq_eq_true hb.1).symm (Nat.eq_of_beq_eq_true hb.2).symm) hne
    simp [getM, this]
  have hrows : ∀ id' r, getM mem' id' = some (some r) → (id' = ida ∧ r = ⟨T, 1, esa, false⟩) ∨ (id' = id ∧ r = ⟨TS, 1, es.set i [.osl ida 0 esa.length], true⟩) ∨ (id' ≠ ida ∧ id' ≠ id ∧ getM mem id' = some (some r) ∧ ∀ e ∈ r.es, ∀ u ∈ e, Calm (inQ q) u) := by
    intro id' r h
    by_cases h1 : id' = ida
    · subst h1; rw [hMa] at h; injection h with h; injection h with h; exact .inl ⟨rfl, h.symm⟩
    by_cases h2 : id' = id
    · subst h2; rw [hMi] at h; injection h with h; injection h with h; exact .inr (.inl ⟨rfl, h.symm⟩)
    have := getM_mem h
    rw [← hmem'] at this
    rcases List.mem_cons.1 this with e | this
    · exact absurd (congrArg Prod.fst e) h1
    rcases List.mem_cons.1 this with e | this
    · exact absurd (congrArg Prod.fst e) h2
    obtain ⟨k1, k2, k3⟩ := allL_mem hk _ this
    exact .inr (.inr ⟨h1, h2, k1, k3 r rfl⟩)
  have hold : ∀ id' r, id' ≠ ida → getM mem' id' = some (some r) → ∃ r0, getM mem id' = some (some r0) := by
    intro id' r h1 h
    rcases hrows id' r h with ⟨e, _⟩ | ⟨e, _⟩ | ⟨_, _, h2, _⟩
    · exact absurd e h1
    · rw [e]; exact ⟨_, hm⟩
    · exact ⟨_, h2⟩
  have hrow := hW.row id _ hm
  obtain ⟨b0, z0, hρ, cur, C, k1, k2, k3, k4, k5, k6⟩ : ∃ b0 z0, ρ id = some (b0, z0) ∧ ∃ (cur : Array Value) (C : Nat), w.heap[b0]? = some (.cells cur TS (0, 0)) ∧ cur.size = z0 + C * 1 ∧ C ≤ maxLen ∧ es.length ≤ C ∧ 0 < 1 ∧
      ∀ (i : Nat) e, es[i]? = some e → e.length = 1 ∧ ∀ (j : Nat) u, e[j]? = some u → ∃ c, cur[z0 + i * 1 + j]? = some c ∧ c.oneCell' = true ∧ Rep ρ w (Stab G ρ (getM mem) w) (if bx = true then getM mem else noMem) c u := by
    cases hb : ρ id with
    | none => rw [hb] at hrow; have h0 : es = [] := hrow.1; rw [h0] at hi; simp at hi
    | some bz => obtain ⟨b, z⟩ := bz; rw [hb] at hrow; exact ⟨b, z, rfl, hrow⟩
  obtain ⟨cl, c1, c2, c3⟩ := (k6 i _ hi).2 0 _ rfl
  have hLP := rep_LP.1 c3
  have hρa : setAt ρ ida q ida = q := by simp [setAt]
  have hρo : ∀ id', id' ≠ ida → setAt ρ ida q id' = ρ id' := fun id' h => by simp [setAt, h]
  have hS : ∀ b, Stab G ρ (getM mem) w b → ¬ inQ q b → Stab G (setAt ρ ida q) (getM mem') w b := by
    intro b hb hq
    refine ⟨hb.1, fun id' r z h hh => ?_, hb.2.2⟩
    by_cases h1 : id' = ida
    · rw [h1, hρa] at hh; exact hq ⟨z, hh⟩
    · rw [hρo id' h1] at hh
      obtain ⟨r0, h0⟩ := hold id' r h1 h
      exact hb.2.1 id' r0 z h0 hh
  have hst : ∀ c x, Rep ρ w (Stab G ρ (getM mem) w) (getM mem) c x → Stays (inQ q) mem' ida mem x → Rep (setAt ρ ida q) w (Stab G (setAt ρ ida q) (getM mem') w) (getM mem') c x := by
    intro c x h3 h2
    rcases h2 with h2 | ⟨id', o, n, r, r', h2 | ⟨h2, rfl⟩, g1, g2, g3, g4, g5, g6⟩
    · exact rep_calm h2 h3 hS
    · rw [h2] at h3 ⊢
      have h4 := (rep_osl g2).1 h3
      refine (rep_osl g3).2 ?_
      rw [hρo id' g1]
      cases hq : ρ id' with
      | none => rw [hq] at h4; exact h4
      | some bz =>
        obtain ⟨b, z⟩ := bz
        rw [hq] at h4
        obtain ⟨ad, cap, m1, m2, m3, m4, m5⟩ := h4
        exact ⟨ad, cap, m1, by rw [g6]; exact m2, m3, m4, fun hc => by rw [g5, g4]; exact m5 hc⟩
    · rw [h2] at h3 ⊢
      have h4 := (rep_own g2).1 h3
      refine (rep_own g3).2 ?_
      rw [hρo id' g1]
      exact h4
  refine ⟨setAt ρ ida q, ⟨?_, ?_, ?_, hW.keep, hW.good, ?_⟩, hd, hs, fun t => ?_⟩
  · intro i1 i2 r1 r2 b z1 z2 h1 h2 g1 g2
    by_cases e1 : i1 = ida <;> by_cases e2 : i2 = ida
    · rw [e1, e2]
    · obtain ⟨r0, h0⟩ := hold i2 r2 e2 h2
      rw [e1, hρa] at g1
      rw [hρo i2 e2] at g2
      exact absurd g2 ((hLP.1 b ⟨z1, g1⟩).2.1 i2 r0 z2 h0)
    · obtain ⟨r0, h0⟩ := hold i1 r1 e1 h1
      rw [e2, hρa] at g2
      rw [hρo i1 e1] at g1
      exact absurd g1 ((hLP.1 b ⟨z2, g2⟩).2.1 i1 r0 z1 h0)
    · obtain ⟨r0, h0⟩ := hold i1 r1 e1 h1
      obtain ⟨r0', h0'⟩ := hold i2 r2 e2 h2
      rw [hρo i1 e1] at g1
      rw [hρo i2 e2] at g2
      exact hW.inj i1 i2 r0 r0' b z1 z2 h0 h0' g1 g2
  · intro id' r h
    rcases hrows id' r h with ⟨rfl, rfl⟩ | ⟨rfl, rfl⟩ | ⟨h1, h2, h3, h5⟩
    · rw [hρa]
      exact rowFlat_cong hLP.2.2.2 hLP.2.2.1 fun _ _ => rfl
    · rw [hρo _ hne, hρ]
      refine ⟨cur, C, k1, k2, k3, by simpa using k4, k5, fun j e hj => ?_⟩
      by_cases hji : j = i
      · subst hji
        have hlt : j < es.length := (List.getElem?_eq_some_iff.1 hi).1
        rw [List.getElem?_set_self hlt] at hj
        injection hj with hj
        subst hj
        refine ⟨rfl, fun t u hu => ?_⟩
        match t, hu with
        | 0, hu =>
          simp at hu
          subst hu
          refine ⟨cl, c1, c2, ?_⟩
          simp only [if_true]
          refine (rep_osl (show (St.M ⟨env', mem'⟩) ida = some (some ⟨T, 1, esa, false⟩) from hMa)).2 ?_
          rw [hρa]
          exact hLP.2.1
        | t + 1, hu => simp at hu
      · rw [List.getElem?_set_ne (fun e => hji e.symm)] at hj
        rcases hap j e hji hj with ⟨q', T', es', rfl, hd'⟩ | ⟨hbx, u0, rfl, hu0⟩
        · refine ⟨rfl, fun t u hu => ?_⟩
          match t, hu with
          | 0, hu =>
            simp at hu
            subst hu
            obtain ⟨c, p1, p2, p3⟩ := (k6 j _ hj).2 0 _ rfl
            have h7 := rep_LP.1 p3
            exact ⟨c, p1, p2, rep_LP.2 (h7.cong (fun _ _ => rfl) fun b hb => hS b (h7.1 b hb) fun hq => hd' b hq hb)⟩
          | t + 1, hu => simp at hu
        · refine ⟨rfl, fun t u hu => ?_⟩
          match t, hu with
          | 0, hu =>
            simp at hu
            subst hu
            obtain ⟨c, p1, p2, p3⟩ := (k6 j _ hj).2 0 _ rfl
            rw [if_pos hbx] at p3
            exact ⟨c, p1, p2, hst c _ p3 hu0⟩
          | t + 1, hu => simp at hu
    · rw [hρo _ h1]
      exact rowCalm h5 (hW.row id' r h3) hS
  · intro id' r h
    by_cases h1 : id' = ida
    · rw [h1, if_neg hio, hρa]
      exact fun b z hz => hF.2.1 b (hw b ⟨z, hz⟩)
    · obtain ⟨r0, h0⟩ := hold id' r h1 h
      rw [hρo id' h1]
      exact hW.new id' r0 h0
  · obtain ⟨hp, h1, _⟩ := hW.tab
    exact ⟨hp, h1, fun g hg => by rw [ht] at hg; cases hg⟩
  · show Rep (setAt ρ ida q) w (Stab G (setAt ρ ida q) (getM mem') w) (getM mem') _ (getE env' t)
    rcases getE_mem (l := env') (t := t) with h | h
    · rw [h]; exact rep_any
    · obtain ⟨h1, h2⟩ := allL_mem henv _ h
      have h3 := hV t
      simp only [St.V] at h1 h2 h3
      rw [h1] at h3
      exact hst _ _ h3 h2
theorem ent_unfocus {env env' : List (Nat × PV)} {mem memk : List (Id × Option Row)} {id ida : Id} {TS T : TypeId} {es1 esa : List (List PV)} {i : Nat} (bx' : Bool) (hm : getM mem id = some (some ⟨TS, 1, es1, true⟩)) (hi : es1[i]? = some [.osl ida 0 esa.length]) (hma : getM mem ida = some (some ⟨T, 1, esa, false⟩)) (hf : flatE esa)
    (hio : ida.1 ≠ io) (hne : id ≠ ida) (ht : tabG = []) (hok : ∀ (w0 : World) X, FlOk w0 X → ∀ b, (w0.heap.size ≤ b ∨ ∃ z, some (b, z) ∈ X) → flW b) (hoth : ∀ q (j : Nat) e, j ≠ i → es1[j]? = some e → (∃ q' T' es', e = [.sem (LP q' T' es')]) ∨ (bx' = true ∧ ∃ u, e = [u] ∧ Stays (fun _ => False) ((id, some ⟨TS, 1, es1.set i [.sem (LP q T esa)], bx'⟩) :: memk) ida mem u))
    (hk : allL (fun p : Id × Option Row => getM mem p.1 = some p.2 ∧ p.1 ≠ id ∧ p.1 ≠ ida ∧ ∀ r, p.2 = some r → ∀ e ∈ r.es, ∀ u ∈ e, Calm (fun _ => False) u) memk)
    (henv : ∀ q, allL (fun p : Nat × PV => getE env p.1 = p.2 ∧ Stays (fun _ => False) ((id, some ⟨TS, 1, es1.set i [.sem (LP q T esa)], bx'⟩) :: memk) ida mem p.2) env') :
    EntN ⟨env, mem⟩ fun st' => ∃ q, (∀ b, inQ q b → flN ≤ b ∧ flW b) ∧ (∀ (j : Nat) q' T' es', j ≠ i → es1[j]? = some [.sem (LP q' T' es')] → ∀ b, inQ q b → ¬ inQ q' b) ∧ st' = ⟨env', (id, some ⟨TS, 1, es1.set i [.sem (LP q T esa)], bx'⟩) :: memk⟩ := by
  rintro G w0 X N a w hF ⟨ρ, hW, hd, hs, hV⟩
  have hnew := hW.new ida _ hma
  rw [if_neg hio] at hnew
  have hrow := hW.row id _ hm
  obtain ⟨b0, z0, hρ, cur, C, k1, k2, k3, k4, k5, k6⟩ : ∃ b0 z0, ρ id = some (b0, z0) ∧ ∃ (cur : Array Value) (C : Nat), w.heap[b0]? = some (.cells cur TS (0, 0)) ∧ cur.size = z0 + C * 1 ∧ C ≤ maxLen ∧ es1.length ≤ C ∧ 0 < 1 ∧
      ∀ (i : Nat) e, es1[i]? = some e → e.length = 1 ∧ ∀ (j : Nat) u, e[j]? = some u → ∃ c, cur[z0 + i * 1 + j]? = some c ∧ c.oneCell' = true ∧ Rep ρ w (Stab G ρ (getM mem) w) (getM mem) c u := by
    cases hb : ρ id with
    | none => rw [hb] at hrow; have h0 : es1 = [] := hrow.1; rw [h0] at hi; simp at hi
    | some bz => obtain ⟨b, z⟩ := bz; rw [hb] at hrow; exact ⟨b, z, rfl, hrow⟩
  have hap : ∀ (j : Nat) q' T' es', j ≠ i → es1[j]? = some [.sem (LP q' T' es')] → ∀ b, inQ (ρ ida) b → ¬ inQ q' b := by
    rintro j q' T' es' _ hj b ⟨z, hz⟩ hq'
    obtain ⟨c, p1, p2, p3⟩ := (k6 j _ hj).2 0 _ rfl
    exact ((rep_LP.1 p3).1 b hq').2.1 ida _ z hma hz
  refine ⟨_, ⟨ρ ida, ?_, hap, rfl⟩, ?_⟩
  · rintro b ⟨z, hz⟩
    refine ⟨?_, hok w0 X hF b (hnew b z hz)⟩
    rcases hnew b z hz with h | ⟨z', h⟩
    · exact Nat.le_trans hF.1 h
    · exact hF.2.2.1 b z' h
  have henv := henv (ρ ida)
  have hoth2 := hoth (ρ ida)
  generalize hmem' : ((id, some (⟨TS, 1, es1.set i [.sem (LP (ρ ida) T esa)], bx'⟩ : Row)) :: memk) = mem' at *
  have hrows : ∀ id' r, getM mem' id' = some (some r) → (id' = id ∧ r = ⟨TS, 1, es1.set i [.sem (LP (ρ ida) T esa)], bx'⟩) ∨ (id' ≠ ida ∧ id' ≠ id ∧ getM mem id' = some (some r) ∧ ∀ e ∈ r.es, ∀ u ∈ e, Calm (fun _ => False) u) := by
    intro id' r h
    by_cases h2 : id' = id
    · subst h2
      rw [← hmem'] at h
      simp [getM] at h
      exact .inl ⟨rfl, h.symm⟩
    have := getM_mem h
    rw [← hmem'] at this
    rcases List.mem_cons.1 this with e | this
    · exact absurd (congrArg Prod.fst e) h2
    obtain ⟨k1, k2, k3, k4⟩ := allL_mem hk _ this
    exact .inr ⟨k3, h2, k1, k4 r rfl⟩
  have hold : ∀ id' r, getM mem' id' = some (some r) → id' ≠ ida ∧ ∃ r0, getM mem id' = some (some r0) := by
    intro id' r h
    rcases hrows id' r h with ⟨e, _⟩ | ⟨h1, _, h2, _⟩
    · rw [e]; exact ⟨hne, _, hm⟩
    · exact ⟨h1, _, h2⟩
  have hS : ∀ b, Stab G ρ (getM mem) w b → Stab G ρ (getM mem') w b := fun b hb => ⟨hb.1, fun id' r z h hh => let ⟨_, r0, h0⟩ := hold id' r h; hb.2.1 id' r0 z h0 hh, hb.2.2⟩
  have hst : ∀ c x, Rep ρ w (Stab G ρ (getM mem) w) (getM mem) c x → Stays (fun _ => False) mem' ida mem x → Rep ρ w (Stab G ρ (getM mem') w) (getM mem') c x := by
    intro c x h3 h2
    rcases h2 with h2 | ⟨id', o, n, r, r', h2 | ⟨h2, rfl⟩, g1, g2, g3, g4, g5, g6⟩
    · exact rep_calm h2 h3 fun b hb _ => hS b hb
    · rw [h2] at h3 ⊢
      have h4 := (rep_osl g2).1 h3
      refine (rep_osl g3).2 ?_
      cases hq : ρ id' with
      | none => rw [hq] at h4; exact h4
      | some bz =>
        obtain ⟨b, z⟩ := bz
        rw [hq] at h4
        obtain ⟨ad, cap, m1, m2, m3, m4, m5⟩ := h4
        exact ⟨ad, cap, m1, by rw [g6]; exact m2, m3, m4, fun hc => by rw [g5, g4]; exact m5 hc⟩
    · rw [h2] at h3 ⊢
      have h4 := (rep_own g2).1 h3
      refine (rep_own g3).2 ?_
      exact h4
  refine ⟨ρ, ⟨?_, ?_, ?_, hW.keep, hW.good, ?_⟩, hd, hs, fun t => ?_⟩
  · intro i1 i2 r1 r2 b z1 z2 h1 h2 g1 g2
    obtain ⟨_, r0, h0⟩ := hold i1 r1 h1
    obtain ⟨_, r0', h0'⟩ := hold i2 r2 h2
    exact hW.inj i1 i2 r0 r0' b z1 z2 h0 h0' g1 g2
  · intro id' r h
    rcases hrows id' r h with ⟨rfl, rfl⟩ | ⟨h1, h2, h3, h5⟩
    · rw [hρ]
      refine ⟨cur, C, k1, k2, k3, by simpa using k4, k5, fun j e hj => ?_⟩
      by_cases hji : j = i
      · subst hji
        have hlt : j < es1.length := (List.getElem?_eq_some_iff.1 hi).1
        rw [List.getElem?_set_self hlt] at hj
        injection hj with hj
        subst hj
        refine ⟨rfl, fun t u hu => ?_⟩
        match t, hu with
        | 0, hu =>
          simp at hu
          subst hu
          obtain ⟨c, p1, p2, p3⟩ := (k6 j _ hi).2 0 _ rfl
          refine ⟨c, p1, p2, rep_LP.2 ⟨?_, (rep_osl hma).1 p3, rowFlat_cong hf (hW.row ida _ hma) fun _ _ => rfl, hf⟩⟩
          rintro b ⟨z, hz⟩
          refine ⟨hW.lt hma hz, fun id2 r2 z2 h2 hh => ?_, hW.good b (hnew b z hz)⟩
          obtain ⟨g1, r0, h0⟩ := hold id2 r2 h2
          exact g1 (hW.inj id2 ida r0 _ b z2 z h0 hma hh hz)
        | t + 1, hu => simp at hu
      · rw [List.getElem?_set_ne (fun e => hji e.symm)] at hj
        rcases hoth2 j e hji hj with ⟨q', T', es', rfl⟩ | ⟨hbx, u0, rfl, hu0⟩
        · refine ⟨rfl, fun t u hu => ?_⟩
          match t, hu with
          | 0, hu =>
            simp at hu
            subst hu
            obtain ⟨c, p1, p2, p3⟩ := (k6 j _ hj).2 0 _ rfl
            have h7 := rep_LP.1 p3
            exact ⟨c, p1, p2, rep_LP.2 (h7.cong (fun _ _ => rfl) fun b hb => hS b (h7.1 b hb))⟩
          | t + 1, hu => simp at hu
        · refine ⟨rfl, fun t u hu => ?_⟩
          match t, hu with
          | 0, hu =>
            simp at hu
            subst hu
            obtain ⟨c, p1, p2, p3⟩ := (k6 j _ hj).2 0 _ rfl
            refine ⟨c, p1, p2, ?_⟩
            simp only [hbx, if_true]
            exact hst c _ p3 hu0
          | t + 1, hu => simp at hu
    · exact rowCalm h5 (hW.row id' r h3) fun b hb _ => hS b hb
  · intro id' r h
    obtain ⟨_, r0, h0⟩ := hold id' r h
    exact hW.new id' r0 h0
  · obtain ⟨hp, h1, _⟩ := hW.tab
    exact ⟨hp, h1, fun g hg => by rw [ht] at hg; cases hg⟩
  · show Rep ρ w (Stab G ρ (getM mem') w) (getM mem') _ (getE env' t)
    rcases getE_mem (l := env') (t := t) with h | h
    · rw [h]; exact rep_any
    · obtain ⟨h1, h2⟩ := allL_mem henv _ h
      have h3 := hV t
      simp only [St.V] at h1 h2 h3
      rw [h1] at h3
      exact hst _ _ h3 h2
end
end Go.Vs
set_option linter.unusedVariables false
set_option linter.unusedSimpArgs false
set_option linter.unusedSectionVars false
namespace Go.Vs
section
variable [fl : Inhabited FlrT]
theorem vwp_mono {P : Program} : ∀ (c : Code) (s : St) (Q1 Q2 : Exit → St → Prop), (∀ e s, Q1 e s → Q2 e s) → vwp P c s Q1 → vwp P c s Q2 := by
  have emono : ∀ (ops : Array Oper) (draw : Bool) (l : List Oper) (s : St) (tr : List (List Id × List Id)) (K1 K2 : St → List (List Id × List Id) → Prop), (∀ s tr, K1 s tr → K2 s tr) → exec P ops draw l s tr K1 → exec P ops draw l s tr K2 := by
    intro ops draw l
    induction l with
    | nil => intro s tr K1 K2 hK h; exact hK _ _ h
    | cons o l ih =>
      intro s tr K1 K2 hK h
      rcases h with (⟨hw, h⟩ | ⟨hw, hd, Φ, hb, h⟩) | ⟨hw, ⟨f, hs, h⟩ | ⟨t, al, fz, ids, rd, ios, Post, hc, ⟨hd, h⟩ | ⟨r, fin, hu, h⟩⟩⟩
      · exact .inl (.inl ⟨hw, ih _ _ _ _ hK h⟩)
      · exact .inl (.inr ⟨hw, hd, Φ, hb, fun st' hp => ih _ _ _ _ hK (h st' hp)⟩)
      · exact .inr ⟨hw, .inl ⟨f, hs, ih _ _ _ _ hK h⟩⟩
      · exact .inr ⟨hw, .inr ⟨t, al, fz, ids, rd, ios, Post, hc, .inl ⟨hd, fun r fin hp hl => ih _ _ _ _ hK (h r fin hp hl)⟩⟩⟩
      · exact .inr ⟨hw, .inr ⟨t, al, fz, ids, rd, ios, Post, hc, .inr ⟨r, fin, hu, ih _ _ _ _ hK h⟩⟩⟩
  intro c
  induction c with
  | skip => intro s Q1 Q2 hQ h; exact hQ _ _ h
  | ret => intro s Q1 Q2 hQ h; exact hQ _ _ h
  | exit id => intro s Q1 Q2 hQ h; exact hQ _ _ h
  | region id ops draw => intro s Q1 Q2 hQ h; exact emono ops draw _ _ _ _ _ (fun s tr h => ⟨h.1, hQ _ _ h.2⟩) h
  | seq x y ihx ihy =>
    intro s Q1 Q2 hQ h
    refine ihx s _ _ ?_ h
    intro e s he
    cases e with
    | normal => obtain ⟨s2, hs2, he⟩ := he; exact ⟨s2, hs2, ihy s2 _ _ hQ he⟩
    | _ => exact hQ _ _ he
  | cond c x y ihx ihy => intro s Q1 Q2 hQ h; obtain ⟨b, h0, h1, h2⟩ := h; exact ⟨b, h0, fun hb => ihx s _ _ hQ (h1 hb), fun hb => ihy s _ _ hQ (h2 hb)⟩
  | block id x ihx =>
    intro s Q1 Q2 hQ h
    refine ihx s _ _ ?_ h
    intro e s he
    cases e with
    | exit id' =>
      simp only at he ⊢
      split
      · rename_i hid; rw [if_pos hid] at he; exact hQ _ _ he
      · rename_i hid; rw [if_neg hid] at he; exact hQ _ _ he
    | _ => exact hQ _ _ he
  | loop x ihx =>
    intro s Q1 Q2 hQ h
    obtain ⟨I, m, s0, h0, h1, h2⟩ := h
    refine ⟨I, m, s0, h0, h1, fun s' hs' => ihx s' _ _ ?_ (h2 s' hs')⟩
    intro e s he
    cases e with
    | normal => exact he
    | _ => exact hQ _ _ he
  | _ => intro s Q1 Q2 hQ h; exact h.elim
def ckey : Code → Nat
  | .region id _ _ => id
  | .cond (.tmp t) _ _ => 1000000 + t
  | .block id _ => 2000000 + id
  | .seq x _ => 3000000 + ckey x
  | _ => 9000000
section
variable {P : Program} {st : St} {Q : Exit → St → Prop} {x y z : Code}
theorem v_seqN (d : Nat) (hd : Nat.beq (ckey x) d = false) (h : vwp P x st (thenQ P y Q)) : vwp P (.seq x y) st Q := v_seq h
theorem v_cutK {α : Type} (live : List Nat) (no : List Id) (var : α → List (Nat × PV)) (memv : α → List (Id × Option Row)) (R : α → Prop)
    {kept : List (Nat × PV)} {keptM : List (Id × Option Row)} {full : α → List (Nat × PV)} {fullM : α → List (Id × Option Row)}
    (hk : keepO st.env live = some kept) (hkm : keepM st.mem no kept = some keptM) (hf : ∀ a, appO (var a) kept = some (full a)) (hfm : ∀ a, appO (memv a) keptM = some (fullM a))
    (hx : vwp P x st (loopQ (fun s => ∃ a', s = ⟨full a', fullM a'⟩ ∧ R a' ∧ (fun _ : α => 0) a' < 1) (fun _ => 0) 1 Q))
    (hy : ∀ a, R a → vwp P y ⟨full a, fullM a⟩ Q) : vwp P (.seq x y) st Q := by
  refine v_seq (vwp_mono x st _ _ ?_ hx)
  intro e s he
  cases e with
  | normal =>
    obtain ⟨s3, h1, ⟨a, rfl, h2, _⟩, _⟩ := he
    exact ⟨_, h1, hy a h2⟩
  | _ => exact he
end
end
end Go.Vs
set_option linter.unusedVariables false
set_option linter.unusedSimpArgs false
set_option linter.unusedSectionVars false
namespace Go.Vs
def Apt (qs : List Plc) : Prop := ∀ (i j : Nat) qi qj b, qs[i]? = some qi → qs[j]? = some qj → inQ qi b → inQ qj b → i = j
theorem apt_nil : Apt [] := fun i j qi qj b h => by simp at h
theorem apt_set {qs : List Plc} {a : Nat} {q : Plc} (h : Apt qs) (hq : ∀ (j : Nat) q', j ≠ a → qs[j]? = some q' → ∀ b, inQ q b → ¬ inQ q' b) : Apt (qs.set a q) := by
  intro i j qi qj b hi hj h1 h2
  by_cases ia : i = a <;> by_cases ja : j = a
  · omega
  · subst ia
    have hlt := (List.getElem?_eq_some_iff.1 hi).1
    rw [List.length_set] at hlt
    rw [List.getElem?_set_self hlt] at hi
    rw [List.getElem?_set_ne (fun e => ja e.symm)] at hj
    injection hi with hi
    subst hi
    exact absurd h2 (hq j qj ja hj b h1)
  · subst ja
    have hlt := (List.getElem?_eq_some_iff.1 hj).1
    rw [List.length_set] at hlt
    rw [List.getElem?_set_self hlt] at hj
    rw [List.getElem?_set_ne (fun e => ia e.symm)] at hi
    injection hj with hj
    subst hj
    exact absurd h1 (hq i qi ia hi b h2)
  · rw [List.getElem?_set_ne (fun e => ia e.symm)] at hi
    rw [List.getElem?_set_ne (fun e => ja e.symm)] at hj
    exact h i j qi qj b hi hj h1 h2
theorem apt_none {qs : List Plc} {a : Nat} (h : Apt qs) : Apt (qs.set a none) := apt_set h fun j q' _ _ b ⟨z, hz⟩ => by cases hz
theorem apt_snoc {qs : List Plc} {q : Plc} (h : Apt qs) (hq : ∀ q' ∈ qs, ∀ b, inQ q b → ¬ inQ q' b) : Apt (qs ++ [q]) := by
  have : qs ++ [q] = (qs ++ [none]).set qs.length q := by
    rw [List.set_append_right _ _ (Nat.le_refl _)]
    simp
  rw [this]
  refine apt_set ?_ fun j q' hj hq' b hb => ?_
  · intro i j qi qj b hi hj h1 h2
    have ki : i < qs.length := by
      rcases Nat.lt_or_ge i qs.length with h0 | h0
      · exact h0
      · rw [List.getElem?_append_right h0] at hi
        have := List.mem_of_getElem? hi
        simp at this
        subst this
        obtain ⟨z, hz⟩ := h1
        cases hz
    have kj : j < qs.length := by
      rcases Nat.lt_or_ge j qs.length with h0 | h0
      · exact h0
      · rw [List.getElem?_append_right h0] at hj
        have := List.mem_of_getElem? hj
        simp at this
        subst this
        obtain ⟨z, hz⟩ := h2
        cases hz
    rw [List.getElem?_append_left ki] at hi
    rw [List.getElem?_append_left kj] at hj
    exact h i j qi qj b hi hj h1 h2
  · have hlt := (List.getElem?_eq_some_iff.1 hq').1
    simp at hlt
    rw [List.getElem?_append_left (by omega)] at hq'
    exact hq q' (List.mem_of_getElem? hq') b hb
def rowM (TI : TypeId) (qs : List Plc) (M : List (List Int)) : List (List PV) := List.zipWith (fun q r => [PV.sem (LP q TI (ints r))]) qs M
section
variable {TI : TypeId} {qs : List Plc} {M : List (List Int)}
theorem rowM_at {i : Nat} {q : Plc} {r : List Int} (hq : qs[i]? = some q) (hr : M[i]? = some r) : (rowM TI qs M)[i]? = some [.sem (LP q TI (ints r))] := by simp [rowM, List.getElem?_zipWith, hq, hr]
theorem rowM_len (h : qs.length = M.length) : (rowM TI qs M).length = M.length := by simp [rowM, h]
theorem rowM_inv {i : Nat} {e : List PV} (h : (rowM TI qs M)[i]? = some e) : ∃ q r, qs[i]? = some q ∧ M[i]? = some r ∧ e = [.sem (LP q TI (ints r))] := by
  simp only [rowM, List.getElem?_zipWith] at h
  cases hq : qs[i]? with
  | none => simp [hq] at h
  | some q =>
    cases hr : M[i]? with
    | none => simp [hq, hr] at h
    | some r => simp [hq, hr] at h; exact ⟨q, r, rfl, rfl, h.symm⟩
theorem rowM_set {a : Nat} {q : Plc} {r : List Int} : (rowM TI qs M).set a [.sem (LP q TI (ints r))] = rowM TI (qs.set a q) (M.set a r) := by
  refine List.ext_getElem? fun j => ?_
  by_cases hj : a = j
  · subst hj
    simp only [rowM, List.getElem?_set, List.getElem?_zipWith, List.length_zipWith]
    simp
    by_cases h1 : a < qs.length <;> by_cases h2 : a < M.length <;> simp [h1, h2] <;> omega
  · simp only [rowM, List.getElem?_zipWith]
    rw [List.getElem?_set_ne hj, List.getElem?_set_ne hj, List.getElem?_set_ne hj, List.getElem?_zipWith]
theorem rowM_snoc {q : Plc} {r : List Int} (h : qs.length = M.length) : rowM TI qs M ++ [[.sem (LP q TI (ints r))]] = rowM TI (qs ++ [q]) (M ++ [r]) := by
  unfold rowM
  rw [List.zipWith_append h]
  rfl
end
section
variable [fl : Inhabited FlrT]
section
variable {st : St} {Φ Φ' : St → Prop}
theorem EntN.one (st : St) : EntN st (· = st) := fun G w0 X N a w hF hR => ⟨st, rfl, hR⟩
theorem EntN.bind (h : EntN st Φ) (h' : ∀ s, Φ s → EntN s Φ') : EntN st Φ' := fun G w0 X N a w hF hR => by
  obtain ⟨s, hs, hR'⟩ := h G w0 X N a w hF hR
  exact h' s hs G w0 X N a w hF hR'
theorem EntN.imp (h : EntN st Φ) (h' : ∀ s, Φ s → Φ' s) : EntN st Φ' := h.bind fun s hs G w0 X N a w hF hR => ⟨s, h' s hs, hR⟩
end
theorem exec_ent {P : Program} {ops : Array Oper} {o : Oper} {rest : List Oper} {st : St} {Φ : St → Prop} {R : St → Prop} {K : St → List (List Id × List Id) → Prop} (hg : o.guard = none) (hE : EntN st Φ)
    (hK : ∀ s tr tr', K s tr → K s tr') (hk : ∀ s, Φ s → ∃ tr, exec P ops false (o :: rest) s tr K) (tr : List (List Id × List Id)) : exec P ops false (o :: rest) st tr K := by
  have htr : ∀ (l : List Oper) (s : St) (tr tr' : List (List Id × List Id)), exec P ops false l s tr K → exec P ops false l s tr' K := by
    intro l
    induction l with
    | nil => intro s tr tr' h; exact hK _ _ _ h
    | cons o l ih =>
      intro s tr tr' h
      rcases h with (⟨hw, h⟩ | ⟨hw, hd, Φ, hb, h⟩) | ⟨hw, ⟨f, hs, h⟩ | ⟨t, al, fz, ids, rd, ios, Post, hc, ⟨hd, h⟩ | ⟨r, fin, hu, h⟩⟩⟩
      · exact .inl (.inl ⟨hw, ih _ _ _ h⟩)
      · exact .inl (.inr ⟨hw, hd, Φ, hb, fun st' hp => ih _ _ _ (h st' hp)⟩)
      · exact .inr ⟨hw, .inl ⟨f, hs, ih _ _ _ h⟩⟩
      · exact .inr ⟨hw, .inr ⟨t, al, fz, ids, rd, ios, Post, hc, .inl ⟨hd, fun r fin hp hl => ih _ _ _ (h r fin hp hl)⟩⟩⟩
      · exact .inr ⟨hw, .inr ⟨t, al, fz, ids, rd, ios, Post, hc, .inr ⟨r, fin, hu, ih _ _ _ h⟩⟩⟩
  have hw0 : ∀ V, wantedPV ops V o = some true := fun V => by simp [wantedPV, hg]
  refine .inl (.inr ⟨hw0 _, rfl, fun s => exec P ops false rest s (([], []) :: tr) K, ?_, fun s h => h⟩)
  intro G w0 X N a w K' Q hd hF hR hK'
  obtain ⟨s, hs, hR'⟩ := hE G w0 X N a w hF hR
  obtain ⟨tr0, h⟩ := hk s hs
  obtain ⟨ρ, hW, hdef, hsz, hV⟩ := hR'
  rcases h with (⟨hw, h⟩ | ⟨hw, _, Φ, hbig, h⟩) | ⟨hw, ⟨f, hstep, h⟩ | ⟨t, al, fz, ids, rd, ios, Post, hcall, h⟩⟩
  · rw [hw0] at hw; cases hw
  · exact hbig G w0 X N a w _ _ hd hF ⟨ρ, hW, hdef, hsz, hV⟩ fun st' a' w' hp hR' => hK' _ _ _ (htr _ _ _ _ (h st' hp)) hR'
  · rcases hstep with hstep | hstep
    · refine wp_of_res hd hdef hsz hV (op_sound hW hV hstep) fun a' w' hR' => hK' (s.app o.dst f) a' w' (htr _ _ _ _ h) ?_
      rw [app_V, app_M]
      exact hR'
    · refine hstep s.V s.M (fun _ _ => rfl) (fun _ _ => rfl) G w0 X N a w _ _ hd hF ⟨ρ, hW, hdef, hsz, hV⟩ fun a' w' hR' => hK' (s.app o.dst f) a' w' (htr _ _ _ _ h) ?_
      rw [app_V, app_M]
      exact hR'
  · refine wp_of_call hd hdef hsz hW hV hcall fun r fin a' w' hp hfl hR' => ?_
    rcases h with ⟨_, h⟩ | ⟨r', fin', huniq, h⟩
    · refine hK' _ a' w' (htr _ _ _ _ (h r fin hp hfl)) ?_
      rw [app_V, app_M]
      exact hR'
    · obtain ⟨rfl, rfl⟩ := huniq r fin hp
      refine hK' _ a' w' (htr _ _ _ _ h) ?_
      rw [app_V, app_M]
      exact hR'
theorem v_regE {P : Program} {id : Nat} {o : Oper} {l : List Oper} {st : St} {Q : Exit → St → Prop} (Φ : St → Prop) (hE : EntN st Φ) (hg : o.guard = none) (hk : ∀ s, Φ s → vwp P (.region id (o :: l).toArray false) s Q) : vwp P (.region id (o :: l).toArray false) st Q :=
  exec_ent (R := fun _ => True) hg hE (fun s tr tr' h => ⟨.inl rfl, h.2⟩) (fun s hs => ⟨[], hk s hs⟩) []
theorem v_seqE {P : Program} {id : Nat} {o : Oper} {l : List Oper} {y : Code} {st : St} {Q : Exit → St → Prop} (Φ : St → Prop) (hE : EntN st Φ) (hg : o.guard = none) (hk : ∀ s, Φ s → vwp P (.seq (.region id (o :: l).toArray false) y) s Q) : vwp P (.seq (.region id (o :: l).toArray false) y) st Q :=
  show vwp P (.region id (o :: l).toArray false) st (fun e st' => match e with
      | .normal => ∃ st2, Ent st' st2 ∧ vwp P y st2 Q
      | e => Q e st') from v_regE Φ hE hg hk
theorem v_cutE {P : Program} {st : St} {Q : Exit → St → Prop} {x y : Code} {α : Type} (mk : α → St) (R : α → Prop) (hx : vwp P x st (loopQ (fun s => ∃ a', s = mk a' ∧ R a' ∧ (fun _ : α => 0) a' < 1) (fun _ => 0) 1 Q)) (hy : ∀ a, R a → vwp P y (mk a) Q) : vwp P (.seq x y) st Q := by
  refine v_seq (vwp_mono x st _ _ ?_ hx)
  intro e s he
  cases e with
  | normal =>
    obtain ⟨s3, h1, ⟨a, rfl, h2, _⟩, _⟩ := he
    exact ⟨_, h1, hy a h2⟩
  | _ => exact he
theorem v_regionN {P : Program} {id : Nat} {l : List Oper} {draw : Bool} {st : St} {Q : Exit → St → Prop} (d : Nat) (hd : Nat.beq id d = false) (h : ∀ K : St → List (List Id × List Id) → Prop, (∀ st' tr, (draw = false ∨ orderOk l.toArray tr.reverse = true) → Q .normal st' → K st' tr) → exec P l.toArray draw l st [] K) :
    vwp P (.region id l.toArray draw) st Q := v_region h
section
variable {P : Program} {ops : Array Oper} {draw : Bool} {rest : List Oper} {env : List (Nat × PV)} {mem : List (Id × Option Row)} {tr : List (List Id × List Id)} {K : St → List (List Id × List Id) → Prop}
  {d : Nat} {ty : TypeId} {pos : String} {af : Array Edge} {x y c : Operand} {T yT : TypeId}
theorem x_load_sem {id : Id} {i off : Nat} {r : Row} {e : List PV} {p : (Nat → Prop) → World → Value → Prop} (z : PV) (hT : TCell P T) (h : ev (getE env) x = .own id i off) (hm : getM mem id = some (some r)) (he : r.es[i]? = some e) (hu : e[off]? = some (.sem p)) (hz : SemTo p z)
    (hk : exec P ops draw rest ⟨(d, z) :: env, mem⟩ (([id], []) :: tr) K) : exec P ops draw (⟨some d, .load T x, ty, pos, af, none⟩ :: rest) ⟨env, mem⟩ tr K := by
  refine x_sem ⟨z, [], [id]⟩ rfl ?_ hk
  intro V' M' hV' hM' G w0 X N a w K Q hd hF ⟨ρ, hW, hdef, hs, hV⟩ hK
  have h' : ev V' x = .own id i off := by rw [hV' x (by simp [Op.operands])]; exact h
  have hm' : M' id = some (some r) := by rw [hM' id (by simp)]; exact hm
  have hstep : OpStep P (some d) (.load T x) V' M' ⟨.sem p, [], [id]⟩ := .inl ⟨hT, .inr ⟨id, i, off, r, e, _, h', hm', he, hu, rfl⟩⟩
  obtain ⟨ρ', w', v, hrun, Tr, W, hx⟩ := op_sound (o := ⟨some d, .load T x, ty, pos, af, none⟩) hW hV hstep
  obtain ⟨h0, B, hB, h2⟩ := rep_sem.1 hx
  exact wp_of_res (f := ⟨z, [], [id]⟩) hd hdef hs hV ⟨ρ', w', v, hrun, Tr, W, (hz w' B v h0 h2).pureMono fun b hb => ⟨hB b hb, rfl⟩⟩ hK
end
theorem absorb1 {env : List (Nat × PV)} {mem : List (Id × Option Row)} {d : Nat} {id : Id} {T : TypeId} {es : List (List PV)} (hid : id.1 ≠ io) (hM : getM mem id = some (some ⟨T, 1, es, false⟩)) (hf : flatE es) (hok : ∀ (w0 : World) X, FlOk w0 X → ∀ b, (w0.heap.size ≤ b ∨ ∃ z, some (b, z) ∈ X) → flW b) :
    EntN ⟨(d, .osl id 0 es.length) :: env, mem⟩ fun st' => ∃ q, NewQ mem q ∧ (∀ b, inQ q b → flW b) ∧ st' = ⟨(d, .sem (LP q T es)) :: env, (id, none) :: mem⟩ := by
  rintro G w0 X N a w hF ⟨ρ, hW, hdef, hs, hV⟩
  have hM' : (⟨(d, .osl id 0 es.length) :: env, mem⟩ : St).M id = some (some ⟨T, 1, es, false⟩) := hM
  have hrow := hW.row id _ hM'
  have hnew := hW.new id _ hM'
  rw [if_neg hid] at hnew
  obtain ⟨Tr, W⟩ := hW.dead hM'
  have hMs : (⟨(d, .sem (LP (ρ id) T es)) :: env, (id, none) :: mem⟩ : St).M = Mem.set (getM mem) id none := getM_app [(id, none)] mem
  refine ⟨_, ⟨ρ id, ⟨?_, ?_⟩, ?_, rfl⟩, ρ, by rw [hMs]; exact W, hdef, hs, fun t => ?_⟩
  · rintro b ⟨z, hz⟩
    rcases hnew b z hz with h | ⟨z', h⟩
    · exact Nat.le_trans hF.1 h
    · exact hF.2.2.1 b z' h
  · rintro id' row hM2 e he q' T' es' hc b hb
    exact row_apart hW hM2 hM' he hc hb
  · rintro b ⟨z, hz⟩
    exact hok w0 X hF b (hnew b z hz)
  · show Rep ρ w _ _ _ (getE ((d, .sem (LP (ρ id) T es)) :: env) t)
    rw [hMs]
    have ht := hV t
    simp only [St.V, getE] at ht ⊢
    cases hb : Nat.beq d t with
    | false => rw [hb] at ht; exact Tr.rep ht
    | true =>
      rw [hb] at ht
      simp only [cond_true] at ht ⊢
      refine rep_LP.2 ⟨?_, (rep_osl hM').1 ht, rowFlat_cong hf hrow fun _ _ => rfl, hf⟩
      rintro b ⟨z, hz⟩
      refine ⟨hW.lt hM' hz, fun id' r' z' h1 h2 => ?_, hW.good b (hnew b z hz)⟩
      have hne : id' ≠ id := fun e => by rw [e] at h1; simp [Mem.set] at h1
      simp only [Mem.set, if_neg hne] at h1
      exact hne (hW.inj id' id r' _ b z' z h1 hM' h2 hz)
section
variable {P : Program} {ops : Array Oper} {rest : List Oper} {env : List (Nat × PV)} {mem : List (Id × Option Row)} {tr : List (List Id × List Id)} {K : St → List (List Id × List Id) → Prop}
  {d : Nat} {ty : TypeId} {pos : String} {af : Array Edge} {x y c : Operand} {T : TypeId}
theorem x_makeQ {e by_ : Nat} {zs : List PV} {k k' : IntKind} {n : Nat} {m m' : Int} {r : List Int} (hm : m = (n : Int)) (hm' : m' = (n : Int)) (hr : List.replicate n zs = ints r) (hT : TSlice P T e 1 by_) (hZ : TZero P e zs) (hz : (zs.all PV.pure1) = true) (hl : ev (getE env) x = .int k m) (hc : ev (getE env) y = .int k' m')
    (hb : n ≤ 1099511627776 ∧ by_ ≤ 100) (hn : newB mem d = true) (hok : ∀ (w0 : World) X, FlOk w0 X → ∀ b, (w0.heap.size ≤ b ∨ ∃ z, some (b, z) ∈ X) → flW b)
    (hk : ∀ q, NewQ (((d, 0), some ⟨e, 1, ints r, false⟩) :: mem) q → (∀ b, inQ q b → flW b) → exec P ops false rest ⟨(d, .sem (LP q e (ints r))) :: env, ((d, 0), none) :: ((d, 0), some ⟨e, 1, ints r, false⟩) :: mem⟩ (([], []) :: tr) K) :
    exec P ops false (⟨some d, .makeSlice T x y, ty, pos, af, none⟩ :: rest) ⟨env, mem⟩ tr K := by
  obtain ⟨h1, h2⟩ := newB_ok hn
  subst hm
  subst hm'
  have hrl : r.length = n := by rw [← ints_len r, ← hr, List.length_replicate]
  refine x_big (fun st' => ∃ q, NewQ (((d, 0), some ⟨e, 1, ints r, false⟩) :: mem) q ∧ (∀ b, inQ q b → flW b) ∧ st' = ⟨(d, .sem (LP q e (ints r))) :: env, ((d, 0), none) :: ((d, 0), some ⟨e, 1, ints r, false⟩) :: mem⟩) rfl ?_ rfl (fun st' ⟨q, g1, g2, e⟩ => by rw [e]; exact hk q g1 g2)
  intro G w0 X N a w K Q hdN hF hR hK
  obtain ⟨ρ, hW, hdef, hs, hV⟩ := hR
  have hbn : by_ * n ≤ 281474976710656 := by
    have : by_ * n ≤ 100 * 1099511627776 := Nat.mul_le_mul hb.2 hb.1
    omega
  have hstep : OpStep P (some d) (.makeSlice T x y) (getE env) (getM mem) ⟨.osl (d, 0) 0 n, [((d, 0), some ⟨e, 1, List.replicate n zs, false⟩)], []⟩ :=
    ⟨d, e, 1, by_, zs, k, k', n, rfl, h1, h2, hT, hZ, hz, by decide, hl, hc, hbn, by unfold maxLen; omega, rfl⟩
  refine wp_of_res hdN hdef hs hV (op_sound hW hV hstep) fun a' w' hR' => ?_
  have hR2 : RelF G w0 X N (St.V ⟨(d, .osl (d, 0) 0 (ints r).length) :: env, ((d, 0), some ⟨e, 1, ints r, false⟩) :: mem⟩) (St.M ⟨(d, .osl (d, 0) 0 (ints r).length) :: env, ((d, 0), some ⟨e, 1, ints r, false⟩) :: mem⟩) a' w' := by
    rw [show St.V ⟨(d, .osl (d, 0) 0 (ints r).length) :: env, ((d, 0), some ⟨e, 1, ints r, false⟩) :: mem⟩ = putV (getE env) (some d) (.osl (d, 0) 0 (ints r).length) from getE_put env (some d) _, ints_len, hrl]
    rw [show St.M ⟨(d, .osl (d, 0) 0 n) :: env, ((d, 0), some ⟨e, 1, ints r, false⟩) :: mem⟩ = (getM mem).upds [((d, 0), some ⟨e, 1, ints r, false⟩)] from getM_app [((d, 0), some ⟨e, 1, ints r, false⟩)] mem]
    rw [← hr]
    exact hR'
  obtain ⟨s, ⟨q, g1, g2, rfl⟩, hR3⟩ := absorb1 (T := e) (es := ints r) (id := (d, 0)) (mem := ((d, 0), some ⟨e, 1, ints r, false⟩) :: mem) (env := env) (d := d) h1 (by simp [getM]) (ints_flat r) hok G w0 X N a' w' hF hR2
  exact hK _ a' w' ⟨q, g1, g2, rfl⟩ hR3
end
end
end Go.Vs
