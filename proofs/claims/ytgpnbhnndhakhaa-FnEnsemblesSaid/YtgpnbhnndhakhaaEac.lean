/- Parts of a proof: what its last text mentions. -/
import Derived.Test.YtgpnbhnndhakhaaEab
set_option linter.unusedVariables false
set_option linter.unusedSimpArgs false
namespace Go.Vs
section
variable {α β : Type} {xs : List α} {x : α} {i : Nat}
theorem get_ex (h : i < xs.length) : ∃ a, xs[i]? = some a := ⟨xs[i], List.getElem?_eq_getElem h⟩
theorem get_lt (h : xs[i]? = some x) : i < xs.length := (List.getElem?_eq_some_iff.1 h).1
theorem get_mem (h : xs[i]? = some x) : x ∈ xs := List.mem_of_getElem? h
theorem take_succ (h : xs[i]? = some x) : xs.take (i + 1) = xs.take i ++ [x] := by rw [List.take_add_one, h]; rfl
theorem take_all (h : xs.length ≤ i) : xs.take i = xs := List.take_of_length_le h
theorem filter_take_succ (p : α → Bool) (h : xs[i]? = some x) : (xs.take (i + 1)).filter p = (xs.take i).filter p ++ (if p x then [x] else []) := by
  rw [take_succ h, List.filter_append]
  cases hp : p x <;> simp [hp]
theorem filter_take_t {p : α → Bool} (h : xs[i]? = some x) (hp : p x = true) : (xs.take (i + 1)).filter p = (xs.take i).filter p ++ [x] := by rw [filter_take_succ p h, if_pos hp]
theorem filter_take_f {p : α → Bool} (h : xs[i]? = some x) (hp : p x = false) : (xs.take (i + 1)).filter p = (xs.take i).filter p := by rw [filter_take_succ p h, hp]; simp
theorem all_take_succ {p : α → Prop} (h : xs[i]? = some x) (ha : ∀ y ∈ xs.take i, p y) (hx : p x) : ∀ y ∈ xs.take (i + 1), p y := fun y hy => by
  rw [take_succ h] at hy
  rcases List.mem_append.1 hy with h1 | h1
  · exact ha y h1
  · rw [List.mem_singleton.1 h1]; exact hx
def sumBy (f : α → Int) (l : List α) : Int := (l.map f).sum
theorem sumBy_cons (f : α → Int) (a : α) (l : List α) : sumBy f (a :: l) = f a + sumBy f l := by simp [sumBy]
theorem sumBy_app (f : α → Int) (a b : List α) : sumBy f (a ++ b) = sumBy f a + sumBy f b := by simp [sumBy]
theorem sumBy_take_succ (f : α → Int) (h : xs[i]? = some x) : sumBy f (xs.take (i + 1)) = sumBy f (xs.take i) + f x := by rw [take_succ h, sumBy_app]; simp [sumBy]
theorem sumBy_bound (f : α → Int) (B : Int) : ∀ (l : List α), (∀ y ∈ l, 0 ≤ f y ∧ f y ≤ B) → 0 ≤ sumBy f l ∧ sumBy f l ≤ B * l.length
  | [], _ => by simp [sumBy]
  | a :: l, h => by
    obtain ⟨h1, h2⟩ := sumBy_bound f B l fun y hy => h y (List.mem_cons_of_mem _ hy)
    obtain ⟨h3, h4⟩ := h a List.mem_cons_self
    rw [sumBy_cons, List.length_cons]
    constructor
    · omega
    · rw [Int.natCast_add, Int.mul_add]; omega
theorem sumBy_take_le (f : α → Int) (l : List α) (h : ∀ y ∈ l, 0 ≤ f y) (i : Nat) : sumBy f (l.take i) ≤ sumBy f l ∧ 0 ≤ sumBy f (l.take i) := by
  have h0 : ∀ l : List α, (∀ y ∈ l, 0 ≤ f y) → 0 ≤ sumBy f l := by
    intro l
    induction l with
    | nil => intro _; simp [sumBy]
    | cons a l ih => intro hl; rw [sumBy_cons]; have := hl a List.mem_cons_self; have := ih fun y hy => hl y (List.mem_cons_of_mem _ hy); omega
  have h1 := h0 (l.take i) fun y hy => h y (List.mem_of_mem_take hy)
  have h2 := h0 (l.drop i) fun y hy => h y (List.mem_of_mem_drop hy)
  have h3 : sumBy f l = sumBy f (l.take i) + sumBy f (l.drop i) := by rw [← sumBy_app, List.take_append_drop]
  omega
theorem sumBy_congr {f g : α → Int} {l : List α} (h : ∀ y ∈ l, f y = g y) : sumBy f l = sumBy g l := by
  unfold sumBy
  rw [List.map_congr_left h]
@[reducible] def ints (l : List Int) : List (List PV) := l.map fun n => [PV.int .i64 n]
theorem ints_at {l : List Int} {i : Nat} {n : Int} (h : l[i]? = some n) : (ints l)[i]? = some [PV.int .i64 n] := by simp [ints, h]
theorem ints_flat (l : List Int) : ∀ e ∈ ints l, ∀ c ∈ e, c.flat = true := by
  intro e he c hc
  obtain ⟨a, _, rfl⟩ := List.mem_map.1 he
  simp only [List.mem_cons, List.not_mem_nil, or_false] at hc
  rw [hc]
  rfl
theorem ints_len (l : List Int) : (ints l).length = l.length := by simp [ints]
theorem ints_snoc (l : List Int) (n : Int) : ints (l ++ [n]) = ints l ++ [[PV.int .i64 n]] := by simp [ints]
end
end Go.Vs
namespace Go.Vs
def idx {α : Type} (p : α → Bool) (xs : List α) : Int := match xs.findIdx? p with | some i => (i : Int) | none => -1
section
variable {α : Type} {xs : List α} {p : α → Bool} {i : Nat} {a : α}
theorem idx_some (h : ∀ j, j < i → ∀ c, xs[j]? = some c → p c = false) (ha : xs[i]? = some a) (he : p a = true) : idx p xs = i := by
  have : xs.findIdx? p = some i := by
    rw [List.findIdx?_eq_some_iff_getElem]
    obtain ⟨hi, hx⟩ := List.getElem?_eq_some_iff.1 ha
    refine ⟨hi, by rw [hx, he], fun j hj => ?_⟩
    have := h j hj _ (List.getElem?_eq_getElem (by omega))
    simpa using this
  rw [idx, this]
theorem idx_none (h : ∀ j, j < xs.length → ∀ c, xs[j]? = some c → p c = false) : idx p xs = -1 := by
  have : xs.findIdx? p = none := by
    rw [List.findIdx?_eq_none_iff]
    intro c hc
    obtain ⟨j, hj⟩ := List.getElem?_of_mem hc
    exact h j (List.getElem?_eq_some_iff.1 hj).1 c hj
  rw [idx, this]
theorem idx_step (h : ∀ j, j < i → ∀ c, xs[j]? = some c → p c = false) (ha : xs[i]? = some a) (he : p a = false) : ∀ j, j < i + 1 → ∀ c, xs[j]? = some c → p c = false := fun j hj c hc => by
  rcases Nat.lt_or_ge j i with h1 | h1
  · exact h j h1 c hc
  · have : j = i := by omega
    rw [this, ha] at hc
    injection hc with hc
    rw [← hc]; exact he
theorem idx_at (h : 0 ≤ idx p xs) : ∃ (i : Nat) (a : α), idx p xs = i ∧ xs[i]? = some a ∧ p a = true := by
  unfold idx at h ⊢
  cases hf : xs.findIdx? p with
  | none => rw [hf] at h; simp at h
  | some i =>
    obtain ⟨hi, h1, _⟩ := List.findIdx?_eq_some_iff_getElem.1 hf
    exact ⟨i, xs[i], rfl, List.getElem?_eq_getElem hi, h1⟩
theorem idx_any : decide (0 ≤ idx p xs) = xs.any p := by
  rw [Bool.eq_iff_iff, decide_eq_true_iff]
  constructor
  · intro h
    obtain ⟨i, a, _, h1, h2⟩ := idx_at h
    exact List.any_eq_true.2 ⟨a, List.mem_of_getElem? h1, h2⟩
  · intro h
    obtain ⟨a, ha, hp⟩ := List.any_eq_true.1 h
    rcases Int.lt_or_le (idx p xs) 0 with hlt | hle
    · exfalso
      unfold idx at hlt
      cases hf : xs.findIdx? p with
      | none =>
        rw [List.findIdx?_eq_none_iff] at hf
        rw [hf a ha] at hp
        cases hp
      | some i => rw [hf] at hlt; simp only at hlt; omega
    · exact hle
end
theorem allR_ptrs {d : Nat} {M : Mem} {ids rd : List Id} : ∀ (l : List (List PV)), AllR (SnapD (d + 1) M ids rd) (l.map PV.ptr) (l.map PV.ptr)
  | [] => trivial
  | _ :: l => ⟨rfl, allR_ptrs l⟩
end Go.Vs
namespace Go.Vs
section
variable {α : Type} {xs : List α} {x : α} {i : Nat}
end
end Go.Vs
set_option maxRecDepth 100000
set_option maxHeartbeats 4000000
namespace Go.Vs
theorem aD {p : Prop} (h : p := by first | rfl | assumption | (simp only [sx]; omega) | (simp; done) | fail) : p := h
theorem aL {p : Prop} (h : p := by (first | (simp only [lx, Nat.reduceAdd]; first | done | rfl) | fail)) : p := h
theorem aE {p : Prop} (h : p := by first | rfl | assumption | exact getSelf (by omega) | exact getNe (by omega) (by assumption)) : p := h
theorem aZ {p : Prop} (h : p := by first | (simp; done) | fail) : p := h
theorem aN {p : Prop} (h : p := by first | exact (takeAll rfl).symm | exact (takeAll (by assumption)).symm | exact (takeAll (by first | (simp; done) | omega | fail)).symm | (first | (simp only [lx, Nat.reduceAdd]; first | done | rfl) | fail) | fail) : p := h
theorem aP {p : Prop} (h : p := by first | (simp only [List.length_cons, List.length_nil, Nat.zero_add, Nat.reduceAdd]; exact rfl) | exact rfl) : p := h
theorem aH {p : Prop} (h : p := by simp only [thaw, thawT, thaw1, thawL, Nat.zero_add, Nat.reduceAdd]; exact rfl) : p := h
theorem aS {p : Prop} (h : p := by (repeat' (first | exact trivial | exact rfl | exact allR_ptrs _ | exact .inl rfl | exact sn_all rfl rfl rfl | exact sn_all rfl rfl (by first | omega | (simp; done) | fail) | exact sn_part rfl rfl (by first | (simp; done) | exact (takeAll (by assumption)).symm | exact (takeAll (by first | (simp; done) | omega | fail)).symm | (first | (simp only [lx, Nat.reduceAdd]; first | done | rfl) | fail) | fail) | refine sn_own rfl rfl rfl ?_ | exact List.length_map .. | refine ⟨?_, ?_⟩)); first | done | fail) : p := h
theorem aO {p : Prop} (h : p := by omega) : p := h
theorem aW {p : Prop} (h : p := by refine ⟨?_, ?_, rfl, rfl⟩ <;> (repeat' (first | exact trivial | exact ⟨rfl, rfl⟩ | exact rfl | exact ⟨sub_fn, refs_fn⟩ | refine ⟨⟨rfl, rfl⟩, ?_⟩ | refine ⟨⟨sub_fn, refs_fn⟩, ?_⟩ | refine ⟨⟨rfl, fun h => Bool.noConfusion h⟩, ?_⟩ | refine ⟨⟨rfl, fun h => ?_⟩, ?_⟩ | refine ⟨rfl, ?_⟩ | refine ⟨?_, ?_⟩ | fail))) : p := h
theorem aA {p : Prop} (h : p := by assumption) : p := h
theorem cl : (∀ (α : Type) (a : α) (l m : List α), (a :: l) ++ m = a :: (l ++ m)) ∧ (∀ (α : Type) (l : List α), [] ++ l = l) ∧ (∀ (α β : Type) (f : α → β) (a : α) (l : List α), (a :: l).map f = f a :: l.map f) ∧ (∀ (α β : Type) (f : α → β), ([] : List α).map f = []) := ⟨fun _ _ _ _ => rfl, fun _ _ => rfl, fun _ _ _ _ _ => rfl, fun _ _ _ => rfl⟩
theorem aR {p : Prop} (h : p := by ((first | refine ret_T rfl rfl rfl (by first | exact trivial | (repeat' (first | exact trivial | refine ⟨by assumption, ?_⟩))) (by repeat' (first | exact trivial | refine ⟨by simp, ?_⟩)) ?_ | refine ret_A rfl rfl rfl (by first | exact trivial | (repeat' (first | exact trivial | refine ⟨by assumption, ?_⟩))) (by repeat' (first | exact trivial | refine ⟨by simp, ?_⟩)) ?_); (repeat' (first | exact et_end | exact el_end | refine et_int rfl ?_ ?_ | refine et_bool ?_ ?_ | refine et_str ?_ ?_ | refine et_list (by rfl) (by decide) rfl rfl ?_ ?_ ?_ ?_ | refine et_nil ?_ ?_ | refine et_agg ?_ ?_ | refine el_int rfl ?_ ?_ | refine el_bool ?_ ?_ | refine el_str ?_ ?_ | refine el_list (by rfl) (by decide) rfl rfl ?_ ?_ ?_ ?_ | refine el_nil ?_ ?_)) <;> (first | rfl | assumption | (exact ints_flat _) | (simp; done) | omega))) : p := h
end Go.Vs
set_option linter.unusedVariables false
set_option linter.unusedSimpArgs false
set_option maxRecDepth 100000
namespace Go.Vs
open Go.Proofs
theorem hmix : Try.prog.follows .mixedOrders = true := by kernel_rfl
theorem ty_c3 : TCell Try.prog 3 := tcell (by kernel_rfl)
theorem ty_u3 : Try.prog.underlying 3 = some (.int .i64) := Try.underlying3
theorem ty_t3 : TSize Try.prog 3 1 := tsize (by kernel_rfl)
theorem ty_z3 : TZero Try.prog 3 [.int .i64 0] := tzero (.int .i64 0) (by kernel_rfl) rfl
theorem ty_c4 : TCell Try.prog 4 := tcell (by kernel_rfl)
theorem ty_u4 : Try.prog.underlying 4 = some .bool := Try.underlying4
theorem ty_t4 : TSize Try.prog 4 1 := tsize (by kernel_rfl)
theorem ty_z4 : TZero Try.prog 4 [.bool false] := tzero (.bool false) (by kernel_rfl) rfl
theorem ty_c5 : TCell Try.prog 5 := tcell (by kernel_rfl)
theorem ty_u5 : Try.prog.underlying 5 = some (.int .u8) := Try.underlying5
theorem ty_c22 : TCell Try.prog 22 := tcell (by kernel_rfl)
theorem ty_u22 : Try.prog.underlying 22 = some (.slice 5) := Try.underlying22
theorem ty_s22 : TSlice Try.prog 22 5 1 1 := tslice (by kernel_rfl)
theorem ty_c24 : TCell Try.prog 24 := tcell (by kernel_rfl)
theorem ty_u24 : Try.prog.underlying 24 = some (.slice 3) := Try.underlying24
theorem ty_t24 : TSize Try.prog 24 1 := tsize (by kernel_rfl)
theorem ty_z24 : TZero Try.prog 24 [.nil] := tzero (.slice none 0 0) (by kernel_rfl) rfl
theorem ty_s24 : TSlice Try.prog 24 3 1 8 := tslice (by kernel_rfl)
theorem ty_t26 : TSize Try.prog 26 3 := tsize (by kernel_rfl)
theorem ty_z26 : TZero Try.prog 26 [.int .i64 0, .int .i64 0, .nil] := tzero (.agg #[.int .i64 0, .int .i64 0, .slice none 0 0]) (by kernel_rfl) rfl
theorem ty_a26 : TAgg Try.prog 26 3 := tagg (by kernel_rfl)
theorem ty_f26_0 : TField Try.prog 26 0 0 := tfield (by kernel_rfl)
theorem ty_f26_1 : TField Try.prog 26 1 1 := tfield (by kernel_rfl)
theorem ty_f26_2 : TField Try.prog 26 2 2 := tfield (by kernel_rfl)
theorem ty_st26 : TStruct Try.prog 26 [(0, 1), (1, 1), (2, 1)] [.int .i64 0, .int .i64 0, .nil] := tstruct (by kernel_rfl) ty_z26
theorem ty_c27 : TCell Try.prog 27 := tcell (by kernel_rfl)
theorem ty_u27 : Try.prog.underlying 27 = some (.slice 75) := Try.underlying27
theorem ty_s27 : TSlice Try.prog 27 75 2 16 := tslice (by kernel_rfl)
theorem ty_c51 : TCell Try.prog 51 := tcell (by kernel_rfl)
theorem ty_u51 : Try.prog.underlying 51 = some (.slice 56) := Try.underlying51
theorem ty_s51 : TSlice Try.prog 51 56 2 32 := tslice (by kernel_rfl)
theorem ty_t56 : TSize Try.prog 56 2 := tsize (by kernel_rfl)
theorem ty_z56 : TZero Try.prog 56 [.nil, .int .i64 0] := tzero (.agg #[.slice none 0 0, .int .i64 0]) (by kernel_rfl) rfl
theorem ty_a56 : TAgg Try.prog 56 2 := tagg (by kernel_rfl)
theorem ty_f56_0 : TField Try.prog 56 0 0 := tfield (by kernel_rfl)
theorem ty_f56_1 : TField Try.prog 56 1 1 := tfield (by kernel_rfl)
theorem ty_st56 : TStruct Try.prog 56 [(0, 1), (1, 1)] [.nil, .int .i64 0] := tstruct (by kernel_rfl) ty_z56
theorem ty_c67 : TCell Try.prog 67 := tcell (by kernel_rfl)
theorem ty_u67 : Try.prog.underlying 67 = some (.int .u64) := Try.underlying67
theorem ty_t67 : TSize Try.prog 67 1 := tsize (by kernel_rfl)
theorem ty_z69 : TZero Try.prog 69 [.nil, .int .i64 0, .int .u64 0] := tzero (.agg #[.slice none 0 0, .int .i64 0, .int .u64 0]) (by kernel_rfl) rfl
theorem ty_f69_0 : TField Try.prog 69 0 0 := tfield (by kernel_rfl)
theorem ty_f69_1 : TField Try.prog 69 1 1 := tfield (by kernel_rfl)
theorem ty_f69_2 : TField Try.prog 69 2 2 := tfield (by kernel_rfl)
theorem ty_st69 : TStruct Try.prog 69 [(0, 1), (1, 1), (2, 1)] [.nil, .int .i64 0, .int .u64 0] := tstruct (by kernel_rfl) ty_z69
theorem ty_t75 : TSize Try.prog 75 2 := tsize (by kernel_rfl)
theorem ty_z75 : TZero Try.prog 75 [.int .i64 0, .int .i64 0] := tzero (.agg #[.int .i64 0, .int .i64 0]) (by kernel_rfl) rfl
theorem ty_a75 : TAgg Try.prog 75 2 := tagg (by kernel_rfl)
theorem ty_f75_0 : TField Try.prog 75 0 0 := tfield (by kernel_rfl)
theorem ty_f75_1 : TField Try.prog 75 1 1 := tfield (by kernel_rfl)
theorem ty_st75 : TStruct Try.prog 75 [(0, 1), (1, 1)] [.int .i64 0, .int .i64 0] := tstruct (by kernel_rfl) ty_z75
theorem ty_c76 : TCell Try.prog 76 := tcell (by kernel_rfl)
theorem ty_c103 : TCell Try.prog 103 := tcell (by kernel_rfl)
theorem ty_s112 : TSlice Try.prog 112 4 1 1 := tslice (by kernel_rfl)
end Go.Vs
set_option linter.unusedVariables false
set_option linter.unusedSimpArgs false
set_option maxRecDepth 100000
set_option maxHeartbeats 4000000
namespace Go.Vs
open Go.Proofs
attribute [local irreducible] exec vwp thenQ blkQ loopQ RetPost
theorem k_l1In (x a b : Int) : Con Try.prog 77 [.int .i64 x, .int .i64 a, .int .i64 b] (.bool (decide (a ≤ x) && decide (x ≤ b))) := by
  intro al
  refine za8 hmix Try.func77 rfl (by kernel_rfl) (by kernel_rfl) (Nat.le_of_ble_eq_true rfl) (fun row h => by cases h) ?_
  repeat' (first
      | (refine za5 ?_; first | (refine za6 ?_; refine zat _ rfl ?_) | (refine zad ?_; refine zaa _ rfl ?_) | (refine zbv ?_; refine zbu _ rfl rfl rfl ?_) | (refine zbw ?_; first | (refine zbl rfl aD rfl ?_) | (refine zbi rfl aD ?_) | (refine zbj rfl aD ?_) | (refine zbk rfl aD rfl ?_)) | (refine zbs ?_; first | (refine zbx rfl rfl aD ?_) | (refine zb8 rfl rfl aD ?_) | (refine zb7 rfl rfl ?_) | (refine zbh rfl rfl (fun h => ?_) (fun h => ?_) <;> (have h' := h; (try simp only [sx] at h')))) | (refine zas (hK _ _ (.inl rfl) ?_); clear hK K) | (refine zas (hK _ _ (.inr (by kernel_rfl)) ?_); clear hK K))
      | (refine za3 ?_; first | (refine zbp ?_) | (refine zaj (fun K hK => ?_)) | (refine zan ?_) | (refine za4 ?_) | (refine zbq ?_) | (refine za1 ?_))
      | (refine za2 ?_) | (refine zai ?_) | (refine zae ?_) | (refine zaq ?_) | (refine zar ?_) | (refine zao ?_) | (refine zap rfl ?_) | (refine zab ?_) | (refine zag ?_) | (refine zbr ?_))
  all_goals (refine zb1 rfl (zbn rfl) ?_; simp; omega)
theorem k_in (x a b : Int) : Con Try.prog 65 [.int .i64 x, .int .i64 a, .int .i64 b] (.bool (decide (a ≤ x) && decide (x ≤ b))) := by
  intro al
  refine za8 hmix Try.func65 rfl (by kernel_rfl) (by kernel_rfl) (Nat.le_of_ble_eq_true rfl) (fun row h => by cases h) ?_
  repeat' (first
      | (refine za5 ?_; first | (refine za6 ?_; refine zat _ rfl ?_) | (refine zad ?_; refine zaa _ rfl ?_) | (refine zbv ?_; refine zbu _ rfl rfl rfl ?_) | (refine zbw ?_; first | (refine zbl rfl aD rfl ?_) | (refine zbi rfl aD ?_) | (refine zbj rfl aD ?_) | (refine zbk rfl aD rfl ?_)) | (refine zbs ?_; first | (refine zbx rfl rfl aD ?_) | (refine zb8 rfl rfl aD ?_) | (refine zb7 rfl rfl ?_) | (refine zbh rfl rfl (fun h => ?_) (fun h => ?_) <;> (have h' := h; (try simp only [sx] at h')))) | (refine zas (hK _ _ (.inl rfl) ?_); clear hK K) | (refine zas (hK _ _ (.inr (by kernel_rfl)) ?_); clear hK K))
      | (refine za3 ?_; first | (refine zbp ?_) | (refine zaj (fun K hK => ?_)) | (refine zan ?_) | (refine za4 ?_) | (refine zbq ?_) | (refine za1 ?_))
      | (refine za2 ?_) | (refine zai ?_) | (refine zae ?_) | (refine zaq ?_) | (refine zar ?_) | (refine zao ?_) | (refine zap rfl ?_) | (refine zab ?_) | (refine zag ?_) | (refine zbr ?_))
  all_goals (refine zb1 rfl (zbn rfl) ?_; simp; omega)
theorem k_l1Most (a b : Int) : Con Try.prog 90 [.int .i64 a, .int .i64 b] (.int .i64 (max a b)) := by
  intro al
  refine za8 hmix Try.func90 rfl (by kernel_rfl) (by kernel_rfl) (Nat.le_of_ble_eq_true rfl) (fun row h => by cases h) ?_
  repeat' (first
      | (refine za5 ?_; first | (refine za6 ?_; refine zat _ rfl ?_) | (refine zad ?_; refine zaa _ rfl ?_) | (refine zbv ?_; refine zbu _ rfl rfl rfl ?_) | (refine zas (hK _ _ (.inl rfl) ?_); clear hK K) | (refine zas (hK _ _ (.inr (by kernel_rfl)) ?_); clear hK K))
      | (refine za3 ?_; first | (refine zbp ?_) | (refine zaj (fun K hK => ?_)) | (refine zan ?_) | (refine za4 ?_) | (refine zbq ?_) | (refine za1 ?_) | (refine zbg ?_; first | (refine zam rfl aD ?_) | (refine zal rfl aD ?_) | (refine zaz rfl (fun h => ?_) (fun h => ?_) <;> (have h' := h; (try simp only [sx] at h')))))
      | (refine za2 ?_) | (refine zai ?_) | (refine zae ?_) | (refine zaq ?_) | (refine zar ?_) | (refine zao ?_) | (refine zap rfl ?_) | (refine zab ?_) | (refine zag ?_) | (refine zbr ?_))
  all_goals (exact zcj rfl (zbn rfl) aO)
end Go.Vs
set_option linter.unusedVariables false
set_option linter.unusedSimpArgs false
set_option maxRecDepth 100000
set_option maxHeartbeats 4000000
namespace Go.Vs
open Go.Proofs
attribute [local irreducible] exec vwp thenQ blkQ loopQ RetPost
theorem k_IndexFuncInt (xs : List Int) (g : FuncId) (ca : List (List PV)) (p : Int → Bool) (hg : ∀ a ∈ xs, Con Try.prog g (.int .i64 a :: ca.map PV.ptr) (.bool (p a))) (hn : xs.length ≤ 1099511627776) :
    Con Try.prog 153 [.list 1 (ints xs), .fn g [] (ca.map PV.ptr)] (.int .i64 (idx p xs)) := by
  intro al
  refine za8 hmix Try.func153 rfl (by kernel_rfl) (by kernel_rfl) (Nat.le_of_ble_eq_true rfl) (fun row h => by cases h) ?_
  have hty_u24 := ty_u24
  have hty_s24 := ty_s24
  have hty_c3 := ty_c3
  have hl1 : (ints xs).length = xs.length := by simp
  repeat' (first
      | (refine za5 ?_; first | (refine za6 ?_; refine zat _ rfl ?_) | (refine zad ?_; refine zaa _ rfl ?_) | (refine zbv ?_; first | (refine zby rfl rfl aO ?_) | (refine zbu _ rfl rfl rfl ?_) | (refine zaw _ rfl rfl rfl ?_)) | (refine zbf ?_; first | (refine zac aA rfl ?_) | (refine zah _ aA rfl rfl aE rfl ?_) | (refine zaf _ aA rfl aZ aL ?_) | (refine zak _ aA rfl rfl aE aZ aL ?_)) | (refine zbe ?_; first | (refine zau _ aA rfl rfl aO aA ?_) | (refine zav _ aA rfl rfl rfl rfl aO aO (by first | (rw [Nat.zero_add, Int.toNat_natCast]) | (rw [Nat.zero_add]) | rfl) ?_)) | (refine zbd ?_; first | (refine za9 aA rfl ?_) | (refine zbc aA rfl rfl ?_) | (refine zba aA rfl ?_) | (refine zbb aA (evO_ok rfl) ?_)) | (refine zas (hK _ _ (.inl rfl) ?_); clear hK K) | (refine zas (hK _ _ (.inr (by kernel_rfl)) ?_); clear hK K))
      | (refine za3 ?_; first | (refine zbp ?_) | (refine zaj (fun K hK => ?_)) | (refine zan ?_) | (refine za4 ?_) | (refine zbq ?_) | (refine za1 ?_) | (refine zbg ?_; first | (refine zam rfl aD ?_) | (refine zal rfl aD ?_) | (refine zaz rfl (fun h => ?_) (fun h => ?_) <;> (have h' := h; (try simp only [sx] at h')))))
      | (refine za2 ?_) | (refine zai ?_) | (refine zae ?_) | (refine zaq ?_) | (refine zar ?_) | (refine zao ?_) | (refine zap rfl ?_) | (refine zab ?_) | (refine zag ?_) | (refine zbr ?_))
  refine zcd [0, 1, 7] [] (fun i : Nat => [(8, .int .i64 i)]) (fun i : Nat => []) (fun i : Nat => i ≤ xs.length ∧ ∀ j, j < i → ∀ c, xs[j]? = some c → p c = false) (fun i : Nat => xs.length - i) (0) rfl rfl (fun _ => rfl) (fun _ => rfl) rfl aW ⟨by omega, fun j hj => by omega⟩ (fun i hi => ?_)
  obtain ⟨hi1, hi2⟩ := hi
  rcases Nat.lt_or_ge i xs.length with hlt | hge
  · obtain ⟨a, hga⟩ := get_ex hlt
    have hx := ints_at hga
    have kg := hg a (get_mem hga)
    repeat' (first
      | (refine za5 ?_; first | (refine za6 ?_; refine zat _ rfl ?_) | (refine zad ?_; refine zaa _ rfl ?_) | (refine zbv ?_; first | (refine zby rfl rfl aO ?_) | (refine zbu _ rfl rfl rfl ?_) | (refine zaw _ rfl rfl rfl ?_)) | (refine zbf ?_; first | (refine zac aA rfl ?_) | (refine zah _ aA rfl rfl aE rfl ?_) | (refine zaf _ aA rfl aZ aL ?_) | (refine zak _ aA rfl rfl aE aZ aL ?_)) | (refine zbe ?_; first | (refine zau _ aA rfl rfl aO aA ?_) | (refine zav _ aA rfl rfl rfl rfl aO aO (by first | (rw [Nat.zero_add, Int.toNat_natCast]) | (rw [Nat.zero_add]) | rfl) ?_)) | (refine zbd ?_; first | (refine za0 true (kg) rfl rfl rfl aS rfl aH ?_; simp only [cl]) | (refine x_call [] _ (kg) rfl rfl aS rfl aH ?_; simp only [cl]) | (refine za9 aA rfl ?_) | (refine zbc aA rfl rfl ?_) | (refine zba aA rfl ?_) | (refine zbb aA (evO_ok rfl) ?_)) | (refine zas (hK _ _ (.inl rfl) ?_); clear hK K) | (refine zas (hK _ _ (.inr (by kernel_rfl)) ?_); clear hK K))
      | (refine za3 ?_; first | (refine zbp ?_) | (refine zaj (fun K hK => ?_)) | (refine zan ?_) | (refine za4 ?_) | (refine zbq ?_) | (refine za1 ?_) | (refine zbg ?_; first | (refine zam rfl aD ?_) | (refine zal rfl aD ?_) | (refine zaz rfl (fun h => ?_) (fun h => ?_) <;> (have h' := h; (try simp only [sx] at h')))))
      | (refine za2 ?_) | (refine zai ?_) | (refine zae ?_) | (refine zaq ?_) | (refine zar ?_) | (refine zao ?_) | (refine zap rfl ?_) | (refine zab ?_) | (refine zag ?_) | (refine zbr ?_))
    · exact zcj rfl (zbn rfl) (idx_some hi2 hga aA).symm
    · refine zcb (i + 1) rfl aW ⟨by omega, idx_step hi2 hga (by simpa using h)⟩ aO
  · repeat' (first
      | (refine za5 ?_; first | (refine za6 ?_; refine zat _ rfl ?_) | (refine zad ?_; refine zaa _ rfl ?_) | (refine zbv ?_; first | (refine zby rfl rfl aO ?_) | (refine zbu _ rfl rfl rfl ?_) | (refine zaw _ rfl rfl rfl ?_)) | (refine zbf ?_; first | (refine zac aA rfl ?_) | (refine zah _ aA rfl rfl aE rfl ?_) | (refine zaf _ aA rfl aZ aL ?_) | (refine zak _ aA rfl rfl aE aZ aL ?_)) | (refine zbe ?_; first | (refine zau _ aA rfl rfl aO aA ?_) | (refine zav _ aA rfl rfl rfl rfl aO aO (by first | (rw [Nat.zero_add, Int.toNat_natCast]) | (rw [Nat.zero_add]) | rfl) ?_)) | (refine zbd ?_; first | (refine za9 aA rfl ?_) | (refine zbc aA rfl rfl ?_) | (refine zba aA rfl ?_) | (refine zbb aA (evO_ok rfl) ?_)) | (refine zas (hK _ _ (.inl rfl) ?_); clear hK K) | (refine zas (hK _ _ (.inr (by kernel_rfl)) ?_); clear hK K))
      | (refine za3 ?_; first | (refine zbp ?_) | (refine zaj (fun K hK => ?_)) | (refine zan ?_) | (refine za4 ?_) | (refine zbq ?_) | (refine za1 ?_) | (refine zbg ?_; first | (refine zam rfl aD ?_) | (refine zal rfl aD ?_) | (refine zaz rfl (fun h => ?_) (fun h => ?_) <;> (have h' := h; (try simp only [sx] at h')))))
      | (refine za2 ?_) | (refine zai ?_) | (refine zae ?_) | (refine zaq ?_) | (refine zar ?_) | (refine zao ?_) | (refine zap rfl ?_) | (refine zab ?_) | (refine zag ?_) | (refine zbr ?_))
    exact zcj rfl (zbn rfl) (idx_none fun j hj => hi2 j aO).symm
theorem k_ContainsFuncInt (xs : List Int) (g : FuncId) (ca : List (List PV)) (p : Int → Bool) (hg : ∀ a ∈ xs, Con Try.prog g (.int .i64 a :: ca.map PV.ptr) (.bool (p a))) (hn : xs.length ≤ 1099511627776) :
    Con Try.prog 146 [.list 1 (ints xs), .fn g [] (ca.map PV.ptr)] (.bool (xs.any p)) := by
  intro al
  refine za8 hmix Try.func146 rfl (by kernel_rfl) (by kernel_rfl) (Nat.le_of_ble_eq_true rfl) (fun row h => by cases h) ?_
  have hty_u24 := ty_u24
  have hty_s24 := ty_s24
  repeat' (first
      | (refine za5 ?_; first | (refine za6 ?_; refine zat _ rfl ?_) | (refine zad ?_; refine zaa _ rfl ?_) | (refine zbv ?_; refine zbu _ rfl rfl rfl ?_) | (refine zbd ?_; refine za0 false (k_IndexFuncInt xs g ca p hg hn) rfl rfl rfl aS rfl aH ?_; simp only [cl]) | (refine zas (hK _ _ (.inl rfl) ?_); clear hK K) | (refine zas (hK _ _ (.inr (by kernel_rfl)) ?_); clear hK K))
      | (refine za3 ?_; first | (refine zbp ?_) | (refine zaj (fun K hK => ?_)) | (refine zan ?_) | (refine za4 ?_) | (refine zbq ?_) | (refine za1 ?_))
      | (refine za2 ?_) | (refine zai ?_) | (refine zae ?_) | (refine zaq ?_) | (refine zar ?_) | (refine zao ?_) | (refine zap rfl ?_) | (refine zab ?_) | (refine zag ?_) | (refine zbr ?_))
  refine zb1 rfl (zbn rfl) ?_
  rw [← idx_any]
theorem k_all1Int (a : Int) (g : FuncId) (ca : List (List PV)) (b : Bool) (hg : Con Try.prog g (.int .i64 a :: ca.map PV.ptr) (.bool b)) :
    Con Try.prog 147 [.int .i64 a, .ptr [.fn g [] (ca.map PV.ptr)]] (.bool (!b)) := by
  intro al
  refine za8 hmix Try.func147 rfl (by kernel_rfl) (by kernel_rfl) (Nat.le_of_ble_eq_true rfl) (fun row h => by cases h) ?_
  have hty_c76 := ty_c76
  have kg := hg
  repeat' (first
      | (refine za5 ?_; first | (refine za6 ?_; refine zat _ rfl ?_) | (refine zad ?_; refine zaa _ rfl ?_) | (refine g_un ?_; first | (refine zce rfl ?_) | (refine zcf rfl aO ?_)) | (refine zbf ?_; first | (refine zac aA rfl ?_) | (refine zah _ aA rfl rfl aE rfl ?_) | (refine zaf _ aA rfl aZ aL ?_) | (refine zak _ aA rfl rfl aE aZ aL ?_)) | (refine zbd ?_; first | (refine za0 true (kg) rfl rfl rfl aS rfl aH ?_; simp only [cl]) | (refine x_call [] _ (kg) rfl rfl aS rfl aH ?_; simp only [cl])) | (refine zas (hK _ _ (.inl rfl) ?_); clear hK K) | (refine zas (hK _ _ (.inr (by kernel_rfl)) ?_); clear hK K))
      | (refine za3 ?_; first | (refine zbp ?_) | (refine zaj (fun K hK => ?_)) | (refine zan ?_) | (refine za4 ?_) | (refine zbq ?_) | (refine za1 ?_))
      | (refine za2 ?_) | (refine zai ?_) | (refine zae ?_) | (refine zaq ?_) | (refine zar ?_) | (refine zao ?_) | (refine zap rfl ?_) | (refine zab ?_) | (refine zag ?_) | (refine zbr ?_))
  exact zb1 rfl (zbn rfl) rfl
theorem k_allInt (xs : List Int) (g : FuncId) (ca : List (List PV)) (p : Int → Bool) (hg : ∀ a ∈ xs, Con Try.prog g (.int .i64 a :: ca.map PV.ptr) (.bool (p a))) (hn : xs.length ≤ 1099511627776) :
    Con Try.prog 123 [.list 1 (ints xs), .fn g [] (ca.map PV.ptr)] (.bool (xs.all p)) := by
  intro al
  refine za8 hmix Try.func123 rfl (by kernel_rfl) (by kernel_rfl) (Nat.le_of_ble_eq_true rfl) (fun row h => by cases h) ?_
  have hty_u24 := ty_u24
  have hty_s24 := ty_s24
  repeat' (first
      | (refine za5 ?_; first | (refine za6 ?_; refine zat _ rfl ?_) | (refine zad ?_; refine zaa _ rfl ?_) | (refine g_un ?_; first | (refine zce rfl ?_) | (refine zcf rfl aO ?_)) | (refine zbd ?_; refine za0 true (k_ContainsFuncInt xs 147 [[.fn g [] (ca.map PV.ptr)]] (fun a => !p a) (fun a ha => k_all1Int a g ca (p a) (hg a ha)) hn) rfl rfl rfl aS rfl aH ?_; simp only [cl]) | (refine zbz _ _ rfl rfl rfl rfl ?_) | (refine zch _ _ rfl rfl ?_) | (refine zas (hK _ _ (.inl rfl) ?_); clear hK K) | (refine zas (hK _ _ (.inr (by kernel_rfl)) ?_); clear hK K))
      | (refine za3 ?_; first | (refine zbp ?_) | (refine zaj (fun K hK => ?_)) | (refine zan ?_) | (refine za4 ?_) | (refine zbq ?_) | (refine za1 ?_))
      | (refine za2 ?_) | (refine zai ?_) | (refine zae ?_) | (refine zaq ?_) | (refine zar ?_) | (refine zao ?_) | (refine zap rfl ?_) | (refine zab ?_) | (refine zag ?_) | (refine zbr ?_))
  refine zb1 rfl (zbn rfl) ?_
  rw [List.all_eq_not_any_not]
end Go.Vs
set_option linter.unusedVariables false
set_option linter.unusedSimpArgs false
set_option maxRecDepth 100000
set_option maxHeartbeats 4000000
namespace Go.Vs
open Go.Proofs
attribute [local irreducible] exec vwp thenQ blkQ loopQ RetPost
theorem not_mem_of {xs : List Int} {n : Int} (h : ∀ y ∈ xs, y ≠ n) : n ∉ xs := fun hm => h n hm rfl
theorem k_l1Has (xs : List Int) (n : Int) (hn : xs.length ≤ 1099511627776) : Con Try.prog 117 [.list 1 (ints xs), .int .i64 n] (.bool (decide (n ∈ xs))) := by
  intro al
  refine za8 hmix Try.func117 rfl (by kernel_rfl) (by kernel_rfl) (Nat.le_of_ble_eq_true rfl) (fun row h => by cases h) ?_
  have hty_u24 := ty_u24
  have hty_s24 := ty_s24
  have hty_c3 := ty_c3
  have hl1 : (ints xs).length = xs.length := by simp
  repeat' (first
      | (refine za5 ?_; first | (refine za6 ?_; refine zat _ rfl ?_) | (refine zad ?_; refine zaa _ rfl ?_) | (refine zbv ?_; first | (refine zby rfl rfl aO ?_) | (refine zbu _ rfl rfl rfl ?_) | (refine zbt aA rfl rfl ?_) | (refine zaw _ rfl rfl rfl ?_)) | (refine zbf ?_; first | (refine zac aA rfl ?_) | (refine zah _ aA rfl rfl aE rfl ?_) | (refine zaf _ aA rfl aZ aL ?_) | (refine zak _ aA rfl rfl aE aZ aL ?_)) | (refine zbe ?_; first | (refine zau _ aA rfl rfl aO aA ?_) | (refine zav _ aA rfl rfl rfl rfl aO aO (by first | (rw [Nat.zero_add, Int.toNat_natCast]) | (rw [Nat.zero_add]) | rfl) ?_)) | (refine zbd ?_; first | (refine za9 aA rfl ?_) | (refine zbc aA rfl rfl ?_) | (refine zba aA rfl ?_) | (refine zbb aA (evO_ok rfl) ?_)) | (refine zas (hK _ _ (.inl rfl) ?_); clear hK K) | (refine zas (hK _ _ (.inr (by kernel_rfl)) ?_); clear hK K))
      | (refine za3 ?_; first | (refine zbp ?_) | (refine zaj (fun K hK => ?_)) | (refine zan ?_) | (refine za4 ?_) | (refine zbq ?_) | (refine za1 ?_) | (refine zbg ?_; first | (refine zam rfl aD ?_) | (refine zal rfl aD ?_) | (refine zaz rfl (fun h => ?_) (fun h => ?_) <;> (have h' := h; (try simp only [sx] at h')))))
      | (refine za2 ?_) | (refine zai ?_) | (refine zae ?_) | (refine zaq ?_) | (refine zar ?_) | (refine zao ?_) | (refine zap rfl ?_) | (refine zab ?_) | (refine zag ?_) | (refine zbr ?_))
  refine zcd [0, 1] [] (fun i : Nat => [(5, .int .i64 i)]) (fun i : Nat => []) (fun i : Nat => i ≤ xs.length ∧ ∀ y ∈ xs.take i, y ≠ n) (fun i : Nat => xs.length - i) (0) rfl rfl (fun _ => rfl) (fun _ => rfl) rfl aW ⟨by omega, fun y hy => by simp at hy⟩ (fun i hi => ?_)
  obtain ⟨hi1, hi2⟩ := hi
  rcases Nat.lt_or_ge i xs.length with hlt | hge
  · obtain ⟨a, hga⟩ := get_ex hlt
    have hx := ints_at hga
    repeat' (first
      | (refine za5 ?_; first | (refine za6 ?_; refine zat _ rfl ?_) | (refine zad ?_; refine zaa _ rfl ?_) | (refine zbv ?_; first | (refine zby rfl rfl aO ?_) | (refine zbu _ rfl rfl rfl ?_) | (refine zbt aA rfl rfl ?_) | (refine zaw _ rfl rfl rfl ?_)) | (refine zbf ?_; first | (refine zac aA rfl ?_) | (refine zah _ aA rfl rfl aE rfl ?_) | (refine zaf _ aA rfl aZ aL ?_) | (refine zak _ aA rfl rfl aE aZ aL ?_)) | (refine zbe ?_; first | (refine zau _ aA rfl rfl aO aA ?_) | (refine zav _ aA rfl rfl rfl rfl aO aO (by first | (rw [Nat.zero_add, Int.toNat_natCast]) | (rw [Nat.zero_add]) | rfl) ?_)) | (refine zbd ?_; first | (refine za9 aA rfl ?_) | (refine zbc aA rfl rfl ?_) | (refine zba aA rfl ?_) | (refine zbb aA (evO_ok rfl) ?_)) | (refine zas (hK _ _ (.inl rfl) ?_); clear hK K) | (refine zas (hK _ _ (.inr (by kernel_rfl)) ?_); clear hK K))
      | (refine za3 ?_; first | (refine zbp ?_) | (refine zaj (fun K hK => ?_)) | (refine zan ?_) | (refine za4 ?_) | (refine zbq ?_) | (refine za1 ?_) | (refine zbg ?_; first | (refine zam rfl aD ?_) | (refine zal rfl aD ?_) | (refine zaz rfl (fun h => ?_) (fun h => ?_) <;> (have h' := h; (try simp only [sx] at h')))))
      | (refine za2 ?_) | (refine zai ?_) | (refine zae ?_) | (refine zaq ?_) | (refine zar ?_) | (refine zao ?_) | (refine zap rfl ?_) | (refine zab ?_) | (refine zag ?_) | (refine zbr ?_))
    · refine zb1 rfl (zbn rfl) ?_
      have : n ∈ xs := by rw [← h']; exact get_mem hga
      simp [this]
    · refine zcb (i + 1) rfl aW ⟨by omega, all_take_succ hga hi2 (by simpa using h')⟩ aO
  · repeat' (first
      | (refine za5 ?_; first | (refine za6 ?_; refine zat _ rfl ?_) | (refine zad ?_; refine zaa _ rfl ?_) | (refine zbv ?_; first | (refine zby rfl rfl aO ?_) | (refine zbu _ rfl rfl rfl ?_) | (refine zbt aA rfl rfl ?_) | (refine zaw _ rfl rfl rfl ?_)) | (refine zbf ?_; first | (refine zac aA rfl ?_) | (refine zah _ aA rfl rfl aE rfl ?_) | (refine zaf _ aA rfl aZ aL ?_) | (refine zak _ aA rfl rfl aE aZ aL ?_)) | (refine zbe ?_; first | (refine zau _ aA rfl rfl aO aA ?_) | (refine zav _ aA rfl rfl rfl rfl aO aO (by first | (rw [Nat.zero_add, Int.toNat_natCast]) | (rw [Nat.zero_add]) | rfl) ?_)) | (refine zbd ?_; first | (refine za9 aA rfl ?_) | (refine zbc aA rfl rfl ?_) | (refine zba aA rfl ?_) | (refine zbb aA (evO_ok rfl) ?_)) | (refine zas (hK _ _ (.inl rfl) ?_); clear hK K) | (refine zas (hK _ _ (.inr (by kernel_rfl)) ?_); clear hK K))
      | (refine za3 ?_; first | (refine zbp ?_) | (refine zaj (fun K hK => ?_)) | (refine zan ?_) | (refine za4 ?_) | (refine zbq ?_) | (refine za1 ?_) | (refine zbg ?_; first | (refine zam rfl aD ?_) | (refine zal rfl aD ?_) | (refine zaz rfl (fun h => ?_) (fun h => ?_) <;> (have h' := h; (try simp only [sx] at h')))))
      | (refine za2 ?_) | (refine zai ?_) | (refine zae ?_) | (refine zaq ?_) | (refine zar ?_) | (refine zao ?_) | (refine zap rfl ?_) | (refine zab ?_) | (refine zag ?_) | (refine zbr ?_))
    refine zb1 rfl (zbn rfl) ?_
    rw [take_all hge] at hi2
    simp [not_mem_of hi2]
theorem k_IndexInt (xs : List Int) (n : Int) (hn : xs.length ≤ 1099511627776) : Con Try.prog 151 [.list 1 (ints xs), .int .i64 n] (.int .i64 (idx (fun a => decide (n = a)) xs)) := by
  intro al
  refine za8 hmix Try.func151 rfl (by kernel_rfl) (by kernel_rfl) (Nat.le_of_ble_eq_true rfl) (fun row h => by cases h) ?_
  have hty_u24 := ty_u24
  have hty_s24 := ty_s24
  have hty_c3 := ty_c3
  have hl1 : (ints xs).length = xs.length := by simp
  repeat' (first
      | (refine za5 ?_; first | (refine za6 ?_; refine zat _ rfl ?_) | (refine zad ?_; refine zaa _ rfl ?_) | (refine zbv ?_; first | (refine zby rfl rfl aO ?_) | (refine zbu _ rfl rfl rfl ?_) | (refine zbt aA rfl rfl ?_) | (refine zaw _ rfl rfl rfl ?_)) | (refine zbf ?_; first | (refine zac aA rfl ?_) | (refine zah _ aA rfl rfl aE rfl ?_) | (refine zaf _ aA rfl aZ aL ?_) | (refine zak _ aA rfl rfl aE aZ aL ?_)) | (refine zbe ?_; first | (refine zau _ aA rfl rfl aO aA ?_) | (refine zav _ aA rfl rfl rfl rfl aO aO (by first | (rw [Nat.zero_add, Int.toNat_natCast]) | (rw [Nat.zero_add]) | rfl) ?_)) | (refine zbd ?_; first | (refine za9 aA rfl ?_) | (refine zbc aA rfl rfl ?_) | (refine zba aA rfl ?_) | (refine zbb aA (evO_ok rfl) ?_)) | (refine zas (hK _ _ (.inl rfl) ?_); clear hK K) | (refine zas (hK _ _ (.inr (by kernel_rfl)) ?_); clear hK K))
      | (refine za3 ?_; first | (refine zbp ?_) | (refine zaj (fun K hK => ?_)) | (refine zan ?_) | (refine za4 ?_) | (refine zbq ?_) | (refine za1 ?_) | (refine zbg ?_; first | (refine zam rfl aD ?_) | (refine zal rfl aD ?_) | (refine zaz rfl (fun h => ?_) (fun h => ?_) <;> (have h' := h; (try simp only [sx] at h')))))
      | (refine za2 ?_) | (refine zai ?_) | (refine zae ?_) | (refine zaq ?_) | (refine zar ?_) | (refine zao ?_) | (refine zap rfl ?_) | (refine zab ?_) | (refine zag ?_) | (refine zbr ?_))
  refine zcd [0, 1, 7] [] (fun i : Nat => [(8, .int .i64 i)]) (fun i : Nat => []) (fun i : Nat => i ≤ xs.length ∧ ∀ j, j < i → ∀ c, xs[j]? = some c → decide (n = c) = false) (fun i : Nat => xs.length - i) (0) rfl rfl (fun _ => rfl) (fun _ => rfl) rfl aW ⟨by omega, fun j hj => by omega⟩ (fun i hi => ?_)
  obtain ⟨hi1, hi2⟩ := hi
  rcases Nat.lt_or_ge i xs.length with hlt | hge
  · obtain ⟨a, hga⟩ := get_ex hlt
    have hx := ints_at hga
    repeat' (first
      | (refine za5 ?_; first | (refine za6 ?_; refine zat _ rfl ?_) | (refine zad ?_; refine zaa _ rfl ?_) | (refine zbv ?_; first | (refine zby rfl rfl aO ?_) | (refine zbu _ rfl rfl rfl ?_) | (refine zbt aA rfl rfl ?_) | (refine zaw _ rfl rfl rfl ?_)) | (refine zbf ?_; first | (refine zac aA rfl ?_) | (refine zah _ aA rfl rfl aE rfl ?_) | (refine zaf _ aA rfl aZ aL ?_) | (refine zak _ aA rfl rfl aE aZ aL ?_)) | (refine zbe ?_; first | (refine zau _ aA rfl rfl aO aA ?_) | (refine zav _ aA rfl rfl rfl rfl aO aO (by first | (rw [Nat.zero_add, Int.toNat_natCast]) | (rw [Nat.zero_add]) | rfl) ?_)) | (refine zbd ?_; first | (refine za9 aA rfl ?_) | (refine zbc aA rfl rfl ?_) | (refine zba aA rfl ?_) | (refine zbb aA (evO_ok rfl) ?_)) | (refine zas (hK _ _ (.inl rfl) ?_); clear hK K) | (refine zas (hK _ _ (.inr (by kernel_rfl)) ?_); clear hK K))
      | (refine za3 ?_; first | (refine zbp ?_) | (refine zaj (fun K hK => ?_)) | (refine zan ?_) | (refine za4 ?_) | (refine zbq ?_) | (refine za1 ?_) | (refine zbg ?_; first | (refine zam rfl aD ?_) | (refine zal rfl aD ?_) | (refine zaz rfl (fun h => ?_) (fun h => ?_) <;> (have h' := h; (try simp only [sx] at h')))))
      | (refine za2 ?_) | (refine zai ?_) | (refine zae ?_) | (refine zaq ?_) | (refine zar ?_) | (refine zao ?_) | (refine zap rfl ?_) | (refine zab ?_) | (refine zag ?_) | (refine zbr ?_))
    · exact zcj rfl (zbn rfl) (idx_some (p := fun a => decide (n = a)) hi2 hga (by simpa using h')).symm
    · refine zcb (i + 1) rfl aW ⟨by omega, idx_step (p := fun a => decide (n = a)) hi2 hga (by simpa using h')⟩ aO
  · repeat' (first
      | (refine za5 ?_; first | (refine za6 ?_; refine zat _ rfl ?_) | (refine zad ?_; refine zaa _ rfl ?_) | (refine zbv ?_; first | (refine zby rfl rfl aO ?_) | (refine zbu _ rfl rfl rfl ?_) | (refine zbt aA rfl rfl ?_) | (refine zaw _ rfl rfl rfl ?_)) | (refine zbf ?_; first | (refine zac aA rfl ?_) | (refine zah _ aA rfl rfl aE rfl ?_) | (refine zaf _ aA rfl aZ aL ?_) | (refine zak _ aA rfl rfl aE aZ aL ?_)) | (refine zbe ?_; first | (refine zau _ aA rfl rfl aO aA ?_) | (refine zav _ aA rfl rfl rfl rfl aO aO (by first | (rw [Nat.zero_add, Int.toNat_natCast]) | (rw [Nat.zero_add]) | rfl) ?_)) | (refine zbd ?_; first | (refine za9 aA rfl ?_) | (refine zbc aA rfl rfl ?_) | (refine zba aA rfl ?_) | (refine zbb aA (evO_ok rfl) ?_)) | (refine zas (hK _ _ (.inl rfl) ?_); clear hK K) | (refine zas (hK _ _ (.inr (by kernel_rfl)) ?_); clear hK K))
      | (refine za3 ?_; first | (refine zbp ?_) | (refine zaj (fun K hK => ?_)) | (refine zan ?_) | (refine za4 ?_) | (refine zbq ?_) | (refine za1 ?_) | (refine zbg ?_; first | (refine zam rfl aD ?_) | (refine zal rfl aD ?_) | (refine zaz rfl (fun h => ?_) (fun h => ?_) <;> (have h' := h; (try simp only [sx] at h')))))
      | (refine za2 ?_) | (refine zai ?_) | (refine zae ?_) | (refine zaq ?_) | (refine zar ?_) | (refine zao ?_) | (refine zap rfl ?_) | (refine zab ?_) | (refine zag ?_) | (refine zbr ?_))
    exact zcj rfl (zbn rfl) (idx_none (p := fun a => decide (n = a)) fun j hj => hi2 j aO).symm
theorem k_ContainsInt (xs : List Int) (n : Int) (hn : xs.length ≤ 1099511627776) : Con Try.prog 131 [.list 1 (ints xs), .int .i64 n] (.bool (decide (n ∈ xs))) := by
  intro al
  refine za8 hmix Try.func131 rfl (by kernel_rfl) (by kernel_rfl) (Nat.le_of_ble_eq_true rfl) (fun row h => by cases h) ?_
  have hty_u24 := ty_u24
  have hty_s24 := ty_s24
  repeat' (first
      | (refine za5 ?_; first | (refine za6 ?_; refine zat _ rfl ?_) | (refine zad ?_; refine zaa _ rfl ?_) | (refine zbv ?_; refine zbu _ rfl rfl rfl ?_) | (refine zbd ?_; refine za0 true (k_IndexInt xs n hn) rfl rfl rfl aS rfl aH ?_; simp only [cl]) | (refine zas (hK _ _ (.inl rfl) ?_); clear hK K) | (refine zas (hK _ _ (.inr (by kernel_rfl)) ?_); clear hK K))
      | (refine za3 ?_; first | (refine zbp ?_) | (refine zaj (fun K hK => ?_)) | (refine zan ?_) | (refine za4 ?_) | (refine zbq ?_) | (refine za1 ?_))
      | (refine za2 ?_) | (refine zai ?_) | (refine zae ?_) | (refine zaq ?_) | (refine zar ?_) | (refine zao ?_) | (refine zap rfl ?_) | (refine zab ?_) | (refine zag ?_) | (refine zbr ?_))
  refine zb1 rfl (zbn rfl) ?_
  rw [show (decide (idx (fun a => decide (n = a)) xs ≥ 0)) = xs.any (fun a => decide (n = a)) from idx_any]
  rw [Bool.eq_iff_iff]
  simp
theorem k_hasInt (xs : List Int) (n : Int) (hn : xs.length ≤ 1099511627776) : Con Try.prog 82 [.list 1 (ints xs), .int .i64 n] (.bool (decide (n ∈ xs))) := by
  intro al
  refine za8 hmix Try.func82 rfl (by kernel_rfl) (by kernel_rfl) (Nat.le_of_ble_eq_true rfl) (fun row h => by cases h) ?_
  have hty_u24 := ty_u24
  have hty_s24 := ty_s24
  repeat' (first
      | (refine za5 ?_; first | (refine za6 ?_; refine zat _ rfl ?_) | (refine zad ?_; refine zaa _ rfl ?_) | (refine zbd ?_; refine za0 true (k_ContainsInt xs n hn) rfl rfl rfl aS rfl aH ?_; simp only [cl]) | (refine zas (hK _ _ (.inl rfl) ?_); clear hK K) | (refine zas (hK _ _ (.inr (by kernel_rfl)) ?_); clear hK K))
      | (refine za3 ?_; first | (refine zbp ?_) | (refine zaj (fun K hK => ?_)) | (refine zan ?_) | (refine za4 ?_) | (refine zbq ?_) | (refine za1 ?_))
      | (refine za2 ?_) | (refine zai ?_) | (refine zae ?_) | (refine zaq ?_) | (refine zar ?_) | (refine zao ?_) | (refine zap rfl ?_) | (refine zab ?_) | (refine zag ?_) | (refine zbr ?_))
  exact zb1 rfl (zbn rfl) rfl
def Up (l : List Int) (i : Nat) : Prop := ∀ j, j < i - 1 → l.getD j 0 < l.getD (j + 1) 0
def Rising (l : List Int) : Prop := Up l l.length
instance (l : List Int) (i : Nat) : Decidable (Up l i) := by unfold Up; infer_instance
instance (l : List Int) : Decidable (Rising l) := by unfold Rising; infer_instance
theorem getI {l : List Int} {i : Nat} {a : Int} (h : l[i]? = some a) : l.getD i 0 = a := by simp [List.getD_eq_getElem?_getD, h]
theorem up_step {l : List Int} {i : Nat} {a b : Int} (h : Up l i) (ha : l[i - 1]? = some a) (hb : l[i]? = some b) (hab : a < b) : Up l (i + 1) := fun j hj => by
  by_cases he : j + 1 = i
  · rw [he, getI hb, show j = i - 1 by omega, getI ha]; exact hab
  · exact h j aO
theorem not_rising {l : List Int} {i : Nat} {a b : Int} (h0 : 0 < i) (ha : l[i - 1]? = some a) (hb : l[i]? = some b) (hab : b ≤ a) : ¬ Rising l := fun h => by
  have := h (i - 1) (by have := get_lt hb; omega)
  rw [getI ha, show i - 1 + 1 = i by omega, getI hb] at this
  omega
theorem k_isRising (xs : List Int) (hn : xs.length ≤ 1099511627776) : Con Try.prog 125 [.list 1 (ints xs)] (.bool (decide (Rising xs))) := by
  intro al
  refine za8 hmix Try.func125 rfl (by kernel_rfl) (by kernel_rfl) (Nat.le_of_ble_eq_true rfl) (fun row h => by cases h) ?_
  have hty_u24 := ty_u24
  have hty_s24 := ty_s24
  have hty_c3 := ty_c3
  have hl1 : (ints xs).length = xs.length := by simp
  repeat' (first
      | (refine za5 ?_; first | (refine za6 ?_; refine zat _ rfl ?_) | (refine zad ?_; refine zaa _ rfl ?_) | (refine zbv ?_; first | (refine zby rfl rfl aO ?_) | (refine zck rfl rfl aO ?_) | (refine zbu _ rfl rfl rfl ?_) | (refine zaw _ rfl rfl rfl ?_)) | (refine zbf ?_; first | (refine zac aA rfl ?_) | (refine zah _ aA rfl rfl aE rfl ?_) | (refine zaf _ aA rfl aZ aL ?_) | (refine zak _ aA rfl rfl aE aZ aL ?_)) | (refine zbe ?_; first | (refine zau _ aA rfl rfl aO aA ?_) | (refine zav _ aA rfl rfl rfl rfl aO aO (by first | (rw [Nat.zero_add, Int.toNat_natCast]) | (rw [Nat.zero_add]) | rfl) ?_)) | (refine zbd ?_; first | (refine za9 aA rfl ?_) | (refine zbc aA rfl rfl ?_) | (refine zba aA rfl ?_) | (refine zbb aA (evO_ok rfl) ?_)) | (refine zas (hK _ _ (.inl rfl) ?_); clear hK K) | (refine zas (hK _ _ (.inr (by kernel_rfl)) ?_); clear hK K))
      | (refine za3 ?_; first | (refine zbp ?_) | (refine zaj (fun K hK => ?_)) | (refine zan ?_) | (refine za4 ?_) | (refine zbq ?_) | (refine za1 ?_) | (refine zbg ?_; first | (refine zam rfl aD ?_) | (refine zal rfl aD ?_) | (refine zaz rfl (fun h => ?_) (fun h => ?_) <;> (have h' := h; (try simp only [sx] at h')))))
      | (refine za2 ?_) | (refine zai ?_) | (refine zae ?_) | (refine zaq ?_) | (refine zar ?_) | (refine zao ?_) | (refine zap rfl ?_) | (refine zab ?_) | (refine zag ?_) | (refine zbr ?_))
  refine zcd [0] [] (fun i : Nat => [(3, .int .i64 i)]) (fun i : Nat => []) (fun i : Nat => (1 ≤ i ∧ i ≤ xs.length + 1) ∧ Up xs i) (fun i : Nat => xs.length + 1 - i) (1) rfl rfl (fun _ => rfl) (fun _ => rfl) rfl aW ⟨by omega, fun j hj => by omega⟩ (fun i hi => ?_)
  obtain ⟨hi1, hi2⟩ := hi
  rcases Nat.lt_or_ge i xs.length with hlt | hge
  · obtain ⟨a, hga⟩ := get_ex hlt
    obtain ⟨b, hgb⟩ := get_ex (show i - 1 < xs.length by omega)
    have hx := ints_at hga
    have hy := ints_at hgb
    have e1 : ((i : Int) - 1).toNat = i - 1 := by omega
    rw [← e1] at hy
    repeat' (first
      | (refine za5 ?_; first | (refine za6 ?_; refine zat _ rfl ?_) | (refine zad ?_; refine zaa _ rfl ?_) | (refine zbv ?_; first | (refine zby rfl rfl aO ?_) | (refine zck rfl rfl aO ?_) | (refine zbu _ rfl rfl rfl ?_) | (refine zaw _ rfl rfl rfl ?_)) | (refine zbf ?_; first | (refine zac aA rfl ?_) | (refine zah _ aA rfl rfl aE rfl ?_) | (refine zaf _ aA rfl aZ aL ?_) | (refine zak _ aA rfl rfl aE aZ aL ?_)) | (refine zbe ?_; first | (refine zau _ aA rfl rfl aO aA ?_) | (refine zav _ aA rfl rfl rfl rfl aO aO (by first | (rw [Nat.zero_add, Int.toNat_natCast]) | (rw [Nat.zero_add]) | rfl) ?_)) | (refine zbd ?_; first | (refine za9 aA rfl ?_) | (refine zbc aA rfl rfl ?_) | (refine zba aA rfl ?_) | (refine zbb aA (evO_ok rfl) ?_)) | (refine zas (hK _ _ (.inl rfl) ?_); clear hK K) | (refine zas (hK _ _ (.inr (by kernel_rfl)) ?_); clear hK K))
      | (refine za3 ?_; first | (refine zbp ?_) | (refine zaj (fun K hK => ?_)) | (refine zan ?_) | (refine za4 ?_) | (refine zbq ?_) | (refine za1 ?_) | (refine zbg ?_; first | (refine zam rfl aD ?_) | (refine zal rfl aD ?_) | (refine zaz rfl (fun h => ?_) (fun h => ?_) <;> (have h' := h; (try simp only [sx] at h')))))
      | (refine za2 ?_) | (refine zai ?_) | (refine zae ?_) | (refine zaq ?_) | (refine zar ?_) | (refine zao ?_) | (refine zap rfl ?_) | (refine zab ?_) | (refine zag ?_) | (refine zbr ?_))
    · exact zb1 rfl (zbn rfl) (by simp [not_rising aO hgb hga h'])
    · refine zcb (i + 1) rfl aW ⟨by omega, up_step hi2 hgb hga aO⟩ aO
  · repeat' (first
      | (refine za5 ?_; first | (refine za6 ?_; refine zat _ rfl ?_) | (refine zad ?_; refine zaa _ rfl ?_) | (refine zbv ?_; first | (refine zby rfl rfl aO ?_) | (refine zck rfl rfl aO ?_) | (refine zbu _ rfl rfl rfl ?_) | (refine zaw _ rfl rfl rfl ?_)) | (refine zbf ?_; first | (refine zac aA rfl ?_) | (refine zah _ aA rfl rfl aE rfl ?_) | (refine zaf _ aA rfl aZ aL ?_) | (refine zak _ aA rfl rfl aE aZ aL ?_)) | (refine zbe ?_; first | (refine zau _ aA rfl rfl aO aA ?_) | (refine zav _ aA rfl rfl rfl rfl aO aO (by first | (rw [Nat.zero_add, Int.toNat_natCast]) | (rw [Nat.zero_add]) | rfl) ?_)) | (refine zbd ?_; first | (refine za9 aA rfl ?_) | (refine zbc aA rfl rfl ?_) | (refine zba aA rfl ?_) | (refine zbb aA (evO_ok rfl) ?_)) | (refine zas (hK _ _ (.inl rfl) ?_); clear hK K) | (refine zas (hK _ _ (.inr (by kernel_rfl)) ?_); clear hK K))
      | (refine za3 ?_; first | (refine zbp ?_) | (refine zaj (fun K hK => ?_)) | (refine zan ?_) | (refine za4 ?_) | (refine zbq ?_) | (refine za1 ?_) | (refine zbg ?_; first | (refine zam rfl aD ?_) | (refine zal rfl aD ?_) | (refine zaz rfl (fun h => ?_) (fun h => ?_) <;> (have h' := h; (try simp only [sx] at h')))))
      | (refine za2 ?_) | (refine zai ?_) | (refine zae ?_) | (refine zaq ?_) | (refine zar ?_) | (refine zao ?_) | (refine zap rfl ?_) | (refine zab ?_) | (refine zag ?_) | (refine zbr ?_))
    exact zb1 rfl (zbn rfl) (by
      have : Rising xs := fun j hj => hi2 j aO
      simp [this])
theorem k_l1Rising (xs : List Int) (lo hi : Int) (hn : xs.length ≤ 1099511627776) : Con Try.prog 137 [.list 1 (ints xs), .int .i64 lo, .int .i64 hi] (.bool (decide ((∀ y ∈ xs, lo ≤ y ∧ y ≤ hi) ∧ Rising xs))) := by
  intro al
  refine za8 hmix Try.func137 rfl (by kernel_rfl) (by kernel_rfl) (Nat.le_of_ble_eq_true rfl) (fun row h => by cases h) ?_
  have hty_u24 := ty_u24
  have hty_s24 := ty_s24
  have hty_c3 := ty_c3
  have hl1 : (ints xs).length = xs.length := by simp
  repeat' (first
      | (refine za5 ?_; first | (refine za6 ?_; refine zat _ rfl ?_) | (refine zad ?_; refine zaa _ rfl ?_) | (refine zbv ?_; first | (refine zby rfl rfl aO ?_) | (refine zck rfl rfl aO ?_) | (refine zbu _ rfl rfl rfl ?_) | (refine zaw _ rfl rfl rfl ?_)) | (refine g_un ?_; first | (refine zce rfl ?_) | (refine zcf rfl aO ?_)) | (refine zbf ?_; first | (refine zac aA rfl ?_) | (refine zah _ aA rfl rfl aE rfl ?_) | (refine zaf _ aA rfl aZ aL ?_) | (refine zak _ aA rfl rfl aE aZ aL ?_)) | (refine zbe ?_; first | (refine zau _ aA rfl rfl aO aA ?_) | (refine zav _ aA rfl rfl rfl rfl aO aO (by first | (rw [Nat.zero_add, Int.toNat_natCast]) | (rw [Nat.zero_add]) | rfl) ?_)) | (refine zbw ?_; first | (refine zbl rfl aD rfl ?_) | (refine zbi rfl aD ?_) | (refine zbj rfl aD ?_) | (refine zbk rfl aD rfl ?_)) | (refine zbs ?_; first | (refine zbx rfl rfl aD ?_) | (refine zb8 rfl rfl aD ?_) | (refine zb7 rfl rfl ?_) | (refine zbh rfl rfl (fun h => ?_) (fun h => ?_) <;> (have h' := h; (try simp only [sx] at h')))) | (refine zbd ?_; first | (refine za9 aA rfl ?_) | (refine zbc aA rfl rfl ?_) | (refine zba aA rfl ?_) | (refine zbb aA (evO_ok rfl) ?_)) | (refine zas (hK _ _ (.inl rfl) ?_); clear hK K) | (refine zas (hK _ _ (.inr (by kernel_rfl)) ?_); clear hK K))
      | (refine za3 ?_; first | (refine zbp ?_) | (refine zaj (fun K hK => ?_)) | (refine zan ?_) | (refine za4 ?_) | (refine zbq ?_) | (refine za1 ?_) | (refine zbg ?_; first | (refine zam rfl aD ?_) | (refine zal rfl aD ?_) | (refine zaz rfl (fun h => ?_) (fun h => ?_) <;> (have h' := h; (try simp only [sx] at h')))))
      | (refine za2 ?_) | (refine zai ?_) | (refine zae ?_) | (refine zaq ?_) | (refine zar ?_) | (refine zao ?_) | (refine zap rfl ?_) | (refine zab ?_) | (refine zag ?_) | (refine zbr ?_))
  refine zcd [0, 1, 2] [] (fun i : Nat => [(7, .int .i64 i)]) (fun i : Nat => []) (fun i : Nat => i ≤ xs.length ∧ (∀ y ∈ xs.take i, lo ≤ y ∧ y ≤ hi) ∧ Up xs i) (fun i : Nat => xs.length - i) (0) rfl rfl (fun _ => rfl) (fun _ => rfl) rfl aW ⟨by omega, fun y hy => by simp at hy, fun j hj => by omega⟩ (fun i hi => ?_)
  obtain ⟨hi1, hi2, hi3⟩ := hi
  rcases Nat.lt_or_ge i xs.length with hlt | hge
  · obtain ⟨a, hga⟩ := get_ex hlt
    have hx := ints_at hga
    by_cases hi0 : 0 < i
    · obtain ⟨b, hgb⟩ := get_ex (show i - 1 < xs.length by omega)
      have hy := ints_at hgb
      have e1 : ((i : Int) - 1).toNat = i - 1 := by omega
      rw [← e1] at hy
      repeat' (first
      | (refine za5 ?_; first | (refine za6 ?_; refine zat _ rfl ?_) | (refine zad ?_; refine zaa _ rfl ?_) | (refine zbv ?_; first | (refine zby rfl rfl aO ?_) | (refine zck rfl rfl aO ?_) | (refine zbu _ rfl rfl rfl ?_) | (refine zaw _ rfl rfl rfl ?_)) | (refine g_un ?_; first | (refine zce rfl ?_) | (refine zcf rfl aO ?_)) | (refine zbf ?_; first | (refine zac aA rfl ?_) | (refine zah _ aA rfl rfl aE rfl ?_) | (refine zaf _ aA rfl aZ aL ?_) | (refine zak _ aA rfl rfl aE aZ aL ?_)) | (refine zbe ?_; first | (refine zau _ aA rfl rfl aO aA ?_) | (refine zav _ aA rfl rfl rfl rfl aO aO (by first | (rw [Nat.zero_add, Int.toNat_natCast]) | (rw [Nat.zero_add]) | rfl) ?_)) | (refine zbw ?_; first | (refine zbl rfl aD rfl ?_) | (refine zbi rfl aD ?_) | (refine zbj rfl aD ?_) | (refine zbk rfl aD rfl ?_)) | (refine zbs ?_; first | (refine zbx rfl rfl aD ?_) | (refine zb8 rfl rfl aD ?_) | (refine zb7 rfl rfl ?_) | (refine zbh rfl rfl (fun h => ?_) (fun h => ?_) <;> (have h' := h; (try simp only [sx] at h')))) | (refine zbd ?_; first | (refine za0 true (k_l1In _ _ _) rfl rfl rfl aS rfl aH ?_; simp only [cl]) | (refine za9 aA rfl ?_) | (refine zbc aA rfl rfl ?_) | (refine zba aA rfl ?_) | (refine zbb aA (evO_ok rfl) ?_)) | (refine zas (hK _ _ (.inl rfl) ?_); clear hK K) | (refine zas (hK _ _ (.inr (by kernel_rfl)) ?_); clear hK K))
      | (refine za3 ?_; first | (refine zbp ?_) | (refine zaj (fun K hK => ?_)) | (refine zan ?_) | (refine za4 ?_) | (refine zbq ?_) | (refine za1 ?_) | (refine zbg ?_; first | (refine zam rfl aD ?_) | (refine zal rfl aD ?_) | (refine zaz rfl (fun h => ?_) (fun h => ?_) <;> (have h' := h; (try simp only [sx] at h')))))
      | (refine za2 ?_) | (refine zai ?_) | (refine zae ?_) | (refine zaq ?_) | (refine zar ?_) | (refine zao ?_) | (refine zap rfl ?_) | (refine zab ?_) | (refine zag ?_) | (refine zbr ?_))
      all_goals first
        | (refine zcb (i + 1) rfl aW ⟨by omega, all_take_succ hga hi2 aO, up_step hi3 hgb hga aO⟩ aO)
        | (refine zb1 rfl (zbn rfl) ?_
           have : ¬ ((∀ y ∈ xs, lo ≤ y ∧ y ≤ hi) ∧ Rising xs) := fun hk => by
             have k1 := hk.1 a (get_mem hga)
             first | omega | exact not_rising hi0 hgb hga aO hk.2
           simp only [this, decide_false])
    · have h1 : i = 0 := by omega
      repeat' (first
      | (refine za5 ?_; first | (refine za6 ?_; refine zat _ rfl ?_) | (refine zad ?_; refine zaa _ rfl ?_) | (refine zbv ?_; first | (refine zby rfl rfl aO ?_) | (refine zck rfl rfl aO ?_) | (refine zbu _ rfl rfl rfl ?_) | (refine zaw _ rfl rfl rfl ?_)) | (refine g_un ?_; first | (refine zce rfl ?_) | (refine zcf rfl aO ?_)) | (refine zbf ?_; first | (refine zac aA rfl ?_) | (refine zah _ aA rfl rfl aE rfl ?_) | (refine zaf _ aA rfl aZ aL ?_) | (refine zak _ aA rfl rfl aE aZ aL ?_)) | (refine zbe ?_; first | (refine zau _ aA rfl rfl aO aA ?_) | (refine zav _ aA rfl rfl rfl rfl aO aO (by first | (rw [Nat.zero_add, Int.toNat_natCast]) | (rw [Nat.zero_add]) | rfl) ?_)) | (refine zbw ?_; first | (refine zbl rfl aD rfl ?_) | (refine zbi rfl aD ?_) | (refine zbj rfl aD ?_) | (refine zbk rfl aD rfl ?_)) | (refine zbs ?_; first | (refine zbx rfl rfl aD ?_) | (refine zb8 rfl rfl aD ?_) | (refine zb7 rfl rfl ?_) | (refine zbh rfl rfl (fun h => ?_) (fun h => ?_) <;> (have h' := h; (try simp only [sx] at h')))) | (refine zbd ?_; first | (refine za0 true (k_l1In _ _ _) rfl rfl rfl aS rfl aH ?_; simp only [cl]) | (refine za9 aA rfl ?_) | (refine zbc aA rfl rfl ?_) | (refine zba aA rfl ?_) | (refine zbb aA (evO_ok rfl) ?_)) | (refine zas (hK _ _ (.inl rfl) ?_); clear hK K) | (refine zas (hK _ _ (.inr (by kernel_rfl)) ?_); clear hK K))
      | (refine za3 ?_; first | (refine zbp ?_) | (refine zaj (fun K hK => ?_)) | (refine zan ?_) | (refine za4 ?_) | (refine zbq ?_) | (refine za1 ?_) | (refine zbg ?_; first | (refine zam rfl aD ?_) | (refine zal rfl aD ?_) | (refine zaz rfl (fun h => ?_) (fun h => ?_) <;> (have h' := h; (try simp only [sx] at h')))))
      | (refine za2 ?_) | (refine zai ?_) | (refine zae ?_) | (refine zaq ?_) | (refine zar ?_) | (refine zao ?_) | (refine zap rfl ?_) | (refine zab ?_) | (refine zag ?_) | (refine zbr ?_))
      all_goals first
        | (refine zcb (i + 1) rfl aW ⟨by omega, all_take_succ hga hi2 aO, fun j hj => by omega⟩ aO)
        | (refine zb1 rfl (zbn rfl) ?_
           have : ¬ ((∀ y ∈ xs, lo ≤ y ∧ y ≤ hi) ∧ Rising xs) := fun hk => by
             have k1 := hk.1 a (get_mem hga)
             omega
           simp only [this, decide_false])
  · repeat' (first
      | (refine za5 ?_; first | (refine za6 ?_; refine zat _ rfl ?_) | (refine zad ?_; refine zaa _ rfl ?_) | (refine zbv ?_; first | (refine zby rfl rfl aO ?_) | (refine zck rfl rfl aO ?_) | (refine zbu _ rfl rfl rfl ?_) | (refine zaw _ rfl rfl rfl ?_)) | (refine g_un ?_; first | (refine zce rfl ?_) | (refine zcf rfl aO ?_)) | (refine zbf ?_; first | (refine zac aA rfl ?_) | (refine zah _ aA rfl rfl aE rfl ?_) | (refine zaf _ aA rfl aZ aL ?_) | (refine zak _ aA rfl rfl aE aZ aL ?_)) | (refine zbe ?_; first | (refine zau _ aA rfl rfl aO aA ?_) | (refine zav _ aA rfl rfl rfl rfl aO aO (by first | (rw [Nat.zero_add, Int.toNat_natCast]) | (rw [Nat.zero_add]) | rfl) ?_)) | (refine zbw ?_; first | (refine zbl rfl aD rfl ?_) | (refine zbi rfl aD ?_) | (refine zbj rfl aD ?_) | (refine zbk rfl aD rfl ?_)) | (refine zbs ?_; first | (refine zbx rfl rfl aD ?_) | (refine zb8 rfl rfl aD ?_) | (refine zb7 rfl rfl ?_) | (refine zbh rfl rfl (fun h => ?_) (fun h => ?_) <;> (have h' := h; (try simp only [sx] at h')))) | (refine zbd ?_; first | (refine za9 aA rfl ?_) | (refine zbc aA rfl rfl ?_) | (refine zba aA rfl ?_) | (refine zbb aA (evO_ok rfl) ?_)) | (refine zas (hK _ _ (.inl rfl) ?_); clear hK K) | (refine zas (hK _ _ (.inr (by kernel_rfl)) ?_); clear hK K))
      | (refine za3 ?_; first | (refine zbp ?_) | (refine zaj (fun K hK => ?_)) | (refine zan ?_) | (refine za4 ?_) | (refine zbq ?_) | (refine za1 ?_) | (refine zbg ?_; first | (refine zam rfl aD ?_) | (refine zal rfl aD ?_) | (refine zaz rfl (fun h => ?_) (fun h => ?_) <;> (have h' := h; (try simp only [sx] at h')))))
      | (refine za2 ?_) | (refine zai ?_) | (refine zae ?_) | (refine zaq ?_) | (refine zar ?_) | (refine zao ?_) | (refine zap rfl ?_) | (refine zab ?_) | (refine zag ?_) | (refine zbr ?_))
    refine zb1 rfl (zbn rfl) ?_
    rw [take_all hge] at hi2
    have : (∀ y ∈ xs, lo ≤ y ∧ y ≤ hi) ∧ Rising xs := ⟨hi2, fun j hj => hi3 j aO⟩
    simp only [decide_eq_true this]
theorem gcd_step (a b : Int) : Int.gcd b (a.tmod b) = Int.gcd a b := by
  simp only [Int.gcd, Int.natAbs_tmod]
  rw [Nat.gcd_comm b.natAbs, ← Nat.gcd_rec, Nat.gcd_comm]
theorem gcd_emod {a b : Int} (ha : 0 ≤ a) (hb : 0 < b) : Int.gcd b (a % b) = Int.gcd a b := by
  have h := gcd_step a b
  rwa [Int.tmod_eq_emod_of_nonneg ha] at h
theorem k_gcd (a b : Int) (ha : -1000000000000000 ≤ a ∧ a ≤ 1000000000000000) (hb : -1000000000000000 ≤ b ∧ b ≤ 1000000000000000) : Con Try.prog 141 [.int .i64 a, .int .i64 b] (.int .i64 (Int.gcd a b)) := by
  intro al
  refine za8 hmix Try.func141 rfl (by kernel_rfl) (by kernel_rfl) (Nat.le_of_ble_eq_true rfl) (fun row h => by cases h) ?_
  repeat' (first
      | (refine za5 ?_; first | (refine za6 ?_; refine zat _ rfl ?_) | (refine zad ?_; refine zaa _ rfl ?_) | (refine zbv ?_; first | (refine zcp rfl rfl aO ?_) | (refine zcm rfl rfl aO ?_) | (refine zbu _ rfl rfl rfl ?_) | (refine zb6 aA rfl rfl ?_) | (refine zaw _ rfl rfl rfl ?_)) | (refine g_un ?_; first | (refine zce rfl ?_) | (refine zcf rfl aO ?_)) | (refine zbd ?_; refine x_max rfl rfl ?_) | (refine zas (hK _ _ (.inl rfl) ?_); clear hK K) | (refine zas (hK _ _ (.inr (by kernel_rfl)) ?_); clear hK K))
      | (refine za3 ?_; first | (refine zbp ?_) | (refine zaj (fun K hK => ?_)) | (refine zan ?_) | (refine za4 ?_) | (refine zbq ?_) | (refine za1 ?_) | (refine zbg ?_; first | (refine zam rfl aD ?_) | (refine zal rfl aD ?_) | (refine zaz rfl (fun h => ?_) (fun h => ?_) <;> (have h' := h; (try simp only [sx] at h')))))
      | (refine za2 ?_) | (refine zai ?_) | (refine zae ?_) | (refine zaq ?_) | (refine zar ?_) | (refine zao ?_) | (refine zap rfl ?_) | (refine zab ?_) | (refine zag ?_) | (refine zbr ?_))
  refine zcd [] [] (fun q : Int × Int => [(0, .int .i64 q.1), (1, .int .i64 q.2)]) (fun q : Int × Int => []) (fun q : Int × Int => Int.gcd q.1 q.2 = Int.gcd a b ∧ (-1000000000000000 ≤ q.1 ∧ q.1 ≤ 1000000000000000) ∧ (-1000000000000000 ≤ q.2 ∧ q.2 ≤ 1000000000000000)) (fun q : Int × Int => q.2.natAbs) ((a, b)) rfl rfl (fun _ => rfl) (fun _ => rfl) rfl aW ⟨rfl, ha, hb⟩ (fun q hq => ?_)
  obtain ⟨x, y⟩ := q
  obtain ⟨h1, h2, h3⟩ := hq
  simp only at h1 h2 h3
  dsimp only
  by_cases hy : y = 0
  · subst hy
    repeat' (first
      | (refine za5 ?_; first | (refine za6 ?_; refine zat _ rfl ?_) | (refine zad ?_; refine zaa _ rfl ?_) | (refine zbv ?_; first | (refine zcp rfl rfl aO ?_) | (refine zcm rfl rfl aO ?_) | (refine zbu _ rfl rfl rfl ?_) | (refine zb6 aA rfl rfl ?_) | (refine zaw _ rfl rfl rfl ?_)) | (refine g_un ?_; first | (refine zce rfl ?_) | (refine zcf rfl aO ?_)) | (refine zbd ?_; refine x_max rfl rfl ?_) | (refine zas (hK _ _ (.inl rfl) ?_); clear hK K) | (refine zas (hK _ _ (.inr (by kernel_rfl)) ?_); clear hK K))
      | (refine za3 ?_; first | (refine zbp ?_) | (refine zaj (fun K hK => ?_)) | (refine zan ?_) | (refine za4 ?_) | (refine zbq ?_) | (refine za1 ?_) | (refine zbg ?_; first | (refine zam rfl aD ?_) | (refine zal rfl aD ?_) | (refine zaz rfl (fun h => ?_) (fun h => ?_) <;> (have h' := h; (try simp only [sx] at h')))))
      | (refine za2 ?_) | (refine zai ?_) | (refine zae ?_) | (refine zaq ?_) | (refine zar ?_) | (refine zao ?_) | (refine zap rfl ?_) | (refine zab ?_) | (refine zag ?_) | (refine zbr ?_))
    exact zcj rfl (zbn rfl) (by rw [← h1]; simp only [Int.gcd, Int.natAbs_zero, Nat.gcd_zero_right]; omega)
  · have hm := Int.natAbs_tmod x y
    have hlt : x.natAbs % y.natAbs < y.natAbs := Nat.mod_lt _ aO
    have hle : x.natAbs % y.natAbs ≤ x.natAbs := Nat.mod_le _ _
    have hne : decide (y = 0) = false := by simp [hy]
    repeat' (first
      | (refine za5 ?_; first | (refine za6 ?_; refine zat _ rfl ?_) | (refine zad ?_; refine zaa _ rfl ?_) | (refine zbv ?_; first | (refine zcp rfl rfl aO ?_) | (refine zcm rfl rfl aO ?_) | (refine zbu _ rfl rfl rfl ?_) | (refine zb6 aA rfl rfl ?_) | (refine zaw _ rfl rfl rfl ?_)) | (refine g_un ?_; first | (refine zce rfl ?_) | (refine zcf rfl aO ?_)) | (refine zbd ?_; refine x_max rfl rfl ?_) | (refine zas (hK _ _ (.inl rfl) ?_); clear hK K) | (refine zas (hK _ _ (.inr (by kernel_rfl)) ?_); clear hK K))
      | (refine za3 ?_; first | (refine zbp ?_) | (refine zaj (fun K hK => ?_)) | (refine zan ?_) | (refine za4 ?_) | (refine zbq ?_) | (refine za1 ?_) | (refine zbg ?_; first | (refine zam rfl aD ?_) | (refine zal rfl aD ?_) | (refine zaz rfl (fun h => ?_) (fun h => ?_) <;> (have h' := h; (try simp only [sx] at h')))))
      | (refine za2 ?_) | (refine zai ?_) | (refine zae ?_) | (refine zaq ?_) | (refine zar ?_) | (refine zao ?_) | (refine zap rfl ?_) | (refine zab ?_) | (refine zag ?_) | (refine zbr ?_))
    all_goals first
      | (refine zcb (y, x.tmod y) rfl aW ⟨by simp only; rw [gcd_step]; exact h1, by simp only; omega, by simp only; omega⟩ (by simp only; omega))
      | skip
theorem gcd_pos {a b : Int} (hb : 1 ≤ b) : 1 ≤ (Int.gcd a b : Int) := by
  have : Int.gcd a b ≠ 0 := fun h => by
    have := (Int.gcd_eq_zero_iff.1 h).2
    omega
  omega
theorem k_fraction (a b : Int) (ha : 0 ≤ a ∧ a ≤ 1000000000000000) (hb : 1 ≤ b ∧ b ≤ 1000000000000000) : Con Try.prog 107 [.int .i64 a, .int .i64 b] (.tuple [.int .i64 (a / Int.gcd a b), .int .i64 (b / Int.gcd a b)]) := by
  intro al
  refine za8 hmix Try.func107 rfl (by kernel_rfl) (by kernel_rfl) (Nat.le_of_ble_eq_true rfl) (fun row h => by cases h) ?_
  have hp := gcd_pos (a := a) hb.1
  repeat' (first
      | (refine za5 ?_; first | (refine za6 ?_; refine zat _ rfl ?_) | (refine zad ?_; refine zaa _ rfl ?_) | (refine zbv ?_; first | (refine x_quo rfl rfl aO ?_) | (refine zco rfl rfl aO ?_) | (refine zbu _ rfl rfl rfl ?_)) | (refine zbd ?_; refine za0 true (k_gcd a b aO aO) rfl rfl rfl aS rfl aH ?_; simp only [cl]) | (refine zas (hK _ _ (.inl rfl) ?_); clear hK K) | (refine zas (hK _ _ (.inr (by kernel_rfl)) ?_); clear hK K))
      | (refine za3 ?_; first | (refine zbp ?_) | (refine zaj (fun K hK => ?_)) | (refine zan ?_) | (refine za4 ?_) | (refine zbq ?_) | (refine za1 ?_))
      | (refine za2 ?_) | (refine zai ?_) | (refine zae ?_) | (refine zaq ?_) | (refine zar ?_) | (refine zao ?_) | (refine zap rfl ?_) | (refine zab ?_) | (refine zag ?_) | (refine zbr ?_))
  (first | refine ret_T rfl rfl rfl (by first | exact trivial | (repeat' (first | exact trivial | refine ⟨by assumption, ?_⟩))) (by repeat' (first | exact trivial | refine ⟨by simp, ?_⟩)) ?_ | refine ret_A rfl rfl rfl (by first | exact trivial | (repeat' (first | exact trivial | refine ⟨by assumption, ?_⟩))) (by repeat' (first | exact trivial | refine ⟨by simp, ?_⟩)) ?_); (repeat' (first | exact et_end | exact el_end | refine et_int rfl ?_ ?_ | refine et_bool ?_ ?_ | refine et_str ?_ ?_ | refine et_list (by rfl) (by decide) rfl rfl ?_ ?_ ?_ ?_ | refine et_nil ?_ ?_ | refine et_agg ?_ ?_ | refine el_int rfl ?_ ?_ | refine el_bool ?_ ?_ | refine el_str ?_ ?_ | refine el_list (by rfl) (by decide) rfl rfl ?_ ?_ ?_ ?_ | refine el_nil ?_ ?_))
  · rfl
  · rfl
end Go.Vs
set_option linter.unusedVariables false
set_option linter.unusedSimpArgs false
namespace Go.Vs
section
variable {P : Program} {G : Nat → Prop} {ρ : Id → Option (Nat × Nat)} {w0 w : World} {X : List (Option (Nat × Nat))} {M N : Mem} {v : Value}
theorem frzL_repN {t : Nat} {xs : List PV} {k : Nat} (hW : WRel G ρ w0 X M w) (hM : ∀ p ∈ (thawL t k xs).2.2, M p.1 = some p.2) (ht : t ≠ io) (hc : xs.all clean1 = true)
    (hsub : ∀ b, Stab G ρ M w b → Stab G ρ N w b) (hoff : ∀ id r, N id = some (some r) → M id = some (some r) ∧ id.1 ≠ t) {cs : Array Value} (h : Comps ρ w (Stab G ρ M w) M cs (thawL t k xs).2.1) : Comps ρ w (Stab G ρ N w) noMem cs (xs.map frz1) := by
  obtain ⟨hl, hat⟩ := thawL_at t xs k
  refine ⟨by rw [h.1, hl, List.length_map], fun j u hu => ?_⟩
  rw [List.getElem?_map] at hu
  cases hx : xs[j]? with
  | none => rw [hx] at hu; cases hu
  | some x =>
    rw [hx] at hu
    injection hu with hu
    subst hu
    obtain ⟨y, h1, h2⟩ := hat j x hx
    obtain ⟨c, h3, h4⟩ := h.2 j y h1
    refine ⟨c, h3, ?_⟩
    rcases h2 with ⟨ty, sz, es, k', rfl, rfl, hm⟩ | ⟨rfl, he⟩
    · exact osl_given hW (hM _ hm) ht hsub (fun id r h => ⟨(hoff id r h).1, fun e => (hoff id r h).2 (by rw [e])⟩) h4
    · rw [he]
      exact rep_clean1 hsub (List.all_eq_true.1 hc _ (List.mem_of_getElem? hx)) he h4
theorem frz2_repN {t : Nat} {x : PV} {k : Nat} (hW : WRel G ρ w0 X M w) (hM : ∀ p ∈ (thaw1 t k x).2.2, M p.1 = some p.2) (ht : t ≠ io) (hc : clean2 x = true)
    (hsub : ∀ b, Stab G ρ M w b → Stab G ρ N w b) (hoff : ∀ id r, N id = some (some r) → M id = some (some r) ∧ id.1 ≠ t) (h : Rep ρ w (Stab G ρ M w) M v (thaw1 t k x).2.1) : Rep ρ w (Stab G ρ N w) noMem v (frz2 x) := by
  cases x with
  | agg cs =>
    simp only [thaw1] at h hM
    obtain ⟨a, rfl, hcs⟩ := rep_agg.1 h
    exact rep_agg.2 ⟨a, rfl, frzL_repN hW hM ht hc hsub hoff hcs⟩
  | olist ty sz es => exact osl_given hW (hM ((t, k), some ⟨ty, sz, es, false⟩) (by simp [thaw1])) ht hsub (fun id r h => ⟨(hoff id r h).1, fun e => (hoff id r h).2 (by rw [e])⟩) h
  | any => exact rep_any
  | int _ _ => exact rep_clean1 hsub rfl rfl h
  | bool _ => exact rep_clean1 hsub rfl rfl h
  | str _ => exact rep_clean1 hsub rfl rfl h
  | nil => exact rep_clean1 hsub rfl rfl h
  | list _ _ => exact rep_clean1 hsub rfl rfl h
  | ptr _ => exact rep_clean1 hsub rfl rfl h
  | own _ _ _ => cases hc
  | clist _ _ => cases hc
  | osl _ _ _ => cases hc
  | tuple _ => cases hc
  | fn _ _ _ => cases hc
theorem ConL.frz {g : FuncId} {ys : List PV} {ios : List Row} {r : PV} {fin : List (List (List PV))} (h : ContractP P g true ys ios fun r' fin' => r' = r ∧ fin' = fin) (hc : clean r = true) (hbx : ∀ row ∈ ios, row.bx = false) :
    ContractP P g true ys ios fun r' fin' => r' = Go.Vs.frz r ∧ fin' = fin := by
  refine ⟨h.1, fun G w X ρ cargs hW hX hC => ?_⟩
  obtain ⟨cb, h2⟩ := h
  refine (h2 G w X ρ cargs hW hX hC).mono fun e w' => ?_
  rintro ⟨v, r', fin', rfl, ⟨rfl, rfl⟩, hl, hf, hR⟩
  refine ⟨v, Go.Vs.frz r', fin', rfl, ⟨rfl, rfl⟩, hl, hf, fun t ht => ?_⟩
  obtain ⟨ρ', hR⟩ := hR t ht
  refine ⟨ρ', ?_⟩
  have hrel := hR.rel
  have hval := hR.val
  have hN : ∀ id r, ioMem (withEs ios fin') id = some (some r) → ((ioMem (withEs ios fin')).upds (thaw t r').2) id = some (some r) ∧ id.1 ≠ t := by
    intro id r h
    have hio : id.1 = io := by
      simp only [ioMem] at h
      split at h
      · assumption
      · cases h
    have hne : id.1 ≠ t := by rw [hio]; exact fun e => ht e.symm
    exact ⟨by rw [upds_other _ _ id fun p hp e => hne (by rw [← e]; exact thaw_fst t r' p hp)]; exact h, hne⟩
  have hsub : ∀ b, Stab G ρ' ((ioMem (withEs ios fin')).upds (thaw t r').2) w' b → Stab G ρ' (ioMem (withEs ios fin')) w' b := fun b hb => ⟨hb.1, fun id r z h => hb.2.1 id r z (hN id r h).1, hb.2.2⟩
  have hkeys : ∀ p ∈ (thaw t r').2, noMem.upds (thaw t r').2 p.1 = some p.2 := fun p hp => by
    refine looks_upds _ ?_ p hp
    cases r' with
    | tuple vs => exact (thawT_keys t vs 0).2.2
    | _ => exact (thaw1_keys t 0 _).2.2
  have hat : ∀ p ∈ (thaw t r').2, ((ioMem (withEs ios fin')).upds (thaw t r').2) p.1 = some p.2 := fun p hp => by
    rcases upds_or (ioMem (withEs ios fin')) (thaw t r').2 p.1 with ⟨h1, _⟩ | ⟨_, h2⟩
    · rw [h1]; exact hkeys p hp
    · rw [hkeys p hp] at h2; cases h2
  have hmle : MLe ρ' w' (noMem.upds (thaw t r').2) ρ' w' ((ioMem (withEs ios fin')).upds (thaw t r').2) := fun id => by
    cases hMi : noMem.upds (thaw t r').2 id with
    | none => trivial
    | some o =>
      have e := hat (id, o) (upds_find hMi)
      cases o with
      | none => exact e
      | some row => exact .inr ⟨row, e, rfl, rfl, Nat.le_refl _, rfl, fun b z hb cur hcur => ⟨cur, hcur, rfl⟩⟩
  have hv : Rep ρ' w' (Stab G ρ' ((ioMem (withEs ios fin')).upds (thaw t r').2) w') ((ioMem (withEs ios fin')).upds (thaw t r').2) v (thaw t r').1 := hval.mono (fun b hb => ⟨hb.1, rfl⟩) hmle
  have key : Rep ρ' w' (Stab G ρ' (ioMem (withEs ios fin')) w') noMem v (Go.Vs.frz r') := by
    have one : ∀ x : PV, (∀ p ∈ (thaw1 t 0 x).2.2, ((ioMem (withEs ios fin')).upds (thaw t r').2) p.1 = some p.2) → clean2 x = true → Rep ρ' w' (Stab G ρ' ((ioMem (withEs ios fin')).upds (thaw t r').2) w') ((ioMem (withEs ios fin')).upds (thaw t r').2) v (thaw1 t 0 x).2.1 → Rep ρ' w' (Stab G ρ' (ioMem (withEs ios fin')) w') noMem v (frz2 x) :=
      fun x h1 h2 h3 => frz2_repN hrel h1 ht h2 hsub hN h3
    cases r' with
    | tuple vs =>
      simp only [thaw] at hv hrel hsub hN hat
      obtain ⟨a, rfl, hcs⟩ := rep_tuple.1 hv
      obtain ⟨k1, k2⟩ := thawT_at t vs 0
      refine rep_tuple.2 ⟨a, rfl, by rw [hcs.1, k1, List.length_map], fun j u hu => ?_⟩
      rw [List.getElem?_map] at hu
      cases hx : vs[j]? with
      | none => rw [hx] at hu; cases hu
      | some x =>
        rw [hx] at hu
        injection hu with hu
        subst hu
        obtain ⟨k', g1, g2⟩ := k2 j x hx
        obtain ⟨c, m1, m2⟩ := hcs.2 j _ g1
        exact ⟨c, m1, frz2_repN hrel (fun p hp => hat p (g2 p hp)) ht (List.all_eq_true.1 hc _ (List.mem_of_getElem? hx)) hsub hN m2⟩
    | agg cs => exact one (.agg cs) hat hc hv
    | olist ty sz es => exact one (.olist ty sz es) hat hc hv
    | any => exact rep_any
    | int _ _ => exact rep_clean1 hsub rfl rfl hv
    | bool _ => exact rep_clean1 hsub rfl rfl hv
    | str _ => exact rep_clean1 hsub rfl rfl hv
    | nil => exact rep_clean1 hsub rfl rfl hv
    | list _ _ => exact rep_clean1 hsub rfl rfl hv
    | ptr _ => exact rep_clean1 hsub rfl rfl hv
    | own _ _ _ => cases hc
    | clist _ _ => cases hc
    | osl _ _ _ => cases hc
    | fn _ _ _ => cases hc
  have hbx' : ∀ id r, ioMem (withEs ios fin') id = some (some r) → r.bx = false := by
    intro id r h
    simp only [ioMem] at h
    split at h
    · rw [withEs_at ios fin' _ hl] at h
      cases hk : ios[id.2]? with
      | none => rw [hk] at h; simp at h
      | some row0 =>
        cases hk2 : fin'[id.2]? with
        | none => rw [hk, hk2] at h; simp at h
        | some es =>
          rw [hk, hk2] at h
          simp at h
          rw [← h]
          exact hbx row0 (List.mem_of_getElem? hk)
    · cases h
  have hnew : WRel G ρ' w X (ioMem (withEs ios fin')) w' := by
    refine ⟨fun id id' r r' b z z' h1 h2 => hrel.inj id id' r r' b z z' (hN id r h1).1 (hN id' r' h2).1, fun id r h => ?_, fun id r h => hrel.new id r (hN id r h).1, hrel.keep, hrel.good⟩
    have hr := hrel.row id r (hN id r h).1
    have hb := hbx' id r h
    cases hρ : ρ' id with
    | none => rw [hρ] at hr; exact hr
    | some bz =>
      obtain ⟨b, z⟩ := bz
      rw [hρ] at hr
      obtain ⟨cur, C, g1, g2, g3, g4, g5, g6⟩ := hr
      refine ⟨cur, C, g1, g2, g3, g4, g5, fun i e hi => ⟨(g6 i e hi).1, fun j u hu => ?_⟩⟩
      obtain ⟨c, k1, k2, k3⟩ := (g6 i e hi).2 j u hu
      rw [hb] at k3 ⊢
      exact ⟨c, k1, k2, k3.pureMono fun b hb => ⟨hsub b hb, rfl⟩⟩
  refine ⟨?_, ?_, ?_⟩
  · rw [thaw_frz]; exact hnew
  · intro id row b z h1
    rw [thaw_frz] at h1
    cases h1
  · rw [thaw_frz]
    exact key.mono (fun b hb => ⟨⟨hb, fun h => by cases h⟩, rfl⟩) (MLe.refl _ _ _)
end
section
variable {P : Program} {st : St} {al : Bool} {xs ys : List PV} {u u1 : List (Option Id)}
theorem et_lst {sz sz' : Nat} {es es' : List (List PV)} (ha : al = true) (hz : sz = sz') (h : es = es') (ht : ExpT al st xs ys u) : ExpT al st (.list sz es :: xs) (.list sz' es' :: ys) u := ⟨[], u, ⟨ha, hz, h, rfl⟩, ht, rfl⟩
theorem el_lst {sz sz' : Nat} {es es' : List (List PV)} (ha : al = true) (hz : sz = sz') (h : es = es') (ht : ExpL al st xs ys u) : ExpL al st (.list sz es :: xs) (.list sz' es' :: ys) u := ⟨[], u, ⟨ha, hz, h, rfl⟩, ht, rfl⟩
theorem et_listA {id : Id} {T T' sz sz' n : Nat} {es es' : List (List PV)} (ha : al = true) (hm : getM st.mem id = some (some ⟨T, sz, es, false⟩)) (hio : id.1 ≠ io) (hT : T = T') (hz : sz = sz') (hn : n = es.length) (hes : es = es')
    (ht : ExpT al st xs ys u) : ExpT al st (.osl id 0 n :: xs) (.olist T' sz' es' :: ys) (some id :: u) := by
  subst hT hz hes hn
  exact ⟨[some id], u, ⟨rfl, hio, rfl, .inl ha, hm, rfl⟩, ht, rfl⟩
theorem el_listA {id : Id} {T T' sz sz' n : Nat} {es es' : List (List PV)} (ha : al = true) (hm : getM st.mem id = some (some ⟨T, sz, es, false⟩)) (hio : id.1 ≠ io) (hT : T = T') (hz : sz = sz') (hn : n = es.length) (hes : es = es')
    (ht : ExpL al st xs ys u) : ExpL al st (.osl id 0 n :: xs) (.olist T' sz' es' :: ys) (some id :: u) := by
  subst hT hz hes hn
  exact ⟨[some id], u, ⟨rfl, hio, rfl, .inl ha, hm, rfl⟩, ht, rfl⟩
variable {rows : List Row} {fin : List (List (List PV))} {e : Exit}
theorem ret_TL {fn : Func} {x y : PV} {rs : List ResultVar} (hrs : fn.results.toList = rs) (hr : resO st rs = some (x :: y :: xs)) (hu : uT (x :: y :: xs) = some u) (hc : cellsT P rs (x :: y :: xs)) (ha : apartIds u) (hf : finsL st.mem 0 rows fin) (he : ExpT al st (x :: y :: xs) ys u) :
    RetPost P fn al rows (fun r' fin' => r' = .tuple ys ∧ fin' = fin) .ret st := ret_ofL (.inl rfl) (x :: y :: xs) u (by rw [hrs]; exact resO_ok hr hc) he ha hf
theorem ret_AL {fn : Func} {cs ds : List PV} {rs : List ResultVar} (hrs : fn.results.toList = rs) (hr : resO st rs = some [.agg cs]) (hu : uO cs = some u) (hc : cellsT P rs [.agg cs]) (ha : apartIds u) (hf : finsL st.mem 0 rows fin) (he : ExpL al st cs ds u) :
    RetPost P fn al rows (fun r' fin' => r' = .agg ds ∧ fin' = fin) .ret st := ret_ofL (.inl rfl) [.agg cs] u (by rw [hrs]; exact resO_ok hr hc) he ha hf
theorem ret_lL {fn : Func} {t T T' sz sz' n : Nat} {id : Id} {es es' : List (List PV)} (hr : fn.results = #[.tmp t]) (hv : lookE st.env t = some (.osl id 0 n)) (hm : getM st.mem id = some (some ⟨T, sz, es, false⟩)) (hio : id.1 ≠ io) (hf : finsL st.mem 0 rows fin) (hT : T = T') (hz : sz = sz') (hn : n = es.length) (hes : es = es') :
    RetPost P fn true rows (fun r' fin' => r' = .olist T' sz' es' ∧ fin' = fin) .ret st := by
  subst hT hz hes hn
  exact ret_ofL (.inl rfl) [.osl id 0 es.length] [some id] (by rw [hr]; exact ⟨zbn hv, trivial⟩) ⟨rfl, hio, rfl, .inl rfl, hm, rfl⟩ ⟨by simp, trivial⟩ hf
theorem ret_iL {fn : Func} {t : Nat} {k : IntKind} {n n' : Int} (hr : fn.results = #[.tmp t]) (hv : lookE st.env t = some (.int k n)) (hf : finsL st.mem 0 rows fin) (hn : n = n') : RetPost P fn al rows (fun r' fin' => r' = .int k n' ∧ fin' = fin) .ret st := by
  subst hn
  exact ret_ofL (.inl rfl) [.int k n] [] (by rw [hr]; exact ⟨zbn hv, trivial⟩) ⟨rfl, rfl, rfl⟩ trivial hf
theorem ret_bL {fn : Func} {t : Nat} {n n' : Bool} (hr : fn.results = #[.tmp t]) (hv : lookE st.env t = some (.bool n)) (hf : finsL st.mem 0 rows fin) (hn : n = n') : RetPost P fn al rows (fun r' fin' => r' = .bool n' ∧ fin' = fin) .ret st := by
  subst hn
  exact ret_ofL (.inl rfl) [.bool n] [] (by rw [hr]; exact ⟨zbn hv, trivial⟩) ⟨rfl, rfl⟩ trivial hf
end
theorem seq_ex {S : Type} {Q : Nat → S → Prop} {R : Nat → S → S → Prop} (s0 : S) (h0 : Q 0 s0) (h : ∀ i s, Q i s → ∃ s', R i s s' ∧ Q (i + 1) s') : ∃ f : Nat → S, f 0 = s0 ∧ ∀ i, Q i (f i) ∧ R i (f i) (f (i + 1)) := by
  classical
  let g : (i : Nat) → {s : S // Q i s} := fun i => Nat.rec ⟨s0, h0⟩ (fun i s => ⟨Classical.choose (h i s.1 s.2), (Classical.choose_spec (h i s.1 s.2)).2⟩) i
  refine ⟨fun i => (g i).1, rfl, fun i => ⟨(g i).2, ?_⟩⟩
  exact (Classical.choose_spec (h i (g i).1 (g i).2)).1
section
variable {P : Program}
end
end Go.Vs
set_option linter.unusedVariables false
set_option linter.unusedSimpArgs false
namespace Go.Vs
section
variable {P : Program} {ops : Array Oper} {rest : List Oper} {env : List (Nat × PV)} {mem : List (Id × Option Row)} {tr : List (List Id × List Id)} {K : St → List (List Id × List Id) → Prop}
  {d : Nat} {ty : TypeId} {pos : String} {af : Array Edge}
theorem x_callLP {f : Operand} {args : List Operand} {ats : Array TypeId} {g : FuncId} {fi ca xs ys : List PV} {Post : PV → List (List (List PV)) → Prop} (ids : List Id) {rd : List Id} {ios : List Row}
    (hC : ContractP P g true ys ios Post) (hf : ev (getE env) f = .fn g fi ca)
    (hxs : fi ++ args.map (ev (getE env)) ++ ca = xs) (hlend : lendR mem ids ids ios) (hrd : rdL (rdO true 6 mem) xs ys [] = some rd)
    (hnd : (nodupB ids && nodupB rd && rd.all (fun id => !(hasId ids id) && !Nat.beq id.1 io && (match getM mem id with | some (some _) => true | _ => false))) = true)
    (hsnap : AllR (SnapD 6 (getM mem) ids rd) xs ys) (hfree : freeB mem d = true)
    (hk : ∀ r fin, Post r fin → ∃ v up mem', thaw d r = (v, up) ∧ rowsNewL mem ids ios fin = some mem' ∧
      exec P ops false rest ⟨(d, v) :: env, (up ++ (mem' ++ (rd.map fun id : Id => (id, (none : Option Row))))) ++ mem⟩ (([], []) :: tr) K) :
    exec P ops false (⟨some d, .call ⟨.value f, args.toArray, ats⟩, ty, pos, af, none⟩ :: rest) ⟨env, mem⟩ tr K := by
  obtain ⟨hl, hr⟩ := lendR_ok hlend
  simp only [Bool.and_eq_true] at hnd
  obtain ⟨⟨hn1, hn2⟩, hn3⟩ := hnd
  have hn3 := List.all_eq_true.1 hn3
  obtain ⟨h1, h2⟩ := freeB_ok hfree
  subst hxs
  refine .inr ⟨by simp [wantedPV], .inr ⟨d, true, true, ids, rd, ios, Post, ⟨⟨.value f, args.toArray, ats⟩, f, g, fi, ca, ys, rfl, rfl, hf, fun t ht => by injection ht with ht; exact ht.symm, hC,
    ⟨h1, h2, by simpa using hsnap, hl, nodupB_ok hn1, hr, fun id hid hm => ?_, .inl ⟨rfl, fun id hid => ?_, nodupB_ok hn2⟩⟩⟩, .inl ⟨rfl, fun r fin hp _ => ?_⟩⟩⟩
  · have := hn3 id hid
    simp only [Bool.and_eq_true, Bool.not_eq_true'] at this
    rw [hasId_iff.2 hm] at this
    exact absurd this.1.1 (by simp)
  · have := hn3 id hid
    simp only [Bool.and_eq_true, Bool.not_eq_true'] at this
    refine ⟨fun e => by have h2 := this.1.2; rw [e] at h2; simp at h2, ?_⟩
    have h2 := this.2
    split at h2
    · exact ⟨_, by assumption⟩
    · cases h2
  · obtain ⟨v, up, mem', hth, hnew, hk⟩ := hk r fin hp
    have hups : callUps (St.M ⟨env, mem⟩) d ids rd true r (backF (St.M ⟨env, mem⟩) ids ios fin) = up ++ (mem' ++ rd.map fun id => (id, none)) := by
      show callUps (getM mem) d ids rd true r (backF (getM mem) ids ios fin) = _
      simp only [callUps, hth, frzUps, rowsNewL_ok hnew]
      simp
    rw [hups, show (thaw d r).1 = v by rw [hth]]
    exact hk
end
theorem RetPost.mono {P : Program} {fn : Func} {al : Bool} {ios : List Row} {Post Post' : PV → List (List (List PV)) → Prop} {e : Exit} {st : St} (hp : ∀ r fin, Post r fin → Post' r fin) (h : RetPost P fn al ios Post e st) : RetPost P fn al ios Post' e st := by
  obtain ⟨h0, xs, r, u, fin, h1, h2, h3, h4, h5⟩ := h
  exact ⟨h0, xs, r, u, fin, h1, h2, h3, hp _ _ h4, h5⟩
theorem ContractP.mono {P : Program} {g : FuncId} {al : Bool} {ys : List PV} {ios : List Row} {Post Post' : PV → List (List (List PV)) → Prop} (hp : ∀ r fin, Post r fin → Post' r fin) (h : ContractP P g al ys ios Post) : ContractP P g al ys ios Post' := by
  refine ⟨h.1, fun G w X ρ cargs hW hX hC => (h.2 G w X ρ cargs hW hX hC).mono fun e w' => ?_⟩
  rintro ⟨v, r', fin', rfl, hP, hl, hf, hR⟩
  exact ⟨v, r', fin', rfl, hp _ _ hP, hl, hf, hR⟩
section
variable {P : Program} {G : Nat → Prop} {ρ : Id → Option (Nat × Nat)} {w0 w : World} {X : List (Option (Nat × Nat))} {M N : Mem} {v : Value}
theorem ConL.frzP {g : FuncId} {ys : List PV} {ios : List Row} {Post : PV → List (List (List PV)) → Prop} (h : ContractP P g true ys ios Post) (hcl : ∀ r fin, Post r fin → clean r = true) (hbx : ∀ row ∈ ios, row.bx = false) :
    ContractP P g true ys ios fun r' fin' => ∃ r, r' = Go.Vs.frz r ∧ Post r fin' := by
  refine ⟨h.1, fun G w X ρ cargs hW hX hC => ?_⟩
  obtain ⟨cb, h2⟩ := h
  refine (h2 G w X ρ cargs hW hX hC).mono fun e w' => ?_
  rintro ⟨v, r', fin', rfl, hP0, hl, hf, hR⟩
  have hc := hcl _ _ hP0
  refine ⟨v, Go.Vs.frz r', fin', rfl, ⟨r', rfl, hP0⟩, hl, hf, fun t ht => ?_⟩
  obtain ⟨ρ', hR⟩ := hR t ht
  refine ⟨ρ', ?_⟩
  have hrel := hR.rel
  have hval := hR.val
  have hN : ∀ id r, ioMem (withEs ios fin') id = some (some r) → ((ioMem (withEs ios fin')).upds (thaw t r').2) id = some (some r) ∧ id.1 ≠ t := by
    intro id r h
    have hio : id.1 = io := by
      simp only [ioMem] at h
      split at h
      · assumption
      · cases h
    have hne : id.1 ≠ t := by rw [hio]; exact fun e => ht e.symm
    exact ⟨by rw [upds_other _ _ id fun p hp e => hne (by rw [← e]; exact thaw_fst t r' p hp)]; exact h, hne⟩
  have hsub : ∀ b, Stab G ρ' ((ioMem (withEs ios fin')).upds (thaw t r').2) w' b → Stab G ρ' (ioMem (withEs ios fin')) w' b := fun b hb => ⟨hb.1, fun id r z h => hb.2.1 id r z (hN id r h).1, hb.2.2⟩
  have hkeys : ∀ p ∈ (thaw t r').2, noMem.upds (thaw t r').2 p.1 = some p.2 := fun p hp => by
    refine looks_upds _ ?_ p hp
    cases r' with
    | tuple vs => exact (thawT_keys t vs 0).2.2
    | _ => exact (thaw1_keys t 0 _).2.2
  have hat : ∀ p ∈ (thaw t r').2, ((ioMem (withEs ios fin')).upds (thaw t r').2) p.1 = some p.2 := fun p hp => by
    rcases upds_or (ioMem (withEs ios fin')) (thaw t r').2 p.1 with ⟨h1, _⟩ | ⟨_, h2⟩
    · rw [h1]; exact hkeys p hp
    · rw [hkeys p hp] at h2; cases h2
  have hmle : MLe ρ' w' (noMem.upds (thaw t r').2) ρ' w' ((ioMem (withEs ios fin')).upds (thaw t r').2) := fun id => by
    cases hMi : noMem.upds (thaw t r').2 id with
    | none => trivial
    | some o =>
      have e := hat (id, o) (upds_find hMi)
      cases o with
      | none => exact e
      | some row => exact .inr ⟨row, e, rfl, rfl, Nat.le_refl _, rfl, fun b z hb cur hcur => ⟨cur, hcur, rfl⟩⟩
  have hv : Rep ρ' w' (Stab G ρ' ((ioMem (withEs ios fin')).upds (thaw t r').2) w') ((ioMem (withEs ios fin')).upds (thaw t r').2) v (thaw t r').1 := hval.mono (fun b hb => ⟨hb.1, rfl⟩) hmle
  have key : Rep ρ' w' (Stab G ρ' (ioMem (withEs ios fin')) w') noMem v (Go.Vs.frz r') := by
    have one : ∀ x : PV, (∀ p ∈ (thaw1 t 0 x).2.2, ((ioMem (withEs ios fin')).upds (thaw t r').2) p.1 = some p.2) → clean2 x = true → Rep ρ' w' (Stab G ρ' ((ioMem (withEs ios fin')).upds (thaw t r').2) w') ((ioMem (withEs ios fin')).upds (thaw t r').2) v (thaw1 t 0 x).2.1 → Rep ρ' w' (Stab G ρ' (ioMem (withEs ios fin')) w') noMem v (frz2 x) :=
      fun x h1 h2 h3 => frz2_repN hrel h1 ht h2 hsub hN h3
    cases r' with
    | tuple vs =>
      simp only [thaw] at hv hrel hsub hN hat
      obtain ⟨a, rfl, hcs⟩ := rep_tuple.1 hv
      obtain ⟨k1, k2⟩ := thawT_at t vs 0
      refine rep_tuple.2 ⟨a, rfl, by rw [hcs.1, k1, List.length_map], fun j u hu => ?_⟩
      rw [List.getElem?_map] at hu
      cases hx : vs[j]? with
      | none => rw [hx] at hu; cases hu
      | some x =>
        rw [hx] at hu
        injection hu with hu
        subst hu
        obtain ⟨k', g1, g2⟩ := k2 j x hx
        obtain ⟨c, m1, m2⟩ := hcs.2 j _ g1
        exact ⟨c, m1, frz2_repN hrel (fun p hp => hat p (g2 p hp)) ht (List.all_eq_true.1 hc _ (List.mem_of_getElem? hx)) hsub hN m2⟩
    | agg cs => exact one (.agg cs) hat hc hv
    | olist ty sz es => exact one (.olist ty sz es) hat hc hv
    | any => exact rep_any
    | int _ _ => exact rep_clean1 hsub rfl rfl hv
    | bool _ => exact rep_clean1 hsub rfl rfl hv
    | str _ => exact rep_clean1 hsub rfl rfl hv
    | nil => exact rep_clean1 hsub rfl rfl hv
    | list _ _ => exact rep_clean1 hsub rfl rfl hv
    | ptr _ => exact rep_clean1 hsub rfl rfl hv
    | own _ _ _ => cases hc
    | clist _ _ => cases hc
    | osl _ _ _ => cases hc
    | fn _ _ _ => cases hc
  have hbx' : ∀ id r, ioMem (withEs ios fin') id = some (some r) → r.bx = false := by
    intro id r h
    simp only [ioMem] at h
    split at h
    · rw [withEs_at ios fin' _ hl] at h
      cases hk : ios[id.2]? with
      | none => rw [hk] at h; simp at h
      | some row0 =>
        cases hk2 : fin'[id.2]? with
        | none => rw [hk, hk2] at h; simp at h
        | some es =>
          rw [hk, hk2] at h
          simp at h
          rw [← h]
          exact hbx row0 (List.mem_of_getElem? hk)
    · cases h
  have hnew : WRel G ρ' w X (ioMem (withEs ios fin')) w' := by
    refine ⟨fun id id' r r' b z z' h1 h2 => hrel.inj id id' r r' b z z' (hN id r h1).1 (hN id' r' h2).1, fun id r h => ?_, fun id r h => hrel.new id r (hN id r h).1, hrel.keep, hrel.good⟩
    have hr := hrel.row id r (hN id r h).1
    have hb := hbx' id r h
    cases hρ : ρ' id with
    | none => rw [hρ] at hr; exact hr
    | some bz =>
      obtain ⟨b, z⟩ := bz
      rw [hρ] at hr
      obtain ⟨cur, C, g1, g2, g3, g4, g5, g6⟩ := hr
      refine ⟨cur, C, g1, g2, g3, g4, g5, fun i e hi => ⟨(g6 i e hi).1, fun j u hu => ?_⟩⟩
      obtain ⟨c, k1, k2, k3⟩ := (g6 i e hi).2 j u hu
      rw [hb] at k3 ⊢
      exact ⟨c, k1, k2, k3.pureMono fun b hb => ⟨hsub b hb, rfl⟩⟩
  refine ⟨?_, ?_, ?_⟩
  · rw [thaw_frz]; exact hnew
  · intro id row b z h1
    rw [thaw_frz] at h1
    cases h1
  · rw [thaw_frz]
    exact key.mono (fun b hb => ⟨⟨hb, fun h => by cases h⟩, rfl⟩) (MLe.refl _ _ _)
end
end Go.Vs
set_option linter.unusedVariables false
set_option linter.unusedSimpArgs false
set_option maxRecDepth 100000
set_option maxHeartbeats 4000000
namespace Go.Vs
open Go.Proofs
attribute [local irreducible] exec vwp thenQ blkQ loopQ RetPost
theorem et_agg0 {st : St} {al : Bool} {xs ys cs ds : List PV} {u : List (Option Id)} (h : ExpL al st cs ds []) (ht : ExpT al st xs ys u) : ExpT al st (.agg cs :: xs) (.agg ds :: ys) u := ⟨[], u, h, ht, rfl⟩
structure Cu where
  bs : List Int
  pos : Int
  seed : Int
@[reducible] def bytesP (bs : List Int) : List (List PV) := bs.map fun b => [PV.int .u8 b]
theorem bytes_at {bs : List Int} {i : Nat} {b : Int} (h : bs[i]? = some b) : (bytesP bs)[i]? = some [PV.int .u8 b] := by simp [bytesP, h]
@[reducible] def Cu.pv (c : Cu) : List PV := [.list 1 (bytesP c.bs), .int .i64 c.pos, .int .u64 c.seed]
structure Cu.Ok (c : Cu) : Prop where
  byte : ∀ b ∈ c.bs, 0 ≤ b ∧ b ≤ 255
  len : c.bs.length ≤ 1099511627776
  pos : 0 ≤ c.pos ∧ c.pos ≤ 1152921504606846976
structure Aft (c c' : Cu) (k : Int) : Prop where
  bs : c'.bs = c.bs
  pos : c.pos ≤ c'.pos ∧ c'.pos ≤ c.pos + k
theorem Aft.ok {c c' : Cu} {k : Int} (h : Aft c c' k) (hc : c.Ok) (hk : c.pos + k ≤ 1152921504606846976) : c'.Ok := ⟨by rw [h.bs]; exact hc.byte, by rw [h.bs]; exact hc.len, by have := h.pos; have := hc.pos; omega⟩
theorem Aft.trans {c c' c'' : Cu} {k l : Int} (h : Aft c c' k) (g : Aft c' c'' l) : Aft c c'' (k + l) := ⟨g.bs.trans h.bs, by have := h.pos; have := g.pos; omega⟩
theorem Aft.le {c c' : Cu} {k l : Int} (h : Aft c c' k) (hl : k ≤ l) : Aft c c' l := ⟨h.bs, by have := h.pos; omega⟩
theorem Aft.refl (c : Cu) : Aft c c 0 := ⟨rfl, by omega⟩
@[reducible] def cuRow (c : Cu) : Row := ⟨69, 3, [c.pv], false⟩
@[reducible] def Dr (f : FuncId) (args : List PV) (c : Cu) (r : PV) (c' : Cu) : Prop := ContractP Try.prog f true (.own (io, 0) 0 0 :: args) [cuRow c] (fun r' fin' => r' = r ∧ fin' = [[c'.pv]])
def nxS (c : Cu) (b : Int) : Int := IntKind.u64.wrap (IntKind.u64.wrap (IntKind.u64.wrap (c.seed * 6364136223846793005) + IntKind.u64.wrap b) + 917917)
def nxX (s : Int) : Int := IntKind.i64.wrap (IntKind.u64.wrap ((BitVec.ofInt IntKind.u64.bits (s.fdiv (2 ^ min (Int.toNat 40) IntKind.u64.bits)) &&& BitVec.ofInt IntKind.u64.bits 255).toNat : Nat))
theorem wrap_u {n : Int} (h : 0 ≤ n ∧ n < 18446744073709551616) : IntKind.u64.wrap n = n := by
  simp [IntKind.wrap, IntKind.signed, IntKind.bits]
  omega
theorem nxX_bnd (s : Int) : 0 ≤ nxX s ∧ nxX s ≤ 255 := by
  unfold nxX
  have h : (BitVec.ofInt IntKind.u64.bits (s.fdiv (2 ^ min (Int.toNat 40) IntKind.u64.bits)) &&& BitVec.ofInt IntKind.u64.bits 255).toNat ≤ 255 := by
    rw [BitVec.toNat_and]
    exact Nat.le_trans Nat.and_le_right (by decide)
  generalize (BitVec.ofInt IntKind.u64.bits (s.fdiv (2 ^ min (Int.toNat 40) IntKind.u64.bits)) &&& BitVec.ofInt IntKind.u64.bits 255).toNat = m at *
  rw [wrap_u aO, wrap_in aO]
  omega
theorem k_next (c : Cu) (hc : c.Ok) (hp : c.pos + 1 ≤ 1152921504606846976) : ∃ (r : Int) (c' : Cu), Dr 140 [] c (.int .i64 r) c' ∧ Aft c c' 1 ∧ 0 ≤ r ∧ r ≤ 255 := by
  have hpos := hc.pos
  have hlen := hc.len
  have hl1 : (bytesP c.bs).length = c.bs.length := by simp
  by_cases hlt : c.pos < c.bs.length
  · obtain ⟨b, hb⟩ := get_ex (show c.pos.toNat < c.bs.length by omega)
    have hx := bytes_at hb
    have hbb := hc.byte b (get_mem hb)
    refine ⟨b, ⟨c.bs, c.pos + 1, nxS c b⟩, ?_, ⟨rfl, by simp only; omega⟩, hbb⟩
    refine za8 hmix Try.func140 rfl (by kernel_rfl) (by kernel_rfl) (Nat.le_of_ble_eq_true rfl) (fun row h => by (simp only [List.mem_cons, List.not_mem_nil, or_false] at h; first | (subst h; (first | exact .inl rfl | exact .inr (fun e he u hu => by (simp only [List.mem_cons, List.not_mem_nil, or_false] at he; subst he; simp only [List.mem_cons, List.not_mem_nil, or_false] at hu; subst hu; rfl)))) | (rcases h with rfl | rfl <;> (first | exact .inl rfl | exact .inr (fun e he u hu => by (simp only [List.mem_cons, List.not_mem_nil, or_false] at he; subst he; simp only [List.mem_cons, List.not_mem_nil, or_false] at hu; subst hu; rfl)))) | (rcases h with rfl | rfl | rfl <;> (first | exact .inl rfl | exact .inr (fun e he u hu => by (simp only [List.mem_cons, List.not_mem_nil, or_false] at he; subst he; simp only [List.mem_cons, List.not_mem_nil, or_false] at hu; subst hu; rfl)))) | (rcases h with rfl | rfl | rfl | rfl <;> (first | exact .inl rfl | exact .inr (fun e he u hu => by (simp only [List.mem_cons, List.not_mem_nil, or_false] at he; subst he; simp only [List.mem_cons, List.not_mem_nil, or_false] at hu; subst hu; rfl)))))) ?_
    have hty_f69_1 := ty_f69_1
    have hty_c3 := ty_c3
    have hty_f69_0 := ty_f69_0
    have hty_c22 := ty_c22
    have hty_u22 := ty_u22
    have hty_s22 := ty_s22
    have hty_c5 := ty_c5
    have hty_u5 := ty_u5
    have hty_u3 := ty_u3
    have hty_t3 := ty_t3
    have hty_f69_2 := ty_f69_2
    have hty_c67 := ty_c67
    have hty_u67 := ty_u67
    have hty_t67 := ty_t67
    repeat' (first
      | (refine za5 ?_; first | (refine za6 ?_; refine zat _ rfl ?_) | (refine zad ?_; refine zaa _ rfl ?_) | (refine zbv ?_; first | (refine zby rfl rfl aO ?_) | (refine zci rfl rfl aO ?_) | (refine zbu _ rfl rfl rfl ?_) | (refine x_shr _ rfl rfl rfl ?_) | (refine zaw _ rfl rfl rfl ?_)) | (refine zbf ?_; first | (refine zac aA rfl ?_) | (refine zah _ aA rfl rfl aE rfl ?_) | (refine zaf _ aA rfl aZ aL ?_) | (refine zak _ aA rfl rfl aE aZ aL ?_)) | (refine zbm ?_; first | (refine zay _ aA rfl aL ?_) | (refine zax _ aA rfl rfl (by simp only [lx, Nat.reduceAdd]; first | done | rfl) ?_)) | (refine zbe ?_; first | (refine zau _ aA rfl rfl aO aA ?_) | (refine zav _ aA rfl rfl rfl rfl aO aO (by first | (rw [Nat.zero_add, Int.toNat_natCast]) | (rw [Nat.zero_add]) | rfl) ?_)) | (refine zbd ?_; first | (refine za9 aA rfl ?_) | (refine zbc aA rfl rfl ?_) | (refine zba aA rfl ?_) | (refine zbb aA (evO_ok rfl) ?_)) | (refine x_convert_i aA aA (evO_ok rfl) aO ?_) | (refine x_convert aA aA (evO_ok rfl) ?_) | (refine zbo _ _ _ rfl rfl aE (by first | assumption | (exact TAgg.size aA)) rfl rfl rfl aZ rfl aL (by first | (first | (simp only [lx, Nat.reduceAdd]; first | done | rfl) | fail) | rfl) ?_) | (refine x_nil_p rfl ?_) | (refine x_nil_o rfl rfl ?_) | (refine x_nil_f rfl ?_) | (refine zas (hK _ _ (.inl rfl) ?_); clear hK K) | (refine zas (hK _ _ (.inr (by kernel_rfl)) ?_); clear hK K))
      | (refine za3 ?_; first | (refine zbp ?_) | (refine zaj (fun K hK => ?_)) | (refine zan ?_) | (refine za4 ?_) | (refine zbq ?_) | (refine za1 ?_) | (refine zbg ?_; first | (refine zam rfl aD ?_) | (refine zal rfl aD ?_) | (refine zaz rfl (fun h => ?_) (fun h => ?_) <;> (have h' := h; (try simp only [sx] at h')))))
      | (refine za2 ?_) | (refine zai ?_) | (refine zae ?_) | (refine zaq ?_) | (refine zar ?_) | (refine zao ?_) | (refine zap rfl ?_) | (refine zab ?_) | (refine zag ?_) | (refine zbr ?_))
    all_goals first
      | (exfalso; omega)
      | exact ret_iL rfl rfl ⟨⟨rfl, rfl, fun h => by cases h⟩, trivial⟩ rfl
  · refine ⟨nxX (nxS c 0), ⟨c.bs, c.pos + 1, nxS c 0⟩, ?_, ⟨rfl, by simp only; omega⟩, nxX_bnd _⟩
    refine za8 hmix Try.func140 rfl (by kernel_rfl) (by kernel_rfl) (Nat.le_of_ble_eq_true rfl) (fun row h => by (simp only [List.mem_cons, List.not_mem_nil, or_false] at h; first | (subst h; (first | exact .inl rfl | exact .inr (fun e he u hu => by (simp only [List.mem_cons, List.not_mem_nil, or_false] at he; subst he; simp only [List.mem_cons, List.not_mem_nil, or_false] at hu; subst hu; rfl)))) | (rcases h with rfl | rfl <;> (first | exact .inl rfl | exact .inr (fun e he u hu => by (simp only [List.mem_cons, List.not_mem_nil, or_false] at he; subst he; simp only [List.mem_cons, List.not_mem_nil, or_false] at hu; subst hu; rfl)))) | (rcases h with rfl | rfl | rfl <;> (first | exact .inl rfl | exact .inr (fun e he u hu => by (simp only [List.mem_cons, List.not_mem_nil, or_false] at he; subst he; simp only [List.mem_cons, List.not_mem_nil, or_false] at hu; subst hu; rfl)))) | (rcases h with rfl | rfl | rfl | rfl <;> (first | exact .inl rfl | exact .inr (fun e he u hu => by (simp only [List.mem_cons, List.not_mem_nil, or_false] at he; subst he; simp only [List.mem_cons, List.not_mem_nil, or_false] at hu; subst hu; rfl)))))) ?_
    have hty_f69_1 := ty_f69_1
    have hty_c3 := ty_c3
    have hty_f69_0 := ty_f69_0
    have hty_c22 := ty_c22
    have hty_u22 := ty_u22
    have hty_s22 := ty_s22
    have hty_c5 := ty_c5
    have hty_u5 := ty_u5
    have hty_u3 := ty_u3
    have hty_t3 := ty_t3
    have hty_f69_2 := ty_f69_2
    have hty_c67 := ty_c67
    have hty_u67 := ty_u67
    have hty_t67 := ty_t67
    repeat' (first
      | (refine za5 ?_; first | (refine za6 ?_; refine zat _ rfl ?_) | (refine zad ?_; refine zaa _ rfl ?_) | (refine zbv ?_; first | (refine zby rfl rfl aO ?_) | (refine zci rfl rfl aO ?_) | (refine zbu _ rfl rfl rfl ?_) | (refine x_shr _ rfl rfl rfl ?_) | (refine zaw _ rfl rfl rfl ?_)) | (refine zbf ?_; first | (refine zac aA rfl ?_) | (refine zah _ aA rfl rfl aE rfl ?_) | (refine zaf _ aA rfl aZ aL ?_) | (refine zak _ aA rfl rfl aE aZ aL ?_)) | (refine zbm ?_; first | (refine zay _ aA rfl aL ?_) | (refine zax _ aA rfl rfl (by simp only [lx, Nat.reduceAdd]; first | done | rfl) ?_)) | (refine zbe ?_; first | (refine zau _ aA rfl rfl aO aA ?_) | (refine zav _ aA rfl rfl rfl rfl aO aO (by first | (rw [Nat.zero_add, Int.toNat_natCast]) | (rw [Nat.zero_add]) | rfl) ?_)) | (refine zbd ?_; first | (refine za9 aA rfl ?_) | (refine zbc aA rfl rfl ?_) | (refine zba aA rfl ?_) | (refine zbb aA (evO_ok rfl) ?_)) | (refine x_convert_i aA aA (evO_ok rfl) aO ?_) | (refine x_convert aA aA (evO_ok rfl) ?_) | (refine zbo _ _ _ rfl rfl aE (by first | assumption | (exact TAgg.size aA)) rfl rfl rfl aZ rfl aL (by first | (first | (simp only [lx, Nat.reduceAdd]; first | done | rfl) | fail) | rfl) ?_) | (refine x_nil_p rfl ?_) | (refine x_nil_o rfl rfl ?_) | (refine x_nil_f rfl ?_) | (refine zas (hK _ _ (.inl rfl) ?_); clear hK K) | (refine zas (hK _ _ (.inr (by kernel_rfl)) ?_); clear hK K))
      | (refine za3 ?_; first | (refine zbp ?_) | (refine zaj (fun K hK => ?_)) | (refine zan ?_) | (refine za4 ?_) | (refine zbq ?_) | (refine za1 ?_) | (refine zbg ?_; first | (refine zam rfl aD ?_) | (refine zal rfl aD ?_) | (refine zaz rfl (fun h => ?_) (fun h => ?_) <;> (have h' := h; (try simp only [sx] at h')))))
      | (refine za2 ?_) | (refine zai ?_) | (refine zae ?_) | (refine zaq ?_) | (refine zar ?_) | (refine zao ?_) | (refine zap rfl ?_) | (refine zab ?_) | (refine zag ?_) | (refine zbr ?_))
    all_goals first
      | (exfalso; omega)
      | exact ret_iL rfl rfl ⟨⟨rfl, rfl, fun h => by cases h⟩, trivial⟩ rfl
theorem k_pick (c : Cu) (n : Int) (hc : c.Ok) (hp : c.pos + 2 ≤ 1152921504606846976) (hn : n ≤ 1000000000) : ∃ (r : Int) (c' : Cu), Dr 104 [.int .i64 n] c (.int .i64 r) c' ∧ Aft c c' 2 ∧ 0 ≤ r ∧ (1 ≤ n → r < n) ∧ (n ≤ 1 → r = 0) := by
  by_cases h1 : n ≤ 1
  · refine ⟨0, c, ?_, (Aft.refl c).le aO, by omega, by omega, by omega⟩
    refine za8 hmix Try.func104 rfl (by kernel_rfl) (by kernel_rfl) (Nat.le_of_ble_eq_true rfl) (fun row h => by (simp only [List.mem_cons, List.not_mem_nil, or_false] at h; first | (subst h; (first | exact .inl rfl | exact .inr (fun e he u hu => by (simp only [List.mem_cons, List.not_mem_nil, or_false] at he; subst he; simp only [List.mem_cons, List.not_mem_nil, or_false] at hu; subst hu; rfl)))) | (rcases h with rfl | rfl <;> (first | exact .inl rfl | exact .inr (fun e he u hu => by (simp only [List.mem_cons, List.not_mem_nil, or_false] at he; subst he; simp only [List.mem_cons, List.not_mem_nil, or_false] at hu; subst hu; rfl)))) | (rcases h with rfl | rfl | rfl <;> (first | exact .inl rfl | exact .inr (fun e he u hu => by (simp only [List.mem_cons, List.not_mem_nil, or_false] at he; subst he; simp only [List.mem_cons, List.not_mem_nil, or_false] at hu; subst hu; rfl)))) | (rcases h with rfl | rfl | rfl | rfl <;> (first | exact .inl rfl | exact .inr (fun e he u hu => by (simp only [List.mem_cons, List.not_mem_nil, or_false] at he; subst he; simp only [List.mem_cons, List.not_mem_nil, or_false] at hu; subst hu; rfl)))))) ?_
    repeat' (first
      | (refine za5 ?_; first | (refine za6 ?_; refine zat _ rfl ?_) | (refine zad ?_; refine zaa _ rfl ?_) | (refine zbv ?_; first | (refine zby rfl rfl aO ?_) | (refine zci rfl rfl aO ?_) | (refine zcp rfl rfl aO ?_) | (refine zcm rfl rfl aO ?_) | (refine zbu _ rfl rfl rfl ?_) | (refine zaw _ rfl rfl rfl ?_)) | (refine zas (hK _ _ (.inl rfl) ?_); clear hK K) | (refine zas (hK _ _ (.inr (by kernel_rfl)) ?_); clear hK K))
      | (refine za3 ?_; first | (refine zbp ?_) | (refine zaj (fun K hK => ?_)) | (refine zan ?_) | (refine za4 ?_) | (refine zbq ?_) | (refine za1 ?_) | (refine zbg ?_; first | (refine zam rfl aD ?_) | (refine zal rfl aD ?_) | (refine zaz rfl (fun h => ?_) (fun h => ?_) <;> (have h' := h; (try simp only [sx] at h')))))
      | (refine za2 ?_) | (refine zai ?_) | (refine zae ?_) | (refine zaq ?_) | (refine zar ?_) | (refine zao ?_) | (refine zap rfl ?_) | (refine zab ?_) | (refine zag ?_) | (refine zbr ?_))
    all_goals first
      | (exfalso; omega)
      | exact ret_iL rfl rfl ⟨⟨rfl, rfl, fun h => by cases h⟩, trivial⟩ rfl
  · obtain ⟨r1, c1, k1, a1, b1, b2⟩ := k_next c hc aO
    by_cases h2 : n > 200
    · obtain ⟨r2, c2, k2, a2, b3, b4⟩ := k_next c1 (a1.ok hc aO) (by have := a1.pos; omega)
      refine ⟨(r1 * 256 + r2) % n, c2, ?_, (a1.trans a2).le aO, Int.emod_nonneg _ aO, fun _ => Int.emod_lt_of_pos _ aO, fun h => by omega⟩
      refine za8 hmix Try.func104 rfl (by kernel_rfl) (by kernel_rfl) (Nat.le_of_ble_eq_true rfl) (fun row h => by (simp only [List.mem_cons, List.not_mem_nil, or_false] at h; first | (subst h; (first | exact .inl rfl | exact .inr (fun e he u hu => by (simp only [List.mem_cons, List.not_mem_nil, or_false] at he; subst he; simp only [List.mem_cons, List.not_mem_nil, or_false] at hu; subst hu; rfl)))) | (rcases h with rfl | rfl <;> (first | exact .inl rfl | exact .inr (fun e he u hu => by (simp only [List.mem_cons, List.not_mem_nil, or_false] at he; subst he; simp only [List.mem_cons, List.not_mem_nil, or_false] at hu; subst hu; rfl)))) | (rcases h with rfl | rfl | rfl <;> (first | exact .inl rfl | exact .inr (fun e he u hu => by (simp only [List.mem_cons, List.not_mem_nil, or_false] at he; subst he; simp only [List.mem_cons, List.not_mem_nil, or_false] at hu; subst hu; rfl)))) | (rcases h with rfl | rfl | rfl | rfl <;> (first | exact .inl rfl | exact .inr (fun e he u hu => by (simp only [List.mem_cons, List.not_mem_nil, or_false] at he; subst he; simp only [List.mem_cons, List.not_mem_nil, or_false] at hu; subst hu; rfl)))))) ?_
      repeat' (first
      | (refine za5 ?_; first | (refine za6 ?_; refine zat _ rfl ?_) | (refine zad ?_; refine zaa _ rfl ?_) | (refine zbv ?_; first | (refine zby rfl rfl aO ?_) | (refine zci rfl rfl aO ?_) | (refine zcp rfl rfl aO ?_) | (refine zcm rfl rfl aO ?_) | (refine zbu _ rfl rfl rfl ?_) | (refine zaw _ rfl rfl rfl ?_)) | (refine zbd ?_; first | (refine zb9 [(io, 0)] (k1) rfl rfl (by (repeat' (first | exact trivial | refine ⟨⟨_, rfl, ?_⟩, ?_⟩ | exact .inl ⟨rfl, .inl rfl⟩ | exact .inr ⟨rfl, rfl, rfl, rfl, rfl, fun e he u hu => by (simp only [List.mem_cons, List.not_mem_nil, or_false] at he; subst he; simp only [List.mem_cons, List.not_mem_nil, or_false] at hu; subst hu; rfl)⟩ | exact .inl ⟨rfl, .inr (fun e he => by (simp only [List.mem_cons, List.not_mem_nil, or_false] at he; subst he; rfl))⟩ | fail)); first | done | fail) rfl rfl aS rfl aH rfl ?_; simp only [cl]) | (refine zb9 [(io, 0)] (k2) rfl rfl (by (repeat' (first | exact trivial | refine ⟨⟨_, rfl, ?_⟩, ?_⟩ | exact .inl ⟨rfl, .inl rfl⟩ | exact .inr ⟨rfl, rfl, rfl, rfl, rfl, fun e he u hu => by (simp only [List.mem_cons, List.not_mem_nil, or_false] at he; subst he; simp only [List.mem_cons, List.not_mem_nil, or_false] at hu; subst hu; rfl)⟩ | exact .inl ⟨rfl, .inr (fun e he => by (simp only [List.mem_cons, List.not_mem_nil, or_false] at he; subst he; rfl))⟩ | fail)); first | done | fail) rfl rfl aS rfl aH rfl ?_; simp only [cl])) | (refine zas (hK _ _ (.inl rfl) ?_); clear hK K) | (refine zas (hK _ _ (.inr (by kernel_rfl)) ?_); clear hK K))
      | (refine za3 ?_; first | (refine zbp ?_) | (refine zaj (fun K hK => ?_)) | (refine zan ?_) | (refine za4 ?_) | (refine zbq ?_) | (refine za1 ?_) | (refine zbg ?_; first | (refine zam rfl aD ?_) | (refine zal rfl aD ?_) | (refine zaz rfl (fun h => ?_) (fun h => ?_) <;> (have h' := h; (try simp only [sx] at h')))))
      | (refine za2 ?_) | (refine zai ?_) | (refine zae ?_) | (refine zaq ?_) | (refine zar ?_) | (refine zao ?_) | (refine zap rfl ?_) | (refine zab ?_) | (refine zag ?_) | (refine zbr ?_))
      all_goals first
        | (exfalso; omega)
        | exact ret_iL rfl rfl ⟨⟨rfl, rfl, fun h => by cases h⟩, trivial⟩ rfl
    · refine ⟨r1 % n, c1, ?_, a1.le aO, Int.emod_nonneg _ aO, fun _ => Int.emod_lt_of_pos _ aO, fun h => by omega⟩
      refine za8 hmix Try.func104 rfl (by kernel_rfl) (by kernel_rfl) (Nat.le_of_ble_eq_true rfl) (fun row h => by (simp only [List.mem_cons, List.not_mem_nil, or_false] at h; first | (subst h; (first | exact .inl rfl | exact .inr (fun e he u hu => by (simp only [List.mem_cons, List.not_mem_nil, or_false] at he; subst he; simp only [List.mem_cons, List.not_mem_nil, or_false] at hu; subst hu; rfl)))) | (rcases h with rfl | rfl <;> (first | exact .inl rfl | exact .inr (fun e he u hu => by (simp only [List.mem_cons, List.not_mem_nil, or_false] at he; subst he; simp only [List.mem_cons, List.not_mem_nil, or_false] at hu; subst hu; rfl)))) | (rcases h with rfl | rfl | rfl <;> (first | exact .inl rfl | exact .inr (fun e he u hu => by (simp only [List.mem_cons, List.not_mem_nil, or_false] at he; subst he; simp only [List.mem_cons, List.not_mem_nil, or_false] at hu; subst hu; rfl)))) | (rcases h with rfl | rfl | rfl | rfl <;> (first | exact .inl rfl | exact .inr (fun e he u hu => by (simp only [List.mem_cons, List.not_mem_nil, or_false] at he; subst he; simp only [List.mem_cons, List.not_mem_nil, or_false] at hu; subst hu; rfl)))))) ?_
      repeat' (first
      | (refine za5 ?_; first | (refine za6 ?_; refine zat _ rfl ?_) | (refine zad ?_; refine zaa _ rfl ?_) | (refine zbv ?_; first | (refine zby rfl rfl aO ?_) | (refine zci rfl rfl aO ?_) | (refine zcp rfl rfl aO ?_) | (refine zcm rfl rfl aO ?_) | (refine zbu _ rfl rfl rfl ?_) | (refine zaw _ rfl rfl rfl ?_)) | (refine zbd ?_; refine zb9 [(io, 0)] (k1) rfl rfl (by (repeat' (first | exact trivial | refine ⟨⟨_, rfl, ?_⟩, ?_⟩ | exact .inl ⟨rfl, .inl rfl⟩ | exact .inr ⟨rfl, rfl, rfl, rfl, rfl, fun e he u hu => by (simp only [List.mem_cons, List.not_mem_nil, or_false] at he; subst he; simp only [List.mem_cons, List.not_mem_nil, or_false] at hu; subst hu; rfl)⟩ | exact .inl ⟨rfl, .inr (fun e he => by (simp only [List.mem_cons, List.not_mem_nil, or_false] at he; subst he; rfl))⟩ | fail)); first | done | fail) rfl rfl aS rfl aH rfl ?_; simp only [cl]) | (refine zas (hK _ _ (.inl rfl) ?_); clear hK K) | (refine zas (hK _ _ (.inr (by kernel_rfl)) ?_); clear hK K))
      | (refine za3 ?_; first | (refine zbp ?_) | (refine zaj (fun K hK => ?_)) | (refine zan ?_) | (refine za4 ?_) | (refine zbq ?_) | (refine za1 ?_) | (refine zbg ?_; first | (refine zam rfl aD ?_) | (refine zal rfl aD ?_) | (refine zaz rfl (fun h => ?_) (fun h => ?_) <;> (have h' := h; (try simp only [sx] at h')))))
      | (refine za2 ?_) | (refine zai ?_) | (refine zae ?_) | (refine zaq ?_) | (refine zar ?_) | (refine zao ?_) | (refine zap rfl ?_) | (refine zab ?_) | (refine zag ?_) | (refine zbr ?_))
      all_goals first
        | (exfalso; omega)
        | exact ret_iL rfl rfl ⟨⟨rfl, rfl, fun h => by cases h⟩, trivial⟩ rfl
theorem k_one (c : Cu) (n : Int) (hc : c.Ok) (hp : c.pos + 2 ≤ 1152921504606846976) (hn : n ≤ 1000000000) : ∃ (b : Bool) (c' : Cu), Dr 130 [.int .i64 n] c (.bool b) c' ∧ Aft c c' 2 := by
  obtain ⟨r, c1, k1, a1, b1, b2⟩ := k_pick c n hc hp hn
  refine ⟨r == 0, c1, ?_, a1⟩
  refine za8 hmix Try.func130 rfl (by kernel_rfl) (by kernel_rfl) (Nat.le_of_ble_eq_true rfl) (fun row h => by (simp only [List.mem_cons, List.not_mem_nil, or_false] at h; first | (subst h; (first | exact .inl rfl | exact .inr (fun e he u hu => by (simp only [List.mem_cons, List.not_mem_nil, or_false] at he; subst he; simp only [List.mem_cons, List.not_mem_nil, or_false] at hu; subst hu; rfl)))) | (rcases h with rfl | rfl <;> (first | exact .inl rfl | exact .inr (fun e he u hu => by (simp only [List.mem_cons, List.not_mem_nil, or_false] at he; subst he; simp only [List.mem_cons, List.not_mem_nil, or_false] at hu; subst hu; rfl)))) | (rcases h with rfl | rfl | rfl <;> (first | exact .inl rfl | exact .inr (fun e he u hu => by (simp only [List.mem_cons, List.not_mem_nil, or_false] at he; subst he; simp only [List.mem_cons, List.not_mem_nil, or_false] at hu; subst hu; rfl)))) | (rcases h with rfl | rfl | rfl | rfl <;> (first | exact .inl rfl | exact .inr (fun e he u hu => by (simp only [List.mem_cons, List.not_mem_nil, or_false] at he; subst he; simp only [List.mem_cons, List.not_mem_nil, or_false] at hu; subst hu; rfl)))))) ?_
  repeat' (first
      | (refine za5 ?_; first | (refine za6 ?_; refine zat _ rfl ?_) | (refine zad ?_; refine zaa _ rfl ?_) | (refine zbv ?_; first | (refine zbu _ rfl rfl rfl ?_) | (refine zbt aA rfl rfl ?_) | (refine zaw _ rfl rfl rfl ?_)) | (refine zbd ?_; refine zb9 [(io, 0)] (k1) rfl rfl (by (repeat' (first | exact trivial | refine ⟨⟨_, rfl, ?_⟩, ?_⟩ | exact .inl ⟨rfl, .inl rfl⟩ | exact .inr ⟨rfl, rfl, rfl, rfl, rfl, fun e he u hu => by (simp only [List.mem_cons, List.not_mem_nil, or_false] at he; subst he; simp only [List.mem_cons, List.not_mem_nil, or_false] at hu; subst hu; rfl)⟩ | exact .inl ⟨rfl, .inr (fun e he => by (simp only [List.mem_cons, List.not_mem_nil, or_false] at he; subst he; rfl))⟩ | fail)); first | done | fail) rfl rfl aS rfl aH rfl ?_; simp only [cl]) | (refine zas (hK _ _ (.inl rfl) ?_); clear hK K) | (refine zas (hK _ _ (.inr (by kernel_rfl)) ?_); clear hK K))
      | (refine za3 ?_; first | (refine zbp ?_) | (refine zaj (fun K hK => ?_)) | (refine zan ?_) | (refine za4 ?_) | (refine zbq ?_) | (refine za1 ?_))
      | (refine za2 ?_) | (refine zai ?_) | (refine zae ?_) | (refine zaq ?_) | (refine zar ?_) | (refine zao ?_) | (refine zap rfl ?_) | (refine zab ?_) | (refine zag ?_) | (refine zbr ?_))
  all_goals exact ret_bL rfl rfl ⟨⟨rfl, rfl, fun h => by cases h⟩, trivial⟩ rfl
theorem k_among (c : Cu) (l : List Int) (hc : c.Ok) (hp : c.pos + 2 ≤ 1152921504606846976) (hl : 1 ≤ l.length ∧ l.length ≤ 1000000) : ∃ (x : Int) (c' : Cu), Dr 75 [.list 1 (ints l)] c (.int .i64 x) c' ∧ Aft c c' 2 ∧ x ∈ l := by
  obtain ⟨r, c1, k1, a1, b1, b2, b3⟩ := k_pick c l.length hc hp aO
  have b2 := b2 aO
  obtain ⟨x, hx⟩ := get_ex (show r.toNat < l.length by omega)
  have hy := ints_at hx
  have hl1 : (ints l).length = l.length := by simp
  rw [← hl1] at k1
  refine ⟨x, c1, ?_, a1, get_mem hx⟩
  refine za8 hmix Try.func75 rfl (by kernel_rfl) (by kernel_rfl) (Nat.le_of_ble_eq_true rfl) (fun row h => by (simp only [List.mem_cons, List.not_mem_nil, or_false] at h; first | (subst h; (first | exact .inl rfl | exact .inr (fun e he u hu => by (simp only [List.mem_cons, List.not_mem_nil, or_false] at he; subst he; simp only [List.mem_cons, List.not_mem_nil, or_false] at hu; subst hu; rfl)))) | (rcases h with rfl | rfl <;> (first | exact .inl rfl | exact .inr (fun e he u hu => by (simp only [List.mem_cons, List.not_mem_nil, or_false] at he; subst he; simp only [List.mem_cons, List.not_mem_nil, or_false] at hu; subst hu; rfl)))) | (rcases h with rfl | rfl | rfl <;> (first | exact .inl rfl | exact .inr (fun e he u hu => by (simp only [List.mem_cons, List.not_mem_nil, or_false] at he; subst he; simp only [List.mem_cons, List.not_mem_nil, or_false] at hu; subst hu; rfl)))) | (rcases h with rfl | rfl | rfl | rfl <;> (first | exact .inl rfl | exact .inr (fun e he u hu => by (simp only [List.mem_cons, List.not_mem_nil, or_false] at he; subst he; simp only [List.mem_cons, List.not_mem_nil, or_false] at hu; subst hu; rfl)))))) ?_
  have hty_u24 := ty_u24
  have hty_s24 := ty_s24
  have hty_c3 := ty_c3
  repeat' (first
      | (refine za5 ?_; first | (refine za6 ?_; refine zat _ rfl ?_) | (refine zad ?_; refine zaa _ rfl ?_) | (refine zbf ?_; first | (refine zac aA rfl ?_) | (refine zah _ aA rfl rfl aE rfl ?_) | (refine zaf _ aA rfl aZ aL ?_) | (refine zak _ aA rfl rfl aE aZ aL ?_)) | (refine zbe ?_; first | (refine zau _ aA rfl rfl aO aA ?_) | (refine zav _ aA rfl rfl rfl rfl aO aO (by first | (rw [Nat.zero_add, Int.toNat_natCast]) | (rw [Nat.zero_add]) | rfl) ?_)) | (refine zbd ?_; first | (refine zb9 [(io, 0)] (k1) rfl rfl (by (repeat' (first | exact trivial | refine ⟨⟨_, rfl, ?_⟩, ?_⟩ | exact .inl ⟨rfl, .inl rfl⟩ | exact .inr ⟨rfl, rfl, rfl, rfl, rfl, fun e he u hu => by (simp only [List.mem_cons, List.not_mem_nil, or_false] at he; subst he; simp only [List.mem_cons, List.not_mem_nil, or_false] at hu; subst hu; rfl)⟩ | exact .inl ⟨rfl, .inr (fun e he => by (simp only [List.mem_cons, List.not_mem_nil, or_false] at he; subst he; rfl))⟩ | fail)); first | done | fail) rfl rfl aS rfl aH rfl ?_; simp only [cl]) | (refine za9 aA rfl ?_) | (refine zbc aA rfl rfl ?_) | (refine zba aA rfl ?_) | (refine zbb aA (evO_ok rfl) ?_)) | (refine zas (hK _ _ (.inl rfl) ?_); clear hK K) | (refine zas (hK _ _ (.inr (by kernel_rfl)) ?_); clear hK K))
      | (refine za3 ?_; first | (refine zbp ?_) | (refine zaj (fun K hK => ?_)) | (refine zan ?_) | (refine za4 ?_) | (refine zbq ?_) | (refine za1 ?_))
      | (refine za2 ?_) | (refine zai ?_) | (refine zae ?_) | (refine zaq ?_) | (refine zar ?_) | (refine zao ?_) | (refine zap rfl ?_) | (refine zab ?_) | (refine zag ?_) | (refine zbr ?_))
  all_goals first
    | (exfalso; omega)
    | exact ret_iL rfl rfl ⟨⟨rfl, rfl, fun h => by cases h⟩, trivial⟩ rfl
@[reducible] def cu0 (code : List Int) : Cu := ⟨code, 0, 0⟩
structure CodeOk (code : List Int) : Prop where
  len : code.length ≤ 1099511627776
  byte : ∀ b ∈ code, 0 ≤ b ∧ b ≤ 255
theorem cu0_ok {code : List Int} (h : CodeOk code) : (cu0 code).Ok := ⟨h.byte, h.len, by simp⟩
end Go.Vs
set_option linter.unusedVariables false
set_option linter.unusedSimpArgs false
set_option maxRecDepth 100000
set_option maxHeartbeats 4000000
namespace Go.Vs
open Go.Proofs
attribute [local irreducible] exec vwp thenQ blkQ loopQ RetPost
structure Terrain where
  (width height : Int)
  (burn : List Int)
  deriving DecidableEq
@[reducible] def Terrain.pv (t : Terrain) : List PV := [.int .i64 t.width, .int .i64 t.height, .list 1 (ints t.burn)]
end Go.Vs
set_option linter.unusedVariables false
set_option linter.unusedSimpArgs false
set_option maxRecDepth 100000
set_option maxHeartbeats 4000000
namespace Go.Vs
def tv (T : List Int) (c : Int) : Int := T.getD c.toNat (-1)
theorem tv_at {T : List Int} {c : Int} (h : c.toNat < T.length) : T[c.toNat]? = some (tv T c) := by
  obtain ⟨a, ha⟩ := get_ex h
  rw [ha, tv]
  simp [List.getD_eq_getElem?_getD, ha]
theorem tv_set {T : List Int} {i : Nat} (x : Int) (h : i < T.length) (c : Int) : tv (T.set i x) c = if c.toNat = i then x else tv T c := by
  unfold tv
  rw [List.getD_eq_getElem?_getD, List.getD_eq_getElem?_getD, List.getElem?_set]
  by_cases he : i = c.toNat
  · simp [he, he ▸ h]
  · simp [he, Ne.symm he]
theorem sumBy_set {α : Type} (g : α → Int) {l : List α} : ∀ {i : Nat} {a : α} (x : α), l[i]? = some a → sumBy g (l.set i x) = sumBy g l - g a + g x := by
  induction l with
  | nil => intro i a x h; simp at h
  | cons y l ih =>
    intro i a x h
    cases i with
    | zero =>
      simp only [List.getElem?_cons_zero, Option.some.injEq] at h
      subst h
      rw [List.set_cons_zero, sumBy_cons, sumBy_cons]
      omega
    | succ i =>
      rw [List.set_cons_succ, sumBy_cons, sumBy_cons, ih x (by simpa using h)]
      omega
theorem ints_set (T : List Int) (i : Nat) (x : Int) : ints (T.set i x) = (ints T).set i [PV.int .i64 x] := by simp [ints, List.map_set]
theorem tv_nat {T : List Int} {i : Nat} (h : i < T.length) : (ints T)[i]? = some [PV.int .i64 (tv T i)] := by
  have := tv_at (T := T) (c := (i : Int)) (by rw [Int.toNat_natCast]; exact h)
  rw [Int.toNat_natCast] at this
  exact ints_at this
theorem tv_int {T : List Int} {c : Int} (h : c.toNat < T.length) : (ints T)[c.toNat]? = some [PV.int .i64 (tv T c)] := ints_at (tv_at h)
end Go.Vs
set_option linter.unusedVariables false
set_option linter.unusedSimpArgs false
set_option maxRecDepth 100000
set_option maxHeartbeats 4000000
namespace Go.Vs
open Go.Proofs
attribute [local irreducible] exec vwp thenQ blkQ loopQ RetPost
theorem area5 {p q : Int} (hp : 0 ≤ p ∧ p ≤ 4) (hq : 0 ≤ q ∧ q ≤ 4) : 1 ≤ (1 + p) * (1 + q) ∧ (1 + p) * (1 + q) ≤ 25 := by
  have h1 : (1 + p) * (1 + q) ≤ 5 * 5 := Int.mul_le_mul aO aO aO aO
  have h2 : (1 : Int) * 1 ≤ (1 + p) * (1 + q) := Int.mul_le_mul aO aO aO aO
  omega
theorem k_terrain (c : Cu) (hc : c.Ok) (hp : c.pos + 100 ≤ 1152921504606846976) :
    ContractP Try.prog 144 true [.own (io, 0) 0 0] [cuRow c] (fun r' fin' => ∃ (t : Terrain) (c' : Cu), (r' = .agg [.int .i64 t.width, .int .i64 t.height, .olist 3 1 (ints t.burn)] ∧ fin' = [[c'.pv]]) ∧ Aft c c' 100 ∧ (1 ≤ t.width ∧ t.width ≤ 5) ∧ (1 ≤ t.height ∧ t.height ≤ 5) ∧ 1 ≤ t.burn.length ∧ t.burn.length ≤ 25) := by
  obtain ⟨r1, c1, k1, a1, g0, g1, _⟩ := k_pick c 5 hc aO aO
  have g1 := g1 aO
  have o1 := a1.ok hc aO
  have p1 := a1.pos
  obtain ⟨r2, c2, k2, a2, g2, g3, _⟩ := k_pick c1 5 o1 aO aO
  have g3 := g3 aO
  have o2 := a2.ok o1 aO
  have p2 := a2.pos
  have har := area5 (p := r1) (q := r2) aO aO
  refine za8 hmix Try.func144 rfl (by kernel_rfl) (by kernel_rfl) (Nat.le_of_ble_eq_true rfl) (fun row h => by (simp only [List.mem_cons, List.not_mem_nil, or_false] at h; first | (subst h; (first | exact .inl rfl | exact .inr (fun e he u hu => by (simp only [List.mem_cons, List.not_mem_nil, or_false] at he; subst he; simp only [List.mem_cons, List.not_mem_nil, or_false] at hu; subst hu; rfl)))) | (rcases h with rfl | rfl <;> (first | exact .inl rfl | exact .inr (fun e he u hu => by (simp only [List.mem_cons, List.not_mem_nil, or_false] at he; subst he; simp only [List.mem_cons, List.not_mem_nil, or_false] at hu; subst hu; rfl)))) | (rcases h with rfl | rfl | rfl <;> (first | exact .inl rfl | exact .inr (fun e he u hu => by (simp only [List.mem_cons, List.not_mem_nil, or_false] at he; subst he; simp only [List.mem_cons, List.not_mem_nil, or_false] at hu; subst hu; rfl)))) | (rcases h with rfl | rfl | rfl | rfl <;> (first | exact .inl rfl | exact .inr (fun e he u hu => by (simp only [List.mem_cons, List.not_mem_nil, or_false] at he; subst he; simp only [List.mem_cons, List.not_mem_nil, or_false] at hu; subst hu; rfl)))))) ?_
  have hty_a26 := ty_a26
  have hty_z26 := ty_z26
  have hty_s24 := ty_s24
  have hty_st26 := ty_st26
  have hty_t26 := ty_t26
  have hty_f26_0 := ty_f26_0
  have hty_c3 := ty_c3
  have hty_f26_1 := ty_f26_1
  have hty_f26_2 := ty_f26_2
  have hty_c24 := ty_c24
  have hty_u24 := ty_u24
  have hty_t24 := ty_t24
  repeat' (first
      | (refine za5 ?_; first | (refine za6 ?_; refine zat _ rfl ?_) | (refine zad ?_; refine zaa _ rfl ?_) | (refine zbv ?_; first | (refine zby rfl rfl aO ?_) | (refine zci rfl rfl aO ?_) | (refine zbu _ rfl rfl rfl ?_) | (refine zaw _ rfl rfl rfl ?_)) | (refine zbf ?_; first | (refine zac aA rfl ?_) | (refine zah _ aA rfl rfl aE rfl ?_) | (refine zaf _ aA rfl aZ aL ?_) | (refine zak _ aA rfl rfl aE aZ aL ?_)) | (refine zbm ?_; first | (refine zay _ aA rfl aL ?_) | (refine zax _ aA rfl rfl (by simp only [lx, Nat.reduceAdd]; first | done | rfl) ?_)) | (refine zbd ?_; first | (refine zb9 [(io, 0)] (k1) rfl rfl (by (repeat' (first | exact trivial | refine ⟨⟨_, rfl, ?_⟩, ?_⟩ | exact .inl ⟨rfl, .inl rfl⟩ | exact .inr ⟨rfl, rfl, rfl, rfl, rfl, fun e he u hu => by (simp only [List.mem_cons, List.not_mem_nil, or_false] at he; subst he; simp only [List.mem_cons, List.not_mem_nil, or_false] at hu; subst hu; rfl)⟩ | exact .inl ⟨rfl, .inr (fun e he => by (simp only [List.mem_cons, List.not_mem_nil, or_false] at he; subst he; rfl))⟩ | fail)); first | done | fail) rfl rfl aS rfl aH rfl ?_; simp only [cl]) | (refine zb9 [(io, 0)] (k2) rfl rfl (by (repeat' (first | exact trivial | refine ⟨⟨_, rfl, ?_⟩, ?_⟩ | exact .inl ⟨rfl, .inl rfl⟩ | exact .inr ⟨rfl, rfl, rfl, rfl, rfl, fun e he u hu => by (simp only [List.mem_cons, List.not_mem_nil, or_false] at he; subst he; simp only [List.mem_cons, List.not_mem_nil, or_false] at hu; subst hu; rfl)⟩ | exact .inl ⟨rfl, .inr (fun e he => by (simp only [List.mem_cons, List.not_mem_nil, or_false] at he; subst he; rfl))⟩ | fail)); first | done | fail) rfl rfl aS rfl aH rfl ?_; simp only [cl]) | (refine zb4 _ _ aA rfl (lookM (by rfl)) rfl (lookM (by rfl)) rfl aN ⟨rfl, rfl, by decide, by decide⟩ (by first | rfl | omega | (simp; done) | (simp; omega) | fail) ⟨by first | (simp only [List.length_cons, List.length_nil]; omega) | omega | fail, by decide⟩ rfl (by first | (first | (simp only [lx, Nat.reduceAdd]; first | done | rfl) | fail) | rfl) aP ?_) | (refine zb3 _ _ aA rfl rfl (lookM (by rfl)) ⟨rfl, by decide⟩ aN (by first | exact Nat.succ_pos _ | omega | (simp; done)) ⟨by first | (simp only [List.length_cons, List.length_nil]; omega) | omega | fail, by decide⟩ rfl rfl aP ?_) | (refine zb5 _ aA rfl rfl (lookM (by rfl)) ⟨rfl, by decide⟩ aN ⟨by first | (simp only [List.length_cons, List.length_nil]; omega) | omega | fail, by decide⟩ rfl aP ?_) | (refine zb0 _ aA rfl rfl rfl ⟨rfl, rfl, rfl, by decide, by decide⟩ (by first | rfl | (simp; done) | fail) ⟨by omega, by decide⟩ rfl aL (by first | (rw [Nat.zero_add]) | rfl) ?_)) | (refine za7 aA rfl rfl rfl ?_) | (refine zcg _ _ aA rfl rfl (by simp [buildPV, PV.cells]; first | done | rfl) ?_) | (refine zcc _ aA rfl ?_) | (refine zb2 aA rfl ?_) | (refine zbo _ _ _ rfl rfl aE (by first | assumption | (exact TAgg.size aA)) rfl rfl rfl aZ rfl aL (by first | (first | (simp only [lx, Nat.reduceAdd]; first | done | rfl) | fail) | rfl) ?_) | (refine zas (hK _ _ (.inl rfl) ?_); clear hK K) | (refine zas (hK _ _ (.inr (by kernel_rfl)) ?_); clear hK K))
      | (refine za3 ?_; first | (refine zbp ?_) | (refine zaj (fun K hK => ?_)) | (refine zan ?_) | (refine za4 ?_) | (refine zbq ?_) | (refine za1 ?_) | (refine zbg ?_; first | (refine zam rfl aD ?_) | (refine zal rfl aD ?_) | (refine zaz rfl (fun h => ?_) (fun h => ?_) <;> (have h' := h; (try simp only [sx] at h')))))
      | (refine za2 ?_) | (refine zai ?_) | (refine zae ?_) | (refine zaq ?_) | (refine zar ?_) | (refine zao ?_) | (refine zap rfl ?_) | (refine zab ?_) | (refine zag ?_) | (refine zbr ?_))
  all_goals try (exfalso; omega)
  refine zcd [0, 2, 3] [(io, 0), (3, 0), (1001, 0)] (fun q : Cu × List (List PV) × Nat => [(4, .int .i64 q.2.2)]) (fun q : Cu × List (List PV) × Nat => [((io, 0), some (cuRow q.1)), ((3, 0), some ⟨26, 3, [[.int .i64 (1 + r1), .int .i64 (1 + r2), .osl (1001, 0) 0 q.2.2]], true⟩), ((1001, 0), some ⟨3, 1, q.2.1, false⟩)]) (fun q : Cu × List (List PV) × Nat => Aft c2 q.1 (2 * q.2.2) ∧ (q.2.2 : Int) ≤ (1 + r1) * (1 + r2) ∧ ∃ b : List Int, q.2.1 = ints b ∧ b.length = q.2.2) (fun q : Cu × List (List PV) × Nat => ((1 + r1) * (1 + r2) - q.2.2).toNat) ((c2, [], 0)) rfl rfl (fun _ => rfl) (fun _ => rfl) rfl aW ⟨Aft.refl c2, by simp only; omega, [], rfl, rfl⟩ (fun q hq => ?_)
  obtain ⟨d, es, m⟩ := q
  obtain ⟨ad, hm, b, hes, hlen⟩ := hq
  simp only at ad hm hes hlen
  dsimp only
  have hel : es.length = m := by rw [hes, ints_len, hlen]
  have hme := hel.symm
  have od := ad.ok o2 aO
  have pd := ad.pos
  by_cases hlt : (m : Int) < (1 + r1) * (1 + r2)
  · obtain ⟨x, c3, k3, a3, _⟩ := k_among d [0, 0, 1, 1, 2, 3, 5, 9, 20] od aO (by decide)
    repeat' (first
      | (refine za5 ?_; first | (refine za6 ?_; refine zat _ rfl ?_) | (refine zad ?_; refine zaa _ rfl ?_) | (refine zbv ?_; first | (refine zby rfl rfl aO ?_) | (refine zci rfl rfl aO ?_) | (refine zbu _ rfl rfl rfl ?_) | (refine zaw _ rfl rfl rfl ?_)) | (refine zbf ?_; first | (refine zac aA rfl ?_) | (refine zah _ aA rfl rfl aE rfl ?_) | (refine zaf _ aA rfl aZ aL ?_) | (refine zak _ aA rfl rfl aE aZ aL ?_)) | (refine zbm ?_; first | (refine zay _ aA rfl aL ?_) | (refine zax _ aA rfl rfl (by simp only [lx, Nat.reduceAdd]; first | done | rfl) ?_)) | (refine zbd ?_; first | (refine zb9 [(io, 0)] (k3) rfl rfl (by (repeat' (first | exact trivial | refine ⟨⟨_, rfl, ?_⟩, ?_⟩ | exact .inl ⟨rfl, .inl rfl⟩ | exact .inr ⟨rfl, rfl, rfl, rfl, rfl, fun e he u hu => by (simp only [List.mem_cons, List.not_mem_nil, or_false] at he; subst he; simp only [List.mem_cons, List.not_mem_nil, or_false] at hu; subst hu; rfl)⟩ | exact .inl ⟨rfl, .inr (fun e he => by (simp only [List.mem_cons, List.not_mem_nil, or_false] at he; subst he; rfl))⟩ | fail)); first | done | fail) rfl rfl aS rfl aH rfl ?_; simp only [cl]) | (refine zb4 _ _ aA rfl (lookM (by rfl)) rfl (lookM (by rfl)) rfl aN ⟨rfl, rfl, by decide, by decide⟩ (by first | rfl | omega | (simp; done) | (simp; omega) | fail) ⟨by first | (simp only [List.length_cons, List.length_nil]; omega) | omega | fail, by decide⟩ rfl (by first | (first | (simp only [lx, Nat.reduceAdd]; first | done | rfl) | fail) | rfl) aP ?_) | (refine zb3 _ _ aA rfl rfl (lookM (by rfl)) ⟨rfl, by decide⟩ aN (by first | exact Nat.succ_pos _ | omega | (simp; done)) ⟨by first | (simp only [List.length_cons, List.length_nil]; omega) | omega | fail, by decide⟩ rfl rfl aP ?_) | (refine zb5 _ aA rfl rfl (lookM (by rfl)) ⟨rfl, by decide⟩ aN ⟨by first | (simp only [List.length_cons, List.length_nil]; omega) | omega | fail, by decide⟩ rfl aP ?_) | (refine zb0 _ aA rfl rfl rfl ⟨rfl, rfl, rfl, by decide, by decide⟩ (by first | rfl | (simp; done) | fail) ⟨by omega, by decide⟩ rfl aL (by first | (rw [Nat.zero_add]) | rfl) ?_)) | (refine za7 aA rfl rfl rfl ?_) | (refine zcg _ _ aA rfl rfl (by simp [buildPV, PV.cells]; first | done | rfl) ?_) | (refine zcc _ aA rfl ?_) | (refine zb2 aA rfl ?_) | (refine zbo _ _ _ rfl rfl aE (by first | assumption | (exact TAgg.size aA)) rfl rfl rfl aZ rfl aL (by first | (first | (simp only [lx, Nat.reduceAdd]; first | done | rfl) | fail) | rfl) ?_) | (refine zas (hK _ _ (.inl rfl) ?_); clear hK K) | (refine zas (hK _ _ (.inr (by kernel_rfl)) ?_); clear hK K))
      | (refine za3 ?_; first | (refine zbp ?_) | (refine zaj (fun K hK => ?_)) | (refine zan ?_) | (refine za4 ?_) | (refine zbq ?_) | (refine za1 ?_) | (refine zbg ?_; first | (refine zam rfl aD ?_) | (refine zal rfl aD ?_) | (refine zaz rfl (fun h => ?_) (fun h => ?_) <;> (have h' := h; (try simp only [sx] at h')))))
      | (refine za2 ?_) | (refine zai ?_) | (refine zae ?_) | (refine zaq ?_) | (refine zar ?_) | (refine zao ?_) | (refine zap rfl ?_) | (refine zab ?_) | (refine zag ?_) | (refine zbr ?_))
    all_goals try (exfalso; omega)
    all_goals (refine zcb (c3, es ++ [[.int .i64 x]], m + 1) rfl aW ⟨(ad.trans a3).le (by simp only; omega), by simp only; omega, b ++ [x], by simp [hes], by simp [hlen]⟩ (by simp only; omega))
  · repeat' (first
      | (refine za5 ?_; first | (refine za6 ?_; refine zat _ rfl ?_) | (refine zad ?_; refine zaa _ rfl ?_) | (refine zbv ?_; first | (refine zby rfl rfl aO ?_) | (refine zci rfl rfl aO ?_) | (refine zbu _ rfl rfl rfl ?_) | (refine zaw _ rfl rfl rfl ?_)) | (refine zbf ?_; first | (refine zac aA rfl ?_) | (refine zah _ aA rfl rfl aE rfl ?_) | (refine zaf _ aA rfl aZ aL ?_) | (refine zak _ aA rfl rfl aE aZ aL ?_)) | (refine zbm ?_; first | (refine zay _ aA rfl aL ?_) | (refine zax _ aA rfl rfl (by simp only [lx, Nat.reduceAdd]; first | done | rfl) ?_)) | (refine zbd ?_; first | (refine zb4 _ _ aA rfl (lookM (by rfl)) rfl (lookM (by rfl)) rfl aN ⟨rfl, rfl, by decide, by decide⟩ (by first | rfl | omega | (simp; done) | (simp; omega) | fail) ⟨by first | (simp only [List.length_cons, List.length_nil]; omega) | omega | fail, by decide⟩ rfl (by first | (first | (simp only [lx, Nat.reduceAdd]; first | done | rfl) | fail) | rfl) aP ?_) | (refine zb3 _ _ aA rfl rfl (lookM (by rfl)) ⟨rfl, by decide⟩ aN (by first | exact Nat.succ_pos _ | omega | (simp; done)) ⟨by first | (simp only [List.length_cons, List.length_nil]; omega) | omega | fail, by decide⟩ rfl rfl aP ?_) | (refine zb5 _ aA rfl rfl (lookM (by rfl)) ⟨rfl, by decide⟩ aN ⟨by first | (simp only [List.length_cons, List.length_nil]; omega) | omega | fail, by decide⟩ rfl aP ?_) | (refine zb0 _ aA rfl rfl rfl ⟨rfl, rfl, rfl, by decide, by decide⟩ (by first | rfl | (simp; done) | fail) ⟨by omega, by decide⟩ rfl aL (by first | (rw [Nat.zero_add]) | rfl) ?_)) | (refine za7 aA rfl rfl rfl ?_) | (refine zcg _ _ aA rfl rfl (by simp [buildPV, PV.cells]; first | done | rfl) ?_) | (refine zcc _ aA rfl ?_) | (refine zb2 aA rfl ?_) | (refine zbo _ _ _ rfl rfl aE (by first | assumption | (exact TAgg.size aA)) rfl rfl rfl aZ rfl aL (by first | (first | (simp only [lx, Nat.reduceAdd]; first | done | rfl) | fail) | rfl) ?_) | (refine zas (hK _ _ (.inl rfl) ?_); clear hK K) | (refine zas (hK _ _ (.inr (by kernel_rfl)) ?_); clear hK K))
      | (refine za3 ?_; first | (refine zbp ?_) | (refine zaj (fun K hK => ?_)) | (refine zan ?_) | (refine za4 ?_) | (refine zbq ?_) | (refine za1 ?_) | (refine zbg ?_; first | (refine zam rfl aD ?_) | (refine zal rfl aD ?_) | (refine zaz rfl (fun h => ?_) (fun h => ?_) <;> (have h' := h; (try simp only [sx] at h')))))
      | (refine za2 ?_) | (refine zai ?_) | (refine zae ?_) | (refine zaq ?_) | (refine zar ?_) | (refine zao ?_) | (refine zap rfl ?_) | (refine zab ?_) | (refine zag ?_) | (refine zbr ?_))
    all_goals first
      | (exfalso; omega)
      | (refine RetPost.mono (fun r fin h => ⟨⟨1 + r1, 1 + r2, b⟩, d, h, ((a1.trans a2).trans ad).le aO, by simp only; omega, by simp only; omega, by simp only; omega, by simp only; omega⟩) ?_
         ((first | refine ret_TL rfl rfl rfl (by first | exact trivial | (repeat' (first | exact trivial | refine ⟨by assumption, ?_⟩))) (by repeat' (first | exact trivial | refine ⟨by simp, ?_⟩)) (by first | exact trivial | exact ⟨⟨rfl, rfl, fun h => by cases h⟩, trivial⟩) ?_ | refine ret_AL rfl rfl rfl (by first | exact trivial | (repeat' (first | exact trivial | refine ⟨by assumption, ?_⟩))) (by repeat' (first | exact trivial | refine ⟨by simp, ?_⟩)) (by first | exact trivial | exact ⟨⟨rfl, rfl, fun h => by cases h⟩, trivial⟩) ?_); (repeat' (first | exact et_end | exact el_end | refine et_int rfl ?_ ?_ | refine et_bool ?_ ?_ | refine et_str ?_ ?_ | refine et_lst rfl rfl ?_ ?_ | refine et_listA rfl (by rfl) (by decide) rfl rfl ?_ ?_ ?_ | refine et_nil ?_ ?_ | refine et_agg0 ?_ ?_ | refine et_agg ?_ ?_ | refine el_int rfl ?_ ?_ | refine el_bool ?_ ?_ | refine el_str ?_ ?_ | refine el_lst rfl rfl ?_ ?_ | refine el_listA rfl (by rfl) (by decide) rfl rfl ?_ ?_ ?_ | refine el_nil ?_ ?_)) <;> (first | rfl | assumption | (simp; done) | omega)))
def TrSz (t : Terrain) : Prop := (0 ≤ t.width ∧ t.width ≤ 6) ∧ (0 ≤ t.height ∧ t.height ≤ 6) ∧ 1 ≤ t.burn.length ∧ t.burn.length ≤ 26
theorem k_anyTerrain (c : Cu) (hc : c.Ok) (hp : c.pos + 200 ≤ 1152921504606846976) :
    ContractP Try.prog 118 true [.own (io, 0) 0 0] [cuRow c] (fun r' fin' => ∃ (t : Terrain) (c' : Cu), (r' = .agg [.int .i64 t.width, .int .i64 t.height, .olist 3 1 (ints t.burn)] ∧ fin' = [[c'.pv]]) ∧ Aft c c' 200 ∧ TrSz t) := by
  refine za8 hmix Try.func118 rfl (by kernel_rfl) (by kernel_rfl) (Nat.le_of_ble_eq_true rfl) (fun row h => by (simp only [List.mem_cons, List.not_mem_nil, or_false] at h; first | (subst h; (first | exact .inl rfl | exact .inr (fun e he u hu => by (simp only [List.mem_cons, List.not_mem_nil, or_false] at he; subst he; simp only [List.mem_cons, List.not_mem_nil, or_false] at hu; subst hu; rfl)))) | (rcases h with rfl | rfl <;> (first | exact .inl rfl | exact .inr (fun e he u hu => by (simp only [List.mem_cons, List.not_mem_nil, or_false] at he; subst he; simp only [List.mem_cons, List.not_mem_nil, or_false] at hu; subst hu; rfl)))) | (rcases h with rfl | rfl | rfl <;> (first | exact .inl rfl | exact .inr (fun e he u hu => by (simp only [List.mem_cons, List.not_mem_nil, or_false] at he; subst he; simp only [List.mem_cons, List.not_mem_nil, or_false] at hu; subst hu; rfl)))) | (rcases h with rfl | rfl | rfl | rfl <;> (first | exact .inl rfl | exact .inr (fun e he u hu => by (simp only [List.mem_cons, List.not_mem_nil, or_false] at he; subst he; simp only [List.mem_cons, List.not_mem_nil, or_false] at hu; subst hu; rfl)))))) ?_
  have hty_a26 := ty_a26
  have hty_z26 := ty_z26
  have hty_t26 := ty_t26
  have hty_f26_0 := ty_f26_0
  have hty_c3 := ty_c3
  have hty_s24 := ty_s24
  have hty_u24 := ty_u24
  have hty_t3 := ty_t3
  have hty_f26_1 := ty_f26_1
  have hty_f26_2 := ty_f26_2
  have hty_c24 := ty_c24
  have hty_t24 := ty_t24
  repeat' (first
      | (refine za5 ?_; first | (refine za6 ?_; refine zat _ rfl ?_) | (refine zad ?_; refine zaa _ rfl ?_) | (refine zbv ?_; first | (refine zby rfl rfl aO ?_) | (refine zbu _ rfl rfl rfl ?_) | (refine zbt aA rfl rfl ?_) | (refine zaw _ rfl rfl rfl ?_)) | (refine zbf ?_; first | (refine zac aA rfl ?_) | (refine zah _ aA rfl rfl aE rfl ?_) | (refine zaf _ aA rfl aZ aL ?_) | (refine zak _ aA rfl rfl aE aZ aL ?_)) | (refine zbm ?_; first | (refine zay _ aA rfl aL ?_) | (refine zax _ aA rfl rfl (by simp only [lx, Nat.reduceAdd]; first | done | rfl) ?_)) | (refine zbe ?_; first | (refine zau _ aA rfl rfl aO aA ?_) | (refine zav _ aA rfl rfl rfl rfl aO aO (by first | (rw [Nat.zero_add, Int.toNat_natCast]) | (rw [Nat.zero_add]) | rfl) ?_)) | (refine zbd ?_; first | (refine x_callLP [(io, 0)] (k_terrain c hc aO) rfl rfl (by (repeat' (first | exact trivial | refine ⟨⟨_, rfl, ?_⟩, ?_⟩ | exact .inl ⟨rfl, .inl rfl⟩ | exact .inr ⟨rfl, rfl, rfl, rfl, rfl, fun e he u hu => by (simp only [List.mem_cons, List.not_mem_nil, or_false] at he; subst he; simp only [List.mem_cons, List.not_mem_nil, or_false] at hu; subst hu; rfl)⟩ | exact .inl ⟨rfl, .inr (fun e he => by (simp only [List.mem_cons, List.not_mem_nil, or_false] at he; subst he; rfl))⟩ | fail)); first | done | fail) rfl rfl aS rfl (fun r_ fin_ hP_ => ?_); obtain ⟨t, c1, ⟨rfl, rfl⟩, a1, hw, hh, hl1, hl2⟩ := hP_; refine ⟨_, _, _, aH, rfl, ?_⟩; simp only [cl]) | (refine za9 aA rfl ?_) | (refine zbc aA rfl rfl ?_) | (refine zba aA rfl ?_) | (refine zbb aA (evO_ok rfl) ?_) | (refine zb4 _ _ aA rfl (lookM (by rfl)) rfl (lookM (by rfl)) rfl aN ⟨rfl, rfl, by decide, by decide⟩ (by first | rfl | omega | (simp; done) | (simp; omega) | fail) ⟨by first | (simp only [List.length_cons, List.length_nil]; omega) | omega | fail, by decide⟩ rfl (by first | (first | (simp only [lx, Nat.reduceAdd]; first | done | rfl) | fail) | rfl) aP ?_) | (refine zb3 _ _ aA rfl rfl (lookM (by rfl)) ⟨rfl, by decide⟩ aN (by first | exact Nat.succ_pos _ | omega | (simp; done)) ⟨by first | (simp only [List.length_cons, List.length_nil]; omega) | omega | fail, by decide⟩ rfl rfl aP ?_) | (refine zb5 _ aA rfl rfl (lookM (by rfl)) ⟨rfl, by decide⟩ aN ⟨by first | (simp only [List.length_cons, List.length_nil]; omega) | omega | fail, by decide⟩ rfl aP ?_) | (refine zb0 _ aA rfl rfl rfl ⟨rfl, rfl, rfl, by decide, by decide⟩ (by first | rfl | (simp; done) | fail) ⟨by omega, by decide⟩ rfl aL (by first | (rw [Nat.zero_add]) | rfl) ?_)) | (refine za7 aA rfl rfl rfl ?_) | (refine zcc _ aA rfl ?_) | (refine zb2 aA rfl ?_) | (refine zbo _ _ _ rfl rfl aE (by first | assumption | (exact TAgg.size aA)) rfl rfl rfl aZ rfl aL (by first | (first | (simp only [lx, Nat.reduceAdd]; first | done | rfl) | fail) | rfl) ?_) | (refine zas (hK _ _ (.inl rfl) ?_); clear hK K) | (refine zas (hK _ _ (.inr (by kernel_rfl)) ?_); clear hK K))
      | (refine za3 ?_; first | (refine zbp ?_) | (refine zaj (fun K hK => ?_)) | (refine zan ?_) | (refine za4 ?_) | (refine zbq ?_) | (refine za1 ?_) | (refine zbg ?_; first | (refine zam rfl aD ?_) | (refine zal rfl aD ?_) | (refine zaz rfl (fun h => ?_) (fun h => ?_) <;> (have h' := h; (try simp only [sx] at h')))))
      | (refine za2 ?_) | (refine zai ?_) | (refine zae ?_) | (refine zaq ?_) | (refine zar ?_) | (refine zao ?_) | (refine zap rfl ?_) | (refine zab ?_) | (refine zag ?_) | (refine zbr ?_))
  have o1 := a1.ok hc aO
  have p1 := a1.pos
  obtain ⟨r, c2, k2, a2, g0, g1, _⟩ := k_pick c1 32 o1 aO aO
  have o2 := a2.ok o1 aO
  have p2 := a2.pos
  have aft2 := a1.trans a2
  have hil : (ints t.burn).length = t.burn.length := by simp
  by_cases e0 : r = 0
  · obtain ⟨x, c3, k3, a3, hx⟩ := k_among c2 [0, 6, t.width + 1] o2 aO (by simp)
    have hx6 : 0 ≤ x ∧ x ≤ 6 := by simp at hx; omega
    repeat' (first
      | (refine za5 ?_; first | (refine za6 ?_; refine zat _ rfl ?_) | (refine zad ?_; refine zaa _ rfl ?_) | (refine zbv ?_; first | (refine zby rfl rfl aO ?_) | (refine zbu _ rfl rfl rfl ?_) | (refine zbt aA rfl rfl ?_) | (refine zaw _ rfl rfl rfl ?_)) | (refine zbf ?_; first | (refine zac aA rfl ?_) | (refine zah _ aA rfl rfl aE rfl ?_) | (refine zaf _ aA rfl aZ aL ?_) | (refine zak _ aA rfl rfl aE aZ aL ?_)) | (refine zbm ?_; first | (refine zay _ aA rfl aL ?_) | (refine zax _ aA rfl rfl (by simp only [lx, Nat.reduceAdd]; first | done | rfl) ?_)) | (refine zbe ?_; first | (refine zau _ aA rfl rfl aO aA ?_) | (refine zav _ aA rfl rfl rfl rfl aO aO (by first | (rw [Nat.zero_add, Int.toNat_natCast]) | (rw [Nat.zero_add]) | rfl) ?_)) | (refine zbd ?_; first | (refine zb9 [(io, 0)] (k2) rfl rfl (by (repeat' (first | exact trivial | refine ⟨⟨_, rfl, ?_⟩, ?_⟩ | exact .inl ⟨rfl, .inl rfl⟩ | exact .inr ⟨rfl, rfl, rfl, rfl, rfl, fun e he u hu => by (simp only [List.mem_cons, List.not_mem_nil, or_false] at he; subst he; simp only [List.mem_cons, List.not_mem_nil, or_false] at hu; subst hu; rfl)⟩ | exact .inl ⟨rfl, .inr (fun e he => by (simp only [List.mem_cons, List.not_mem_nil, or_false] at he; subst he; rfl))⟩ | fail)); first | done | fail) rfl rfl aS rfl aH rfl ?_; simp only [cl]) | (refine zb9 [(io, 0)] (k3) rfl rfl (by (repeat' (first | exact trivial | refine ⟨⟨_, rfl, ?_⟩, ?_⟩ | exact .inl ⟨rfl, .inl rfl⟩ | exact .inr ⟨rfl, rfl, rfl, rfl, rfl, fun e he u hu => by (simp only [List.mem_cons, List.not_mem_nil, or_false] at he; subst he; simp only [List.mem_cons, List.not_mem_nil, or_false] at hu; subst hu; rfl)⟩ | exact .inl ⟨rfl, .inr (fun e he => by (simp only [List.mem_cons, List.not_mem_nil, or_false] at he; subst he; rfl))⟩ | fail)); first | done | fail) rfl rfl aS rfl aH rfl ?_; simp only [cl]) | (refine za9 aA rfl ?_) | (refine zbc aA rfl rfl ?_) | (refine zba aA rfl ?_) | (refine zbb aA (evO_ok rfl) ?_) | (refine zb4 _ _ aA rfl (lookM (by rfl)) rfl (lookM (by rfl)) rfl aN ⟨rfl, rfl, by decide, by decide⟩ (by first | rfl | omega | (simp; done) | (simp; omega) | fail) ⟨by first | (simp only [List.length_cons, List.length_nil]; omega) | omega | fail, by decide⟩ rfl (by first | (first | (simp only [lx, Nat.reduceAdd]; first | done | rfl) | fail) | rfl) aP ?_) | (refine zb3 _ _ aA rfl rfl (lookM (by rfl)) ⟨rfl, by decide⟩ aN (by first | exact Nat.succ_pos _ | omega | (simp; done)) ⟨by first | (simp only [List.length_cons, List.length_nil]; omega) | omega | fail, by decide⟩ rfl rfl aP ?_) | (refine zb5 _ aA rfl rfl (lookM (by rfl)) ⟨rfl, by decide⟩ aN ⟨by first | (simp only [List.length_cons, List.length_nil]; omega) | omega | fail, by decide⟩ rfl aP ?_) | (refine zb0 _ aA rfl rfl rfl ⟨rfl, rfl, rfl, by decide, by decide⟩ (by first | rfl | (simp; done) | fail) ⟨by omega, by decide⟩ rfl aL (by first | (rw [Nat.zero_add]) | rfl) ?_)) | (refine za7 aA rfl rfl rfl ?_) | (refine zcc _ aA rfl ?_) | (refine zb2 aA rfl ?_) | (refine zbo _ _ _ rfl rfl aE (by first | assumption | (exact TAgg.size aA)) rfl rfl rfl aZ rfl aL (by first | (first | (simp only [lx, Nat.reduceAdd]; first | done | rfl) | fail) | rfl) ?_) | (refine zas (hK _ _ (.inl rfl) ?_); clear hK K) | (refine zas (hK _ _ (.inr (by kernel_rfl)) ?_); clear hK K))
      | (refine za3 ?_; first | (refine zbp ?_) | (refine zaj (fun K hK => ?_)) | (refine zan ?_) | (refine za4 ?_) | (refine zbq ?_) | (refine za1 ?_) | (refine zbg ?_; first | (refine zam rfl aD ?_) | (refine zal rfl aD ?_) | (refine zaz rfl (fun h => ?_) (fun h => ?_) <;> (have h' := h; (try simp only [sx] at h')))))
      | (refine za2 ?_) | (refine zai ?_) | (refine zae ?_) | (refine zaq ?_) | (refine zar ?_) | (refine zao ?_) | (refine zap rfl ?_) | (refine zab ?_) | (refine zag ?_) | (refine zbr ?_))
    all_goals first
      | (exfalso; omega)
      | (refine RetPost.mono (fun r fin h => ⟨⟨x, t.height, t.burn⟩, c3, h, (aft2.trans a3).le aO, hx6, by simp only; omega, hl1, by simp only; omega⟩) ?_
         ((first | refine ret_TL rfl rfl rfl (by first | exact trivial | (repeat' (first | exact trivial | refine ⟨by assumption, ?_⟩))) (by repeat' (first | exact trivial | refine ⟨by simp, ?_⟩)) (by first | exact trivial | exact ⟨⟨rfl, rfl, fun h => by cases h⟩, trivial⟩) ?_ | refine ret_AL rfl rfl rfl (by first | exact trivial | (repeat' (first | exact trivial | refine ⟨by assumption, ?_⟩))) (by repeat' (first | exact trivial | refine ⟨by simp, ?_⟩)) (by first | exact trivial | exact ⟨⟨rfl, rfl, fun h => by cases h⟩, trivial⟩) ?_); (repeat' (first | exact et_end | exact el_end | refine et_int rfl ?_ ?_ | refine et_bool ?_ ?_ | refine et_str ?_ ?_ | refine et_lst rfl rfl ?_ ?_ | refine et_listA rfl (by rfl) (by decide) rfl rfl ?_ ?_ ?_ | refine et_nil ?_ ?_ | refine et_agg0 ?_ ?_ | refine et_agg ?_ ?_ | refine el_int rfl ?_ ?_ | refine el_bool ?_ ?_ | refine el_str ?_ ?_ | refine el_lst rfl rfl ?_ ?_ | refine el_listA rfl (by rfl) (by decide) rfl rfl ?_ ?_ ?_ | refine el_nil ?_ ?_)) <;> (first | rfl | assumption | (simp; done) | omega)))
  · by_cases e1 : r = 1
    · obtain ⟨x, c3, k3, a3, hx⟩ := k_among c2 [0, 6, t.height + 1] o2 aO (by simp)
      have hx6 : 0 ≤ x ∧ x ≤ 6 := by simp at hx; omega
      repeat' (first
      | (refine za5 ?_; first | (refine za6 ?_; refine zat _ rfl ?_) | (refine zad ?_; refine zaa _ rfl ?_) | (refine zbv ?_; first | (refine zby rfl rfl aO ?_) | (refine zbu _ rfl rfl rfl ?_) | (refine zbt aA rfl rfl ?_) | (refine zaw _ rfl rfl rfl ?_)) | (refine zbf ?_; first | (refine zac aA rfl ?_) | (refine zah _ aA rfl rfl aE rfl ?_) | (refine zaf _ aA rfl aZ aL ?_) | (refine zak _ aA rfl rfl aE aZ aL ?_)) | (refine zbm ?_; first | (refine zay _ aA rfl aL ?_) | (refine zax _ aA rfl rfl (by simp only [lx, Nat.reduceAdd]; first | done | rfl) ?_)) | (refine zbe ?_; first | (refine zau _ aA rfl rfl aO aA ?_) | (refine zav _ aA rfl rfl rfl rfl aO aO (by first | (rw [Nat.zero_add, Int.toNat_natCast]) | (rw [Nat.zero_add]) | rfl) ?_)) | (refine zbd ?_; first | (refine zb9 [(io, 0)] (k2) rfl rfl (by (repeat' (first | exact trivial | refine ⟨⟨_, rfl, ?_⟩, ?_⟩ | exact .inl ⟨rfl, .inl rfl⟩ | exact .inr ⟨rfl, rfl, rfl, rfl, rfl, fun e he u hu => by (simp only [List.mem_cons, List.not_mem_nil, or_false] at he; subst he; simp only [List.mem_cons, List.not_mem_nil, or_false] at hu; subst hu; rfl)⟩ | exact .inl ⟨rfl, .inr (fun e he => by (simp only [List.mem_cons, List.not_mem_nil, or_false] at he; subst he; rfl))⟩ | fail)); first | done | fail) rfl rfl aS rfl aH rfl ?_; simp only [cl]) | (refine zb9 [(io, 0)] (k3) rfl rfl (by (repeat' (first | exact trivial | refine ⟨⟨_, rfl, ?_⟩, ?_⟩ | exact .inl ⟨rfl, .inl rfl⟩ | exact .inr ⟨rfl, rfl, rfl, rfl, rfl, fun e he u hu => by (simp only [List.mem_cons, List.not_mem_nil, or_false] at he; subst he; simp only [List.mem_cons, List.not_mem_nil, or_false] at hu; subst hu; rfl)⟩ | exact .inl ⟨rfl, .inr (fun e he => by (simp only [List.mem_cons, List.not_mem_nil, or_false] at he; subst he; rfl))⟩ | fail)); first | done | fail) rfl rfl aS rfl aH rfl ?_; simp only [cl]) | (refine za9 aA rfl ?_) | (refine zbc aA rfl rfl ?_) | (refine zba aA rfl ?_) | (refine zbb aA (evO_ok rfl) ?_) | (refine zb4 _ _ aA rfl (lookM (by rfl)) rfl (lookM (by rfl)) rfl aN ⟨rfl, rfl, by decide, by decide⟩ (by first | rfl | omega | (simp; done) | (simp; omega) | fail) ⟨by first | (simp only [List.length_cons, List.length_nil]; omega) | omega | fail, by decide⟩ rfl (by first | (first | (simp only [lx, Nat.reduceAdd]; first | done | rfl) | fail) | rfl) aP ?_) | (refine zb3 _ _ aA rfl rfl (lookM (by rfl)) ⟨rfl, by decide⟩ aN (by first | exact Nat.succ_pos _ | omega | (simp; done)) ⟨by first | (simp only [List.length_cons, List.length_nil]; omega) | omega | fail, by decide⟩ rfl rfl aP ?_) | (refine zb5 _ aA rfl rfl (lookM (by rfl)) ⟨rfl, by decide⟩ aN ⟨by first | (simp only [List.length_cons, List.length_nil]; omega) | omega | fail, by decide⟩ rfl aP ?_) | (refine zb0 _ aA rfl rfl rfl ⟨rfl, rfl, rfl, by decide, by decide⟩ (by first | rfl | (simp; done) | fail) ⟨by omega, by decide⟩ rfl aL (by first | (rw [Nat.zero_add]) | rfl) ?_)) | (refine za7 aA rfl rfl rfl ?_) | (refine zcc _ aA rfl ?_) | (refine zb2 aA rfl ?_) | (refine zbo _ _ _ rfl rfl aE (by first | assumption | (exact TAgg.size aA)) rfl rfl rfl aZ rfl aL (by first | (first | (simp only [lx, Nat.reduceAdd]; first | done | rfl) | fail) | rfl) ?_) | (refine zas (hK _ _ (.inl rfl) ?_); clear hK K) | (refine zas (hK _ _ (.inr (by kernel_rfl)) ?_); clear hK K))
      | (refine za3 ?_; first | (refine zbp ?_) | (refine zaj (fun K hK => ?_)) | (refine zan ?_) | (refine za4 ?_) | (refine zbq ?_) | (refine za1 ?_) | (refine zbg ?_; first | (refine zam rfl aD ?_) | (refine zal rfl aD ?_) | (refine zaz rfl (fun h => ?_) (fun h => ?_) <;> (have h' := h; (try simp only [sx] at h')))))
      | (refine za2 ?_) | (refine zai ?_) | (refine zae ?_) | (refine zaq ?_) | (refine zar ?_) | (refine zao ?_) | (refine zap rfl ?_) | (refine zab ?_) | (refine zag ?_) | (refine zbr ?_))
      all_goals first
        | (exfalso; omega)
        | (refine RetPost.mono (fun r fin h => ⟨⟨t.width, x, t.burn⟩, c3, h, (aft2.trans a3).le aO, by simp only; omega, hx6, hl1, by simp only; omega⟩) ?_
           ((first | refine ret_TL rfl rfl rfl (by first | exact trivial | (repeat' (first | exact trivial | refine ⟨by assumption, ?_⟩))) (by repeat' (first | exact trivial | refine ⟨by simp, ?_⟩)) (by first | exact trivial | exact ⟨⟨rfl, rfl, fun h => by cases h⟩, trivial⟩) ?_ | refine ret_AL rfl rfl rfl (by first | exact trivial | (repeat' (first | exact trivial | refine ⟨by assumption, ?_⟩))) (by repeat' (first | exact trivial | refine ⟨by simp, ?_⟩)) (by first | exact trivial | exact ⟨⟨rfl, rfl, fun h => by cases h⟩, trivial⟩) ?_); (repeat' (first | exact et_end | exact el_end | refine et_int rfl ?_ ?_ | refine et_bool ?_ ?_ | refine et_str ?_ ?_ | refine et_lst rfl rfl ?_ ?_ | refine et_listA rfl (by rfl) (by decide) rfl rfl ?_ ?_ ?_ | refine et_nil ?_ ?_ | refine et_agg0 ?_ ?_ | refine et_agg ?_ ?_ | refine el_int rfl ?_ ?_ | refine el_bool ?_ ?_ | refine el_str ?_ ?_ | refine el_lst rfl rfl ?_ ?_ | refine el_listA rfl (by rfl) (by decide) rfl rfl ?_ ?_ ?_ | refine el_nil ?_ ?_)) <;> (first | rfl | assumption | (simp; done) | omega)))
    · by_cases e2 : r = 2
      · obtain ⟨k, c3, k3, a3, g2, g3, _⟩ := k_pick c2 t.burn.length o2 aO aO
        have g3 := g3 aO
        have o3 := a3.ok o2 aO
        have p3 := a3.pos
        obtain ⟨x, c4, k4, a4, _⟩ := k_among c3 [-1, 20, 21] o3 aO (by decide)
        obtain ⟨y, hy⟩ := get_ex (show k.toNat < t.burn.length by omega)
        have hy2 := ints_at hy
        have e := ints_set t.burn k.toNat x
        rw [← hil] at k3
        repeat' (first
      | (refine za5 ?_; first | (refine za6 ?_; refine zat _ rfl ?_) | (refine zad ?_; refine zaa _ rfl ?_) | (refine zbv ?_; first | (refine zby rfl rfl aO ?_) | (refine zbu _ rfl rfl rfl ?_) | (refine zbt aA rfl rfl ?_) | (refine zaw _ rfl rfl rfl ?_)) | (refine zbf ?_; first | (refine zac aA rfl ?_) | (refine zah _ aA rfl rfl aE rfl ?_) | (refine zaf _ aA rfl aZ aL ?_) | (refine zak _ aA rfl rfl aE aZ aL ?_)) | (refine zbm ?_; first | (refine zay _ aA rfl aL ?_) | (refine zax _ aA rfl rfl (by simp only [lx, Nat.reduceAdd]; first | done | rfl) ?_)) | (refine zbe ?_; first | (refine zau _ aA rfl rfl aO aA ?_) | (refine zav _ aA rfl rfl rfl rfl aO aO (by first | (rw [Nat.zero_add, Int.toNat_natCast]) | (rw [Nat.zero_add]) | rfl) ?_)) | (refine zbd ?_; first | (refine zb9 [(io, 0)] (k2) rfl rfl (by (repeat' (first | exact trivial | refine ⟨⟨_, rfl, ?_⟩, ?_⟩ | exact .inl ⟨rfl, .inl rfl⟩ | exact .inr ⟨rfl, rfl, rfl, rfl, rfl, fun e he u hu => by (simp only [List.mem_cons, List.not_mem_nil, or_false] at he; subst he; simp only [List.mem_cons, List.not_mem_nil, or_false] at hu; subst hu; rfl)⟩ | exact .inl ⟨rfl, .inr (fun e he => by (simp only [List.mem_cons, List.not_mem_nil, or_false] at he; subst he; rfl))⟩ | fail)); first | done | fail) rfl rfl aS rfl aH rfl ?_; simp only [cl]) | (refine zb9 [(io, 0)] (k3) rfl rfl (by (repeat' (first | exact trivial | refine ⟨⟨_, rfl, ?_⟩, ?_⟩ | exact .inl ⟨rfl, .inl rfl⟩ | exact .inr ⟨rfl, rfl, rfl, rfl, rfl, fun e he u hu => by (simp only [List.mem_cons, List.not_mem_nil, or_false] at he; subst he; simp only [List.mem_cons, List.not_mem_nil, or_false] at hu; subst hu; rfl)⟩ | exact .inl ⟨rfl, .inr (fun e he => by (simp only [List.mem_cons, List.not_mem_nil, or_false] at he; subst he; rfl))⟩ | fail)); first | done | fail) rfl rfl aS rfl aH rfl ?_; simp only [cl]) | (refine zb9 [(io, 0)] (k4) rfl rfl (by (repeat' (first | exact trivial | refine ⟨⟨_, rfl, ?_⟩, ?_⟩ | exact .inl ⟨rfl, .inl rfl⟩ | exact .inr ⟨rfl, rfl, rfl, rfl, rfl, fun e he u hu => by (simp only [List.mem_cons, List.not_mem_nil, or_false] at he; subst he; simp only [List.mem_cons, List.not_mem_nil, or_false] at hu; subst hu; rfl)⟩ | exact .inl ⟨rfl, .inr (fun e he => by (simp only [List.mem_cons, List.not_mem_nil, or_false] at he; subst he; rfl))⟩ | fail)); first | done | fail) rfl rfl aS rfl aH rfl ?_; simp only [cl]) | (refine za9 aA rfl ?_) | (refine zbc aA rfl rfl ?_) | (refine zba aA rfl ?_) | (refine zbb aA (evO_ok rfl) ?_) | (refine zb4 _ _ aA rfl (lookM (by rfl)) rfl (lookM (by rfl)) rfl aN ⟨rfl, rfl, by decide, by decide⟩ (by first | rfl | omega | (simp; done) | (simp; omega) | fail) ⟨by first | (simp only [List.length_cons, List.length_nil]; omega) | omega | fail, by decide⟩ rfl (by first | (first | (simp only [lx, Nat.reduceAdd]; first | done | rfl) | fail) | rfl) aP ?_) | (refine zb3 _ _ aA rfl rfl (lookM (by rfl)) ⟨rfl, by decide⟩ aN (by first | exact Nat.succ_pos _ | omega | (simp; done)) ⟨by first | (simp only [List.length_cons, List.length_nil]; omega) | omega | fail, by decide⟩ rfl rfl aP ?_) | (refine zb5 _ aA rfl rfl (lookM (by rfl)) ⟨rfl, by decide⟩ aN ⟨by first | (simp only [List.length_cons, List.length_nil]; omega) | omega | fail, by decide⟩ rfl aP ?_) | (refine zb0 _ aA rfl rfl rfl ⟨rfl, rfl, rfl, by decide, by decide⟩ (by first | rfl | (simp; done) | fail) ⟨by omega, by decide⟩ rfl aL (by first | (rw [Nat.zero_add]) | rfl) ?_)) | (refine za7 aA rfl rfl rfl ?_) | (refine zcc _ aA rfl ?_) | (refine zb2 aA rfl ?_) | (refine zbo _ _ _ rfl rfl aE (by first | assumption | (exact TAgg.size aA)) rfl rfl rfl aZ rfl aL (by first | (first | (simp only [lx, Nat.reduceAdd]; first | done | rfl) | fail) | rfl) ?_) | (refine zas (hK _ _ (.inl rfl) ?_); clear hK K) | (refine zas (hK _ _ (.inr (by kernel_rfl)) ?_); clear hK K))
      | (refine za3 ?_; first | (refine zbp ?_) | (refine zaj (fun K hK => ?_)) | (refine zan ?_) | (refine za4 ?_) | (refine zbq ?_) | (refine za1 ?_) | (refine zbg ?_; first | (refine zam rfl aD ?_) | (refine zal rfl aD ?_) | (refine zaz rfl (fun h => ?_) (fun h => ?_) <;> (have h' := h; (try simp only [sx] at h')))))
      | (refine za2 ?_) | (refine zai ?_) | (refine zae ?_) | (refine zaq ?_) | (refine zar ?_) | (refine zao ?_) | (refine zap rfl ?_) | (refine zab ?_) | (refine zag ?_) | (refine zbr ?_))
        all_goals first
          | (exfalso; omega)
          | (refine RetPost.mono (fun r fin h => ⟨⟨t.width, t.height, t.burn.set k.toNat x⟩, c4, h, ((aft2.trans a3).trans a4).le aO, by simp only; omega, by simp only; omega, by simp only [List.length_set]; omega, by simp only [List.length_set]; omega⟩) ?_
             (first | refine ret_TL rfl rfl rfl (by first | exact trivial | (repeat' (first | exact trivial | refine ⟨by assumption, ?_⟩))) (by repeat' (first | exact trivial | refine ⟨by simp, ?_⟩)) (by first | exact trivial | exact ⟨⟨rfl, rfl, fun h => by cases h⟩, trivial⟩) ?_ | refine ret_AL rfl rfl rfl (by first | exact trivial | (repeat' (first | exact trivial | refine ⟨by assumption, ?_⟩))) (by repeat' (first | exact trivial | refine ⟨by simp, ?_⟩)) (by first | exact trivial | exact ⟨⟨rfl, rfl, fun h => by cases h⟩, trivial⟩) ?_); (repeat' (first | exact et_end | exact el_end | refine et_int rfl ?_ ?_ | refine et_bool ?_ ?_ | refine et_str ?_ ?_ | refine et_lst rfl rfl ?_ ?_ | refine et_listA rfl (by rfl) (by decide) rfl rfl ?_ ?_ ?_ | refine et_nil ?_ ?_ | refine et_agg0 ?_ ?_ | refine et_agg ?_ ?_ | refine el_int rfl ?_ ?_ | refine el_bool ?_ ?_ | refine el_str ?_ ?_ | refine el_lst rfl rfl ?_ ?_ | refine el_listA rfl (by rfl) (by decide) rfl rfl ?_ ?_ ?_ | refine el_nil ?_ ?_)) <;> first | rfl | (simp [e]; done) | (simp; done) | omega)
      · by_cases e3 : r = 3
        · repeat' (first
      | (refine za5 ?_; first | (refine za6 ?_; refine zat _ rfl ?_) | (refine zad ?_; refine zaa _ rfl ?_) | (refine zbv ?_; first | (refine zby rfl rfl aO ?_) | (refine zbu _ rfl rfl rfl ?_) | (refine zbt aA rfl rfl ?_) | (refine zaw _ rfl rfl rfl ?_)) | (refine zbf ?_; first | (refine zac aA rfl ?_) | (refine zah _ aA rfl rfl aE rfl ?_) | (refine zaf _ aA rfl aZ aL ?_) | (refine zak _ aA rfl rfl aE aZ aL ?_)) | (refine zbm ?_; first | (refine zay _ aA rfl aL ?_) | (refine zax _ aA rfl rfl (by simp only [lx, Nat.reduceAdd]; first | done | rfl) ?_)) | (refine zbe ?_; first | (refine zau _ aA rfl rfl aO aA ?_) | (refine zav _ aA rfl rfl rfl rfl aO aO (by first | (rw [Nat.zero_add, Int.toNat_natCast]) | (rw [Nat.zero_add]) | rfl) ?_)) | (refine zbd ?_; first | (refine zb9 [(io, 0)] (k2) rfl rfl (by (repeat' (first | exact trivial | refine ⟨⟨_, rfl, ?_⟩, ?_⟩ | exact .inl ⟨rfl, .inl rfl⟩ | exact .inr ⟨rfl, rfl, rfl, rfl, rfl, fun e he u hu => by (simp only [List.mem_cons, List.not_mem_nil, or_false] at he; subst he; simp only [List.mem_cons, List.not_mem_nil, or_false] at hu; subst hu; rfl)⟩ | exact .inl ⟨rfl, .inr (fun e he => by (simp only [List.mem_cons, List.not_mem_nil, or_false] at he; subst he; rfl))⟩ | fail)); first | done | fail) rfl rfl aS rfl aH rfl ?_; simp only [cl]) | (refine za9 aA rfl ?_) | (refine zbc aA rfl rfl ?_) | (refine zba aA rfl ?_) | (refine zbb aA (evO_ok rfl) ?_) | (refine zb4 _ _ aA rfl (lookM (by rfl)) rfl (lookM (by rfl)) rfl aN ⟨rfl, rfl, by decide, by decide⟩ (by first | rfl | omega | (simp; done) | (simp; omega) | fail) ⟨by first | (simp only [List.length_cons, List.length_nil]; omega) | omega | fail, by decide⟩ rfl (by first | (first | (simp only [lx, Nat.reduceAdd]; first | done | rfl) | fail) | rfl) aP ?_) | (refine zb3 _ _ aA rfl rfl (lookM (by rfl)) ⟨rfl, by decide⟩ aN (by first | exact Nat.succ_pos _ | omega | (simp; done)) ⟨by first | (simp only [List.length_cons, List.length_nil]; omega) | omega | fail, by decide⟩ rfl rfl aP ?_) | (refine zb5 _ aA rfl rfl (lookM (by rfl)) ⟨rfl, by decide⟩ aN ⟨by first | (simp only [List.length_cons, List.length_nil]; omega) | omega | fail, by decide⟩ rfl aP ?_) | (refine zb0 _ aA rfl rfl rfl ⟨rfl, rfl, rfl, by decide, by decide⟩ (by first | rfl | (simp; done) | fail) ⟨by omega, by decide⟩ rfl aL (by first | (rw [Nat.zero_add]) | rfl) ?_)) | (refine za7 aA rfl rfl rfl ?_) | (refine zcc _ aA rfl ?_) | (refine zb2 aA rfl ?_) | (refine zbo _ _ _ rfl rfl aE (by first | assumption | (exact TAgg.size aA)) rfl rfl rfl aZ rfl aL (by first | (first | (simp only [lx, Nat.reduceAdd]; first | done | rfl) | fail) | rfl) ?_) | (refine zas (hK _ _ (.inl rfl) ?_); clear hK K) | (refine zas (hK _ _ (.inr (by kernel_rfl)) ?_); clear hK K))
      | (refine za3 ?_; first | (refine zbp ?_) | (refine zaj (fun K hK => ?_)) | (refine zan ?_) | (refine za4 ?_) | (refine zbq ?_) | (refine za1 ?_) | (refine zbg ?_; first | (refine zam rfl aD ?_) | (refine zal rfl aD ?_) | (refine zaz rfl (fun h => ?_) (fun h => ?_) <;> (have h' := h; (try simp only [sx] at h')))))
      | (refine za2 ?_) | (refine zai ?_) | (refine zae ?_) | (refine zaq ?_) | (refine zar ?_) | (refine zao ?_) | (refine zap rfl ?_) | (refine zab ?_) | (refine zag ?_) | (refine zbr ?_))
          all_goals first
            | (exfalso; omega)
            | (refine RetPost.mono (fun r fin h => ⟨⟨t.width, t.height, t.burn ++ [1]⟩, c2, h, aft2.le aO, by simp only; omega, by simp only; omega, by simp, by simp; omega⟩) ?_
               (first | refine ret_TL rfl rfl rfl (by first | exact trivial | (repeat' (first | exact trivial | refine ⟨by assumption, ?_⟩))) (by repeat' (first | exact trivial | refine ⟨by simp, ?_⟩)) (by first | exact trivial | exact ⟨⟨rfl, rfl, fun h => by cases h⟩, trivial⟩) ?_ | refine ret_AL rfl rfl rfl (by first | exact trivial | (repeat' (first | exact trivial | refine ⟨by assumption, ?_⟩))) (by repeat' (first | exact trivial | refine ⟨by simp, ?_⟩)) (by first | exact trivial | exact ⟨⟨rfl, rfl, fun h => by cases h⟩, trivial⟩) ?_); (repeat' (first | exact et_end | exact el_end | refine et_int rfl ?_ ?_ | refine et_bool ?_ ?_ | refine et_str ?_ ?_ | refine et_lst rfl rfl ?_ ?_ | refine et_listA rfl (by rfl) (by decide) rfl rfl ?_ ?_ ?_ | refine et_nil ?_ ?_ | refine et_agg0 ?_ ?_ | refine et_agg ?_ ?_ | refine el_int rfl ?_ ?_ | refine el_bool ?_ ?_ | refine el_str ?_ ?_ | refine el_lst rfl rfl ?_ ?_ | refine el_listA rfl (by rfl) (by decide) rfl rfl ?_ ?_ ?_ | refine el_nil ?_ ?_)) <;> first | rfl | (simp; done) | omega)
        · repeat' (first
      | (refine za5 ?_; first | (refine za6 ?_; refine zat _ rfl ?_) | (refine zad ?_; refine zaa _ rfl ?_) | (refine zbv ?_; first | (refine zby rfl rfl aO ?_) | (refine zbu _ rfl rfl rfl ?_) | (refine zbt aA rfl rfl ?_) | (refine zaw _ rfl rfl rfl ?_)) | (refine zbf ?_; first | (refine zac aA rfl ?_) | (refine zah _ aA rfl rfl aE rfl ?_) | (refine zaf _ aA rfl aZ aL ?_) | (refine zak _ aA rfl rfl aE aZ aL ?_)) | (refine zbm ?_; first | (refine zay _ aA rfl aL ?_) | (refine zax _ aA rfl rfl (by simp only [lx, Nat.reduceAdd]; first | done | rfl) ?_)) | (refine zbe ?_; first | (refine zau _ aA rfl rfl aO aA ?_) | (refine zav _ aA rfl rfl rfl rfl aO aO (by first | (rw [Nat.zero_add, Int.toNat_natCast]) | (rw [Nat.zero_add]) | rfl) ?_)) | (refine zbd ?_; first | (refine zb9 [(io, 0)] (k2) rfl rfl (by (repeat' (first | exact trivial | refine ⟨⟨_, rfl, ?_⟩, ?_⟩ | exact .inl ⟨rfl, .inl rfl⟩ | exact .inr ⟨rfl, rfl, rfl, rfl, rfl, fun e he u hu => by (simp only [List.mem_cons, List.not_mem_nil, or_false] at he; subst he; simp only [List.mem_cons, List.not_mem_nil, or_false] at hu; subst hu; rfl)⟩ | exact .inl ⟨rfl, .inr (fun e he => by (simp only [List.mem_cons, List.not_mem_nil, or_false] at he; subst he; rfl))⟩ | fail)); first | done | fail) rfl rfl aS rfl aH rfl ?_; simp only [cl]) | (refine za9 aA rfl ?_) | (refine zbc aA rfl rfl ?_) | (refine zba aA rfl ?_) | (refine zbb aA (evO_ok rfl) ?_) | (refine zb4 _ _ aA rfl (lookM (by rfl)) rfl (lookM (by rfl)) rfl aN ⟨rfl, rfl, by decide, by decide⟩ (by first | rfl | omega | (simp; done) | (simp; omega) | fail) ⟨by first | (simp only [List.length_cons, List.length_nil]; omega) | omega | fail, by decide⟩ rfl (by first | (first | (simp only [lx, Nat.reduceAdd]; first | done | rfl) | fail) | rfl) aP ?_) | (refine zb3 _ _ aA rfl rfl (lookM (by rfl)) ⟨rfl, by decide⟩ aN (by first | exact Nat.succ_pos _ | omega | (simp; done)) ⟨by first | (simp only [List.length_cons, List.length_nil]; omega) | omega | fail, by decide⟩ rfl rfl aP ?_) | (refine zb5 _ aA rfl rfl (lookM (by rfl)) ⟨rfl, by decide⟩ aN ⟨by first | (simp only [List.length_cons, List.length_nil]; omega) | omega | fail, by decide⟩ rfl aP ?_) | (refine zb0 _ aA rfl rfl rfl ⟨rfl, rfl, rfl, by decide, by decide⟩ (by first | rfl | (simp; done) | fail) ⟨by omega, by decide⟩ rfl aL (by first | (rw [Nat.zero_add]) | rfl) ?_)) | (refine za7 aA rfl rfl rfl ?_) | (refine zcc _ aA rfl ?_) | (refine zb2 aA rfl ?_) | (refine zbo _ _ _ rfl rfl aE (by first | assumption | (exact TAgg.size aA)) rfl rfl rfl aZ rfl aL (by first | (first | (simp only [lx, Nat.reduceAdd]; first | done | rfl) | fail) | rfl) ?_) | (refine zas (hK _ _ (.inl rfl) ?_); clear hK K) | (refine zas (hK _ _ (.inr (by kernel_rfl)) ?_); clear hK K))
      | (refine za3 ?_; first | (refine zbp ?_) | (refine zaj (fun K hK => ?_)) | (refine zan ?_) | (refine za4 ?_) | (refine zbq ?_) | (refine za1 ?_) | (refine zbg ?_; first | (refine zam rfl aD ?_) | (refine zal rfl aD ?_) | (refine zaz rfl (fun h => ?_) (fun h => ?_) <;> (have h' := h; (try simp only [sx] at h')))))
      | (refine za2 ?_) | (refine zai ?_) | (refine zae ?_) | (refine zaq ?_) | (refine zar ?_) | (refine zao ?_) | (refine zap rfl ?_) | (refine zab ?_) | (refine zag ?_) | (refine zbr ?_))
          all_goals first
            | (exfalso; omega)
            | (refine RetPost.mono (fun r fin h => ⟨t, c2, h, aft2.le aO, by omega, by omega, by omega, by omega⟩) ?_
               (first | refine ret_TL rfl rfl rfl (by first | exact trivial | (repeat' (first | exact trivial | refine ⟨by assumption, ?_⟩))) (by repeat' (first | exact trivial | refine ⟨by simp, ?_⟩)) (by first | exact trivial | exact ⟨⟨rfl, rfl, fun h => by cases h⟩, trivial⟩) ?_ | refine ret_AL rfl rfl rfl (by first | exact trivial | (repeat' (first | exact trivial | refine ⟨by assumption, ?_⟩))) (by repeat' (first | exact trivial | refine ⟨by simp, ?_⟩)) (by first | exact trivial | exact ⟨⟨rfl, rfl, fun h => by cases h⟩, trivial⟩) ?_); (repeat' (first | exact et_end | exact el_end | refine et_int rfl ?_ ?_ | refine et_bool ?_ ?_ | refine et_str ?_ ?_ | refine et_lst rfl rfl ?_ ?_ | refine et_listA rfl (by rfl) (by decide) rfl rfl ?_ ?_ ?_ | refine et_nil ?_ ?_ | refine et_agg0 ?_ ?_ | refine et_agg ?_ ?_ | refine el_int rfl ?_ ?_ | refine el_bool ?_ ?_ | refine el_str ?_ ?_ | refine el_lst rfl rfl ?_ ?_ | refine el_listA rfl (by rfl) (by decide) rfl rfl ?_ ?_ ?_ | refine el_nil ?_ ?_)) <;> first | rfl | (simp; done) | omega)
theorem k_anyTerrainZ (c : Cu) (hc : c.Ok) (hp : c.pos + 200 ≤ 1152921504606846976) :
    ContractP Try.prog 118 true [.own (io, 0) 0 0] [cuRow c] (fun r' fin' => ∃ (t : Terrain) (c' : Cu), (r' = .agg t.pv ∧ fin' = [[c'.pv]]) ∧ Aft c c' 200 ∧ TrSz t) := by
  refine ContractP.mono ?_ (ConL.frzP (k_anyTerrain c hc hp) (by rintro r fin ⟨t, c', ⟨rfl, rfl⟩, _⟩; rfl) (by intro row h; simp at h; subst h; rfl))
  rintro r fin ⟨r', rfl, t, c', ⟨rfl, rfl⟩, h⟩
  exact ⟨t, c', ⟨rfl, rfl⟩, h⟩
end Go.Vs
set_option linter.unusedVariables false
set_option linter.unusedSimpArgs false
set_option maxRecDepth 100000
set_option maxHeartbeats 4000000
namespace Go.Vs
open Go.Proofs
attribute [local irreducible] exec vwp thenQ blkQ loopQ RetPost
structure Phase where
  (frm : Int)
  (speed : Int)
  deriving DecidableEq
@[reducible] def Phase.pv (c : Phase) : List PV := [.int .i64 c.frm, .int .i64 c.speed]
theorem Phase.at {xs : List Phase} {i : Nat} {a : Phase} (h : xs[i]? = some a) : (xs.map Phase.pv)[i]? = some [.int .i64 a.frm, .int .i64 a.speed] := by simp [h]
theorem Phase.flat (xs : List Phase) : ∀ e ∈ xs.map Phase.pv, ∀ c ∈ e, c.flat = true := by
  intro e he c hc
  obtain ⟨a, _, rfl⟩ := List.mem_map.1 he
  simp only [Phase.pv, List.mem_cons, List.not_mem_nil, or_false] at hc
  rcases hc with rfl | rfl <;> rfl
end Go.Vs
set_option linter.unusedVariables false
set_option linter.unusedSimpArgs false
set_option maxRecDepth 100000
set_option maxHeartbeats 4000000
namespace Go.Vs
open Go.Proofs
attribute [local irreducible] exec vwp thenQ blkQ loopQ RetPost
def kPut (l : List Int) (n : Int) : Nat := (l.takeWhile fun x => decide (x < n)).length
def put (l : List Int) (n : Int) : List Int := if l[kPut l n]? = some n then l else l.take (kPut l n) ++ (n :: l.drop (kPut l n))
theorem kPut_is : ∀ {l : List Int} {n : Int} {k : Nat}, k ≤ l.length → (∀ (j : Nat) x, j < k → l[j]? = some x → x < n) → (∀ x, l[k]? = some x → ¬ x < n) → kPut l n = k
  | [], n, k, hk, _, _ => by simp at hk; subst hk; rfl
  | a :: l, n, k, hk, h1, h2 => by
    unfold kPut
    cases k with
    | zero =>
      have := h2 a rfl
      rw [List.takeWhile_cons_of_neg (by simpa using this)]
      rfl
    | succ k =>
      have h0 := h1 0 a aO rfl
      rw [List.takeWhile_cons_of_pos (by simpa using h0), List.length_cons]
      have := kPut_is (l := l) (n := n) (k := k) (by simpa using hk) (fun j x hj hx => h1 (j + 1) x aO (by simpa using hx)) (fun x hx => h2 x (by simpa using hx))
      unfold kPut at this
      rw [this]
theorem kPut_le (l : List Int) (n : Int) : kPut l n ≤ l.length := (List.takeWhile_prefix _).length_le
theorem put_len (l : List Int) (n : Int) : (put l n).length ≤ l.length + 1 := by
  have := kPut_le l n
  unfold put
  split
  · omega
  · simp; omega
theorem rise_ext : ∀ {a b : List Int}, a.Pairwise (· < ·) → b.Pairwise (· < ·) → (∀ x, x ∈ a ↔ x ∈ b) → a = b
  | [], [], _, _, _ => rfl
  | [], y :: b, _, _, h => by have := (h y).2 (by simp); cases this
  | x :: a, [], _, _, h => by have := (h x).1 (by simp); cases this
  | x :: a, y :: b, ha, hb, h => by
    rw [List.pairwise_cons] at ha hb
    have hxy : x = y := by
      have h1 := (h x).1 (by simp)
      have h2 := (h y).2 (by simp)
      rcases List.mem_cons.1 h1 with h1 | h1
      · exact h1
      · rcases List.mem_cons.1 h2 with h2 | h2
        · exact h2.symm
        · have := hb.1 x h1; have := ha.1 y h2; omega
    subst hxy
    rw [rise_ext ha.2 hb.2 fun z => ?_]
    have hz := h z
    simp only [List.mem_cons] at hz
    constructor
    · intro hm
      rcases hz.1 (.inr hm) with rfl | h2
      · have := ha.1 z hm; omega
      · exact h2
    · intro hm
      rcases hz.2 (.inr hm) with rfl | h2
      · have := hb.1 z hm; omega
      · exact h2
end Go.Vs
set_option linter.unusedVariables false
set_option linter.unusedSimpArgs false
namespace Go.Vs
def ContractR (P : Program) (f : FuncId) (args : List PV) (ios mvs : List Row) (r : PV) (ios' mvs' : List Row) : Prop :=
  Callable P f ∧ ∀ (G : Nat → Prop) (w : World) (X : List (Option (Nat × Nat))) (ρ : Id → Option (Nat × Nat)) (cargs : Array Value),
    WRel G ρ w X (memS ios mvs) w → Comps ρ w (Stab G ρ (memS ios mvs) w) (memS ios mvs) cargs args →
    Calls P f cargs w fun e w' => ∃ v ρ', e = .returned v ∧ WRel G ρ' w X (memS ios' mvs') w' ∧ Rep ρ' w' (Stab G ρ' (memS ios' mvs') w') (memS ios' mvs') v r
section
variable {P : Program} {G G' : Nat → Prop} {ρ ρ' : Id → Option (Nat × Nat)} {w0 w : World} {X : List (Option (Nat × Nat))} {M M' : Mem}
theorem callR_sound (hW : WRel G ρ w0 X M w) {f : FuncId} {cargs : Array Value} {xs ys : List PV} {d : Nat} {ids mids rd : List Id} {ios mvs ios' mvs' : List Row} {r : PV}
    (hc : Comps ρ w (Stab G ρ M w) M cargs xs) (ok : CallOkS M d xs ys ids mids rd ios mvs ios' mvs') (hC : ContractR P f ys ios mvs r ios' mvs') (hrr : refsD 5 (namesS ios.length mvs.length) r = true) :
    Calls P f cargs w fun e w' => ∃ v ρ2, e = .returned v ∧ Trans G ρ M w ρ2 (M.upds (upsS d ids mids rd ios' mvs')) w' ∧
      WRel G ρ2 w0 X (M.upds (upsS d ids mids rd ios' mvs')) w' ∧ Rep ρ2 w' (Stab G ρ2 (M.upds (upsS d ids mids rd ios' mvs')) w') (M.upds (upsS d ids mids rd ios' mvs')) v (subD 5 (outS ids d) r) := by
  have hnd := List.nodup_append.1 ok.nodup
  have hdis : ∀ id, id ∈ ids → id ∉ mids := fun id h1 h2 => hnd.2.2 id h1 id h2 rfl
  have liveI : ∀ (k : Nat) id, ids[k]? = some id → ∃ row, ios[k]? = some row ∧ M id = some (some (sbr (inS ids mids) row)) ∧ refsR (namesS ios.length mvs.length) row := fun k id hk => by
    have hlt : k < ios.length := by rw [← ok.len]; exact (List.getElem?_eq_some_iff.1 hk).1
    exact ⟨_, List.getElem?_eq_getElem hlt, ok.lent k id _ hk (List.getElem?_eq_getElem hlt)⟩
  have liveM : ∀ (k : Nat) id, mids[k]? = some id → ∃ row, mvs[k]? = some row ∧ M id = some (some (sbr (inS ids mids) row)) ∧ row.bx = false ∧ id.1 ≠ io := fun k id hk => by
    have hlt : k < mvs.length := by rw [← ok.lem]; exact (List.getElem?_eq_some_iff.1 hk).1
    exact ⟨_, List.getElem?_eq_getElem hlt, ok.lemt k id _ hk (List.getElem?_eq_getElem hlt)⟩
  have liveA : ∀ id, id ∈ ids ∨ id ∈ mids → ∃ r0, M id = some (some r0) := by
    rintro id (h | h)
    · obtain ⟨k, hk⟩ := List.getElem?_of_mem h
      obtain ⟨row, _, h2, _⟩ := liveI k id hk
      exact ⟨_, h2⟩
    · obtain ⟨k, hk⟩ := List.getElem?_of_mem h
      obtain ⟨row, _, h2, _⟩ := liveM k id hk
      exact ⟨_, h2⟩
  have nd : ∀ id x, M id = some x → id.1 ≠ d := fun id x h e => by
    rw [show id = (d, id.2) from by rw [← e], ok.free] at h
    cases h
  have hin1 : ∀ (k : Nat) id, ids[k]? = some id → inS ids mids (io, k) = id := fun k id hk => by simp [inS, hk]
  have hin2 : ∀ (k : Nat) id, mids[k]? = some id → inS ids mids (mv, k) = id := fun k id hk => by simp [inS, hk, mv_io]
  have hout1 : ∀ (k : Nat) id, ids[k]? = some id → outS ids d (io, k) = id := fun k id hk => by simp [outS, hk]
  have hout2 : ∀ k : Nat, outS ids d (mv, k) = (d, k) := fun k => by simp [outS, mv_io]
  obtain ⟨T1, W1⟩ : Trans G ρ M w ρ (M.upds (deadS rd)) w ∧ WRel G ρ w0 X (M.upds (deadS rd)) w := freeze_all hW rd (fun id hid => (ok.given id hid).2) ok.rnodup
  let ρc : Id → Option (Nat × Nat) := fun id => if id.1 = io ∨ id.1 = mv then ρ (inS ids mids id) else none
  let Xc : List (Option (Nat × Nat)) := ids.map ρ ++ mids.map ρ
  let Gc : Nat → Prop := fun b => Stab G ρ (M.upds (deadS rd)) w b ∨ w.heap.size ≤ b ∨ ∃ z, some (b, z) ∈ Xc
  have hρ1 : ∀ (k : Nat) id, ids[k]? = some id → ρc (io, k) = ρ id := fun k id hk => by simp only [ρc, true_or, if_true, hin1 k id hk]
  have hρ2 : ∀ (k : Nat) id, mids[k]? = some id → ρc (mv, k) = ρ id := fun k id hk => by simp only [ρc, or_true, if_true, hin2 k id hk]
  have hmem : ∀ id row, memS ios mvs id = some (some row) → (id = (io, id.2) ∧ ios[id.2]? = some row ∧ ∃ id', ids[id.2]? = some id') ∨ (id = (mv, id.2) ∧ mvs[id.2]? = some row ∧ ∃ id', mids[id.2]? = some id') := by
    intro id row h
    simp only [memS] at h
    split at h
    · rename_i h1
      obtain ⟨row', g1, g2⟩ := Option.map_eq_some_iff.1 h
      injection g2 with g2
      subst g2
      have hlt : id.2 < ids.length := by rw [ok.len]; exact (List.getElem?_eq_some_iff.1 g1).1
      exact .inl ⟨by rw [← h1], g1, _, List.getElem?_eq_getElem hlt⟩
    · split at h
      · rename_i h1
        obtain ⟨row', g1, g2⟩ := Option.map_eq_some_iff.1 h
        injection g2 with g2
        subst g2
        have hlt : id.2 < mids.length := by rw [ok.lem]; exact (List.getElem?_eq_some_iff.1 g1).1
        exact .inr ⟨by rw [← h1], g1, _, List.getElem?_eq_getElem hlt⟩
      · cases h
  have hlive : ∀ id row, memS ios mvs id = some (some row) → ∃ id', inS ids mids id = id' ∧ M id' = some (some (sbr (inS ids mids) row)) ∧ ρc id = ρ id' ∧ (id' ∈ ids ∨ id' ∈ mids) ∧ refsR (namesS ios.length mvs.length) row := by
    intro id row h
    rcases hmem id row h with ⟨e, h1, id', h2⟩ | ⟨e, h1, id', h2⟩
    · obtain ⟨g1, g2⟩ := ok.lent id.2 id' row h2 h1
      exact ⟨id', by rw [e]; exact hin1 _ _ h2, g1, by rw [e]; exact hρ1 _ _ h2, .inl (List.mem_of_getElem? h2), g2⟩
    · obtain ⟨g1, g2, g3⟩ := ok.lemt id.2 id' row h2 h1
      exact ⟨id', by rw [e]; exact hin2 _ _ h2, g1, by rw [e]; exact hρ2 _ _ h2, .inr (List.mem_of_getElem? h2), fun hb => by rw [g2] at hb; cases hb⟩
  have hinj : ∀ i1 r1 i2 r2, memS ios mvs i1 = some (some r1) → memS ios mvs i2 = some (some r2) → inS ids mids i1 = inS ids mids i2 → i1 = i2 := by
    intro i1 r1 i2 r2 h1 h2 he
    rcases hmem i1 r1 h1 with ⟨e1, _, j1, k1⟩ | ⟨e1, _, j1, k1⟩ <;> rcases hmem i2 r2 h2 with ⟨e2, _, j2, k2⟩ | ⟨e2, _, j2, k2⟩ <;> rw [e1, e2] at he
    · rw [hin1 _ _ k1, hin1 _ _ k2] at he
      subst he
      rw [e1, e2, nodup_inj ids _ _ _ hnd.1 k1 k2]
    · rw [hin1 _ _ k1, hin2 _ _ k2] at he
      subst he
      exact absurd (List.mem_of_getElem? k2) (hdis _ (List.mem_of_getElem? k1))
    · rw [hin2 _ _ k1, hin1 _ _ k2] at he
      subst he
      exact absurd (List.mem_of_getElem? k1) (hdis _ (List.mem_of_getElem? k2))
    · rw [hin2 _ _ k1, hin2 _ _ k2] at he
      subst he
      rw [e1, e2, nodup_inj mids _ _ _ hnd.2.1 k1 k2]
  have hXc : ∀ b z, some (b, z) ∈ Xc → ∃ id, (id ∈ ids ∨ id ∈ mids) ∧ ρ id = some (b, z) := by
    intro b z h
    rcases List.mem_append.1 h with h | h
    · obtain ⟨id, h1, h2⟩ := List.mem_map.1 h; exact ⟨id, .inl h1, h2⟩
    · obtain ⟨id, h1, h2⟩ := List.mem_map.1 h; exact ⟨id, .inr h1, h2⟩
  have hS : ∀ b, Stab G ρ M w b → Stab Gc ρc (memS ios mvs) w b := by
    intro b hb
    refine ⟨hb.1, fun id row z hl => ?_, .inl (T1.stab b hb).1⟩
    obtain ⟨id', _, g1, g2, _⟩ := hlive id row hl
    rw [g2]
    exact hb.2.1 id' _ z g1
  have hId : ∀ id ∈ rd, ∀ r b z, M id = some (some r) → ρ id = some (b, z) → Stab Gc ρc (memS ios mvs) w b := by
    intro id hid r b z hM hρ
    refine ⟨hW.lt hM hρ, fun id2 row z2 hl hh => ?_, .inl ⟨hW.lt hM hρ, fun id2 r2 z2 hl hh => ?_, ?_⟩⟩
    · obtain ⟨id', _, g1, g2, g3, _⟩ := hlive id2 row hl
      rw [g2] at hh
      have := hW.inj id id' r _ b z z2 hM g1 hρ hh
      subst this
      rcases g3 with g3 | g3
      · exact (ok.apart id hid).1 g3
      · exact (ok.apart id hid).2 g3
    · by_cases hin : id2 ∈ rd
      · rw [deadS_at M hin] at hl; cases hl
      · rw [deadS_other M hin] at hl
        have := hW.inj id id2 r r2 b z z2 hM hl hρ hh
        exact hin (by rw [← this]; exact hid)
    · have := hW.new id r hM
      rw [if_neg (ok.given id hid).1] at this
      exact hW.good b (this b z hρ)
  have hMin : ∀ id, ((namesS ios.length mvs.length).any fun k => Nat.beq k.1 id.1 && Nat.beq k.2 id.2) = true → ∃ r r', M (inS ids mids id) = some (some r) ∧ memS ios mvs id = some (some r') ∧ r'.sz = r.sz ∧ r'.ty = r.ty ∧ r'.es.length = r.es.length ∧ ρc id = ρ (inS ids mids id) := by
    intro id hid
    have hx : ∃ row, memS ios mvs id = some (some row) := by
      rcases namesS_any hid with ⟨h1, h2⟩ | ⟨h1, h2⟩
      · rw [h1]; exact ⟨ios[id.2], by simp only [memS, if_true, List.getElem?_eq_getElem h2, Option.map_some]⟩
      · rw [h1]; exact ⟨mvs[id.2], by simp only [memS, mv_io, if_false, if_true, List.getElem?_eq_getElem h2, Option.map_some]⟩
    obtain ⟨row, hrow⟩ := hx
    obtain ⟨id', g0, g1, g2, _⟩ := hlive id row hrow
    exact ⟨sbr (inS ids mids) row, row, by rw [g0]; exact g1, hrow, rfl, rfl, (sbr_len _ _).symm, by rw [g0]; exact g2⟩
  have hentry : WRel Gc ρc w Xc (memS ios mvs) w := by
    refine ⟨?_, ?_, ?_, ⟨rfl, rfl, rfl, Nat.le_refl _, fun _ _ _ => rfl, fun b cur ty fr h => ⟨cur, h, rfl⟩⟩, fun b hb => .inr hb⟩
    · intro i1 i2 r1 r2 b z1 z2 h1 h2 k1 k2
      obtain ⟨j1, e1, m1, p1, _⟩ := hlive i1 r1 h1
      obtain ⟨j2, e2, m2, p2, _⟩ := hlive i2 r2 h2
      rw [p1] at k1
      rw [p2] at k2
      have := hW.inj j1 j2 _ _ b z1 z2 m1 m2 k1 k2
      exact hinj i1 r1 i2 r2 h1 h2 (by rw [e1, e2, this])
    · intro id row hl
      obtain ⟨id', e1, m1, p1, _, href⟩ := hlive id row hl
      rw [p1]
      exact (rowOk_ren (namesS ios.length mvs.length) hMin href).1 hS (hW.row id' _ m1)
    · intro id row hl
      rcases hmem id row hl with ⟨e, h1, id', h2⟩ | ⟨e, h1, id', h2⟩
      · rw [e, if_pos rfl]
        have hlt : id.2 < (ids.map ρ).length := by rw [List.length_map]; exact (List.getElem?_eq_some_iff.1 h2).1
        show (ids.map ρ ++ mids.map ρ)[id.2]? = _
        rw [List.getElem?_append_left hlt, List.getElem?_map, h2, hρ1 _ _ h2]
        rfl
      · rw [e, if_neg mv_io]
        intro b z hb
        rw [hρ2 _ _ h2] at hb
        exact .inr ⟨z, List.mem_append_right _ (List.mem_map.2 ⟨id', List.mem_of_getElem? h2, hb⟩)⟩
  have hargs : Comps ρc w (Stab Gc ρc (memS ios mvs) w) (memS ios mvs) cargs ys :=
    comps_snap (snap_sound hW hS hId 6 ids (memS ios mvs) ρc (fun k id hk => by
      obtain ⟨row, h1, h2, h3⟩ := liveI k id hk
      exact ⟨_, row, h2, by simp only [memS, if_true, h1, Option.map_some], rfl, rfl, (sbr_len _ _).symm, hρ1 k id hk⟩)) ok.snap hc
  refine (hC.2 Gc w Xc ρc cargs hentry hargs).mono ?_
  rintro e w' ⟨v, ρ', rfl, hR, hv⟩
  have hkeep := hR.keep
  let ρ2 : Id → Option (Nat × Nat) := fun id => if id.1 = d then ρ' (mv, id.2) else ρ id
  let M2 : Mem := M.upds (upsS d ids mids rd ios' mvs')
  show ∃ v_1 ρ2, Ending.returned v = Ending.returned v_1 ∧ Trans G ρ M w ρ2 M2 w' ∧ WRel G ρ2 w0 X M2 w' ∧ Rep ρ2 w' (Stab G ρ2 M2 w') M2 v_1 (subD 5 (outS ids d) r)
  have hM2 : M2 = ((((M.upds (deadS rd)).upds (deadS mids)).upds (backS (outS ids d) ids ios')).upds (newS d (outS ids d) 0 mvs')) := by simp only [M2, upsS, upds_append]
  have m2d : ∀ k : Nat, M2 (d, k) = (mvs'[k]?).map fun row => some (sbr (outS ids d) row) := by
    intro k
    rw [hM2, newS_at _ mvs' 0 k, if_pos (Nat.zero_le _), Nat.sub_zero]
    cases mvs'[k]? with
    | some row => rfl
    | none =>
      show (((M.upds (deadS rd)).upds (deadS mids)).upds (backS (outS ids d) ids ios')) (d, k) = none
      have no : ∀ id, id ∈ ids ∨ id ∈ mids ∨ id ∈ rd → id ≠ (d, k) := fun id h e => by
        subst e
        have : ∃ r0, M (d, k) = some (some r0) := by
          rcases h with h | h | h
          · exact liveA _ (.inl h)
          · exact liveA _ (.inr h)
          · exact (ok.given _ h).2
        obtain ⟨r0, h0⟩ := this
        rw [ok.free] at h0; cases h0
      rw [upds_other _ _ _ (fun p hp e => no _ (.inl (backS_fst p hp)) e), deadS_other _ (fun h => no _ (.inr (.inl h)) rfl), deadS_other _ (fun h => no _ (.inr (.inr h)) rfl)]
      exact ok.free k
  have m2n : ∀ id, id.1 ≠ d → M2 id = (((M.upds (deadS rd)).upds (deadS mids)).upds (backS (outS ids d) ids ios')) id := fun id h => by
    rw [hM2, upds_other _ _ id (fun p hp e => h (by rw [← e]; exact newS_fst p hp))]
  have m2i : ∀ (k : Nat) id, ids[k]? = some id → ∃ row', ios'[k]? = some row' ∧ M2 id = some (some (sbr (outS ids d) row')) ∧ id.1 ≠ d := by
    intro k id hk
    have hlt : k < ios'.length := by rw [ok.len', ← ok.len]; exact (List.getElem?_eq_some_iff.1 hk).1
    obtain ⟨row, _, h2, _⟩ := liveI k id hk
    have hne := nd id _ h2
    refine ⟨_, List.getElem?_eq_getElem hlt, ?_, hne⟩
    rw [m2n id hne]
    exact backS_at _ ids ios' k id _ hnd.1 hk (List.getElem?_eq_getElem hlt)
  have m2m : ∀ id, id ∈ mids → M2 id = some none := by
    intro id h
    obtain ⟨r0, h0⟩ := liveA id (.inr h)
    rw [m2n id (nd id _ h0), upds_other _ _ _ (fun p hp e => hdis id (by rw [← e]; exact backS_fst p hp) h)]
    exact deadS_at _ h
  have m2r : ∀ id, id ∈ rd → M2 id = some none := by
    intro id h
    obtain ⟨r0, h0⟩ := (ok.given id h).2
    rw [m2n id (nd id _ h0), upds_other _ _ _ (fun p hp e => (ok.apart id h).1 (by rw [← e]; exact backS_fst p hp)), deadS_other _ (ok.apart id h).2]
    exact deadS_at _ h
  have m2o : ∀ id, id.1 ≠ d → id ∉ ids → id ∉ mids → id ∉ rd → M2 id = M id := by
    intro id h1 h2 h3 h4
    rw [m2n id h1, upds_other _ _ _ (fun p hp e => h2 (by rw [← e]; exact backS_fst p hp)), deadS_other _ h3, deadS_other _ h4]
  have old : ∀ id r2, id.1 ≠ d → M2 id = some (some r2) → id ∉ mids ∧ id ∉ rd ∧ (∃ r0, M id = some (some r0)) ∧ (id ∉ ids → M id = some (some r2)) := by
    intro id r2 h1 h2
    have n1 : id ∉ mids := fun h => by rw [m2m id h] at h2; cases h2
    have n2 : id ∉ rd := fun h => by rw [m2r id h] at h2; cases h2
    refine ⟨n1, n2, ?_, fun h => by rw [m2o id h1 h n1 n2] at h2; exact h2⟩
    by_cases h : id ∈ ids
    · exact liveA id (.inl h)
    · rw [m2o id h1 h n1 n2] at h2; exact ⟨_, h2⟩
  have outI : ∀ (k : Nat) row, ios'[k]? = some row → memS ios' mvs' (io, k) = some (some row) := fun k row h => by simp only [memS, if_true, h, Option.map_some]
  have outM : ∀ (k : Nat) row, mvs'[k]? = some row → memS ios' mvs' (mv, k) = some (some row) := fun k row h => by simp only [memS, mv_io, if_false, if_true, h, Option.map_some]
  have ρio : ∀ (k : Nat) id, ids[k]? = some id → ρ' (io, k) = ρ id := by
    intro k id hk
    obtain ⟨row', h1, _⟩ := m2i k id hk
    have := hR.new (io, k) _ (outI k row' h1)
    rw [if_pos rfl] at this
    have hlt : k < (ids.map ρ).length := by rw [List.length_map]; exact (List.getElem?_eq_some_iff.1 hk).1
    rw [show Xc[k]? = some (ρ id) from by show (ids.map ρ ++ mids.map ρ)[k]? = _; rw [List.getElem?_append_left hlt, List.getElem?_map, hk]; rfl] at this
    injection this with this
    exact this.symm
  have newM : ∀ (k : Nat) row b z, mvs'[k]? = some row → ρ' (mv, k) = some (b, z) → w.heap.size ≤ b ∨ ∃ id ∈ mids, ∃ z', ρ id = some (b, z') := by
    intro k row b z h1 hb
    have := hR.new (mv, k) _ (outM k row h1)
    rw [if_neg mv_io] at this
    rcases this b z hb with h2 | ⟨z', h2⟩
    · exact .inl h2
    · obtain ⟨id, hid | hid, he⟩ := hXc b z' h2
      · exfalso
        obtain ⟨k2, hk2⟩ := List.getElem?_of_mem hid
        obtain ⟨row', g1, _⟩ := m2i k2 id hk2
        have := hR.inj (mv, k) (io, k2) _ _ b z z' (outM k row h1) (outI k2 row' g1) hb (by rw [ρio k2 id hk2]; exact he)
        exact mv_io (congrArg Prod.fst this)
      · exact .inr ⟨id, hid, z', he⟩
  have same : ∀ b, b < w.heap.size → (∀ id, id ∈ ids ∨ id ∈ mids → ∀ z, ρ id ≠ some (b, z)) → w'.heap[b]? = w.heap[b]? := fun b hb h =>
    hkeep.block b hb fun z hm => by
      obtain ⟨id, h1, h2⟩ := hXc b z hm
      exact h id h1 z h2
  have ρ2o : ∀ id, id.1 ≠ d → ρ2 id = ρ id := fun id h => by simp only [ρ2, h, if_false]
  have ρ2d : ∀ k : Nat, ρ2 (d, k) = ρ' (mv, k) := fun k => by simp only [ρ2, if_true]
  have dcase : ∀ id r2, id.1 = d → M2 id = some (some r2) → ∃ row, mvs'[id.2]? = some row ∧ r2 = sbr (outS ids d) row := by
    intro id r2 h1 h2
    rw [show id = (d, id.2) from by rw [← h1], m2d] at h2
    obtain ⟨row, g1, g2⟩ := Option.map_eq_some_iff.1 h2
    injection g2 with g2
    exact ⟨row, g1, g2.symm⟩
  have stab2 : ∀ b, Stab Gc ρ' (memS ios' mvs') w' b → Stab G ρ2 M2 w' b := by
    intro b hb
    refine ⟨hb.1, fun id r2 z hl hh => ?_, ?_⟩
    · by_cases hit : id.1 = d
      · obtain ⟨row, h1, _⟩ := dcase id r2 hit hl
        rw [show id = (d, id.2) from by rw [← hit], ρ2d] at hh
        exact hb.2.1 (mv, id.2) row z (outM _ _ h1) hh
      · rw [ρ2o id hit] at hh
        obtain ⟨n1, n2, ⟨r0, h0⟩, n3⟩ := old id r2 hit hl
        by_cases hi : id ∈ ids
        · obtain ⟨k, hk⟩ := List.getElem?_of_mem hi
          obtain ⟨row', g1, _⟩ := m2i k id hk
          exact hb.2.1 (io, k) _ z (outI k row' g1) (by rw [ρio k id hk]; exact hh)
        · rcases hb.2.2 with hG | hG | ⟨z', hG⟩
          · exact hG.2.1 id r2 z (by rw [deadS_other M n2]; exact n3 hi) hh
          · have := hW.lt h0 hh; omega
          · obtain ⟨id', h1, h2⟩ := hXc b z' hG
            obtain ⟨r1, h3⟩ := liveA id' h1
            have := hW.inj id id' r0 r1 b z z' h0 h3 hh h2
            subst this
            rcases h1 with h1 | h1
            · exact hi h1
            · exact n1 h1
    · rcases hb.2.2 with hG | hG | ⟨z, hG⟩
      · exact hG.2.2
      · exact hW.good b (.inl (Nat.le_trans hW.keep.size hG))
      · obtain ⟨id', h1, h2⟩ := hXc b z hG
        obtain ⟨r1, h3⟩ := liveA id' h1
        have := hW.new id' r1 h3
        split at this
        · exact hW.good b (.inr ⟨z, by rw [← h2]; exact List.mem_of_getElem? this⟩)
        · exact hW.good b (this b z h2)
  have stab1 : ∀ b, Stab G ρ M w b → Stab G ρ2 M2 w' b ∧ w'.heap[b]? = w.heap[b]? := by
    intro b hb
    refine ⟨⟨Nat.lt_of_lt_of_le hb.1 hkeep.size, fun id r2 z hl hh => ?_, hb.2.2⟩, same b hb.1 fun id hid z => ?_⟩
    · by_cases hit : id.1 = d
      · obtain ⟨row, h1, _⟩ := dcase id r2 hit hl
        rw [show id = (d, id.2) from by rw [← hit], ρ2d] at hh
        rcases newM _ _ _ _ h1 hh with h2 | ⟨id', h2, z', h3⟩
        · have := hb.1; omega
        · obtain ⟨r1, h4⟩ := liveA id' (.inr h2)
          exact hb.2.1 id' r1 z' h4 h3
      · rw [ρ2o id hit] at hh
        obtain ⟨_, _, ⟨r0, h0⟩, _⟩ := old id r2 hit hl
        exact hb.2.1 id r0 z h0 hh
    · obtain ⟨r1, h4⟩ := liveA id hid
      exact hb.2.1 id r1 z h4
  have T2 : Trans G ρ M w ρ2 M2 w' := by
    refine ⟨stab1, fun id => ?_⟩
    cases hMi : M id with
    | none => trivial
    | some o =>
      have hit := nd id _ hMi
      by_cases hi : id ∈ ids
      · obtain ⟨k, hk⟩ := List.getElem?_of_mem hi
        obtain ⟨row, g1, g2, _⟩ := liveI k id hk
        obtain ⟨row', g3, g4, _⟩ := m2i k id hk
        obtain ⟨s1, s2, s3, s4, s5⟩ := ok.shape k row row' g1 g3
        rw [hMi] at g2
        injection g2 with g2
        subst g2
        refine .inr ⟨sbr (outS ids d) row', g4, s1, s2, by rw [sbr_len, sbr_len, s3]; exact Nat.le_refl _, ρ2o id hit, fun b z hb cur hcur => ?_⟩
        exact hkeep.shape b cur _ (0, 0) hcur
      · cases o with
        | none =>
          show M2 id = some none
          by_cases h1 : id ∈ mids
          · exact m2m id h1
          · by_cases h2 : id ∈ rd
            · exact m2r id h2
            · rw [m2o id hit hi h1 h2]; exact hMi
        | some r0 =>
          show M2 id = some none ∨ _
          by_cases h1 : id ∈ mids
          · exact .inl (m2m id h1)
          · by_cases h2 : id ∈ rd
            · exact .inl (m2r id h2)
            · refine .inr ⟨r0, by rw [m2o id hit hi h1 h2]; exact hMi, rfl, rfl, Nat.le_refl _, ρ2o id hit, fun b z hb cur hcur => hkeep.shape b cur _ (0, 0) hcur⟩
  have hMout : ∀ id, ((namesS ios.length mvs.length).any fun k => Nat.beq k.1 id.1 && Nat.beq k.2 id.2) = true → ∃ r r', M2 (outS ids d id) = some (some r) ∧ memS ios' mvs' id = some (some r') ∧ r'.sz = r.sz ∧ r'.ty = r.ty ∧ r'.es.length = r.es.length ∧ ρ' id = ρ2 (outS ids d id) := by
    intro id hid
    rcases namesS_any hid with ⟨h1, h2⟩ | ⟨h1, h2⟩
    · have hlt : id.2 < ids.length := by rw [ok.len]; exact h2
      have hk := List.getElem?_eq_getElem hlt
      obtain ⟨row', g1, g2, g3⟩ := m2i _ _ hk
      rw [h1]
      exact ⟨sbr (outS ids d) row', row', by rw [hout1 _ _ hk]; exact g2, outI _ _ g1, rfl, rfl, (sbr_len _ _).symm, by rw [hout1 _ _ hk, ρ2o _ g3]; exact ρio _ _ hk⟩
    · have hlt : id.2 < mvs'.length := by rw [ok.lem']; exact h2
      have hk := List.getElem?_eq_getElem hlt
      rw [h1]
      exact ⟨sbr (outS ids d) mvs'[id.2], mvs'[id.2], by rw [hout2, m2d, hk]; rfl, outM _ _ hk, rfl, rfl, (sbr_len _ _).symm, by rw [hout2, ρ2d]⟩
  refine ⟨v, ρ2, rfl, T2, ⟨?_, ?_, ?_, ?_, hW.good⟩, ?_⟩
  · intro i1 i2 r1 r2 b z1 z2 h1 h2 k1 k2
    have cross : ∀ i1 i2 r1 r2 z1 z2, i1.1 = d → i2.1 ≠ d → M2 i1 = some (some r1) → M2 i2 = some (some r2) → ρ2 i1 = some (b, z1) → ρ2 i2 = some (b, z2) → False := by
      intro i1 i2 r1 r2 z1 z2 e1 e2 h1 h2 k1 k2
      obtain ⟨row, g1, _⟩ := dcase i1 r1 e1 h1
      rw [show i1 = (d, i1.2) from by rw [← e1], ρ2d] at k1
      rw [ρ2o i2 e2] at k2
      obtain ⟨n1, _, ⟨r0, h0⟩, _⟩ := old i2 r2 e2 h2
      rcases newM _ _ _ _ g1 k1 with h3 | ⟨id', h3, z', h4⟩
      · have := hW.lt h0 k2; omega
      · obtain ⟨r3, h5⟩ := liveA id' (.inr h3)
        have := hW.inj i2 id' r0 r3 b z2 z' h0 h5 k2 h4
        exact n1 (by rw [this]; exact h3)
    by_cases e1 : i1.1 = d <;> by_cases e2 : i2.1 = d
    · obtain ⟨row1, g1, _⟩ := dcase i1 r1 e1 h1
      obtain ⟨row2, g2, _⟩ := dcase i2 r2 e2 h2
      rw [show i1 = (d, i1.2) from by rw [← e1], ρ2d] at k1
      rw [show i2 = (d, i2.2) from by rw [← e2], ρ2d] at k2
      have := hR.inj (mv, i1.2) (mv, i2.2) _ _ b z1 z2 (outM _ _ g1) (outM _ _ g2) k1 k2
      exact Prod.ext (e1.trans e2.symm) (Prod.mk.inj this).2
    · exact (cross i1 i2 r1 r2 z1 z2 e1 e2 h1 h2 k1 k2).elim
    · exact (cross i2 i1 r2 r1 z2 z1 e2 e1 h2 h1 k2 k1).elim
    · rw [ρ2o _ e1] at k1
      rw [ρ2o _ e2] at k2
      obtain ⟨_, _, ⟨q1, h3⟩, _⟩ := old i1 r1 e1 h1
      obtain ⟨_, _, ⟨q2, h4⟩, _⟩ := old i2 r2 e2 h2
      exact hW.inj i1 i2 q1 q2 b z1 z2 h3 h4 k1 k2
  · intro id r2 hl
    by_cases hit : id.1 = d
    · obtain ⟨row, h1, rfl⟩ := dcase id r2 hit hl
      rw [show id = (d, id.2) from by rw [← hit], ρ2d]
      have hb := ok.shapm row (List.mem_of_getElem? h1)
      exact (rowOk_ren (namesS ios.length mvs.length) hMout (fun h => by rw [hb] at h; cases h)).2 stab2 (hR.row (mv, id.2) row (outM _ _ h1))
    · rw [ρ2o id hit]
      by_cases hi : id ∈ ids
      · obtain ⟨k, hk⟩ := List.getElem?_of_mem hi
        obtain ⟨row, g1, g2, _⟩ := liveI k id hk
        obtain ⟨row', g3, g4, _⟩ := m2i k id hk
        rw [hl] at g4
        injection g4 with g4
        injection g4 with g4
        subst g4
        have := hR.row (io, k) row' (outI k row' g3)
        rw [ρio k id hk] at this
        exact (rowOk_ren (namesS ios.length mvs.length) hMout (ok.shape k row row' g1 g3).2.2.2.2).2 stab2 this
      · obtain ⟨n1, n2, ⟨r0, h0⟩, n3⟩ := old id r2 hit hl
        refine (hW.row id r2 (n3 hi)).mono T2 fun b z hb => ?_
        refine same b (hW.lt h0 hb) fun id2 hid2 z2 hh => ?_
        obtain ⟨r3, h3⟩ := liveA id2 hid2
        have := hW.inj id id2 r0 r3 b z z2 h0 h3 hb hh
        subst this
        rcases hid2 with h | h
        · exact hi h
        · exact n1 h
  · intro id r2 hl
    by_cases hit : id.1 = d
    · rw [if_neg (by rw [hit]; exact ok.dio)]
      intro b z hb
      obtain ⟨row, h1, _⟩ := dcase id r2 hit hl
      rw [show id = (d, id.2) from by rw [← hit], ρ2d] at hb
      rcases newM _ _ _ _ h1 hb with h2 | ⟨id', h2, z', h3⟩
      · exact .inl (Nat.le_trans hW.keep.size h2)
      · obtain ⟨k, hk⟩ := List.getElem?_of_mem h2
        obtain ⟨row0, _, h4, _, h5⟩ := liveM k id' hk
        have := hW.new id' _ h4
        rw [if_neg h5] at this
        exact this b z' h3
    · obtain ⟨_, _, ⟨r0, h0⟩, _⟩ := old id r2 hit hl
      rw [ρ2o id hit]
      exact hW.new id r0 h0
  · refine ⟨hkeep.os.trans hW.keep.os, hkeep.tape.trans hW.keep.tape, hkeep.output.trans hW.keep.output, Nat.le_trans hW.keep.size hkeep.size, fun b hb hX => ?_, fun b cur ty fr hb => ?_⟩
    · refine (same b (Nat.lt_of_lt_of_le hb hW.keep.size) fun id hid z hh => ?_).trans (hW.keep.block b hb hX)
      obtain ⟨r3, h3⟩ := liveA id hid
      have := hW.new id r3 h3
      split at this
      · exact hX z (by rw [← hh]; exact List.mem_of_getElem? this)
      · rcases this b z hh with h1 | ⟨z', h1⟩
        · omega
        · exact hX z' h1
    · obtain ⟨c1, k1, k2⟩ := hW.keep.shape b cur ty fr hb
      obtain ⟨c2, k3, k4⟩ := hkeep.shape b c1 ty fr k1
      exact ⟨c2, k3, k4.trans k2⟩
  · exact (rep_ren (namesS ios.length mvs.length) hMout 5 r v hrr).2 stab2 hv
end
section
variable {P : Program} {draw : Bool} {ops : Array Oper} {rest : List Oper} {env : List (Nat × PV)} {mem : List (Id × Option Row)} {tr : List (List Id × List Id)} {K : St → List (List Id × List Id) → Prop}
  {d : Nat} {ty : TypeId} {pos : String} {af : Array Edge}
theorem sem_callR {o : Oper} {V : Nat → PV} {M : Mem} {c : Call} {f : Operand} {g : FuncId} {fi ca ys : List PV} {r : PV} {ids mids rd : List Id} {ios mvs ios' mvs' : List Row} (ho : o.op = .call c) (hd : o.dst = some d) (hcal : c.callee = .value f) (hev : ev V f = .fn g fi ca)
    (hC : ContractR P g ys ios mvs r ios' mvs') (hrr : refsD 5 (namesS ios.length mvs.length) r = true) (hok : CallOkS M d (fi ++ c.args.toList.map (ev V) ++ ca) ys ids mids rd ios mvs ios' mvs') :
    SemStep P o V M ⟨subD 5 (outS ids d) r, upsS d ids mids rd ios' mvs', (d, 0) :: (ids ++ (mids ++ rd))⟩ := by
  intro V' M' hV' hM' G w0 X N a w K Q hdN hR hK
  obtain ⟨ρ, hW, hdef, hs, hV⟩ := hR
  have hop : o.op.operands = c.operands := by rw [ho]; rfl
  have hev' : ev V' f = .fn g fi ca := by rw [hV' f (by rw [hop]; simp [Call.operands, hcal])]; exact hev
  have hargsE : c.args.toList.map (ev V') = c.args.toList.map (ev V) := List.map_congr_left fun y hy => hV' y (by rw [hop]; simp [Call.operands]; exact .inr (Array.mem_toList_iff.1 hy))
  have hok' : CallOkS M' d (fi ++ c.args.toList.map (ev V') ++ ca) ys ids mids rd ios mvs ios' mvs' := by
    rw [hargsE]
    refine hok.congr fun id hid => hM' id (List.mem_map.2 ?_)
    rcases hid with h | h | h | h
    · exact ⟨(d, 0), by simp, h.symm⟩
    · exact ⟨id, List.mem_append_left _ (List.mem_cons_of_mem _ (List.mem_append_left _ h)), rfl⟩
    · exact ⟨id, List.mem_append_left _ (List.mem_cons_of_mem _ (List.mem_append_right _ (List.mem_append_left _ h))), rfl⟩
    · exact ⟨id, List.mem_append_left _ (List.mem_cons_of_mem _ (List.mem_append_right _ (List.mem_append_right _ h))), rfl⟩
  have hf := rep_ev hV f
  rw [hev'] at hf
  obtain ⟨vfi, vca, hfv, c1, c2⟩ := rep_fn.1 hf
  have hargs := (c1.append (comps_map hV c.args)).append c2
  obtain ⟨fn, hfn, hname, hbody⟩ := hC.1
  have hrun : (execOp a.eval o).run P w = .ok (.enter g (vfi ++ c.args.map a.eval ++ vca)) w := by
    simp only [execOp, ho, resolve, hcal, hfv, Deferred.ofValue, Sem.run_bind, Sem.run_pure, Result.andThen_ok, invoke, callFunc, run_program, hfn, hname, hbody, Bool.false_eq_true, if_false]
  unfold Oper.wp
  rw [hrun]
  show Calls P g _ w _
  refine (callR_sound hW hargs hok' hC hrr).mono ?_
  rintro e w' ⟨v, ρ2, rfl, T, W, hx⟩
  exact hK _ _ (put_rel hdN hdef hs hV T W hx)
theorem x_callMr {f : Operand} {args : List Operand} {ats : Array TypeId} {g : FuncId} {fi ca xs ys : List PV} {r v : PV} (ids mids : List Id) {rd : List Id} {ios mvs ios' mvs' : List Row} {up : List (Id × Option Row)}
    (hC : ContractR P g ys ios mvs r ios' mvs') (hf : ev (getE env) f = .fn g fi ca)
    (hxs : fi ++ args.map (ev (getE env)) ++ ca = xs) (hlent : lentS mem (inB ids mids) (namesS ios.length mvs.length) ids ios) (hlemt : lentM mem (inB ids mids) mids mvs) (hrd : rdL (rdO true 6 mem) xs ys [] = some rd)
    (hnd : (nodupB (ids ++ mids) && nodupB rd && rd.all (fun id => !(hasId ids id) && !(hasId mids id) && !Nat.beq id.1 io && (match getM mem id with | some (some _) => true | _ => false))) = true)
    (hsnap : AllR (SnapD 6 (getM mem) ids rd) xs ys) (hfree : freeB mem d = true) (hshape : shapeS (namesS ios.length mvs.length) ios ios') (hlen : Nat.beq mvs'.length mvs.length = true) (hup : upsO d ids mids rd ios' mvs' = some up) (hrr : refsD 5 (namesS ios.length mvs.length) r = true) (hv : subO 5 (outB ids d) r = some v)
    (hk : exec P ops draw rest ⟨(d, v) :: env, up ++ mem⟩ (((d, 0) :: (ids ++ (mids ++ rd)), up.map (·.1)) :: tr) K) :
    exec P ops draw (⟨some d, .call ⟨.value f, args.toArray, ats⟩, ty, pos, af, none⟩ :: rest) ⟨env, mem⟩ tr K := by
  obtain ⟨hu1, hu2⟩ := upsO_ok hup
  obtain ⟨l1, l2⟩ := lentS_ok hlent
  obtain ⟨m1, m2⟩ := lentM_ok hlemt
  obtain ⟨s1, s2⟩ := shapeS_ok hshape
  rw [inB_eq] at l2 m2
  simp only [Bool.and_eq_true] at hnd
  obtain ⟨⟨hn1, hn2⟩, hn3⟩ := hnd
  have hn3 := List.all_eq_true.1 hn3
  obtain ⟨f1, f2⟩ := freeB_ok hfree
  subst hxs
  refine x_sem ⟨v, up, (d, 0) :: (ids ++ (mids ++ rd))⟩ rfl ?_ hk
  rw [← hu1]
  rw [outB_eq] at hv
  rw [← subO_ok 5 _ _ _ hv]
  refine sem_callR (c := ⟨.value f, args.toArray, ats⟩) rfl rfl rfl hf hC hrr ⟨f1, f2, by simpa using hsnap, l1, m1, s1, Nat.eq_of_beq_eq_true hlen, nodupB_ok hn1, l2, m2, fun id hid => ⟨fun hm => ?_, fun hm => ?_⟩, fun id hid => ⟨fun e => ?_, ?_⟩, nodupB_ok hn2, s2, hu2⟩
  · have := hn3 id hid
    simp only [Bool.and_eq_true, Bool.not_eq_true'] at this
    rw [hasId_iff.2 hm] at this
    exact absurd this.1.1.1 (by simp)
  · have := hn3 id hid
    simp only [Bool.and_eq_true, Bool.not_eq_true'] at this
    rw [hasId_iff.2 hm] at this
    exact absurd this.1.1.2 (by simp)
  · have := hn3 id hid
    simp only [Bool.and_eq_true, Bool.not_eq_true'] at this
    have h2 := this.1.2
    rw [e] at h2
    simp at h2
  · have := hn3 id hid
    simp only [Bool.and_eq_true, Bool.not_eq_true'] at this
    have h2 := this.2
    split at h2
    · exact ⟨_, by assumption⟩
    · cases h2
end
def RetPostR (P : Program) (fn : Func) (r : PV) (ios' mvs' : List Row) (e : Exit) (st : St) : Prop :=
  (e = .ret ∨ e = .normal) ∧ ∃ t, fn.results = #[.tmp t] ∧ Ent st ⟨[(t, r)], ioEnv 0 ios' ++ mvEnv 0 mvs'⟩
theorem getE_one (t : Nat) (r : PV) : getE [(t, r)] t = r := by
  show cond (Nat.beq t t) r _ = r
  rw [Nat.beq_refl]
  rfl
theorem contract_ofR {P : Program} {f : FuncId} {fn : Func} {c : Code} {args : List PV} {ios mvs ios' mvs' : List Row} {r : PV} (hm : P.follows .mixedOrders = true) (hf : P.funcs[f]? = some fn) (hb : fn.body = some c)
    (hname : (fn.name == "runtime.NumGoroutine") = false) (hok : codeOk fn.ntmps c = true) (hargs : args.length ≤ fn.ntmps)
    (h : vwp P c ⟨argsEnv 0 args, ioEnv 0 ios ++ mvEnv 0 mvs⟩ (RetPostR P fn r ios' mvs')) : ContractR P f args ios mvs r ios' mvs' := by
  refine ⟨⟨fn, hf, hname, by rw [hb]; rfl⟩, fun G w X ρ cargs hW hC => ?_⟩
  refine calls_of_wp hf hb ?_
  have hM : (⟨argsEnv 0 args, ioEnv 0 ios ++ mvEnv 0 mvs⟩ : St).M = memS ios mvs := memS_eq ios mvs
  have hR : RelF G w X fn.ntmps (⟨argsEnv 0 args, ioEnv 0 ios ++ mvEnv 0 mvs⟩ : St).V (⟨argsEnv 0 args, ioEnv 0 ios ++ mvEnv 0 mvs⟩ : St).M { tmps := cargs ++ Array.replicate (fn.ntmps - cargs.size) undef, defers := [] } w := by
    rw [hM]
    refine ⟨ρ, hW, rfl, by simp [hC.1]; omega, fun t => ?_⟩
    show Rep ρ w _ _ _ (getE (argsEnv 0 args) t)
    rw [getE_args, if_pos (Nat.zero_le _), Nat.sub_zero]
    cases ht : args[t]? with
    | none => exact rep_any
    | some x =>
      obtain ⟨v, h1, h2⟩ := hC.2 t x ht
      have hlt := (Array.getElem?_eq_some_iff.1 h1).1
      have : (cargs ++ Array.replicate (fn.ntmps - cargs.size) undef).getD t undef = v := by
        rw [Array.getD_eq_getD_getElem?, Array.getElem?_append_left hlt, h1]
        rfl
      rw [this]
      exact h2
  refine wp_mono (vwp_sound hm c _ _ _ w hok h hR) ?_
  rintro e a' w' ⟨st', ⟨he, t, hres, hent⟩, hR'⟩
  obtain ⟨ρ1, hW1, hdef, hs, hV⟩ := hR'
  obtain ⟨ρ2, hW2, _, _, hV2⟩ := hent G w X _ a' w' ⟨ρ1, hW1, hdef, hs, hV⟩
  have hM2 : (⟨[(t, r)], ioEnv 0 ios' ++ mvEnv 0 mvs'⟩ : St).M = memS ios' mvs' := memS_eq ios' mvs'
  obtain ⟨v, hrun, hv⟩ := res_sound (st := ⟨[(t, r)], ioEnv 0 ios' ++ mvEnv 0 mvs'⟩) hW2 hV2 (xs := [r]) (by rw [hres]; exact ⟨getE_one t r, trivial⟩)
  rw [hM2] at hW2 hv
  have goal : ∃ v', (results fn a'.tmps).run P w' = .ok v' w' ∧ ∃ v ρ', Ending.returned v' = .returned v ∧ WRel G ρ' w X (memS ios' mvs') w' ∧ Rep ρ' w' (Stab G ρ' (memS ios' mvs') w') (memS ios' mvs') v r :=
    ⟨v, hrun, v, ρ2, rfl, hW2, hv⟩
  rcases he with rfl | rfl
  · exact ⟨hdef, goal⟩
  · exact ⟨hdef, goal⟩
theorem ret_R {P : Program} {st : St} {fn : Func} {r : PV} {ios' mvs' : List Row} {e : Exit} {ren : List (Id × Id)} {t : Nat} (he : e = .ret ∨ e = .normal) (hr : fn.results = #[.tmp t]) (hren : renA st [(t, r)] (ioEnv 0 ios' ++ mvEnv 0 mvs') = some ren) (hw : WeakerR (oldOf ren) st ⟨[(t, r)], ioEnv 0 ios' ++ mvEnv 0 mvs'⟩) :
    RetPostR P fn r ios' mvs' e st := ⟨he, t, hr, hw.ent⟩
end Go.Vs
set_option linter.unusedVariables false
set_option linter.unusedSimpArgs false
set_option maxRecDepth 100000
set_option maxHeartbeats 4000000
namespace Go.Vs
open Go.Proofs
attribute [local irreducible] exec vwp thenQ blkQ loopQ RetPost RetPostR
theorem k_l1PutS (l : List Int) (n : Int) (m : Nat) (hm : l.length = m) (hn : m ≤ 1000000) (h : l[kPut l n]? = some n) : ContractR Try.prog 136 [.osl (io, 0) 0 m, .int .i64 n] [⟨3, 1, ints l, false⟩] [] (.osl (io, 0) 0 m) [⟨3, 1, ints l, false⟩] [] := by
  refine contract_ofR hmix Try.func136 rfl (by kernel_rfl) (by kernel_rfl) (Nat.le_of_ble_eq_true rfl) ?_
  have hty_u24 := ty_u24
  have hty_s24 := ty_s24
  have hty_c3 := ty_c3
  have hl1 : (ints l).length = l.length := by simp
  repeat' (first
      | (refine za5 ?_; first | (refine za6 ?_; refine zat _ rfl ?_) | (refine zad ?_; refine zaa _ rfl ?_) | (refine zbv ?_; first | (refine zby rfl rfl aO ?_) | (refine zbu _ rfl rfl rfl ?_) | (refine zbt aA rfl rfl ?_) | (refine zaw _ rfl rfl rfl ?_)) | (refine zbf ?_; first | (refine zac aA rfl ?_) | (refine zah _ aA rfl rfl aE rfl ?_) | (refine zaf _ aA rfl aZ aL ?_) | (refine zak _ aA rfl rfl aE aZ aL ?_)) | (refine zbe ?_; first | (refine zau _ aA rfl rfl aO aA ?_) | (refine zav _ aA rfl rfl rfl rfl aO aO (by first | (rw [Nat.zero_add, Int.toNat_natCast]) | (rw [Nat.zero_add]) | rfl) ?_)) | (refine zbw ?_; first | (refine zbl rfl aD rfl ?_) | (refine zbi rfl aD ?_) | (refine zbj rfl aD ?_) | (refine zbk rfl aD rfl ?_)) | (refine zbs ?_; first | (refine zbx rfl rfl aD ?_) | (refine zb8 rfl rfl aD ?_) | (refine zb7 rfl rfl ?_) | (refine zbh rfl rfl (fun h => ?_) (fun h => ?_) <;> (have h' := h; (try simp only [sx] at h')))) | (refine zbd ?_; first | (refine za9 aA rfl ?_) | (refine zbc aA rfl rfl ?_) | (refine zba aA rfl ?_) | (refine zbb aA (evO_ok rfl) ?_) | (refine zb4 _ _ aA rfl (lookM (by rfl)) rfl (lookM (by rfl)) rfl aN ⟨rfl, rfl, by decide, by decide⟩ (by first | rfl | omega | (simp; done) | (simp; omega) | fail) ⟨by first | (simp only [List.length_cons, List.length_nil]; omega) | omega | fail, by decide⟩ rfl (by first | (first | (simp only [lx, Nat.reduceAdd]; first | done | rfl) | fail) | rfl) aP ?_) | (refine zb3 _ _ aA rfl rfl (lookM (by rfl)) ⟨rfl, by decide⟩ aN (by first | exact Nat.succ_pos _ | omega | (simp; done)) ⟨by first | (simp only [List.length_cons, List.length_nil]; omega) | omega | fail, by decide⟩ rfl rfl aP ?_) | (refine zb5 _ aA rfl rfl (lookM (by rfl)) ⟨rfl, by decide⟩ aN ⟨by first | (simp only [List.length_cons, List.length_nil]; omega) | omega | fail, by decide⟩ rfl aP ?_) | (refine zb0 _ aA rfl rfl rfl ⟨rfl, rfl, rfl, by decide, by decide⟩ (by first | rfl | (simp; done) | fail) ⟨by omega, by decide⟩ rfl aL (by first | (rw [Nat.zero_add]) | rfl) ?_)) | (refine g_slice ?_; first | (refine x_sliceL _ aA rfl rfl rfl aO (by first | assumption | rfl) ?_) | (refine x_sliceO _ _ aA rfl (lookM (by rfl)) rfl rfl rfl aO (by first | (simp only [Nat.zero_add, Int.toNat_natCast]; exact rfl) | rfl) (by first | (simp only [Nat.sub_zero, Int.toNat_natCast]; exact rfl) | rfl) ?_) | (refine x_sliceS aA rfl rfl rfl aO rfl ?_)) | (refine x_slice3 _ aA rfl rfl rfl aO (by first | exact List.take_of_length_le aO | rfl) ?_) | (refine za7 aA rfl rfl rfl ?_) | (refine zas (hK _ _ (.inl rfl) ?_); clear hK K) | (refine zas (hK _ _ (.inr (by kernel_rfl)) ?_); clear hK K))
      | (refine za3 ?_; first | (refine zbp ?_) | (refine zaj (fun K hK => ?_)) | (refine zan ?_) | (refine za4 ?_) | (refine zbq ?_) | (refine za1 ?_) | (refine zbg ?_; first | (refine zam rfl aD ?_) | (refine zal rfl aD ?_) | (refine zaz rfl (fun h => ?_) (fun h => ?_) <;> (have h' := h; (try simp only [sx] at h')))))
      | (refine za2 ?_) | (refine zai ?_) | (refine zae ?_) | (refine zaq ?_) | (refine zar ?_) | (refine zao ?_) | (refine zap rfl ?_) | (refine zab ?_) | (refine zag ?_) | (refine zbr ?_))
  refine zcd [0, 1] [] (fun k : Nat => [(5, .int .i64 k)]) (fun k : Nat => []) (fun k : Nat => k ≤ l.length ∧ ∀ (j : Nat) x, j < k → l[j]? = some x → x < n) (fun k : Nat => l.length - k) (0) rfl rfl (fun _ => rfl) (fun _ => rfl) rfl aW ⟨by omega, fun j x hj => by omega⟩ (fun k hk => ?_)
  obtain ⟨hk1, hk2⟩ := hk
  rcases Nat.lt_or_ge k l.length with hlt | hge
  · obtain ⟨a, ha⟩ := get_ex hlt
    have hx := ints_at ha
    by_cases hb : a < n
    · repeat' (first
      | (refine za5 ?_; first | (refine za6 ?_; refine zat _ rfl ?_) | (refine zad ?_; refine zaa _ rfl ?_) | (refine zbv ?_; first | (refine zby rfl rfl aO ?_) | (refine zbu _ rfl rfl rfl ?_) | (refine zbt aA rfl rfl ?_) | (refine zaw _ rfl rfl rfl ?_)) | (refine zbf ?_; first | (refine zac aA rfl ?_) | (refine zah _ aA rfl rfl aE rfl ?_) | (refine zaf _ aA rfl aZ aL ?_) | (refine zak _ aA rfl rfl aE aZ aL ?_)) | (refine zbe ?_; first | (refine zau _ aA rfl rfl aO aA ?_) | (refine zav _ aA rfl rfl rfl rfl aO aO (by first | (rw [Nat.zero_add, Int.toNat_natCast]) | (rw [Nat.zero_add]) | rfl) ?_)) | (refine zbw ?_; first | (refine zbl rfl aD rfl ?_) | (refine zbi rfl aD ?_) | (refine zbj rfl aD ?_) | (refine zbk rfl aD rfl ?_)) | (refine zbs ?_; first | (refine zbx rfl rfl aD ?_) | (refine zb8 rfl rfl aD ?_) | (refine zb7 rfl rfl ?_) | (refine zbh rfl rfl (fun h => ?_) (fun h => ?_) <;> (have h' := h; (try simp only [sx] at h')))) | (refine zbd ?_; first | (refine za9 aA rfl ?_) | (refine zbc aA rfl rfl ?_) | (refine zba aA rfl ?_) | (refine zbb aA (evO_ok rfl) ?_) | (refine zb4 _ _ aA rfl (lookM (by rfl)) rfl (lookM (by rfl)) rfl aN ⟨rfl, rfl, by decide, by decide⟩ (by first | rfl | omega | (simp; done) | (simp; omega) | fail) ⟨by first | (simp only [List.length_cons, List.length_nil]; omega) | omega | fail, by decide⟩ rfl (by first | (first | (simp only [lx, Nat.reduceAdd]; first | done | rfl) | fail) | rfl) aP ?_) | (refine zb3 _ _ aA rfl rfl (lookM (by rfl)) ⟨rfl, by decide⟩ aN (by first | exact Nat.succ_pos _ | omega | (simp; done)) ⟨by first | (simp only [List.length_cons, List.length_nil]; omega) | omega | fail, by decide⟩ rfl rfl aP ?_) | (refine zb5 _ aA rfl rfl (lookM (by rfl)) ⟨rfl, by decide⟩ aN ⟨by first | (simp only [List.length_cons, List.length_nil]; omega) | omega | fail, by decide⟩ rfl aP ?_) | (refine zb0 _ aA rfl rfl rfl ⟨rfl, rfl, rfl, by decide, by decide⟩ (by first | rfl | (simp; done) | fail) ⟨by omega, by decide⟩ rfl aL (by first | (rw [Nat.zero_add]) | rfl) ?_)) | (refine g_slice ?_; first | (refine x_sliceL _ aA rfl rfl rfl aO (by first | assumption | rfl) ?_) | (refine x_sliceO _ _ aA rfl (lookM (by rfl)) rfl rfl rfl aO (by first | (simp only [Nat.zero_add, Int.toNat_natCast]; exact rfl) | rfl) (by first | (simp only [Nat.sub_zero, Int.toNat_natCast]; exact rfl) | rfl) ?_) | (refine x_sliceS aA rfl rfl rfl aO rfl ?_)) | (refine x_slice3 _ aA rfl rfl rfl aO (by first | exact List.take_of_length_le aO | rfl) ?_) | (refine za7 aA rfl rfl rfl ?_) | (refine zas (hK _ _ (.inl rfl) ?_); clear hK K) | (refine zas (hK _ _ (.inr (by kernel_rfl)) ?_); clear hK K))
      | (refine za3 ?_; first | (refine zbp ?_) | (refine zaj (fun K hK => ?_)) | (refine zan ?_) | (refine za4 ?_) | (refine zbq ?_) | (refine za1 ?_) | (refine zbg ?_; first | (refine zam rfl aD ?_) | (refine zal rfl aD ?_) | (refine zaz rfl (fun h => ?_) (fun h => ?_) <;> (have h' := h; (try simp only [sx] at h')))))
      | (refine za2 ?_) | (refine zai ?_) | (refine zae ?_) | (refine zaq ?_) | (refine zar ?_) | (refine zao ?_) | (refine zap rfl ?_) | (refine zab ?_) | (refine zag ?_) | (refine zbr ?_))
      all_goals try (exfalso; omega)
      refine zcb (k + 1) rfl aW ⟨by omega, fun j x hj hxx => ?_⟩ aO
      rcases Nat.lt_or_ge j k with h1 | h1
      · exact hk2 j x h1 hxx
      · have : j = k := by omega
        subst this
        rw [ha] at hxx
        injection hxx with hxx
        omega
    · have e : kPut l n = k := kPut_is hk1 hk2 fun x hx => by rw [ha] at hx; injection hx with hx; omega
      rw [e, ha] at h
      injection h with heq
      repeat' (first
      | (refine za5 ?_; first | (refine za6 ?_; refine zat _ rfl ?_) | (refine zad ?_; refine zaa _ rfl ?_) | (refine zbv ?_; first | (refine zby rfl rfl aO ?_) | (refine zbu _ rfl rfl rfl ?_) | (refine zbt aA rfl rfl ?_) | (refine zaw _ rfl rfl rfl ?_)) | (refine zbf ?_; first | (refine zac aA rfl ?_) | (refine zah _ aA rfl rfl aE rfl ?_) | (refine zaf _ aA rfl aZ aL ?_) | (refine zak _ aA rfl rfl aE aZ aL ?_)) | (refine zbe ?_; first | (refine zau _ aA rfl rfl aO aA ?_) | (refine zav _ aA rfl rfl rfl rfl aO aO (by first | (rw [Nat.zero_add, Int.toNat_natCast]) | (rw [Nat.zero_add]) | rfl) ?_)) | (refine zbw ?_; first | (refine zbl rfl aD rfl ?_) | (refine zbi rfl aD ?_) | (refine zbj rfl aD ?_) | (refine zbk rfl aD rfl ?_)) | (refine zbs ?_; first | (refine zbx rfl rfl aD ?_) | (refine zb8 rfl rfl aD ?_) | (refine zb7 rfl rfl ?_) | (refine zbh rfl rfl (fun h => ?_) (fun h => ?_) <;> (have h' := h; (try simp only [sx] at h')))) | (refine zbd ?_; first | (refine za9 aA rfl ?_) | (refine zbc aA rfl rfl ?_) | (refine zba aA rfl ?_) | (refine zbb aA (evO_ok rfl) ?_) | (refine zb4 _ _ aA rfl (lookM (by rfl)) rfl (lookM (by rfl)) rfl aN ⟨rfl, rfl, by decide, by decide⟩ (by first | rfl | omega | (simp; done) | (simp; omega) | fail) ⟨by first | (simp only [List.length_cons, List.length_nil]; omega) | omega | fail, by decide⟩ rfl (by first | (first | (simp only [lx, Nat.reduceAdd]; first | done | rfl) | fail) | rfl) aP ?_) | (refine zb3 _ _ aA rfl rfl (lookM (by rfl)) ⟨rfl, by decide⟩ aN (by first | exact Nat.succ_pos _ | omega | (simp; done)) ⟨by first | (simp only [List.length_cons, List.length_nil]; omega) | omega | fail, by decide⟩ rfl rfl aP ?_) | (refine zb5 _ aA rfl rfl (lookM (by rfl)) ⟨rfl, by decide⟩ aN ⟨by first | (simp only [List.length_cons, List.length_nil]; omega) | omega | fail, by decide⟩ rfl aP ?_) | (refine zb0 _ aA rfl rfl rfl ⟨rfl, rfl, rfl, by decide, by decide⟩ (by first | rfl | (simp; done) | fail) ⟨by omega, by decide⟩ rfl aL (by first | (rw [Nat.zero_add]) | rfl) ?_)) | (refine g_slice ?_; first | (refine x_sliceL _ aA rfl rfl rfl aO (by first | assumption | rfl) ?_) | (refine x_sliceO _ _ aA rfl (lookM (by rfl)) rfl rfl rfl aO (by first | (simp only [Nat.zero_add, Int.toNat_natCast]; exact rfl) | rfl) (by first | (simp only [Nat.sub_zero, Int.toNat_natCast]; exact rfl) | rfl) ?_) | (refine x_sliceS aA rfl rfl rfl aO rfl ?_)) | (refine x_slice3 _ aA rfl rfl rfl aO (by first | exact List.take_of_length_le aO | rfl) ?_) | (refine za7 aA rfl rfl rfl ?_) | (refine zas (hK _ _ (.inl rfl) ?_); clear hK K) | (refine zas (hK _ _ (.inr (by kernel_rfl)) ?_); clear hK K))
      | (refine za3 ?_; first | (refine zbp ?_) | (refine zaj (fun K hK => ?_)) | (refine zan ?_) | (refine za4 ?_) | (refine zbq ?_) | (refine za1 ?_) | (refine zbg ?_; first | (refine zam rfl aD ?_) | (refine zal rfl aD ?_) | (refine zaz rfl (fun h => ?_) (fun h => ?_) <;> (have h' := h; (try simp only [sx] at h')))))
      | (refine za2 ?_) | (refine zai ?_) | (refine zae ?_) | (refine zaq ?_) | (refine zar ?_) | (refine zao ?_) | (refine zap rfl ?_) | (refine zab ?_) | (refine zag ?_) | (refine zbr ?_))
      all_goals first
        | (exfalso; omega)
        | refine ret_R (by first | exact .inl rfl | exact .inr rfl) rfl rfl (by refine ⟨?_, ?_⟩ <;> (repeat' (first | exact trivial | exact ⟨rfl, rfl⟩ | exact rfl | exact ⟨sub_fn, refs_fn⟩ | refine ⟨⟨rfl, rfl⟩, ?_⟩ | refine ⟨⟨sub_fn, refs_fn⟩, ?_⟩ | refine ⟨⟨rfl, fun h => Bool.noConfusion h⟩, ?_⟩ | refine ⟨⟨rfl, fun h => ?_⟩, ?_⟩ | refine ⟨rfl, ?_⟩ | refine ⟨?_, ?_⟩ | fail)))
  · have : k = l.length := by omega
    subst this
    have e : kPut l n = l.length := kPut_is hk1 hk2 fun x hx => by have := get_lt hx; omega
    rw [e] at h
    have := get_lt h
    omega
theorem k_l1PutN (l : List Int) (n : Int) (hn : l.length ≤ 1000000) (h : l[kPut l n]? ≠ some n) : Con Try.prog 136 [.list 1 (ints l), .int .i64 n] (.olist 3 1 (ints (put l n))) := by
  intro al
  refine za8 hmix Try.func136 rfl (by kernel_rfl) (by kernel_rfl) (Nat.le_of_ble_eq_true rfl) (fun row h => by cases h) ?_
  have hty_u24 := ty_u24
  have hty_s24 := ty_s24
  have hty_c3 := ty_c3
  have hl1 : (ints l).length = l.length := by simp
  repeat' (first
      | (refine za5 ?_; first | (refine za6 ?_; refine zat _ rfl ?_) | (refine zad ?_; refine zaa _ rfl ?_) | (refine zbv ?_; first | (refine zby rfl rfl aO ?_) | (refine zbu _ rfl rfl rfl ?_) | (refine zbt aA rfl rfl ?_) | (refine zaw _ rfl rfl rfl ?_)) | (refine zbf ?_; first | (refine zac aA rfl ?_) | (refine zah _ aA rfl rfl aE rfl ?_) | (refine zaf _ aA rfl aZ aL ?_) | (refine zak _ aA rfl rfl aE aZ aL ?_)) | (refine zbe ?_; first | (refine zau _ aA rfl rfl aO aA ?_) | (refine zav _ aA rfl rfl rfl rfl aO aO (by first | (rw [Nat.zero_add, Int.toNat_natCast]) | (rw [Nat.zero_add]) | rfl) ?_)) | (refine zbw ?_; first | (refine zbl rfl aD rfl ?_) | (refine zbi rfl aD ?_) | (refine zbj rfl aD ?_) | (refine zbk rfl aD rfl ?_)) | (refine zbs ?_; first | (refine zbx rfl rfl aD ?_) | (refine zb8 rfl rfl aD ?_) | (refine zb7 rfl rfl ?_) | (refine zbh rfl rfl (fun h => ?_) (fun h => ?_) <;> (have h' := h; (try simp only [sx] at h')))) | (refine zbd ?_; first | (refine za9 aA rfl ?_) | (refine zbc aA rfl rfl ?_) | (refine zba aA rfl ?_) | (refine zbb aA (evO_ok rfl) ?_) | (refine zb4 _ _ aA rfl (lookM (by rfl)) rfl (lookM (by rfl)) rfl aN ⟨rfl, rfl, by decide, by decide⟩ (by first | rfl | omega | (simp; done) | (simp; omega) | fail) ⟨by first | (simp only [List.length_cons, List.length_nil]; omega) | omega | fail, by decide⟩ rfl (by first | (first | (simp only [lx, Nat.reduceAdd]; first | done | rfl) | fail) | rfl) aP ?_) | (refine zb3 _ _ aA rfl rfl (lookM (by rfl)) ⟨rfl, by decide⟩ aN (by first | exact Nat.succ_pos _ | omega | (simp; done)) ⟨by first | (simp only [List.length_cons, List.length_nil]; omega) | omega | fail, by decide⟩ rfl rfl aP ?_) | (refine zb5 _ aA rfl rfl (lookM (by rfl)) ⟨rfl, by decide⟩ aN ⟨by first | (simp only [List.length_cons, List.length_nil]; omega) | omega | fail, by decide⟩ rfl aP ?_) | (refine zb0 _ aA rfl rfl rfl ⟨rfl, rfl, rfl, by decide, by decide⟩ (by first | rfl | (simp; done) | fail) ⟨by omega, by decide⟩ rfl aL (by first | (rw [Nat.zero_add]) | rfl) ?_)) | (refine g_slice ?_; first | (refine x_sliceL _ aA rfl rfl rfl aO (by first | assumption | rfl) ?_) | (refine x_sliceO _ _ aA rfl (lookM (by rfl)) rfl rfl rfl aO (by first | (simp only [Nat.zero_add, Int.toNat_natCast]; exact rfl) | rfl) (by first | (simp only [Nat.sub_zero, Int.toNat_natCast]; exact rfl) | rfl) ?_) | (refine x_sliceS aA rfl rfl rfl aO rfl ?_)) | (refine x_slice3 _ aA rfl rfl rfl aO (by first | exact List.take_of_length_le aO | rfl) ?_) | (refine za7 aA rfl rfl rfl ?_) | (refine zas (hK _ _ (.inl rfl) ?_); clear hK K) | (refine zas (hK _ _ (.inr (by kernel_rfl)) ?_); clear hK K))
      | (refine za3 ?_; first | (refine zbp ?_) | (refine zaj (fun K hK => ?_)) | (refine zan ?_) | (refine za4 ?_) | (refine zbq ?_) | (refine za1 ?_) | (refine zbg ?_; first | (refine zam rfl aD ?_) | (refine zal rfl aD ?_) | (refine zaz rfl (fun h => ?_) (fun h => ?_) <;> (have h' := h; (try simp only [sx] at h')))))
      | (refine za2 ?_) | (refine zai ?_) | (refine zae ?_) | (refine zaq ?_) | (refine zar ?_) | (refine zao ?_) | (refine zap rfl ?_) | (refine zab ?_) | (refine zag ?_) | (refine zbr ?_))
  refine zcd [0, 1] [] (fun k : Nat => [(5, .int .i64 k)]) (fun k : Nat => []) (fun k : Nat => k ≤ l.length ∧ ∀ (j : Nat) x, j < k → l[j]? = some x → x < n) (fun k : Nat => l.length - k) (0) rfl rfl (fun _ => rfl) (fun _ => rfl) rfl aW ⟨by omega, fun j x hj => by omega⟩ (fun k hk => ?_)
  obtain ⟨hk1, hk2⟩ := hk
  have hs1 : ((ints l).take ((k : Nat) : Int).toNat).drop (((0 : Nat) : Int)).toNat = (ints l).take k := by simp
  have hs2 : ((ints l).take (((ints l).length : Nat) : Int).toNat).drop ((k : Nat) : Int).toNat = (ints l).drop k := by rw [Int.toNat_natCast, Int.toNat_natCast, List.take_length]
  have hs3 : ((ints l).take k).length = k := by rw [List.length_take]; omega
  have hs4 : ((ints l).drop k).length = l.length - k := by rw [List.length_drop]; omega
  rcases Nat.lt_or_ge k l.length with hlt | hge
  · obtain ⟨a, ha⟩ := get_ex hlt
    have hx := ints_at ha
    by_cases hb : a < n
    · repeat' (first
      | (refine za5 ?_; first | (refine za6 ?_; refine zat _ rfl ?_) | (refine zad ?_; refine zaa _ rfl ?_) | (refine zbv ?_; first | (refine zby rfl rfl aO ?_) | (refine zbu _ rfl rfl rfl ?_) | (refine zbt aA rfl rfl ?_) | (refine zaw _ rfl rfl rfl ?_)) | (refine zbf ?_; first | (refine zac aA rfl ?_) | (refine zah _ aA rfl rfl aE rfl ?_) | (refine zaf _ aA rfl aZ aL ?_) | (refine zak _ aA rfl rfl aE aZ aL ?_)) | (refine zbe ?_; first | (refine zau _ aA rfl rfl aO aA ?_) | (refine zav _ aA rfl rfl rfl rfl aO aO (by first | (rw [Nat.zero_add, Int.toNat_natCast]) | (rw [Nat.zero_add]) | rfl) ?_)) | (refine zbw ?_; first | (refine zbl rfl aD rfl ?_) | (refine zbi rfl aD ?_) | (refine zbj rfl aD ?_) | (refine zbk rfl aD rfl ?_)) | (refine zbs ?_; first | (refine zbx rfl rfl aD ?_) | (refine zb8 rfl rfl aD ?_) | (refine zb7 rfl rfl ?_) | (refine zbh rfl rfl (fun h => ?_) (fun h => ?_) <;> (have h' := h; (try simp only [sx] at h')))) | (refine zbd ?_; first | (refine za9 aA rfl ?_) | (refine zbc aA rfl rfl ?_) | (refine zba aA rfl ?_) | (refine zbb aA (evO_ok rfl) ?_) | (refine zb4 _ _ aA rfl (lookM (by rfl)) rfl (lookM (by rfl)) rfl aN ⟨rfl, rfl, by decide, by decide⟩ (by first | rfl | omega | (simp; done) | (simp; omega) | fail) ⟨by first | (simp only [List.length_cons, List.length_nil]; omega) | omega | fail, by decide⟩ rfl (by first | (first | (simp only [lx, Nat.reduceAdd]; first | done | rfl) | fail) | rfl) aP ?_) | (refine zb3 _ _ aA rfl rfl (lookM (by rfl)) ⟨rfl, by decide⟩ aN (by first | exact Nat.succ_pos _ | omega | (simp; done)) ⟨by first | (simp only [List.length_cons, List.length_nil]; omega) | omega | fail, by decide⟩ rfl rfl aP ?_) | (refine zb5 _ aA rfl rfl (lookM (by rfl)) ⟨rfl, by decide⟩ aN ⟨by first | (simp only [List.length_cons, List.length_nil]; omega) | omega | fail, by decide⟩ rfl aP ?_) | (refine zb0 _ aA rfl rfl rfl ⟨rfl, rfl, rfl, by decide, by decide⟩ (by first | rfl | (simp; done) | fail) ⟨by omega, by decide⟩ rfl aL (by first | (rw [Nat.zero_add]) | rfl) ?_)) | (refine g_slice ?_; first | (refine x_sliceL _ aA rfl rfl rfl aO (by first | assumption | rfl) ?_) | (refine x_sliceO _ _ aA rfl (lookM (by rfl)) rfl rfl rfl aO (by first | (simp only [Nat.zero_add, Int.toNat_natCast]; exact rfl) | rfl) (by first | (simp only [Nat.sub_zero, Int.toNat_natCast]; exact rfl) | rfl) ?_) | (refine x_sliceS aA rfl rfl rfl aO rfl ?_)) | (refine x_slice3 _ aA rfl rfl rfl aO (by first | exact List.take_of_length_le aO | rfl) ?_) | (refine za7 aA rfl rfl rfl ?_) | (refine zas (hK _ _ (.inl rfl) ?_); clear hK K) | (refine zas (hK _ _ (.inr (by kernel_rfl)) ?_); clear hK K))
      | (refine za3 ?_; first | (refine zbp ?_) | (refine zaj (fun K hK => ?_)) | (refine zan ?_) | (refine za4 ?_) | (refine zbq ?_) | (refine za1 ?_) | (refine zbg ?_; first | (refine zam rfl aD ?_) | (refine zal rfl aD ?_) | (refine zaz rfl (fun h => ?_) (fun h => ?_) <;> (have h' := h; (try simp only [sx] at h')))))
      | (refine za2 ?_) | (refine zai ?_) | (refine zae ?_) | (refine zaq ?_) | (refine zar ?_) | (refine zao ?_) | (refine zap rfl ?_) | (refine zab ?_) | (refine zag ?_) | (refine zbr ?_))
      all_goals try (exfalso; omega)
      refine zcb (k + 1) rfl aW ⟨by omega, fun j x hj hxx => ?_⟩ aO
      rcases Nat.lt_or_ge j k with h1 | h1
      · exact hk2 j x h1 hxx
      · have : j = k := by omega
        subst this
        rw [ha] at hxx
        injection hxx with hxx
        omega
    · have e : kPut l n = k := kPut_is hk1 hk2 fun x hx => by rw [ha] at hx; injection hx with hx; omega
      have heq : a ≠ n := fun hh => h (by rw [e, ha, hh])
      have e2 : put l n = l.take k ++ (n :: l.drop k) := by unfold put; rw [e, if_neg (by rw [ha]; intro h; injection h with h; exact heq h)]
      have e3 : ints (put l n) = ((ints l).take k ++ [[.int .i64 n]]) ++ (ints l).drop k := by rw [e2]; simp [ints, List.map_take, List.map_drop]
      have hfl : ∀ e ∈ ((ints l).take k ++ [[.int .i64 n]]) ++ (ints l).drop k, ∀ c ∈ e, c.flat = true := by rw [← e3]; exact ints_flat _
      rw [e3]
      repeat' (first
      | (refine za5 ?_; first | (refine za6 ?_; refine zat _ rfl ?_) | (refine zad ?_; refine zaa _ rfl ?_) | (refine zbv ?_; first | (refine zby rfl rfl aO ?_) | (refine zbu _ rfl rfl rfl ?_) | (refine zbt aA rfl rfl ?_) | (refine zaw _ rfl rfl rfl ?_)) | (refine zbf ?_; first | (refine zac aA rfl ?_) | (refine zah _ aA rfl rfl aE rfl ?_) | (refine zaf _ aA rfl aZ aL ?_) | (refine zak _ aA rfl rfl aE aZ aL ?_)) | (refine zbe ?_; first | (refine zau _ aA rfl rfl aO aA ?_) | (refine zav _ aA rfl rfl rfl rfl aO aO (by first | (rw [Nat.zero_add, Int.toNat_natCast]) | (rw [Nat.zero_add]) | rfl) ?_)) | (refine zbw ?_; first | (refine zbl rfl aD rfl ?_) | (refine zbi rfl aD ?_) | (refine zbj rfl aD ?_) | (refine zbk rfl aD rfl ?_)) | (refine zbs ?_; first | (refine zbx rfl rfl aD ?_) | (refine zb8 rfl rfl aD ?_) | (refine zb7 rfl rfl ?_) | (refine zbh rfl rfl (fun h => ?_) (fun h => ?_) <;> (have h' := h; (try simp only [sx] at h')))) | (refine zbd ?_; first | (refine za9 aA rfl ?_) | (refine zbc aA rfl rfl ?_) | (refine zba aA rfl ?_) | (refine zbb aA (evO_ok rfl) ?_) | (refine zb4 _ _ aA rfl (lookM (by rfl)) rfl (lookM (by rfl)) rfl aN ⟨rfl, rfl, by decide, by decide⟩ (by first | rfl | omega | (simp; done) | (simp; omega) | fail) ⟨by first | (simp only [List.length_cons, List.length_nil]; omega) | omega | fail, by decide⟩ rfl (by first | (first | (simp only [lx, Nat.reduceAdd]; first | done | rfl) | fail) | rfl) aP ?_) | (refine zb3 _ _ aA rfl rfl (lookM (by rfl)) ⟨rfl, by decide⟩ aN (by first | exact Nat.succ_pos _ | omega | (simp; done)) ⟨by first | (simp only [List.length_cons, List.length_nil]; omega) | omega | fail, by decide⟩ rfl rfl aP ?_) | (refine zb5 _ aA rfl rfl (lookM (by rfl)) ⟨rfl, by decide⟩ aN ⟨by first | (simp only [List.length_cons, List.length_nil]; omega) | omega | fail, by decide⟩ rfl aP ?_) | (refine zb0 _ aA rfl rfl rfl ⟨rfl, rfl, rfl, by decide, by decide⟩ (by first | rfl | (simp; done) | fail) ⟨by omega, by decide⟩ rfl aL (by first | (rw [Nat.zero_add]) | rfl) ?_)) | (refine g_slice ?_; first | (refine x_sliceL _ aA rfl rfl rfl aO (by first | assumption | rfl) ?_) | (refine x_sliceO _ _ aA rfl (lookM (by rfl)) rfl rfl rfl aO (by first | (simp only [Nat.zero_add, Int.toNat_natCast]; exact rfl) | rfl) (by first | (simp only [Nat.sub_zero, Int.toNat_natCast]; exact rfl) | rfl) ?_) | (refine x_sliceS aA rfl rfl rfl aO rfl ?_)) | (refine x_slice3 _ aA rfl rfl rfl aO (by first | exact List.take_of_length_le aO | rfl) ?_) | (refine za7 aA rfl rfl rfl ?_) | (refine zas (hK _ _ (.inl rfl) ?_); clear hK K) | (refine zas (hK _ _ (.inr (by kernel_rfl)) ?_); clear hK K))
      | (refine za3 ?_; first | (refine zbp ?_) | (refine zaj (fun K hK => ?_)) | (refine zan ?_) | (refine za4 ?_) | (refine zbq ?_) | (refine za1 ?_) | (refine zbg ?_; first | (refine zam rfl aD ?_) | (refine zal rfl aD ?_) | (refine zaz rfl (fun h => ?_) (fun h => ?_) <;> (have h' := h; (try simp only [sx] at h')))))
      | (refine za2 ?_) | (refine zai ?_) | (refine zae ?_) | (refine zaq ?_) | (refine zar ?_) | (refine zao ?_) | (refine zap rfl ?_) | (refine zab ?_) | (refine zag ?_) | (refine zbr ?_))
      all_goals first
        | (exfalso; omega)
        | (refine zcn rfl (zbn rfl) rfl ?_ ?_ hfl rfl <;> first | decide | (simp; done) | (simp; omega))
  · have e : kPut l n = l.length := by
      have : k = l.length := by omega
      subst this
      exact kPut_is hk1 hk2 fun x hx => by have := get_lt hx; omega
    have e2 : put l n = l.take l.length ++ (n :: l.drop l.length) := by unfold put; rw [e, if_neg (by rw [List.getElem?_eq_none (Nat.le_refl _)]; intro h; cases h)]
    have e3 : ints (put l n) = ((ints l).take l.length ++ [[.int .i64 n]]) ++ (ints l).drop l.length := by rw [e2]; simp only [ints, List.map_append, List.map_cons, List.map_take, List.map_drop, List.append_assoc, List.cons_append, List.nil_append]
    have hk3 : k = l.length := by omega
    subst hk3
    have hfl : ∀ e ∈ ((ints l).take l.length ++ [[.int .i64 n]]) ++ (ints l).drop l.length, ∀ c ∈ e, c.flat = true := by rw [← e3]; exact ints_flat _
    rw [e3]
    repeat' (first
      | (refine za5 ?_; first | (refine za6 ?_; refine zat _ rfl ?_) | (refine zad ?_; refine zaa _ rfl ?_) | (refine zbv ?_; first | (refine zby rfl rfl aO ?_) | (refine zbu _ rfl rfl rfl ?_) | (refine zbt aA rfl rfl ?_) | (refine zaw _ rfl rfl rfl ?_)) | (refine zbf ?_; first | (refine zac aA rfl ?_) | (refine zah _ aA rfl rfl aE rfl ?_) | (refine zaf _ aA rfl aZ aL ?_) | (refine zak _ aA rfl rfl aE aZ aL ?_)) | (refine zbe ?_; first | (refine zau _ aA rfl rfl aO aA ?_) | (refine zav _ aA rfl rfl rfl rfl aO aO (by first | (rw [Nat.zero_add, Int.toNat_natCast]) | (rw [Nat.zero_add]) | rfl) ?_)) | (refine zbw ?_; first | (refine zbl rfl aD rfl ?_) | (refine zbi rfl aD ?_) | (refine zbj rfl aD ?_) | (refine zbk rfl aD rfl ?_)) | (refine zbs ?_; first | (refine zbx rfl rfl aD ?_) | (refine zb8 rfl rfl aD ?_) | (refine zb7 rfl rfl ?_) | (refine zbh rfl rfl (fun h => ?_) (fun h => ?_) <;> (have h' := h; (try simp only [sx] at h')))) | (refine zbd ?_; first | (refine za9 aA rfl ?_) | (refine zbc aA rfl rfl ?_) | (refine zba aA rfl ?_) | (refine zbb aA (evO_ok rfl) ?_) | (refine zb4 _ _ aA rfl (lookM (by rfl)) rfl (lookM (by rfl)) rfl aN ⟨rfl, rfl, by decide, by decide⟩ (by first | rfl | omega | (simp; done) | (simp; omega) | fail) ⟨by first | (simp only [List.length_cons, List.length_nil]; omega) | omega | fail, by decide⟩ rfl (by first | (first | (simp only [lx, Nat.reduceAdd]; first | done | rfl) | fail) | rfl) aP ?_) | (refine zb3 _ _ aA rfl rfl (lookM (by rfl)) ⟨rfl, by decide⟩ aN (by first | exact Nat.succ_pos _ | omega | (simp; done)) ⟨by first | (simp only [List.length_cons, List.length_nil]; omega) | omega | fail, by decide⟩ rfl rfl aP ?_) | (refine zb5 _ aA rfl rfl (lookM (by rfl)) ⟨rfl, by decide⟩ aN ⟨by first | (simp only [List.length_cons, List.length_nil]; omega) | omega | fail, by decide⟩ rfl aP ?_) | (refine zb0 _ aA rfl rfl rfl ⟨rfl, rfl, rfl, by decide, by decide⟩ (by first | rfl | (simp; done) | fail) ⟨by omega, by decide⟩ rfl aL (by first | (rw [Nat.zero_add]) | rfl) ?_)) | (refine g_slice ?_; first | (refine x_sliceL _ aA rfl rfl rfl aO (by first | assumption | rfl) ?_) | (refine x_sliceO _ _ aA rfl (lookM (by rfl)) rfl rfl rfl aO (by first | (simp only [Nat.zero_add, Int.toNat_natCast]; exact rfl) | rfl) (by first | (simp only [Nat.sub_zero, Int.toNat_natCast]; exact rfl) | rfl) ?_) | (refine x_sliceS aA rfl rfl rfl aO rfl ?_)) | (refine x_slice3 _ aA rfl rfl rfl aO (by first | exact List.take_of_length_le aO | rfl) ?_) | (refine za7 aA rfl rfl rfl ?_) | (refine zas (hK _ _ (.inl rfl) ?_); clear hK K) | (refine zas (hK _ _ (.inr (by kernel_rfl)) ?_); clear hK K))
      | (refine za3 ?_; first | (refine zbp ?_) | (refine zaj (fun K hK => ?_)) | (refine zan ?_) | (refine za4 ?_) | (refine zbq ?_) | (refine za1 ?_) | (refine zbg ?_; first | (refine zam rfl aD ?_) | (refine zal rfl aD ?_) | (refine zaz rfl (fun h => ?_) (fun h => ?_) <;> (have h' := h; (try simp only [sx] at h')))))
      | (refine za2 ?_) | (refine zai ?_) | (refine zae ?_) | (refine zaq ?_) | (refine zar ?_) | (refine zao ?_) | (refine zap rfl ?_) | (refine zab ?_) | (refine zag ?_) | (refine zbr ?_))
    all_goals first
      | (exfalso; omega)
      | (refine zcn rfl (zbn rfl) rfl ?_ ?_ hfl rfl <;> first | decide | (simp; done) | (simp; omega))
end Go.Vs
