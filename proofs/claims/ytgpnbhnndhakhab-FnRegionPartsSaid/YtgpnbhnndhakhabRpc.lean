/- Parts of a proof: what its last text mentions. -/
import Derived.Test.YtgpnbhnndhakhabRpb
set_option linter.unusedVariables false
set_option linter.unusedSimpArgs false
namespace Go.Vs
section
variable {α β : Type} {xs : List α} {x : α} {i : Nat}
theorem get_ex (h : i < xs.length) : ∃ a, xs[i]? = some a := ⟨xs[i], List.getElem?_eq_getElem h⟩
theorem get_lt (h : xs[i]? = some x) : i < xs.length := (List.getElem?_eq_some_iff.1 h).1
theorem get_mem (h : xs[i]? = some x) : x ∈ xs := List.mem_of_getElem? h
theorem take_succ (h : xs[i]? = some x) : xs.take (i + 1) = xs.take i ++ [x] := by rw [List.take_add_one, h]; rfl
theorem take_all (h : xs.length ≤ i) : xs.take i = xs := List.take_of_length_le h
theorem filter_take_succ (p : α → Bool) (h : xs[i]? = some x) : (xs.take (i + 1)).filter p = (xs.take i).filter p ++ (if p x then [x] else []) := by
  rw [take_succ h, List.filter_append]
  cases hp : p x <;> simp [hp]
theorem filter_take_t {p : α → Bool} (h : xs[i]? = some x) (hp : p x = true) : (xs.take (i + 1)).filter p = (xs.take i).filter p ++ [x] := by rw [filter_take_succ p h, if_pos hp]
theorem filter_take_f {p : α → Bool} (h : xs[i]? = some x) (hp : p x = false) : (xs.take (i + 1)).filter p = (xs.take i).filter p := by rw [filter_take_succ p h, hp]; simp
theorem all_take_succ {p : α → Prop} (h : xs[i]? = some x) (ha : ∀ y ∈ xs.take i, p y) (hx : p x) : ∀ y ∈ xs.take (i + 1), p y := fun y hy => by
  rw [take_succ h] at hy
  rcases List.mem_append.1 hy with h1 | h1
  · exact ha y h1
  · rw [List.mem_singleton.1 h1]; exact hx
def sumBy (f : α → Int) (l : List α) : Int := (l.map f).sum
theorem sumBy_cons (f : α → Int) (a : α) (l : List α) : sumBy f (a :: l) = f a + sumBy f l := by simp [sumBy]
theorem sumBy_app (f : α → Int) (a b : List α) : sumBy f (a ++ b) = sumBy f a + sumBy f b := by simp [sumBy]
theorem sumBy_take_succ (f : α → Int) (h : xs[i]? = some x) : sumBy f (xs.take (i + 1)) = sumBy f (xs.take i) + f x := by rw [take_succ h, sumBy_app]; simp [sumBy]
theorem sumBy_bound (f : α → Int) (B : Int) : ∀ (l : List α), (∀ y ∈ l, 0 ≤ f y ∧ f y ≤ B) → 0 ≤ sumBy f l ∧ sumBy f l ≤ B * l.length
  | [], _ => by simp [sumBy]
  | a :: l, h => by
    obtain ⟨h1, h2⟩ := sumBy_bound f B l fun y hy => h y (List.mem_cons_of_mem _ hy)
    obtain ⟨h3, h4⟩ := h a List.mem_cons_self
    rw [sumBy_cons, List.length_cons]
    constructor
    · omega
    · rw [Int.natCast_add, Int.mul_add]; omega
theorem sumBy_take_le (f : α → Int) (l : List α) (h : ∀ y ∈ l, 0 ≤ f y) (i : Nat) : sumBy f (l.take i) ≤ sumBy f l ∧ 0 ≤ sumBy f (l.take i) := by
  have h0 : ∀ l : List α, (∀ y ∈ l, 0 ≤ f y) → 0 ≤ sumBy f l := by
    intro l
    induction l with
    | nil => intro _; simp [sumBy]
    | cons a l ih => intro hl; rw [sumBy_cons]; have := hl a List.mem_cons_self; have := ih fun y hy => hl y (List.mem_cons_of_mem _ hy); omega
  have h1 := h0 (l.take i) fun y hy => h y (List.mem_of_mem_take hy)
  have h2 := h0 (l.drop i) fun y hy => h y (List.mem_of_mem_drop hy)
  have h3 : sumBy f l = sumBy f (l.take i) + sumBy f (l.drop i) := by rw [← sumBy_app, List.take_append_drop]
  omega
theorem sumBy_congr {f g : α → Int} {l : List α} (h : ∀ y ∈ l, f y = g y) : sumBy f l = sumBy g l := by
  unfold sumBy
  rw [List.map_congr_left h]
@[reducible] def ints (l : List Int) : List (List PV) := l.map fun n => [PV.int .i64 n]
theorem ints_at {l : List Int} {i : Nat} {n : Int} (h : l[i]? = some n) : (ints l)[i]? = some [PV.int .i64 n] := by simp [ints, h]
theorem ints_flat (l : List Int) : ∀ e ∈ ints l, ∀ c ∈ e, c.flat = true := by
  intro e he c hc
  obtain ⟨a, _, rfl⟩ := List.mem_map.1 he
  simp only [List.mem_cons, List.not_mem_nil, or_false] at hc
  rw [hc]
  rfl
theorem ints_len (l : List Int) : (ints l).length = l.length := by simp [ints]
theorem ints_snoc (l : List Int) (n : Int) : ints (l ++ [n]) = ints l ++ [[PV.int .i64 n]] := by simp [ints]
end
end Go.Vs
namespace Go.Vs
def idx {α : Type} (p : α → Bool) (xs : List α) : Int := match xs.findIdx? p with | some i => (i : Int) | none => -1
section
variable {α : Type} {xs : List α} {p : α → Bool} {i : Nat} {a : α}
theorem idx_some (h : ∀ j, j < i → ∀ c, xs[j]? = some c → p c = false) (ha : xs[i]? = some a) (he : p a = true) : idx p xs = i := by
  have : xs.findIdx? p = some i := by
    rw [List.findIdx?_eq_some_iff_getElem]
    obtain ⟨hi, hx⟩ := List.getElem?_eq_some_iff.1 ha
    refine ⟨hi, by rw [hx, he], fun j hj => ?_⟩
    have := h j hj _ (List.getElem?_eq_getElem (by omega))
    simpa using this
  rw [idx, this]
theorem idx_none (h : ∀ j, j < xs.length → ∀ c, xs[j]? = some c → p c = false) : idx p xs = -1 := by
  have : xs.findIdx? p = none := by
    rw [List.findIdx?_eq_none_iff]
    intro c hc
    obtain ⟨j, hj⟩ := List.getElem?_of_mem hc
    exact h j (List.getElem?_eq_some_iff.1 hj).1 c hj
  rw [idx, this]
theorem idx_step (h : ∀ j, j < i → ∀ c, xs[j]? = some c → p c = false) (ha : xs[i]? = some a) (he : p a = false) : ∀ j, j < i + 1 → ∀ c, xs[j]? = some c → p c = false := fun j hj c hc => by
  rcases Nat.lt_or_ge j i with h1 | h1
  · exact h j h1 c hc
  · have : j = i := by omega
    rw [this, ha] at hc
    injection hc with hc
    rw [← hc]; exact he
theorem idx_at (h : 0 ≤ idx p xs) : ∃ (i : Nat) (a : α), idx p xs = i ∧ xs[i]? = some a ∧ p a = true := by
  unfold idx at h ⊢
  cases hf : xs.findIdx? p with
  | none => rw [hf] at h; simp at h
  | some i =>
    obtain ⟨hi, h1, _⟩ := List.findIdx?_eq_some_iff_getElem.1 hf
    exact ⟨i, xs[i], rfl, List.getElem?_eq_getElem hi, h1⟩
theorem idx_any : decide (0 ≤ idx p xs) = xs.any p := by
  rw [Bool.eq_iff_iff, decide_eq_true_iff]
  constructor
  · intro h
    obtain ⟨i, a, _, h1, h2⟩ := idx_at h
    exact List.any_eq_true.2 ⟨a, List.mem_of_getElem? h1, h2⟩
  · intro h
    obtain ⟨a, ha, hp⟩ := List.any_eq_true.1 h
    rcases Int.lt_or_le (idx p xs) 0 with hlt | hle
    · exfalso
      unfold idx at hlt
      cases hf : xs.findIdx? p with
      | none =>
        rw [List.findIdx?_eq_none_iff] at hf
        rw [hf a ha] at hp
        cases hp
      | some i => rw [hf] at hlt; simp only at hlt; omega
    · exact hle
end
theorem allR_ptrs {d : Nat} {M : Mem} {ids rd : List Id} : ∀ (l : List (List PV)), AllR (SnapD (d + 1) M ids rd) (l.map PV.ptr) (l.map PV.ptr)
  | [] => trivial
  | _ :: l => ⟨rfl, allR_ptrs l⟩
end Go.Vs
namespace Go.Vs
section
variable {α : Type} {xs : List α} {x : α} {i : Nat}
theorem pair_of_adj {r : α → α → Prop} (ht : ∀ a b c, r a b → r b c → r a c) : ∀ (l : List α), (∀ (j : Nat) a b, l[j]? = some a → l[j + 1]? = some b → r a b) → l.Pairwise r
  | [], _ => List.Pairwise.nil
  | a :: l, h => by
    have ih := pair_of_adj ht l fun j x y hx hy => h (j + 1) x y (by simpa using hx) (by simpa using hy)
    refine List.pairwise_cons.2 ⟨fun b hb => ?_, ih⟩
    cases l with
    | nil => cases hb
    | cons c l =>
      have h0 := h 0 a c rfl rfl
      rcases List.mem_cons.1 hb with rfl | hb
      · exact h0
      · exact ht _ _ _ h0 ((List.pairwise_cons.1 ih).1 b hb)
end
end Go.Vs
set_option maxRecDepth 100000
set_option maxHeartbeats 4000000
namespace Go.Vs
theorem aD {p : Prop} (h : p := by first | rfl | assumption | (simp only [sx]; omega) | (simp; done) | fail) : p := h
theorem aL {p : Prop} (h : p := by (first | (simp only [lx, Nat.reduceAdd]; first | done | rfl) | fail)) : p := h
theorem aE {p : Prop} (h : p := by first | rfl | assumption | exact getSelf (by omega) | exact getNe (by omega) (by assumption)) : p := h
theorem aZ {p : Prop} (h : p := by first | (simp; done) | fail) : p := h
theorem aN {p : Prop} (h : p := by first | exact (takeAll rfl).symm | exact (takeAll (by assumption)).symm | exact (takeAll (by first | (simp; done) | omega | fail)).symm | (first | (simp only [lx, Nat.reduceAdd]; first | done | rfl) | fail) | fail) : p := h
theorem aP {p : Prop} (h : p := by first | (simp only [List.length_cons, List.length_nil, Nat.zero_add, Nat.reduceAdd]; exact rfl) | exact rfl) : p := h
theorem aH {p : Prop} (h : p := by simp only [thaw, thawT, thaw1, thawL, Nat.zero_add, Nat.reduceAdd]; exact rfl) : p := h
theorem aS {p : Prop} (h : p := by (repeat' (first | exact trivial | exact rfl | exact allR_ptrs _ | exact .inl rfl | exact sn_all rfl rfl rfl | exact sn_all rfl rfl (by first | omega | (simp; done) | fail) | exact sn_part rfl rfl (by first | (simp; done) | exact (takeAll (by assumption)).symm | exact (takeAll (by first | (simp; done) | omega | fail)).symm | (first | (simp only [lx, Nat.reduceAdd]; first | done | rfl) | fail) | fail) | refine sn_own rfl rfl rfl ?_ | exact List.length_map .. | refine ⟨?_, ?_⟩)); first | done | fail) : p := h
theorem aO {p : Prop} (h : p := by omega) : p := h
theorem aW {p : Prop} (h : p := by refine ⟨?_, ?_, rfl, rfl⟩ <;> (repeat' (first | exact trivial | exact ⟨rfl, rfl⟩ | exact rfl | exact ⟨sub_fn, refs_fn⟩ | refine ⟨⟨rfl, rfl⟩, ?_⟩ | refine ⟨⟨sub_fn, refs_fn⟩, ?_⟩ | refine ⟨⟨rfl, fun h => Bool.noConfusion h⟩, ?_⟩ | refine ⟨⟨rfl, fun h => ?_⟩, ?_⟩ | refine ⟨rfl, ?_⟩ | refine ⟨?_, ?_⟩ | fail))) : p := h
theorem aA {p : Prop} (h : p := by assumption) : p := h
theorem cl : (∀ (α : Type) (a : α) (l m : List α), (a :: l) ++ m = a :: (l ++ m)) ∧ (∀ (α : Type) (l : List α), [] ++ l = l) ∧ (∀ (α β : Type) (f : α → β) (a : α) (l : List α), (a :: l).map f = f a :: l.map f) ∧ (∀ (α β : Type) (f : α → β), ([] : List α).map f = []) := ⟨fun _ _ _ _ => rfl, fun _ _ => rfl, fun _ _ _ _ _ => rfl, fun _ _ _ => rfl⟩
theorem aR {p : Prop} (h : p := by ((first | refine ret_T rfl rfl rfl (by first | exact trivial | (repeat' (first | exact trivial | refine ⟨by assumption, ?_⟩))) (by repeat' (first | exact trivial | refine ⟨by simp, ?_⟩)) ?_ | refine ret_A rfl rfl rfl (by first | exact trivial | (repeat' (first | exact trivial | refine ⟨by assumption, ?_⟩))) (by repeat' (first | exact trivial | refine ⟨by simp, ?_⟩)) ?_); (repeat' (first | exact et_end | exact el_end | refine et_int rfl ?_ ?_ | refine et_bool ?_ ?_ | refine et_str ?_ ?_ | refine et_list (by rfl) (by decide) rfl rfl ?_ ?_ ?_ ?_ | refine et_nil ?_ ?_ | refine et_agg ?_ ?_ | refine el_int rfl ?_ ?_ | refine el_bool ?_ ?_ | refine el_str ?_ ?_ | refine el_list (by rfl) (by decide) rfl rfl ?_ ?_ ?_ ?_ | refine el_nil ?_ ?_)) <;> (first | rfl | assumption | (exact ints_flat _) | (simp; done) | omega))) : p := h
end Go.Vs
set_option linter.unusedVariables false
set_option linter.unusedSimpArgs false
set_option maxRecDepth 100000
namespace Go.Vs
open Go.Proofs
theorem hmix : Try.prog.follows .mixedOrders = true := by kernel_rfl
theorem ty_c3 : TCell Try.prog 3 := tcell (by kernel_rfl)
theorem ty_u3 : Try.prog.underlying 3 = some (.int .i64) := Try.underlying3
theorem ty_t3 : TSize Try.prog 3 1 := tsize (by kernel_rfl)
theorem ty_z3 : TZero Try.prog 3 [.int .i64 0] := tzero (.int .i64 0) (by kernel_rfl) rfl
theorem ty_c4 : TCell Try.prog 4 := tcell (by kernel_rfl)
theorem ty_u4 : Try.prog.underlying 4 = some .bool := Try.underlying4
theorem ty_t4 : TSize Try.prog 4 1 := tsize (by kernel_rfl)
theorem ty_z4 : TZero Try.prog 4 [.bool false] := tzero (.bool false) (by kernel_rfl) rfl
theorem ty_c5 : TCell Try.prog 5 := tcell (by kernel_rfl)
theorem ty_u5 : Try.prog.underlying 5 = some (.int .u8) := Try.underlying5
theorem ty_u9 : Try.prog.underlying 9 = some .string := Try.underlying9
theorem ty_c22 : TCell Try.prog 22 := tcell (by kernel_rfl)
theorem ty_u22 : Try.prog.underlying 22 = some (.slice 5) := Try.underlying22
theorem ty_s22 : TSlice Try.prog 22 5 1 1 := tslice (by kernel_rfl)
theorem ty_c24 : TCell Try.prog 24 := tcell (by kernel_rfl)
theorem ty_u24 : Try.prog.underlying 24 = some (.slice 3) := Try.underlying24
theorem ty_t24 : TSize Try.prog 24 1 := tsize (by kernel_rfl)
theorem ty_z24 : TZero Try.prog 24 [.nil] := tzero (.slice none 0 0) (by kernel_rfl) rfl
theorem ty_s24 : TSlice Try.prog 24 3 1 8 := tslice (by kernel_rfl)
theorem ty_t26 : TSize Try.prog 26 3 := tsize (by kernel_rfl)
theorem ty_z26 : TZero Try.prog 26 [.int .i64 0, .int .i64 0, .nil] := tzero (.agg #[.int .i64 0, .int .i64 0, .slice none 0 0]) (by kernel_rfl) rfl
theorem ty_a26 : TAgg Try.prog 26 3 := tagg (by kernel_rfl)
theorem ty_f26_0 : TField Try.prog 26 0 0 := tfield (by kernel_rfl)
theorem ty_f26_1 : TField Try.prog 26 1 1 := tfield (by kernel_rfl)
theorem ty_f26_2 : TField Try.prog 26 2 2 := tfield (by kernel_rfl)
theorem ty_st26 : TStruct Try.prog 26 [(0, 1), (1, 1), (2, 1)] [.int .i64 0, .int .i64 0, .nil] := tstruct (by kernel_rfl) ty_z26
theorem ty_u35 : Try.prog.underlying 35 = some (.slice 24) := Try.underlying35
theorem ty_s35 : TSlice Try.prog 35 24 1 24 := tslice (by kernel_rfl)
theorem ty_c68 : TCell Try.prog 68 := tcell (by kernel_rfl)
theorem ty_c77 : TCell Try.prog 77 := tcell (by kernel_rfl)
theorem ty_u77 : Try.prog.underlying 77 = some (.int .u64) := Try.underlying77
theorem ty_t77 : TSize Try.prog 77 1 := tsize (by kernel_rfl)
theorem ty_z79 : TZero Try.prog 79 [.nil, .int .i64 0, .int .u64 0] := tzero (.agg #[.slice none 0 0, .int .i64 0, .int .u64 0]) (by kernel_rfl) rfl
theorem ty_f79_0 : TField Try.prog 79 0 0 := tfield (by kernel_rfl)
theorem ty_f79_1 : TField Try.prog 79 1 1 := tfield (by kernel_rfl)
theorem ty_f79_2 : TField Try.prog 79 2 2 := tfield (by kernel_rfl)
theorem ty_st79 : TStruct Try.prog 79 [(0, 1), (1, 1), (2, 1)] [.nil, .int .i64 0, .int .u64 0] := tstruct (by kernel_rfl) ty_z79
theorem ty_c83 : TCell Try.prog 83 := tcell (by kernel_rfl)
theorem ty_c108 : TCell Try.prog 108 := tcell (by kernel_rfl)
theorem ty_c113 : TCell Try.prog 113 := tcell (by kernel_rfl)
theorem ty_t113 : TSize Try.prog 113 1 := tsize (by kernel_rfl)
theorem ty_z113 : TZero Try.prog 113 [.nil] := tzero (.slice none 0 0) (by kernel_rfl) rfl
theorem ty_s113 : TSlice Try.prog 113 4 1 1 := tslice (by kernel_rfl)
end Go.Vs
set_option linter.unusedVariables false
set_option linter.unusedSimpArgs false
set_option maxRecDepth 100000
set_option maxHeartbeats 4000000
namespace Go.Vs
open Go.Proofs
attribute [local irreducible] exec vwp thenQ blkQ loopQ RetPost
theorem k_l1In (x a b : Int) : Con Try.prog 137 [.int .i64 x, .int .i64 a, .int .i64 b] (.bool (decide (a ≤ x) && decide (x ≤ b))) := by
  intro al
  refine zba hmix Try.func137 rfl (by kernel_rfl) (by kernel_rfl) (Nat.le_of_ble_eq_true rfl) (fun row h => by cases h) ?_
  repeat' (first
      | (refine zaz ?_; first | (refine za4 ?_; refine zas _ rfl ?_) | (refine zak ?_; refine zaa _ rfl ?_) | (refine zbu ?_; refine zbs _ rfl rfl rfl ?_) | (refine zb3 ?_; first | (refine zbn rfl aD rfl ?_) | (refine zbp rfl aD ?_) | (refine zbm rfl aD ?_) | (refine zbq rfl aD rfl ?_)) | (refine zby ?_; first | (refine zb4 rfl rfl aD ?_) | (refine zcc rfl rfl aD ?_) | (refine zcb rfl rfl ?_) | (refine zbo rfl rfl (fun h => ?_) (fun h => ?_) <;> (have h' := h; (try simp only [sx] at h')))) | (refine zar (hK _ _ (.inl rfl) ?_); clear hK K) | (refine zar (hK _ _ (.inr (by kernel_rfl)) ?_); clear hK K))
      | (refine za3 ?_; first | (refine zbk ?_) | (refine zaf (fun K hK => ?_)) | (refine zap ?_) | (refine za0 ?_) | (refine zbj ?_) | (refine za1 ?_))
      | (refine za2 ?_) | (refine zag ?_) | (refine zaj ?_) | (refine zao ?_) | (refine zam ?_) | (refine zan ?_) | (refine zaq rfl ?_) | (refine zah ?_) | (refine zai ?_) | (refine zbi ?_))
  all_goals (refine zb2 rfl (zbh rfl) ?_; simp; omega)
theorem k_in (x a b : Int) : Con Try.prog 140 [.int .i64 x, .int .i64 a, .int .i64 b] (.bool (decide (a ≤ x) && decide (x ≤ b))) := by
  intro al
  refine zba hmix Try.func140 rfl (by kernel_rfl) (by kernel_rfl) (Nat.le_of_ble_eq_true rfl) (fun row h => by cases h) ?_
  repeat' (first
      | (refine zaz ?_; first | (refine za4 ?_; refine zas _ rfl ?_) | (refine zak ?_; refine zaa _ rfl ?_) | (refine zbu ?_; refine zbs _ rfl rfl rfl ?_) | (refine zb3 ?_; first | (refine zbn rfl aD rfl ?_) | (refine zbp rfl aD ?_) | (refine zbm rfl aD ?_) | (refine zbq rfl aD rfl ?_)) | (refine zby ?_; first | (refine zb4 rfl rfl aD ?_) | (refine zcc rfl rfl aD ?_) | (refine zcb rfl rfl ?_) | (refine zbo rfl rfl (fun h => ?_) (fun h => ?_) <;> (have h' := h; (try simp only [sx] at h')))) | (refine zar (hK _ _ (.inl rfl) ?_); clear hK K) | (refine zar (hK _ _ (.inr (by kernel_rfl)) ?_); clear hK K))
      | (refine za3 ?_; first | (refine zbk ?_) | (refine zaf (fun K hK => ?_)) | (refine zap ?_) | (refine za0 ?_) | (refine zbj ?_) | (refine za1 ?_))
      | (refine za2 ?_) | (refine zag ?_) | (refine zaj ?_) | (refine zao ?_) | (refine zam ?_) | (refine zan ?_) | (refine zaq rfl ?_) | (refine zah ?_) | (refine zai ?_) | (refine zbi ?_))
  all_goals (refine zb2 rfl (zbh rfl) ?_; simp; omega)
theorem k_l1Most (a b : Int) : Con Try.prog 155 [.int .i64 a, .int .i64 b] (.int .i64 (max a b)) := by
  intro al
  refine zba hmix Try.func155 rfl (by kernel_rfl) (by kernel_rfl) (Nat.le_of_ble_eq_true rfl) (fun row h => by cases h) ?_
  repeat' (first
      | (refine zaz ?_; first | (refine za4 ?_; refine zas _ rfl ?_) | (refine zak ?_; refine zaa _ rfl ?_) | (refine zbu ?_; refine zbs _ rfl rfl rfl ?_) | (refine zar (hK _ _ (.inl rfl) ?_); clear hK K) | (refine zar (hK _ _ (.inr (by kernel_rfl)) ?_); clear hK K))
      | (refine za3 ?_; first | (refine zbk ?_) | (refine zaf (fun K hK => ?_)) | (refine zap ?_) | (refine za0 ?_) | (refine zbj ?_) | (refine za1 ?_) | (refine zbe ?_; first | (refine zat rfl aD ?_) | (refine zau rfl aD ?_) | (refine zay rfl (fun h => ?_) (fun h => ?_) <;> (have h' := h; (try simp only [sx] at h')))))
      | (refine za2 ?_) | (refine zag ?_) | (refine zaj ?_) | (refine zao ?_) | (refine zam ?_) | (refine zan ?_) | (refine zaq rfl ?_) | (refine zah ?_) | (refine zai ?_) | (refine zbi ?_))
  all_goals (exact ret_int rfl (zbh rfl) aO)
end Go.Vs
set_option linter.unusedVariables false
set_option linter.unusedSimpArgs false
set_option maxRecDepth 100000
set_option maxHeartbeats 4000000
namespace Go.Vs
open Go.Proofs
attribute [local irreducible] exec vwp thenQ blkQ loopQ RetPost
structure Terrain where
  (width height : Int)
  (burn : List Int)
  deriving DecidableEq
@[reducible] def Terrain.pv (t : Terrain) : List PV := [.int .i64 t.width, .int .i64 t.height, .list 1 (ints t.burn)]
end Go.Vs
set_option linter.unusedVariables false
set_option linter.unusedSimpArgs false
set_option maxRecDepth 100000
set_option maxHeartbeats 4000000
namespace Go.Vs
open Go.Proofs
attribute [local irreducible] exec vwp thenQ blkQ loopQ RetPost
theorem k_IndexFuncInt (xs : List Int) (g : FuncId) (ca : List (List PV)) (p : Int → Bool) (hg : ∀ a ∈ xs, Con Try.prog g (.int .i64 a :: ca.map PV.ptr) (.bool (p a))) (hn : xs.length ≤ 1099511627776) :
    Con Try.prog 154 [.list 1 (ints xs), .fn g [] (ca.map PV.ptr)] (.int .i64 (idx p xs)) := by
  intro al
  refine zba hmix Try.func154 rfl (by kernel_rfl) (by kernel_rfl) (Nat.le_of_ble_eq_true rfl) (fun row h => by cases h) ?_
  have hty_u24 := ty_u24
  have hty_s24 := ty_s24
  have hty_c3 := ty_c3
  have hl1 : (ints xs).length = xs.length := by simp
  repeat' (first
      | (refine zaz ?_; first | (refine za4 ?_; refine zas _ rfl ?_) | (refine zak ?_; refine zaa _ rfl ?_) | (refine zbu ?_; first | (refine zb0 rfl rfl aO ?_) | (refine zbs _ rfl rfl rfl ?_) | (refine zav _ rfl rfl rfl ?_)) | (refine zbb ?_; first | (refine zab aA rfl ?_) | (refine zae _ aA rfl rfl aE rfl ?_) | (refine zac _ aA rfl aZ aL ?_) | (refine zad _ aA rfl rfl aE aZ aL ?_)) | (refine zbd ?_; first | (refine zax _ aA rfl rfl aO aA ?_) | (refine zaw _ aA rfl rfl rfl rfl aO aO (by first | (rw [Nat.zero_add, Int.toNat_natCast]) | (rw [Nat.zero_add]) | rfl) ?_)) | (refine za9 ?_; first | (refine za8 aA rfl ?_) | (refine za6 aA rfl rfl ?_) | (refine za5 aA rfl ?_) | (refine za7 aA (evO_ok rfl) ?_)) | (refine zar (hK _ _ (.inl rfl) ?_); clear hK K) | (refine zar (hK _ _ (.inr (by kernel_rfl)) ?_); clear hK K))
      | (refine za3 ?_; first | (refine zbk ?_) | (refine zaf (fun K hK => ?_)) | (refine zap ?_) | (refine za0 ?_) | (refine zbj ?_) | (refine za1 ?_) | (refine zbe ?_; first | (refine zat rfl aD ?_) | (refine zau rfl aD ?_) | (refine zay rfl (fun h => ?_) (fun h => ?_) <;> (have h' := h; (try simp only [sx] at h')))))
      | (refine za2 ?_) | (refine zag ?_) | (refine zaj ?_) | (refine zao ?_) | (refine zam ?_) | (refine zan ?_) | (refine zaq rfl ?_) | (refine zah ?_) | (refine zai ?_) | (refine zbi ?_))
  refine zcd [0, 1, 7] [] (fun i : Nat => [(8, .int .i64 i)]) (fun i : Nat => []) (fun i : Nat => i ≤ xs.length ∧ ∀ j, j < i → ∀ c, xs[j]? = some c → p c = false) (fun i : Nat => xs.length - i) (0) rfl rfl (fun _ => rfl) (fun _ => rfl) rfl aW ⟨by omega, fun j hj => by omega⟩ (fun i hi => ?_)
  obtain ⟨hi1, hi2⟩ := hi
  rcases Nat.lt_or_ge i xs.length with hlt | hge
  · obtain ⟨a, hga⟩ := get_ex hlt
    have hx := ints_at hga
    have kg := hg a (get_mem hga)
    repeat' (first
      | (refine zaz ?_; first | (refine za4 ?_; refine zas _ rfl ?_) | (refine zak ?_; refine zaa _ rfl ?_) | (refine zbu ?_; first | (refine zb0 rfl rfl aO ?_) | (refine zbs _ rfl rfl rfl ?_) | (refine zav _ rfl rfl rfl ?_)) | (refine zbb ?_; first | (refine zab aA rfl ?_) | (refine zae _ aA rfl rfl aE rfl ?_) | (refine zac _ aA rfl aZ aL ?_) | (refine zad _ aA rfl rfl aE aZ aL ?_)) | (refine zbd ?_; first | (refine zax _ aA rfl rfl aO aA ?_) | (refine zaw _ aA rfl rfl rfl rfl aO aO (by first | (rw [Nat.zero_add, Int.toNat_natCast]) | (rw [Nat.zero_add]) | rfl) ?_)) | (refine za9 ?_; first | (refine zbc true (kg) rfl rfl rfl aS rfl aH ?_; simp only [cl]) | (refine x_call [] _ (kg) rfl rfl aS rfl aH ?_; simp only [cl]) | (refine za8 aA rfl ?_) | (refine za6 aA rfl rfl ?_) | (refine za5 aA rfl ?_) | (refine za7 aA (evO_ok rfl) ?_)) | (refine zar (hK _ _ (.inl rfl) ?_); clear hK K) | (refine zar (hK _ _ (.inr (by kernel_rfl)) ?_); clear hK K))
      | (refine za3 ?_; first | (refine zbk ?_) | (refine zaf (fun K hK => ?_)) | (refine zap ?_) | (refine za0 ?_) | (refine zbj ?_) | (refine za1 ?_) | (refine zbe ?_; first | (refine zat rfl aD ?_) | (refine zau rfl aD ?_) | (refine zay rfl (fun h => ?_) (fun h => ?_) <;> (have h' := h; (try simp only [sx] at h')))))
      | (refine za2 ?_) | (refine zag ?_) | (refine zaj ?_) | (refine zao ?_) | (refine zam ?_) | (refine zan ?_) | (refine zaq rfl ?_) | (refine zah ?_) | (refine zai ?_) | (refine zbi ?_))
    · exact ret_int rfl (zbh rfl) (idx_some hi2 hga aA).symm
    · refine zb6 (i + 1) rfl aW ⟨by omega, idx_step hi2 hga (by simpa using h)⟩ aO
  · repeat' (first
      | (refine zaz ?_; first | (refine za4 ?_; refine zas _ rfl ?_) | (refine zak ?_; refine zaa _ rfl ?_) | (refine zbu ?_; first | (refine zb0 rfl rfl aO ?_) | (refine zbs _ rfl rfl rfl ?_) | (refine zav _ rfl rfl rfl ?_)) | (refine zbb ?_; first | (refine zab aA rfl ?_) | (refine zae _ aA rfl rfl aE rfl ?_) | (refine zac _ aA rfl aZ aL ?_) | (refine zad _ aA rfl rfl aE aZ aL ?_)) | (refine zbd ?_; first | (refine zax _ aA rfl rfl aO aA ?_) | (refine zaw _ aA rfl rfl rfl rfl aO aO (by first | (rw [Nat.zero_add, Int.toNat_natCast]) | (rw [Nat.zero_add]) | rfl) ?_)) | (refine za9 ?_; first | (refine za8 aA rfl ?_) | (refine za6 aA rfl rfl ?_) | (refine za5 aA rfl ?_) | (refine za7 aA (evO_ok rfl) ?_)) | (refine zar (hK _ _ (.inl rfl) ?_); clear hK K) | (refine zar (hK _ _ (.inr (by kernel_rfl)) ?_); clear hK K))
      | (refine za3 ?_; first | (refine zbk ?_) | (refine zaf (fun K hK => ?_)) | (refine zap ?_) | (refine za0 ?_) | (refine zbj ?_) | (refine za1 ?_) | (refine zbe ?_; first | (refine zat rfl aD ?_) | (refine zau rfl aD ?_) | (refine zay rfl (fun h => ?_) (fun h => ?_) <;> (have h' := h; (try simp only [sx] at h')))))
      | (refine za2 ?_) | (refine zag ?_) | (refine zaj ?_) | (refine zao ?_) | (refine zam ?_) | (refine zan ?_) | (refine zaq rfl ?_) | (refine zah ?_) | (refine zai ?_) | (refine zbi ?_))
    exact ret_int rfl (zbh rfl) (idx_none fun j hj => hi2 j aO).symm
theorem k_ContainsFuncInt (xs : List Int) (g : FuncId) (ca : List (List PV)) (p : Int → Bool) (hg : ∀ a ∈ xs, Con Try.prog g (.int .i64 a :: ca.map PV.ptr) (.bool (p a))) (hn : xs.length ≤ 1099511627776) :
    Con Try.prog 113 [.list 1 (ints xs), .fn g [] (ca.map PV.ptr)] (.bool (xs.any p)) := by
  intro al
  refine zba hmix Try.func113 rfl (by kernel_rfl) (by kernel_rfl) (Nat.le_of_ble_eq_true rfl) (fun row h => by cases h) ?_
  have hty_u24 := ty_u24
  have hty_s24 := ty_s24
  repeat' (first
      | (refine zaz ?_; first | (refine za4 ?_; refine zas _ rfl ?_) | (refine zak ?_; refine zaa _ rfl ?_) | (refine zbu ?_; refine zbs _ rfl rfl rfl ?_) | (refine za9 ?_; refine zbc false (k_IndexFuncInt xs g ca p hg hn) rfl rfl rfl aS rfl aH ?_; simp only [cl]) | (refine zar (hK _ _ (.inl rfl) ?_); clear hK K) | (refine zar (hK _ _ (.inr (by kernel_rfl)) ?_); clear hK K))
      | (refine za3 ?_; first | (refine zbk ?_) | (refine zaf (fun K hK => ?_)) | (refine zap ?_) | (refine za0 ?_) | (refine zbj ?_) | (refine za1 ?_))
      | (refine za2 ?_) | (refine zag ?_) | (refine zaj ?_) | (refine zao ?_) | (refine zam ?_) | (refine zan ?_) | (refine zaq rfl ?_) | (refine zah ?_) | (refine zai ?_) | (refine zbi ?_))
  refine zb2 rfl (zbh rfl) ?_
  rw [← idx_any]
theorem k_all1Int (a : Int) (g : FuncId) (ca : List (List PV)) (b : Bool) (hg : Con Try.prog g (.int .i64 a :: ca.map PV.ptr) (.bool b)) :
    Con Try.prog 114 [.int .i64 a, .ptr [.fn g [] (ca.map PV.ptr)]] (.bool (!b)) := by
  intro al
  refine zba hmix Try.func114 rfl (by kernel_rfl) (by kernel_rfl) (Nat.le_of_ble_eq_true rfl) (fun row h => by cases h) ?_
  have hty_c68 := ty_c68
  have kg := hg
  repeat' (first
      | (refine zaz ?_; first | (refine za4 ?_; refine zas _ rfl ?_) | (refine zak ?_; refine zaa _ rfl ?_) | (refine g_un ?_; first | (refine zb7 rfl ?_) | (refine zb8 rfl aO ?_)) | (refine zbb ?_; first | (refine zab aA rfl ?_) | (refine zae _ aA rfl rfl aE rfl ?_) | (refine zac _ aA rfl aZ aL ?_) | (refine zad _ aA rfl rfl aE aZ aL ?_)) | (refine za9 ?_; first | (refine zbc true (kg) rfl rfl rfl aS rfl aH ?_; simp only [cl]) | (refine x_call [] _ (kg) rfl rfl aS rfl aH ?_; simp only [cl])) | (refine zar (hK _ _ (.inl rfl) ?_); clear hK K) | (refine zar (hK _ _ (.inr (by kernel_rfl)) ?_); clear hK K))
      | (refine za3 ?_; first | (refine zbk ?_) | (refine zaf (fun K hK => ?_)) | (refine zap ?_) | (refine za0 ?_) | (refine zbj ?_) | (refine za1 ?_))
      | (refine za2 ?_) | (refine zag ?_) | (refine zaj ?_) | (refine zao ?_) | (refine zam ?_) | (refine zan ?_) | (refine zaq rfl ?_) | (refine zah ?_) | (refine zai ?_) | (refine zbi ?_))
  exact zb2 rfl (zbh rfl) rfl
theorem k_allInt (xs : List Int) (g : FuncId) (ca : List (List PV)) (p : Int → Bool) (hg : ∀ a ∈ xs, Con Try.prog g (.int .i64 a :: ca.map PV.ptr) (.bool (p a))) (hn : xs.length ≤ 1099511627776) :
    Con Try.prog 58 [.list 1 (ints xs), .fn g [] (ca.map PV.ptr)] (.bool (xs.all p)) := by
  intro al
  refine zba hmix Try.func58 rfl (by kernel_rfl) (by kernel_rfl) (Nat.le_of_ble_eq_true rfl) (fun row h => by cases h) ?_
  have hty_u24 := ty_u24
  have hty_s24 := ty_s24
  repeat' (first
      | (refine zaz ?_; first | (refine za4 ?_; refine zas _ rfl ?_) | (refine zak ?_; refine zaa _ rfl ?_) | (refine g_un ?_; first | (refine zb7 rfl ?_) | (refine zb8 rfl aO ?_)) | (refine za9 ?_; refine zbc true (k_ContainsFuncInt xs 114 [[.fn g [] (ca.map PV.ptr)]] (fun a => !p a) (fun a ha => k_all1Int a g ca (p a) (hg a ha)) hn) rfl rfl rfl aS rfl aH ?_; simp only [cl]) | (refine zbt _ _ rfl rfl rfl rfl ?_) | (refine zcm _ _ rfl rfl ?_) | (refine zar (hK _ _ (.inl rfl) ?_); clear hK K) | (refine zar (hK _ _ (.inr (by kernel_rfl)) ?_); clear hK K))
      | (refine za3 ?_; first | (refine zbk ?_) | (refine zaf (fun K hK => ?_)) | (refine zap ?_) | (refine za0 ?_) | (refine zbj ?_) | (refine za1 ?_))
      | (refine za2 ?_) | (refine zag ?_) | (refine zaj ?_) | (refine zao ?_) | (refine zam ?_) | (refine zan ?_) | (refine zaq rfl ?_) | (refine zah ?_) | (refine zai ?_) | (refine zbi ?_))
  refine zb2 rfl (zbh rfl) ?_
  rw [List.all_eq_not_any_not]
theorem k_copyOfInt (xs : List Int) (hn : xs.length ≤ 1099511627776) : Con Try.prog 85 [.list 1 (ints xs)] (.olist 3 1 (ints xs)) := by
  intro al
  refine zba hmix Try.func85 rfl (by kernel_rfl) (by kernel_rfl) (Nat.le_of_ble_eq_true rfl) (fun row h => by cases h) ?_
  have hty_s24 := ty_s24
  have hty_u24 := ty_u24
  have hl1 : (ints xs).length = xs.length := by simp
  repeat' (first
      | (refine zaz ?_; first | (refine za4 ?_; refine zas _ rfl ?_) | (refine zak ?_; refine zaa _ rfl ?_) | (refine za9 ?_; first | (refine zbx _ _ aA rfl (lookM (by rfl)) rfl (lookM (by rfl)) rfl aN ⟨rfl, rfl, by decide, by decide⟩ (by first | rfl | omega | (simp; done) | (simp; omega) | fail) ⟨by first | (simp only [List.length_cons, List.length_nil]; omega) | omega | fail, by decide⟩ rfl (by first | (first | (simp only [lx, Nat.reduceAdd]; first | done | rfl) | fail) | rfl) aP ?_) | (refine zbw _ _ aA rfl rfl (lookM (by rfl)) ⟨rfl, by decide⟩ aN (by first | exact Nat.succ_pos _ | omega | (simp; done)) ⟨by first | (simp only [List.length_cons, List.length_nil]; omega) | omega | fail, by decide⟩ rfl rfl aP ?_) | (refine zbv _ aA rfl rfl (lookM (by rfl)) ⟨rfl, by decide⟩ aN ⟨by first | (simp only [List.length_cons, List.length_nil]; omega) | omega | fail, by decide⟩ rfl aP ?_) | (refine zbl _ aA rfl rfl rfl ⟨rfl, rfl, rfl, by decide, by decide⟩ (by first | rfl | (simp; done) | fail) ⟨by omega, by decide⟩ rfl aL (by first | (rw [Nat.zero_add]) | rfl) ?_)) | (refine zal aA rfl rfl rfl ?_) | (refine zar (hK _ _ (.inl rfl) ?_); clear hK K) | (refine zar (hK _ _ (.inr (by kernel_rfl)) ?_); clear hK K))
      | (refine za3 ?_; first | (refine zbk ?_) | (refine zaf (fun K hK => ?_)) | (refine zap ?_) | (refine za0 ?_) | (refine zbj ?_) | (refine za1 ?_))
      | (refine za2 ?_) | (refine zag ?_) | (refine zaj ?_) | (refine zao ?_) | (refine zam ?_) | (refine zan ?_) | (refine zaq rfl ?_) | (refine zah ?_) | (refine zai ?_) | (refine zbi ?_))
  exact ret_list rfl (zbh (by rfl)) (by rfl) (by decide) rfl (ints_flat xs) rfl
theorem k_filterInt (xs : List Int) (g : FuncId) (ca : List (List PV)) (p : Int → Bool) (hg : ∀ a ∈ xs, Con Try.prog g (.int .i64 a :: ca.map PV.ptr) (.bool (p a))) (hn : xs.length ≤ 1099511627776) :
    Con Try.prog 65 [.list 1 (ints xs), .fn g [] (ca.map PV.ptr)] (.olist 3 1 (ints (xs.filter p))) := by
  intro al
  refine zba hmix Try.func65 rfl (by kernel_rfl) (by kernel_rfl) (Nat.le_of_ble_eq_true rfl) (fun row h => by cases h) ?_
  have hty_s24 := ty_s24
  have hty_u24 := ty_u24
  have hty_c3 := ty_c3
  have hl1 : (ints xs).length = xs.length := by simp
  repeat' (first
      | (refine zaz ?_; first | (refine za4 ?_; refine zas _ rfl ?_) | (refine zak ?_; refine zaa _ rfl ?_) | (refine zbu ?_; first | (refine zb0 rfl rfl aO ?_) | (refine zbs _ rfl rfl rfl ?_) | (refine zav _ rfl rfl rfl ?_)) | (refine zbb ?_; first | (refine zab aA rfl ?_) | (refine zae _ aA rfl rfl aE rfl ?_) | (refine zac _ aA rfl aZ aL ?_) | (refine zad _ aA rfl rfl aE aZ aL ?_)) | (refine zbd ?_; first | (refine zax _ aA rfl rfl aO aA ?_) | (refine zaw _ aA rfl rfl rfl rfl aO aO (by first | (rw [Nat.zero_add, Int.toNat_natCast]) | (rw [Nat.zero_add]) | rfl) ?_)) | (refine za9 ?_; first | (refine za8 aA rfl ?_) | (refine za6 aA rfl rfl ?_) | (refine za5 aA rfl ?_) | (refine za7 aA (evO_ok rfl) ?_) | (refine zbx _ _ aA rfl (lookM (by rfl)) rfl (lookM (by rfl)) rfl aN ⟨rfl, rfl, by decide, by decide⟩ (by first | rfl | omega | (simp; done) | (simp; omega) | fail) ⟨by first | (simp only [List.length_cons, List.length_nil]; omega) | omega | fail, by decide⟩ rfl (by first | (first | (simp only [lx, Nat.reduceAdd]; first | done | rfl) | fail) | rfl) aP ?_) | (refine zbw _ _ aA rfl rfl (lookM (by rfl)) ⟨rfl, by decide⟩ aN (by first | exact Nat.succ_pos _ | omega | (simp; done)) ⟨by first | (simp only [List.length_cons, List.length_nil]; omega) | omega | fail, by decide⟩ rfl rfl aP ?_) | (refine zbv _ aA rfl rfl (lookM (by rfl)) ⟨rfl, by decide⟩ aN ⟨by first | (simp only [List.length_cons, List.length_nil]; omega) | omega | fail, by decide⟩ rfl aP ?_) | (refine zbl _ aA rfl rfl rfl ⟨rfl, rfl, rfl, by decide, by decide⟩ (by first | rfl | (simp; done) | fail) ⟨by omega, by decide⟩ rfl aL (by first | (rw [Nat.zero_add]) | rfl) ?_)) | (refine zal aA rfl rfl rfl ?_) | (refine zar (hK _ _ (.inl rfl) ?_); clear hK K) | (refine zar (hK _ _ (.inr (by kernel_rfl)) ?_); clear hK K))
      | (refine za3 ?_; first | (refine zbk ?_) | (refine zaf (fun K hK => ?_)) | (refine zap ?_) | (refine za0 ?_) | (refine zbj ?_) | (refine za1 ?_) | (refine zbe ?_; first | (refine zat rfl aD ?_) | (refine zau rfl aD ?_) | (refine zay rfl (fun h => ?_) (fun h => ?_) <;> (have h' := h; (try simp only [sx] at h')))))
      | (refine za2 ?_) | (refine zag ?_) | (refine zaj ?_) | (refine zao ?_) | (refine zam ?_) | (refine zan ?_) | (refine zaq rfl ?_) | (refine zah ?_) | (refine zai ?_) | (refine zbi ?_))
  refine zcd [1, 9, 10] [] (fun q : Nat × Nat × List (List PV) => [(5, .osl (1001, 0) 0 q.2.1), (11, .int .i64 q.1)]) (fun q : Nat × Nat × List (List PV) => [((1001, 0), some ⟨3, 1, q.2.2, false⟩)]) (fun q : Nat × Nat × List (List PV) => q.1 ≤ xs.length ∧ q.2.2 = ints ((xs.take q.1).filter p) ∧ q.2.2.length = q.2.1) (fun q : Nat × Nat × List (List PV) => xs.length - q.1) ((0, 0, [])) rfl rfl (fun _ => rfl) (fun _ => rfl) rfl aW ⟨by simp, by simp, rfl⟩ (fun q hq => ?_)
  obtain ⟨i, m, es⟩ := q
  obtain ⟨hi1, hi2, hl⟩ := hq
  simp only at hi1 hi2 hl
  have hle : es.length ≤ i := by rw [hi2]; simp only [List.length_map]; exact Nat.le_trans (List.length_filter_le _ _) (by rw [List.length_take]; omega)
  rcases Nat.lt_or_ge i xs.length with hlt | hge
  · obtain ⟨a, hga⟩ := get_ex hlt
    have hx := ints_at hga
    have kg := hg a (get_mem hga)
    dsimp only
    repeat' (first
      | (refine zaz ?_; first | (refine za4 ?_; refine zas _ rfl ?_) | (refine zak ?_; refine zaa _ rfl ?_) | (refine zbu ?_; first | (refine zb0 rfl rfl aO ?_) | (refine zbs _ rfl rfl rfl ?_) | (refine zav _ rfl rfl rfl ?_)) | (refine zbb ?_; first | (refine zab aA rfl ?_) | (refine zae _ aA rfl rfl aE rfl ?_) | (refine zac _ aA rfl aZ aL ?_) | (refine zad _ aA rfl rfl aE aZ aL ?_)) | (refine zbd ?_; first | (refine zax _ aA rfl rfl aO aA ?_) | (refine zaw _ aA rfl rfl rfl rfl aO aO (by first | (rw [Nat.zero_add, Int.toNat_natCast]) | (rw [Nat.zero_add]) | rfl) ?_)) | (refine za9 ?_; first | (refine zbc true (kg) rfl rfl rfl aS rfl aH ?_; simp only [cl]) | (refine x_call [] _ (kg) rfl rfl aS rfl aH ?_; simp only [cl]) | (refine za8 aA rfl ?_) | (refine za6 aA rfl rfl ?_) | (refine za5 aA rfl ?_) | (refine za7 aA (evO_ok rfl) ?_) | (refine zbx _ _ aA rfl (lookM (by rfl)) rfl (lookM (by rfl)) rfl aN ⟨rfl, rfl, by decide, by decide⟩ (by first | rfl | omega | (simp; done) | (simp; omega) | fail) ⟨by first | (simp only [List.length_cons, List.length_nil]; omega) | omega | fail, by decide⟩ rfl (by first | (first | (simp only [lx, Nat.reduceAdd]; first | done | rfl) | fail) | rfl) aP ?_) | (refine zbw _ _ aA rfl rfl (lookM (by rfl)) ⟨rfl, by decide⟩ aN (by first | exact Nat.succ_pos _ | omega | (simp; done)) ⟨by first | (simp only [List.length_cons, List.length_nil]; omega) | omega | fail, by decide⟩ rfl rfl aP ?_) | (refine zbv _ aA rfl rfl (lookM (by rfl)) ⟨rfl, by decide⟩ aN ⟨by first | (simp only [List.length_cons, List.length_nil]; omega) | omega | fail, by decide⟩ rfl aP ?_) | (refine zbl _ aA rfl rfl rfl ⟨rfl, rfl, rfl, by decide, by decide⟩ (by first | rfl | (simp; done) | fail) ⟨by omega, by decide⟩ rfl aL (by first | (rw [Nat.zero_add]) | rfl) ?_)) | (refine zal aA rfl rfl rfl ?_) | (refine zar (hK _ _ (.inl rfl) ?_); clear hK K) | (refine zar (hK _ _ (.inr (by kernel_rfl)) ?_); clear hK K))
      | (refine za3 ?_; first | (refine zbk ?_) | (refine zaf (fun K hK => ?_)) | (refine zap ?_) | (refine za0 ?_) | (refine zbj ?_) | (refine za1 ?_) | (refine zbe ?_; first | (refine zat rfl aD ?_) | (refine zau rfl aD ?_) | (refine zay rfl (fun h => ?_) (fun h => ?_) <;> (have h' := h; (try simp only [sx] at h')))))
      | (refine za2 ?_) | (refine zag ?_) | (refine zaj ?_) | (refine zao ?_) | (refine zam ?_) | (refine zan ?_) | (refine zaq rfl ?_) | (refine zah ?_) | (refine zai ?_) | (refine zbi ?_))
    · refine zb6 (i + 1, m + 1, es ++ [[.int .i64 a]]) rfl aW ⟨by simp only; omega, ?_, by simp [hl]⟩ (by simp only; omega)
      simp only [filter_take_t hga (show p a = true by assumption), ints_snoc, hi2, List.map_cons, List.map_nil]
    · refine zb6 (i + 1, m, es) rfl aW ⟨by simp only; omega, ?_, hl⟩ (by simp only; omega)
      simp only [filter_take_f hga (show p a = false by assumption), hi2]
  · repeat' (first
      | (refine zaz ?_; first | (refine za4 ?_; refine zas _ rfl ?_) | (refine zak ?_; refine zaa _ rfl ?_) | (refine zbu ?_; first | (refine zb0 rfl rfl aO ?_) | (refine zbs _ rfl rfl rfl ?_) | (refine zav _ rfl rfl rfl ?_)) | (refine zbb ?_; first | (refine zab aA rfl ?_) | (refine zae _ aA rfl rfl aE rfl ?_) | (refine zac _ aA rfl aZ aL ?_) | (refine zad _ aA rfl rfl aE aZ aL ?_)) | (refine zbd ?_; first | (refine zax _ aA rfl rfl aO aA ?_) | (refine zaw _ aA rfl rfl rfl rfl aO aO (by first | (rw [Nat.zero_add, Int.toNat_natCast]) | (rw [Nat.zero_add]) | rfl) ?_)) | (refine za9 ?_; first | (refine za8 aA rfl ?_) | (refine za6 aA rfl rfl ?_) | (refine za5 aA rfl ?_) | (refine za7 aA (evO_ok rfl) ?_) | (refine zbx _ _ aA rfl (lookM (by rfl)) rfl (lookM (by rfl)) rfl aN ⟨rfl, rfl, by decide, by decide⟩ (by first | rfl | omega | (simp; done) | (simp; omega) | fail) ⟨by first | (simp only [List.length_cons, List.length_nil]; omega) | omega | fail, by decide⟩ rfl (by first | (first | (simp only [lx, Nat.reduceAdd]; first | done | rfl) | fail) | rfl) aP ?_) | (refine zbw _ _ aA rfl rfl (lookM (by rfl)) ⟨rfl, by decide⟩ aN (by first | exact Nat.succ_pos _ | omega | (simp; done)) ⟨by first | (simp only [List.length_cons, List.length_nil]; omega) | omega | fail, by decide⟩ rfl rfl aP ?_) | (refine zbv _ aA rfl rfl (lookM (by rfl)) ⟨rfl, by decide⟩ aN ⟨by first | (simp only [List.length_cons, List.length_nil]; omega) | omega | fail, by decide⟩ rfl aP ?_) | (refine zbl _ aA rfl rfl rfl ⟨rfl, rfl, rfl, by decide, by decide⟩ (by first | rfl | (simp; done) | fail) ⟨by omega, by decide⟩ rfl aL (by first | (rw [Nat.zero_add]) | rfl) ?_)) | (refine zal aA rfl rfl rfl ?_) | (refine zar (hK _ _ (.inl rfl) ?_); clear hK K) | (refine zar (hK _ _ (.inr (by kernel_rfl)) ?_); clear hK K))
      | (refine za3 ?_; first | (refine zbk ?_) | (refine zaf (fun K hK => ?_)) | (refine zap ?_) | (refine za0 ?_) | (refine zbj ?_) | (refine za1 ?_) | (refine zbe ?_; first | (refine zat rfl aD ?_) | (refine zau rfl aD ?_) | (refine zay rfl (fun h => ?_) (fun h => ?_) <;> (have h' := h; (try simp only [sx] at h')))))
      | (refine za2 ?_) | (refine zag ?_) | (refine zaj ?_) | (refine zao ?_) | (refine zam ?_) | (refine zan ?_) | (refine zaq rfl ?_) | (refine zah ?_) | (refine zai ?_) | (refine zbi ?_))
    have : xs.take i = xs := take_all aO
    rw [this] at hi2
    subst hi2
    exact ret_list rfl (zbh (by rfl)) (by rfl) (by decide) hl.symm (ints_flat _) rfl
end Go.Vs
set_option linter.unusedVariables false
set_option linter.unusedSimpArgs false
set_option maxRecDepth 100000
set_option maxHeartbeats 4000000
namespace Go.Vs
open Go.Proofs
attribute [local irreducible] exec vwp thenQ blkQ loopQ RetPost
theorem not_mem_of {xs : List Int} {n : Int} (h : ∀ y ∈ xs, y ≠ n) : n ∉ xs := fun hm => h n hm rfl
theorem k_l1Has (xs : List Int) (n : Int) (hn : xs.length ≤ 1099511627776) : Con Try.prog 75 [.list 1 (ints xs), .int .i64 n] (.bool (decide (n ∈ xs))) := by
  intro al
  refine zba hmix Try.func75 rfl (by kernel_rfl) (by kernel_rfl) (Nat.le_of_ble_eq_true rfl) (fun row h => by cases h) ?_
  have hty_u24 := ty_u24
  have hty_s24 := ty_s24
  have hty_c3 := ty_c3
  have hl1 : (ints xs).length = xs.length := by simp
  repeat' (first
      | (refine zaz ?_; first | (refine za4 ?_; refine zas _ rfl ?_) | (refine zak ?_; refine zaa _ rfl ?_) | (refine zbu ?_; first | (refine zb0 rfl rfl aO ?_) | (refine zbs _ rfl rfl rfl ?_) | (refine zbr aA rfl rfl ?_) | (refine zav _ rfl rfl rfl ?_)) | (refine zbb ?_; first | (refine zab aA rfl ?_) | (refine zae _ aA rfl rfl aE rfl ?_) | (refine zac _ aA rfl aZ aL ?_) | (refine zad _ aA rfl rfl aE aZ aL ?_)) | (refine zbd ?_; first | (refine zax _ aA rfl rfl aO aA ?_) | (refine zaw _ aA rfl rfl rfl rfl aO aO (by first | (rw [Nat.zero_add, Int.toNat_natCast]) | (rw [Nat.zero_add]) | rfl) ?_)) | (refine za9 ?_; first | (refine za8 aA rfl ?_) | (refine za6 aA rfl rfl ?_) | (refine za5 aA rfl ?_) | (refine za7 aA (evO_ok rfl) ?_)) | (refine zar (hK _ _ (.inl rfl) ?_); clear hK K) | (refine zar (hK _ _ (.inr (by kernel_rfl)) ?_); clear hK K))
      | (refine za3 ?_; first | (refine zbk ?_) | (refine zaf (fun K hK => ?_)) | (refine zap ?_) | (refine za0 ?_) | (refine zbj ?_) | (refine za1 ?_) | (refine zbe ?_; first | (refine zat rfl aD ?_) | (refine zau rfl aD ?_) | (refine zay rfl (fun h => ?_) (fun h => ?_) <;> (have h' := h; (try simp only [sx] at h')))))
      | (refine za2 ?_) | (refine zag ?_) | (refine zaj ?_) | (refine zao ?_) | (refine zam ?_) | (refine zan ?_) | (refine zaq rfl ?_) | (refine zah ?_) | (refine zai ?_) | (refine zbi ?_))
  refine zcd [0, 1] [] (fun i : Nat => [(5, .int .i64 i)]) (fun i : Nat => []) (fun i : Nat => i ≤ xs.length ∧ ∀ y ∈ xs.take i, y ≠ n) (fun i : Nat => xs.length - i) (0) rfl rfl (fun _ => rfl) (fun _ => rfl) rfl aW ⟨by omega, fun y hy => by simp at hy⟩ (fun i hi => ?_)
  obtain ⟨hi1, hi2⟩ := hi
  rcases Nat.lt_or_ge i xs.length with hlt | hge
  · obtain ⟨a, hga⟩ := get_ex hlt
    have hx := ints_at hga
    repeat' (first
      | (refine zaz ?_; first | (refine za4 ?_; refine zas _ rfl ?_) | (refine zak ?_; refine zaa _ rfl ?_) | (refine zbu ?_; first | (refine zb0 rfl rfl aO ?_) | (refine zbs _ rfl rfl rfl ?_) | (refine zbr aA rfl rfl ?_) | (refine zav _ rfl rfl rfl ?_)) | (refine zbb ?_; first | (refine zab aA rfl ?_) | (refine zae _ aA rfl rfl aE rfl ?_) | (refine zac _ aA rfl aZ aL ?_) | (refine zad _ aA rfl rfl aE aZ aL ?_)) | (refine zbd ?_; first | (refine zax _ aA rfl rfl aO aA ?_) | (refine zaw _ aA rfl rfl rfl rfl aO aO (by first | (rw [Nat.zero_add, Int.toNat_natCast]) | (rw [Nat.zero_add]) | rfl) ?_)) | (refine za9 ?_; first | (refine za8 aA rfl ?_) | (refine za6 aA rfl rfl ?_) | (refine za5 aA rfl ?_) | (refine za7 aA (evO_ok rfl) ?_)) | (refine zar (hK _ _ (.inl rfl) ?_); clear hK K) | (refine zar (hK _ _ (.inr (by kernel_rfl)) ?_); clear hK K))
      | (refine za3 ?_; first | (refine zbk ?_) | (refine zaf (fun K hK => ?_)) | (refine zap ?_) | (refine za0 ?_) | (refine zbj ?_) | (refine za1 ?_) | (refine zbe ?_; first | (refine zat rfl aD ?_) | (refine zau rfl aD ?_) | (refine zay rfl (fun h => ?_) (fun h => ?_) <;> (have h' := h; (try simp only [sx] at h')))))
      | (refine za2 ?_) | (refine zag ?_) | (refine zaj ?_) | (refine zao ?_) | (refine zam ?_) | (refine zan ?_) | (refine zaq rfl ?_) | (refine zah ?_) | (refine zai ?_) | (refine zbi ?_))
    · refine zb2 rfl (zbh rfl) ?_
      have : n ∈ xs := by rw [← h']; exact get_mem hga
      simp [this]
    · refine zb6 (i + 1) rfl aW ⟨by omega, all_take_succ hga hi2 (by simpa using h')⟩ aO
  · repeat' (first
      | (refine zaz ?_; first | (refine za4 ?_; refine zas _ rfl ?_) | (refine zak ?_; refine zaa _ rfl ?_) | (refine zbu ?_; first | (refine zb0 rfl rfl aO ?_) | (refine zbs _ rfl rfl rfl ?_) | (refine zbr aA rfl rfl ?_) | (refine zav _ rfl rfl rfl ?_)) | (refine zbb ?_; first | (refine zab aA rfl ?_) | (refine zae _ aA rfl rfl aE rfl ?_) | (refine zac _ aA rfl aZ aL ?_) | (refine zad _ aA rfl rfl aE aZ aL ?_)) | (refine zbd ?_; first | (refine zax _ aA rfl rfl aO aA ?_) | (refine zaw _ aA rfl rfl rfl rfl aO aO (by first | (rw [Nat.zero_add, Int.toNat_natCast]) | (rw [Nat.zero_add]) | rfl) ?_)) | (refine za9 ?_; first | (refine za8 aA rfl ?_) | (refine za6 aA rfl rfl ?_) | (refine za5 aA rfl ?_) | (refine za7 aA (evO_ok rfl) ?_)) | (refine zar (hK _ _ (.inl rfl) ?_); clear hK K) | (refine zar (hK _ _ (.inr (by kernel_rfl)) ?_); clear hK K))
      | (refine za3 ?_; first | (refine zbk ?_) | (refine zaf (fun K hK => ?_)) | (refine zap ?_) | (refine za0 ?_) | (refine zbj ?_) | (refine za1 ?_) | (refine zbe ?_; first | (refine zat rfl aD ?_) | (refine zau rfl aD ?_) | (refine zay rfl (fun h => ?_) (fun h => ?_) <;> (have h' := h; (try simp only [sx] at h')))))
      | (refine za2 ?_) | (refine zag ?_) | (refine zaj ?_) | (refine zao ?_) | (refine zam ?_) | (refine zan ?_) | (refine zaq rfl ?_) | (refine zah ?_) | (refine zai ?_) | (refine zbi ?_))
    refine zb2 rfl (zbh rfl) ?_
    rw [take_all hge] at hi2
    simp [not_mem_of hi2]
theorem k_IndexInt (xs : List Int) (n : Int) (hn : xs.length ≤ 1099511627776) : Con Try.prog 156 [.list 1 (ints xs), .int .i64 n] (.int .i64 (idx (fun a => decide (n = a)) xs)) := by
  intro al
  refine zba hmix Try.func156 rfl (by kernel_rfl) (by kernel_rfl) (Nat.le_of_ble_eq_true rfl) (fun row h => by cases h) ?_
  have hty_u24 := ty_u24
  have hty_s24 := ty_s24
  have hty_c3 := ty_c3
  have hl1 : (ints xs).length = xs.length := by simp
  repeat' (first
      | (refine zaz ?_; first | (refine za4 ?_; refine zas _ rfl ?_) | (refine zak ?_; refine zaa _ rfl ?_) | (refine zbu ?_; first | (refine zb0 rfl rfl aO ?_) | (refine zbs _ rfl rfl rfl ?_) | (refine zbr aA rfl rfl ?_) | (refine zav _ rfl rfl rfl ?_)) | (refine zbb ?_; first | (refine zab aA rfl ?_) | (refine zae _ aA rfl rfl aE rfl ?_) | (refine zac _ aA rfl aZ aL ?_) | (refine zad _ aA rfl rfl aE aZ aL ?_)) | (refine zbd ?_; first | (refine zax _ aA rfl rfl aO aA ?_) | (refine zaw _ aA rfl rfl rfl rfl aO aO (by first | (rw [Nat.zero_add, Int.toNat_natCast]) | (rw [Nat.zero_add]) | rfl) ?_)) | (refine za9 ?_; first | (refine za8 aA rfl ?_) | (refine za6 aA rfl rfl ?_) | (refine za5 aA rfl ?_) | (refine za7 aA (evO_ok rfl) ?_)) | (refine zar (hK _ _ (.inl rfl) ?_); clear hK K) | (refine zar (hK _ _ (.inr (by kernel_rfl)) ?_); clear hK K))
      | (refine za3 ?_; first | (refine zbk ?_) | (refine zaf (fun K hK => ?_)) | (refine zap ?_) | (refine za0 ?_) | (refine zbj ?_) | (refine za1 ?_) | (refine zbe ?_; first | (refine zat rfl aD ?_) | (refine zau rfl aD ?_) | (refine zay rfl (fun h => ?_) (fun h => ?_) <;> (have h' := h; (try simp only [sx] at h')))))
      | (refine za2 ?_) | (refine zag ?_) | (refine zaj ?_) | (refine zao ?_) | (refine zam ?_) | (refine zan ?_) | (refine zaq rfl ?_) | (refine zah ?_) | (refine zai ?_) | (refine zbi ?_))
  refine zcd [0, 1, 7] [] (fun i : Nat => [(8, .int .i64 i)]) (fun i : Nat => []) (fun i : Nat => i ≤ xs.length ∧ ∀ j, j < i → ∀ c, xs[j]? = some c → decide (n = c) = false) (fun i : Nat => xs.length - i) (0) rfl rfl (fun _ => rfl) (fun _ => rfl) rfl aW ⟨by omega, fun j hj => by omega⟩ (fun i hi => ?_)
  obtain ⟨hi1, hi2⟩ := hi
  rcases Nat.lt_or_ge i xs.length with hlt | hge
  · obtain ⟨a, hga⟩ := get_ex hlt
    have hx := ints_at hga
    repeat' (first
      | (refine zaz ?_; first | (refine za4 ?_; refine zas _ rfl ?_) | (refine zak ?_; refine zaa _ rfl ?_) | (refine zbu ?_; first | (refine zb0 rfl rfl aO ?_) | (refine zbs _ rfl rfl rfl ?_) | (refine zbr aA rfl rfl ?_) | (refine zav _ rfl rfl rfl ?_)) | (refine zbb ?_; first | (refine zab aA rfl ?_) | (refine zae _ aA rfl rfl aE rfl ?_) | (refine zac _ aA rfl aZ aL ?_) | (refine zad _ aA rfl rfl aE aZ aL ?_)) | (refine zbd ?_; first | (refine zax _ aA rfl rfl aO aA ?_) | (refine zaw _ aA rfl rfl rfl rfl aO aO (by first | (rw [Nat.zero_add, Int.toNat_natCast]) | (rw [Nat.zero_add]) | rfl) ?_)) | (refine za9 ?_; first | (refine za8 aA rfl ?_) | (refine za6 aA rfl rfl ?_) | (refine za5 aA rfl ?_) | (refine za7 aA (evO_ok rfl) ?_)) | (refine zar (hK _ _ (.inl rfl) ?_); clear hK K) | (refine zar (hK _ _ (.inr (by kernel_rfl)) ?_); clear hK K))
      | (refine za3 ?_; first | (refine zbk ?_) | (refine zaf (fun K hK => ?_)) | (refine zap ?_) | (refine za0 ?_) | (refine zbj ?_) | (refine za1 ?_) | (refine zbe ?_; first | (refine zat rfl aD ?_) | (refine zau rfl aD ?_) | (refine zay rfl (fun h => ?_) (fun h => ?_) <;> (have h' := h; (try simp only [sx] at h')))))
      | (refine za2 ?_) | (refine zag ?_) | (refine zaj ?_) | (refine zao ?_) | (refine zam ?_) | (refine zan ?_) | (refine zaq rfl ?_) | (refine zah ?_) | (refine zai ?_) | (refine zbi ?_))
    · exact ret_int rfl (zbh rfl) (idx_some (p := fun a => decide (n = a)) hi2 hga (by simpa using h')).symm
    · refine zb6 (i + 1) rfl aW ⟨by omega, idx_step (p := fun a => decide (n = a)) hi2 hga (by simpa using h')⟩ aO
  · repeat' (first
      | (refine zaz ?_; first | (refine za4 ?_; refine zas _ rfl ?_) | (refine zak ?_; refine zaa _ rfl ?_) | (refine zbu ?_; first | (refine zb0 rfl rfl aO ?_) | (refine zbs _ rfl rfl rfl ?_) | (refine zbr aA rfl rfl ?_) | (refine zav _ rfl rfl rfl ?_)) | (refine zbb ?_; first | (refine zab aA rfl ?_) | (refine zae _ aA rfl rfl aE rfl ?_) | (refine zac _ aA rfl aZ aL ?_) | (refine zad _ aA rfl rfl aE aZ aL ?_)) | (refine zbd ?_; first | (refine zax _ aA rfl rfl aO aA ?_) | (refine zaw _ aA rfl rfl rfl rfl aO aO (by first | (rw [Nat.zero_add, Int.toNat_natCast]) | (rw [Nat.zero_add]) | rfl) ?_)) | (refine za9 ?_; first | (refine za8 aA rfl ?_) | (refine za6 aA rfl rfl ?_) | (refine za5 aA rfl ?_) | (refine za7 aA (evO_ok rfl) ?_)) | (refine zar (hK _ _ (.inl rfl) ?_); clear hK K) | (refine zar (hK _ _ (.inr (by kernel_rfl)) ?_); clear hK K))
      | (refine za3 ?_; first | (refine zbk ?_) | (refine zaf (fun K hK => ?_)) | (refine zap ?_) | (refine za0 ?_) | (refine zbj ?_) | (refine za1 ?_) | (refine zbe ?_; first | (refine zat rfl aD ?_) | (refine zau rfl aD ?_) | (refine zay rfl (fun h => ?_) (fun h => ?_) <;> (have h' := h; (try simp only [sx] at h')))))
      | (refine za2 ?_) | (refine zag ?_) | (refine zaj ?_) | (refine zao ?_) | (refine zam ?_) | (refine zan ?_) | (refine zaq rfl ?_) | (refine zah ?_) | (refine zai ?_) | (refine zbi ?_))
    exact ret_int rfl (zbh rfl) (idx_none (p := fun a => decide (n = a)) fun j hj => hi2 j aO).symm
theorem k_ContainsInt (xs : List Int) (n : Int) (hn : xs.length ≤ 1099511627776) : Con Try.prog 122 [.list 1 (ints xs), .int .i64 n] (.bool (decide (n ∈ xs))) := by
  intro al
  refine zba hmix Try.func122 rfl (by kernel_rfl) (by kernel_rfl) (Nat.le_of_ble_eq_true rfl) (fun row h => by cases h) ?_
  have hty_u24 := ty_u24
  have hty_s24 := ty_s24
  repeat' (first
      | (refine zaz ?_; first | (refine za4 ?_; refine zas _ rfl ?_) | (refine zak ?_; refine zaa _ rfl ?_) | (refine zbu ?_; refine zbs _ rfl rfl rfl ?_) | (refine za9 ?_; refine zbc true (k_IndexInt xs n hn) rfl rfl rfl aS rfl aH ?_; simp only [cl]) | (refine zar (hK _ _ (.inl rfl) ?_); clear hK K) | (refine zar (hK _ _ (.inr (by kernel_rfl)) ?_); clear hK K))
      | (refine za3 ?_; first | (refine zbk ?_) | (refine zaf (fun K hK => ?_)) | (refine zap ?_) | (refine za0 ?_) | (refine zbj ?_) | (refine za1 ?_))
      | (refine za2 ?_) | (refine zag ?_) | (refine zaj ?_) | (refine zao ?_) | (refine zam ?_) | (refine zan ?_) | (refine zaq rfl ?_) | (refine zah ?_) | (refine zai ?_) | (refine zbi ?_))
  refine zb2 rfl (zbh rfl) ?_
  rw [show (decide (idx (fun a => decide (n = a)) xs ≥ 0)) = xs.any (fun a => decide (n = a)) from idx_any]
  rw [Bool.eq_iff_iff]
  simp
theorem k_hasInt (xs : List Int) (n : Int) (hn : xs.length ≤ 1099511627776) : Con Try.prog 69 [.list 1 (ints xs), .int .i64 n] (.bool (decide (n ∈ xs))) := by
  intro al
  refine zba hmix Try.func69 rfl (by kernel_rfl) (by kernel_rfl) (Nat.le_of_ble_eq_true rfl) (fun row h => by cases h) ?_
  have hty_u24 := ty_u24
  have hty_s24 := ty_s24
  repeat' (first
      | (refine zaz ?_; first | (refine za4 ?_; refine zas _ rfl ?_) | (refine zak ?_; refine zaa _ rfl ?_) | (refine za9 ?_; refine zbc true (k_ContainsInt xs n hn) rfl rfl rfl aS rfl aH ?_; simp only [cl]) | (refine zar (hK _ _ (.inl rfl) ?_); clear hK K) | (refine zar (hK _ _ (.inr (by kernel_rfl)) ?_); clear hK K))
      | (refine za3 ?_; first | (refine zbk ?_) | (refine zaf (fun K hK => ?_)) | (refine zap ?_) | (refine za0 ?_) | (refine zbj ?_) | (refine za1 ?_))
      | (refine za2 ?_) | (refine zag ?_) | (refine zaj ?_) | (refine zao ?_) | (refine zam ?_) | (refine zan ?_) | (refine zaq rfl ?_) | (refine zah ?_) | (refine zai ?_) | (refine zbi ?_))
  exact zb2 rfl (zbh rfl) rfl
def Up (l : List Int) (i : Nat) : Prop := ∀ j, j < i - 1 → l.getD j 0 < l.getD (j + 1) 0
def Rising (l : List Int) : Prop := Up l l.length
instance (l : List Int) (i : Nat) : Decidable (Up l i) := by unfold Up; infer_instance
instance (l : List Int) : Decidable (Rising l) := by unfold Rising; infer_instance
theorem getI {l : List Int} {i : Nat} {a : Int} (h : l[i]? = some a) : l.getD i 0 = a := by simp [List.getD_eq_getElem?_getD, h]
theorem up_step {l : List Int} {i : Nat} {a b : Int} (h : Up l i) (ha : l[i - 1]? = some a) (hb : l[i]? = some b) (hab : a < b) : Up l (i + 1) := fun j hj => by
  by_cases he : j + 1 = i
  · rw [he, getI hb, show j = i - 1 by omega, getI ha]; exact hab
  · exact h j aO
theorem not_rising {l : List Int} {i : Nat} {a b : Int} (h0 : 0 < i) (ha : l[i - 1]? = some a) (hb : l[i]? = some b) (hab : b ≤ a) : ¬ Rising l := fun h => by
  have := h (i - 1) (by have := get_lt hb; omega)
  rw [getI ha, show i - 1 + 1 = i by omega, getI hb] at this
  omega
theorem Rising.pair {l : List Int} (h : Rising l) : l.Pairwise (· < ·) := pair_of_adj (r := fun a b : Int => a < b) (fun a b c h1 h2 => Int.lt_trans h1 h2) l fun j a b ha hb => by
  have := h j (by have := get_lt hb; omega)
  rw [getI ha, getI hb] at this
  exact this
theorem rising_of_pair {l : List Int} (h : l.Pairwise (· < ·)) : Rising l := fun j hj => by
  rw [List.pairwise_iff_getElem] at h
  have := h j (j + 1) aO aO aO
  rw [getI (List.getElem?_eq_getElem aO), getI (List.getElem?_eq_getElem (show j + 1 < l.length by omega))]
  exact this
theorem k_isRising (xs : List Int) (hn : xs.length ≤ 1099511627776) : Con Try.prog 152 [.list 1 (ints xs)] (.bool (decide (Rising xs))) := by
  intro al
  refine zba hmix Try.func152 rfl (by kernel_rfl) (by kernel_rfl) (Nat.le_of_ble_eq_true rfl) (fun row h => by cases h) ?_
  have hty_u24 := ty_u24
  have hty_s24 := ty_s24
  have hty_c3 := ty_c3
  have hl1 : (ints xs).length = xs.length := by simp
  repeat' (first
      | (refine zaz ?_; first | (refine za4 ?_; refine zas _ rfl ?_) | (refine zak ?_; refine zaa _ rfl ?_) | (refine zbu ?_; first | (refine zb0 rfl rfl aO ?_) | (refine zch rfl rfl aO ?_) | (refine zbs _ rfl rfl rfl ?_) | (refine zav _ rfl rfl rfl ?_)) | (refine zbb ?_; first | (refine zab aA rfl ?_) | (refine zae _ aA rfl rfl aE rfl ?_) | (refine zac _ aA rfl aZ aL ?_) | (refine zad _ aA rfl rfl aE aZ aL ?_)) | (refine zbd ?_; first | (refine zax _ aA rfl rfl aO aA ?_) | (refine zaw _ aA rfl rfl rfl rfl aO aO (by first | (rw [Nat.zero_add, Int.toNat_natCast]) | (rw [Nat.zero_add]) | rfl) ?_)) | (refine za9 ?_; first | (refine za8 aA rfl ?_) | (refine za6 aA rfl rfl ?_) | (refine za5 aA rfl ?_) | (refine za7 aA (evO_ok rfl) ?_)) | (refine zar (hK _ _ (.inl rfl) ?_); clear hK K) | (refine zar (hK _ _ (.inr (by kernel_rfl)) ?_); clear hK K))
      | (refine za3 ?_; first | (refine zbk ?_) | (refine zaf (fun K hK => ?_)) | (refine zap ?_) | (refine za0 ?_) | (refine zbj ?_) | (refine za1 ?_) | (refine zbe ?_; first | (refine zat rfl aD ?_) | (refine zau rfl aD ?_) | (refine zay rfl (fun h => ?_) (fun h => ?_) <;> (have h' := h; (try simp only [sx] at h')))))
      | (refine za2 ?_) | (refine zag ?_) | (refine zaj ?_) | (refine zao ?_) | (refine zam ?_) | (refine zan ?_) | (refine zaq rfl ?_) | (refine zah ?_) | (refine zai ?_) | (refine zbi ?_))
  refine zcd [0] [] (fun i : Nat => [(3, .int .i64 i)]) (fun i : Nat => []) (fun i : Nat => (1 ≤ i ∧ i ≤ xs.length + 1) ∧ Up xs i) (fun i : Nat => xs.length + 1 - i) (1) rfl rfl (fun _ => rfl) (fun _ => rfl) rfl aW ⟨by omega, fun j hj => by omega⟩ (fun i hi => ?_)
  obtain ⟨hi1, hi2⟩ := hi
  rcases Nat.lt_or_ge i xs.length with hlt | hge
  · obtain ⟨a, hga⟩ := get_ex hlt
    obtain ⟨b, hgb⟩ := get_ex (show i - 1 < xs.length by omega)
    have hx := ints_at hga
    have hy := ints_at hgb
    have e1 : ((i : Int) - 1).toNat = i - 1 := by omega
    rw [← e1] at hy
    repeat' (first
      | (refine zaz ?_; first | (refine za4 ?_; refine zas _ rfl ?_) | (refine zak ?_; refine zaa _ rfl ?_) | (refine zbu ?_; first | (refine zb0 rfl rfl aO ?_) | (refine zch rfl rfl aO ?_) | (refine zbs _ rfl rfl rfl ?_) | (refine zav _ rfl rfl rfl ?_)) | (refine zbb ?_; first | (refine zab aA rfl ?_) | (refine zae _ aA rfl rfl aE rfl ?_) | (refine zac _ aA rfl aZ aL ?_) | (refine zad _ aA rfl rfl aE aZ aL ?_)) | (refine zbd ?_; first | (refine zax _ aA rfl rfl aO aA ?_) | (refine zaw _ aA rfl rfl rfl rfl aO aO (by first | (rw [Nat.zero_add, Int.toNat_natCast]) | (rw [Nat.zero_add]) | rfl) ?_)) | (refine za9 ?_; first | (refine za8 aA rfl ?_) | (refine za6 aA rfl rfl ?_) | (refine za5 aA rfl ?_) | (refine za7 aA (evO_ok rfl) ?_)) | (refine zar (hK _ _ (.inl rfl) ?_); clear hK K) | (refine zar (hK _ _ (.inr (by kernel_rfl)) ?_); clear hK K))
      | (refine za3 ?_; first | (refine zbk ?_) | (refine zaf (fun K hK => ?_)) | (refine zap ?_) | (refine za0 ?_) | (refine zbj ?_) | (refine za1 ?_) | (refine zbe ?_; first | (refine zat rfl aD ?_) | (refine zau rfl aD ?_) | (refine zay rfl (fun h => ?_) (fun h => ?_) <;> (have h' := h; (try simp only [sx] at h')))))
      | (refine za2 ?_) | (refine zag ?_) | (refine zaj ?_) | (refine zao ?_) | (refine zam ?_) | (refine zan ?_) | (refine zaq rfl ?_) | (refine zah ?_) | (refine zai ?_) | (refine zbi ?_))
    · exact zb2 rfl (zbh rfl) (by simp [not_rising aO hgb hga h'])
    · refine zb6 (i + 1) rfl aW ⟨by omega, up_step hi2 hgb hga aO⟩ aO
  · repeat' (first
      | (refine zaz ?_; first | (refine za4 ?_; refine zas _ rfl ?_) | (refine zak ?_; refine zaa _ rfl ?_) | (refine zbu ?_; first | (refine zb0 rfl rfl aO ?_) | (refine zch rfl rfl aO ?_) | (refine zbs _ rfl rfl rfl ?_) | (refine zav _ rfl rfl rfl ?_)) | (refine zbb ?_; first | (refine zab aA rfl ?_) | (refine zae _ aA rfl rfl aE rfl ?_) | (refine zac _ aA rfl aZ aL ?_) | (refine zad _ aA rfl rfl aE aZ aL ?_)) | (refine zbd ?_; first | (refine zax _ aA rfl rfl aO aA ?_) | (refine zaw _ aA rfl rfl rfl rfl aO aO (by first | (rw [Nat.zero_add, Int.toNat_natCast]) | (rw [Nat.zero_add]) | rfl) ?_)) | (refine za9 ?_; first | (refine za8 aA rfl ?_) | (refine za6 aA rfl rfl ?_) | (refine za5 aA rfl ?_) | (refine za7 aA (evO_ok rfl) ?_)) | (refine zar (hK _ _ (.inl rfl) ?_); clear hK K) | (refine zar (hK _ _ (.inr (by kernel_rfl)) ?_); clear hK K))
      | (refine za3 ?_; first | (refine zbk ?_) | (refine zaf (fun K hK => ?_)) | (refine zap ?_) | (refine za0 ?_) | (refine zbj ?_) | (refine za1 ?_) | (refine zbe ?_; first | (refine zat rfl aD ?_) | (refine zau rfl aD ?_) | (refine zay rfl (fun h => ?_) (fun h => ?_) <;> (have h' := h; (try simp only [sx] at h')))))
      | (refine za2 ?_) | (refine zag ?_) | (refine zaj ?_) | (refine zao ?_) | (refine zam ?_) | (refine zan ?_) | (refine zaq rfl ?_) | (refine zah ?_) | (refine zai ?_) | (refine zbi ?_))
    exact zb2 rfl (zbh rfl) (by
      have : Rising xs := fun j hj => hi2 j aO
      simp [this])
theorem k_l1Rising (xs : List Int) (lo hi : Int) (hn : xs.length ≤ 1099511627776) : Con Try.prog 119 [.list 1 (ints xs), .int .i64 lo, .int .i64 hi] (.bool (decide ((∀ y ∈ xs, lo ≤ y ∧ y ≤ hi) ∧ Rising xs))) := by
  intro al
  refine zba hmix Try.func119 rfl (by kernel_rfl) (by kernel_rfl) (Nat.le_of_ble_eq_true rfl) (fun row h => by cases h) ?_
  have hty_u24 := ty_u24
  have hty_s24 := ty_s24
  have hty_c3 := ty_c3
  have hl1 : (ints xs).length = xs.length := by simp
  repeat' (first
      | (refine zaz ?_; first | (refine za4 ?_; refine zas _ rfl ?_) | (refine zak ?_; refine zaa _ rfl ?_) | (refine zbu ?_; first | (refine zb0 rfl rfl aO ?_) | (refine zch rfl rfl aO ?_) | (refine zbs _ rfl rfl rfl ?_) | (refine zav _ rfl rfl rfl ?_)) | (refine g_un ?_; first | (refine zb7 rfl ?_) | (refine zb8 rfl aO ?_)) | (refine zbb ?_; first | (refine zab aA rfl ?_) | (refine zae _ aA rfl rfl aE rfl ?_) | (refine zac _ aA rfl aZ aL ?_) | (refine zad _ aA rfl rfl aE aZ aL ?_)) | (refine zbd ?_; first | (refine zax _ aA rfl rfl aO aA ?_) | (refine zaw _ aA rfl rfl rfl rfl aO aO (by first | (rw [Nat.zero_add, Int.toNat_natCast]) | (rw [Nat.zero_add]) | rfl) ?_)) | (refine zb3 ?_; first | (refine zbn rfl aD rfl ?_) | (refine zbp rfl aD ?_) | (refine zbm rfl aD ?_) | (refine zbq rfl aD rfl ?_)) | (refine zby ?_; first | (refine zb4 rfl rfl aD ?_) | (refine zcc rfl rfl aD ?_) | (refine zcb rfl rfl ?_) | (refine zbo rfl rfl (fun h => ?_) (fun h => ?_) <;> (have h' := h; (try simp only [sx] at h')))) | (refine za9 ?_; first | (refine za8 aA rfl ?_) | (refine za6 aA rfl rfl ?_) | (refine za5 aA rfl ?_) | (refine za7 aA (evO_ok rfl) ?_)) | (refine zar (hK _ _ (.inl rfl) ?_); clear hK K) | (refine zar (hK _ _ (.inr (by kernel_rfl)) ?_); clear hK K))
      | (refine za3 ?_; first | (refine zbk ?_) | (refine zaf (fun K hK => ?_)) | (refine zap ?_) | (refine za0 ?_) | (refine zbj ?_) | (refine za1 ?_) | (refine zbe ?_; first | (refine zat rfl aD ?_) | (refine zau rfl aD ?_) | (refine zay rfl (fun h => ?_) (fun h => ?_) <;> (have h' := h; (try simp only [sx] at h')))))
      | (refine za2 ?_) | (refine zag ?_) | (refine zaj ?_) | (refine zao ?_) | (refine zam ?_) | (refine zan ?_) | (refine zaq rfl ?_) | (refine zah ?_) | (refine zai ?_) | (refine zbi ?_))
  refine zcd [0, 1, 2] [] (fun i : Nat => [(7, .int .i64 i)]) (fun i : Nat => []) (fun i : Nat => i ≤ xs.length ∧ (∀ y ∈ xs.take i, lo ≤ y ∧ y ≤ hi) ∧ Up xs i) (fun i : Nat => xs.length - i) (0) rfl rfl (fun _ => rfl) (fun _ => rfl) rfl aW ⟨by omega, fun y hy => by simp at hy, fun j hj => by omega⟩ (fun i hi => ?_)
  obtain ⟨hi1, hi2, hi3⟩ := hi
  rcases Nat.lt_or_ge i xs.length with hlt | hge
  · obtain ⟨a, hga⟩ := get_ex hlt
    have hx := ints_at hga
    by_cases hi0 : 0 < i
    · obtain ⟨b, hgb⟩ := get_ex (show i - 1 < xs.length by omega)
      have hy := ints_at hgb
      have e1 : ((i : Int) - 1).toNat = i - 1 := by omega
      rw [← e1] at hy
      repeat' (first
      | (refine zaz ?_; first | (refine za4 ?_; refine zas _ rfl ?_) | (refine zak ?_; refine zaa _ rfl ?_) | (refine zbu ?_; first | (refine zb0 rfl rfl aO ?_) | (refine zch rfl rfl aO ?_) | (refine zbs _ rfl rfl rfl ?_) | (refine zav _ rfl rfl rfl ?_)) | (refine g_un ?_; first | (refine zb7 rfl ?_) | (refine zb8 rfl aO ?_)) | (refine zbb ?_; first | (refine zab aA rfl ?_) | (refine zae _ aA rfl rfl aE rfl ?_) | (refine zac _ aA rfl aZ aL ?_) | (refine zad _ aA rfl rfl aE aZ aL ?_)) | (refine zbd ?_; first | (refine zax _ aA rfl rfl aO aA ?_) | (refine zaw _ aA rfl rfl rfl rfl aO aO (by first | (rw [Nat.zero_add, Int.toNat_natCast]) | (rw [Nat.zero_add]) | rfl) ?_)) | (refine zb3 ?_; first | (refine zbn rfl aD rfl ?_) | (refine zbp rfl aD ?_) | (refine zbm rfl aD ?_) | (refine zbq rfl aD rfl ?_)) | (refine zby ?_; first | (refine zb4 rfl rfl aD ?_) | (refine zcc rfl rfl aD ?_) | (refine zcb rfl rfl ?_) | (refine zbo rfl rfl (fun h => ?_) (fun h => ?_) <;> (have h' := h; (try simp only [sx] at h')))) | (refine za9 ?_; first | (refine zbc true (k_l1In _ _ _) rfl rfl rfl aS rfl aH ?_; simp only [cl]) | (refine za8 aA rfl ?_) | (refine za6 aA rfl rfl ?_) | (refine za5 aA rfl ?_) | (refine za7 aA (evO_ok rfl) ?_)) | (refine zar (hK _ _ (.inl rfl) ?_); clear hK K) | (refine zar (hK _ _ (.inr (by kernel_rfl)) ?_); clear hK K))
      | (refine za3 ?_; first | (refine zbk ?_) | (refine zaf (fun K hK => ?_)) | (refine zap ?_) | (refine za0 ?_) | (refine zbj ?_) | (refine za1 ?_) | (refine zbe ?_; first | (refine zat rfl aD ?_) | (refine zau rfl aD ?_) | (refine zay rfl (fun h => ?_) (fun h => ?_) <;> (have h' := h; (try simp only [sx] at h')))))
      | (refine za2 ?_) | (refine zag ?_) | (refine zaj ?_) | (refine zao ?_) | (refine zam ?_) | (refine zan ?_) | (refine zaq rfl ?_) | (refine zah ?_) | (refine zai ?_) | (refine zbi ?_))
      all_goals first
        | (refine zb6 (i + 1) rfl aW ⟨by omega, all_take_succ hga hi2 aO, up_step hi3 hgb hga aO⟩ aO)
        | (refine zb2 rfl (zbh rfl) ?_
           have : ¬ ((∀ y ∈ xs, lo ≤ y ∧ y ≤ hi) ∧ Rising xs) := fun hk => by
             have k1 := hk.1 a (get_mem hga)
             first | omega | exact not_rising hi0 hgb hga aO hk.2
           simp only [this, decide_false])
    · have h1 : i = 0 := by omega
      repeat' (first
      | (refine zaz ?_; first | (refine za4 ?_; refine zas _ rfl ?_) | (refine zak ?_; refine zaa _ rfl ?_) | (refine zbu ?_; first | (refine zb0 rfl rfl aO ?_) | (refine zch rfl rfl aO ?_) | (refine zbs _ rfl rfl rfl ?_) | (refine zav _ rfl rfl rfl ?_)) | (refine g_un ?_; first | (refine zb7 rfl ?_) | (refine zb8 rfl aO ?_)) | (refine zbb ?_; first | (refine zab aA rfl ?_) | (refine zae _ aA rfl rfl aE rfl ?_) | (refine zac _ aA rfl aZ aL ?_) | (refine zad _ aA rfl rfl aE aZ aL ?_)) | (refine zbd ?_; first | (refine zax _ aA rfl rfl aO aA ?_) | (refine zaw _ aA rfl rfl rfl rfl aO aO (by first | (rw [Nat.zero_add, Int.toNat_natCast]) | (rw [Nat.zero_add]) | rfl) ?_)) | (refine zb3 ?_; first | (refine zbn rfl aD rfl ?_) | (refine zbp rfl aD ?_) | (refine zbm rfl aD ?_) | (refine zbq rfl aD rfl ?_)) | (refine zby ?_; first | (refine zb4 rfl rfl aD ?_) | (refine zcc rfl rfl aD ?_) | (refine zcb rfl rfl ?_) | (refine zbo rfl rfl (fun h => ?_) (fun h => ?_) <;> (have h' := h; (try simp only [sx] at h')))) | (refine za9 ?_; first | (refine zbc true (k_l1In _ _ _) rfl rfl rfl aS rfl aH ?_; simp only [cl]) | (refine za8 aA rfl ?_) | (refine za6 aA rfl rfl ?_) | (refine za5 aA rfl ?_) | (refine za7 aA (evO_ok rfl) ?_)) | (refine zar (hK _ _ (.inl rfl) ?_); clear hK K) | (refine zar (hK _ _ (.inr (by kernel_rfl)) ?_); clear hK K))
      | (refine za3 ?_; first | (refine zbk ?_) | (refine zaf (fun K hK => ?_)) | (refine zap ?_) | (refine za0 ?_) | (refine zbj ?_) | (refine za1 ?_) | (refine zbe ?_; first | (refine zat rfl aD ?_) | (refine zau rfl aD ?_) | (refine zay rfl (fun h => ?_) (fun h => ?_) <;> (have h' := h; (try simp only [sx] at h')))))
      | (refine za2 ?_) | (refine zag ?_) | (refine zaj ?_) | (refine zao ?_) | (refine zam ?_) | (refine zan ?_) | (refine zaq rfl ?_) | (refine zah ?_) | (refine zai ?_) | (refine zbi ?_))
      all_goals first
        | (refine zb6 (i + 1) rfl aW ⟨by omega, all_take_succ hga hi2 aO, fun j hj => by omega⟩ aO)
        | (refine zb2 rfl (zbh rfl) ?_
           have : ¬ ((∀ y ∈ xs, lo ≤ y ∧ y ≤ hi) ∧ Rising xs) := fun hk => by
             have k1 := hk.1 a (get_mem hga)
             omega
           simp only [this, decide_false])
  · repeat' (first
      | (refine zaz ?_; first | (refine za4 ?_; refine zas _ rfl ?_) | (refine zak ?_; refine zaa _ rfl ?_) | (refine zbu ?_; first | (refine zb0 rfl rfl aO ?_) | (refine zch rfl rfl aO ?_) | (refine zbs _ rfl rfl rfl ?_) | (refine zav _ rfl rfl rfl ?_)) | (refine g_un ?_; first | (refine zb7 rfl ?_) | (refine zb8 rfl aO ?_)) | (refine zbb ?_; first | (refine zab aA rfl ?_) | (refine zae _ aA rfl rfl aE rfl ?_) | (refine zac _ aA rfl aZ aL ?_) | (refine zad _ aA rfl rfl aE aZ aL ?_)) | (refine zbd ?_; first | (refine zax _ aA rfl rfl aO aA ?_) | (refine zaw _ aA rfl rfl rfl rfl aO aO (by first | (rw [Nat.zero_add, Int.toNat_natCast]) | (rw [Nat.zero_add]) | rfl) ?_)) | (refine zb3 ?_; first | (refine zbn rfl aD rfl ?_) | (refine zbp rfl aD ?_) | (refine zbm rfl aD ?_) | (refine zbq rfl aD rfl ?_)) | (refine zby ?_; first | (refine zb4 rfl rfl aD ?_) | (refine zcc rfl rfl aD ?_) | (refine zcb rfl rfl ?_) | (refine zbo rfl rfl (fun h => ?_) (fun h => ?_) <;> (have h' := h; (try simp only [sx] at h')))) | (refine za9 ?_; first | (refine za8 aA rfl ?_) | (refine za6 aA rfl rfl ?_) | (refine za5 aA rfl ?_) | (refine za7 aA (evO_ok rfl) ?_)) | (refine zar (hK _ _ (.inl rfl) ?_); clear hK K) | (refine zar (hK _ _ (.inr (by kernel_rfl)) ?_); clear hK K))
      | (refine za3 ?_; first | (refine zbk ?_) | (refine zaf (fun K hK => ?_)) | (refine zap ?_) | (refine za0 ?_) | (refine zbj ?_) | (refine za1 ?_) | (refine zbe ?_; first | (refine zat rfl aD ?_) | (refine zau rfl aD ?_) | (refine zay rfl (fun h => ?_) (fun h => ?_) <;> (have h' := h; (try simp only [sx] at h')))))
      | (refine za2 ?_) | (refine zag ?_) | (refine zaj ?_) | (refine zao ?_) | (refine zam ?_) | (refine zan ?_) | (refine zaq rfl ?_) | (refine zah ?_) | (refine zai ?_) | (refine zbi ?_))
    refine zb2 rfl (zbh rfl) ?_
    rw [take_all hge] at hi2
    have : (∀ y ∈ xs, lo ≤ y ∧ y ≤ hi) ∧ Rising xs := ⟨hi2, fun j hj => hi3 j aO⟩
    simp only [decide_eq_true this]
end Go.Vs
set_option linter.unusedVariables false
set_option linter.unusedSimpArgs false
set_option maxRecDepth 100000
set_option maxHeartbeats 4000000
namespace Go.Vs
open Go.Proofs
attribute [local irreducible] exec vwp thenQ blkQ loopQ RetPost
def Dims (t : Terrain) : Prop := (1 ≤ t.width ∧ t.width ≤ 5) ∧ (1 ≤ t.height ∧ t.height ≤ 5)
instance (t : Terrain) : Decidable (Dims t) := by unfold Dims; infer_instance
def GoodT (t : Terrain) : Prop := Dims t ∧ (t.burn.length : Int) = t.width * t.height ∧ ∀ b ∈ t.burn, 0 ≤ b ∧ b ≤ 20
instance (t : Terrain) : Decidable (GoodT t) := by unfold GoodT; infer_instance
theorem dims_area {t : Terrain} (h : Dims t) : 1 ≤ t.width * t.height ∧ t.width * t.height ≤ 25 := by
  have h1 : 1 * 1 ≤ t.width * t.height := Int.mul_le_mul h.1.1 h.2.1 aO (by have := h.1; omega)
  have h2 : t.width * t.height ≤ 5 * 5 := Int.mul_le_mul h.1.2 h.2.2 (by have := h.2; omega) aO
  omega
theorem goodT_len {t : Terrain} (h : GoodT t) : 1 ≤ t.burn.length ∧ t.burn.length ≤ 25 := by
  have := dims_area h.1
  have := h.2.1
  omega
theorem k_l2Good (t : Terrain) (hn : t.burn.length ≤ 1099511627776) : Con Try.prog 118 [.agg t.pv] (.bool (decide (GoodT t))) := by
  intro al
  refine zba hmix Try.func118 rfl (by kernel_rfl) (by kernel_rfl) (Nat.le_of_ble_eq_true rfl) (fun row h => by cases h) ?_
  have hty_f26_0 := ty_f26_0
  have hty_c3 := ty_c3
  have hty_f26_1 := ty_f26_1
  have hty_f26_2 := ty_f26_2
  have hty_c24 := ty_c24
  have hty_u24 := ty_u24
  have hty_s24 := ty_s24
  have hl : (ints t.burn).length = t.burn.length := by simp
  by_cases hd : Dims t
  · have ha := dims_area hd
    have hd' := hd
    unfold Dims at hd'
    by_cases hs : (t.burn.length : Int) = t.width * t.height
    · repeat' (first
      | (refine zaz ?_; first | (refine za4 ?_; refine zas _ rfl ?_) | (refine zak ?_; refine zaa _ rfl ?_) | (refine zbu ?_; first | (refine zb0 rfl rfl aO ?_) | (refine x_mul rfl rfl aO ?_) | (refine zbs _ rfl rfl rfl ?_) | (refine zca aA rfl rfl ?_) | (refine zav _ rfl rfl rfl ?_)) | (refine g_un ?_; first | (refine zb7 rfl ?_) | (refine zb8 rfl aO ?_)) | (refine zbb ?_; first | (refine zab aA rfl ?_) | (refine zae _ aA rfl rfl aE rfl ?_) | (refine zac _ aA rfl aZ aL ?_) | (refine zad _ aA rfl rfl aE aZ aL ?_)) | (refine zbz ?_; first | (refine zbf _ aA rfl aL ?_) | (refine zbg _ aA rfl rfl (by simp only [lx, Nat.reduceAdd]; first | done | rfl) ?_)) | (refine zbd ?_; first | (refine zax _ aA rfl rfl aO aA ?_) | (refine zaw _ aA rfl rfl rfl rfl aO aO (by first | (rw [Nat.zero_add, Int.toNat_natCast]) | (rw [Nat.zero_add]) | rfl) ?_)) | (refine zb3 ?_; first | (refine zbn rfl aD rfl ?_) | (refine zbp rfl aD ?_) | (refine zbm rfl aD ?_) | (refine zbq rfl aD rfl ?_)) | (refine zby ?_; first | (refine zb4 rfl rfl aD ?_) | (refine zcc rfl rfl aD ?_) | (refine zcb rfl rfl ?_) | (refine zbo rfl rfl (fun h => ?_) (fun h => ?_) <;> (have h' := h; (try simp only [sx] at h')))) | (refine za9 ?_; first | (refine zbc true (k_l1In _ _ _) rfl rfl rfl aS rfl aH ?_; simp only [cl]) | (refine za8 aA rfl ?_) | (refine za6 aA rfl rfl ?_) | (refine za5 aA rfl ?_) | (refine za7 aA (evO_ok rfl) ?_)) | (refine zbt _ _ rfl rfl rfl rfl ?_) | (refine zar (hK _ _ (.inl rfl) ?_); clear hK K) | (refine zar (hK _ _ (.inr (by kernel_rfl)) ?_); clear hK K))
      | (refine za3 ?_; first | (refine zbk ?_) | (refine zaf (fun K hK => ?_)) | (refine zap ?_) | (refine za0 ?_) | (refine zbj ?_) | (refine za1 ?_) | (refine zbe ?_; first | (refine zat rfl aD ?_) | (refine zau rfl aD ?_) | (refine zay rfl (fun h => ?_) (fun h => ?_) <;> (have h' := h; (try simp only [sx] at h')))))
      | (refine za2 ?_) | (refine zag ?_) | (refine zaj ?_) | (refine zao ?_) | (refine zam ?_) | (refine zan ?_) | (refine zaq rfl ?_) | (refine zah ?_) | (refine zai ?_) | (refine zbi ?_))
      refine zcd [1] [] (fun i : Nat => [(3, .int .i64 i)]) (fun i : Nat => []) (fun i : Nat => i ≤ t.burn.length ∧ ∀ b ∈ t.burn.take i, 0 ≤ b ∧ b ≤ 20) (fun i : Nat => t.burn.length - i) (0) rfl rfl (fun _ => rfl) (fun _ => rfl) rfl aW ⟨by omega, fun b hb => by simp at hb⟩ (fun i hi => ?_)
      obtain ⟨h1, h2⟩ := hi
      rcases Nat.lt_or_ge i t.burn.length with hlt | hge
      · obtain ⟨a, hga⟩ := get_ex hlt
        have hx := ints_at hga
        repeat' (first
      | (refine zaz ?_; first | (refine za4 ?_; refine zas _ rfl ?_) | (refine zak ?_; refine zaa _ rfl ?_) | (refine zbu ?_; first | (refine zb0 rfl rfl aO ?_) | (refine x_mul rfl rfl aO ?_) | (refine zbs _ rfl rfl rfl ?_) | (refine zca aA rfl rfl ?_) | (refine zav _ rfl rfl rfl ?_)) | (refine g_un ?_; first | (refine zb7 rfl ?_) | (refine zb8 rfl aO ?_)) | (refine zbb ?_; first | (refine zab aA rfl ?_) | (refine zae _ aA rfl rfl aE rfl ?_) | (refine zac _ aA rfl aZ aL ?_) | (refine zad _ aA rfl rfl aE aZ aL ?_)) | (refine zbz ?_; first | (refine zbf _ aA rfl aL ?_) | (refine zbg _ aA rfl rfl (by simp only [lx, Nat.reduceAdd]; first | done | rfl) ?_)) | (refine zbd ?_; first | (refine zax _ aA rfl rfl aO aA ?_) | (refine zaw _ aA rfl rfl rfl rfl aO aO (by first | (rw [Nat.zero_add, Int.toNat_natCast]) | (rw [Nat.zero_add]) | rfl) ?_)) | (refine zb3 ?_; first | (refine zbn rfl aD rfl ?_) | (refine zbp rfl aD ?_) | (refine zbm rfl aD ?_) | (refine zbq rfl aD rfl ?_)) | (refine zby ?_; first | (refine zb4 rfl rfl aD ?_) | (refine zcc rfl rfl aD ?_) | (refine zcb rfl rfl ?_) | (refine zbo rfl rfl (fun h => ?_) (fun h => ?_) <;> (have h' := h; (try simp only [sx] at h')))) | (refine za9 ?_; first | (refine zbc true (k_l1In _ _ _) rfl rfl rfl aS rfl aH ?_; simp only [cl]) | (refine za8 aA rfl ?_) | (refine za6 aA rfl rfl ?_) | (refine za5 aA rfl ?_) | (refine za7 aA (evO_ok rfl) ?_)) | (refine zbt _ _ rfl rfl rfl rfl ?_) | (refine zar (hK _ _ (.inl rfl) ?_); clear hK K) | (refine zar (hK _ _ (.inr (by kernel_rfl)) ?_); clear hK K))
      | (refine za3 ?_; first | (refine zbk ?_) | (refine zaf (fun K hK => ?_)) | (refine zap ?_) | (refine za0 ?_) | (refine zbj ?_) | (refine za1 ?_) | (refine zbe ?_; first | (refine zat rfl aD ?_) | (refine zau rfl aD ?_) | (refine zay rfl (fun h => ?_) (fun h => ?_) <;> (have h' := h; (try simp only [sx] at h')))))
      | (refine za2 ?_) | (refine zag ?_) | (refine zaj ?_) | (refine zao ?_) | (refine zam ?_) | (refine zan ?_) | (refine zaq rfl ?_) | (refine zah ?_) | (refine zai ?_) | (refine zbi ?_))
        all_goals first
          | (refine zb6 (i + 1) rfl aW ⟨by omega, all_take_succ hga h2 aO⟩ aO)
          | (refine zb2 rfl (zbh rfl) ?_
             have : ¬ GoodT t := fun h => by have := h.2.2 a (get_mem hga); omega
             simp [this])
      · repeat' (first
      | (refine zaz ?_; first | (refine za4 ?_; refine zas _ rfl ?_) | (refine zak ?_; refine zaa _ rfl ?_) | (refine zbu ?_; first | (refine zb0 rfl rfl aO ?_) | (refine x_mul rfl rfl aO ?_) | (refine zbs _ rfl rfl rfl ?_) | (refine zca aA rfl rfl ?_) | (refine zav _ rfl rfl rfl ?_)) | (refine g_un ?_; first | (refine zb7 rfl ?_) | (refine zb8 rfl aO ?_)) | (refine zbb ?_; first | (refine zab aA rfl ?_) | (refine zae _ aA rfl rfl aE rfl ?_) | (refine zac _ aA rfl aZ aL ?_) | (refine zad _ aA rfl rfl aE aZ aL ?_)) | (refine zbz ?_; first | (refine zbf _ aA rfl aL ?_) | (refine zbg _ aA rfl rfl (by simp only [lx, Nat.reduceAdd]; first | done | rfl) ?_)) | (refine zbd ?_; first | (refine zax _ aA rfl rfl aO aA ?_) | (refine zaw _ aA rfl rfl rfl rfl aO aO (by first | (rw [Nat.zero_add, Int.toNat_natCast]) | (rw [Nat.zero_add]) | rfl) ?_)) | (refine zb3 ?_; first | (refine zbn rfl aD rfl ?_) | (refine zbp rfl aD ?_) | (refine zbm rfl aD ?_) | (refine zbq rfl aD rfl ?_)) | (refine zby ?_; first | (refine zb4 rfl rfl aD ?_) | (refine zcc rfl rfl aD ?_) | (refine zcb rfl rfl ?_) | (refine zbo rfl rfl (fun h => ?_) (fun h => ?_) <;> (have h' := h; (try simp only [sx] at h')))) | (refine za9 ?_; first | (refine za8 aA rfl ?_) | (refine za6 aA rfl rfl ?_) | (refine za5 aA rfl ?_) | (refine za7 aA (evO_ok rfl) ?_)) | (refine zbt _ _ rfl rfl rfl rfl ?_) | (refine zar (hK _ _ (.inl rfl) ?_); clear hK K) | (refine zar (hK _ _ (.inr (by kernel_rfl)) ?_); clear hK K))
      | (refine za3 ?_; first | (refine zbk ?_) | (refine zaf (fun K hK => ?_)) | (refine zap ?_) | (refine za0 ?_) | (refine zbj ?_) | (refine za1 ?_) | (refine zbe ?_; first | (refine zat rfl aD ?_) | (refine zau rfl aD ?_) | (refine zay rfl (fun h => ?_) (fun h => ?_) <;> (have h' := h; (try simp only [sx] at h')))))
      | (refine za2 ?_) | (refine zag ?_) | (refine zaj ?_) | (refine zao ?_) | (refine zam ?_) | (refine zan ?_) | (refine zaq rfl ?_) | (refine zah ?_) | (refine zai ?_) | (refine zbi ?_))
        refine zb2 rfl (zbh rfl) ?_
        have : GoodT t := ⟨hd, hs, by rw [take_all aO] at h2; exact h2⟩
        simp [this]
    · repeat' (first
      | (refine zaz ?_; first | (refine za4 ?_; refine zas _ rfl ?_) | (refine zak ?_; refine zaa _ rfl ?_) | (refine zbu ?_; first | (refine zb0 rfl rfl aO ?_) | (refine x_mul rfl rfl aO ?_) | (refine zbs _ rfl rfl rfl ?_) | (refine zca aA rfl rfl ?_) | (refine zav _ rfl rfl rfl ?_)) | (refine g_un ?_; first | (refine zb7 rfl ?_) | (refine zb8 rfl aO ?_)) | (refine zbb ?_; first | (refine zab aA rfl ?_) | (refine zae _ aA rfl rfl aE rfl ?_) | (refine zac _ aA rfl aZ aL ?_) | (refine zad _ aA rfl rfl aE aZ aL ?_)) | (refine zbz ?_; first | (refine zbf _ aA rfl aL ?_) | (refine zbg _ aA rfl rfl (by simp only [lx, Nat.reduceAdd]; first | done | rfl) ?_)) | (refine zbd ?_; first | (refine zax _ aA rfl rfl aO aA ?_) | (refine zaw _ aA rfl rfl rfl rfl aO aO (by first | (rw [Nat.zero_add, Int.toNat_natCast]) | (rw [Nat.zero_add]) | rfl) ?_)) | (refine zb3 ?_; first | (refine zbn rfl aD rfl ?_) | (refine zbp rfl aD ?_) | (refine zbm rfl aD ?_) | (refine zbq rfl aD rfl ?_)) | (refine zby ?_; first | (refine zb4 rfl rfl aD ?_) | (refine zcc rfl rfl aD ?_) | (refine zcb rfl rfl ?_) | (refine zbo rfl rfl (fun h => ?_) (fun h => ?_) <;> (have h' := h; (try simp only [sx] at h')))) | (refine za9 ?_; first | (refine zbc true (k_l1In _ _ _) rfl rfl rfl aS rfl aH ?_; simp only [cl]) | (refine za8 aA rfl ?_) | (refine za6 aA rfl rfl ?_) | (refine za5 aA rfl ?_) | (refine za7 aA (evO_ok rfl) ?_)) | (refine zbt _ _ rfl rfl rfl rfl ?_) | (refine zar (hK _ _ (.inl rfl) ?_); clear hK K) | (refine zar (hK _ _ (.inr (by kernel_rfl)) ?_); clear hK K))
      | (refine za3 ?_; first | (refine zbk ?_) | (refine zaf (fun K hK => ?_)) | (refine zap ?_) | (refine za0 ?_) | (refine zbj ?_) | (refine za1 ?_) | (refine zbe ?_; first | (refine zat rfl aD ?_) | (refine zau rfl aD ?_) | (refine zay rfl (fun h => ?_) (fun h => ?_) <;> (have h' := h; (try simp only [sx] at h')))))
      | (refine za2 ?_) | (refine zag ?_) | (refine zaj ?_) | (refine zao ?_) | (refine zam ?_) | (refine zan ?_) | (refine zaq rfl ?_) | (refine zah ?_) | (refine zai ?_) | (refine zbi ?_))
      refine zb2 rfl (zbh rfl) ?_
      have : ¬ GoodT t := fun h => hs h.2.1
      simp [this]
  · have hng : ¬ GoodT t := fun h => hd h.1
    rw [show decide (GoodT t) = false from by simp [hng]]
    unfold Dims at hd
    repeat' (first
      | (refine zaz ?_; first | (refine za4 ?_; refine zas _ rfl ?_) | (refine zak ?_; refine zaa _ rfl ?_) | (refine zbu ?_; first | (refine zb0 rfl rfl aO ?_) | (refine x_mul rfl rfl aO ?_) | (refine zbs _ rfl rfl rfl ?_) | (refine zca aA rfl rfl ?_) | (refine zav _ rfl rfl rfl ?_)) | (refine g_un ?_; first | (refine zb7 rfl ?_) | (refine zb8 rfl aO ?_)) | (refine zbb ?_; first | (refine zab aA rfl ?_) | (refine zae _ aA rfl rfl aE rfl ?_) | (refine zac _ aA rfl aZ aL ?_) | (refine zad _ aA rfl rfl aE aZ aL ?_)) | (refine zbz ?_; first | (refine zbf _ aA rfl aL ?_) | (refine zbg _ aA rfl rfl (by simp only [lx, Nat.reduceAdd]; first | done | rfl) ?_)) | (refine zbd ?_; first | (refine zax _ aA rfl rfl aO aA ?_) | (refine zaw _ aA rfl rfl rfl rfl aO aO (by first | (rw [Nat.zero_add, Int.toNat_natCast]) | (rw [Nat.zero_add]) | rfl) ?_)) | (refine zb3 ?_; first | (refine zbn rfl aD rfl ?_) | (refine zbp rfl aD ?_) | (refine zbm rfl aD ?_) | (refine zbq rfl aD rfl ?_)) | (refine zby ?_; first | (refine zb4 rfl rfl aD ?_) | (refine zcc rfl rfl aD ?_) | (refine zcb rfl rfl ?_) | (refine zbo rfl rfl (fun h => ?_) (fun h => ?_) <;> (have h' := h; (try simp only [sx] at h')))) | (refine za9 ?_; first | (refine zbc true (k_l1In _ _ _) rfl rfl rfl aS rfl aH ?_; simp only [cl]) | (refine za8 aA rfl ?_) | (refine za6 aA rfl rfl ?_) | (refine za5 aA rfl ?_) | (refine za7 aA (evO_ok rfl) ?_)) | (refine zbt _ _ rfl rfl rfl rfl ?_) | (refine zar (hK _ _ (.inl rfl) ?_); clear hK K) | (refine zar (hK _ _ (.inr (by kernel_rfl)) ?_); clear hK K))
      | (refine za3 ?_; first | (refine zbk ?_) | (refine zaf (fun K hK => ?_)) | (refine zap ?_) | (refine za0 ?_) | (refine zbj ?_) | (refine za1 ?_) | (refine zbe ?_; first | (refine zat rfl aD ?_) | (refine zau rfl aD ?_) | (refine zay rfl (fun h => ?_) (fun h => ?_) <;> (have h' := h; (try simp only [sx] at h')))))
      | (refine za2 ?_) | (refine zag ?_) | (refine zaj ?_) | (refine zao ?_) | (refine zam ?_) | (refine zan ?_) | (refine zaq rfl ?_) | (refine zah ?_) | (refine zai ?_) | (refine zbi ?_))
    all_goals first
      | (exfalso; omega)
      | exact zb2 rfl (zbh rfl) rfl
theorem k_IsTerrain1 (b : Int) : Con Try.prog 149 [.int .i64 b] (.bool (decide (0 ≤ b) && decide (b ≤ 20))) := by
  intro al
  refine zba hmix Try.func149 rfl (by kernel_rfl) (by kernel_rfl) (Nat.le_of_ble_eq_true rfl) (fun row h => by cases h) ?_
  repeat' (first
      | (refine zaz ?_; first | (refine za4 ?_; refine zas _ rfl ?_) | (refine zak ?_; refine zaa _ rfl ?_) | (refine za9 ?_; refine zbc true (k_in _ _ _) rfl rfl rfl aS rfl aH ?_; simp only [cl]) | (refine zar (hK _ _ (.inl rfl) ?_); clear hK K) | (refine zar (hK _ _ (.inr (by kernel_rfl)) ?_); clear hK K))
      | (refine za3 ?_; first | (refine zbk ?_) | (refine zaf (fun K hK => ?_)) | (refine zap ?_) | (refine za0 ?_) | (refine zbj ?_) | (refine za1 ?_))
      | (refine za2 ?_) | (refine zag ?_) | (refine zaj ?_) | (refine zao ?_) | (refine zam ?_) | (refine zan ?_) | (refine zaq rfl ?_) | (refine zah ?_) | (refine zai ?_) | (refine zbi ?_))
  exact zb2 rfl (zbh rfl) rfl
theorem k_IsTerrain (t : Terrain) (hn : t.burn.length ≤ 1099511627776) : Con Try.prog 110 [.agg t.pv] (.bool (decide (GoodT t))) := by
  intro al
  refine zba hmix Try.func110 rfl (by kernel_rfl) (by kernel_rfl) (Nat.le_of_ble_eq_true rfl) (fun row h => by cases h) ?_
  have hty_f26_0 := ty_f26_0
  have hty_c3 := ty_c3
  have hty_f26_1 := ty_f26_1
  have hty_f26_2 := ty_f26_2
  have hty_c24 := ty_c24
  have hty_u24 := ty_u24
  have hty_s24 := ty_s24
  have hl : (ints t.burn).length = t.burn.length := by simp
  have kA := k_allInt t.burn 149 [] (fun b => decide (0 ≤ b) && decide (b ≤ 20)) (fun b _ => k_IsTerrain1 b) hn
  have h5 : (t.burn.all fun b => decide (0 ≤ b) && decide (b ≤ 20)) = true ↔ ∀ b ∈ t.burn, 0 ≤ b ∧ b ≤ 20 := by simp
  by_cases hd : Dims t
  · have ha := dims_area hd
    have hd' := hd
    unfold Dims at hd'
    by_cases hs : (t.burn.length : Int) = t.width * t.height
    · repeat' (first
      | (refine zaz ?_; first | (refine za4 ?_; refine zas _ rfl ?_) | (refine zak ?_; refine zaa _ rfl ?_) | (refine zbu ?_; first | (refine x_mul rfl rfl aO ?_) | (refine zbs _ rfl rfl rfl ?_) | (refine zbr aA rfl rfl ?_) | (refine zav _ rfl rfl rfl ?_)) | (refine zbb ?_; first | (refine zab aA rfl ?_) | (refine zae _ aA rfl rfl aE rfl ?_) | (refine zac _ aA rfl aZ aL ?_) | (refine zad _ aA rfl rfl aE aZ aL ?_)) | (refine zbz ?_; first | (refine zbf _ aA rfl aL ?_) | (refine zbg _ aA rfl rfl (by simp only [lx, Nat.reduceAdd]; first | done | rfl) ?_)) | (refine zb3 ?_; first | (refine zbn rfl aD rfl ?_) | (refine zbp rfl aD ?_) | (refine zbm rfl aD ?_) | (refine zbq rfl aD rfl ?_)) | (refine zby ?_; first | (refine zb4 rfl rfl aD ?_) | (refine zcc rfl rfl aD ?_) | (refine zcb rfl rfl ?_) | (refine zbo rfl rfl (fun h => ?_) (fun h => ?_) <;> (have h' := h; (try simp only [sx] at h')))) | (refine za9 ?_; first | (refine zbc true (k_in _ _ _) rfl rfl rfl aS rfl aH ?_; simp only [cl]) | (refine zbc true (kA) rfl rfl rfl aS rfl aH ?_; simp only [cl]) | (refine za8 aA rfl ?_) | (refine za6 aA rfl rfl ?_) | (refine za5 aA rfl ?_) | (refine za7 aA (evO_ok rfl) ?_)) | (refine zbt _ _ rfl rfl rfl rfl ?_) | (refine zar (hK _ _ (.inl rfl) ?_); clear hK K) | (refine zar (hK _ _ (.inr (by kernel_rfl)) ?_); clear hK K))
      | (refine za3 ?_; first | (refine zbk ?_) | (refine zaf (fun K hK => ?_)) | (refine zap ?_) | (refine za0 ?_) | (refine zbj ?_) | (refine za1 ?_))
      | (refine za2 ?_) | (refine zag ?_) | (refine zaj ?_) | (refine zao ?_) | (refine zam ?_) | (refine zan ?_) | (refine zaq rfl ?_) | (refine zah ?_) | (refine zai ?_) | (refine zbi ?_))
      refine zb2 rfl (zbh rfl) ?_
      rw [Bool.eq_iff_iff, h5]
      simp only [decide_eq_true_eq]
      exact ⟨fun h => ⟨hd, hs, h⟩, fun h => h.2.2⟩
    · repeat' (first
      | (refine zaz ?_; first | (refine za4 ?_; refine zas _ rfl ?_) | (refine zak ?_; refine zaa _ rfl ?_) | (refine zbu ?_; first | (refine x_mul rfl rfl aO ?_) | (refine zbs _ rfl rfl rfl ?_) | (refine zbr aA rfl rfl ?_) | (refine zav _ rfl rfl rfl ?_)) | (refine zbb ?_; first | (refine zab aA rfl ?_) | (refine zae _ aA rfl rfl aE rfl ?_) | (refine zac _ aA rfl aZ aL ?_) | (refine zad _ aA rfl rfl aE aZ aL ?_)) | (refine zbz ?_; first | (refine zbf _ aA rfl aL ?_) | (refine zbg _ aA rfl rfl (by simp only [lx, Nat.reduceAdd]; first | done | rfl) ?_)) | (refine zb3 ?_; first | (refine zbn rfl aD rfl ?_) | (refine zbp rfl aD ?_) | (refine zbm rfl aD ?_) | (refine zbq rfl aD rfl ?_)) | (refine zby ?_; first | (refine zb4 rfl rfl aD ?_) | (refine zcc rfl rfl aD ?_) | (refine zcb rfl rfl ?_) | (refine zbo rfl rfl (fun h => ?_) (fun h => ?_) <;> (have h' := h; (try simp only [sx] at h')))) | (refine za9 ?_; first | (refine zbc true (k_in _ _ _) rfl rfl rfl aS rfl aH ?_; simp only [cl]) | (refine zbc true (kA) rfl rfl rfl aS rfl aH ?_; simp only [cl]) | (refine za8 aA rfl ?_) | (refine za6 aA rfl rfl ?_) | (refine za5 aA rfl ?_) | (refine za7 aA (evO_ok rfl) ?_)) | (refine zbt _ _ rfl rfl rfl rfl ?_) | (refine zar (hK _ _ (.inl rfl) ?_); clear hK K) | (refine zar (hK _ _ (.inr (by kernel_rfl)) ?_); clear hK K))
      | (refine za3 ?_; first | (refine zbk ?_) | (refine zaf (fun K hK => ?_)) | (refine zap ?_) | (refine za0 ?_) | (refine zbj ?_) | (refine za1 ?_))
      | (refine za2 ?_) | (refine zag ?_) | (refine zaj ?_) | (refine zao ?_) | (refine zam ?_) | (refine zan ?_) | (refine zaq rfl ?_) | (refine zah ?_) | (refine zai ?_) | (refine zbi ?_))
      refine zb2 rfl (zbh rfl) ?_
      have : ¬ GoodT t := fun h => hs h.2.1
      simp [this]
      try omega
  · have hng : ¬ GoodT t := fun h => hd h.1
    rw [show decide (GoodT t) = false from by simp [hng]]
    unfold Dims at hd
    repeat' (first
      | (refine zaz ?_; first | (refine za4 ?_; refine zas _ rfl ?_) | (refine zak ?_; refine zaa _ rfl ?_) | (refine zbu ?_; first | (refine x_mul rfl rfl aO ?_) | (refine zbs _ rfl rfl rfl ?_) | (refine zbr aA rfl rfl ?_) | (refine zav _ rfl rfl rfl ?_)) | (refine zbb ?_; first | (refine zab aA rfl ?_) | (refine zae _ aA rfl rfl aE rfl ?_) | (refine zac _ aA rfl aZ aL ?_) | (refine zad _ aA rfl rfl aE aZ aL ?_)) | (refine zbz ?_; first | (refine zbf _ aA rfl aL ?_) | (refine zbg _ aA rfl rfl (by simp only [lx, Nat.reduceAdd]; first | done | rfl) ?_)) | (refine zb3 ?_; first | (refine zbn rfl aD rfl ?_) | (refine zbp rfl aD ?_) | (refine zbm rfl aD ?_) | (refine zbq rfl aD rfl ?_)) | (refine zby ?_; first | (refine zb4 rfl rfl aD ?_) | (refine zcc rfl rfl aD ?_) | (refine zcb rfl rfl ?_) | (refine zbo rfl rfl (fun h => ?_) (fun h => ?_) <;> (have h' := h; (try simp only [sx] at h')))) | (refine za9 ?_; first | (refine zbc true (k_in _ _ _) rfl rfl rfl aS rfl aH ?_; simp only [cl]) | (refine zbc true (kA) rfl rfl rfl aS rfl aH ?_; simp only [cl]) | (refine za8 aA rfl ?_) | (refine za6 aA rfl rfl ?_) | (refine za5 aA rfl ?_) | (refine za7 aA (evO_ok rfl) ?_)) | (refine zbt _ _ rfl rfl rfl rfl ?_) | (refine zar (hK _ _ (.inl rfl) ?_); clear hK K) | (refine zar (hK _ _ (.inr (by kernel_rfl)) ?_); clear hK K))
      | (refine za3 ?_; first | (refine zbk ?_) | (refine zaf (fun K hK => ?_)) | (refine zap ?_) | (refine za0 ?_) | (refine zbj ?_) | (refine za1 ?_))
      | (refine za2 ?_) | (refine zag ?_) | (refine zaj ?_) | (refine zao ?_) | (refine zam ?_) | (refine zan ?_) | (refine zaq rfl ?_) | (refine zah ?_) | (refine zai ?_) | (refine zbi ?_))
    all_goals first
      | (exfalso; omega)
      | exact zb2 rfl (zbh rfl) rfl
      | (refine zb2 rfl (zbh rfl) ?_; simp; omega)
theorem k_isCell (t : Terrain) (c : Int) (hn : t.burn.length ≤ 1099511627776) : Con Try.prog 153 [.agg t.pv, .int .i64 c] (.bool (decide (0 ≤ c ∧ c < t.burn.length))) := by
  intro al
  refine zba hmix Try.func153 rfl (by kernel_rfl) (by kernel_rfl) (Nat.le_of_ble_eq_true rfl) (fun row h => by cases h) ?_
  have hty_f26_2 := ty_f26_2
  have hty_c24 := ty_c24
  have hty_u24 := ty_u24
  have hty_s24 := ty_s24
  have hl1 : (ints t.burn).length = t.burn.length := by simp
  repeat' (first
      | (refine zaz ?_; first | (refine za4 ?_; refine zas _ rfl ?_) | (refine zak ?_; refine zaa _ rfl ?_) | (refine zbu ?_; first | (refine zch rfl rfl aO ?_) | (refine zbs _ rfl rfl rfl ?_)) | (refine zbb ?_; first | (refine zab aA rfl ?_) | (refine zae _ aA rfl rfl aE rfl ?_) | (refine zac _ aA rfl aZ aL ?_) | (refine zad _ aA rfl rfl aE aZ aL ?_)) | (refine zbz ?_; first | (refine zbf _ aA rfl aL ?_) | (refine zbg _ aA rfl rfl (by simp only [lx, Nat.reduceAdd]; first | done | rfl) ?_)) | (refine za9 ?_; first | (refine zbc true (k_in _ _ _) rfl rfl rfl aS rfl aH ?_; simp only [cl]) | (refine za8 aA rfl ?_) | (refine za6 aA rfl rfl ?_) | (refine za5 aA rfl ?_) | (refine za7 aA (evO_ok rfl) ?_)) | (refine zbt _ _ rfl rfl rfl rfl ?_) | (refine zar (hK _ _ (.inl rfl) ?_); clear hK K) | (refine zar (hK _ _ (.inr (by kernel_rfl)) ?_); clear hK K))
      | (refine za3 ?_; first | (refine zbk ?_) | (refine zaf (fun K hK => ?_)) | (refine zap ?_) | (refine za0 ?_) | (refine zbj ?_) | (refine za1 ?_))
      | (refine za2 ?_) | (refine zag ?_) | (refine zaj ?_) | (refine zao ?_) | (refine zam ?_) | (refine zan ?_) | (refine zaq rfl ?_) | (refine zah ?_) | (refine zai ?_) | (refine zbi ?_))
  refine zb2 rfl (zbh rfl) ?_
  rw [Bool.eq_iff_iff]
  simp only [sx]
  omega
theorem k_all1IntT (a : Int) (g : FuncId) (t : Terrain) (b : Bool) (hg : Con Try.prog g [.agg t.pv, .int .i64 a] (.bool b)) :
    Con Try.prog 114 [.int .i64 a, .ptr [.fn g [.agg t.pv] []]] (.bool (!b)) := by
  intro al
  refine zba hmix Try.func114 rfl (by kernel_rfl) (by kernel_rfl) (Nat.le_of_ble_eq_true rfl) (fun row h => by cases h) ?_
  have hty_c68 := ty_c68
  repeat' (first
      | (refine zaz ?_; first | (refine za4 ?_; refine zas _ rfl ?_) | (refine zak ?_; refine zaa _ rfl ?_) | (refine g_un ?_; first | (refine zb7 rfl ?_) | (refine zb8 rfl aO ?_)) | (refine zbb ?_; first | (refine zab aA rfl ?_) | (refine zae _ aA rfl rfl aE rfl ?_) | (refine zac _ aA rfl aZ aL ?_) | (refine zad _ aA rfl rfl aE aZ aL ?_)) | (refine za9 ?_; refine zbc true (hg) rfl rfl rfl aS rfl aH ?_; simp only [cl]) | (refine zar (hK _ _ (.inl rfl) ?_); clear hK K) | (refine zar (hK _ _ (.inr (by kernel_rfl)) ?_); clear hK K))
      | (refine za3 ?_; first | (refine zbk ?_) | (refine zaf (fun K hK => ?_)) | (refine zap ?_) | (refine za0 ?_) | (refine zbj ?_) | (refine za1 ?_))
      | (refine za2 ?_) | (refine zag ?_) | (refine zaj ?_) | (refine zao ?_) | (refine zam ?_) | (refine zan ?_) | (refine zaq rfl ?_) | (refine zah ?_) | (refine zai ?_) | (refine zbi ?_))
  exact zb2 rfl (zbh rfl) rfl
theorem k_allIntT (xs : List Int) (g : FuncId) (t : Terrain) (p : Int → Bool) (hg : ∀ a ∈ xs, Con Try.prog g [.agg t.pv, .int .i64 a] (.bool (p a))) (hn : xs.length ≤ 1099511627776) :
    Con Try.prog 58 [.list 1 (ints xs), .fn g [.agg t.pv] []] (.bool (xs.all p)) := by
  intro al
  refine zba hmix Try.func58 rfl (by kernel_rfl) (by kernel_rfl) (Nat.le_of_ble_eq_true rfl) (fun row h => by cases h) ?_
  have hty_u24 := ty_u24
  have hty_s24 := ty_s24
  repeat' (first
      | (refine zaz ?_; first | (refine za4 ?_; refine zas _ rfl ?_) | (refine zak ?_; refine zaa _ rfl ?_) | (refine g_un ?_; first | (refine zb7 rfl ?_) | (refine zb8 rfl aO ?_)) | (refine za9 ?_; refine zbc true (k_ContainsFuncInt xs 114 [[.fn g [.agg t.pv] []]] (fun a => !p a) (fun a ha => k_all1IntT a g t (p a) (hg a ha)) hn) rfl rfl rfl aS rfl aH ?_; simp only [cl]) | (refine zbt _ _ rfl rfl rfl rfl ?_) | (refine zcm _ _ rfl rfl ?_) | (refine zar (hK _ _ (.inl rfl) ?_); clear hK K) | (refine zar (hK _ _ (.inr (by kernel_rfl)) ?_); clear hK K))
      | (refine za3 ?_; first | (refine zbk ?_) | (refine zaf (fun K hK => ?_)) | (refine zap ?_) | (refine za0 ?_) | (refine zbj ?_) | (refine za1 ?_))
      | (refine za2 ?_) | (refine zag ?_) | (refine zaj ?_) | (refine zao ?_) | (refine zam ?_) | (refine zan ?_) | (refine zaq rfl ?_) | (refine zah ?_) | (refine zai ?_) | (refine zbi ?_))
  refine zb2 rfl (zbh rfl) ?_
  rw [List.all_eq_not_any_not]
theorem k_column (t : Terrain) (c : Int) (hw : 1 ≤ t.width) (hc : 0 ≤ c ∧ c ≤ 1000) : Con Try.prog 116 [.agg t.pv, .int .i64 c] (.int .i64 (c % t.width)) := by
  intro al
  refine zba hmix Try.func116 rfl (by kernel_rfl) (by kernel_rfl) (Nat.le_of_ble_eq_true rfl) (fun row h => by cases h) ?_
  have hty_f26_0 := ty_f26_0
  have hty_c3 := ty_c3
  repeat' (first
      | (refine zaz ?_; first | (refine za4 ?_; refine zas _ rfl ?_) | (refine zak ?_; refine zaa _ rfl ?_) | (refine zbu ?_; first | (refine zcq rfl rfl aO ?_) | (refine zce rfl rfl aO ?_) | (refine zbs _ rfl rfl rfl ?_)) | (refine zbb ?_; first | (refine zab aA rfl ?_) | (refine zae _ aA rfl rfl aE rfl ?_) | (refine zac _ aA rfl aZ aL ?_) | (refine zad _ aA rfl rfl aE aZ aL ?_)) | (refine zbz ?_; first | (refine zbf _ aA rfl aL ?_) | (refine zbg _ aA rfl rfl (by simp only [lx, Nat.reduceAdd]; first | done | rfl) ?_)) | (refine zbt _ _ rfl rfl rfl rfl ?_) | (refine zar (hK _ _ (.inl rfl) ?_); clear hK K) | (refine zar (hK _ _ (.inr (by kernel_rfl)) ?_); clear hK K))
      | (refine za3 ?_; first | (refine zbk ?_) | (refine zaf (fun K hK => ?_)) | (refine zap ?_) | (refine za0 ?_) | (refine zbj ?_) | (refine za1 ?_))
      | (refine za2 ?_) | (refine zag ?_) | (refine zaj ?_) | (refine zao ?_) | (refine zam ?_) | (refine zan ?_) | (refine zaq rfl ?_) | (refine zah ?_) | (refine zai ?_) | (refine zbi ?_))
  exact ret_int rfl (zbh rfl) rfl
theorem k_row (t : Terrain) (c : Int) (hw : 1 ≤ t.width) (hc : 0 ≤ c ∧ c ≤ 1000) : Con Try.prog 117 [.agg t.pv, .int .i64 c] (.int .i64 (c / t.width)) := by
  intro al
  refine zba hmix Try.func117 rfl (by kernel_rfl) (by kernel_rfl) (Nat.le_of_ble_eq_true rfl) (fun row h => by cases h) ?_
  have hty_f26_0 := ty_f26_0
  have hty_c3 := ty_c3
  repeat' (first
      | (refine zaz ?_; first | (refine za4 ?_; refine zas _ rfl ?_) | (refine zak ?_; refine zaa _ rfl ?_) | (refine zbu ?_; first | (refine x_quo rfl rfl aO ?_) | (refine x_quoT rfl rfl aO ?_) | (refine zbs _ rfl rfl rfl ?_)) | (refine zbb ?_; first | (refine zab aA rfl ?_) | (refine zae _ aA rfl rfl aE rfl ?_) | (refine zac _ aA rfl aZ aL ?_) | (refine zad _ aA rfl rfl aE aZ aL ?_)) | (refine zbz ?_; first | (refine zbf _ aA rfl aL ?_) | (refine zbg _ aA rfl rfl (by simp only [lx, Nat.reduceAdd]; first | done | rfl) ?_)) | (refine zbt _ _ rfl rfl rfl rfl ?_) | (refine zar (hK _ _ (.inl rfl) ?_); clear hK K) | (refine zar (hK _ _ (.inr (by kernel_rfl)) ?_); clear hK K))
      | (refine za3 ?_; first | (refine zbk ?_) | (refine zaf (fun K hK => ?_)) | (refine zap ?_) | (refine za0 ?_) | (refine zbj ?_) | (refine za1 ?_))
      | (refine za2 ?_) | (refine zag ?_) | (refine zaj ?_) | (refine zao ?_) | (refine zam ?_) | (refine zan ?_) | (refine zaq rfl ?_) | (refine zah ?_) | (refine zai ?_) | (refine zbi ?_))
  exact ret_int rfl (zbh rfl) rfl
theorem k_l2Set (t : Terrain) (xs : List Int) (hn : t.burn.length ≤ 1099511627776) (hm : xs.length ≤ 1099511627776) : Con Try.prog 61 [.agg t.pv, .list 1 (ints xs)] (.bool (decide (GoodT t ∧ (∀ y ∈ xs, 0 ≤ y ∧ y < t.burn.length) ∧ Rising xs))) := by
  intro al
  refine zba hmix Try.func61 rfl (by kernel_rfl) (by kernel_rfl) (Nat.le_of_ble_eq_true rfl) (fun row h => by cases h) ?_
  have hty_a26 := ty_a26
  have hty_f26_2 := ty_f26_2
  have hty_c24 := ty_c24
  have hty_u24 := ty_u24
  have hty_s24 := ty_s24
  have hl1 : (ints t.burn).length = t.burn.length := by simp
  have e : (∀ y ∈ xs, 0 ≤ y ∧ y ≤ ((ints t.burn).length : Int) - 1) ↔ ∀ y ∈ xs, 0 ≤ y ∧ y < t.burn.length := by
    rw [hl1]
    constructor <;> intro h y hy <;> have := h y hy <;> omega
  repeat' (first
      | (refine zaz ?_; first | (refine za4 ?_; refine zas _ rfl ?_) | (refine zak ?_; refine zaa _ rfl ?_) | (refine zbu ?_; first | (refine zch rfl rfl aO ?_) | (refine zbs _ rfl rfl rfl ?_)) | (refine zbb ?_; first | (refine zab aA rfl ?_) | (refine zae _ aA rfl rfl aE rfl ?_) | (refine zac _ aA rfl aZ aL ?_) | (refine zad _ aA rfl rfl aE aZ aL ?_)) | (refine zbz ?_; first | (refine zbf _ aA rfl aL ?_) | (refine zbg _ aA rfl rfl (by simp only [lx, Nat.reduceAdd]; first | done | rfl) ?_)) | (refine zb3 ?_; first | (refine zbn rfl aD rfl ?_) | (refine zbp rfl aD ?_) | (refine zbm rfl aD ?_) | (refine zbq rfl aD rfl ?_)) | (refine zby ?_; first | (refine zb4 rfl rfl aD ?_) | (refine zcc rfl rfl aD ?_) | (refine zcb rfl rfl ?_) | (refine zbo rfl rfl (fun h => ?_) (fun h => ?_) <;> (have h' := h; (try simp only [sx] at h')))) | (refine za9 ?_; first | (refine zbc true (k_l2Good t hn) rfl rfl rfl aS rfl aH ?_; simp only [cl]) | (refine zbc true (k_l1Rising xs 0 (((ints t.burn).length : Int) - 1) hm) rfl rfl rfl aS rfl aH ?_; simp only [cl]) | (refine za8 aA rfl ?_) | (refine za6 aA rfl rfl ?_) | (refine za5 aA rfl ?_) | (refine za7 aA (evO_ok rfl) ?_)) | (refine zbt _ _ rfl rfl rfl rfl ?_) | (refine zar (hK _ _ (.inl rfl) ?_); clear hK K) | (refine zar (hK _ _ (.inr (by kernel_rfl)) ?_); clear hK K))
      | (refine za3 ?_; first | (refine zbk ?_) | (refine zaf (fun K hK => ?_)) | (refine zap ?_) | (refine za0 ?_) | (refine zbj ?_) | (refine za1 ?_))
      | (refine za2 ?_) | (refine zag ?_) | (refine zaj ?_) | (refine zao ?_) | (refine zam ?_) | (refine zan ?_) | (refine zaq rfl ?_) | (refine zah ?_) | (refine zai ?_) | (refine zbi ?_))
  all_goals
    (refine zb2 rfl (zbh rfl) ?_; rw [Bool.eq_iff_iff]; try simp only [sx] at *)
    first
      | (rw [e]; constructor
         · intro hq; exact ⟨by assumption, hq⟩
         · intro hq; exact hq.2)
      | (constructor <;> intro hq <;> first | contradiction | exact absurd hq.1 aA)
def cellsL (n : Nat) (p : Nat → Bool) : List Int := ((List.range n).filter p).map fun c : Nat => (c : Int)
theorem cellsL_len (n : Nat) (p : Nat → Bool) : (cellsL n p).length ≤ n := by
  simp only [cellsL, List.length_map]
  have := List.length_filter_le p (List.range n)
  simpa using this
theorem cellsL_mem {n : Nat} {p : Nat → Bool} {c : Int} : c ∈ cellsL n p ↔ ∃ i : Nat, i < n ∧ p i = true ∧ c = i := by
  simp only [cellsL, List.mem_map, List.mem_filter, List.mem_range]
  constructor
  · rintro ⟨i, ⟨h1, h2⟩, rfl⟩; exact ⟨i, h1, h2, rfl⟩
  · rintro ⟨i, h1, h2, rfl⟩; exact ⟨i, ⟨h1, h2⟩, rfl⟩
theorem cellsL_succ (n : Nat) (p : Nat → Bool) : cellsL (n + 1) p = cellsL n p ++ (if p n = true then [(n : Int)] else []) := by
  simp only [cellsL, List.range_succ, List.filter_append, List.map_append]
  by_cases h : p n = true <;> simp [h]
theorem cellsL_t {n : Nat} {p : Nat → Bool} (h : p n = true) : cellsL (n + 1) p = cellsL n p ++ [(n : Int)] := by rw [cellsL_succ, if_pos h]
theorem cellsL_f {n : Nat} {p : Nat → Bool} (h : p n = false) : cellsL (n + 1) p = cellsL n p := by rw [cellsL_succ, if_neg (by simp [h]), List.append_nil]
theorem cellsL_congr {n : Nat} {p q : Nat → Bool} (h : ∀ i, i < n → p i = q i) : cellsL n p = cellsL n q := by
  simp only [cellsL]
  congr 1
  exact List.filter_congr fun i hi => h i (List.mem_range.1 hi)
theorem k_cellsThat (t : Terrain) (g : FuncId) (ca : List (List PV)) (p : Nat → Bool) (hg : ∀ c : Nat, c < t.burn.length → Con Try.prog g (.int .i64 c :: ca.map PV.ptr) (.bool (p c))) (hn : t.burn.length ≤ 1099511627776) :
    Con Try.prog 56 [.agg t.pv, .fn g [] (ca.map PV.ptr)] (.olist 3 1 (ints (cellsL t.burn.length p))) := by
  intro al
  refine zba hmix Try.func56 rfl (by kernel_rfl) (by kernel_rfl) (Nat.le_of_ble_eq_true rfl) (fun row h => by cases h) ?_
  have hty_s24 := ty_s24
  have hty_f26_2 := ty_f26_2
  have hty_c24 := ty_c24
  have hty_u24 := ty_u24
  have hl1 : (ints t.burn).length = t.burn.length := by simp
  repeat' (first
      | (refine zaz ?_; first | (refine za4 ?_; refine zas _ rfl ?_) | (refine zak ?_; refine zaa _ rfl ?_) | (refine zbu ?_; first | (refine zb0 rfl rfl aO ?_) | (refine zbs _ rfl rfl rfl ?_) | (refine zav _ rfl rfl rfl ?_)) | (refine zbb ?_; first | (refine zab aA rfl ?_) | (refine zae _ aA rfl rfl aE rfl ?_) | (refine zac _ aA rfl aZ aL ?_) | (refine zad _ aA rfl rfl aE aZ aL ?_)) | (refine zbz ?_; first | (refine zbf _ aA rfl aL ?_) | (refine zbg _ aA rfl rfl (by simp only [lx, Nat.reduceAdd]; first | done | rfl) ?_)) | (refine za9 ?_; first | (refine za8 aA rfl ?_) | (refine za6 aA rfl rfl ?_) | (refine za5 aA rfl ?_) | (refine za7 aA (evO_ok rfl) ?_) | (refine zbx _ _ aA rfl (lookM (by rfl)) rfl (lookM (by rfl)) rfl aN ⟨rfl, rfl, by decide, by decide⟩ (by first | rfl | omega | (simp; done) | (simp; omega) | fail) ⟨by first | (simp only [List.length_cons, List.length_nil]; omega) | omega | fail, by decide⟩ rfl (by first | (first | (simp only [lx, Nat.reduceAdd]; first | done | rfl) | fail) | rfl) aP ?_) | (refine zbw _ _ aA rfl rfl (lookM (by rfl)) ⟨rfl, by decide⟩ aN (by first | exact Nat.succ_pos _ | omega | (simp; done)) ⟨by first | (simp only [List.length_cons, List.length_nil]; omega) | omega | fail, by decide⟩ rfl rfl aP ?_) | (refine zbv _ aA rfl rfl (lookM (by rfl)) ⟨rfl, by decide⟩ aN ⟨by first | (simp only [List.length_cons, List.length_nil]; omega) | omega | fail, by decide⟩ rfl aP ?_) | (refine zbl _ aA rfl rfl rfl ⟨rfl, rfl, rfl, by decide, by decide⟩ (by first | rfl | (simp; done) | fail) ⟨by omega, by decide⟩ rfl aL (by first | (rw [Nat.zero_add]) | rfl) ?_)) | (refine zal aA rfl rfl rfl ?_) | (refine zbt _ _ rfl rfl rfl rfl ?_) | (refine zar (hK _ _ (.inl rfl) ?_); clear hK K) | (refine zar (hK _ _ (.inr (by kernel_rfl)) ?_); clear hK K))
      | (refine za3 ?_; first | (refine zbk ?_) | (refine zaf (fun K hK => ?_)) | (refine zap ?_) | (refine za0 ?_) | (refine zbj ?_) | (refine za1 ?_) | (refine zbe ?_; first | (refine zat rfl aD ?_) | (refine zau rfl aD ?_) | (refine zay rfl (fun h => ?_) (fun h => ?_) <;> (have h' := h; (try simp only [sx] at h')))))
      | (refine za2 ?_) | (refine zag ?_) | (refine zaj ?_) | (refine zao ?_) | (refine zam ?_) | (refine zan ?_) | (refine zaq rfl ?_) | (refine zah ?_) | (refine zai ?_) | (refine zbi ?_))
  refine zcd [1, 10] [] (fun q : Nat × Nat × List (List PV) => [(5, .osl (1001, 0) 0 q.2.1), (11, .int .i64 q.1)]) (fun q : Nat × Nat × List (List PV) => [((1001, 0), some ⟨3, 1, q.2.2, false⟩)]) (fun q : Nat × Nat × List (List PV) => q.1 ≤ t.burn.length ∧ q.2.2 = ints (cellsL q.1 p) ∧ q.2.2.length = q.2.1) (fun q : Nat × Nat × List (List PV) => t.burn.length - q.1) ((0, 0, [])) rfl rfl (fun _ => rfl) (fun _ => rfl) rfl aW ⟨by simp, by simp [cellsL], rfl⟩ (fun q hq => ?_)
  obtain ⟨i, m, es⟩ := q
  obtain ⟨hi1, hi2, hl⟩ := hq
  simp only at hi1 hi2 hl
  have hle : es.length ≤ i := by rw [hi2, ints_len]; exact cellsL_len i p
  dsimp only
  rcases Nat.lt_or_ge i t.burn.length with hlt | hge
  · have kg := hg i hlt
    repeat' (first
      | (refine zaz ?_; first | (refine za4 ?_; refine zas _ rfl ?_) | (refine zak ?_; refine zaa _ rfl ?_) | (refine zbu ?_; first | (refine zb0 rfl rfl aO ?_) | (refine zbs _ rfl rfl rfl ?_) | (refine zav _ rfl rfl rfl ?_)) | (refine zbb ?_; first | (refine zab aA rfl ?_) | (refine zae _ aA rfl rfl aE rfl ?_) | (refine zac _ aA rfl aZ aL ?_) | (refine zad _ aA rfl rfl aE aZ aL ?_)) | (refine zbz ?_; first | (refine zbf _ aA rfl aL ?_) | (refine zbg _ aA rfl rfl (by simp only [lx, Nat.reduceAdd]; first | done | rfl) ?_)) | (refine za9 ?_; first | (refine zbc true (kg) rfl rfl rfl aS rfl aH ?_; simp only [cl]) | (refine x_call [] _ (kg) rfl rfl aS rfl aH ?_; simp only [cl]) | (refine za8 aA rfl ?_) | (refine za6 aA rfl rfl ?_) | (refine za5 aA rfl ?_) | (refine za7 aA (evO_ok rfl) ?_) | (refine zbx _ _ aA rfl (lookM (by rfl)) rfl (lookM (by rfl)) rfl aN ⟨rfl, rfl, by decide, by decide⟩ (by first | rfl | omega | (simp; done) | (simp; omega) | fail) ⟨by first | (simp only [List.length_cons, List.length_nil]; omega) | omega | fail, by decide⟩ rfl (by first | (first | (simp only [lx, Nat.reduceAdd]; first | done | rfl) | fail) | rfl) aP ?_) | (refine zbw _ _ aA rfl rfl (lookM (by rfl)) ⟨rfl, by decide⟩ aN (by first | exact Nat.succ_pos _ | omega | (simp; done)) ⟨by first | (simp only [List.length_cons, List.length_nil]; omega) | omega | fail, by decide⟩ rfl rfl aP ?_) | (refine zbv _ aA rfl rfl (lookM (by rfl)) ⟨rfl, by decide⟩ aN ⟨by first | (simp only [List.length_cons, List.length_nil]; omega) | omega | fail, by decide⟩ rfl aP ?_) | (refine zbl _ aA rfl rfl rfl ⟨rfl, rfl, rfl, by decide, by decide⟩ (by first | rfl | (simp; done) | fail) ⟨by omega, by decide⟩ rfl aL (by first | (rw [Nat.zero_add]) | rfl) ?_)) | (refine zal aA rfl rfl rfl ?_) | (refine zbt _ _ rfl rfl rfl rfl ?_) | (refine zar (hK _ _ (.inl rfl) ?_); clear hK K) | (refine zar (hK _ _ (.inr (by kernel_rfl)) ?_); clear hK K))
      | (refine za3 ?_; first | (refine zbk ?_) | (refine zaf (fun K hK => ?_)) | (refine zap ?_) | (refine za0 ?_) | (refine zbj ?_) | (refine za1 ?_) | (refine zbe ?_; first | (refine zat rfl aD ?_) | (refine zau rfl aD ?_) | (refine zay rfl (fun h => ?_) (fun h => ?_) <;> (have h' := h; (try simp only [sx] at h')))))
      | (refine za2 ?_) | (refine zag ?_) | (refine zaj ?_) | (refine zao ?_) | (refine zam ?_) | (refine zan ?_) | (refine zaq rfl ?_) | (refine zah ?_) | (refine zai ?_) | (refine zbi ?_))
    · refine zb6 (i + 1, m + 1, es ++ [[.int .i64 i]]) rfl aW ⟨by simp only; omega, ?_, by simp [hl]⟩ (by simp only; omega)
      simp only [cellsL_t (show p i = true by assumption), ints_snoc, hi2]
    · refine zb6 (i + 1, m, es) rfl aW ⟨by simp only; omega, ?_, hl⟩ (by simp only; omega)
      simp only [cellsL_f (show p i = false by assumption), hi2]
  · have : i = t.burn.length := by omega
    subst this
    repeat' (first
      | (refine zaz ?_; first | (refine za4 ?_; refine zas _ rfl ?_) | (refine zak ?_; refine zaa _ rfl ?_) | (refine zbu ?_; first | (refine zb0 rfl rfl aO ?_) | (refine zbs _ rfl rfl rfl ?_) | (refine zav _ rfl rfl rfl ?_)) | (refine zbb ?_; first | (refine zab aA rfl ?_) | (refine zae _ aA rfl rfl aE rfl ?_) | (refine zac _ aA rfl aZ aL ?_) | (refine zad _ aA rfl rfl aE aZ aL ?_)) | (refine zbz ?_; first | (refine zbf _ aA rfl aL ?_) | (refine zbg _ aA rfl rfl (by simp only [lx, Nat.reduceAdd]; first | done | rfl) ?_)) | (refine za9 ?_; first | (refine za8 aA rfl ?_) | (refine za6 aA rfl rfl ?_) | (refine za5 aA rfl ?_) | (refine za7 aA (evO_ok rfl) ?_) | (refine zbx _ _ aA rfl (lookM (by rfl)) rfl (lookM (by rfl)) rfl aN ⟨rfl, rfl, by decide, by decide⟩ (by first | rfl | omega | (simp; done) | (simp; omega) | fail) ⟨by first | (simp only [List.length_cons, List.length_nil]; omega) | omega | fail, by decide⟩ rfl (by first | (first | (simp only [lx, Nat.reduceAdd]; first | done | rfl) | fail) | rfl) aP ?_) | (refine zbw _ _ aA rfl rfl (lookM (by rfl)) ⟨rfl, by decide⟩ aN (by first | exact Nat.succ_pos _ | omega | (simp; done)) ⟨by first | (simp only [List.length_cons, List.length_nil]; omega) | omega | fail, by decide⟩ rfl rfl aP ?_) | (refine zbv _ aA rfl rfl (lookM (by rfl)) ⟨rfl, by decide⟩ aN ⟨by first | (simp only [List.length_cons, List.length_nil]; omega) | omega | fail, by decide⟩ rfl aP ?_) | (refine zbl _ aA rfl rfl rfl ⟨rfl, rfl, rfl, by decide, by decide⟩ (by first | rfl | (simp; done) | fail) ⟨by omega, by decide⟩ rfl aL (by first | (rw [Nat.zero_add]) | rfl) ?_)) | (refine zal aA rfl rfl rfl ?_) | (refine zbt _ _ rfl rfl rfl rfl ?_) | (refine zar (hK _ _ (.inl rfl) ?_); clear hK K) | (refine zar (hK _ _ (.inr (by kernel_rfl)) ?_); clear hK K))
      | (refine za3 ?_; first | (refine zbk ?_) | (refine zaf (fun K hK => ?_)) | (refine zap ?_) | (refine za0 ?_) | (refine zbj ?_) | (refine za1 ?_) | (refine zbe ?_; first | (refine zat rfl aD ?_) | (refine zau rfl aD ?_) | (refine zay rfl (fun h => ?_) (fun h => ?_) <;> (have h' := h; (try simp only [sx] at h')))))
      | (refine za2 ?_) | (refine zag ?_) | (refine zaj ?_) | (refine zao ?_) | (refine zam ?_) | (refine zan ?_) | (refine zaq rfl ?_) | (refine zah ?_) | (refine zai ?_) | (refine zbi ?_))
    exact ret_list rfl (zbh (by rfl)) (by rfl) (by decide) hl.symm (by rw [hi2]; exact ints_flat _) hi2
end Go.Vs
set_option linter.unusedVariables false
set_option linter.unusedSimpArgs false
set_option maxRecDepth 100000
set_option maxHeartbeats 4000000
namespace Go.Vs
open Go.Proofs
attribute [local irreducible] exec vwp thenQ blkQ loopQ RetPost
def IsCell (t : Terrain) (c : Int) : Prop := 0 ≤ c ∧ c < t.burn.length
instance (t : Terrain) (c : Int) : Decidable (IsCell t c) := by unfold IsCell; infer_instance
@[reducible] def colOf (t : Terrain) (c : Int) : Int := c % t.width
@[reducible] def rowOf (t : Terrain) (c : Int) : Int := c / t.width
theorem cell_place {t : Terrain} (hg : GoodT t) {c : Int} (hc : IsCell t c) : (0 ≤ colOf t c ∧ colOf t c < t.width) ∧ (0 ≤ rowOf t c ∧ rowOf t c < t.height) ∧ rowOf t c * t.width + colOf t c = c := by
  have hw := hg.1.1
  have ha := hg.2.1
  have h1 := hc.2
  refine ⟨⟨Int.emod_nonneg _ aO, Int.emod_lt_of_pos _ aO⟩, ⟨Int.ediv_nonneg hc.1 aO, Int.ediv_lt_of_lt_mul aO ?_⟩, ?_⟩
  · rw [Int.mul_comm]; omega
  · show c / t.width * t.width + c % t.width = c
    rw [Int.emod_def, Int.mul_comm]; omega
@[reducible] def absI (x : Int) : Int := max x (-x)
@[reducible] def apart (t : Terrain) (a b : Int) : Int := max (absI (colOf t a - colOf t b)) (absI (rowOf t a - rowOf t b))
theorem apart_comm (t : Terrain) (a b : Int) : apart t a b = apart t b a := by simp only [apart, absI]; omega
@[reducible] def nearP (t : Terrain) (c : Int) (i : Nat) : Bool := decide (apart t c i = 1)
def nears (t : Terrain) (c : Int) : List Int := cellsL t.burn.length (nearP t c)
theorem nears_mem {t : Terrain} {c x : Int} : x ∈ nears t c ↔ IsCell t x ∧ apart t c x = 1 := by
  rw [nears, cellsL_mem]
  constructor
  · rintro ⟨i, h1, h2, rfl⟩
    exact ⟨⟨by omega, by omega⟩, by simpa [nearP] using h2⟩
  · rintro ⟨⟨h1, h2⟩, h3⟩
    refine ⟨x.toNat, by omega, ?_, by omega⟩
    have : ((x.toNat : Nat) : Int) = x := by omega
    simp only [nearP, this, h3, decide_true]
theorem nears_len (t : Terrain) (c : Int) : (nears t c).length ≤ t.burn.length := cellsL_len _ _
theorem k_l2Apart (t : Terrain) (a b : Int) (hg : GoodT t) (ha : IsCell t a) (hb : IsCell t b) : Con Try.prog 120 [.agg t.pv, .int .i64 a, .int .i64 b] (.int .i64 (apart t a b)) := by
  intro al
  refine zba hmix Try.func120 rfl (by kernel_rfl) (by kernel_rfl) (Nat.le_of_ble_eq_true rfl) (fun row h => by cases h) ?_
  have hty_f26_0 := ty_f26_0
  have hty_c3 := ty_c3
  have hd := hg.1
  unfold Dims at hd
  have p1 := cell_place hg ha
  have p2 := cell_place hg hb
  dsimp only [colOf, rowOf] at p1 p2
  have hca := ha
  have hcb := hb
  unfold IsCell at hca hcb
  have hl := goodT_len hg
  repeat' (first
      | (refine zaz ?_; first | (refine za4 ?_; refine zas _ rfl ?_) | (refine zak ?_; refine zaa _ rfl ?_) | (refine zbu ?_; first | (refine zch rfl rfl aO ?_) | (refine x_quo rfl rfl aO ?_) | (refine zcq rfl rfl aO ?_) | (refine x_quoT rfl rfl aO ?_) | (refine zce rfl rfl aO ?_) | (refine zbs _ rfl rfl rfl ?_)) | (refine g_un ?_; first | (refine zb7 rfl ?_) | (refine zb8 rfl aO ?_)) | (refine zbb ?_; first | (refine zab aA rfl ?_) | (refine zae _ aA rfl rfl aE rfl ?_) | (refine zac _ aA rfl aZ aL ?_) | (refine zad _ aA rfl rfl aE aZ aL ?_)) | (refine zbz ?_; first | (refine zbf _ aA rfl aL ?_) | (refine zbg _ aA rfl rfl (by simp only [lx, Nat.reduceAdd]; first | done | rfl) ?_)) | (refine za9 ?_; refine zbc true (k_l1Most _ _) rfl rfl rfl aS rfl aH ?_; simp only [cl]) | (refine zbt _ _ rfl rfl rfl rfl ?_) | (refine zar (hK _ _ (.inl rfl) ?_); clear hK K) | (refine zar (hK _ _ (.inr (by kernel_rfl)) ?_); clear hK K))
      | (refine za3 ?_; first | (refine zbk ?_) | (refine zaf (fun K hK => ?_)) | (refine zap ?_) | (refine za0 ?_) | (refine zbj ?_) | (refine za1 ?_))
      | (refine za2 ?_) | (refine zag ?_) | (refine zaj ?_) | (refine zao ?_) | (refine zam ?_) | (refine zan ?_) | (refine zaq rfl ?_) | (refine zah ?_) | (refine zai ?_) | (refine zbi ?_))
  exact ret_int rfl (zbh rfl) rfl
theorem k_l2Near (t : Terrain) (c : Int) (hg : GoodT t) (hc : IsCell t c) : Con Try.prog 63 [.agg t.pv, .int .i64 c] (.olist 3 1 (ints (nears t c))) := by
  intro al
  refine zba hmix Try.func63 rfl (by kernel_rfl) (by kernel_rfl) (Nat.le_of_ble_eq_true rfl) (fun row h => by cases h) ?_
  have hty_s24 := ty_s24
  have hty_f26_2 := ty_f26_2
  have hty_c24 := ty_c24
  have hty_u24 := ty_u24
  have hty_a26 := ty_a26
  have hl1 : (ints t.burn).length = t.burn.length := by simp
  have hlen := goodT_len hg
  repeat' (first
      | (refine zaz ?_; first | (refine za4 ?_; refine zas _ rfl ?_) | (refine zak ?_; refine zaa _ rfl ?_) | (refine zbu ?_; first | (refine zb0 rfl rfl aO ?_) | (refine zbs _ rfl rfl rfl ?_) | (refine zbr aA rfl rfl ?_) | (refine zav _ rfl rfl rfl ?_)) | (refine zbb ?_; first | (refine zab aA rfl ?_) | (refine zae _ aA rfl rfl aE rfl ?_) | (refine zac _ aA rfl aZ aL ?_) | (refine zad _ aA rfl rfl aE aZ aL ?_)) | (refine zbz ?_; first | (refine zbf _ aA rfl aL ?_) | (refine zbg _ aA rfl rfl (by simp only [lx, Nat.reduceAdd]; first | done | rfl) ?_)) | (refine za9 ?_; first | (refine za8 aA rfl ?_) | (refine za6 aA rfl rfl ?_) | (refine za5 aA rfl ?_) | (refine za7 aA (evO_ok rfl) ?_) | (refine zbx _ _ aA rfl (lookM (by rfl)) rfl (lookM (by rfl)) rfl aN ⟨rfl, rfl, by decide, by decide⟩ (by first | rfl | omega | (simp; done) | (simp; omega) | fail) ⟨by first | (simp only [List.length_cons, List.length_nil]; omega) | omega | fail, by decide⟩ rfl (by first | (first | (simp only [lx, Nat.reduceAdd]; first | done | rfl) | fail) | rfl) aP ?_) | (refine zbw _ _ aA rfl rfl (lookM (by rfl)) ⟨rfl, by decide⟩ aN (by first | exact Nat.succ_pos _ | omega | (simp; done)) ⟨by first | (simp only [List.length_cons, List.length_nil]; omega) | omega | fail, by decide⟩ rfl rfl aP ?_) | (refine zbv _ aA rfl rfl (lookM (by rfl)) ⟨rfl, by decide⟩ aN ⟨by first | (simp only [List.length_cons, List.length_nil]; omega) | omega | fail, by decide⟩ rfl aP ?_) | (refine zbl _ aA rfl rfl rfl ⟨rfl, rfl, rfl, by decide, by decide⟩ (by first | rfl | (simp; done) | fail) ⟨by omega, by decide⟩ rfl aL (by first | (rw [Nat.zero_add]) | rfl) ?_)) | (refine zal aA rfl rfl rfl ?_) | (refine zbt _ _ rfl rfl rfl rfl ?_) | (refine zar (hK _ _ (.inl rfl) ?_); clear hK K) | (refine zar (hK _ _ (.inr (by kernel_rfl)) ?_); clear hK K))
      | (refine za3 ?_; first | (refine zbk ?_) | (refine zaf (fun K hK => ?_)) | (refine zap ?_) | (refine za0 ?_) | (refine zbj ?_) | (refine za1 ?_) | (refine zbe ?_; first | (refine zat rfl aD ?_) | (refine zau rfl aD ?_) | (refine zay rfl (fun h => ?_) (fun h => ?_) <;> (have h' := h; (try simp only [sx] at h')))))
      | (refine za2 ?_) | (refine zag ?_) | (refine zaj ?_) | (refine zao ?_) | (refine zam ?_) | (refine zan ?_) | (refine zaq rfl ?_) | (refine zah ?_) | (refine zai ?_) | (refine zbi ?_))
  refine zcd [1, 2] [] (fun q : Nat × Nat × List (List PV) => [(5, .osl (1001, 0) 0 q.2.1), (6, .int .i64 q.1)]) (fun q : Nat × Nat × List (List PV) => [((1001, 0), some ⟨3, 1, q.2.2, false⟩)]) (fun q : Nat × Nat × List (List PV) => q.1 ≤ t.burn.length ∧ q.2.2 = ints (cellsL q.1 (nearP t c)) ∧ q.2.2.length = q.2.1) (fun q : Nat × Nat × List (List PV) => t.burn.length - q.1) ((0, 0, [])) rfl rfl (fun _ => rfl) (fun _ => rfl) rfl aW ⟨by simp, by simp [cellsL], rfl⟩ (fun q hq => ?_)
  obtain ⟨i, m, es⟩ := q
  obtain ⟨hi1, hi2, hl⟩ := hq
  simp only at hi1 hi2 hl
  have hle : es.length ≤ i := by rw [hi2, ints_len]; exact cellsL_len i _
  dsimp only
  rcases Nat.lt_or_ge i t.burn.length with hlt | hge
  · have kA := k_l2Apart t c i hg hc ⟨by omega, by omega⟩
    repeat' (first
      | (refine zaz ?_; first | (refine za4 ?_; refine zas _ rfl ?_) | (refine zak ?_; refine zaa _ rfl ?_) | (refine zbu ?_; first | (refine zb0 rfl rfl aO ?_) | (refine zbs _ rfl rfl rfl ?_) | (refine zbr aA rfl rfl ?_) | (refine zav _ rfl rfl rfl ?_)) | (refine zbb ?_; first | (refine zab aA rfl ?_) | (refine zae _ aA rfl rfl aE rfl ?_) | (refine zac _ aA rfl aZ aL ?_) | (refine zad _ aA rfl rfl aE aZ aL ?_)) | (refine zbz ?_; first | (refine zbf _ aA rfl aL ?_) | (refine zbg _ aA rfl rfl (by simp only [lx, Nat.reduceAdd]; first | done | rfl) ?_)) | (refine za9 ?_; first | (refine zbc true (kA) rfl rfl rfl aS rfl aH ?_; simp only [cl]) | (refine za8 aA rfl ?_) | (refine za6 aA rfl rfl ?_) | (refine za5 aA rfl ?_) | (refine za7 aA (evO_ok rfl) ?_) | (refine zbx _ _ aA rfl (lookM (by rfl)) rfl (lookM (by rfl)) rfl aN ⟨rfl, rfl, by decide, by decide⟩ (by first | rfl | omega | (simp; done) | (simp; omega) | fail) ⟨by first | (simp only [List.length_cons, List.length_nil]; omega) | omega | fail, by decide⟩ rfl (by first | (first | (simp only [lx, Nat.reduceAdd]; first | done | rfl) | fail) | rfl) aP ?_) | (refine zbw _ _ aA rfl rfl (lookM (by rfl)) ⟨rfl, by decide⟩ aN (by first | exact Nat.succ_pos _ | omega | (simp; done)) ⟨by first | (simp only [List.length_cons, List.length_nil]; omega) | omega | fail, by decide⟩ rfl rfl aP ?_) | (refine zbv _ aA rfl rfl (lookM (by rfl)) ⟨rfl, by decide⟩ aN ⟨by first | (simp only [List.length_cons, List.length_nil]; omega) | omega | fail, by decide⟩ rfl aP ?_) | (refine zbl _ aA rfl rfl rfl ⟨rfl, rfl, rfl, by decide, by decide⟩ (by first | rfl | (simp; done) | fail) ⟨by omega, by decide⟩ rfl aL (by first | (rw [Nat.zero_add]) | rfl) ?_)) | (refine zal aA rfl rfl rfl ?_) | (refine zbt _ _ rfl rfl rfl rfl ?_) | (refine zar (hK _ _ (.inl rfl) ?_); clear hK K) | (refine zar (hK _ _ (.inr (by kernel_rfl)) ?_); clear hK K))
      | (refine za3 ?_; first | (refine zbk ?_) | (refine zaf (fun K hK => ?_)) | (refine zap ?_) | (refine za0 ?_) | (refine zbj ?_) | (refine za1 ?_) | (refine zbe ?_; first | (refine zat rfl aD ?_) | (refine zau rfl aD ?_) | (refine zay rfl (fun h => ?_) (fun h => ?_) <;> (have h' := h; (try simp only [sx] at h')))))
      | (refine za2 ?_) | (refine zag ?_) | (refine zaj ?_) | (refine zao ?_) | (refine zam ?_) | (refine zan ?_) | (refine zaq rfl ?_) | (refine zah ?_) | (refine zai ?_) | (refine zbi ?_))
    · refine zb6 (i + 1, m + 1, es ++ [[.int .i64 i]]) rfl aW ⟨by simp only; omega, ?_, by simp [hl]⟩ (by simp only; omega)
      simp only [cellsL_t (show nearP t c i = true by assumption), ints_snoc, hi2]
    · refine zb6 (i + 1, m, es) rfl aW ⟨by simp only; omega, ?_, hl⟩ (by simp only; omega)
      simp only [cellsL_f (show nearP t c i = false by assumption), hi2]
  · have : i = t.burn.length := by omega
    subst this
    repeat' (first
      | (refine zaz ?_; first | (refine za4 ?_; refine zas _ rfl ?_) | (refine zak ?_; refine zaa _ rfl ?_) | (refine zbu ?_; first | (refine zb0 rfl rfl aO ?_) | (refine zbs _ rfl rfl rfl ?_) | (refine zbr aA rfl rfl ?_) | (refine zav _ rfl rfl rfl ?_)) | (refine zbb ?_; first | (refine zab aA rfl ?_) | (refine zae _ aA rfl rfl aE rfl ?_) | (refine zac _ aA rfl aZ aL ?_) | (refine zad _ aA rfl rfl aE aZ aL ?_)) | (refine zbz ?_; first | (refine zbf _ aA rfl aL ?_) | (refine zbg _ aA rfl rfl (by simp only [lx, Nat.reduceAdd]; first | done | rfl) ?_)) | (refine za9 ?_; first | (refine za8 aA rfl ?_) | (refine za6 aA rfl rfl ?_) | (refine za5 aA rfl ?_) | (refine za7 aA (evO_ok rfl) ?_) | (refine zbx _ _ aA rfl (lookM (by rfl)) rfl (lookM (by rfl)) rfl aN ⟨rfl, rfl, by decide, by decide⟩ (by first | rfl | omega | (simp; done) | (simp; omega) | fail) ⟨by first | (simp only [List.length_cons, List.length_nil]; omega) | omega | fail, by decide⟩ rfl (by first | (first | (simp only [lx, Nat.reduceAdd]; first | done | rfl) | fail) | rfl) aP ?_) | (refine zbw _ _ aA rfl rfl (lookM (by rfl)) ⟨rfl, by decide⟩ aN (by first | exact Nat.succ_pos _ | omega | (simp; done)) ⟨by first | (simp only [List.length_cons, List.length_nil]; omega) | omega | fail, by decide⟩ rfl rfl aP ?_) | (refine zbv _ aA rfl rfl (lookM (by rfl)) ⟨rfl, by decide⟩ aN ⟨by first | (simp only [List.length_cons, List.length_nil]; omega) | omega | fail, by decide⟩ rfl aP ?_) | (refine zbl _ aA rfl rfl rfl ⟨rfl, rfl, rfl, by decide, by decide⟩ (by first | rfl | (simp; done) | fail) ⟨by omega, by decide⟩ rfl aL (by first | (rw [Nat.zero_add]) | rfl) ?_)) | (refine zal aA rfl rfl rfl ?_) | (refine zbt _ _ rfl rfl rfl rfl ?_) | (refine zar (hK _ _ (.inl rfl) ?_); clear hK K) | (refine zar (hK _ _ (.inr (by kernel_rfl)) ?_); clear hK K))
      | (refine za3 ?_; first | (refine zbk ?_) | (refine zaf (fun K hK => ?_)) | (refine zap ?_) | (refine za0 ?_) | (refine zbj ?_) | (refine za1 ?_) | (refine zbe ?_; first | (refine zat rfl aD ?_) | (refine zau rfl aD ?_) | (refine zay rfl (fun h => ?_) (fun h => ?_) <;> (have h' := h; (try simp only [sx] at h')))))
      | (refine za2 ?_) | (refine zag ?_) | (refine zaj ?_) | (refine zao ?_) | (refine zam ?_) | (refine zan ?_) | (refine zaq rfl ?_) | (refine zah ?_) | (refine zai ?_) | (refine zbi ?_))
    exact ret_list rfl (zbh (by rfl)) (by rfl) (by decide) hl.symm (by rw [hi2]; exact ints_flat _) hi2
theorem k_distance (a b : Int) (ha : -1000 ≤ a ∧ a ≤ 1000) (hb : -1000 ≤ b ∧ b ≤ 1000) : Con Try.prog 115 [.int .i64 a, .int .i64 b] (.int .i64 (absI (a - b))) := by
  intro al
  refine zba hmix Try.func115 rfl (by kernel_rfl) (by kernel_rfl) (Nat.le_of_ble_eq_true rfl) (fun row h => by cases h) ?_
  repeat' (first
      | (refine zaz ?_; first | (refine za4 ?_; refine zas _ rfl ?_) | (refine zak ?_; refine zaa _ rfl ?_) | (refine zbu ?_; first | (refine zch rfl rfl aO ?_) | (refine zbs _ rfl rfl rfl ?_)) | (refine za9 ?_; refine x_max rfl rfl ?_) | (refine zar (hK _ _ (.inl rfl) ?_); clear hK K) | (refine zar (hK _ _ (.inr (by kernel_rfl)) ?_); clear hK K))
      | (refine za3 ?_; first | (refine zbk ?_) | (refine zaf (fun K hK => ?_)) | (refine zap ?_) | (refine za0 ?_) | (refine zbj ?_) | (refine za1 ?_))
      | (refine za2 ?_) | (refine zag ?_) | (refine zaj ?_) | (refine zao ?_) | (refine zam ?_) | (refine zan ?_) | (refine zaq rfl ?_) | (refine zah ?_) | (refine zai ?_) | (refine zbi ?_))
  exact ret_int rfl (zbh rfl) (by simp only [absI]; omega)
theorem k_apart (t : Terrain) (a b : Int) (hg : GoodT t) (ha : IsCell t a) (hb : IsCell t b) : Con Try.prog 60 [.agg t.pv, .int .i64 a, .int .i64 b] (.int .i64 (apart t a b)) := by
  intro al
  refine zba hmix Try.func60 rfl (by kernel_rfl) (by kernel_rfl) (Nat.le_of_ble_eq_true rfl) (fun row h => by cases h) ?_
  have hty_a26 := ty_a26
  have hd := hg.1
  unfold Dims at hd
  have p1 := cell_place hg ha
  have p2 := cell_place hg hb
  dsimp only [colOf, rowOf] at p1 p2
  have hca := ha
  have hcb := hb
  unfold IsCell at hca hcb
  have hl := goodT_len hg
  repeat' (first
      | (refine zaz ?_; first | (refine za4 ?_; refine zas _ rfl ?_) | (refine zak ?_; refine zaa _ rfl ?_) | (refine zbb ?_; first | (refine zab aA rfl ?_) | (refine zae _ aA rfl rfl aE rfl ?_) | (refine zac _ aA rfl aZ aL ?_) | (refine zad _ aA rfl rfl aE aZ aL ?_)) | (refine za9 ?_; first | (refine zbc true (k_column t a hd.1.1 aO) rfl rfl rfl aS rfl aH ?_; simp only [cl]) | (refine zbc true (k_column t b hd.1.1 aO) rfl rfl rfl aS rfl aH ?_; simp only [cl]) | (refine zbc true (k_row t a hd.1.1 aO) rfl rfl rfl aS rfl aH ?_; simp only [cl]) | (refine zbc true (k_row t b hd.1.1 aO) rfl rfl rfl aS rfl aH ?_; simp only [cl]) | (refine zbc true (k_distance (a % t.width) (b % t.width) aO aO) rfl rfl rfl aS rfl aH ?_; simp only [cl]) | (refine zbc true (k_distance (a / t.width) (b / t.width) aO aO) rfl rfl rfl aS rfl aH ?_; simp only [cl]) | (refine x_max rfl rfl ?_)) | (refine zbt _ _ rfl rfl rfl rfl ?_) | (refine zar (hK _ _ (.inl rfl) ?_); clear hK K) | (refine zar (hK _ _ (.inr (by kernel_rfl)) ?_); clear hK K))
      | (refine za3 ?_; first | (refine zbk ?_) | (refine zaf (fun K hK => ?_)) | (refine zap ?_) | (refine za0 ?_) | (refine zbj ?_) | (refine za1 ?_))
      | (refine za2 ?_) | (refine zag ?_) | (refine zaj ?_) | (refine zao ?_) | (refine zam ?_) | (refine zan ?_) | (refine zaq rfl ?_) | (refine zah ?_) | (refine zai ?_) | (refine zbi ?_))
  exact ret_int rfl (zbh rfl) rfl
end Go.Vs
set_option linter.unusedVariables false
set_option linter.unusedSimpArgs false
set_option maxRecDepth 100000
set_option maxHeartbeats 4000000
namespace Go.Vs
theorem sumBy_set {α : Type} (g : α → Int) {l : List α} : ∀ {i : Nat} {a : α} (x : α), l[i]? = some a → sumBy g (l.set i x) = sumBy g l - g a + g x := by
  induction l with
  | nil => intro i a x h; simp at h
  | cons y l ih =>
    intro i a x h
    cases i with
    | zero =>
      simp only [List.getElem?_cons_zero, Option.some.injEq] at h
      subst h
      rw [List.set_cons_zero, sumBy_cons, sumBy_cons]
      omega
    | succ i =>
      rw [List.set_cons_succ, sumBy_cons, sumBy_cons, ih x (by simpa using h)]
      omega
theorem ints_set (T : List Int) (i : Nat) (x : Int) : ints (T.set i x) = (ints T).set i [PV.int .i64 x] := by simp [ints, List.map_set]
end Go.Vs
set_option linter.unusedVariables false
set_option linter.unusedSimpArgs false
set_option maxRecDepth 100000
set_option maxHeartbeats 4000000
namespace Go.Vs
open Go.Proofs
attribute [local irreducible] exec vwp thenQ blkQ loopQ RetPost
@[reducible] def bools (F : List Bool) : List (List PV) := F.map fun b => [PV.bool b]
theorem bools_set (F : List Bool) (i : Nat) (x : Bool) : bools (F.set i x) = (bools F).set i [PV.bool x] := by simp [bools, List.map_set]
def fv (F : List Bool) (c : Int) : Bool := F.getD c.toNat false
theorem fv_at {F : List Bool} {c : Int} (h : c.toNat < F.length) : (bools F)[c.toNat]? = some [PV.bool (fv F c)] := by
  obtain ⟨a, ha⟩ := get_ex h
  have : fv F c = a := by simp [fv, List.getD_eq_getElem?_getD, ha]
  simp [bools, ha, this]
theorem fv_set {F : List Bool} {i : Nat} (x : Bool) (h : i < F.length) (c : Int) : fv (F.set i x) c = if c.toNat = i then x else fv F c := by
  unfold fv
  rw [List.getD_eq_getElem?_getD, List.getD_eq_getElem?_getD, List.getElem?_set]
  by_cases he : i = c.toNat
  · simp [he, he ▸ h]
  · simp [he, Ne.symm he]
@[reducible] def gfree (f : Bool) : Int := if f = true then 0 else 1
def freeN (F : List Bool) : Int := sumBy gfree F
theorem freeN_ge (F : List Bool) : 0 ≤ freeN F := by
  have := sumBy_bound gfree 1 F fun y _ => by simp only [gfree]; split <;> omega
  unfold freeN; omega
theorem freeN_set {F : List Bool} {i : Nat} (h : F[i]? = some false) : freeN (F.set i true) = freeN F - 1 := by
  rw [freeN, sumBy_set gfree true h, freeN]
  simp [gfree]
inductive Fl (t : Terrain) (P : Int → Int → Prop) (src : List Int) : Int → Prop
  | src {s : Int} : s ∈ src → Fl t P src s
  | step {a c : Int} : Fl t P src a → IsCell t c → P a c → Fl t P src c
structure FlI (t : Terrain) (P : Int → Int → Bool) (src W : List Int) (F : List Bool) : Prop where
  len : F.length = t.burn.length
  snd : ∀ a, IsCell t a → fv F a = true → Fl t (fun a c => P a c = true) src a
  que : ∀ a ∈ W, IsCell t a ∧ fv F a = true
  src : ∀ s ∈ src, fv F s = true
def Clo (t : Terrain) (P : Int → Int → Bool) (W : List Int) (F : List Bool) : Prop := ∀ a c, IsCell t a → IsCell t c → fv F a = true → a ∉ W → P a c = true → fv F c = true
def CloX (t : Terrain) (P : Int → Int → Bool) (W : List Int) (F : List Bool) (x : Int) (i : Nat) : Prop := ∀ a c, IsCell t a → IsCell t c → fv F a = true → a ∉ W → (a = x → c < i) → P a c = true → fv F c = true
section
variable {t : Terrain} {P : Int → Int → Bool} {src W : List Int} {F : List Bool} {x : Int} {i : Nat}
theorem FlI.pop (h : FlI t P src (x :: W) F) : FlI t P src W F := ⟨h.len, h.snd, fun a ha => h.que a (List.mem_cons_of_mem _ ha), h.src⟩
theorem Clo.pop (h : Clo t P (x :: W) F) : CloX t P W F x 0 := fun a c ha hc hf hw hx hp => by
  by_cases e : a = x
  · have := hx e; have := hc.1; omega
  · exact h a c ha hc hf (fun hm => by rcases List.mem_cons.1 hm with h | h; exact e h; exact hw h) hp
theorem CloX.done (h : CloX t P W F x t.burn.length) : Clo t P W F := fun a c ha hc hf hw hp => h a c ha hc hf hw (fun _ => hc.2) hp
theorem CloX.skip (h : CloX t P W F x i) (hi : fv F i = true ∨ P x i = false) : CloX t P W F x (i + 1) := fun a c ha hc hf hw hx hp => by
  by_cases e : a = x ∧ c = i
  · obtain ⟨rfl, rfl⟩ := e
    rcases hi with hi | hi
    · exact hi
    · rw [hp] at hi; cases hi
  · exact h a c ha hc hf hw (fun h2 => by have := hx h2; have : c ≠ i := fun h3 => e ⟨h2, h3⟩; omega) hp
theorem fv_set2 (h : i < F.length) (c : Int) (hc : 0 ≤ c) : fv (F.set i true) c = true ↔ c = i ∨ fv F c = true := by
  rw [fv_set true h]
  split
  · exact ⟨fun _ => .inl aO, fun _ => rfl⟩
  · exact ⟨.inr, fun h => h.elim (fun h => by omega) id⟩
theorem FlI.push (h : FlI t P src W F) (hi : i < t.burn.length) (hx : IsCell t x) (hfx : fv F x = true) (hp : P x i = true) (hsrc : ∀ s ∈ src, IsCell t s) : FlI t P src (W ++ [(i : Int)]) (F.set i true) := by
  have hiF : i < F.length := by rw [h.len]; exact hi
  have hci : IsCell t (i : Int) := ⟨by omega, by omega⟩
  refine ⟨by simp [h.len], fun a ha hf => ?_, fun a ha => ?_, fun s hs => ?_⟩
  · rcases (fv_set2 hiF a ha.1).1 hf with e | e
    · subst e
      exact .step (h.snd x hx hfx) hci hp
    · exact h.snd a ha e
  · rcases List.mem_append.1 ha with h1 | h1
    · exact ⟨(h.que a h1).1, (fv_set2 hiF a (h.que a h1).1.1).2 (.inr (h.que a h1).2)⟩
    · rw [List.mem_singleton] at h1
      subst h1
      exact ⟨hci, (fv_set2 hiF _ aO).2 (.inl rfl)⟩
  · exact (fv_set2 hiF s (hsrc s hs).1).2 (.inr (h.src s hs))
theorem CloX.push (h : CloX t P W F x i) (hi : i < F.length) : CloX t P (W ++ [(i : Int)]) (F.set i true) x (i + 1) := fun a c ha hc hf hw hx hp => by
  by_cases e : c = i
  · exact (fv_set2 hi c hc.1).2 (.inl e)
  · have hai : a ≠ i := fun e2 => hw (by rw [e2]; simp)
    have hfa : fv F a = true := by
      rcases (fv_set2 hi a ha.1).1 hf with h1 | h1
      · exact absurd h1 hai
      · exact h1
    exact (fv_set2 hi c hc.1).2 (.inr (h a c ha hc hfa (fun hm => hw (List.mem_append_left _ hm)) (fun h2 => by have := hx h2; omega) hp))
theorem FlI.done (h : FlI t P src [] F) (hc : Clo t P [] F) (a : Int) (ha : IsCell t a) (hs : ∀ s ∈ src, IsCell t s) : fv F a = true ↔ Fl t (fun a c => P a c = true) src a := by
  refine ⟨h.snd a ha, fun hf => ?_⟩
  have key : ∀ a, Fl t (fun a c => P a c = true) src a → IsCell t a ∧ fv F a = true := by
    intro a hf
    induction hf with
    | src hm => exact ⟨hs _ hm, h.src _ hm⟩
    | step _ h2 h3 ih => exact ⟨h2, hc _ _ ih.1 h2 ih.2 (by simp) h3⟩
  exact (key a hf).2
end
open Classical in
noncomputable def flL (t : Terrain) (P : Int → Int → Bool) (src : List Int) : List Int := cellsL t.burn.length fun c => decide (Fl t (fun a c => P a c = true) src (c : Int))
theorem flL_mem {t : Terrain} {P : Int → Int → Bool} {src : List Int} {c : Int} : c ∈ flL t P src ↔ IsCell t c ∧ Fl t (fun a c => P a c = true) src c := by
  classical
  unfold flL
  rw [cellsL_mem]
  constructor
  · rintro ⟨i, h1, h2, rfl⟩
    exact ⟨⟨by omega, by omega⟩, of_decide_eq_true h2⟩
  · rintro ⟨h1, h2⟩
    have h3 := h1.1
    have h4 := h1.2
    exact ⟨c.toNat, by omega, by rw [show ((c.toNat : Nat) : Int) = c by omega]; exact decide_eq_true h2, by omega⟩
theorem flL_eq {t : Terrain} {P : Int → Int → Bool} {src : List Int} {F : List Bool} (h : FlI t P src [] F) (hc : Clo t P [] F) (hs : ∀ s ∈ src, IsCell t s) : cellsL t.burn.length (fun c => fv F (c : Int)) = flL t P src := by
  classical
  unfold flL
  refine cellsL_congr fun i hi => ?_
  have := h.done hc (i : Int) ⟨by omega, by omega⟩ hs
  rw [Bool.eq_iff_iff]
  simp only [decide_eq_true_eq]
  exact this
theorem flL_len {t : Terrain} {P : Int → Int → Bool} {src : List Int} : (flL t P src).length ≤ t.burn.length := cellsL_len _ _
theorem k_flood1 (F : List Bool) (c : Nat) (hc : c < F.length) : Con Try.prog 158 [.int .i64 (c : Int), .ptr [.list 1 (bools F)]] (.bool (fv F (c : Int))) := by
  intro al
  refine zba hmix Try.func158 rfl (by kernel_rfl) (by kernel_rfl) (Nat.le_of_ble_eq_true rfl) (fun row h => by cases h) ?_
  have hty_c113 := ty_c113
  have hty_s113 := ty_s113
  have hty_c4 := ty_c4
  have hx := fv_at (F := F) (c := (c : Int)) (by simpa using hc)
  have hl : (bools F).length = F.length := by simp
  repeat' (first
      | (refine zaz ?_; first | (refine za4 ?_; refine zas _ rfl ?_) | (refine zak ?_; refine zaa _ rfl ?_) | (refine zbb ?_; first | (refine zab aA rfl ?_) | (refine zae _ aA rfl rfl aE rfl ?_) | (refine zac _ aA rfl aZ aL ?_) | (refine zad _ aA rfl rfl aE aZ aL ?_)) | (refine zbd ?_; first | (refine zax _ aA rfl rfl aO aA ?_) | (refine zaw _ aA rfl rfl rfl rfl aO aO (by first | (rw [Nat.zero_add, Int.toNat_natCast]) | (rw [Nat.zero_add]) | rfl) ?_)) | (refine zar (hK _ _ (.inl rfl) ?_); clear hK K) | (refine zar (hK _ _ (.inr (by kernel_rfl)) ?_); clear hK K))
      | (refine za3 ?_; first | (refine zbk ?_) | (refine zaf (fun K hK => ?_)) | (refine zap ?_) | (refine za0 ?_) | (refine zbj ?_) | (refine za1 ?_))
      | (refine za2 ?_) | (refine zag ?_) | (refine zaj ?_) | (refine zao ?_) | (refine zam ?_) | (refine zan ?_) | (refine zaq rfl ?_) | (refine zah ?_) | (refine zai ?_) | (refine zbi ?_))
  all_goals first
    | (exfalso; omega)
    | exact zb2 rfl (zbh rfl) rfl
theorem k_flood (t : Terrain) (src : List Int) (g : FuncId) (ca : List (List PV)) (P : Int → Int → Bool) (hs : ∀ s ∈ src, IsCell t s) (hl : src.length ≤ 1000000) (hn : t.burn.length ≤ 1000000)
    (hg : ∀ a c, IsCell t a → IsCell t c → Con Try.prog g (.int .i64 a :: .int .i64 c :: ca.map PV.ptr) (.bool (P a c))) :
    Con Try.prog 126 [.agg t.pv, .list 1 (ints src), .fn g [] (ca.map PV.ptr)] (.olist 3 1 (ints (flL t P src))) := by
  intro al
  refine zba hmix Try.func126 rfl (by kernel_rfl) (by kernel_rfl) (Nat.le_of_ble_eq_true rfl) (fun row h => by cases h) ?_
  have hty_f26_2 := ty_f26_2
  have hty_c24 := ty_c24
  have hty_u24 := ty_u24
  have hty_s24 := ty_s24
  have hty_s113 := ty_s113
  have hty_z4 := ty_z4
  have hty_z113 := ty_z113
  have hty_t113 := ty_t113
  have hty_c3 := ty_c3
  have hty_c113 := ty_c113
  have hty_t4 := ty_t4
  have hty_c4 := ty_c4
  have hty_a26 := ty_a26
  have hl1 : (ints t.burn).length = t.burn.length := by simp
  have hl2 : (ints src).length = src.length := by simp
  have kC := k_copyOfInt src aO
  repeat' (first
      | (refine zaz ?_; first | (refine za4 ?_; refine zas _ rfl ?_) | (refine zak ?_; refine zaa _ rfl ?_) | (refine zbu ?_; first | (refine zb0 rfl rfl aO ?_) | (refine zbs _ rfl rfl rfl ?_) | (refine zav _ rfl rfl rfl ?_)) | (refine g_un ?_; first | (refine zb7 rfl ?_) | (refine zb8 rfl aO ?_)) | (refine zbb ?_; first | (refine zab aA rfl ?_) | (refine zae _ aA rfl rfl aE rfl ?_) | (refine zac _ aA rfl aZ aL ?_) | (refine zad _ aA rfl rfl aE aZ aL ?_)) | (refine zbz ?_; first | (refine zbf _ aA rfl aL ?_) | (refine zbg _ aA rfl rfl (by simp only [lx, Nat.reduceAdd]; first | done | rfl) ?_)) | (refine zbd ?_; first | (refine zax _ aA rfl rfl aO aA ?_) | (refine zaw _ aA rfl rfl rfl rfl aO aO (by first | (rw [Nat.zero_add, Int.toNat_natCast]) | (rw [Nat.zero_add]) | rfl) ?_)) | (refine zb3 ?_; first | (refine zbn rfl aD rfl ?_) | (refine zbp rfl aD ?_) | (refine zbm rfl aD ?_) | (refine zbq rfl aD rfl ?_)) | (refine zby ?_; first | (refine zb4 rfl rfl aD ?_) | (refine zcc rfl rfl aD ?_) | (refine zcb rfl rfl ?_) | (refine zbo rfl rfl (fun h => ?_) (fun h => ?_) <;> (have h' := h; (try simp only [sx] at h')))) | (refine za9 ?_; first | (refine zbc true (kC) rfl rfl rfl aS rfl aH ?_; simp only [cl]) | (refine za8 aA rfl ?_) | (refine za6 aA rfl rfl ?_) | (refine za5 aA rfl ?_) | (refine za7 aA (evO_ok rfl) ?_) | (refine zbx _ _ aA rfl (lookM (by rfl)) rfl (lookM (by rfl)) rfl aN ⟨rfl, rfl, by decide, by decide⟩ (by first | rfl | omega | (simp; done) | (simp; omega) | fail) ⟨by first | (simp only [List.length_cons, List.length_nil]; omega) | omega | fail, by decide⟩ rfl (by first | (first | (simp only [lx, Nat.reduceAdd]; first | done | rfl) | fail) | rfl) aP ?_) | (refine zbw _ _ aA rfl rfl (lookM (by rfl)) ⟨rfl, by decide⟩ aN (by first | exact Nat.succ_pos _ | omega | (simp; done)) ⟨by first | (simp only [List.length_cons, List.length_nil]; omega) | omega | fail, by decide⟩ rfl rfl aP ?_) | (refine zbv _ aA rfl rfl (lookM (by rfl)) ⟨rfl, by decide⟩ aN ⟨by first | (simp only [List.length_cons, List.length_nil]; omega) | omega | fail, by decide⟩ rfl aP ?_) | (refine zbl _ aA rfl rfl rfl ⟨rfl, rfl, rfl, by decide, by decide⟩ (by first | rfl | (simp; done) | fail) ⟨by omega, by decide⟩ rfl aL (by first | (rw [Nat.zero_add]) | rfl) ?_)) | (refine zcn ?_; first | (refine zcj _ aA rfl rfl rfl aO (by first | assumption | rfl) ?_) | (refine zci _ _ aA rfl (lookM (by rfl)) rfl rfl rfl aO (by first | (simp only [Nat.zero_add, Int.toNat_natCast]; exact rfl) | rfl) (by first | (simp only [Nat.sub_zero, Int.toNat_natCast]; exact rfl) | rfl) ?_) | (refine zcl aA rfl rfl rfl aO rfl ?_)) | (refine zck _ aA rfl rfl rfl aO (by first | exact List.take_of_length_le aO | rfl) ?_) | (refine zal aA rfl rfl rfl ?_) | (refine zbt _ _ rfl rfl rfl rfl ?_) | (refine zb9 _ aA rfl ?_) | (refine zb5 aA rfl ?_) | (refine zcm _ _ rfl rfl ?_) | (refine zb1 _ _ _ rfl rfl aE (by first | assumption | (exact TAgg.size aA)) rfl rfl rfl aZ rfl aL (by first | (first | (simp only [lx, Nat.reduceAdd]; first | done | rfl) | fail) | rfl) ?_) | (refine x_make aA aA rfl rfl rfl aO rfl ?_) | (refine zar (hK _ _ (.inl rfl) ?_); clear hK K) | (refine zar (hK _ _ (.inr (by kernel_rfl)) ?_); clear hK K))
      | (refine za3 ?_; first | (refine zbk ?_) | (refine zaf (fun K hK => ?_)) | (refine zap ?_) | (refine za0 ?_) | (refine zbj ?_) | (refine za1 ?_) | (refine zbe ?_; first | (refine zat rfl aD ?_) | (refine zau rfl aD ?_) | (refine zay rfl (fun h => ?_) (fun h => ?_) <;> (have h' := h; (try simp only [sx] at h')))))
      | (refine za2 ?_) | (refine zag ?_) | (refine zaj ?_) | (refine zao ?_) | (refine zam ?_) | (refine zan ?_) | (refine zaq rfl ?_) | (refine zah ?_) | (refine zai ?_) | (refine zbi ?_))
  refine zcd [2, 3, 7, 8, 19, 20] [(16, 0)] (fun q : Nat × List (List PV) × List Bool => [(21, .int .i64 q.1)]) (fun q : Nat × List (List PV) × List Bool => [((16, 0), some ⟨4, 1, q.2.1, false⟩)]) (fun q : Nat × List (List PV) × List Bool => q.1 ≤ src.length ∧ q.2.1 = bools q.2.2 ∧ q.2.2.length = t.burn.length ∧ ∀ c, IsCell t c → (fv q.2.2 c = true ↔ c ∈ src.take q.1)) (fun q : Nat × List (List PV) × List Bool => src.length - q.1) ((0, List.replicate (ints t.burn).length [.bool false], List.replicate t.burn.length false)) rfl rfl (fun _ => rfl) (fun _ => rfl) rfl aW ⟨by simp, by simp [bools], by simp, fun c hc => by simp [fv, List.getD_eq_getElem?_getD, List.getElem?_replicate]; try (split <;> rfl)⟩ (fun q hq => ?_)
  obtain ⟨i, es, F⟩ := q
  obtain ⟨hi, hes, hF, hf⟩ := hq
  simp only at hi hes hF hf
  dsimp only
  have hbl : es.length = t.burn.length := by rw [hes, List.length_map, hF]
  rcases Nat.lt_or_ge i src.length with hlt | hge
  · obtain ⟨s, hgs⟩ := get_ex hlt
    have hx := ints_at hgs
    have hcs := hs s (get_mem hgs)
    have hcs' := hcs
    unfold IsCell at hcs'
    have hfx := fv_at (F := F) (c := s) aO
    rw [← hes] at hfx
    repeat' (first
      | (refine zaz ?_; first | (refine za4 ?_; refine zas _ rfl ?_) | (refine zak ?_; refine zaa _ rfl ?_) | (refine zbu ?_; first | (refine zb0 rfl rfl aO ?_) | (refine zbs _ rfl rfl rfl ?_) | (refine zav _ rfl rfl rfl ?_)) | (refine g_un ?_; first | (refine zb7 rfl ?_) | (refine zb8 rfl aO ?_)) | (refine zbb ?_; first | (refine zab aA rfl ?_) | (refine zae _ aA rfl rfl aE rfl ?_) | (refine zac _ aA rfl aZ aL ?_) | (refine zad _ aA rfl rfl aE aZ aL ?_)) | (refine zbz ?_; first | (refine zbf _ aA rfl aL ?_) | (refine zbg _ aA rfl rfl (by simp only [lx, Nat.reduceAdd]; first | done | rfl) ?_)) | (refine zbd ?_; first | (refine zax _ aA rfl rfl aO aA ?_) | (refine zaw _ aA rfl rfl rfl rfl aO aO (by first | (rw [Nat.zero_add, Int.toNat_natCast]) | (rw [Nat.zero_add]) | rfl) ?_)) | (refine zb3 ?_; first | (refine zbn rfl aD rfl ?_) | (refine zbp rfl aD ?_) | (refine zbm rfl aD ?_) | (refine zbq rfl aD rfl ?_)) | (refine zby ?_; first | (refine zb4 rfl rfl aD ?_) | (refine zcc rfl rfl aD ?_) | (refine zcb rfl rfl ?_) | (refine zbo rfl rfl (fun h => ?_) (fun h => ?_) <;> (have h' := h; (try simp only [sx] at h')))) | (refine za9 ?_; first | (refine za8 aA rfl ?_) | (refine za6 aA rfl rfl ?_) | (refine za5 aA rfl ?_) | (refine za7 aA (evO_ok rfl) ?_) | (refine zbx _ _ aA rfl (lookM (by rfl)) rfl (lookM (by rfl)) rfl aN ⟨rfl, rfl, by decide, by decide⟩ (by first | rfl | omega | (simp; done) | (simp; omega) | fail) ⟨by first | (simp only [List.length_cons, List.length_nil]; omega) | omega | fail, by decide⟩ rfl (by first | (first | (simp only [lx, Nat.reduceAdd]; first | done | rfl) | fail) | rfl) aP ?_) | (refine zbw _ _ aA rfl rfl (lookM (by rfl)) ⟨rfl, by decide⟩ aN (by first | exact Nat.succ_pos _ | omega | (simp; done)) ⟨by first | (simp only [List.length_cons, List.length_nil]; omega) | omega | fail, by decide⟩ rfl rfl aP ?_) | (refine zbv _ aA rfl rfl (lookM (by rfl)) ⟨rfl, by decide⟩ aN ⟨by first | (simp only [List.length_cons, List.length_nil]; omega) | omega | fail, by decide⟩ rfl aP ?_) | (refine zbl _ aA rfl rfl rfl ⟨rfl, rfl, rfl, by decide, by decide⟩ (by first | rfl | (simp; done) | fail) ⟨by omega, by decide⟩ rfl aL (by first | (rw [Nat.zero_add]) | rfl) ?_)) | (refine zcn ?_; first | (refine zcj _ aA rfl rfl rfl aO (by first | assumption | rfl) ?_) | (refine zci _ _ aA rfl (lookM (by rfl)) rfl rfl rfl aO (by first | (simp only [Nat.zero_add, Int.toNat_natCast]; exact rfl) | rfl) (by first | (simp only [Nat.sub_zero, Int.toNat_natCast]; exact rfl) | rfl) ?_) | (refine zcl aA rfl rfl rfl aO rfl ?_)) | (refine zck _ aA rfl rfl rfl aO (by first | exact List.take_of_length_le aO | rfl) ?_) | (refine zal aA rfl rfl rfl ?_) | (refine zbt _ _ rfl rfl rfl rfl ?_) | (refine zb9 _ aA rfl ?_) | (refine zb5 aA rfl ?_) | (refine zcm _ _ rfl rfl ?_) | (refine zb1 _ _ _ rfl rfl aE (by first | assumption | (exact TAgg.size aA)) rfl rfl rfl aZ rfl aL (by first | (first | (simp only [lx, Nat.reduceAdd]; first | done | rfl) | fail) | rfl) ?_) | (refine x_make aA aA rfl rfl rfl aO rfl ?_) | (refine zar (hK _ _ (.inl rfl) ?_); clear hK K) | (refine zar (hK _ _ (.inr (by kernel_rfl)) ?_); clear hK K))
      | (refine za3 ?_; first | (refine zbk ?_) | (refine zaf (fun K hK => ?_)) | (refine zap ?_) | (refine za0 ?_) | (refine zbj ?_) | (refine za1 ?_) | (refine zbe ?_; first | (refine zat rfl aD ?_) | (refine zau rfl aD ?_) | (refine zay rfl (fun h => ?_) (fun h => ?_) <;> (have h' := h; (try simp only [sx] at h')))))
      | (refine za2 ?_) | (refine zag ?_) | (refine zaj ?_) | (refine zao ?_) | (refine zam ?_) | (refine zan ?_) | (refine zaq rfl ?_) | (refine zah ?_) | (refine zai ?_) | (refine zbi ?_))
    all_goals try (exfalso; omega)
    all_goals (refine zb6 (i + 1, es.set s.toNat [.bool true], F.set s.toNat true) rfl aW ⟨by simp only; omega, by simp only [bools_set, hes], by simp [hF], fun c hc => ?_⟩ (by simp only; omega))
    all_goals (simp only; rw [fv_set2 aO c hc.1, hf c hc, take_succ hgs, List.mem_append, List.mem_singleton])
    all_goals exact ⟨fun h => h.elim (fun h => .inr aO) .inl, fun h => h.elim .inr (fun h => .inl aO)⟩
  have hi0 : src.take i = src := take_all aO
  rw [hi0] at hf
  have hI0 : FlI t P src src F := ⟨hF, fun a ha h => .src ((hf a ha).1 h), fun a h => ⟨hs a h, (hf a (hs a h)).2 h⟩, fun s h => (hf s (hs s h)).2 h⟩
  have hC0 : Clo t P src F := fun a c ha hc h hw => absurd ((hf a ha).1 h) hw
  have hN0 : freeN F + src.length ≤ 2000000 := by
    have := sumBy_bound gfree 1 F fun y _ => by simp only [gfree]; split <;> omega
    unfold freeN
    omega
  repeat' (first
      | (refine zaz ?_; first | (refine za4 ?_; refine zas _ rfl ?_) | (refine zak ?_; refine zaa _ rfl ?_) | (refine zbu ?_; first | (refine zb0 rfl rfl aO ?_) | (refine zbs _ rfl rfl rfl ?_) | (refine zav _ rfl rfl rfl ?_)) | (refine g_un ?_; first | (refine zb7 rfl ?_) | (refine zb8 rfl aO ?_)) | (refine zbb ?_; first | (refine zab aA rfl ?_) | (refine zae _ aA rfl rfl aE rfl ?_) | (refine zac _ aA rfl aZ aL ?_) | (refine zad _ aA rfl rfl aE aZ aL ?_)) | (refine zbz ?_; first | (refine zbf _ aA rfl aL ?_) | (refine zbg _ aA rfl rfl (by simp only [lx, Nat.reduceAdd]; first | done | rfl) ?_)) | (refine zbd ?_; first | (refine zax _ aA rfl rfl aO aA ?_) | (refine zaw _ aA rfl rfl rfl rfl aO aO (by first | (rw [Nat.zero_add, Int.toNat_natCast]) | (rw [Nat.zero_add]) | rfl) ?_)) | (refine zb3 ?_; first | (refine zbn rfl aD rfl ?_) | (refine zbp rfl aD ?_) | (refine zbm rfl aD ?_) | (refine zbq rfl aD rfl ?_)) | (refine zby ?_; first | (refine zb4 rfl rfl aD ?_) | (refine zcc rfl rfl aD ?_) | (refine zcb rfl rfl ?_) | (refine zbo rfl rfl (fun h => ?_) (fun h => ?_) <;> (have h' := h; (try simp only [sx] at h')))) | (refine za9 ?_; first | (refine za8 aA rfl ?_) | (refine za6 aA rfl rfl ?_) | (refine za5 aA rfl ?_) | (refine za7 aA (evO_ok rfl) ?_) | (refine zbx _ _ aA rfl (lookM (by rfl)) rfl (lookM (by rfl)) rfl aN ⟨rfl, rfl, by decide, by decide⟩ (by first | rfl | omega | (simp; done) | (simp; omega) | fail) ⟨by first | (simp only [List.length_cons, List.length_nil]; omega) | omega | fail, by decide⟩ rfl (by first | (first | (simp only [lx, Nat.reduceAdd]; first | done | rfl) | fail) | rfl) aP ?_) | (refine zbw _ _ aA rfl rfl (lookM (by rfl)) ⟨rfl, by decide⟩ aN (by first | exact Nat.succ_pos _ | omega | (simp; done)) ⟨by first | (simp only [List.length_cons, List.length_nil]; omega) | omega | fail, by decide⟩ rfl rfl aP ?_) | (refine zbv _ aA rfl rfl (lookM (by rfl)) ⟨rfl, by decide⟩ aN ⟨by first | (simp only [List.length_cons, List.length_nil]; omega) | omega | fail, by decide⟩ rfl aP ?_) | (refine zbl _ aA rfl rfl rfl ⟨rfl, rfl, rfl, by decide, by decide⟩ (by first | rfl | (simp; done) | fail) ⟨by omega, by decide⟩ rfl aL (by first | (rw [Nat.zero_add]) | rfl) ?_)) | (refine zcn ?_; first | (refine zcj _ aA rfl rfl rfl aO (by first | assumption | rfl) ?_) | (refine zci _ _ aA rfl (lookM (by rfl)) rfl rfl rfl aO (by first | (simp only [Nat.zero_add, Int.toNat_natCast]; exact rfl) | rfl) (by first | (simp only [Nat.sub_zero, Int.toNat_natCast]; exact rfl) | rfl) ?_) | (refine zcl aA rfl rfl rfl aO rfl ?_)) | (refine zck _ aA rfl rfl rfl aO (by first | exact List.take_of_length_le aO | rfl) ?_) | (refine zal aA rfl rfl rfl ?_) | (refine zbt _ _ rfl rfl rfl rfl ?_) | (refine zb9 _ aA rfl ?_) | (refine zb5 aA rfl ?_) | (refine zcm _ _ rfl rfl ?_) | (refine zb1 _ _ _ rfl rfl aE (by first | assumption | (exact TAgg.size aA)) rfl rfl rfl aZ rfl aL (by first | (first | (simp only [lx, Nat.reduceAdd]; first | done | rfl) | fail) | rfl) ?_) | (refine x_make aA aA rfl rfl rfl aO rfl ?_) | (refine zar (hK _ _ (.inl rfl) ?_); clear hK K) | (refine zar (hK _ _ (.inr (by kernel_rfl)) ?_); clear hK K))
      | (refine za3 ?_; first | (refine zbk ?_) | (refine zaf (fun K hK => ?_)) | (refine zap ?_) | (refine za0 ?_) | (refine zbj ?_) | (refine za1 ?_) | (refine zbe ?_; first | (refine zat rfl aD ?_) | (refine zau rfl aD ?_) | (refine zay rfl (fun h => ?_) (fun h => ?_) <;> (have h' := h; (try simp only [sx] at h')))))
      | (refine za2 ?_) | (refine zag ?_) | (refine zaj ?_) | (refine zao ?_) | (refine zam ?_) | (refine zan ?_) | (refine zaq rfl ?_) | (refine zah ?_) | (refine zai ?_) | (refine zbi ?_))
  all_goals try (exfalso; omega)
  refine zcd [2, 3, 7] [(16, 0), (1001, 0)] (fun q : List (List PV) × List Int × Nat × Nat × List (List PV) × List Bool × List Int => [(8, .osl (1001, 0) q.2.2.1 q.2.2.2.1)]) (fun q : List (List PV) × List Int × Nat × Nat × List (List PV) × List Bool × List Int => [((16, 0), some ⟨4, 1, q.2.2.2.2.1, false⟩), ((1001, 0), some ⟨3, 1, q.1, false⟩)]) (fun q : List (List PV) × List Int × Nat × Nat × List (List PV) × List Bool × List Int => (q.1 = ints (q.2.2.2.2.2.2 ++ q.2.1) ∧ q.2.2.2.2.2.2.length = q.2.2.1 ∧ q.2.1.length = q.2.2.2.1) ∧ q.2.2.2.2.1 = bools q.2.2.2.2.2.1 ∧ FlI t P src q.2.1 q.2.2.2.2.2.1 ∧ Clo t P q.2.1 q.2.2.2.2.2.1 ∧ freeN q.2.2.2.2.2.1 + q.2.1.length ≤ 2000000) (fun q : List (List PV) × List Int × Nat × Nat × List (List PV) × List Bool × List Int => (freeN q.2.2.2.2.2.1 + q.2.1.length).toNat) ((ints src, src, 0, (ints src).length, es, F, [])) rfl rfl (fun _ => rfl) (fun _ => rfl) rfl aW ⟨⟨by simp, rfl, by simp⟩, hes, hI0, hC0, hN0⟩ (fun q hq => ?_)
  obtain ⟨rs, W, o, n, es1, F1, pre⟩ := q
  obtain ⟨⟨hrs, hpre, hWn⟩, hes1, hI, hC, hN⟩ := hq
  simp only at hrs hpre hWn hes1 hI hC hN
  dsimp only
  clear hI0 hC0 hN0
  cases W with
  | nil =>
    have hn0 : n = 0 := by simpa using hWn.symm
    subst hn0
    subst hes1
    have kT := k_cellsThat t 158 [[.list 1 (bools F1)]] (fun c => fv F1 (c : Int)) (fun c hc => k_flood1 F1 c (by rw [hI.len]; exact hc)) aO
    have e := flL_eq hI hC hs
    rw [e] at kT
    have hbl1 : (bools F1).length = t.burn.length := by rw [List.length_map, hI.len]
    repeat' (first
      | (refine zaz ?_; first | (refine za4 ?_; refine zas _ rfl ?_) | (refine zak ?_; refine zaa _ rfl ?_) | (refine zbu ?_; first | (refine zb0 rfl rfl aO ?_) | (refine zbs _ rfl rfl rfl ?_) | (refine zav _ rfl rfl rfl ?_)) | (refine g_un ?_; first | (refine zb7 rfl ?_) | (refine zb8 rfl aO ?_)) | (refine zbb ?_; first | (refine zab aA rfl ?_) | (refine zae _ aA rfl rfl aE rfl ?_) | (refine zac _ aA rfl aZ aL ?_) | (refine zad _ aA rfl rfl aE aZ aL ?_)) | (refine zbz ?_; first | (refine zbf _ aA rfl aL ?_) | (refine zbg _ aA rfl rfl (by simp only [lx, Nat.reduceAdd]; first | done | rfl) ?_)) | (refine zbd ?_; first | (refine zax _ aA rfl rfl aO aA ?_) | (refine zaw _ aA rfl rfl rfl rfl aO aO (by first | (rw [Nat.zero_add, Int.toNat_natCast]) | (rw [Nat.zero_add]) | rfl) ?_)) | (refine zb3 ?_; first | (refine zbn rfl aD rfl ?_) | (refine zbp rfl aD ?_) | (refine zbm rfl aD ?_) | (refine zbq rfl aD rfl ?_)) | (refine zby ?_; first | (refine zb4 rfl rfl aD ?_) | (refine zcc rfl rfl aD ?_) | (refine zcb rfl rfl ?_) | (refine zbo rfl rfl (fun h => ?_) (fun h => ?_) <;> (have h' := h; (try simp only [sx] at h')))) | (refine za9 ?_; first | (refine zbc true (kT) rfl rfl rfl aS rfl aH ?_; simp only [cl]) | (refine za8 aA rfl ?_) | (refine za6 aA rfl rfl ?_) | (refine za5 aA rfl ?_) | (refine za7 aA (evO_ok rfl) ?_) | (refine zbx _ _ aA rfl (lookM (by rfl)) rfl (lookM (by rfl)) rfl aN ⟨rfl, rfl, by decide, by decide⟩ (by first | rfl | omega | (simp; done) | (simp; omega) | fail) ⟨by first | (simp only [List.length_cons, List.length_nil]; omega) | omega | fail, by decide⟩ rfl (by first | (first | (simp only [lx, Nat.reduceAdd]; first | done | rfl) | fail) | rfl) aP ?_) | (refine zbw _ _ aA rfl rfl (lookM (by rfl)) ⟨rfl, by decide⟩ aN (by first | exact Nat.succ_pos _ | omega | (simp; done)) ⟨by first | (simp only [List.length_cons, List.length_nil]; omega) | omega | fail, by decide⟩ rfl rfl aP ?_) | (refine zbv _ aA rfl rfl (lookM (by rfl)) ⟨rfl, by decide⟩ aN ⟨by first | (simp only [List.length_cons, List.length_nil]; omega) | omega | fail, by decide⟩ rfl aP ?_) | (refine zbl _ aA rfl rfl rfl ⟨rfl, rfl, rfl, by decide, by decide⟩ (by first | rfl | (simp; done) | fail) ⟨by omega, by decide⟩ rfl aL (by first | (rw [Nat.zero_add]) | rfl) ?_)) | (refine zcn ?_; first | (refine zcj _ aA rfl rfl rfl aO (by first | assumption | rfl) ?_) | (refine zci _ _ aA rfl (lookM (by rfl)) rfl rfl rfl aO (by first | (simp only [Nat.zero_add, Int.toNat_natCast]; exact rfl) | rfl) (by first | (simp only [Nat.sub_zero, Int.toNat_natCast]; exact rfl) | rfl) ?_) | (refine zcl aA rfl rfl rfl aO rfl ?_)) | (refine zck _ aA rfl rfl rfl aO (by first | exact List.take_of_length_le aO | rfl) ?_) | (refine zal aA rfl rfl rfl ?_) | (refine zbt _ _ rfl rfl rfl rfl ?_) | (refine zb9 _ aA rfl ?_) | (refine zb5 aA rfl ?_) | (refine zcm _ _ rfl rfl ?_) | (refine zb1 _ _ _ rfl rfl aE (by first | assumption | (exact TAgg.size aA)) rfl rfl rfl aZ rfl aL (by first | (first | (simp only [lx, Nat.reduceAdd]; first | done | rfl) | fail) | rfl) ?_) | (refine x_make aA aA rfl rfl rfl aO rfl ?_) | (refine zar (hK _ _ (.inl rfl) ?_); clear hK K) | (refine zar (hK _ _ (.inr (by kernel_rfl)) ?_); clear hK K))
      | (refine za3 ?_; first | (refine zbk ?_) | (refine zaf (fun K hK => ?_)) | (refine zap ?_) | (refine za0 ?_) | (refine zbj ?_) | (refine za1 ?_) | (refine zbe ?_; first | (refine zat rfl aD ?_) | (refine zau rfl aD ?_) | (refine zay rfl (fun h => ?_) (fun h => ?_) <;> (have h' := h; (try simp only [sx] at h')))))
      | (refine za2 ?_) | (refine zag ?_) | (refine zaj ?_) | (refine zao ?_) | (refine zam ?_) | (refine zan ?_) | (refine zaq rfl ?_) | (refine zah ?_) | (refine zai ?_) | (refine zbi ?_))
    all_goals first
      | (exfalso; omega)
      | exact ret_list rfl (zbh (by rfl)) (by rfl) (by decide) rfl (ints_flat _) rfl
  | cons x W =>
    have hn1 : n = W.length + 1 := by simpa using hWn.symm
    obtain ⟨hcx, hfx⟩ := hI.que x (by simp)
    have hcx' := hcx
    unfold IsCell at hcx'
    have hgx : rs[o]? = some [.int .i64 x] := by
      rw [hrs]
      refine ints_at ?_
      rw [List.getElem?_append_right aO, hpre, Nat.sub_self]
      rfl
    have hrl : rs.length = o + n := by rw [hrs, ints_len, List.length_append, hpre, hWn]
    repeat' (first
      | (refine zaz ?_; first | (refine za4 ?_; refine zas _ rfl ?_) | (refine zak ?_; refine zaa _ rfl ?_) | (refine zbu ?_; first | (refine zb0 rfl rfl aO ?_) | (refine zbs _ rfl rfl rfl ?_) | (refine zav _ rfl rfl rfl ?_)) | (refine g_un ?_; first | (refine zb7 rfl ?_) | (refine zb8 rfl aO ?_)) | (refine zbb ?_; first | (refine zab aA rfl ?_) | (refine zae _ aA rfl rfl aE rfl ?_) | (refine zac _ aA rfl aZ aL ?_) | (refine zad _ aA rfl rfl aE aZ aL ?_)) | (refine zbz ?_; first | (refine zbf _ aA rfl aL ?_) | (refine zbg _ aA rfl rfl (by simp only [lx, Nat.reduceAdd]; first | done | rfl) ?_)) | (refine zbd ?_; first | (refine zax _ aA rfl rfl aO aA ?_) | (refine zaw _ aA rfl rfl rfl rfl aO aO (by first | (rw [Nat.zero_add, Int.toNat_natCast]) | (rw [Nat.zero_add]) | rfl) ?_)) | (refine zb3 ?_; first | (refine zbn rfl aD rfl ?_) | (refine zbp rfl aD ?_) | (refine zbm rfl aD ?_) | (refine zbq rfl aD rfl ?_)) | (refine zby ?_; first | (refine zb4 rfl rfl aD ?_) | (refine zcc rfl rfl aD ?_) | (refine zcb rfl rfl ?_) | (refine zbo rfl rfl (fun h => ?_) (fun h => ?_) <;> (have h' := h; (try simp only [sx] at h')))) | (refine za9 ?_; first | (refine za8 aA rfl ?_) | (refine za6 aA rfl rfl ?_) | (refine za5 aA rfl ?_) | (refine za7 aA (evO_ok rfl) ?_) | (refine zbx _ _ aA rfl (lookM (by rfl)) rfl (lookM (by rfl)) rfl aN ⟨rfl, rfl, by decide, by decide⟩ (by first | rfl | omega | (simp; done) | (simp; omega) | fail) ⟨by first | (simp only [List.length_cons, List.length_nil]; omega) | omega | fail, by decide⟩ rfl (by first | (first | (simp only [lx, Nat.reduceAdd]; first | done | rfl) | fail) | rfl) aP ?_) | (refine zbw _ _ aA rfl rfl (lookM (by rfl)) ⟨rfl, by decide⟩ aN (by first | exact Nat.succ_pos _ | omega | (simp; done)) ⟨by first | (simp only [List.length_cons, List.length_nil]; omega) | omega | fail, by decide⟩ rfl rfl aP ?_) | (refine zbv _ aA rfl rfl (lookM (by rfl)) ⟨rfl, by decide⟩ aN ⟨by first | (simp only [List.length_cons, List.length_nil]; omega) | omega | fail, by decide⟩ rfl aP ?_) | (refine zbl _ aA rfl rfl rfl ⟨rfl, rfl, rfl, by decide, by decide⟩ (by first | rfl | (simp; done) | fail) ⟨by omega, by decide⟩ rfl aL (by first | (rw [Nat.zero_add]) | rfl) ?_)) | (refine zcn ?_; first | (refine zcj _ aA rfl rfl rfl aO (by first | assumption | rfl) ?_) | (refine zci _ _ aA rfl (lookM (by rfl)) rfl rfl rfl aO (by first | (simp only [Nat.zero_add, Int.toNat_natCast]; exact rfl) | rfl) (by first | (simp only [Nat.sub_zero, Int.toNat_natCast]; exact rfl) | rfl) ?_) | (refine zcl aA rfl rfl rfl aO rfl ?_)) | (refine zck _ aA rfl rfl rfl aO (by first | exact List.take_of_length_le aO | rfl) ?_) | (refine zal aA rfl rfl rfl ?_) | (refine zbt _ _ rfl rfl rfl rfl ?_) | (refine zb9 _ aA rfl ?_) | (refine zb5 aA rfl ?_) | (refine zcm _ _ rfl rfl ?_) | (refine zb1 _ _ _ rfl rfl aE (by first | assumption | (exact TAgg.size aA)) rfl rfl rfl aZ rfl aL (by first | (first | (simp only [lx, Nat.reduceAdd]; first | done | rfl) | fail) | rfl) ?_) | (refine x_make aA aA rfl rfl rfl aO rfl ?_) | (refine zar (hK _ _ (.inl rfl) ?_); clear hK K) | (refine zar (hK _ _ (.inr (by kernel_rfl)) ?_); clear hK K))
      | (refine za3 ?_; first | (refine zbk ?_) | (refine zaf (fun K hK => ?_)) | (refine zap ?_) | (refine za0 ?_) | (refine zbj ?_) | (refine za1 ?_) | (refine zbe ?_; first | (refine zat rfl aD ?_) | (refine zau rfl aD ?_) | (refine zay rfl (fun h => ?_) (fun h => ?_) <;> (have h' := h; (try simp only [sx] at h')))))
      | (refine za2 ?_) | (refine zag ?_) | (refine zaj ?_) | (refine zao ?_) | (refine zam ?_) | (refine zan ?_) | (refine zaq rfl ?_) | (refine zah ?_) | (refine zai ?_) | (refine zbi ?_))
    all_goals try (exfalso; omega)
    refine zcd [2, 3, 7, 11, 39] [(16, 0), (1001, 0)] (fun q : Nat × List (List PV) × List Int × Nat × Nat × List (List PV) × List Bool × List Int => [(8, .osl (1001, 0) q.2.2.2.1 q.2.2.2.2.1), (40, .int .i64 q.1)]) (fun q : Nat × List (List PV) × List Int × Nat × Nat × List (List PV) × List Bool × List Int => [((16, 0), some ⟨4, 1, q.2.2.2.2.2.1, false⟩), ((1001, 0), some ⟨3, 1, q.2.1, false⟩)]) (fun q : Nat × List (List PV) × List Int × Nat × Nat × List (List PV) × List Bool × List Int => q.1 ≤ t.burn.length ∧ (q.2.1 = ints (q.2.2.2.2.2.2.2 ++ q.2.2.1) ∧ q.2.2.2.2.2.2.2.length = q.2.2.2.1 ∧ q.2.2.1.length = q.2.2.2.2.1) ∧ q.2.2.2.2.2.1 = bools q.2.2.2.2.2.2.1 ∧ FlI t P src q.2.2.1 q.2.2.2.2.2.2.1 ∧ CloX t P q.2.2.1 q.2.2.2.2.2.2.1 x q.1 ∧ freeN q.2.2.2.2.2.2.1 + q.2.2.1.length = freeN F1 + W.length ∧ fv q.2.2.2.2.2.2.1 x = true) (fun q : Nat × List (List PV) × List Int × Nat × Nat × List (List PV) × List Bool × List Int => t.burn.length - q.1) ((0, rs, W, o + 1, n - 1, es1, F1, pre ++ [x])) rfl rfl (fun _ => rfl) (fun _ => rfl) rfl aW ⟨by simp, ⟨by simp [hrs], by simp [hpre], by simp only; omega⟩, hes1, hI.pop, hC.pop, rfl, hfx⟩ (fun q hq => ?_)
    obtain ⟨j, us, V, o2, n2, es2, F2, pre2⟩ := q
    obtain ⟨hj, ⟨hus, hpre2, hVn⟩, hes2, hI2, hC2, hN2, hfx2⟩ := hq
    simp only at hj hus hpre2 hVn hes2 hI2 hC2 hN2 hfx2
    dsimp only
    have hul : us.length = o2 + n2 := by rw [hus, ints_len, List.length_append, hpre2, hVn]
    have hbl2 : es2.length = t.burn.length := by rw [hes2, List.length_map, hI2.len]
    have hVl : (V.length : Int) ≤ 2000000 := by
      have := freeN_ge F2
      simp only [List.length_cons] at hN
      omega
    rcases Nat.lt_or_ge j t.burn.length with hlt2 | hge2
    · have hcj : IsCell t (j : Int) := ⟨by omega, by omega⟩
      have hfj := fv_at (F := F2) (c := (j : Int)) (by rw [hI2.len]; omega)
      rw [← hes2] at hfj
      have hset : bools (F2.set j true) = es2.set j [.bool true] := by rw [bools_set, hes2]
      cases hF2 : fv F2 (j : Int)
      · rw [hF2] at hfj
        have kg := hg x j hcx hcj
        cases hP : P x (j : Int)
        · rw [hP] at kg
          repeat' (first
      | (refine zaz ?_; first | (refine za4 ?_; refine zas _ rfl ?_) | (refine zak ?_; refine zaa _ rfl ?_) | (refine zbu ?_; first | (refine zb0 rfl rfl aO ?_) | (refine zbs _ rfl rfl rfl ?_) | (refine zav _ rfl rfl rfl ?_)) | (refine g_un ?_; first | (refine zb7 rfl ?_) | (refine zb8 rfl aO ?_)) | (refine zbb ?_; first | (refine zab aA rfl ?_) | (refine zae _ aA rfl rfl aE rfl ?_) | (refine zac _ aA rfl aZ aL ?_) | (refine zad _ aA rfl rfl aE aZ aL ?_)) | (refine zbz ?_; first | (refine zbf _ aA rfl aL ?_) | (refine zbg _ aA rfl rfl (by simp only [lx, Nat.reduceAdd]; first | done | rfl) ?_)) | (refine zbd ?_; first | (refine zax _ aA rfl rfl aO aA ?_) | (refine zaw _ aA rfl rfl rfl rfl aO aO (by first | (rw [Nat.zero_add, Int.toNat_natCast]) | (rw [Nat.zero_add]) | rfl) ?_)) | (refine zb3 ?_; first | (refine zbn rfl aD rfl ?_) | (refine zbp rfl aD ?_) | (refine zbm rfl aD ?_) | (refine zbq rfl aD rfl ?_)) | (refine zby ?_; first | (refine zb4 rfl rfl aD ?_) | (refine zcc rfl rfl aD ?_) | (refine zcb rfl rfl ?_) | (refine zbo rfl rfl (fun h => ?_) (fun h => ?_) <;> (have h' := h; (try simp only [sx] at h')))) | (refine za9 ?_; first | (refine zbc true (kg) rfl rfl rfl aS rfl aH ?_; simp only [cl]) | (refine x_call [] _ (kg) rfl rfl aS rfl aH ?_; simp only [cl]) | (refine za8 aA rfl ?_) | (refine za6 aA rfl rfl ?_) | (refine za5 aA rfl ?_) | (refine za7 aA (evO_ok rfl) ?_) | (refine zbx _ _ aA rfl (lookM (by rfl)) rfl (lookM (by rfl)) rfl aN ⟨rfl, rfl, by decide, by decide⟩ (by first | rfl | omega | (simp; done) | (simp; omega) | fail) ⟨by first | (simp only [List.length_cons, List.length_nil]; omega) | omega | fail, by decide⟩ rfl (by first | (first | (simp only [lx, Nat.reduceAdd]; first | done | rfl) | fail) | rfl) aP ?_) | (refine zbw _ _ aA rfl rfl (lookM (by rfl)) ⟨rfl, by decide⟩ aN (by first | exact Nat.succ_pos _ | omega | (simp; done)) ⟨by first | (simp only [List.length_cons, List.length_nil]; omega) | omega | fail, by decide⟩ rfl rfl aP ?_) | (refine zbv _ aA rfl rfl (lookM (by rfl)) ⟨rfl, by decide⟩ aN ⟨by first | (simp only [List.length_cons, List.length_nil]; omega) | omega | fail, by decide⟩ rfl aP ?_) | (refine zbl _ aA rfl rfl rfl ⟨rfl, rfl, rfl, by decide, by decide⟩ (by first | rfl | (simp; done) | fail) ⟨by omega, by decide⟩ rfl aL (by first | (rw [Nat.zero_add]) | rfl) ?_)) | (refine zcn ?_; first | (refine zcj _ aA rfl rfl rfl aO (by first | assumption | rfl) ?_) | (refine zci _ _ aA rfl (lookM (by rfl)) rfl rfl rfl aO (by first | (simp only [Nat.zero_add, Int.toNat_natCast]; exact rfl) | rfl) (by first | (simp only [Nat.sub_zero, Int.toNat_natCast]; exact rfl) | rfl) ?_) | (refine zcl aA rfl rfl rfl aO rfl ?_)) | (refine zck _ aA rfl rfl rfl aO (by first | exact List.take_of_length_le aO | rfl) ?_) | (refine zal aA rfl rfl rfl ?_) | (refine zbt _ _ rfl rfl rfl rfl ?_) | (refine zb9 _ aA rfl ?_) | (refine zb5 aA rfl ?_) | (refine zcm _ _ rfl rfl ?_) | (refine zb1 _ _ _ rfl rfl aE (by first | assumption | (exact TAgg.size aA)) rfl rfl rfl aZ rfl aL (by first | (first | (simp only [lx, Nat.reduceAdd]; first | done | rfl) | fail) | rfl) ?_) | (refine x_make aA aA rfl rfl rfl aO rfl ?_) | (refine zar (hK _ _ (.inl rfl) ?_); clear hK K) | (refine zar (hK _ _ (.inr (by kernel_rfl)) ?_); clear hK K))
      | (refine za3 ?_; first | (refine zbk ?_) | (refine zaf (fun K hK => ?_)) | (refine zap ?_) | (refine za0 ?_) | (refine zbj ?_) | (refine za1 ?_) | (refine zbe ?_; first | (refine zat rfl aD ?_) | (refine zau rfl aD ?_) | (refine zay rfl (fun h => ?_) (fun h => ?_) <;> (have h' := h; (try simp only [sx] at h')))))
      | (refine za2 ?_) | (refine zag ?_) | (refine zaj ?_) | (refine zao ?_) | (refine zam ?_) | (refine zan ?_) | (refine zaq rfl ?_) | (refine zah ?_) | (refine zai ?_) | (refine zbi ?_))
          all_goals first
            | (exfalso; omega)
            | (refine zb6 (j + 1, us, V, o2, n2, es2, F2, pre2) rfl aW ⟨by simp only; omega, ⟨hus, hpre2, hVn⟩, hes2, hI2, hC2.skip (.inr hP), hN2, hfx2⟩ (by simp only; omega))
        · rw [hP] at kg
          have hfree : freeN (F2.set j true) = freeN F2 - 1 := freeN_set (by
            have h1 : j < F2.length := by rw [hI2.len]; exact hlt2
            rw [List.getElem?_eq_getElem h1]
            simp only [fv, List.getD_eq_getElem?_getD, Int.toNat_natCast, List.getElem?_eq_getElem h1, Option.getD_some] at hF2
            rw [hF2])
          repeat' (first
      | (refine zaz ?_; first | (refine za4 ?_; refine zas _ rfl ?_) | (refine zak ?_; refine zaa _ rfl ?_) | (refine zbu ?_; first | (refine zb0 rfl rfl aO ?_) | (refine zbs _ rfl rfl rfl ?_) | (refine zav _ rfl rfl rfl ?_)) | (refine g_un ?_; first | (refine zb7 rfl ?_) | (refine zb8 rfl aO ?_)) | (refine zbb ?_; first | (refine zab aA rfl ?_) | (refine zae _ aA rfl rfl aE rfl ?_) | (refine zac _ aA rfl aZ aL ?_) | (refine zad _ aA rfl rfl aE aZ aL ?_)) | (refine zbz ?_; first | (refine zbf _ aA rfl aL ?_) | (refine zbg _ aA rfl rfl (by simp only [lx, Nat.reduceAdd]; first | done | rfl) ?_)) | (refine zbd ?_; first | (refine zax _ aA rfl rfl aO aA ?_) | (refine zaw _ aA rfl rfl rfl rfl aO aO (by first | (rw [Nat.zero_add, Int.toNat_natCast]) | (rw [Nat.zero_add]) | rfl) ?_)) | (refine zb3 ?_; first | (refine zbn rfl aD rfl ?_) | (refine zbp rfl aD ?_) | (refine zbm rfl aD ?_) | (refine zbq rfl aD rfl ?_)) | (refine zby ?_; first | (refine zb4 rfl rfl aD ?_) | (refine zcc rfl rfl aD ?_) | (refine zcb rfl rfl ?_) | (refine zbo rfl rfl (fun h => ?_) (fun h => ?_) <;> (have h' := h; (try simp only [sx] at h')))) | (refine za9 ?_; first | (refine zbc true (kg) rfl rfl rfl aS rfl aH ?_; simp only [cl]) | (refine x_call [] _ (kg) rfl rfl aS rfl aH ?_; simp only [cl]) | (refine za8 aA rfl ?_) | (refine za6 aA rfl rfl ?_) | (refine za5 aA rfl ?_) | (refine za7 aA (evO_ok rfl) ?_) | (refine zbx _ _ aA rfl (lookM (by rfl)) rfl (lookM (by rfl)) rfl aN ⟨rfl, rfl, by decide, by decide⟩ (by first | rfl | omega | (simp; done) | (simp; omega) | fail) ⟨by first | (simp only [List.length_cons, List.length_nil]; omega) | omega | fail, by decide⟩ rfl (by first | (first | (simp only [lx, Nat.reduceAdd]; first | done | rfl) | fail) | rfl) aP ?_) | (refine zbw _ _ aA rfl rfl (lookM (by rfl)) ⟨rfl, by decide⟩ aN (by first | exact Nat.succ_pos _ | omega | (simp; done)) ⟨by first | (simp only [List.length_cons, List.length_nil]; omega) | omega | fail, by decide⟩ rfl rfl aP ?_) | (refine zbv _ aA rfl rfl (lookM (by rfl)) ⟨rfl, by decide⟩ aN ⟨by first | (simp only [List.length_cons, List.length_nil]; omega) | omega | fail, by decide⟩ rfl aP ?_) | (refine zbl _ aA rfl rfl rfl ⟨rfl, rfl, rfl, by decide, by decide⟩ (by first | rfl | (simp; done) | fail) ⟨by omega, by decide⟩ rfl aL (by first | (rw [Nat.zero_add]) | rfl) ?_)) | (refine zcn ?_; first | (refine zcj _ aA rfl rfl rfl aO (by first | assumption | rfl) ?_) | (refine zci _ _ aA rfl (lookM (by rfl)) rfl rfl rfl aO (by first | (simp only [Nat.zero_add, Int.toNat_natCast]; exact rfl) | rfl) (by first | (simp only [Nat.sub_zero, Int.toNat_natCast]; exact rfl) | rfl) ?_) | (refine zcl aA rfl rfl rfl aO rfl ?_)) | (refine zck _ aA rfl rfl rfl aO (by first | exact List.take_of_length_le aO | rfl) ?_) | (refine zal aA rfl rfl rfl ?_) | (refine zbt _ _ rfl rfl rfl rfl ?_) | (refine zb9 _ aA rfl ?_) | (refine zb5 aA rfl ?_) | (refine zcm _ _ rfl rfl ?_) | (refine zb1 _ _ _ rfl rfl aE (by first | assumption | (exact TAgg.size aA)) rfl rfl rfl aZ rfl aL (by first | (first | (simp only [lx, Nat.reduceAdd]; first | done | rfl) | fail) | rfl) ?_) | (refine x_make aA aA rfl rfl rfl aO rfl ?_) | (refine zar (hK _ _ (.inl rfl) ?_); clear hK K) | (refine zar (hK _ _ (.inr (by kernel_rfl)) ?_); clear hK K))
      | (refine za3 ?_; first | (refine zbk ?_) | (refine zaf (fun K hK => ?_)) | (refine zap ?_) | (refine za0 ?_) | (refine zbj ?_) | (refine za1 ?_) | (refine zbe ?_; first | (refine zat rfl aD ?_) | (refine zau rfl aD ?_) | (refine zay rfl (fun h => ?_) (fun h => ?_) <;> (have h' := h; (try simp only [sx] at h')))))
      | (refine za2 ?_) | (refine zag ?_) | (refine zaj ?_) | (refine zao ?_) | (refine zam ?_) | (refine zan ?_) | (refine zaq rfl ?_) | (refine zah ?_) | (refine zai ?_) | (refine zbi ?_))
          all_goals try (exfalso; omega)
          all_goals (refine zb6 (j + 1, us.drop o2 ++ [[.int .i64 (j : Int)]], V ++ [(j : Int)], 0, n2 + 1, es2.set j [.bool true], F2.set j true, []) rfl aW ⟨by simp only; omega, ⟨?_, rfl, by simp [hVn]⟩, hset.symm, hI2.push hlt2 hcx hfx2 hP hs, hC2.push (by rw [hI2.len]; exact hlt2), by simp [hfree]; omega, (fv_set2 (by rw [hI2.len]; exact hlt2) x hcx.1).2 (.inr hfx2)⟩ (by simp only; omega))
          all_goals (simp only; rw [hus, ← hpre2]; simp [ints, List.map_append])
      · rw [hF2] at hfj
        repeat' (first
      | (refine zaz ?_; first | (refine za4 ?_; refine zas _ rfl ?_) | (refine zak ?_; refine zaa _ rfl ?_) | (refine zbu ?_; first | (refine zb0 rfl rfl aO ?_) | (refine zbs _ rfl rfl rfl ?_) | (refine zav _ rfl rfl rfl ?_)) | (refine g_un ?_; first | (refine zb7 rfl ?_) | (refine zb8 rfl aO ?_)) | (refine zbb ?_; first | (refine zab aA rfl ?_) | (refine zae _ aA rfl rfl aE rfl ?_) | (refine zac _ aA rfl aZ aL ?_) | (refine zad _ aA rfl rfl aE aZ aL ?_)) | (refine zbz ?_; first | (refine zbf _ aA rfl aL ?_) | (refine zbg _ aA rfl rfl (by simp only [lx, Nat.reduceAdd]; first | done | rfl) ?_)) | (refine zbd ?_; first | (refine zax _ aA rfl rfl aO aA ?_) | (refine zaw _ aA rfl rfl rfl rfl aO aO (by first | (rw [Nat.zero_add, Int.toNat_natCast]) | (rw [Nat.zero_add]) | rfl) ?_)) | (refine zb3 ?_; first | (refine zbn rfl aD rfl ?_) | (refine zbp rfl aD ?_) | (refine zbm rfl aD ?_) | (refine zbq rfl aD rfl ?_)) | (refine zby ?_; first | (refine zb4 rfl rfl aD ?_) | (refine zcc rfl rfl aD ?_) | (refine zcb rfl rfl ?_) | (refine zbo rfl rfl (fun h => ?_) (fun h => ?_) <;> (have h' := h; (try simp only [sx] at h')))) | (refine za9 ?_; first | (refine za8 aA rfl ?_) | (refine za6 aA rfl rfl ?_) | (refine za5 aA rfl ?_) | (refine za7 aA (evO_ok rfl) ?_) | (refine zbx _ _ aA rfl (lookM (by rfl)) rfl (lookM (by rfl)) rfl aN ⟨rfl, rfl, by decide, by decide⟩ (by first | rfl | omega | (simp; done) | (simp; omega) | fail) ⟨by first | (simp only [List.length_cons, List.length_nil]; omega) | omega | fail, by decide⟩ rfl (by first | (first | (simp only [lx, Nat.reduceAdd]; first | done | rfl) | fail) | rfl) aP ?_) | (refine zbw _ _ aA rfl rfl (lookM (by rfl)) ⟨rfl, by decide⟩ aN (by first | exact Nat.succ_pos _ | omega | (simp; done)) ⟨by first | (simp only [List.length_cons, List.length_nil]; omega) | omega | fail, by decide⟩ rfl rfl aP ?_) | (refine zbv _ aA rfl rfl (lookM (by rfl)) ⟨rfl, by decide⟩ aN ⟨by first | (simp only [List.length_cons, List.length_nil]; omega) | omega | fail, by decide⟩ rfl aP ?_) | (refine zbl _ aA rfl rfl rfl ⟨rfl, rfl, rfl, by decide, by decide⟩ (by first | rfl | (simp; done) | fail) ⟨by omega, by decide⟩ rfl aL (by first | (rw [Nat.zero_add]) | rfl) ?_)) | (refine zcn ?_; first | (refine zcj _ aA rfl rfl rfl aO (by first | assumption | rfl) ?_) | (refine zci _ _ aA rfl (lookM (by rfl)) rfl rfl rfl aO (by first | (simp only [Nat.zero_add, Int.toNat_natCast]; exact rfl) | rfl) (by first | (simp only [Nat.sub_zero, Int.toNat_natCast]; exact rfl) | rfl) ?_) | (refine zcl aA rfl rfl rfl aO rfl ?_)) | (refine zck _ aA rfl rfl rfl aO (by first | exact List.take_of_length_le aO | rfl) ?_) | (refine zal aA rfl rfl rfl ?_) | (refine zbt _ _ rfl rfl rfl rfl ?_) | (refine zb9 _ aA rfl ?_) | (refine zb5 aA rfl ?_) | (refine zcm _ _ rfl rfl ?_) | (refine zb1 _ _ _ rfl rfl aE (by first | assumption | (exact TAgg.size aA)) rfl rfl rfl aZ rfl aL (by first | (first | (simp only [lx, Nat.reduceAdd]; first | done | rfl) | fail) | rfl) ?_) | (refine x_make aA aA rfl rfl rfl aO rfl ?_) | (refine zar (hK _ _ (.inl rfl) ?_); clear hK K) | (refine zar (hK _ _ (.inr (by kernel_rfl)) ?_); clear hK K))
      | (refine za3 ?_; first | (refine zbk ?_) | (refine zaf (fun K hK => ?_)) | (refine zap ?_) | (refine za0 ?_) | (refine zbj ?_) | (refine za1 ?_) | (refine zbe ?_; first | (refine zat rfl aD ?_) | (refine zau rfl aD ?_) | (refine zay rfl (fun h => ?_) (fun h => ?_) <;> (have h' := h; (try simp only [sx] at h')))))
      | (refine za2 ?_) | (refine zag ?_) | (refine zaj ?_) | (refine zao ?_) | (refine zam ?_) | (refine zan ?_) | (refine zaq rfl ?_) | (refine zah ?_) | (refine zai ?_) | (refine zbi ?_))
        all_goals first
          | (exfalso; omega)
          | (refine zb6 (j + 1, us, V, o2, n2, es2, F2, pre2) rfl aW ⟨by simp only; omega, ⟨hus, hpre2, hVn⟩, hes2, hI2, hC2.skip (.inl hF2), hN2, hfx2⟩ (by simp only; omega))
    · have hjn : j = t.burn.length := by omega
      subst hjn
      repeat' (first
      | (refine zaz ?_; first | (refine za4 ?_; refine zas _ rfl ?_) | (refine zak ?_; refine zaa _ rfl ?_) | (refine zbu ?_; first | (refine zb0 rfl rfl aO ?_) | (refine zbs _ rfl rfl rfl ?_) | (refine zav _ rfl rfl rfl ?_)) | (refine g_un ?_; first | (refine zb7 rfl ?_) | (refine zb8 rfl aO ?_)) | (refine zbb ?_; first | (refine zab aA rfl ?_) | (refine zae _ aA rfl rfl aE rfl ?_) | (refine zac _ aA rfl aZ aL ?_) | (refine zad _ aA rfl rfl aE aZ aL ?_)) | (refine zbz ?_; first | (refine zbf _ aA rfl aL ?_) | (refine zbg _ aA rfl rfl (by simp only [lx, Nat.reduceAdd]; first | done | rfl) ?_)) | (refine zbd ?_; first | (refine zax _ aA rfl rfl aO aA ?_) | (refine zaw _ aA rfl rfl rfl rfl aO aO (by first | (rw [Nat.zero_add, Int.toNat_natCast]) | (rw [Nat.zero_add]) | rfl) ?_)) | (refine zb3 ?_; first | (refine zbn rfl aD rfl ?_) | (refine zbp rfl aD ?_) | (refine zbm rfl aD ?_) | (refine zbq rfl aD rfl ?_)) | (refine zby ?_; first | (refine zb4 rfl rfl aD ?_) | (refine zcc rfl rfl aD ?_) | (refine zcb rfl rfl ?_) | (refine zbo rfl rfl (fun h => ?_) (fun h => ?_) <;> (have h' := h; (try simp only [sx] at h')))) | (refine za9 ?_; first | (refine za8 aA rfl ?_) | (refine za6 aA rfl rfl ?_) | (refine za5 aA rfl ?_) | (refine za7 aA (evO_ok rfl) ?_) | (refine zbx _ _ aA rfl (lookM (by rfl)) rfl (lookM (by rfl)) rfl aN ⟨rfl, rfl, by decide, by decide⟩ (by first | rfl | omega | (simp; done) | (simp; omega) | fail) ⟨by first | (simp only [List.length_cons, List.length_nil]; omega) | omega | fail, by decide⟩ rfl (by first | (first | (simp only [lx, Nat.reduceAdd]; first | done | rfl) | fail) | rfl) aP ?_) | (refine zbw _ _ aA rfl rfl (lookM (by rfl)) ⟨rfl, by decide⟩ aN (by first | exact Nat.succ_pos _ | omega | (simp; done)) ⟨by first | (simp only [List.length_cons, List.length_nil]; omega) | omega | fail, by decide⟩ rfl rfl aP ?_) | (refine zbv _ aA rfl rfl (lookM (by rfl)) ⟨rfl, by decide⟩ aN ⟨by first | (simp only [List.length_cons, List.length_nil]; omega) | omega | fail, by decide⟩ rfl aP ?_) | (refine zbl _ aA rfl rfl rfl ⟨rfl, rfl, rfl, by decide, by decide⟩ (by first | rfl | (simp; done) | fail) ⟨by omega, by decide⟩ rfl aL (by first | (rw [Nat.zero_add]) | rfl) ?_)) | (refine zcn ?_; first | (refine zcj _ aA rfl rfl rfl aO (by first | assumption | rfl) ?_) | (refine zci _ _ aA rfl (lookM (by rfl)) rfl rfl rfl aO (by first | (simp only [Nat.zero_add, Int.toNat_natCast]; exact rfl) | rfl) (by first | (simp only [Nat.sub_zero, Int.toNat_natCast]; exact rfl) | rfl) ?_) | (refine zcl aA rfl rfl rfl aO rfl ?_)) | (refine zck _ aA rfl rfl rfl aO (by first | exact List.take_of_length_le aO | rfl) ?_) | (refine zal aA rfl rfl rfl ?_) | (refine zbt _ _ rfl rfl rfl rfl ?_) | (refine zb9 _ aA rfl ?_) | (refine zb5 aA rfl ?_) | (refine zcm _ _ rfl rfl ?_) | (refine zb1 _ _ _ rfl rfl aE (by first | assumption | (exact TAgg.size aA)) rfl rfl rfl aZ rfl aL (by first | (first | (simp only [lx, Nat.reduceAdd]; first | done | rfl) | fail) | rfl) ?_) | (refine x_make aA aA rfl rfl rfl aO rfl ?_) | (refine zar (hK _ _ (.inl rfl) ?_); clear hK K) | (refine zar (hK _ _ (.inr (by kernel_rfl)) ?_); clear hK K))
      | (refine za3 ?_; first | (refine zbk ?_) | (refine zaf (fun K hK => ?_)) | (refine zap ?_) | (refine za0 ?_) | (refine zbj ?_) | (refine za1 ?_) | (refine zbe ?_; first | (refine zat rfl aD ?_) | (refine zau rfl aD ?_) | (refine zay rfl (fun h => ?_) (fun h => ?_) <;> (have h' := h; (try simp only [sx] at h')))))
      | (refine za2 ?_) | (refine zag ?_) | (refine zaj ?_) | (refine zao ?_) | (refine zam ?_) | (refine zan ?_) | (refine zaq rfl ?_) | (refine zah ?_) | (refine zai ?_) | (refine zbi ?_))
      all_goals first
        | (exfalso; omega)
        | (refine zb6 (us, V, o2, n2, es2, F2, pre2) rfl aW ⟨⟨hus, hpre2, hVn⟩, hes2, hI2, hC2.done, by simp only [List.length_cons] at hN; simp only; omega⟩ (by have := freeN_ge F1; have := freeN_ge F2; simp only [List.length_cons]; omega))
end Go.Vs
set_option linter.unusedVariables false
set_option linter.unusedSimpArgs false
namespace Go.Vs
section
variable {P : Program} {G : Nat → Prop} {ρ : Id → Option (Nat × Nat)} {w0 w : World} {X : List (Option (Nat × Nat))} {M N : Mem} {v : Value}
theorem frzL_repN {t : Nat} {xs : List PV} {k : Nat} (hW : WRel G ρ w0 X M w) (hM : ∀ p ∈ (thawL t k xs).2.2, M p.1 = some p.2) (ht : t ≠ io) (hc : xs.all clean1 = true)
    (hsub : ∀ b, Stab G ρ M w b → Stab G ρ N w b) (hoff : ∀ id r, N id = some (some r) → M id = some (some r) ∧ id.1 ≠ t) {cs : Array Value} (h : Comps ρ w (Stab G ρ M w) M cs (thawL t k xs).2.1) : Comps ρ w (Stab G ρ N w) noMem cs (xs.map frz1) := by
  obtain ⟨hl, hat⟩ := thawL_at t xs k
  refine ⟨by rw [h.1, hl, List.length_map], fun j u hu => ?_⟩
  rw [List.getElem?_map] at hu
  cases hx : xs[j]? with
  | none => rw [hx] at hu; cases hu
  | some x =>
    rw [hx] at hu
    injection hu with hu
    subst hu
    obtain ⟨y, h1, h2⟩ := hat j x hx
    obtain ⟨c, h3, h4⟩ := h.2 j y h1
    refine ⟨c, h3, ?_⟩
    rcases h2 with ⟨ty, sz, es, k', rfl, rfl, hm⟩ | ⟨rfl, he⟩
    · exact osl_given hW (hM _ hm) ht hsub (fun id r h => ⟨(hoff id r h).1, fun e => (hoff id r h).2 (by rw [e])⟩) h4
    · rw [he]
      exact rep_clean1 hsub (List.all_eq_true.1 hc _ (List.mem_of_getElem? hx)) he h4
theorem frz2_repN {t : Nat} {x : PV} {k : Nat} (hW : WRel G ρ w0 X M w) (hM : ∀ p ∈ (thaw1 t k x).2.2, M p.1 = some p.2) (ht : t ≠ io) (hc : clean2 x = true)
    (hsub : ∀ b, Stab G ρ M w b → Stab G ρ N w b) (hoff : ∀ id r, N id = some (some r) → M id = some (some r) ∧ id.1 ≠ t) (h : Rep ρ w (Stab G ρ M w) M v (thaw1 t k x).2.1) : Rep ρ w (Stab G ρ N w) noMem v (frz2 x) := by
  cases x with
  | agg cs =>
    simp only [thaw1] at h hM
    obtain ⟨a, rfl, hcs⟩ := rep_agg.1 h
    exact rep_agg.2 ⟨a, rfl, frzL_repN hW hM ht hc hsub hoff hcs⟩
  | olist ty sz es => exact osl_given hW (hM ((t, k), some ⟨ty, sz, es, false⟩) (by simp [thaw1])) ht hsub (fun id r h => ⟨(hoff id r h).1, fun e => (hoff id r h).2 (by rw [e])⟩) h
  | any => exact rep_any
  | int _ _ => exact rep_clean1 hsub rfl rfl h
  | bool _ => exact rep_clean1 hsub rfl rfl h
  | str _ => exact rep_clean1 hsub rfl rfl h
  | nil => exact rep_clean1 hsub rfl rfl h
  | list _ _ => exact rep_clean1 hsub rfl rfl h
  | ptr _ => exact rep_clean1 hsub rfl rfl h
  | own _ _ _ => cases hc
  | clist _ _ => cases hc
  | osl _ _ _ => cases hc
  | tuple _ => cases hc
  | fn _ _ _ => cases hc
theorem ConL.frz {g : FuncId} {ys : List PV} {ios : List Row} {r : PV} {fin : List (List (List PV))} (h : ContractP P g true ys ios fun r' fin' => r' = r ∧ fin' = fin) (hc : clean r = true) (hbx : ∀ row ∈ ios, row.bx = false) :
    ContractP P g true ys ios fun r' fin' => r' = Go.Vs.frz r ∧ fin' = fin := by
  refine ⟨h.1, fun G w X ρ cargs hW hX hC => ?_⟩
  obtain ⟨cb, h2⟩ := h
  refine (h2 G w X ρ cargs hW hX hC).mono fun e w' => ?_
  rintro ⟨v, r', fin', rfl, ⟨rfl, rfl⟩, hl, hf, hR⟩
  refine ⟨v, Go.Vs.frz r', fin', rfl, ⟨rfl, rfl⟩, hl, hf, fun t ht => ?_⟩
  obtain ⟨ρ', hR⟩ := hR t ht
  refine ⟨ρ', ?_⟩
  have hrel := hR.rel
  have hval := hR.val
  have hN : ∀ id r, ioMem (withEs ios fin') id = some (some r) → ((ioMem (withEs ios fin')).upds (thaw t r').2) id = some (some r) ∧ id.1 ≠ t := by
    intro id r h
    have hio : id.1 = io := by
      simp only [ioMem] at h
      split at h
      · assumption
      · cases h
    have hne : id.1 ≠ t := by rw [hio]; exact fun e => ht e.symm
    exact ⟨by rw [upds_other _ _ id fun p hp e => hne (by rw [← e]; exact thaw_fst t r' p hp)]; exact h, hne⟩
  have hsub : ∀ b, Stab G ρ' ((ioMem (withEs ios fin')).upds (thaw t r').2) w' b → Stab G ρ' (ioMem (withEs ios fin')) w' b := fun b hb => ⟨hb.1, fun id r z h => hb.2.1 id r z (hN id r h).1, hb.2.2⟩
  have hkeys : ∀ p ∈ (thaw t r').2, noMem.upds (thaw t r').2 p.1 = some p.2 := fun p hp => by
    refine looks_upds _ ?_ p hp
    cases r' with
    | tuple vs => exact (thawT_keys t vs 0).2.2
    | _ => exact (thaw1_keys t 0 _).2.2
  have hat : ∀ p ∈ (thaw t r').2, ((ioMem (withEs ios fin')).upds (thaw t r').2) p.1 = some p.2 := fun p hp => by
    rcases upds_or (ioMem (withEs ios fin')) (thaw t r').2 p.1 with ⟨h1, _⟩ | ⟨_, h2⟩
    · rw [h1]; exact hkeys p hp
    · rw [hkeys p hp] at h2; cases h2
  have hmle : MLe ρ' w' (noMem.upds (thaw t r').2) ρ' w' ((ioMem (withEs ios fin')).upds (thaw t r').2) := fun id => by
    cases hMi : noMem.upds (thaw t r').2 id with
    | none => trivial
    | some o =>
      have e := hat (id, o) (upds_find hMi)
      cases o with
      | none => exact e
      | some row => exact .inr ⟨row, e, rfl, rfl, Nat.le_refl _, rfl, fun b z hb cur hcur => ⟨cur, hcur, rfl⟩⟩
  have hv : Rep ρ' w' (Stab G ρ' ((ioMem (withEs ios fin')).upds (thaw t r').2) w') ((ioMem (withEs ios fin')).upds (thaw t r').2) v (thaw t r').1 := hval.mono (fun b hb => ⟨hb.1, rfl⟩) hmle
  have key : Rep ρ' w' (Stab G ρ' (ioMem (withEs ios fin')) w') noMem v (Go.Vs.frz r') := by
    have one : ∀ x : PV, (∀ p ∈ (thaw1 t 0 x).2.2, ((ioMem (withEs ios fin')).upds (thaw t r').2) p.1 = some p.2) → clean2 x = true → Rep ρ' w' (Stab G ρ' ((ioMem (withEs ios fin')).upds (thaw t r').2) w') ((ioMem (withEs ios fin')).upds (thaw t r').2) v (thaw1 t 0 x).2.1 → Rep ρ' w' (Stab G ρ' (ioMem (withEs ios fin')) w') noMem v (frz2 x) :=
      fun x h1 h2 h3 => frz2_repN hrel h1 ht h2 hsub hN h3
    cases r' with
    | tuple vs =>
      simp only [thaw] at hv hrel hsub hN hat
      obtain ⟨a, rfl, hcs⟩ := rep_tuple.1 hv
      obtain ⟨k1, k2⟩ := thawT_at t vs 0
      refine rep_tuple.2 ⟨a, rfl, by rw [hcs.1, k1, List.length_map], fun j u hu => ?_⟩
      rw [List.getElem?_map] at hu
      cases hx : vs[j]? with
      | none => rw [hx] at hu; cases hu
      | some x =>
        rw [hx] at hu
        injection hu with hu
        subst hu
        obtain ⟨k', g1, g2⟩ := k2 j x hx
        obtain ⟨c, m1, m2⟩ := hcs.2 j _ g1
        exact ⟨c, m1, frz2_repN hrel (fun p hp => hat p (g2 p hp)) ht (List.all_eq_true.1 hc _ (List.mem_of_getElem? hx)) hsub hN m2⟩
    | agg cs => exact one (.agg cs) hat hc hv
    | olist ty sz es => exact one (.olist ty sz es) hat hc hv
    | any => exact rep_any
    | int _ _ => exact rep_clean1 hsub rfl rfl hv
    | bool _ => exact rep_clean1 hsub rfl rfl hv
    | str _ => exact rep_clean1 hsub rfl rfl hv
    | nil => exact rep_clean1 hsub rfl rfl hv
    | list _ _ => exact rep_clean1 hsub rfl rfl hv
    | ptr _ => exact rep_clean1 hsub rfl rfl hv
    | own _ _ _ => cases hc
    | clist _ _ => cases hc
    | osl _ _ _ => cases hc
    | fn _ _ _ => cases hc
  have hbx' : ∀ id r, ioMem (withEs ios fin') id = some (some r) → r.bx = false := by
    intro id r h
    simp only [ioMem] at h
    split at h
    · rw [withEs_at ios fin' _ hl] at h
      cases hk : ios[id.2]? with
      | none => rw [hk] at h; simp at h
      | some row0 =>
        cases hk2 : fin'[id.2]? with
        | none => rw [hk, hk2] at h; simp at h
        | some es =>
          rw [hk, hk2] at h
          simp at h
          rw [← h]
          exact hbx row0 (List.mem_of_getElem? hk)
    · cases h
  have hnew : WRel G ρ' w X (ioMem (withEs ios fin')) w' := by
    refine ⟨fun id id' r r' b z z' h1 h2 => hrel.inj id id' r r' b z z' (hN id r h1).1 (hN id' r' h2).1, fun id r h => ?_, fun id r h => hrel.new id r (hN id r h).1, hrel.keep, hrel.good⟩
    have hr := hrel.row id r (hN id r h).1
    have hb := hbx' id r h
    cases hρ : ρ' id with
    | none => rw [hρ] at hr; exact hr
    | some bz =>
      obtain ⟨b, z⟩ := bz
      rw [hρ] at hr
      obtain ⟨cur, C, g1, g2, g3, g4, g5, g6⟩ := hr
      refine ⟨cur, C, g1, g2, g3, g4, g5, fun i e hi => ⟨(g6 i e hi).1, fun j u hu => ?_⟩⟩
      obtain ⟨c, k1, k2, k3⟩ := (g6 i e hi).2 j u hu
      rw [hb] at k3 ⊢
      exact ⟨c, k1, k2, k3.pureMono fun b hb => ⟨hsub b hb, rfl⟩⟩
  refine ⟨?_, ?_, ?_⟩
  · rw [thaw_frz]; exact hnew
  · intro id row b z h1
    rw [thaw_frz] at h1
    cases h1
  · rw [thaw_frz]
    exact key.mono (fun b hb => ⟨⟨hb, fun h => by cases h⟩, rfl⟩) (MLe.refl _ _ _)
end
section
variable {P : Program} {st : St} {al : Bool} {xs ys : List PV} {u u1 : List (Option Id)}
theorem et_lst {sz sz' : Nat} {es es' : List (List PV)} (ha : al = true) (hz : sz = sz') (h : es = es') (ht : ExpT al st xs ys u) : ExpT al st (.list sz es :: xs) (.list sz' es' :: ys) u := ⟨[], u, ⟨ha, hz, h, rfl⟩, ht, rfl⟩
theorem el_lst {sz sz' : Nat} {es es' : List (List PV)} (ha : al = true) (hz : sz = sz') (h : es = es') (ht : ExpL al st xs ys u) : ExpL al st (.list sz es :: xs) (.list sz' es' :: ys) u := ⟨[], u, ⟨ha, hz, h, rfl⟩, ht, rfl⟩
theorem zcp {id : Id} {T T' sz sz' n : Nat} {es es' : List (List PV)} (ha : al = true) (hm : getM st.mem id = some (some ⟨T, sz, es, false⟩)) (hio : id.1 ≠ io) (hT : T = T') (hz : sz = sz') (hn : n = es.length) (hes : es = es')
    (ht : ExpT al st xs ys u) : ExpT al st (.osl id 0 n :: xs) (.olist T' sz' es' :: ys) (some id :: u) := by
  subst hT hz hes hn
  exact ⟨[some id], u, ⟨rfl, hio, rfl, .inl ha, hm, rfl⟩, ht, rfl⟩
theorem zco {id : Id} {T T' sz sz' n : Nat} {es es' : List (List PV)} (ha : al = true) (hm : getM st.mem id = some (some ⟨T, sz, es, false⟩)) (hio : id.1 ≠ io) (hT : T = T') (hz : sz = sz') (hn : n = es.length) (hes : es = es')
    (ht : ExpL al st xs ys u) : ExpL al st (.osl id 0 n :: xs) (.olist T' sz' es' :: ys) (some id :: u) := by
  subst hT hz hes hn
  exact ⟨[some id], u, ⟨rfl, hio, rfl, .inl ha, hm, rfl⟩, ht, rfl⟩
variable {rows : List Row} {fin : List (List (List PV))} {e : Exit}
theorem ret_TL {fn : Func} {x y : PV} {rs : List ResultVar} (hrs : fn.results.toList = rs) (hr : resO st rs = some (x :: y :: xs)) (hu : uT (x :: y :: xs) = some u) (hc : cellsT P rs (x :: y :: xs)) (ha : apartIds u) (hf : finsL st.mem 0 rows fin) (he : ExpT al st (x :: y :: xs) ys u) :
    RetPost P fn al rows (fun r' fin' => r' = .tuple ys ∧ fin' = fin) .ret st := ret_ofL (.inl rfl) (x :: y :: xs) u (by rw [hrs]; exact resO_ok hr hc) he ha hf
theorem ret_AL {fn : Func} {cs ds : List PV} {rs : List ResultVar} (hrs : fn.results.toList = rs) (hr : resO st rs = some [.agg cs]) (hu : uO cs = some u) (hc : cellsT P rs [.agg cs]) (ha : apartIds u) (hf : finsL st.mem 0 rows fin) (he : ExpL al st cs ds u) :
    RetPost P fn al rows (fun r' fin' => r' = .agg ds ∧ fin' = fin) .ret st := ret_ofL (.inl rfl) [.agg cs] u (by rw [hrs]; exact resO_ok hr hc) he ha hf
theorem ret_lL {fn : Func} {t T T' sz sz' n : Nat} {id : Id} {es es' : List (List PV)} (hr : fn.results = #[.tmp t]) (hv : lookE st.env t = some (.osl id 0 n)) (hm : getM st.mem id = some (some ⟨T, sz, es, false⟩)) (hio : id.1 ≠ io) (hf : finsL st.mem 0 rows fin) (hT : T = T') (hz : sz = sz') (hn : n = es.length) (hes : es = es') :
    RetPost P fn true rows (fun r' fin' => r' = .olist T' sz' es' ∧ fin' = fin) .ret st := by
  subst hT hz hes hn
  exact ret_ofL (.inl rfl) [.osl id 0 es.length] [some id] (by rw [hr]; exact ⟨zbh hv, trivial⟩) ⟨rfl, hio, rfl, .inl rfl, hm, rfl⟩ ⟨by simp, trivial⟩ hf
theorem ret_iL {fn : Func} {t : Nat} {k : IntKind} {n n' : Int} (hr : fn.results = #[.tmp t]) (hv : lookE st.env t = some (.int k n)) (hf : finsL st.mem 0 rows fin) (hn : n = n') : RetPost P fn al rows (fun r' fin' => r' = .int k n' ∧ fin' = fin) .ret st := by
  subst hn
  exact ret_ofL (.inl rfl) [.int k n] [] (by rw [hr]; exact ⟨zbh hv, trivial⟩) ⟨rfl, rfl, rfl⟩ trivial hf
theorem ret_bL {fn : Func} {t : Nat} {n n' : Bool} (hr : fn.results = #[.tmp t]) (hv : lookE st.env t = some (.bool n)) (hf : finsL st.mem 0 rows fin) (hn : n = n') : RetPost P fn al rows (fun r' fin' => r' = .bool n' ∧ fin' = fin) .ret st := by
  subst hn
  exact ret_ofL (.inl rfl) [.bool n] [] (by rw [hr]; exact ⟨zbh hv, trivial⟩) ⟨rfl, rfl⟩ trivial hf
end
theorem seq_ex {S : Type} {Q : Nat → S → Prop} {R : Nat → S → S → Prop} (s0 : S) (h0 : Q 0 s0) (h : ∀ i s, Q i s → ∃ s', R i s s' ∧ Q (i + 1) s') : ∃ f : Nat → S, f 0 = s0 ∧ ∀ i, Q i (f i) ∧ R i (f i) (f (i + 1)) := by
  classical
  let g : (i : Nat) → {s : S // Q i s} := fun i => Nat.rec ⟨s0, h0⟩ (fun i s => ⟨Classical.choose (h i s.1 s.2), (Classical.choose_spec (h i s.1 s.2)).2⟩) i
  refine ⟨fun i => (g i).1, rfl, fun i => ⟨(g i).2, ?_⟩⟩
  exact (Classical.choose_spec (h i (g i).1 (g i).2)).1
section
variable {P : Program}
end
end Go.Vs
set_option linter.unusedVariables false
set_option linter.unusedSimpArgs false
namespace Go.Vs
section
variable {P : Program} {ops : Array Oper} {rest : List Oper} {env : List (Nat × PV)} {mem : List (Id × Option Row)} {tr : List (List Id × List Id)} {K : St → List (List Id × List Id) → Prop}
  {d : Nat} {ty : TypeId} {pos : String} {af : Array Edge}
theorem x_callLP {f : Operand} {args : List Operand} {ats : Array TypeId} {g : FuncId} {fi ca xs ys : List PV} {Post : PV → List (List (List PV)) → Prop} (ids : List Id) {rd : List Id} {ios : List Row}
    (hC : ContractP P g true ys ios Post) (hf : ev (getE env) f = .fn g fi ca)
    (hxs : fi ++ args.map (ev (getE env)) ++ ca = xs) (hlend : lendR mem ids ids ios) (hrd : rdL (rdO true 6 mem) xs ys [] = some rd)
    (hnd : (nodupB ids && nodupB rd && rd.all (fun id => !(hasId ids id) && !Nat.beq id.1 io && (match getM mem id with | some (some _) => true | _ => false))) = true)
    (hsnap : AllR (SnapD 6 (getM mem) ids rd) xs ys) (hfree : freeB mem d = true)
    (hk : ∀ r fin, Post r fin → ∃ v up mem', thaw d r = (v, up) ∧ rowsNewL mem ids ios fin = some mem' ∧
      exec P ops false rest ⟨(d, v) :: env, (up ++ (mem' ++ (rd.map fun id : Id => (id, (none : Option Row))))) ++ mem⟩ (([], []) :: tr) K) :
    exec P ops false (⟨some d, .call ⟨.value f, args.toArray, ats⟩, ty, pos, af, none⟩ :: rest) ⟨env, mem⟩ tr K := by
  obtain ⟨hl, hr⟩ := lendR_ok hlend
  simp only [Bool.and_eq_true] at hnd
  obtain ⟨⟨hn1, hn2⟩, hn3⟩ := hnd
  have hn3 := List.all_eq_true.1 hn3
  obtain ⟨h1, h2⟩ := freeB_ok hfree
  subst hxs
  refine .inr ⟨by simp [wantedPV], .inr ⟨d, true, true, ids, rd, ios, Post, ⟨⟨.value f, args.toArray, ats⟩, f, g, fi, ca, ys, rfl, rfl, hf, fun t ht => by injection ht with ht; exact ht.symm, hC,
    ⟨h1, h2, by simpa using hsnap, hl, nodupB_ok hn1, hr, fun id hid hm => ?_, .inl ⟨rfl, fun id hid => ?_, nodupB_ok hn2⟩⟩⟩, .inl ⟨rfl, fun r fin hp _ => ?_⟩⟩⟩
  · have := hn3 id hid
    simp only [Bool.and_eq_true, Bool.not_eq_true'] at this
    rw [hasId_iff.2 hm] at this
    exact absurd this.1.1 (by simp)
  · have := hn3 id hid
    simp only [Bool.and_eq_true, Bool.not_eq_true'] at this
    refine ⟨fun e => by have h2 := this.1.2; rw [e] at h2; simp at h2, ?_⟩
    have h2 := this.2
    split at h2
    · exact ⟨_, by assumption⟩
    · cases h2
  · obtain ⟨v, up, mem', hth, hnew, hk⟩ := hk r fin hp
    have hups : callUps (St.M ⟨env, mem⟩) d ids rd true r (backF (St.M ⟨env, mem⟩) ids ios fin) = up ++ (mem' ++ rd.map fun id => (id, none)) := by
      show callUps (getM mem) d ids rd true r (backF (getM mem) ids ios fin) = _
      simp only [callUps, hth, frzUps, rowsNewL_ok hnew]
      simp
    rw [hups, show (thaw d r).1 = v by rw [hth]]
    exact hk
end
theorem RetPost.mono {P : Program} {fn : Func} {al : Bool} {ios : List Row} {Post Post' : PV → List (List (List PV)) → Prop} {e : Exit} {st : St} (hp : ∀ r fin, Post r fin → Post' r fin) (h : RetPost P fn al ios Post e st) : RetPost P fn al ios Post' e st := by
  obtain ⟨h0, xs, r, u, fin, h1, h2, h3, h4, h5⟩ := h
  exact ⟨h0, xs, r, u, fin, h1, h2, h3, hp _ _ h4, h5⟩
theorem ContractP.mono {P : Program} {g : FuncId} {al : Bool} {ys : List PV} {ios : List Row} {Post Post' : PV → List (List (List PV)) → Prop} (hp : ∀ r fin, Post r fin → Post' r fin) (h : ContractP P g al ys ios Post) : ContractP P g al ys ios Post' := by
  refine ⟨h.1, fun G w X ρ cargs hW hX hC => (h.2 G w X ρ cargs hW hX hC).mono fun e w' => ?_⟩
  rintro ⟨v, r', fin', rfl, hP, hl, hf, hR⟩
  exact ⟨v, r', fin', rfl, hp _ _ hP, hl, hf, hR⟩
section
variable {P : Program} {G : Nat → Prop} {ρ : Id → Option (Nat × Nat)} {w0 w : World} {X : List (Option (Nat × Nat))} {M N : Mem} {v : Value}
theorem ConL.frzP {g : FuncId} {ys : List PV} {ios : List Row} {Post : PV → List (List (List PV)) → Prop} (h : ContractP P g true ys ios Post) (hcl : ∀ r fin, Post r fin → clean r = true) (hbx : ∀ row ∈ ios, row.bx = false) :
    ContractP P g true ys ios fun r' fin' => ∃ r, r' = Go.Vs.frz r ∧ Post r fin' := by
  refine ⟨h.1, fun G w X ρ cargs hW hX hC => ?_⟩
  obtain ⟨cb, h2⟩ := h
  refine (h2 G w X ρ cargs hW hX hC).mono fun e w' => ?_
  rintro ⟨v, r', fin', rfl, hP0, hl, hf, hR⟩
  have hc := hcl _ _ hP0
  refine ⟨v, Go.Vs.frz r', fin', rfl, ⟨r', rfl, hP0⟩, hl, hf, fun t ht => ?_⟩
  obtain ⟨ρ', hR⟩ := hR t ht
  refine ⟨ρ', ?_⟩
  have hrel := hR.rel
  have hval := hR.val
  have hN : ∀ id r, ioMem (withEs ios fin') id = some (some r) → ((ioMem (withEs ios fin')).upds (thaw t r').2) id = some (some r) ∧ id.1 ≠ t := by
    intro id r h
    have hio : id.1 = io := by
      simp only [ioMem] at h
      split at h
      · assumption
      · cases h
    have hne : id.1 ≠ t := by rw [hio]; exact fun e => ht e.symm
    exact ⟨by rw [upds_other _ _ id fun p hp e => hne (by rw [← e]; exact thaw_fst t r' p hp)]; exact h, hne⟩
  have hsub : ∀ b, Stab G ρ' ((ioMem (withEs ios fin')).upds (thaw t r').2) w' b → Stab G ρ' (ioMem (withEs ios fin')) w' b := fun b hb => ⟨hb.1, fun id r z h => hb.2.1 id r z (hN id r h).1, hb.2.2⟩
  have hkeys : ∀ p ∈ (thaw t r').2, noMem.upds (thaw t r').2 p.1 = some p.2 := fun p hp => by
    refine looks_upds _ ?_ p hp
    cases r' with
    | tuple vs => exact (thawT_keys t vs 0).2.2
    | _ => exact (thaw1_keys t 0 _).2.2
  have hat : ∀ p ∈ (thaw t r').2, ((ioMem (withEs ios fin')).upds (thaw t r').2) p.1 = some p.2 := fun p hp => by
    rcases upds_or (ioMem (withEs ios fin')) (thaw t r').2 p.1 with ⟨h1, _⟩ | ⟨_, h2⟩
    · rw [h1]; exact hkeys p hp
    · rw [hkeys p hp] at h2; cases h2
  have hmle : MLe ρ' w' (noMem.upds (thaw t r').2) ρ' w' ((ioMem (withEs ios fin')).upds (thaw t r').2) := fun id => by
    cases hMi : noMem.upds (thaw t r').2 id with
    | none => trivial
    | some o =>
      have e := hat (id, o) (upds_find hMi)
      cases o with
      | none => exact e
      | some row => exact .inr ⟨row, e, rfl, rfl, Nat.le_refl _, rfl, fun b z hb cur hcur => ⟨cur, hcur, rfl⟩⟩
  have hv : Rep ρ' w' (Stab G ρ' ((ioMem (withEs ios fin')).upds (thaw t r').2) w') ((ioMem (withEs ios fin')).upds (thaw t r').2) v (thaw t r').1 := hval.mono (fun b hb => ⟨hb.1, rfl⟩) hmle
  have key : Rep ρ' w' (Stab G ρ' (ioMem (withEs ios fin')) w') noMem v (Go.Vs.frz r') := by
    have one : ∀ x : PV, (∀ p ∈ (thaw1 t 0 x).2.2, ((ioMem (withEs ios fin')).upds (thaw t r').2) p.1 = some p.2) → clean2 x = true → Rep ρ' w' (Stab G ρ' ((ioMem (withEs ios fin')).upds (thaw t r').2) w') ((ioMem (withEs ios fin')).upds (thaw t r').2) v (thaw1 t 0 x).2.1 → Rep ρ' w' (Stab G ρ' (ioMem (withEs ios fin')) w') noMem v (frz2 x) :=
      fun x h1 h2 h3 => frz2_repN hrel h1 ht h2 hsub hN h3
    cases r' with
    | tuple vs =>
      simp only [thaw] at hv hrel hsub hN hat
      obtain ⟨a, rfl, hcs⟩ := rep_tuple.1 hv
      obtain ⟨k1, k2⟩ := thawT_at t vs 0
      refine rep_tuple.2 ⟨a, rfl, by rw [hcs.1, k1, List.length_map], fun j u hu => ?_⟩
      rw [List.getElem?_map] at hu
      cases hx : vs[j]? with
      | none => rw [hx] at hu; cases hu
      | some x =>
        rw [hx] at hu
        injection hu with hu
        subst hu
        obtain ⟨k', g1, g2⟩ := k2 j x hx
        obtain ⟨c, m1, m2⟩ := hcs.2 j _ g1
        exact ⟨c, m1, frz2_repN hrel (fun p hp => hat p (g2 p hp)) ht (List.all_eq_true.1 hc _ (List.mem_of_getElem? hx)) hsub hN m2⟩
    | agg cs => exact one (.agg cs) hat hc hv
    | olist ty sz es => exact one (.olist ty sz es) hat hc hv
    | any => exact rep_any
    | int _ _ => exact rep_clean1 hsub rfl rfl hv
    | bool _ => exact rep_clean1 hsub rfl rfl hv
    | str _ => exact rep_clean1 hsub rfl rfl hv
    | nil => exact rep_clean1 hsub rfl rfl hv
    | list _ _ => exact rep_clean1 hsub rfl rfl hv
    | ptr _ => exact rep_clean1 hsub rfl rfl hv
    | own _ _ _ => cases hc
    | clist _ _ => cases hc
    | osl _ _ _ => cases hc
    | fn _ _ _ => cases hc
  have hbx' : ∀ id r, ioMem (withEs ios fin') id = some (some r) → r.bx = false := by
    intro id r h
    simp only [ioMem] at h
    split at h
    · rw [withEs_at ios fin' _ hl] at h
      cases hk : ios[id.2]? with
      | none => rw [hk] at h; simp at h
      | some row0 =>
        cases hk2 : fin'[id.2]? with
        | none => rw [hk, hk2] at h; simp at h
        | some es =>
          rw [hk, hk2] at h
          simp at h
          rw [← h]
          exact hbx row0 (List.mem_of_getElem? hk)
    · cases h
  have hnew : WRel G ρ' w X (ioMem (withEs ios fin')) w' := by
    refine ⟨fun id id' r r' b z z' h1 h2 => hrel.inj id id' r r' b z z' (hN id r h1).1 (hN id' r' h2).1, fun id r h => ?_, fun id r h => hrel.new id r (hN id r h).1, hrel.keep, hrel.good⟩
    have hr := hrel.row id r (hN id r h).1
    have hb := hbx' id r h
    cases hρ : ρ' id with
    | none => rw [hρ] at hr; exact hr
    | some bz =>
      obtain ⟨b, z⟩ := bz
      rw [hρ] at hr
      obtain ⟨cur, C, g1, g2, g3, g4, g5, g6⟩ := hr
      refine ⟨cur, C, g1, g2, g3, g4, g5, fun i e hi => ⟨(g6 i e hi).1, fun j u hu => ?_⟩⟩
      obtain ⟨c, k1, k2, k3⟩ := (g6 i e hi).2 j u hu
      rw [hb] at k3 ⊢
      exact ⟨c, k1, k2, k3.pureMono fun b hb => ⟨hsub b hb, rfl⟩⟩
  refine ⟨?_, ?_, ?_⟩
  · rw [thaw_frz]; exact hnew
  · intro id row b z h1
    rw [thaw_frz] at h1
    cases h1
  · rw [thaw_frz]
    exact key.mono (fun b hb => ⟨⟨hb, fun h => by cases h⟩, rfl⟩) (MLe.refl _ _ _)
end
end Go.Vs
set_option linter.unusedVariables false
set_option linter.unusedSimpArgs false
set_option maxRecDepth 100000
set_option maxHeartbeats 4000000
namespace Go.Vs
open Go.Proofs
attribute [local irreducible] exec vwp thenQ blkQ loopQ RetPost
def kPut (l : List Int) (n : Int) : Nat := (l.takeWhile fun x => decide (x < n)).length
def put (l : List Int) (n : Int) : List Int := if l[kPut l n]? = some n then l else l.take (kPut l n) ++ (n :: l.drop (kPut l n))
theorem kPut_is : ∀ {l : List Int} {n : Int} {k : Nat}, k ≤ l.length → (∀ (j : Nat) x, j < k → l[j]? = some x → x < n) → (∀ x, l[k]? = some x → ¬ x < n) → kPut l n = k
  | [], n, k, hk, _, _ => by simp at hk; subst hk; rfl
  | a :: l, n, k, hk, h1, h2 => by
    unfold kPut
    cases k with
    | zero =>
      have := h2 a rfl
      rw [List.takeWhile_cons_of_neg (by simpa using this)]
      rfl
    | succ k =>
      have h0 := h1 0 a aO rfl
      rw [List.takeWhile_cons_of_pos (by simpa using h0), List.length_cons]
      have := kPut_is (l := l) (n := n) (k := k) (by simpa using hk) (fun j x hj hx => h1 (j + 1) x aO (by simpa using hx)) (fun x hx => h2 x (by simpa using hx))
      unfold kPut at this
      rw [this]
theorem kPut_le (l : List Int) (n : Int) : kPut l n ≤ l.length := (List.takeWhile_prefix _).length_le
theorem kPut_lt : ∀ (l : List Int) (n : Int) (j : Nat) x, j < kPut l n → l[j]? = some x → x < n
  | [], n, j, x, h, _ => by simp [kPut] at h
  | a :: l, n, j, x, h, hx => by
    unfold kPut at h
    by_cases h0 : a < n
    · rw [List.takeWhile_cons_of_pos (by simpa using h0), List.length_cons] at h
      cases j with
      | zero => simp at hx; omega
      | succ j => exact kPut_lt l n j x (by unfold kPut; omega) (by simpa using hx)
    · rw [List.takeWhile_cons_of_neg (by simpa using h0)] at h
      simp at h
theorem kPut_ge : ∀ (l : List Int) (n : Int) x, l[kPut l n]? = some x → n ≤ x
  | [], n, x, h => by simp at h
  | a :: l, n, x, h => by
    unfold kPut at h
    by_cases h0 : a < n
    · rw [List.takeWhile_cons_of_pos (by simpa using h0), List.length_cons, List.getElem?_cons_succ] at h
      exact kPut_ge l n x h
    · rw [List.takeWhile_cons_of_neg (by simpa using h0)] at h
      simp at h
      omega
theorem put_len (l : List Int) (n : Int) : (put l n).length ≤ l.length + 1 := by
  have := kPut_le l n
  unfold put
  split
  · omega
  · simp; omega
theorem put_mem {l : List Int} {n y : Int} : y ∈ put l n ↔ y ∈ l ∨ y = n := by
  unfold put
  split
  · rename_i h
    exact ⟨.inl, fun h2 => by rcases h2 with h2 | rfl; exact h2; exact get_mem h⟩
  · have : y ∈ l ↔ y ∈ l.take (kPut l n) ∨ y ∈ l.drop (kPut l n) := by rw [← List.mem_append, List.take_append_drop]
    simp only [List.mem_append, List.mem_cons, this]
    constructor
    · rintro (h | h | h)
      · exact .inl (.inl h)
      · exact .inr h
      · exact .inl (.inr h)
    · rintro ((h | h) | h)
      · exact .inl h
      · exact .inr (.inr h)
      · exact .inr (.inl h)
theorem put_pair {l : List Int} {n : Int} (h : l.Pairwise (· < ·)) : (put l n).Pairwise (· < ·) := by
  unfold put
  split
  · exact h
  · rename_i hne
    have ht : ∀ x ∈ l.take (kPut l n), x < n := fun x hx => by
      obtain ⟨j, hj⟩ := List.getElem?_of_mem hx
      rw [List.getElem?_take] at hj
      split at hj
      · exact kPut_lt l n j x aA hj
      · cases hj
    have hsplit : (l.take (kPut l n) ++ l.drop (kPut l n)).Pairwise (· < ·) := by rw [List.take_append_drop]; exact h
    rw [List.pairwise_append] at hsplit
    have hd : ∀ x ∈ l.drop (kPut l n), n < x := by
      intro x hx
      cases hc : l.drop (kPut l n) with
      | nil => rw [hc] at hx; cases hx
      | cons a r =>
        have ha : l[kPut l n]? = some a := by
          have : (l.drop (kPut l n))[0]? = some a := by rw [hc]; rfl
          rw [List.getElem?_drop] at this
          simpa using this
        have h1 := kPut_ge l n a ha
        have h2 : a ≠ n := fun e => hne (by rw [← e]; rw [e] at ha ⊢; exact ha)
        rw [hc] at hx
        rcases List.mem_cons.1 hx with rfl | hx
        · omega
        · have := hsplit.2.1
          rw [hc] at this
          have := (List.pairwise_cons.1 this).1 x hx
          omega
    rw [List.pairwise_append]
    refine ⟨hsplit.1, ?_, ?_⟩
    · rw [List.pairwise_cons]
      exact ⟨hd, hsplit.2.1⟩
    · intro a ha b hb
      rcases List.mem_cons.1 hb with rfl | hb
      · exact ht a ha
      · have := ht a ha; have := hd b hb; omega
theorem rise_ext : ∀ {a b : List Int}, a.Pairwise (· < ·) → b.Pairwise (· < ·) → (∀ x, x ∈ a ↔ x ∈ b) → a = b
  | [], [], _, _, _ => rfl
  | [], y :: b, _, _, h => by have := (h y).2 (by simp); cases this
  | x :: a, [], _, _, h => by have := (h x).1 (by simp); cases this
  | x :: a, y :: b, ha, hb, h => by
    rw [List.pairwise_cons] at ha hb
    have hxy : x = y := by
      have h1 := (h x).1 (by simp)
      have h2 := (h y).2 (by simp)
      rcases List.mem_cons.1 h1 with h1 | h1
      · exact h1
      · rcases List.mem_cons.1 h2 with h2 | h2
        · exact h2.symm
        · have := hb.1 x h1; have := ha.1 y h2; omega
    subst hxy
    rw [rise_ext ha.2 hb.2 fun z => ?_]
    have hz := h z
    simp only [List.mem_cons] at hz
    constructor
    · intro hm
      rcases hz.1 (.inr hm) with rfl | h2
      · have := ha.1 z hm; omega
      · exact h2
    · intro hm
      rcases hz.2 (.inr hm) with rfl | h2
      · have := hb.1 z hm; omega
      · exact h2
end Go.Vs
set_option linter.unusedVariables false
set_option linter.unusedSimpArgs false
set_option maxRecDepth 100000
set_option maxHeartbeats 4000000
namespace Go.Vs
open Go.Proofs
theorem cells_rise (n : Nat) (p : Nat → Bool) : (cellsL n p).Pairwise (· < ·) := by
  induction n with
  | zero => simp [cellsL]
  | succ n ih =>
    cases h : p n with
    | false => rw [cellsL_f h]; exact ih
    | true =>
      rw [cellsL_t h, List.pairwise_append]
      refine ⟨ih, by simp, fun a ha b hb => ?_⟩
      obtain ⟨i, h1, _, rfl⟩ := cellsL_mem.1 ha
      rw [List.mem_singleton] at hb
      subst hb
      omega
theorem rise_nodup {l : List Int} (h : l.Pairwise (· < ·)) : l.Nodup := h.imp fun h => by omega
theorem nodup_sub : ∀ {l m : List Int}, l.Nodup → (∀ x ∈ l, x ∈ m) → l.length ≤ m.length
  | [], _, _, _ => by simp
  | a :: l, m, hn, hs => by
    obtain ⟨h1, h2⟩ := List.nodup_cons.1 hn
    have ha := hs a (by simp)
    have h3 := nodup_sub (l := l) (m := m.erase a) h2 fun x hx => (List.mem_erase_of_ne (fun e => h1 (by rw [← e]; exact hx))).2 (hs x (List.mem_cons_of_mem _ hx))
    rw [List.length_erase_of_mem ha] at h3
    have := List.length_pos_of_mem ha
    rw [List.length_cons]
    omega
theorem cells_mem {n : Nat} {p : Int → Bool} {x : Int} : x ∈ cellsL n (fun i => p (i : Int)) ↔ (0 ≤ x ∧ x < n) ∧ p x = true := by
  rw [cellsL_mem]
  constructor
  · rintro ⟨i, h1, h2, rfl⟩
    exact ⟨by omega, h2⟩
  · rintro ⟨h1, h2⟩
    refine ⟨x.toNat, by omega, ?_, by omega⟩
    rw [show ((x.toNat : Nat) : Int) = x by omega]
    exact h2
@[reducible] def inP (cells : List Int) (st : Int → Int → Bool) (a c : Int) : Bool := decide (c ∈ cells) && st a c
noncomputable def cmp (t : Terrain) (cells : List Int) (st : Int → Int → Bool) (c : Int) : List Int := flL t (inP cells st) [c]
@[reducible] def Rx (t : Terrain) (cells : List Int) (st : Int → Int → Bool) (c x : Int) : Prop := Fl t (fun a c => inP cells st a c = true) [c] x
structure Set1 (t : Terrain) (cells : List Int) (st : Int → Int → Bool) : Prop where
  cel : ∀ c ∈ cells, IsCell t c
  sym : ∀ a c, a ∈ cells → c ∈ cells → st a c = true → st c a = true
section
variable {t : Terrain} {cells : List Int} {st : Int → Int → Bool} {c x y : Int}
theorem rx_self : Rx t cells st c c := .src (by simp)
theorem rx_in (hc : c ∈ cells) (h : Rx t cells st c x) : x ∈ cells := by
  induction h with
  | src hm => rw [List.mem_singleton] at hm; subst hm; exact hc
  | step _ _ hp _ => rw [Bool.and_eq_true, decide_eq_true_eq] at hp; exact hp.1
theorem rx_trans (h : Rx t cells st c x) (h2 : Rx t cells st x y) : Rx t cells st c y := by
  induction h2 with
  | src hm => rw [List.mem_singleton] at hm; subst hm; exact h
  | step _ h1 h2 ih => exact .step ih h1 h2
theorem rx_symm (hS : Set1 t cells st) (hc : c ∈ cells) (h : Rx t cells st c x) : Rx t cells st x c := by
  induction h with
  | src hm => rw [List.mem_singleton] at hm; subst hm; exact rx_self
  | @step a b h1 h2 hp ih =>
    have ha := rx_in hc h1
    rw [Bool.and_eq_true, decide_eq_true_eq] at hp
    refine rx_trans (.step rx_self (hS.cel a ha) ?_) ih
    rw [Bool.and_eq_true, decide_eq_true_eq]
    exact ⟨ha, hS.sym a b ha hp.1 hp.2⟩
theorem cmp_mem (hS : Set1 t cells st) (hc : c ∈ cells) : x ∈ cmp t cells st c ↔ Rx t cells st c x := by
  rw [cmp, flL_mem]
  exact ⟨fun h => h.2, fun h => ⟨hS.cel x (rx_in hc h), h⟩⟩
theorem cmp_self (hS : Set1 t cells st) (hc : c ∈ cells) : c ∈ cmp t cells st c := (cmp_mem hS hc).2 rx_self
theorem cmp_sub (hS : Set1 t cells st) (hc : c ∈ cells) (h : x ∈ cmp t cells st c) : x ∈ cells := rx_in hc ((cmp_mem hS hc).1 h)
theorem cmp_rise : (cmp t cells st c).Pairwise (· < ·) := by unfold cmp flL; exact cells_rise _ _
theorem cmp_len : (cmp t cells st c).length ≤ t.burn.length := flL_len
theorem cmp_eq (hS : Set1 t cells st) (hc : c ∈ cells) (h : x ∈ cmp t cells st c) : cmp t cells st x = cmp t cells st c := by
  have hx := cmp_sub hS hc h
  have h1 := (cmp_mem hS hc).1 h
  refine rise_ext cmp_rise cmp_rise fun y => ?_
  rw [cmp_mem hS hx, cmp_mem hS hc]
  exact ⟨fun h2 => rx_trans h1 h2, fun h2 => rx_trans (rx_symm hS hc h1) h2⟩
theorem cmp_symm (hS : Set1 t cells st) (hc : c ∈ cells) (h : x ∈ cmp t cells st c) : c ∈ cmp t cells st x := by rw [cmp_eq hS hc h]; exact cmp_self hS hc
noncomputable def hdB (t : Terrain) (cells : List Int) (st : Int → Int → Bool) (c : Int) : Bool := decide ((cmp t cells st c)[0]? = some c)
theorem rise_head {l : List Int} (h : l.Pairwise (· < ·)) {a y : Int} (ha : l[0]? = some a) (hy : y ∈ l) : a ≤ y := by
  cases l with
  | nil => cases hy
  | cons b l =>
    simp at ha
    subst ha
    rcases List.mem_cons.1 hy with rfl | h2
    · omega
    · have := (List.pairwise_cons.1 h).1 y h2; omega
theorem cmp_head (hS : Set1 t cells st) (hc : c ∈ cells) : ∃ a, (cmp t cells st c)[0]? = some a ∧ a ∈ cells ∧ a ≤ c ∧ a ∈ cmp t cells st c ∧ hdB t cells st a = true := by
  have h1 := cmp_self hS hc
  obtain ⟨a, ha⟩ := get_ex (show 0 < (cmp t cells st c).length from List.length_pos_of_mem h1)
  have h2 := get_mem ha
  exact ⟨a, ha, cmp_sub hS hc h2, rise_head cmp_rise ha h1, h2, by unfold hdB; rw [cmp_eq hS hc h2, ha]; simp⟩
theorem hd_iff (hS : Set1 t cells st) (hc : c ∈ cells) : hdB t cells st c = true ↔ ∀ y ∈ cmp t cells st c, c ≤ y := by
  obtain ⟨a, h1, h2, h3, h4, h5⟩ := cmp_head hS hc
  unfold hdB
  rw [decide_eq_true_eq]
  constructor
  · intro h y hy; exact rise_head cmp_rise h hy
  · intro h; have := h a h4; rw [h1]; congr 1; omega
theorem seen_iff (hS : Set1 t cells st) (hr : cells.Pairwise (· < ·)) {i : Nat} (hi : cells[i]? = some c) : (∃ d ∈ cells.take i, c ∈ cmp t cells st d) ↔ hdB t cells st c = false := by
  have hc := get_mem hi
  rw [← Bool.not_eq_true, hd_iff hS hc]
  constructor
  · rintro ⟨d, hd, hcd⟩ h
    obtain ⟨j, hj⟩ := List.getElem?_of_mem hd
    rw [List.getElem?_take] at hj
    split at hj
    · have hdm := get_mem hj
      have h1 := h d (cmp_symm hS hdm hcd)
      rw [List.pairwise_iff_getElem] at hr
      have h2 := hr j i (get_lt hj) (get_lt hi) aA
      rw [List.getElem?_eq_getElem (get_lt hj)] at hj
      rw [List.getElem?_eq_getElem (get_lt hi)] at hi
      injection hj with hj
      injection hi with hi
      omega
    · cases hj
  · intro h
    obtain ⟨a, h1, h2, h3, h4, h5⟩ := cmp_head hS hc
    have hne : a ≠ c := fun e => h fun y hy => by rw [← e]; exact rise_head cmp_rise h1 hy
    obtain ⟨j, hj⟩ := List.getElem?_of_mem h2
    refine ⟨a, ?_, cmp_symm hS hc h4⟩
    have : j < i := by
      rcases Nat.lt_or_ge j i with h6 | h6
      · exact h6
      · rcases Nat.lt_or_ge i j with h7 | h7
        · rw [List.pairwise_iff_getElem] at hr
          have h8 := hr i j (get_lt hi) (get_lt hj) h7
          rw [List.getElem?_eq_getElem (get_lt hj)] at hj
          rw [List.getElem?_eq_getElem (get_lt hi)] at hi
          injection hj with hj
          injection hi with hi
          omega
        · have : i = j := by omega
          subst this
          rw [hi] at hj
          injection hj with hj
          exact absurd hj.symm hne
    exact List.mem_of_getElem? (by rw [List.getElem?_take, if_pos this]; exact hj)
noncomputable def ptL (t : Terrain) (cells : List Int) (st : Int → Int → Bool) : List (List Int) := (cells.filter (hdB t cells st)).map (cmp t cells st)
theorem ptL_mem {p : List Int} : p ∈ ptL t cells st ↔ ∃ c ∈ cells, hdB t cells st c = true ∧ p = cmp t cells st c := by
  unfold ptL
  rw [List.mem_map]
  constructor
  · rintro ⟨c, h1, rfl⟩
    obtain ⟨h2, h3⟩ := List.mem_filter.1 h1
    exact ⟨c, h2, h3, rfl⟩
  · rintro ⟨c, h1, h2, rfl⟩
    exact ⟨c, List.mem_filter.2 ⟨h1, h2⟩, rfl⟩
theorem ptL_at {i : Nat} {p : List Int} (h : (ptL t cells st)[i]? = some p) : ∃ c ∈ cells, hdB t cells st c = true ∧ p = cmp t cells st c ∧ p[0]? = some c ∧ (cells.filter (hdB t cells st))[i]? = some c := by
  unfold ptL at h
  rw [List.getElem?_map] at h
  cases hc : (cells.filter (hdB t cells st))[i]? with
  | none => rw [hc] at h; cases h
  | some c =>
    rw [hc] at h
    injection h with h
    subst h
    obtain ⟨h2, h3⟩ := List.mem_filter.1 (get_mem hc)
    exact ⟨c, h2, h3, rfl, by have := h3; unfold hdB at this; exact of_decide_eq_true this, rfl⟩
theorem ptL_heads (hr : cells.Pairwise (· < ·)) {i : Nat} {p q : List Int} {a b : Int} (hp : (ptL t cells st)[i]? = some p) (hq : (ptL t cells st)[i + 1]? = some q) (ha : p[0]? = some a) (hb : q[0]? = some b) : a < b := by
  obtain ⟨c, _, _, _, h1, h2⟩ := ptL_at hp
  obtain ⟨d, _, _, _, h3, h4⟩ := ptL_at hq
  rw [h1] at ha
  rw [h3] at hb
  injection ha with ha
  injection hb with hb
  have := hr.filter (hdB t cells st)
  rw [List.pairwise_iff_getElem] at this
  have h5 := this i (i + 1) (get_lt h2) (get_lt h4) aO
  rw [List.getElem?_eq_getElem (get_lt h2)] at h2
  rw [List.getElem?_eq_getElem (get_lt h4)] at h4
  injection h2 with h2
  injection h4 with h4
  omega
theorem ptL_perm (hS : Set1 t cells st) (hr : cells.Pairwise (· < ·)) : (ptL t cells st).flatten.Perm cells := by
  rw [List.perm_ext_iff_of_nodup]
  · intro x
    rw [List.mem_flatten]
    constructor
    · rintro ⟨p, hp, hx⟩
      obtain ⟨c, hc, _, rfl⟩ := ptL_mem.1 hp
      exact cmp_sub hS hc hx
    · intro hx
      obtain ⟨a, h1, h2, h3, h4, h5⟩ := cmp_head hS hx
      exact ⟨cmp t cells st a, ptL_mem.2 ⟨a, h2, h5, rfl⟩, cmp_symm hS hx h4⟩
  · unfold List.Nodup
    rw [List.pairwise_flatten]
    constructor
    · intro p hp
      obtain ⟨c, _, _, rfl⟩ := ptL_mem.1 hp
      exact rise_nodup cmp_rise
    · unfold ptL
      rw [List.pairwise_map]
      refine List.Pairwise.imp_of_mem (fun {a b} ha hb hab => ?_) (hr.filter (hdB t cells st))
      intro x hx y hy e
      subst e
      obtain ⟨ha1, ha2⟩ := List.mem_filter.1 ha
      obtain ⟨hb1, hb2⟩ := List.mem_filter.1 hb
      have e1 := cmp_eq hS ha1 hx
      have e2 := cmp_eq hS hb1 hy
      unfold hdB at ha2 hb2
      rw [decide_eq_true_eq] at ha2 hb2
      rw [← e1, e2, hb2] at ha2
      injection ha2 with ha2
      omega
  · exact rise_nodup hr
@[reducible] def lenI (l : List Int) : Int := l.length
theorem sum_flat : ∀ L : List (List Int), sumBy lenI L = (L.flatten.length : Int)
  | [] => rfl
  | l :: L => by rw [sumBy_cons, sum_flat L, List.flatten_cons, List.length_append]; unfold lenI; omega
theorem ptL_sum (hS : Set1 t cells st) (hr : cells.Pairwise (· < ·)) : sumBy lenI (ptL t cells st) = cells.length := by
  rw [sum_flat, (ptL_perm hS hr).length_eq]
theorem Set1.sub (hS : Set1 t cells st) {p : List Int} (hp : ∀ x ∈ p, x ∈ cells) : Set1 t p st := ⟨fun c hc => hS.cel c (hp c hc), fun a c ha hc => hS.sym a c (hp a ha) (hp c hc)⟩
theorem cmp_alone (hS : Set1 t cells st) (hc : c ∈ cells) (hx : x ∈ cmp t cells st c) : cmp t (cmp t cells st c) st x = cmp t cells st c := by
  have hS2 : Set1 t (cmp t cells st c) st := hS.sub fun y hy => cmp_sub hS hc hy
  have hxc := cmp_sub hS hc hx
  refine rise_ext cmp_rise cmp_rise fun y => ⟨fun h => cmp_sub hS2 hx h, fun h => ?_⟩
  rw [cmp_mem hS2 hx]
  rw [← cmp_eq hS hc hx, cmp_mem hS hxc] at h
  induction h with
  | src hm => exact .src hm
  | @step a b h1 h2 hp ih =>
    refine .step ih h2 ?_
    rw [Bool.and_eq_true, decide_eq_true_eq] at hp ⊢
    refine ⟨?_, hp.2⟩
    rw [← cmp_eq hS hc hx, cmp_mem hS hxc]
    refine .step h1 h2 ?_
    rw [Bool.and_eq_true, decide_eq_true_eq]
    exact hp
theorem ptL_alone (hS : Set1 t cells st) (hc : c ∈ cells) : (ptL t (cmp t cells st c) st).length = 1 := by
  obtain ⟨a, h1, h2, h3, h4, h5⟩ := cmp_head hS hc
  unfold ptL
  rw [List.length_map]
  have e : (cmp t cells st c).filter (hdB t (cmp t cells st c) st) = (cmp t cells st c).filter (fun x => decide (x = a)) := by
    refine List.filter_congr fun x hx => ?_
    unfold hdB
    rw [cmp_alone hS hc hx, h1, Bool.eq_iff_iff, decide_eq_true_eq, decide_eq_true_eq]
    exact ⟨fun h => by injection h with h; exact h.symm, fun h => by rw [h]⟩
  rw [e]
  have hnd := rise_nodup (cmp_rise (t := t) (cells := cells) (st := st) (c := c))
  generalize cmp t cells st c = l at h4 hnd
  clear e h1 h3
  induction l with
  | nil => cases h4
  | cons b l ih =>
    obtain ⟨n1, n2⟩ := List.nodup_cons.1 hnd
    by_cases hb : b = a
    · subst hb
      rw [List.filter_cons_of_pos (by simp), List.length_cons, List.filter_eq_nil_iff.2 fun x hx => by simp; intro e; exact n1 (by rw [← e]; exact hx)]
      rfl
    · rw [List.filter_cons_of_neg (by simpa using hb)]
      exact ih (by rcases List.mem_cons.1 h4 with h | h; exact absurd h.symm hb; exact h) n2
end
end Go.Vs
set_option linter.unusedVariables false
set_option linter.unusedSimpArgs false
set_option maxRecDepth 100000
set_option maxHeartbeats 4000000
namespace Go.Vs
open Go.Proofs
@[reducible] def apB (t : Terrain) (a b : Int) : Bool := decide (apart t a b = 1)
@[reducible] def besB (t : Terrain) (a b : Int) : Bool := decide (apart t a b = 1) && (decide (colOf t a = colOf t b) || decide (rowOf t a = rowOf t b))
@[reducible] def bordB (t : Terrain) (c : Int) : Bool := decide (colOf t c = 0) || (decide (rowOf t c = 0) || (decide (colOf t c = t.width - 1) || decide (rowOf t c = t.height - 1)))
@[reducible] def innB (t : Terrain) (p : List Int) : Bool := p.all fun c => !bordB t c
@[reducible] def ouB (region : List Int) (i : Nat) : Bool := decide ((i : Int) ∉ region)
def outR (t : Terrain) (region : List Int) : List Int := cellsL t.burn.length (ouB region)
theorem outR_mem {t : Terrain} {region : List Int} {x : Int} : x ∈ outR t region ↔ IsCell t x ∧ x ∉ region := by
  rw [outR, cellsL_mem]
  constructor
  · rintro ⟨i, h1, h2, rfl⟩
    exact ⟨⟨by omega, by omega⟩, of_decide_eq_true h2⟩
  · rintro ⟨h1, h2⟩
    have h3 := h1.1
    have h4 := h1.2
    refine ⟨x.toNat, by omega, ?_, by omega⟩
    rw [ouB, show ((x.toNat : Nat) : Int) = x by omega]
    exact decide_eq_true h2
theorem besB_comm (t : Terrain) (a b : Int) : besB t a b = besB t b a := by
  simp only [besB, apart_comm t a b, eq_comm (a := colOf t a), eq_comm (a := rowOf t a)]
theorem set_ap {t : Terrain} {region : List Int} (h : ∀ c ∈ region, IsCell t c) : Set1 t region (apB t) := ⟨h, fun a c _ _ he => by unfold apB at *; rw [apart_comm]; exact he⟩
theorem set_out (t : Terrain) (region : List Int) : Set1 t (outR t region) (besB t) := ⟨fun c hc => (outR_mem.1 hc).1, fun a c _ _ he => by rw [besB_comm]; exact he⟩
theorem outR_rise (t : Terrain) (region : List Int) : (outR t region).Pairwise (· < ·) := cells_rise _ _
noncomputable def hlL (t : Terrain) (region : List Int) : List (List Int) := (ptL t (outR t region) (besB t)).filter (innB t)
theorem hlL_mem {t : Terrain} {region p : List Int} : p ∈ hlL t region ↔ p ∈ ptL t (outR t region) (besB t) ∧ innB t p = true := by unfold hlL; exact List.mem_filter
noncomputable def flF (t : Terrain) (region : List Int) : List Int := cellsL t.burn.length fun i => decide ((i : Int) ∈ region ∨ (i : Int) ∈ (hlL t region).flatten)
theorem hole_out {t : Terrain} {region : List Int} {x : Int} (h : x ∈ (hlL t region).flatten) : x ∈ outR t region := by
  obtain ⟨p, hp, hx⟩ := List.mem_flatten.1 h
  obtain ⟨c, hc, _, rfl⟩ := ptL_mem.1 (hlL_mem.1 hp).1
  exact cmp_sub (set_out t region) hc hx
theorem flF_mem {t : Terrain} {region : List Int} (hr : ∀ c ∈ region, IsCell t c) {x : Int} : x ∈ flF t region ↔ x ∈ region ∨ x ∈ (hlL t region).flatten := by
  unfold flF
  rw [cells_mem (p := fun i => decide (i ∈ region ∨ i ∈ (hlL t region).flatten)), decide_eq_true_eq]
  exact ⟨fun h => h.2, fun h => ⟨h.elim (hr x) fun h => (outR_mem.1 (hole_out h)).1, h⟩⟩
theorem flF_rise (t : Terrain) (region : List Int) : (flF t region).Pairwise (· < ·) := cells_rise _ _
theorem flF_cell {t : Terrain} {region : List Int} {x : Int} (h : x ∈ flF t region) : IsCell t x := by
  unfold flF at h
  rw [cells_mem (p := fun i => decide (i ∈ region ∨ i ∈ (hlL t region).flatten))] at h
  exact h.1
theorem holes_full {t : Terrain} {region : List Int} (hr : ∀ c ∈ region, IsCell t c) : hlL t (flF t region) = [] := by
  unfold hlL
  rw [List.filter_eq_nil_iff]
  intro p hp hin
  obtain ⟨c, hc, _, rfl⟩ := ptL_mem.1 hp
  obtain ⟨hcc, hcf⟩ := outR_mem.1 hc
  have hno : ∀ {x : Int}, x ∉ flF t region ↔ x ∉ region ∧ x ∉ (hlL t region).flatten := fun {x} => by rw [flF_mem hr, not_or]
  rw [hno] at hcf
  have hS := set_out t region
  have hS2 := set_out t (flF t region)
  have hco : c ∈ outR t region := outR_mem.2 ⟨hcc, hcf.1⟩
  obtain ⟨a, h1, h2, h3, h4, h5⟩ := cmp_head hS hco
  have hin2 : innB t (cmp t (outR t region) (besB t) c) = false := by
    rw [← Bool.not_eq_true]
    intro h
    refine hcf.2 (List.mem_flatten.2 ⟨cmp t (outR t region) (besB t) c, hlL_mem.2 ⟨ptL_mem.2 ⟨a, h2, h5, (cmp_eq hS hco h4).symm⟩, h⟩, cmp_self hS hco⟩)
  have hall : ∀ y ∈ cmp t (outR t region) (besB t) c, y ∈ outR t (flF t region) := by
    intro y hy
    have hyo := cmp_sub hS hco hy
    refine outR_mem.2 ⟨(outR_mem.1 hyo).1, hno.2 ⟨(outR_mem.1 hyo).2, fun hf => ?_⟩⟩
    obtain ⟨q, hq, hyq⟩ := List.mem_flatten.1 hf
    obtain ⟨hq1, hq2⟩ := hlL_mem.1 hq
    obtain ⟨d, hd, _, rfl⟩ := ptL_mem.1 hq1
    have e1 := cmp_eq hS hd hyq
    have e2 := cmp_eq hS hco hy
    rw [← e1, e2, hin2] at hq2
    cases hq2
  have hwit : ∃ x ∈ cmp t (outR t region) (besB t) c, bordB t x = true := by
    unfold innB at hin2
    rw [List.all_eq_false] at hin2
    obtain ⟨x, hx, hb⟩ := hin2
    refine ⟨x, hx, ?_⟩
    cases h0 : bordB t x with
    | true => rfl
    | false => rw [h0] at hb; exact absurd rfl hb
  obtain ⟨x, hx, hbx⟩ := hwit
  have hx2 : x ∈ cmp t (outR t (flF t region)) (besB t) c := by
    rw [cmp_mem hS2 hc]
    have h := (cmp_mem hS hco).1 hx
    clear hx hbx
    induction h with
    | src hm => exact .src hm
    | @step u v g1 g2 hp ih =>
      refine .step ih g2 ?_
      rw [Bool.and_eq_true, decide_eq_true_eq] at hp ⊢
      refine ⟨hall v ((cmp_mem hS hco).2 (.step g1 g2 ?_)), hp.2⟩
      rw [Bool.and_eq_true, decide_eq_true_eq]
      exact hp
  unfold innB at hin
  rw [List.all_eq_true] at hin
  have := hin x hx2
  rw [hbx] at this
  cases this
theorem fill_full {t : Terrain} {region : List Int} (hr : ∀ c ∈ region, IsCell t c) : flF t (flF t region) = flF t region := by
  refine rise_ext (flF_rise _ _) (flF_rise _ _) fun x => ?_
  rw [flF_mem (fun c hc => flF_cell hc), holes_full hr]
  simp
theorem hole_flat_nodup (t : Terrain) (region : List Int) : (hlL t region).flatten.Nodup := by
  have h : (ptL t (outR t region) (besB t)).flatten.Nodup := (ptL_perm (set_out t region) (outR_rise t region)).nodup_iff.2 (rise_nodup (outR_rise t region))
  unfold List.Nodup at h ⊢
  rw [List.pairwise_flatten] at h ⊢
  unfold hlL
  exact ⟨fun p hp => h.1 p (List.mem_filter.1 hp).1, h.2.filter _⟩
theorem fill_len {t : Terrain} {region : List Int} (hr : ∀ c ∈ region, IsCell t c) (hu : region.Pairwise (· < ·)) : ((flF t region).length : Int) = region.length + sumBy lenI (hlL t region) := by
  have h : (flF t region).Perm (region ++ (hlL t region).flatten) := by
    rw [List.perm_ext_iff_of_nodup (rise_nodup (flF_rise t region))]
    · intro x
      rw [flF_mem hr, List.mem_append]
    · rw [List.nodup_append]
      exact ⟨rise_nodup hu, hole_flat_nodup t region, fun a ha b hb e => by subst e; exact (outR_mem.1 (hole_out hb)).2 ha⟩
  rw [h.length_eq, List.length_append, sum_flat]
  omega
@[reducible] def sdC (t : Terrain) (region : List Int) (c : Int) : Int := 4 - ((region.filter (besB t c)).length : Int)
def edgL (t : Terrain) (region : List Int) : Int := sumBy (sdC t region) region
theorem sum_ind (p : Int → Bool) : ∀ l : List Int, sumBy (fun c => if p c = true then (1 : Int) else 0) l = ((l.filter p).length : Int)
  | [] => rfl
  | a :: l => by
    rw [sumBy_cons, sum_ind p l]
    by_cases h : p a = true
    · rw [if_pos h, List.filter_cons_of_pos h, List.length_cons]; omega
    · rw [if_neg h, List.filter_cons_of_neg h]; omega
theorem sumBy_two {α : Type} (f g : α → Int) : ∀ l : List α, sumBy (fun a => f a + g a) l = sumBy f l + sumBy g l
  | [] => rfl
  | a :: l => by rw [sumBy_cons, sumBy_cons, sumBy_cons, sumBy_two f g l]; omega
@[reducible] def dgF (r : Int → Int → Bool) (l : List Int) (c : Int) : Int := ((l.filter (r c)).length : Int)
theorem deg_even (r : Int → Int → Bool) (hs : ∀ a b, r a b = r b a) (hi : ∀ a, r a a = false) : ∀ l : List Int, ∃ k : Int, sumBy (dgF r l) l = 2 * k
  | [] => ⟨0, rfl⟩
  | a :: l => by
    obtain ⟨k, hk⟩ := deg_even r hs hi l
    have e1 : dgF r (a :: l) a = ((l.filter (r a)).length : Int) := by
      unfold dgF
      rw [List.filter_cons_of_neg (by rw [hi]; simp)]
    have e2 : sumBy (dgF r (a :: l)) l = sumBy (fun c => (if r a c = true then (1 : Int) else 0) + dgF r l c) l := by
      refine sumBy_congr fun c hc => ?_
      unfold dgF
      rw [hs a c]
      by_cases h : r c a = true
      · rw [if_pos h, List.filter_cons_of_pos h, List.length_cons]; omega
      · rw [if_neg h, List.filter_cons_of_neg h]; omega
    refine ⟨((l.filter (r a)).length : Int) + k, ?_⟩
    rw [sumBy_cons, e1, e2, sumBy_two, sum_ind, hk]
    omega
theorem bes_irr (t : Terrain) (a : Int) : besB t a a = false := by
  have : apart t a a = 0 := by simp only [apart, absI]; omega
  unfold besB
  rw [this]
  rfl
theorem bes_near {t : Terrain} (hg : GoodT t) {c x : Int} (hc : IsCell t c) (hx : IsCell t x) (h : besB t c x = true) : x = c - 1 ∨ x = c + 1 ∨ x = c - t.width ∨ x = c + t.width := by
  have p1 := (cell_place hg hc).2.2
  have p2 := (cell_place hg hx).2.2
  unfold besB at h
  rw [Bool.and_eq_true, Bool.or_eq_true, decide_eq_true_eq, decide_eq_true_eq, decide_eq_true_eq] at h
  obtain ⟨h1, h2⟩ := h
  simp only [apart, absI] at h1
  generalize colOf t c = a at *
  generalize colOf t x = a2 at *
  generalize rowOf t c = r at *
  generalize rowOf t x = r2 at *
  rcases h2 with h2 | h2
  · have : r2 = r + 1 ∨ r2 = r - 1 := by omega
    rcases this with e | e
    · subst e; rw [Int.add_mul] at p2; omega
    · subst e; rw [Int.sub_mul] at p2; omega
  · subst h2; omega
theorem sd_bnd {t : Terrain} (hg : GoodT t) {region : List Int} (hr : ∀ c ∈ region, IsCell t c) (hu : region.Pairwise (· < ·)) {c : Int} (hc : c ∈ region) : 0 ≤ sdC t region c ∧ sdC t region c ≤ 4 ∧ (region[0]? = some c → 2 ≤ sdC t region c) := by
  have hnd : (region.filter (besB t c)).Nodup := rise_nodup (hu.filter _)
  have hw := hg.1.1
  have h1 := nodup_sub (l := region.filter (besB t c)) (m := [c - 1, c + 1, c - t.width, c + t.width]) hnd fun x hx => by
    obtain ⟨hx1, hx2⟩ := List.mem_filter.1 hx
    have := bes_near hg (hr c hc) (hr x hx1) hx2
    simp only [List.mem_cons, List.not_mem_nil, or_false]
    omega
  simp only [List.length_cons, List.length_nil] at h1
  refine ⟨by unfold sdC; omega, by unfold sdC; omega, fun h0 => ?_⟩
  have h2 := nodup_sub (l := region.filter (besB t c)) (m := [c + 1, c + t.width]) hnd fun x hx => by
    obtain ⟨hx1, hx2⟩ := List.mem_filter.1 hx
    have h3 := bes_near hg (hr c hc) (hr x hx1) hx2
    have h4 := rise_head hu h0 hx1
    have h5 : x ≠ c := fun e => by subst e; rw [bes_irr] at hx2; cases hx2
    simp only [List.mem_cons, List.not_mem_nil, or_false]
    omega
  simp only [List.length_cons, List.length_nil] at h2
  unfold sdC
  omega
theorem sum_sub (f : Int → Int) : ∀ l : List Int, sumBy (fun c => 4 - f c) l = 4 * (l.length : Int) - sumBy f l
  | [] => rfl
  | a :: l => by rw [sumBy_cons, sumBy_cons, sum_sub f l, List.length_cons]; omega
theorem edg_even {t : Terrain} (region : List Int) : ∃ k : Int, edgL t region = 2 * k := by
  obtain ⟨k, hk⟩ := deg_even (besB t) (besB_comm t) (bes_irr t) region
  unfold edgL
  rw [show sumBy (sdC t region) region = sumBy (fun c => 4 - dgF (besB t) region c) region from rfl, sum_sub, hk]
  exact ⟨2 * (region.length : Int) - k, by omega⟩
theorem edg_pos {t : Terrain} (hg : GoodT t) {region : List Int} (hr : ∀ c ∈ region, IsCell t c) (hu : region.Pairwise (· < ·)) : 0 ≤ edgL t region ∧ edgL t region ≤ 4 * (region.length : Int) ∧ (edgL t region = 0 ↔ region.length = 0) := by
  have h1 := sumBy_bound (sdC t region) 4 region fun c hc => by have := sd_bnd hg hr hu hc; omega
  refine ⟨h1.1, h1.2, ⟨fun h => ?_, fun h => ?_⟩⟩
  · rcases Nat.eq_zero_or_pos region.length with h0 | h0
    · exact h0
    · obtain ⟨c, hc⟩ := get_ex h0
      have h2 := (sd_bnd hg hr hu (get_mem hc)).2.2 hc
      have h3 := sumBy_take_succ (sdC t region) hc
      have h4 := (sumBy_take_le (sdC t region) region (fun y hy => (sd_bnd hg hr hu hy).1) 1).1
      rw [Nat.zero_add] at h3
      rw [h3] at h4
      simp [sumBy] at h4
      unfold edgL sumBy at h
      omega
  · rw [List.eq_nil_of_length_eq_zero h]; rfl
end Go.Vs
