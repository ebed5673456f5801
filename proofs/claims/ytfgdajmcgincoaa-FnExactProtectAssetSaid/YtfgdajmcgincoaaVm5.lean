/- RISK: assets by their parts in the expected loss: sorting by a closure; the best protection. -/
import Derived.Test.YtfgdajmcgincoaaVau
import Derived.Test.YtfgdajmcgincoaaVm4
import Derived.Test.YtfgdajmcgincoaaVsE
set_option linter.unusedVariables false
set_option linter.unusedSimpArgs false
set_option maxRecDepth 100000
set_option maxHeartbeats 4000000
set_option pp.deepTerms false
set_option pp.deepTerms.threshold 4
set_option format.width 220
namespace Go.Vs
open Go.Proofs
attribute [local irreducible] exec vwp thenQ blkQ loopQ RetPost

/- Plain: insertion, the sorted begin held in reverse. -/
def insR (f : Asset → Int) (x : Asset) : List Asset → List Asset
  | [] => [x]
  | y :: q => if f y < f x then y :: insR f x q else x :: y :: q
def srtR (f : Asset → Int) (l : List Asset) : List Asset := l.foldl (fun q x => insR f x q) []
theorem srtR_snoc (f : Asset → Int) (l : List Asset) (x : Asset) : srtR f (l ++ [x]) = insR f x (srtR f l) := by simp [srtR]
theorem insR_len (f : Asset → Int) (x : Asset) : ∀ q : List Asset, (insR f x q).length = q.length + 1
  | [] => rfl
  | y :: q => by unfold insR; split <;> simp [insR_len f x q]
theorem srtR_len (f : Asset → Int) (l : List Asset) : (srtR f l).length = l.length := by
  have : ∀ (l q : List Asset), (l.foldl (fun q x => insR f x q) q).length = q.length + l.length := by
    intro l
    induction l with
    | nil => intro q; rfl
    | cons x l ih => intro q; rw [List.foldl_cons, ih, insR_len]; simp; omega
  simpa [srtR] using this l []
theorem insR_mem {f : Asset → Int} {x a : Asset} : ∀ {q : List Asset}, a ∈ insR f x q ↔ a = x ∨ a ∈ q
  | [] => by simp [insR]
  | y :: q => by
    unfold insR
    split
    · rw [List.mem_cons, insR_mem, List.mem_cons]
      constructor
      · rintro (h | h | h)
        · exact .inr (.inl h)
        · exact .inl h
        · exact .inr (.inr h)
      · rintro (h | h | h)
        · exact .inr (.inl h)
        · exact .inl h
        · exact .inr (.inr h)
    · simp
theorem srtR_mem {f : Asset → Int} {a : Asset} {l : List Asset} : a ∈ srtR f l ↔ a ∈ l := by
  have : ∀ (l q : List Asset), a ∈ l.foldl (fun q x => insR f x q) q ↔ a ∈ q ∨ a ∈ l := by
    intro l
    induction l with
    | nil => intro q; simp
    | cons x l ih =>
      intro q
      rw [List.foldl_cons, ih, insR_mem, List.mem_cons]
      constructor
      · rintro ((h | h) | h)
        · exact .inr (.inl h)
        · exact .inl h
        · exact .inr (.inr h)
      · rintro (h | h | h)
        · exact .inl (.inr h)
        · exact .inl (.inl h)
        · exact .inr h
  simpa [srtR] using this l []
def Asc (f : Asset → Int) (q : List Asset) : Prop := q.Pairwise fun a b => f a ≤ f b
theorem insR_asc {f : Asset → Int} {x : Asset} : ∀ {q : List Asset}, Asc f q → Asc f (insR f x q)
  | [], _ => by simp [Asc, insR]
  | y :: q, h => by
    unfold Asc at h
    rw [List.pairwise_cons] at h
    unfold insR
    split
    · rename_i hlt
      unfold Asc
      rw [List.pairwise_cons]
      refine ⟨fun a ha => ?_, insR_asc h.2⟩
      rcases insR_mem.1 ha with rfl | ha
      · omega
      · exact h.1 a ha
    · rename_i hge
      unfold Asc
      rw [List.pairwise_cons, List.pairwise_cons]
      refine ⟨fun a ha => ?_, h.1, h.2⟩
      rcases List.mem_cons.1 ha with rfl | ha
      · omega
      · have := h.1 a ha; omega
theorem srtR_asc (f : Asset → Int) (l : List Asset) : Asc f (srtR f l) := by
  have : ∀ (l q : List Asset), Asc f q → Asc f (l.foldl (fun q x => insR f x q) q) := by
    intro l
    induction l with
    | nil => intro q h; exact h
    | cons x l ih => intro q h; exact ih _ (insR_asc h)
  exact this l [] (by simp [Asc])
theorem insR_last {f : Asset → Int} {x z : Asset} : ∀ {q : List Asset}, Asc f q → q.getLast? = some z → (insR f x q).getLast? = some (if f z < f x then x else z)
  | [], _, h => by simp at h
  | [y], _, h => by
    simp at h
    subst h
    unfold insR
    split <;> simp [insR]
  | y :: y' :: q, h, hz => by
    have h' := h
    unfold Asc at h
    rw [List.pairwise_cons] at h
    have hz' : (y' :: q).getLast? = some z := by simpa [List.getLast?_cons] using hz
    have ih := insR_last (x := x) (q := y' :: q) h.2 hz'
    unfold insR
    split
    · cases hq : insR f x (y' :: q) with
      | nil => have := insR_len f x (y' :: q); rw [hq] at this; simp at this
      | cons a r => rw [hq] at ih; simpa [List.getLast?_cons] using ih
    · rename_i hge
      have hzm := h.1 z (List.mem_of_getLast? hz')
      rw [if_neg aO]
      simpa [List.getLast?_cons] using hz
theorem srtR_last (f : Asset → Int) (xs : List Asset) : ∀ n, n + 1 ≤ xs.length → (srtR f (xs.take (n + 1))).getLast? = some (xs.getD (amax (fun i => f (xs.getD i a0)) (n + 1)) a0)
  | 0, h => by
    obtain ⟨a, ha⟩ := get_ex (show 0 < xs.length by omega)
    rw [take_succ ha, List.take_zero, List.nil_append, amax_one, getA ha]
    rfl
  | n + 1, h => by
    obtain ⟨a, ha⟩ := get_ex (show n + 1 < xs.length by omega)
    have ih := srtR_last f xs n aO
    have e : amax (fun i => f (xs.getD i a0)) (n + 1 + 1) = if f (xs.getD (n + 1) a0) > f (xs.getD (amax (fun i => f (xs.getD i a0)) (n + 1)) a0) then n + 1 else amax (fun i => f (xs.getD i a0)) (n + 1) := rfl
    rw [take_succ ha, srtR_snoc, insR_last (srtR_asc f _) ih, e]
    generalize amax (fun i => f (xs.getD i a0)) (n + 1) = m at *
    by_cases h1 : f (xs.getD m a0) < f a
    · rw [if_pos h1, if_pos (by simp only [getA ha]; exact h1), getA ha]
    · rw [if_neg h1, if_neg (by simp only [getA ha]; exact h1)]

/- Contracts. -/
def cmpI (a b : Int) : Int := if a < b then -1 else if a > b then 1 else 0
theorem k_isNaN (x : Int) : Con Try.prog 63 [.int .i64 x] (.bool false) := by
  intro al
  refine contract_of hmix Try.func63 rfl (by kernel_rfl) (by kernel_rfl) (Nat.le_of_ble_eq_true rfl) (fun row h => by cases h) ?_
  repeat' (first
      | (refine g_exec ?_; first | (refine g_move ?_; refine x_moveO _ rfl ?_) | (refine g_assign ?_; refine x_assignO _ rfl ?_) | (refine g_bin ?_; first | (refine x_bin _ rfl rfl rfl ?_) | (refine x_boolNe aA rfl rfl ?_) | (refine x_strBin _ rfl rfl rfl ?_)) | (refine x_nil (hK _ _ (.inl rfl) ?_); clear hK K) | (refine x_nil (hK _ _ (.inr (by kernel_rfl)) ?_); clear hK K))
      | (refine g_code ?_; first | (refine v_seq ?_) | (refine v_region (fun K hK => ?_)) | (refine v_block ?_) | (refine v_skip ?_) | (refine v_ret ?_) | (refine v_exit ?_))
      | (refine q_then ?_) | (refine q_then_r ?_) | (refine q_then_e ?_) | (refine q_blk_n ?_) | (refine q_blk_r ?_) | (refine q_blk_e ?_) | (refine q_blk_o rfl ?_) | (refine q_loop_r ?_) | (refine q_loop_e ?_) | (refine ret_n ?_))
  all_goals (refine ret_bool rfl (lookE_ok rfl) ?_; simp)
theorem k_compare (a b : Int) : Con Try.prog 43 [.int .i64 a, .int .i64 b] (.int .i64 (cmpI a b)) := by
  intro al
  refine contract_of hmix Try.func43 rfl (by kernel_rfl) (by kernel_rfl) (Nat.le_of_ble_eq_true rfl) (fun row h => by cases h) ?_
  repeat' (first
      | (refine g_exec ?_; first | (refine g_move ?_; refine x_moveO _ rfl ?_) | (refine g_assign ?_; refine x_assignO _ rfl ?_) | (refine g_bin ?_; first | (refine x_bin _ rfl rfl rfl ?_) | (refine x_strBin _ rfl rfl rfl ?_)) | (refine g_call ?_; first | (refine x_callG true (k_isNaN a) rfl rfl rfl aS rfl aH ?_; simp only [cl]) | (refine x_callG true (k_isNaN b) rfl rfl rfl aS rfl aH ?_; simp only [cl])) | (refine x_nil (hK _ _ (.inl rfl) ?_); clear hK K) | (refine x_nil (hK _ _ (.inr (by kernel_rfl)) ?_); clear hK K))
      | (refine g_code ?_; first | (refine v_seq ?_) | (refine v_region (fun K hK => ?_)) | (refine v_block ?_) | (refine v_skip ?_) | (refine v_ret ?_) | (refine v_exit ?_) | (refine g_cond ?_; first | (refine v_cond_y rfl aD ?_) | (refine v_cond_n rfl aD ?_) | (refine v_condt rfl (fun h => ?_) (fun h => ?_) <;> (have h' := h; (try simp only [sx] at h')))))
      | (refine q_then ?_) | (refine q_then_r ?_) | (refine q_then_e ?_) | (refine q_blk_n ?_) | (refine q_blk_r ?_) | (refine q_blk_e ?_) | (refine q_blk_o rfl ?_) | (refine q_loop_r ?_) | (refine q_loop_e ?_) | (refine ret_n ?_))
  all_goals (refine ret_int rfl (lookE_ok rfl) ?_; unfold cmpI; simp only [sx] at *; first | (rw [if_pos aO]) | (rw [if_neg aO, if_pos aO]) | (rw [if_neg aO, if_neg aO]))
theorem k_part (xs : List Asset) (ys : List Scene) (a : Asset) (hw : WtOk ys) (hg : GoodA xs) (ha : a ∈ xs) (hb : ∀ s ∈ ys, s.burned.length ≤ 1099511627776) : Con Try.prog 44 [.agg a.pv, .list 2 (ys.map Scene.pv)] (.int .i64 (partA ys a)) := by
  intro al
  refine contract_of hmix Try.func44 rfl (by kernel_rfl) (by kernel_rfl) (Nat.le_of_ble_eq_true rfl) (fun row h => by cases h) ?_
  have hty_f55_0 := ty_f55_0
  have hty_c3 := ty_c3
  have hty_u31 := ty_u31
  have hty_s31 := ty_s31
  have hty_f55_2 := ty_f55_2
  have hty_f55_3 := ty_f55_3
  have h1 := part_bnd hw hg ha
  unfold partA at h1 ⊢
  repeat' (first
      | (refine g_exec ?_; first | (refine g_move ?_; refine x_moveO _ rfl ?_) | (refine g_assign ?_; refine x_assignO _ rfl ?_) | (refine g_bin ?_; first | (refine x_mul rfl rfl aO ?_) | (refine x_bin _ rfl rfl rfl ?_)) | (refine g_load ?_; first | (refine x_load_pc aA rfl ?_) | (refine x_load_oc _ aA rfl rfl aE rfl ?_) | (refine x_load_pa _ aA rfl aZ aL ?_) | (refine x_load_oa _ aA rfl rfl aE aZ aL ?_)) | (refine g_field ?_; first | (refine x_field_p _ aA rfl aL ?_) | (refine x_field_o _ aA rfl rfl (by simp only [lx, Nat.reduceAdd]; first | done | rfl) ?_)) | (refine g_call ?_; refine x_callG true (k_burnWeight ys a.id hw hb) rfl rfl rfl aS rfl aH ?_; simp only [cl]) | (refine x_boxO _ _ rfl rfl rfl rfl ?_) | (refine x_extract _ rfl rfl ?_) | (refine x_nil (hK _ _ (.inl rfl) ?_); clear hK K) | (refine x_nil (hK _ _ (.inr (by kernel_rfl)) ?_); clear hK K))
      | (refine g_code ?_; first | (refine v_seq ?_) | (refine v_region (fun K hK => ?_)) | (refine v_block ?_) | (refine v_skip ?_) | (refine v_ret ?_) | (refine v_exit ?_))
      | (refine q_then ?_) | (refine q_then_r ?_) | (refine q_then_e ?_) | (refine q_blk_n ?_) | (refine q_blk_r ?_) | (refine q_blk_e ?_) | (refine q_blk_o rfl ?_) | (refine q_loop_r ?_) | (refine q_loop_e ?_) | (refine ret_n ?_))
  all_goals first
    | (exfalso; omega)
    | exact ret_int rfl (lookE_ok rfl) rfl
theorem k_l24Rank (xs : List Asset) (ys : List Scene) (a : Asset) (hw : WtOk ys) (hg : GoodA xs) (ha : a ∈ xs) (hb : ∀ s ∈ ys, s.burned.length ≤ 1099511627776) : Con Try.prog 38 [.agg a.pv, .list 2 (ys.map Scene.pv)] (.int .i64 (partA ys a)) := by
  intro al
  refine contract_of hmix Try.func38 rfl (by kernel_rfl) (by kernel_rfl) (Nat.le_of_ble_eq_true rfl) (fun row h => by cases h) ?_
  have hty_f55_0 := ty_f55_0
  have hty_c3 := ty_c3
  have hty_u31 := ty_u31
  have hty_s31 := ty_s31
  have hty_f55_2 := ty_f55_2
  have hty_f55_3 := ty_f55_3
  have h1 := part_bnd hw hg ha
  unfold partA at h1 ⊢
  repeat' (first
      | (refine g_exec ?_; first | (refine g_move ?_; refine x_moveO _ rfl ?_) | (refine g_assign ?_; refine x_assignO _ rfl ?_) | (refine g_bin ?_; first | (refine x_mul rfl rfl aO ?_) | (refine x_bin _ rfl rfl rfl ?_)) | (refine g_load ?_; first | (refine x_load_pc aA rfl ?_) | (refine x_load_oc _ aA rfl rfl aE rfl ?_) | (refine x_load_pa _ aA rfl aZ aL ?_) | (refine x_load_oa _ aA rfl rfl aE aZ aL ?_)) | (refine g_field ?_; first | (refine x_field_p _ aA rfl aL ?_) | (refine x_field_o _ aA rfl rfl (by simp only [lx, Nat.reduceAdd]; first | done | rfl) ?_)) | (refine g_call ?_; refine x_callG true (k_l24Burns ys a.id hw hb) rfl rfl rfl aS rfl aH ?_; simp only [cl]) | (refine x_boxO _ _ rfl rfl rfl rfl ?_) | (refine x_nil (hK _ _ (.inl rfl) ?_); clear hK K) | (refine x_nil (hK _ _ (.inr (by kernel_rfl)) ?_); clear hK K))
      | (refine g_code ?_; first | (refine v_seq ?_) | (refine v_region (fun K hK => ?_)) | (refine v_block ?_) | (refine v_skip ?_) | (refine v_ret ?_) | (refine v_exit ?_))
      | (refine q_then ?_) | (refine q_then_r ?_) | (refine q_then_e ?_) | (refine q_blk_n ?_) | (refine q_blk_r ?_) | (refine q_blk_e ?_) | (refine q_blk_o rfl ?_) | (refine q_loop_r ?_) | (refine q_loop_e ?_) | (refine ret_n ?_))
  all_goals first
    | (exfalso; omega)
    | exact ret_int rfl (lookE_ok rfl) rfl
theorem k_rank1 (xs : List Asset) (ys : List Scene) (a b : Asset) (hw : WtOk ys) (hg : GoodA xs) (ha : a ∈ xs) (hb2 : b ∈ xs) (hb : ∀ s ∈ ys, s.burned.length ≤ 1099511627776) :
    Con Try.prog 42 [.agg a.pv, .agg b.pv, .ptr [.list 2 (ys.map Scene.pv)]] (.int .i64 (cmpI (partA ys b) (partA ys a))) := by
  intro al
  refine contract_of hmix Try.func42 rfl (by kernel_rfl) (by kernel_rfl) (Nat.le_of_ble_eq_true rfl) (fun row h => by cases h) ?_
  have hty_a55 := ty_a55
  have hty_c31 := ty_c31
  have hty_u31 := ty_u31
  have hty_s31 := ty_s31
  repeat' (first
      | (refine g_exec ?_; first | (refine g_assign ?_; refine x_assignO _ rfl ?_) | (refine g_load ?_; first | (refine x_load_pc aA rfl ?_) | (refine x_load_oc _ aA rfl rfl aE rfl ?_) | (refine x_load_pa _ aA rfl aZ aL ?_) | (refine x_load_oa _ aA rfl rfl aE aZ aL ?_)) | (refine g_call ?_; first | (refine x_callG true (k_part xs ys b hw hg hb2 hb) rfl rfl rfl aS rfl aH ?_; simp only [cl]) | (refine x_callG true (k_part xs ys a hw hg ha hb) rfl rfl rfl aS rfl aH ?_; simp only [cl]) | (refine x_callG true (k_compare _ _) rfl rfl rfl aS rfl aH ?_; simp only [cl])) | (refine x_boxO _ _ rfl rfl rfl rfl ?_) | (refine x_nil (hK _ _ (.inl rfl) ?_); clear hK K) | (refine x_nil (hK _ _ (.inr (by kernel_rfl)) ?_); clear hK K))
      | (refine g_code ?_; first | (refine v_seq ?_) | (refine v_region (fun K hK => ?_)) | (refine v_block ?_) | (refine v_skip ?_) | (refine v_ret ?_) | (refine v_exit ?_))
      | (refine q_then ?_) | (refine q_then_r ?_) | (refine q_then_e ?_) | (refine q_blk_n ?_) | (refine q_blk_r ?_) | (refine q_blk_e ?_) | (refine q_blk_o rfl ?_) | (refine q_loop_r ?_) | (refine q_loop_e ?_) | (refine ret_n ?_))
  all_goals exact ret_int rfl (lookE_ok rfl) rfl
theorem set_two {α : Type} (A B : List α) (y x : α) : ((A ++ y :: x :: B).set (A.length + 1) y).set A.length x = A ++ x :: y :: B := by
  simp [List.set_append]
theorem at_one {α : Type} (A B : List α) (y x : α) : (A ++ y :: x :: B)[A.length]? = some y ∧ (A ++ y :: x :: B)[A.length + 1]? = some x := by
  simp
theorem k_insSort (xs : List Asset) (g : FuncId) (u : List PV) (f : Asset → Int) (hg : ∀ a ∈ xs, ∀ b ∈ xs, Con Try.prog g [.agg a.pv, .agg b.pv, .ptr u] (.int .i64 (cmpI (f b) (f a)))) (hn : xs.length ≤ 10) :
    ContractP Try.prog 77 true [.osl (io, 0) 0 xs.length, .int .i64 0, .int .i64 (xs.length : Int), .fn g [] [.ptr u]] [⟨55, 4, xs.map Asset.pv, false⟩] (fun r' fin' => r' = .tuple [] ∧ fin' = [(srtR f xs).reverse.map Asset.pv]) := by
  refine contract_of hmix Try.func77 rfl (by kernel_rfl) (by kernel_rfl) (Nat.le_of_ble_eq_true rfl) (fun row h => by (simp only [List.mem_cons, List.not_mem_nil, or_false] at h; first | (subst h; (first | exact .inl rfl | exact .inr (fun e he u hu => by (simp only [List.mem_cons, List.not_mem_nil, or_false] at he; subst he; simp only [List.mem_cons, List.not_mem_nil, or_false] at hu; subst hu; rfl)))) | (rcases h with rfl | rfl <;> (first | exact .inl rfl | exact .inr (fun e he u hu => by (simp only [List.mem_cons, List.not_mem_nil, or_false] at he; subst he; simp only [List.mem_cons, List.not_mem_nil, or_false] at hu; subst hu; rfl)))) | (rcases h with rfl | rfl | rfl <;> (first | exact .inl rfl | exact .inr (fun e he u hu => by (simp only [List.mem_cons, List.not_mem_nil, or_false] at he; subst he; simp only [List.mem_cons, List.not_mem_nil, or_false] at hu; subst hu; rfl)))) | (rcases h with rfl | rfl | rfl | rfl <;> (first | exact .inl rfl | exact .inr (fun e he u hu => by (simp only [List.mem_cons, List.not_mem_nil, or_false] at he; subst he; simp only [List.mem_cons, List.not_mem_nil, or_false] at hu; subst hu; rfl)))))) ?_
  have hty_s29 := ty_s29
  have hty_a55 := ty_a55
  have hty_t55 := ty_t55
  repeat' (first
      | (refine g_exec ?_; first | (refine g_move ?_; refine x_moveO _ rfl ?_) | (refine g_assign ?_; refine x_assignO _ rfl ?_) | (refine g_bin ?_; first | (refine x_add rfl rfl aO ?_) | (refine x_sub rfl rfl aO ?_) | (refine x_bin _ rfl rfl rfl ?_) | (refine x_strBin _ rfl rfl rfl ?_)) | (refine g_load ?_; first | (refine x_load_pc aA rfl ?_) | (refine x_load_oc _ aA rfl rfl aE rfl ?_) | (refine x_load_pa _ aA rfl aZ aL ?_) | (refine x_load_oa _ aA rfl rfl aE aZ aL ?_)) | (refine g_index ?_; first | (refine x_index_l _ aA rfl rfl aO aA ?_) | (refine x_index_o _ aA rfl rfl rfl rfl aO aO (by first | (rw [Nat.zero_add, Int.toNat_natCast]) | (rw [Nat.zero_add]) | rfl) ?_)) | (refine g_pick ?_; first | (refine x_pick_b rfl aD rfl ?_) | (refine x_pick_c rfl aD ?_) | (refine x_pick_a rfl aD ?_) | (refine x_pick_d rfl aD rfl ?_)) | (refine g_guard ?_; first | (refine x_gyes rfl rfl aD ?_) | (refine x_gno rfl rfl aD ?_) | (refine x_gun rfl rfl ?_) | (refine x_gsplit rfl rfl (fun h => ?_) (fun h => ?_) <;> (have h' := h; (try simp only [sx] at h')))) | (refine x_storeO _ _ _ rfl rfl aE (by first | assumption | (exact TAgg.size aA)) rfl rfl rfl aZ rfl aL (by first | (first | (simp only [lx, Nat.reduceAdd]; first | done | rfl) | fail) | rfl) ?_) | (refine x_nil (hK _ _ (.inl rfl) ?_); clear hK K) | (refine x_nil (hK _ _ (.inr (by kernel_rfl)) ?_); clear hK K))
      | (refine g_code ?_; first | (refine v_seq ?_) | (refine v_region (fun K hK => ?_)) | (refine v_block ?_) | (refine v_skip ?_) | (refine v_ret ?_) | (refine v_exit ?_) | (refine g_cond ?_; first | (refine v_cond_y rfl aD ?_) | (refine v_cond_n rfl aD ?_) | (refine v_condt rfl (fun h => ?_) (fun h => ?_) <;> (have h' := h; (try simp only [sx] at h')))))
      | (refine q_then ?_) | (refine q_then_r ?_) | (refine q_then_e ?_) | (refine q_blk_n ?_) | (refine q_blk_r ?_) | (refine q_blk_e ?_) | (refine q_blk_o rfl ?_) | (refine q_loop_r ?_) | (refine q_loop_e ?_) | (refine ret_n ?_))
  all_goals try (exfalso; omega)
  refine v_loopK [0, 1, 2, 3] [(io, 0)] (fun q : Nat × List (List PV) => [(8, .int .i64 ((q.1 : Int) + 1))]) (fun q : Nat × List (List PV) => [((io, 0), some ⟨55, 4, q.2, false⟩)]) (fun q : Nat × List (List PV) => q.1 ≤ xs.length ∧ q.2 = ((srtR f (xs.take (q.1 + 1))).reverse ++ xs.drop (q.1 + 1)).map Asset.pv) (fun q : Nat × List (List PV) => xs.length - q.1) ((0, xs.map Asset.pv)) rfl rfl (fun _ => rfl) (fun _ => rfl) rfl (by refine ⟨?_, ?_, rfl, rfl⟩ <;> (repeat' (first | exact trivial | exact ⟨rfl, rfl⟩ | exact rfl | exact ⟨sub_fn, refs_fn⟩ | refine ⟨⟨rfl, rfl⟩, ?_⟩ | refine ⟨⟨sub_fn, refs_fn⟩, ?_⟩ | refine ⟨⟨rfl, fun h => Bool.noConfusion h⟩, ?_⟩ | refine ⟨⟨rfl, fun h => ?_⟩, ?_⟩ | refine ⟨rfl, ?_⟩ | refine ⟨?_, ?_⟩ | fail))) ⟨by simp, by simp only; congr 1; cases xs <;> rfl⟩ (fun q hq => ?_)
  obtain ⟨i, es⟩ := q
  obtain ⟨hi1, hi2⟩ := hq
  simp only at hi1 hi2
  dsimp only
  rcases Nat.lt_or_ge (i + 1) xs.length with hlt | hge
  · obtain ⟨x, hx⟩ := get_ex hlt
    have hsx : srtR f (xs.take (i + 1 + 1)) = insR f x (srtR f (xs.take (i + 1))) := by rw [take_succ hx, srtR_snoc]
    have hdr : xs.drop (i + 1) = x :: xs.drop (i + 1 + 1) := by
      rw [List.drop_eq_getElem_cons hlt]
      rw [List.getElem?_eq_getElem hlt] at hx
      injection hx with hx
      rw [hx]
    have hsl : (srtR f (xs.take (i + 1))).length = i + 1 := by rw [srtR_len, List.length_take]; omega
    have hmem : ∀ y ∈ srtR f (xs.take (i + 1)), y ∈ xs := fun y hy => List.mem_of_mem_take (srtR_mem.1 hy)
    have hxm := get_mem hx
    generalize hQ : srtR f (xs.take (i + 1)) = Q at *
    generalize hR : xs.drop (i + 1 + 1) = R at *
    have hRl : R.length = xs.length - (i + 2) := by rw [← hR, List.length_drop]
    rw [hdr] at hi2
    repeat' (first
      | (refine g_exec ?_; first | (refine g_move ?_; refine x_moveO _ rfl ?_) | (refine g_assign ?_; refine x_assignO _ rfl ?_) | (refine g_bin ?_; first | (refine x_add rfl rfl aO ?_) | (refine x_sub rfl rfl aO ?_) | (refine x_bin _ rfl rfl rfl ?_) | (refine x_strBin _ rfl rfl rfl ?_)) | (refine g_load ?_; first | (refine x_load_pc aA rfl ?_) | (refine x_load_oc _ aA rfl rfl aE rfl ?_) | (refine x_load_pa _ aA rfl aZ aL ?_) | (refine x_load_oa _ aA rfl rfl aE aZ aL ?_)) | (refine g_index ?_; first | (refine x_index_l _ aA rfl rfl aO aA ?_) | (refine x_index_o _ aA rfl rfl rfl rfl aO aO (by first | (rw [Nat.zero_add, Int.toNat_natCast]) | (rw [Nat.zero_add]) | rfl) ?_)) | (refine g_pick ?_; first | (refine x_pick_b rfl aD rfl ?_) | (refine x_pick_c rfl aD ?_) | (refine x_pick_a rfl aD ?_) | (refine x_pick_d rfl aD rfl ?_)) | (refine g_guard ?_; first | (refine x_gyes rfl rfl aD ?_) | (refine x_gno rfl rfl aD ?_) | (refine x_gun rfl rfl ?_) | (refine x_gsplit rfl rfl (fun h => ?_) (fun h => ?_) <;> (have h' := h; (try simp only [sx] at h')))) | (refine x_storeO _ _ _ rfl rfl aE (by first | assumption | (exact TAgg.size aA)) rfl rfl rfl aZ rfl aL (by first | (first | (simp only [lx, Nat.reduceAdd]; first | done | rfl) | fail) | rfl) ?_) | (refine x_nil (hK _ _ (.inl rfl) ?_); clear hK K) | (refine x_nil (hK _ _ (.inr (by kernel_rfl)) ?_); clear hK K))
      | (refine g_code ?_; first | (refine v_seq ?_) | (refine v_region (fun K hK => ?_)) | (refine v_block ?_) | (refine v_skip ?_) | (refine v_ret ?_) | (refine v_exit ?_) | (refine g_cond ?_; first | (refine v_cond_y rfl aD ?_) | (refine v_cond_n rfl aD ?_) | (refine v_condt rfl (fun h => ?_) (fun h => ?_) <;> (have h' := h; (try simp only [sx] at h')))))
      | (refine q_then ?_) | (refine q_then_r ?_) | (refine q_then_e ?_) | (refine q_blk_n ?_) | (refine q_blk_r ?_) | (refine q_blk_e ?_) | (refine q_blk_o rfl ?_) | (refine q_loop_r ?_) | (refine q_loop_e ?_) | (refine ret_n ?_))
    all_goals try (exfalso; omega)
    refine v_loopK [0, 1, 2, 3, 8] [(io, 0)] (fun r : Int × List Asset × List Asset × List (List PV) => [(9, .int .i64 r.1)]) (fun r : Int × List Asset × List Asset × List (List PV) => [((io, 0), some ⟨55, 4, r.2.2.2, false⟩)]) (fun r : Int × List Asset × List Asset × List (List PV) => r.2.2.2 = (r.2.1.reverse ++ x :: (r.2.2.1 ++ R)).map Asset.pv ∧ r.2.1.length + r.2.2.1.length = i + 1 ∧ (insR f x r.2.1).reverse ++ r.2.2.1 = (insR f x Q).reverse ∧ (∀ y ∈ r.2.1, y ∈ xs) ∧ r.1 = (r.2.1.length : Int)) (fun r : Int × List Asset × List Asset × List (List PV) => r.2.1.length) (((i : Int) + 1, Q, [], es)) rfl rfl (fun _ => rfl) (fun _ => rfl) rfl (by refine ⟨?_, ?_, rfl, rfl⟩ <;> (repeat' (first | exact trivial | exact ⟨rfl, rfl⟩ | exact rfl | exact ⟨sub_fn, refs_fn⟩ | refine ⟨⟨rfl, rfl⟩, ?_⟩ | refine ⟨⟨sub_fn, refs_fn⟩, ?_⟩ | refine ⟨⟨rfl, fun h => Bool.noConfusion h⟩, ?_⟩ | refine ⟨⟨rfl, fun h => ?_⟩, ?_⟩ | refine ⟨rfl, ?_⟩ | refine ⟨?_, ?_⟩ | fail))) ⟨by simpa using hi2, by simp; exact hsl, by simp, hmem, by simp only; omega⟩ (fun r hr => ?_)
    obtain ⟨j, q, mvd, fs⟩ := r
    obtain ⟨h1, h2, h3, h4, h5⟩ := hr
    simp only at h1 h2 h3 h4 h5
    dsimp only
    have hfl : fs.length = xs.length := by rw [h1]; simp; omega
    cases q with
    | nil =>
      simp only [List.length_nil, Int.natCast_zero, Int.ofNat_zero] at h5
      repeat' (first
      | (refine g_exec ?_; first | (refine g_move ?_; refine x_moveO _ rfl ?_) | (refine g_assign ?_; refine x_assignO _ rfl ?_) | (refine g_bin ?_; first | (refine x_add rfl rfl aO ?_) | (refine x_sub rfl rfl aO ?_) | (refine x_bin _ rfl rfl rfl ?_) | (refine x_strBin _ rfl rfl rfl ?_)) | (refine g_load ?_; first | (refine x_load_pc aA rfl ?_) | (refine x_load_oc _ aA rfl rfl aE rfl ?_) | (refine x_load_pa _ aA rfl aZ aL ?_) | (refine x_load_oa _ aA rfl rfl aE aZ aL ?_)) | (refine g_index ?_; first | (refine x_index_l _ aA rfl rfl aO aA ?_) | (refine x_index_o _ aA rfl rfl rfl rfl aO aO (by first | (rw [Nat.zero_add, Int.toNat_natCast]) | (rw [Nat.zero_add]) | rfl) ?_)) | (refine g_pick ?_; first | (refine x_pick_b rfl aD rfl ?_) | (refine x_pick_c rfl aD ?_) | (refine x_pick_a rfl aD ?_) | (refine x_pick_d rfl aD rfl ?_)) | (refine g_guard ?_; first | (refine x_gyes rfl rfl aD ?_) | (refine x_gno rfl rfl aD ?_) | (refine x_gun rfl rfl ?_) | (refine x_gsplit rfl rfl (fun h => ?_) (fun h => ?_) <;> (have h' := h; (try simp only [sx] at h')))) | (refine x_storeO _ _ _ rfl rfl aE (by first | assumption | (exact TAgg.size aA)) rfl rfl rfl aZ rfl aL (by first | (first | (simp only [lx, Nat.reduceAdd]; first | done | rfl) | fail) | rfl) ?_) | (refine x_nil (hK _ _ (.inl rfl) ?_); clear hK K) | (refine x_nil (hK _ _ (.inr (by kernel_rfl)) ?_); clear hK K))
      | (refine g_code ?_; first | (refine v_seq ?_) | (refine v_region (fun K hK => ?_)) | (refine v_block ?_) | (refine v_skip ?_) | (refine v_ret ?_) | (refine v_exit ?_) | (refine g_cond ?_; first | (refine v_cond_y rfl aD ?_) | (refine v_cond_n rfl aD ?_) | (refine v_condt rfl (fun h => ?_) (fun h => ?_) <;> (have h' := h; (try simp only [sx] at h')))))
      | (refine q_then ?_) | (refine q_then_r ?_) | (refine q_then_e ?_) | (refine q_blk_n ?_) | (refine q_blk_r ?_) | (refine q_blk_e ?_) | (refine q_blk_o rfl ?_) | (refine q_loop_r ?_) | (refine q_loop_e ?_) | (refine ret_n ?_))
      all_goals try (exfalso; omega)
      all_goals (refine q_next (i + 1, fs) rfl (by refine ⟨?_, ?_, rfl, rfl⟩ <;> (repeat' (first | exact trivial | exact ⟨rfl, rfl⟩ | exact rfl | exact ⟨sub_fn, refs_fn⟩ | refine ⟨⟨rfl, rfl⟩, ?_⟩ | refine ⟨⟨sub_fn, refs_fn⟩, ?_⟩ | refine ⟨⟨rfl, fun h => Bool.noConfusion h⟩, ?_⟩ | refine ⟨⟨rfl, fun h => ?_⟩, ?_⟩ | refine ⟨rfl, ?_⟩ | refine ⟨?_, ?_⟩ | fail))) ⟨by simp only; omega, ?_⟩ (by simp only; omega))
      all_goals (simp only [h1, hsx, ← h3, insR]; simp; try rw [← List.map_drop, hR])
    | cons y q =>
      have hy := h4 y (by simp)
      have hql : (y :: q).length = q.length + 1 := rfl
      have hcmp := hg x hxm y hy
      have hA : (xs.length : Int) = xs.length := rfl
      have hes : fs = (q.reverse.map Asset.pv) ++ y.pv :: x.pv :: ((mvd ++ R).map Asset.pv) := by rw [h1]; simp
      have hat := at_one (q.reverse.map Asset.pv) ((mvd ++ R).map Asset.pv) y.pv x.pv
      rw [← hes, List.length_map, List.length_reverse] at hat
      have hst := set_two (q.reverse.map Asset.pv) ((mvd ++ R).map Asset.pv) y.pv x.pv
      rw [← hes, List.length_map, List.length_reverse] at hst
      by_cases hc : f y < f x
      · have hci : cmpI (f y) (f x) = -1 := by unfold cmpI; rw [if_pos hc]
        rw [hci] at hcmp
        rw [hql] at h5
        have hj1 : j.toNat = q.length + 1 := by omega
        have hj2 : (j - 1).toNat = q.length := by omega
        have hat1 : fs[(j - 1).toNat]? = some y.pv := by rw [hj2]; exact hat.1
        have hat2 : fs[j.toNat]? = some x.pv := by rw [hj1]; exact hat.2
        repeat' (first
      | (refine g_exec ?_; first | (refine g_move ?_; refine x_moveO _ rfl ?_) | (refine g_assign ?_; refine x_assignO _ rfl ?_) | (refine g_bin ?_; first | (refine x_add rfl rfl aO ?_) | (refine x_sub rfl rfl aO ?_) | (refine x_bin _ rfl rfl rfl ?_) | (refine x_strBin _ rfl rfl rfl ?_)) | (refine g_load ?_; first | (refine x_load_pc aA rfl ?_) | (refine x_load_oc _ aA rfl rfl aE rfl ?_) | (refine x_load_pa _ aA rfl aZ aL ?_) | (refine x_load_oa _ aA rfl rfl aE aZ aL ?_)) | (refine g_index ?_; first | (refine x_index_l _ aA rfl rfl aO aA ?_) | (refine x_index_o _ aA rfl rfl rfl rfl aO aO (by first | (rw [Nat.zero_add, Int.toNat_natCast]) | (rw [Nat.zero_add]) | rfl) ?_)) | (refine g_pick ?_; first | (refine x_pick_b rfl aD rfl ?_) | (refine x_pick_c rfl aD ?_) | (refine x_pick_a rfl aD ?_) | (refine x_pick_d rfl aD rfl ?_)) | (refine g_guard ?_; first | (refine x_gyes rfl rfl aD ?_) | (refine x_gno rfl rfl aD ?_) | (refine x_gun rfl rfl ?_) | (refine x_gsplit rfl rfl (fun h => ?_) (fun h => ?_) <;> (have h' := h; (try simp only [sx] at h')))) | (refine g_call ?_; refine x_callG true (hcmp) rfl rfl rfl aS rfl aH ?_; simp only [cl]) | (refine x_storeO _ _ _ rfl rfl aE (by first | assumption | (exact TAgg.size aA)) rfl rfl rfl aZ rfl aL (by first | (first | (simp only [lx, Nat.reduceAdd]; first | done | rfl) | fail) | rfl) ?_) | (refine x_nil (hK _ _ (.inl rfl) ?_); clear hK K) | (refine x_nil (hK _ _ (.inr (by kernel_rfl)) ?_); clear hK K))
      | (refine g_code ?_; first | (refine v_seq ?_) | (refine v_region (fun K hK => ?_)) | (refine v_block ?_) | (refine v_skip ?_) | (refine v_ret ?_) | (refine v_exit ?_) | (refine g_cond ?_; first | (refine v_cond_y rfl aD ?_) | (refine v_cond_n rfl aD ?_) | (refine v_condt rfl (fun h => ?_) (fun h => ?_) <;> (have h' := h; (try simp only [sx] at h')))))
      | (refine q_then ?_) | (refine q_then_r ?_) | (refine q_then_e ?_) | (refine q_blk_n ?_) | (refine q_blk_r ?_) | (refine q_blk_e ?_) | (refine q_blk_o rfl ?_) | (refine q_loop_r ?_) | (refine q_loop_e ?_) | (refine ret_n ?_))
        all_goals try (exfalso; omega)
        all_goals (refine q_next (j - 1, q, y :: mvd, (fs.set j.toNat y.pv).set (j - 1).toNat x.pv) rfl (by refine ⟨?_, ?_, rfl, rfl⟩ <;> (repeat' (first | exact trivial | exact ⟨rfl, rfl⟩ | exact rfl | exact ⟨sub_fn, refs_fn⟩ | refine ⟨⟨rfl, rfl⟩, ?_⟩ | refine ⟨⟨sub_fn, refs_fn⟩, ?_⟩ | refine ⟨⟨rfl, fun h => Bool.noConfusion h⟩, ?_⟩ | refine ⟨⟨rfl, fun h => ?_⟩, ?_⟩ | refine ⟨rfl, ?_⟩ | refine ⟨?_, ?_⟩ | fail))) ⟨?_, ?_, ?_, fun z hz => h4 z (by simp [hz]), ?_⟩ (by simp))
        all_goals first
          | (simp only [hj1, hj2, hst]; simp; done)
          | (have h2' := h2; simp at h2' ⊢; omega)
          | (have h3' := h3; rw [insR, if_pos hc] at h3'; simpa using h3')
          | (simp only; omega)
      · have hci : 0 ≤ cmpI (f y) (f x) := by unfold cmpI; rw [if_neg hc]; split <;> omega
        generalize cmpI (f y) (f x) = cv at *
        rw [hql] at h5
        have hj1 : j.toNat = q.length + 1 := by omega
        have hj2 : (j - 1).toNat = q.length := by omega
        have hat1 : fs[(j - 1).toNat]? = some y.pv := by rw [hj2]; exact hat.1
        have hat2 : fs[j.toNat]? = some x.pv := by rw [hj1]; exact hat.2
        repeat' (first
      | (refine g_exec ?_; first | (refine g_move ?_; refine x_moveO _ rfl ?_) | (refine g_assign ?_; refine x_assignO _ rfl ?_) | (refine g_bin ?_; first | (refine x_add rfl rfl aO ?_) | (refine x_sub rfl rfl aO ?_) | (refine x_bin _ rfl rfl rfl ?_) | (refine x_strBin _ rfl rfl rfl ?_)) | (refine g_load ?_; first | (refine x_load_pc aA rfl ?_) | (refine x_load_oc _ aA rfl rfl aE rfl ?_) | (refine x_load_pa _ aA rfl aZ aL ?_) | (refine x_load_oa _ aA rfl rfl aE aZ aL ?_)) | (refine g_index ?_; first | (refine x_index_l _ aA rfl rfl aO aA ?_) | (refine x_index_o _ aA rfl rfl rfl rfl aO aO (by first | (rw [Nat.zero_add, Int.toNat_natCast]) | (rw [Nat.zero_add]) | rfl) ?_)) | (refine g_pick ?_; first | (refine x_pick_b rfl aD rfl ?_) | (refine x_pick_c rfl aD ?_) | (refine x_pick_a rfl aD ?_) | (refine x_pick_d rfl aD rfl ?_)) | (refine g_guard ?_; first | (refine x_gyes rfl rfl aD ?_) | (refine x_gno rfl rfl aD ?_) | (refine x_gun rfl rfl ?_) | (refine x_gsplit rfl rfl (fun h => ?_) (fun h => ?_) <;> (have h' := h; (try simp only [sx] at h')))) | (refine g_call ?_; refine x_callG true (hcmp) rfl rfl rfl aS rfl aH ?_; simp only [cl]) | (refine x_storeO _ _ _ rfl rfl aE (by first | assumption | (exact TAgg.size aA)) rfl rfl rfl aZ rfl aL (by first | (first | (simp only [lx, Nat.reduceAdd]; first | done | rfl) | fail) | rfl) ?_) | (refine x_nil (hK _ _ (.inl rfl) ?_); clear hK K) | (refine x_nil (hK _ _ (.inr (by kernel_rfl)) ?_); clear hK K))
      | (refine g_code ?_; first | (refine v_seq ?_) | (refine v_region (fun K hK => ?_)) | (refine v_block ?_) | (refine v_skip ?_) | (refine v_ret ?_) | (refine v_exit ?_) | (refine g_cond ?_; first | (refine v_cond_y rfl aD ?_) | (refine v_cond_n rfl aD ?_) | (refine v_condt rfl (fun h => ?_) (fun h => ?_) <;> (have h' := h; (try simp only [sx] at h')))))
      | (refine q_then ?_) | (refine q_then_r ?_) | (refine q_then_e ?_) | (refine q_blk_n ?_) | (refine q_blk_r ?_) | (refine q_blk_e ?_) | (refine q_blk_o rfl ?_) | (refine q_loop_r ?_) | (refine q_loop_e ?_) | (refine ret_n ?_))
        all_goals try (exfalso; omega)
        all_goals (refine q_next (i + 1, fs) rfl (by refine ⟨?_, ?_, rfl, rfl⟩ <;> (repeat' (first | exact trivial | exact ⟨rfl, rfl⟩ | exact rfl | exact ⟨sub_fn, refs_fn⟩ | refine ⟨⟨rfl, rfl⟩, ?_⟩ | refine ⟨⟨sub_fn, refs_fn⟩, ?_⟩ | refine ⟨⟨rfl, fun h => Bool.noConfusion h⟩, ?_⟩ | refine ⟨⟨rfl, fun h => ?_⟩, ?_⟩ | refine ⟨rfl, ?_⟩ | refine ⟨?_, ?_⟩ | fail))) ⟨by simp only; omega, ?_⟩ (by simp only; omega))
        all_goals (rw [insR, if_neg hc] at h3; simp only [h1, hsx, ← h3]; simp; try rw [← List.map_drop, hR])
  · have hi3 : xs.take (i + 1) = xs := take_all hge
    have hi4 : xs.drop (i + 1) = [] := List.drop_eq_nil_of_le hge
    rw [hi3, hi4, List.append_nil] at hi2
    subst hi2
    repeat' (first
      | (refine g_exec ?_; first | (refine g_move ?_; refine x_moveO _ rfl ?_) | (refine g_assign ?_; refine x_assignO _ rfl ?_) | (refine g_bin ?_; first | (refine x_add rfl rfl aO ?_) | (refine x_sub rfl rfl aO ?_) | (refine x_bin _ rfl rfl rfl ?_) | (refine x_strBin _ rfl rfl rfl ?_)) | (refine g_load ?_; first | (refine x_load_pc aA rfl ?_) | (refine x_load_oc _ aA rfl rfl aE rfl ?_) | (refine x_load_pa _ aA rfl aZ aL ?_) | (refine x_load_oa _ aA rfl rfl aE aZ aL ?_)) | (refine g_index ?_; first | (refine x_index_l _ aA rfl rfl aO aA ?_) | (refine x_index_o _ aA rfl rfl rfl rfl aO aO (by first | (rw [Nat.zero_add, Int.toNat_natCast]) | (rw [Nat.zero_add]) | rfl) ?_)) | (refine g_pick ?_; first | (refine x_pick_b rfl aD rfl ?_) | (refine x_pick_c rfl aD ?_) | (refine x_pick_a rfl aD ?_) | (refine x_pick_d rfl aD rfl ?_)) | (refine g_guard ?_; first | (refine x_gyes rfl rfl aD ?_) | (refine x_gno rfl rfl aD ?_) | (refine x_gun rfl rfl ?_) | (refine x_gsplit rfl rfl (fun h => ?_) (fun h => ?_) <;> (have h' := h; (try simp only [sx] at h')))) | (refine x_storeO _ _ _ rfl rfl aE (by first | assumption | (exact TAgg.size aA)) rfl rfl rfl aZ rfl aL (by first | (first | (simp only [lx, Nat.reduceAdd]; first | done | rfl) | fail) | rfl) ?_) | (refine x_nil (hK _ _ (.inl rfl) ?_); clear hK K) | (refine x_nil (hK _ _ (.inr (by kernel_rfl)) ?_); clear hK K))
      | (refine g_code ?_; first | (refine v_seq ?_) | (refine v_region (fun K hK => ?_)) | (refine v_block ?_) | (refine v_skip ?_) | (refine v_ret ?_) | (refine v_exit ?_) | (refine g_cond ?_; first | (refine v_cond_y rfl aD ?_) | (refine v_cond_n rfl aD ?_) | (refine v_condt rfl (fun h => ?_) (fun h => ?_) <;> (have h' := h; (try simp only [sx] at h')))))
      | (refine q_then ?_) | (refine q_then_r ?_) | (refine q_then_e ?_) | (refine q_blk_n ?_) | (refine q_blk_r ?_) | (refine q_blk_e ?_) | (refine q_blk_o rfl ?_) | (refine q_loop_r ?_) | (refine q_loop_e ?_) | (refine ret_n ?_))
    all_goals first
      | (exfalso; omega)
      | exact ret_noneL (.inr rfl) rfl ⟨⟨by simp [srtR_len], rfl, fun h => by cases h⟩, trivial⟩
theorem k_stable (xs : List Asset) (g : FuncId) (u : List PV) (f : Asset → Int) (hg : ∀ a ∈ xs, ∀ b ∈ xs, Con Try.prog g [.agg a.pv, .agg b.pv, .ptr u] (.int .i64 (cmpI (f b) (f a)))) (hn : xs.length ≤ 10) :
    ContractP Try.prog 62 true [.osl (io, 0) 0 xs.length, .int .i64 (xs.length : Int), .fn g [] [.ptr u]] [⟨55, 4, xs.map Asset.pv, false⟩] (fun r' fin' => r' = .tuple [] ∧ fin' = [(srtR f xs).reverse.map Asset.pv]) := by
  refine contract_of hmix Try.func62 rfl (by kernel_rfl) (by kernel_rfl) (Nat.le_of_ble_eq_true rfl) (fun row h => by (simp only [List.mem_cons, List.not_mem_nil, or_false] at h; first | (subst h; (first | exact .inl rfl | exact .inr (fun e he u hu => by (simp only [List.mem_cons, List.not_mem_nil, or_false] at he; subst he; simp only [List.mem_cons, List.not_mem_nil, or_false] at hu; subst hu; rfl)))) | (rcases h with rfl | rfl <;> (first | exact .inl rfl | exact .inr (fun e he u hu => by (simp only [List.mem_cons, List.not_mem_nil, or_false] at he; subst he; simp only [List.mem_cons, List.not_mem_nil, or_false] at hu; subst hu; rfl)))) | (rcases h with rfl | rfl | rfl <;> (first | exact .inl rfl | exact .inr (fun e he u hu => by (simp only [List.mem_cons, List.not_mem_nil, or_false] at he; subst he; simp only [List.mem_cons, List.not_mem_nil, or_false] at hu; subst hu; rfl)))) | (rcases h with rfl | rfl | rfl | rfl <;> (first | exact .inl rfl | exact .inr (fun e he u hu => by (simp only [List.mem_cons, List.not_mem_nil, or_false] at he; subst he; simp only [List.mem_cons, List.not_mem_nil, or_false] at hu; subst hu; rfl)))))) ?_
  have hty_u29 := ty_u29
  have hty_s29 := ty_s29
  have hl1 : (xs.map Asset.pv).length = xs.length := by simp
  have hl2 : ((srtR f xs).reverse.map Asset.pv).length = xs.length := by simp [srtR_len]
  have k1 := k_insSort xs g u f hg hn
  repeat' (first
      | (refine g_exec ?_; first | (refine g_move ?_; refine x_moveO _ rfl ?_) | (refine g_assign ?_; refine x_assignO _ rfl ?_) | (refine g_bin ?_; first | (refine x_add rfl rfl aO ?_) | (refine x_mul rfl rfl aO ?_) | (refine x_bin _ rfl rfl rfl ?_) | (refine x_strBin _ rfl rfl rfl ?_)) | (refine x_nil (hK _ _ (.inl rfl) ?_); clear hK K) | (refine x_nil (hK _ _ (.inr (by kernel_rfl)) ?_); clear hK K))
      | (refine g_code ?_; first | (refine v_seq ?_) | (refine v_region (fun K hK => ?_)) | (refine v_block ?_) | (refine v_skip ?_) | (refine v_ret ?_) | (refine v_exit ?_) | (refine g_cond ?_; first | (refine v_cond_y rfl aD ?_) | (refine v_cond_n rfl aD ?_) | (refine v_condt rfl (fun h => ?_) (fun h => ?_) <;> (have h' := h; (try simp only [sx] at h')))))
      | (refine q_then ?_) | (refine q_then_r ?_) | (refine q_then_e ?_) | (refine q_blk_n ?_) | (refine q_blk_r ?_) | (refine q_blk_e ?_) | (refine q_blk_o rfl ?_) | (refine q_loop_r ?_) | (refine q_loop_e ?_) | (refine ret_n ?_))
  all_goals try (exfalso; omega)
  refine v_loopK [0, 1, 2, 6] [(io, 0)] (fun q : Unit => [(7, .int .i64 0), (8, .int .i64 20)]) (fun q : Unit => [((io, 0), some ⟨55, 4, xs.map Asset.pv, false⟩)]) (fun q : Unit => True) (fun q : Unit => 0) (()) rfl rfl (fun _ => rfl) (fun _ => rfl) rfl (by refine ⟨?_, ?_, rfl, rfl⟩ <;> (repeat' (first | exact trivial | exact ⟨rfl, rfl⟩ | exact rfl | exact ⟨sub_fn, refs_fn⟩ | refine ⟨⟨rfl, rfl⟩, ?_⟩ | refine ⟨⟨sub_fn, refs_fn⟩, ?_⟩ | refine ⟨⟨rfl, fun h => Bool.noConfusion h⟩, ?_⟩ | refine ⟨⟨rfl, fun h => ?_⟩, ?_⟩ | refine ⟨rfl, ?_⟩ | refine ⟨?_, ?_⟩ | fail))) trivial (fun q hq => ?_)
  repeat' (first
      | (refine g_exec ?_; first | (refine g_move ?_; refine x_moveO _ rfl ?_) | (refine g_assign ?_; refine x_assignO _ rfl ?_) | (refine g_bin ?_; first | (refine x_add rfl rfl aO ?_) | (refine x_mul rfl rfl aO ?_) | (refine x_bin _ rfl rfl rfl ?_) | (refine x_strBin _ rfl rfl rfl ?_)) | (refine g_call ?_; refine x_callL [(io, 0)] (k1) rfl rfl (by (repeat' (first | exact trivial | refine ⟨⟨_, rfl, ?_⟩, ?_⟩ | exact .inl ⟨rfl, .inl rfl⟩ | exact .inr ⟨rfl, rfl, rfl, rfl, rfl, fun e he u hu => by (simp only [List.mem_cons, List.not_mem_nil, or_false] at he; subst he; simp only [List.mem_cons, List.not_mem_nil, or_false] at hu; subst hu; rfl)⟩ | exact .inl ⟨rfl, .inr (fun e he => by (simp only [List.mem_cons, List.not_mem_nil, or_false] at he; subst he; rfl))⟩ | fail)); first | done | fail) rfl rfl aS rfl aH rfl ?_; simp only [cl]) | (refine x_nil (hK _ _ (.inl rfl) ?_); clear hK K) | (refine x_nil (hK _ _ (.inr (by kernel_rfl)) ?_); clear hK K))
      | (refine g_code ?_; first | (refine v_seq ?_) | (refine v_region (fun K hK => ?_)) | (refine v_block ?_) | (refine v_skip ?_) | (refine v_ret ?_) | (refine v_exit ?_) | (refine g_cond ?_; first | (refine v_cond_y rfl aD ?_) | (refine v_cond_n rfl aD ?_) | (refine v_condt rfl (fun h => ?_) (fun h => ?_) <;> (have h' := h; (try simp only [sx] at h')))))
      | (refine q_then ?_) | (refine q_then_r ?_) | (refine q_then_e ?_) | (refine q_blk_n ?_) | (refine q_blk_r ?_) | (refine q_blk_e ?_) | (refine q_blk_o rfl ?_) | (refine q_loop_r ?_) | (refine q_loop_e ?_) | (refine ret_n ?_))
  all_goals try (exfalso; omega)
  refine v_loopK [0, 1, 2] [(io, 0)] (fun q : Unit => [(6, .int .i64 20)]) (fun q : Unit => [((io, 0), some ⟨55, 4, (srtR f xs).reverse.map Asset.pv, false⟩)]) (fun q : Unit => True) (fun q : Unit => 0) (()) rfl rfl (fun _ => rfl) (fun _ => rfl) rfl (by refine ⟨?_, ?_, rfl, rfl⟩ <;> (repeat' (first | exact trivial | exact ⟨rfl, rfl⟩ | exact rfl | exact ⟨sub_fn, refs_fn⟩ | refine ⟨⟨rfl, rfl⟩, ?_⟩ | refine ⟨⟨sub_fn, refs_fn⟩, ?_⟩ | refine ⟨⟨rfl, fun h => Bool.noConfusion h⟩, ?_⟩ | refine ⟨⟨rfl, fun h => ?_⟩, ?_⟩ | refine ⟨rfl, ?_⟩ | refine ⟨?_, ?_⟩ | fail))) trivial (fun q hq => ?_)
  repeat' (first
      | (refine g_exec ?_; first | (refine g_move ?_; refine x_moveO _ rfl ?_) | (refine g_assign ?_; refine x_assignO _ rfl ?_) | (refine g_bin ?_; first | (refine x_add rfl rfl aO ?_) | (refine x_mul rfl rfl aO ?_) | (refine x_bin _ rfl rfl rfl ?_) | (refine x_strBin _ rfl rfl rfl ?_)) | (refine x_nil (hK _ _ (.inl rfl) ?_); clear hK K) | (refine x_nil (hK _ _ (.inr (by kernel_rfl)) ?_); clear hK K))
      | (refine g_code ?_; first | (refine v_seq ?_) | (refine v_region (fun K hK => ?_)) | (refine v_block ?_) | (refine v_skip ?_) | (refine v_ret ?_) | (refine v_exit ?_) | (refine g_cond ?_; first | (refine v_cond_y rfl aD ?_) | (refine v_cond_n rfl aD ?_) | (refine v_condt rfl (fun h => ?_) (fun h => ?_) <;> (have h' := h; (try simp only [sx] at h')))))
      | (refine q_then ?_) | (refine q_then_r ?_) | (refine q_then_e ?_) | (refine q_blk_n ?_) | (refine q_blk_r ?_) | (refine q_blk_e ?_) | (refine q_blk_o rfl ?_) | (refine q_loop_r ?_) | (refine q_loop_e ?_) | (refine ret_n ?_))
  all_goals first
    | (exfalso; omega)
    | exact ret_noneL (.inr rfl) rfl ⟨⟨by simp [srtR_len], rfl, fun h => by cases h⟩, trivial⟩
theorem k_sortS (xs : List Asset) (g : FuncId) (u : List PV) (f : Asset → Int) (hg : ∀ a ∈ xs, ∀ b ∈ xs, Con Try.prog g [.agg a.pv, .agg b.pv, .ptr u] (.int .i64 (cmpI (f b) (f a)))) (hn : xs.length ≤ 10) :
    ContractP Try.prog 41 true [.osl (io, 0) 0 xs.length, .fn g [] [.ptr u]] [⟨55, 4, xs.map Asset.pv, false⟩] (fun r' fin' => r' = .tuple [] ∧ fin' = [(srtR f xs).reverse.map Asset.pv]) := by
  refine contract_of hmix Try.func41 rfl (by kernel_rfl) (by kernel_rfl) (Nat.le_of_ble_eq_true rfl) (fun row h => by (simp only [List.mem_cons, List.not_mem_nil, or_false] at h; first | (subst h; (first | exact .inl rfl | exact .inr (fun e he u hu => by (simp only [List.mem_cons, List.not_mem_nil, or_false] at he; subst he; simp only [List.mem_cons, List.not_mem_nil, or_false] at hu; subst hu; rfl)))) | (rcases h with rfl | rfl <;> (first | exact .inl rfl | exact .inr (fun e he u hu => by (simp only [List.mem_cons, List.not_mem_nil, or_false] at he; subst he; simp only [List.mem_cons, List.not_mem_nil, or_false] at hu; subst hu; rfl)))) | (rcases h with rfl | rfl | rfl <;> (first | exact .inl rfl | exact .inr (fun e he u hu => by (simp only [List.mem_cons, List.not_mem_nil, or_false] at he; subst he; simp only [List.mem_cons, List.not_mem_nil, or_false] at hu; subst hu; rfl)))) | (rcases h with rfl | rfl | rfl | rfl <;> (first | exact .inl rfl | exact .inr (fun e he u hu => by (simp only [List.mem_cons, List.not_mem_nil, or_false] at he; subst he; simp only [List.mem_cons, List.not_mem_nil, or_false] at hu; subst hu; rfl)))))) ?_
  have hty_u29 := ty_u29
  have hty_s29 := ty_s29
  have hl1 : (xs.map Asset.pv).length = xs.length := by simp
  have hl2 : ((srtR f xs).reverse.map Asset.pv).length = xs.length := by simp [srtR_len]
  have k1 := k_stable xs g u f hg hn
  repeat' (first
      | (refine g_exec ?_; first | (refine g_move ?_; refine x_moveO _ rfl ?_) | (refine g_call ?_; first | (refine x_callL [(io, 0)] (k1) rfl rfl (by (repeat' (first | exact trivial | refine ⟨⟨_, rfl, ?_⟩, ?_⟩ | exact .inl ⟨rfl, .inl rfl⟩ | exact .inr ⟨rfl, rfl, rfl, rfl, rfl, fun e he u hu => by (simp only [List.mem_cons, List.not_mem_nil, or_false] at he; subst he; simp only [List.mem_cons, List.not_mem_nil, or_false] at hu; subst hu; rfl)⟩ | exact .inl ⟨rfl, .inr (fun e he => by (simp only [List.mem_cons, List.not_mem_nil, or_false] at he; subst he; rfl))⟩ | fail)); first | done | fail) rfl rfl aS rfl aH rfl ?_; simp only [cl]) | (refine x_len_l aA rfl ?_) | (refine x_len_o aA rfl rfl ?_) | (refine x_len_n aA rfl ?_) | (refine x_len_s aA (evO_ok rfl) ?_)) | (refine x_nil (hK _ _ (.inl rfl) ?_); clear hK K) | (refine x_nil (hK _ _ (.inr (by kernel_rfl)) ?_); clear hK K))
      | (refine g_code ?_; first | (refine v_seq ?_) | (refine v_region (fun K hK => ?_)) | (refine v_block ?_) | (refine v_skip ?_) | (refine v_ret ?_) | (refine v_exit ?_))
      | (refine q_then ?_) | (refine q_then_r ?_) | (refine q_then_e ?_) | (refine q_blk_n ?_) | (refine q_blk_r ?_) | (refine q_blk_e ?_) | (refine q_blk_o rfl ?_) | (refine q_loop_r ?_) | (refine q_loop_e ?_) | (refine ret_n ?_))
  all_goals first
    | (exfalso; omega)
    | exact ret_noneL (.inr rfl) rfl ⟨⟨by simp [srtR_len], rfl, fun h => by cases h⟩, trivial⟩
end Go.Vs
