/- EVACUATION: the best assignment, by reference. -/
import Derived.Test.YthjlolbooehhcaaVau
import Derived.Test.YthjlolbooehhcaaEw7
set_option linter.unusedVariables false
set_option linter.unusedSimpArgs false
set_option maxRecDepth 100000
set_option maxHeartbeats 4000000
namespace Go.Vs
open Go.Proofs
attribute [local irreducible] exec vwp thenQ blkQ loopQ RetPost
noncomputable section

/- Plain: the first of the best. -/
abbrev Asg := List Int × Int
def better (a b : Asg) : Asg := if a.2 < b.2 then b else a
theorem better_assoc (a b c : Asg) : better (better a b) c = better a (better b c) := by
  unfold better
  split <;> split <;> (try split) <;> (try split) <;> first | rfl | (exfalso; omega)
theorem better_ge (a b : Asg) : a.2 ≤ (better a b).2 ∧ b.2 ≤ (better a b).2 := by unfold better; split <;> omega
def itB (f : Nat → Asg) : Nat → Asg → Asg
  | 0, a => a
  | j + 1, a => better (itB f j a) (f j)
def e0 : Asg := ([], -1)
theorem better_e0 {a : Asg} (h : -1 ≤ a.2) : better a e0 = a := by
  unfold better e0
  rw [if_neg (by simp only; omega)]
theorem itB_acc (f : Nat → Asg) (a : Asg) (h : -1 ≤ a.2) : ∀ n, itB f n a = better a (itB f n e0)
  | 0 => by simp only [itB]; exact (better_e0 h).symm
  | j + 1 => by
    simp only [itB]
    rw [itB_acc f a h j, better_assoc]
theorem itB_none (f : Nat → Asg) (h : ∀ j, f j = e0) : ∀ n, itB f n e0 = e0
  | 0 => rfl
  | j + 1 => by simp only [itB]; rw [itB_none f h j, h j]; rfl
theorem itB_low (f : Nat → Asg) {a : Asg} (h : -1 ≤ a.2) : ∀ n, -1 ≤ (itB f n a).2
  | 0 => h
  | j + 1 => by have := (better_ge (itB f j a) (f j)).1; have := itB_low f h j; simp only [itB]; omega
def choice (j : Nat) : Int := (j : Int) - 1
def okA (c : Cas) (m : Int) (sg : List Int) : Bool := (lfK c m sg sg.length).isSome
def bestS (c : Cas) (m : Int) : Nat → List Int → Asg
  | 0, sg => if okA c m sg = true then (sg, peK c.gs sg sg.length) else e0
  | k + 1, sg => itB (fun j => bestS c m k (sg ++ [choice j])) (c.ss.length + 1) e0
def itE (f : Nat → Asg → Asg) : Nat → Asg → Asg
  | 0, a => a
  | j + 1, a => f j (itE f j a)
def extI (c : Cas) (m : Int) : Nat → List Int → Asg → Asg
  | 0, sg, a => if okA c m sg = true ∧ a.2 < peK c.gs sg sg.length then (sg, peK c.gs sg sg.length) else a
  | k + 1, sg, a => itE (fun j => extI c m k (sg ++ [choice j])) (c.ss.length + 1) a
theorem bestS_low (c : Cas) (m : Int) (hpe : ∀ sg, 0 ≤ peK c.gs sg sg.length) : ∀ (k : Nat) (sg : List Int), -1 ≤ (bestS c m k sg).2
  | 0, sg => by
    unfold bestS
    split
    · have := hpe sg; simp only; omega
    · simp [e0]
  | k + 1, sg => itB_low _ (by simp [e0]) _
theorem extI_eq (c : Cas) (m : Int) (hpe : ∀ sg, 0 ≤ peK c.gs sg sg.length) : ∀ (k : Nat) (sg : List Int) (a : Asg), -1 ≤ a.2 → extI c m k sg a = better a (bestS c m k sg)
  | 0, sg, a, h => by
    unfold extI bestS
    by_cases h1 : okA c m sg = true
    · rw [if_pos h1]
      unfold better
      by_cases h2 : a.2 < peK c.gs sg sg.length
      · rw [if_pos ⟨h1, h2⟩, if_pos h2]
      · rw [if_neg (fun h => h2 h.2), if_neg h2]
    · rw [if_neg h1, if_neg (fun h => h1 h.1), better_e0 h]
  | k + 1, sg, a, h => by
    have key : ∀ n, itE (fun j => extI c m k (sg ++ [choice j])) n a = itB (fun j => bestS c m k (sg ++ [choice j])) n a ∧ -1 ≤ (itE (fun j => extI c m k (sg ++ [choice j])) n a).2 := by
      intro n
      induction n with
      | zero => exact ⟨rfl, h⟩
      | succ n ih =>
        simp only [itE, itB]
        rw [extI_eq c m hpe k _ _ ih.2, ih.1]
        exact ⟨rfl, by have := (better_ge (itB (fun j => bestS c m k (sg ++ [choice j])) n a) (bestS c m k (sg ++ [choice n]))).1; rw [← ih.1] at this ⊢; have := ih.2; omega⟩
    unfold extI bestS
    rw [(key _).1, itB_acc _ _ h]
theorem lfK_app (c : Cas) (m : Int) (sg t : List Int) : ∀ i, i ≤ sg.length → lfK c m (sg ++ t) i = lfK c m sg i
  | 0, _ => rfl
  | i + 1, h => by
    have hg : (sg ++ t).getD i 0 = sg.getD i 0 := by
      rw [List.getD_eq_getElem?_getD, List.getD_eq_getElem?_getD, List.getElem?_append_left aO]
    have hs : ∀ L, stp c m (sg ++ t) i L = stp c m sg i L := fun L => by unfold stp; rw [hg]
    rw [lfK, lfK, lfK_app c m sg t i aO, hg]
    simp only [hs]
theorem bestS_none {c : Cas} {m : Int} : ∀ (k : Nat) (sg : List Int), lfK c m sg sg.length = none → bestS c m k sg = e0
  | 0, sg, h => by unfold bestS okA; rw [h]; rfl
  | k + 1, sg, h => by
    unfold bestS
    refine itB_none _ (fun j => ?_) _
    refine bestS_none k _ ?_
    refine lfK_none (i := sg.length) ?_ _ (by simp)
    rw [lfK_app c m sg [choice j] _ (Nat.le_refl _)]
    exact h
theorem bestS_bnd {c : Cas} {m : Int} (hpe : ∀ sg, sg.length ≤ c.gs.length → 0 ≤ peK c.gs sg sg.length ∧ peK c.gs sg sg.length ≤ 400) : ∀ (k : Nat) (sg : List Int), sg.length + k ≤ c.gs.length →
    -1 ≤ (bestS c m k sg).2 ∧ (bestS c m k sg).2 ≤ 400 ∧ (bestS c m k sg).1.length ≤ c.gs.length
  | 0, sg, h => by
    have := hpe sg aO
    unfold bestS
    split
    · simp only; omega
    · simp [e0]
  | k + 1, sg, h => by
    unfold bestS
    have ih := fun j => bestS_bnd (m := m) hpe k (sg ++ [choice j]) (by simp; omega)
    have : ∀ n, -1 ≤ (itB (fun j => bestS c m k (sg ++ [choice j])) n e0).2 ∧ (itB (fun j => bestS c m k (sg ++ [choice j])) n e0).2 ≤ 400 ∧ (itB (fun j => bestS c m k (sg ++ [choice j])) n e0).1.length ≤ c.gs.length := by
      intro n
      induction n with
      | zero => simp [itB, e0]
      | succ n ihn =>
        simp only [itB]
        unfold better
        split
        · exact ih n
        · exact ihn
    exact this _
theorem peG {c : Cas} (hc : GoodE c) {sg : List Int} (h : sg.length ≤ c.gs.length) : 0 ≤ peK c.gs sg sg.length ∧ peK c.gs sg sg.length ≤ 400 := by
  have h1 := pe_bnd (peo hc) sg sg.length h
  have h2 := hc.2.2.1
  omega
theorem k_l1Own (l : List Int) (hn : l.length ≤ 1099511627776) : Con Try.prog 94 [.list 1 (ints l)] (.olist 3 1 (ints l)) := by
  intro al
  refine contract_of hmix Try.func94 rfl (by kernel_rfl) (by kernel_rfl) (Nat.le_of_ble_eq_true rfl) (fun row h => by cases h) ?_
  have hty_s24 := ty_s24
  have hty_u24 := ty_u24
  have hl1 : (ints l).length = l.length := by simp
  repeat' (first
      | (refine g_exec ?_; first | (refine g_move ?_; refine x_moveO _ rfl ?_) | (refine g_assign ?_; refine x_assignO _ rfl ?_) | (refine g_call ?_; first | (refine x_appOO _ _ aA rfl (lookM (by rfl)) rfl (lookM (by rfl)) rfl aN ⟨rfl, rfl, by decide, by decide⟩ (by first | rfl | omega | (simp; done) | (simp; omega) | fail) ⟨by first | (simp only [List.length_cons, List.length_nil]; omega) | omega | fail, by decide⟩ rfl (by first | (first | (simp only [lx, Nat.reduceAdd]; first | done | rfl) | fail) | rfl) aP ?_) | (refine x_appCO _ _ aA rfl rfl (lookM (by rfl)) ⟨rfl, by decide⟩ aN (by first | exact Nat.succ_pos _ | omega | (simp; done)) ⟨by first | (simp only [List.length_cons, List.length_nil]; omega) | omega | fail, by decide⟩ rfl rfl aP ?_) | (refine x_appNO _ aA rfl rfl (lookM (by rfl)) ⟨rfl, by decide⟩ aN ⟨by first | (simp only [List.length_cons, List.length_nil]; omega) | omega | fail, by decide⟩ rfl aP ?_) | (refine x_app_ol _ aA rfl rfl rfl ⟨rfl, rfl, rfl, by decide, by decide⟩ (by first | rfl | (simp; done) | fail) ⟨by omega, by decide⟩ rfl aL (by first | (rw [Nat.zero_add]) | rfl) ?_)) | (refine x_buildSliceO aA rfl rfl rfl ?_) | (refine x_nil (hK _ _ (.inl rfl) ?_); clear hK K) | (refine x_nil (hK _ _ (.inr (by kernel_rfl)) ?_); clear hK K))
      | (refine g_code ?_; first | (refine v_seq ?_) | (refine v_region (fun K hK => ?_)) | (refine v_block ?_) | (refine v_skip ?_) | (refine v_ret ?_) | (refine v_exit ?_))
      | (refine q_then ?_) | (refine q_then_r ?_) | (refine q_then_e ?_) | (refine q_blk_n ?_) | (refine q_blk_r ?_) | (refine q_blk_e ?_) | (refine q_blk_o rfl ?_) | (refine q_loop_r ?_) | (refine q_loop_e ?_) | (refine ret_n ?_))
  all_goals first
    | (exfalso; omega)
    | (refine ret_list rfl (lookE_ok (by rfl)) (by rfl) (by decide) ?_ (ints_flat _) ?_ <;> first | rfl | simp)

theorem ret_li {st : St} {fn : Func} {t1 t2 sz : Nat} {es es' : List (List PV)} {k : IntKind} {n n' : Int} (hr : fn.results = #[.tmp t1, .tmp t2]) (h1 : getE st.env t1 = .list sz es) (h2 : getE st.env t2 = .int k n) (he : es = es') (hn : n = n') :
    RetPost Try.prog fn true [] (Ret (.tuple [.list sz es', .int k n'])) .ret st := by
  subst he
  subst hn
  exact ret_of [.list sz es, .int k n] [] (by rw [hr]; exact ⟨h1, h2, trivial⟩) ⟨[], [], ⟨rfl, rfl, rfl, rfl⟩, ⟨[], [], ⟨rfl, rfl, rfl⟩, rfl, rfl⟩, rfl⟩ trivial
@[reducible] def asgP (r : Asg) : PV := .tuple [.list 1 (ints r.1), .int .i64 r.2]
theorem k_l13Best (c : Cas) (m : Int) (hc : GoodE c) : ∀ (k : Nat) (sg : List Int), sg.length + k = c.gs.length →
    ConA Try.prog 74 [.list 1 (tabP (safeL c)), .list 3 (c.gs.map Group.pv), .list 2 (c.ss.map Shelter.pv), .int .i64 m, .list 1 (ints sg)] (asgP (bestS c m k sg)) := by
  intro k
  induction k with
  | zero =>
    intro sg hlen
    refine contract_of hmix Try.func74 rfl (by kernel_rfl) (by kernel_rfl) (Nat.le_of_ble_eq_true rfl) (fun row h => by cases h) ?_
    have hty_u79 := ty_u79
    have hty_s79 := ty_s79
    have hty_u43 := ty_u43
    have hty_s43 := ty_s43
    have hty_u45 := ty_u45
    have hty_s45 := ty_s45
    have hty_u24 := ty_u24
    have hty_s24 := ty_s24
    have hl1 : (c.gs.map Group.pv).length = c.gs.length := by simp
    have hl4 : (ints sg).length = sg.length := by simp
    have hgl := hc.2.2.1
    have kL := k_l13Left c m sg hc aO
    have kP := k_l13People c.gs sg hc.2.2.1.2 aO (peo hc)
    rw [lfRes] at kL
    by_cases hok : okA c m sg = true
    · have e : bestS c m 0 sg = (sg, peK c.gs sg sg.length) := by unfold bestS; rw [if_pos hok]
      rw [e]
      unfold okA at hok
      rw [hok] at kL
      generalize (lfK c m sg sg.length).getD [] = L at *
      repeat' (first
      | (refine g_exec ?_; first | (refine g_move ?_; refine x_moveO _ rfl ?_) | (refine g_assign ?_; refine x_assignO _ rfl ?_) | (refine g_bin ?_; first | (refine x_add rfl rfl aO ?_) | (refine x_bin _ rfl rfl rfl ?_) | (refine x_boolEq aA rfl rfl ?_) | (refine x_strBin _ rfl rfl rfl ?_)) | (refine g_un ?_; first | (refine x_not rfl ?_) | (refine x_neg rfl aO ?_)) | (refine g_call ?_; first | (refine x_callG true (kL) rfl rfl rfl aS rfl aH ?_; simp only [cl]) | (refine x_callG true (kP) rfl rfl rfl aS rfl aH ?_; simp only [cl]) | (refine x_len_l aA rfl ?_) | (refine x_len_o aA rfl rfl ?_) | (refine x_len_n aA rfl ?_) | (refine x_len_s aA (evO_ok rfl) ?_) | (refine x_appOO _ _ aA rfl (lookM (by rfl)) rfl (lookM (by rfl)) rfl aN ⟨rfl, rfl, by decide, by decide⟩ (by first | rfl | omega | (simp; done) | (simp; omega) | fail) ⟨by first | (simp only [List.length_cons, List.length_nil]; omega) | omega | fail, by decide⟩ rfl (by first | (first | (simp only [lx, Nat.reduceAdd]; first | done | rfl) | fail) | rfl) aP ?_) | (refine x_appCO _ _ aA rfl rfl (lookM (by rfl)) ⟨rfl, by decide⟩ aN (by first | exact Nat.succ_pos _ | omega | (simp; done)) ⟨by first | (simp only [List.length_cons, List.length_nil]; omega) | omega | fail, by decide⟩ rfl rfl aP ?_) | (refine x_appNO _ aA rfl rfl (lookM (by rfl)) ⟨rfl, by decide⟩ aN ⟨by first | (simp only [List.length_cons, List.length_nil]; omega) | omega | fail, by decide⟩ rfl aP ?_) | (refine x_app_ol _ aA rfl rfl rfl ⟨rfl, rfl, rfl, by decide, by decide⟩ (by first | rfl | (simp; done) | fail) ⟨by omega, by decide⟩ rfl aL (by first | (rw [Nat.zero_add]) | rfl) ?_)) | (refine x_buildSliceO aA rfl rfl rfl ?_) | (refine x_extract _ rfl rfl ?_) | (refine x_nil (hK _ _ (.inl rfl) ?_); clear hK K) | (refine x_nil (hK _ _ (.inr (by kernel_rfl)) ?_); clear hK K))
      | (refine g_code ?_; first | (refine v_seq ?_) | (refine v_region (fun K hK => ?_)) | (refine v_block ?_) | (refine v_skip ?_) | (refine v_ret ?_) | (refine v_exit ?_) | (refine g_cond ?_; first | (refine v_cond_y rfl aD ?_) | (refine v_cond_n rfl aD ?_) | (refine v_condt rfl (fun h => ?_) (fun h => ?_) <;> (have h' := h; (try simp only [sx] at h')))))
      | (refine q_then ?_) | (refine q_then_r ?_) | (refine q_then_e ?_) | (refine q_blk_n ?_) | (refine q_blk_r ?_) | (refine q_blk_e ?_) | (refine q_blk_o rfl ?_) | (refine q_loop_r ?_) | (refine q_loop_e ?_) | (refine ret_n ?_))
      all_goals first
        | (exfalso; omega)
        | exact ret_li rfl (lookE_ok rfl) (lookE_ok rfl) rfl rfl
    · have e : bestS c m 0 sg = e0 := by unfold bestS; rw [if_neg hok]
      rw [e]
      rw [Bool.not_eq_true] at hok
      unfold okA at hok
      rw [hok] at kL
      generalize (lfK c m sg sg.length).getD [] = L at *
      repeat' (first
      | (refine g_exec ?_; first | (refine g_move ?_; refine x_moveO _ rfl ?_) | (refine g_assign ?_; refine x_assignO _ rfl ?_) | (refine g_bin ?_; first | (refine x_add rfl rfl aO ?_) | (refine x_bin _ rfl rfl rfl ?_) | (refine x_boolEq aA rfl rfl ?_) | (refine x_strBin _ rfl rfl rfl ?_)) | (refine g_un ?_; first | (refine x_not rfl ?_) | (refine x_neg rfl aO ?_)) | (refine g_call ?_; first | (refine x_callG true (kL) rfl rfl rfl aS rfl aH ?_; simp only [cl]) | (refine x_callG true (kP) rfl rfl rfl aS rfl aH ?_; simp only [cl]) | (refine x_len_l aA rfl ?_) | (refine x_len_o aA rfl rfl ?_) | (refine x_len_n aA rfl ?_) | (refine x_len_s aA (evO_ok rfl) ?_) | (refine x_appOO _ _ aA rfl (lookM (by rfl)) rfl (lookM (by rfl)) rfl aN ⟨rfl, rfl, by decide, by decide⟩ (by first | rfl | omega | (simp; done) | (simp; omega) | fail) ⟨by first | (simp only [List.length_cons, List.length_nil]; omega) | omega | fail, by decide⟩ rfl (by first | (first | (simp only [lx, Nat.reduceAdd]; first | done | rfl) | fail) | rfl) aP ?_) | (refine x_appCO _ _ aA rfl rfl (lookM (by rfl)) ⟨rfl, by decide⟩ aN (by first | exact Nat.succ_pos _ | omega | (simp; done)) ⟨by first | (simp only [List.length_cons, List.length_nil]; omega) | omega | fail, by decide⟩ rfl rfl aP ?_) | (refine x_appNO _ aA rfl rfl (lookM (by rfl)) ⟨rfl, by decide⟩ aN ⟨by first | (simp only [List.length_cons, List.length_nil]; omega) | omega | fail, by decide⟩ rfl aP ?_) | (refine x_app_ol _ aA rfl rfl rfl ⟨rfl, rfl, rfl, by decide, by decide⟩ (by first | rfl | (simp; done) | fail) ⟨by omega, by decide⟩ rfl aL (by first | (rw [Nat.zero_add]) | rfl) ?_)) | (refine x_buildSliceO aA rfl rfl rfl ?_) | (refine x_extract _ rfl rfl ?_) | (refine x_nil (hK _ _ (.inl rfl) ?_); clear hK K) | (refine x_nil (hK _ _ (.inr (by kernel_rfl)) ?_); clear hK K))
      | (refine g_code ?_; first | (refine v_seq ?_) | (refine v_region (fun K hK => ?_)) | (refine v_block ?_) | (refine v_skip ?_) | (refine v_ret ?_) | (refine v_exit ?_) | (refine g_cond ?_; first | (refine v_cond_y rfl aD ?_) | (refine v_cond_n rfl aD ?_) | (refine v_condt rfl (fun h => ?_) (fun h => ?_) <;> (have h' := h; (try simp only [sx] at h')))))
      | (refine q_thenF 10 rfl rfl (by first | rfl | omega | (simp; done) | (simp; omega) | fail) rfl ?_) | (refine q_then ?_) | (refine q_then_r ?_) | (refine q_then_e ?_) | (refine q_blk_n ?_) | (refine q_blk_r ?_) | (refine q_blk_e ?_) | (refine q_blk_o rfl ?_) | (refine q_loop_r ?_) | (refine q_loop_e ?_) | (refine ret_n ?_))
      all_goals first
        | (exfalso; omega)
        | exact ret_li rfl (lookE_ok rfl) (lookE_ok rfl) rfl rfl
  | succ k ih =>
    intro sg hlen
    refine contract_of hmix Try.func74 rfl (by kernel_rfl) (by kernel_rfl) (Nat.le_of_ble_eq_true rfl) (fun row h => by cases h) ?_
    have hty_u79 := ty_u79
    have hty_s79 := ty_s79
    have hty_u43 := ty_u43
    have hty_s43 := ty_s43
    have hty_u45 := ty_u45
    have hty_s45 := ty_s45
    have hty_u24 := ty_u24
    have hty_s24 := ty_s24
    have hl1 : (c.gs.map Group.pv).length = c.gs.length := by simp
    have hl2 : (c.ss.map Shelter.pv).length = c.ss.length := by simp
    have hl4 : (ints sg).length = sg.length := by simp
    have hgl := hc.2.2.1
    have hsl := hc.2.2.2.2.2
    have kL := k_l13Left c m sg hc aO
    have kO := k_l1Own sg aO
    rw [lfRes] at kL
    cases hlf : lfK c m sg sg.length with
    | none =>
      rw [bestS_none (k + 1) sg hlf]
      rw [hlf] at kL
      simp only [Option.isSome_none, Option.getD_none] at kL
      repeat' (first
      | (refine g_exec ?_; first | (refine g_move ?_; refine x_moveO _ rfl ?_) | (refine g_assign ?_; refine x_assignO _ rfl ?_) | (refine g_bin ?_; first | (refine x_add rfl rfl aO ?_) | (refine x_bin _ rfl rfl rfl ?_) | (refine x_boolEq aA rfl rfl ?_) | (refine x_strBin _ rfl rfl rfl ?_)) | (refine g_un ?_; first | (refine x_not rfl ?_) | (refine x_neg rfl aO ?_)) | (refine g_call ?_; first | (refine x_callG true (kL) rfl rfl rfl aS rfl aH ?_; simp only [cl]) | (refine x_len_l aA rfl ?_) | (refine x_len_o aA rfl rfl ?_) | (refine x_len_n aA rfl ?_) | (refine x_len_s aA (evO_ok rfl) ?_) | (refine x_appOO _ _ aA rfl (lookM (by rfl)) rfl (lookM (by rfl)) rfl aN ⟨rfl, rfl, by decide, by decide⟩ (by first | rfl | omega | (simp; done) | (simp; omega) | fail) ⟨by first | (simp only [List.length_cons, List.length_nil]; omega) | omega | fail, by decide⟩ rfl (by first | (first | (simp only [lx, Nat.reduceAdd]; first | done | rfl) | fail) | rfl) aP ?_) | (refine x_appCO _ _ aA rfl rfl (lookM (by rfl)) ⟨rfl, by decide⟩ aN (by first | exact Nat.succ_pos _ | omega | (simp; done)) ⟨by first | (simp only [List.length_cons, List.length_nil]; omega) | omega | fail, by decide⟩ rfl rfl aP ?_) | (refine x_appNO _ aA rfl rfl (lookM (by rfl)) ⟨rfl, by decide⟩ aN ⟨by first | (simp only [List.length_cons, List.length_nil]; omega) | omega | fail, by decide⟩ rfl aP ?_) | (refine x_app_ol _ aA rfl rfl rfl ⟨rfl, rfl, rfl, by decide, by decide⟩ (by first | rfl | (simp; done) | fail) ⟨by omega, by decide⟩ rfl aL (by first | (rw [Nat.zero_add]) | rfl) ?_)) | (refine x_buildSliceO aA rfl rfl rfl ?_) | (refine x_extract _ rfl rfl ?_) | (refine x_nil (hK _ _ (.inl rfl) ?_); clear hK K) | (refine x_nil (hK _ _ (.inr (by kernel_rfl)) ?_); clear hK K))
      | (refine g_code ?_; first | (refine v_seq ?_) | (refine v_region (fun K hK => ?_)) | (refine v_block ?_) | (refine v_skip ?_) | (refine v_ret ?_) | (refine v_exit ?_) | (refine g_cond ?_; first | (refine v_cond_y rfl aD ?_) | (refine v_cond_n rfl aD ?_) | (refine v_condt rfl (fun h => ?_) (fun h => ?_) <;> (have h' := h; (try simp only [sx] at h')))))
      | (refine q_thenF 10 rfl rfl (by first | rfl | omega | (simp; done) | (simp; omega) | fail) rfl ?_) | (refine q_then ?_) | (refine q_then_r ?_) | (refine q_then_e ?_) | (refine q_blk_n ?_) | (refine q_blk_r ?_) | (refine q_blk_e ?_) | (refine q_blk_o rfl ?_) | (refine q_loop_r ?_) | (refine q_loop_e ?_) | (refine ret_n ?_))
      all_goals first
        | (exfalso; omega)
        | exact ret_li rfl (lookE_ok rfl) (lookE_ok rfl) rfl rfl
    | some L =>
      rw [hlf] at kL
      simp only [Option.isSome_some, Option.getD_some] at kL
      have hB := fun n => bestS_bnd (m := m) (fun sg h => peG hc h) k (sg ++ [choice n]) (by simp; omega)
      repeat' (first
      | (refine g_exec ?_; first | (refine g_move ?_; refine x_moveO _ rfl ?_) | (refine g_assign ?_; refine x_assignO _ rfl ?_) | (refine g_bin ?_; first | (refine x_add rfl rfl aO ?_) | (refine x_bin _ rfl rfl rfl ?_) | (refine x_boolEq aA rfl rfl ?_) | (refine x_strBin _ rfl rfl rfl ?_)) | (refine g_un ?_; first | (refine x_not rfl ?_) | (refine x_neg rfl aO ?_)) | (refine g_call ?_; first | (refine x_callG true (kL) rfl rfl rfl aS rfl aH ?_; simp only [cl]) | (refine x_len_l aA rfl ?_) | (refine x_len_o aA rfl rfl ?_) | (refine x_len_n aA rfl ?_) | (refine x_len_s aA (evO_ok rfl) ?_) | (refine x_appOO _ _ aA rfl (lookM (by rfl)) rfl (lookM (by rfl)) rfl aN ⟨rfl, rfl, by decide, by decide⟩ (by first | rfl | omega | (simp; done) | (simp; omega) | fail) ⟨by first | (simp only [List.length_cons, List.length_nil]; omega) | omega | fail, by decide⟩ rfl (by first | (first | (simp only [lx, Nat.reduceAdd]; first | done | rfl) | fail) | rfl) aP ?_) | (refine x_appCO _ _ aA rfl rfl (lookM (by rfl)) ⟨rfl, by decide⟩ aN (by first | exact Nat.succ_pos _ | omega | (simp; done)) ⟨by first | (simp only [List.length_cons, List.length_nil]; omega) | omega | fail, by decide⟩ rfl rfl aP ?_) | (refine x_appNO _ aA rfl rfl (lookM (by rfl)) ⟨rfl, by decide⟩ aN ⟨by first | (simp only [List.length_cons, List.length_nil]; omega) | omega | fail, by decide⟩ rfl aP ?_) | (refine x_app_ol _ aA rfl rfl rfl ⟨rfl, rfl, rfl, by decide, by decide⟩ (by first | rfl | (simp; done) | fail) ⟨by omega, by decide⟩ rfl aL (by first | (rw [Nat.zero_add]) | rfl) ?_)) | (refine x_buildSliceO aA rfl rfl rfl ?_) | (refine x_extract _ rfl rfl ?_) | (refine x_nil (hK _ _ (.inl rfl) ?_); clear hK K) | (refine x_nil (hK _ _ (.inr (by kernel_rfl)) ?_); clear hK K))
      | (refine g_code ?_; first | (refine v_seq ?_) | (refine v_region (fun K hK => ?_)) | (refine v_block ?_) | (refine v_skip ?_) | (refine v_ret ?_) | (refine v_exit ?_) | (refine g_cond ?_; first | (refine v_cond_y rfl aD ?_) | (refine v_cond_n rfl aD ?_) | (refine v_condt rfl (fun h => ?_) (fun h => ?_) <;> (have h' := h; (try simp only [sx] at h')))))
      | (refine q_thenF 14 rfl rfl (by first | rfl | omega | (simp; done) | (simp; omega) | fail) rfl ?_) | (refine q_then ?_) | (refine q_then_r ?_) | (refine q_then_e ?_) | (refine q_blk_n ?_) | (refine q_blk_r ?_) | (refine q_blk_e ?_) | (refine q_blk_o rfl ?_) | (refine q_loop_r ?_) | (refine q_loop_e ?_) | (refine ret_n ?_))
      all_goals try (exfalso; omega)
      refine v_loopK [0, 1, 2, 3, 4] [] (fun j : Nat => [(14, .list 1 (ints (itB (fun j => bestS c m k (sg ++ [choice j])) j e0).1)), (15, .int .i64 (itB (fun j => bestS c m k (sg ++ [choice j])) j e0).2), (16, .int .i64 (choice j))]) (fun j : Nat => []) (fun j : Nat => j ≤ c.ss.length + 1) (fun j : Nat => c.ss.length + 1 - j) (0) rfl rfl (fun _ => rfl) (fun _ => rfl) rfl (by refine ⟨?_, ?_, rfl, rfl⟩ <;> (repeat' (first | exact trivial | exact ⟨rfl, rfl⟩ | exact rfl | exact ⟨sub_fn, refs_fn⟩ | refine ⟨⟨rfl, rfl⟩, ?_⟩ | refine ⟨⟨sub_fn, refs_fn⟩, ?_⟩ | refine ⟨⟨rfl, fun h => Bool.noConfusion h⟩, ?_⟩ | refine ⟨⟨rfl, fun h => ?_⟩, ?_⟩ | refine ⟨rfl, ?_⟩ | refine ⟨?_, ?_⟩ | fail))) aO (fun j hj => ?_)
      have hch : choice j = (j : Int) - 1 := rfl
      rcases Nat.lt_or_ge j (c.ss.length + 1) with hlt | hge
      · have kI := ih (sg ++ [choice j]) (by simp; omega)
        rw [ints_snoc] at kI
        have hb := hB j
        have hs1 : itB (fun j => bestS c m k (sg ++ [choice j])) (j + 1) e0 = better (itB (fun j => bestS c m k (sg ++ [choice j])) j e0) (bestS c m k (sg ++ [choice j])) := rfl
        have hs2 : choice (j + 1) = choice j + 1 := by unfold choice; omega
        generalize hA : itB (fun j => bestS c m k (sg ++ [choice j])) j e0 = A at *
        generalize hR : bestS c m k (sg ++ [choice j]) = R at *
        obtain ⟨A1, A2⟩ := A
        obtain ⟨R1, R2⟩ := R
        simp only at hb ⊢
        rw [asgP] at kI
        simp only at kI
        generalize hC : choice j = cj at *
        by_cases hbt : A2 < R2
        · have e : itB (fun j => bestS c m k (sg ++ [choice j])) (j + 1) e0 = (R1, R2) := by rw [hs1]; unfold better; rw [if_pos hbt]
          have e1 : (itB (fun j => bestS c m k (sg ++ [choice j])) (j + 1) e0).1 = R1 := by rw [e]
          have e2 : (itB (fun j => bestS c m k (sg ++ [choice j])) (j + 1) e0).2 = R2 := by rw [e]
          repeat' (first
      | (refine g_exec ?_; first | (refine g_move ?_; refine x_moveO _ rfl ?_) | (refine g_assign ?_; refine x_assignO _ rfl ?_) | (refine g_bin ?_; first | (refine x_add rfl rfl aO ?_) | (refine x_bin _ rfl rfl rfl ?_) | (refine x_boolEq aA rfl rfl ?_) | (refine x_strBin _ rfl rfl rfl ?_)) | (refine g_un ?_; first | (refine x_not rfl ?_) | (refine x_neg rfl aO ?_)) | (refine g_call ?_; first | (refine x_callG true (kO) rfl rfl rfl aS rfl aH ?_; simp only [cl]) | (refine x_callA true (kI) rfl rfl rfl rfl rfl aS rfl aH ?_; simp only [cl]) | (refine x_len_l aA rfl ?_) | (refine x_len_o aA rfl rfl ?_) | (refine x_len_n aA rfl ?_) | (refine x_len_s aA (evO_ok rfl) ?_) | (refine x_appOO _ _ aA rfl (lookM (by rfl)) rfl (lookM (by rfl)) rfl aN ⟨rfl, rfl, by decide, by decide⟩ (by first | rfl | omega | (simp; done) | (simp; omega) | fail) ⟨by first | (simp only [List.length_cons, List.length_nil]; omega) | omega | fail, by decide⟩ rfl (by first | (first | (simp only [lx, Nat.reduceAdd]; first | done | rfl) | fail) | rfl) aP ?_) | (refine x_appCO _ _ aA rfl rfl (lookM (by rfl)) ⟨rfl, by decide⟩ aN (by first | exact Nat.succ_pos _ | omega | (simp; done)) ⟨by first | (simp only [List.length_cons, List.length_nil]; omega) | omega | fail, by decide⟩ rfl rfl aP ?_) | (refine x_appNO _ aA rfl rfl (lookM (by rfl)) ⟨rfl, by decide⟩ aN ⟨by first | (simp only [List.length_cons, List.length_nil]; omega) | omega | fail, by decide⟩ rfl aP ?_) | (refine x_app_ol _ aA rfl rfl rfl ⟨rfl, rfl, rfl, by decide, by decide⟩ (by first | rfl | (simp; done) | fail) ⟨by omega, by decide⟩ rfl aL (by first | (rw [Nat.zero_add]) | rfl) ?_)) | (refine x_buildSliceO aA rfl rfl rfl ?_) | (refine x_extract _ rfl rfl ?_) | (refine x_nil (hK _ _ (.inl rfl) ?_); clear hK K) | (refine x_nil (hK _ _ (.inr (by kernel_rfl)) ?_); clear hK K))
      | (refine g_code ?_; first | (refine v_seq ?_) | (refine v_region (fun K hK => ?_)) | (refine v_block ?_) | (refine v_skip ?_) | (refine v_ret ?_) | (refine v_exit ?_) | (refine g_cond ?_; first | (refine v_cond_y rfl aD ?_) | (refine v_cond_n rfl aD ?_) | (refine v_condt rfl (fun h => ?_) (fun h => ?_) <;> (have h' := h; (try simp only [sx] at h')))))
      | (refine q_then ?_) | (refine q_then_r ?_) | (refine q_then_e ?_) | (refine q_blk_n ?_) | (refine q_blk_r ?_) | (refine q_blk_e ?_) | (refine q_blk_o rfl ?_) | (refine q_loop_r ?_) | (refine q_loop_e ?_) | (refine ret_n ?_))
          all_goals try (exfalso; omega)
          all_goals (rw [← e1, ← e2, ← hs2]; refine q_next (j + 1) rfl (by refine ⟨?_, ?_, rfl, rfl⟩ <;> (repeat' (first | exact trivial | exact ⟨rfl, rfl⟩ | exact rfl | exact ⟨sub_fn, refs_fn⟩ | refine ⟨⟨rfl, rfl⟩, ?_⟩ | refine ⟨⟨sub_fn, refs_fn⟩, ?_⟩ | refine ⟨⟨rfl, fun h => Bool.noConfusion h⟩, ?_⟩ | refine ⟨⟨rfl, fun h => ?_⟩, ?_⟩ | refine ⟨rfl, ?_⟩ | refine ⟨?_, ?_⟩ | fail))) aO aO)
        · have e : itB (fun j => bestS c m k (sg ++ [choice j])) (j + 1) e0 = (A1, A2) := by rw [hs1]; unfold better; rw [if_neg hbt]
          have e1 : (itB (fun j => bestS c m k (sg ++ [choice j])) (j + 1) e0).1 = A1 := by rw [e]
          have e2 : (itB (fun j => bestS c m k (sg ++ [choice j])) (j + 1) e0).2 = A2 := by rw [e]
          repeat' (first
      | (refine g_exec ?_; first | (refine g_move ?_; refine x_moveO _ rfl ?_) | (refine g_assign ?_; refine x_assignO _ rfl ?_) | (refine g_bin ?_; first | (refine x_add rfl rfl aO ?_) | (refine x_bin _ rfl rfl rfl ?_) | (refine x_boolEq aA rfl rfl ?_) | (refine x_strBin _ rfl rfl rfl ?_)) | (refine g_un ?_; first | (refine x_not rfl ?_) | (refine x_neg rfl aO ?_)) | (refine g_call ?_; first | (refine x_callG true (kO) rfl rfl rfl aS rfl aH ?_; simp only [cl]) | (refine x_callA true (kI) rfl rfl rfl rfl rfl aS rfl aH ?_; simp only [cl]) | (refine x_len_l aA rfl ?_) | (refine x_len_o aA rfl rfl ?_) | (refine x_len_n aA rfl ?_) | (refine x_len_s aA (evO_ok rfl) ?_) | (refine x_appOO _ _ aA rfl (lookM (by rfl)) rfl (lookM (by rfl)) rfl aN ⟨rfl, rfl, by decide, by decide⟩ (by first | rfl | omega | (simp; done) | (simp; omega) | fail) ⟨by first | (simp only [List.length_cons, List.length_nil]; omega) | omega | fail, by decide⟩ rfl (by first | (first | (simp only [lx, Nat.reduceAdd]; first | done | rfl) | fail) | rfl) aP ?_) | (refine x_appCO _ _ aA rfl rfl (lookM (by rfl)) ⟨rfl, by decide⟩ aN (by first | exact Nat.succ_pos _ | omega | (simp; done)) ⟨by first | (simp only [List.length_cons, List.length_nil]; omega) | omega | fail, by decide⟩ rfl rfl aP ?_) | (refine x_appNO _ aA rfl rfl (lookM (by rfl)) ⟨rfl, by decide⟩ aN ⟨by first | (simp only [List.length_cons, List.length_nil]; omega) | omega | fail, by decide⟩ rfl aP ?_) | (refine x_app_ol _ aA rfl rfl rfl ⟨rfl, rfl, rfl, by decide, by decide⟩ (by first | rfl | (simp; done) | fail) ⟨by omega, by decide⟩ rfl aL (by first | (rw [Nat.zero_add]) | rfl) ?_)) | (refine x_buildSliceO aA rfl rfl rfl ?_) | (refine x_extract _ rfl rfl ?_) | (refine x_nil (hK _ _ (.inl rfl) ?_); clear hK K) | (refine x_nil (hK _ _ (.inr (by kernel_rfl)) ?_); clear hK K))
      | (refine g_code ?_; first | (refine v_seq ?_) | (refine v_region (fun K hK => ?_)) | (refine v_block ?_) | (refine v_skip ?_) | (refine v_ret ?_) | (refine v_exit ?_) | (refine g_cond ?_; first | (refine v_cond_y rfl aD ?_) | (refine v_cond_n rfl aD ?_) | (refine v_condt rfl (fun h => ?_) (fun h => ?_) <;> (have h' := h; (try simp only [sx] at h')))))
      | (refine q_then ?_) | (refine q_then_r ?_) | (refine q_then_e ?_) | (refine q_blk_n ?_) | (refine q_blk_r ?_) | (refine q_blk_e ?_) | (refine q_blk_o rfl ?_) | (refine q_loop_r ?_) | (refine q_loop_e ?_) | (refine ret_n ?_))
          all_goals try (exfalso; omega)
          all_goals (rw [← e1, ← e2, ← hs2]; refine q_next (j + 1) rfl (by refine ⟨?_, ?_, rfl, rfl⟩ <;> (repeat' (first | exact trivial | exact ⟨rfl, rfl⟩ | exact rfl | exact ⟨sub_fn, refs_fn⟩ | refine ⟨⟨rfl, rfl⟩, ?_⟩ | refine ⟨⟨sub_fn, refs_fn⟩, ?_⟩ | refine ⟨⟨rfl, fun h => Bool.noConfusion h⟩, ?_⟩ | refine ⟨⟨rfl, fun h => ?_⟩, ?_⟩ | refine ⟨rfl, ?_⟩ | refine ⟨?_, ?_⟩ | fail))) aO aO)
      · have hj : j = c.ss.length + 1 := by omega
        subst hj
        repeat' (first
      | (refine g_exec ?_; first | (refine g_move ?_; refine x_moveO _ rfl ?_) | (refine g_assign ?_; refine x_assignO _ rfl ?_) | (refine g_bin ?_; first | (refine x_add rfl rfl aO ?_) | (refine x_bin _ rfl rfl rfl ?_) | (refine x_boolEq aA rfl rfl ?_) | (refine x_strBin _ rfl rfl rfl ?_)) | (refine g_un ?_; first | (refine x_not rfl ?_) | (refine x_neg rfl aO ?_)) | (refine g_call ?_; first | (refine x_len_l aA rfl ?_) | (refine x_len_o aA rfl rfl ?_) | (refine x_len_n aA rfl ?_) | (refine x_len_s aA (evO_ok rfl) ?_) | (refine x_appOO _ _ aA rfl (lookM (by rfl)) rfl (lookM (by rfl)) rfl aN ⟨rfl, rfl, by decide, by decide⟩ (by first | rfl | omega | (simp; done) | (simp; omega) | fail) ⟨by first | (simp only [List.length_cons, List.length_nil]; omega) | omega | fail, by decide⟩ rfl (by first | (first | (simp only [lx, Nat.reduceAdd]; first | done | rfl) | fail) | rfl) aP ?_) | (refine x_appCO _ _ aA rfl rfl (lookM (by rfl)) ⟨rfl, by decide⟩ aN (by first | exact Nat.succ_pos _ | omega | (simp; done)) ⟨by first | (simp only [List.length_cons, List.length_nil]; omega) | omega | fail, by decide⟩ rfl rfl aP ?_) | (refine x_appNO _ aA rfl rfl (lookM (by rfl)) ⟨rfl, by decide⟩ aN ⟨by first | (simp only [List.length_cons, List.length_nil]; omega) | omega | fail, by decide⟩ rfl aP ?_) | (refine x_app_ol _ aA rfl rfl rfl ⟨rfl, rfl, rfl, by decide, by decide⟩ (by first | rfl | (simp; done) | fail) ⟨by omega, by decide⟩ rfl aL (by first | (rw [Nat.zero_add]) | rfl) ?_)) | (refine x_buildSliceO aA rfl rfl rfl ?_) | (refine x_extract _ rfl rfl ?_) | (refine x_nil (hK _ _ (.inl rfl) ?_); clear hK K) | (refine x_nil (hK _ _ (.inr (by kernel_rfl)) ?_); clear hK K))
      | (refine g_code ?_; first | (refine v_seq ?_) | (refine v_region (fun K hK => ?_)) | (refine v_block ?_) | (refine v_skip ?_) | (refine v_ret ?_) | (refine v_exit ?_) | (refine g_cond ?_; first | (refine v_cond_y rfl aD ?_) | (refine v_cond_n rfl aD ?_) | (refine v_condt rfl (fun h => ?_) (fun h => ?_) <;> (have h' := h; (try simp only [sx] at h')))))
      | (refine q_then ?_) | (refine q_then_r ?_) | (refine q_then_e ?_) | (refine q_blk_n ?_) | (refine q_blk_r ?_) | (refine q_blk_e ?_) | (refine q_blk_o rfl ?_) | (refine q_loop_r ?_) | (refine q_loop_e ?_) | (refine ret_n ?_))
        all_goals first
          | (exfalso; omega)
          | exact ret_li rfl (lookE_ok rfl) (lookE_ok rfl) rfl rfl
end
end Go.Vs
