/- RISK: lists of scenes that a law makes and marks: where their slices lie. -/
import Derived.Test.YtfgdajmcgincoaaVau
import Derived.Test.YtfgdajmcgincoaaVrScene
import Derived.Test.YtfgdajmcgincoaaVsx
import Derived.Test.YtfgdajmcgincoaaVsE
set_option linter.unusedVariables false
set_option linter.unusedSimpArgs false
set_option linter.unusedSectionVars false
set_option maxRecDepth 100000
set_option maxHeartbeats 4000000
namespace Go.Vs
open Go.Proofs
attribute [local irreducible] exec vwp thenQ blkQ loopQ RetPost

@[reducible] def spn (s : Scene) : Int × List (List PV) := (s.weight, ints s.burned)
/-- No two of the slices share a block. -/
def Apart (qs : List Plc) : Prop := ∀ (i j : Nat) qi qj b, qs[i]? = some qi → qs[j]? = some qj → inQ qi b → inQ qj b → i = j
theorem apart_add {qs : List Plc} {q : Plc} (h : Apart qs) (hq : ∀ q' ∈ qs, ∀ b, inQ q b → ¬ inQ q' b) : Apart (qs ++ [q]) := by
  intro i j qi qj b hi hj h1 h2
  rcases Nat.lt_or_ge i qs.length with li | li <;> rcases Nat.lt_or_ge j qs.length with lj | lj
  · rw [List.getElem?_append_left li] at hi
    rw [List.getElem?_append_left lj] at hj
    exact h i j qi qj b hi hj h1 h2
  · rw [List.getElem?_append_left li] at hi
    rw [List.getElem?_append_right lj] at hj
    have : qj = q := by
      have := List.mem_of_getElem? hj
      simpa using this
    subst this
    exact absurd h1 (hq qi (List.mem_of_getElem? hi) b h2)
  · rw [List.getElem?_append_right li] at hi
    rw [List.getElem?_append_left lj] at hj
    have : qi = q := by
      have := List.mem_of_getElem? hi
      simpa using this
    subst this
    exact absurd h2 (hq qj (List.mem_of_getElem? hj) b h1)
  · have hi' := (List.getElem?_eq_some_iff.1 hi).1
    have hj' := (List.getElem?_eq_some_iff.1 hj).1
    simp at hi' hj'
    omega
theorem new_toSceneS [fl : Inhabited FlrT] (xs : List Scene) (hn : xs.length ≤ 1099511627776) (hb : ∀ s ∈ xs, s.burned.length ≤ 1099511627776) {G : Nat → Prop} {w : World} {X : List (Option (Nat × Nat))} {ρ : Id → Option (Nat × Nat)} {cargs : Array Value}
    (hF : FlOk w X) (hW : WRel G ρ w X (ioMem []) w) (hC : Comps ρ w (Stab G ρ (ioMem []) w) (ioMem []) cargs [.list 2 (xs.map Scene.pv)]) :
    Calls Try.prog 10 cargs w fun e w' => ∃ v r fin, e = .returned v ∧ (∃ qs, qs.length = xs.length ∧ Apart qs ∧ (∀ q ∈ qs, ∀ b, inQ q b → flN ≤ b) ∧ r = .olist 57 2 (rowQ 3 (xs.map spn) qs)) ∧ fin.length = ([] : List Row).length ∧
      (∀ (k : Nat) row f, ([] : List Row)[k]? = some row → fin[k]? = some f → f.length = row.es.length ∧ (row.bx = true → f = row.es)) ∧ ∀ t, t ≠ io → ∃ ρ', RetOk G true w X w' v r [] fin t ρ' := by
  refine contract_at hmix Try.func10 rfl (by kernel_rfl) (Nat.le_of_ble_eq_true rfl) (fun row h => by cases h) ?_ hF hW hC
  have hty_u23 := ty_u23
  have hty_s23 := ty_s23
  have hty_s31 := ty_s31
  have hty_z57 := ty_z57
  have hty_a53 := ty_a53
  have hty_t57 := ty_t57
  have hty_a57 := ty_a57
  have hl1 : (xs.map Scene.pv).length = xs.length := by simp
  repeat' (first
      | (refine g_exec ?_; first | (refine g_move ?_; refine x_moveO _ rfl ?_) | (refine g_assign ?_; refine x_assignO _ rfl ?_) | (refine g_bin ?_; first | (refine x_add rfl rfl aO ?_) | (refine x_bin _ rfl rfl rfl ?_) | (refine x_strBin _ rfl rfl rfl ?_)) | (refine g_load ?_; first | (refine x_load_pc aA rfl ?_) | (refine x_load_oc _ aA rfl rfl aE rfl ?_) | (refine x_load_pa _ aA rfl aZ aL ?_) | (refine x_load_oa _ aA rfl rfl aE aZ aL ?_)) | (refine g_index ?_; first | (refine x_index_l _ aA rfl rfl aO aA ?_) | (refine x_index_o _ aA rfl rfl rfl rfl aO aO (by first | (rw [Nat.zero_add, Int.toNat_natCast]) | (rw [Nat.zero_add]) | rfl) ?_)) | (refine g_call ?_; first | (refine x_len_l aA rfl ?_) | (refine x_len_o aA rfl rfl ?_) | (refine x_len_n aA rfl ?_) | (refine x_len_s aA (evO_ok rfl) ?_)) | (refine x_storeO _ _ _ rfl rfl aE (by first | assumption | (exact TAgg.size aA)) rfl rfl rfl aZ rfl aL (by first | (first | (simp only [lx, Nat.reduceAdd]; first | done | rfl) | fail) | rfl) ?_) | (refine x_make aA aA rfl rfl rfl aO rfl ?_) | (refine x_nil (hK _ _ (.inl rfl) ?_); clear hK K) | (refine x_nil (hK _ _ (.inr (by kernel_rfl)) ?_); clear hK K))
      | (refine g_code ?_; first | (refine v_seq ?_) | (refine v_region (fun K hK => ?_)) | (refine v_block ?_) | (refine v_skip ?_) | (refine v_ret ?_) | (refine v_exit ?_) | (refine g_cond ?_; first | (refine v_cond_y rfl aD ?_) | (refine v_cond_n rfl aD ?_) | (refine v_condt rfl (fun h => ?_) (fun h => ?_) <;> (have h' := h; (try simp only [sx] at h')))))
      | (refine q_then ?_) | (refine q_then_r ?_) | (refine q_then_e ?_) | (refine q_blk_n ?_) | (refine q_blk_r ?_) | (refine q_blk_e ?_) | (refine q_blk_o rfl ?_) | (refine q_loop_r ?_) | (refine q_loop_e ?_) | (refine ret_n ?_))
  refine v_loopK [0] [] (fun p : Nat × List (List PV) × List Plc => [(3, .osl (1001, 0) 0 (xs.map Scene.pv).length), (4, .int .i64 p.1)]) (fun p : Nat × List (List PV) × List Plc => [((1001, 0), some ⟨57, 2, p.2.1, false⟩)]) (fun p : Nat × List (List PV) × List Plc => p.1 ≤ xs.length ∧ p.2.1.length = xs.length ∧ p.2.2.length = p.1 ∧ (∀ (j : Nat) q s, p.2.2[j]? = some q → xs[j]? = some s → p.2.1[j]? = some [.int .i64 s.weight, .sem (LP q 3 (ints s.burned))]) ∧ (∀ e ∈ p.2.1, e.length = 2) ∧ Apart p.2.2 ∧ ∀ q ∈ p.2.2, ∀ b, inQ q b → flN ≤ b) (fun p : Nat × List (List PV) × List Plc => xs.length - p.1) ((0, List.replicate (xs.map Scene.pv).length [.int .i64 0, .nil], [])) rfl rfl (fun _ => rfl) (fun _ => rfl) rfl (by refine ⟨?_, ?_, rfl, rfl⟩ <;> (repeat' (first | exact trivial | exact ⟨rfl, rfl⟩ | exact rfl | exact ⟨sub_fn, refs_fn⟩ | refine ⟨⟨rfl, rfl⟩, ?_⟩ | refine ⟨⟨sub_fn, refs_fn⟩, ?_⟩ | refine ⟨⟨rfl, fun h => Bool.noConfusion h⟩, ?_⟩ | refine ⟨⟨rfl, fun h => ?_⟩, ?_⟩ | refine ⟨rfl, ?_⟩ | refine ⟨?_, ?_⟩ | fail))) ⟨by simp, by simp, rfl, fun j q s hj => by simp at hj, fun e he => by rw [List.eq_of_mem_replicate he]; rfl, fun i j qi qj b hi => by simp at hi, fun q hq => by simp at hq⟩ (fun p hp => ?_)
  obtain ⟨i, es, qs⟩ := p
  obtain ⟨hi1, hi2, hi3, hi4, hi5, hi6, hi7⟩ := hp
  simp only at hi1 hi2 hi3 hi4 hi5 hi6 hi7
  rcases Nat.lt_or_ge i xs.length with hlt | hge
  · obtain ⟨a, hga⟩ := get_ex hlt
    have hx := Scene.at hga
    have hba := hb a (get_mem hga)
    obtain ⟨e, he⟩ := get_ex (show i < es.length by omega)
    obtain ⟨e0, e1, rfl⟩ : ∃ e0 e1, e = [e0, e1] := by
      have := hi5 e (get_mem he)
      match e, this with
      | [a, b], _ => exact ⟨a, b, rfl⟩
    dsimp only
    repeat' (first
      | (refine g_exec ?_; first | (refine g_move ?_; refine x_moveO _ rfl ?_) | (refine g_assign ?_; refine x_assignO _ rfl ?_) | (refine g_bin ?_; first | (refine x_add rfl rfl aO ?_) | (refine x_bin _ rfl rfl rfl ?_) | (refine x_strBin _ rfl rfl rfl ?_)) | (refine g_load ?_; first | (refine x_load_pc aA rfl ?_) | (refine x_load_oc _ aA rfl rfl aE rfl ?_) | (refine x_load_pa _ aA rfl aZ aL ?_) | (refine x_load_oa _ aA rfl rfl aE aZ aL ?_)) | (refine g_index ?_; first | (refine x_index_l _ aA rfl rfl aO aA ?_) | (refine x_index_o _ aA rfl rfl rfl rfl aO aO (by first | (rw [Nat.zero_add, Int.toNat_natCast]) | (rw [Nat.zero_add]) | rfl) ?_)) | (refine g_call ?_; first | (refine x_newA (con_toScene a hba) rfl (ints_flat _) rfl rfl aS rfl (fun q_ hq_ => ?_)) | (refine x_len_l aA rfl ?_) | (refine x_len_o aA rfl rfl ?_) | (refine x_len_n aA rfl ?_) | (refine x_len_s aA (evO_ok rfl) ?_)) | (refine x_storeO _ _ _ rfl rfl aE (by first | assumption | (exact TAgg.size aA)) rfl rfl rfl aZ rfl aL (by first | (first | (simp only [lx, Nat.reduceAdd]; first | done | rfl) | fail) | rfl) ?_) | (refine x_make aA aA rfl rfl rfl aO rfl ?_) | (refine x_nil (hK _ _ (.inl rfl) ?_); clear hK K) | (refine x_nil (hK _ _ (.inr (by kernel_rfl)) ?_); clear hK K))
      | (refine g_code ?_; first | (refine v_seq ?_) | (refine v_region (fun K hK => ?_)) | (refine v_block ?_) | (refine v_skip ?_) | (refine v_ret ?_) | (refine v_exit ?_) | (refine g_cond ?_; first | (refine v_cond_y rfl aD ?_) | (refine v_cond_n rfl aD ?_) | (refine v_condt rfl (fun h => ?_) (fun h => ?_) <;> (have h' := h; (try simp only [sx] at h')))))
      | (refine q_then ?_) | (refine q_then_r ?_) | (refine q_then_e ?_) | (refine q_blk_n ?_) | (refine q_blk_r ?_) | (refine q_blk_e ?_) | (refine q_blk_o rfl ?_) | (refine q_loop_r ?_) | (refine q_loop_e ?_) | (refine ret_n ?_))
    have hq1 := hq_.1
    have hq2 := hq_.2 (1001, 0) _ rfl
    simp only at hq2
    refine q_next (i + 1, es.set i [.int .i64 a.weight, .sem (LP q_ 3 (ints a.burned))], qs ++ [q_]) rfl (by refine ⟨?_, ?_, rfl, rfl⟩ <;> (repeat' (first | exact trivial | exact ⟨rfl, rfl⟩ | exact rfl | exact ⟨sub_fn, refs_fn⟩ | refine ⟨⟨rfl, rfl⟩, ?_⟩ | refine ⟨⟨sub_fn, refs_fn⟩, ?_⟩ | refine ⟨⟨rfl, fun h => Bool.noConfusion h⟩, ?_⟩ | refine ⟨⟨rfl, fun h => ?_⟩, ?_⟩ | refine ⟨rfl, ?_⟩ | refine ⟨?_, ?_⟩ | fail))) ⟨by simp only; omega, by simp [hi2], by simp [hi3], fun j q s hj hs => ?_, fun e he => ?_, ?_, fun q hq => ?_⟩ (by simp only; omega)
    · simp only at hj ⊢
      by_cases hji : j = i
      · subst hji
        rw [List.getElem?_append_right aO] at hj
        simp [hi3] at hj
        rw [hga] at hs
        injection hs with hs
        subst hs hj
        exact List.getElem?_set_self aO
      · rw [List.getElem?_set_ne (fun e => hji e.symm)]
        have hlj : j < qs.length := by
          have := (List.getElem?_eq_some_iff.1 hj).1
          simp at this
          omega
        rw [List.getElem?_append_left hlj] at hj
        exact hi4 j q s hj hs
    · rcases List.mem_or_eq_of_mem_set he with h1 | h1
      · exact hi5 e h1
      · rw [h1]; rfl
    · refine apart_add hi6 fun q' hq' b h1 h2 => ?_
      obtain ⟨j, hj⟩ := List.mem_iff_getElem?.1 hq'
      have hlj := (List.getElem?_eq_some_iff.1 hj).1
      obtain ⟨s, hs⟩ := get_ex (show j < xs.length by omega)
      exact hq2 _ (List.mem_of_getElem? (hi4 j q' s hj hs)) q' 3 (ints s.burned) (List.mem_cons_of_mem _ List.mem_cons_self) b h1 h2
    · rcases List.mem_append.1 hq with h | h
      · exact hi7 q h
      · simp at h
        subst h
        exact hq1
  · have hes : es = rowQ 3 (xs.map spn) qs := List.ext_getElem? fun j => by
      rcases Nat.lt_or_ge j i with hj | hj
      · obtain ⟨s, hs⟩ := get_ex (show j < xs.length by omega)
        obtain ⟨q, hq⟩ := get_ex (show j < qs.length by omega)
        rw [hi4 j q s hq hs]
        exact (rowQ_at (p := spn s) (by simp [hs]) hq).symm
      · rw [List.getElem?_eq_none aO, List.getElem?_eq_none (by rw [rowQ_len (by simp; omega)]; simp; omega)]
    subst hes
    dsimp only
    repeat' (first
      | (refine g_exec ?_; first | (refine g_move ?_; refine x_moveO _ rfl ?_) | (refine g_assign ?_; refine x_assignO _ rfl ?_) | (refine g_bin ?_; first | (refine x_add rfl rfl aO ?_) | (refine x_bin _ rfl rfl rfl ?_) | (refine x_strBin _ rfl rfl rfl ?_)) | (refine g_load ?_; first | (refine x_load_pc aA rfl ?_) | (refine x_load_oc _ aA rfl rfl aE rfl ?_) | (refine x_load_pa _ aA rfl aZ aL ?_) | (refine x_load_oa _ aA rfl rfl aE aZ aL ?_)) | (refine g_index ?_; first | (refine x_index_l _ aA rfl rfl aO aA ?_) | (refine x_index_o _ aA rfl rfl rfl rfl aO aO (by first | (rw [Nat.zero_add, Int.toNat_natCast]) | (rw [Nat.zero_add]) | rfl) ?_)) | (refine g_call ?_; first | (refine x_len_l aA rfl ?_) | (refine x_len_o aA rfl rfl ?_) | (refine x_len_n aA rfl ?_) | (refine x_len_s aA (evO_ok rfl) ?_)) | (refine x_storeO _ _ _ rfl rfl aE (by first | assumption | (exact TAgg.size aA)) rfl rfl rfl aZ rfl aL (by first | (first | (simp only [lx, Nat.reduceAdd]; first | done | rfl) | fail) | rfl) ?_) | (refine x_make aA aA rfl rfl rfl aO rfl ?_) | (refine x_nil (hK _ _ (.inl rfl) ?_); clear hK K) | (refine x_nil (hK _ _ (.inr (by kernel_rfl)) ?_); clear hK K))
      | (refine g_code ?_; first | (refine v_seq ?_) | (refine v_region (fun K hK => ?_)) | (refine v_block ?_) | (refine v_skip ?_) | (refine v_ret ?_) | (refine v_exit ?_) | (refine g_cond ?_; first | (refine v_cond_y rfl aD ?_) | (refine v_cond_n rfl aD ?_) | (refine v_condt rfl (fun h => ?_) (fun h => ?_) <;> (have h' := h; (try simp only [sx] at h')))))
      | (refine q_then ?_) | (refine q_then_r ?_) | (refine q_then_e ?_) | (refine q_blk_n ?_) | (refine q_blk_r ?_) | (refine q_blk_e ?_) | (refine q_blk_o rfl ?_) | (refine q_loop_r ?_) | (refine q_loop_e ?_) | (refine ret_n ?_))
    exact RetPost.mono (fun r fin h => ⟨qs, by omega, hi6, hi7, h.1⟩) (ret_listA rfl (lookE_ok (by rfl)) (by rfl) (by decide) (by rw [rowQ_len (by simp; omega)]; simp) rfl)

/-- What a law writes into a list of scenes. -/
def mS : Int → List Scene → List Scene
  | _, [] => []
  | k, s :: r => ⟨k, markI (k + 1) s.burned.length⟩ :: mS (k + 1 + s.burned.length) r
theorem mS_len : ∀ (xs : List Scene) (k : Int), (mS k xs).length = xs.length
  | [], _ => rfl
  | s :: r, k => by simp only [mS, List.length_cons, mS_len r]
theorem szS_cons (s : Scene) (l : List Scene) : szS (s :: l) = 1 + s.burned.length + szS l := by
  unfold szS
  rw [sumBy_cons, List.length_cons]
  unfold nmS
  omega
theorem mS_at : ∀ {xs : List Scene} {k : Int} {i : Nat} {a : Scene}, xs[i]? = some a → (mS k xs)[i]? = some ⟨k + szS (xs.take i), markI (k + szS (xs.take i) + 1) a.burned.length⟩
  | [], _, _, _, h => by simp at h
  | s :: r, k, 0, a, h => by
    simp at h
    subst h
    simp [mS, szS, sumBy]
  | s :: r, k, i + 1, a, h => by
    have := mS_at (k := k + 1 + s.burned.length) (show r[i]? = some a by simpa using h)
    simp only [mS, List.getElem?_cons_succ, List.take_succ_cons, szS_cons]
    rw [this]
    have e : k + 1 + (s.burned.length : Int) + szS (r.take i) = k + (1 + s.burned.length + szS (r.take i)) := by omega
    rw [e]
theorem szS_take {xs : List Scene} : ∀ {i : Nat} {a : Scene}, xs[i]? = some a → szS (xs.take (i + 1)) = szS (xs.take i) + 1 + a.burned.length := by
  induction xs with
  | nil => intro i a h; simp at h
  | cons s r ih =>
    intro i a h
    cases i with
    | zero => simp at h; subst h; simp only [List.take_succ_cons, List.take_zero, szS_cons]; simp [szS, sumBy]
    | succ i =>
      have := ih (show r[i]? = some a by simpa using h)
      rw [List.take_succ_cons, szS_cons, List.take_succ_cons, szS_cons, this]
      omega
theorem szS_nonneg (xs : List Scene) : 0 ≤ szS xs := by have := (szS_ge xs).1; omega
theorem szS_drop (xs : List Scene) (i : Nat) : szS xs = szS (xs.take i) + szS (xs.drop i) := by
  induction xs generalizing i with
  | nil => simp [szS, sumBy]
  | cons s r ih =>
    cases i with
    | zero => simp [szS, sumBy]
    | succ i => rw [List.take_succ_cons, List.drop_succ_cons, szS_cons, szS_cons, ih i]; omega

theorem mark_rows {es : List (List PV)} {i : Nat} {kq : Int} {q : Plc} {b b' : List Int} (hi : i < es.length)
    (ho : ∀ (j : Nat) e, j ≠ i → es[j]? = some e → ∃ n q' s, e = [.int .i64 n, .sem (LP q' 3 s)] ∧ ∀ c, inQ q c → ¬ inQ q' c) :
    ∀ (j : Nat) e', (es.set i [.int .i64 kq, .sem (LP q 3 (ints b'))])[j]? = some e' → ∃ e, (es.set i [.int .i64 kq, .sem (LP q 3 (ints b))])[j]? = some e ∧ e'.length = e.length ∧
      ∀ (t : Nat) u', e'[t]? = some u' → ∃ u, e[t]? = some u ∧ Upd q 3 (ints b) (ints b') u u' := by
  intro j e' he'
  by_cases hji : j = i
  · subst hji
    rw [List.getElem?_set_self hi] at he'
    injection he' with he'
    subst he'
    refine ⟨_, List.getElem?_set_self hi, rfl, fun t u' hu => ?_⟩
    match t, hu with
    | 0, hu => simp at hu; subst hu; exact ⟨_, rfl, .inl ⟨rfl, .inl rfl⟩⟩
    | 1, hu => simp at hu; subst hu; exact ⟨_, rfl, .inr ⟨rfl, rfl⟩⟩
    | t + 2, hu => simp at hu
  · rw [List.getElem?_set_ne (fun e => hji e.symm)] at he' ⊢
    obtain ⟨n, q', s, rfl, hd⟩ := ho j e' hji he'
    refine ⟨_, he', rfl, fun t u' hu => ⟨u', hu, ?_⟩⟩
    match t, hu with
    | 0, hu => simp at hu; subst hu; exact .inl ⟨rfl, .inl rfl⟩
    | 1, hu => simp at hu; subst hu; exact .inl ⟨rfl, .inr ⟨q', _, s, rfl, hd⟩⟩
    | t + 2, hu => simp at hu

theorem mark_sceneS [fl : Inhabited FlrT] (xs : List Scene) (qs : List Plc) (k : Int) (hn : xs.length ≤ 1099511627776) (hb : ∀ s ∈ xs, s.burned.length ≤ 1099511627776) (hk : 0 ≤ k ∧ k + szS xs ≤ 1099511627776) (hl : qs.length = xs.length) (ha : Apart qs)
    (hw : ∀ q ∈ qs, ∀ b, inQ q b → flW b ∧ flN ≤ b) {G : Nat → Prop} {w : World} {X : List (Option (Nat × Nat))} {ρ : Id → Option (Nat × Nat)} {cargs : Array Value}
    (hF : FlOk w X) (hW : WRel G ρ w X (ioMem [⟨57, 2, rowQ 3 (xs.map spn) qs, false⟩]) w) (hC : Comps ρ w (Stab G ρ (ioMem [⟨57, 2, rowQ 3 (xs.map spn) qs, false⟩]) w) (ioMem [⟨57, 2, rowQ 3 (xs.map spn) qs, false⟩]) cargs [.osl (io, 0) 0 xs.length, .int .i64 k]) :
    Calls Try.prog 16 cargs w fun e w' => ∃ v r fin, e = .returned v ∧ (r = .int .i64 (k + szS xs) ∧ fin = [rowQ 3 ((mS k xs).map spn) qs]) ∧ fin.length = [(⟨57, 2, rowQ 3 (xs.map spn) qs, false⟩ : Row)].length ∧
      (∀ (k : Nat) row f, [(⟨57, 2, rowQ 3 (xs.map spn) qs, false⟩ : Row)][k]? = some row → fin[k]? = some f → f.length = row.es.length ∧ (row.bx = true → f = row.es)) ∧ ∀ t, t ≠ io → ∃ ρ', RetOk G true w X w' v r [⟨57, 2, rowQ 3 (xs.map spn) qs, false⟩] fin t ρ' := by
  refine contract_at hmix Try.func16 rfl (by kernel_rfl) (Nat.le_of_ble_eq_true rfl) (fun row h => by simp at h; subst h; exact .inl rfl) ?_ hF hW hC
  have hty_u31 := ty_u31
  have hty_s31 := ty_s31
  have hty_f57_0 := ty_f57_0
  have hty_t3 := ty_t3
  have hty_f57_1 := ty_f57_1
  have hty_c40 := ty_c40
  have hty_u40 := ty_u40
  have hty_s40 := ty_s40
  have hl0 : (rowQ 3 (xs.map spn) qs).length = xs.length := by rw [rowQ_len (by simp; omega)]; simp
  repeat' (first
      | (refine g_exec ?_; first | (refine g_move ?_; refine x_moveO _ rfl ?_) | (refine g_assign ?_; refine x_assignO _ rfl ?_) | (refine g_bin ?_; first | (refine x_add rfl rfl aO ?_) | (refine x_bin _ rfl rfl rfl ?_) | (refine x_strBin _ rfl rfl rfl ?_)) | (refine g_load ?_; first | (refine x_load_pc aA rfl ?_) | (refine x_load_oc _ aA rfl rfl aE rfl ?_) | (refine x_load_pa _ aA rfl aZ aL ?_) | (refine x_load_oa _ aA rfl rfl aE aZ aL ?_)) | (refine g_field ?_; first | (refine x_field_p _ aA rfl aL ?_) | (refine x_field_o _ aA rfl rfl (by simp only [lx, Nat.reduceAdd]; first | done | rfl) ?_)) | (refine g_index ?_; first | (refine x_index_l _ aA rfl rfl aO aA ?_) | (refine x_index_o _ aA rfl rfl rfl rfl aO aO (by first | (rw [Nat.zero_add, Int.toNat_natCast]) | (rw [Nat.zero_add]) | rfl) ?_)) | (refine g_call ?_; first | (refine x_len_l aA rfl ?_) | (refine x_len_o aA rfl rfl ?_) | (refine x_len_n aA rfl ?_) | (refine x_len_s aA (evO_ok rfl) ?_)) | (refine x_storeO _ _ _ rfl rfl aE (by first | assumption | (exact TAgg.size aA)) rfl rfl rfl aZ rfl aL (by first | (first | (simp only [lx, Nat.reduceAdd]; first | done | rfl) | fail) | rfl) ?_) | (refine x_nil (hK _ _ (.inl rfl) ?_); clear hK K) | (refine x_nil (hK _ _ (.inr (by kernel_rfl)) ?_); clear hK K))
      | (refine g_code ?_; first | (refine v_seq ?_) | (refine v_region (fun K hK => ?_)) | (refine v_block ?_) | (refine v_skip ?_) | (refine v_ret ?_) | (refine v_exit ?_) | (refine g_cond ?_; first | (refine v_cond_y rfl aD ?_) | (refine v_cond_n rfl aD ?_) | (refine v_condt rfl (fun h => ?_) (fun h => ?_) <;> (have h' := h; (try simp only [sx] at h')))))
      | (refine q_then ?_) | (refine q_then_r ?_) | (refine q_then_e ?_) | (refine q_blk_n ?_) | (refine q_blk_r ?_) | (refine q_blk_e ?_) | (refine q_blk_o rfl ?_) | (refine q_loop_r ?_) | (refine q_loop_e ?_) | (refine ret_n ?_))
  refine v_loopK [] [] (fun p : Nat × Int × List (List PV) => [(0, .osl (io, 0) 0 xs.length), (1, .int .i64 p.2.1), (5, .int .i64 p.1)]) (fun p : Nat × Int × List (List PV) => [((io, 0), some ⟨57, 2, p.2.2, false⟩)]) (fun p : Nat × Int × List (List PV) => p.1 ≤ xs.length ∧ p.2.1 = k + szS (xs.take p.1) ∧ p.2.2.length = xs.length ∧ ∀ (j : Nat) q s, qs[j]? = some q → (if j < p.1 then (mS k xs)[j]? else xs[j]?) = some s → p.2.2[j]? = some [.int .i64 s.weight, .sem (LP q 3 (ints s.burned))]) (fun p : Nat × Int × List (List PV) => xs.length - p.1) ((0, k, rowQ 3 (xs.map spn) qs)) rfl rfl (fun _ => rfl) (fun _ => rfl) rfl (by refine ⟨?_, ?_, rfl, rfl⟩ <;> (repeat' (first | exact trivial | exact ⟨rfl, rfl⟩ | exact rfl | exact ⟨sub_fn, refs_fn⟩ | refine ⟨⟨rfl, rfl⟩, ?_⟩ | refine ⟨⟨sub_fn, refs_fn⟩, ?_⟩ | refine ⟨⟨rfl, fun h => Bool.noConfusion h⟩, ?_⟩ | refine ⟨⟨rfl, fun h => ?_⟩, ?_⟩ | refine ⟨rfl, ?_⟩ | refine ⟨?_, ?_⟩ | fail))) ⟨by simp, by simp [szS, sumBy], hl0, fun j q s hq hs => by rw [if_neg aO] at hs; exact rowQ_at (p := spn s) (by simp [hs]) hq⟩ (fun p hp => ?_)
  obtain ⟨i, kq, es⟩ := p
  obtain ⟨hi1, hi2, hi3, hi4⟩ := hp
  simp only at hi1 hi2 hi3 hi4
  rcases Nat.lt_or_ge i xs.length with hlt | hge
  · obtain ⟨a, hga⟩ := get_ex hlt
    obtain ⟨q, hgq⟩ := get_ex (show i < qs.length by omega)
    have hba := hb a (get_mem hga)
    have he := hi4 i q a hgq (by rw [if_neg aO]; exact hga)
    have hsp := szS_drop xs i
    have hn1 := szS_nonneg (xs.take i)
    have hn2 : (1 : Int) + a.burned.length ≤ szS (xs.drop i) := by
      have : xs.drop i = a :: xs.drop (i + 1) := by
        obtain ⟨h1, h2⟩ := List.getElem?_eq_some_iff.1 hga
        rw [List.drop_eq_getElem_cons h1, h2]
      rw [this, szS_cons]
      have := szS_nonneg (xs.drop (i + 1))
      omega
    have hoth : ∀ (j : Nat) e, j ≠ i → es[j]? = some e → ∃ n q' s, e = [.int .i64 n, .sem (LP q' 3 s)] ∧ ∀ c, inQ q c → ¬ inQ q' c := by
      intro j e hji hj
      have hlj := (List.getElem?_eq_some_iff.1 hj).1
      obtain ⟨q', hq'⟩ := get_ex (show j < qs.length by omega)
      obtain ⟨s, hs⟩ : ∃ s, (if j < i then (mS k xs)[j]? else xs[j]?) = some s := by
        split
        · exact get_ex (by rw [mS_len]; omega)
        · exact get_ex aO
      rw [hi4 j q' s hq' hs] at hj
      injection hj with hj
      exact ⟨_, q', _, hj.symm, fun c h1 h2 => hji (ha j i q' q c hq' hgq h2 h1)⟩
    have hrows := mark_rows (kq := kq) (b := a.burned) (b' := markI (kq + 1) a.burned.length) (show i < es.length by omega) hoth
    have hcon : ContractP Try.prog 22 true [.osl (io, 0) 0 (ints a.burned).length, .int .i64 (kq + 1)] [⟨3, 1, ints a.burned, false⟩] (fun r' fin' => r' = .int .i64 (kq + 1 + a.burned.length) ∧ fin' = [ints (markI (kq + 1) a.burned.length)]) := by
      rw [show (ints a.burned).length = a.burned.length by simp]
      exact con_markIntS a.burned (kq + 1) hba aO
    dsimp only
    repeat' (first
      | (refine g_exec ?_; first | (refine g_move ?_; refine x_moveO _ rfl ?_) | (refine g_assign ?_; refine x_assignO _ rfl ?_) | (refine g_bin ?_; first | (refine x_add rfl rfl aO ?_) | (refine x_bin _ rfl rfl rfl ?_) | (refine x_strBin _ rfl rfl rfl ?_)) | (refine g_load ?_; first | (refine x_load_pc aA rfl ?_) | (refine x_load_oc _ aA rfl rfl aE rfl ?_) | (refine x_load_pa _ aA rfl aZ aL ?_) | (refine x_load_oa _ aA rfl rfl aE aZ aL ?_)) | (refine g_field ?_; first | (refine x_field_p _ aA rfl aL ?_) | (refine x_field_o _ aA rfl rfl (by simp only [lx, Nat.reduceAdd]; first | done | rfl) ?_)) | (refine g_index ?_; first | (refine x_index_l _ aA rfl rfl aO aA ?_) | (refine x_index_o _ aA rfl rfl rfl rfl aO aO (by first | (rw [Nat.zero_add, Int.toNat_natCast]) | (rw [Nat.zero_add]) | rfl) ?_)) | (refine g_call ?_; first | (refine x_wr1 (id := (io, 0)) [(0, .osl (io, 0) 0 xs.length), (5, .int .i64 i)] (es.set i [.int .i64 kq, .sem (LP q 3 (ints (markI (kq + 1) a.burned.length)))]) hcon (by simp [markI_len]) (ints_flat _) rfl rfl rfl (hw q (get_mem hgq)) rfl (by simp) hrows ⟨⟨rfl, .inr (.inl ⟨_, _, _, rfl, _, rfl⟩)⟩, ⟨rfl, .inl rfl⟩, trivial⟩ ?_) | (refine x_len_l aA rfl ?_) | (refine x_len_o aA rfl rfl ?_) | (refine x_len_n aA rfl ?_) | (refine x_len_s aA (evO_ok rfl) ?_)) | (refine x_storeO _ _ _ rfl rfl aE (by first | assumption | (exact TAgg.size aA)) rfl rfl rfl aZ rfl aL (by first | (first | (simp only [lx, Nat.reduceAdd]; first | done | rfl) | fail) | rfl) ?_) | (refine x_nil (hK _ _ (.inl rfl) ?_); clear hK K) | (refine x_nil (hK _ _ (.inr (by kernel_rfl)) ?_); clear hK K))
      | (refine g_code ?_; first | (refine v_seq ?_) | (refine v_region (fun K hK => ?_)) | (refine v_block ?_) | (refine v_skip ?_) | (refine v_ret ?_) | (refine v_exit ?_) | (refine g_cond ?_; first | (refine v_cond_y rfl aD ?_) | (refine v_cond_n rfl aD ?_) | (refine v_condt rfl (fun h => ?_) (fun h => ?_) <;> (have h' := h; (try simp only [sx] at h')))))
      | (refine q_then ?_) | (refine q_then_r ?_) | (refine q_then_e ?_) | (refine q_blk_n ?_) | (refine q_blk_r ?_) | (refine q_blk_e ?_) | (refine q_blk_o rfl ?_) | (refine q_loop_r ?_) | (refine q_loop_e ?_) | (refine ret_n ?_))
    refine q_next (i + 1, kq + 1 + a.burned.length, es.set i [.int .i64 kq, .sem (LP q 3 (ints (markI (kq + 1) a.burned.length)))]) rfl (by refine ⟨?_, ?_, rfl, rfl⟩ <;> (repeat' (first | exact trivial | exact ⟨rfl, rfl⟩ | exact rfl | exact ⟨sub_fn, refs_fn⟩ | refine ⟨⟨rfl, rfl⟩, ?_⟩ | refine ⟨⟨sub_fn, refs_fn⟩, ?_⟩ | refine ⟨⟨rfl, fun h => Bool.noConfusion h⟩, ?_⟩ | refine ⟨⟨rfl, fun h => ?_⟩, ?_⟩ | refine ⟨rfl, ?_⟩ | refine ⟨?_, ?_⟩ | fail))) ⟨by simp only; omega, by simp only; rw [szS_take hga]; omega, by simp [hi3], fun j q' s hq' hs => ?_⟩ (by simp only; omega)
    simp only at hs ⊢
    by_cases hji : j = i
    · subst hji
      rw [if_pos aO, mS_at hga] at hs
      injection hs with hs
      subst hs
      rw [hgq] at hq'
      injection hq' with hq'
      subst hq'
      rw [List.getElem?_set_self aO, hi2]
    · rw [List.getElem?_set_ne (fun e => hji e.symm)]
      refine hi4 j q' s hq' ?_
      by_cases h : j < i
      · rw [if_pos h]; rw [if_pos aO] at hs; exact hs
      · rw [if_neg h]; rw [if_neg aO] at hs; exact hs
  · dsimp only
    repeat' (first
      | (refine g_exec ?_; first | (refine g_move ?_; refine x_moveO _ rfl ?_) | (refine g_assign ?_; refine x_assignO _ rfl ?_) | (refine g_bin ?_; first | (refine x_add rfl rfl aO ?_) | (refine x_bin _ rfl rfl rfl ?_) | (refine x_strBin _ rfl rfl rfl ?_)) | (refine g_load ?_; first | (refine x_load_pc aA rfl ?_) | (refine x_load_oc _ aA rfl rfl aE rfl ?_) | (refine x_load_pa _ aA rfl aZ aL ?_) | (refine x_load_oa _ aA rfl rfl aE aZ aL ?_)) | (refine g_field ?_; first | (refine x_field_p _ aA rfl aL ?_) | (refine x_field_o _ aA rfl rfl (by simp only [lx, Nat.reduceAdd]; first | done | rfl) ?_)) | (refine g_index ?_; first | (refine x_index_l _ aA rfl rfl aO aA ?_) | (refine x_index_o _ aA rfl rfl rfl rfl aO aO (by first | (rw [Nat.zero_add, Int.toNat_natCast]) | (rw [Nat.zero_add]) | rfl) ?_)) | (refine g_call ?_; first | (refine x_len_l aA rfl ?_) | (refine x_len_o aA rfl rfl ?_) | (refine x_len_n aA rfl ?_) | (refine x_len_s aA (evO_ok rfl) ?_)) | (refine x_storeO _ _ _ rfl rfl aE (by first | assumption | (exact TAgg.size aA)) rfl rfl rfl aZ rfl aL (by first | (first | (simp only [lx, Nat.reduceAdd]; first | done | rfl) | fail) | rfl) ?_) | (refine x_nil (hK _ _ (.inl rfl) ?_); clear hK K) | (refine x_nil (hK _ _ (.inr (by kernel_rfl)) ?_); clear hK K))
      | (refine g_code ?_; first | (refine v_seq ?_) | (refine v_region (fun K hK => ?_)) | (refine v_block ?_) | (refine v_skip ?_) | (refine v_ret ?_) | (refine v_exit ?_) | (refine g_cond ?_; first | (refine v_cond_y rfl aD ?_) | (refine v_cond_n rfl aD ?_) | (refine v_condt rfl (fun h => ?_) (fun h => ?_) <;> (have h' := h; (try simp only [sx] at h')))))
      | (refine q_then ?_) | (refine q_then_r ?_) | (refine q_then_e ?_) | (refine q_blk_n ?_) | (refine q_blk_r ?_) | (refine q_blk_e ?_) | (refine q_blk_o rfl ?_) | (refine q_loop_r ?_) | (refine q_loop_e ?_) | (refine ret_n ?_))
    have hfin : es = rowQ 3 ((mS k xs).map spn) qs := List.ext_getElem? fun j => by
      rcases Nat.lt_or_ge j xs.length with hj | hj
      · obtain ⟨q', hq'⟩ := get_ex (show j < qs.length by omega)
        obtain ⟨s, hs⟩ := get_ex (show j < (mS k xs).length by rw [mS_len]; omega)
        rw [hi4 j q' s hq' (by rw [if_pos aO]; exact hs)]
        exact (rowQ_at (p := spn s) (by simp [hs]) hq').symm
      · rw [List.getElem?_eq_none aO, List.getElem?_eq_none (by rw [rowQ_len (by simp [mS_len]; omega)]; simp [mS_len]; omega)]
    subst hfin
    exact ret_io rfl (lookE_ok rfl) (by rw [hi2, List.take_of_length_le aO]) (by show (rowQ _ _ _).length = (rowQ _ _ _).length; rw [hl0, hi3]) (by rfl)
end Go.Vs
