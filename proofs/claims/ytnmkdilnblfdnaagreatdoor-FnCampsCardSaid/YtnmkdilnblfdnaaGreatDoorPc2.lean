/- TEXTS READ: the program's reading: strconv.Itoa, strconv.Atoi, strings.Split, strings.ReplaceAll by the kit's contracts. -/
import Derived.Test.YtnmkdilnblfdnaaGreatDoorVau
import Derived.Test.YtnmkdilnblfdnaaGreatDoorPc1
import Derived.Test.YtnmkdilnblfdnaaGreatDoorCts
import Derived.WalkKit
set_option linter.unusedVariables false
set_option linter.unusedSimpArgs false
set_option maxRecDepth 100000
set_option maxHeartbeats 4000000
namespace Go.Vs
open Go.Proofs Go.RowKit
attribute [local irreducible] exec vwp thenQ blkQ loopQ RetPost

theorem tab_pow (w : World) (h : TabsAt w) : Lib.TabIs Tryz.prog w "internal/strconv.uint64pow10" .u64 Lib.pow10Tab := by
  obtain ⟨hp, ⟨⟨t, fr, h1⟩, _, _⟩, h2⟩ := h
  have hg : Tryz.prog.globalNamed "internal/strconv.uint64pow10" = some gPow := by kernel_rfl
  have h3 := (h2 gPow (by simp [tabG])).2
  rw [h1] at h3
  unfold Lib.TabIs World.var?
  rw [hg]
  simp only [Option.bind_some, h3]
theorem tab_err (w : World) (h : TabsAt w) : ∃ tp p, w.var? Tryz.prog "strconv.ErrSyntax" = some #[.iface tp p] := by
  obtain ⟨hp, ⟨_, ⟨tp, p, t, fr, h1⟩, _⟩, h2⟩ := h
  have hg : Tryz.prog.globalNamed "strconv.ErrSyntax" = some gErr := by kernel_rfl
  have h3 := (h2 gErr (by simp [tabG])).2
  rw [h1] at h3
  refine ⟨tp, p, ?_⟩
  unfold World.var?
  rw [hg]
  simp only [Option.bind_some, h3]
theorem tab_max (w : World) (h : TabsAt w) : ∃ m : Int, w.cell? ⟨gMax, 0, none⟩ = some (.int .i64 m) := by
  obtain ⟨hp, ⟨_, _, ⟨m, t, fr, h1⟩⟩, h2⟩ := h
  have h3 := (h2 gMax (by simp [tabG])).2
  rw [h1] at h3
  exact ⟨m, by rw [cell_of_row w gMax 0 _ t fr h3]; rfl⟩
theorem tabs_below {w w' : World} (h : TabsAt w) (hb : Below w.heap.size w w') : TabsAt w' := by
  obtain ⟨hp, h1, h2⟩ := h
  exact ⟨hp, h1, fun g hg => ⟨Nat.lt_of_lt_of_le (h2 g hg).1 hb.size, (hb.block g (h2 g hg).1).trans (h2 g hg).2⟩⟩
theorem below_grown (w : World) (k : Nat) (os : Array Obj) : Below w.heap.size w (Sort.grow (w.drewN k) os) := by
  refine ⟨rfl, rfl, rfl, ?_, fun b hb => ?_⟩
  · simp [Sort.grow, World.drewN]
  · simp only [Sort.grow, World.drewN]
    exact Array.getElem?_append_left hb
theorem args1 {v : Value} {x : PV} (hx : ∀ ρ w S M c, Rep ρ w S M c x → c = v) {ρ : Id → Option (Nat × Nat)} {w : World} {S : Nat → Prop} {M : Mem} {cargs : Array Value} (h : Comps ρ w S M cargs [x]) : cargs = #[v] := by
  obtain ⟨h1, h2⟩ := h
  obtain ⟨c, hc, hr⟩ := h2 0 _ rfl
  have := hx _ _ _ _ _ hr
  subst this
  apply Array.ext
  · simpa using h1
  · intro i hi1 hi2
    have hi : i = 0 := by simp at h1; omega
    subst hi
    obtain ⟨_, e⟩ := Array.getElem?_eq_some_iff.1 hc
    simpa using e
theorem argsL {vs : List Value} {xs : List PV} (hl : vs.length = xs.length) (hx : ∀ (j : Nat) x v, xs[j]? = some x → vs[j]? = some v → ∀ ρ w S M c, Rep ρ w S M c x → c = v) {ρ : Id → Option (Nat × Nat)} {w : World} {S : Nat → Prop} {M : Mem} {cargs : Array Value} (h : Comps ρ w S M cargs xs) : cargs = vs.toArray := by
  obtain ⟨h1, h2⟩ := h
  apply Array.ext
  · simp [h1, hl]
  · intro i hi1 hi2
    have hx1 : i < xs.length := by omega
    obtain ⟨c, hc, hr⟩ := h2 i _ (List.getElem?_eq_getElem hx1)
    have hv : i < vs.length := by omega
    have := hx i _ _ (List.getElem?_eq_getElem hx1) (List.getElem?_eq_getElem hv) _ _ _ _ _ hr
    obtain ⟨_, e⟩ := Array.getElem?_eq_some_iff.1 hc
    rw [e, this]
    simp
theorem k_itoaI (n : Int) (h0 : -9223372036854775808 ≤ n) (h1 : n ≤ 9223372036854775807) : Con Tryz.prog 67 [.int .i64 n] (.str (bs (Lib.itoa n))) := by
  refine con_lib (vs := #[.int .i64 n]) ⟨_, Tryz.func67, by kernel_rfl, by kernel_rfl⟩ (args1 fun _ _ _ _ c h => rep_int.1 h) (fun t => ⟨rfl, rfl⟩) fun w hw => ?_
  refine (Tryz.internal_strconv_Itoa n h0 h1 w (tab_pow w hw)).mono ?_
  rintro e w' ⟨rfl, k, os, rfl⟩
  exact ⟨_, rfl, fun ρ S M => rep_str.2 rfl, below_grown w k os⟩
theorem k_itoaZ (n : Int) (h0 : -9223372036854775808 ≤ n) (h1 : n ≤ 9223372036854775807) : Con Tryz.prog 61 [.int .i64 n] (.str (bs (Lib.itoa n))) := by
  have k := k_itoaI n h0 h1
  intro al
  refine contract_of hmix Tryz.func61 rfl (by kernel_rfl) (by kernel_rfl) (Nat.le_of_ble_eq_true rfl) (fun row h => by cases h) ?_
  repeat' (first
      | (refine g_exec ?_; first | (refine g_move ?_; refine x_moveO _ rfl ?_) | (refine g_assign ?_; refine x_assignO _ rfl ?_) | (refine g_call ?_; refine x_callG true (k) rfl rfl rfl aS rfl aH ?_; simp only [cl]) | (refine x_nil (hK _ _ (.inl rfl) ?_); clear hK K) | (refine x_nil (hK _ _ (.inr (by kernel_rfl)) ?_); clear hK K))
      | (refine g_code ?_; first | (refine v_seq ?_) | (refine v_region (fun K hK => ?_)) | (refine v_block ?_) | (refine v_skip ?_) | (refine v_ret ?_) | (refine v_exit ?_))
      | (refine q_then ?_) | (refine q_then_r ?_) | (refine q_then_e ?_) | (refine q_blk_n ?_) | (refine q_blk_r ?_) | (refine q_blk_e ?_) | (refine q_blk_o rfl ?_) | (refine q_loop_r ?_) | (refine q_loop_e ?_) | (refine ret_n ?_))
  all_goals exact ret_str rfl (lookE_ok rfl) rfl
theorem itoaC : ItoaC := fun n hn => by
  have k := k_itoaZ (n : Int) aO aO
  rw [itoa_nat] at k
  exact k
def fiV (n : Int) : ByteArray := if -999999 ≤ n ∧ n ≤ 999999 then bs (Lib.itoa n) else ⟨#[]⟩
theorem k_FormatInt (n : Int) (h0 : -9223372036854775808 ≤ n) (h1 : n ≤ 9223372036854775807) : Con Tryz.prog 69 [.int .i64 n] (.tuple [.str (fiV n), .bool (decide (-999999 ≤ n ∧ n ≤ 999999))]) := by
  have k := k_itoaZ n h0 h1
  unfold fiV
  intro al
  refine contract_of hmix Tryz.func69 rfl (by kernel_rfl) (by kernel_rfl) (Nat.le_of_ble_eq_true rfl) (fun row h => by cases h) ?_
  by_cases hn : -999999 ≤ n ∧ n ≤ 999999
  · rw [if_pos hn, decide_eq_true hn]
    repeat' (first
      | (refine g_exec ?_; first | (refine g_move ?_; refine x_moveO _ rfl ?_) | (refine g_assign ?_; refine x_assignO _ rfl ?_) | (refine g_un ?_; first | (refine x_not rfl ?_) | (refine x_neg rfl aO ?_)) | (refine g_call ?_; first | (refine x_callG true (k_in _ _ _) rfl rfl rfl aS rfl aH ?_; simp only [cl]) | (refine x_callG true (k) rfl rfl rfl aS rfl aH ?_; simp only [cl])) | (refine x_nil (hK _ _ (.inl rfl) ?_); clear hK K) | (refine x_nil (hK _ _ (.inr (by kernel_rfl)) ?_); clear hK K))
      | (refine g_code ?_; first | (refine v_seq ?_) | (refine v_region (fun K hK => ?_)) | (refine v_block ?_) | (refine v_skip ?_) | (refine v_ret ?_) | (refine v_exit ?_) | (refine g_cond ?_; first | (refine v_cond_y rfl aD ?_) | (refine v_cond_n rfl aD ?_) | (refine v_condt rfl (fun h => ?_) (fun h => ?_) <;> (have h' := h; (try simp only [sx] at h')))))
      | (refine q_then ?_) | (refine q_then_r ?_) | (refine q_then_e ?_) | (refine q_blk_n ?_) | (refine q_blk_r ?_) | (refine q_blk_e ?_) | (refine q_blk_o rfl ?_) | (refine q_loop_r ?_) | (refine q_loop_e ?_) | (refine ret_n ?_))
    all_goals first
      | (exfalso; omega)
      | exact aR
  · rw [if_neg hn, decide_eq_false hn]
    repeat' (first
      | (refine g_exec ?_; first | (refine g_move ?_; refine x_moveO _ rfl ?_) | (refine g_assign ?_; refine x_assignO _ rfl ?_) | (refine g_un ?_; first | (refine x_not rfl ?_) | (refine x_neg rfl aO ?_)) | (refine g_call ?_; first | (refine x_callG true (k_in _ _ _) rfl rfl rfl aS rfl aH ?_; simp only [cl]) | (refine x_callG true (k) rfl rfl rfl aS rfl aH ?_; simp only [cl])) | (refine x_nil (hK _ _ (.inl rfl) ?_); clear hK K) | (refine x_nil (hK _ _ (.inr (by kernel_rfl)) ?_); clear hK K))
      | (refine g_code ?_; first | (refine v_seq ?_) | (refine v_region (fun K hK => ?_)) | (refine v_block ?_) | (refine v_skip ?_) | (refine v_ret ?_) | (refine v_exit ?_) | (refine g_cond ?_; first | (refine v_cond_y rfl aD ?_) | (refine v_cond_n rfl aD ?_) | (refine v_condt rfl (fun h => ?_) (fun h => ?_) <;> (have h' := h; (try simp only [sx] at h')))))
      | (refine q_then ?_) | (refine q_then_r ?_) | (refine q_then_e ?_) | (refine q_blk_n ?_) | (refine q_blk_r ?_) | (refine q_blk_e ?_) | (refine q_blk_o rfl ?_) | (refine q_loop_r ?_) | (refine q_loop_e ?_) | (refine ret_n ?_))
    all_goals first
      | (exfalso; omega)
      | exact aR

/-- From a contract of values to a call: a text and a truth. -/
theorem calls_strB {f : FuncId} {args : List PV} {cargs : Array Value} {w : World} {t : ByteArray} {b : Bool} (hC : Con Tryz.prog f args (.tuple [.str t, .bool b])) (ha : Comps (fun _ => none) w (fun b => b < w.heap.size) noMem cargs args) (hT : TabsAt w) :
    Calls Tryz.prog f cargs w fun e w' => e = .returned (.tuple #[.string t, .bool b]) ∧ Below w.heap.size w w' := by
  have hM : ioMem [] = noMem := by funext id; simp [ioMem, noMem]
  have hno : ∀ id (r : Row), ioMem [] id ≠ some (some r) := fun id r h => by rw [hM] at h; cases h
  have hW : WRel (fun _ => True) (fun _ => none) w [] (ioMem []) w :=
    ⟨fun _ _ r _ _ _ _ h => absurd h (hno _ r), fun _ r h => absurd h (hno _ r), fun _ r h => absurd h (hno _ r), ⟨rfl, rfl, rfl, Nat.le_refl _, fun _ _ _ => rfl, fun b cur ty fr h => ⟨cur, h, rfl⟩⟩, fun _ _ => trivial, let ⟨hp, h1, h2⟩ := hT; ⟨hp, h1, fun g hg => ⟨⟨(h2 g hg).1, fun id r z h => absurd h (hno id r), trivial⟩, (h2 g hg).2⟩⟩⟩
  have hS : (Stab (fun _ => True) (fun _ => none) (ioMem []) w) = (fun b => b < w.heap.size) := by
    funext x
    apply propext
    exact ⟨fun h => h.1, fun h => ⟨h, fun id r z hm => absurd hm (hno _ r), trivial⟩⟩
  refine (((hC false).2 (fun _ => True) w [] (fun _ => none) cargs hW rfl ?_).mono) ?_
  · rw [hS, hM]; exact ha
  · rintro e w' ⟨v, r, fin, rfl, ⟨rfl, rfl⟩, _, _, hr⟩
    obtain ⟨ρ', hr⟩ := hr 0 (by unfold io; omega)
    have hv : v = .tuple #[.string t, .bool b] := by
      obtain ⟨cs, rfl, hc⟩ := rep_tuple.1 hr.val
      have := argsL (vs := [.string t, .bool b]) (xs := [.str t, .bool b]) rfl (fun j x v hx hv => by
        match j, hx, hv with
        | 0, hx, hv => simp at hx hv; subst hx; subst hv; exact fun _ _ _ _ c h => rep_str.1 h
        | 1, hx, hv => simp at hx hv; subst hx; subst hv; exact fun _ _ _ _ c h => rep_bool.1 h) hc
      rw [this]
    subst hv
    have hk := hr.rel.keep
    exact ⟨rfl, hk.os, hk.tape, hk.output, hk.size, fun k hk' => hk.block k hk' (fun z h => by cases h)⟩
theorem calls_Format (n : Int) (h0 : -9223372036854775808 ≤ n) (h1 : n ≤ 9223372036854775807) (w : World) (hT : TabsAt w) :
    Calls Tryz.prog 69 #[.int .i64 n] w fun e w' => e = .returned (.tuple #[.string (fiV n), .bool (decide (-999999 ≤ n ∧ n ≤ 999999))]) ∧ Below w.heap.size w w' :=
  calls_strB (k_FormatInt n h0 h1) ⟨rfl, fun j u hu => by
    match j, hu with
    | 0, hu => simp at hu; subst hu; exact ⟨_, rfl, rep_int.2 rfl⟩⟩ hT
theorem piV_none {s : ByteArray} (h : Lib.atoi s.data.toList = none) : piV s = none := by unfold piV; rw [h]
theorem atoi_bound {s : ByteArray} {n : Int} (hs : s.size ≤ 18) (h : Lib.atoi s.data.toList = some n) : -9223372036854775808 ≤ n ∧ n ≤ 9223372036854775807 := by
  have key : ∀ (l : List UInt8) (m : Nat), l.length ≤ 18 → Lib.decNat l = some m → m ≤ 9223372036854775807 := by
    intro l m hl hm
    unfold Lib.decNat at hm
    split at hm
    · cases hm
    · have h1 := Lib.decFrom_lt l 0 m hm
      have hp : 10 ^ l.length ≤ 10 ^ 18 := Nat.pow_le_pow_right (by decide) hl
      have e18 : (10 : Nat) ^ 18 = 1000000000000000000 := by decide
      omega
  have hl : s.data.toList.length ≤ 18 := by rw [size_l]; exact hs
  cases hsl : s.data.toList with
  | nil => rw [hsl] at h; cases h
  | cons b r =>
    rw [hsl] at h hl
    simp only [Lib.atoi] at h
    split at h
    · obtain ⟨m, h1, rfl⟩ := Option.map_eq_some_iff.1 h
      have := key r m (by simp at hl; omega) h1
      omega
    · split at h
      · obtain ⟨m, h1, rfl⟩ := Option.map_eq_some_iff.1 h
        have := key r m (by simp at hl; omega) h1
        omega
      · obtain ⟨m, h1, rfl⟩ := Option.map_eq_some_iff.1 h
        have := key (b :: r) m hl h1
        omega
theorem below2 {w W1 W2 : World} (h : Below w.heap.size w W1) (g : Below W1.heap.size W1 W2) : Below w.heap.size w W2 :=
  ⟨g.os.trans h.os, g.tape.trans h.tape, g.output.trans h.output, Nat.le_trans h.size g.size, fun b hb => (g.block b (Nat.lt_of_lt_of_le hb h.size)).trans (h.block b hb)⟩
set_option maxRecDepth 100000 in
theorem calls_ParseInt (s : ByteArray) (hs : s.size ≤ 7) (w : World) (hT : TabsAt w) :
    Calls Tryz.prog 63 #[.string s] w fun e w' => e = .returned (.tuple #[.int .i64 ((piV s).getD 0), .bool (piV s).isSome]) ∧ Below w.heap.size w w' := by
  cases hat : Lib.atoi s.data.toList with
  | none =>
    rw [piV_none hat]
    obtain ⟨tp, p, he⟩ := tab_err w hT
    go_enter Tryz.func63, Tryz.ntmps63
    go_wp2_with (first
      | (go_at_call 68; refine (Tryz.strconv_Atoi_err_var s aO hat tp p _ he).mono ?_; rintro e W1 ⟨N, rfl, -, -, hb⟩)
      | (go_at_call 69; refine (calls_Format 0 (by decide) (by decide) _ (tabs_below hT hb)).mono ?_; rintro e W2 ⟨rfl, hb2⟩))
    go_ret2
    exact ⟨rfl, below2 hb hb2⟩
  | some n =>
    obtain ⟨b0, b1⟩ := atoi_bound aO hat
    have kF := calls_Format n b0 b1
    by_cases hr : -999999 ≤ n ∧ n ≤ 999999
    · rw [decide_eq_true hr, fiV, if_pos hr] at kF
      by_cases ht : Lib.itoa n = s.data.toList
      · have hp : piV s = some n := by unfold piV; rw [hat]; simp only; rw [if_pos ⟨hs, hr, ht⟩]
        rw [hp]
        rw [ht, bs_toList] at kF
        go_enter Tryz.func63, Tryz.ntmps63
        go_wp2_with (first
          | (go_at_call 68; refine (Tryz.strconv_Atoi s n aO hat _).mono ?_; rintro e W1 ⟨rfl, t, rfl⟩)
          | (go_at_call 69; refine (kF _ (tabs_below hT (Lib.bytesWorld_below _ _ _))).mono ?_; rintro e W2 ⟨rfl, hb2⟩))
        all_goals first
          | (go_ret2; exact ⟨rfl, below2 (Lib.bytesWorld_below _ _ _) hb2⟩)
          | (exfalso; apply hne; apply str_inj; simp_all; done)
      · have hp : piV s = none := by unfold piV; rw [hat]; simp only; rw [if_neg fun h => ht h.2.2]
        rw [hp]
        have hne : ¬ bs (Lib.itoa n) = s := fun e => ht (by rw [← e])
        generalize bs (Lib.itoa n) = z at *
        go_enter Tryz.func63, Tryz.ntmps63
        go_wp2_with (first
          | (go_at_call 68; refine (Tryz.strconv_Atoi s n aO hat _).mono ?_; rintro e W1 ⟨rfl, t, rfl⟩)
          | (go_at_call 69; refine (kF _ (tabs_below hT (Lib.bytesWorld_below _ _ _))).mono ?_; rintro e W2 ⟨rfl, hb2⟩))
        all_goals first
          | (go_ret2; exact ⟨rfl, below2 (Lib.bytesWorld_below _ _ _) hb2⟩)
          | (exfalso; apply hne; apply str_inj; simp_all; done)
    · rw [decide_eq_false hr, fiV, if_neg hr] at kF
      have hp : piV s = none := by unfold piV; rw [hat]; simp only; rw [if_neg fun h => hr h.2.1]
      rw [hp]
      go_enter Tryz.func63, Tryz.ntmps63
      go_wp2_with (first
        | (go_at_call 68; refine (Tryz.strconv_Atoi s n aO hat _).mono ?_; rintro e W1 ⟨rfl, t, rfl⟩)
        | (go_at_call 69; refine (kF _ (tabs_below hT (Lib.bytesWorld_below _ _ _))).mono ?_; rintro e W2 ⟨rfl, hb2⟩))
      all_goals first
          | (go_ret2; exact ⟨rfl, below2 (Lib.bytesWorld_below _ _ _) hb2⟩)
          | (exfalso; apply hne; apply str_inj; simp_all; done)
theorem rep_ib {ρ : Id → Option (Nat × Nat)} {w : World} {S : Nat → Prop} {M : Mem} {n : Int} {b : Bool} : Rep ρ w S M (.tuple #[.int .i64 n, .bool b]) (.tuple [.int .i64 n, .bool b]) :=
  rep_tuple.2 ⟨_, rfl, rfl, fun j u hu => by
    match j, hu with
    | 0, hu => simp at hu; subst hu; exact ⟨_, rfl, rep_int.2 rfl⟩
    | 1, hu => simp at hu; subst hu; exact ⟨_, rfl, rep_bool.2 rfl⟩⟩
theorem piV_long {s : ByteArray} (h : ¬ s.size ≤ 7) : piV s = none := by
  unfold piV
  split
  · rw [if_neg fun h2 => h h2.1]
  · rfl
theorem k_ParseInt (s : ByteArray) (hs : s.size ≤ 1099511627776) : Con Tryz.prog 63 [.str s] (.tuple [.int .i64 ((piV s).getD 0), .bool (piV s).isSome]) := by
  by_cases h7 : s.size ≤ 7
  · refine con_lib (vs := #[.string s]) ⟨_, Tryz.func63, by kernel_rfl, by kernel_rfl⟩ (args1 fun _ _ _ _ c h => rep_str.1 h) (fun t => ⟨rfl, rfl⟩) fun w hw => ?_
    refine (calls_ParseInt s h7 w hw).mono ?_
    rintro e w' ⟨rfl, hb⟩
    exact ⟨_, rfl, fun ρ S M => rep_ib, hb⟩
  · rw [piV_long h7]
    intro al
    refine contract_of hmix Tryz.func63 rfl (by kernel_rfl) (by kernel_rfl) (Nat.le_of_ble_eq_true rfl) (fun row h => by cases h) ?_
    have hty_u9 := ty_u9
    repeat' (first
      | (refine g_exec ?_; first | (refine g_move ?_; refine x_moveO _ rfl ?_) | (refine g_assign ?_; refine x_assignO _ rfl ?_) | (refine g_bin ?_; first | (refine x_bin _ rfl rfl rfl ?_) | (refine x_boolNe aA rfl rfl ?_) | (refine x_strBin _ rfl rfl rfl ?_)) | (refine g_un ?_; first | (refine x_not rfl ?_) | (refine x_neg rfl aO ?_)) | (refine g_pick ?_; first | (refine x_pick_b rfl aD rfl ?_) | (refine x_pick_c rfl aD ?_) | (refine x_pick_a rfl aD ?_) | (refine x_pick_d rfl aD rfl ?_)) | (refine g_guard ?_; first | (refine x_gyes rfl rfl aD ?_) | (refine x_gno rfl rfl aD ?_) | (refine x_gun rfl rfl ?_) | (refine x_gsplit rfl rfl (fun h => ?_) (fun h => ?_) <;> (have h' := h; (try simp only [sx] at h')))) | (refine g_call ?_; first | (refine x_len_l aA rfl ?_) | (refine x_len_o aA rfl rfl ?_) | (refine x_len_n aA rfl ?_) | (refine x_len_s aA (evO_ok rfl) ?_)) | (refine x_extract _ rfl rfl ?_) | (refine x_nil (hK _ _ (.inl rfl) ?_); clear hK K) | (refine x_nil (hK _ _ (.inr (by kernel_rfl)) ?_); clear hK K))
      | (refine g_code ?_; first | (refine v_seq ?_) | (refine v_region (fun K hK => ?_)) | (refine v_block ?_) | (refine v_skip ?_) | (refine v_ret ?_) | (refine v_exit ?_) | (refine g_cond ?_; first | (refine v_cond_y rfl aD ?_) | (refine v_cond_n rfl aD ?_) | (refine v_condt rfl (fun h => ?_) (fun h => ?_) <;> (have h' := h; (try simp only [sx] at h')))))
      | (refine q_then ?_) | (refine q_then_r ?_) | (refine q_then_e ?_) | (refine q_blk_n ?_) | (refine q_blk_r ?_) | (refine q_blk_e ?_) | (refine q_blk_o rfl ?_) | (refine q_loop_r ?_) | (refine q_loop_e ?_) | (refine ret_n ?_))
    all_goals first
      | (exfalso; omega)
      | exact aR
theorem k_Replace (s : ByteArray) (hs : s.size ≤ 100) : Con Tryz.prog 43 [.str s, .str ⟨#[58]⟩, .str ⟨#[]⟩] (.str (bs (Lib.replaceAll s.data.toList [58] []))) := by
  refine con_lib (vs := #[.string s, .string ⟨#[58]⟩, .string ⟨#[]⟩]) ⟨_, Tryz.func43, by kernel_rfl, by kernel_rfl⟩ (argsL (vs := [.string s, .string ⟨#[58]⟩, .string ⟨#[]⟩]) rfl fun j x v hx hv => ?_) (fun t => ⟨rfl, rfl⟩) fun w hw => ?_
  · match j, hx, hv with
    | 0, hx, hv => simp at hx hv; subst hx; subst hv; exact fun _ _ _ _ c h => rep_str.1 h
    | 1, hx, hv => simp at hx hv; subst hx; subst hv; exact fun _ _ _ _ c h => rep_str.1 h
    | 2, hx, hv => simp at hx hv; subst hx; subst hv; exact fun _ _ _ _ c h => rep_str.1 h
  · obtain ⟨m, hm⟩ := tab_max w hw
    refine (Tryz.strings_ReplaceAll s ⟨#[58]⟩ ⟨#[]⟩ m w aO hm (Nat.le_refl _) (by show s.size + _ * 0 ≤ _; omega)).mono ?_
    rintro e w' ⟨rfl, hb⟩
    exact ⟨_, rfl, fun ρ S M => rep_str.2 rfl, hb⟩
theorem split_bs (s : ByteArray) : Lib.splitB ⟨#[32]⟩ 0 (Lib.countB s ⟨#[32]⟩) s = (Lib.split s.data.toList [32]).map bs := by
  have h := Lib.splitB_data ⟨#[32]⟩ 0 (Lib.countB s ⟨#[32]⟩) s
  have h2 : Lib.split s.data.toList [32] = (Lib.splitB ⟨#[32]⟩ 0 (Lib.countB s ⟨#[32]⟩) s).map (·.data.toList) := h.symm
  rw [h2, List.map_map]
  exact (List.map_id' _).symm.trans (List.map_congr_left fun b _ => (bs_toList b).symm)
theorem k_Split (s : ByteArray) (hs : s.size ≤ 1000) : Con Tryz.prog 42 [.str s, .str ⟨#[32]⟩] (.olist 9 1 (strs ((Lib.split s.data.toList [32]).map bs))) := by
  rw [← split_bs]
  have hl := Lib.splitB_all ⟨#[32]⟩ (Nat.le_refl _) 0 _ s rfl
  have hc := Lib.countB_le ⟨#[32]⟩ (Nat.le_refl _) s.size s (Nat.le_refl _)
  refine con_libS (vs := #[.string s, .string ⟨#[32]⟩]) ⟨_, Tryz.func42, by kernel_rfl, by kernel_rfl⟩ (argsL (vs := [.string s, .string ⟨#[32]⟩]) rfl fun j x v hx hv => ?_) (by rw [hl]; unfold maxLen; omega) (fun e => by rw [e] at hl; simp at hl) fun w hw => ?_
  · match j, hx, hv with
    | 0, hx, hv => simp at hx hv; subst hx; subst hv; exact fun _ _ _ _ c h => rep_str.1 h
    | 1, hx, hv => simp at hx hv; subst hx; subst hv; exact fun _ _ _ _ c h => rep_str.1 h
  · obtain ⟨m, hm⟩ := tab_max w hw
    refine (Tryz.strings_Split s ⟨#[32]⟩ m w aO hm (Nat.le_refl _)).mono ?_
    rintro e w' ⟨rfl, rfl⟩
    rw [hl]
    exact ⟨rfl, rfl⟩
end Go.Vs
