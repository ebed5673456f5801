/- Parts of a proof: what its last text mentions. -/
import Derived.Test.YtgpnbhnndhakhaaPbe
set_option linter.unusedVariables false
set_option linter.unusedSimpArgs false
set_option maxRecDepth 100000
set_option maxHeartbeats 4000000
namespace Go.Vs
open Go.Proofs
attribute [local irreducible] exec vwp thenQ blkQ loopQ RetPost
structure FlI (t : Terrain) (P : Int → Int → Bool) (src W : List Int) (F : List Bool) : Prop where
  len : F.length = t.burn.length
  snd : ∀ a, IsCell t a → fv F a = true → Fl t (fun a c => P a c = true) src a
  que : ∀ a ∈ W, IsCell t a ∧ fv F a = true
  src : ∀ s ∈ src, fv F s = true
def Clo (t : Terrain) (P : Int → Int → Bool) (W : List Int) (F : List Bool) : Prop := ∀ a c, IsCell t a → IsCell t c → fv F a = true → a ∉ W → P a c = true → fv F c = true
def CloX (t : Terrain) (P : Int → Int → Bool) (W : List Int) (F : List Bool) (x : Int) (i : Nat) : Prop := ∀ a c, IsCell t a → IsCell t c → fv F a = true → a ∉ W → (a = x → c < i) → P a c = true → fv F c = true
section
variable {t : Terrain} {P : Int → Int → Bool} {src W : List Int} {F : List Bool} {x : Int} {i : Nat}
theorem FlI.pop (h : FlI t P src (x :: W) F) : FlI t P src W F := ⟨h.len, h.snd, fun a ha => h.que a (List.mem_cons_of_mem _ ha), h.src⟩
theorem Clo.pop (h : Clo t P (x :: W) F) : CloX t P W F x 0 := fun a c ha hc hf hw hx hp => by
  by_cases e : a = x
  · have := hx e; have := hc.1; omega
  · exact h a c ha hc hf (fun hm => by rcases List.mem_cons.1 hm with h | h; exact e h; exact hw h) hp
theorem CloX.done (h : CloX t P W F x t.burn.length) : Clo t P W F := fun a c ha hc hf hw hp => h a c ha hc hf hw (fun _ => hc.2) hp
theorem CloX.skip (h : CloX t P W F x i) (hi : fv F i = true ∨ P x i = false) : CloX t P W F x (i + 1) := fun a c ha hc hf hw hx hp => by
  by_cases e : a = x ∧ c = i
  · obtain ⟨rfl, rfl⟩ := e
    rcases hi with hi | hi
    · exact hi
    · rw [hp] at hi; cases hi
  · exact h a c ha hc hf hw (fun h2 => by have := hx h2; have : c ≠ i := fun h3 => e ⟨h2, h3⟩; omega) hp
theorem fv_set2 (h : i < F.length) (c : Int) (hc : 0 ≤ c) : fv (F.set i true) c = true ↔ c = i ∨ fv F c = true := by
  rw [fv_set true h]
  split
  · exact ⟨fun _ => .inl aO, fun _ => rfl⟩
  · exact ⟨.inr, fun h => h.elim (fun h => by omega) id⟩
theorem FlI.push (h : FlI t P src W F) (hi : i < t.burn.length) (hx : IsCell t x) (hfx : fv F x = true) (hp : P x i = true) (hsrc : ∀ s ∈ src, IsCell t s) : FlI t P src (W ++ [(i : Int)]) (F.set i true) := by
  have hiF : i < F.length := by rw [h.len]; exact hi
  have hci : IsCell t (i : Int) := ⟨by omega, by omega⟩
  refine ⟨by simp [h.len], fun a ha hf => ?_, fun a ha => ?_, fun s hs => ?_⟩
  · rcases (fv_set2 hiF a ha.1).1 hf with e | e
    · subst e
      exact .step (h.snd x hx hfx) hci hp
    · exact h.snd a ha e
  · rcases List.mem_append.1 ha with h1 | h1
    · exact ⟨(h.que a h1).1, (fv_set2 hiF a (h.que a h1).1.1).2 (.inr (h.que a h1).2)⟩
    · rw [List.mem_singleton] at h1
      subst h1
      exact ⟨hci, (fv_set2 hiF _ aO).2 (.inl rfl)⟩
  · exact (fv_set2 hiF s (hsrc s hs).1).2 (.inr (h.src s hs))
theorem CloX.push (h : CloX t P W F x i) (hi : i < F.length) : CloX t P (W ++ [(i : Int)]) (F.set i true) x (i + 1) := fun a c ha hc hf hw hx hp => by
  by_cases e : c = i
  · exact (fv_set2 hi c hc.1).2 (.inl e)
  · have hai : a ≠ i := fun e2 => hw (by rw [e2]; simp)
    have hfa : fv F a = true := by
      rcases (fv_set2 hi a ha.1).1 hf with h1 | h1
      · exact absurd h1 hai
      · exact h1
    exact (fv_set2 hi c hc.1).2 (.inr (h a c ha hc hfa (fun hm => hw (List.mem_append_left _ hm)) (fun h2 => by have := hx h2; omega) hp))
theorem FlI.done (h : FlI t P src [] F) (hc : Clo t P [] F) (a : Int) (ha : IsCell t a) (hs : ∀ s ∈ src, IsCell t s) : fv F a = true ↔ Fl t (fun a c => P a c = true) src a := by
  refine ⟨h.snd a ha, fun hf => ?_⟩
  have key : ∀ a, Fl t (fun a c => P a c = true) src a → IsCell t a ∧ fv F a = true := by
    intro a hf
    induction hf with
    | src hm => exact ⟨hs _ hm, h.src _ hm⟩
    | step _ h2 h3 ih => exact ⟨h2, hc _ _ ih.1 h2 ih.2 (by simp) h3⟩
  exact (key a hf).2
end
open Classical in
noncomputable def flL (t : Terrain) (P : Int → Int → Bool) (src : List Int) : List Int := cellsL t.burn.length fun c => decide (Fl t (fun a c => P a c = true) src (c : Int))
theorem flL_eq {t : Terrain} {P : Int → Int → Bool} {src : List Int} {F : List Bool} (h : FlI t P src [] F) (hc : Clo t P [] F) (hs : ∀ s ∈ src, IsCell t s) : cellsL t.burn.length (fun c => fv F (c : Int)) = flL t P src := by
  classical
  unfold flL
  refine cellsL_congr fun i hi => ?_
  have := h.done hc (i : Int) ⟨by omega, by omega⟩ hs
  rw [Bool.eq_iff_iff]
  simp only [decide_eq_true_eq]
  exact this
theorem flL_len {t : Terrain} {P : Int → Int → Bool} {src : List Int} : (flL t P src).length ≤ t.burn.length := cellsL_len _ _
theorem k_flood1 (F : List Bool) (c : Nat) (hc : c < F.length) : Con Try.prog 149 [.int .i64 (c : Int), .ptr [.list 1 (bools F)]] (.bool (fv F (c : Int))) := by
  intro al
  refine za7 hmix Try.func149 rfl (by kernel_rfl) (by kernel_rfl) (Nat.le_of_ble_eq_true rfl) (fun row h => by cases h) ?_
  have hty_c112 := ty_c112
  have hty_s112 := ty_s112
  have hty_c4 := ty_c4
  have hx := fv_at (F := F) (c := (c : Int)) (by simpa using hc)
  have hl : (bools F).length = F.length := by simp
  repeat' (first
      | (refine za2 ?_; first | (refine za4 ?_; refine zav _ rfl ?_) | (refine zaf ?_; refine zaa _ rfl ?_) | (refine zbj ?_; first | (refine zae aA rfl ?_) | (refine zab _ aA rfl rfl aE rfl ?_) | (refine zac _ aA rfl aZ aL ?_) | (refine zad _ aA rfl rfl aE aZ aL ?_)) | (refine zbh ?_; first | (refine zao _ aA rfl rfl aO aA ?_) | (refine zan _ aA rfl rfl rfl rfl aO aO (by first | (rw [Nat.zero_add, Int.toNat_natCast]) | (rw [Nat.zero_add]) | rfl) ?_)) | (refine zau (hK _ _ (.inl rfl) ?_); clear hK K) | (refine zau (hK _ _ (.inr (by kernel_rfl)) ?_); clear hK K))
      | (refine za0 ?_; first | (refine zbq ?_) | (refine zah (fun K hK => ?_)) | (refine zas ?_) | (refine zaz ?_) | (refine zbo ?_) | (refine za3 ?_))
      | (refine za1 ?_) | (refine zak ?_) | (refine zai ?_) | (refine zat ?_) | (refine zap ?_) | (refine zaq ?_) | (refine zar rfl ?_) | (refine zaj ?_) | (refine zag ?_) | (refine zbp ?_))
  all_goals first
    | (exfalso; omega)
    | exact zb8 rfl (zbr rfl) rfl
theorem k_flood (t : Terrain) (src : List Int) (g : FuncId) (ca : List (List PV)) (P : Int → Int → Bool) (hs : ∀ s ∈ src, IsCell t s) (hl : src.length ≤ 1000000) (hn : t.burn.length ≤ 1000000)
    (hg : ∀ a c, IsCell t a → IsCell t c → Con Try.prog g (.int .i64 a :: .int .i64 c :: ca.map PV.ptr) (.bool (P a c))) :
    Con Try.prog 126 [.agg t.pv, .list 1 (ints src), .fn g [] (ca.map PV.ptr)] (.olist 3 1 (ints (flL t P src))) := by
  intro al
  refine za7 hmix Try.func126 rfl (by kernel_rfl) (by kernel_rfl) (Nat.le_of_ble_eq_true rfl) (fun row h => by cases h) ?_
  have hty_f26_2 := ty_f26_2
  have hty_c24 := ty_c24
  have hty_u24 := ty_u24
  have hty_s24 := ty_s24
  have hty_s112 := ty_s112
  have hty_z4 := ty_z4
  have hty_z112 := ty_z112
  have hty_t112 := ty_t112
  have hty_c3 := ty_c3
  have hty_c112 := ty_c112
  have hty_t4 := ty_t4
  have hty_c4 := ty_c4
  have hty_a26 := ty_a26
  have hl1 : (ints t.burn).length = t.burn.length := by simp
  have hl2 : (ints src).length = src.length := by simp
  have kC := k_copyOfInt src aO
  repeat' (first
      | (refine za2 ?_; first | (refine za4 ?_; refine zav _ rfl ?_) | (refine zaf ?_; refine zaa _ rfl ?_) | (refine zbu ?_; first | (refine zb0 rfl rfl aO ?_) | (refine zbt _ rfl rfl rfl ?_) | (refine zaw _ rfl rfl rfl ?_)) | (refine g_un ?_; first | (refine zca rfl ?_) | (refine zb9 rfl aO ?_)) | (refine zbj ?_; first | (refine zae aA rfl ?_) | (refine zab _ aA rfl rfl aE rfl ?_) | (refine zac _ aA rfl aZ aL ?_) | (refine zad _ aA rfl rfl aE aZ aL ?_)) | (refine zbz ?_; first | (refine zbn _ aA rfl aL ?_) | (refine zbm _ aA rfl rfl (by simp only [lx, Nat.reduceAdd]; first | done | rfl) ?_)) | (refine zbh ?_; first | (refine zao _ aA rfl rfl aO aA ?_) | (refine zan _ aA rfl rfl rfl rfl aO aO (by first | (rw [Nat.zero_add, Int.toNat_natCast]) | (rw [Nat.zero_add]) | rfl) ?_)) | (refine zbw ?_; first | (refine zbc rfl aD rfl ?_) | (refine zbd rfl aD ?_) | (refine zbf rfl aD ?_) | (refine zbg rfl aD rfl ?_)) | (refine zbl ?_; first | (refine zbv rfl rfl aD ?_) | (refine zb5 rfl rfl aD ?_) | (refine zb6 rfl rfl ?_) | (refine zbe rfl rfl (fun h => ?_) (fun h => ?_) <;> (have h' := h; (try simp only [sx] at h')))) | (refine za6 ?_; first | (refine za5 true (kC) rfl rfl rfl aS rfl aH ?_; simp only [cl]) | (refine zbb aA rfl ?_) | (refine za8 aA rfl rfl ?_) | (refine za9 aA rfl ?_) | (refine zba aA (evO_ok rfl) ?_) | (refine zb3 _ _ aA rfl (lookM (by rfl)) rfl (lookM (by rfl)) rfl aN ⟨rfl, rfl, by decide, by decide⟩ (by first | rfl | omega | (simp; done) | (simp; omega) | fail) ⟨by first | (simp only [List.length_cons, List.length_nil]; omega) | omega | fail, by decide⟩ rfl (by first | (first | (simp only [lx, Nat.reduceAdd]; first | done | rfl) | fail) | rfl) aP ?_) | (refine zb2 _ _ aA rfl rfl (lookM (by rfl)) ⟨rfl, by decide⟩ aN (by first | exact Nat.succ_pos _ | omega | (simp; done)) ⟨by first | (simp only [List.length_cons, List.length_nil]; omega) | omega | fail, by decide⟩ rfl rfl aP ?_) | (refine zb4 _ aA rfl rfl (lookM (by rfl)) ⟨rfl, by decide⟩ aN ⟨by first | (simp only [List.length_cons, List.length_nil]; omega) | omega | fail, by decide⟩ rfl aP ?_) | (refine zb1 _ aA rfl rfl rfl ⟨rfl, rfl, rfl, by decide, by decide⟩ (by first | rfl | (simp; done) | fail) ⟨by omega, by decide⟩ rfl aL (by first | (rw [Nat.zero_add]) | rfl) ?_)) | (refine g_slice ?_; first | (refine zcl _ aA rfl rfl rfl aO (by first | assumption | rfl) ?_) | (refine zcn _ _ aA rfl (lookM (by rfl)) rfl rfl rfl aO (by first | (simp only [Nat.zero_add, Int.toNat_natCast]; exact rfl) | rfl) (by first | (simp only [Nat.sub_zero, Int.toNat_natCast]; exact rfl) | rfl) ?_) | (refine zcm aA rfl rfl rfl aO rfl ?_)) | (refine zco _ aA rfl rfl rfl aO (by first | exact List.take_of_length_le aO | rfl) ?_) | (refine zax aA rfl rfl rfl ?_) | (refine zbx _ _ rfl rfl rfl rfl ?_) | (refine zcc _ aA rfl ?_) | (refine zb7 aA rfl ?_) | (refine zch _ _ rfl rfl ?_) | (refine zbs _ _ _ rfl rfl aE (by first | assumption | (exact TAgg.size aA)) rfl rfl rfl aZ rfl aL (by first | (first | (simp only [lx, Nat.reduceAdd]; first | done | rfl) | fail) | rfl) ?_) | (refine zck aA aA rfl rfl rfl aO rfl ?_) | (refine zau (hK _ _ (.inl rfl) ?_); clear hK K) | (refine zau (hK _ _ (.inr (by kernel_rfl)) ?_); clear hK K))
      | (refine za0 ?_; first | (refine zbq ?_) | (refine zah (fun K hK => ?_)) | (refine zas ?_) | (refine zaz ?_) | (refine zbo ?_) | (refine za3 ?_) | (refine zbk ?_; first | (refine zal rfl aD ?_) | (refine zam rfl aD ?_) | (refine zay rfl (fun h => ?_) (fun h => ?_) <;> (have h' := h; (try simp only [sx] at h')))))
      | (refine za1 ?_) | (refine zak ?_) | (refine zai ?_) | (refine zat ?_) | (refine zap ?_) | (refine zaq ?_) | (refine zar rfl ?_) | (refine zaj ?_) | (refine zag ?_) | (refine zbp ?_))
  refine zce [2, 3, 7, 8, 19, 20] [(16, 0)] (fun q : Nat × List (List PV) × List Bool => [(21, .int .i64 q.1)]) (fun q : Nat × List (List PV) × List Bool => [((16, 0), some ⟨4, 1, q.2.1, false⟩)]) (fun q : Nat × List (List PV) × List Bool => q.1 ≤ src.length ∧ q.2.1 = bools q.2.2 ∧ q.2.2.length = t.burn.length ∧ ∀ c, IsCell t c → (fv q.2.2 c = true ↔ c ∈ src.take q.1)) (fun q : Nat × List (List PV) × List Bool => src.length - q.1) ((0, List.replicate (ints t.burn).length [.bool false], List.replicate t.burn.length false)) rfl rfl (fun _ => rfl) (fun _ => rfl) rfl aW ⟨by simp, by simp [bools], by simp, fun c hc => by simp [fv, List.getD_eq_getElem?_getD, List.getElem?_replicate]; try (split <;> rfl)⟩ (fun q hq => ?_)
  obtain ⟨i, es, F⟩ := q
  obtain ⟨hi, hes, hF, hf⟩ := hq
  simp only at hi hes hF hf
  dsimp only
  have hbl : es.length = t.burn.length := by rw [hes, List.length_map, hF]
  rcases Nat.lt_or_ge i src.length with hlt | hge
  · obtain ⟨s, hgs⟩ := get_ex hlt
    have hx := ints_at hgs
    have hcs := hs s (get_mem hgs)
    have hcs' := hcs
    unfold IsCell at hcs'
    have hfx := fv_at (F := F) (c := s) aO
    rw [← hes] at hfx
    repeat' (first
      | (refine za2 ?_; first | (refine za4 ?_; refine zav _ rfl ?_) | (refine zaf ?_; refine zaa _ rfl ?_) | (refine zbu ?_; first | (refine zb0 rfl rfl aO ?_) | (refine zbt _ rfl rfl rfl ?_) | (refine zaw _ rfl rfl rfl ?_)) | (refine g_un ?_; first | (refine zca rfl ?_) | (refine zb9 rfl aO ?_)) | (refine zbj ?_; first | (refine zae aA rfl ?_) | (refine zab _ aA rfl rfl aE rfl ?_) | (refine zac _ aA rfl aZ aL ?_) | (refine zad _ aA rfl rfl aE aZ aL ?_)) | (refine zbz ?_; first | (refine zbn _ aA rfl aL ?_) | (refine zbm _ aA rfl rfl (by simp only [lx, Nat.reduceAdd]; first | done | rfl) ?_)) | (refine zbh ?_; first | (refine zao _ aA rfl rfl aO aA ?_) | (refine zan _ aA rfl rfl rfl rfl aO aO (by first | (rw [Nat.zero_add, Int.toNat_natCast]) | (rw [Nat.zero_add]) | rfl) ?_)) | (refine zbw ?_; first | (refine zbc rfl aD rfl ?_) | (refine zbd rfl aD ?_) | (refine zbf rfl aD ?_) | (refine zbg rfl aD rfl ?_)) | (refine zbl ?_; first | (refine zbv rfl rfl aD ?_) | (refine zb5 rfl rfl aD ?_) | (refine zb6 rfl rfl ?_) | (refine zbe rfl rfl (fun h => ?_) (fun h => ?_) <;> (have h' := h; (try simp only [sx] at h')))) | (refine za6 ?_; first | (refine zbb aA rfl ?_) | (refine za8 aA rfl rfl ?_) | (refine za9 aA rfl ?_) | (refine zba aA (evO_ok rfl) ?_) | (refine zb3 _ _ aA rfl (lookM (by rfl)) rfl (lookM (by rfl)) rfl aN ⟨rfl, rfl, by decide, by decide⟩ (by first | rfl | omega | (simp; done) | (simp; omega) | fail) ⟨by first | (simp only [List.length_cons, List.length_nil]; omega) | omega | fail, by decide⟩ rfl (by first | (first | (simp only [lx, Nat.reduceAdd]; first | done | rfl) | fail) | rfl) aP ?_) | (refine zb2 _ _ aA rfl rfl (lookM (by rfl)) ⟨rfl, by decide⟩ aN (by first | exact Nat.succ_pos _ | omega | (simp; done)) ⟨by first | (simp only [List.length_cons, List.length_nil]; omega) | omega | fail, by decide⟩ rfl rfl aP ?_) | (refine zb4 _ aA rfl rfl (lookM (by rfl)) ⟨rfl, by decide⟩ aN ⟨by first | (simp only [List.length_cons, List.length_nil]; omega) | omega | fail, by decide⟩ rfl aP ?_) | (refine zb1 _ aA rfl rfl rfl ⟨rfl, rfl, rfl, by decide, by decide⟩ (by first | rfl | (simp; done) | fail) ⟨by omega, by decide⟩ rfl aL (by first | (rw [Nat.zero_add]) | rfl) ?_)) | (refine g_slice ?_; first | (refine zcl _ aA rfl rfl rfl aO (by first | assumption | rfl) ?_) | (refine zcn _ _ aA rfl (lookM (by rfl)) rfl rfl rfl aO (by first | (simp only [Nat.zero_add, Int.toNat_natCast]; exact rfl) | rfl) (by first | (simp only [Nat.sub_zero, Int.toNat_natCast]; exact rfl) | rfl) ?_) | (refine zcm aA rfl rfl rfl aO rfl ?_)) | (refine zco _ aA rfl rfl rfl aO (by first | exact List.take_of_length_le aO | rfl) ?_) | (refine zax aA rfl rfl rfl ?_) | (refine zbx _ _ rfl rfl rfl rfl ?_) | (refine zcc _ aA rfl ?_) | (refine zb7 aA rfl ?_) | (refine zch _ _ rfl rfl ?_) | (refine zbs _ _ _ rfl rfl aE (by first | assumption | (exact TAgg.size aA)) rfl rfl rfl aZ rfl aL (by first | (first | (simp only [lx, Nat.reduceAdd]; first | done | rfl) | fail) | rfl) ?_) | (refine zck aA aA rfl rfl rfl aO rfl ?_) | (refine zau (hK _ _ (.inl rfl) ?_); clear hK K) | (refine zau (hK _ _ (.inr (by kernel_rfl)) ?_); clear hK K))
      | (refine za0 ?_; first | (refine zbq ?_) | (refine zah (fun K hK => ?_)) | (refine zas ?_) | (refine zaz ?_) | (refine zbo ?_) | (refine za3 ?_) | (refine zbk ?_; first | (refine zal rfl aD ?_) | (refine zam rfl aD ?_) | (refine zay rfl (fun h => ?_) (fun h => ?_) <;> (have h' := h; (try simp only [sx] at h')))))
      | (refine za1 ?_) | (refine zak ?_) | (refine zai ?_) | (refine zat ?_) | (refine zap ?_) | (refine zaq ?_) | (refine zar rfl ?_) | (refine zaj ?_) | (refine zag ?_) | (refine zbp ?_))
    all_goals try (exfalso; omega)
    all_goals (refine zcb (i + 1, es.set s.toNat [.bool true], F.set s.toNat true) rfl aW ⟨by simp only; omega, by simp only [bools_set, hes], by simp [hF], fun c hc => ?_⟩ (by simp only; omega))
    all_goals (simp only; rw [fv_set2 aO c hc.1, hf c hc, take_succ hgs, List.mem_append, List.mem_singleton])
    all_goals exact ⟨fun h => h.elim (fun h => .inr aO) .inl, fun h => h.elim .inr (fun h => .inl aO)⟩
  have hi0 : src.take i = src := take_all aO
  rw [hi0] at hf
  have hI0 : FlI t P src src F := ⟨hF, fun a ha h => .src ((hf a ha).1 h), fun a h => ⟨hs a h, (hf a (hs a h)).2 h⟩, fun s h => (hf s (hs s h)).2 h⟩
  have hC0 : Clo t P src F := fun a c ha hc h hw => absurd ((hf a ha).1 h) hw
  have hN0 : freeN F + src.length ≤ 2000000 := by
    have := sumBy_bound gfree 1 F fun y _ => by simp only [gfree]; split <;> omega
    unfold freeN
    omega
  repeat' (first
      | (refine za2 ?_; first | (refine za4 ?_; refine zav _ rfl ?_) | (refine zaf ?_; refine zaa _ rfl ?_) | (refine zbu ?_; first | (refine zb0 rfl rfl aO ?_) | (refine zbt _ rfl rfl rfl ?_) | (refine zaw _ rfl rfl rfl ?_)) | (refine g_un ?_; first | (refine zca rfl ?_) | (refine zb9 rfl aO ?_)) | (refine zbj ?_; first | (refine zae aA rfl ?_) | (refine zab _ aA rfl rfl aE rfl ?_) | (refine zac _ aA rfl aZ aL ?_) | (refine zad _ aA rfl rfl aE aZ aL ?_)) | (refine zbz ?_; first | (refine zbn _ aA rfl aL ?_) | (refine zbm _ aA rfl rfl (by simp only [lx, Nat.reduceAdd]; first | done | rfl) ?_)) | (refine zbh ?_; first | (refine zao _ aA rfl rfl aO aA ?_) | (refine zan _ aA rfl rfl rfl rfl aO aO (by first | (rw [Nat.zero_add, Int.toNat_natCast]) | (rw [Nat.zero_add]) | rfl) ?_)) | (refine zbw ?_; first | (refine zbc rfl aD rfl ?_) | (refine zbd rfl aD ?_) | (refine zbf rfl aD ?_) | (refine zbg rfl aD rfl ?_)) | (refine zbl ?_; first | (refine zbv rfl rfl aD ?_) | (refine zb5 rfl rfl aD ?_) | (refine zb6 rfl rfl ?_) | (refine zbe rfl rfl (fun h => ?_) (fun h => ?_) <;> (have h' := h; (try simp only [sx] at h')))) | (refine za6 ?_; first | (refine zbb aA rfl ?_) | (refine za8 aA rfl rfl ?_) | (refine za9 aA rfl ?_) | (refine zba aA (evO_ok rfl) ?_) | (refine zb3 _ _ aA rfl (lookM (by rfl)) rfl (lookM (by rfl)) rfl aN ⟨rfl, rfl, by decide, by decide⟩ (by first | rfl | omega | (simp; done) | (simp; omega) | fail) ⟨by first | (simp only [List.length_cons, List.length_nil]; omega) | omega | fail, by decide⟩ rfl (by first | (first | (simp only [lx, Nat.reduceAdd]; first | done | rfl) | fail) | rfl) aP ?_) | (refine zb2 _ _ aA rfl rfl (lookM (by rfl)) ⟨rfl, by decide⟩ aN (by first | exact Nat.succ_pos _ | omega | (simp; done)) ⟨by first | (simp only [List.length_cons, List.length_nil]; omega) | omega | fail, by decide⟩ rfl rfl aP ?_) | (refine zb4 _ aA rfl rfl (lookM (by rfl)) ⟨rfl, by decide⟩ aN ⟨by first | (simp only [List.length_cons, List.length_nil]; omega) | omega | fail, by decide⟩ rfl aP ?_) | (refine zb1 _ aA rfl rfl rfl ⟨rfl, rfl, rfl, by decide, by decide⟩ (by first | rfl | (simp; done) | fail) ⟨by omega, by decide⟩ rfl aL (by first | (rw [Nat.zero_add]) | rfl) ?_)) | (refine g_slice ?_; first | (refine zcl _ aA rfl rfl rfl aO (by first | assumption | rfl) ?_) | (refine zcn _ _ aA rfl (lookM (by rfl)) rfl rfl rfl aO (by first | (simp only [Nat.zero_add, Int.toNat_natCast]; exact rfl) | rfl) (by first | (simp only [Nat.sub_zero, Int.toNat_natCast]; exact rfl) | rfl) ?_) | (refine zcm aA rfl rfl rfl aO rfl ?_)) | (refine zco _ aA rfl rfl rfl aO (by first | exact List.take_of_length_le aO | rfl) ?_) | (refine zax aA rfl rfl rfl ?_) | (refine zbx _ _ rfl rfl rfl rfl ?_) | (refine zcc _ aA rfl ?_) | (refine zb7 aA rfl ?_) | (refine zch _ _ rfl rfl ?_) | (refine zbs _ _ _ rfl rfl aE (by first | assumption | (exact TAgg.size aA)) rfl rfl rfl aZ rfl aL (by first | (first | (simp only [lx, Nat.reduceAdd]; first | done | rfl) | fail) | rfl) ?_) | (refine zck aA aA rfl rfl rfl aO rfl ?_) | (refine zau (hK _ _ (.inl rfl) ?_); clear hK K) | (refine zau (hK _ _ (.inr (by kernel_rfl)) ?_); clear hK K))
      | (refine za0 ?_; first | (refine zbq ?_) | (refine zah (fun K hK => ?_)) | (refine zas ?_) | (refine zaz ?_) | (refine zbo ?_) | (refine za3 ?_) | (refine zbk ?_; first | (refine zal rfl aD ?_) | (refine zam rfl aD ?_) | (refine zay rfl (fun h => ?_) (fun h => ?_) <;> (have h' := h; (try simp only [sx] at h')))))
      | (refine za1 ?_) | (refine zak ?_) | (refine zai ?_) | (refine zat ?_) | (refine zap ?_) | (refine zaq ?_) | (refine zar rfl ?_) | (refine zaj ?_) | (refine zag ?_) | (refine zbp ?_))
  all_goals try (exfalso; omega)
  refine zce [2, 3, 7] [(16, 0), (1001, 0)] (fun q : List (List PV) × List Int × Nat × Nat × List (List PV) × List Bool × List Int => [(8, .osl (1001, 0) q.2.2.1 q.2.2.2.1)]) (fun q : List (List PV) × List Int × Nat × Nat × List (List PV) × List Bool × List Int => [((16, 0), some ⟨4, 1, q.2.2.2.2.1, false⟩), ((1001, 0), some ⟨3, 1, q.1, false⟩)]) (fun q : List (List PV) × List Int × Nat × Nat × List (List PV) × List Bool × List Int => (q.1 = ints (q.2.2.2.2.2.2 ++ q.2.1) ∧ q.2.2.2.2.2.2.length = q.2.2.1 ∧ q.2.1.length = q.2.2.2.1) ∧ q.2.2.2.2.1 = bools q.2.2.2.2.2.1 ∧ FlI t P src q.2.1 q.2.2.2.2.2.1 ∧ Clo t P q.2.1 q.2.2.2.2.2.1 ∧ freeN q.2.2.2.2.2.1 + q.2.1.length ≤ 2000000) (fun q : List (List PV) × List Int × Nat × Nat × List (List PV) × List Bool × List Int => (freeN q.2.2.2.2.2.1 + q.2.1.length).toNat) ((ints src, src, 0, (ints src).length, es, F, [])) rfl rfl (fun _ => rfl) (fun _ => rfl) rfl aW ⟨⟨by simp, rfl, by simp⟩, hes, hI0, hC0, hN0⟩ (fun q hq => ?_)
  obtain ⟨rs, W, o, n, es1, F1, pre⟩ := q
  obtain ⟨⟨hrs, hpre, hWn⟩, hes1, hI, hC, hN⟩ := hq
  simp only at hrs hpre hWn hes1 hI hC hN
  dsimp only
  clear hI0 hC0 hN0
  cases W with
  | nil =>
    have hn0 : n = 0 := by simpa using hWn.symm
    subst hn0
    subst hes1
    have kT := k_cellsThat t 149 [[.list 1 (bools F1)]] (fun c => fv F1 (c : Int)) (fun c hc => k_flood1 F1 c (by rw [hI.len]; exact hc)) aO
    have e := flL_eq hI hC hs
    rw [e] at kT
    have hbl1 : (bools F1).length = t.burn.length := by rw [List.length_map, hI.len]
    repeat' (first
      | (refine za2 ?_; first | (refine za4 ?_; refine zav _ rfl ?_) | (refine zaf ?_; refine zaa _ rfl ?_) | (refine zbu ?_; first | (refine zb0 rfl rfl aO ?_) | (refine zbt _ rfl rfl rfl ?_) | (refine zaw _ rfl rfl rfl ?_)) | (refine g_un ?_; first | (refine zca rfl ?_) | (refine zb9 rfl aO ?_)) | (refine zbj ?_; first | (refine zae aA rfl ?_) | (refine zab _ aA rfl rfl aE rfl ?_) | (refine zac _ aA rfl aZ aL ?_) | (refine zad _ aA rfl rfl aE aZ aL ?_)) | (refine zbz ?_; first | (refine zbn _ aA rfl aL ?_) | (refine zbm _ aA rfl rfl (by simp only [lx, Nat.reduceAdd]; first | done | rfl) ?_)) | (refine zbh ?_; first | (refine zao _ aA rfl rfl aO aA ?_) | (refine zan _ aA rfl rfl rfl rfl aO aO (by first | (rw [Nat.zero_add, Int.toNat_natCast]) | (rw [Nat.zero_add]) | rfl) ?_)) | (refine zbw ?_; first | (refine zbc rfl aD rfl ?_) | (refine zbd rfl aD ?_) | (refine zbf rfl aD ?_) | (refine zbg rfl aD rfl ?_)) | (refine zbl ?_; first | (refine zbv rfl rfl aD ?_) | (refine zb5 rfl rfl aD ?_) | (refine zb6 rfl rfl ?_) | (refine zbe rfl rfl (fun h => ?_) (fun h => ?_) <;> (have h' := h; (try simp only [sx] at h')))) | (refine za6 ?_; first | (refine za5 true (kT) rfl rfl rfl aS rfl aH ?_; simp only [cl]) | (refine zbb aA rfl ?_) | (refine za8 aA rfl rfl ?_) | (refine za9 aA rfl ?_) | (refine zba aA (evO_ok rfl) ?_) | (refine zb3 _ _ aA rfl (lookM (by rfl)) rfl (lookM (by rfl)) rfl aN ⟨rfl, rfl, by decide, by decide⟩ (by first | rfl | omega | (simp; done) | (simp; omega) | fail) ⟨by first | (simp only [List.length_cons, List.length_nil]; omega) | omega | fail, by decide⟩ rfl (by first | (first | (simp only [lx, Nat.reduceAdd]; first | done | rfl) | fail) | rfl) aP ?_) | (refine zb2 _ _ aA rfl rfl (lookM (by rfl)) ⟨rfl, by decide⟩ aN (by first | exact Nat.succ_pos _ | omega | (simp; done)) ⟨by first | (simp only [List.length_cons, List.length_nil]; omega) | omega | fail, by decide⟩ rfl rfl aP ?_) | (refine zb4 _ aA rfl rfl (lookM (by rfl)) ⟨rfl, by decide⟩ aN ⟨by first | (simp only [List.length_cons, List.length_nil]; omega) | omega | fail, by decide⟩ rfl aP ?_) | (refine zb1 _ aA rfl rfl rfl ⟨rfl, rfl, rfl, by decide, by decide⟩ (by first | rfl | (simp; done) | fail) ⟨by omega, by decide⟩ rfl aL (by first | (rw [Nat.zero_add]) | rfl) ?_)) | (refine g_slice ?_; first | (refine zcl _ aA rfl rfl rfl aO (by first | assumption | rfl) ?_) | (refine zcn _ _ aA rfl (lookM (by rfl)) rfl rfl rfl aO (by first | (simp only [Nat.zero_add, Int.toNat_natCast]; exact rfl) | rfl) (by first | (simp only [Nat.sub_zero, Int.toNat_natCast]; exact rfl) | rfl) ?_) | (refine zcm aA rfl rfl rfl aO rfl ?_)) | (refine zco _ aA rfl rfl rfl aO (by first | exact List.take_of_length_le aO | rfl) ?_) | (refine zax aA rfl rfl rfl ?_) | (refine zbx _ _ rfl rfl rfl rfl ?_) | (refine zcc _ aA rfl ?_) | (refine zb7 aA rfl ?_) | (refine zch _ _ rfl rfl ?_) | (refine zbs _ _ _ rfl rfl aE (by first | assumption | (exact TAgg.size aA)) rfl rfl rfl aZ rfl aL (by first | (first | (simp only [lx, Nat.reduceAdd]; first | done | rfl) | fail) | rfl) ?_) | (refine zck aA aA rfl rfl rfl aO rfl ?_) | (refine zau (hK _ _ (.inl rfl) ?_); clear hK K) | (refine zau (hK _ _ (.inr (by kernel_rfl)) ?_); clear hK K))
      | (refine za0 ?_; first | (refine zbq ?_) | (refine zah (fun K hK => ?_)) | (refine zas ?_) | (refine zaz ?_) | (refine zbo ?_) | (refine za3 ?_) | (refine zbk ?_; first | (refine zal rfl aD ?_) | (refine zam rfl aD ?_) | (refine zay rfl (fun h => ?_) (fun h => ?_) <;> (have h' := h; (try simp only [sx] at h')))))
      | (refine za1 ?_) | (refine zak ?_) | (refine zai ?_) | (refine zat ?_) | (refine zap ?_) | (refine zaq ?_) | (refine zar rfl ?_) | (refine zaj ?_) | (refine zag ?_) | (refine zbp ?_))
    all_goals first
      | (exfalso; omega)
      | exact zcq rfl (zbr (by rfl)) (by rfl) (by decide) rfl (ints_flat _) rfl
  | cons x W =>
    have hn1 : n = W.length + 1 := by simpa using hWn.symm
    obtain ⟨hcx, hfx⟩ := hI.que x (by simp)
    have hcx' := hcx
    unfold IsCell at hcx'
    have hgx : rs[o]? = some [.int .i64 x] := by
      rw [hrs]
      refine ints_at ?_
      rw [List.getElem?_append_right aO, hpre, Nat.sub_self]
      rfl
    have hrl : rs.length = o + n := by rw [hrs, ints_len, List.length_append, hpre, hWn]
    repeat' (first
      | (refine za2 ?_; first | (refine za4 ?_; refine zav _ rfl ?_) | (refine zaf ?_; refine zaa _ rfl ?_) | (refine zbu ?_; first | (refine zb0 rfl rfl aO ?_) | (refine zbt _ rfl rfl rfl ?_) | (refine zaw _ rfl rfl rfl ?_)) | (refine g_un ?_; first | (refine zca rfl ?_) | (refine zb9 rfl aO ?_)) | (refine zbj ?_; first | (refine zae aA rfl ?_) | (refine zab _ aA rfl rfl aE rfl ?_) | (refine zac _ aA rfl aZ aL ?_) | (refine zad _ aA rfl rfl aE aZ aL ?_)) | (refine zbz ?_; first | (refine zbn _ aA rfl aL ?_) | (refine zbm _ aA rfl rfl (by simp only [lx, Nat.reduceAdd]; first | done | rfl) ?_)) | (refine zbh ?_; first | (refine zao _ aA rfl rfl aO aA ?_) | (refine zan _ aA rfl rfl rfl rfl aO aO (by first | (rw [Nat.zero_add, Int.toNat_natCast]) | (rw [Nat.zero_add]) | rfl) ?_)) | (refine zbw ?_; first | (refine zbc rfl aD rfl ?_) | (refine zbd rfl aD ?_) | (refine zbf rfl aD ?_) | (refine zbg rfl aD rfl ?_)) | (refine zbl ?_; first | (refine zbv rfl rfl aD ?_) | (refine zb5 rfl rfl aD ?_) | (refine zb6 rfl rfl ?_) | (refine zbe rfl rfl (fun h => ?_) (fun h => ?_) <;> (have h' := h; (try simp only [sx] at h')))) | (refine za6 ?_; first | (refine zbb aA rfl ?_) | (refine za8 aA rfl rfl ?_) | (refine za9 aA rfl ?_) | (refine zba aA (evO_ok rfl) ?_) | (refine zb3 _ _ aA rfl (lookM (by rfl)) rfl (lookM (by rfl)) rfl aN ⟨rfl, rfl, by decide, by decide⟩ (by first | rfl | omega | (simp; done) | (simp; omega) | fail) ⟨by first | (simp only [List.length_cons, List.length_nil]; omega) | omega | fail, by decide⟩ rfl (by first | (first | (simp only [lx, Nat.reduceAdd]; first | done | rfl) | fail) | rfl) aP ?_) | (refine zb2 _ _ aA rfl rfl (lookM (by rfl)) ⟨rfl, by decide⟩ aN (by first | exact Nat.succ_pos _ | omega | (simp; done)) ⟨by first | (simp only [List.length_cons, List.length_nil]; omega) | omega | fail, by decide⟩ rfl rfl aP ?_) | (refine zb4 _ aA rfl rfl (lookM (by rfl)) ⟨rfl, by decide⟩ aN ⟨by first | (simp only [List.length_cons, List.length_nil]; omega) | omega | fail, by decide⟩ rfl aP ?_) | (refine zb1 _ aA rfl rfl rfl ⟨rfl, rfl, rfl, by decide, by decide⟩ (by first | rfl | (simp; done) | fail) ⟨by omega, by decide⟩ rfl aL (by first | (rw [Nat.zero_add]) | rfl) ?_)) | (refine g_slice ?_; first | (refine zcl _ aA rfl rfl rfl aO (by first | assumption | rfl) ?_) | (refine zcn _ _ aA rfl (lookM (by rfl)) rfl rfl rfl aO (by first | (simp only [Nat.zero_add, Int.toNat_natCast]; exact rfl) | rfl) (by first | (simp only [Nat.sub_zero, Int.toNat_natCast]; exact rfl) | rfl) ?_) | (refine zcm aA rfl rfl rfl aO rfl ?_)) | (refine zco _ aA rfl rfl rfl aO (by first | exact List.take_of_length_le aO | rfl) ?_) | (refine zax aA rfl rfl rfl ?_) | (refine zbx _ _ rfl rfl rfl rfl ?_) | (refine zcc _ aA rfl ?_) | (refine zb7 aA rfl ?_) | (refine zch _ _ rfl rfl ?_) | (refine zbs _ _ _ rfl rfl aE (by first | assumption | (exact TAgg.size aA)) rfl rfl rfl aZ rfl aL (by first | (first | (simp only [lx, Nat.reduceAdd]; first | done | rfl) | fail) | rfl) ?_) | (refine zck aA aA rfl rfl rfl aO rfl ?_) | (refine zau (hK _ _ (.inl rfl) ?_); clear hK K) | (refine zau (hK _ _ (.inr (by kernel_rfl)) ?_); clear hK K))
      | (refine za0 ?_; first | (refine zbq ?_) | (refine zah (fun K hK => ?_)) | (refine zas ?_) | (refine zaz ?_) | (refine zbo ?_) | (refine za3 ?_) | (refine zbk ?_; first | (refine zal rfl aD ?_) | (refine zam rfl aD ?_) | (refine zay rfl (fun h => ?_) (fun h => ?_) <;> (have h' := h; (try simp only [sx] at h')))))
      | (refine za1 ?_) | (refine zak ?_) | (refine zai ?_) | (refine zat ?_) | (refine zap ?_) | (refine zaq ?_) | (refine zar rfl ?_) | (refine zaj ?_) | (refine zag ?_) | (refine zbp ?_))
    all_goals try (exfalso; omega)
    refine zce [2, 3, 7, 11, 39] [(16, 0), (1001, 0)] (fun q : Nat × List (List PV) × List Int × Nat × Nat × List (List PV) × List Bool × List Int => [(8, .osl (1001, 0) q.2.2.2.1 q.2.2.2.2.1), (40, .int .i64 q.1)]) (fun q : Nat × List (List PV) × List Int × Nat × Nat × List (List PV) × List Bool × List Int => [((16, 0), some ⟨4, 1, q.2.2.2.2.2.1, false⟩), ((1001, 0), some ⟨3, 1, q.2.1, false⟩)]) (fun q : Nat × List (List PV) × List Int × Nat × Nat × List (List PV) × List Bool × List Int => q.1 ≤ t.burn.length ∧ (q.2.1 = ints (q.2.2.2.2.2.2.2 ++ q.2.2.1) ∧ q.2.2.2.2.2.2.2.length = q.2.2.2.1 ∧ q.2.2.1.length = q.2.2.2.2.1) ∧ q.2.2.2.2.2.1 = bools q.2.2.2.2.2.2.1 ∧ FlI t P src q.2.2.1 q.2.2.2.2.2.2.1 ∧ CloX t P q.2.2.1 q.2.2.2.2.2.2.1 x q.1 ∧ freeN q.2.2.2.2.2.2.1 + q.2.2.1.length = freeN F1 + W.length ∧ fv q.2.2.2.2.2.2.1 x = true) (fun q : Nat × List (List PV) × List Int × Nat × Nat × List (List PV) × List Bool × List Int => t.burn.length - q.1) ((0, rs, W, o + 1, n - 1, es1, F1, pre ++ [x])) rfl rfl (fun _ => rfl) (fun _ => rfl) rfl aW ⟨by simp, ⟨by simp [hrs], by simp [hpre], by simp only; omega⟩, hes1, hI.pop, hC.pop, rfl, hfx⟩ (fun q hq => ?_)
    obtain ⟨j, us, V, o2, n2, es2, F2, pre2⟩ := q
    obtain ⟨hj, ⟨hus, hpre2, hVn⟩, hes2, hI2, hC2, hN2, hfx2⟩ := hq
    simp only at hj hus hpre2 hVn hes2 hI2 hC2 hN2 hfx2
    dsimp only
    have hul : us.length = o2 + n2 := by rw [hus, ints_len, List.length_append, hpre2, hVn]
    have hbl2 : es2.length = t.burn.length := by rw [hes2, List.length_map, hI2.len]
    have hVl : (V.length : Int) ≤ 2000000 := by
      have := freeN_ge F2
      simp only [List.length_cons] at hN
      omega
    rcases Nat.lt_or_ge j t.burn.length with hlt2 | hge2
    · have hcj : IsCell t (j : Int) := ⟨by omega, by omega⟩
      have hfj := fv_at (F := F2) (c := (j : Int)) (by rw [hI2.len]; omega)
      rw [← hes2] at hfj
      have hset : bools (F2.set j true) = es2.set j [.bool true] := by rw [bools_set, hes2]
      cases hF2 : fv F2 (j : Int)
      · rw [hF2] at hfj
        have kg := hg x j hcx hcj
        cases hP : P x (j : Int)
        · rw [hP] at kg
          repeat' (first
      | (refine za2 ?_; first | (refine za4 ?_; refine zav _ rfl ?_) | (refine zaf ?_; refine zaa _ rfl ?_) | (refine zbu ?_; first | (refine zb0 rfl rfl aO ?_) | (refine zbt _ rfl rfl rfl ?_) | (refine zaw _ rfl rfl rfl ?_)) | (refine g_un ?_; first | (refine zca rfl ?_) | (refine zb9 rfl aO ?_)) | (refine zbj ?_; first | (refine zae aA rfl ?_) | (refine zab _ aA rfl rfl aE rfl ?_) | (refine zac _ aA rfl aZ aL ?_) | (refine zad _ aA rfl rfl aE aZ aL ?_)) | (refine zbz ?_; first | (refine zbn _ aA rfl aL ?_) | (refine zbm _ aA rfl rfl (by simp only [lx, Nat.reduceAdd]; first | done | rfl) ?_)) | (refine zbh ?_; first | (refine zao _ aA rfl rfl aO aA ?_) | (refine zan _ aA rfl rfl rfl rfl aO aO (by first | (rw [Nat.zero_add, Int.toNat_natCast]) | (rw [Nat.zero_add]) | rfl) ?_)) | (refine zbw ?_; first | (refine zbc rfl aD rfl ?_) | (refine zbd rfl aD ?_) | (refine zbf rfl aD ?_) | (refine zbg rfl aD rfl ?_)) | (refine zbl ?_; first | (refine zbv rfl rfl aD ?_) | (refine zb5 rfl rfl aD ?_) | (refine zb6 rfl rfl ?_) | (refine zbe rfl rfl (fun h => ?_) (fun h => ?_) <;> (have h' := h; (try simp only [sx] at h')))) | (refine za6 ?_; first | (refine za5 true (kg) rfl rfl rfl aS rfl aH ?_; simp only [cl]) | (refine x_call [] _ (kg) rfl rfl aS rfl aH ?_; simp only [cl]) | (refine zbb aA rfl ?_) | (refine za8 aA rfl rfl ?_) | (refine za9 aA rfl ?_) | (refine zba aA (evO_ok rfl) ?_) | (refine zb3 _ _ aA rfl (lookM (by rfl)) rfl (lookM (by rfl)) rfl aN ⟨rfl, rfl, by decide, by decide⟩ (by first | rfl | omega | (simp; done) | (simp; omega) | fail) ⟨by first | (simp only [List.length_cons, List.length_nil]; omega) | omega | fail, by decide⟩ rfl (by first | (first | (simp only [lx, Nat.reduceAdd]; first | done | rfl) | fail) | rfl) aP ?_) | (refine zb2 _ _ aA rfl rfl (lookM (by rfl)) ⟨rfl, by decide⟩ aN (by first | exact Nat.succ_pos _ | omega | (simp; done)) ⟨by first | (simp only [List.length_cons, List.length_nil]; omega) | omega | fail, by decide⟩ rfl rfl aP ?_) | (refine zb4 _ aA rfl rfl (lookM (by rfl)) ⟨rfl, by decide⟩ aN ⟨by first | (simp only [List.length_cons, List.length_nil]; omega) | omega | fail, by decide⟩ rfl aP ?_) | (refine zb1 _ aA rfl rfl rfl ⟨rfl, rfl, rfl, by decide, by decide⟩ (by first | rfl | (simp; done) | fail) ⟨by omega, by decide⟩ rfl aL (by first | (rw [Nat.zero_add]) | rfl) ?_)) | (refine g_slice ?_; first | (refine zcl _ aA rfl rfl rfl aO (by first | assumption | rfl) ?_) | (refine zcn _ _ aA rfl (lookM (by rfl)) rfl rfl rfl aO (by first | (simp only [Nat.zero_add, Int.toNat_natCast]; exact rfl) | rfl) (by first | (simp only [Nat.sub_zero, Int.toNat_natCast]; exact rfl) | rfl) ?_) | (refine zcm aA rfl rfl rfl aO rfl ?_)) | (refine zco _ aA rfl rfl rfl aO (by first | exact List.take_of_length_le aO | rfl) ?_) | (refine zax aA rfl rfl rfl ?_) | (refine zbx _ _ rfl rfl rfl rfl ?_) | (refine zcc _ aA rfl ?_) | (refine zb7 aA rfl ?_) | (refine zch _ _ rfl rfl ?_) | (refine zbs _ _ _ rfl rfl aE (by first | assumption | (exact TAgg.size aA)) rfl rfl rfl aZ rfl aL (by first | (first | (simp only [lx, Nat.reduceAdd]; first | done | rfl) | fail) | rfl) ?_) | (refine zck aA aA rfl rfl rfl aO rfl ?_) | (refine zau (hK _ _ (.inl rfl) ?_); clear hK K) | (refine zau (hK _ _ (.inr (by kernel_rfl)) ?_); clear hK K))
      | (refine za0 ?_; first | (refine zbq ?_) | (refine zah (fun K hK => ?_)) | (refine zas ?_) | (refine zaz ?_) | (refine zbo ?_) | (refine za3 ?_) | (refine zbk ?_; first | (refine zal rfl aD ?_) | (refine zam rfl aD ?_) | (refine zay rfl (fun h => ?_) (fun h => ?_) <;> (have h' := h; (try simp only [sx] at h')))))
      | (refine za1 ?_) | (refine zak ?_) | (refine zai ?_) | (refine zat ?_) | (refine zap ?_) | (refine zaq ?_) | (refine zar rfl ?_) | (refine zaj ?_) | (refine zag ?_) | (refine zbp ?_))
          all_goals first
            | (exfalso; omega)
            | (refine zcb (j + 1, us, V, o2, n2, es2, F2, pre2) rfl aW ⟨by simp only; omega, ⟨hus, hpre2, hVn⟩, hes2, hI2, hC2.skip (.inr hP), hN2, hfx2⟩ (by simp only; omega))
        · rw [hP] at kg
          have hfree : freeN (F2.set j true) = freeN F2 - 1 := freeN_set (by
            have h1 : j < F2.length := by rw [hI2.len]; exact hlt2
            rw [List.getElem?_eq_getElem h1]
            simp only [fv, List.getD_eq_getElem?_getD, Int.toNat_natCast, List.getElem?_eq_getElem h1, Option.getD_some] at hF2
            rw [hF2])
          repeat' (first
      | (refine za2 ?_; first | (refine za4 ?_; refine zav _ rfl ?_) | (refine zaf ?_; refine zaa _ rfl ?_) | (refine zbu ?_; first | (refine zb0 rfl rfl aO ?_) | (refine zbt _ rfl rfl rfl ?_) | (refine zaw _ rfl rfl rfl ?_)) | (refine g_un ?_; first | (refine zca rfl ?_) | (refine zb9 rfl aO ?_)) | (refine zbj ?_; first | (refine zae aA rfl ?_) | (refine zab _ aA rfl rfl aE rfl ?_) | (refine zac _ aA rfl aZ aL ?_) | (refine zad _ aA rfl rfl aE aZ aL ?_)) | (refine zbz ?_; first | (refine zbn _ aA rfl aL ?_) | (refine zbm _ aA rfl rfl (by simp only [lx, Nat.reduceAdd]; first | done | rfl) ?_)) | (refine zbh ?_; first | (refine zao _ aA rfl rfl aO aA ?_) | (refine zan _ aA rfl rfl rfl rfl aO aO (by first | (rw [Nat.zero_add, Int.toNat_natCast]) | (rw [Nat.zero_add]) | rfl) ?_)) | (refine zbw ?_; first | (refine zbc rfl aD rfl ?_) | (refine zbd rfl aD ?_) | (refine zbf rfl aD ?_) | (refine zbg rfl aD rfl ?_)) | (refine zbl ?_; first | (refine zbv rfl rfl aD ?_) | (refine zb5 rfl rfl aD ?_) | (refine zb6 rfl rfl ?_) | (refine zbe rfl rfl (fun h => ?_) (fun h => ?_) <;> (have h' := h; (try simp only [sx] at h')))) | (refine za6 ?_; first | (refine za5 true (kg) rfl rfl rfl aS rfl aH ?_; simp only [cl]) | (refine x_call [] _ (kg) rfl rfl aS rfl aH ?_; simp only [cl]) | (refine zbb aA rfl ?_) | (refine za8 aA rfl rfl ?_) | (refine za9 aA rfl ?_) | (refine zba aA (evO_ok rfl) ?_) | (refine zb3 _ _ aA rfl (lookM (by rfl)) rfl (lookM (by rfl)) rfl aN ⟨rfl, rfl, by decide, by decide⟩ (by first | rfl | omega | (simp; done) | (simp; omega) | fail) ⟨by first | (simp only [List.length_cons, List.length_nil]; omega) | omega | fail, by decide⟩ rfl (by first | (first | (simp only [lx, Nat.reduceAdd]; first | done | rfl) | fail) | rfl) aP ?_) | (refine zb2 _ _ aA rfl rfl (lookM (by rfl)) ⟨rfl, by decide⟩ aN (by first | exact Nat.succ_pos _ | omega | (simp; done)) ⟨by first | (simp only [List.length_cons, List.length_nil]; omega) | omega | fail, by decide⟩ rfl rfl aP ?_) | (refine zb4 _ aA rfl rfl (lookM (by rfl)) ⟨rfl, by decide⟩ aN ⟨by first | (simp only [List.length_cons, List.length_nil]; omega) | omega | fail, by decide⟩ rfl aP ?_) | (refine zb1 _ aA rfl rfl rfl ⟨rfl, rfl, rfl, by decide, by decide⟩ (by first | rfl | (simp; done) | fail) ⟨by omega, by decide⟩ rfl aL (by first | (rw [Nat.zero_add]) | rfl) ?_)) | (refine g_slice ?_; first | (refine zcl _ aA rfl rfl rfl aO (by first | assumption | rfl) ?_) | (refine zcn _ _ aA rfl (lookM (by rfl)) rfl rfl rfl aO (by first | (simp only [Nat.zero_add, Int.toNat_natCast]; exact rfl) | rfl) (by first | (simp only [Nat.sub_zero, Int.toNat_natCast]; exact rfl) | rfl) ?_) | (refine zcm aA rfl rfl rfl aO rfl ?_)) | (refine zco _ aA rfl rfl rfl aO (by first | exact List.take_of_length_le aO | rfl) ?_) | (refine zax aA rfl rfl rfl ?_) | (refine zbx _ _ rfl rfl rfl rfl ?_) | (refine zcc _ aA rfl ?_) | (refine zb7 aA rfl ?_) | (refine zch _ _ rfl rfl ?_) | (refine zbs _ _ _ rfl rfl aE (by first | assumption | (exact TAgg.size aA)) rfl rfl rfl aZ rfl aL (by first | (first | (simp only [lx, Nat.reduceAdd]; first | done | rfl) | fail) | rfl) ?_) | (refine zck aA aA rfl rfl rfl aO rfl ?_) | (refine zau (hK _ _ (.inl rfl) ?_); clear hK K) | (refine zau (hK _ _ (.inr (by kernel_rfl)) ?_); clear hK K))
      | (refine za0 ?_; first | (refine zbq ?_) | (refine zah (fun K hK => ?_)) | (refine zas ?_) | (refine zaz ?_) | (refine zbo ?_) | (refine za3 ?_) | (refine zbk ?_; first | (refine zal rfl aD ?_) | (refine zam rfl aD ?_) | (refine zay rfl (fun h => ?_) (fun h => ?_) <;> (have h' := h; (try simp only [sx] at h')))))
      | (refine za1 ?_) | (refine zak ?_) | (refine zai ?_) | (refine zat ?_) | (refine zap ?_) | (refine zaq ?_) | (refine zar rfl ?_) | (refine zaj ?_) | (refine zag ?_) | (refine zbp ?_))
          all_goals try (exfalso; omega)
          all_goals (refine zcb (j + 1, us.drop o2 ++ [[.int .i64 (j : Int)]], V ++ [(j : Int)], 0, n2 + 1, es2.set j [.bool true], F2.set j true, []) rfl aW ⟨by simp only; omega, ⟨?_, rfl, by simp [hVn]⟩, hset.symm, hI2.push hlt2 hcx hfx2 hP hs, hC2.push (by rw [hI2.len]; exact hlt2), by simp [hfree]; omega, (fv_set2 (by rw [hI2.len]; exact hlt2) x hcx.1).2 (.inr hfx2)⟩ (by simp only; omega))
          all_goals (simp only; rw [hus, ← hpre2]; simp [ints, List.map_append])
      · rw [hF2] at hfj
        repeat' (first
      | (refine za2 ?_; first | (refine za4 ?_; refine zav _ rfl ?_) | (refine zaf ?_; refine zaa _ rfl ?_) | (refine zbu ?_; first | (refine zb0 rfl rfl aO ?_) | (refine zbt _ rfl rfl rfl ?_) | (refine zaw _ rfl rfl rfl ?_)) | (refine g_un ?_; first | (refine zca rfl ?_) | (refine zb9 rfl aO ?_)) | (refine zbj ?_; first | (refine zae aA rfl ?_) | (refine zab _ aA rfl rfl aE rfl ?_) | (refine zac _ aA rfl aZ aL ?_) | (refine zad _ aA rfl rfl aE aZ aL ?_)) | (refine zbz ?_; first | (refine zbn _ aA rfl aL ?_) | (refine zbm _ aA rfl rfl (by simp only [lx, Nat.reduceAdd]; first | done | rfl) ?_)) | (refine zbh ?_; first | (refine zao _ aA rfl rfl aO aA ?_) | (refine zan _ aA rfl rfl rfl rfl aO aO (by first | (rw [Nat.zero_add, Int.toNat_natCast]) | (rw [Nat.zero_add]) | rfl) ?_)) | (refine zbw ?_; first | (refine zbc rfl aD rfl ?_) | (refine zbd rfl aD ?_) | (refine zbf rfl aD ?_) | (refine zbg rfl aD rfl ?_)) | (refine zbl ?_; first | (refine zbv rfl rfl aD ?_) | (refine zb5 rfl rfl aD ?_) | (refine zb6 rfl rfl ?_) | (refine zbe rfl rfl (fun h => ?_) (fun h => ?_) <;> (have h' := h; (try simp only [sx] at h')))) | (refine za6 ?_; first | (refine zbb aA rfl ?_) | (refine za8 aA rfl rfl ?_) | (refine za9 aA rfl ?_) | (refine zba aA (evO_ok rfl) ?_) | (refine zb3 _ _ aA rfl (lookM (by rfl)) rfl (lookM (by rfl)) rfl aN ⟨rfl, rfl, by decide, by decide⟩ (by first | rfl | omega | (simp; done) | (simp; omega) | fail) ⟨by first | (simp only [List.length_cons, List.length_nil]; omega) | omega | fail, by decide⟩ rfl (by first | (first | (simp only [lx, Nat.reduceAdd]; first | done | rfl) | fail) | rfl) aP ?_) | (refine zb2 _ _ aA rfl rfl (lookM (by rfl)) ⟨rfl, by decide⟩ aN (by first | exact Nat.succ_pos _ | omega | (simp; done)) ⟨by first | (simp only [List.length_cons, List.length_nil]; omega) | omega | fail, by decide⟩ rfl rfl aP ?_) | (refine zb4 _ aA rfl rfl (lookM (by rfl)) ⟨rfl, by decide⟩ aN ⟨by first | (simp only [List.length_cons, List.length_nil]; omega) | omega | fail, by decide⟩ rfl aP ?_) | (refine zb1 _ aA rfl rfl rfl ⟨rfl, rfl, rfl, by decide, by decide⟩ (by first | rfl | (simp; done) | fail) ⟨by omega, by decide⟩ rfl aL (by first | (rw [Nat.zero_add]) | rfl) ?_)) | (refine g_slice ?_; first | (refine zcl _ aA rfl rfl rfl aO (by first | assumption | rfl) ?_) | (refine zcn _ _ aA rfl (lookM (by rfl)) rfl rfl rfl aO (by first | (simp only [Nat.zero_add, Int.toNat_natCast]; exact rfl) | rfl) (by first | (simp only [Nat.sub_zero, Int.toNat_natCast]; exact rfl) | rfl) ?_) | (refine zcm aA rfl rfl rfl aO rfl ?_)) | (refine zco _ aA rfl rfl rfl aO (by first | exact List.take_of_length_le aO | rfl) ?_) | (refine zax aA rfl rfl rfl ?_) | (refine zbx _ _ rfl rfl rfl rfl ?_) | (refine zcc _ aA rfl ?_) | (refine zb7 aA rfl ?_) | (refine zch _ _ rfl rfl ?_) | (refine zbs _ _ _ rfl rfl aE (by first | assumption | (exact TAgg.size aA)) rfl rfl rfl aZ rfl aL (by first | (first | (simp only [lx, Nat.reduceAdd]; first | done | rfl) | fail) | rfl) ?_) | (refine zck aA aA rfl rfl rfl aO rfl ?_) | (refine zau (hK _ _ (.inl rfl) ?_); clear hK K) | (refine zau (hK _ _ (.inr (by kernel_rfl)) ?_); clear hK K))
      | (refine za0 ?_; first | (refine zbq ?_) | (refine zah (fun K hK => ?_)) | (refine zas ?_) | (refine zaz ?_) | (refine zbo ?_) | (refine za3 ?_) | (refine zbk ?_; first | (refine zal rfl aD ?_) | (refine zam rfl aD ?_) | (refine zay rfl (fun h => ?_) (fun h => ?_) <;> (have h' := h; (try simp only [sx] at h')))))
      | (refine za1 ?_) | (refine zak ?_) | (refine zai ?_) | (refine zat ?_) | (refine zap ?_) | (refine zaq ?_) | (refine zar rfl ?_) | (refine zaj ?_) | (refine zag ?_) | (refine zbp ?_))
        all_goals first
          | (exfalso; omega)
          | (refine zcb (j + 1, us, V, o2, n2, es2, F2, pre2) rfl aW ⟨by simp only; omega, ⟨hus, hpre2, hVn⟩, hes2, hI2, hC2.skip (.inl hF2), hN2, hfx2⟩ (by simp only; omega))
    · have hjn : j = t.burn.length := by omega
      subst hjn
      repeat' (first
      | (refine za2 ?_; first | (refine za4 ?_; refine zav _ rfl ?_) | (refine zaf ?_; refine zaa _ rfl ?_) | (refine zbu ?_; first | (refine zb0 rfl rfl aO ?_) | (refine zbt _ rfl rfl rfl ?_) | (refine zaw _ rfl rfl rfl ?_)) | (refine g_un ?_; first | (refine zca rfl ?_) | (refine zb9 rfl aO ?_)) | (refine zbj ?_; first | (refine zae aA rfl ?_) | (refine zab _ aA rfl rfl aE rfl ?_) | (refine zac _ aA rfl aZ aL ?_) | (refine zad _ aA rfl rfl aE aZ aL ?_)) | (refine zbz ?_; first | (refine zbn _ aA rfl aL ?_) | (refine zbm _ aA rfl rfl (by simp only [lx, Nat.reduceAdd]; first | done | rfl) ?_)) | (refine zbh ?_; first | (refine zao _ aA rfl rfl aO aA ?_) | (refine zan _ aA rfl rfl rfl rfl aO aO (by first | (rw [Nat.zero_add, Int.toNat_natCast]) | (rw [Nat.zero_add]) | rfl) ?_)) | (refine zbw ?_; first | (refine zbc rfl aD rfl ?_) | (refine zbd rfl aD ?_) | (refine zbf rfl aD ?_) | (refine zbg rfl aD rfl ?_)) | (refine zbl ?_; first | (refine zbv rfl rfl aD ?_) | (refine zb5 rfl rfl aD ?_) | (refine zb6 rfl rfl ?_) | (refine zbe rfl rfl (fun h => ?_) (fun h => ?_) <;> (have h' := h; (try simp only [sx] at h')))) | (refine za6 ?_; first | (refine zbb aA rfl ?_) | (refine za8 aA rfl rfl ?_) | (refine za9 aA rfl ?_) | (refine zba aA (evO_ok rfl) ?_) | (refine zb3 _ _ aA rfl (lookM (by rfl)) rfl (lookM (by rfl)) rfl aN ⟨rfl, rfl, by decide, by decide⟩ (by first | rfl | omega | (simp; done) | (simp; omega) | fail) ⟨by first | (simp only [List.length_cons, List.length_nil]; omega) | omega | fail, by decide⟩ rfl (by first | (first | (simp only [lx, Nat.reduceAdd]; first | done | rfl) | fail) | rfl) aP ?_) | (refine zb2 _ _ aA rfl rfl (lookM (by rfl)) ⟨rfl, by decide⟩ aN (by first | exact Nat.succ_pos _ | omega | (simp; done)) ⟨by first | (simp only [List.length_cons, List.length_nil]; omega) | omega | fail, by decide⟩ rfl rfl aP ?_) | (refine zb4 _ aA rfl rfl (lookM (by rfl)) ⟨rfl, by decide⟩ aN ⟨by first | (simp only [List.length_cons, List.length_nil]; omega) | omega | fail, by decide⟩ rfl aP ?_) | (refine zb1 _ aA rfl rfl rfl ⟨rfl, rfl, rfl, by decide, by decide⟩ (by first | rfl | (simp; done) | fail) ⟨by omega, by decide⟩ rfl aL (by first | (rw [Nat.zero_add]) | rfl) ?_)) | (refine g_slice ?_; first | (refine zcl _ aA rfl rfl rfl aO (by first | assumption | rfl) ?_) | (refine zcn _ _ aA rfl (lookM (by rfl)) rfl rfl rfl aO (by first | (simp only [Nat.zero_add, Int.toNat_natCast]; exact rfl) | rfl) (by first | (simp only [Nat.sub_zero, Int.toNat_natCast]; exact rfl) | rfl) ?_) | (refine zcm aA rfl rfl rfl aO rfl ?_)) | (refine zco _ aA rfl rfl rfl aO (by first | exact List.take_of_length_le aO | rfl) ?_) | (refine zax aA rfl rfl rfl ?_) | (refine zbx _ _ rfl rfl rfl rfl ?_) | (refine zcc _ aA rfl ?_) | (refine zb7 aA rfl ?_) | (refine zch _ _ rfl rfl ?_) | (refine zbs _ _ _ rfl rfl aE (by first | assumption | (exact TAgg.size aA)) rfl rfl rfl aZ rfl aL (by first | (first | (simp only [lx, Nat.reduceAdd]; first | done | rfl) | fail) | rfl) ?_) | (refine zck aA aA rfl rfl rfl aO rfl ?_) | (refine zau (hK _ _ (.inl rfl) ?_); clear hK K) | (refine zau (hK _ _ (.inr (by kernel_rfl)) ?_); clear hK K))
      | (refine za0 ?_; first | (refine zbq ?_) | (refine zah (fun K hK => ?_)) | (refine zas ?_) | (refine zaz ?_) | (refine zbo ?_) | (refine za3 ?_) | (refine zbk ?_; first | (refine zal rfl aD ?_) | (refine zam rfl aD ?_) | (refine zay rfl (fun h => ?_) (fun h => ?_) <;> (have h' := h; (try simp only [sx] at h')))))
      | (refine za1 ?_) | (refine zak ?_) | (refine zai ?_) | (refine zat ?_) | (refine zap ?_) | (refine zaq ?_) | (refine zar rfl ?_) | (refine zaj ?_) | (refine zag ?_) | (refine zbp ?_))
      all_goals first
        | (exfalso; omega)
        | (refine zcb (us, V, o2, n2, es2, F2, pre2) rfl aW ⟨⟨hus, hpre2, hVn⟩, hes2, hI2, hC2.done, by simp only [List.length_cons] at hN; simp only; omega⟩ (by have := freeN_ge F1; have := freeN_ge F2; simp only [List.length_cons]; omega))
def reP (t : Terrain) (a c : Int) : Bool := decide (apart t a c = 1) && decide (0 < burnAt t c)
theorem reP_iff {t : Terrain} : (fun a c => reP t a c = true) = stepP t := by
  funext a c
  unfold reP stepP
  rw [Bool.and_eq_true, decide_eq_true_eq, decide_eq_true_eq]
noncomputable def rcL (t : Terrain) (src : List Int) : List Int := flL t (reP t) (litL t src)
theorem rcL_len {t : Terrain} {src : List Int} : (rcL t src).length ≤ t.burn.length := flL_len
def SetOk (t : Terrain) (src : List Int) : Prop := GoodT t ∧ (∀ s ∈ src, IsCell t s) ∧ Rising src
instance (t : Terrain) (src : List Int) : Decidable (SetOk t src) := by unfold SetOk; infer_instance
noncomputable def reL (t : Terrain) (src : List Int) : List Int := if SetOk t src then rcL t src else []
theorem k_reach1 (t : Terrain) (a c : Int) (hg : GoodT t) (ha : IsCell t a) (hc : IsCell t c) : Con Try.prog 127 [.int .i64 a, .int .i64 c, .ptr t.pv] (.bool (reP t a c)) := by
  intro al
  refine za7 hmix Try.func127 rfl (by kernel_rfl) (by kernel_rfl) (Nat.le_of_ble_eq_true rfl) (fun row h => by cases h) ?_
  have hty_a26 := ty_a26
  have hl1 : (ints t.burn).length = t.burn.length := by simp
  have kA := k_apart t a c hg ha hc
  have kB := k_burns t c hg hc
  unfold reP
  generalize apart t a c = d at *
  generalize decide (0 < burnAt t c) = q at *
  by_cases h1 : d = 1
  · rw [decide_eq_true h1]
    repeat' (first
      | (refine za2 ?_; first | (refine za4 ?_; refine zav _ rfl ?_) | (refine zaf ?_; refine zaa _ rfl ?_) | (refine zbu ?_; first | (refine zbt _ rfl rfl rfl ?_) | (refine zbi aA rfl rfl ?_) | (refine zaw _ rfl rfl rfl ?_)) | (refine zbj ?_; first | (refine zae aA rfl ?_) | (refine zab _ aA rfl rfl aE rfl ?_) | (refine zac _ aA rfl aZ aL ?_) | (refine zad _ aA rfl rfl aE aZ aL ?_)) | (refine zbw ?_; first | (refine zbc rfl aD rfl ?_) | (refine zbd rfl aD ?_) | (refine zbf rfl aD ?_) | (refine zbg rfl aD rfl ?_)) | (refine zbl ?_; first | (refine zbv rfl rfl aD ?_) | (refine zb5 rfl rfl aD ?_) | (refine zb6 rfl rfl ?_) | (refine zbe rfl rfl (fun h => ?_) (fun h => ?_) <;> (have h' := h; (try simp only [sx] at h')))) | (refine za6 ?_; first | (refine za5 true (kA) rfl rfl rfl aS rfl aH ?_; simp only [cl]) | (refine za5 true (kB) rfl rfl rfl aS rfl aH ?_; simp only [cl])) | (refine zau (hK _ _ (.inl rfl) ?_); clear hK K) | (refine zau (hK _ _ (.inr (by kernel_rfl)) ?_); clear hK K))
      | (refine za0 ?_; first | (refine zbq ?_) | (refine zah (fun K hK => ?_)) | (refine zas ?_) | (refine zaz ?_) | (refine zbo ?_) | (refine za3 ?_))
      | (refine za1 ?_) | (refine zak ?_) | (refine zai ?_) | (refine zat ?_) | (refine zap ?_) | (refine zaq ?_) | (refine zar rfl ?_) | (refine zaj ?_) | (refine zag ?_) | (refine zbp ?_))
    all_goals first
      | (exfalso; omega)
      | exact zb8 rfl (zbr rfl) (by simp)
  · rw [decide_eq_false h1]
    repeat' (first
      | (refine za2 ?_; first | (refine za4 ?_; refine zav _ rfl ?_) | (refine zaf ?_; refine zaa _ rfl ?_) | (refine zbu ?_; first | (refine zbt _ rfl rfl rfl ?_) | (refine zbi aA rfl rfl ?_) | (refine zaw _ rfl rfl rfl ?_)) | (refine zbj ?_; first | (refine zae aA rfl ?_) | (refine zab _ aA rfl rfl aE rfl ?_) | (refine zac _ aA rfl aZ aL ?_) | (refine zad _ aA rfl rfl aE aZ aL ?_)) | (refine zbw ?_; first | (refine zbc rfl aD rfl ?_) | (refine zbd rfl aD ?_) | (refine zbf rfl aD ?_) | (refine zbg rfl aD rfl ?_)) | (refine zbl ?_; first | (refine zbv rfl rfl aD ?_) | (refine zb5 rfl rfl aD ?_) | (refine zb6 rfl rfl ?_) | (refine zbe rfl rfl (fun h => ?_) (fun h => ?_) <;> (have h' := h; (try simp only [sx] at h')))) | (refine za6 ?_; first | (refine za5 true (kA) rfl rfl rfl aS rfl aH ?_; simp only [cl]) | (refine za5 true (kB) rfl rfl rfl aS rfl aH ?_; simp only [cl])) | (refine zau (hK _ _ (.inl rfl) ?_); clear hK K) | (refine zau (hK _ _ (.inr (by kernel_rfl)) ?_); clear hK K))
      | (refine za0 ?_; first | (refine zbq ?_) | (refine zah (fun K hK => ?_)) | (refine zas ?_) | (refine zaz ?_) | (refine zbo ?_) | (refine za3 ?_))
      | (refine za1 ?_) | (refine zak ?_) | (refine zai ?_) | (refine zat ?_) | (refine zap ?_) | (refine zaq ?_) | (refine zar rfl ?_) | (refine zaj ?_) | (refine zag ?_) | (refine zbp ?_))
    all_goals first
      | (exfalso; omega)
      | exact zb8 rfl (zbr rfl) (by simp)
theorem k_reachable (t : Terrain) (src : List Int) (hg : GoodT t) (hs : ∀ s ∈ src, IsCell t s) (hl : src.length ≤ 1000000) (hn : t.burn.length ≤ 1000000) :
    Con Try.prog 69 [.agg t.pv, .list 1 (ints src)] (.olist 3 1 (ints (rcL t src))) := by
  intro al
  refine za7 hmix Try.func69 rfl (by kernel_rfl) (by kernel_rfl) (Nat.le_of_ble_eq_true rfl) (fun row h => by cases h) ?_
  have hty_a26 := ty_a26
  have hty_u24 := ty_u24
  have hty_s24 := ty_s24
  have hl1 : (ints t.burn).length = t.burn.length := by simp
  have kF := k_filterIntT src 83 t (fun s => decide (0 < burnAt t s)) (fun s h => k_burns t s hg (hs s h)) aO
  have hfl := List.length_filter_le (fun s => decide (0 < burnAt t s)) src
  have kG := k_flood t (litL t src) 127 [t.pv] (reP t) (fun s h => hs s (List.mem_filter.1 h).1) (by unfold litL; omega) hn (fun a c ha hc => k_reach1 t a c hg ha hc)
  unfold rcL
  generalize hL : litL t src = L at *
  unfold litL at hL
  rw [hL] at kF
  repeat' (first
      | (refine za2 ?_; first | (refine za4 ?_; refine zav _ rfl ?_) | (refine zaf ?_; refine zaa _ rfl ?_) | (refine zbj ?_; first | (refine zae aA rfl ?_) | (refine zab _ aA rfl rfl aE rfl ?_) | (refine zac _ aA rfl aZ aL ?_) | (refine zad _ aA rfl rfl aE aZ aL ?_)) | (refine za6 ?_; first | (refine za5 true (kF) rfl rfl rfl aS rfl aH ?_; simp only [cl]) | (refine za5 true (kG) rfl rfl rfl aS rfl aH ?_; simp only [cl])) | (refine zbx _ _ rfl rfl rfl rfl ?_) | (refine zch _ _ rfl rfl ?_) | (refine zau (hK _ _ (.inl rfl) ?_); clear hK K) | (refine zau (hK _ _ (.inr (by kernel_rfl)) ?_); clear hK K))
      | (refine za0 ?_; first | (refine zbq ?_) | (refine zah (fun K hK => ?_)) | (refine zas ?_) | (refine zaz ?_) | (refine zbo ?_) | (refine za3 ?_))
      | (refine za1 ?_) | (refine zak ?_) | (refine zai ?_) | (refine zat ?_) | (refine zap ?_) | (refine zaq ?_) | (refine zar rfl ?_) | (refine zaj ?_) | (refine zag ?_) | (refine zbp ?_))
  all_goals exact zcq rfl (zbr (by rfl)) (by rfl) (by decide) rfl (ints_flat _) rfl
theorem k_iReachable (t : Terrain) (src : List Int) (hl : src.length ≤ 1000000) (hn : t.burn.length ≤ 1000000) :
    Con Try.prog 14 [.agg t.pv, .list 1 (ints src)] (.tuple [.olist 3 1 (ints (reL t src)), .bool (decide (SetOk t src))]) := by
  intro al
  refine za7 hmix Try.func14 rfl (by kernel_rfl) (by kernel_rfl) (Nat.le_of_ble_eq_true rfl) (fun row h => by cases h) ?_
  have hty_a26 := ty_a26
  have hty_u24 := ty_u24
  have hty_s24 := ty_s24
  have hl1 : (ints t.burn).length = t.burn.length := by simp
  have k1 := k_IsTerrain t aO
  have k2 := k_isSet t src aO aO
  by_cases hok : SetOk t src
  · have k3 := k_reachable t src hok.1 hok.2.1 hl hn
    rw [decide_eq_true hok.1] at k1
    rw [decide_eq_true hok.2] at k2
    rw [decide_eq_true hok]
    unfold reL
    rw [if_pos hok]
    repeat' (first
      | (refine za2 ?_; first | (refine za4 ?_; refine zav _ rfl ?_) | (refine zaf ?_; refine zaa _ rfl ?_) | (refine g_un ?_; first | (refine zca rfl ?_) | (refine zb9 rfl aO ?_)) | (refine zbj ?_; first | (refine zae aA rfl ?_) | (refine zab _ aA rfl rfl aE rfl ?_) | (refine zac _ aA rfl aZ aL ?_) | (refine zad _ aA rfl rfl aE aZ aL ?_)) | (refine zbw ?_; first | (refine zbc rfl aD rfl ?_) | (refine zbd rfl aD ?_) | (refine zbf rfl aD ?_) | (refine zbg rfl aD rfl ?_)) | (refine zbl ?_; first | (refine zbv rfl rfl aD ?_) | (refine zb5 rfl rfl aD ?_) | (refine zb6 rfl rfl ?_) | (refine zbe rfl rfl (fun h => ?_) (fun h => ?_) <;> (have h' := h; (try simp only [sx] at h')))) | (refine za6 ?_; first | (refine za5 true (k1) rfl rfl rfl aS rfl aH ?_; simp only [cl]) | (refine za5 true (k2) rfl rfl rfl aS rfl aH ?_; simp only [cl]) | (refine za5 true (k3) rfl rfl rfl aS rfl aH ?_; simp only [cl])) | (refine zbx _ _ rfl rfl rfl rfl ?_) | (refine zau (hK _ _ (.inl rfl) ?_); clear hK K) | (refine zau (hK _ _ (.inr (by kernel_rfl)) ?_); clear hK K))
      | (refine za0 ?_; first | (refine zbq ?_) | (refine zah (fun K hK => ?_)) | (refine zas ?_) | (refine zaz ?_) | (refine zbo ?_) | (refine za3 ?_) | (refine zbk ?_; first | (refine zal rfl aD ?_) | (refine zam rfl aD ?_) | (refine zay rfl (fun h => ?_) (fun h => ?_) <;> (have h' := h; (try simp only [sx] at h')))))
      | (refine za1 ?_) | (refine zak ?_) | (refine zai ?_) | (refine zat ?_) | (refine zap ?_) | (refine zaq ?_) | (refine zar rfl ?_) | (refine zaj ?_) | (refine zag ?_) | (refine zbp ?_))
    all_goals first
      | (exfalso; simp at *; done)
      | exact aR
  · rw [decide_eq_false hok]
    unfold reL
    rw [if_neg hok]
    by_cases h1 : GoodT t
    · have h2 : ¬ ((∀ s ∈ src, IsCell t s) ∧ Rising src) := fun h => hok ⟨h1, h⟩
      rw [decide_eq_true h1] at k1
      rw [decide_eq_false h2] at k2
      repeat' (first
      | (refine za2 ?_; first | (refine za4 ?_; refine zav _ rfl ?_) | (refine zaf ?_; refine zaa _ rfl ?_) | (refine g_un ?_; first | (refine zca rfl ?_) | (refine zb9 rfl aO ?_)) | (refine zbj ?_; first | (refine zae aA rfl ?_) | (refine zab _ aA rfl rfl aE rfl ?_) | (refine zac _ aA rfl aZ aL ?_) | (refine zad _ aA rfl rfl aE aZ aL ?_)) | (refine zbw ?_; first | (refine zbc rfl aD rfl ?_) | (refine zbd rfl aD ?_) | (refine zbf rfl aD ?_) | (refine zbg rfl aD rfl ?_)) | (refine zbl ?_; first | (refine zbv rfl rfl aD ?_) | (refine zb5 rfl rfl aD ?_) | (refine zb6 rfl rfl ?_) | (refine zbe rfl rfl (fun h => ?_) (fun h => ?_) <;> (have h' := h; (try simp only [sx] at h')))) | (refine za6 ?_; first | (refine za5 true (k1) rfl rfl rfl aS rfl aH ?_; simp only [cl]) | (refine za5 true (k2) rfl rfl rfl aS rfl aH ?_; simp only [cl])) | (refine zbx _ _ rfl rfl rfl rfl ?_) | (refine zau (hK _ _ (.inl rfl) ?_); clear hK K) | (refine zau (hK _ _ (.inr (by kernel_rfl)) ?_); clear hK K))
      | (refine za0 ?_; first | (refine zbq ?_) | (refine zah (fun K hK => ?_)) | (refine zas ?_) | (refine zaz ?_) | (refine zbo ?_) | (refine za3 ?_) | (refine zbk ?_; first | (refine zal rfl aD ?_) | (refine zam rfl aD ?_) | (refine zay rfl (fun h => ?_) (fun h => ?_) <;> (have h' := h; (try simp only [sx] at h')))))
      | (refine za1 ?_) | (refine zak ?_) | (refine zai ?_) | (refine zat ?_) | (refine zap ?_) | (refine zaq ?_) | (refine zar rfl ?_) | (refine zaj ?_) | (refine zag ?_) | (refine zbp ?_))
      all_goals first
        | (exfalso; simp at *; done)
        | exact aR
    · rw [decide_eq_false h1] at k1
      repeat' (first
      | (refine za2 ?_; first | (refine za4 ?_; refine zav _ rfl ?_) | (refine zaf ?_; refine zaa _ rfl ?_) | (refine g_un ?_; first | (refine zca rfl ?_) | (refine zb9 rfl aO ?_)) | (refine zbj ?_; first | (refine zae aA rfl ?_) | (refine zab _ aA rfl rfl aE rfl ?_) | (refine zac _ aA rfl aZ aL ?_) | (refine zad _ aA rfl rfl aE aZ aL ?_)) | (refine zbw ?_; first | (refine zbc rfl aD rfl ?_) | (refine zbd rfl aD ?_) | (refine zbf rfl aD ?_) | (refine zbg rfl aD rfl ?_)) | (refine zbl ?_; first | (refine zbv rfl rfl aD ?_) | (refine zb5 rfl rfl aD ?_) | (refine zb6 rfl rfl ?_) | (refine zbe rfl rfl (fun h => ?_) (fun h => ?_) <;> (have h' := h; (try simp only [sx] at h')))) | (refine za6 ?_; first | (refine za5 true (k1) rfl rfl rfl aS rfl aH ?_; simp only [cl]) | (refine za5 true (k2) rfl rfl rfl aS rfl aH ?_; simp only [cl])) | (refine zbx _ _ rfl rfl rfl rfl ?_) | (refine zau (hK _ _ (.inl rfl) ?_); clear hK K) | (refine zau (hK _ _ (.inr (by kernel_rfl)) ?_); clear hK K))
      | (refine za0 ?_; first | (refine zbq ?_) | (refine zah (fun K hK => ?_)) | (refine zas ?_) | (refine zaz ?_) | (refine zbo ?_) | (refine za3 ?_) | (refine zbk ?_; first | (refine zal rfl aD ?_) | (refine zam rfl aD ?_) | (refine zay rfl (fun h => ?_) (fun h => ?_) <;> (have h' := h; (try simp only [sx] at h')))))
      | (refine za1 ?_) | (refine zak ?_) | (refine zai ?_) | (refine zat ?_) | (refine zap ?_) | (refine zaq ?_) | (refine zar rfl ?_) | (refine zaj ?_) | (refine zag ?_) | (refine zbp ?_))
      all_goals first
        | (exfalso; simp at *; done)
        | exact aR
end Go.Vs
set_option linter.unusedVariables false
set_option linter.unusedSimpArgs false
set_option maxRecDepth 100000
set_option maxHeartbeats 4000000
namespace Go.Vs
open Go.Proofs
@[reducible] def prP (b : Blz) (c n : Int) : Prop := tv (arr b) n ≠ -1 ∧ hop b n c (tv (arr b) n) = tv (arr b) c
structure FirstPr (b : Blz) (c : Int) (k : Nat) (n : Int) : Prop where
  at_ : (nears b.t c)[k]? = some n
  ok : prP b c n
  no : ∀ (j : Nat) m, j < k → (nears b.t c)[j]? = some m → ¬ prP b c m
inductive IsPath (b : Blz) : Int → List Int → Prop
  | src {c : Int} : c ∈ b.src → IsPath b c [c]
  | step {c : Int} {k : Nat} {n : Int} {p : List Int} : c ∉ b.src → FirstPr b c k n → IsPath b n p → IsPath b c (p ++ [c])
theorem first_ex {b : Blz} (hb : GoodB b) {c : Int} (hc : IsCell b.t c) (h : tv (arr b) c ≠ -1) (hs : c ∉ b.src) : ∃ k n, FirstPr b c k n := by
  have hA := (arr_ok hb).2
  have hr := hA.pre.att c hc h
  have hst := hb.2.2
  have : ∃ n, n ∈ nears b.t c ∧ prP b c n := by
    generalize hv : tv (arr b) c = v at hr
    cases hr with
    | lit hl => exact absurd hl.2.2 hs
    | @hop a c v hr he =>
      have h1 := arr_le hb hA hr
      have h2 := arr_edge hb h1.1 he
      have h3 := arr_start hb he.1 h1.1
      have h4 := hop_mono hb (a := a) (c := c) (show 0 ≤ tv (arr b) a by omega) h1.2
      exact ⟨a, nears_mem.2 ⟨he.1, by rw [apart_comm]; exact he.2.2.1⟩, h1.1, by omega⟩
  obtain ⟨n, hn, hp⟩ := this
  obtain ⟨i, hi⟩ := List.getElem?_of_mem hn
  obtain ⟨k, ⟨m, hm, hq⟩, hmin⟩ := exists_least (fun k => ∃ m, (nears b.t c)[k]? = some m ∧ prP b c m) ⟨i, n, hi, hp⟩
  refine ⟨k, m, hm, hq, fun j m2 hj h2 h3 => ?_⟩
  have := hmin j ⟨m2, h2, h3⟩
  omega
theorem FirstPr.facts {b : Blz} (hb : GoodB b) {c n : Int} {k : Nat} (hc : IsCell b.t c) (h : tv (arr b) c ≠ -1) (hf : FirstPr b c k n) : IsCell b.t n ∧ tv (arr b) n ≠ -1 ∧ tv (arr b) n < tv (arr b) c ∧ b.st ≤ tv (arr b) n ∧ n ∈ nears b.t c := by
  have h1 := get_mem hf.at_
  have h2 := nears_mem.1 h1
  have h3 := arr_start hb h2.1 hf.ok.1
  have h4 := arr_start hb hc h
  have h5 := hop_bnd hb (show 0 ≤ tv (arr b) n by have := hb.2.2; omega) (show Edge b n c from ⟨h2.1, hc, by rw [apart_comm]; exact h2.2, h4.2.1⟩) h3.2.1
  have h6 := hf.ok.2
  exact ⟨h2.1, hf.ok.1, by omega, h3.1, h1⟩
theorem path_ex {b : Blz} (hb : GoodB b) : ∀ (m : Nat) (c : Int), (tv (arr b) c).toNat = m → IsCell b.t c → tv (arr b) c ≠ -1 → ∃ p, IsPath b c p ∧ 1 ≤ p.length ∧ (p.length : Int) ≤ tv (arr b) c - b.st + 1 := by
  intro m
  induction m using Nat.strongRecOn with
  | _ m ih =>
    intro c hm hc h
    have h1 := arr_start hb hc h
    have hst := hb.2.2
    by_cases hs : c ∈ b.src
    · exact ⟨[c], .src hs, by simp, by simp; omega⟩
    · obtain ⟨k, n, hf⟩ := first_ex hb hc h hs
      have h2 := hf.facts hb hc h
      obtain ⟨p, hp, h3, h4⟩ := ih (tv (arr b) n).toNat aO n rfl h2.1 h2.2.1
      exact ⟨p ++ [c], .step hs hf hp, by simp, by simp; omega⟩
structure PathOk (b : Blz) (c : Int) (p : List Int) : Prop where
  pos : 1 ≤ p.length
  beg : ∃ s, p[0]? = some s ∧ s ∈ b.src
  fin : p[p.length - 1]? = some c
  cel : ∀ x ∈ p, IsCell b.t x ∧ tv (arr b) x ≠ -1
  stp : ∀ (i : Nat) x y, p[i]? = some x → p[i + 1]? = some y → x ∈ nears b.t y ∧ tv (arr b) x < tv (arr b) y ∧ y ∉ b.src
theorem IsPath.ok {b : Blz} (hb : GoodB b) {c : Int} {p : List Int} (h : IsPath b c p) (hc : IsCell b.t c) (hne : tv (arr b) c ≠ -1) : PathOk b c p := by
  induction h with
  | @src c hs => exact ⟨by simp, ⟨c, rfl, hs⟩, rfl, fun x hx => by rw [List.mem_singleton] at hx; subst hx; exact ⟨hc, hne⟩, fun i x y h1 h2 => by simp at h2⟩
  | @step c k n p hs hf hp ih =>
    have h2 := hf.facts hb hc hne
    have I := ih h2.1 h2.2.1
    have hpos := I.pos
    refine ⟨by simp, ?_, by simp, fun x hx => ?_, fun i x y h3 h4 => ?_⟩
    · obtain ⟨s, e, hm⟩ := I.beg
      exact ⟨s, by rw [List.getElem?_append_left aO]; exact e, hm⟩
    · rcases List.mem_append.1 hx with h1 | h1
      · exact I.cel x h1
      · rw [List.mem_singleton] at h1; subst h1; exact ⟨hc, hne⟩
    · rcases Nat.lt_or_ge (i + 1) p.length with h5 | h5
      · rw [List.getElem?_append_left aO] at h3 h4
        exact I.stp i x y h3 h4
      · have h6 := get_lt h4
        rw [List.length_append, List.length_singleton] at h6
        have h7 : i = p.length - 1 := by omega
        subst h7
        rw [List.getElem?_append_left aO, I.fin] at h3
        rw [List.getElem?_append_right aO, show p.length - 1 + 1 - p.length = 0 by omega] at h4
        injection h3 with h3
        simp at h4
        subst h3
        subst h4
        exact ⟨h2.2.2.2.2, h2.2.2.1, hs⟩
@[reducible] def buP (T : List Int) (k : Int) (c : Nat) : Bool := decide (0 ≤ tv T c ∧ tv T c ≤ k)
def burL (T : List Int) (k : Int) : List Int := cellsL T.length (buP T k)
theorem burL_len (T : List Int) (k : Int) : (burL T k).length ≤ T.length := cellsL_len _ _
theorem burL_mem {T : List Int} {k c : Int} : c ∈ burL T k ↔ (0 ≤ c ∧ c < T.length) ∧ 0 ≤ tv T c ∧ tv T c ≤ k := by
  rw [burL, cellsL_mem]
  constructor
  · rintro ⟨i, h1, h2, rfl⟩
    exact ⟨by omega, of_decide_eq_true h2⟩
  · rintro ⟨h1, h2⟩
    refine ⟨c.toNat, by omega, ?_, by omega⟩
    rw [buP, show ((c.toNat : Nat) : Int) = c by omega]
    exact decide_eq_true h2
theorem burL_mono {T : List Int} {k k' : Int} (h : k ≤ k') : ∀ x ∈ burL T k, x ∈ burL T k' := fun x hx => by
  rw [burL_mem] at hx ⊢
  exact ⟨hx.1, hx.2.1, by omega⟩
@[reducible] def mx2 (a b : Int) : Int := max a b
def mxL (T : List Int) : Int := T.foldl mx2 (-1)
theorem mxL_succ {T : List Int} {i : Nat} {a : Int} (h : T[i]? = some a) : mxL (T.take (i + 1)) = max (mxL (T.take i)) a := by
  rw [take_succ h, mxL, List.foldl_append]; rfl
theorem mxL_ge (T : List Int) : -1 ≤ mxL T ∧ (∀ x ∈ T, x ≤ mxL T) ∧ (mxL T = -1 ∨ mxL T ∈ T) := by
  have key : ∀ i, i ≤ T.length → -1 ≤ mxL (T.take i) ∧ (∀ x ∈ T.take i, x ≤ mxL (T.take i)) ∧ (mxL (T.take i) = -1 ∨ mxL (T.take i) ∈ T) := by
    intro i
    induction i with
    | zero => intro _; exact ⟨by simp [mxL], fun x hx => by simp at hx, .inl rfl⟩
    | succ i ih =>
      intro hi
      obtain ⟨a, ha⟩ := get_ex (show i < T.length by omega)
      obtain ⟨h1, h2, h3⟩ := ih aO
      rw [mxL_succ ha]
      refine ⟨by omega, fun x hx => ?_, ?_⟩
      · rw [take_succ ha] at hx
        rcases List.mem_append.1 hx with h | h
        · have := h2 x h; omega
        · rw [List.mem_singleton] at h; omega
      · by_cases hc : mxL (T.take i) ≤ a
        · rw [Int.max_eq_right hc]; exact .inr (get_mem ha)
        · rw [Int.max_eq_left aO]; exact h3
  have := key T.length (Nat.le_refl _)
  rwa [List.take_length] at this
theorem tv_mem {T : List Int} {c : Int} (h : 0 ≤ c ∧ c < T.length) : tv T c ∈ T := get_mem (tv_at aO)
theorem bur_all {b : Blz} (hb : GoodB b) : burL (arr b) (mxL (arr b)) = rcL b.t b.src := by
  have hl := arr_len hb
  unfold burL rcL flL
  rw [hl]
  refine cellsL_congr fun i hi => ?_
  have hc : IsCell b.t (i : Int) := ⟨by omega, by omega⟩
  have h1 := arr_rc hb hc
  have h2 := (mxL_ge (arr b)).2.1 _ (tv_mem (T := arr b) (c := (i : Int)) aO)
  rw [Bool.eq_iff_iff, buP]
  simp only [decide_eq_true_eq]
  rw [reP_iff]
  rw [show Fl b.t (stepP b.t) (litL b.t b.src) (i : Int) ↔ Rc b.t b.src (i : Int) from Iff.rfl, h1]
  constructor
  · intro h; omega
  · intro h
    have h3 := arr_start hb hc h
    have := hb.2.2
    exact ⟨by omega, h2⟩
theorem mx_some {b : Blz} (hb : GoodB b) (h : mxL (arr b) ≠ -1) : 0 ≤ mxL (arr b) ∧ mxL (arr b) ≤ 4000 := by
  have h1 := mxL_ge (arr b)
  rcases h1.2.2 with h2 | h2
  · exact absurd h2 h
  · obtain ⟨i, hi⟩ := List.getElem?_of_mem h2
    have h3 := get_lt hi
    have h4 : tv (arr b) (i : Int) = mxL (arr b) := by
      have := tv_at (T := arr b) (c := (i : Int)) (by rw [Int.toNat_natCast]; exact h3)
      rw [Int.toNat_natCast, hi] at this
      injection this with this
      exact this.symm
    have hc : IsCell b.t (i : Int) := ⟨by omega, by rw [arr_len hb] at h3; omega⟩
    have h5 := arr_start hb hc (by rw [h4]; exact h)
    have := hb.2.2
    omega
@[reducible] def mn2 (T : List Int) (o c : Int) : Int := if tv T c ≠ -1 ∧ (o = -1 ∨ tv T c < o) then tv T c else o
def mnL (T cs : List Int) : Int := cs.foldl (mn2 T) (-1)
theorem mnL_succ {T cs : List Int} {i : Nat} {a : Int} (h : cs[i]? = some a) : mnL T (cs.take (i + 1)) = mn2 T (mnL T (cs.take i)) a := by
  rw [take_succ h, mnL, List.foldl_append]; rfl
theorem mnL_is {T cs : List Int} : mnL T cs = -1 ∨ ∃ c ∈ cs, tv T c ≠ -1 ∧ mnL T cs = tv T c := by
  have key : ∀ i, i ≤ cs.length → mnL T (cs.take i) = -1 ∨ ∃ c ∈ cs, tv T c ≠ -1 ∧ mnL T (cs.take i) = tv T c := by
    intro i
    induction i with
    | zero => intro _; exact .inl rfl
    | succ i ih =>
      intro hi
      obtain ⟨a, ha⟩ := get_ex (show i < cs.length by omega)
      rw [mnL_succ ha, mn2]
      split
      · rename_i h; exact .inr ⟨a, get_mem ha, h.1, rfl⟩
      · exact ih aO
  have := key cs.length (Nat.le_refl _)
  rwa [List.take_length] at this
theorem mn_some {b : Blz} (hb : GoodB b) {cs : List Int} (hc : ∀ c ∈ cs, IsCell b.t c) (h : mnL (arr b) cs ≠ -1) : b.st ≤ mnL (arr b) cs ∧ mnL (arr b) cs ≤ 4000 := by
  rcases mnL_is (T := arr b) (cs := cs) with h1 | ⟨c, h1, h2, h3⟩
  · exact absurd h1 h
  · have := arr_start hb (hc c h1) h2
    omega
end Go.Vs
set_option linter.unusedVariables false
set_option linter.unusedSimpArgs false
set_option maxRecDepth 100000
set_option maxHeartbeats 4000000
namespace Go.Vs
open Go.Proofs
attribute [local irreducible] exec vwp thenQ blkQ loopQ RetPost
noncomputable def arL (b : Blz) : List Int := if GoodB b then arr b else []
theorem k_sArr (b : Blz) (z : SzB b) : Con Try.prog 10 [.agg b.t.pv, .list 2 (b.ps.map Phase.pv), .list 1 (ints b.src), .int .i64 b.st] (.tuple [.olist 3 1 (ints (arL b)), .bool (decide (GoodB b))]) := by
  intro al
  refine za7 hmix Try.func10 rfl (by kernel_rfl) (by kernel_rfl) (Nat.le_of_ble_eq_true rfl) (fun row h => by cases h) ?_
  have hty_a26 := ty_a26
  have hty_u27 := ty_u27
  have hty_s27 := ty_s27
  have hty_u24 := ty_u24
  have hty_s24 := ty_s24
  have k1 := k_l4Asked b z
  by_cases hb : GoodB b
  · rw [arL, if_pos hb, decide_eq_true hb]
    rw [decide_eq_true hb] at k1
    repeat' (first
      | (refine za2 ?_; first | (refine za4 ?_; refine zav _ rfl ?_) | (refine zaf ?_; refine zaa _ rfl ?_) | (refine g_un ?_; first | (refine zca rfl ?_) | (refine zb9 rfl aO ?_)) | (refine zbj ?_; first | (refine zae aA rfl ?_) | (refine zab _ aA rfl rfl aE rfl ?_) | (refine zac _ aA rfl aZ aL ?_) | (refine zad _ aA rfl rfl aE aZ aL ?_)) | (refine za6 ?_; first | (refine za5 true (k1) rfl rfl rfl aS rfl aH ?_; simp only [cl]) | (refine za5 true (k_l4Arrivals b hb z.hs) rfl rfl rfl aS rfl aH ?_; simp only [cl])) | (refine zax aA rfl rfl rfl ?_) | (refine zbx _ _ rfl rfl rfl rfl ?_) | (refine zau (hK _ _ (.inl rfl) ?_); clear hK K) | (refine zau (hK _ _ (.inr (by kernel_rfl)) ?_); clear hK K))
      | (refine za0 ?_; first | (refine zbq ?_) | (refine zah (fun K hK => ?_)) | (refine zas ?_) | (refine zaz ?_) | (refine zbo ?_) | (refine za3 ?_) | (refine zbk ?_; first | (refine zal rfl aD ?_) | (refine zam rfl aD ?_) | (refine zay rfl (fun h => ?_) (fun h => ?_) <;> (have h' := h; (try simp only [sx] at h')))))
      | (refine za1 ?_) | (refine zak ?_) | (refine zai ?_) | (refine zat ?_) | (refine zap ?_) | (refine zaq ?_) | (refine zar rfl ?_) | (refine zaj ?_) | (refine zag ?_) | (refine zbp ?_))
    all_goals first
      | (exfalso; omega)
      | exact aR
  · rw [arL, if_neg hb, decide_eq_false hb]
    rw [decide_eq_false hb] at k1
    repeat' (first
      | (refine za2 ?_; first | (refine za4 ?_; refine zav _ rfl ?_) | (refine zaf ?_; refine zaa _ rfl ?_) | (refine g_un ?_; first | (refine zca rfl ?_) | (refine zb9 rfl aO ?_)) | (refine zbj ?_; first | (refine zae aA rfl ?_) | (refine zab _ aA rfl rfl aE rfl ?_) | (refine zac _ aA rfl aZ aL ?_) | (refine zad _ aA rfl rfl aE aZ aL ?_)) | (refine za6 ?_; refine za5 true (k1) rfl rfl rfl aS rfl aH ?_; simp only [cl]) | (refine zax aA rfl rfl rfl ?_) | (refine zbx _ _ rfl rfl rfl rfl ?_) | (refine zau (hK _ _ (.inl rfl) ?_); clear hK K) | (refine zau (hK _ _ (.inr (by kernel_rfl)) ?_); clear hK K))
      | (refine za0 ?_; first | (refine zbq ?_) | (refine zah (fun K hK => ?_)) | (refine zas ?_) | (refine zaz ?_) | (refine zbo ?_) | (refine za3 ?_) | (refine zbk ?_; first | (refine zal rfl aD ?_) | (refine zam rfl aD ?_) | (refine zay rfl (fun h => ?_) (fun h => ?_) <;> (have h' := h; (try simp only [sx] at h')))))
      | (refine za1 ?_) | (refine zak ?_) | (refine zai ?_) | (refine zat ?_) | (refine zap ?_) | (refine zaq ?_) | (refine zar rfl ?_) | (refine zaj ?_) | (refine zag ?_) | (refine zbp ?_))
    all_goals first
      | (exfalso; omega)
      | exact aR
@[reducible] def NbOk (t : Terrain) (c : Int) : Prop := GoodT t ∧ IsCell t c
def nbL (t : Terrain) (c : Int) : List Int := if NbOk t c then nears t c else []
theorem k_iNeighbors (t : Terrain) (c : Int) (hn : t.burn.length ≤ 1099511627776) : Con Try.prog 16 [.agg t.pv, .int .i64 c] (.tuple [.olist 3 1 (ints (nbL t c)), .bool (decide (NbOk t c))]) := by
  intro al
  refine za7 hmix Try.func16 rfl (by kernel_rfl) (by kernel_rfl) (Nat.le_of_ble_eq_true rfl) (fun row h => by cases h) ?_
  have hty_a26 := ty_a26
  have k1 := k_IsTerrain t hn
  have k2 := k_isCell t c hn
  by_cases hg : GoodT t
  · by_cases hc : IsCell t c
    · have hok : NbOk t c := ⟨hg, hc⟩
      rw [nbL, if_pos hok, decide_eq_true hok]
      rw [decide_eq_true hg] at k1
      rw [decide_eq_true (show 0 ≤ c ∧ c < (t.burn.length : Int) from hc)] at k2
      repeat' (first
      | (refine za2 ?_; first | (refine za4 ?_; refine zav _ rfl ?_) | (refine zaf ?_; refine zaa _ rfl ?_) | (refine g_un ?_; first | (refine zca rfl ?_) | (refine zb9 rfl aO ?_)) | (refine zbj ?_; first | (refine zae aA rfl ?_) | (refine zab _ aA rfl rfl aE rfl ?_) | (refine zac _ aA rfl aZ aL ?_) | (refine zad _ aA rfl rfl aE aZ aL ?_)) | (refine zbw ?_; first | (refine zbc rfl aD rfl ?_) | (refine zbd rfl aD ?_) | (refine zbf rfl aD ?_) | (refine zbg rfl aD rfl ?_)) | (refine zbl ?_; first | (refine zbv rfl rfl aD ?_) | (refine zb5 rfl rfl aD ?_) | (refine zb6 rfl rfl ?_) | (refine zbe rfl rfl (fun h => ?_) (fun h => ?_) <;> (have h' := h; (try simp only [sx] at h')))) | (refine za6 ?_; first | (refine za5 true (k1) rfl rfl rfl aS rfl aH ?_; simp only [cl]) | (refine za5 true (k2) rfl rfl rfl aS rfl aH ?_; simp only [cl]) | (refine za5 true (k_neighbors t c hg hc) rfl rfl rfl aS rfl aH ?_; simp only [cl])) | (refine zbx _ _ rfl rfl rfl rfl ?_) | (refine zau (hK _ _ (.inl rfl) ?_); clear hK K) | (refine zau (hK _ _ (.inr (by kernel_rfl)) ?_); clear hK K))
      | (refine za0 ?_; first | (refine zbq ?_) | (refine zah (fun K hK => ?_)) | (refine zas ?_) | (refine zaz ?_) | (refine zbo ?_) | (refine za3 ?_) | (refine zbk ?_; first | (refine zal rfl aD ?_) | (refine zam rfl aD ?_) | (refine zay rfl (fun h => ?_) (fun h => ?_) <;> (have h' := h; (try simp only [sx] at h')))))
      | (refine za1 ?_) | (refine zak ?_) | (refine zai ?_) | (refine zat ?_) | (refine zap ?_) | (refine zaq ?_) | (refine zar rfl ?_) | (refine zaj ?_) | (refine zag ?_) | (refine zbp ?_))
      all_goals first
        | (exfalso; omega)
        | exact aR
    · have hok : ¬ NbOk t c := fun h => hc h.2
      rw [nbL, if_neg hok, decide_eq_false hok]
      rw [decide_eq_true hg] at k1
      rw [decide_eq_false (show ¬ (0 ≤ c ∧ c < (t.burn.length : Int)) from hc)] at k2
      repeat' (first
      | (refine za2 ?_; first | (refine za4 ?_; refine zav _ rfl ?_) | (refine zaf ?_; refine zaa _ rfl ?_) | (refine g_un ?_; first | (refine zca rfl ?_) | (refine zb9 rfl aO ?_)) | (refine zbj ?_; first | (refine zae aA rfl ?_) | (refine zab _ aA rfl rfl aE rfl ?_) | (refine zac _ aA rfl aZ aL ?_) | (refine zad _ aA rfl rfl aE aZ aL ?_)) | (refine zbw ?_; first | (refine zbc rfl aD rfl ?_) | (refine zbd rfl aD ?_) | (refine zbf rfl aD ?_) | (refine zbg rfl aD rfl ?_)) | (refine zbl ?_; first | (refine zbv rfl rfl aD ?_) | (refine zb5 rfl rfl aD ?_) | (refine zb6 rfl rfl ?_) | (refine zbe rfl rfl (fun h => ?_) (fun h => ?_) <;> (have h' := h; (try simp only [sx] at h')))) | (refine za6 ?_; first | (refine za5 true (k1) rfl rfl rfl aS rfl aH ?_; simp only [cl]) | (refine za5 true (k2) rfl rfl rfl aS rfl aH ?_; simp only [cl])) | (refine zbx _ _ rfl rfl rfl rfl ?_) | (refine zau (hK _ _ (.inl rfl) ?_); clear hK K) | (refine zau (hK _ _ (.inr (by kernel_rfl)) ?_); clear hK K))
      | (refine za0 ?_; first | (refine zbq ?_) | (refine zah (fun K hK => ?_)) | (refine zas ?_) | (refine zaz ?_) | (refine zbo ?_) | (refine za3 ?_) | (refine zbk ?_; first | (refine zal rfl aD ?_) | (refine zam rfl aD ?_) | (refine zay rfl (fun h => ?_) (fun h => ?_) <;> (have h' := h; (try simp only [sx] at h')))))
      | (refine za1 ?_) | (refine zak ?_) | (refine zai ?_) | (refine zat ?_) | (refine zap ?_) | (refine zaq ?_) | (refine zar rfl ?_) | (refine zaj ?_) | (refine zag ?_) | (refine zbp ?_))
      all_goals first
        | (exfalso; omega)
        | exact aR
  · have hok : ¬ NbOk t c := fun h => hg h.1
    rw [nbL, if_neg hok, decide_eq_false hok]
    rw [decide_eq_false hg] at k1
    repeat' (first
      | (refine za2 ?_; first | (refine za4 ?_; refine zav _ rfl ?_) | (refine zaf ?_; refine zaa _ rfl ?_) | (refine g_un ?_; first | (refine zca rfl ?_) | (refine zb9 rfl aO ?_)) | (refine zbj ?_; first | (refine zae aA rfl ?_) | (refine zab _ aA rfl rfl aE rfl ?_) | (refine zac _ aA rfl aZ aL ?_) | (refine zad _ aA rfl rfl aE aZ aL ?_)) | (refine zbw ?_; first | (refine zbc rfl aD rfl ?_) | (refine zbd rfl aD ?_) | (refine zbf rfl aD ?_) | (refine zbg rfl aD rfl ?_)) | (refine zbl ?_; first | (refine zbv rfl rfl aD ?_) | (refine zb5 rfl rfl aD ?_) | (refine zb6 rfl rfl ?_) | (refine zbe rfl rfl (fun h => ?_) (fun h => ?_) <;> (have h' := h; (try simp only [sx] at h')))) | (refine za6 ?_; first | (refine za5 true (k1) rfl rfl rfl aS rfl aH ?_; simp only [cl]) | (refine za5 true (k2) rfl rfl rfl aS rfl aH ?_; simp only [cl])) | (refine zbx _ _ rfl rfl rfl rfl ?_) | (refine zau (hK _ _ (.inl rfl) ?_); clear hK K) | (refine zau (hK _ _ (.inr (by kernel_rfl)) ?_); clear hK K))
      | (refine za0 ?_; first | (refine zbq ?_) | (refine zah (fun K hK => ?_)) | (refine zas ?_) | (refine zaz ?_) | (refine zbo ?_) | (refine za3 ?_) | (refine zbk ?_; first | (refine zal rfl aD ?_) | (refine zam rfl aD ?_) | (refine zay rfl (fun h => ?_) (fun h => ?_) <;> (have h' := h; (try simp only [sx] at h')))))
      | (refine za1 ?_) | (refine zak ?_) | (refine zai ?_) | (refine zat ?_) | (refine zap ?_) | (refine zaq ?_) | (refine zar rfl ?_) | (refine zaj ?_) | (refine zag ?_) | (refine zbp ?_))
    all_goals first
      | (exfalso; omega)
      | exact aR
def WdOk (ps : List Phase) (t w : Int) : Prop := GoodP ps ∧ (0 ≤ t ∧ t ≤ 9999) ∧ (0 ≤ w ∧ w ≤ 1000) ∧ dn (spF ps) t w ≤ 9999
instance (ps : List Phase) (t w : Int) : Decidable (WdOk ps t w) := by unfold WdOk; infer_instance
end Go.Vs
set_option linter.unusedVariables false
set_option linter.unusedSimpArgs false
set_option maxRecDepth 100000
set_option maxHeartbeats 4000000
namespace Go.Vs
open Go.Proofs
attribute [local irreducible] exec vwp thenQ blkQ loopQ RetPost
theorem nosome {α : Type} {i : Nat} {l : List α} {a b : α} (h1 : l[i]? = some a) (h2 : l[i]? = some b) : a = b := by rw [h1] at h2; exact Option.some.inj h2
theorem k_burned1 (T : List Int) (k : Int) (c : Nat) (hc : c < T.length) : Con Try.prog 135 [.int .i64 (c : Int), .ptr [.list 1 (ints T)], .ptr [.int .i64 k]] (.bool (buP T k c)) := by
  intro al
  refine za7 hmix Try.func135 rfl (by kernel_rfl) (by kernel_rfl) (Nat.le_of_ble_eq_true rfl) (fun row h => by cases h) ?_
  have hty_c24 := ty_c24
  have hty_s24 := ty_s24
  have hty_c3 := ty_c3
  have hx := tv_int (T := T) (c := (c : Int)) (by simpa using hc)
  have hl : (ints T).length = T.length := by simp
  have kI := k_in (tv T (c : Int)) 0 k
  repeat' (first
      | (refine za2 ?_; first | (refine za4 ?_; refine zav _ rfl ?_) | (refine zaf ?_; refine zaa _ rfl ?_) | (refine zbj ?_; first | (refine zae aA rfl ?_) | (refine zab _ aA rfl rfl aE rfl ?_) | (refine zac _ aA rfl aZ aL ?_) | (refine zad _ aA rfl rfl aE aZ aL ?_)) | (refine zbh ?_; first | (refine zao _ aA rfl rfl aO aA ?_) | (refine zan _ aA rfl rfl rfl rfl aO aO (by first | (rw [Nat.zero_add, Int.toNat_natCast]) | (rw [Nat.zero_add]) | rfl) ?_)) | (refine za6 ?_; refine za5 true (kI) rfl rfl rfl aS rfl aH ?_; simp only [cl]) | (refine zau (hK _ _ (.inl rfl) ?_); clear hK K) | (refine zau (hK _ _ (.inr (by kernel_rfl)) ?_); clear hK K))
      | (refine za0 ?_; first | (refine zbq ?_) | (refine zah (fun K hK => ?_)) | (refine zas ?_) | (refine zaz ?_) | (refine zbo ?_) | (refine za3 ?_))
      | (refine za1 ?_) | (refine zak ?_) | (refine zai ?_) | (refine zat ?_) | (refine zap ?_) | (refine zaq ?_) | (refine zar rfl ?_) | (refine zaj ?_) | (refine zag ?_) | (refine zbp ?_))
  all_goals first
    | (exfalso; omega)
    | exact zb8 rfl (zbr rfl) (by simp [buP])
theorem k_burned (b : Blz) (hb : GoodB b) (hs : b.src.length ≤ 1099511627776) (k : Int) :
    Con Try.prog 87 [.agg b.t.pv, .list 2 (b.ps.map Phase.pv), .list 1 (ints b.src), .int .i64 b.st, .int .i64 k] (.olist 3 1 (ints (burL (arr b) k))) := by
  intro al
  refine za7 hmix Try.func87 rfl (by kernel_rfl) (by kernel_rfl) (Nat.le_of_ble_eq_true rfl) (fun row h => by cases h) ?_
  have hty_a26 := ty_a26
  have hty_u27 := ty_u27
  have hty_s27 := ty_s27
  have hty_u24 := ty_u24
  have hty_s24 := ty_s24
  have hty_z24 := ty_z24
  have hty_t24 := ty_t24
  have hl := arr_len hb
  have hlen := goodT_len hb.1.1
  have kA := k_arrivals b hb hs
  have kC := k_cellsThat b.t 135 [[.list 1 (ints (arr b))], [.int .i64 k]] (buP (arr b) k) (fun c hc => k_burned1 (arr b) k c aO) aO
  unfold burL
  rw [hl]
  repeat' (first
      | (refine za2 ?_; first | (refine za4 ?_; refine zav _ rfl ?_) | (refine zaf ?_; refine zaa _ rfl ?_) | (refine zbj ?_; first | (refine zae aA rfl ?_) | (refine zab _ aA rfl rfl aE rfl ?_) | (refine zac _ aA rfl aZ aL ?_) | (refine zad _ aA rfl rfl aE aZ aL ?_)) | (refine za6 ?_; first | (refine za5 true (kA) rfl rfl rfl aS rfl aH ?_; simp only [cl]) | (refine za5 true (kC) rfl rfl rfl aS rfl aH ?_; simp only [cl])) | (refine zbx _ _ rfl rfl rfl rfl ?_) | (refine zcc _ aA rfl ?_) | (refine zb7 aA rfl ?_) | (refine zch _ _ rfl rfl ?_) | (refine zbs _ _ _ rfl rfl aE (by first | assumption | (exact TAgg.size aA)) rfl rfl rfl aZ rfl aL (by first | (first | (simp only [lx, Nat.reduceAdd]; first | done | rfl) | fail) | rfl) ?_) | (refine zau (hK _ _ (.inl rfl) ?_); clear hK K) | (refine zau (hK _ _ (.inr (by kernel_rfl)) ?_); clear hK K))
      | (refine za0 ?_; first | (refine zbq ?_) | (refine zah (fun K hK => ?_)) | (refine zas ?_) | (refine zaz ?_) | (refine zbo ?_) | (refine za3 ?_))
      | (refine za1 ?_) | (refine zak ?_) | (refine zai ?_) | (refine zat ?_) | (refine zap ?_) | (refine zaq ?_) | (refine zar rfl ?_) | (refine zaj ?_) | (refine zag ?_) | (refine zbp ?_))
  all_goals first
    | (exfalso; omega)
    | exact zcq rfl (zbr (by rfl)) (by rfl) (by decide) rfl (ints_flat _) rfl
theorem k_l4Burned (T : List Int) (k : Int) (hn : T.length ≤ 1000000) : Con Try.prog 88 [.list 1 (ints T), .int .i64 k] (.olist 3 1 (ints (burL T k))) := by
  intro al
  refine za7 hmix Try.func88 rfl (by kernel_rfl) (by kernel_rfl) (Nat.le_of_ble_eq_true rfl) (fun row h => by cases h) ?_
  have hty_s24 := ty_s24
  have hty_u24 := ty_u24
  have hty_c3 := ty_c3
  have hl1 : (ints T).length = T.length := by simp
  repeat' (first
      | (refine za2 ?_; first | (refine za4 ?_; refine zav _ rfl ?_) | (refine zaf ?_; refine zaa _ rfl ?_) | (refine zbu ?_; first | (refine zb0 rfl rfl aO ?_) | (refine zbt _ rfl rfl rfl ?_) | (refine zaw _ rfl rfl rfl ?_)) | (refine zbj ?_; first | (refine zae aA rfl ?_) | (refine zab _ aA rfl rfl aE rfl ?_) | (refine zac _ aA rfl aZ aL ?_) | (refine zad _ aA rfl rfl aE aZ aL ?_)) | (refine zbh ?_; first | (refine zao _ aA rfl rfl aO aA ?_) | (refine zan _ aA rfl rfl rfl rfl aO aO (by first | (rw [Nat.zero_add, Int.toNat_natCast]) | (rw [Nat.zero_add]) | rfl) ?_)) | (refine za6 ?_; first | (refine zbb aA rfl ?_) | (refine za8 aA rfl rfl ?_) | (refine za9 aA rfl ?_) | (refine zba aA (evO_ok rfl) ?_) | (refine zb3 _ _ aA rfl (lookM (by rfl)) rfl (lookM (by rfl)) rfl aN ⟨rfl, rfl, by decide, by decide⟩ (by first | rfl | omega | (simp; done) | (simp; omega) | fail) ⟨by first | (simp only [List.length_cons, List.length_nil]; omega) | omega | fail, by decide⟩ rfl (by first | (first | (simp only [lx, Nat.reduceAdd]; first | done | rfl) | fail) | rfl) aP ?_) | (refine zb2 _ _ aA rfl rfl (lookM (by rfl)) ⟨rfl, by decide⟩ aN (by first | exact Nat.succ_pos _ | omega | (simp; done)) ⟨by first | (simp only [List.length_cons, List.length_nil]; omega) | omega | fail, by decide⟩ rfl rfl aP ?_) | (refine zb4 _ aA rfl rfl (lookM (by rfl)) ⟨rfl, by decide⟩ aN ⟨by first | (simp only [List.length_cons, List.length_nil]; omega) | omega | fail, by decide⟩ rfl aP ?_) | (refine zb1 _ aA rfl rfl rfl ⟨rfl, rfl, rfl, by decide, by decide⟩ (by first | rfl | (simp; done) | fail) ⟨by omega, by decide⟩ rfl aL (by first | (rw [Nat.zero_add]) | rfl) ?_)) | (refine zax aA rfl rfl rfl ?_) | (refine zau (hK _ _ (.inl rfl) ?_); clear hK K) | (refine zau (hK _ _ (.inr (by kernel_rfl)) ?_); clear hK K))
      | (refine za0 ?_; first | (refine zbq ?_) | (refine zah (fun K hK => ?_)) | (refine zas ?_) | (refine zaz ?_) | (refine zbo ?_) | (refine za3 ?_) | (refine zbk ?_; first | (refine zal rfl aD ?_) | (refine zam rfl aD ?_) | (refine zay rfl (fun h => ?_) (fun h => ?_) <;> (have h' := h; (try simp only [sx] at h')))))
      | (refine za1 ?_) | (refine zak ?_) | (refine zai ?_) | (refine zat ?_) | (refine zap ?_) | (refine zaq ?_) | (refine zar rfl ?_) | (refine zaj ?_) | (refine zag ?_) | (refine zbp ?_))
  refine zce [0, 1] [] (fun q : Nat × Nat × List (List PV) => [(5, .osl (1001, 0) 0 q.2.1), (6, .int .i64 q.1)]) (fun q : Nat × Nat × List (List PV) => [((1001, 0), some ⟨3, 1, q.2.2, false⟩)]) (fun q : Nat × Nat × List (List PV) => q.1 ≤ T.length ∧ q.2.2 = ints (cellsL q.1 (buP T k)) ∧ q.2.2.length = q.2.1) (fun q : Nat × Nat × List (List PV) => T.length - q.1) ((0, 0, [])) rfl rfl (fun _ => rfl) (fun _ => rfl) rfl aW ⟨by simp, by simp [cellsL], rfl⟩ (fun q hq => ?_)
  obtain ⟨i, m, es⟩ := q
  obtain ⟨hi1, hi2, hl⟩ := hq
  simp only at hi1 hi2 hl
  have hle : es.length ≤ i := by rw [hi2, ints_len]; exact cellsL_len i _
  dsimp only
  rcases Nat.lt_or_ge i T.length with hlt | hge
  · have hx := tv_int (T := T) (c := (i : Int)) (by simpa using hlt)
    have kI := k_l1In (tv T (i : Int)) 0 k
    rw [show (decide (0 ≤ tv T (i : Int)) && decide (tv T (i : Int) ≤ k)) = buP T k i by simp [buP]] at kI
    cases hp : buP T k i with
    | true =>
      rw [hp] at kI
      repeat' (first
      | (refine za2 ?_; first | (refine za4 ?_; refine zav _ rfl ?_) | (refine zaf ?_; refine zaa _ rfl ?_) | (refine zbu ?_; first | (refine zb0 rfl rfl aO ?_) | (refine zbt _ rfl rfl rfl ?_) | (refine zaw _ rfl rfl rfl ?_)) | (refine zbj ?_; first | (refine zae aA rfl ?_) | (refine zab _ aA rfl rfl aE rfl ?_) | (refine zac _ aA rfl aZ aL ?_) | (refine zad _ aA rfl rfl aE aZ aL ?_)) | (refine zbh ?_; first | (refine zao _ aA rfl rfl aO aA ?_) | (refine zan _ aA rfl rfl rfl rfl aO aO (by first | (rw [Nat.zero_add, Int.toNat_natCast]) | (rw [Nat.zero_add]) | rfl) ?_)) | (refine za6 ?_; first | (refine za5 true (kI) rfl rfl rfl aS rfl aH ?_; simp only [cl]) | (refine zbb aA rfl ?_) | (refine za8 aA rfl rfl ?_) | (refine za9 aA rfl ?_) | (refine zba aA (evO_ok rfl) ?_) | (refine zb3 _ _ aA rfl (lookM (by rfl)) rfl (lookM (by rfl)) rfl aN ⟨rfl, rfl, by decide, by decide⟩ (by first | rfl | omega | (simp; done) | (simp; omega) | fail) ⟨by first | (simp only [List.length_cons, List.length_nil]; omega) | omega | fail, by decide⟩ rfl (by first | (first | (simp only [lx, Nat.reduceAdd]; first | done | rfl) | fail) | rfl) aP ?_) | (refine zb2 _ _ aA rfl rfl (lookM (by rfl)) ⟨rfl, by decide⟩ aN (by first | exact Nat.succ_pos _ | omega | (simp; done)) ⟨by first | (simp only [List.length_cons, List.length_nil]; omega) | omega | fail, by decide⟩ rfl rfl aP ?_) | (refine zb4 _ aA rfl rfl (lookM (by rfl)) ⟨rfl, by decide⟩ aN ⟨by first | (simp only [List.length_cons, List.length_nil]; omega) | omega | fail, by decide⟩ rfl aP ?_) | (refine zb1 _ aA rfl rfl rfl ⟨rfl, rfl, rfl, by decide, by decide⟩ (by first | rfl | (simp; done) | fail) ⟨by omega, by decide⟩ rfl aL (by first | (rw [Nat.zero_add]) | rfl) ?_)) | (refine zax aA rfl rfl rfl ?_) | (refine zau (hK _ _ (.inl rfl) ?_); clear hK K) | (refine zau (hK _ _ (.inr (by kernel_rfl)) ?_); clear hK K))
      | (refine za0 ?_; first | (refine zbq ?_) | (refine zah (fun K hK => ?_)) | (refine zas ?_) | (refine zaz ?_) | (refine zbo ?_) | (refine za3 ?_) | (refine zbk ?_; first | (refine zal rfl aD ?_) | (refine zam rfl aD ?_) | (refine zay rfl (fun h => ?_) (fun h => ?_) <;> (have h' := h; (try simp only [sx] at h')))))
      | (refine za1 ?_) | (refine zak ?_) | (refine zai ?_) | (refine zat ?_) | (refine zap ?_) | (refine zaq ?_) | (refine zar rfl ?_) | (refine zaj ?_) | (refine zag ?_) | (refine zbp ?_))
      all_goals first
        | (exfalso; omega)
        | (refine zcb (i + 1, m + 1, es ++ [[.int .i64 i]]) rfl aW ⟨by simp only; omega, by simp only [cellsL_t hp, ints_snoc, hi2], by simp [hl]⟩ (by simp only; omega))
    | false =>
      rw [hp] at kI
      repeat' (first
      | (refine za2 ?_; first | (refine za4 ?_; refine zav _ rfl ?_) | (refine zaf ?_; refine zaa _ rfl ?_) | (refine zbu ?_; first | (refine zb0 rfl rfl aO ?_) | (refine zbt _ rfl rfl rfl ?_) | (refine zaw _ rfl rfl rfl ?_)) | (refine zbj ?_; first | (refine zae aA rfl ?_) | (refine zab _ aA rfl rfl aE rfl ?_) | (refine zac _ aA rfl aZ aL ?_) | (refine zad _ aA rfl rfl aE aZ aL ?_)) | (refine zbh ?_; first | (refine zao _ aA rfl rfl aO aA ?_) | (refine zan _ aA rfl rfl rfl rfl aO aO (by first | (rw [Nat.zero_add, Int.toNat_natCast]) | (rw [Nat.zero_add]) | rfl) ?_)) | (refine za6 ?_; first | (refine za5 true (kI) rfl rfl rfl aS rfl aH ?_; simp only [cl]) | (refine zbb aA rfl ?_) | (refine za8 aA rfl rfl ?_) | (refine za9 aA rfl ?_) | (refine zba aA (evO_ok rfl) ?_) | (refine zb3 _ _ aA rfl (lookM (by rfl)) rfl (lookM (by rfl)) rfl aN ⟨rfl, rfl, by decide, by decide⟩ (by first | rfl | omega | (simp; done) | (simp; omega) | fail) ⟨by first | (simp only [List.length_cons, List.length_nil]; omega) | omega | fail, by decide⟩ rfl (by first | (first | (simp only [lx, Nat.reduceAdd]; first | done | rfl) | fail) | rfl) aP ?_) | (refine zb2 _ _ aA rfl rfl (lookM (by rfl)) ⟨rfl, by decide⟩ aN (by first | exact Nat.succ_pos _ | omega | (simp; done)) ⟨by first | (simp only [List.length_cons, List.length_nil]; omega) | omega | fail, by decide⟩ rfl rfl aP ?_) | (refine zb4 _ aA rfl rfl (lookM (by rfl)) ⟨rfl, by decide⟩ aN ⟨by first | (simp only [List.length_cons, List.length_nil]; omega) | omega | fail, by decide⟩ rfl aP ?_) | (refine zb1 _ aA rfl rfl rfl ⟨rfl, rfl, rfl, by decide, by decide⟩ (by first | rfl | (simp; done) | fail) ⟨by omega, by decide⟩ rfl aL (by first | (rw [Nat.zero_add]) | rfl) ?_)) | (refine zax aA rfl rfl rfl ?_) | (refine zau (hK _ _ (.inl rfl) ?_); clear hK K) | (refine zau (hK _ _ (.inr (by kernel_rfl)) ?_); clear hK K))
      | (refine za0 ?_; first | (refine zbq ?_) | (refine zah (fun K hK => ?_)) | (refine zas ?_) | (refine zaz ?_) | (refine zbo ?_) | (refine za3 ?_) | (refine zbk ?_; first | (refine zal rfl aD ?_) | (refine zam rfl aD ?_) | (refine zay rfl (fun h => ?_) (fun h => ?_) <;> (have h' := h; (try simp only [sx] at h')))))
      | (refine za1 ?_) | (refine zak ?_) | (refine zai ?_) | (refine zat ?_) | (refine zap ?_) | (refine zaq ?_) | (refine zar rfl ?_) | (refine zaj ?_) | (refine zag ?_) | (refine zbp ?_))
      all_goals first
        | (exfalso; omega)
        | (refine zcb (i + 1, m, es) rfl aW ⟨by simp only; omega, by simp only [cellsL_f hp, hi2], hl⟩ (by simp only; omega))
  · have : i = T.length := by omega
    subst this
    repeat' (first
      | (refine za2 ?_; first | (refine za4 ?_; refine zav _ rfl ?_) | (refine zaf ?_; refine zaa _ rfl ?_) | (refine zbu ?_; first | (refine zb0 rfl rfl aO ?_) | (refine zbt _ rfl rfl rfl ?_) | (refine zaw _ rfl rfl rfl ?_)) | (refine zbj ?_; first | (refine zae aA rfl ?_) | (refine zab _ aA rfl rfl aE rfl ?_) | (refine zac _ aA rfl aZ aL ?_) | (refine zad _ aA rfl rfl aE aZ aL ?_)) | (refine zbh ?_; first | (refine zao _ aA rfl rfl aO aA ?_) | (refine zan _ aA rfl rfl rfl rfl aO aO (by first | (rw [Nat.zero_add, Int.toNat_natCast]) | (rw [Nat.zero_add]) | rfl) ?_)) | (refine za6 ?_; first | (refine zbb aA rfl ?_) | (refine za8 aA rfl rfl ?_) | (refine za9 aA rfl ?_) | (refine zba aA (evO_ok rfl) ?_) | (refine zb3 _ _ aA rfl (lookM (by rfl)) rfl (lookM (by rfl)) rfl aN ⟨rfl, rfl, by decide, by decide⟩ (by first | rfl | omega | (simp; done) | (simp; omega) | fail) ⟨by first | (simp only [List.length_cons, List.length_nil]; omega) | omega | fail, by decide⟩ rfl (by first | (first | (simp only [lx, Nat.reduceAdd]; first | done | rfl) | fail) | rfl) aP ?_) | (refine zb2 _ _ aA rfl rfl (lookM (by rfl)) ⟨rfl, by decide⟩ aN (by first | exact Nat.succ_pos _ | omega | (simp; done)) ⟨by first | (simp only [List.length_cons, List.length_nil]; omega) | omega | fail, by decide⟩ rfl rfl aP ?_) | (refine zb4 _ aA rfl rfl (lookM (by rfl)) ⟨rfl, by decide⟩ aN ⟨by first | (simp only [List.length_cons, List.length_nil]; omega) | omega | fail, by decide⟩ rfl aP ?_) | (refine zb1 _ aA rfl rfl rfl ⟨rfl, rfl, rfl, by decide, by decide⟩ (by first | rfl | (simp; done) | fail) ⟨by omega, by decide⟩ rfl aL (by first | (rw [Nat.zero_add]) | rfl) ?_)) | (refine zax aA rfl rfl rfl ?_) | (refine zau (hK _ _ (.inl rfl) ?_); clear hK K) | (refine zau (hK _ _ (.inr (by kernel_rfl)) ?_); clear hK K))
      | (refine za0 ?_; first | (refine zbq ?_) | (refine zah (fun K hK => ?_)) | (refine zas ?_) | (refine zaz ?_) | (refine zbo ?_) | (refine za3 ?_) | (refine zbk ?_; first | (refine zal rfl aD ?_) | (refine zam rfl aD ?_) | (refine zay rfl (fun h => ?_) (fun h => ?_) <;> (have h' := h; (try simp only [sx] at h')))))
      | (refine za1 ?_) | (refine zak ?_) | (refine zai ?_) | (refine zat ?_) | (refine zap ?_) | (refine zaq ?_) | (refine zar rfl ?_) | (refine zaj ?_) | (refine zag ?_) | (refine zbp ?_))
    all_goals first
      | (exfalso; omega)
      | exact zcq rfl (zbr (by rfl)) (by rfl) (by decide) hl.symm (by rw [hi2]; exact ints_flat _) hi2
@[reducible] def BuOk (b : Blz) (k : Int) : Prop := GoodB b ∧ 0 ≤ k ∧ k ≤ 9999
noncomputable def buL (b : Blz) (k : Int) : List Int := if BuOk b k then burL (arr b) k else []
theorem buL_len {b : Blz} {k : Int} : (buL b k).length ≤ b.t.burn.length := by
  unfold buL
  split
  · rename_i h; have := burL_len (arr b) k; rw [arr_len h.1] at this; exact this
  · simp
@[reducible] noncomputable def buRes (b : Blz) (k : Int) : PV := .tuple [.olist 3 1 (ints (buL b k)), .bool (decide (BuOk b k))]
theorem k_iBurnedBy (b : Blz) (z : SzB b) (k : Int) : Con Try.prog 27 [.agg b.t.pv, .list 2 (b.ps.map Phase.pv), .list 1 (ints b.src), .int .i64 b.st, .int .i64 k] (buRes b k) := by
  intro al
  refine za7 hmix Try.func27 rfl (by kernel_rfl) (by kernel_rfl) (Nat.le_of_ble_eq_true rfl) (fun row h => by cases h) ?_
  have hty_a26 := ty_a26
  have hty_u27 := ty_u27
  have hty_s27 := ty_s27
  have hty_u24 := ty_u24
  have hty_s24 := ty_s24
  have k1 := k_isFire b z
  have k2 := k_isTick k
  by_cases hb : GoodB b
  · rw [decide_eq_true hb] at k1
    by_cases hk : 0 ≤ k ∧ k ≤ 9999
    · have hok : BuOk b k := ⟨hb, hk⟩
      rw [buRes, buL, if_pos hok, decide_eq_true hok]
      repeat' (first
      | (refine za2 ?_; first | (refine za4 ?_; refine zav _ rfl ?_) | (refine zaf ?_; refine zaa _ rfl ?_) | (refine g_un ?_; first | (refine zca rfl ?_) | (refine zb9 rfl aO ?_)) | (refine zbj ?_; first | (refine zae aA rfl ?_) | (refine zab _ aA rfl rfl aE rfl ?_) | (refine zac _ aA rfl aZ aL ?_) | (refine zad _ aA rfl rfl aE aZ aL ?_)) | (refine zbw ?_; first | (refine zbc rfl aD rfl ?_) | (refine zbd rfl aD ?_) | (refine zbf rfl aD ?_) | (refine zbg rfl aD rfl ?_)) | (refine zbl ?_; first | (refine zbv rfl rfl aD ?_) | (refine zb5 rfl rfl aD ?_) | (refine zb6 rfl rfl ?_) | (refine zbe rfl rfl (fun h => ?_) (fun h => ?_) <;> (have h' := h; (try simp only [sx] at h')))) | (refine za6 ?_; first | (refine za5 true (k1) rfl rfl rfl aS rfl aH ?_; simp only [cl]) | (refine za5 true (k2) rfl rfl rfl aS rfl aH ?_; simp only [cl]) | (refine za5 true (k_burned b hb z.hs k) rfl rfl rfl aS rfl aH ?_; simp only [cl])) | (refine zbx _ _ rfl rfl rfl rfl ?_) | (refine zau (hK _ _ (.inl rfl) ?_); clear hK K) | (refine zau (hK _ _ (.inr (by kernel_rfl)) ?_); clear hK K))
      | (refine za0 ?_; first | (refine zbq ?_) | (refine zah (fun K hK => ?_)) | (refine zas ?_) | (refine zaz ?_) | (refine zbo ?_) | (refine za3 ?_) | (refine zbk ?_; first | (refine zal rfl aD ?_) | (refine zam rfl aD ?_) | (refine zay rfl (fun h => ?_) (fun h => ?_) <;> (have h' := h; (try simp only [sx] at h')))))
      | (refine za1 ?_) | (refine zak ?_) | (refine zai ?_) | (refine zat ?_) | (refine zap ?_) | (refine zaq ?_) | (refine zar rfl ?_) | (refine zaj ?_) | (refine zag ?_) | (refine zbp ?_))
      all_goals first
        | (exfalso; omega)
        | exact aR
    · have hok : ¬ BuOk b k := fun h => hk h.2
      rw [buRes, buL, if_neg hok, decide_eq_false hok]
      repeat' (first
      | (refine za2 ?_; first | (refine za4 ?_; refine zav _ rfl ?_) | (refine zaf ?_; refine zaa _ rfl ?_) | (refine g_un ?_; first | (refine zca rfl ?_) | (refine zb9 rfl aO ?_)) | (refine zbj ?_; first | (refine zae aA rfl ?_) | (refine zab _ aA rfl rfl aE rfl ?_) | (refine zac _ aA rfl aZ aL ?_) | (refine zad _ aA rfl rfl aE aZ aL ?_)) | (refine zbw ?_; first | (refine zbc rfl aD rfl ?_) | (refine zbd rfl aD ?_) | (refine zbf rfl aD ?_) | (refine zbg rfl aD rfl ?_)) | (refine zbl ?_; first | (refine zbv rfl rfl aD ?_) | (refine zb5 rfl rfl aD ?_) | (refine zb6 rfl rfl ?_) | (refine zbe rfl rfl (fun h => ?_) (fun h => ?_) <;> (have h' := h; (try simp only [sx] at h')))) | (refine za6 ?_; first | (refine za5 true (k1) rfl rfl rfl aS rfl aH ?_; simp only [cl]) | (refine za5 true (k2) rfl rfl rfl aS rfl aH ?_; simp only [cl])) | (refine zbx _ _ rfl rfl rfl rfl ?_) | (refine zau (hK _ _ (.inl rfl) ?_); clear hK K) | (refine zau (hK _ _ (.inr (by kernel_rfl)) ?_); clear hK K))
      | (refine za0 ?_; first | (refine zbq ?_) | (refine zah (fun K hK => ?_)) | (refine zas ?_) | (refine zaz ?_) | (refine zbo ?_) | (refine za3 ?_) | (refine zbk ?_; first | (refine zal rfl aD ?_) | (refine zam rfl aD ?_) | (refine zay rfl (fun h => ?_) (fun h => ?_) <;> (have h' := h; (try simp only [sx] at h')))))
      | (refine za1 ?_) | (refine zak ?_) | (refine zai ?_) | (refine zat ?_) | (refine zap ?_) | (refine zaq ?_) | (refine zar rfl ?_) | (refine zaj ?_) | (refine zag ?_) | (refine zbp ?_))
      all_goals first
        | (exfalso; omega)
        | exact aR
  · have hok : ¬ BuOk b k := fun h => hb h.1
    rw [decide_eq_false hb] at k1
    rw [buRes, buL, if_neg hok, decide_eq_false hok]
    repeat' (first
      | (refine za2 ?_; first | (refine za4 ?_; refine zav _ rfl ?_) | (refine zaf ?_; refine zaa _ rfl ?_) | (refine g_un ?_; first | (refine zca rfl ?_) | (refine zb9 rfl aO ?_)) | (refine zbj ?_; first | (refine zae aA rfl ?_) | (refine zab _ aA rfl rfl aE rfl ?_) | (refine zac _ aA rfl aZ aL ?_) | (refine zad _ aA rfl rfl aE aZ aL ?_)) | (refine zbw ?_; first | (refine zbc rfl aD rfl ?_) | (refine zbd rfl aD ?_) | (refine zbf rfl aD ?_) | (refine zbg rfl aD rfl ?_)) | (refine zbl ?_; first | (refine zbv rfl rfl aD ?_) | (refine zb5 rfl rfl aD ?_) | (refine zb6 rfl rfl ?_) | (refine zbe rfl rfl (fun h => ?_) (fun h => ?_) <;> (have h' := h; (try simp only [sx] at h')))) | (refine za6 ?_; first | (refine za5 true (k1) rfl rfl rfl aS rfl aH ?_; simp only [cl]) | (refine za5 true (k2) rfl rfl rfl aS rfl aH ?_; simp only [cl])) | (refine zbx _ _ rfl rfl rfl rfl ?_) | (refine zau (hK _ _ (.inl rfl) ?_); clear hK K) | (refine zau (hK _ _ (.inr (by kernel_rfl)) ?_); clear hK K))
      | (refine za0 ?_; first | (refine zbq ?_) | (refine zah (fun K hK => ?_)) | (refine zas ?_) | (refine zaz ?_) | (refine zbo ?_) | (refine za3 ?_) | (refine zbk ?_; first | (refine zal rfl aD ?_) | (refine zam rfl aD ?_) | (refine zay rfl (fun h => ?_) (fun h => ?_) <;> (have h' := h; (try simp only [sx] at h')))))
      | (refine za1 ?_) | (refine zak ?_) | (refine zai ?_) | (refine zat ?_) | (refine zap ?_) | (refine zaq ?_) | (refine zar rfl ?_) | (refine zaj ?_) | (refine zag ?_) | (refine zbp ?_))
    all_goals first
      | (exfalso; omega)
      | exact aR
theorem k_sBurnedBy (b : Blz) (z : SzB b) (k : Int) : Con Try.prog 28 [.agg b.t.pv, .list 2 (b.ps.map Phase.pv), .list 1 (ints b.src), .int .i64 b.st, .int .i64 k] (buRes b k) := by
  intro al
  refine za7 hmix Try.func28 rfl (by kernel_rfl) (by kernel_rfl) (Nat.le_of_ble_eq_true rfl) (fun row h => by cases h) ?_
  have hty_a26 := ty_a26
  have hty_u27 := ty_u27
  have hty_s27 := ty_s27
  have hty_u24 := ty_u24
  have hty_s24 := ty_s24
  have k1 := k_l4Asked b z
  have k2 := k_l4Tick k
  by_cases hb : GoodB b
  · rw [decide_eq_true hb] at k1
    have hl := arr_len hb
    have hlen := goodT_len hb.1.1
    by_cases hk : 0 ≤ k ∧ k ≤ 9999
    · have hok : BuOk b k := ⟨hb, hk⟩
      rw [buRes, buL, if_pos hok, decide_eq_true hok]
      repeat' (first
      | (refine za2 ?_; first | (refine za4 ?_; refine zav _ rfl ?_) | (refine zaf ?_; refine zaa _ rfl ?_) | (refine g_un ?_; first | (refine zca rfl ?_) | (refine zb9 rfl aO ?_)) | (refine zbj ?_; first | (refine zae aA rfl ?_) | (refine zab _ aA rfl rfl aE rfl ?_) | (refine zac _ aA rfl aZ aL ?_) | (refine zad _ aA rfl rfl aE aZ aL ?_)) | (refine zbw ?_; first | (refine zbc rfl aD rfl ?_) | (refine zbd rfl aD ?_) | (refine zbf rfl aD ?_) | (refine zbg rfl aD rfl ?_)) | (refine zbl ?_; first | (refine zbv rfl rfl aD ?_) | (refine zb5 rfl rfl aD ?_) | (refine zb6 rfl rfl ?_) | (refine zbe rfl rfl (fun h => ?_) (fun h => ?_) <;> (have h' := h; (try simp only [sx] at h')))) | (refine za6 ?_; first | (refine za5 true (k1) rfl rfl rfl aS rfl aH ?_; simp only [cl]) | (refine za5 true (k2) rfl rfl rfl aS rfl aH ?_; simp only [cl]) | (refine za5 true (k_l4Arrivals b hb z.hs) rfl rfl rfl aS rfl aH ?_; simp only [cl]) | (refine za5 true (k_l4Burned (arr b) k aO) rfl rfl rfl aS rfl aH ?_; simp only [cl])) | (refine zax aA rfl rfl rfl ?_) | (refine zbx _ _ rfl rfl rfl rfl ?_) | (refine zau (hK _ _ (.inl rfl) ?_); clear hK K) | (refine zau (hK _ _ (.inr (by kernel_rfl)) ?_); clear hK K))
      | (refine za0 ?_; first | (refine zbq ?_) | (refine zah (fun K hK => ?_)) | (refine zas ?_) | (refine zaz ?_) | (refine zbo ?_) | (refine za3 ?_) | (refine zbk ?_; first | (refine zal rfl aD ?_) | (refine zam rfl aD ?_) | (refine zay rfl (fun h => ?_) (fun h => ?_) <;> (have h' := h; (try simp only [sx] at h')))))
      | (refine za1 ?_) | (refine zak ?_) | (refine zai ?_) | (refine zat ?_) | (refine zap ?_) | (refine zaq ?_) | (refine zar rfl ?_) | (refine zaj ?_) | (refine zag ?_) | (refine zbp ?_))
      all_goals first
        | (exfalso; omega)
        | exact aR
    · have hok : ¬ BuOk b k := fun h => hk h.2
      rw [buRes, buL, if_neg hok, decide_eq_false hok]
      repeat' (first
      | (refine za2 ?_; first | (refine za4 ?_; refine zav _ rfl ?_) | (refine zaf ?_; refine zaa _ rfl ?_) | (refine g_un ?_; first | (refine zca rfl ?_) | (refine zb9 rfl aO ?_)) | (refine zbj ?_; first | (refine zae aA rfl ?_) | (refine zab _ aA rfl rfl aE rfl ?_) | (refine zac _ aA rfl aZ aL ?_) | (refine zad _ aA rfl rfl aE aZ aL ?_)) | (refine zbw ?_; first | (refine zbc rfl aD rfl ?_) | (refine zbd rfl aD ?_) | (refine zbf rfl aD ?_) | (refine zbg rfl aD rfl ?_)) | (refine zbl ?_; first | (refine zbv rfl rfl aD ?_) | (refine zb5 rfl rfl aD ?_) | (refine zb6 rfl rfl ?_) | (refine zbe rfl rfl (fun h => ?_) (fun h => ?_) <;> (have h' := h; (try simp only [sx] at h')))) | (refine za6 ?_; first | (refine za5 true (k1) rfl rfl rfl aS rfl aH ?_; simp only [cl]) | (refine za5 true (k2) rfl rfl rfl aS rfl aH ?_; simp only [cl])) | (refine zax aA rfl rfl rfl ?_) | (refine zbx _ _ rfl rfl rfl rfl ?_) | (refine zau (hK _ _ (.inl rfl) ?_); clear hK K) | (refine zau (hK _ _ (.inr (by kernel_rfl)) ?_); clear hK K))
      | (refine za0 ?_; first | (refine zbq ?_) | (refine zah (fun K hK => ?_)) | (refine zas ?_) | (refine zaz ?_) | (refine zbo ?_) | (refine za3 ?_) | (refine zbk ?_; first | (refine zal rfl aD ?_) | (refine zam rfl aD ?_) | (refine zay rfl (fun h => ?_) (fun h => ?_) <;> (have h' := h; (try simp only [sx] at h')))))
      | (refine za1 ?_) | (refine zak ?_) | (refine zai ?_) | (refine zat ?_) | (refine zap ?_) | (refine zaq ?_) | (refine zar rfl ?_) | (refine zaj ?_) | (refine zag ?_) | (refine zbp ?_))
      all_goals first
        | (exfalso; omega)
        | exact aR
  · have hok : ¬ BuOk b k := fun h => hb h.1
    rw [decide_eq_false hb] at k1
    rw [buRes, buL, if_neg hok, decide_eq_false hok]
    repeat' (first
      | (refine za2 ?_; first | (refine za4 ?_; refine zav _ rfl ?_) | (refine zaf ?_; refine zaa _ rfl ?_) | (refine g_un ?_; first | (refine zca rfl ?_) | (refine zb9 rfl aO ?_)) | (refine zbj ?_; first | (refine zae aA rfl ?_) | (refine zab _ aA rfl rfl aE rfl ?_) | (refine zac _ aA rfl aZ aL ?_) | (refine zad _ aA rfl rfl aE aZ aL ?_)) | (refine zbw ?_; first | (refine zbc rfl aD rfl ?_) | (refine zbd rfl aD ?_) | (refine zbf rfl aD ?_) | (refine zbg rfl aD rfl ?_)) | (refine zbl ?_; first | (refine zbv rfl rfl aD ?_) | (refine zb5 rfl rfl aD ?_) | (refine zb6 rfl rfl ?_) | (refine zbe rfl rfl (fun h => ?_) (fun h => ?_) <;> (have h' := h; (try simp only [sx] at h')))) | (refine za6 ?_; first | (refine za5 true (k1) rfl rfl rfl aS rfl aH ?_; simp only [cl]) | (refine za5 true (k2) rfl rfl rfl aS rfl aH ?_; simp only [cl])) | (refine zax aA rfl rfl rfl ?_) | (refine zbx _ _ rfl rfl rfl rfl ?_) | (refine zau (hK _ _ (.inl rfl) ?_); clear hK K) | (refine zau (hK _ _ (.inr (by kernel_rfl)) ?_); clear hK K))
      | (refine za0 ?_; first | (refine zbq ?_) | (refine zah (fun K hK => ?_)) | (refine zas ?_) | (refine zaz ?_) | (refine zbo ?_) | (refine za3 ?_) | (refine zbk ?_; first | (refine zal rfl aD ?_) | (refine zam rfl aD ?_) | (refine zay rfl (fun h => ?_) (fun h => ?_) <;> (have h' := h; (try simp only [sx] at h')))))
      | (refine za1 ?_) | (refine zak ?_) | (refine zai ?_) | (refine zat ?_) | (refine zap ?_) | (refine zaq ?_) | (refine zar rfl ?_) | (refine zaj ?_) | (refine zag ?_) | (refine zbp ?_))
    all_goals first
      | (exfalso; omega)
      | exact aR
theorem k_MaxInt (T : List Int) (h1 : 1 ≤ T.length) (hn : T.length ≤ 1000000) (hge : ∀ x ∈ T, -1 ≤ x) : Con Try.prog 89 [.list 1 (ints T)] (.int .i64 (mxL T)) := by
  intro al
  refine za7 hmix Try.func89 rfl (by kernel_rfl) (by kernel_rfl) (Nat.le_of_ble_eq_true rfl) (fun row h => by cases h) ?_
  have hty_u24 := ty_u24
  have hty_s24 := ty_s24
  have hty_c3 := ty_c3
  have hl1 : (ints T).length = T.length := by simp
  obtain ⟨a, ha⟩ := get_ex (show 0 < T.length by omega)
  have hx := ints_at ha
  have e1 : mxL (T.take 1) = a := by
    rw [mxL_succ ha]
    have := hge a (get_mem ha)
    simp only [List.take_zero, mxL, List.foldl_nil]
    omega
  repeat' (first
      | (refine za2 ?_; first | (refine za4 ?_; refine zav _ rfl ?_) | (refine zaf ?_; refine zaa _ rfl ?_) | (refine zbu ?_; first | (refine zb0 rfl rfl aO ?_) | (refine zbt _ rfl rfl rfl ?_) | (refine zaw _ rfl rfl rfl ?_)) | (refine zbj ?_; first | (refine zae aA rfl ?_) | (refine zab _ aA rfl rfl aE rfl ?_) | (refine zac _ aA rfl aZ aL ?_) | (refine zad _ aA rfl rfl aE aZ aL ?_)) | (refine zbh ?_; first | (refine zao _ aA rfl rfl aO aA ?_) | (refine zan _ aA rfl rfl rfl rfl aO aO (by first | (rw [Nat.zero_add, Int.toNat_natCast]) | (rw [Nat.zero_add]) | rfl) ?_)) | (refine za6 ?_; first | (refine zbb aA rfl ?_) | (refine za8 aA rfl rfl ?_) | (refine za9 aA rfl ?_) | (refine zba aA (evO_ok rfl) ?_) | (refine x_max rfl rfl ?_)) | (refine zau (hK _ _ (.inl rfl) ?_); clear hK K) | (refine zau (hK _ _ (.inr (by kernel_rfl)) ?_); clear hK K))
      | (refine za0 ?_; first | (refine zbq ?_) | (refine zah (fun K hK => ?_)) | (refine zas ?_) | (refine zaz ?_) | (refine zbo ?_) | (refine za3 ?_) | (refine zbk ?_; first | (refine zal rfl aD ?_) | (refine zam rfl aD ?_) | (refine zay rfl (fun h => ?_) (fun h => ?_) <;> (have h' := h; (try simp only [sx] at h')))))
      | (refine za1 ?_) | (refine zak ?_) | (refine zai ?_) | (refine zat ?_) | (refine zap ?_) | (refine zaq ?_) | (refine zar rfl ?_) | (refine zaj ?_) | (refine zag ?_) | (refine zbp ?_))
  all_goals try (exfalso; omega)
  refine zce [0] [] (fun q : Nat × Int => [(3, .int .i64 q.2), (4, .int .i64 q.1)]) (fun q : Nat × Int => []) (fun q : Nat × Int => (1 ≤ q.1 ∧ q.1 ≤ T.length) ∧ q.2 = mxL (T.take q.1)) (fun q : Nat × Int => T.length - q.1) ((1, a)) rfl rfl (fun _ => rfl) (fun _ => rfl) rfl aW ⟨by simp only; omega, e1.symm⟩ (fun q hq => ?_)
  obtain ⟨i, m⟩ := q
  obtain ⟨hi, hm⟩ := hq
  simp only at hi hm
  dsimp only
  rcases Nat.lt_or_ge i T.length with hlt | hge2
  · obtain ⟨c, hc⟩ := get_ex hlt
    have hy := ints_at hc
    have e2 := mxL_succ hc
    repeat' (first
      | (refine za2 ?_; first | (refine za4 ?_; refine zav _ rfl ?_) | (refine zaf ?_; refine zaa _ rfl ?_) | (refine zbu ?_; first | (refine zb0 rfl rfl aO ?_) | (refine zbt _ rfl rfl rfl ?_) | (refine zaw _ rfl rfl rfl ?_)) | (refine zbj ?_; first | (refine zae aA rfl ?_) | (refine zab _ aA rfl rfl aE rfl ?_) | (refine zac _ aA rfl aZ aL ?_) | (refine zad _ aA rfl rfl aE aZ aL ?_)) | (refine zbh ?_; first | (refine zao _ aA rfl rfl aO aA ?_) | (refine zan _ aA rfl rfl rfl rfl aO aO (by first | (rw [Nat.zero_add, Int.toNat_natCast]) | (rw [Nat.zero_add]) | rfl) ?_)) | (refine za6 ?_; first | (refine zbb aA rfl ?_) | (refine za8 aA rfl rfl ?_) | (refine za9 aA rfl ?_) | (refine zba aA (evO_ok rfl) ?_) | (refine x_max rfl rfl ?_)) | (refine zau (hK _ _ (.inl rfl) ?_); clear hK K) | (refine zau (hK _ _ (.inr (by kernel_rfl)) ?_); clear hK K))
      | (refine za0 ?_; first | (refine zbq ?_) | (refine zah (fun K hK => ?_)) | (refine zas ?_) | (refine zaz ?_) | (refine zbo ?_) | (refine za3 ?_) | (refine zbk ?_; first | (refine zal rfl aD ?_) | (refine zam rfl aD ?_) | (refine zay rfl (fun h => ?_) (fun h => ?_) <;> (have h' := h; (try simp only [sx] at h')))))
      | (refine za1 ?_) | (refine zak ?_) | (refine zai ?_) | (refine zat ?_) | (refine zap ?_) | (refine zaq ?_) | (refine zar rfl ?_) | (refine zaj ?_) | (refine zag ?_) | (refine zbp ?_))
    all_goals first
      | (exfalso; omega)
      | (refine zcb (i + 1, max m c) rfl aW ⟨by simp only; omega, by simp only [e2, hm]⟩ (by simp only; omega))
  · rw [take_all hge2] at hm
    repeat' (first
      | (refine za2 ?_; first | (refine za4 ?_; refine zav _ rfl ?_) | (refine zaf ?_; refine zaa _ rfl ?_) | (refine zbu ?_; first | (refine zb0 rfl rfl aO ?_) | (refine zbt _ rfl rfl rfl ?_) | (refine zaw _ rfl rfl rfl ?_)) | (refine zbj ?_; first | (refine zae aA rfl ?_) | (refine zab _ aA rfl rfl aE rfl ?_) | (refine zac _ aA rfl aZ aL ?_) | (refine zad _ aA rfl rfl aE aZ aL ?_)) | (refine zbh ?_; first | (refine zao _ aA rfl rfl aO aA ?_) | (refine zan _ aA rfl rfl rfl rfl aO aO (by first | (rw [Nat.zero_add, Int.toNat_natCast]) | (rw [Nat.zero_add]) | rfl) ?_)) | (refine za6 ?_; first | (refine zbb aA rfl ?_) | (refine za8 aA rfl rfl ?_) | (refine za9 aA rfl ?_) | (refine zba aA (evO_ok rfl) ?_) | (refine x_max rfl rfl ?_)) | (refine zau (hK _ _ (.inl rfl) ?_); clear hK K) | (refine zau (hK _ _ (.inr (by kernel_rfl)) ?_); clear hK K))
      | (refine za0 ?_; first | (refine zbq ?_) | (refine zah (fun K hK => ?_)) | (refine zas ?_) | (refine zaz ?_) | (refine zbo ?_) | (refine za3 ?_) | (refine zbk ?_; first | (refine zal rfl aD ?_) | (refine zam rfl aD ?_) | (refine zay rfl (fun h => ?_) (fun h => ?_) <;> (have h' := h; (try simp only [sx] at h')))))
      | (refine za1 ?_) | (refine zak ?_) | (refine zai ?_) | (refine zat ?_) | (refine zap ?_) | (refine zaq ?_) | (refine zar rfl ?_) | (refine zaj ?_) | (refine zag ?_) | (refine zbp ?_))
    all_goals first
      | (exfalso; omega)
      | exact zcj rfl (zbr rfl) hm
theorem arr_nn {b : Blz} (hb : GoodB b) : ∀ x ∈ arr b, -1 ≤ x := fun x hx => by
  obtain ⟨i, hi⟩ := List.getElem?_of_mem hx
  have h1 := get_lt hi
  rw [arr_len hb] at h1
  have h2 := tv_at (T := arr b) (c := (i : Int)) (by rw [Int.toNat_natCast, arr_len hb]; exact h1)
  rw [Int.toNat_natCast, hi] at h2
  injection h2 with h2
  by_cases h3 : tv (arr b) (i : Int) = -1
  · omega
  · have h4 := arr_start hb (c := (i : Int)) ⟨by omega, by omega⟩ h3
    have := hb.2.2
    omega
@[reducible] def LaOk (b : Blz) : Prop := GoodB b ∧ mxL (arr b) ≠ -1
open Classical in
noncomputable def laO (b : Blz) : Bool := decide (LaOk b)
noncomputable def laV (b : Blz) : Int := if laO b = true then mxL (arr b) else 0
theorem laO_t {b : Blz} (h : LaOk b) : laO b = true := by classical exact decide_eq_true h
theorem laO_f {b : Blz} (h : ¬ LaOk b) : laO b = false := by classical exact decide_eq_false h
theorem laO_of {b : Blz} (h : laO b = true) : LaOk b := by classical exact of_decide_eq_true h
@[reducible] noncomputable def laRes (b : Blz) : PV := .tuple [.int .i64 (laV b), .bool (laO b)]
theorem laRes_t {b : Blz} (h : LaOk b) : laRes b = .tuple [.int .i64 (mxL (arr b)), .bool true] := by unfold laRes laV; rw [laO_t h, if_pos rfl]
theorem laRes_f {b : Blz} (h : ¬ LaOk b) : laRes b = .tuple [.int .i64 0, .bool false] := by unfold laRes laV; rw [laO_f h, if_neg (by simp)]
theorem k_iLast (b : Blz) (z : SzB b) : Con Try.prog 31 [.agg b.t.pv, .list 2 (b.ps.map Phase.pv), .list 1 (ints b.src), .int .i64 b.st] (laRes b) := by
  intro al
  refine za7 hmix Try.func31 rfl (by kernel_rfl) (by kernel_rfl) (Nat.le_of_ble_eq_true rfl) (fun row h => by cases h) ?_
  have hty_a26 := ty_a26
  have hty_u27 := ty_u27
  have hty_s27 := ty_s27
  have hty_u24 := ty_u24
  have hty_s24 := ty_s24
  have k1 := k_isFire b z
  by_cases hb : GoodB b
  · rw [decide_eq_true hb] at k1
    have hl := arr_len hb
    have hlen := goodT_len hb.1.1
    have kM := k_MaxInt (arr b) aO aO (arr_nn hb)
    by_cases hm : mxL (arr b) = -1
    · rw [laRes_f (fun h => h.2 hm)]
      repeat' (first
      | (refine za2 ?_; first | (refine za4 ?_; refine zav _ rfl ?_) | (refine zaf ?_; refine zaa _ rfl ?_) | (refine zbu ?_; first | (refine zbt _ rfl rfl rfl ?_) | (refine zbi aA rfl rfl ?_) | (refine zaw _ rfl rfl rfl ?_)) | (refine g_un ?_; first | (refine zca rfl ?_) | (refine zb9 rfl aO ?_)) | (refine zbj ?_; first | (refine zae aA rfl ?_) | (refine zab _ aA rfl rfl aE rfl ?_) | (refine zac _ aA rfl aZ aL ?_) | (refine zad _ aA rfl rfl aE aZ aL ?_)) | (refine za6 ?_; first | (refine za5 true (k1) rfl rfl rfl aS rfl aH ?_; simp only [cl]) | (refine za5 true (k_arrivals b hb z.hs) rfl rfl rfl aS rfl aH ?_; simp only [cl]) | (refine za5 true (kM) rfl rfl rfl aS rfl aH ?_; simp only [cl])) | (refine zbx _ _ rfl rfl rfl rfl ?_) | (refine zau (hK _ _ (.inl rfl) ?_); clear hK K) | (refine zau (hK _ _ (.inr (by kernel_rfl)) ?_); clear hK K))
      | (refine za0 ?_; first | (refine zbq ?_) | (refine zah (fun K hK => ?_)) | (refine zas ?_) | (refine zaz ?_) | (refine zbo ?_) | (refine za3 ?_) | (refine zbk ?_; first | (refine zal rfl aD ?_) | (refine zam rfl aD ?_) | (refine zay rfl (fun h => ?_) (fun h => ?_) <;> (have h' := h; (try simp only [sx] at h')))))
      | (refine za1 ?_) | (refine zak ?_) | (refine zai ?_) | (refine zat ?_) | (refine zap ?_) | (refine zaq ?_) | (refine zar rfl ?_) | (refine zaj ?_) | (refine zag ?_) | (refine zbp ?_))
      all_goals first
        | (exfalso; omega)
        | exact aR
    · rw [laRes_t ⟨hb, hm⟩]
      repeat' (first
      | (refine za2 ?_; first | (refine za4 ?_; refine zav _ rfl ?_) | (refine zaf ?_; refine zaa _ rfl ?_) | (refine zbu ?_; first | (refine zbt _ rfl rfl rfl ?_) | (refine zbi aA rfl rfl ?_) | (refine zaw _ rfl rfl rfl ?_)) | (refine g_un ?_; first | (refine zca rfl ?_) | (refine zb9 rfl aO ?_)) | (refine zbj ?_; first | (refine zae aA rfl ?_) | (refine zab _ aA rfl rfl aE rfl ?_) | (refine zac _ aA rfl aZ aL ?_) | (refine zad _ aA rfl rfl aE aZ aL ?_)) | (refine za6 ?_; first | (refine za5 true (k1) rfl rfl rfl aS rfl aH ?_; simp only [cl]) | (refine za5 true (k_arrivals b hb z.hs) rfl rfl rfl aS rfl aH ?_; simp only [cl]) | (refine za5 true (kM) rfl rfl rfl aS rfl aH ?_; simp only [cl])) | (refine zbx _ _ rfl rfl rfl rfl ?_) | (refine zau (hK _ _ (.inl rfl) ?_); clear hK K) | (refine zau (hK _ _ (.inr (by kernel_rfl)) ?_); clear hK K))
      | (refine za0 ?_; first | (refine zbq ?_) | (refine zah (fun K hK => ?_)) | (refine zas ?_) | (refine zaz ?_) | (refine zbo ?_) | (refine za3 ?_) | (refine zbk ?_; first | (refine zal rfl aD ?_) | (refine zam rfl aD ?_) | (refine zay rfl (fun h => ?_) (fun h => ?_) <;> (have h' := h; (try simp only [sx] at h')))))
      | (refine za1 ?_) | (refine zak ?_) | (refine zai ?_) | (refine zat ?_) | (refine zap ?_) | (refine zaq ?_) | (refine zar rfl ?_) | (refine zaj ?_) | (refine zag ?_) | (refine zbp ?_))
      all_goals first
        | (exfalso; omega)
        | exact aR
  · rw [decide_eq_false hb] at k1
    rw [laRes_f (fun h => hb h.1)]
    repeat' (first
      | (refine za2 ?_; first | (refine za4 ?_; refine zav _ rfl ?_) | (refine zaf ?_; refine zaa _ rfl ?_) | (refine zbu ?_; first | (refine zbt _ rfl rfl rfl ?_) | (refine zbi aA rfl rfl ?_) | (refine zaw _ rfl rfl rfl ?_)) | (refine g_un ?_; first | (refine zca rfl ?_) | (refine zb9 rfl aO ?_)) | (refine zbj ?_; first | (refine zae aA rfl ?_) | (refine zab _ aA rfl rfl aE rfl ?_) | (refine zac _ aA rfl aZ aL ?_) | (refine zad _ aA rfl rfl aE aZ aL ?_)) | (refine za6 ?_; refine za5 true (k1) rfl rfl rfl aS rfl aH ?_; simp only [cl]) | (refine zbx _ _ rfl rfl rfl rfl ?_) | (refine zau (hK _ _ (.inl rfl) ?_); clear hK K) | (refine zau (hK _ _ (.inr (by kernel_rfl)) ?_); clear hK K))
      | (refine za0 ?_; first | (refine zbq ?_) | (refine zah (fun K hK => ?_)) | (refine zas ?_) | (refine zaz ?_) | (refine zbo ?_) | (refine za3 ?_) | (refine zbk ?_; first | (refine zal rfl aD ?_) | (refine zam rfl aD ?_) | (refine zay rfl (fun h => ?_) (fun h => ?_) <;> (have h' := h; (try simp only [sx] at h')))))
      | (refine za1 ?_) | (refine zak ?_) | (refine zai ?_) | (refine zat ?_) | (refine zap ?_) | (refine zaq ?_) | (refine zar rfl ?_) | (refine zaj ?_) | (refine zag ?_) | (refine zbp ?_))
    all_goals first
      | (exfalso; omega)
      | exact aR
theorem k_sLast (b : Blz) (z : SzB b) : Con Try.prog 32 [.agg b.t.pv, .list 2 (b.ps.map Phase.pv), .list 1 (ints b.src), .int .i64 b.st] (laRes b) := by
  intro al
  refine za7 hmix Try.func32 rfl (by kernel_rfl) (by kernel_rfl) (Nat.le_of_ble_eq_true rfl) (fun row h => by cases h) ?_
  have hty_a26 := ty_a26
  have hty_u27 := ty_u27
  have hty_s27 := ty_s27
  have hty_u24 := ty_u24
  have hty_s24 := ty_s24
  have hty_c3 := ty_c3
  have k1 := k_l4Asked b z
  by_cases hb : GoodB b
  · rw [decide_eq_true hb] at k1
    have hl := arr_len hb
    have hlen := goodT_len hb.1.1
    have kA := (Con.a (k_l4Arrivals b hb z.hs)).frz rfl
    simp only [frz] at kA
    have hl1 : (ints (arr b)).length = (arr b).length := by simp
    repeat' (first
      | (refine za2 ?_; first | (refine za4 ?_; refine zav _ rfl ?_) | (refine zaf ?_; refine zaa _ rfl ?_) | (refine zbu ?_; first | (refine zb0 rfl rfl aO ?_) | (refine zbt _ rfl rfl rfl ?_) | (refine zbi aA rfl rfl ?_) | (refine zaw _ rfl rfl rfl ?_)) | (refine g_un ?_; first | (refine zca rfl ?_) | (refine zb9 rfl aO ?_)) | (refine zbj ?_; first | (refine zae aA rfl ?_) | (refine zab _ aA rfl rfl aE rfl ?_) | (refine zac _ aA rfl aZ aL ?_) | (refine zad _ aA rfl rfl aE aZ aL ?_)) | (refine zbh ?_; first | (refine zao _ aA rfl rfl aO aA ?_) | (refine zan _ aA rfl rfl rfl rfl aO aO (by first | (rw [Nat.zero_add, Int.toNat_natCast]) | (rw [Nat.zero_add]) | rfl) ?_)) | (refine za6 ?_; first | (refine za5 true (k1) rfl rfl rfl aS rfl aH ?_; simp only [cl]) | (refine zcp true (kA) rfl rfl rfl rfl rfl aS rfl aH ?_; simp only [cl]) | (refine zbb aA rfl ?_) | (refine za8 aA rfl rfl ?_) | (refine za9 aA rfl ?_) | (refine zba aA (evO_ok rfl) ?_)) | (refine zbx _ _ rfl rfl rfl rfl ?_) | (refine zau (hK _ _ (.inl rfl) ?_); clear hK K) | (refine zau (hK _ _ (.inr (by kernel_rfl)) ?_); clear hK K))
      | (refine za0 ?_; first | (refine zbq ?_) | (refine zah (fun K hK => ?_)) | (refine zas ?_) | (refine zaz ?_) | (refine zbo ?_) | (refine za3 ?_) | (refine zbk ?_; first | (refine zal rfl aD ?_) | (refine zam rfl aD ?_) | (refine zay rfl (fun h => ?_) (fun h => ?_) <;> (have h' := h; (try simp only [sx] at h')))))
      | (refine za1 ?_) | (refine zak ?_) | (refine zai ?_) | (refine zat ?_) | (refine zap ?_) | (refine zaq ?_) | (refine zar rfl ?_) | (refine zaj ?_) | (refine zag ?_) | (refine zbp ?_))
    all_goals try (exfalso; omega)
    refine zce [11] [] (fun q : Nat × Int => [(10, .int .i64 q.2), (12, .int .i64 q.1)]) (fun q : Nat × Int => []) (fun q : Nat × Int => q.1 ≤ (arr b).length ∧ q.2 = mxL ((arr b).take q.1)) (fun q : Nat × Int => (arr b).length - q.1) ((0, -1)) rfl rfl (fun _ => rfl) (fun _ => rfl) rfl aW ⟨by simp, rfl⟩ (fun q hq => ?_)
    obtain ⟨i, m⟩ := q
    obtain ⟨hi, hm⟩ := hq
    simp only at hi hm
    dsimp only
    rcases Nat.lt_or_ge i (arr b).length with hlt | hge2
    · obtain ⟨c, hc⟩ := get_ex hlt
      have hy := ints_at hc
      have e2 := mxL_succ hc
      repeat' (first
      | (refine za2 ?_; first | (refine za4 ?_; refine zav _ rfl ?_) | (refine zaf ?_; refine zaa _ rfl ?_) | (refine zbu ?_; first | (refine zb0 rfl rfl aO ?_) | (refine zbt _ rfl rfl rfl ?_) | (refine zbi aA rfl rfl ?_) | (refine zaw _ rfl rfl rfl ?_)) | (refine g_un ?_; first | (refine zca rfl ?_) | (refine zb9 rfl aO ?_)) | (refine zbj ?_; first | (refine zae aA rfl ?_) | (refine zab _ aA rfl rfl aE rfl ?_) | (refine zac _ aA rfl aZ aL ?_) | (refine zad _ aA rfl rfl aE aZ aL ?_)) | (refine zbh ?_; first | (refine zao _ aA rfl rfl aO aA ?_) | (refine zan _ aA rfl rfl rfl rfl aO aO (by first | (rw [Nat.zero_add, Int.toNat_natCast]) | (rw [Nat.zero_add]) | rfl) ?_)) | (refine za6 ?_; first | (refine za5 true (k_l1Most _ _) rfl rfl rfl aS rfl aH ?_; simp only [cl]) | (refine zbb aA rfl ?_) | (refine za8 aA rfl rfl ?_) | (refine za9 aA rfl ?_) | (refine zba aA (evO_ok rfl) ?_)) | (refine zbx _ _ rfl rfl rfl rfl ?_) | (refine zau (hK _ _ (.inl rfl) ?_); clear hK K) | (refine zau (hK _ _ (.inr (by kernel_rfl)) ?_); clear hK K))
      | (refine za0 ?_; first | (refine zbq ?_) | (refine zah (fun K hK => ?_)) | (refine zas ?_) | (refine zaz ?_) | (refine zbo ?_) | (refine za3 ?_) | (refine zbk ?_; first | (refine zal rfl aD ?_) | (refine zam rfl aD ?_) | (refine zay rfl (fun h => ?_) (fun h => ?_) <;> (have h' := h; (try simp only [sx] at h')))))
      | (refine za1 ?_) | (refine zak ?_) | (refine zai ?_) | (refine zat ?_) | (refine zap ?_) | (refine zaq ?_) | (refine zar rfl ?_) | (refine zaj ?_) | (refine zag ?_) | (refine zbp ?_))
      all_goals first
        | (exfalso; omega)
        | (refine zcb (i + 1, max m c) rfl aW ⟨by simp only; omega, by simp only [e2, hm]⟩ (by simp only; omega))
    · rw [take_all hge2] at hm
      by_cases hx : mxL (arr b) = -1
      · rw [laRes_f (fun h => h.2 hx)]
        repeat' (first
      | (refine za2 ?_; first | (refine za4 ?_; refine zav _ rfl ?_) | (refine zaf ?_; refine zaa _ rfl ?_) | (refine zbu ?_; first | (refine zb0 rfl rfl aO ?_) | (refine zbt _ rfl rfl rfl ?_) | (refine zbi aA rfl rfl ?_) | (refine zaw _ rfl rfl rfl ?_)) | (refine g_un ?_; first | (refine zca rfl ?_) | (refine zb9 rfl aO ?_)) | (refine zbj ?_; first | (refine zae aA rfl ?_) | (refine zab _ aA rfl rfl aE rfl ?_) | (refine zac _ aA rfl aZ aL ?_) | (refine zad _ aA rfl rfl aE aZ aL ?_)) | (refine zbh ?_; first | (refine zao _ aA rfl rfl aO aA ?_) | (refine zan _ aA rfl rfl rfl rfl aO aO (by first | (rw [Nat.zero_add, Int.toNat_natCast]) | (rw [Nat.zero_add]) | rfl) ?_)) | (refine za6 ?_; first | (refine zbb aA rfl ?_) | (refine za8 aA rfl rfl ?_) | (refine za9 aA rfl ?_) | (refine zba aA (evO_ok rfl) ?_)) | (refine zbx _ _ rfl rfl rfl rfl ?_) | (refine zau (hK _ _ (.inl rfl) ?_); clear hK K) | (refine zau (hK _ _ (.inr (by kernel_rfl)) ?_); clear hK K))
      | (refine za0 ?_; first | (refine zbq ?_) | (refine zah (fun K hK => ?_)) | (refine zas ?_) | (refine zaz ?_) | (refine zbo ?_) | (refine za3 ?_) | (refine zbk ?_; first | (refine zal rfl aD ?_) | (refine zam rfl aD ?_) | (refine zay rfl (fun h => ?_) (fun h => ?_) <;> (have h' := h; (try simp only [sx] at h')))))
      | (refine za1 ?_) | (refine zak ?_) | (refine zai ?_) | (refine zat ?_) | (refine zap ?_) | (refine zaq ?_) | (refine zar rfl ?_) | (refine zaj ?_) | (refine zag ?_) | (refine zbp ?_))
        all_goals first
          | (exfalso; omega)
          | exact aR
      · rw [laRes_t ⟨hb, hx⟩]
        repeat' (first
      | (refine za2 ?_; first | (refine za4 ?_; refine zav _ rfl ?_) | (refine zaf ?_; refine zaa _ rfl ?_) | (refine zbu ?_; first | (refine zb0 rfl rfl aO ?_) | (refine zbt _ rfl rfl rfl ?_) | (refine zbi aA rfl rfl ?_) | (refine zaw _ rfl rfl rfl ?_)) | (refine g_un ?_; first | (refine zca rfl ?_) | (refine zb9 rfl aO ?_)) | (refine zbj ?_; first | (refine zae aA rfl ?_) | (refine zab _ aA rfl rfl aE rfl ?_) | (refine zac _ aA rfl aZ aL ?_) | (refine zad _ aA rfl rfl aE aZ aL ?_)) | (refine zbh ?_; first | (refine zao _ aA rfl rfl aO aA ?_) | (refine zan _ aA rfl rfl rfl rfl aO aO (by first | (rw [Nat.zero_add, Int.toNat_natCast]) | (rw [Nat.zero_add]) | rfl) ?_)) | (refine za6 ?_; first | (refine zbb aA rfl ?_) | (refine za8 aA rfl rfl ?_) | (refine za9 aA rfl ?_) | (refine zba aA (evO_ok rfl) ?_)) | (refine zbx _ _ rfl rfl rfl rfl ?_) | (refine zau (hK _ _ (.inl rfl) ?_); clear hK K) | (refine zau (hK _ _ (.inr (by kernel_rfl)) ?_); clear hK K))
      | (refine za0 ?_; first | (refine zbq ?_) | (refine zah (fun K hK => ?_)) | (refine zas ?_) | (refine zaz ?_) | (refine zbo ?_) | (refine za3 ?_) | (refine zbk ?_; first | (refine zal rfl aD ?_) | (refine zam rfl aD ?_) | (refine zay rfl (fun h => ?_) (fun h => ?_) <;> (have h' := h; (try simp only [sx] at h')))))
      | (refine za1 ?_) | (refine zak ?_) | (refine zai ?_) | (refine zat ?_) | (refine zap ?_) | (refine zaq ?_) | (refine zar rfl ?_) | (refine zaj ?_) | (refine zag ?_) | (refine zbp ?_))
        all_goals first
          | (exfalso; omega)
          | exact aR
  · rw [decide_eq_false hb] at k1
    rw [laRes_f (fun h => hb h.1)]
    repeat' (first
      | (refine za2 ?_; first | (refine za4 ?_; refine zav _ rfl ?_) | (refine zaf ?_; refine zaa _ rfl ?_) | (refine zbu ?_; first | (refine zb0 rfl rfl aO ?_) | (refine zbt _ rfl rfl rfl ?_) | (refine zbi aA rfl rfl ?_) | (refine zaw _ rfl rfl rfl ?_)) | (refine g_un ?_; first | (refine zca rfl ?_) | (refine zb9 rfl aO ?_)) | (refine zbj ?_; first | (refine zae aA rfl ?_) | (refine zab _ aA rfl rfl aE rfl ?_) | (refine zac _ aA rfl aZ aL ?_) | (refine zad _ aA rfl rfl aE aZ aL ?_)) | (refine zbh ?_; first | (refine zao _ aA rfl rfl aO aA ?_) | (refine zan _ aA rfl rfl rfl rfl aO aO (by first | (rw [Nat.zero_add, Int.toNat_natCast]) | (rw [Nat.zero_add]) | rfl) ?_)) | (refine za6 ?_; first | (refine za5 true (k1) rfl rfl rfl aS rfl aH ?_; simp only [cl]) | (refine zbb aA rfl ?_) | (refine za8 aA rfl rfl ?_) | (refine za9 aA rfl ?_) | (refine zba aA (evO_ok rfl) ?_)) | (refine zbx _ _ rfl rfl rfl rfl ?_) | (refine zau (hK _ _ (.inl rfl) ?_); clear hK K) | (refine zau (hK _ _ (.inr (by kernel_rfl)) ?_); clear hK K))
      | (refine za0 ?_; first | (refine zbq ?_) | (refine zah (fun K hK => ?_)) | (refine zas ?_) | (refine zaz ?_) | (refine zbo ?_) | (refine za3 ?_) | (refine zbk ?_; first | (refine zal rfl aD ?_) | (refine zam rfl aD ?_) | (refine zay rfl (fun h => ?_) (fun h => ?_) <;> (have h' := h; (try simp only [sx] at h')))))
      | (refine za1 ?_) | (refine zak ?_) | (refine zai ?_) | (refine zat ?_) | (refine zap ?_) | (refine zaq ?_) | (refine zar rfl ?_) | (refine zaj ?_) | (refine zag ?_) | (refine zbp ?_))
    all_goals first
      | (exfalso; omega)
      | exact aR
@[reducible] def MiOk (b : Blz) (cs : List Int) : Prop := GoodB b ∧ ((∀ c ∈ cs, IsCell b.t c) ∧ Rising cs) ∧ mnL (arr b) cs ≠ -1
open Classical in
noncomputable def miO (b : Blz) (cs : List Int) : Bool := decide (MiOk b cs)
noncomputable def miV (b : Blz) (cs : List Int) : Int := if miO b cs = true then mnL (arr b) cs - b.st else 0
theorem miO_t {b : Blz} {cs : List Int} (h : MiOk b cs) : miO b cs = true := by classical exact decide_eq_true h
theorem miO_f {b : Blz} {cs : List Int} (h : ¬ MiOk b cs) : miO b cs = false := by classical exact decide_eq_false h
@[reducible] noncomputable def miRes (b : Blz) (cs : List Int) : PV := .tuple [.int .i64 (miV b cs), .bool (miO b cs)]
theorem miRes_t {b : Blz} {cs : List Int} (h : MiOk b cs) : miRes b cs = .tuple [.int .i64 (mnL (arr b) cs - b.st), .bool true] := by unfold miRes miV; rw [miO_t h, if_pos rfl]
theorem miRes_f {b : Blz} {cs : List Int} (h : ¬ MiOk b cs) : miRes b cs = .tuple [.int .i64 0, .bool false] := by unfold miRes miV; rw [miO_f h, if_neg (by simp)]
theorem miV_nn (b : Blz) (cs : List Int) : 0 ≤ miV b cs := by
  unfold miV
  split
  · rename_i h
    have h : MiOk b cs := by classical exact of_decide_eq_true h
    have := mn_some h.1 h.2.1.1 h.2.2
    omega
  · omega
theorem mn_take {b : Blz} (hb : GoodB b) {cs : List Int} (hc : ∀ c ∈ cs, IsCell b.t c) (i : Nat) : mnL (arr b) (cs.take i) = -1 ∨ (b.st ≤ mnL (arr b) (cs.take i) ∧ mnL (arr b) (cs.take i) ≤ 4000) := by
  by_cases h : mnL (arr b) (cs.take i) = -1
  · exact .inl h
  · exact .inr (mn_some hb (fun c h => hc c (List.mem_of_mem_take h)) h)
theorem k_iMinutes (b : Blz) (cs : List Int) (z : SzB b) (hn : cs.length ≤ 1000000) : Con Try.prog 34 [.agg b.t.pv, .list 2 (b.ps.map Phase.pv), .list 1 (ints b.src), .int .i64 b.st, .list 1 (ints cs)] (miRes b cs) := by
  intro al
  refine za7 hmix Try.func34 rfl (by kernel_rfl) (by kernel_rfl) (Nat.le_of_ble_eq_true rfl) (fun row h => by cases h) ?_
  have hty_a26 := ty_a26
  have hty_u27 := ty_u27
  have hty_s27 := ty_s27
  have hty_u24 := ty_u24
  have hty_s24 := ty_s24
  have hty_c3 := ty_c3
  have k1 := k_isFire b z
  have k2 := k_isSet b.t cs z.hn aO
  have hl2 : (ints cs).length = cs.length := by simp
  by_cases hb : GoodB b
  · rw [decide_eq_true hb] at k1
    have hl := arr_len hb
    have hlen := goodT_len hb.1.1
    have kA := (Con.a (k_arrivals b hb z.hs)).frz rfl
    simp only [frz] at kA
    have hl1 : (ints (arr b)).length = (arr b).length := by simp
    by_cases hs : (∀ c ∈ cs, IsCell b.t c) ∧ Rising cs
    · rw [decide_eq_true hs] at k2
      have hbs := hb.2.2
      repeat' (first
      | (refine za2 ?_; first | (refine za4 ?_; refine zav _ rfl ?_) | (refine zaf ?_; refine zaa _ rfl ?_) | (refine zbu ?_; first | (refine zb0 rfl rfl aO ?_) | (refine zcg rfl rfl aO ?_) | (refine zbt _ rfl rfl rfl ?_) | (refine zbi aA rfl rfl ?_) | (refine zby aA rfl rfl ?_) | (refine zaw _ rfl rfl rfl ?_)) | (refine g_un ?_; first | (refine zca rfl ?_) | (refine zb9 rfl aO ?_)) | (refine zbj ?_; first | (refine zae aA rfl ?_) | (refine zab _ aA rfl rfl aE rfl ?_) | (refine zac _ aA rfl aZ aL ?_) | (refine zad _ aA rfl rfl aE aZ aL ?_)) | (refine zbh ?_; first | (refine zao _ aA rfl rfl aO aA ?_) | (refine zan _ aA rfl rfl rfl rfl aO aO (by first | (rw [Nat.zero_add, Int.toNat_natCast]) | (rw [Nat.zero_add]) | rfl) ?_)) | (refine zbw ?_; first | (refine zbc rfl aD rfl ?_) | (refine zbd rfl aD ?_) | (refine zbf rfl aD ?_) | (refine zbg rfl aD rfl ?_)) | (refine zbl ?_; first | (refine zbv rfl rfl aD ?_) | (refine zb5 rfl rfl aD ?_) | (refine zb6 rfl rfl ?_) | (refine zbe rfl rfl (fun h => ?_) (fun h => ?_) <;> (have h' := h; (try simp only [sx] at h')))) | (refine za6 ?_; first | (refine za5 true (k1) rfl rfl rfl aS rfl aH ?_; simp only [cl]) | (refine za5 true (k2) rfl rfl rfl aS rfl aH ?_; simp only [cl]) | (refine zcp true (kA) rfl rfl rfl rfl rfl aS rfl aH ?_; simp only [cl]) | (refine zbb aA rfl ?_) | (refine za8 aA rfl rfl ?_) | (refine za9 aA rfl ?_) | (refine zba aA (evO_ok rfl) ?_)) | (refine zbx _ _ rfl rfl rfl rfl ?_) | (refine zau (hK _ _ (.inl rfl) ?_); clear hK K) | (refine zau (hK _ _ (.inr (by kernel_rfl)) ?_); clear hK K))
      | (refine za0 ?_; first | (refine zbq ?_) | (refine zah (fun K hK => ?_)) | (refine zas ?_) | (refine zaz ?_) | (refine zbo ?_) | (refine za3 ?_) | (refine zbk ?_; first | (refine zal rfl aD ?_) | (refine zam rfl aD ?_) | (refine zay rfl (fun h => ?_) (fun h => ?_) <;> (have h' := h; (try simp only [sx] at h')))))
      | (refine za1 ?_) | (refine zak ?_) | (refine zai ?_) | (refine zat ?_) | (refine zap ?_) | (refine zaq ?_) | (refine zar rfl ?_) | (refine zaj ?_) | (refine zag ?_) | (refine zbp ?_))
      all_goals try (exfalso; omega)
      refine zce [3, 13, 34, 35] [] (fun q : Nat × Int => [(12, .int .i64 q.2), (36, .int .i64 q.1)]) (fun q : Nat × Int => []) (fun q : Nat × Int => q.1 ≤ cs.length ∧ q.2 = mnL (arr b) (cs.take q.1)) (fun q : Nat × Int => cs.length - q.1) ((0, -1)) rfl rfl (fun _ => rfl) (fun _ => rfl) rfl aW ⟨by simp, rfl⟩ (fun q hq => ?_)
      obtain ⟨i, m⟩ := q
      obtain ⟨hi, hm⟩ := hq
      simp only at hi hm
      dsimp only
      rcases Nat.lt_or_ge i cs.length with hlt | hge2
      · obtain ⟨c, hc⟩ := get_ex hlt
        have hy := ints_at hc
        have hcc := hs.1 c (get_mem hc)
        have hcc' := hcc
        unfold IsCell at hcc'
        have hx := tv_int (T := arr b) (c := c) aO
        have e2 := mnL_succ (T := arr b) hc
        rw [← hm] at e2
        have hmt := mn_take hb hs.1 i
        rw [← hm] at hmt
        unfold mn2 at e2
        generalize tv (arr b) c = v at *
        by_cases hgo : v ≠ -1 ∧ (m = -1 ∨ v < m)
        · rw [if_pos hgo] at e2
          repeat' (first
      | (refine za2 ?_; first | (refine za4 ?_; refine zav _ rfl ?_) | (refine zaf ?_; refine zaa _ rfl ?_) | (refine zbu ?_; first | (refine zb0 rfl rfl aO ?_) | (refine zcg rfl rfl aO ?_) | (refine zbt _ rfl rfl rfl ?_) | (refine zbi aA rfl rfl ?_) | (refine zby aA rfl rfl ?_) | (refine zaw _ rfl rfl rfl ?_)) | (refine g_un ?_; first | (refine zca rfl ?_) | (refine zb9 rfl aO ?_)) | (refine zbj ?_; first | (refine zae aA rfl ?_) | (refine zab _ aA rfl rfl aE rfl ?_) | (refine zac _ aA rfl aZ aL ?_) | (refine zad _ aA rfl rfl aE aZ aL ?_)) | (refine zbh ?_; first | (refine zao _ aA rfl rfl aO aA ?_) | (refine zan _ aA rfl rfl rfl rfl aO aO (by first | (rw [Nat.zero_add, Int.toNat_natCast]) | (rw [Nat.zero_add]) | rfl) ?_)) | (refine zbw ?_; first | (refine zbc rfl aD rfl ?_) | (refine zbd rfl aD ?_) | (refine zbf rfl aD ?_) | (refine zbg rfl aD rfl ?_)) | (refine zbl ?_; first | (refine zbv rfl rfl aD ?_) | (refine zb5 rfl rfl aD ?_) | (refine zb6 rfl rfl ?_) | (refine zbe rfl rfl (fun h => ?_) (fun h => ?_) <;> (have h' := h; (try simp only [sx] at h')))) | (refine za6 ?_; first | (refine zbb aA rfl ?_) | (refine za8 aA rfl rfl ?_) | (refine za9 aA rfl ?_) | (refine zba aA (evO_ok rfl) ?_)) | (refine zbx _ _ rfl rfl rfl rfl ?_) | (refine zau (hK _ _ (.inl rfl) ?_); clear hK K) | (refine zau (hK _ _ (.inr (by kernel_rfl)) ?_); clear hK K))
      | (refine za0 ?_; first | (refine zbq ?_) | (refine zah (fun K hK => ?_)) | (refine zas ?_) | (refine zaz ?_) | (refine zbo ?_) | (refine za3 ?_) | (refine zbk ?_; first | (refine zal rfl aD ?_) | (refine zam rfl aD ?_) | (refine zay rfl (fun h => ?_) (fun h => ?_) <;> (have h' := h; (try simp only [sx] at h')))))
      | (refine za1 ?_) | (refine zak ?_) | (refine zai ?_) | (refine zat ?_) | (refine zap ?_) | (refine zaq ?_) | (refine zar rfl ?_) | (refine zaj ?_) | (refine zag ?_) | (refine zbp ?_))
          all_goals first
            | (exfalso; omega)
            | (refine zcb (i + 1, v) rfl aW ⟨by simp only; omega, e2.symm⟩ (by simp only; omega))
        · rw [if_neg hgo] at e2
          repeat' (first
      | (refine za2 ?_; first | (refine za4 ?_; refine zav _ rfl ?_) | (refine zaf ?_; refine zaa _ rfl ?_) | (refine zbu ?_; first | (refine zb0 rfl rfl aO ?_) | (refine zcg rfl rfl aO ?_) | (refine zbt _ rfl rfl rfl ?_) | (refine zbi aA rfl rfl ?_) | (refine zby aA rfl rfl ?_) | (refine zaw _ rfl rfl rfl ?_)) | (refine g_un ?_; first | (refine zca rfl ?_) | (refine zb9 rfl aO ?_)) | (refine zbj ?_; first | (refine zae aA rfl ?_) | (refine zab _ aA rfl rfl aE rfl ?_) | (refine zac _ aA rfl aZ aL ?_) | (refine zad _ aA rfl rfl aE aZ aL ?_)) | (refine zbh ?_; first | (refine zao _ aA rfl rfl aO aA ?_) | (refine zan _ aA rfl rfl rfl rfl aO aO (by first | (rw [Nat.zero_add, Int.toNat_natCast]) | (rw [Nat.zero_add]) | rfl) ?_)) | (refine zbw ?_; first | (refine zbc rfl aD rfl ?_) | (refine zbd rfl aD ?_) | (refine zbf rfl aD ?_) | (refine zbg rfl aD rfl ?_)) | (refine zbl ?_; first | (refine zbv rfl rfl aD ?_) | (refine zb5 rfl rfl aD ?_) | (refine zb6 rfl rfl ?_) | (refine zbe rfl rfl (fun h => ?_) (fun h => ?_) <;> (have h' := h; (try simp only [sx] at h')))) | (refine za6 ?_; first | (refine zbb aA rfl ?_) | (refine za8 aA rfl rfl ?_) | (refine za9 aA rfl ?_) | (refine zba aA (evO_ok rfl) ?_)) | (refine zbx _ _ rfl rfl rfl rfl ?_) | (refine zau (hK _ _ (.inl rfl) ?_); clear hK K) | (refine zau (hK _ _ (.inr (by kernel_rfl)) ?_); clear hK K))
      | (refine za0 ?_; first | (refine zbq ?_) | (refine zah (fun K hK => ?_)) | (refine zas ?_) | (refine zaz ?_) | (refine zbo ?_) | (refine za3 ?_) | (refine zbk ?_; first | (refine zal rfl aD ?_) | (refine zam rfl aD ?_) | (refine zay rfl (fun h => ?_) (fun h => ?_) <;> (have h' := h; (try simp only [sx] at h')))))
      | (refine za1 ?_) | (refine zak ?_) | (refine zai ?_) | (refine zat ?_) | (refine zap ?_) | (refine zaq ?_) | (refine zar rfl ?_) | (refine zaj ?_) | (refine zag ?_) | (refine zbp ?_))
          all_goals first
            | (exfalso; omega)
            | (refine zcb (i + 1, m) rfl aW ⟨by simp only; omega, e2.symm⟩ (by simp only; omega))
      · rw [take_all hge2] at hm
        have hmt := mn_take hb hs.1 cs.length
        rw [List.take_length, ← hm] at hmt
        by_cases hx : mnL (arr b) cs = -1
        · rw [miRes_f (fun h => h.2.2 hx)]
          repeat' (first
      | (refine za2 ?_; first | (refine za4 ?_; refine zav _ rfl ?_) | (refine zaf ?_; refine zaa _ rfl ?_) | (refine zbu ?_; first | (refine zb0 rfl rfl aO ?_) | (refine zcg rfl rfl aO ?_) | (refine zbt _ rfl rfl rfl ?_) | (refine zbi aA rfl rfl ?_) | (refine zby aA rfl rfl ?_) | (refine zaw _ rfl rfl rfl ?_)) | (refine g_un ?_; first | (refine zca rfl ?_) | (refine zb9 rfl aO ?_)) | (refine zbj ?_; first | (refine zae aA rfl ?_) | (refine zab _ aA rfl rfl aE rfl ?_) | (refine zac _ aA rfl aZ aL ?_) | (refine zad _ aA rfl rfl aE aZ aL ?_)) | (refine zbh ?_; first | (refine zao _ aA rfl rfl aO aA ?_) | (refine zan _ aA rfl rfl rfl rfl aO aO (by first | (rw [Nat.zero_add, Int.toNat_natCast]) | (rw [Nat.zero_add]) | rfl) ?_)) | (refine zbw ?_; first | (refine zbc rfl aD rfl ?_) | (refine zbd rfl aD ?_) | (refine zbf rfl aD ?_) | (refine zbg rfl aD rfl ?_)) | (refine zbl ?_; first | (refine zbv rfl rfl aD ?_) | (refine zb5 rfl rfl aD ?_) | (refine zb6 rfl rfl ?_) | (refine zbe rfl rfl (fun h => ?_) (fun h => ?_) <;> (have h' := h; (try simp only [sx] at h')))) | (refine za6 ?_; first | (refine zbb aA rfl ?_) | (refine za8 aA rfl rfl ?_) | (refine za9 aA rfl ?_) | (refine zba aA (evO_ok rfl) ?_)) | (refine zbx _ _ rfl rfl rfl rfl ?_) | (refine zau (hK _ _ (.inl rfl) ?_); clear hK K) | (refine zau (hK _ _ (.inr (by kernel_rfl)) ?_); clear hK K))
      | (refine za0 ?_; first | (refine zbq ?_) | (refine zah (fun K hK => ?_)) | (refine zas ?_) | (refine zaz ?_) | (refine zbo ?_) | (refine za3 ?_) | (refine zbk ?_; first | (refine zal rfl aD ?_) | (refine zam rfl aD ?_) | (refine zay rfl (fun h => ?_) (fun h => ?_) <;> (have h' := h; (try simp only [sx] at h')))))
      | (refine za1 ?_) | (refine zak ?_) | (refine zai ?_) | (refine zat ?_) | (refine zap ?_) | (refine zaq ?_) | (refine zar rfl ?_) | (refine zaj ?_) | (refine zag ?_) | (refine zbp ?_))
          all_goals first
            | (exfalso; omega)
            | exact aR
        · rw [miRes_t ⟨hb, hs, hx⟩]
          repeat' (first
      | (refine za2 ?_; first | (refine za4 ?_; refine zav _ rfl ?_) | (refine zaf ?_; refine zaa _ rfl ?_) | (refine zbu ?_; first | (refine zb0 rfl rfl aO ?_) | (refine zcg rfl rfl aO ?_) | (refine zbt _ rfl rfl rfl ?_) | (refine zbi aA rfl rfl ?_) | (refine zby aA rfl rfl ?_) | (refine zaw _ rfl rfl rfl ?_)) | (refine g_un ?_; first | (refine zca rfl ?_) | (refine zb9 rfl aO ?_)) | (refine zbj ?_; first | (refine zae aA rfl ?_) | (refine zab _ aA rfl rfl aE rfl ?_) | (refine zac _ aA rfl aZ aL ?_) | (refine zad _ aA rfl rfl aE aZ aL ?_)) | (refine zbh ?_; first | (refine zao _ aA rfl rfl aO aA ?_) | (refine zan _ aA rfl rfl rfl rfl aO aO (by first | (rw [Nat.zero_add, Int.toNat_natCast]) | (rw [Nat.zero_add]) | rfl) ?_)) | (refine zbw ?_; first | (refine zbc rfl aD rfl ?_) | (refine zbd rfl aD ?_) | (refine zbf rfl aD ?_) | (refine zbg rfl aD rfl ?_)) | (refine zbl ?_; first | (refine zbv rfl rfl aD ?_) | (refine zb5 rfl rfl aD ?_) | (refine zb6 rfl rfl ?_) | (refine zbe rfl rfl (fun h => ?_) (fun h => ?_) <;> (have h' := h; (try simp only [sx] at h')))) | (refine za6 ?_; first | (refine zbb aA rfl ?_) | (refine za8 aA rfl rfl ?_) | (refine za9 aA rfl ?_) | (refine zba aA (evO_ok rfl) ?_)) | (refine zbx _ _ rfl rfl rfl rfl ?_) | (refine zau (hK _ _ (.inl rfl) ?_); clear hK K) | (refine zau (hK _ _ (.inr (by kernel_rfl)) ?_); clear hK K))
      | (refine za0 ?_; first | (refine zbq ?_) | (refine zah (fun K hK => ?_)) | (refine zas ?_) | (refine zaz ?_) | (refine zbo ?_) | (refine za3 ?_) | (refine zbk ?_; first | (refine zal rfl aD ?_) | (refine zam rfl aD ?_) | (refine zay rfl (fun h => ?_) (fun h => ?_) <;> (have h' := h; (try simp only [sx] at h')))))
      | (refine za1 ?_) | (refine zak ?_) | (refine zai ?_) | (refine zat ?_) | (refine zap ?_) | (refine zaq ?_) | (refine zar rfl ?_) | (refine zaj ?_) | (refine zag ?_) | (refine zbp ?_))
          all_goals first
            | (exfalso; omega)
            | (subst hm; exact aR)
    · rw [decide_eq_false hs] at k2
      rw [miRes_f (fun h => hs h.2.1)]
      repeat' (first
      | (refine za2 ?_; first | (refine za4 ?_; refine zav _ rfl ?_) | (refine zaf ?_; refine zaa _ rfl ?_) | (refine zbu ?_; first | (refine zb0 rfl rfl aO ?_) | (refine zcg rfl rfl aO ?_) | (refine zbt _ rfl rfl rfl ?_) | (refine zbi aA rfl rfl ?_) | (refine zby aA rfl rfl ?_) | (refine zaw _ rfl rfl rfl ?_)) | (refine g_un ?_; first | (refine zca rfl ?_) | (refine zb9 rfl aO ?_)) | (refine zbj ?_; first | (refine zae aA rfl ?_) | (refine zab _ aA rfl rfl aE rfl ?_) | (refine zac _ aA rfl aZ aL ?_) | (refine zad _ aA rfl rfl aE aZ aL ?_)) | (refine zbh ?_; first | (refine zao _ aA rfl rfl aO aA ?_) | (refine zan _ aA rfl rfl rfl rfl aO aO (by first | (rw [Nat.zero_add, Int.toNat_natCast]) | (rw [Nat.zero_add]) | rfl) ?_)) | (refine zbw ?_; first | (refine zbc rfl aD rfl ?_) | (refine zbd rfl aD ?_) | (refine zbf rfl aD ?_) | (refine zbg rfl aD rfl ?_)) | (refine zbl ?_; first | (refine zbv rfl rfl aD ?_) | (refine zb5 rfl rfl aD ?_) | (refine zb6 rfl rfl ?_) | (refine zbe rfl rfl (fun h => ?_) (fun h => ?_) <;> (have h' := h; (try simp only [sx] at h')))) | (refine za6 ?_; first | (refine za5 true (k1) rfl rfl rfl aS rfl aH ?_; simp only [cl]) | (refine za5 true (k2) rfl rfl rfl aS rfl aH ?_; simp only [cl]) | (refine zbb aA rfl ?_) | (refine za8 aA rfl rfl ?_) | (refine za9 aA rfl ?_) | (refine zba aA (evO_ok rfl) ?_)) | (refine zbx _ _ rfl rfl rfl rfl ?_) | (refine zau (hK _ _ (.inl rfl) ?_); clear hK K) | (refine zau (hK _ _ (.inr (by kernel_rfl)) ?_); clear hK K))
      | (refine za0 ?_; first | (refine zbq ?_) | (refine zah (fun K hK => ?_)) | (refine zas ?_) | (refine zaz ?_) | (refine zbo ?_) | (refine za3 ?_) | (refine zbk ?_; first | (refine zal rfl aD ?_) | (refine zam rfl aD ?_) | (refine zay rfl (fun h => ?_) (fun h => ?_) <;> (have h' := h; (try simp only [sx] at h')))))
      | (refine za1 ?_) | (refine zak ?_) | (refine zai ?_) | (refine zat ?_) | (refine zap ?_) | (refine zaq ?_) | (refine zar rfl ?_) | (refine zaj ?_) | (refine zag ?_) | (refine zbp ?_))
      all_goals first
        | (exfalso; omega)
        | exact aR
  · rw [decide_eq_false hb] at k1
    rw [miRes_f (fun h => hb h.1)]
    repeat' (first
      | (refine za2 ?_; first | (refine za4 ?_; refine zav _ rfl ?_) | (refine zaf ?_; refine zaa _ rfl ?_) | (refine zbu ?_; first | (refine zb0 rfl rfl aO ?_) | (refine zcg rfl rfl aO ?_) | (refine zbt _ rfl rfl rfl ?_) | (refine zbi aA rfl rfl ?_) | (refine zby aA rfl rfl ?_) | (refine zaw _ rfl rfl rfl ?_)) | (refine g_un ?_; first | (refine zca rfl ?_) | (refine zb9 rfl aO ?_)) | (refine zbj ?_; first | (refine zae aA rfl ?_) | (refine zab _ aA rfl rfl aE rfl ?_) | (refine zac _ aA rfl aZ aL ?_) | (refine zad _ aA rfl rfl aE aZ aL ?_)) | (refine zbh ?_; first | (refine zao _ aA rfl rfl aO aA ?_) | (refine zan _ aA rfl rfl rfl rfl aO aO (by first | (rw [Nat.zero_add, Int.toNat_natCast]) | (rw [Nat.zero_add]) | rfl) ?_)) | (refine zbw ?_; first | (refine zbc rfl aD rfl ?_) | (refine zbd rfl aD ?_) | (refine zbf rfl aD ?_) | (refine zbg rfl aD rfl ?_)) | (refine zbl ?_; first | (refine zbv rfl rfl aD ?_) | (refine zb5 rfl rfl aD ?_) | (refine zb6 rfl rfl ?_) | (refine zbe rfl rfl (fun h => ?_) (fun h => ?_) <;> (have h' := h; (try simp only [sx] at h')))) | (refine za6 ?_; first | (refine za5 true (k1) rfl rfl rfl aS rfl aH ?_; simp only [cl]) | (refine za5 true (k2) rfl rfl rfl aS rfl aH ?_; simp only [cl]) | (refine zbb aA rfl ?_) | (refine za8 aA rfl rfl ?_) | (refine za9 aA rfl ?_) | (refine zba aA (evO_ok rfl) ?_)) | (refine zbx _ _ rfl rfl rfl rfl ?_) | (refine zau (hK _ _ (.inl rfl) ?_); clear hK K) | (refine zau (hK _ _ (.inr (by kernel_rfl)) ?_); clear hK K))
      | (refine za0 ?_; first | (refine zbq ?_) | (refine zah (fun K hK => ?_)) | (refine zas ?_) | (refine zaz ?_) | (refine zbo ?_) | (refine za3 ?_) | (refine zbk ?_; first | (refine zal rfl aD ?_) | (refine zam rfl aD ?_) | (refine zay rfl (fun h => ?_) (fun h => ?_) <;> (have h' := h; (try simp only [sx] at h')))))
      | (refine za1 ?_) | (refine zak ?_) | (refine zai ?_) | (refine zat ?_) | (refine zap ?_) | (refine zaq ?_) | (refine zar rfl ?_) | (refine zaj ?_) | (refine zag ?_) | (refine zbp ?_))
    all_goals first
      | (exfalso; omega)
      | exact aR
theorem k_sMinutes (b : Blz) (cs : List Int) (z : SzB b) (hn : cs.length ≤ 1000000) : Con Try.prog 35 [.agg b.t.pv, .list 2 (b.ps.map Phase.pv), .list 1 (ints b.src), .int .i64 b.st, .list 1 (ints cs)] (miRes b cs) := by
  intro al
  refine za7 hmix Try.func35 rfl (by kernel_rfl) (by kernel_rfl) (Nat.le_of_ble_eq_true rfl) (fun row h => by cases h) ?_
  have hty_a26 := ty_a26
  have hty_u27 := ty_u27
  have hty_s27 := ty_s27
  have hty_u24 := ty_u24
  have hty_s24 := ty_s24
  have hty_c3 := ty_c3
  have k1 := k_l4Asked b z
  have k2 := k_l2Set b.t cs z.hn aO
  have hl2 : (ints cs).length = cs.length := by simp
  by_cases hb : GoodB b
  · rw [decide_eq_true hb] at k1
    have hl := arr_len hb
    have hlen := goodT_len hb.1.1
    have kA := (Con.a (k_l4Arrivals b hb z.hs)).frz rfl
    simp only [frz] at kA
    have hl1 : (ints (arr b)).length = (arr b).length := by simp
    by_cases hs : (∀ c ∈ cs, IsCell b.t c) ∧ Rising cs
    · rw [decide_eq_true (show GoodT b.t ∧ (∀ y ∈ cs, 0 ≤ y ∧ y < (b.t.burn.length : Int)) ∧ Rising cs from ⟨hb.1.1, hs.1, hs.2⟩)] at k2
      have hbs := hb.2.2
      repeat' (first
      | (refine za2 ?_; first | (refine za4 ?_; refine zav _ rfl ?_) | (refine zaf ?_; refine zaa _ rfl ?_) | (refine zbu ?_; first | (refine zb0 rfl rfl aO ?_) | (refine zcg rfl rfl aO ?_) | (refine zbt _ rfl rfl rfl ?_) | (refine zbi aA rfl rfl ?_) | (refine zby aA rfl rfl ?_) | (refine zaw _ rfl rfl rfl ?_)) | (refine g_un ?_; first | (refine zca rfl ?_) | (refine zb9 rfl aO ?_)) | (refine zbj ?_; first | (refine zae aA rfl ?_) | (refine zab _ aA rfl rfl aE rfl ?_) | (refine zac _ aA rfl aZ aL ?_) | (refine zad _ aA rfl rfl aE aZ aL ?_)) | (refine zbh ?_; first | (refine zao _ aA rfl rfl aO aA ?_) | (refine zan _ aA rfl rfl rfl rfl aO aO (by first | (rw [Nat.zero_add, Int.toNat_natCast]) | (rw [Nat.zero_add]) | rfl) ?_)) | (refine zbw ?_; first | (refine zbc rfl aD rfl ?_) | (refine zbd rfl aD ?_) | (refine zbf rfl aD ?_) | (refine zbg rfl aD rfl ?_)) | (refine zbl ?_; first | (refine zbv rfl rfl aD ?_) | (refine zb5 rfl rfl aD ?_) | (refine zb6 rfl rfl ?_) | (refine zbe rfl rfl (fun h => ?_) (fun h => ?_) <;> (have h' := h; (try simp only [sx] at h')))) | (refine za6 ?_; first | (refine za5 true (k1) rfl rfl rfl aS rfl aH ?_; simp only [cl]) | (refine za5 true (k2) rfl rfl rfl aS rfl aH ?_; simp only [cl]) | (refine zcp true (kA) rfl rfl rfl rfl rfl aS rfl aH ?_; simp only [cl]) | (refine zbb aA rfl ?_) | (refine za8 aA rfl rfl ?_) | (refine za9 aA rfl ?_) | (refine zba aA (evO_ok rfl) ?_)) | (refine zbx _ _ rfl rfl rfl rfl ?_) | (refine zau (hK _ _ (.inl rfl) ?_); clear hK K) | (refine zau (hK _ _ (.inr (by kernel_rfl)) ?_); clear hK K))
      | (refine za0 ?_; first | (refine zbq ?_) | (refine zah (fun K hK => ?_)) | (refine zas ?_) | (refine zaz ?_) | (refine zbo ?_) | (refine za3 ?_) | (refine zbk ?_; first | (refine zal rfl aD ?_) | (refine zam rfl aD ?_) | (refine zay rfl (fun h => ?_) (fun h => ?_) <;> (have h' := h; (try simp only [sx] at h')))))
      | (refine za1 ?_) | (refine zak ?_) | (refine zai ?_) | (refine zat ?_) | (refine zap ?_) | (refine zaq ?_) | (refine zar rfl ?_) | (refine zaj ?_) | (refine zag ?_) | (refine zbp ?_))
      all_goals try (exfalso; omega)
      refine zce [3, 4, 13] [] (fun q : Nat × Int => [(12, .int .i64 q.2), (14, .int .i64 q.1)]) (fun q : Nat × Int => []) (fun q : Nat × Int => q.1 ≤ cs.length ∧ q.2 = mnL (arr b) (cs.take q.1)) (fun q : Nat × Int => cs.length - q.1) ((0, -1)) rfl rfl (fun _ => rfl) (fun _ => rfl) rfl aW ⟨by simp, rfl⟩ (fun q hq => ?_)
      obtain ⟨i, m⟩ := q
      obtain ⟨hi, hm⟩ := hq
      simp only at hi hm
      dsimp only
      rcases Nat.lt_or_ge i cs.length with hlt | hge2
      · obtain ⟨c, hc⟩ := get_ex hlt
        have hy := ints_at hc
        have hcc := hs.1 c (get_mem hc)
        have hcc' := hcc
        unfold IsCell at hcc'
        have hx := tv_int (T := arr b) (c := c) aO
        have e2 := mnL_succ (T := arr b) hc
        rw [← hm] at e2
        have hmt := mn_take hb hs.1 i
        rw [← hm] at hmt
        unfold mn2 at e2
        generalize tv (arr b) c = v at *
        by_cases hgo : v ≠ -1 ∧ (m = -1 ∨ v < m)
        · rw [if_pos hgo] at e2
          repeat' (first
      | (refine za2 ?_; first | (refine za4 ?_; refine zav _ rfl ?_) | (refine zaf ?_; refine zaa _ rfl ?_) | (refine zbu ?_; first | (refine zb0 rfl rfl aO ?_) | (refine zcg rfl rfl aO ?_) | (refine zbt _ rfl rfl rfl ?_) | (refine zbi aA rfl rfl ?_) | (refine zby aA rfl rfl ?_) | (refine zaw _ rfl rfl rfl ?_)) | (refine g_un ?_; first | (refine zca rfl ?_) | (refine zb9 rfl aO ?_)) | (refine zbj ?_; first | (refine zae aA rfl ?_) | (refine zab _ aA rfl rfl aE rfl ?_) | (refine zac _ aA rfl aZ aL ?_) | (refine zad _ aA rfl rfl aE aZ aL ?_)) | (refine zbh ?_; first | (refine zao _ aA rfl rfl aO aA ?_) | (refine zan _ aA rfl rfl rfl rfl aO aO (by first | (rw [Nat.zero_add, Int.toNat_natCast]) | (rw [Nat.zero_add]) | rfl) ?_)) | (refine zbw ?_; first | (refine zbc rfl aD rfl ?_) | (refine zbd rfl aD ?_) | (refine zbf rfl aD ?_) | (refine zbg rfl aD rfl ?_)) | (refine zbl ?_; first | (refine zbv rfl rfl aD ?_) | (refine zb5 rfl rfl aD ?_) | (refine zb6 rfl rfl ?_) | (refine zbe rfl rfl (fun h => ?_) (fun h => ?_) <;> (have h' := h; (try simp only [sx] at h')))) | (refine za6 ?_; first | (refine zbb aA rfl ?_) | (refine za8 aA rfl rfl ?_) | (refine za9 aA rfl ?_) | (refine zba aA (evO_ok rfl) ?_)) | (refine zbx _ _ rfl rfl rfl rfl ?_) | (refine zau (hK _ _ (.inl rfl) ?_); clear hK K) | (refine zau (hK _ _ (.inr (by kernel_rfl)) ?_); clear hK K))
      | (refine za0 ?_; first | (refine zbq ?_) | (refine zah (fun K hK => ?_)) | (refine zas ?_) | (refine zaz ?_) | (refine zbo ?_) | (refine za3 ?_) | (refine zbk ?_; first | (refine zal rfl aD ?_) | (refine zam rfl aD ?_) | (refine zay rfl (fun h => ?_) (fun h => ?_) <;> (have h' := h; (try simp only [sx] at h')))))
      | (refine za1 ?_) | (refine zak ?_) | (refine zai ?_) | (refine zat ?_) | (refine zap ?_) | (refine zaq ?_) | (refine zar rfl ?_) | (refine zaj ?_) | (refine zag ?_) | (refine zbp ?_))
          all_goals first
            | (exfalso; omega)
            | (refine zcb (i + 1, v) rfl aW ⟨by simp only; omega, e2.symm⟩ (by simp only; omega))
        · rw [if_neg hgo] at e2
          repeat' (first
      | (refine za2 ?_; first | (refine za4 ?_; refine zav _ rfl ?_) | (refine zaf ?_; refine zaa _ rfl ?_) | (refine zbu ?_; first | (refine zb0 rfl rfl aO ?_) | (refine zcg rfl rfl aO ?_) | (refine zbt _ rfl rfl rfl ?_) | (refine zbi aA rfl rfl ?_) | (refine zby aA rfl rfl ?_) | (refine zaw _ rfl rfl rfl ?_)) | (refine g_un ?_; first | (refine zca rfl ?_) | (refine zb9 rfl aO ?_)) | (refine zbj ?_; first | (refine zae aA rfl ?_) | (refine zab _ aA rfl rfl aE rfl ?_) | (refine zac _ aA rfl aZ aL ?_) | (refine zad _ aA rfl rfl aE aZ aL ?_)) | (refine zbh ?_; first | (refine zao _ aA rfl rfl aO aA ?_) | (refine zan _ aA rfl rfl rfl rfl aO aO (by first | (rw [Nat.zero_add, Int.toNat_natCast]) | (rw [Nat.zero_add]) | rfl) ?_)) | (refine zbw ?_; first | (refine zbc rfl aD rfl ?_) | (refine zbd rfl aD ?_) | (refine zbf rfl aD ?_) | (refine zbg rfl aD rfl ?_)) | (refine zbl ?_; first | (refine zbv rfl rfl aD ?_) | (refine zb5 rfl rfl aD ?_) | (refine zb6 rfl rfl ?_) | (refine zbe rfl rfl (fun h => ?_) (fun h => ?_) <;> (have h' := h; (try simp only [sx] at h')))) | (refine za6 ?_; first | (refine zbb aA rfl ?_) | (refine za8 aA rfl rfl ?_) | (refine za9 aA rfl ?_) | (refine zba aA (evO_ok rfl) ?_)) | (refine zbx _ _ rfl rfl rfl rfl ?_) | (refine zau (hK _ _ (.inl rfl) ?_); clear hK K) | (refine zau (hK _ _ (.inr (by kernel_rfl)) ?_); clear hK K))
      | (refine za0 ?_; first | (refine zbq ?_) | (refine zah (fun K hK => ?_)) | (refine zas ?_) | (refine zaz ?_) | (refine zbo ?_) | (refine za3 ?_) | (refine zbk ?_; first | (refine zal rfl aD ?_) | (refine zam rfl aD ?_) | (refine zay rfl (fun h => ?_) (fun h => ?_) <;> (have h' := h; (try simp only [sx] at h')))))
      | (refine za1 ?_) | (refine zak ?_) | (refine zai ?_) | (refine zat ?_) | (refine zap ?_) | (refine zaq ?_) | (refine zar rfl ?_) | (refine zaj ?_) | (refine zag ?_) | (refine zbp ?_))
          all_goals first
            | (exfalso; omega)
            | (refine zcb (i + 1, m) rfl aW ⟨by simp only; omega, e2.symm⟩ (by simp only; omega))
      · rw [take_all hge2] at hm
        have hmt := mn_take hb hs.1 cs.length
        rw [List.take_length, ← hm] at hmt
        by_cases hx : mnL (arr b) cs = -1
        · rw [miRes_f (fun h => h.2.2 hx)]
          repeat' (first
      | (refine za2 ?_; first | (refine za4 ?_; refine zav _ rfl ?_) | (refine zaf ?_; refine zaa _ rfl ?_) | (refine zbu ?_; first | (refine zb0 rfl rfl aO ?_) | (refine zcg rfl rfl aO ?_) | (refine zbt _ rfl rfl rfl ?_) | (refine zbi aA rfl rfl ?_) | (refine zby aA rfl rfl ?_) | (refine zaw _ rfl rfl rfl ?_)) | (refine g_un ?_; first | (refine zca rfl ?_) | (refine zb9 rfl aO ?_)) | (refine zbj ?_; first | (refine zae aA rfl ?_) | (refine zab _ aA rfl rfl aE rfl ?_) | (refine zac _ aA rfl aZ aL ?_) | (refine zad _ aA rfl rfl aE aZ aL ?_)) | (refine zbh ?_; first | (refine zao _ aA rfl rfl aO aA ?_) | (refine zan _ aA rfl rfl rfl rfl aO aO (by first | (rw [Nat.zero_add, Int.toNat_natCast]) | (rw [Nat.zero_add]) | rfl) ?_)) | (refine zbw ?_; first | (refine zbc rfl aD rfl ?_) | (refine zbd rfl aD ?_) | (refine zbf rfl aD ?_) | (refine zbg rfl aD rfl ?_)) | (refine zbl ?_; first | (refine zbv rfl rfl aD ?_) | (refine zb5 rfl rfl aD ?_) | (refine zb6 rfl rfl ?_) | (refine zbe rfl rfl (fun h => ?_) (fun h => ?_) <;> (have h' := h; (try simp only [sx] at h')))) | (refine za6 ?_; first | (refine zbb aA rfl ?_) | (refine za8 aA rfl rfl ?_) | (refine za9 aA rfl ?_) | (refine zba aA (evO_ok rfl) ?_)) | (refine zbx _ _ rfl rfl rfl rfl ?_) | (refine zau (hK _ _ (.inl rfl) ?_); clear hK K) | (refine zau (hK _ _ (.inr (by kernel_rfl)) ?_); clear hK K))
      | (refine za0 ?_; first | (refine zbq ?_) | (refine zah (fun K hK => ?_)) | (refine zas ?_) | (refine zaz ?_) | (refine zbo ?_) | (refine za3 ?_) | (refine zbk ?_; first | (refine zal rfl aD ?_) | (refine zam rfl aD ?_) | (refine zay rfl (fun h => ?_) (fun h => ?_) <;> (have h' := h; (try simp only [sx] at h')))))
      | (refine za1 ?_) | (refine zak ?_) | (refine zai ?_) | (refine zat ?_) | (refine zap ?_) | (refine zaq ?_) | (refine zar rfl ?_) | (refine zaj ?_) | (refine zag ?_) | (refine zbp ?_))
          all_goals first
            | (exfalso; omega)
            | exact aR
        · rw [miRes_t ⟨hb, hs, hx⟩]
          repeat' (first
      | (refine za2 ?_; first | (refine za4 ?_; refine zav _ rfl ?_) | (refine zaf ?_; refine zaa _ rfl ?_) | (refine zbu ?_; first | (refine zb0 rfl rfl aO ?_) | (refine zcg rfl rfl aO ?_) | (refine zbt _ rfl rfl rfl ?_) | (refine zbi aA rfl rfl ?_) | (refine zby aA rfl rfl ?_) | (refine zaw _ rfl rfl rfl ?_)) | (refine g_un ?_; first | (refine zca rfl ?_) | (refine zb9 rfl aO ?_)) | (refine zbj ?_; first | (refine zae aA rfl ?_) | (refine zab _ aA rfl rfl aE rfl ?_) | (refine zac _ aA rfl aZ aL ?_) | (refine zad _ aA rfl rfl aE aZ aL ?_)) | (refine zbh ?_; first | (refine zao _ aA rfl rfl aO aA ?_) | (refine zan _ aA rfl rfl rfl rfl aO aO (by first | (rw [Nat.zero_add, Int.toNat_natCast]) | (rw [Nat.zero_add]) | rfl) ?_)) | (refine zbw ?_; first | (refine zbc rfl aD rfl ?_) | (refine zbd rfl aD ?_) | (refine zbf rfl aD ?_) | (refine zbg rfl aD rfl ?_)) | (refine zbl ?_; first | (refine zbv rfl rfl aD ?_) | (refine zb5 rfl rfl aD ?_) | (refine zb6 rfl rfl ?_) | (refine zbe rfl rfl (fun h => ?_) (fun h => ?_) <;> (have h' := h; (try simp only [sx] at h')))) | (refine za6 ?_; first | (refine zbb aA rfl ?_) | (refine za8 aA rfl rfl ?_) | (refine za9 aA rfl ?_) | (refine zba aA (evO_ok rfl) ?_)) | (refine zbx _ _ rfl rfl rfl rfl ?_) | (refine zau (hK _ _ (.inl rfl) ?_); clear hK K) | (refine zau (hK _ _ (.inr (by kernel_rfl)) ?_); clear hK K))
      | (refine za0 ?_; first | (refine zbq ?_) | (refine zah (fun K hK => ?_)) | (refine zas ?_) | (refine zaz ?_) | (refine zbo ?_) | (refine za3 ?_) | (refine zbk ?_; first | (refine zal rfl aD ?_) | (refine zam rfl aD ?_) | (refine zay rfl (fun h => ?_) (fun h => ?_) <;> (have h' := h; (try simp only [sx] at h')))))
      | (refine za1 ?_) | (refine zak ?_) | (refine zai ?_) | (refine zat ?_) | (refine zap ?_) | (refine zaq ?_) | (refine zar rfl ?_) | (refine zaj ?_) | (refine zag ?_) | (refine zbp ?_))
          all_goals first
            | (exfalso; omega)
            | (subst hm; exact aR)
    · rw [decide_eq_false (show ¬ (GoodT b.t ∧ (∀ y ∈ cs, 0 ≤ y ∧ y < (b.t.burn.length : Int)) ∧ Rising cs) from fun h => hs ⟨h.2.1, h.2.2⟩)] at k2
      rw [miRes_f (fun h => hs h.2.1)]
      repeat' (first
      | (refine za2 ?_; first | (refine za4 ?_; refine zav _ rfl ?_) | (refine zaf ?_; refine zaa _ rfl ?_) | (refine zbu ?_; first | (refine zb0 rfl rfl aO ?_) | (refine zcg rfl rfl aO ?_) | (refine zbt _ rfl rfl rfl ?_) | (refine zbi aA rfl rfl ?_) | (refine zby aA rfl rfl ?_) | (refine zaw _ rfl rfl rfl ?_)) | (refine g_un ?_; first | (refine zca rfl ?_) | (refine zb9 rfl aO ?_)) | (refine zbj ?_; first | (refine zae aA rfl ?_) | (refine zab _ aA rfl rfl aE rfl ?_) | (refine zac _ aA rfl aZ aL ?_) | (refine zad _ aA rfl rfl aE aZ aL ?_)) | (refine zbh ?_; first | (refine zao _ aA rfl rfl aO aA ?_) | (refine zan _ aA rfl rfl rfl rfl aO aO (by first | (rw [Nat.zero_add, Int.toNat_natCast]) | (rw [Nat.zero_add]) | rfl) ?_)) | (refine zbw ?_; first | (refine zbc rfl aD rfl ?_) | (refine zbd rfl aD ?_) | (refine zbf rfl aD ?_) | (refine zbg rfl aD rfl ?_)) | (refine zbl ?_; first | (refine zbv rfl rfl aD ?_) | (refine zb5 rfl rfl aD ?_) | (refine zb6 rfl rfl ?_) | (refine zbe rfl rfl (fun h => ?_) (fun h => ?_) <;> (have h' := h; (try simp only [sx] at h')))) | (refine za6 ?_; first | (refine za5 true (k1) rfl rfl rfl aS rfl aH ?_; simp only [cl]) | (refine za5 true (k2) rfl rfl rfl aS rfl aH ?_; simp only [cl]) | (refine zbb aA rfl ?_) | (refine za8 aA rfl rfl ?_) | (refine za9 aA rfl ?_) | (refine zba aA (evO_ok rfl) ?_)) | (refine zbx _ _ rfl rfl rfl rfl ?_) | (refine zau (hK _ _ (.inl rfl) ?_); clear hK K) | (refine zau (hK _ _ (.inr (by kernel_rfl)) ?_); clear hK K))
      | (refine za0 ?_; first | (refine zbq ?_) | (refine zah (fun K hK => ?_)) | (refine zas ?_) | (refine zaz ?_) | (refine zbo ?_) | (refine za3 ?_) | (refine zbk ?_; first | (refine zal rfl aD ?_) | (refine zam rfl aD ?_) | (refine zay rfl (fun h => ?_) (fun h => ?_) <;> (have h' := h; (try simp only [sx] at h')))))
      | (refine za1 ?_) | (refine zak ?_) | (refine zai ?_) | (refine zat ?_) | (refine zap ?_) | (refine zaq ?_) | (refine zar rfl ?_) | (refine zaj ?_) | (refine zag ?_) | (refine zbp ?_))
      all_goals first
        | (exfalso; omega)
        | exact aR
  · rw [decide_eq_false hb] at k1
    rw [miRes_f (fun h => hb h.1)]
    repeat' (first
      | (refine za2 ?_; first | (refine za4 ?_; refine zav _ rfl ?_) | (refine zaf ?_; refine zaa _ rfl ?_) | (refine zbu ?_; first | (refine zb0 rfl rfl aO ?_) | (refine zcg rfl rfl aO ?_) | (refine zbt _ rfl rfl rfl ?_) | (refine zbi aA rfl rfl ?_) | (refine zby aA rfl rfl ?_) | (refine zaw _ rfl rfl rfl ?_)) | (refine g_un ?_; first | (refine zca rfl ?_) | (refine zb9 rfl aO ?_)) | (refine zbj ?_; first | (refine zae aA rfl ?_) | (refine zab _ aA rfl rfl aE rfl ?_) | (refine zac _ aA rfl aZ aL ?_) | (refine zad _ aA rfl rfl aE aZ aL ?_)) | (refine zbh ?_; first | (refine zao _ aA rfl rfl aO aA ?_) | (refine zan _ aA rfl rfl rfl rfl aO aO (by first | (rw [Nat.zero_add, Int.toNat_natCast]) | (rw [Nat.zero_add]) | rfl) ?_)) | (refine zbw ?_; first | (refine zbc rfl aD rfl ?_) | (refine zbd rfl aD ?_) | (refine zbf rfl aD ?_) | (refine zbg rfl aD rfl ?_)) | (refine zbl ?_; first | (refine zbv rfl rfl aD ?_) | (refine zb5 rfl rfl aD ?_) | (refine zb6 rfl rfl ?_) | (refine zbe rfl rfl (fun h => ?_) (fun h => ?_) <;> (have h' := h; (try simp only [sx] at h')))) | (refine za6 ?_; first | (refine za5 true (k1) rfl rfl rfl aS rfl aH ?_; simp only [cl]) | (refine za5 true (k2) rfl rfl rfl aS rfl aH ?_; simp only [cl]) | (refine zbb aA rfl ?_) | (refine za8 aA rfl rfl ?_) | (refine za9 aA rfl ?_) | (refine zba aA (evO_ok rfl) ?_)) | (refine zbx _ _ rfl rfl rfl rfl ?_) | (refine zau (hK _ _ (.inl rfl) ?_); clear hK K) | (refine zau (hK _ _ (.inr (by kernel_rfl)) ?_); clear hK K))
      | (refine za0 ?_; first | (refine zbq ?_) | (refine zah (fun K hK => ?_)) | (refine zas ?_) | (refine zaz ?_) | (refine zbo ?_) | (refine za3 ?_) | (refine zbk ?_; first | (refine zal rfl aD ?_) | (refine zam rfl aD ?_) | (refine zay rfl (fun h => ?_) (fun h => ?_) <;> (have h' := h; (try simp only [sx] at h')))))
      | (refine za1 ?_) | (refine zak ?_) | (refine zai ?_) | (refine zat ?_) | (refine zap ?_) | (refine zaq ?_) | (refine zar rfl ?_) | (refine zaj ?_) | (refine zag ?_) | (refine zbp ?_))
    all_goals first
      | (exfalso; omega)
      | exact aR
end Go.Vs
set_option linter.unusedVariables false
set_option linter.unusedSimpArgs false
set_option maxRecDepth 100000
set_option maxHeartbeats 4000000
namespace Go.Vs
open Go.Proofs
attribute [local irreducible] exec vwp thenQ blkQ loopQ RetPost
@[reducible] def PaOk (b : Blz) (c : Int) : Prop := GoodB b ∧ IsCell b.t c ∧ tv (arr b) c ≠ -1
open Classical in
noncomputable def paO (b : Blz) (c : Int) : Bool := decide (PaOk b c)
open Classical in
noncomputable def paL (b : Blz) (c : Int) : List Int := if h : PaOk b c then Classical.choose (path_ex h.1 _ c rfl h.2.1 h.2.2) else []
theorem paO_t {b : Blz} {c : Int} (h : PaOk b c) : paO b c = true := by classical exact decide_eq_true h
theorem paO_f {b : Blz} {c : Int} (h : ¬ PaOk b c) : paO b c = false := by classical exact decide_eq_false h
theorem paO_of {b : Blz} {c : Int} (h : paO b c = true) : PaOk b c := by classical exact of_decide_eq_true h
theorem paL_is {b : Blz} {c : Int} (h : PaOk b c) : IsPath b c (paL b c) ∧ 1 ≤ (paL b c).length ∧ ((paL b c).length : Int) ≤ tv (arr b) c - b.st + 1 := by
  unfold paL
  rw [dif_pos h]
  exact Classical.choose_spec (path_ex h.1 _ c rfl h.2.1 h.2.2)
theorem paL_bnd {b : Blz} {c : Int} (h : PaOk b c) : 1 ≤ (paL b c).length ∧ (paL b c).length ≤ 4001 := by
  have h1 := paL_is h
  have h2 := arr_start h.1 h.2.1 h.2.2
  have h3 := h.1.2.2
  omega
theorem paL_f {b : Blz} {c : Int} (h : ¬ PaOk b c) : paL b c = [] := by unfold paL; rw [dif_neg h]
theorem paL_len {b : Blz} {c : Int} : (paL b c).length ≤ 4001 := by
  by_cases h : PaOk b c
  · exact (paL_bnd h).2
  · rw [paL_f h]; simp
@[reducible] noncomputable def paRes (b : Blz) (c : Int) : PV := .tuple [.olist 3 1 (ints (paL b c)), .bool (paO b c)]
theorem IsPath.len {b : Blz} {c : Int} {p : List Int} (h : IsPath b c p) : 1 ≤ p.length := by cases h <;> simp
theorem k_l4Path (b : Blz) (hb : GoodB b) (hs : b.src.length ≤ 1000000) {c : Int} {p : List Int} (h : IsPath b c p) : IsCell b.t c → tv (arr b) c ≠ -1 → p.length ≤ 10000 →
    Con Try.prog 86 [.agg b.t.pv, .list 2 (b.ps.map Phase.pv), .list 1 (ints b.src), .list 1 (ints (arr b)), .int .i64 c] (.olist 3 1 (ints p)) := by
  induction h with
  | @src c hm =>
    intro hc hne hl
    intro al
    refine za7 hmix Try.func86 rfl (by kernel_rfl) (by kernel_rfl) (Nat.le_of_ble_eq_true rfl) (fun row h => by cases h) ?_
    have hty_u24 := ty_u24
    have hty_s24 := ty_s24
    have hty_a26 := ty_a26
    have hty_c3 := ty_c3
    have hty_u27 := ty_u27
    have hty_s27 := ty_s27
    have k1 := k_l1Has b.src c aO
    rw [decide_eq_true hm] at k1
    repeat' (first
      | (refine za2 ?_; first | (refine za4 ?_; refine zav _ rfl ?_) | (refine zaf ?_; refine zaa _ rfl ?_) | (refine zbu ?_; first | (refine zb0 rfl rfl aO ?_) | (refine zbt _ rfl rfl rfl ?_) | (refine zbi aA rfl rfl ?_) | (refine zby aA rfl rfl ?_) | (refine zaw _ rfl rfl rfl ?_)) | (refine zbj ?_; first | (refine zae aA rfl ?_) | (refine zab _ aA rfl rfl aE rfl ?_) | (refine zac _ aA rfl aZ aL ?_) | (refine zad _ aA rfl rfl aE aZ aL ?_)) | (refine zbh ?_; first | (refine zao _ aA rfl rfl aO aA ?_) | (refine zan _ aA rfl rfl rfl rfl aO aO (by first | (rw [Nat.zero_add, Int.toNat_natCast]) | (rw [Nat.zero_add]) | rfl) ?_)) | (refine zbw ?_; first | (refine zbc rfl aD rfl ?_) | (refine zbd rfl aD ?_) | (refine zbf rfl aD ?_) | (refine zbg rfl aD rfl ?_)) | (refine zbl ?_; first | (refine zbv rfl rfl aD ?_) | (refine zb5 rfl rfl aD ?_) | (refine zb6 rfl rfl ?_) | (refine zbe rfl rfl (fun h => ?_) (fun h => ?_) <;> (have h' := h; (try simp only [sx] at h')))) | (refine za6 ?_; first | (refine za5 true (k1) rfl rfl rfl aS rfl aH ?_; simp only [cl]) | (refine zb3 _ _ aA rfl (lookM (by rfl)) rfl (lookM (by rfl)) rfl aN ⟨rfl, rfl, by decide, by decide⟩ (by first | rfl | omega | (simp; done) | (simp; omega) | fail) ⟨by first | (simp only [List.length_cons, List.length_nil]; omega) | omega | fail, by decide⟩ rfl (by first | (first | (simp only [lx, Nat.reduceAdd]; first | done | rfl) | fail) | rfl) aP ?_) | (refine zb2 _ _ aA rfl rfl (lookM (by rfl)) ⟨rfl, by decide⟩ aN (by first | exact Nat.succ_pos _ | omega | (simp; done)) ⟨by first | (simp only [List.length_cons, List.length_nil]; omega) | omega | fail, by decide⟩ rfl rfl aP ?_) | (refine zb4 _ aA rfl rfl (lookM (by rfl)) ⟨rfl, by decide⟩ aN ⟨by first | (simp only [List.length_cons, List.length_nil]; omega) | omega | fail, by decide⟩ rfl aP ?_) | (refine zb1 _ aA rfl rfl rfl ⟨rfl, rfl, rfl, by decide, by decide⟩ (by first | rfl | (simp; done) | fail) ⟨by omega, by decide⟩ rfl aL (by first | (rw [Nat.zero_add]) | rfl) ?_)) | (refine zax aA rfl rfl rfl ?_) | (refine zbx _ _ rfl rfl rfl rfl ?_) | (refine zau (hK _ _ (.inl rfl) ?_); clear hK K) | (refine zau (hK _ _ (.inr (by kernel_rfl)) ?_); clear hK K))
      | (refine za0 ?_; first | (refine zbq ?_) | (refine zah (fun K hK => ?_)) | (refine zas ?_) | (refine zaz ?_) | (refine zbo ?_) | (refine za3 ?_) | (refine zbk ?_; first | (refine zal rfl aD ?_) | (refine zam rfl aD ?_) | (refine zay rfl (fun h => ?_) (fun h => ?_) <;> (have h' := h; (try simp only [sx] at h')))))
      | (refine za1 ?_) | (refine zak ?_) | (refine zai ?_) | (refine zat ?_) | (refine zap ?_) | (refine zaq ?_) | (refine zar rfl ?_) | (refine zaj ?_) | (refine zag ?_) | (refine zbp ?_))
    all_goals first
      | (exfalso; omega)
      | exact zcq rfl (zbr (by rfl)) (by rfl) (by decide) rfl (ints_flat _) rfl
  | @step c k n q hm hf hq ih =>
    intro hc hne hl
    have hfc := hf.facts hb hc hne
    have kR := ih hfc.1 hfc.2.1 (by rw [List.length_append] at hl; omega)
    have hql := hq.len
    have hal := arr_len hb
    have hlen := goodT_len hb.1.1
    have hgp := hb.2.1
    have hbs := hb.2.2
    intro al
    refine za7 hmix Try.func86 rfl (by kernel_rfl) (by kernel_rfl) (Nat.le_of_ble_eq_true rfl) (fun row h => by cases h) ?_
    have hty_u24 := ty_u24
    have hty_s24 := ty_s24
    have hty_a26 := ty_a26
    have hty_c3 := ty_c3
    have hty_u27 := ty_u27
    have hty_s27 := ty_s27
    have k1 := k_l1Has b.src c aO
    rw [decide_eq_false hm] at k1
    have kN := (Con.a (k_l2Near b.t c hb.1.1 hc)).frz rfl
    simp only [frz] at kN
    have hnl := nears_len b.t c
    have hkl := get_lt hf.at_
    have hl1 : (ints (nears b.t c)).length = (nears b.t c).length := by simp
    have hl2 : (ints (arr b)).length = (arr b).length := by simp
    have hcc := hc
    unfold IsCell at hcc
    have hxc := tv_int (T := arr b) (c := c) aO
    repeat' (first
      | (refine za2 ?_; first | (refine za4 ?_; refine zav _ rfl ?_) | (refine zaf ?_; refine zaa _ rfl ?_) | (refine zbu ?_; first | (refine zb0 rfl rfl aO ?_) | (refine zbt _ rfl rfl rfl ?_) | (refine zbi aA rfl rfl ?_) | (refine zby aA rfl rfl ?_) | (refine zaw _ rfl rfl rfl ?_)) | (refine zbj ?_; first | (refine zae aA rfl ?_) | (refine zab _ aA rfl rfl aE rfl ?_) | (refine zac _ aA rfl aZ aL ?_) | (refine zad _ aA rfl rfl aE aZ aL ?_)) | (refine zbh ?_; first | (refine zao _ aA rfl rfl aO aA ?_) | (refine zan _ aA rfl rfl rfl rfl aO aO (by first | (rw [Nat.zero_add, Int.toNat_natCast]) | (rw [Nat.zero_add]) | rfl) ?_)) | (refine zbw ?_; first | (refine zbc rfl aD rfl ?_) | (refine zbd rfl aD ?_) | (refine zbf rfl aD ?_) | (refine zbg rfl aD rfl ?_)) | (refine zbl ?_; first | (refine zbv rfl rfl aD ?_) | (refine zb5 rfl rfl aD ?_) | (refine zb6 rfl rfl ?_) | (refine zbe rfl rfl (fun h => ?_) (fun h => ?_) <;> (have h' := h; (try simp only [sx] at h')))) | (refine za6 ?_; first | (refine za5 true (k1) rfl rfl rfl aS rfl aH ?_; simp only [cl]) | (refine zcp true (kN) rfl rfl rfl rfl rfl aS rfl aH ?_; simp only [cl]) | (refine zb3 _ _ aA rfl (lookM (by rfl)) rfl (lookM (by rfl)) rfl aN ⟨rfl, rfl, by decide, by decide⟩ (by first | rfl | omega | (simp; done) | (simp; omega) | fail) ⟨by first | (simp only [List.length_cons, List.length_nil]; omega) | omega | fail, by decide⟩ rfl (by first | (first | (simp only [lx, Nat.reduceAdd]; first | done | rfl) | fail) | rfl) aP ?_) | (refine zb2 _ _ aA rfl rfl (lookM (by rfl)) ⟨rfl, by decide⟩ aN (by first | exact Nat.succ_pos _ | omega | (simp; done)) ⟨by first | (simp only [List.length_cons, List.length_nil]; omega) | omega | fail, by decide⟩ rfl rfl aP ?_) | (refine zb4 _ aA rfl rfl (lookM (by rfl)) ⟨rfl, by decide⟩ aN ⟨by first | (simp only [List.length_cons, List.length_nil]; omega) | omega | fail, by decide⟩ rfl aP ?_) | (refine zb1 _ aA rfl rfl rfl ⟨rfl, rfl, rfl, by decide, by decide⟩ (by first | rfl | (simp; done) | fail) ⟨by omega, by decide⟩ rfl aL (by first | (rw [Nat.zero_add]) | rfl) ?_)) | (refine zax aA rfl rfl rfl ?_) | (refine zbx _ _ rfl rfl rfl rfl ?_) | (refine zau (hK _ _ (.inl rfl) ?_); clear hK K) | (refine zau (hK _ _ (.inr (by kernel_rfl)) ?_); clear hK K))
      | (refine za0 ?_; first | (refine zbq ?_) | (refine zah (fun K hK => ?_)) | (refine zas ?_) | (refine zaz ?_) | (refine zbo ?_) | (refine za3 ?_) | (refine zbk ?_; first | (refine zal rfl aD ?_) | (refine zam rfl aD ?_) | (refine zay rfl (fun h => ?_) (fun h => ?_) <;> (have h' := h; (try simp only [sx] at h')))))
      | (refine za1 ?_) | (refine zak ?_) | (refine zai ?_) | (refine zat ?_) | (refine zap ?_) | (refine zaq ?_) | (refine zar rfl ?_) | (refine zaj ?_) | (refine zag ?_) | (refine zbp ?_))
    all_goals try (exfalso; omega)
    refine zce [1, 2, 3, 4, 5, 11] [] (fun i : Nat => [(12, .int .i64 i)]) (fun i : Nat => []) (fun i : Nat => i ≤ k) (fun i : Nat => k + 1 - i) (0) rfl rfl (fun _ => rfl) (fun _ => rfl) rfl aW aO (fun i hi => ?_)
    obtain ⟨m, hmi⟩ := get_ex (show i < (nears b.t c).length by omega)
    have hxm := ints_at hmi
    have hcm := (nears_mem.1 (get_mem hmi)).1
    have hcm' := hcm
    unfold IsCell at hcm'
    have hxt := tv_int (T := arr b) (c := m) aO
    have kW := k_l4Work b.t m c hb.1.1 hcm hc
    have hwk := wk_bnd hb hcm hc
    rcases Nat.lt_or_ge i k with hlt | hge
    · have hno := hf.no i m hlt hmi
      by_cases hv : tv (arr b) m = -1
      · repeat' (first
      | (refine za2 ?_; first | (refine za4 ?_; refine zav _ rfl ?_) | (refine zaf ?_; refine zaa _ rfl ?_) | (refine zbu ?_; first | (refine zb0 rfl rfl aO ?_) | (refine zbt _ rfl rfl rfl ?_) | (refine zbi aA rfl rfl ?_) | (refine zby aA rfl rfl ?_) | (refine zaw _ rfl rfl rfl ?_)) | (refine zbj ?_; first | (refine zae aA rfl ?_) | (refine zab _ aA rfl rfl aE rfl ?_) | (refine zac _ aA rfl aZ aL ?_) | (refine zad _ aA rfl rfl aE aZ aL ?_)) | (refine zbh ?_; first | (refine zao _ aA rfl rfl aO aA ?_) | (refine zan _ aA rfl rfl rfl rfl aO aO (by first | (rw [Nat.zero_add, Int.toNat_natCast]) | (rw [Nat.zero_add]) | rfl) ?_)) | (refine zbw ?_; first | (refine zbc rfl aD rfl ?_) | (refine zbd rfl aD ?_) | (refine zbf rfl aD ?_) | (refine zbg rfl aD rfl ?_)) | (refine zbl ?_; first | (refine zbv rfl rfl aD ?_) | (refine zb5 rfl rfl aD ?_) | (refine zb6 rfl rfl ?_) | (refine zbe rfl rfl (fun h => ?_) (fun h => ?_) <;> (have h' := h; (try simp only [sx] at h')))) | (refine za6 ?_; first | (refine zb3 _ _ aA rfl (lookM (by rfl)) rfl (lookM (by rfl)) rfl aN ⟨rfl, rfl, by decide, by decide⟩ (by first | rfl | omega | (simp; done) | (simp; omega) | fail) ⟨by first | (simp only [List.length_cons, List.length_nil]; omega) | omega | fail, by decide⟩ rfl (by first | (first | (simp only [lx, Nat.reduceAdd]; first | done | rfl) | fail) | rfl) aP ?_) | (refine zb2 _ _ aA rfl rfl (lookM (by rfl)) ⟨rfl, by decide⟩ aN (by first | exact Nat.succ_pos _ | omega | (simp; done)) ⟨by first | (simp only [List.length_cons, List.length_nil]; omega) | omega | fail, by decide⟩ rfl rfl aP ?_) | (refine zb4 _ aA rfl rfl (lookM (by rfl)) ⟨rfl, by decide⟩ aN ⟨by first | (simp only [List.length_cons, List.length_nil]; omega) | omega | fail, by decide⟩ rfl aP ?_) | (refine zb1 _ aA rfl rfl rfl ⟨rfl, rfl, rfl, by decide, by decide⟩ (by first | rfl | (simp; done) | fail) ⟨by omega, by decide⟩ rfl aL (by first | (rw [Nat.zero_add]) | rfl) ?_)) | (refine zax aA rfl rfl rfl ?_) | (refine zbx _ _ rfl rfl rfl rfl ?_) | (refine zau (hK _ _ (.inl rfl) ?_); clear hK K) | (refine zau (hK _ _ (.inr (by kernel_rfl)) ?_); clear hK K))
      | (refine za0 ?_; first | (refine zbq ?_) | (refine zah (fun K hK => ?_)) | (refine zas ?_) | (refine zaz ?_) | (refine zbo ?_) | (refine za3 ?_) | (refine zbk ?_; first | (refine zal rfl aD ?_) | (refine zam rfl aD ?_) | (refine zay rfl (fun h => ?_) (fun h => ?_) <;> (have h' := h; (try simp only [sx] at h')))))
      | (refine za1 ?_) | (refine zak ?_) | (refine zai ?_) | (refine zat ?_) | (refine zap ?_) | (refine zaq ?_) | (refine zar rfl ?_) | (refine zaj ?_) | (refine zag ?_) | (refine zbp ?_))
        all_goals first
          | (exfalso; omega)
          | (refine zcb (i + 1) rfl aW aO aO)
      · have hst := arr_start hb hcm hv
        have hne2 : dn (spF b.ps) (tv (arr b) m) (wkF b.t m c) ≠ tv (arr b) c := fun e => hno ⟨hv, e⟩
        have kD := k_l4Done b.ps (tv (arr b) m) (wkF b.t m c) hgp aO aO
        repeat' (first
      | (refine za2 ?_; first | (refine za4 ?_; refine zav _ rfl ?_) | (refine zaf ?_; refine zaa _ rfl ?_) | (refine zbu ?_; first | (refine zb0 rfl rfl aO ?_) | (refine zbt _ rfl rfl rfl ?_) | (refine zbi aA rfl rfl ?_) | (refine zby aA rfl rfl ?_) | (refine zaw _ rfl rfl rfl ?_)) | (refine zbj ?_; first | (refine zae aA rfl ?_) | (refine zab _ aA rfl rfl aE rfl ?_) | (refine zac _ aA rfl aZ aL ?_) | (refine zad _ aA rfl rfl aE aZ aL ?_)) | (refine zbh ?_; first | (refine zao _ aA rfl rfl aO aA ?_) | (refine zan _ aA rfl rfl rfl rfl aO aO (by first | (rw [Nat.zero_add, Int.toNat_natCast]) | (rw [Nat.zero_add]) | rfl) ?_)) | (refine zbw ?_; first | (refine zbc rfl aD rfl ?_) | (refine zbd rfl aD ?_) | (refine zbf rfl aD ?_) | (refine zbg rfl aD rfl ?_)) | (refine zbl ?_; first | (refine zbv rfl rfl aD ?_) | (refine zb5 rfl rfl aD ?_) | (refine zb6 rfl rfl ?_) | (refine zbe rfl rfl (fun h => ?_) (fun h => ?_) <;> (have h' := h; (try simp only [sx] at h')))) | (refine za6 ?_; first | (refine za5 true (kW) rfl rfl rfl aS rfl aH ?_; simp only [cl]) | (refine za5 true (kD) rfl rfl rfl aS rfl aH ?_; simp only [cl]) | (refine zb3 _ _ aA rfl (lookM (by rfl)) rfl (lookM (by rfl)) rfl aN ⟨rfl, rfl, by decide, by decide⟩ (by first | rfl | omega | (simp; done) | (simp; omega) | fail) ⟨by first | (simp only [List.length_cons, List.length_nil]; omega) | omega | fail, by decide⟩ rfl (by first | (first | (simp only [lx, Nat.reduceAdd]; first | done | rfl) | fail) | rfl) aP ?_) | (refine zb2 _ _ aA rfl rfl (lookM (by rfl)) ⟨rfl, by decide⟩ aN (by first | exact Nat.succ_pos _ | omega | (simp; done)) ⟨by first | (simp only [List.length_cons, List.length_nil]; omega) | omega | fail, by decide⟩ rfl rfl aP ?_) | (refine zb4 _ aA rfl rfl (lookM (by rfl)) ⟨rfl, by decide⟩ aN ⟨by first | (simp only [List.length_cons, List.length_nil]; omega) | omega | fail, by decide⟩ rfl aP ?_) | (refine zb1 _ aA rfl rfl rfl ⟨rfl, rfl, rfl, by decide, by decide⟩ (by first | rfl | (simp; done) | fail) ⟨by omega, by decide⟩ rfl aL (by first | (rw [Nat.zero_add]) | rfl) ?_)) | (refine zax aA rfl rfl rfl ?_) | (refine zbx _ _ rfl rfl rfl rfl ?_) | (refine zau (hK _ _ (.inl rfl) ?_); clear hK K) | (refine zau (hK _ _ (.inr (by kernel_rfl)) ?_); clear hK K))
      | (refine za0 ?_; first | (refine zbq ?_) | (refine zah (fun K hK => ?_)) | (refine zas ?_) | (refine zaz ?_) | (refine zbo ?_) | (refine za3 ?_) | (refine zbk ?_; first | (refine zal rfl aD ?_) | (refine zam rfl aD ?_) | (refine zay rfl (fun h => ?_) (fun h => ?_) <;> (have h' := h; (try simp only [sx] at h')))))
      | (refine za1 ?_) | (refine zak ?_) | (refine zai ?_) | (refine zat ?_) | (refine zap ?_) | (refine zaq ?_) | (refine zar rfl ?_) | (refine zaj ?_) | (refine zag ?_) | (refine zbp ?_))
        all_goals first
          | (exfalso; omega)
          | (refine zcb (i + 1) rfl aW aO aO)
    · have : i = k := by omega
      subst this
      have : m = n := nosome hmi hf.at_
      subst this
      have hv := hf.ok.1
      have he : dn (spF b.ps) (tv (arr b) m) (wkF b.t m c) = tv (arr b) c := hf.ok.2
      have hst := arr_start hb hcm hv
      have kD := k_l4Done b.ps (tv (arr b) m) (wkF b.t m c) hgp aO aO
      have hle2 : (ints q).length = q.length := by simp
      rw [List.length_append, List.length_singleton] at hl
      repeat' (first
      | (refine za2 ?_; first | (refine za4 ?_; refine zav _ rfl ?_) | (refine zaf ?_; refine zaa _ rfl ?_) | (refine zbu ?_; first | (refine zb0 rfl rfl aO ?_) | (refine zbt _ rfl rfl rfl ?_) | (refine zbi aA rfl rfl ?_) | (refine zby aA rfl rfl ?_) | (refine zaw _ rfl rfl rfl ?_)) | (refine zbj ?_; first | (refine zae aA rfl ?_) | (refine zab _ aA rfl rfl aE rfl ?_) | (refine zac _ aA rfl aZ aL ?_) | (refine zad _ aA rfl rfl aE aZ aL ?_)) | (refine zbh ?_; first | (refine zao _ aA rfl rfl aO aA ?_) | (refine zan _ aA rfl rfl rfl rfl aO aO (by first | (rw [Nat.zero_add, Int.toNat_natCast]) | (rw [Nat.zero_add]) | rfl) ?_)) | (refine zbw ?_; first | (refine zbc rfl aD rfl ?_) | (refine zbd rfl aD ?_) | (refine zbf rfl aD ?_) | (refine zbg rfl aD rfl ?_)) | (refine zbl ?_; first | (refine zbv rfl rfl aD ?_) | (refine zb5 rfl rfl aD ?_) | (refine zb6 rfl rfl ?_) | (refine zbe rfl rfl (fun h => ?_) (fun h => ?_) <;> (have h' := h; (try simp only [sx] at h')))) | (refine za6 ?_; first | (refine za5 true (kW) rfl rfl rfl aS rfl aH ?_; simp only [cl]) | (refine za5 true (kD) rfl rfl rfl aS rfl aH ?_; simp only [cl]) | (refine za5 true (kR) rfl rfl rfl aS rfl aH ?_; simp only [cl]) | (refine zb3 _ _ aA rfl (lookM (by rfl)) rfl (lookM (by rfl)) rfl aN ⟨rfl, rfl, by decide, by decide⟩ (by first | rfl | omega | (simp; done) | (simp; omega) | fail) ⟨by first | (simp only [List.length_cons, List.length_nil]; omega) | omega | fail, by decide⟩ rfl (by first | (first | (simp only [lx, Nat.reduceAdd]; first | done | rfl) | fail) | rfl) aP ?_) | (refine zb2 _ _ aA rfl rfl (lookM (by rfl)) ⟨rfl, by decide⟩ aN (by first | exact Nat.succ_pos _ | omega | (simp; done)) ⟨by first | (simp only [List.length_cons, List.length_nil]; omega) | omega | fail, by decide⟩ rfl rfl aP ?_) | (refine zb4 _ aA rfl rfl (lookM (by rfl)) ⟨rfl, by decide⟩ aN ⟨by first | (simp only [List.length_cons, List.length_nil]; omega) | omega | fail, by decide⟩ rfl aP ?_) | (refine zb1 _ aA rfl rfl rfl ⟨rfl, rfl, rfl, by decide, by decide⟩ (by first | rfl | (simp; done) | fail) ⟨by omega, by decide⟩ rfl aL (by first | (rw [Nat.zero_add]) | rfl) ?_)) | (refine zax aA rfl rfl rfl ?_) | (refine zbx _ _ rfl rfl rfl rfl ?_) | (refine zau (hK _ _ (.inl rfl) ?_); clear hK K) | (refine zau (hK _ _ (.inr (by kernel_rfl)) ?_); clear hK K))
      | (refine za0 ?_; first | (refine zbq ?_) | (refine zah (fun K hK => ?_)) | (refine zas ?_) | (refine zaz ?_) | (refine zbo ?_) | (refine za3 ?_) | (refine zbk ?_; first | (refine zal rfl aD ?_) | (refine zam rfl aD ?_) | (refine zay rfl (fun h => ?_) (fun h => ?_) <;> (have h' := h; (try simp only [sx] at h')))))
      | (refine za1 ?_) | (refine zak ?_) | (refine zai ?_) | (refine zat ?_) | (refine zap ?_) | (refine zaq ?_) | (refine zar rfl ?_) | (refine zaj ?_) | (refine zag ?_) | (refine zbp ?_))
      all_goals first
        | (exfalso; omega)
        | exact zcq rfl (zbr (by rfl)) (by rfl) (by decide) (by simp) (by rw [← ints_snoc]; exact ints_flat _) (by rw [ints_snoc])
theorem k_sFirePath (b : Blz) (c : Int) (z : SzB b) (hs : b.src.length ≤ 1000000) : Con Try.prog 25 [.agg b.t.pv, .list 2 (b.ps.map Phase.pv), .list 1 (ints b.src), .int .i64 b.st, .int .i64 c] (paRes b c) := by
  intro al
  refine za7 hmix Try.func25 rfl (by kernel_rfl) (by kernel_rfl) (Nat.le_of_ble_eq_true rfl) (fun row h => by cases h) ?_
  have hty_a26 := ty_a26
  have hty_u27 := ty_u27
  have hty_s27 := ty_s27
  have hty_u24 := ty_u24
  have hty_s24 := ty_s24
  have hty_c3 := ty_c3
  have k1 := k_l4Asked b z
  have k2 := k_l2Cell b.t c z.hn
  by_cases hb : GoodB b
  · rw [decide_eq_true hb] at k1
    have kA := (Con.a (k_l4Arrivals b hb z.hs)).frz rfl
    simp only [frz] at kA
    have hal := arr_len hb
    have hl2 : (ints (arr b)).length = (arr b).length := by simp
    by_cases hc : IsCell b.t c
    · rw [decide_eq_true (show GoodT b.t ∧ IsCell b.t c from ⟨hb.1.1, hc⟩)] at k2
      have hcc := hc
      unfold IsCell at hcc
      have hxc := tv_int (T := arr b) (c := c) aO
      by_cases hv : tv (arr b) c = -1
      · have hno : ¬ PaOk b c := fun h => h.2.2 hv
        rw [paRes, paL_f hno, paO_f hno]
        repeat' (first
      | (refine za2 ?_; first | (refine za4 ?_; refine zav _ rfl ?_) | (refine zaf ?_; refine zaa _ rfl ?_) | (refine zbu ?_; first | (refine zbt _ rfl rfl rfl ?_) | (refine zbi aA rfl rfl ?_) | (refine zaw _ rfl rfl rfl ?_)) | (refine g_un ?_; first | (refine zca rfl ?_) | (refine zb9 rfl aO ?_)) | (refine zbj ?_; first | (refine zae aA rfl ?_) | (refine zab _ aA rfl rfl aE rfl ?_) | (refine zac _ aA rfl aZ aL ?_) | (refine zad _ aA rfl rfl aE aZ aL ?_)) | (refine zbh ?_; first | (refine zao _ aA rfl rfl aO aA ?_) | (refine zan _ aA rfl rfl rfl rfl aO aO (by first | (rw [Nat.zero_add, Int.toNat_natCast]) | (rw [Nat.zero_add]) | rfl) ?_)) | (refine zbw ?_; first | (refine zbc rfl aD rfl ?_) | (refine zbd rfl aD ?_) | (refine zbf rfl aD ?_) | (refine zbg rfl aD rfl ?_)) | (refine zbl ?_; first | (refine zbv rfl rfl aD ?_) | (refine zb5 rfl rfl aD ?_) | (refine zb6 rfl rfl ?_) | (refine zbe rfl rfl (fun h => ?_) (fun h => ?_) <;> (have h' := h; (try simp only [sx] at h')))) | (refine za6 ?_; first | (refine za5 true (k1) rfl rfl rfl aS rfl aH ?_; simp only [cl]) | (refine za5 true (k2) rfl rfl rfl aS rfl aH ?_; simp only [cl]) | (refine zcp true (kA) rfl rfl rfl rfl rfl aS rfl aH ?_; simp only [cl])) | (refine zax aA rfl rfl rfl ?_) | (refine zbx _ _ rfl rfl rfl rfl ?_) | (refine zau (hK _ _ (.inl rfl) ?_); clear hK K) | (refine zau (hK _ _ (.inr (by kernel_rfl)) ?_); clear hK K))
      | (refine za0 ?_; first | (refine zbq ?_) | (refine zah (fun K hK => ?_)) | (refine zas ?_) | (refine zaz ?_) | (refine zbo ?_) | (refine za3 ?_) | (refine zbk ?_; first | (refine zal rfl aD ?_) | (refine zam rfl aD ?_) | (refine zay rfl (fun h => ?_) (fun h => ?_) <;> (have h' := h; (try simp only [sx] at h')))))
      | (refine za1 ?_) | (refine zak ?_) | (refine zai ?_) | (refine zat ?_) | (refine zap ?_) | (refine zaq ?_) | (refine zar rfl ?_) | (refine zaj ?_) | (refine zag ?_) | (refine zbp ?_))
        all_goals first
          | (exfalso; omega)
          | exact aR
      · have hok : PaOk b c := ⟨hb, hc, hv⟩
        have kP := k_l4Path b hb hs (paL_is hok).1 hc hv (by have := paL_bnd hok; omega)
        rw [paRes, paO_t hok]
        repeat' (first
      | (refine za2 ?_; first | (refine za4 ?_; refine zav _ rfl ?_) | (refine zaf ?_; refine zaa _ rfl ?_) | (refine zbu ?_; first | (refine zbt _ rfl rfl rfl ?_) | (refine zbi aA rfl rfl ?_) | (refine zaw _ rfl rfl rfl ?_)) | (refine g_un ?_; first | (refine zca rfl ?_) | (refine zb9 rfl aO ?_)) | (refine zbj ?_; first | (refine zae aA rfl ?_) | (refine zab _ aA rfl rfl aE rfl ?_) | (refine zac _ aA rfl aZ aL ?_) | (refine zad _ aA rfl rfl aE aZ aL ?_)) | (refine zbh ?_; first | (refine zao _ aA rfl rfl aO aA ?_) | (refine zan _ aA rfl rfl rfl rfl aO aO (by first | (rw [Nat.zero_add, Int.toNat_natCast]) | (rw [Nat.zero_add]) | rfl) ?_)) | (refine zbw ?_; first | (refine zbc rfl aD rfl ?_) | (refine zbd rfl aD ?_) | (refine zbf rfl aD ?_) | (refine zbg rfl aD rfl ?_)) | (refine zbl ?_; first | (refine zbv rfl rfl aD ?_) | (refine zb5 rfl rfl aD ?_) | (refine zb6 rfl rfl ?_) | (refine zbe rfl rfl (fun h => ?_) (fun h => ?_) <;> (have h' := h; (try simp only [sx] at h')))) | (refine za6 ?_; first | (refine za5 true (k1) rfl rfl rfl aS rfl aH ?_; simp only [cl]) | (refine za5 true (k2) rfl rfl rfl aS rfl aH ?_; simp only [cl]) | (refine zcp true (kA) rfl rfl rfl rfl rfl aS rfl aH ?_; simp only [cl]) | (refine za5 true (kP) rfl rfl rfl aS rfl aH ?_; simp only [cl])) | (refine zax aA rfl rfl rfl ?_) | (refine zbx _ _ rfl rfl rfl rfl ?_) | (refine zau (hK _ _ (.inl rfl) ?_); clear hK K) | (refine zau (hK _ _ (.inr (by kernel_rfl)) ?_); clear hK K))
      | (refine za0 ?_; first | (refine zbq ?_) | (refine zah (fun K hK => ?_)) | (refine zas ?_) | (refine zaz ?_) | (refine zbo ?_) | (refine za3 ?_) | (refine zbk ?_; first | (refine zal rfl aD ?_) | (refine zam rfl aD ?_) | (refine zay rfl (fun h => ?_) (fun h => ?_) <;> (have h' := h; (try simp only [sx] at h')))))
      | (refine za1 ?_) | (refine zak ?_) | (refine zai ?_) | (refine zat ?_) | (refine zap ?_) | (refine zaq ?_) | (refine zar rfl ?_) | (refine zaj ?_) | (refine zag ?_) | (refine zbp ?_))
        all_goals first
          | (exfalso; omega)
          | exact aR
    · rw [decide_eq_false (show ¬ (GoodT b.t ∧ IsCell b.t c) from fun h => hc h.2)] at k2
      have hno : ¬ PaOk b c := fun h => hc h.2.1
      rw [paRes, paL_f hno, paO_f hno]
      repeat' (first
      | (refine za2 ?_; first | (refine za4 ?_; refine zav _ rfl ?_) | (refine zaf ?_; refine zaa _ rfl ?_) | (refine zbu ?_; first | (refine zbt _ rfl rfl rfl ?_) | (refine zbi aA rfl rfl ?_) | (refine zaw _ rfl rfl rfl ?_)) | (refine g_un ?_; first | (refine zca rfl ?_) | (refine zb9 rfl aO ?_)) | (refine zbj ?_; first | (refine zae aA rfl ?_) | (refine zab _ aA rfl rfl aE rfl ?_) | (refine zac _ aA rfl aZ aL ?_) | (refine zad _ aA rfl rfl aE aZ aL ?_)) | (refine zbh ?_; first | (refine zao _ aA rfl rfl aO aA ?_) | (refine zan _ aA rfl rfl rfl rfl aO aO (by first | (rw [Nat.zero_add, Int.toNat_natCast]) | (rw [Nat.zero_add]) | rfl) ?_)) | (refine zbw ?_; first | (refine zbc rfl aD rfl ?_) | (refine zbd rfl aD ?_) | (refine zbf rfl aD ?_) | (refine zbg rfl aD rfl ?_)) | (refine zbl ?_; first | (refine zbv rfl rfl aD ?_) | (refine zb5 rfl rfl aD ?_) | (refine zb6 rfl rfl ?_) | (refine zbe rfl rfl (fun h => ?_) (fun h => ?_) <;> (have h' := h; (try simp only [sx] at h')))) | (refine za6 ?_; first | (refine za5 true (k1) rfl rfl rfl aS rfl aH ?_; simp only [cl]) | (refine za5 true (k2) rfl rfl rfl aS rfl aH ?_; simp only [cl])) | (refine zax aA rfl rfl rfl ?_) | (refine zbx _ _ rfl rfl rfl rfl ?_) | (refine zau (hK _ _ (.inl rfl) ?_); clear hK K) | (refine zau (hK _ _ (.inr (by kernel_rfl)) ?_); clear hK K))
      | (refine za0 ?_; first | (refine zbq ?_) | (refine zah (fun K hK => ?_)) | (refine zas ?_) | (refine zaz ?_) | (refine zbo ?_) | (refine za3 ?_) | (refine zbk ?_; first | (refine zal rfl aD ?_) | (refine zam rfl aD ?_) | (refine zay rfl (fun h => ?_) (fun h => ?_) <;> (have h' := h; (try simp only [sx] at h')))))
      | (refine za1 ?_) | (refine zak ?_) | (refine zai ?_) | (refine zat ?_) | (refine zap ?_) | (refine zaq ?_) | (refine zar rfl ?_) | (refine zaj ?_) | (refine zag ?_) | (refine zbp ?_))
      all_goals first
        | (exfalso; omega)
        | exact aR
  · rw [decide_eq_false hb] at k1
    have hno : ¬ PaOk b c := fun h => hb h.1
    rw [paRes, paL_f hno, paO_f hno]
    repeat' (first
      | (refine za2 ?_; first | (refine za4 ?_; refine zav _ rfl ?_) | (refine zaf ?_; refine zaa _ rfl ?_) | (refine zbu ?_; first | (refine zbt _ rfl rfl rfl ?_) | (refine zbi aA rfl rfl ?_) | (refine zaw _ rfl rfl rfl ?_)) | (refine g_un ?_; first | (refine zca rfl ?_) | (refine zb9 rfl aO ?_)) | (refine zbj ?_; first | (refine zae aA rfl ?_) | (refine zab _ aA rfl rfl aE rfl ?_) | (refine zac _ aA rfl aZ aL ?_) | (refine zad _ aA rfl rfl aE aZ aL ?_)) | (refine zbh ?_; first | (refine zao _ aA rfl rfl aO aA ?_) | (refine zan _ aA rfl rfl rfl rfl aO aO (by first | (rw [Nat.zero_add, Int.toNat_natCast]) | (rw [Nat.zero_add]) | rfl) ?_)) | (refine zbw ?_; first | (refine zbc rfl aD rfl ?_) | (refine zbd rfl aD ?_) | (refine zbf rfl aD ?_) | (refine zbg rfl aD rfl ?_)) | (refine zbl ?_; first | (refine zbv rfl rfl aD ?_) | (refine zb5 rfl rfl aD ?_) | (refine zb6 rfl rfl ?_) | (refine zbe rfl rfl (fun h => ?_) (fun h => ?_) <;> (have h' := h; (try simp only [sx] at h')))) | (refine za6 ?_; first | (refine za5 true (k1) rfl rfl rfl aS rfl aH ?_; simp only [cl]) | (refine za5 true (k2) rfl rfl rfl aS rfl aH ?_; simp only [cl])) | (refine zax aA rfl rfl rfl ?_) | (refine zbx _ _ rfl rfl rfl rfl ?_) | (refine zau (hK _ _ (.inl rfl) ?_); clear hK K) | (refine zau (hK _ _ (.inr (by kernel_rfl)) ?_); clear hK K))
      | (refine za0 ?_; first | (refine zbq ?_) | (refine zah (fun K hK => ?_)) | (refine zas ?_) | (refine zaz ?_) | (refine zbo ?_) | (refine za3 ?_) | (refine zbk ?_; first | (refine zal rfl aD ?_) | (refine zam rfl aD ?_) | (refine zay rfl (fun h => ?_) (fun h => ?_) <;> (have h' := h; (try simp only [sx] at h')))))
      | (refine za1 ?_) | (refine zak ?_) | (refine zai ?_) | (refine zat ?_) | (refine zap ?_) | (refine zaq ?_) | (refine zar rfl ?_) | (refine zaj ?_) | (refine zag ?_) | (refine zbp ?_))
    all_goals first
      | (exfalso; omega)
      | exact aR
theorem k_iFirePath (b : Blz) (c : Int) (z : SzB b) (hs : b.src.length ≤ 1000000) : Con Try.prog 24 [.agg b.t.pv, .list 2 (b.ps.map Phase.pv), .list 1 (ints b.src), .int .i64 b.st, .int .i64 c] (paRes b c) := by
  intro al
  refine za7 hmix Try.func24 rfl (by kernel_rfl) (by kernel_rfl) (Nat.le_of_ble_eq_true rfl) (fun row h => by cases h) ?_
  have hty_a26 := ty_a26
  have hty_u27 := ty_u27
  have hty_s27 := ty_s27
  have hty_u24 := ty_u24
  have hty_s24 := ty_s24
  have hty_c3 := ty_c3
  have k1 := k_isFire b z
  have k2 := k_isCell b.t c z.hn
  by_cases hb : GoodB b
  · rw [decide_eq_true hb] at k1
    have kA := (Con.a (k_arrivals b hb z.hs)).frz rfl
    simp only [frz] at kA
    have hal := arr_len hb
    have hl2 : (ints (arr b)).length = (arr b).length := by simp
    have hgp := hb.2.1
    have hbs := hb.2.2
    have hlen := goodT_len hb.1.1
    by_cases hc : IsCell b.t c
    · rw [decide_eq_true (show 0 ≤ c ∧ c < (b.t.burn.length : Int) from hc)] at k2
      have hcc := hc
      unfold IsCell at hcc
      have hxc := tv_int (T := arr b) (c := c) aO
      by_cases hv : tv (arr b) c = -1
      · have hno : ¬ PaOk b c := fun h => h.2.2 hv
        rw [paRes, paL_f hno, paO_f hno]
        repeat' (first
      | (refine za2 ?_; first | (refine za4 ?_; refine zav _ rfl ?_) | (refine zaf ?_; refine zaa _ rfl ?_) | (refine zbu ?_; first | (refine zb0 rfl rfl aO ?_) | (refine zbt _ rfl rfl rfl ?_) | (refine zbi aA rfl rfl ?_) | (refine zby aA rfl rfl ?_) | (refine zaw _ rfl rfl rfl ?_)) | (refine g_un ?_; first | (refine zca rfl ?_) | (refine zb9 rfl aO ?_)) | (refine zbj ?_; first | (refine zae aA rfl ?_) | (refine zab _ aA rfl rfl aE rfl ?_) | (refine zac _ aA rfl aZ aL ?_) | (refine zad _ aA rfl rfl aE aZ aL ?_)) | (refine zbh ?_; first | (refine zao _ aA rfl rfl aO aA ?_) | (refine zan _ aA rfl rfl rfl rfl aO aO (by first | (rw [Nat.zero_add, Int.toNat_natCast]) | (rw [Nat.zero_add]) | rfl) ?_)) | (refine zbw ?_; first | (refine zbc rfl aD rfl ?_) | (refine zbd rfl aD ?_) | (refine zbf rfl aD ?_) | (refine zbg rfl aD rfl ?_)) | (refine zbl ?_; first | (refine zbv rfl rfl aD ?_) | (refine zb5 rfl rfl aD ?_) | (refine zb6 rfl rfl ?_) | (refine zbe rfl rfl (fun h => ?_) (fun h => ?_) <;> (have h' := h; (try simp only [sx] at h')))) | (refine za6 ?_; first | (refine za5 true (k1) rfl rfl rfl aS rfl aH ?_; simp only [cl]) | (refine za5 true (k2) rfl rfl rfl aS rfl aH ?_; simp only [cl]) | (refine zcp true (kA) rfl rfl rfl rfl rfl aS rfl aH ?_; simp only [cl]) | (refine zbb aA rfl ?_) | (refine za8 aA rfl rfl ?_) | (refine za9 aA rfl ?_) | (refine zba aA (evO_ok rfl) ?_) | (refine zb3 _ _ aA rfl (lookM (by rfl)) rfl (lookM (by rfl)) rfl aN ⟨rfl, rfl, by decide, by decide⟩ (by first | rfl | omega | (simp; done) | (simp; omega) | fail) ⟨by first | (simp only [List.length_cons, List.length_nil]; omega) | omega | fail, by decide⟩ rfl (by first | (first | (simp only [lx, Nat.reduceAdd]; first | done | rfl) | fail) | rfl) aP ?_) | (refine zb2 _ _ aA rfl rfl (lookM (by rfl)) ⟨rfl, by decide⟩ aN (by first | exact Nat.succ_pos _ | omega | (simp; done)) ⟨by first | (simp only [List.length_cons, List.length_nil]; omega) | omega | fail, by decide⟩ rfl rfl aP ?_) | (refine zb4 _ aA rfl rfl (lookM (by rfl)) ⟨rfl, by decide⟩ aN ⟨by first | (simp only [List.length_cons, List.length_nil]; omega) | omega | fail, by decide⟩ rfl aP ?_) | (refine zb1 _ aA rfl rfl rfl ⟨rfl, rfl, rfl, by decide, by decide⟩ (by first | rfl | (simp; done) | fail) ⟨by omega, by decide⟩ rfl aL (by first | (rw [Nat.zero_add]) | rfl) ?_)) | (refine zax aA rfl rfl rfl ?_) | (refine zbx _ _ rfl rfl rfl rfl ?_) | (refine zau (hK _ _ (.inl rfl) ?_); clear hK K) | (refine zau (hK _ _ (.inr (by kernel_rfl)) ?_); clear hK K))
      | (refine za0 ?_; first | (refine zbq ?_) | (refine zah (fun K hK => ?_)) | (refine zas ?_) | (refine zaz ?_) | (refine zbo ?_) | (refine za3 ?_) | (refine zbk ?_; first | (refine zal rfl aD ?_) | (refine zam rfl aD ?_) | (refine zay rfl (fun h => ?_) (fun h => ?_) <;> (have h' := h; (try simp only [sx] at h')))))
      | (refine za1 ?_) | (refine zak ?_) | (refine zai ?_) | (refine zat ?_) | (refine zap ?_) | (refine zaq ?_) | (refine zar rfl ?_) | (refine zaj ?_) | (refine zag ?_) | (refine zbp ?_))
        all_goals first
          | (exfalso; omega)
          | exact aR
      · have hok : PaOk b c := ⟨hb, hc, hv⟩
        have hpb := paL_bnd hok
        have hpi := (paL_is hok).1
        rw [paRes, paO_t hok]
        generalize paL b c = P at *
        repeat' (first
      | (refine za2 ?_; first | (refine za4 ?_; refine zav _ rfl ?_) | (refine zaf ?_; refine zaa _ rfl ?_) | (refine zbu ?_; first | (refine zb0 rfl rfl aO ?_) | (refine zbt _ rfl rfl rfl ?_) | (refine zbi aA rfl rfl ?_) | (refine zby aA rfl rfl ?_) | (refine zaw _ rfl rfl rfl ?_)) | (refine g_un ?_; first | (refine zca rfl ?_) | (refine zb9 rfl aO ?_)) | (refine zbj ?_; first | (refine zae aA rfl ?_) | (refine zab _ aA rfl rfl aE rfl ?_) | (refine zac _ aA rfl aZ aL ?_) | (refine zad _ aA rfl rfl aE aZ aL ?_)) | (refine zbh ?_; first | (refine zao _ aA rfl rfl aO aA ?_) | (refine zan _ aA rfl rfl rfl rfl aO aO (by first | (rw [Nat.zero_add, Int.toNat_natCast]) | (rw [Nat.zero_add]) | rfl) ?_)) | (refine zbw ?_; first | (refine zbc rfl aD rfl ?_) | (refine zbd rfl aD ?_) | (refine zbf rfl aD ?_) | (refine zbg rfl aD rfl ?_)) | (refine zbl ?_; first | (refine zbv rfl rfl aD ?_) | (refine zb5 rfl rfl aD ?_) | (refine zb6 rfl rfl ?_) | (refine zbe rfl rfl (fun h => ?_) (fun h => ?_) <;> (have h' := h; (try simp only [sx] at h')))) | (refine za6 ?_; first | (refine za5 true (k1) rfl rfl rfl aS rfl aH ?_; simp only [cl]) | (refine za5 true (k2) rfl rfl rfl aS rfl aH ?_; simp only [cl]) | (refine zcp true (kA) rfl rfl rfl rfl rfl aS rfl aH ?_; simp only [cl]) | (refine zbb aA rfl ?_) | (refine za8 aA rfl rfl ?_) | (refine za9 aA rfl ?_) | (refine zba aA (evO_ok rfl) ?_) | (refine zb3 _ _ aA rfl (lookM (by rfl)) rfl (lookM (by rfl)) rfl aN ⟨rfl, rfl, by decide, by decide⟩ (by first | rfl | omega | (simp; done) | (simp; omega) | fail) ⟨by first | (simp only [List.length_cons, List.length_nil]; omega) | omega | fail, by decide⟩ rfl (by first | (first | (simp only [lx, Nat.reduceAdd]; first | done | rfl) | fail) | rfl) aP ?_) | (refine zb2 _ _ aA rfl rfl (lookM (by rfl)) ⟨rfl, by decide⟩ aN (by first | exact Nat.succ_pos _ | omega | (simp; done)) ⟨by first | (simp only [List.length_cons, List.length_nil]; omega) | omega | fail, by decide⟩ rfl rfl aP ?_) | (refine zb4 _ aA rfl rfl (lookM (by rfl)) ⟨rfl, by decide⟩ aN ⟨by first | (simp only [List.length_cons, List.length_nil]; omega) | omega | fail, by decide⟩ rfl aP ?_) | (refine zb1 _ aA rfl rfl rfl ⟨rfl, rfl, rfl, by decide, by decide⟩ (by first | rfl | (simp; done) | fail) ⟨by omega, by decide⟩ rfl aL (by first | (rw [Nat.zero_add]) | rfl) ?_)) | (refine zax aA rfl rfl rfl ?_) | (refine zbx _ _ rfl rfl rfl rfl ?_) | (refine zau (hK _ _ (.inl rfl) ?_); clear hK K) | (refine zau (hK _ _ (.inr (by kernel_rfl)) ?_); clear hK K))
      | (refine za0 ?_; first | (refine zbq ?_) | (refine zah (fun K hK => ?_)) | (refine zas ?_) | (refine zaz ?_) | (refine zbo ?_) | (refine za3 ?_) | (refine zbk ?_; first | (refine zal rfl aD ?_) | (refine zam rfl aD ?_) | (refine zay rfl (fun h => ?_) (fun h => ?_) <;> (have h' := h; (try simp only [sx] at h')))))
      | (refine za1 ?_) | (refine zak ?_) | (refine zai ?_) | (refine zat ?_) | (refine zap ?_) | (refine zaq ?_) | (refine zar rfl ?_) | (refine zaj ?_) | (refine zag ?_) | (refine zbp ?_))
        all_goals try (exfalso; omega)
        refine zce [1, 2, 5, 12] [] (fun u : Int × List Int × List Int × List (List PV) × Nat => [(4, .int .i64 u.1), (13, .osl (1001, 0) 0 u.2.2.2.2)]) (fun u : Int × List Int × List Int × List (List PV) × Nat => [((1001, 0), some ⟨3, 1, u.2.2.2.1, false⟩)]) (fun u : Int × List Int × List Int × List (List PV) × Nat => IsPath b u.1 u.2.1 ∧ u.2.1 ++ u.2.2.1 = P ∧ u.2.2.2.1 = ints (u.1 :: u.2.2.1) ∧ (IsCell b.t u.1 ∧ tv (arr b) u.1 ≠ -1) ∧ u.2.2.2.1.length = u.2.2.2.2) (fun u : Int × List Int × List Int × List (List PV) × Nat => u.2.1.length) ((c, P, [], [[.int .i64 c]], 1)) rfl rfl (fun _ => rfl) (fun _ => rfl) rfl aW ⟨hpi, by simp, rfl, ⟨hc, hv⟩, rfl⟩ (fun u hu => ?_)
        obtain ⟨x, q, r, es, en⟩ := u
        obtain ⟨g1, g2, g3, ⟨hcx, hvx⟩, hen⟩ := hu
        simp only at g1 g2 g3 hcx hvx hen
        have hne := hen.symm
        dsimp only
        have hel : es.length = r.length + 1 := by rw [g3, ints_len]; rfl
        have hgl := congrArg List.length g2
        rw [List.length_append] at hgl
        have kH := k_hasInt b.src x aO
        have hx0 : es[0]? = some [.int .i64 x] := by rw [g3]; rfl
        have hcx' := hcx
        unfold IsCell at hcx'
        have hxx := tv_int (T := arr b) (c := x) aO
        cases g1 with
        | src hm =>
          rw [decide_eq_true hm] at kH
          have e : es = ints P := by rw [g3, ← g2]; rfl
          repeat' (first
      | (refine za2 ?_; first | (refine za4 ?_; refine zav _ rfl ?_) | (refine zaf ?_; refine zaa _ rfl ?_) | (refine zbu ?_; first | (refine zb0 rfl rfl aO ?_) | (refine zbt _ rfl rfl rfl ?_) | (refine zbi aA rfl rfl ?_) | (refine zby aA rfl rfl ?_) | (refine zaw _ rfl rfl rfl ?_)) | (refine g_un ?_; first | (refine zca rfl ?_) | (refine zb9 rfl aO ?_)) | (refine zbj ?_; first | (refine zae aA rfl ?_) | (refine zab _ aA rfl rfl aE rfl ?_) | (refine zac _ aA rfl aZ aL ?_) | (refine zad _ aA rfl rfl aE aZ aL ?_)) | (refine zbh ?_; first | (refine zao _ aA rfl rfl aO aA ?_) | (refine zan _ aA rfl rfl rfl rfl aO aO (by first | (rw [Nat.zero_add, Int.toNat_natCast]) | (rw [Nat.zero_add]) | rfl) ?_)) | (refine zbw ?_; first | (refine zbc rfl aD rfl ?_) | (refine zbd rfl aD ?_) | (refine zbf rfl aD ?_) | (refine zbg rfl aD rfl ?_)) | (refine zbl ?_; first | (refine zbv rfl rfl aD ?_) | (refine zb5 rfl rfl aD ?_) | (refine zb6 rfl rfl ?_) | (refine zbe rfl rfl (fun h => ?_) (fun h => ?_) <;> (have h' := h; (try simp only [sx] at h')))) | (refine za6 ?_; first | (refine za5 true (kH) rfl rfl rfl aS rfl aH ?_; simp only [cl]) | (refine zbb aA rfl ?_) | (refine za8 aA rfl rfl ?_) | (refine za9 aA rfl ?_) | (refine zba aA (evO_ok rfl) ?_) | (refine zb3 _ _ aA rfl (lookM (by rfl)) rfl (lookM (by rfl)) rfl aN ⟨rfl, rfl, by decide, by decide⟩ (by first | rfl | omega | (simp; done) | (simp; omega) | fail) ⟨by first | (simp only [List.length_cons, List.length_nil]; omega) | omega | fail, by decide⟩ rfl (by first | (first | (simp only [lx, Nat.reduceAdd]; first | done | rfl) | fail) | rfl) aP ?_) | (refine zb2 _ _ aA rfl rfl (lookM (by rfl)) ⟨rfl, by decide⟩ aN (by first | exact Nat.succ_pos _ | omega | (simp; done)) ⟨by first | (simp only [List.length_cons, List.length_nil]; omega) | omega | fail, by decide⟩ rfl rfl aP ?_) | (refine zb4 _ aA rfl rfl (lookM (by rfl)) ⟨rfl, by decide⟩ aN ⟨by first | (simp only [List.length_cons, List.length_nil]; omega) | omega | fail, by decide⟩ rfl aP ?_) | (refine zb1 _ aA rfl rfl rfl ⟨rfl, rfl, rfl, by decide, by decide⟩ (by first | rfl | (simp; done) | fail) ⟨by omega, by decide⟩ rfl aL (by first | (rw [Nat.zero_add]) | rfl) ?_)) | (refine zax aA rfl rfl rfl ?_) | (refine zbx _ _ rfl rfl rfl rfl ?_) | (refine zau (hK _ _ (.inl rfl) ?_); clear hK K) | (refine zau (hK _ _ (.inr (by kernel_rfl)) ?_); clear hK K))
      | (refine za0 ?_; first | (refine zbq ?_) | (refine zah (fun K hK => ?_)) | (refine zas ?_) | (refine zaz ?_) | (refine zbo ?_) | (refine za3 ?_) | (refine zbk ?_; first | (refine zal rfl aD ?_) | (refine zam rfl aD ?_) | (refine zay rfl (fun h => ?_) (fun h => ?_) <;> (have h' := h; (try simp only [sx] at h')))))
      | (refine za1 ?_) | (refine zak ?_) | (refine zai ?_) | (refine zat ?_) | (refine zap ?_) | (refine zaq ?_) | (refine zar rfl ?_) | (refine zaj ?_) | (refine zag ?_) | (refine zbp ?_))
          all_goals first
            | (exfalso; omega)
            | ((first | refine ret_T rfl rfl rfl (by first | exact trivial | (repeat' (first | exact trivial | refine ⟨by assumption, ?_⟩))) (by repeat' (first | exact trivial | refine ⟨by simp, ?_⟩)) ?_ | refine ret_A rfl rfl rfl (by first | exact trivial | (repeat' (first | exact trivial | refine ⟨by assumption, ?_⟩))) (by repeat' (first | exact trivial | refine ⟨by simp, ?_⟩)) ?_); (repeat' (first | exact et_end | exact el_end | refine et_int rfl ?_ ?_ | refine et_bool ?_ ?_ | refine et_str ?_ ?_ | refine et_list (by rfl) (by decide) rfl rfl ?_ ?_ ?_ ?_ | refine et_nil ?_ ?_ | refine et_agg ?_ ?_ | refine el_int rfl ?_ ?_ | refine el_bool ?_ ?_ | refine el_str ?_ ?_ | refine el_list (by rfl) (by decide) rfl rfl ?_ ?_ ?_ ?_ | refine el_nil ?_ ?_)) <;> first | rfl | assumption | (rw [e]; exact ints_flat _))
        | @step _ k n p hm hf hp =>
          rw [decide_eq_false hm] at kH
          have hfc := hf.facts hb hcx hvx
          have kN := (Con.a (k_neighbors b.t x hb.1.1 hcx)).frz rfl
          simp only [frz] at kN
          have hnl := nears_len b.t x
          have hkl := get_lt hf.at_
          have hl1 : (ints (nears b.t x)).length = (nears b.t x).length := by simp
          rw [List.length_append, List.length_singleton] at hgl
          repeat' (first
      | (refine za2 ?_; first | (refine za4 ?_; refine zav _ rfl ?_) | (refine zaf ?_; refine zaa _ rfl ?_) | (refine zbu ?_; first | (refine zb0 rfl rfl aO ?_) | (refine zbt _ rfl rfl rfl ?_) | (refine zbi aA rfl rfl ?_) | (refine zby aA rfl rfl ?_) | (refine zaw _ rfl rfl rfl ?_)) | (refine g_un ?_; first | (refine zca rfl ?_) | (refine zb9 rfl aO ?_)) | (refine zbj ?_; first | (refine zae aA rfl ?_) | (refine zab _ aA rfl rfl aE rfl ?_) | (refine zac _ aA rfl aZ aL ?_) | (refine zad _ aA rfl rfl aE aZ aL ?_)) | (refine zbh ?_; first | (refine zao _ aA rfl rfl aO aA ?_) | (refine zan _ aA rfl rfl rfl rfl aO aO (by first | (rw [Nat.zero_add, Int.toNat_natCast]) | (rw [Nat.zero_add]) | rfl) ?_)) | (refine zbw ?_; first | (refine zbc rfl aD rfl ?_) | (refine zbd rfl aD ?_) | (refine zbf rfl aD ?_) | (refine zbg rfl aD rfl ?_)) | (refine zbl ?_; first | (refine zbv rfl rfl aD ?_) | (refine zb5 rfl rfl aD ?_) | (refine zb6 rfl rfl ?_) | (refine zbe rfl rfl (fun h => ?_) (fun h => ?_) <;> (have h' := h; (try simp only [sx] at h')))) | (refine za6 ?_; first | (refine za5 true (kH) rfl rfl rfl aS rfl aH ?_; simp only [cl]) | (refine zcp true (kN) rfl rfl rfl rfl rfl aS rfl aH ?_; simp only [cl]) | (refine zbb aA rfl ?_) | (refine za8 aA rfl rfl ?_) | (refine za9 aA rfl ?_) | (refine zba aA (evO_ok rfl) ?_) | (refine zb3 _ _ aA rfl (lookM (by rfl)) rfl (lookM (by rfl)) rfl aN ⟨rfl, rfl, by decide, by decide⟩ (by first | rfl | omega | (simp; done) | (simp; omega) | fail) ⟨by first | (simp only [List.length_cons, List.length_nil]; omega) | omega | fail, by decide⟩ rfl (by first | (first | (simp only [lx, Nat.reduceAdd]; first | done | rfl) | fail) | rfl) aP ?_) | (refine zb2 _ _ aA rfl rfl (lookM (by rfl)) ⟨rfl, by decide⟩ aN (by first | exact Nat.succ_pos _ | omega | (simp; done)) ⟨by first | (simp only [List.length_cons, List.length_nil]; omega) | omega | fail, by decide⟩ rfl rfl aP ?_) | (refine zb4 _ aA rfl rfl (lookM (by rfl)) ⟨rfl, by decide⟩ aN ⟨by first | (simp only [List.length_cons, List.length_nil]; omega) | omega | fail, by decide⟩ rfl aP ?_) | (refine zb1 _ aA rfl rfl rfl ⟨rfl, rfl, rfl, by decide, by decide⟩ (by first | rfl | (simp; done) | fail) ⟨by omega, by decide⟩ rfl aL (by first | (rw [Nat.zero_add]) | rfl) ?_)) | (refine zax aA rfl rfl rfl ?_) | (refine zbx _ _ rfl rfl rfl rfl ?_) | (refine zau (hK _ _ (.inl rfl) ?_); clear hK K) | (refine zau (hK _ _ (.inr (by kernel_rfl)) ?_); clear hK K))
      | (refine za0 ?_; first | (refine zbq ?_) | (refine zah (fun K hK => ?_)) | (refine zas ?_) | (refine zaz ?_) | (refine zbo ?_) | (refine za3 ?_) | (refine zbk ?_; first | (refine zal rfl aD ?_) | (refine zam rfl aD ?_) | (refine zay rfl (fun h => ?_) (fun h => ?_) <;> (have h' := h; (try simp only [sx] at h')))))
      | (refine za1 ?_) | (refine zak ?_) | (refine zai ?_) | (refine zat ?_) | (refine zap ?_) | (refine zaq ?_) | (refine zar rfl ?_) | (refine zaj ?_) | (refine zag ?_) | (refine zbp ?_))
          all_goals try (exfalso; omega)
          refine zce [1, 2, 5, 12, 13, 48, 49] [] (fun i : Nat => [(4, .int .i64 (-1)), (50, .int .i64 i)]) (fun i : Nat => []) (fun i : Nat => i ≤ k) (fun i : Nat => k + 1 - i) (0) rfl rfl (fun _ => rfl) (fun _ => rfl) rfl aW aO (fun i hi => ?_)
          obtain ⟨m, hmi⟩ := get_ex (show i < (nears b.t x).length by omega)
          have hxm := ints_at hmi
          have hcm := (nears_mem.1 (get_mem hmi)).1
          have hcm' := hcm
          unfold IsCell at hcm'
          have hxt := tv_int (T := arr b) (c := m) aO
          have kB := k_burns b.t m hb.1.1 hcm
          have kW := k_work b.t m x hb.1.1 hcm hcx
          have hwk := wk_bnd hb hcm hcx
          rcases Nat.lt_or_ge i k with hlt | hge
          · have hno := hf.no i m hlt hmi
            by_cases hv2 : tv (arr b) m = -1
            · generalize decide (0 < burnAt b.t m) = bb at *
              cases bb
              · repeat' (first
      | (refine za2 ?_; first | (refine za4 ?_; refine zav _ rfl ?_) | (refine zaf ?_; refine zaa _ rfl ?_) | (refine zbu ?_; first | (refine zb0 rfl rfl aO ?_) | (refine zbt _ rfl rfl rfl ?_) | (refine zbi aA rfl rfl ?_) | (refine zby aA rfl rfl ?_) | (refine zaw _ rfl rfl rfl ?_)) | (refine g_un ?_; first | (refine zca rfl ?_) | (refine zb9 rfl aO ?_)) | (refine zbj ?_; first | (refine zae aA rfl ?_) | (refine zab _ aA rfl rfl aE rfl ?_) | (refine zac _ aA rfl aZ aL ?_) | (refine zad _ aA rfl rfl aE aZ aL ?_)) | (refine zbh ?_; first | (refine zao _ aA rfl rfl aO aA ?_) | (refine zan _ aA rfl rfl rfl rfl aO aO (by first | (rw [Nat.zero_add, Int.toNat_natCast]) | (rw [Nat.zero_add]) | rfl) ?_)) | (refine zbw ?_; first | (refine zbc rfl aD rfl ?_) | (refine zbd rfl aD ?_) | (refine zbf rfl aD ?_) | (refine zbg rfl aD rfl ?_)) | (refine zbl ?_; first | (refine zbv rfl rfl aD ?_) | (refine zb5 rfl rfl aD ?_) | (refine zb6 rfl rfl ?_) | (refine zbe rfl rfl (fun h => ?_) (fun h => ?_) <;> (have h' := h; (try simp only [sx] at h')))) | (refine za6 ?_; first | (refine za5 true (kB) rfl rfl rfl aS rfl aH ?_; simp only [cl]) | (refine zbb aA rfl ?_) | (refine za8 aA rfl rfl ?_) | (refine za9 aA rfl ?_) | (refine zba aA (evO_ok rfl) ?_) | (refine zb3 _ _ aA rfl (lookM (by rfl)) rfl (lookM (by rfl)) rfl aN ⟨rfl, rfl, by decide, by decide⟩ (by first | rfl | omega | (simp; done) | (simp; omega) | fail) ⟨by first | (simp only [List.length_cons, List.length_nil]; omega) | omega | fail, by decide⟩ rfl (by first | (first | (simp only [lx, Nat.reduceAdd]; first | done | rfl) | fail) | rfl) aP ?_) | (refine zb2 _ _ aA rfl rfl (lookM (by rfl)) ⟨rfl, by decide⟩ aN (by first | exact Nat.succ_pos _ | omega | (simp; done)) ⟨by first | (simp only [List.length_cons, List.length_nil]; omega) | omega | fail, by decide⟩ rfl rfl aP ?_) | (refine zb4 _ aA rfl rfl (lookM (by rfl)) ⟨rfl, by decide⟩ aN ⟨by first | (simp only [List.length_cons, List.length_nil]; omega) | omega | fail, by decide⟩ rfl aP ?_) | (refine zb1 _ aA rfl rfl rfl ⟨rfl, rfl, rfl, by decide, by decide⟩ (by first | rfl | (simp; done) | fail) ⟨by omega, by decide⟩ rfl aL (by first | (rw [Nat.zero_add]) | rfl) ?_)) | (refine zax aA rfl rfl rfl ?_) | (refine zbx _ _ rfl rfl rfl rfl ?_) | (refine zau (hK _ _ (.inl rfl) ?_); clear hK K) | (refine zau (hK _ _ (.inr (by kernel_rfl)) ?_); clear hK K))
      | (refine za0 ?_; first | (refine zbq ?_) | (refine zah (fun K hK => ?_)) | (refine zas ?_) | (refine zaz ?_) | (refine zbo ?_) | (refine za3 ?_) | (refine zbk ?_; first | (refine zal rfl aD ?_) | (refine zam rfl aD ?_) | (refine zay rfl (fun h => ?_) (fun h => ?_) <;> (have h' := h; (try simp only [sx] at h')))))
      | (refine za1 ?_) | (refine zak ?_) | (refine zai ?_) | (refine zat ?_) | (refine zap ?_) | (refine zaq ?_) | (refine zar rfl ?_) | (refine zaj ?_) | (refine zag ?_) | (refine zbp ?_))
                all_goals first
                  | (exfalso; omega)
                  | (refine zcb (i + 1) rfl aW aO aO)
              · repeat' (first
      | (refine za2 ?_; first | (refine za4 ?_; refine zav _ rfl ?_) | (refine zaf ?_; refine zaa _ rfl ?_) | (refine zbu ?_; first | (refine zb0 rfl rfl aO ?_) | (refine zbt _ rfl rfl rfl ?_) | (refine zbi aA rfl rfl ?_) | (refine zby aA rfl rfl ?_) | (refine zaw _ rfl rfl rfl ?_)) | (refine g_un ?_; first | (refine zca rfl ?_) | (refine zb9 rfl aO ?_)) | (refine zbj ?_; first | (refine zae aA rfl ?_) | (refine zab _ aA rfl rfl aE rfl ?_) | (refine zac _ aA rfl aZ aL ?_) | (refine zad _ aA rfl rfl aE aZ aL ?_)) | (refine zbh ?_; first | (refine zao _ aA rfl rfl aO aA ?_) | (refine zan _ aA rfl rfl rfl rfl aO aO (by first | (rw [Nat.zero_add, Int.toNat_natCast]) | (rw [Nat.zero_add]) | rfl) ?_)) | (refine zbw ?_; first | (refine zbc rfl aD rfl ?_) | (refine zbd rfl aD ?_) | (refine zbf rfl aD ?_) | (refine zbg rfl aD rfl ?_)) | (refine zbl ?_; first | (refine zbv rfl rfl aD ?_) | (refine zb5 rfl rfl aD ?_) | (refine zb6 rfl rfl ?_) | (refine zbe rfl rfl (fun h => ?_) (fun h => ?_) <;> (have h' := h; (try simp only [sx] at h')))) | (refine za6 ?_; first | (refine za5 true (kB) rfl rfl rfl aS rfl aH ?_; simp only [cl]) | (refine zbb aA rfl ?_) | (refine za8 aA rfl rfl ?_) | (refine za9 aA rfl ?_) | (refine zba aA (evO_ok rfl) ?_) | (refine zb3 _ _ aA rfl (lookM (by rfl)) rfl (lookM (by rfl)) rfl aN ⟨rfl, rfl, by decide, by decide⟩ (by first | rfl | omega | (simp; done) | (simp; omega) | fail) ⟨by first | (simp only [List.length_cons, List.length_nil]; omega) | omega | fail, by decide⟩ rfl (by first | (first | (simp only [lx, Nat.reduceAdd]; first | done | rfl) | fail) | rfl) aP ?_) | (refine zb2 _ _ aA rfl rfl (lookM (by rfl)) ⟨rfl, by decide⟩ aN (by first | exact Nat.succ_pos _ | omega | (simp; done)) ⟨by first | (simp only [List.length_cons, List.length_nil]; omega) | omega | fail, by decide⟩ rfl rfl aP ?_) | (refine zb4 _ aA rfl rfl (lookM (by rfl)) ⟨rfl, by decide⟩ aN ⟨by first | (simp only [List.length_cons, List.length_nil]; omega) | omega | fail, by decide⟩ rfl aP ?_) | (refine zb1 _ aA rfl rfl rfl ⟨rfl, rfl, rfl, by decide, by decide⟩ (by first | rfl | (simp; done) | fail) ⟨by omega, by decide⟩ rfl aL (by first | (rw [Nat.zero_add]) | rfl) ?_)) | (refine zax aA rfl rfl rfl ?_) | (refine zbx _ _ rfl rfl rfl rfl ?_) | (refine zau (hK _ _ (.inl rfl) ?_); clear hK K) | (refine zau (hK _ _ (.inr (by kernel_rfl)) ?_); clear hK K))
      | (refine za0 ?_; first | (refine zbq ?_) | (refine zah (fun K hK => ?_)) | (refine zas ?_) | (refine zaz ?_) | (refine zbo ?_) | (refine za3 ?_) | (refine zbk ?_; first | (refine zal rfl aD ?_) | (refine zam rfl aD ?_) | (refine zay rfl (fun h => ?_) (fun h => ?_) <;> (have h' := h; (try simp only [sx] at h')))))
      | (refine za1 ?_) | (refine zak ?_) | (refine zai ?_) | (refine zat ?_) | (refine zap ?_) | (refine zaq ?_) | (refine zar rfl ?_) | (refine zaj ?_) | (refine zag ?_) | (refine zbp ?_))
                all_goals first
                  | (exfalso; omega)
                  | (refine zcb (i + 1) rfl aW aO aO)
            · have hst := arr_start hb hcm hv2
              have hne2 : dn (spF b.ps) (tv (arr b) m) (wkF b.t m x) ≠ tv (arr b) x := fun e => hno ⟨hv2, e⟩
              have kD := k_done b.ps (tv (arr b) m) (wkF b.t m x) hgp aO aO
              rw [decide_eq_true hst.2.1] at kB
              repeat' (first
      | (refine za2 ?_; first | (refine za4 ?_; refine zav _ rfl ?_) | (refine zaf ?_; refine zaa _ rfl ?_) | (refine zbu ?_; first | (refine zb0 rfl rfl aO ?_) | (refine zbt _ rfl rfl rfl ?_) | (refine zbi aA rfl rfl ?_) | (refine zby aA rfl rfl ?_) | (refine zaw _ rfl rfl rfl ?_)) | (refine g_un ?_; first | (refine zca rfl ?_) | (refine zb9 rfl aO ?_)) | (refine zbj ?_; first | (refine zae aA rfl ?_) | (refine zab _ aA rfl rfl aE rfl ?_) | (refine zac _ aA rfl aZ aL ?_) | (refine zad _ aA rfl rfl aE aZ aL ?_)) | (refine zbh ?_; first | (refine zao _ aA rfl rfl aO aA ?_) | (refine zan _ aA rfl rfl rfl rfl aO aO (by first | (rw [Nat.zero_add, Int.toNat_natCast]) | (rw [Nat.zero_add]) | rfl) ?_)) | (refine zbw ?_; first | (refine zbc rfl aD rfl ?_) | (refine zbd rfl aD ?_) | (refine zbf rfl aD ?_) | (refine zbg rfl aD rfl ?_)) | (refine zbl ?_; first | (refine zbv rfl rfl aD ?_) | (refine zb5 rfl rfl aD ?_) | (refine zb6 rfl rfl ?_) | (refine zbe rfl rfl (fun h => ?_) (fun h => ?_) <;> (have h' := h; (try simp only [sx] at h')))) | (refine za6 ?_; first | (refine za5 true (kB) rfl rfl rfl aS rfl aH ?_; simp only [cl]) | (refine za5 true (kW) rfl rfl rfl aS rfl aH ?_; simp only [cl]) | (refine za5 true (kD) rfl rfl rfl aS rfl aH ?_; simp only [cl]) | (refine zbb aA rfl ?_) | (refine za8 aA rfl rfl ?_) | (refine za9 aA rfl ?_) | (refine zba aA (evO_ok rfl) ?_) | (refine zb3 _ _ aA rfl (lookM (by rfl)) rfl (lookM (by rfl)) rfl aN ⟨rfl, rfl, by decide, by decide⟩ (by first | rfl | omega | (simp; done) | (simp; omega) | fail) ⟨by first | (simp only [List.length_cons, List.length_nil]; omega) | omega | fail, by decide⟩ rfl (by first | (first | (simp only [lx, Nat.reduceAdd]; first | done | rfl) | fail) | rfl) aP ?_) | (refine zb2 _ _ aA rfl rfl (lookM (by rfl)) ⟨rfl, by decide⟩ aN (by first | exact Nat.succ_pos _ | omega | (simp; done)) ⟨by first | (simp only [List.length_cons, List.length_nil]; omega) | omega | fail, by decide⟩ rfl rfl aP ?_) | (refine zb4 _ aA rfl rfl (lookM (by rfl)) ⟨rfl, by decide⟩ aN ⟨by first | (simp only [List.length_cons, List.length_nil]; omega) | omega | fail, by decide⟩ rfl aP ?_) | (refine zb1 _ aA rfl rfl rfl ⟨rfl, rfl, rfl, by decide, by decide⟩ (by first | rfl | (simp; done) | fail) ⟨by omega, by decide⟩ rfl aL (by first | (rw [Nat.zero_add]) | rfl) ?_)) | (refine zax aA rfl rfl rfl ?_) | (refine zbx _ _ rfl rfl rfl rfl ?_) | (refine zau (hK _ _ (.inl rfl) ?_); clear hK K) | (refine zau (hK _ _ (.inr (by kernel_rfl)) ?_); clear hK K))
      | (refine za0 ?_; first | (refine zbq ?_) | (refine zah (fun K hK => ?_)) | (refine zas ?_) | (refine zaz ?_) | (refine zbo ?_) | (refine za3 ?_) | (refine zbk ?_; first | (refine zal rfl aD ?_) | (refine zam rfl aD ?_) | (refine zay rfl (fun h => ?_) (fun h => ?_) <;> (have h' := h; (try simp only [sx] at h')))))
      | (refine za1 ?_) | (refine zak ?_) | (refine zai ?_) | (refine zat ?_) | (refine zap ?_) | (refine zaq ?_) | (refine zar rfl ?_) | (refine zaj ?_) | (refine zag ?_) | (refine zbp ?_))
              all_goals first
                | (exfalso; omega)
                | (refine zcb (i + 1) rfl aW aO aO)
          · have : i = k := by omega
            subst this
            have : m = n := nosome hmi hf.at_
            subst this
            have hv2 := hf.ok.1
            have he : dn (spF b.ps) (tv (arr b) m) (wkF b.t m x) = tv (arr b) x := hf.ok.2
            have hst := arr_start hb hcm hv2
            have kD := k_done b.ps (tv (arr b) m) (wkF b.t m x) hgp aO aO
            rw [decide_eq_true hst.2.1] at kB
            repeat' (first
      | (refine za2 ?_; first | (refine za4 ?_; refine zav _ rfl ?_) | (refine zaf ?_; refine zaa _ rfl ?_) | (refine zbu ?_; first | (refine zb0 rfl rfl aO ?_) | (refine zbt _ rfl rfl rfl ?_) | (refine zbi aA rfl rfl ?_) | (refine zby aA rfl rfl ?_) | (refine zaw _ rfl rfl rfl ?_)) | (refine g_un ?_; first | (refine zca rfl ?_) | (refine zb9 rfl aO ?_)) | (refine zbj ?_; first | (refine zae aA rfl ?_) | (refine zab _ aA rfl rfl aE rfl ?_) | (refine zac _ aA rfl aZ aL ?_) | (refine zad _ aA rfl rfl aE aZ aL ?_)) | (refine zbh ?_; first | (refine zao _ aA rfl rfl aO aA ?_) | (refine zan _ aA rfl rfl rfl rfl aO aO (by first | (rw [Nat.zero_add, Int.toNat_natCast]) | (rw [Nat.zero_add]) | rfl) ?_)) | (refine zbw ?_; first | (refine zbc rfl aD rfl ?_) | (refine zbd rfl aD ?_) | (refine zbf rfl aD ?_) | (refine zbg rfl aD rfl ?_)) | (refine zbl ?_; first | (refine zbv rfl rfl aD ?_) | (refine zb5 rfl rfl aD ?_) | (refine zb6 rfl rfl ?_) | (refine zbe rfl rfl (fun h => ?_) (fun h => ?_) <;> (have h' := h; (try simp only [sx] at h')))) | (refine za6 ?_; first | (refine za5 true (kB) rfl rfl rfl aS rfl aH ?_; simp only [cl]) | (refine za5 true (kW) rfl rfl rfl aS rfl aH ?_; simp only [cl]) | (refine za5 true (kD) rfl rfl rfl aS rfl aH ?_; simp only [cl]) | (refine zbb aA rfl ?_) | (refine za8 aA rfl rfl ?_) | (refine za9 aA rfl ?_) | (refine zba aA (evO_ok rfl) ?_) | (refine zb3 _ _ aA rfl (lookM (by rfl)) rfl (lookM (by rfl)) rfl aN ⟨rfl, rfl, by decide, by decide⟩ (by first | rfl | omega | (simp; done) | (simp; omega) | fail) ⟨by first | (simp only [List.length_cons, List.length_nil]; omega) | omega | fail, by decide⟩ rfl (by first | (first | (simp only [lx, Nat.reduceAdd]; first | done | rfl) | fail) | rfl) aP ?_) | (refine zb2 _ _ aA rfl rfl (lookM (by rfl)) ⟨rfl, by decide⟩ aN (by first | exact Nat.succ_pos _ | omega | (simp; done)) ⟨by first | (simp only [List.length_cons, List.length_nil]; omega) | omega | fail, by decide⟩ rfl rfl aP ?_) | (refine zb4 _ aA rfl rfl (lookM (by rfl)) ⟨rfl, by decide⟩ aN ⟨by first | (simp only [List.length_cons, List.length_nil]; omega) | omega | fail, by decide⟩ rfl aP ?_) | (refine zb1 _ aA rfl rfl rfl ⟨rfl, rfl, rfl, by decide, by decide⟩ (by first | rfl | (simp; done) | fail) ⟨by omega, by decide⟩ rfl aL (by first | (rw [Nat.zero_add]) | rfl) ?_)) | (refine zax aA rfl rfl rfl ?_) | (refine zbx _ _ rfl rfl rfl rfl ?_) | (refine zau (hK _ _ (.inl rfl) ?_); clear hK K) | (refine zau (hK _ _ (.inr (by kernel_rfl)) ?_); clear hK K))
      | (refine za0 ?_; first | (refine zbq ?_) | (refine zah (fun K hK => ?_)) | (refine zas ?_) | (refine zaz ?_) | (refine zbo ?_) | (refine za3 ?_) | (refine zbk ?_; first | (refine zal rfl aD ?_) | (refine zam rfl aD ?_) | (refine zay rfl (fun h => ?_) (fun h => ?_) <;> (have h' := h; (try simp only [sx] at h')))))
      | (refine za1 ?_) | (refine zak ?_) | (refine zai ?_) | (refine zat ?_) | (refine zap ?_) | (refine zaq ?_) | (refine zar rfl ?_) | (refine zaj ?_) | (refine zag ?_) | (refine zbp ?_))
            all_goals first
              | (exfalso; omega)
              | (refine zcb (m, p, x :: r, [[.int .i64 m]] ++ es, 1 + es.length) rfl aW ⟨hp, by rw [← g2]; simp, by rw [g3]; rfl, ⟨hcm, hv2⟩, by simp only [List.length_append, List.length_singleton]⟩ (by simp only [List.length_append, List.length_singleton]; omega))
    · rw [decide_eq_false (show ¬ (0 ≤ c ∧ c < (b.t.burn.length : Int)) from hc)] at k2
      have hno : ¬ PaOk b c := fun h => hc h.2.1
      rw [paRes, paL_f hno, paO_f hno]
      repeat' (first
      | (refine za2 ?_; first | (refine za4 ?_; refine zav _ rfl ?_) | (refine zaf ?_; refine zaa _ rfl ?_) | (refine zbu ?_; first | (refine zb0 rfl rfl aO ?_) | (refine zbt _ rfl rfl rfl ?_) | (refine zbi aA rfl rfl ?_) | (refine zby aA rfl rfl ?_) | (refine zaw _ rfl rfl rfl ?_)) | (refine g_un ?_; first | (refine zca rfl ?_) | (refine zb9 rfl aO ?_)) | (refine zbj ?_; first | (refine zae aA rfl ?_) | (refine zab _ aA rfl rfl aE rfl ?_) | (refine zac _ aA rfl aZ aL ?_) | (refine zad _ aA rfl rfl aE aZ aL ?_)) | (refine zbh ?_; first | (refine zao _ aA rfl rfl aO aA ?_) | (refine zan _ aA rfl rfl rfl rfl aO aO (by first | (rw [Nat.zero_add, Int.toNat_natCast]) | (rw [Nat.zero_add]) | rfl) ?_)) | (refine zbw ?_; first | (refine zbc rfl aD rfl ?_) | (refine zbd rfl aD ?_) | (refine zbf rfl aD ?_) | (refine zbg rfl aD rfl ?_)) | (refine zbl ?_; first | (refine zbv rfl rfl aD ?_) | (refine zb5 rfl rfl aD ?_) | (refine zb6 rfl rfl ?_) | (refine zbe rfl rfl (fun h => ?_) (fun h => ?_) <;> (have h' := h; (try simp only [sx] at h')))) | (refine za6 ?_; first | (refine za5 true (k1) rfl rfl rfl aS rfl aH ?_; simp only [cl]) | (refine za5 true (k2) rfl rfl rfl aS rfl aH ?_; simp only [cl]) | (refine zbb aA rfl ?_) | (refine za8 aA rfl rfl ?_) | (refine za9 aA rfl ?_) | (refine zba aA (evO_ok rfl) ?_) | (refine zb3 _ _ aA rfl (lookM (by rfl)) rfl (lookM (by rfl)) rfl aN ⟨rfl, rfl, by decide, by decide⟩ (by first | rfl | omega | (simp; done) | (simp; omega) | fail) ⟨by first | (simp only [List.length_cons, List.length_nil]; omega) | omega | fail, by decide⟩ rfl (by first | (first | (simp only [lx, Nat.reduceAdd]; first | done | rfl) | fail) | rfl) aP ?_) | (refine zb2 _ _ aA rfl rfl (lookM (by rfl)) ⟨rfl, by decide⟩ aN (by first | exact Nat.succ_pos _ | omega | (simp; done)) ⟨by first | (simp only [List.length_cons, List.length_nil]; omega) | omega | fail, by decide⟩ rfl rfl aP ?_) | (refine zb4 _ aA rfl rfl (lookM (by rfl)) ⟨rfl, by decide⟩ aN ⟨by first | (simp only [List.length_cons, List.length_nil]; omega) | omega | fail, by decide⟩ rfl aP ?_) | (refine zb1 _ aA rfl rfl rfl ⟨rfl, rfl, rfl, by decide, by decide⟩ (by first | rfl | (simp; done) | fail) ⟨by omega, by decide⟩ rfl aL (by first | (rw [Nat.zero_add]) | rfl) ?_)) | (refine zax aA rfl rfl rfl ?_) | (refine zbx _ _ rfl rfl rfl rfl ?_) | (refine zau (hK _ _ (.inl rfl) ?_); clear hK K) | (refine zau (hK _ _ (.inr (by kernel_rfl)) ?_); clear hK K))
      | (refine za0 ?_; first | (refine zbq ?_) | (refine zah (fun K hK => ?_)) | (refine zas ?_) | (refine zaz ?_) | (refine zbo ?_) | (refine za3 ?_) | (refine zbk ?_; first | (refine zal rfl aD ?_) | (refine zam rfl aD ?_) | (refine zay rfl (fun h => ?_) (fun h => ?_) <;> (have h' := h; (try simp only [sx] at h')))))
      | (refine za1 ?_) | (refine zak ?_) | (refine zai ?_) | (refine zat ?_) | (refine zap ?_) | (refine zaq ?_) | (refine zar rfl ?_) | (refine zaj ?_) | (refine zag ?_) | (refine zbp ?_))
      all_goals first
        | (exfalso; omega)
        | exact aR
  · rw [decide_eq_false hb] at k1
    have hno : ¬ PaOk b c := fun h => hb h.1
    rw [paRes, paL_f hno, paO_f hno]
    repeat' (first
      | (refine za2 ?_; first | (refine za4 ?_; refine zav _ rfl ?_) | (refine zaf ?_; refine zaa _ rfl ?_) | (refine zbu ?_; first | (refine zb0 rfl rfl aO ?_) | (refine zbt _ rfl rfl rfl ?_) | (refine zbi aA rfl rfl ?_) | (refine zby aA rfl rfl ?_) | (refine zaw _ rfl rfl rfl ?_)) | (refine g_un ?_; first | (refine zca rfl ?_) | (refine zb9 rfl aO ?_)) | (refine zbj ?_; first | (refine zae aA rfl ?_) | (refine zab _ aA rfl rfl aE rfl ?_) | (refine zac _ aA rfl aZ aL ?_) | (refine zad _ aA rfl rfl aE aZ aL ?_)) | (refine zbh ?_; first | (refine zao _ aA rfl rfl aO aA ?_) | (refine zan _ aA rfl rfl rfl rfl aO aO (by first | (rw [Nat.zero_add, Int.toNat_natCast]) | (rw [Nat.zero_add]) | rfl) ?_)) | (refine zbw ?_; first | (refine zbc rfl aD rfl ?_) | (refine zbd rfl aD ?_) | (refine zbf rfl aD ?_) | (refine zbg rfl aD rfl ?_)) | (refine zbl ?_; first | (refine zbv rfl rfl aD ?_) | (refine zb5 rfl rfl aD ?_) | (refine zb6 rfl rfl ?_) | (refine zbe rfl rfl (fun h => ?_) (fun h => ?_) <;> (have h' := h; (try simp only [sx] at h')))) | (refine za6 ?_; first | (refine za5 true (k1) rfl rfl rfl aS rfl aH ?_; simp only [cl]) | (refine za5 true (k2) rfl rfl rfl aS rfl aH ?_; simp only [cl]) | (refine zbb aA rfl ?_) | (refine za8 aA rfl rfl ?_) | (refine za9 aA rfl ?_) | (refine zba aA (evO_ok rfl) ?_) | (refine zb3 _ _ aA rfl (lookM (by rfl)) rfl (lookM (by rfl)) rfl aN ⟨rfl, rfl, by decide, by decide⟩ (by first | rfl | omega | (simp; done) | (simp; omega) | fail) ⟨by first | (simp only [List.length_cons, List.length_nil]; omega) | omega | fail, by decide⟩ rfl (by first | (first | (simp only [lx, Nat.reduceAdd]; first | done | rfl) | fail) | rfl) aP ?_) | (refine zb2 _ _ aA rfl rfl (lookM (by rfl)) ⟨rfl, by decide⟩ aN (by first | exact Nat.succ_pos _ | omega | (simp; done)) ⟨by first | (simp only [List.length_cons, List.length_nil]; omega) | omega | fail, by decide⟩ rfl rfl aP ?_) | (refine zb4 _ aA rfl rfl (lookM (by rfl)) ⟨rfl, by decide⟩ aN ⟨by first | (simp only [List.length_cons, List.length_nil]; omega) | omega | fail, by decide⟩ rfl aP ?_) | (refine zb1 _ aA rfl rfl rfl ⟨rfl, rfl, rfl, by decide, by decide⟩ (by first | rfl | (simp; done) | fail) ⟨by omega, by decide⟩ rfl aL (by first | (rw [Nat.zero_add]) | rfl) ?_)) | (refine zax aA rfl rfl rfl ?_) | (refine zbx _ _ rfl rfl rfl rfl ?_) | (refine zau (hK _ _ (.inl rfl) ?_); clear hK K) | (refine zau (hK _ _ (.inr (by kernel_rfl)) ?_); clear hK K))
      | (refine za0 ?_; first | (refine zbq ?_) | (refine zah (fun K hK => ?_)) | (refine zas ?_) | (refine zaz ?_) | (refine zbo ?_) | (refine za3 ?_) | (refine zbk ?_; first | (refine zal rfl aD ?_) | (refine zam rfl aD ?_) | (refine zay rfl (fun h => ?_) (fun h => ?_) <;> (have h' := h; (try simp only [sx] at h')))))
      | (refine za1 ?_) | (refine zak ?_) | (refine zai ?_) | (refine zat ?_) | (refine zap ?_) | (refine zaq ?_) | (refine zar rfl ?_) | (refine zaj ?_) | (refine zag ?_) | (refine zbp ?_))
    all_goals first
      | (exfalso; omega)
      | exact aR
end Go.Vs
