/- VALUE SEMANTICS: a fresh own slice of numbers, handed over as a list that is only read; what was read stays own. -/
import Derived.Test.YtfgdajmcgincoaaVsC
set_option linter.unusedVariables false
set_option linter.unusedSimpArgs false
namespace Go.Vs
theorem ConF.frz {P : Program} {g : FuncId} {ys : List PV} {ty : TypeId} {sz : Nat} {es : List (List PV)} (h : ContractP P g false ys [] (Ret (.olist ty sz es))) (hfl : ∀ e ∈ es, ∀ c ∈ e, c.flat = true) : ContractP P g false ys [] (Ret (.list sz es)) := by
  refine ⟨h.1, fun G w X ρ cargs hW hX hC => ?_⟩
  obtain ⟨cb, h2⟩ := h
  refine (h2 G w X ρ cargs hW hX hC).mono fun e w' => ?_
  rintro ⟨v, r', fin, rfl, ⟨rfl, rfl⟩, hl, hf, hR⟩
  refine ⟨v, .list sz es, [], rfl, ⟨rfl, rfl⟩, hl, hf, fun t ht => ?_⟩
  obtain ⟨ρ', hR⟩ := hR t ht
  refine ⟨ρ', ?_⟩
  have hio : ioMem (withEs [] ([] : List (List (List PV)))) = noMem := by funext id; simp [ioMem, noMem, withEs]
  have hX0 : X = [] := List.length_eq_zero_iff.1 hX
  have hrel := hR.rel
  rw [hio] at hrel
  have hval := hR.val
  rw [hio] at hval
  have hM : (noMem.upds (thaw t (.olist ty sz es)).2) (t, 0) = some (some ⟨ty, sz, es, false⟩) := looks_upds _ (thaw1_keys t 0 (.olist ty sz es)).2.2 ((t, 0), some ⟨ty, sz, es, false⟩) (by simp [thaw1])
  have hv : Rep ρ' w' (Stab G ρ' (noMem.upds (thaw t (.olist ty sz es)).2) w') (noMem.upds (thaw t (.olist ty sz es)).2) v (.osl (t, 0) 0 es.length) := hval.mono (fun b hb => ⟨hb.1, rfl⟩) (MLe.refl _ _ _)
  have hnew : WRel G ρ' w X noMem w' := ⟨fun id id' r r' b z z' h => by simp [noMem] at h, fun id r h => by simp [noMem] at h, fun id r h => by simp [noMem] at h, hrel.keep, hrel.good, hrel.tab.noMem⟩
  have key : Rep ρ' w' (RetS G false ρ' w noMem w') noMem v (.list sz es) := by
    obtain ⟨a, cap, rfl, h1, h2, h3⟩ := osl_cells hrel hM rfl hv
    refine rep_list.2 ⟨a, cap, rfl, h1, fun hne => ?_⟩
    obtain ⟨b, z, hρ, rfl, g⟩ := h3 (List.length_pos_iff.2 hne)
    have hb := hrel.new (t, 0) _ hM
    rw [if_neg ht] at hb
    have hb2 := hb b z hρ
    have hfresh : w.heap.size ≤ b := by
      rcases hb2 with h | ⟨z', h⟩
      · exact h
      · rw [hX0] at h; cases h
    refine ⟨_, rfl, ⟨⟨hrel.lt hM hρ, fun id' r z' hM' => by simp [noMem] at hM', hrel.good b hb2⟩, fun _ => hfresh⟩, fun i e hi => ?_⟩
    have hi' : ((es.drop 0).take es.length)[i]? = some e := by rw [List.drop_zero, List.take_length]; exact hi
    obtain ⟨k1, k2⟩ := g i e hi'
    refine ⟨k1, fun j u hu => ?_⟩
    obtain ⟨c, m1, m2, m3⟩ := k2 j u hu
    exact ⟨c, m1, m2, rep_flat (hfl e (List.mem_of_getElem? hi) u (List.mem_of_getElem? hu)) m3⟩
  refine ⟨?_, ?_, ?_⟩
  · rw [hio]; exact hnew
  · intro id row b z h1
    cases h1
  · rw [hio]; exact key
theorem Con.frzF {P : Program} {g : FuncId} {ys : List PV} {ty : TypeId} {sz : Nat} {es : List (List PV)} (h : Con P g ys (.olist ty sz es)) (hfl : ∀ e ∈ es, ∀ c ∈ e, c.flat = true) : Con P g ys (.list sz es) := by
  intro al
  cases al
  · exact ConF.frz (h false) hfl
  · exact ConA.frz (h true) rfl
end Go.Vs
