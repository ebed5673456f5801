/- Side goals, each by a tactic of its own. -/
import Derived.Test.YtfgdajmcgincoaaVl
import Derived.Test.YtfgdajmcgincoaaVsC
set_option maxRecDepth 100000
set_option maxHeartbeats 4000000
namespace Go.Vs
/- Side goals, each by a tactic of its own: short names for them. -/
theorem aD {p : Prop} (h : p := by first | rfl | assumption | (simp only [sx]; omega) | (simp; done) | fail) : p := h
theorem aL {p : Prop} (h : p := by (first | (simp only [lx, Nat.reduceAdd]; first | done | rfl) | fail)) : p := h
theorem aE {p : Prop} (h : p := by first | rfl | assumption | exact getSelf (by omega) | exact getNe (by omega) (by assumption)) : p := h
theorem aZ {p : Prop} (h : p := by first | (simp; done) | fail) : p := h
theorem aN {p : Prop} (h : p := by first | exact (takeAll rfl).symm | exact (takeAll (by assumption)).symm | exact (takeAll (by first | (simp; done) | omega | fail)).symm | (first | (simp only [lx, Nat.reduceAdd]; first | done | rfl) | fail) | fail) : p := h
theorem aP {p : Prop} (h : p := by first | (simp only [List.length_cons, List.length_nil, Nat.zero_add, Nat.reduceAdd]; exact rfl) | exact rfl) : p := h
theorem aT {p : Prop} (h : p := by first | (simp only [List.length_cons, List.length_nil]; omega) | omega | fail) : p := h
theorem aH {p : Prop} (h : p := by simp only [thaw, thawT, thaw1, thawL, Nat.zero_add, Nat.reduceAdd]; exact rfl) : p := h
theorem aS {p : Prop} (h : p := by (repeat' (first | exact trivial | exact rfl | exact allR_ptrs _ | exact .inl rfl | exact sn_all rfl rfl rfl | exact sn_all rfl rfl (by first | omega | (simp; done) | fail) | exact sn_part rfl rfl (by first | (simp; done) | exact (takeAll (by assumption)).symm | exact (takeAll (by first | (simp; done) | omega | fail)).symm | (first | (simp only [lx, Nat.reduceAdd]; first | done | rfl) | fail) | fail) | refine sn_own rfl rfl rfl ?_ | exact List.length_map .. | refine ⟨?_, ?_⟩)); first | done | fail) : p := h
theorem aO {p : Prop} (h : p := by omega) : p := h
theorem aA {p : Prop} (h : p := by assumption) : p := h
theorem cl : (∀ (α : Type) (a : α) (l m : List α), (a :: l) ++ m = a :: (l ++ m)) ∧ (∀ (α : Type) (l : List α), [] ++ l = l) ∧ (∀ (α β : Type) (f : α → β) (a : α) (l : List α), (a :: l).map f = f a :: l.map f) ∧ (∀ (α β : Type) (f : α → β), ([] : List α).map f = []) := ⟨fun _ _ _ _ => rfl, fun _ _ => rfl, fun _ _ _ _ _ => rfl, fun _ _ _ => rfl⟩
theorem aR {p : Prop} (h : p := by ((first | refine ret_T rfl rfl rfl (by first | exact trivial | (repeat' (first | exact trivial | refine ⟨by assumption, ?_⟩))) (by repeat' (first | exact trivial | refine ⟨by simp, ?_⟩)) ?_ | refine ret_A rfl rfl rfl (by first | exact trivial | (repeat' (first | exact trivial | refine ⟨by assumption, ?_⟩))) (by repeat' (first | exact trivial | refine ⟨by simp, ?_⟩)) ?_); (repeat' (first | exact et_end | exact el_end | refine et_int rfl ?_ ?_ | refine et_bool ?_ ?_ | refine et_str ?_ ?_ | refine et_list (by rfl) (by decide) rfl rfl ?_ ?_ ?_ ?_ | refine et_nil ?_ ?_ | refine et_agg ?_ ?_ | refine el_int rfl ?_ ?_ | refine el_bool ?_ ?_ | refine el_str ?_ ?_ | refine el_list (by rfl) (by decide) rfl rfl ?_ ?_ ?_ ?_ | refine el_nil ?_ ?_)) <;> (first | rfl | assumption | (exact ints_flat _) | (simp; done) | omega))) : p := h
end Go.Vs
