/- VALUE SEMANTICS, 27: loops; what a loop leaves as it is, is found by looking. -/
import Derived.Test.YthjlolbooehhcaaVs26
set_option linter.unusedVariables false
set_option linter.unusedSimpArgs false
namespace Go.Vs

def keepO (env : List (Nat × PV)) : List Nat → Option (List (Nat × PV))
  | [] => some []
  | t :: r => match lookE env t, keepO env r with
    | some v, some l => some ((t, v) :: l)
    | none, some l => some l
    | _, none => none
def hasId (l : List Id) (id : Id) : Bool := match l with
  | [] => false
  | a :: r => cond (idEq a id) true (hasId r id)
/-- The own rows that values lead to, but for those named. -/
def idsL (f : PV → List Id → Option (List Id)) : List PV → List Id → Option (List Id)
  | [], acc => some acc
  | x :: xs, acc => match f x acc with
    | some acc' => idsL f xs acc'
    | none => none
def idsO : Nat → List (Id × Option Row) → List Id → PV → List Id → Option (List Id)
  | 0, _, _, _, _ => none
  | d + 1, mem, no, x, acc => match x with
    | .osl id _ _ => cond (hasId no id) (some acc) (cond (hasId acc id) (some acc) (some (id :: acc)))
    | .own id _ _ => cond (hasId no id) (some acc) (cond (hasId acc id) (some acc) (match getM mem id with
      | some (some ⟨_, _, [e], true⟩) => idsL (idsO d mem no) e (id :: acc)
      | _ => some (id :: acc)))
    | .agg xs => idsL (idsO d mem no) xs acc
    | .tuple xs => idsL (idsO d mem no) xs acc
    | _ => some acc
def idsE (mem : List (Id × Option Row)) (no : List Id) : List (Nat × PV) → List Id → Option (List Id)
  | [], acc => some acc
  | (_, x) :: r, acc => match idsO 6 mem no x acc with
    | some acc' => idsE mem no r acc'
    | none => none
def rowsO (mem : List (Id × Option Row)) : List Id → Option (List (Id × Option Row))
  | [] => some []
  | id :: r => match getM mem id, rowsO mem r with
    | some (some ⟨a, b, c, e⟩), some l => some ((id, some ⟨a, b, c, e⟩) :: l)
    | some none, some l => some ((id, none) :: l)
    | _, _ => none
def keepM (mem : List (Id × Option Row)) (no : List Id) (env : List (Nat × PV)) : Option (List (Id × Option Row)) := match idsE mem no env [] with
  | some ids => rowsO mem ids
  | none => none
def appO {α : Type} : List α → List α → Option (List α)
  | [], ys => some ys
  | x :: xs, ys => match appO xs ys with
    | some r => some (x :: r)
    | none => none
/-- Names that were given anew at the loop's head. -/
def renE (env : List (Nat × PV)) : List (Nat × PV) → List (Id × Id) → Option (List (Id × Id))
  | [], acc => some acc
  | (t, .osl a _ _) :: r, acc => match lookE env t with
    | some (.osl b _ _) => cond (idEq a b) (renE env r acc) (renE env r ((a, b) :: acc))
    | _ => none
  | (t, .own a _ _) :: r, acc => match lookE env t with
    | some (.own b _ _) => cond (idEq a b) (renE env r acc) (renE env r ((a, b) :: acc))
    | _ => none
  | (_, .int _ _) :: r, acc => renE env r acc
  | (_, .bool _) :: r, acc => renE env r acc
  | (_, .str _) :: r, acc => renE env r acc
  | (_, .list _ _) :: r, acc => renE env r acc
  | (_, .agg _) :: r, acc => renE env r acc
  | (_, .fn _ _ _) :: r, acc => renE env r acc
  | (_, .ptr _) :: r, acc => renE env r acc
  | (_, .nil) :: r, acc => renE env r acc
  | _ :: _, _ => none
theorem refs_ptrs (d : Nat) (ids : List Id) : ∀ (l : List (List PV)), (l.map PV.ptr).all (refsD (d + 1) ids) = true
  | [] => rfl
  | _ :: l => by rw [List.map_cons, List.all_cons, refs_ptrs d ids l]; rfl
theorem refs_fn {d : Nat} {ids : List Id} {g : FuncId} {l : List (List PV)} : refsD (d + 2) ids (.fn g [] (l.map PV.ptr)) = true := by
  simp only [refsD, List.all_nil, Bool.true_and]
  exact refs_ptrs d ids l
theorem sub_ptrs (d : Nat) (f : Id → Id) : ∀ (l : List (List PV)), (l.map PV.ptr).map (subD (d + 1) f) = l.map PV.ptr
  | [] => rfl
  | _ :: l => by rw [List.map_cons, List.map_cons, sub_ptrs d f l]; rfl
theorem sub_fn {d : Nat} {f : Id → Id} {g : FuncId} {l : List (List PV)} : PV.fn g [] (l.map PV.ptr) = subD (d + 2) f (.fn g [] (l.map PV.ptr)) := by
  show _ = PV.fn g [] ((l.map PV.ptr).map (subD (d + 1) f))
  rw [sub_ptrs]
section
variable {P : Program} {st : St} {Q : Exit → St → Prop} {x y z : Code}
theorem v_loopK {α : Type} (live : List Nat) (no : List Id) (var : α → List (Nat × PV)) (memv : α → List (Id × Option Row)) (R : α → Prop) (m : α → Nat) (a0 : α)
    {kept : List (Nat × PV)} {keptM : List (Id × Option Row)} {full : α → List (Nat × PV)} {fullM : α → List (Id × Option Row)} {ren : List (Id × Id)}
    (hk : keepO st.env live = some kept) (hkm : keepM st.mem no kept = some keptM) (hf : ∀ a, appO (var a) kept = some (full a)) (hfm : ∀ a, appO (memv a) keptM = some (fullM a))
    (hren : renE st.env (full a0) [] = some ren) (hw : WeakerR (oldOf ren) st ⟨full a0, fullM a0⟩) (hR : R a0)
    (h : ∀ a, R a → vwp P x ⟨full a, fullM a⟩ (loopQ (fun s => ∃ a', s = ⟨full a', fullM a'⟩ ∧ R a' ∧ m a' < m a) (fun _ => 0) 1 Q)) : vwp P (.loop x) st Q :=
  v_loopE (fun a => ⟨full a, fullM a⟩) R m a0 hw.ent hR h
theorem q_next {α : Type} {full : α → List (Nat × PV)} {fullM : α → List (Id × Option Row)} {R : α → Prop} {m : α → Nat} {n : Nat} (a : α) {ren : List (Id × Id)} (hren : renE st.env (full a) [] = some ren) (hw : WeakerR (oldOf ren) st ⟨full a, fullM a⟩) (hR : R a) (hm : m a < n) :
    loopQ (fun s => ∃ a', s = ⟨full a', fullM a'⟩ ∧ R a' ∧ m a' < n) (fun _ => 0) 1 Q .normal st := q_loopE (mk := fun a => ⟨full a, fullM a⟩) a hw.ent hR hm
end
end Go.Vs
