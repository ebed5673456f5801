/- VALUE SEMANTICS, 5: one operation on pure values, and that the model's operation does just that. -/
import Derived.Test.YthjlolbooehhcaaVs4
set_option linter.unusedVariables false
set_option linter.unusedSimpArgs false
namespace Go.Vs

structure Eff where
  x : PV
  ups : List (Id × Option Row)
  rd : List Id

def ev (V : Nat → PV) : Operand → PV
  | .tmp t => V t
  | .const v => ofConst v
  | .func f => .fn f [] []
  | .global _ => .any

def intBin : BinOp → IntKind → Int → Int → Option PV
  | .add, k, a, b => some (.int k (k.wrap (a + b)))
  | .sub, k, a, b => some (.int k (k.wrap (a - b)))
  | .mul, k, a, b => some (.int k (k.wrap (a * b)))
  | .quo, k, a, b => if b = 0 then none else some (.int k (k.wrap (a.tdiv b)))
  | .rem, k, a, b => if b = 0 then none else some (.int k (a.tmod b))
  | .eql, _, a, b => some (.bool (a == b))
  | .neq, _, a, b => some (.bool (a != b))
  | .lss, _, a, b => some (.bool (decide (a < b)))
  | .leq, _, a, b => some (.bool (decide (a ≤ b)))
  | .gtr, _, a, b => some (.bool (decide (a > b)))
  | .geq, _, a, b => some (.bool (decide (a ≥ b)))
  | .and, k, a, b => some (.int k (k.wrap (BitVec.ofInt k.bits a &&& BitVec.ofInt k.bits b).toNat))
  | .shr, k, a, b => if b < 0 then none else some (.int k (a.fdiv (2 ^ min b.toNat k.bits)))
  | _, _, _, _ => none
def strBin : BinOp → ByteArray → ByteArray → Option PV
  | .eql, a, b => some (.bool (a.toList == b.toList))
  | .neq, a, b => some (.bool (!(a.toList == b.toList)))
  | .lss, a, b => some (.bool (Op.bytesLess a.toList b.toList))
  | .add, a, b => if a.size + b.size ≤ 9223372036854775807 then some (.str (a ++ b)) else none
  | _, _, _ => none
def BinOk (P : Program) (T : TypeId) (op : BinOp) (x y r : PV) : Prop :=
  match x, y with
  | .int k a, .int k' b => (k = k' ∨ op = .shr) ∧ intBin op k a b = some r
  | .bool a, .bool b => P.underlying T = some .bool ∧ ((op = .eql ∧ r = .bool (a == b)) ∨ (op = .neq ∧ r = .bool (!(a == b))))
  | .str a, .str b => strBin op a b = some r
  | _, _ => False

def live (M : Mem) : PV → Prop
  | .own id _ _ => ∃ r, M id = some (some r)
  | .osl id _ _ => ∃ r, M id = some (some r)
  | _ => True
def rids : List PV → List Id
  | [] => []
  | .own id _ _ :: r => id :: rids r
  | .osl id _ _ :: r => id :: rids r
  | _ :: r => rids r

def TStruct (P : Program) (T : TypeId) (places : List (Nat × Nat)) (zs : List PV) : Prop :=
  ∃ fs, P.underlying T = some (.struct fs) ∧ places.length = fs.size ∧ (∀ (j : Nat) fd, fs[j]? = some fd → ∃ k, places[j]? = some (fd.offset, k) ∧ TSize P fd.type k) ∧ TZero P T zs
def buildPV (places : List (Nat × Nat)) : List PV → List (Nat × PV) → Option (List PV)
  | cells, [] => some cells
  | cells, (i, x) :: rest => match places[i]? with
    | none => none
    | some (off, size) => if x.cells.length ≠ size ∨ off + size > cells.length then none else buildPV places (cells.take off ++ x.cells ++ cells.drop (off + size)) rest

def SrcStep (M : Mem) (x : PV) (sz : Nat) (news : List (List PV)) (rd : List Id) : Prop :=
  (x = .list sz news ∧ rd = []) ∨ (∃ id o n r, x = .osl id o n ∧ M id = some (some r) ∧ r.bx = false ∧ r.sz = sz ∧ news = (r.es.drop o).take n ∧ rd = [id]) ∨ (x = .nil ∧ news = [] ∧ rd = [])

/-- A slice's bound. -/
def bound (V : Nat → PV) (o : Option Operand) (dflt : Nat) (n : Nat) : Prop :=
  match o with
  | none => n = dflt
  | some x => ∃ k, ev V x = .int k (n : Int)

def CallStep (P : Program) (dst : Option Tmp) (c : Call) (V : Nat → PV) (M : Mem) (f : Eff) : Prop :=
  match c.callee with
  | .builtin .len => ∃ x T n rd, c.args = #[x] ∧ c.argTypes = #[T] ∧ f = ⟨.int .i64 (n : Nat), [], rd⟩ ∧
      ((∃ e, P.underlying T = some (.slice e) ∧ ((∃ sz es, ev V x = .list sz es ∧ n = es.length) ∨ (∃ id o r, ev V x = .osl id o n ∧ M id = some (some r) ∧ rd = [id]) ∨ (ev V x = .nil ∧ n = 0))) ∨
       (P.underlying T = some .string ∧ ∃ s, ev V x = .str s ∧ n = s.size))
  | .builtin .append => ∃ s x T t e sz by_ news rd, c.args = #[s, x] ∧ c.argTypes = #[T, T] ∧ dst = some t ∧ t ≠ io ∧ M (t, 0) = none ∧ TSlice P T e sz by_ ∧ 0 < sz ∧ SrcStep M (ev V x) sz news rd ∧
      ((ev V s = .nil ∧ news.length ≤ maxLen ∧ news.length * by_ ≤ 140737488355328 ∧ f = ⟨.osl (t, 0) 0 news.length, [((t, 0), some ⟨e, sz, news, false⟩)], rd⟩) ∨
       (∃ id o n r, ev V s = .osl id o n ∧ M id = some (some r) ∧ r.bx = false ∧ r.ty = e ∧ r.sz = sz ∧ id.1 ≠ io ∧ r.es.length = o + n ∧ n + news.length ≤ maxLen ∧ (n + news.length) * by_ ≤ 140737488355328 ∧
          f = ⟨.osl (t, 0) 0 (n + news.length), [((t, 0), some ⟨e, sz, r.es.drop o ++ news, false⟩), (id, none)], id :: rd⟩))
  | .builtin .max => ∃ x y k a b, c.args = #[x, y] ∧ ev V x = .int k a ∧ ev V y = .int k b ∧ f = ⟨.int k (if b > a then b else a), [], []⟩
  | .builtin .min => ∃ x y k a b, c.args = #[x, y] ∧ ev V x = .int k a ∧ ev V y = .int k b ∧ f = ⟨.int k (if b < a then b else a), [], []⟩
  | _ => False

def OpStep (P : Program) (dst : Option Tmp) (op : Op) (V : Nat → PV) (M : Mem) (f : Eff) : Prop :=
  match op with
  | .move x => f = ⟨ev V x, [], []⟩
  | .assign x => f = ⟨ev V x, [], []⟩
  | .pick c a b => ∃ t, ev V c = .bool t ∧ f = ⟨if t then ev V a else ev V b, [], []⟩
  | .nilCheck x => (∃ us, ev V x = .ptr us ∧ f = ⟨.ptr us, [], []⟩) ∨ (∃ id i off r, ev V x = .own id i off ∧ M id = some (some r) ∧ f = ⟨.own id i off, [], [id]⟩) ∨
      (∃ g a b, ev V x = .fn g a b ∧ f = ⟨.fn g a b, [], []⟩)
  | .extract x i => ∃ vs u, ev V x = .tuple vs ∧ vs[i]? = some u ∧ f = ⟨u, [], []⟩
  | .binOp o T x y _ => ∃ r, BinOk P T o (ev V x) (ev V y) r ∧ f = ⟨r, [], []⟩
  | .unOp u _ x => (∃ b, u = .not ∧ ev V x = .bool b ∧ f = ⟨.bool (!b), [], []⟩) ∨ (∃ k n, u = .neg ∧ ev V x = .int k n ∧ f = ⟨.int k (k.wrap (0 - n)), [], []⟩)
  | .convert s d x => ∃ k k' n ds, P.underlying s = some ds ∧ P.underlying d = some (.int k) ∧ ev V x = .int k' n ∧ f = ⟨.int k (k.wrap n), [], []⟩
  | .box T x => ∃ t, dst = some t ∧ t ≠ io ∧ M (t, 0) = none ∧ (ev V x).cells ≠ [] ∧ (ev V x).cells.length ≤ maxLen ∧ (ev V x).cells.all PV.one = true ∧ (∀ u ∈ (ev V x).cells, live M u) ∧
      f = ⟨.own (t, 0) 0 0, [((t, 0), some ⟨T, (ev V x).cells.length, [(ev V x).cells], true⟩)], rids (ev V x).cells⟩
  | .alloc T => ∃ t cs, dst = some t ∧ t ≠ io ∧ M (t, 0) = none ∧ TZero P T cs ∧ cs ≠ [] ∧ cs.length ≤ maxLen ∧ cs.all PV.pure1 = true ∧
      f = ⟨.own (t, 0) 0 0, [((t, 0), some ⟨T, cs.length, [cs], true⟩)], []⟩
  | .build T parts => ∃ places zs cs, (∀ p ∈ parts.toList, (ev V p.2).cells.all PV.one = true ∧ ∀ u ∈ (ev V p.2).cells, live M u) ∧ TStruct P T places zs ∧ buildPV places zs (parts.toList.map fun p => (p.1, ev V p.2)) = some cs ∧ f = ⟨.agg cs, [], rids (parts.toList.flatMap fun p => (ev V p.2).cells)⟩
  | .buildSlice T n parts => ∃ t e sz by_, dst = some t ∧ t ≠ io ∧ M (t, 0) = none ∧ TSlice P T e sz by_ ∧ 0 < sz ∧ n * sz ≤ 16777216 ∧ parts.toList.map (·.1) = List.range n ∧
      (∀ p ∈ parts.toList, (ev V p.2).cells.length = sz ∧ (ev V p.2).cells.all PV.pure1 = true) ∧
      f = ⟨.osl (t, 0) 0 n, [((t, 0), some ⟨e, sz, parts.toList.map fun p => (ev V p.2).cells, false⟩)], []⟩
  | .load T x => (TCell P T ∧ ((∃ u us, ev V x = .ptr (u :: us) ∧ f = ⟨u, [], []⟩) ∨
        (∃ id i off r e u, ev V x = .own id i off ∧ M id = some (some r) ∧ r.es[i]? = some e ∧ e[off]? = some u ∧ f = ⟨u, [], [id]⟩))) ∨
      (∃ k, TAgg P T k ∧ ((∃ us, ev V x = .ptr us ∧ k ≤ us.length ∧ f = ⟨.agg (us.take k), [], []⟩) ∨
        (∃ id i off r e, ev V x = .own id i off ∧ M id = some (some r) ∧ r.es[i]? = some e ∧ off + k ≤ e.length ∧ f = ⟨.agg ((e.drop off).take k), [], [id]⟩)))
  | .store T x y => ∃ id i off r e k, ev V x = .own id i off ∧ M id = some (some r) ∧ r.es[i]? = some e ∧ TSize P T k ∧ (ev V y).cells.length = k ∧ off + k ≤ e.length ∧ (ev V y).cells.all PV.one = true ∧
      (∀ u ∈ (ev V y).cells, live M u) ∧ (r.bx = true ∨ (ev V y).cells.all PV.pure1 = true) ∧
      f = ⟨.any, [(id, some { r with es := r.es.set i (e.take off ++ (ev V y).cells ++ e.drop (off + k)) })], id :: rids (ev V y).cells⟩
  | .fieldAddr T x i => ∃ off, TField P T i off ∧ ((∃ us, ev V x = .ptr us ∧ f = ⟨.ptr (us.drop off), [], []⟩) ∨
      (∃ id k o r, ev V x = .own id k o ∧ M id = some (some r) ∧ f = ⟨.own id k (o + off), [], [id]⟩))
  | .indexAddr T x ix => ∃ e sz by_ k n, TSlice P T e sz by_ ∧ ev V ix = .int k n ∧ 0 ≤ n ∧ ((∃ es el, ev V x = .list sz es ∧ es[n.toNat]? = some el ∧ f = ⟨.ptr el, [], []⟩) ∨
      (∃ id o m r, ev V x = .osl id o m ∧ M id = some (some r) ∧ r.sz = sz ∧ n.toNat < m ∧ f = ⟨.own id (o + n.toNat) 0, [], [id]⟩))
  | .index T x ix => P.underlying T = some .string ∧ ∃ s k n b, ev V x = .str s ∧ ev V ix = .int k n ∧ 0 ≤ n ∧ s[n.toNat]? = some b ∧ f = ⟨.int .u8 b.toNat, [], []⟩
  | .slice T x lo hi mx => mx = none ∧ ∃ l h, bound V lo 0 l ∧ l ≤ h ∧
      ((∃ e sz by_ es, TSlice P T e sz by_ ∧ ev V x = .list sz es ∧ bound V hi es.length h ∧ h ≤ es.length ∧ f = ⟨.list sz ((es.take h).drop l), [], []⟩) ∨
       (∃ e sz by_ id o n r, TSlice P T e sz by_ ∧ ev V x = .osl id o n ∧ M id = some (some r) ∧ r.sz = sz ∧ bound V hi n h ∧ h ≤ n ∧ f = ⟨.osl id (o + l) (h - l), [], [id]⟩) ∨
       (P.underlying T = some .string ∧ ∃ s, ev V x = .str s ∧ bound V hi s.size h ∧ h ≤ s.size ∧ f = ⟨.str (s.extract l h), [], []⟩))
  | .makeFunc fn fi ca => ∃ g, fn = .func g ∧ f = ⟨.fn g (fi.toList.map (ev V)) (ca.toList.map (ev V)), [], []⟩
  | .makeSlice T l c => ∃ t e sz by_ zs k k' n, dst = some t ∧ t ≠ io ∧ M (t, 0) = none ∧ TSlice P T e sz by_ ∧ TZero P e zs ∧ zs.all PV.pure1 = true ∧ 0 < sz ∧ ev V l = .int k (n : Nat) ∧ ev V c = .int k' (n : Nat) ∧
      by_ * n ≤ 281474976710656 ∧ n ≤ maxLen ∧ f = ⟨.osl (t, 0) 0 n, [((t, 0), some ⟨e, sz, List.replicate n zs, false⟩)], []⟩
  | .call c => CallStep P dst c V M f
  | _ => False

def OpRes (P : Program) (a : Act) (o : Oper) (G : Nat → Prop) (ρ : Id → Option (Nat × Nat)) (w0 : World) (X : List (Option (Nat × Nat))) (M : Mem) (w : World) (f : Eff) : Prop :=
  ∃ ρ' w' v, ((execOp a.eval o).run P w = .ok (.value v) w' ∨ ((execOp a.eval o).run P w = .ok .skip w' ∧ v = undef)) ∧ Trans G ρ M w ρ' (M.upds f.ups) w' ∧ WRel G ρ' w0 X (M.upds f.ups) w' ∧
    Rep ρ' w' (Stab G ρ' (M.upds f.ups) w') (M.upds f.ups) v f.x
end Go.Vs
