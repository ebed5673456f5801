/- CAMPS, TYPES: facts on the types of this seat. -/
import Derived.Test.YtmlhmapibagmgaaVs23
import Derived.Test.YtmlhmapibagmgaaRows
set_option linter.unusedVariables false
set_option linter.unusedSimpArgs false
namespace Go.Vs
open Go.Proofs
theorem hmix : Try.prog.follows .mixedOrders = true := by kernel_rfl
theorem c3 : TCell Try.prog 3 := tcell (by kernel_rfl)
theorem c4 : TCell Try.prog 4 := tcell (by kernel_rfl)
theorem c22 : TCell Try.prog 22 := tcell (by kernel_rfl)
theorem c25 : TCell Try.prog 25 := tcell (by kernel_rfl)
theorem a63 : TAgg Try.prog 63 3 := tagg (by kernel_rfl)
theorem a65 : TAgg Try.prog 65 3 := tagg (by kernel_rfl)
theorem s22 : TSlice Try.prog 22 65 3 24 := tslice (by kernel_rfl)
theorem s25 : TSlice Try.prog 25 63 3 24 := tslice (by kernel_rfl)
theorem f63_0 : TField Try.prog 63 0 0 := tfield (by kernel_rfl)
theorem f63_1 : TField Try.prog 63 1 1 := tfield (by kernel_rfl)
theorem f63_2 : TField Try.prog 63 2 2 := tfield (by kernel_rfl)
theorem f65_0 : TField Try.prog 65 0 0 := tfield (by kernel_rfl)
theorem f65_1 : TField Try.prog 65 1 1 := tfield (by kernel_rfl)
theorem f65_2 : TField Try.prog 65 2 2 := tfield (by kernel_rfl)
theorem t3 : TSize Try.prog 3 1 := tsize (by kernel_rfl)
theorem t4 : TSize Try.prog 4 1 := tsize (by kernel_rfl)
theorem z63 : TZero Try.prog 63 [.int .i64 0, .int .i64 0, .int .i64 0] := tzero (.agg #[.int .i64 0, .int .i64 0, .int .i64 0]) (by kernel_rfl) rfl
theorem st63 : TStruct Try.prog 63 [(0, 1), (1, 1), (2, 1)] [.int .i64 0, .int .i64 0, .int .i64 0] := tstruct (by kernel_rfl) z63
end Go.Vs
