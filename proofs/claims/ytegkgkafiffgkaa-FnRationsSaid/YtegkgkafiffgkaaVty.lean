/- TYPES: facts on the types of this seat, printed by a program of mine out of the list of types. -/
import Derived.Test.YtegkgkafiffgkaaVsC
import Derived.Test.YtegkgkafiffgkaaRows
set_option linter.unusedVariables false
set_option linter.unusedSimpArgs false
set_option maxRecDepth 100000
namespace Go.Vs
open Go.Proofs
theorem hmix : Try.prog.follows .mixedOrders = true := by kernel_rfl
theorem ty_c1 : TCell Try.prog 1 := tcell (by kernel_rfl)
theorem ty_t1 : TSize Try.prog 1 1 := tsize (by kernel_rfl)
theorem ty_fz1 : TZeroF Try.prog 1 := tzeroF (by kernel_rfl)
theorem ty_c2 : TCell Try.prog 2 := tcell (by kernel_rfl)
theorem ty_u2 : Try.prog.underlying 2 = some (.int .i64) := Try.underlying2
theorem ty_t2 : TSize Try.prog 2 1 := tsize (by kernel_rfl)
theorem ty_z2 : TZero Try.prog 2 [.int .i64 0] := tzero (.int .i64 0) (by kernel_rfl) rfl
theorem ty_c3 : TCell Try.prog 3 := tcell (by kernel_rfl)
theorem ty_u3 : Try.prog.underlying 3 = some (.int .i64) := Try.underlying3
theorem ty_t3 : TSize Try.prog 3 1 := tsize (by kernel_rfl)
theorem ty_z3 : TZero Try.prog 3 [.int .i64 0] := tzero (.int .i64 0) (by kernel_rfl) rfl
theorem ty_c4 : TCell Try.prog 4 := tcell (by kernel_rfl)
theorem ty_u4 : Try.prog.underlying 4 = some .bool := Try.underlying4
theorem ty_t4 : TSize Try.prog 4 1 := tsize (by kernel_rfl)
theorem ty_z4 : TZero Try.prog 4 [.bool false] := tzero (.bool false) (by kernel_rfl) rfl
theorem ty_c5 : TCell Try.prog 5 := tcell (by kernel_rfl)
theorem ty_u5 : Try.prog.underlying 5 = some (.int .u8) := Try.underlying5
theorem ty_t5 : TSize Try.prog 5 1 := tsize (by kernel_rfl)
theorem ty_z5 : TZero Try.prog 5 [.int .u8 0] := tzero (.int .u8 0) (by kernel_rfl) rfl
theorem ty_c9 : TCell Try.prog 9 := tcell (by kernel_rfl)
theorem ty_u9 : Try.prog.underlying 9 = some .string := Try.underlying9
theorem ty_t9 : TSize Try.prog 9 1 := tsize (by kernel_rfl)
theorem ty_z9 : TZero Try.prog 9 [.str ByteArray.empty] := tzero (.string ByteArray.empty) (by kernel_rfl) rfl
theorem ty_c12 : TCell Try.prog 12 := tcell (by kernel_rfl)
theorem ty_u12 : Try.prog.underlying 12 = some (.int .u64) := Try.underlying12
theorem ty_t12 : TSize Try.prog 12 1 := tsize (by kernel_rfl)
theorem ty_z12 : TZero Try.prog 12 [.int .u64 0] := tzero (.int .u64 0) (by kernel_rfl) rfl
theorem ty_c15 : TCell Try.prog 15 := tcell (by kernel_rfl)
theorem ty_t15 : TSize Try.prog 15 1 := tsize (by kernel_rfl)
theorem ty_c16 : TCell Try.prog 16 := tcell (by kernel_rfl)
theorem ty_t16 : TSize Try.prog 16 1 := tsize (by kernel_rfl)
theorem ty_c17 : TCell Try.prog 17 := tcell (by kernel_rfl)
theorem ty_t17 : TSize Try.prog 17 1 := tsize (by kernel_rfl)
theorem ty_c21 : TCell Try.prog 21 := tcell (by kernel_rfl)
theorem ty_u21 : Try.prog.underlying 21 = some (.int .i32) := Try.underlying21
theorem ty_t21 : TSize Try.prog 21 1 := tsize (by kernel_rfl)
theorem ty_z21 : TZero Try.prog 21 [.int .i32 0] := tzero (.int .i32 0) (by kernel_rfl) rfl
theorem ty_c22 : TCell Try.prog 22 := tcell (by kernel_rfl)
theorem ty_u22 : Try.prog.underlying 22 = some (.slice 5) := Try.underlying22
theorem ty_t22 : TSize Try.prog 22 1 := tsize (by kernel_rfl)
theorem ty_z22 : TZero Try.prog 22 [.nil] := tzero (.slice none 0 0) (by kernel_rfl) rfl
theorem ty_s22 : TSlice Try.prog 22 5 1 1 := tslice (by kernel_rfl)
theorem ty_c23 : TCell Try.prog 23 := tcell (by kernel_rfl)
theorem ty_t23 : TSize Try.prog 23 1 := tsize (by kernel_rfl)
theorem ty_fz23 : TZeroF Try.prog 23 := tzeroF (by kernel_rfl)
theorem ty_c24 : TCell Try.prog 24 := tcell (by kernel_rfl)
theorem ty_u24 : Try.prog.underlying 24 = some (.slice 44) := Try.underlying24
theorem ty_t24 : TSize Try.prog 24 1 := tsize (by kernel_rfl)
theorem ty_z24 : TZero Try.prog 24 [.nil] := tzero (.slice none 0 0) (by kernel_rfl) rfl
theorem ty_s24 : TSlice Try.prog 24 44 3 24 := tslice (by kernel_rfl)
theorem ty_c25 : TCell Try.prog 25 := tcell (by kernel_rfl)
theorem ty_u25 : Try.prog.underlying 25 = some (.slice 33) := Try.underlying25
theorem ty_t25 : TSize Try.prog 25 1 := tsize (by kernel_rfl)
theorem ty_z25 : TZero Try.prog 25 [.nil] := tzero (.slice none 0 0) (by kernel_rfl) rfl
theorem ty_s25 : TSlice Try.prog 25 33 3 24 := tslice (by kernel_rfl)
theorem ty_c27 : TCell Try.prog 27 := tcell (by kernel_rfl)
theorem ty_t27 : TSize Try.prog 27 1 := tsize (by kernel_rfl)
theorem ty_fz27 : TZeroF Try.prog 27 := tzeroF (by kernel_rfl)
theorem ty_c29 : TCell Try.prog 29 := tcell (by kernel_rfl)
theorem ty_t29 : TSize Try.prog 29 1 := tsize (by kernel_rfl)
theorem ty_fz29 : TZeroF Try.prog 29 := tzeroF (by kernel_rfl)
theorem ty_c31 : TCell Try.prog 31 := tcell (by kernel_rfl)
theorem ty_t31 : TSize Try.prog 31 1 := tsize (by kernel_rfl)
theorem ty_fz31 : TZeroF Try.prog 31 := tzeroF (by kernel_rfl)
theorem ty_t32 : TSize Try.prog 32 3 := tsize (by kernel_rfl)
theorem ty_z32 : TZero Try.prog 32 [.int .i64 0, .int .i64 0, .int .i64 0] := tzero (.agg #[.int .i64 0, .int .i64 0, .int .i64 0]) (by kernel_rfl) rfl
theorem ty_a32 : TAgg Try.prog 32 3 := tagg (by kernel_rfl)
theorem ty_f32_0 : TField Try.prog 32 0 0 := tfield (by kernel_rfl)
theorem ty_f32_1 : TField Try.prog 32 1 1 := tfield (by kernel_rfl)
theorem ty_f32_2 : TField Try.prog 32 2 2 := tfield (by kernel_rfl)
theorem ty_st32 : TStruct Try.prog 32 [(0, 1), (1, 1), (2, 1)] [.int .i64 0, .int .i64 0, .int .i64 0] := tstruct (by kernel_rfl) ty_z32
theorem ty_t33 : TSize Try.prog 33 3 := tsize (by kernel_rfl)
theorem ty_z33 : TZero Try.prog 33 [.int .i64 0, .int .i64 0, .int .i64 0] := tzero (.agg #[.int .i64 0, .int .i64 0, .int .i64 0]) (by kernel_rfl) rfl
theorem ty_a33 : TAgg Try.prog 33 3 := tagg (by kernel_rfl)
theorem ty_f33_0 : TField Try.prog 33 0 0 := tfield (by kernel_rfl)
theorem ty_f33_1 : TField Try.prog 33 1 1 := tfield (by kernel_rfl)
theorem ty_f33_2 : TField Try.prog 33 2 2 := tfield (by kernel_rfl)
theorem ty_st33 : TStruct Try.prog 33 [(0, 1), (1, 1), (2, 1)] [.int .i64 0, .int .i64 0, .int .i64 0] := tstruct (by kernel_rfl) ty_z33
theorem ty_c35 : TCell Try.prog 35 := tcell (by kernel_rfl)
theorem ty_t35 : TSize Try.prog 35 1 := tsize (by kernel_rfl)
theorem ty_fz35 : TZeroF Try.prog 35 := tzeroF (by kernel_rfl)
theorem ty_c36 : TCell Try.prog 36 := tcell (by kernel_rfl)
theorem ty_u36 : Try.prog.underlying 36 = some (.slice 3) := Try.underlying36
theorem ty_t36 : TSize Try.prog 36 1 := tsize (by kernel_rfl)
theorem ty_z36 : TZero Try.prog 36 [.nil] := tzero (.slice none 0 0) (by kernel_rfl) rfl
theorem ty_s36 : TSlice Try.prog 36 3 1 8 := tslice (by kernel_rfl)
theorem ty_c38 : TCell Try.prog 38 := tcell (by kernel_rfl)
theorem ty_t38 : TSize Try.prog 38 1 := tsize (by kernel_rfl)
theorem ty_fz38 : TZeroF Try.prog 38 := tzeroF (by kernel_rfl)
theorem ty_c39 : TCell Try.prog 39 := tcell (by kernel_rfl)
theorem ty_t39 : TSize Try.prog 39 1 := tsize (by kernel_rfl)
theorem ty_fz39 : TZeroF Try.prog 39 := tzeroF (by kernel_rfl)
theorem ty_c40 : TCell Try.prog 40 := tcell (by kernel_rfl)
theorem ty_t40 : TSize Try.prog 40 1 := tsize (by kernel_rfl)
theorem ty_fz40 : TZeroF Try.prog 40 := tzeroF (by kernel_rfl)
theorem ty_c41 : TCell Try.prog 41 := tcell (by kernel_rfl)
theorem ty_t41 : TSize Try.prog 41 1 := tsize (by kernel_rfl)
theorem ty_fz41 : TZeroF Try.prog 41 := tzeroF (by kernel_rfl)
theorem ty_c42 : TCell Try.prog 42 := tcell (by kernel_rfl)
theorem ty_t42 : TSize Try.prog 42 1 := tsize (by kernel_rfl)
theorem ty_fz42 : TZeroF Try.prog 42 := tzeroF (by kernel_rfl)
theorem ty_t43 : TSize Try.prog 43 3 := tsize (by kernel_rfl)
theorem ty_z43 : TZero Try.prog 43 [.int .i64 0, .int .i64 0, .int .i64 0] := tzero (.agg #[.int .i64 0, .int .i64 0, .int .i64 0]) (by kernel_rfl) rfl
theorem ty_a43 : TAgg Try.prog 43 3 := tagg (by kernel_rfl)
theorem ty_f43_0 : TField Try.prog 43 0 0 := tfield (by kernel_rfl)
theorem ty_f43_1 : TField Try.prog 43 1 1 := tfield (by kernel_rfl)
theorem ty_f43_2 : TField Try.prog 43 2 2 := tfield (by kernel_rfl)
theorem ty_st43 : TStruct Try.prog 43 [(0, 1), (1, 1), (2, 1)] [.int .i64 0, .int .i64 0, .int .i64 0] := tstruct (by kernel_rfl) ty_z43
theorem ty_t44 : TSize Try.prog 44 3 := tsize (by kernel_rfl)
theorem ty_z44 : TZero Try.prog 44 [.int .i64 0, .int .i64 0, .int .i64 0] := tzero (.agg #[.int .i64 0, .int .i64 0, .int .i64 0]) (by kernel_rfl) rfl
theorem ty_a44 : TAgg Try.prog 44 3 := tagg (by kernel_rfl)
theorem ty_f44_0 : TField Try.prog 44 0 0 := tfield (by kernel_rfl)
theorem ty_f44_1 : TField Try.prog 44 1 1 := tfield (by kernel_rfl)
theorem ty_f44_2 : TField Try.prog 44 2 2 := tfield (by kernel_rfl)
theorem ty_st44 : TStruct Try.prog 44 [(0, 1), (1, 1), (2, 1)] [.int .i64 0, .int .i64 0, .int .i64 0] := tstruct (by kernel_rfl) ty_z44
theorem ty_c45 : TCell Try.prog 45 := tcell (by kernel_rfl)
theorem ty_t45 : TSize Try.prog 45 1 := tsize (by kernel_rfl)
theorem ty_fz45 : TZeroF Try.prog 45 := tzeroF (by kernel_rfl)
theorem ty_c46 : TCell Try.prog 46 := tcell (by kernel_rfl)
theorem ty_t46 : TSize Try.prog 46 1 := tsize (by kernel_rfl)
theorem ty_fz46 : TZeroF Try.prog 46 := tzeroF (by kernel_rfl)
theorem ty_c47 : TCell Try.prog 47 := tcell (by kernel_rfl)
theorem ty_t47 : TSize Try.prog 47 1 := tsize (by kernel_rfl)
theorem ty_fz47 : TZeroF Try.prog 47 := tzeroF (by kernel_rfl)
theorem ty_c48 : TCell Try.prog 48 := tcell (by kernel_rfl)
theorem ty_t48 : TSize Try.prog 48 1 := tsize (by kernel_rfl)
theorem ty_c49 : TCell Try.prog 49 := tcell (by kernel_rfl)
theorem ty_u49 : Try.prog.underlying 49 = some (.int .u64) := Try.underlying49
theorem ty_t49 : TSize Try.prog 49 1 := tsize (by kernel_rfl)
theorem ty_z49 : TZero Try.prog 49 [.int .u64 0] := tzero (.int .u64 0) (by kernel_rfl) rfl
theorem ty_t50 : TSize Try.prog 50 3 := tsize (by kernel_rfl)
theorem ty_z50 : TZero Try.prog 50 [.nil, .int .i64 0, .int .u64 0] := tzero (.agg #[.slice none 0 0, .int .i64 0, .int .u64 0]) (by kernel_rfl) rfl
theorem ty_a50 : TAgg Try.prog 50 3 := tagg (by kernel_rfl)
theorem ty_f50_0 : TField Try.prog 50 0 0 := tfield (by kernel_rfl)
theorem ty_f50_1 : TField Try.prog 50 1 1 := tfield (by kernel_rfl)
theorem ty_f50_2 : TField Try.prog 50 2 2 := tfield (by kernel_rfl)
theorem ty_st50 : TStruct Try.prog 50 [(0, 1), (1, 1), (2, 1)] [.nil, .int .i64 0, .int .u64 0] := tstruct (by kernel_rfl) ty_z50
theorem ty_t51 : TSize Try.prog 51 3 := tsize (by kernel_rfl)
theorem ty_z51 : TZero Try.prog 51 [.nil, .int .i64 0, .int .u64 0] := tzero (.agg #[.slice none 0 0, .int .i64 0, .int .u64 0]) (by kernel_rfl) rfl
theorem ty_a51 : TAgg Try.prog 51 3 := tagg (by kernel_rfl)
theorem ty_f51_0 : TField Try.prog 51 0 0 := tfield (by kernel_rfl)
theorem ty_f51_1 : TField Try.prog 51 1 1 := tfield (by kernel_rfl)
theorem ty_f51_2 : TField Try.prog 51 2 2 := tfield (by kernel_rfl)
theorem ty_st51 : TStruct Try.prog 51 [(0, 1), (1, 1), (2, 1)] [.nil, .int .i64 0, .int .u64 0] := tstruct (by kernel_rfl) ty_z51
theorem ty_c52 : TCell Try.prog 52 := tcell (by kernel_rfl)
theorem ty_t52 : TSize Try.prog 52 1 := tsize (by kernel_rfl)
theorem ty_fz52 : TZeroF Try.prog 52 := tzeroF (by kernel_rfl)
theorem ty_c53 : TCell Try.prog 53 := tcell (by kernel_rfl)
theorem ty_t53 : TSize Try.prog 53 1 := tsize (by kernel_rfl)
theorem ty_fz53 : TZeroF Try.prog 53 := tzeroF (by kernel_rfl)
theorem ty_c54 : TCell Try.prog 54 := tcell (by kernel_rfl)
theorem ty_t54 : TSize Try.prog 54 1 := tsize (by kernel_rfl)
theorem ty_fz54 : TZeroF Try.prog 54 := tzeroF (by kernel_rfl)
theorem ty_c55 : TCell Try.prog 55 := tcell (by kernel_rfl)
theorem ty_t55 : TSize Try.prog 55 1 := tsize (by kernel_rfl)
theorem ty_fz55 : TZeroF Try.prog 55 := tzeroF (by kernel_rfl)
theorem ty_c56 : TCell Try.prog 56 := tcell (by kernel_rfl)
theorem ty_t56 : TSize Try.prog 56 1 := tsize (by kernel_rfl)
theorem ty_fz56 : TZeroF Try.prog 56 := tzeroF (by kernel_rfl)
theorem ty_c57 : TCell Try.prog 57 := tcell (by kernel_rfl)
theorem ty_t57 : TSize Try.prog 57 1 := tsize (by kernel_rfl)
theorem ty_fz57 : TZeroF Try.prog 57 := tzeroF (by kernel_rfl)
theorem ty_c58 : TCell Try.prog 58 := tcell (by kernel_rfl)
theorem ty_t58 : TSize Try.prog 58 1 := tsize (by kernel_rfl)
theorem ty_fz58 : TZeroF Try.prog 58 := tzeroF (by kernel_rfl)
theorem ty_c59 : TCell Try.prog 59 := tcell (by kernel_rfl)
theorem ty_t59 : TSize Try.prog 59 1 := tsize (by kernel_rfl)
theorem ty_fz59 : TZeroF Try.prog 59 := tzeroF (by kernel_rfl)
theorem ty_c60 : TCell Try.prog 60 := tcell (by kernel_rfl)
theorem ty_t60 : TSize Try.prog 60 1 := tsize (by kernel_rfl)
theorem ty_fz60 : TZeroF Try.prog 60 := tzeroF (by kernel_rfl)
theorem ty_c61 : TCell Try.prog 61 := tcell (by kernel_rfl)
theorem ty_t61 : TSize Try.prog 61 1 := tsize (by kernel_rfl)
theorem ty_fz61 : TZeroF Try.prog 61 := tzeroF (by kernel_rfl)
theorem ty_c63 : TCell Try.prog 63 := tcell (by kernel_rfl)
theorem ty_t63 : TSize Try.prog 63 1 := tsize (by kernel_rfl)
theorem ty_fz63 : TZeroF Try.prog 63 := tzeroF (by kernel_rfl)
theorem ty_c64 : TCell Try.prog 64 := tcell (by kernel_rfl)
theorem ty_t64 : TSize Try.prog 64 1 := tsize (by kernel_rfl)
theorem ty_fz64 : TZeroF Try.prog 64 := tzeroF (by kernel_rfl)
theorem ty_c66 : TCell Try.prog 66 := tcell (by kernel_rfl)
theorem ty_t66 : TSize Try.prog 66 1 := tsize (by kernel_rfl)
theorem ty_fz66 : TZeroF Try.prog 66 := tzeroF (by kernel_rfl)
theorem ty_c67 : TCell Try.prog 67 := tcell (by kernel_rfl)
theorem ty_t67 : TSize Try.prog 67 1 := tsize (by kernel_rfl)
theorem ty_fz67 : TZeroF Try.prog 67 := tzeroF (by kernel_rfl)
theorem ty_c68 : TCell Try.prog 68 := tcell (by kernel_rfl)
theorem ty_t68 : TSize Try.prog 68 1 := tsize (by kernel_rfl)
theorem ty_fz68 : TZeroF Try.prog 68 := tzeroF (by kernel_rfl)
theorem ty_c69 : TCell Try.prog 69 := tcell (by kernel_rfl)
theorem ty_t69 : TSize Try.prog 69 1 := tsize (by kernel_rfl)
theorem ty_fz69 : TZeroF Try.prog 69 := tzeroF (by kernel_rfl)
theorem ty_c70 : TCell Try.prog 70 := tcell (by kernel_rfl)
theorem ty_t70 : TSize Try.prog 70 1 := tsize (by kernel_rfl)
theorem ty_fz70 : TZeroF Try.prog 70 := tzeroF (by kernel_rfl)
theorem ty_c71 : TCell Try.prog 71 := tcell (by kernel_rfl)
theorem ty_t71 : TSize Try.prog 71 1 := tsize (by kernel_rfl)
theorem ty_fz71 : TZeroF Try.prog 71 := tzeroF (by kernel_rfl)
theorem ty_c72 : TCell Try.prog 72 := tcell (by kernel_rfl)
theorem ty_t72 : TSize Try.prog 72 1 := tsize (by kernel_rfl)
theorem ty_fz72 : TZeroF Try.prog 72 := tzeroF (by kernel_rfl)
theorem ty_c73 : TCell Try.prog 73 := tcell (by kernel_rfl)
theorem ty_u73 : Try.prog.underlying 73 = some (.int .u64) := Try.underlying73
theorem ty_t73 : TSize Try.prog 73 1 := tsize (by kernel_rfl)
theorem ty_z73 : TZero Try.prog 73 [.int .u64 0] := tzero (.int .u64 0) (by kernel_rfl) rfl
theorem ty_c74 : TCell Try.prog 74 := tcell (by kernel_rfl)
theorem ty_t74 : TSize Try.prog 74 1 := tsize (by kernel_rfl)
theorem ty_fz74 : TZeroF Try.prog 74 := tzeroF (by kernel_rfl)
theorem ty_c75 : TCell Try.prog 75 := tcell (by kernel_rfl)
theorem ty_t75 : TSize Try.prog 75 1 := tsize (by kernel_rfl)
theorem ty_fz75 : TZeroF Try.prog 75 := tzeroF (by kernel_rfl)
theorem ty_c81 : TCell Try.prog 81 := tcell (by kernel_rfl)
theorem ty_u81 : Try.prog.underlying 81 = some (.int .u32) := Try.underlying81
theorem ty_t81 : TSize Try.prog 81 1 := tsize (by kernel_rfl)
theorem ty_z81 : TZero Try.prog 81 [.int .u32 0] := tzero (.int .u32 0) (by kernel_rfl) rfl
theorem ty_c84 : TCell Try.prog 84 := tcell (by kernel_rfl)
theorem ty_t84 : TSize Try.prog 84 1 := tsize (by kernel_rfl)
theorem ty_fz84 : TZeroF Try.prog 84 := tzeroF (by kernel_rfl)
theorem ty_c85 : TCell Try.prog 85 := tcell (by kernel_rfl)
theorem ty_t85 : TSize Try.prog 85 1 := tsize (by kernel_rfl)
end Go.Vs
