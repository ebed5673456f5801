/- TYPES: facts on the types of this seat, printed by a program of mine out of the list of types. -/
import Derived.Test.YtmlhmapibagmgaaVs26
import Derived.Test.YtmlhmapibagmgaaRows
set_option linter.unusedVariables false
set_option linter.unusedSimpArgs false
set_option maxRecDepth 100000
namespace Go.Vs
open Go.Proofs
theorem hmix : Try.prog.follows .mixedOrders = true := by kernel_rfl
theorem ty_c1 : TCell Try.prog 1 := tcell (by kernel_rfl)
theorem ty_t1 : TSize Try.prog 1 1 := tsize (by kernel_rfl)
theorem ty_c2 : TCell Try.prog 2 := tcell (by kernel_rfl)
theorem ty_u2 : Try.prog.underlying 2 = some (.int .i64) := Try.underlying2
theorem ty_t2 : TSize Try.prog 2 1 := tsize (by kernel_rfl)
theorem ty_z2 : TZero Try.prog 2 [.int .i64 0] := tzero (.int .i64 0) (by kernel_rfl) rfl
theorem ty_c3 : TCell Try.prog 3 := tcell (by kernel_rfl)
theorem ty_u3 : Try.prog.underlying 3 = some (.int .i64) := Try.underlying3
theorem ty_t3 : TSize Try.prog 3 1 := tsize (by kernel_rfl)
theorem ty_z3 : TZero Try.prog 3 [.int .i64 0] := tzero (.int .i64 0) (by kernel_rfl) rfl
theorem ty_c4 : TCell Try.prog 4 := tcell (by kernel_rfl)
theorem ty_u4 : Try.prog.underlying 4 = some .bool := Try.underlying4
theorem ty_t4 : TSize Try.prog 4 1 := tsize (by kernel_rfl)
theorem ty_z4 : TZero Try.prog 4 [.bool false] := tzero (.bool false) (by kernel_rfl) rfl
theorem ty_c5 : TCell Try.prog 5 := tcell (by kernel_rfl)
theorem ty_u5 : Try.prog.underlying 5 = some (.int .u8) := Try.underlying5
theorem ty_t5 : TSize Try.prog 5 1 := tsize (by kernel_rfl)
theorem ty_z5 : TZero Try.prog 5 [.int .u8 0] := tzero (.int .u8 0) (by kernel_rfl) rfl
theorem ty_c9 : TCell Try.prog 9 := tcell (by kernel_rfl)
theorem ty_u9 : Try.prog.underlying 9 = some .string := Try.underlying9
theorem ty_t9 : TSize Try.prog 9 1 := tsize (by kernel_rfl)
theorem ty_z9 : TZero Try.prog 9 [.str ByteArray.empty] := tzero (.string ByteArray.empty) (by kernel_rfl) rfl
theorem ty_c12 : TCell Try.prog 12 := tcell (by kernel_rfl)
theorem ty_u12 : Try.prog.underlying 12 = some (.int .u64) := Try.underlying12
theorem ty_t12 : TSize Try.prog 12 1 := tsize (by kernel_rfl)
theorem ty_z12 : TZero Try.prog 12 [.int .u64 0] := tzero (.int .u64 0) (by kernel_rfl) rfl
theorem ty_c15 : TCell Try.prog 15 := tcell (by kernel_rfl)
theorem ty_t15 : TSize Try.prog 15 1 := tsize (by kernel_rfl)
theorem ty_c16 : TCell Try.prog 16 := tcell (by kernel_rfl)
theorem ty_t16 : TSize Try.prog 16 1 := tsize (by kernel_rfl)
theorem ty_c17 : TCell Try.prog 17 := tcell (by kernel_rfl)
theorem ty_t17 : TSize Try.prog 17 1 := tsize (by kernel_rfl)
theorem ty_c21 : TCell Try.prog 21 := tcell (by kernel_rfl)
theorem ty_u21 : Try.prog.underlying 21 = some (.int .i32) := Try.underlying21
theorem ty_t21 : TSize Try.prog 21 1 := tsize (by kernel_rfl)
theorem ty_z21 : TZero Try.prog 21 [.int .i32 0] := tzero (.int .i32 0) (by kernel_rfl) rfl
theorem ty_c22 : TCell Try.prog 22 := tcell (by kernel_rfl)
theorem ty_u22 : Try.prog.underlying 22 = some (.slice 65) := Try.underlying22
theorem ty_t22 : TSize Try.prog 22 1 := tsize (by kernel_rfl)
theorem ty_z22 : TZero Try.prog 22 [.nil] := tzero (.slice none 0 0) (by kernel_rfl) rfl
theorem ty_s22 : TSlice Try.prog 22 65 3 24 := tslice (by kernel_rfl)
theorem ty_c23 : TCell Try.prog 23 := tcell (by kernel_rfl)
theorem ty_t23 : TSize Try.prog 23 1 := tsize (by kernel_rfl)
theorem ty_c24 : TCell Try.prog 24 := tcell (by kernel_rfl)
theorem ty_t24 : TSize Try.prog 24 1 := tsize (by kernel_rfl)
theorem ty_c25 : TCell Try.prog 25 := tcell (by kernel_rfl)
theorem ty_u25 : Try.prog.underlying 25 = some (.slice 63) := Try.underlying25
theorem ty_t25 : TSize Try.prog 25 1 := tsize (by kernel_rfl)
theorem ty_z25 : TZero Try.prog 25 [.nil] := tzero (.slice none 0 0) (by kernel_rfl) rfl
theorem ty_s25 : TSlice Try.prog 25 63 3 24 := tslice (by kernel_rfl)
theorem ty_c26 : TCell Try.prog 26 := tcell (by kernel_rfl)
theorem ty_t26 : TSize Try.prog 26 1 := tsize (by kernel_rfl)
theorem ty_c27 : TCell Try.prog 27 := tcell (by kernel_rfl)
theorem ty_t27 : TSize Try.prog 27 1 := tsize (by kernel_rfl)
theorem ty_c28 : TCell Try.prog 28 := tcell (by kernel_rfl)
theorem ty_t28 : TSize Try.prog 28 1 := tsize (by kernel_rfl)
theorem ty_c30 : TCell Try.prog 30 := tcell (by kernel_rfl)
theorem ty_t30 : TSize Try.prog 30 1 := tsize (by kernel_rfl)
theorem ty_c31 : TCell Try.prog 31 := tcell (by kernel_rfl)
theorem ty_t31 : TSize Try.prog 31 1 := tsize (by kernel_rfl)
theorem ty_c32 : TCell Try.prog 32 := tcell (by kernel_rfl)
theorem ty_t32 : TSize Try.prog 32 1 := tsize (by kernel_rfl)
theorem ty_c33 : TCell Try.prog 33 := tcell (by kernel_rfl)
theorem ty_u33 : Try.prog.underlying 33 = some (.slice 73) := Try.underlying33
theorem ty_t33 : TSize Try.prog 33 1 := tsize (by kernel_rfl)
theorem ty_z33 : TZero Try.prog 33 [.nil] := tzero (.slice none 0 0) (by kernel_rfl) rfl
theorem ty_s33 : TSlice Try.prog 33 73 3 24 := tslice (by kernel_rfl)
theorem ty_c34 : TCell Try.prog 34 := tcell (by kernel_rfl)
theorem ty_t34 : TSize Try.prog 34 1 := tsize (by kernel_rfl)
theorem ty_c35 : TCell Try.prog 35 := tcell (by kernel_rfl)
theorem ty_t35 : TSize Try.prog 35 1 := tsize (by kernel_rfl)
theorem ty_c36 : TCell Try.prog 36 := tcell (by kernel_rfl)
theorem ty_u36 : Try.prog.underlying 36 = some (.slice 58) := Try.underlying36
theorem ty_t36 : TSize Try.prog 36 1 := tsize (by kernel_rfl)
theorem ty_z36 : TZero Try.prog 36 [.nil] := tzero (.slice none 0 0) (by kernel_rfl) rfl
theorem ty_s36 : TSlice Try.prog 36 58 3 24 := tslice (by kernel_rfl)
theorem ty_c37 : TCell Try.prog 37 := tcell (by kernel_rfl)
theorem ty_t37 : TSize Try.prog 37 1 := tsize (by kernel_rfl)
theorem ty_c38 : TCell Try.prog 38 := tcell (by kernel_rfl)
theorem ty_t38 : TSize Try.prog 38 1 := tsize (by kernel_rfl)
theorem ty_c39 : TCell Try.prog 39 := tcell (by kernel_rfl)
theorem ty_t39 : TSize Try.prog 39 1 := tsize (by kernel_rfl)
theorem ty_c40 : TCell Try.prog 40 := tcell (by kernel_rfl)
theorem ty_u40 : Try.prog.underlying 40 = some (.slice 3) := Try.underlying40
theorem ty_t40 : TSize Try.prog 40 1 := tsize (by kernel_rfl)
theorem ty_z40 : TZero Try.prog 40 [.nil] := tzero (.slice none 0 0) (by kernel_rfl) rfl
theorem ty_s40 : TSlice Try.prog 40 3 1 8 := tslice (by kernel_rfl)
theorem ty_c42 : TCell Try.prog 42 := tcell (by kernel_rfl)
theorem ty_t42 : TSize Try.prog 42 1 := tsize (by kernel_rfl)
theorem ty_c43 : TCell Try.prog 43 := tcell (by kernel_rfl)
theorem ty_t43 : TSize Try.prog 43 1 := tsize (by kernel_rfl)
theorem ty_c44 : TCell Try.prog 44 := tcell (by kernel_rfl)
theorem ty_t44 : TSize Try.prog 44 1 := tsize (by kernel_rfl)
theorem ty_c45 : TCell Try.prog 45 := tcell (by kernel_rfl)
theorem ty_t45 : TSize Try.prog 45 1 := tsize (by kernel_rfl)
theorem ty_c47 : TCell Try.prog 47 := tcell (by kernel_rfl)
theorem ty_t47 : TSize Try.prog 47 1 := tsize (by kernel_rfl)
theorem ty_c48 : TCell Try.prog 48 := tcell (by kernel_rfl)
theorem ty_t48 : TSize Try.prog 48 1 := tsize (by kernel_rfl)
theorem ty_c50 : TCell Try.prog 50 := tcell (by kernel_rfl)
theorem ty_t50 : TSize Try.prog 50 1 := tsize (by kernel_rfl)
theorem ty_c51 : TCell Try.prog 51 := tcell (by kernel_rfl)
theorem ty_t51 : TSize Try.prog 51 1 := tsize (by kernel_rfl)
theorem ty_c52 : TCell Try.prog 52 := tcell (by kernel_rfl)
theorem ty_t52 : TSize Try.prog 52 1 := tsize (by kernel_rfl)
theorem ty_c53 : TCell Try.prog 53 := tcell (by kernel_rfl)
theorem ty_u53 : Try.prog.underlying 53 = some (.slice 5) := Try.underlying53
theorem ty_t53 : TSize Try.prog 53 1 := tsize (by kernel_rfl)
theorem ty_z53 : TZero Try.prog 53 [.nil] := tzero (.slice none 0 0) (by kernel_rfl) rfl
theorem ty_s53 : TSlice Try.prog 53 5 1 1 := tslice (by kernel_rfl)
theorem ty_c54 : TCell Try.prog 54 := tcell (by kernel_rfl)
theorem ty_t54 : TSize Try.prog 54 1 := tsize (by kernel_rfl)
theorem ty_c56 : TCell Try.prog 56 := tcell (by kernel_rfl)
theorem ty_t56 : TSize Try.prog 56 1 := tsize (by kernel_rfl)
theorem ty_t57 : TSize Try.prog 57 3 := tsize (by kernel_rfl)
theorem ty_z57 : TZero Try.prog 57 [.int .i64 0, .int .i64 0, .int .i64 0] := tzero (.agg #[.int .i64 0, .int .i64 0, .int .i64 0]) (by kernel_rfl) rfl
theorem ty_a57 : TAgg Try.prog 57 3 := tagg (by kernel_rfl)
theorem ty_f57_0 : TField Try.prog 57 0 0 := tfield (by kernel_rfl)
theorem ty_f57_1 : TField Try.prog 57 1 1 := tfield (by kernel_rfl)
theorem ty_f57_2 : TField Try.prog 57 2 2 := tfield (by kernel_rfl)
theorem ty_st57 : TStruct Try.prog 57 [(0, 1), (1, 1), (2, 1)] [.int .i64 0, .int .i64 0, .int .i64 0] := tstruct (by kernel_rfl) ty_z57
theorem ty_t58 : TSize Try.prog 58 3 := tsize (by kernel_rfl)
theorem ty_z58 : TZero Try.prog 58 [.int .i64 0, .int .i64 0, .int .i64 0] := tzero (.agg #[.int .i64 0, .int .i64 0, .int .i64 0]) (by kernel_rfl) rfl
theorem ty_a58 : TAgg Try.prog 58 3 := tagg (by kernel_rfl)
theorem ty_f58_0 : TField Try.prog 58 0 0 := tfield (by kernel_rfl)
theorem ty_f58_1 : TField Try.prog 58 1 1 := tfield (by kernel_rfl)
theorem ty_f58_2 : TField Try.prog 58 2 2 := tfield (by kernel_rfl)
theorem ty_st58 : TStruct Try.prog 58 [(0, 1), (1, 1), (2, 1)] [.int .i64 0, .int .i64 0, .int .i64 0] := tstruct (by kernel_rfl) ty_z58
theorem ty_c60 : TCell Try.prog 60 := tcell (by kernel_rfl)
theorem ty_t60 : TSize Try.prog 60 1 := tsize (by kernel_rfl)
theorem ty_c61 : TCell Try.prog 61 := tcell (by kernel_rfl)
theorem ty_t61 : TSize Try.prog 61 1 := tsize (by kernel_rfl)
theorem ty_t62 : TSize Try.prog 62 3 := tsize (by kernel_rfl)
theorem ty_z62 : TZero Try.prog 62 [.int .i64 0, .int .i64 0, .int .i64 0] := tzero (.agg #[.int .i64 0, .int .i64 0, .int .i64 0]) (by kernel_rfl) rfl
theorem ty_a62 : TAgg Try.prog 62 3 := tagg (by kernel_rfl)
theorem ty_f62_0 : TField Try.prog 62 0 0 := tfield (by kernel_rfl)
theorem ty_f62_1 : TField Try.prog 62 1 1 := tfield (by kernel_rfl)
theorem ty_f62_2 : TField Try.prog 62 2 2 := tfield (by kernel_rfl)
theorem ty_st62 : TStruct Try.prog 62 [(0, 1), (1, 1), (2, 1)] [.int .i64 0, .int .i64 0, .int .i64 0] := tstruct (by kernel_rfl) ty_z62
theorem ty_t63 : TSize Try.prog 63 3 := tsize (by kernel_rfl)
theorem ty_z63 : TZero Try.prog 63 [.int .i64 0, .int .i64 0, .int .i64 0] := tzero (.agg #[.int .i64 0, .int .i64 0, .int .i64 0]) (by kernel_rfl) rfl
theorem ty_a63 : TAgg Try.prog 63 3 := tagg (by kernel_rfl)
theorem ty_f63_0 : TField Try.prog 63 0 0 := tfield (by kernel_rfl)
theorem ty_f63_1 : TField Try.prog 63 1 1 := tfield (by kernel_rfl)
theorem ty_f63_2 : TField Try.prog 63 2 2 := tfield (by kernel_rfl)
theorem ty_st63 : TStruct Try.prog 63 [(0, 1), (1, 1), (2, 1)] [.int .i64 0, .int .i64 0, .int .i64 0] := tstruct (by kernel_rfl) ty_z63
theorem ty_c64 : TCell Try.prog 64 := tcell (by kernel_rfl)
theorem ty_t64 : TSize Try.prog 64 1 := tsize (by kernel_rfl)
theorem ty_t65 : TSize Try.prog 65 3 := tsize (by kernel_rfl)
theorem ty_z65 : TZero Try.prog 65 [.int .i64 0, .int .i64 0, .int .i64 0] := tzero (.agg #[.int .i64 0, .int .i64 0, .int .i64 0]) (by kernel_rfl) rfl
theorem ty_a65 : TAgg Try.prog 65 3 := tagg (by kernel_rfl)
theorem ty_f65_0 : TField Try.prog 65 0 0 := tfield (by kernel_rfl)
theorem ty_f65_1 : TField Try.prog 65 1 1 := tfield (by kernel_rfl)
theorem ty_f65_2 : TField Try.prog 65 2 2 := tfield (by kernel_rfl)
theorem ty_st65 : TStruct Try.prog 65 [(0, 1), (1, 1), (2, 1)] [.int .i64 0, .int .i64 0, .int .i64 0] := tstruct (by kernel_rfl) ty_z65
theorem ty_c66 : TCell Try.prog 66 := tcell (by kernel_rfl)
theorem ty_t66 : TSize Try.prog 66 1 := tsize (by kernel_rfl)
theorem ty_c67 : TCell Try.prog 67 := tcell (by kernel_rfl)
theorem ty_t67 : TSize Try.prog 67 1 := tsize (by kernel_rfl)
theorem ty_c68 : TCell Try.prog 68 := tcell (by kernel_rfl)
theorem ty_t68 : TSize Try.prog 68 1 := tsize (by kernel_rfl)
theorem ty_c69 : TCell Try.prog 69 := tcell (by kernel_rfl)
theorem ty_t69 : TSize Try.prog 69 1 := tsize (by kernel_rfl)
theorem ty_c70 : TCell Try.prog 70 := tcell (by kernel_rfl)
theorem ty_t70 : TSize Try.prog 70 1 := tsize (by kernel_rfl)
theorem ty_c71 : TCell Try.prog 71 := tcell (by kernel_rfl)
theorem ty_t71 : TSize Try.prog 71 1 := tsize (by kernel_rfl)
theorem ty_c72 : TCell Try.prog 72 := tcell (by kernel_rfl)
theorem ty_t72 : TSize Try.prog 72 1 := tsize (by kernel_rfl)
theorem ty_t73 : TSize Try.prog 73 3 := tsize (by kernel_rfl)
theorem ty_z73 : TZero Try.prog 73 [.int .i64 0, .int .i64 0, .int .i64 0] := tzero (.agg #[.int .i64 0, .int .i64 0, .int .i64 0]) (by kernel_rfl) rfl
theorem ty_a73 : TAgg Try.prog 73 3 := tagg (by kernel_rfl)
theorem ty_f73_0 : TField Try.prog 73 0 0 := tfield (by kernel_rfl)
theorem ty_f73_1 : TField Try.prog 73 1 1 := tfield (by kernel_rfl)
theorem ty_f73_2 : TField Try.prog 73 2 2 := tfield (by kernel_rfl)
theorem ty_st73 : TStruct Try.prog 73 [(0, 1), (1, 1), (2, 1)] [.int .i64 0, .int .i64 0, .int .i64 0] := tstruct (by kernel_rfl) ty_z73
theorem ty_c74 : TCell Try.prog 74 := tcell (by kernel_rfl)
theorem ty_t74 : TSize Try.prog 74 1 := tsize (by kernel_rfl)
theorem ty_c75 : TCell Try.prog 75 := tcell (by kernel_rfl)
theorem ty_t75 : TSize Try.prog 75 1 := tsize (by kernel_rfl)
theorem ty_c76 : TCell Try.prog 76 := tcell (by kernel_rfl)
theorem ty_t76 : TSize Try.prog 76 1 := tsize (by kernel_rfl)
theorem ty_c77 : TCell Try.prog 77 := tcell (by kernel_rfl)
theorem ty_t77 : TSize Try.prog 77 1 := tsize (by kernel_rfl)
theorem ty_c78 : TCell Try.prog 78 := tcell (by kernel_rfl)
theorem ty_t78 : TSize Try.prog 78 1 := tsize (by kernel_rfl)
theorem ty_c79 : TCell Try.prog 79 := tcell (by kernel_rfl)
theorem ty_t79 : TSize Try.prog 79 1 := tsize (by kernel_rfl)
theorem ty_c80 : TCell Try.prog 80 := tcell (by kernel_rfl)
theorem ty_t80 : TSize Try.prog 80 1 := tsize (by kernel_rfl)
theorem ty_c82 : TCell Try.prog 82 := tcell (by kernel_rfl)
theorem ty_t82 : TSize Try.prog 82 1 := tsize (by kernel_rfl)
theorem ty_c84 : TCell Try.prog 84 := tcell (by kernel_rfl)
theorem ty_t84 : TSize Try.prog 84 1 := tsize (by kernel_rfl)
theorem ty_c85 : TCell Try.prog 85 := tcell (by kernel_rfl)
theorem ty_t85 : TSize Try.prog 85 1 := tsize (by kernel_rfl)
theorem ty_c86 : TCell Try.prog 86 := tcell (by kernel_rfl)
theorem ty_t86 : TSize Try.prog 86 1 := tsize (by kernel_rfl)
theorem ty_c87 : TCell Try.prog 87 := tcell (by kernel_rfl)
theorem ty_t87 : TSize Try.prog 87 1 := tsize (by kernel_rfl)
theorem ty_c88 : TCell Try.prog 88 := tcell (by kernel_rfl)
theorem ty_t88 : TSize Try.prog 88 1 := tsize (by kernel_rfl)
theorem ty_c89 : TCell Try.prog 89 := tcell (by kernel_rfl)
theorem ty_u89 : Try.prog.underlying 89 = some (.int .u64) := Try.underlying89
theorem ty_t89 : TSize Try.prog 89 1 := tsize (by kernel_rfl)
theorem ty_z89 : TZero Try.prog 89 [.int .u64 0] := tzero (.int .u64 0) (by kernel_rfl) rfl
theorem ty_t90 : TSize Try.prog 90 3 := tsize (by kernel_rfl)
theorem ty_z90 : TZero Try.prog 90 [.nil, .int .i64 0, .int .u64 0] := tzero (.agg #[.slice none 0 0, .int .i64 0, .int .u64 0]) (by kernel_rfl) rfl
theorem ty_a90 : TAgg Try.prog 90 3 := tagg (by kernel_rfl)
theorem ty_f90_0 : TField Try.prog 90 0 0 := tfield (by kernel_rfl)
theorem ty_f90_1 : TField Try.prog 90 1 1 := tfield (by kernel_rfl)
theorem ty_f90_2 : TField Try.prog 90 2 2 := tfield (by kernel_rfl)
theorem ty_st90 : TStruct Try.prog 90 [(0, 1), (1, 1), (2, 1)] [.nil, .int .i64 0, .int .u64 0] := tstruct (by kernel_rfl) ty_z90
theorem ty_t91 : TSize Try.prog 91 3 := tsize (by kernel_rfl)
theorem ty_z91 : TZero Try.prog 91 [.nil, .int .i64 0, .int .u64 0] := tzero (.agg #[.slice none 0 0, .int .i64 0, .int .u64 0]) (by kernel_rfl) rfl
theorem ty_a91 : TAgg Try.prog 91 3 := tagg (by kernel_rfl)
theorem ty_f91_0 : TField Try.prog 91 0 0 := tfield (by kernel_rfl)
theorem ty_f91_1 : TField Try.prog 91 1 1 := tfield (by kernel_rfl)
theorem ty_f91_2 : TField Try.prog 91 2 2 := tfield (by kernel_rfl)
theorem ty_st91 : TStruct Try.prog 91 [(0, 1), (1, 1), (2, 1)] [.nil, .int .i64 0, .int .u64 0] := tstruct (by kernel_rfl) ty_z91
theorem ty_c92 : TCell Try.prog 92 := tcell (by kernel_rfl)
theorem ty_t92 : TSize Try.prog 92 1 := tsize (by kernel_rfl)
theorem ty_c93 : TCell Try.prog 93 := tcell (by kernel_rfl)
theorem ty_t93 : TSize Try.prog 93 1 := tsize (by kernel_rfl)
theorem ty_c94 : TCell Try.prog 94 := tcell (by kernel_rfl)
theorem ty_t94 : TSize Try.prog 94 1 := tsize (by kernel_rfl)
theorem ty_c95 : TCell Try.prog 95 := tcell (by kernel_rfl)
theorem ty_t95 : TSize Try.prog 95 1 := tsize (by kernel_rfl)
theorem ty_c96 : TCell Try.prog 96 := tcell (by kernel_rfl)
theorem ty_t96 : TSize Try.prog 96 1 := tsize (by kernel_rfl)
theorem ty_c97 : TCell Try.prog 97 := tcell (by kernel_rfl)
theorem ty_t97 : TSize Try.prog 97 1 := tsize (by kernel_rfl)
theorem ty_c98 : TCell Try.prog 98 := tcell (by kernel_rfl)
theorem ty_t98 : TSize Try.prog 98 1 := tsize (by kernel_rfl)
theorem ty_c99 : TCell Try.prog 99 := tcell (by kernel_rfl)
theorem ty_u99 : Try.prog.underlying 99 = some (.int .u64) := Try.underlying99
theorem ty_t99 : TSize Try.prog 99 1 := tsize (by kernel_rfl)
theorem ty_z99 : TZero Try.prog 99 [.int .u64 0] := tzero (.int .u64 0) (by kernel_rfl) rfl
theorem ty_c100 : TCell Try.prog 100 := tcell (by kernel_rfl)
theorem ty_t100 : TSize Try.prog 100 1 := tsize (by kernel_rfl)
theorem ty_c106 : TCell Try.prog 106 := tcell (by kernel_rfl)
theorem ty_u106 : Try.prog.underlying 106 = some (.int .u32) := Try.underlying106
theorem ty_t106 : TSize Try.prog 106 1 := tsize (by kernel_rfl)
theorem ty_z106 : TZero Try.prog 106 [.int .u32 0] := tzero (.int .u32 0) (by kernel_rfl) rfl
theorem ty_c109 : TCell Try.prog 109 := tcell (by kernel_rfl)
theorem ty_t109 : TSize Try.prog 109 1 := tsize (by kernel_rfl)
theorem ty_c110 : TCell Try.prog 110 := tcell (by kernel_rfl)
theorem ty_t110 : TSize Try.prog 110 1 := tsize (by kernel_rfl)
end Go.Vs
