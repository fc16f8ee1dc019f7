/- Closed facts on the types of the program. Made by a program (gen_types.py). No condition. -/
import Derived.Test.YtnidojjahhhaaaaAcd
import Derived.Test.YtnidojjahhhaaaaAbz
import Derived.Test.YtnidojjahhhaaaaRows
namespace Go.Proofs.Ytnidojjahhhaaaa
open Go Go.Ab

theorem in2 : Try.prog.info? 2 = some Try.t2 := by kernel_rfl
@[simp] theorem ty2 : TyOne Try.prog 2 8 (some .i64) none false := tyOne_int in2 Try.underlying2 rfl rfl
@[simp] theorem tz2 : TyZ Try.prog 2 [.int .i64 0] := tyZ in2 rfl rfl rfl rfl
theorem in3 : Try.prog.info? 3 = some Try.t3 := by kernel_rfl
@[simp] theorem ty3 : TyOne Try.prog 3 8 (some .i64) none false := tyOne_int in3 Try.underlying3 rfl rfl
@[simp] theorem tz3 : TyZ Try.prog 3 [.int .i64 0] := tyZ in3 rfl rfl rfl rfl
theorem in4 : Try.prog.info? 4 = some Try.t4 := by kernel_rfl
@[simp] theorem ty4 : TyOne Try.prog 4 1 none none false := tyOne_bool in4 Try.underlying4 rfl rfl
@[simp] theorem ub4 : Try.prog.underlying 4 = some .bool := Try.underlying4
@[simp] theorem tz4 : TyZ Try.prog 4 [.bool false] := tyZ in4 rfl rfl rfl rfl
theorem in5 : Try.prog.info? 5 = some Try.t5 := by kernel_rfl
@[simp] theorem ty5 : TyOne Try.prog 5 1 (some .u8) none false := tyOne_int in5 Try.underlying5 rfl rfl
@[simp] theorem tz5 : TyZ Try.prog 5 [.int .u8 0] := tyZ in5 rfl rfl rfl rfl
theorem in6 : Try.prog.info? 6 = some Try.t6 := by kernel_rfl
@[simp] theorem ty6 : TyOne Try.prog 6 1 (some .u8) none false := tyOne_int in6 Try.underlying6 rfl rfl
@[simp] theorem tz6 : TyZ Try.prog 6 [.int .u8 0] := tyZ in6 rfl rfl rfl rfl
theorem in8 : Try.prog.info? 8 = some Try.t8 := by kernel_rfl
@[simp] theorem ty8 : TyAgg Try.prog 8 4 24 := tyAgg_struct in8 Try.underlying8 rfl rfl
@[simp] theorem tz8 : TyZ Try.prog 8 [.int .i64 0, .int .i64 0, .bool false, .int .u8 0] := tyZ in8 rfl rfl rfl rfl
theorem in9 : Try.prog.info? 9 = some Try.t9 := by kernel_rfl
@[simp] theorem ty9 : TyOne Try.prog 9 16 none none true := tyOne_str in9 Try.underlying9 rfl rfl
@[simp] theorem tz9 : TyZ Try.prog 9 [.str []] := tyZ in9 rfl rfl rfl rfl
theorem in10 : Try.prog.info? 10 = some Try.t10 := by kernel_rfl
@[simp] theorem ty10 : TyOne Try.prog 10 16 none none true := tyOne_str in10 Try.underlying10 rfl rfl
@[simp] theorem tz10 : TyZ Try.prog 10 [.str []] := tyZ in10 rfl rfl rfl rfl
theorem in11 : Try.prog.info? 11 = some Try.t11 := by kernel_rfl
@[simp] theorem ty11 : TyOne Try.prog 11 16 none none true := tyOne_str in11 Try.underlying11 rfl rfl
@[simp] theorem tz11 : TyZ Try.prog 11 [.str []] := tyZ in11 rfl rfl rfl rfl
theorem in12 : Try.prog.info? 12 = some Try.t12 := by kernel_rfl
@[simp] theorem ty12 : TyOne Try.prog 12 8 (some .u64) none false := tyOne_int in12 Try.underlying12 rfl rfl
@[simp] theorem tz12 : TyZ Try.prog 12 [.int .u64 0] := tyZ in12 rfl rfl rfl rfl
theorem in14 : Try.prog.info? 14 = some Try.t14 := by kernel_rfl
@[simp] theorem ty14 : TyAgg Try.prog 14 2 24 := tyAgg_struct in14 Try.underlying14 rfl rfl
@[simp] theorem tz14 : TyZ Try.prog 14 [.str [], .int .u64 0] := tyZ in14 rfl rfl rfl rfl
theorem in15 : Try.prog.info? 15 = some Try.t15 := by kernel_rfl
@[simp] theorem ty15 : TyOne Try.prog 15 8 none none false := tyOne_pointer in15 Try.underlying15 rfl rfl
@[simp] theorem tz15 : TyZ Try.prog 15 [.raw (.pointer none)] := tyZ in15 rfl rfl rfl rfl
theorem in16 : Try.prog.info? 16 = some Try.t16 := by kernel_rfl
@[simp] theorem ty16 : TyOne Try.prog 16 8 none none false := tyOne_pointer in16 Try.underlying16 rfl rfl
@[simp] theorem tz16 : TyZ Try.prog 16 [.raw (.pointer none)] := tyZ in16 rfl rfl rfl rfl
theorem in17 : Try.prog.info? 17 = some Try.t17 := by kernel_rfl
@[simp] theorem ty17 : TyOne Try.prog 17 8 none none false := tyOne_pointer in17 Try.underlying17 rfl rfl
@[simp] theorem tz17 : TyZ Try.prog 17 [.raw (.pointer none)] := tyZ in17 rfl rfl rfl rfl
theorem in19 : Try.prog.info? 19 = some Try.t19 := by kernel_rfl
@[simp] theorem ty19 : TyAgg Try.prog 19 1 8 := tyAgg_struct in19 Try.underlying19 rfl rfl
@[simp] theorem tz19 : TyZ Try.prog 19 [.raw (.pointer none)] := tyZ in19 rfl rfl rfl rfl
theorem in22 : Try.prog.info? 22 = some Try.t22 := by kernel_rfl
@[simp] theorem ty22 : TyOne Try.prog 22 24 none (some 75) false := tyOne_slice in22 Try.underlying22 rfl rfl
@[simp] theorem tz22 : TyZ Try.prog 22 [.nils] := tyZ in22 rfl rfl rfl rfl
theorem in25 : Try.prog.info? 25 = some Try.t25 := by kernel_rfl
@[simp] theorem ty25 : TyOne Try.prog 25 24 none (some 78) false := tyOne_slice in25 Try.underlying25 rfl rfl
@[simp] theorem tz25 : TyZ Try.prog 25 [.nils] := tyZ in25 rfl rfl rfl rfl
theorem in29 : Try.prog.info? 29 = some Try.t29 := by kernel_rfl
@[simp] theorem ty29 : TyOne Try.prog 29 24 none (some 86) false := tyOne_slice in29 Try.underlying29 rfl rfl
@[simp] theorem tz29 : TyZ Try.prog 29 [.nils] := tyZ in29 rfl rfl rfl rfl
theorem in31 : Try.prog.info? 31 = some Try.t31 := by kernel_rfl
@[simp] theorem ty31 : TyOne Try.prog 31 24 none (some 2) false := tyOne_slice in31 Try.underlying31 rfl rfl
@[simp] theorem tz31 : TyZ Try.prog 31 [.nils] := tyZ in31 rfl rfl rfl rfl
theorem in33 : Try.prog.info? 33 = some Try.t33 := by kernel_rfl
@[simp] theorem ty33 : TyOne Try.prog 33 24 none (some 88) false := tyOne_slice in33 Try.underlying33 rfl rfl
@[simp] theorem tz33 : TyZ Try.prog 33 [.nils] := tyZ in33 rfl rfl rfl rfl
theorem in40 : Try.prog.info? 40 = some Try.t40 := by kernel_rfl
@[simp] theorem ty40 : TyOne Try.prog 40 24 none (some 68) false := tyOne_slice in40 Try.underlying40 rfl rfl
@[simp] theorem tz40 : TyZ Try.prog 40 [.nils] := tyZ in40 rfl rfl rfl rfl
theorem in42 : Try.prog.info? 42 = some Try.t42 := by kernel_rfl
@[simp] theorem ty42 : TyAgg Try.prog 42 4 64 := tyAgg_struct in42 Try.underlying42 rfl rfl
@[simp] theorem tz42 : TyZ Try.prog 42 [.int .i64 0, .int .i64 0, .nils, .nils] := tyZ in42 rfl rfl rfl rfl
theorem in45 : Try.prog.info? 45 = some Try.t45 := by kernel_rfl
@[simp] theorem ty45 : TyOne Try.prog 45 24 none (some 71) false := tyOne_slice in45 Try.underlying45 rfl rfl
@[simp] theorem tz45 : TyZ Try.prog 45 [.nils] := tyZ in45 rfl rfl rfl rfl
theorem in47 : Try.prog.info? 47 = some Try.t47 := by kernel_rfl
@[simp] theorem ty47 : TyAgg Try.prog 47 4 64 := tyAgg_struct in47 Try.underlying47 rfl rfl
@[simp] theorem tz47 : TyZ Try.prog 47 [.int .i64 0, .int .i64 0, .nils, .nils] := tyZ in47 rfl rfl rfl rfl
theorem in68 : Try.prog.info? 68 = some Try.t68 := by kernel_rfl
@[simp] theorem ty68 : TyAgg Try.prog 68 2 16 := tyAgg_struct in68 Try.underlying68 rfl rfl
@[simp] theorem tz68 : TyZ Try.prog 68 [.int .i64 0, .int .i64 0] := tyZ in68 rfl rfl rfl rfl
theorem in71 : Try.prog.info? 71 = some Try.t71 := by kernel_rfl
@[simp] theorem ty71 : TyAgg Try.prog 71 2 16 := tyAgg_struct in71 Try.underlying71 rfl rfl
@[simp] theorem tz71 : TyZ Try.prog 71 [.int .i64 0, .int .i64 0] := tyZ in71 rfl rfl rfl rfl
theorem in75 : Try.prog.info? 75 = some Try.t75 := by kernel_rfl
@[simp] theorem ty75 : TyAgg Try.prog 75 5 48 := tyAgg_struct in75 Try.underlying75 rfl rfl
@[simp] theorem tz75 : TyZ Try.prog 75 [.str [], .int .i64 0, .int .i64 0, .int .i64 0, .int .i64 0] := tyZ in75 rfl rfl rfl rfl
theorem in78 : Try.prog.info? 78 = some Try.t78 := by kernel_rfl
@[simp] theorem ty78 : TyAgg Try.prog 78 5 48 := tyAgg_struct in78 Try.underlying78 rfl rfl
@[simp] theorem tz78 : TyZ Try.prog 78 [.str [], .int .i64 0, .int .i64 0, .int .i64 0, .int .i64 0] := tyZ in78 rfl rfl rfl rfl
theorem in86 : Try.prog.info? 86 = some Try.t86 := by kernel_rfl
@[simp] theorem ty86 : TyAgg Try.prog 86 3 40 := tyAgg_struct in86 Try.underlying86 rfl rfl
@[simp] theorem tz86 : TyZ Try.prog 86 [.int .i64 0, .str [], .str []] := tyZ in86 rfl rfl rfl rfl
theorem in88 : Try.prog.info? 88 = some Try.t88 := by kernel_rfl
@[simp] theorem ty88 : TyAgg Try.prog 88 3 40 := tyAgg_struct in88 Try.underlying88 rfl rfl
@[simp] theorem tz88 : TyZ Try.prog 88 [.int .i64 0, .str [], .str []] := tyZ in88 rfl rfl rfl rfl
theorem in96 : Try.prog.info? 96 = some Try.t96 := by kernel_rfl
@[simp] theorem ty96 : TyOne Try.prog 96 8 none none false := tyOne_pointer in96 Try.underlying96 rfl rfl
@[simp] theorem tz96 : TyZ Try.prog 96 [.raw (.pointer none)] := tyZ in96 rfl rfl rfl rfl
theorem in100 : Try.prog.info? 100 = some Try.t100 := by kernel_rfl
@[simp] theorem ty100 : TyOne Try.prog 100 8 none none false := tyOne_func in100 Try.underlying100 rfl rfl
@[simp] theorem tz100 : TyZ Try.prog 100 [.raw .nilFunc] := tyZ in100 rfl rfl rfl rfl
theorem in119 : Try.prog.info? 119 = some Try.t119 := by kernel_rfl
@[simp] theorem ty119 : TyOne Try.prog 119 8 none none false := tyOne_pointer in119 Try.underlying119 rfl rfl
@[simp] theorem tz119 : TyZ Try.prog 119 [.raw (.pointer none)] := tyZ in119 rfl rfl rfl rfl
theorem in124 : Try.prog.info? 124 = some Try.t124 := by kernel_rfl
@[simp] theorem ty124 : TyOne Try.prog 124 24 none (some 5) false := tyOne_slice in124 Try.underlying124 rfl rfl
@[simp] theorem tz124 : TyZ Try.prog 124 [.nils] := tyZ in124 rfl rfl rfl rfl
theorem in127 : Try.prog.info? 127 = some Try.t127 := by kernel_rfl
@[simp] theorem ty127 : TyOne Try.prog 127 8 none none false := tyOne_pointer in127 Try.underlying127 rfl rfl
@[simp] theorem tz127 : TyZ Try.prog 127 [.raw (.pointer none)] := tyZ in127 rfl rfl rfl rfl
theorem in131 : Try.prog.info? 131 = some Try.t131 := by kernel_rfl
@[simp] theorem ty131 : TyOne Try.prog 131 8 none none false := tyOne_func in131 Try.underlying131 rfl rfl
@[simp] theorem tz131 : TyZ Try.prog 131 [.raw .nilFunc] := tyZ in131 rfl rfl rfl rfl
theorem in137 : Try.prog.info? 137 = some Try.t137 := by kernel_rfl
@[simp] theorem ty137 : TyOne Try.prog 137 8 none none false := tyOne_func in137 Try.underlying137 rfl rfl
@[simp] theorem tz137 : TyZ Try.prog 137 [.raw .nilFunc] := tyZ in137 rfl rfl rfl rfl
theorem in138 : Try.prog.info? 138 = some Try.t138 := by kernel_rfl
@[simp] theorem ty138 : TyOne Try.prog 138 8 (some .u64) none false := tyOne_int in138 Try.underlying138 rfl rfl
@[simp] theorem tz138 : TyZ Try.prog 138 [.int .u64 0] := tyZ in138 rfl rfl rfl rfl
theorem in142 : Try.prog.info? 142 = some Try.t142 := by kernel_rfl
@[simp] theorem ty142 : TyOne Try.prog 142 24 none (some 3) false := tyOne_slice in142 Try.underlying142 rfl rfl
@[simp] theorem tz142 : TyZ Try.prog 142 [.nils] := tyZ in142 rfl rfl rfl rfl
theorem in158 : Try.prog.info? 158 = some Try.t158 := by kernel_rfl
@[simp] theorem ty158 : TyOne Try.prog 158 1 (some .u8) none false := tyOne_int in158 Try.underlying158 rfl rfl
@[simp] theorem tz158 : TyZ Try.prog 158 [.int .u8 0] := tyZ in158 rfl rfl rfl rfl
@[simp] theorem ts8 : structT Try.prog 8 = true := structOf Try.underlying8 (by simp [in2, in3, in4, in6])
@[simp] theorem fl8_0 : fldT Try.prog 8 0 = some (0, false, 1) := fldOf Try.underlying8 rfl rfl ty2.1 ty2.2.1 ty2.2.2.1
@[simp] theorem fl8_1 : fldT Try.prog 8 1 = some (1, false, 1) := fldOf Try.underlying8 rfl rfl ty3.1 ty3.2.1 ty3.2.2.1
@[simp] theorem fl8_2 : fldT Try.prog 8 2 = some (2, false, 1) := fldOf Try.underlying8 rfl rfl ty4.1 ty4.2.1 ty4.2.2.1
@[simp] theorem fl8_3 : fldT Try.prog 8 3 = some (3, false, 1) := fldOf Try.underlying8 rfl rfl ty6.1 ty6.2.1 ty6.2.2.1
@[simp] theorem ts14 : structT Try.prog 14 = true := structOf Try.underlying14 (by simp [in12, in9])
@[simp] theorem fl14_0 : fldT Try.prog 14 0 = some (0, false, 1) := fldOf Try.underlying14 rfl rfl ty9.1 ty9.2.1 ty9.2.2.1
@[simp] theorem fl14_1 : fldT Try.prog 14 1 = some (1, false, 1) := fldOf Try.underlying14 rfl rfl ty12.1 ty12.2.1 ty12.2.2.1
@[simp] theorem ts19 : structT Try.prog 19 = true := structOf Try.underlying19 (by simp [in17])
@[simp] theorem fl19_0 : fldT Try.prog 19 0 = some (0, false, 1) := fldOf Try.underlying19 rfl rfl ty17.1 ty17.2.1 ty17.2.2.1
@[simp] theorem ts42 : structT Try.prog 42 = true := structOf Try.underlying42 (by simp [in2, in31, in40])
@[simp] theorem fl42_0 : fldT Try.prog 42 0 = some (0, false, 1) := fldOf Try.underlying42 rfl rfl ty2.1 ty2.2.1 ty2.2.2.1
@[simp] theorem fl42_1 : fldT Try.prog 42 1 = some (1, false, 1) := fldOf Try.underlying42 rfl rfl ty2.1 ty2.2.1 ty2.2.2.1
@[simp] theorem fl42_2 : fldT Try.prog 42 2 = some (2, false, 1) := fldOf Try.underlying42 rfl rfl ty31.1 ty31.2.1 ty31.2.2.1
@[simp] theorem fl42_3 : fldT Try.prog 42 3 = some (3, false, 1) := fldOf Try.underlying42 rfl rfl ty40.1 ty40.2.1 ty40.2.2.1
@[simp] theorem ts47 : structT Try.prog 47 = true := structOf Try.underlying47 (by simp [in2, in31, in45])
@[simp] theorem fl47_0 : fldT Try.prog 47 0 = some (0, false, 1) := fldOf Try.underlying47 rfl rfl ty2.1 ty2.2.1 ty2.2.2.1
@[simp] theorem fl47_1 : fldT Try.prog 47 1 = some (1, false, 1) := fldOf Try.underlying47 rfl rfl ty2.1 ty2.2.1 ty2.2.2.1
@[simp] theorem fl47_2 : fldT Try.prog 47 2 = some (2, false, 1) := fldOf Try.underlying47 rfl rfl ty31.1 ty31.2.1 ty31.2.2.1
@[simp] theorem fl47_3 : fldT Try.prog 47 3 = some (3, false, 1) := fldOf Try.underlying47 rfl rfl ty45.1 ty45.2.1 ty45.2.2.1
@[simp] theorem ts68 : structT Try.prog 68 = true := structOf Try.underlying68 (by simp [in2])
@[simp] theorem fl68_0 : fldT Try.prog 68 0 = some (0, false, 1) := fldOf Try.underlying68 rfl rfl ty2.1 ty2.2.1 ty2.2.2.1
@[simp] theorem fl68_1 : fldT Try.prog 68 1 = some (1, false, 1) := fldOf Try.underlying68 rfl rfl ty2.1 ty2.2.1 ty2.2.2.1
@[simp] theorem ts71 : structT Try.prog 71 = true := structOf Try.underlying71 (by simp [in2])
@[simp] theorem fl71_0 : fldT Try.prog 71 0 = some (0, false, 1) := fldOf Try.underlying71 rfl rfl ty2.1 ty2.2.1 ty2.2.2.1
@[simp] theorem fl71_1 : fldT Try.prog 71 1 = some (1, false, 1) := fldOf Try.underlying71 rfl rfl ty2.1 ty2.2.1 ty2.2.2.1
@[simp] theorem ts75 : structT Try.prog 75 = true := structOf Try.underlying75 (by simp [in2, in9])
@[simp] theorem fl75_0 : fldT Try.prog 75 0 = some (0, false, 1) := fldOf Try.underlying75 rfl rfl ty9.1 ty9.2.1 ty9.2.2.1
@[simp] theorem fl75_1 : fldT Try.prog 75 1 = some (1, false, 1) := fldOf Try.underlying75 rfl rfl ty2.1 ty2.2.1 ty2.2.2.1
@[simp] theorem fl75_2 : fldT Try.prog 75 2 = some (2, false, 1) := fldOf Try.underlying75 rfl rfl ty2.1 ty2.2.1 ty2.2.2.1
@[simp] theorem fl75_3 : fldT Try.prog 75 3 = some (3, false, 1) := fldOf Try.underlying75 rfl rfl ty2.1 ty2.2.1 ty2.2.2.1
@[simp] theorem fl75_4 : fldT Try.prog 75 4 = some (4, false, 1) := fldOf Try.underlying75 rfl rfl ty2.1 ty2.2.1 ty2.2.2.1
@[simp] theorem ts78 : structT Try.prog 78 = true := structOf Try.underlying78 (by simp [in2, in9])
@[simp] theorem fl78_0 : fldT Try.prog 78 0 = some (0, false, 1) := fldOf Try.underlying78 rfl rfl ty9.1 ty9.2.1 ty9.2.2.1
@[simp] theorem fl78_1 : fldT Try.prog 78 1 = some (1, false, 1) := fldOf Try.underlying78 rfl rfl ty2.1 ty2.2.1 ty2.2.2.1
@[simp] theorem fl78_2 : fldT Try.prog 78 2 = some (2, false, 1) := fldOf Try.underlying78 rfl rfl ty2.1 ty2.2.1 ty2.2.2.1
@[simp] theorem fl78_3 : fldT Try.prog 78 3 = some (3, false, 1) := fldOf Try.underlying78 rfl rfl ty2.1 ty2.2.1 ty2.2.2.1
@[simp] theorem fl78_4 : fldT Try.prog 78 4 = some (4, false, 1) := fldOf Try.underlying78 rfl rfl ty2.1 ty2.2.1 ty2.2.2.1
@[simp] theorem ts86 : structT Try.prog 86 = true := structOf Try.underlying86 (by simp [in2, in9])
@[simp] theorem fl86_0 : fldT Try.prog 86 0 = some (0, false, 1) := fldOf Try.underlying86 rfl rfl ty2.1 ty2.2.1 ty2.2.2.1
@[simp] theorem fl86_1 : fldT Try.prog 86 1 = some (1, false, 1) := fldOf Try.underlying86 rfl rfl ty9.1 ty9.2.1 ty9.2.2.1
@[simp] theorem fl86_2 : fldT Try.prog 86 2 = some (2, false, 1) := fldOf Try.underlying86 rfl rfl ty9.1 ty9.2.1 ty9.2.2.1
@[simp] theorem ts88 : structT Try.prog 88 = true := structOf Try.underlying88 (by simp [in2, in9])
@[simp] theorem fl88_0 : fldT Try.prog 88 0 = some (0, false, 1) := fldOf Try.underlying88 rfl rfl ty2.1 ty2.2.1 ty2.2.2.1
@[simp] theorem fl88_1 : fldT Try.prog 88 1 = some (1, false, 1) := fldOf Try.underlying88 rfl rfl ty9.1 ty9.2.1 ty9.2.2.1
@[simp] theorem fl88_2 : fldT Try.prog 88 2 = some (2, false, 1) := fldOf Try.underlying88 rfl rfl ty9.1 ty9.2.1 ty9.2.2.1
@[simp] theorem eq71 : EqT Try.prog 71 [1, 1] := eqT_struct Try.underlying71 Try.stoodInHeld71 Try.eqGuardType71 (by simp [fieldsOk])
@[simp] theorem res_3 : Try.f3.results.toList = [.tmp 2] := rfl
@[simp] theorem res_4 : Try.f4.results.toList = [.tmp 2] := rfl
@[simp] theorem res_5 : Try.f5.results.toList = [.tmp 4] := rfl
@[simp] theorem res_6 : Try.f6.results.toList = [.tmp 2] := rfl
@[simp] theorem res_7 : Try.f7.results.toList = [.tmp 6] := rfl
@[simp] theorem res_8 : Try.f8.results.toList = [.tmp 6] := rfl
@[simp] theorem res_9 : Try.f9.results.toList = [.tmp 4] := rfl
@[simp] theorem res_10 : Try.f10.results.toList = [.tmp 2] := rfl
@[simp] theorem res_11 : Try.f11.results.toList = [.tmp 4] := rfl
@[simp] theorem res_12 : Try.f12.results.toList = [.tmp 4] := rfl
@[simp] theorem res_13 : Try.f13.results.toList = [.tmp 4] := rfl
@[simp] theorem res_14 : Try.f14.results.toList = [.tmp 2] := rfl
@[simp] theorem res_15 : Try.f15.results.toList = [.tmp 4] := rfl
@[simp] theorem res_16 : Try.f16.results.toList = [.tmp 2] := rfl
@[simp] theorem res_17 : Try.f17.results.toList = [.tmp 2] := rfl
@[simp] theorem res_18 : Try.f18.results.toList = [.tmp 2] := rfl
@[simp] theorem res_19 : Try.f19.results.toList = [.tmp 4] := rfl
@[simp] theorem res_20 : Try.f20.results.toList = [.tmp 4] := rfl
@[simp] theorem res_21 : Try.f21.results.toList = [.tmp 2] := rfl
@[simp] theorem res_22 : Try.f22.results.toList = [.tmp 2] := rfl
@[simp] theorem res_23 : Try.f23.results.toList = [.tmp 2] := rfl
@[simp] theorem res_24 : Try.f24.results.toList = [.tmp 4] := rfl
@[simp] theorem res_25 : Try.f25.results.toList = [.tmp 4] := rfl
@[simp] theorem res_26 : Try.f26.results.toList = [.tmp 4] := rfl
@[simp] theorem res_27 : Try.f27.results.toList = [.tmp 4] := rfl
@[simp] theorem res_28 : Try.f28.results.toList = [.tmp 4] := rfl
@[simp] theorem res_29 : Try.f29.results.toList = [.tmp 4] := rfl
@[simp] theorem res_30 : Try.f30.results.toList = [.tmp 4] := rfl
@[simp] theorem res_31 : Try.f31.results.toList = [.cell 2 47] := rfl
@[simp] theorem res_32 : Try.f32.results.toList = [.tmp 4] := rfl
@[simp] theorem res_33 : Try.f33.results.toList = [.tmp 4] := rfl
@[simp] theorem res_34 : Try.f34.results.toList = [.tmp 2] := rfl
@[simp] theorem res_35 : Try.f35.results.toList = [.tmp 2] := rfl
@[simp] theorem res_36 : Try.f36.results.toList = [.tmp 6, .tmp 7] := rfl
@[simp] theorem res_37 : Try.f37.results.toList = [.tmp 2] := rfl
@[simp] theorem res_38 : Try.f38.results.toList = [.tmp 6, .tmp 7] := rfl
@[simp] theorem res_39 : Try.f39.results.toList = [.tmp 6, .tmp 7] := rfl
@[simp] theorem res_40 : Try.f40.results.toList = [.tmp 6, .tmp 7] := rfl
@[simp] theorem res_41 : Try.f41.results.toList = [.tmp 4] := rfl
@[simp] theorem res_42 : Try.f42.results.toList = [.tmp 4, .tmp 5] := rfl
@[simp] theorem res_43 : Try.f43.results.toList = [.tmp 4, .tmp 5] := rfl
@[simp] theorem res_44 : Try.f44.results.toList = [.tmp 4] := rfl
@[simp] theorem res_45 : Try.f45.results.toList = [.tmp 2, .tmp 3, .tmp 4] := rfl
@[simp] theorem res_46 : Try.f46.results.toList = [.tmp 2, .tmp 3, .tmp 4] := rfl
@[simp] theorem res_47 : Try.f47.results.toList = [.tmp 4, .tmp 5] := rfl
@[simp] theorem res_48 : Try.f48.results.toList = [.tmp 4, .tmp 5] := rfl
@[simp] theorem res_49 : Try.f49.results.toList = [.tmp 4] := rfl
@[simp] theorem res_50 : Try.f50.results.toList = [.cell 4 47, .tmp 5] := rfl
@[simp] theorem res_51 : Try.f51.results.toList = [.cell 2 71] := rfl
@[simp] theorem res_52 : Try.f52.results.toList = [.cell 4 47, .tmp 5] := rfl
@[simp] theorem res_53 : Try.f53.results.toList = [.tmp 4] := rfl
@[simp] theorem res_54 : Try.f54.results.toList = [.tmp 4] := rfl
@[simp] theorem res_55 : Try.f55.results.toList = [.tmp 4, .tmp 5] := rfl
@[simp] theorem res_56 : Try.f56.results.toList = [.cell 2 78] := rfl
@[simp] theorem res_57 : Try.f57.results.toList = [.tmp 4, .tmp 5] := rfl
@[simp] theorem res_58 : Try.f58.results.toList = [.tmp 2, .tmp 3] := rfl
@[simp] theorem res_59 : Try.f59.results.toList = [.tmp 2, .tmp 3] := rfl
@[simp] theorem res_60 : Try.f60.results.toList = [.tmp 2] := rfl
@[simp] theorem res_61 : Try.f61.results.toList = [.tmp 2] := rfl
@[simp] theorem res_62 : Try.f62.results.toList = [.tmp 4] := rfl
@[simp] theorem res_63 : Try.f63.results.toList = [.tmp 4] := rfl
@[simp] theorem res_64 : Try.f64.results.toList = [.tmp 2] := rfl
@[simp] theorem res_65 : Try.f65.results.toList = [.cell 2 88] := rfl
@[simp] theorem res_66 : Try.f66.results.toList = [.tmp 2] := rfl
@[simp] theorem res_67 : Try.f67.results.toList = [.tmp 4] := rfl
@[simp] theorem res_68 : Try.f68.results.toList = [.tmp 2] := rfl
@[simp] theorem res_69 : Try.f69.results.toList = [.tmp 4] := rfl
@[simp] theorem res_70 : Try.f70.results.toList = [.tmp 4] := rfl
@[simp] theorem res_71 : Try.f71.results.toList = [.tmp 4] := rfl
@[simp] theorem res_72 : Try.f72.results.toList = [.tmp 2] := rfl
@[simp] theorem res_73 : Try.f73.results.toList = [.tmp 4] := rfl
@[simp] theorem res_74 : Try.f74.results.toList = [.tmp 4] := rfl
@[simp] theorem res_75 : Try.f75.results.toList = [.tmp 4] := rfl
@[simp] theorem res_76 : Try.f76.results.toList = [.tmp 2] := rfl
@[simp] theorem res_77 : Try.f77.results.toList = [.tmp 6] := rfl
@[simp] theorem res_78 : Try.f78.results.toList = [.tmp 2] := rfl
@[simp] theorem res_79 : Try.f79.results.toList = [.tmp 4] := rfl
@[simp] theorem res_80 : Try.f80.results.toList = [.tmp 4] := rfl
@[simp] theorem res_81 : Try.f81.results.toList = [.tmp 2] := rfl
@[simp] theorem res_82 : Try.f82.results.toList = [.tmp 4] := rfl
@[simp] theorem res_83 : Try.f83.results.toList = [.tmp 6] := rfl
@[simp] theorem res_84 : Try.f84.results.toList = [.tmp 6] := rfl
@[simp] theorem res_85 : Try.f85.results.toList = [.tmp 6] := rfl
@[simp] theorem res_86 : Try.f86.results.toList = [.tmp 6] := rfl
@[simp] theorem res_87 : Try.f87.results.toList = [.tmp 6] := rfl
@[simp] theorem res_88 : Try.f88.results.toList = [.tmp 6] := rfl
@[simp] theorem res_89 : Try.f89.results.toList = [.tmp 4] := rfl
@[simp] theorem res_90 : Try.f90.results.toList = [.tmp 4, .tmp 5] := rfl
@[simp] theorem res_91 : Try.f91.results.toList = [.tmp 6] := rfl
@[simp] theorem res_92 : Try.f92.results.toList = [.tmp 2] := rfl
@[simp] theorem res_93 : Try.f93.results.toList = [.tmp 6] := rfl
@[simp] theorem res_94 : Try.f94.results.toList = [.tmp 4] := rfl
@[simp] theorem res_95 : Try.f95.results.toList = [.tmp 2] := rfl
@[simp] theorem res_96 : Try.f96.results.toList = [.tmp 4] := rfl
@[simp] theorem res_97 : Try.f97.results.toList = [.tmp 4] := rfl
@[simp] theorem res_98 : Try.f98.results.toList = [.tmp 4] := rfl
@[simp] theorem res_99 : Try.f99.results.toList = [.cell 2 47] := rfl
@[simp] theorem res_100 : Try.f100.results.toList = [.tmp 6, .tmp 7] := rfl
@[simp] theorem res_101 : Try.f101.results.toList = [.cell 2 47] := rfl
@[simp] theorem res_102 : Try.f102.results.toList = [.tmp 6] := rfl
@[simp] theorem res_103 : Try.f103.results.toList = [.tmp 4] := rfl
@[simp] theorem res_104 : Try.f104.results.toList = [.tmp 2] := rfl
@[simp] theorem res_105 : Try.f105.results.toList = [.tmp 6] := rfl
@[simp] theorem res_106 : Try.f106.results.toList = [.tmp 4] := rfl
@[simp] theorem res_107 : Try.f107.results.toList = [.tmp 2] := rfl
@[simp] theorem res_108 : Try.f108.results.toList = [.tmp 4] := rfl
@[simp] theorem res_109 : Try.f109.results.toList = [.tmp 2] := rfl
@[simp] theorem res_110 : Try.f110.results.toList = [.tmp 2] := rfl
@[simp] theorem res_111 : Try.f111.results.toList = [.tmp 2] := rfl
@[simp] theorem res_112 : Try.f112.results.toList = [.tmp 4] := rfl
@[simp] theorem res_113 : Try.f113.results.toList = [.tmp 4] := rfl
@[simp] theorem res_114 : Try.f114.results.toList = [.tmp 4] := rfl
@[simp] theorem res_115 : Try.f115.results.toList = [.tmp 4] := rfl
@[simp] theorem res_116 : Try.f116.results.toList = [.tmp 2] := rfl
@[simp] theorem res_117 : Try.f117.results.toList = [.tmp 4] := rfl
@[simp] theorem res_118 : Try.f118.results.toList = [.tmp 4] := rfl
@[simp] theorem res_119 : Try.f119.results.toList = [.tmp 4] := rfl
@[simp] theorem res_120 : Try.f120.results.toList = [.tmp 2] := rfl
@[simp] theorem res_121 : Try.f121.results.toList = [.tmp 2] := rfl
@[simp] theorem res_122 : Try.f122.results.toList = [.tmp 4] := rfl
@[simp] theorem res_123 : Try.f123.results.toList = [.tmp 6, .tmp 7] := rfl
@[simp] theorem res_124 : Try.f124.results.toList = [.tmp 4] := rfl
@[simp] theorem res_125 : Try.f125.results.toList = [.tmp 4] := rfl
@[simp] theorem res_126 : Try.f126.results.toList = [.tmp 2] := rfl
@[simp] theorem res_127 : Try.f127.results.toList = [.tmp 2] := rfl
@[simp] theorem res_128 : Try.f128.results.toList = [.tmp 2] := rfl
@[simp] theorem res_129 : Try.f129.results.toList = [.tmp 2] := rfl
@[simp] theorem res_130 : Try.f130.results.toList = [.tmp 2] := rfl
@[simp] theorem res_132 : Try.f132.results.toList = [] := rfl
@[simp] theorem res_133 : Try.f133.results.toList = [] := rfl
@[simp] theorem res_134 : Try.f134.results.toList = [.tmp 5] := rfl
@[simp] theorem res_135 : Try.f135.results.toList = [.tmp 2] := rfl
@[simp] theorem res_136 : Try.f136.results.toList = [.tmp 4] := rfl
@[simp] theorem res_137 : Try.f137.results.toList = [.tmp 2] := rfl
@[simp] theorem res_138 : Try.f138.results.toList = [.tmp 2] := rfl
@[simp] theorem res_139 : Try.f139.results.toList = [.tmp 2] := rfl
@[simp] theorem res_140 : Try.f140.results.toList = [] := rfl
@[simp] theorem res_141 : Try.f141.results.toList = [] := rfl
@[simp] theorem res_142 : Try.f142.results.toList = [] := rfl
@[simp] theorem res_143 : Try.f143.results.toList = [] := rfl
@[simp] theorem res_144 : Try.f144.results.toList = [] := rfl
@[simp] theorem res_145 : Try.f145.results.toList = [] := rfl
@[simp] theorem res_146 : Try.f146.results.toList = [] := rfl
theorem hm : Try.prog.follows .mixedOrders = true := Try.checked.mixed
end Go.Proofs.Ytnidojjahhhaaaa
