/- Closed facts on the types of the program. Made by a program (gen_types.py). No condition. -/
import Derived.Test.YtmdablalfmcgnaaGreatAcd
import Derived.Test.YtmdablalfmcgnaaGreatAbz
import Derived.Test.YtmdablalfmcgnaaGreatProg
namespace Go.Proofs.YtmdablalfmcgnaaGreat
open Go Go.Ab

theorem in2 : Tryz.prog.info? 2 = some Tryz.t2 := by kernel_rfl
@[simp] theorem ty2 : TyOne Tryz.prog 2 8 (some .i64) none false := tyOne_int in2 Tryz.underlying2 rfl rfl
@[simp] theorem tz2 : TyZ Tryz.prog 2 [.int .i64 0] := tyZ in2 rfl rfl rfl rfl
theorem in3 : Tryz.prog.info? 3 = some Tryz.t3 := by kernel_rfl
@[simp] theorem ty3 : TyOne Tryz.prog 3 8 (some .i64) none false := tyOne_int in3 Tryz.underlying3 rfl rfl
@[simp] theorem tz3 : TyZ Tryz.prog 3 [.int .i64 0] := tyZ in3 rfl rfl rfl rfl
theorem in4 : Tryz.prog.info? 4 = some Tryz.t4 := by kernel_rfl
@[simp] theorem ty4 : TyOne Tryz.prog 4 1 none none false := tyOne_bool in4 Tryz.underlying4 rfl rfl
@[simp] theorem ub4 : Tryz.prog.underlying 4 = some .bool := Tryz.underlying4
@[simp] theorem tz4 : TyZ Tryz.prog 4 [.bool false] := tyZ in4 rfl rfl rfl rfl
theorem in5 : Tryz.prog.info? 5 = some Tryz.t5 := by kernel_rfl
@[simp] theorem ty5 : TyOne Tryz.prog 5 1 (some .u8) none false := tyOne_int in5 Tryz.underlying5 rfl rfl
@[simp] theorem tz5 : TyZ Tryz.prog 5 [.int .u8 0] := tyZ in5 rfl rfl rfl rfl
theorem in6 : Tryz.prog.info? 6 = some Tryz.t6 := by kernel_rfl
@[simp] theorem ty6 : TyOne Tryz.prog 6 1 (some .u8) none false := tyOne_int in6 Tryz.underlying6 rfl rfl
@[simp] theorem tz6 : TyZ Tryz.prog 6 [.int .u8 0] := tyZ in6 rfl rfl rfl rfl
theorem in8 : Tryz.prog.info? 8 = some Tryz.t8 := by kernel_rfl
@[simp] theorem ty8 : TyAgg Tryz.prog 8 4 24 := tyAgg_struct in8 Tryz.underlying8 rfl rfl
@[simp] theorem tz8 : TyZ Tryz.prog 8 [.int .i64 0, .int .i64 0, .bool false, .int .u8 0] := tyZ in8 rfl rfl rfl rfl
theorem in9 : Tryz.prog.info? 9 = some Tryz.t9 := by kernel_rfl
@[simp] theorem ty9 : TyOne Tryz.prog 9 16 none none true := tyOne_str in9 Tryz.underlying9 rfl rfl
@[simp] theorem tz9 : TyZ Tryz.prog 9 [.str []] := tyZ in9 rfl rfl rfl rfl
theorem in10 : Tryz.prog.info? 10 = some Tryz.t10 := by kernel_rfl
@[simp] theorem ty10 : TyOne Tryz.prog 10 16 none none true := tyOne_str in10 Tryz.underlying10 rfl rfl
@[simp] theorem tz10 : TyZ Tryz.prog 10 [.str []] := tyZ in10 rfl rfl rfl rfl
theorem in11 : Tryz.prog.info? 11 = some Tryz.t11 := by kernel_rfl
@[simp] theorem ty11 : TyOne Tryz.prog 11 16 none none true := tyOne_str in11 Tryz.underlying11 rfl rfl
@[simp] theorem tz11 : TyZ Tryz.prog 11 [.str []] := tyZ in11 rfl rfl rfl rfl
theorem in12 : Tryz.prog.info? 12 = some Tryz.t12 := by kernel_rfl
@[simp] theorem ty12 : TyOne Tryz.prog 12 8 (some .u64) none false := tyOne_int in12 Tryz.underlying12 rfl rfl
@[simp] theorem tz12 : TyZ Tryz.prog 12 [.int .u64 0] := tyZ in12 rfl rfl rfl rfl
theorem in14 : Tryz.prog.info? 14 = some Tryz.t14 := by kernel_rfl
@[simp] theorem ty14 : TyAgg Tryz.prog 14 2 24 := tyAgg_struct in14 Tryz.underlying14 rfl rfl
@[simp] theorem tz14 : TyZ Tryz.prog 14 [.str [], .int .u64 0] := tyZ in14 rfl rfl rfl rfl
theorem in15 : Tryz.prog.info? 15 = some Tryz.t15 := by kernel_rfl
@[simp] theorem ty15 : TyOne Tryz.prog 15 8 none none false := tyOne_pointer in15 Tryz.underlying15 rfl rfl
@[simp] theorem tz15 : TyZ Tryz.prog 15 [.raw (.pointer none)] := tyZ in15 rfl rfl rfl rfl
theorem in16 : Tryz.prog.info? 16 = some Tryz.t16 := by kernel_rfl
@[simp] theorem ty16 : TyOne Tryz.prog 16 8 none none false := tyOne_pointer in16 Tryz.underlying16 rfl rfl
@[simp] theorem tz16 : TyZ Tryz.prog 16 [.raw (.pointer none)] := tyZ in16 rfl rfl rfl rfl
theorem in17 : Tryz.prog.info? 17 = some Tryz.t17 := by kernel_rfl
@[simp] theorem ty17 : TyOne Tryz.prog 17 8 none none false := tyOne_pointer in17 Tryz.underlying17 rfl rfl
@[simp] theorem tz17 : TyZ Tryz.prog 17 [.raw (.pointer none)] := tyZ in17 rfl rfl rfl rfl
theorem in19 : Tryz.prog.info? 19 = some Tryz.t19 := by kernel_rfl
@[simp] theorem ty19 : TyAgg Tryz.prog 19 1 8 := tyAgg_struct in19 Tryz.underlying19 rfl rfl
@[simp] theorem tz19 : TyZ Tryz.prog 19 [.raw (.pointer none)] := tyZ in19 rfl rfl rfl rfl
theorem in22 : Tryz.prog.info? 22 = some Tryz.t22 := by kernel_rfl
@[simp] theorem ty22 : TyOne Tryz.prog 22 24 none (some 5) false := tyOne_slice in22 Tryz.underlying22 rfl rfl
@[simp] theorem tz22 : TyZ Tryz.prog 22 [.nils] := tyZ in22 rfl rfl rfl rfl
theorem in24 : Tryz.prog.info? 24 = some Tryz.t24 := by kernel_rfl
@[simp] theorem ty24 : TyOne Tryz.prog 24 24 none (some 41) false := tyOne_slice in24 Tryz.underlying24 rfl rfl
@[simp] theorem tz24 : TyZ Tryz.prog 24 [.nils] := tyZ in24 rfl rfl rfl rfl
theorem in26 : Tryz.prog.info? 26 = some Tryz.t26 := by kernel_rfl
@[simp] theorem ty26 : TyAgg Tryz.prog 26 2 40 := tyAgg_struct in26 Tryz.underlying26 rfl rfl
@[simp] theorem tz26 : TyZ Tryz.prog 26 [.str [], .nils] := tyZ in26 rfl rfl rfl rfl
theorem in29 : Tryz.prog.info? 29 = some Tryz.t29 := by kernel_rfl
@[simp] theorem ty29 : TyOne Tryz.prog 29 24 none (some 2) false := tyOne_slice in29 Tryz.underlying29 rfl rfl
@[simp] theorem tz29 : TyZ Tryz.prog 29 [.nils] := tyZ in29 rfl rfl rfl rfl
theorem in30 : Tryz.prog.info? 30 = some Tryz.t30 := by kernel_rfl
@[simp] theorem ty30 : TyOne Tryz.prog 30 24 none (some 52) false := tyOne_slice in30 Tryz.underlying30 rfl rfl
@[simp] theorem tz30 : TyZ Tryz.prog 30 [.nils] := tyZ in30 rfl rfl rfl rfl
theorem in32 : Tryz.prog.info? 32 = some Tryz.t32 := by kernel_rfl
@[simp] theorem ty32 : TyAgg Tryz.prog 32 4 64 := tyAgg_struct in32 Tryz.underlying32 rfl rfl
@[simp] theorem tz32 : TyZ Tryz.prog 32 [.int .i64 0, .int .i64 0, .nils, .nils] := tyZ in32 rfl rfl rfl rfl
theorem in41 : Tryz.prog.info? 41 = some Tryz.t41 := by kernel_rfl
@[simp] theorem ty41 : TyAgg Tryz.prog 41 3 24 := tyAgg_struct in41 Tryz.underlying41 rfl rfl
@[simp] theorem tz41 : TyZ Tryz.prog 41 [.int .i64 0, .int .i64 0, .int .i64 0] := tyZ in41 rfl rfl rfl rfl
theorem in42 : Tryz.prog.info? 42 = some Tryz.t42 := by kernel_rfl
@[simp] theorem ty42 : TyOne Tryz.prog 42 8 none none false := tyOne_pointer in42 Tryz.underlying42 rfl rfl
@[simp] theorem tz42 : TyZ Tryz.prog 42 [.raw (.pointer none)] := tyZ in42 rfl rfl rfl rfl
theorem in47 : Tryz.prog.info? 47 = some Tryz.t47 := by kernel_rfl
@[simp] theorem ty47 : TyOne Tryz.prog 47 8 none none false := tyOne_func in47 Tryz.underlying47 rfl rfl
@[simp] theorem tz47 : TyZ Tryz.prog 47 [.raw .nilFunc] := tyZ in47 rfl rfl rfl rfl
theorem in52 : Tryz.prog.info? 52 = some Tryz.t52 := by kernel_rfl
@[simp] theorem ty52 : TyAgg Tryz.prog 52 2 16 := tyAgg_struct in52 Tryz.underlying52 rfl rfl
@[simp] theorem tz52 : TyZ Tryz.prog 52 [.int .i64 0, .int .i64 0] := tyZ in52 rfl rfl rfl rfl
theorem in54 : Tryz.prog.info? 54 = some Tryz.t54 := by kernel_rfl
@[simp] theorem ty54 : TyOne Tryz.prog 54 8 none none false := tyOne_func in54 Tryz.underlying54 rfl rfl
@[simp] theorem tz54 : TyZ Tryz.prog 54 [.raw .nilFunc] := tyZ in54 rfl rfl rfl rfl
theorem in56 : Tryz.prog.info? 56 = some Tryz.t56 := by kernel_rfl
@[simp] theorem ty56 : TyOne Tryz.prog 56 8 none none false := tyOne_pointer in56 Tryz.underlying56 rfl rfl
@[simp] theorem tz56 : TyZ Tryz.prog 56 [.raw (.pointer none)] := tyZ in56 rfl rfl rfl rfl
theorem in57 : Tryz.prog.info? 57 = some Tryz.t57 := by kernel_rfl
@[simp] theorem ty57 : TyOne Tryz.prog 57 8 none none false := tyOne_func in57 Tryz.underlying57 rfl rfl
@[simp] theorem tz57 : TyZ Tryz.prog 57 [.raw .nilFunc] := tyZ in57 rfl rfl rfl rfl
theorem in59 : Tryz.prog.info? 59 = some Tryz.t59 := by kernel_rfl
@[simp] theorem ty59 : TyOne Tryz.prog 59 8 none none false := tyOne_func in59 Tryz.underlying59 rfl rfl
@[simp] theorem tz59 : TyZ Tryz.prog 59 [.raw .nilFunc] := tyZ in59 rfl rfl rfl rfl
theorem in62 : Tryz.prog.info? 62 = some Tryz.t62 := by kernel_rfl
@[simp] theorem ty62 : TyOne Tryz.prog 62 8 (some .u64) none false := tyOne_int in62 Tryz.underlying62 rfl rfl
@[simp] theorem tz62 : TyZ Tryz.prog 62 [.int .u64 0] := tyZ in62 rfl rfl rfl rfl
theorem in64 : Tryz.prog.info? 64 = some Tryz.t64 := by kernel_rfl
@[simp] theorem ty64 : TyAgg Tryz.prog 64 3 40 := tyAgg_struct in64 Tryz.underlying64 rfl rfl
@[simp] theorem tz64 : TyZ Tryz.prog 64 [.nils, .int .i64 0, .int .u64 0] := tyZ in64 rfl rfl rfl rfl
theorem in72 : Tryz.prog.info? 72 = some Tryz.t72 := by kernel_rfl
@[simp] theorem ty72 : TyOne Tryz.prog 72 8 (some .u64) none false := tyOne_int in72 Tryz.underlying72 rfl rfl
@[simp] theorem tz72 : TyZ Tryz.prog 72 [.int .u64 0] := tyZ in72 rfl rfl rfl rfl
theorem in77 : Tryz.prog.info? 77 = some Tryz.t77 := by kernel_rfl
@[simp] theorem ty77 : TyOne Tryz.prog 77 8 none none false := tyOne_pointer in77 Tryz.underlying77 rfl rfl
@[simp] theorem tz77 : TyZ Tryz.prog 77 [.raw (.pointer none)] := tyZ in77 rfl rfl rfl rfl
theorem in88 : Tryz.prog.info? 88 = some Tryz.t88 := by kernel_rfl
@[simp] theorem ty88 : TyOne Tryz.prog 88 8 (some .i64) none false := tyOne_int in88 Tryz.underlying88 rfl rfl
@[simp] theorem tz88 : TyZ Tryz.prog 88 [.int .i64 0] := tyZ in88 rfl rfl rfl rfl
theorem in96 : Tryz.prog.info? 96 = some Tryz.t96 := by kernel_rfl
@[simp] theorem ty96 : TyOne Tryz.prog 96 4 (some .u32) none false := tyOne_int in96 Tryz.underlying96 rfl rfl
@[simp] theorem tz96 : TyZ Tryz.prog 96 [.int .u32 0] := tyZ in96 rfl rfl rfl rfl
theorem in98 : Tryz.prog.info? 98 = some Tryz.t98 := by kernel_rfl
@[simp] theorem ty98 : TyOne Tryz.prog 98 24 none (some 3) false := tyOne_slice in98 Tryz.underlying98 rfl rfl
@[simp] theorem tz98 : TyZ Tryz.prog 98 [.nils] := tyZ in98 rfl rfl rfl rfl
theorem in109 : Tryz.prog.info? 109 = some Tryz.t109 := by kernel_rfl
@[simp] theorem ty109 : TyOne Tryz.prog 109 24 none (some 9) false := tyOne_slice in109 Tryz.underlying109 rfl rfl
@[simp] theorem tz109 : TyZ Tryz.prog 109 [.nils] := tyZ in109 rfl rfl rfl rfl
theorem in111 : Tryz.prog.info? 111 = some Tryz.t111 := by kernel_rfl
@[simp] theorem ty111 : TyOne Tryz.prog 111 8 none none false := tyOne_pointer in111 Tryz.underlying111 rfl rfl
@[simp] theorem tz111 : TyZ Tryz.prog 111 [.raw (.pointer none)] := tyZ in111 rfl rfl rfl rfl
theorem in118 : Tryz.prog.info? 118 = some Tryz.t118 := by kernel_rfl
@[simp] theorem ty118 : TyOne Tryz.prog 118 8 (some .u64) none false := tyOne_int in118 Tryz.underlying118 rfl rfl
@[simp] theorem tz118 : TyZ Tryz.prog 118 [.int .u64 0] := tyZ in118 rfl rfl rfl rfl
theorem in122 : Tryz.prog.info? 122 = some Tryz.t122 := by kernel_rfl
@[simp] theorem ty122 : TyOne Tryz.prog 122 8 none none false := tyOne_pointer in122 Tryz.underlying122 rfl rfl
@[simp] theorem tz122 : TyZ Tryz.prog 122 [.raw (.pointer none)] := tyZ in122 rfl rfl rfl rfl
theorem in128 : Tryz.prog.info? 128 = some Tryz.t128 := by kernel_rfl
@[simp] theorem ty128 : TyOne Tryz.prog 128 8 none none false := tyOne_pointer in128 Tryz.underlying128 rfl rfl
@[simp] theorem tz128 : TyZ Tryz.prog 128 [.raw (.pointer none)] := tyZ in128 rfl rfl rfl rfl
theorem in141 : Tryz.prog.info? 141 = some Tryz.t141 := by kernel_rfl
@[simp] theorem ty141 : TyOne Tryz.prog 141 1 (some .u8) none false := tyOne_int in141 Tryz.underlying141 rfl rfl
@[simp] theorem tz141 : TyZ Tryz.prog 141 [.int .u8 0] := tyZ in141 rfl rfl rfl rfl
@[simp] theorem ts8 : structT Tryz.prog 8 = true := structOf Tryz.underlying8 (by simp [in2, in3, in4, in6])
@[simp] theorem fl8_0 : fldT Tryz.prog 8 0 = some (0, false, 1) := fldOf Tryz.underlying8 rfl rfl ty2.1 ty2.2.1 ty2.2.2.1
@[simp] theorem fl8_1 : fldT Tryz.prog 8 1 = some (1, false, 1) := fldOf Tryz.underlying8 rfl rfl ty3.1 ty3.2.1 ty3.2.2.1
@[simp] theorem fl8_2 : fldT Tryz.prog 8 2 = some (2, false, 1) := fldOf Tryz.underlying8 rfl rfl ty4.1 ty4.2.1 ty4.2.2.1
@[simp] theorem fl8_3 : fldT Tryz.prog 8 3 = some (3, false, 1) := fldOf Tryz.underlying8 rfl rfl ty6.1 ty6.2.1 ty6.2.2.1
@[simp] theorem ts14 : structT Tryz.prog 14 = true := structOf Tryz.underlying14 (by simp [in12, in9])
@[simp] theorem fl14_0 : fldT Tryz.prog 14 0 = some (0, false, 1) := fldOf Tryz.underlying14 rfl rfl ty9.1 ty9.2.1 ty9.2.2.1
@[simp] theorem fl14_1 : fldT Tryz.prog 14 1 = some (1, false, 1) := fldOf Tryz.underlying14 rfl rfl ty12.1 ty12.2.1 ty12.2.2.1
@[simp] theorem ts19 : structT Tryz.prog 19 = true := structOf Tryz.underlying19 (by simp [in17])
@[simp] theorem fl19_0 : fldT Tryz.prog 19 0 = some (0, false, 1) := fldOf Tryz.underlying19 rfl rfl ty17.1 ty17.2.1 ty17.2.2.1
@[simp] theorem ts26 : structT Tryz.prog 26 = true := structOf Tryz.underlying26 (by simp [in24, in9])
@[simp] theorem fl26_0 : fldT Tryz.prog 26 0 = some (0, false, 1) := fldOf Tryz.underlying26 rfl rfl ty9.1 ty9.2.1 ty9.2.2.1
@[simp] theorem fl26_1 : fldT Tryz.prog 26 1 = some (1, false, 1) := fldOf Tryz.underlying26 rfl rfl ty24.1 ty24.2.1 ty24.2.2.1
@[simp] theorem ts32 : structT Tryz.prog 32 = true := structOf Tryz.underlying32 (by simp [in2, in29, in30])
@[simp] theorem fl32_0 : fldT Tryz.prog 32 0 = some (0, false, 1) := fldOf Tryz.underlying32 rfl rfl ty2.1 ty2.2.1 ty2.2.2.1
@[simp] theorem fl32_1 : fldT Tryz.prog 32 1 = some (1, false, 1) := fldOf Tryz.underlying32 rfl rfl ty2.1 ty2.2.1 ty2.2.2.1
@[simp] theorem fl32_2 : fldT Tryz.prog 32 2 = some (2, false, 1) := fldOf Tryz.underlying32 rfl rfl ty29.1 ty29.2.1 ty29.2.2.1
@[simp] theorem fl32_3 : fldT Tryz.prog 32 3 = some (3, false, 1) := fldOf Tryz.underlying32 rfl rfl ty30.1 ty30.2.1 ty30.2.2.1
@[simp] theorem ts41 : structT Tryz.prog 41 = true := structOf Tryz.underlying41 (by simp [in2])
@[simp] theorem fl41_0 : fldT Tryz.prog 41 0 = some (0, false, 1) := fldOf Tryz.underlying41 rfl rfl ty2.1 ty2.2.1 ty2.2.2.1
@[simp] theorem fl41_1 : fldT Tryz.prog 41 1 = some (1, false, 1) := fldOf Tryz.underlying41 rfl rfl ty2.1 ty2.2.1 ty2.2.2.1
@[simp] theorem fl41_2 : fldT Tryz.prog 41 2 = some (2, false, 1) := fldOf Tryz.underlying41 rfl rfl ty2.1 ty2.2.1 ty2.2.2.1
@[simp] theorem ts52 : structT Tryz.prog 52 = true := structOf Tryz.underlying52 (by simp [in2])
@[simp] theorem fl52_0 : fldT Tryz.prog 52 0 = some (0, false, 1) := fldOf Tryz.underlying52 rfl rfl ty2.1 ty2.2.1 ty2.2.2.1
@[simp] theorem fl52_1 : fldT Tryz.prog 52 1 = some (1, false, 1) := fldOf Tryz.underlying52 rfl rfl ty2.1 ty2.2.1 ty2.2.2.1
@[simp] theorem ts64 : structT Tryz.prog 64 = true := structOf Tryz.underlying64 (by simp [in22, in3, in62])
@[simp] theorem fl64_0 : fldT Tryz.prog 64 0 = some (0, false, 1) := fldOf Tryz.underlying64 rfl rfl ty22.1 ty22.2.1 ty22.2.2.1
@[simp] theorem fl64_1 : fldT Tryz.prog 64 1 = some (1, false, 1) := fldOf Tryz.underlying64 rfl rfl ty3.1 ty3.2.1 ty3.2.2.1
@[simp] theorem fl64_2 : fldT Tryz.prog 64 2 = some (2, false, 1) := fldOf Tryz.underlying64 rfl rfl ty62.1 ty62.2.1 ty62.2.2.1
@[simp] theorem eq41 : EqT Tryz.prog 41 [1, 1, 1] := eqT_struct Tryz.underlying41 Tryz.stoodInHeld41 Tryz.eqGuardType41 (by simp [fieldsOk])
@[simp] theorem res_3 : Tryz.f3.results.toList = [.tmp 2] := rfl
@[simp] theorem res_4 : Tryz.f4.results.toList = [.tmp 2] := rfl
@[simp] theorem res_5 : Tryz.f5.results.toList = [.cell 2 26, .tmp 3, .tmp 4] := rfl
@[simp] theorem res_6 : Tryz.f6.results.toList = [.cell 6 32, .tmp 7] := rfl
@[simp] theorem res_7 : Tryz.f7.results.toList = [.tmp 6, .tmp 7] := rfl
@[simp] theorem res_8 : Tryz.f8.results.toList = [.tmp 2] := rfl
@[simp] theorem res_9 : Tryz.f9.results.toList = [.cell 4 26, .tmp 5] := rfl
@[simp] theorem res_10 : Tryz.f10.results.toList = [.tmp 2] := rfl
@[simp] theorem res_11 : Tryz.f11.results.toList = [.cell 2 26, .tmp 3, .tmp 4] := rfl
@[simp] theorem res_12 : Tryz.f12.results.toList = [.tmp 6] := rfl
@[simp] theorem res_13 : Tryz.f13.results.toList = [.tmp 4] := rfl
@[simp] theorem res_14 : Tryz.f14.results.toList = [.tmp 2] := rfl
@[simp] theorem res_15 : Tryz.f15.results.toList = [.tmp 8, .tmp 9] := rfl
@[simp] theorem res_16 : Tryz.f16.results.toList = [.tmp 2] := rfl
@[simp] theorem res_17 : Tryz.f17.results.toList = [] := rfl
@[simp] theorem res_18 : Tryz.f18.results.toList = [.tmp 4] := rfl
@[simp] theorem res_19 : Tryz.f19.results.toList = [.tmp 2] := rfl
@[simp] theorem res_20 : Tryz.f20.results.toList = [.tmp 2] := rfl
@[simp] theorem res_21 : Tryz.f21.results.toList = [.tmp 2] := rfl
@[simp] theorem res_22 : Tryz.f22.results.toList = [.tmp 2] := rfl
@[simp] theorem res_23 : Tryz.f23.results.toList = [] := rfl
@[simp] theorem res_24 : Tryz.f24.results.toList = [.tmp 4] := rfl
@[simp] theorem res_25 : Tryz.f25.results.toList = [.tmp 2] := rfl
@[simp] theorem res_26 : Tryz.f26.results.toList = [.cell 4 26, .tmp 5] := rfl
@[simp] theorem res_27 : Tryz.f27.results.toList = [.cell 2 26] := rfl
@[simp] theorem res_28 : Tryz.f28.results.toList = [.tmp 4] := rfl
@[simp] theorem res_29 : Tryz.f29.results.toList = [.tmp 2] := rfl
@[simp] theorem res_30 : Tryz.f30.results.toList = [.tmp 2] := rfl
@[simp] theorem res_31 : Tryz.f31.results.toList = [] := rfl
@[simp] theorem res_32 : Tryz.f32.results.toList = [.tmp 2] := rfl
@[simp] theorem res_33 : Tryz.f33.results.toList = [.tmp 4] := rfl
@[simp] theorem res_34 : Tryz.f34.results.toList = [.tmp 4] := rfl
@[simp] theorem res_35 : Tryz.f35.results.toList = [] := rfl
@[simp] theorem res_36 : Tryz.f36.results.toList = [.tmp 2] := rfl
@[simp] theorem res_37 : Tryz.f37.results.toList = [.tmp 2] := rfl
@[simp] theorem res_38 : Tryz.f38.results.toList = [.tmp 4] := rfl
@[simp] theorem res_39 : Tryz.f39.results.toList = [.tmp 6] := rfl
@[simp] theorem res_40 : Tryz.f40.results.toList = [.tmp 4] := rfl
@[simp] theorem res_41 : Tryz.f41.results.toList = [.tmp 4] := rfl
@[simp] theorem res_42 : Tryz.f42.results.toList = [.tmp 6] := rfl
@[simp] theorem res_43 : Tryz.f43.results.toList = [.tmp 2] := rfl
@[simp] theorem res_44 : Tryz.f44.results.toList = [.tmp 4] := rfl
@[simp] theorem res_45 : Tryz.f45.results.toList = [.tmp 2] := rfl
@[simp] theorem res_46 : Tryz.f46.results.toList = [.tmp 4] := rfl
@[simp] theorem res_47 : Tryz.f47.results.toList = [] := rfl
@[simp] theorem res_48 : Tryz.f48.results.toList = [] := rfl
@[simp] theorem res_49 : Tryz.f49.results.toList = [.cell 2 26] := rfl
@[simp] theorem res_50 : Tryz.f50.results.toList = [.tmp 4] := rfl
@[simp] theorem res_51 : Tryz.f51.results.toList = [.tmp 2] := rfl
@[simp] theorem res_52 : Tryz.f52.results.toList = [.tmp 2] := rfl
@[simp] theorem res_53 : Tryz.f53.results.toList = [.tmp 2] := rfl
@[simp] theorem res_54 : Tryz.f54.results.toList = [] := rfl
@[simp] theorem res_55 : Tryz.f55.results.toList = [] := rfl
@[simp] theorem res_56 : Tryz.f56.results.toList = [] := rfl
@[simp] theorem res_57 : Tryz.f57.results.toList = [] := rfl
@[simp] theorem res_58 : Tryz.f58.results.toList = [.tmp 8, .tmp 9] := rfl
@[simp] theorem res_59 : Tryz.f59.results.toList = [] := rfl
@[simp] theorem res_60 : Tryz.f60.results.toList = [.tmp 8] := rfl
@[simp] theorem res_61 : Tryz.f61.results.toList = [.tmp 10] := rfl
@[simp] theorem res_62 : Tryz.f62.results.toList = [.tmp 10, .tmp 11] := rfl
@[simp] theorem res_63 : Tryz.f63.results.toList = [.tmp 2] := rfl
@[simp] theorem res_64 : Tryz.f64.results.toList = [.tmp 2] := rfl
@[simp] theorem res_65 : Tryz.f65.results.toList = [.tmp 2] := rfl
@[simp] theorem res_66 : Tryz.f66.results.toList = [.tmp 4] := rfl
@[simp] theorem res_67 : Tryz.f67.results.toList = [.tmp 4] := rfl
@[simp] theorem res_68 : Tryz.f68.results.toList = [.tmp 4] := rfl
@[simp] theorem res_69 : Tryz.f69.results.toList = [] := rfl
@[simp] theorem res_70 : Tryz.f70.results.toList = [] := rfl
@[simp] theorem res_71 : Tryz.f71.results.toList = [] := rfl
@[simp] theorem res_72 : Tryz.f72.results.toList = [.tmp 8, .tmp 9] := rfl
@[simp] theorem res_73 : Tryz.f73.results.toList = [] := rfl
@[simp] theorem res_74 : Tryz.f74.results.toList = [.tmp 8] := rfl
@[simp] theorem res_75 : Tryz.f75.results.toList = [.tmp 10] := rfl
@[simp] theorem res_76 : Tryz.f76.results.toList = [.tmp 10, .tmp 11] := rfl
@[simp] theorem res_77 : Tryz.f77.results.toList = [] := rfl
@[simp] theorem res_78 : Tryz.f78.results.toList = [.tmp 4] := rfl
@[simp] theorem res_79 : Tryz.f79.results.toList = [.tmp 2] := rfl
@[simp] theorem res_80 : Tryz.f80.results.toList = [.tmp 4] := rfl
@[simp] theorem res_81 : Tryz.f81.results.toList = [.tmp 2] := rfl
@[simp] theorem res_82 : Tryz.f82.results.toList = [] := rfl
@[simp] theorem res_83 : Tryz.f83.results.toList = [] := rfl
@[simp] theorem res_84 : Tryz.f84.results.toList = [] := rfl
@[simp] theorem res_85 : Tryz.f85.results.toList = [.tmp 6, .tmp 7] := rfl
@[simp] theorem res_86 : Tryz.f86.results.toList = [] := rfl
@[simp] theorem res_87 : Tryz.f87.results.toList = [.tmp 6] := rfl
@[simp] theorem res_88 : Tryz.f88.results.toList = [.tmp 8] := rfl
@[simp] theorem res_89 : Tryz.f89.results.toList = [.tmp 8, .tmp 9] := rfl
@[simp] theorem res_90 : Tryz.f90.results.toList = [] := rfl
@[simp] theorem res_91 : Tryz.f91.results.toList = [.tmp 2] := rfl
@[simp] theorem res_92 : Tryz.f92.results.toList = [.tmp 2] := rfl
@[simp] theorem res_93 : Tryz.f93.results.toList = [.tmp 8] := rfl
@[simp] theorem res_94 : Tryz.f94.results.toList = [.tmp 12] := rfl
@[simp] theorem res_95 : Tryz.f95.results.toList = [] := rfl
@[simp] theorem res_96 : Tryz.f96.results.toList = [.tmp 8] := rfl
@[simp] theorem res_97 : Tryz.f97.results.toList = [.tmp 12] := rfl
@[simp] theorem res_98 : Tryz.f98.results.toList = [] := rfl
@[simp] theorem res_99 : Tryz.f99.results.toList = [] := rfl
@[simp] theorem res_100 : Tryz.f100.results.toList = [.tmp 6] := rfl
@[simp] theorem res_101 : Tryz.f101.results.toList = [.tmp 10] := rfl
@[simp] theorem res_102 : Tryz.f102.results.toList = [.tmp 10, .tmp 11] := rfl
@[simp] theorem res_103 : Tryz.f103.results.toList = [.tmp 10, .tmp 11] := rfl
@[simp] theorem res_104 : Tryz.f104.results.toList = [] := rfl
@[simp] theorem res_105 : Tryz.f105.results.toList = [.tmp 8, .tmp 9] := rfl
@[simp] theorem res_106 : Tryz.f106.results.toList = [] := rfl
theorem hm : Tryz.prog.follows .mixedOrders = true := by kernel_rfl
end Go.Proofs.YtmdablalfmcgnaaGreat
