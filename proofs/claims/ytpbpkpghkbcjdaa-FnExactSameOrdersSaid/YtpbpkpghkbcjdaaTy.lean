/- Closed facts on the types of the program. Made by a program (gen_types.py). No condition. -/
import Derived.Test.YtpbpkpghkbcjdaaAcd
import Derived.Test.YtpbpkpghkbcjdaaAbz
import Derived.Test.YtpbpkpghkbcjdaaRows
namespace Go.Proofs.Ytpbpkpghkbcjdaa
open Go Go.Ab

theorem in2 : Try.prog.info? 2 = some Try.t2 := by kernel_rfl
@[simp] theorem ty2 : TyOne Try.prog 2 8 (some .i64) none false := tyOne_int in2 Try.underlying2 rfl rfl
@[simp] theorem tz2 : TyZ Try.prog 2 [.int .i64 0] := tyZ in2 rfl rfl rfl rfl
theorem in3 : Try.prog.info? 3 = some Try.t3 := by kernel_rfl
@[simp] theorem ty3 : TyOne Try.prog 3 8 (some .i64) none false := tyOne_int in3 Try.underlying3 rfl rfl
@[simp] theorem tz3 : TyZ Try.prog 3 [.int .i64 0] := tyZ in3 rfl rfl rfl rfl
theorem in4 : Try.prog.info? 4 = some Try.t4 := by kernel_rfl
@[simp] theorem ty4 : TyOne Try.prog 4 1 none none false := tyOne_bool in4 Try.underlying4 rfl rfl
@[simp] theorem ub4 : Try.prog.underlying 4 = some .bool := Try.underlying4
@[simp] theorem tz4 : TyZ Try.prog 4 [.bool false] := tyZ in4 rfl rfl rfl rfl
theorem in5 : Try.prog.info? 5 = some Try.t5 := by kernel_rfl
@[simp] theorem ty5 : TyOne Try.prog 5 1 (some .u8) none false := tyOne_int in5 Try.underlying5 rfl rfl
@[simp] theorem tz5 : TyZ Try.prog 5 [.int .u8 0] := tyZ in5 rfl rfl rfl rfl
theorem in6 : Try.prog.info? 6 = some Try.t6 := by kernel_rfl
@[simp] theorem ty6 : TyOne Try.prog 6 1 (some .u8) none false := tyOne_int in6 Try.underlying6 rfl rfl
@[simp] theorem tz6 : TyZ Try.prog 6 [.int .u8 0] := tyZ in6 rfl rfl rfl rfl
theorem in8 : Try.prog.info? 8 = some Try.t8 := by kernel_rfl
@[simp] theorem ty8 : TyAgg Try.prog 8 4 24 := tyAgg_struct in8 Try.underlying8 rfl rfl
@[simp] theorem tz8 : TyZ Try.prog 8 [.int .i64 0, .int .i64 0, .bool false, .int .u8 0] := tyZ in8 rfl rfl rfl rfl
theorem in9 : Try.prog.info? 9 = some Try.t9 := by kernel_rfl
@[simp] theorem ty9 : TyOne Try.prog 9 16 none none true := tyOne_str in9 Try.underlying9 rfl rfl
@[simp] theorem tz9 : TyZ Try.prog 9 [.str []] := tyZ in9 rfl rfl rfl rfl
theorem in10 : Try.prog.info? 10 = some Try.t10 := by kernel_rfl
@[simp] theorem ty10 : TyOne Try.prog 10 16 none none true := tyOne_str in10 Try.underlying10 rfl rfl
@[simp] theorem tz10 : TyZ Try.prog 10 [.str []] := tyZ in10 rfl rfl rfl rfl
theorem in11 : Try.prog.info? 11 = some Try.t11 := by kernel_rfl
@[simp] theorem ty11 : TyOne Try.prog 11 16 none none true := tyOne_str in11 Try.underlying11 rfl rfl
@[simp] theorem tz11 : TyZ Try.prog 11 [.str []] := tyZ in11 rfl rfl rfl rfl
theorem in12 : Try.prog.info? 12 = some Try.t12 := by kernel_rfl
@[simp] theorem ty12 : TyOne Try.prog 12 8 (some .u64) none false := tyOne_int in12 Try.underlying12 rfl rfl
@[simp] theorem tz12 : TyZ Try.prog 12 [.int .u64 0] := tyZ in12 rfl rfl rfl rfl
theorem in14 : Try.prog.info? 14 = some Try.t14 := by kernel_rfl
@[simp] theorem ty14 : TyAgg Try.prog 14 2 24 := tyAgg_struct in14 Try.underlying14 rfl rfl
@[simp] theorem tz14 : TyZ Try.prog 14 [.str [], .int .u64 0] := tyZ in14 rfl rfl rfl rfl
theorem in15 : Try.prog.info? 15 = some Try.t15 := by kernel_rfl
@[simp] theorem ty15 : TyOne Try.prog 15 8 none none false := tyOne_pointer in15 Try.underlying15 rfl rfl
@[simp] theorem tz15 : TyZ Try.prog 15 [.raw (.pointer none)] := tyZ in15 rfl rfl rfl rfl
theorem in16 : Try.prog.info? 16 = some Try.t16 := by kernel_rfl
@[simp] theorem ty16 : TyOne Try.prog 16 8 none none false := tyOne_pointer in16 Try.underlying16 rfl rfl
@[simp] theorem tz16 : TyZ Try.prog 16 [.raw (.pointer none)] := tyZ in16 rfl rfl rfl rfl
theorem in17 : Try.prog.info? 17 = some Try.t17 := by kernel_rfl
@[simp] theorem ty17 : TyOne Try.prog 17 8 none none false := tyOne_pointer in17 Try.underlying17 rfl rfl
@[simp] theorem tz17 : TyZ Try.prog 17 [.raw (.pointer none)] := tyZ in17 rfl rfl rfl rfl
theorem in19 : Try.prog.info? 19 = some Try.t19 := by kernel_rfl
@[simp] theorem ty19 : TyAgg Try.prog 19 1 8 := tyAgg_struct in19 Try.underlying19 rfl rfl
@[simp] theorem tz19 : TyZ Try.prog 19 [.raw (.pointer none)] := tyZ in19 rfl rfl rfl rfl
theorem in25 : Try.prog.info? 25 = some Try.t25 := by kernel_rfl
@[simp] theorem ty25 : TyAgg Try.prog 25 3 40 := tyAgg_struct in25 Try.underlying25 rfl rfl
@[simp] theorem tz25 : TyZ Try.prog 25 [.int .i64 0, .str [], .str []] := tyZ in25 rfl rfl rfl rfl
theorem in28 : Try.prog.info? 28 = some Try.t28 := by kernel_rfl
@[simp] theorem ty28 : TyAgg Try.prog 28 3 40 := tyAgg_struct in28 Try.underlying28 rfl rfl
@[simp] theorem tz28 : TyZ Try.prog 28 [.int .i64 0, .str [], .str []] := tyZ in28 rfl rfl rfl rfl
theorem in31 : Try.prog.info? 31 = some Try.t31 := by kernel_rfl
@[simp] theorem ty31 : TyOne Try.prog 31 24 none (some 9) false := tyOne_slice in31 Try.underlying31 rfl rfl
@[simp] theorem tz31 : TyZ Try.prog 31 [.nils] := tyZ in31 rfl rfl rfl rfl
theorem in37 : Try.prog.info? 37 = some Try.t37 := by kernel_rfl
@[simp] theorem ty37 : TyAgg Try.prog 37 5 48 := tyAgg_struct in37 Try.underlying37 rfl rfl
@[simp] theorem tz37 : TyZ Try.prog 37 [.str [], .int .i64 0, .int .i64 0, .int .i64 0, .int .i64 0] := tyZ in37 rfl rfl rfl rfl
theorem in41 : Try.prog.info? 41 = some Try.t41 := by kernel_rfl
@[simp] theorem ty41 : TyAgg Try.prog 41 5 48 := tyAgg_struct in41 Try.underlying41 rfl rfl
@[simp] theorem tz41 : TyZ Try.prog 41 [.str [], .int .i64 0, .int .i64 0, .int .i64 0, .int .i64 0] := tyZ in41 rfl rfl rfl rfl
theorem in44 : Try.prog.info? 44 = some Try.t44 := by kernel_rfl
@[simp] theorem ty44 : TyOne Try.prog 44 24 none (some 51) false := tyOne_slice in44 Try.underlying44 rfl rfl
@[simp] theorem tz44 : TyZ Try.prog 44 [.nils] := tyZ in44 rfl rfl rfl rfl
theorem in47 : Try.prog.info? 47 = some Try.t47 := by kernel_rfl
@[simp] theorem ty47 : TyOne Try.prog 47 24 none (some 54) false := tyOne_slice in47 Try.underlying47 rfl rfl
@[simp] theorem tz47 : TyZ Try.prog 47 [.nils] := tyZ in47 rfl rfl rfl rfl
theorem in51 : Try.prog.info? 51 = some Try.t51 := by kernel_rfl
@[simp] theorem ty51 : TyAgg Try.prog 51 3 40 := tyAgg_struct in51 Try.underlying51 rfl rfl
@[simp] theorem tz51 : TyZ Try.prog 51 [.int .i64 0, .str [], .str []] := tyZ in51 rfl rfl rfl rfl
theorem in54 : Try.prog.info? 54 = some Try.t54 := by kernel_rfl
@[simp] theorem ty54 : TyAgg Try.prog 54 3 40 := tyAgg_struct in54 Try.underlying54 rfl rfl
@[simp] theorem tz54 : TyZ Try.prog 54 [.int .i64 0, .str [], .str []] := tyZ in54 rfl rfl rfl rfl
theorem in57 : Try.prog.info? 57 = some Try.t57 := by kernel_rfl
@[simp] theorem ty57 : TyOne Try.prog 57 24 none (some 37) false := tyOne_slice in57 Try.underlying57 rfl rfl
@[simp] theorem tz57 : TyZ Try.prog 57 [.nils] := tyZ in57 rfl rfl rfl rfl
theorem in60 : Try.prog.info? 60 = some Try.t60 := by kernel_rfl
@[simp] theorem ty60 : TyOne Try.prog 60 24 none (some 41) false := tyOne_slice in60 Try.underlying60 rfl rfl
@[simp] theorem tz60 : TyZ Try.prog 60 [.nils] := tyZ in60 rfl rfl rfl rfl
theorem in65 : Try.prog.info? 65 = some Try.t65 := by kernel_rfl
@[simp] theorem ty65 : TyOne Try.prog 65 8 none none false := tyOne_pointer in65 Try.underlying65 rfl rfl
@[simp] theorem tz65 : TyZ Try.prog 65 [.raw (.pointer none)] := tyZ in65 rfl rfl rfl rfl
theorem in71 : Try.prog.info? 71 = some Try.t71 := by kernel_rfl
@[simp] theorem ty71 : TyOne Try.prog 71 8 none none false := tyOne_pointer in71 Try.underlying71 rfl rfl
@[simp] theorem tz71 : TyZ Try.prog 71 [.raw (.pointer none)] := tyZ in71 rfl rfl rfl rfl
theorem in75 : Try.prog.info? 75 = some Try.t75 := by kernel_rfl
@[simp] theorem ty75 : TyOne Try.prog 75 24 none (some 5) false := tyOne_slice in75 Try.underlying75 rfl rfl
@[simp] theorem tz75 : TyZ Try.prog 75 [.nils] := tyZ in75 rfl rfl rfl rfl
theorem in78 : Try.prog.info? 78 = some Try.t78 := by kernel_rfl
@[simp] theorem ty78 : TyOne Try.prog 78 8 none none false := tyOne_func in78 Try.underlying78 rfl rfl
@[simp] theorem tz78 : TyZ Try.prog 78 [.raw .nilFunc] := tyZ in78 rfl rfl rfl rfl
theorem in89 : Try.prog.info? 89 = some Try.t89 := by kernel_rfl
@[simp] theorem ty89 : TyOne Try.prog 89 1 (some .u8) none false := tyOne_int in89 Try.underlying89 rfl rfl
@[simp] theorem tz89 : TyZ Try.prog 89 [.int .u8 0] := tyZ in89 rfl rfl rfl rfl
@[simp] theorem ts8 : structT Try.prog 8 = true := structOf Try.underlying8 (by simp [in2, in3, in4, in6])
@[simp] theorem fl8_0 : fldT Try.prog 8 0 = some (0, false, 1) := fldOf Try.underlying8 rfl rfl ty2.1 ty2.2.1 ty2.2.2.1
@[simp] theorem fl8_1 : fldT Try.prog 8 1 = some (1, false, 1) := fldOf Try.underlying8 rfl rfl ty3.1 ty3.2.1 ty3.2.2.1
@[simp] theorem fl8_2 : fldT Try.prog 8 2 = some (2, false, 1) := fldOf Try.underlying8 rfl rfl ty4.1 ty4.2.1 ty4.2.2.1
@[simp] theorem fl8_3 : fldT Try.prog 8 3 = some (3, false, 1) := fldOf Try.underlying8 rfl rfl ty6.1 ty6.2.1 ty6.2.2.1
@[simp] theorem ts14 : structT Try.prog 14 = true := structOf Try.underlying14 (by simp [in12, in9])
@[simp] theorem fl14_0 : fldT Try.prog 14 0 = some (0, false, 1) := fldOf Try.underlying14 rfl rfl ty9.1 ty9.2.1 ty9.2.2.1
@[simp] theorem fl14_1 : fldT Try.prog 14 1 = some (1, false, 1) := fldOf Try.underlying14 rfl rfl ty12.1 ty12.2.1 ty12.2.2.1
@[simp] theorem ts19 : structT Try.prog 19 = true := structOf Try.underlying19 (by simp [in17])
@[simp] theorem fl19_0 : fldT Try.prog 19 0 = some (0, false, 1) := fldOf Try.underlying19 rfl rfl ty17.1 ty17.2.1 ty17.2.2.1
@[simp] theorem ts25 : structT Try.prog 25 = true := structOf Try.underlying25 (by simp [in2, in9])
@[simp] theorem fl25_0 : fldT Try.prog 25 0 = some (0, false, 1) := fldOf Try.underlying25 rfl rfl ty2.1 ty2.2.1 ty2.2.2.1
@[simp] theorem fl25_1 : fldT Try.prog 25 1 = some (1, false, 1) := fldOf Try.underlying25 rfl rfl ty9.1 ty9.2.1 ty9.2.2.1
@[simp] theorem fl25_2 : fldT Try.prog 25 2 = some (2, false, 1) := fldOf Try.underlying25 rfl rfl ty9.1 ty9.2.1 ty9.2.2.1
@[simp] theorem ts28 : structT Try.prog 28 = true := structOf Try.underlying28 (by simp [in2, in9])
@[simp] theorem fl28_0 : fldT Try.prog 28 0 = some (0, false, 1) := fldOf Try.underlying28 rfl rfl ty2.1 ty2.2.1 ty2.2.2.1
@[simp] theorem fl28_1 : fldT Try.prog 28 1 = some (1, false, 1) := fldOf Try.underlying28 rfl rfl ty9.1 ty9.2.1 ty9.2.2.1
@[simp] theorem fl28_2 : fldT Try.prog 28 2 = some (2, false, 1) := fldOf Try.underlying28 rfl rfl ty9.1 ty9.2.1 ty9.2.2.1
@[simp] theorem ts37 : structT Try.prog 37 = true := structOf Try.underlying37 (by simp [in2, in9])
@[simp] theorem fl37_0 : fldT Try.prog 37 0 = some (0, false, 1) := fldOf Try.underlying37 rfl rfl ty9.1 ty9.2.1 ty9.2.2.1
@[simp] theorem fl37_1 : fldT Try.prog 37 1 = some (1, false, 1) := fldOf Try.underlying37 rfl rfl ty2.1 ty2.2.1 ty2.2.2.1
@[simp] theorem fl37_2 : fldT Try.prog 37 2 = some (2, false, 1) := fldOf Try.underlying37 rfl rfl ty2.1 ty2.2.1 ty2.2.2.1
@[simp] theorem fl37_3 : fldT Try.prog 37 3 = some (3, false, 1) := fldOf Try.underlying37 rfl rfl ty2.1 ty2.2.1 ty2.2.2.1
@[simp] theorem fl37_4 : fldT Try.prog 37 4 = some (4, false, 1) := fldOf Try.underlying37 rfl rfl ty2.1 ty2.2.1 ty2.2.2.1
@[simp] theorem ts41 : structT Try.prog 41 = true := structOf Try.underlying41 (by simp [in2, in9])
@[simp] theorem fl41_0 : fldT Try.prog 41 0 = some (0, false, 1) := fldOf Try.underlying41 rfl rfl ty9.1 ty9.2.1 ty9.2.2.1
@[simp] theorem fl41_1 : fldT Try.prog 41 1 = some (1, false, 1) := fldOf Try.underlying41 rfl rfl ty2.1 ty2.2.1 ty2.2.2.1
@[simp] theorem fl41_2 : fldT Try.prog 41 2 = some (2, false, 1) := fldOf Try.underlying41 rfl rfl ty2.1 ty2.2.1 ty2.2.2.1
@[simp] theorem fl41_3 : fldT Try.prog 41 3 = some (3, false, 1) := fldOf Try.underlying41 rfl rfl ty2.1 ty2.2.1 ty2.2.2.1
@[simp] theorem fl41_4 : fldT Try.prog 41 4 = some (4, false, 1) := fldOf Try.underlying41 rfl rfl ty2.1 ty2.2.1 ty2.2.2.1
@[simp] theorem ts51 : structT Try.prog 51 = true := structOf Try.underlying51 (by simp [in2, in9])
@[simp] theorem fl51_0 : fldT Try.prog 51 0 = some (0, false, 1) := fldOf Try.underlying51 rfl rfl ty2.1 ty2.2.1 ty2.2.2.1
@[simp] theorem fl51_1 : fldT Try.prog 51 1 = some (1, false, 1) := fldOf Try.underlying51 rfl rfl ty9.1 ty9.2.1 ty9.2.2.1
@[simp] theorem fl51_2 : fldT Try.prog 51 2 = some (2, false, 1) := fldOf Try.underlying51 rfl rfl ty9.1 ty9.2.1 ty9.2.2.1
@[simp] theorem ts54 : structT Try.prog 54 = true := structOf Try.underlying54 (by simp [in2, in9])
@[simp] theorem fl54_0 : fldT Try.prog 54 0 = some (0, false, 1) := fldOf Try.underlying54 rfl rfl ty2.1 ty2.2.1 ty2.2.2.1
@[simp] theorem fl54_1 : fldT Try.prog 54 1 = some (1, false, 1) := fldOf Try.underlying54 rfl rfl ty9.1 ty9.2.1 ty9.2.2.1
@[simp] theorem fl54_2 : fldT Try.prog 54 2 = some (2, false, 1) := fldOf Try.underlying54 rfl rfl ty9.1 ty9.2.1 ty9.2.2.1
@[simp] theorem eq41 : EqT Try.prog 41 [3, 1, 1, 1, 1] := eqT_struct Try.underlying41 Try.stoodInHeld41 Try.eqGuardType41 (by simp [fieldsOk])
@[simp] theorem eq54 : EqT Try.prog 54 [1, 3, 3] := eqT_struct Try.underlying54 Try.stoodInHeld54 Try.eqGuardType54 (by simp [fieldsOk])
@[simp] theorem res_3 : Try.f3.results.toList = [.tmp 2] := rfl
@[simp] theorem res_4 : Try.f4.results.toList = [.tmp 2] := rfl
@[simp] theorem res_5 : Try.f5.results.toList = [.tmp 0] := rfl
@[simp] theorem res_6 : Try.f6.results.toList = [.tmp 2] := rfl
@[simp] theorem res_7 : Try.f7.results.toList = [.tmp 4] := rfl
@[simp] theorem res_8 : Try.f8.results.toList = [.tmp 2] := rfl
@[simp] theorem res_9 : Try.f9.results.toList = [.tmp 4] := rfl
@[simp] theorem res_10 : Try.f10.results.toList = [.tmp 2] := rfl
@[simp] theorem res_11 : Try.f11.results.toList = [.tmp 2] := rfl
@[simp] theorem res_12 : Try.f12.results.toList = [.tmp 4] := rfl
@[simp] theorem res_13 : Try.f13.results.toList = [.tmp 2] := rfl
@[simp] theorem res_14 : Try.f14.results.toList = [.cell 2 28] := rfl
@[simp] theorem res_15 : Try.f15.results.toList = [.tmp 2] := rfl
@[simp] theorem res_16 : Try.f16.results.toList = [.tmp 0] := rfl
@[simp] theorem res_17 : Try.f17.results.toList = [.tmp 0] := rfl
@[simp] theorem res_18 : Try.f18.results.toList = [.tmp 4] := rfl
@[simp] theorem res_19 : Try.f19.results.toList = [.tmp 4] := rfl
@[simp] theorem res_20 : Try.f20.results.toList = [.tmp 4] := rfl
@[simp] theorem res_21 : Try.f21.results.toList = [.tmp 4] := rfl
@[simp] theorem res_22 : Try.f22.results.toList = [.tmp 2, .tmp 3] := rfl
@[simp] theorem res_23 : Try.f23.results.toList = [.cell 2 41] := rfl
@[simp] theorem res_24 : Try.f24.results.toList = [.tmp 2, .tmp 3] := rfl
@[simp] theorem res_25 : Try.f25.results.toList = [.tmp 4] := rfl
@[simp] theorem res_26 : Try.f26.results.toList = [.tmp 4] := rfl
@[simp] theorem res_27 : Try.f27.results.toList = [.tmp 2] := rfl
@[simp] theorem res_28 : Try.f28.results.toList = [.tmp 4] := rfl
@[simp] theorem res_29 : Try.f29.results.toList = [.tmp 4] := rfl
@[simp] theorem res_30 : Try.f30.results.toList = [.tmp 4] := rfl
@[simp] theorem res_31 : Try.f31.results.toList = [.tmp 2] := rfl
@[simp] theorem res_32 : Try.f32.results.toList = [.cell 2 54] := rfl
@[simp] theorem res_33 : Try.f33.results.toList = [.tmp 2] := rfl
@[simp] theorem res_34 : Try.f34.results.toList = [.tmp 4] := rfl
@[simp] theorem res_35 : Try.f35.results.toList = [.tmp 4] := rfl
@[simp] theorem res_36 : Try.f36.results.toList = [.tmp 2] := rfl
@[simp] theorem res_37 : Try.f37.results.toList = [.tmp 4] := rfl
@[simp] theorem res_38 : Try.f38.results.toList = [.tmp 4] := rfl
@[simp] theorem res_39 : Try.f39.results.toList = [.tmp 2] := rfl
@[simp] theorem res_40 : Try.f40.results.toList = [.tmp 0] := rfl
@[simp] theorem res_41 : Try.f41.results.toList = [.tmp 2] := rfl
@[simp] theorem res_42 : Try.f42.results.toList = [.tmp 2] := rfl
@[simp] theorem res_43 : Try.f43.results.toList = [.tmp 2] := rfl
@[simp] theorem res_44 : Try.f44.results.toList = [.tmp 2] := rfl
@[simp] theorem res_45 : Try.f45.results.toList = [.tmp 2] := rfl
@[simp] theorem res_46 : Try.f46.results.toList = [.tmp 2] := rfl
@[simp] theorem res_47 : Try.f47.results.toList = [.tmp 4] := rfl
@[simp] theorem res_48 : Try.f48.results.toList = [.tmp 4] := rfl
@[simp] theorem res_49 : Try.f49.results.toList = [.tmp 2] := rfl
@[simp] theorem res_50 : Try.f50.results.toList = [.tmp 2] := rfl
@[simp] theorem res_51 : Try.f51.results.toList = [.tmp 2] := rfl
@[simp] theorem res_52 : Try.f52.results.toList = [.tmp 4] := rfl
@[simp] theorem res_53 : Try.f53.results.toList = [.tmp 4] := rfl
@[simp] theorem res_54 : Try.f54.results.toList = [.tmp 6] := rfl
@[simp] theorem res_55 : Try.f55.results.toList = [.tmp 6] := rfl
@[simp] theorem res_56 : Try.f56.results.toList = [.tmp 2] := rfl
@[simp] theorem res_57 : Try.f57.results.toList = [.tmp 2] := rfl
@[simp] theorem res_58 : Try.f58.results.toList = [.tmp 2] := rfl
@[simp] theorem res_59 : Try.f59.results.toList = [.tmp 2] := rfl
@[simp] theorem res_60 : Try.f60.results.toList = [.tmp 4] := rfl
@[simp] theorem res_61 : Try.f61.results.toList = [.tmp 2] := rfl
@[simp] theorem res_62 : Try.f62.results.toList = [.tmp 4] := rfl
@[simp] theorem res_63 : Try.f63.results.toList = [.tmp 2] := rfl
@[simp] theorem res_64 : Try.f64.results.toList = [.tmp 2] := rfl
@[simp] theorem res_65 : Try.f65.results.toList = [.tmp 2] := rfl
@[simp] theorem res_66 : Try.f66.results.toList = [.tmp 4] := rfl
theorem hm : Try.prog.follows .mixedOrders = true := Try.checked.mixed
end Go.Proofs.Ytpbpkpghkbcjdaa
