/- Closed facts on the types of the program. Made by a program (gen_types.py). No condition. -/
import Derived.Test.YtndbhcnedfbcoaaDoorAcd
import Derived.Test.YtndbhcnedfbcoaaDoorAbz
import Derived.Test.YtndbhcnedfbcoaaDoorProg
namespace Go.Proofs.YtndbhcnedfbcoaaDoor
open Go Go.Ab

theorem in2 : Tryd.prog.info? 2 = some Tryd.t2 := by kernel_rfl
@[simp] theorem ty2 : TyOne Tryd.prog 2 8 (some .i64) none false := tyOne_int in2 Tryd.underlying2 rfl rfl
@[simp] theorem tz2 : TyZ Tryd.prog 2 [.int .i64 0] := tyZ in2 rfl rfl rfl rfl
theorem in3 : Tryd.prog.info? 3 = some Tryd.t3 := by kernel_rfl
@[simp] theorem ty3 : TyOne Tryd.prog 3 8 (some .i64) none false := tyOne_int in3 Tryd.underlying3 rfl rfl
@[simp] theorem tz3 : TyZ Tryd.prog 3 [.int .i64 0] := tyZ in3 rfl rfl rfl rfl
theorem in4 : Tryd.prog.info? 4 = some Tryd.t4 := by kernel_rfl
@[simp] theorem ty4 : TyOne Tryd.prog 4 1 none none false := tyOne_bool in4 Tryd.underlying4 rfl rfl
@[simp] theorem ub4 : Tryd.prog.underlying 4 = some .bool := Tryd.underlying4
@[simp] theorem tz4 : TyZ Tryd.prog 4 [.bool false] := tyZ in4 rfl rfl rfl rfl
theorem in5 : Tryd.prog.info? 5 = some Tryd.t5 := by kernel_rfl
@[simp] theorem ty5 : TyOne Tryd.prog 5 1 (some .u8) none false := tyOne_int in5 Tryd.underlying5 rfl rfl
@[simp] theorem tz5 : TyZ Tryd.prog 5 [.int .u8 0] := tyZ in5 rfl rfl rfl rfl
theorem in6 : Tryd.prog.info? 6 = some Tryd.t6 := by kernel_rfl
@[simp] theorem ty6 : TyOne Tryd.prog 6 1 (some .u8) none false := tyOne_int in6 Tryd.underlying6 rfl rfl
@[simp] theorem tz6 : TyZ Tryd.prog 6 [.int .u8 0] := tyZ in6 rfl rfl rfl rfl
theorem in8 : Tryd.prog.info? 8 = some Tryd.t8 := by kernel_rfl
@[simp] theorem ty8 : TyAgg Tryd.prog 8 4 24 := tyAgg_struct in8 Tryd.underlying8 rfl rfl
@[simp] theorem tz8 : TyZ Tryd.prog 8 [.int .i64 0, .int .i64 0, .bool false, .int .u8 0] := tyZ in8 rfl rfl rfl rfl
theorem in9 : Tryd.prog.info? 9 = some Tryd.t9 := by kernel_rfl
@[simp] theorem ty9 : TyOne Tryd.prog 9 16 none none true := tyOne_str in9 Tryd.underlying9 rfl rfl
@[simp] theorem tz9 : TyZ Tryd.prog 9 [.str []] := tyZ in9 rfl rfl rfl rfl
theorem in10 : Tryd.prog.info? 10 = some Tryd.t10 := by kernel_rfl
@[simp] theorem ty10 : TyOne Tryd.prog 10 16 none none true := tyOne_str in10 Tryd.underlying10 rfl rfl
@[simp] theorem tz10 : TyZ Tryd.prog 10 [.str []] := tyZ in10 rfl rfl rfl rfl
theorem in11 : Tryd.prog.info? 11 = some Tryd.t11 := by kernel_rfl
@[simp] theorem ty11 : TyOne Tryd.prog 11 16 none none true := tyOne_str in11 Tryd.underlying11 rfl rfl
@[simp] theorem tz11 : TyZ Tryd.prog 11 [.str []] := tyZ in11 rfl rfl rfl rfl
theorem in12 : Tryd.prog.info? 12 = some Tryd.t12 := by kernel_rfl
@[simp] theorem ty12 : TyOne Tryd.prog 12 8 (some .u64) none false := tyOne_int in12 Tryd.underlying12 rfl rfl
@[simp] theorem tz12 : TyZ Tryd.prog 12 [.int .u64 0] := tyZ in12 rfl rfl rfl rfl
theorem in14 : Tryd.prog.info? 14 = some Tryd.t14 := by kernel_rfl
@[simp] theorem ty14 : TyAgg Tryd.prog 14 2 24 := tyAgg_struct in14 Tryd.underlying14 rfl rfl
@[simp] theorem tz14 : TyZ Tryd.prog 14 [.str [], .int .u64 0] := tyZ in14 rfl rfl rfl rfl
theorem in15 : Tryd.prog.info? 15 = some Tryd.t15 := by kernel_rfl
@[simp] theorem ty15 : TyOne Tryd.prog 15 8 none none false := tyOne_pointer in15 Tryd.underlying15 rfl rfl
@[simp] theorem tz15 : TyZ Tryd.prog 15 [.raw (.pointer none)] := tyZ in15 rfl rfl rfl rfl
theorem in16 : Tryd.prog.info? 16 = some Tryd.t16 := by kernel_rfl
@[simp] theorem ty16 : TyOne Tryd.prog 16 8 none none false := tyOne_pointer in16 Tryd.underlying16 rfl rfl
@[simp] theorem tz16 : TyZ Tryd.prog 16 [.raw (.pointer none)] := tyZ in16 rfl rfl rfl rfl
theorem in17 : Tryd.prog.info? 17 = some Tryd.t17 := by kernel_rfl
@[simp] theorem ty17 : TyOne Tryd.prog 17 8 none none false := tyOne_pointer in17 Tryd.underlying17 rfl rfl
@[simp] theorem tz17 : TyZ Tryd.prog 17 [.raw (.pointer none)] := tyZ in17 rfl rfl rfl rfl
theorem in19 : Tryd.prog.info? 19 = some Tryd.t19 := by kernel_rfl
@[simp] theorem ty19 : TyAgg Tryd.prog 19 1 8 := tyAgg_struct in19 Tryd.underlying19 rfl rfl
@[simp] theorem tz19 : TyZ Tryd.prog 19 [.raw (.pointer none)] := tyZ in19 rfl rfl rfl rfl
theorem in21 : Tryd.prog.info? 21 = some Tryd.t21 := by kernel_rfl
@[simp] theorem ty21 : TyOne Tryd.prog 21 4 (some .i32) none false := tyOne_int in21 Tryd.underlying21 rfl rfl
@[simp] theorem tz21 : TyZ Tryd.prog 21 [.int .i32 0] := tyZ in21 rfl rfl rfl rfl
theorem in22 : Tryd.prog.info? 22 = some Tryd.t22 := by kernel_rfl
@[simp] theorem ty22 : TyOne Tryd.prog 22 24 none (some 5) false := tyOne_slice in22 Tryd.underlying22 rfl rfl
@[simp] theorem tz22 : TyZ Tryd.prog 22 [.nils] := tyZ in22 rfl rfl rfl rfl
theorem in24 : Tryd.prog.info? 24 = some Tryd.t24 := by kernel_rfl
@[simp] theorem ty24 : TyOne Tryd.prog 24 24 none (some 2) false := tyOne_slice in24 Tryd.underlying24 rfl rfl
@[simp] theorem tz24 : TyZ Tryd.prog 24 [.nils] := tyZ in24 rfl rfl rfl rfl
theorem in32 : Tryd.prog.info? 32 = some Tryd.t32 := by kernel_rfl
@[simp] theorem ty32 : TyOne Tryd.prog 32 24 none (some 24) false := tyOne_slice in32 Tryd.underlying32 rfl rfl
@[simp] theorem tz32 : TyZ Tryd.prog 32 [.nils] := tyZ in32 rfl rfl rfl rfl
theorem in35 : Tryd.prog.info? 35 = some Tryd.t35 := by kernel_rfl
@[simp] theorem ty35 : TyOne Tryd.prog 35 24 none (some 9) false := tyOne_slice in35 Tryd.underlying35 rfl rfl
@[simp] theorem tz35 : TyZ Tryd.prog 35 [.nils] := tyZ in35 rfl rfl rfl rfl
theorem in39 : Tryd.prog.info? 39 = some Tryd.t39 := by kernel_rfl
@[simp] theorem ty39 : TyOne Tryd.prog 39 8 none none false := tyOne_pointer in39 Tryd.underlying39 rfl rfl
@[simp] theorem tz39 : TyZ Tryd.prog 39 [.raw (.pointer none)] := tyZ in39 rfl rfl rfl rfl
theorem in51 : Tryd.prog.info? 51 = some Tryd.t51 := by kernel_rfl
@[simp] theorem ty51 : TyOne Tryd.prog 51 8 none none false := tyOne_func in51 Tryd.underlying51 rfl rfl
@[simp] theorem tz51 : TyZ Tryd.prog 51 [.raw .nilFunc] := tyZ in51 rfl rfl rfl rfl
theorem in52 : Tryd.prog.info? 52 = some Tryd.t52 := by kernel_rfl
@[simp] theorem ty52 : TyOne Tryd.prog 52 8 (some .u64) none false := tyOne_int in52 Tryd.underlying52 rfl rfl
@[simp] theorem tz52 : TyZ Tryd.prog 52 [.int .u64 0] := tyZ in52 rfl rfl rfl rfl
theorem in54 : Tryd.prog.info? 54 = some Tryd.t54 := by kernel_rfl
@[simp] theorem ty54 : TyAgg Tryd.prog 54 3 40 := tyAgg_struct in54 Tryd.underlying54 rfl rfl
@[simp] theorem tz54 : TyZ Tryd.prog 54 [.nils, .int .i64 0, .int .u64 0] := tyZ in54 rfl rfl rfl rfl
theorem in68 : Tryd.prog.info? 68 = some Tryd.t68 := by kernel_rfl
@[simp] theorem ty68 : TyOne Tryd.prog 68 8 (some .u64) none false := tyOne_int in68 Tryd.underlying68 rfl rfl
@[simp] theorem tz68 : TyZ Tryd.prog 68 [.int .u64 0] := tyZ in68 rfl rfl rfl rfl
theorem in72 : Tryd.prog.info? 72 = some Tryd.t72 := by kernel_rfl
@[simp] theorem ty72 : TyOne Tryd.prog 72 8 (some .i64) none false := tyOne_int in72 Tryd.underlying72 rfl rfl
@[simp] theorem tz72 : TyZ Tryd.prog 72 [.int .i64 0] := tyZ in72 rfl rfl rfl rfl
theorem in81 : Tryd.prog.info? 81 = some Tryd.t81 := by kernel_rfl
@[simp] theorem ty81 : TyOne Tryd.prog 81 4 (some .u32) none false := tyOne_int in81 Tryd.underlying81 rfl rfl
@[simp] theorem tz81 : TyZ Tryd.prog 81 [.int .u32 0] := tyZ in81 rfl rfl rfl rfl
theorem in85 : Tryd.prog.info? 85 = some Tryd.t85 := by kernel_rfl
@[simp] theorem ty85 : TyOne Tryd.prog 85 8 (some .u64) none false := tyOne_int in85 Tryd.underlying85 rfl rfl
@[simp] theorem tz85 : TyZ Tryd.prog 85 [.int .u64 0] := tyZ in85 rfl rfl rfl rfl
theorem in89 : Tryd.prog.info? 89 = some Tryd.t89 := by kernel_rfl
@[simp] theorem ty89 : TyOne Tryd.prog 89 8 none none false := tyOne_pointer in89 Tryd.underlying89 rfl rfl
@[simp] theorem tz89 : TyZ Tryd.prog 89 [.raw (.pointer none)] := tyZ in89 rfl rfl rfl rfl
theorem in94 : Tryd.prog.info? 94 = some Tryd.t94 := by kernel_rfl
@[simp] theorem ty94 : TyOne Tryd.prog 94 8 none none false := tyOne_pointer in94 Tryd.underlying94 rfl rfl
@[simp] theorem tz94 : TyZ Tryd.prog 94 [.raw (.pointer none)] := tyZ in94 rfl rfl rfl rfl
theorem in98 : Tryd.prog.info? 98 = some Tryd.t98 := by kernel_rfl
@[simp] theorem ty98 : TyAgg Tryd.prog 98 256 256 := tyAgg_array in98 Tryd.underlying98 rfl rfl
@[simp] theorem ar98 : arrT Tryd.prog 98 = some (256, 5) := arrOf Tryd.underlying98
theorem in100 : Tryd.prog.info? 100 = some Tryd.t100 := by kernel_rfl
@[simp] theorem ty100 : TyAgg Tryd.prog 100 2 2 := tyAgg_struct in100 Tryd.underlying100 rfl rfl
@[simp] theorem tz100 : TyZ Tryd.prog 100 [.int .u8 0, .int .u8 0] := tyZ in100 rfl rfl rfl rfl
theorem in101 : Tryd.prog.info? 101 = some Tryd.t101 := by kernel_rfl
@[simp] theorem ty101 : TyAgg Tryd.prog 101 32 32 := tyAgg_array in101 Tryd.underlying101 rfl rfl
@[simp] theorem ar101 : arrT Tryd.prog 101 = some (16, 100) := arrOf Tryd.underlying101
@[simp] theorem tz101 : TyZ Tryd.prog 101 [.int .u8 0, .int .u8 0, .int .u8 0, .int .u8 0, .int .u8 0, .int .u8 0, .int .u8 0, .int .u8 0, .int .u8 0, .int .u8 0, .int .u8 0, .int .u8 0, .int .u8 0, .int .u8 0, .int .u8 0, .int .u8 0, .int .u8 0, .int .u8 0, .int .u8 0, .int .u8 0, .int .u8 0, .int .u8 0, .int .u8 0, .int .u8 0, .int .u8 0, .int .u8 0, .int .u8 0, .int .u8 0, .int .u8 0, .int .u8 0, .int .u8 0, .int .u8 0] := tyZ in101 rfl rfl rfl rfl
theorem in112 : Tryd.prog.info? 112 = some Tryd.t112 := by kernel_rfl
@[simp] theorem ty112 : TyOne Tryd.prog 112 1 (some .u8) none false := tyOne_int in112 Tryd.underlying112 rfl rfl
@[simp] theorem tz112 : TyZ Tryd.prog 112 [.int .u8 0] := tyZ in112 rfl rfl rfl rfl
@[simp] theorem ts8 : structT Tryd.prog 8 = true := structOf Tryd.underlying8 (by simp [in2, in3, in4, in6])
@[simp] theorem fl8_0 : fldT Tryd.prog 8 0 = some (0, false, 1) := fldOf Tryd.underlying8 rfl rfl ty2.1 ty2.2.1 ty2.2.2.1
@[simp] theorem fl8_1 : fldT Tryd.prog 8 1 = some (1, false, 1) := fldOf Tryd.underlying8 rfl rfl ty3.1 ty3.2.1 ty3.2.2.1
@[simp] theorem fl8_2 : fldT Tryd.prog 8 2 = some (2, false, 1) := fldOf Tryd.underlying8 rfl rfl ty4.1 ty4.2.1 ty4.2.2.1
@[simp] theorem fl8_3 : fldT Tryd.prog 8 3 = some (3, false, 1) := fldOf Tryd.underlying8 rfl rfl ty6.1 ty6.2.1 ty6.2.2.1
@[simp] theorem ts14 : structT Tryd.prog 14 = true := structOf Tryd.underlying14 (by simp [in12, in9])
@[simp] theorem fl14_0 : fldT Tryd.prog 14 0 = some (0, false, 1) := fldOf Tryd.underlying14 rfl rfl ty9.1 ty9.2.1 ty9.2.2.1
@[simp] theorem fl14_1 : fldT Tryd.prog 14 1 = some (1, false, 1) := fldOf Tryd.underlying14 rfl rfl ty12.1 ty12.2.1 ty12.2.2.1
@[simp] theorem ts19 : structT Tryd.prog 19 = true := structOf Tryd.underlying19 (by simp [in17])
@[simp] theorem fl19_0 : fldT Tryd.prog 19 0 = some (0, false, 1) := fldOf Tryd.underlying19 rfl rfl ty17.1 ty17.2.1 ty17.2.2.1
@[simp] theorem ts54 : structT Tryd.prog 54 = true := structOf Tryd.underlying54 (by simp [in22, in3, in52])
@[simp] theorem fl54_0 : fldT Tryd.prog 54 0 = some (0, false, 1) := fldOf Tryd.underlying54 rfl rfl ty22.1 ty22.2.1 ty22.2.2.1
@[simp] theorem fl54_1 : fldT Tryd.prog 54 1 = some (1, false, 1) := fldOf Tryd.underlying54 rfl rfl ty3.1 ty3.2.1 ty3.2.2.1
@[simp] theorem fl54_2 : fldT Tryd.prog 54 2 = some (2, false, 1) := fldOf Tryd.underlying54 rfl rfl ty52.1 ty52.2.1 ty52.2.2.1
@[simp] theorem ts100 : structT Tryd.prog 100 = true := structOf Tryd.underlying100 (by simp [in5])
@[simp] theorem fl100_0 : fldT Tryd.prog 100 0 = some (0, false, 1) := fldOf Tryd.underlying100 rfl rfl ty5.1 ty5.2.1 ty5.2.2.1
@[simp] theorem fl100_1 : fldT Tryd.prog 100 1 = some (1, false, 1) := fldOf Tryd.underlying100 rfl rfl ty5.1 ty5.2.1 ty5.2.2.1
@[simp] theorem res_3 : Tryd.f3.results.toList = [.tmp 4] := rfl
@[simp] theorem res_4 : Tryd.f4.results.toList = [.tmp 4] := rfl
@[simp] theorem res_5 : Tryd.f5.results.toList = [.tmp 2] := rfl
@[simp] theorem res_6 : Tryd.f6.results.toList = [.tmp 4] := rfl
@[simp] theorem res_7 : Tryd.f7.results.toList = [.tmp 4, .tmp 5] := rfl
@[simp] theorem res_8 : Tryd.f8.results.toList = [.tmp 4] := rfl
@[simp] theorem res_9 : Tryd.f9.results.toList = [.tmp 4] := rfl
@[simp] theorem res_10 : Tryd.f10.results.toList = [.tmp 2] := rfl
@[simp] theorem res_11 : Tryd.f11.results.toList = [.tmp 4, .tmp 5] := rfl
@[simp] theorem res_12 : Tryd.f12.results.toList = [.tmp 4, .tmp 5] := rfl
@[simp] theorem res_13 : Tryd.f13.results.toList = [.tmp 2, .tmp 3] := rfl
@[simp] theorem res_14 : Tryd.f14.results.toList = [.tmp 2] := rfl
@[simp] theorem res_15 : Tryd.f15.results.toList = [.tmp 2] := rfl
@[simp] theorem res_16 : Tryd.f16.results.toList = [.tmp 4] := rfl
@[simp] theorem res_17 : Tryd.f17.results.toList = [.tmp 4] := rfl
@[simp] theorem res_18 : Tryd.f18.results.toList = [.tmp 2] := rfl
@[simp] theorem res_19 : Tryd.f19.results.toList = [.tmp 2] := rfl
@[simp] theorem res_20 : Tryd.f20.results.toList = [.tmp 4] := rfl
@[simp] theorem res_21 : Tryd.f21.results.toList = [.tmp 4, .tmp 5] := rfl
@[simp] theorem res_22 : Tryd.f22.results.toList = [.tmp 2] := rfl
@[simp] theorem res_23 : Tryd.f23.results.toList = [.tmp 2] := rfl
@[simp] theorem res_24 : Tryd.f24.results.toList = [.tmp 2] := rfl
@[simp] theorem res_25 : Tryd.f25.results.toList = [.tmp 2] := rfl
@[simp] theorem res_26 : Tryd.f26.results.toList = [.tmp 4] := rfl
@[simp] theorem res_27 : Tryd.f27.results.toList = [.tmp 3] := rfl
@[simp] theorem res_28 : Tryd.f28.results.toList = [.tmp 4] := rfl
@[simp] theorem res_29 : Tryd.f29.results.toList = [.tmp 2] := rfl
@[simp] theorem res_30 : Tryd.f30.results.toList = [.tmp 4] := rfl
@[simp] theorem res_31 : Tryd.f31.results.toList = [.tmp 2] := rfl
@[simp] theorem res_32 : Tryd.f32.results.toList = [.tmp 2] := rfl
@[simp] theorem res_33 : Tryd.f33.results.toList = [.tmp 4, .tmp 5] := rfl
@[simp] theorem res_34 : Tryd.f34.results.toList = [.tmp 2] := rfl
@[simp] theorem res_35 : Tryd.f35.results.toList = [] := rfl
@[simp] theorem res_36 : Tryd.f36.results.toList = [.tmp 4] := rfl
@[simp] theorem res_37 : Tryd.f37.results.toList = [.tmp 4] := rfl
@[simp] theorem res_38 : Tryd.f38.results.toList = [.tmp 4] := rfl
@[simp] theorem res_39 : Tryd.f39.results.toList = [.tmp 6] := rfl
@[simp] theorem res_40 : Tryd.f40.results.toList = [.tmp 6] := rfl
@[simp] theorem res_41 : Tryd.f41.results.toList = [.tmp 4] := rfl
@[simp] theorem res_42 : Tryd.f42.results.toList = [.tmp 4] := rfl
@[simp] theorem res_43 : Tryd.f43.results.toList = [.tmp 4] := rfl
@[simp] theorem res_44 : Tryd.f44.results.toList = [.tmp 2] := rfl
@[simp] theorem res_45 : Tryd.f45.results.toList = [.tmp 2] := rfl
@[simp] theorem res_46 : Tryd.f46.results.toList = [] := rfl
@[simp] theorem res_47 : Tryd.f47.results.toList = [.tmp 2] := rfl
@[simp] theorem res_48 : Tryd.f48.results.toList = [.tmp 4] := rfl
@[simp] theorem res_49 : Tryd.f49.results.toList = [.tmp 4] := rfl
@[simp] theorem res_50 : Tryd.f50.results.toList = [.tmp 8] := rfl
@[simp] theorem res_51 : Tryd.f51.results.toList = [] := rfl
@[simp] theorem res_52 : Tryd.f52.results.toList = [] := rfl
@[simp] theorem res_53 : Tryd.f53.results.toList = [] := rfl
@[simp] theorem res_54 : Tryd.f54.results.toList = [.tmp 6, .tmp 7] := rfl
@[simp] theorem res_55 : Tryd.f55.results.toList = [] := rfl
@[simp] theorem res_56 : Tryd.f56.results.toList = [.tmp 6] := rfl
@[simp] theorem res_57 : Tryd.f57.results.toList = [.tmp 4] := rfl
@[simp] theorem res_58 : Tryd.f58.results.toList = [.tmp 8] := rfl
@[simp] theorem res_59 : Tryd.f59.results.toList = [.tmp 8, .tmp 9] := rfl
@[simp] theorem res_60 : Tryd.f60.results.toList = [.tmp 2] := rfl
@[simp] theorem res_61 : Tryd.f61.results.toList = [.tmp 2] := rfl
@[simp] theorem res_63 : Tryd.f63.results.toList = [.tmp 4] := rfl
@[simp] theorem res_64 : Tryd.f64.results.toList = [.tmp 4] := rfl
@[simp] theorem res_65 : Tryd.f65.results.toList = [.tmp 4] := rfl
@[simp] theorem res_66 : Tryd.f66.results.toList = [] := rfl
@[simp] theorem res_67 : Tryd.f67.results.toList = [.tmp 2] := rfl
@[simp] theorem res_68 : Tryd.f68.results.toList = [.tmp 2] := rfl
@[simp] theorem res_69 : Tryd.f69.results.toList = [.tmp 6] := rfl
@[simp] theorem res_70 : Tryd.f70.results.toList = [.tmp 10] := rfl
@[simp] theorem res_71 : Tryd.f71.results.toList = [.tmp 2] := rfl
@[simp] theorem res_72 : Tryd.f72.results.toList = [.tmp 2] := rfl
@[simp] theorem res_73 : Tryd.f73.results.toList = [.tmp 2, .tmp 3] := rfl
@[simp] theorem res_75 : Tryd.f75.results.toList = [.tmp 4] := rfl
@[simp] theorem res_76 : Tryd.f76.results.toList = [.tmp 8, .tmp 9] := rfl
@[simp] theorem res_77 : Tryd.f77.results.toList = [.tmp 2, .tmp 3] := rfl
@[simp] theorem res_79 : Tryd.f79.results.toList = [.tmp 2] := rfl
@[simp] theorem res_80 : Tryd.f80.results.toList = [.tmp 4] := rfl
@[simp] theorem res_81 : Tryd.f81.results.toList = [.tmp 2, .tmp 3] := rfl
theorem hm : Tryd.prog.follows .mixedOrders = true := by kernel_rfl
end Go.Proofs.YtndbhcnedfbcoaaDoor
