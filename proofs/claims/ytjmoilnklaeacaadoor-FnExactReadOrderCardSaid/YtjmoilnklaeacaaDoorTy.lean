/- Closed facts on the types of the program. Made by a program (gen_types.py). No condition. -/
import Derived.Test.YtjmoilnklaeacaaDoorAcd
import Derived.Test.YtjmoilnklaeacaaDoorAbz
import Derived.Test.YtjmoilnklaeacaaDoorProg
namespace Go.Proofs.YtjmoilnklaeacaaDoor
open Go Go.Ab

theorem in2 : Tryd.prog.info? 2 = some Tryd.t2 := by kernel_rfl
@[simp] theorem ty2 : TyOne Tryd.prog 2 8 (some .i64) none false := tyOne_int in2 Tryd.underlying2 rfl rfl
@[simp] theorem tz2 : TyZ Tryd.prog 2 [.int .i64 0] := tyZ in2 rfl rfl rfl rfl
theorem in3 : Tryd.prog.info? 3 = some Tryd.t3 := by kernel_rfl
@[simp] theorem ty3 : TyOne Tryd.prog 3 8 (some .i64) none false := tyOne_int in3 Tryd.underlying3 rfl rfl
@[simp] theorem tz3 : TyZ Tryd.prog 3 [.int .i64 0] := tyZ in3 rfl rfl rfl rfl
theorem in4 : Tryd.prog.info? 4 = some Tryd.t4 := by kernel_rfl
@[simp] theorem ty4 : TyOne Tryd.prog 4 1 none none false := tyOne_bool in4 Tryd.underlying4 rfl rfl
@[simp] theorem ub4 : Tryd.prog.underlying 4 = some .bool := Tryd.underlying4
@[simp] theorem tz4 : TyZ Tryd.prog 4 [.bool false] := tyZ in4 rfl rfl rfl rfl
theorem in5 : Tryd.prog.info? 5 = some Tryd.t5 := by kernel_rfl
@[simp] theorem ty5 : TyOne Tryd.prog 5 1 (some .u8) none false := tyOne_int in5 Tryd.underlying5 rfl rfl
@[simp] theorem tz5 : TyZ Tryd.prog 5 [.int .u8 0] := tyZ in5 rfl rfl rfl rfl
theorem in6 : Tryd.prog.info? 6 = some Tryd.t6 := by kernel_rfl
@[simp] theorem ty6 : TyOne Tryd.prog 6 1 (some .u8) none false := tyOne_int in6 Tryd.underlying6 rfl rfl
@[simp] theorem tz6 : TyZ Tryd.prog 6 [.int .u8 0] := tyZ in6 rfl rfl rfl rfl
theorem in8 : Tryd.prog.info? 8 = some Tryd.t8 := by kernel_rfl
@[simp] theorem ty8 : TyAgg Tryd.prog 8 4 24 := tyAgg_struct in8 Tryd.underlying8 rfl rfl
@[simp] theorem tz8 : TyZ Tryd.prog 8 [.int .i64 0, .int .i64 0, .bool false, .int .u8 0] := tyZ in8 rfl rfl rfl rfl
theorem in9 : Tryd.prog.info? 9 = some Tryd.t9 := by kernel_rfl
@[simp] theorem ty9 : TyOne Tryd.prog 9 16 none none true := tyOne_str in9 Tryd.underlying9 rfl rfl
@[simp] theorem tz9 : TyZ Tryd.prog 9 [.str []] := tyZ in9 rfl rfl rfl rfl
theorem in10 : Tryd.prog.info? 10 = some Tryd.t10 := by kernel_rfl
@[simp] theorem ty10 : TyOne Tryd.prog 10 16 none none true := tyOne_str in10 Tryd.underlying10 rfl rfl
@[simp] theorem tz10 : TyZ Tryd.prog 10 [.str []] := tyZ in10 rfl rfl rfl rfl
theorem in11 : Tryd.prog.info? 11 = some Tryd.t11 := by kernel_rfl
@[simp] theorem ty11 : TyOne Tryd.prog 11 16 none none true := tyOne_str in11 Tryd.underlying11 rfl rfl
@[simp] theorem tz11 : TyZ Tryd.prog 11 [.str []] := tyZ in11 rfl rfl rfl rfl
theorem in12 : Tryd.prog.info? 12 = some Tryd.t12 := by kernel_rfl
@[simp] theorem ty12 : TyOne Tryd.prog 12 8 (some .u64) none false := tyOne_int in12 Tryd.underlying12 rfl rfl
@[simp] theorem tz12 : TyZ Tryd.prog 12 [.int .u64 0] := tyZ in12 rfl rfl rfl rfl
theorem in14 : Tryd.prog.info? 14 = some Tryd.t14 := by kernel_rfl
@[simp] theorem ty14 : TyAgg Tryd.prog 14 2 24 := tyAgg_struct in14 Tryd.underlying14 rfl rfl
@[simp] theorem tz14 : TyZ Tryd.prog 14 [.str [], .int .u64 0] := tyZ in14 rfl rfl rfl rfl
theorem in15 : Tryd.prog.info? 15 = some Tryd.t15 := by kernel_rfl
@[simp] theorem ty15 : TyOne Tryd.prog 15 8 none none false := tyOne_pointer in15 Tryd.underlying15 rfl rfl
@[simp] theorem tz15 : TyZ Tryd.prog 15 [.raw (.pointer none)] := tyZ in15 rfl rfl rfl rfl
theorem in16 : Tryd.prog.info? 16 = some Tryd.t16 := by kernel_rfl
@[simp] theorem ty16 : TyOne Tryd.prog 16 8 none none false := tyOne_pointer in16 Tryd.underlying16 rfl rfl
@[simp] theorem tz16 : TyZ Tryd.prog 16 [.raw (.pointer none)] := tyZ in16 rfl rfl rfl rfl
theorem in17 : Tryd.prog.info? 17 = some Tryd.t17 := by kernel_rfl
@[simp] theorem ty17 : TyOne Tryd.prog 17 8 none none false := tyOne_pointer in17 Tryd.underlying17 rfl rfl
@[simp] theorem tz17 : TyZ Tryd.prog 17 [.raw (.pointer none)] := tyZ in17 rfl rfl rfl rfl
theorem in19 : Tryd.prog.info? 19 = some Tryd.t19 := by kernel_rfl
@[simp] theorem ty19 : TyAgg Tryd.prog 19 1 8 := tyAgg_struct in19 Tryd.underlying19 rfl rfl
@[simp] theorem tz19 : TyZ Tryd.prog 19 [.raw (.pointer none)] := tyZ in19 rfl rfl rfl rfl
theorem in21 : Tryd.prog.info? 21 = some Tryd.t21 := by kernel_rfl
@[simp] theorem ty21 : TyOne Tryd.prog 21 4 (some .i32) none false := tyOne_int in21 Tryd.underlying21 rfl rfl
@[simp] theorem tz21 : TyZ Tryd.prog 21 [.int .i32 0] := tyZ in21 rfl rfl rfl rfl
theorem in23 : Tryd.prog.info? 23 = some Tryd.t23 := by kernel_rfl
@[simp] theorem ty23 : TyAgg Tryd.prog 23 5 48 := tyAgg_struct in23 Tryd.underlying23 rfl rfl
@[simp] theorem tz23 : TyZ Tryd.prog 23 [.str [], .int .i64 0, .int .i64 0, .int .i64 0, .int .i64 0] := tyZ in23 rfl rfl rfl rfl
theorem in28 : Tryd.prog.info? 28 = some Tryd.t28 := by kernel_rfl
@[simp] theorem ty28 : TyOne Tryd.prog 28 24 none (some 9) false := tyOne_slice in28 Tryd.underlying28 rfl rfl
@[simp] theorem tz28 : TyZ Tryd.prog 28 [.nils] := tyZ in28 rfl rfl rfl rfl
theorem in30 : Tryd.prog.info? 30 = some Tryd.t30 := by kernel_rfl
@[simp] theorem ty30 : TyOne Tryd.prog 30 24 none (some 2) false := tyOne_slice in30 Tryd.underlying30 rfl rfl
@[simp] theorem tz30 : TyZ Tryd.prog 30 [.nils] := tyZ in30 rfl rfl rfl rfl
theorem in39 : Tryd.prog.info? 39 = some Tryd.t39 := by kernel_rfl
@[simp] theorem ty39 : TyOne Tryd.prog 39 8 none none false := tyOne_pointer in39 Tryd.underlying39 rfl rfl
@[simp] theorem tz39 : TyZ Tryd.prog 39 [.raw (.pointer none)] := tyZ in39 rfl rfl rfl rfl
theorem in43 : Tryd.prog.info? 43 = some Tryd.t43 := by kernel_rfl
@[simp] theorem ty43 : TyOne Tryd.prog 43 8 none none false := tyOne_func in43 Tryd.underlying43 rfl rfl
@[simp] theorem tz43 : TyZ Tryd.prog 43 [.raw .nilFunc] := tyZ in43 rfl rfl rfl rfl
theorem in49 : Tryd.prog.info? 49 = some Tryd.t49 := by kernel_rfl
theorem in54 : Tryd.prog.info? 54 = some Tryd.t54 := by kernel_rfl
@[simp] theorem ty54 : TyOne Tryd.prog 54 24 none (some 5) false := tyOne_slice in54 Tryd.underlying54 rfl rfl
@[simp] theorem tz54 : TyZ Tryd.prog 54 [.nils] := tyZ in54 rfl rfl rfl rfl
theorem in63 : Tryd.prog.info? 63 = some Tryd.t63 := by kernel_rfl
@[simp] theorem ty63 : TyOne Tryd.prog 63 8 none none false := tyOne_pointer in63 Tryd.underlying63 rfl rfl
@[simp] theorem tz63 : TyZ Tryd.prog 63 [.raw (.pointer none)] := tyZ in63 rfl rfl rfl rfl
theorem in65 : Tryd.prog.info? 65 = some Tryd.t65 := by kernel_rfl
@[simp] theorem ty65 : TyAgg Tryd.prog 65 2 32 := tyAgg_struct in65 Tryd.underlying65 rfl rfl
@[simp] theorem tz65 : TyZ Tryd.prog 65 [.raw (.pointer none), .nils] := tyZ in65 rfl rfl rfl rfl
theorem in71 : Tryd.prog.info? 71 = some Tryd.t71 := by kernel_rfl
@[simp] theorem ty71 : TyOne Tryd.prog 71 8 (some .u64) none false := tyOne_int in71 Tryd.underlying71 rfl rfl
@[simp] theorem tz71 : TyZ Tryd.prog 71 [.int .u64 0] := tyZ in71 rfl rfl rfl rfl
theorem in73 : Tryd.prog.info? 73 = some Tryd.t73 := by kernel_rfl
@[simp] theorem ty73 : TyOne Tryd.prog 73 8 (some .i64) none false := tyOne_int in73 Tryd.underlying73 rfl rfl
@[simp] theorem tz73 : TyZ Tryd.prog 73 [.int .i64 0] := tyZ in73 rfl rfl rfl rfl
theorem in74 : Tryd.prog.info? 74 = some Tryd.t74 := by kernel_rfl
@[simp] theorem ty74 : TyOne Tryd.prog 74 8 (some .u64) none false := tyOne_int in74 Tryd.underlying74 rfl rfl
@[simp] theorem tz74 : TyZ Tryd.prog 74 [.int .u64 0] := tyZ in74 rfl rfl rfl rfl
theorem in77 : Tryd.prog.info? 77 = some Tryd.t77 := by kernel_rfl
@[simp] theorem ty77 : TyOne Tryd.prog 77 8 none none false := tyOne_pointer in77 Tryd.underlying77 rfl rfl
@[simp] theorem tz77 : TyZ Tryd.prog 77 [.raw (.pointer none)] := tyZ in77 rfl rfl rfl rfl
theorem in80 : Tryd.prog.info? 80 = some Tryd.t80 := by kernel_rfl
@[simp] theorem ty80 : TyOne Tryd.prog 80 8 none none false := tyOne_pointer in80 Tryd.underlying80 rfl rfl
@[simp] theorem tz80 : TyZ Tryd.prog 80 [.raw (.pointer none)] := tyZ in80 rfl rfl rfl rfl
theorem in81 : Tryd.prog.info? 81 = some Tryd.t81 := by kernel_rfl
@[simp] theorem ty81 : TyAgg Tryd.prog 81 256 256 := tyAgg_array in81 Tryd.underlying81 rfl rfl
@[simp] theorem ar81 : arrT Tryd.prog 81 = some (256, 5) := arrOf Tryd.underlying81
theorem in83 : Tryd.prog.info? 83 = some Tryd.t83 := by kernel_rfl
@[simp] theorem ty83 : TyAgg Tryd.prog 83 2 2 := tyAgg_struct in83 Tryd.underlying83 rfl rfl
@[simp] theorem tz83 : TyZ Tryd.prog 83 [.int .u8 0, .int .u8 0] := tyZ in83 rfl rfl rfl rfl
theorem in84 : Tryd.prog.info? 84 = some Tryd.t84 := by kernel_rfl
@[simp] theorem ty84 : TyAgg Tryd.prog 84 32 32 := tyAgg_array in84 Tryd.underlying84 rfl rfl
@[simp] theorem ar84 : arrT Tryd.prog 84 = some (16, 83) := arrOf Tryd.underlying84
@[simp] theorem tz84 : TyZ Tryd.prog 84 [.int .u8 0, .int .u8 0, .int .u8 0, .int .u8 0, .int .u8 0, .int .u8 0, .int .u8 0, .int .u8 0, .int .u8 0, .int .u8 0, .int .u8 0, .int .u8 0, .int .u8 0, .int .u8 0, .int .u8 0, .int .u8 0, .int .u8 0, .int .u8 0, .int .u8 0, .int .u8 0, .int .u8 0, .int .u8 0, .int .u8 0, .int .u8 0, .int .u8 0, .int .u8 0, .int .u8 0, .int .u8 0, .int .u8 0, .int .u8 0, .int .u8 0, .int .u8 0] := tyZ in84 rfl rfl rfl rfl
theorem in85 : Tryd.prog.info? 85 = some Tryd.t85 := by kernel_rfl
@[simp] theorem ty85 : TyOne Tryd.prog 85 4 (some .u32) none false := tyOne_int in85 Tryd.underlying85 rfl rfl
@[simp] theorem tz85 : TyZ Tryd.prog 85 [.int .u32 0] := tyZ in85 rfl rfl rfl rfl
theorem in91 : Tryd.prog.info? 91 = some Tryd.t91 := by kernel_rfl
@[simp] theorem ty91 : TyAgg Tryd.prog 91 3 48 := tyAgg_struct in91 Tryd.underlying91 rfl rfl
@[simp] theorem tz91 : TyZ Tryd.prog 91 [.str [], .str [], .raw .nilIface] := tyZ in91 rfl rfl rfl rfl
theorem in94 : Tryd.prog.info? 94 = some Tryd.t94 := by kernel_rfl
@[simp] theorem ty94 : TyAgg Tryd.prog 94 24 24 := tyAgg_array in94 Tryd.underlying94 rfl rfl
@[simp] theorem ar94 : arrT Tryd.prog 94 = some (24, 5) := arrOf Tryd.underlying94
@[simp] theorem tz94 : TyZ Tryd.prog 94 [.int .u8 0, .int .u8 0, .int .u8 0, .int .u8 0, .int .u8 0, .int .u8 0, .int .u8 0, .int .u8 0, .int .u8 0, .int .u8 0, .int .u8 0, .int .u8 0, .int .u8 0, .int .u8 0, .int .u8 0, .int .u8 0, .int .u8 0, .int .u8 0, .int .u8 0, .int .u8 0, .int .u8 0, .int .u8 0, .int .u8 0, .int .u8 0] := tyZ in94 rfl rfl rfl rfl
theorem in99 : Tryd.prog.info? 99 = some Tryd.t99 := by kernel_rfl
theorem in102 : Tryd.prog.info? 102 = some Tryd.t102 := by kernel_rfl
@[simp] theorem ty102 : TyOne Tryd.prog 102 8 none none false := tyOne_pointer in102 Tryd.underlying102 rfl rfl
@[simp] theorem tz102 : TyZ Tryd.prog 102 [.raw (.pointer none)] := tyZ in102 rfl rfl rfl rfl
theorem in104 : Tryd.prog.info? 104 = some Tryd.t104 := by kernel_rfl
@[simp] theorem ty104 : TyAgg Tryd.prog 104 1 16 := tyAgg_struct in104 Tryd.underlying104 rfl rfl
@[simp] theorem tz104 : TyZ Tryd.prog 104 [.str []] := tyZ in104 rfl rfl rfl rfl
theorem in106 : Tryd.prog.info? 106 = some Tryd.t106 := by kernel_rfl
@[simp] theorem ty106 : TyAgg Tryd.prog 106 20 160 := tyAgg_array in106 Tryd.underlying106 rfl rfl
@[simp] theorem ar106 : arrT Tryd.prog 106 = some (20, 74) := arrOf Tryd.underlying106
@[simp] theorem tz106 : TyZ Tryd.prog 106 [.int .u64 0, .int .u64 0, .int .u64 0, .int .u64 0, .int .u64 0, .int .u64 0, .int .u64 0, .int .u64 0, .int .u64 0, .int .u64 0, .int .u64 0, .int .u64 0, .int .u64 0, .int .u64 0, .int .u64 0, .int .u64 0, .int .u64 0, .int .u64 0, .int .u64 0, .int .u64 0] := tyZ in106 rfl rfl rfl rfl
theorem in107 : Tryd.prog.info? 107 = some Tryd.t107 := by kernel_rfl
@[simp] theorem ty107 : TyAgg Tryd.prog 107 65 65 := tyAgg_array in107 Tryd.underlying107 rfl rfl
@[simp] theorem ar107 : arrT Tryd.prog 107 = some (65, 5) := arrOf Tryd.underlying107
theorem in111 : Tryd.prog.info? 111 = some Tryd.t111 := by kernel_rfl
@[simp] theorem ty111 : TyAgg Tryd.prog 111 32 32 := tyAgg_array in111 Tryd.underlying111 rfl rfl
@[simp] theorem ar111 : arrT Tryd.prog 111 = some (32, 5) := arrOf Tryd.underlying111
@[simp] theorem tz111 : TyZ Tryd.prog 111 [.int .u8 0, .int .u8 0, .int .u8 0, .int .u8 0, .int .u8 0, .int .u8 0, .int .u8 0, .int .u8 0, .int .u8 0, .int .u8 0, .int .u8 0, .int .u8 0, .int .u8 0, .int .u8 0, .int .u8 0, .int .u8 0, .int .u8 0, .int .u8 0, .int .u8 0, .int .u8 0, .int .u8 0, .int .u8 0, .int .u8 0, .int .u8 0, .int .u8 0, .int .u8 0, .int .u8 0, .int .u8 0, .int .u8 0, .int .u8 0, .int .u8 0, .int .u8 0] := tyZ in111 rfl rfl rfl rfl
theorem in112 : Tryd.prog.info? 112 = some Tryd.t112 := by kernel_rfl
@[simp] theorem ty112 : TyAgg Tryd.prog 112 64 64 := tyAgg_array in112 Tryd.underlying112 rfl rfl
@[simp] theorem ar112 : arrT Tryd.prog 112 = some (64, 5) := arrOf Tryd.underlying112
@[simp] theorem tz112 : TyZ Tryd.prog 112 [.int .u8 0, .int .u8 0, .int .u8 0, .int .u8 0, .int .u8 0, .int .u8 0, .int .u8 0, .int .u8 0, .int .u8 0, .int .u8 0, .int .u8 0, .int .u8 0, .int .u8 0, .int .u8 0, .int .u8 0, .int .u8 0, .int .u8 0, .int .u8 0, .int .u8 0, .int .u8 0, .int .u8 0, .int .u8 0, .int .u8 0, .int .u8 0, .int .u8 0, .int .u8 0, .int .u8 0, .int .u8 0, .int .u8 0, .int .u8 0, .int .u8 0, .int .u8 0, .int .u8 0, .int .u8 0, .int .u8 0, .int .u8 0, .int .u8 0, .int .u8 0, .int .u8 0, .int .u8 0, .int .u8 0, .int .u8 0, .int .u8 0, .int .u8 0, .int .u8 0, .int .u8 0, .int .u8 0, .int .u8 0, .int .u8 0, .int .u8 0, .int .u8 0, .int .u8 0, .int .u8 0, .int .u8 0, .int .u8 0, .int .u8 0, .int .u8 0, .int .u8 0, .int .u8 0, .int .u8 0, .int .u8 0, .int .u8 0, .int .u8 0, .int .u8 0] := tyZ in112 rfl rfl rfl rfl
theorem in120 : Tryd.prog.info? 120 = some Tryd.t120 := by kernel_rfl
@[simp] theorem ty120 : TyOne Tryd.prog 120 1 (some .u8) none false := tyOne_int in120 Tryd.underlying120 rfl rfl
@[simp] theorem tz120 : TyZ Tryd.prog 120 [.int .u8 0] := tyZ in120 rfl rfl rfl rfl
@[simp] theorem gv5 : globV 5 = .pe 20 [powT] 0 0 := rfl
@[simp] theorem ts8 : structT Tryd.prog 8 = true := structOf Tryd.underlying8 (by simp [in2, in3, in4, in6])
@[simp] theorem fl8_0 : fldT Tryd.prog 8 0 = some (0, false, 1) := fldOf Tryd.underlying8 rfl rfl ty2.1 ty2.2.1 ty2.2.2.1
@[simp] theorem fl8_1 : fldT Tryd.prog 8 1 = some (1, false, 1) := fldOf Tryd.underlying8 rfl rfl ty3.1 ty3.2.1 ty3.2.2.1
@[simp] theorem fl8_2 : fldT Tryd.prog 8 2 = some (2, false, 1) := fldOf Tryd.underlying8 rfl rfl ty4.1 ty4.2.1 ty4.2.2.1
@[simp] theorem fl8_3 : fldT Tryd.prog 8 3 = some (3, false, 1) := fldOf Tryd.underlying8 rfl rfl ty6.1 ty6.2.1 ty6.2.2.1
@[simp] theorem ts14 : structT Tryd.prog 14 = true := structOf Tryd.underlying14 (by simp [in12, in9])
@[simp] theorem fl14_0 : fldT Tryd.prog 14 0 = some (0, false, 1) := fldOf Tryd.underlying14 rfl rfl ty9.1 ty9.2.1 ty9.2.2.1
@[simp] theorem fl14_1 : fldT Tryd.prog 14 1 = some (1, false, 1) := fldOf Tryd.underlying14 rfl rfl ty12.1 ty12.2.1 ty12.2.2.1
@[simp] theorem ts19 : structT Tryd.prog 19 = true := structOf Tryd.underlying19 (by simp [in17])
@[simp] theorem fl19_0 : fldT Tryd.prog 19 0 = some (0, false, 1) := fldOf Tryd.underlying19 rfl rfl ty17.1 ty17.2.1 ty17.2.2.1
@[simp] theorem ts23 : structT Tryd.prog 23 = true := structOf Tryd.underlying23 (by simp [in2, in9])
@[simp] theorem fl23_0 : fldT Tryd.prog 23 0 = some (0, false, 1) := fldOf Tryd.underlying23 rfl rfl ty9.1 ty9.2.1 ty9.2.2.1
@[simp] theorem fl23_1 : fldT Tryd.prog 23 1 = some (1, false, 1) := fldOf Tryd.underlying23 rfl rfl ty2.1 ty2.2.1 ty2.2.2.1
@[simp] theorem fl23_2 : fldT Tryd.prog 23 2 = some (2, false, 1) := fldOf Tryd.underlying23 rfl rfl ty2.1 ty2.2.1 ty2.2.2.1
@[simp] theorem fl23_3 : fldT Tryd.prog 23 3 = some (3, false, 1) := fldOf Tryd.underlying23 rfl rfl ty2.1 ty2.2.1 ty2.2.2.1
@[simp] theorem fl23_4 : fldT Tryd.prog 23 4 = some (4, false, 1) := fldOf Tryd.underlying23 rfl rfl ty2.1 ty2.2.1 ty2.2.2.1
@[simp] theorem ts65 : structT Tryd.prog 65 = true := structOf Tryd.underlying65 (by simp [in54, in63])
@[simp] theorem fl65_0 : fldT Tryd.prog 65 0 = some (0, false, 1) := fldOf Tryd.underlying65 rfl rfl ty63.1 ty63.2.1 ty63.2.2.1
@[simp] theorem fl65_1 : fldT Tryd.prog 65 1 = some (1, false, 1) := fldOf Tryd.underlying65 rfl rfl ty54.1 ty54.2.1 ty54.2.2.1
@[simp] theorem ts83 : structT Tryd.prog 83 = true := structOf Tryd.underlying83 (by simp [in5])
@[simp] theorem fl83_0 : fldT Tryd.prog 83 0 = some (0, false, 1) := fldOf Tryd.underlying83 rfl rfl ty5.1 ty5.2.1 ty5.2.2.1
@[simp] theorem fl83_1 : fldT Tryd.prog 83 1 = some (1, false, 1) := fldOf Tryd.underlying83 rfl rfl ty5.1 ty5.2.1 ty5.2.2.1
@[simp] theorem ts91 : structT Tryd.prog 91 = true := structOf Tryd.underlying91 (by simp [in49, in9])
@[simp] theorem fl91_0 : fldT Tryd.prog 91 0 = some (0, false, 1) := fldOf Tryd.underlying91 rfl rfl ty9.1 ty9.2.1 ty9.2.2.1
@[simp] theorem fl91_1 : fldT Tryd.prog 91 1 = some (1, false, 1) := fldOf Tryd.underlying91 rfl rfl ty9.1 ty9.2.1 ty9.2.2.1
@[simp] theorem ts104 : structT Tryd.prog 104 = true := structOf Tryd.underlying104 (by simp [in9])
@[simp] theorem fl104_0 : fldT Tryd.prog 104 0 = some (0, false, 1) := fldOf Tryd.underlying104 rfl rfl ty9.1 ty9.2.1 ty9.2.2.1
@[simp] theorem res_3 : Tryd.f3.results.toList = [.tmp 2] := rfl
@[simp] theorem res_4 : Tryd.f4.results.toList = [.cell 2 23, .tmp 3] := rfl
@[simp] theorem res_5 : Tryd.f5.results.toList = [.cell 2 23, .tmp 3] := rfl
@[simp] theorem res_6 : Tryd.f6.results.toList = [.tmp 4] := rfl
@[simp] theorem res_7 : Tryd.f7.results.toList = [.cell 2 23, .tmp 3] := rfl
@[simp] theorem res_8 : Tryd.f8.results.toList = [.tmp 4] := rfl
@[simp] theorem res_9 : Tryd.f9.results.toList = [.tmp 2, .tmp 3] := rfl
@[simp] theorem res_10 : Tryd.f10.results.toList = [.tmp 2, .tmp 3] := rfl
@[simp] theorem res_11 : Tryd.f11.results.toList = [.tmp 2] := rfl
@[simp] theorem res_12 : Tryd.f12.results.toList = [.tmp 2] := rfl
@[simp] theorem res_13 : Tryd.f13.results.toList = [.tmp 4] := rfl
@[simp] theorem res_14 : Tryd.f14.results.toList = [.tmp 2, .tmp 3] := rfl
@[simp] theorem res_15 : Tryd.f15.results.toList = [.tmp 2, .tmp 3] := rfl
@[simp] theorem res_16 : Tryd.f16.results.toList = [.tmp 2] := rfl
@[simp] theorem res_17 : Tryd.f17.results.toList = [.tmp 8] := rfl
@[simp] theorem res_18 : Tryd.f18.results.toList = [.tmp 2, .tmp 3] := rfl
@[simp] theorem res_19 : Tryd.f19.results.toList = [.tmp 2] := rfl
@[simp] theorem res_20 : Tryd.f20.results.toList = [.tmp 2] := rfl
@[simp] theorem res_21 : Tryd.f21.results.toList = [.tmp 2] := rfl
@[simp] theorem res_22 : Tryd.f22.results.toList = [.tmp 2] := rfl
@[simp] theorem res_23 : Tryd.f23.results.toList = [.tmp 2] := rfl
@[simp] theorem res_24 : Tryd.f24.results.toList = [.tmp 6] := rfl
@[simp] theorem res_25 : Tryd.f25.results.toList = [.tmp 2] := rfl
@[simp] theorem res_26 : Tryd.f26.results.toList = [.tmp 2, .tmp 3] := rfl
@[simp] theorem res_27 : Tryd.f27.results.toList = [.tmp 6] := rfl
@[simp] theorem res_28 : Tryd.f28.results.toList = [.tmp 2] := rfl
@[simp] theorem res_29 : Tryd.f29.results.toList = [.tmp 2] := rfl
@[simp] theorem res_30 : Tryd.f30.results.toList = [.tmp 4] := rfl
@[simp] theorem res_31 : Tryd.f31.results.toList = [.tmp 4] := rfl
@[simp] theorem res_32 : Tryd.f32.results.toList = [.tmp 4] := rfl
@[simp] theorem res_33 : Tryd.f33.results.toList = [.tmp 4] := rfl
@[simp] theorem res_34 : Tryd.f34.results.toList = [.tmp 6, .tmp 7] := rfl
@[simp] theorem res_35 : Tryd.f35.results.toList = [.tmp 2] := rfl
@[simp] theorem res_36 : Tryd.f36.results.toList = [.tmp 4] := rfl
@[simp] theorem res_37 : Tryd.f37.results.toList = [.tmp 2] := rfl
@[simp] theorem res_38 : Tryd.f38.results.toList = [.tmp 2] := rfl
@[simp] theorem res_39 : Tryd.f39.results.toList = [.tmp 4] := rfl
@[simp] theorem res_40 : Tryd.f40.results.toList = [.tmp 2] := rfl
@[simp] theorem res_41 : Tryd.f41.results.toList = [.tmp 2] := rfl
@[simp] theorem res_42 : Tryd.f42.results.toList = [.tmp 2] := rfl
@[simp] theorem res_43 : Tryd.f43.results.toList = [.tmp 2] := rfl
@[simp] theorem res_44 : Tryd.f44.results.toList = [.tmp 2, .tmp 3] := rfl
@[simp] theorem res_46 : Tryd.f46.results.toList = [.tmp 4] := rfl
@[simp] theorem res_47 : Tryd.f47.results.toList = [.tmp 4] := rfl
@[simp] theorem res_48 : Tryd.f48.results.toList = [.tmp 6, .tmp 7] := rfl
@[simp] theorem res_49 : Tryd.f49.results.toList = [.tmp 10] := rfl
@[simp] theorem res_50 : Tryd.f50.results.toList = [.tmp 4] := rfl
@[simp] theorem res_51 : Tryd.f51.results.toList = [.tmp 4] := rfl
@[simp] theorem res_52 : Tryd.f52.results.toList = [] := rfl
@[simp] theorem res_53 : Tryd.f53.results.toList = [.tmp 4, .tmp 5] := rfl
@[simp] theorem res_54 : Tryd.f54.results.toList = [.tmp 2] := rfl
@[simp] theorem res_55 : Tryd.f55.results.toList = [.tmp 2, .tmp 3] := rfl
@[simp] theorem res_56 : Tryd.f56.results.toList = [.tmp 4] := rfl
@[simp] theorem res_58 : Tryd.f58.results.toList = [.tmp 2] := rfl
@[simp] theorem res_59 : Tryd.f59.results.toList = [.tmp 4] := rfl
@[simp] theorem res_60 : Tryd.f60.results.toList = [.tmp 4] := rfl
@[simp] theorem res_61 : Tryd.f61.results.toList = [.tmp 6, .tmp 7] := rfl
@[simp] theorem res_62 : Tryd.f62.results.toList = [.tmp 4] := rfl
@[simp] theorem res_63 : Tryd.f63.results.toList = [.tmp 4] := rfl
@[simp] theorem res_64 : Tryd.f64.results.toList = [.tmp 6] := rfl
@[simp] theorem res_65 : Tryd.f65.results.toList = [.tmp 6] := rfl
@[simp] theorem res_66 : Tryd.f66.results.toList = [.tmp 4] := rfl
@[simp] theorem res_67 : Tryd.f67.results.toList = [] := rfl
@[simp] theorem res_68 : Tryd.f68.results.toList = [] := rfl
@[simp] theorem res_70 : Tryd.f70.results.toList = [.tmp 2, .tmp 3] := rfl
@[simp] theorem res_71 : Tryd.f71.results.toList = [.tmp 2] := rfl
@[simp] theorem res_72 : Tryd.f72.results.toList = [.tmp 2] := rfl
@[simp] theorem res_73 : Tryd.f73.results.toList = [.tmp 2] := rfl
@[simp] theorem res_74 : Tryd.f74.results.toList = [.tmp 2] := rfl
@[simp] theorem res_75 : Tryd.f75.results.toList = [.tmp 2] := rfl
@[simp] theorem res_76 : Tryd.f76.results.toList = [.tmp 2] := rfl
@[simp] theorem res_77 : Tryd.f77.results.toList = [.tmp 2] := rfl
@[simp] theorem res_78 : Tryd.f78.results.toList = [] := rfl
@[simp] theorem res_79 : Tryd.f79.results.toList = [.tmp 10, .tmp 11] := rfl
@[simp] theorem res_82 : Tryd.f82.results.toList = [.tmp 2] := rfl
@[simp] theorem res_83 : Tryd.f83.results.toList = [.tmp 2] := rfl
@[simp] theorem res_84 : Tryd.f84.results.toList = [.tmp 2] := rfl
@[simp] theorem res_85 : Tryd.f85.results.toList = [.tmp 2] := rfl
@[simp] theorem res_86 : Tryd.f86.results.toList = [.tmp 2] := rfl
@[simp] theorem res_87 : Tryd.f87.results.toList = [.tmp 2] := rfl
@[simp] theorem res_88 : Tryd.f88.results.toList = [.tmp 2] := rfl
@[simp] theorem res_89 : Tryd.f89.results.toList = [.tmp 2] := rfl
theorem hm : Tryd.prog.follows .mixedOrders = true := by kernel_rfl
end Go.Proofs.YtjmoilnklaeacaaDoor
