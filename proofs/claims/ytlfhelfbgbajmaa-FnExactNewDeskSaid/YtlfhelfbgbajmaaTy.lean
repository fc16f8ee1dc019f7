/- Closed facts on the types of the program. Made by a program (gen_types.py). No condition. -/
import Derived.Test.YtlfhelfbgbajmaaAcd
import Derived.Test.YtlfhelfbgbajmaaAbz
import Derived.Test.YtlfhelfbgbajmaaProg
namespace Go.Proofs.Ytlfhelfbgbajmaa
open Go Go.Ab

theorem in2 : Try.prog.info? 2 = some Try.t2 := by kernel_rfl
@[simp] theorem ty2 : TyOne Try.prog 2 8 (some .i64) none false := tyOne_int in2 Try.underlying2 rfl rfl
@[simp] theorem tz2 : TyZ Try.prog 2 [.int .i64 0] := tyZ in2 rfl rfl rfl rfl
theorem in3 : Try.prog.info? 3 = some Try.t3 := by kernel_rfl
@[simp] theorem ty3 : TyOne Try.prog 3 8 (some .i64) none false := tyOne_int in3 Try.underlying3 rfl rfl
@[simp] theorem tz3 : TyZ Try.prog 3 [.int .i64 0] := tyZ in3 rfl rfl rfl rfl
theorem in4 : Try.prog.info? 4 = some Try.t4 := by kernel_rfl
@[simp] theorem ty4 : TyOne Try.prog 4 1 none none false := tyOne_bool in4 Try.underlying4 rfl rfl
@[simp] theorem ub4 : Try.prog.underlying 4 = some .bool := Try.underlying4
@[simp] theorem tz4 : TyZ Try.prog 4 [.bool false] := tyZ in4 rfl rfl rfl rfl
theorem in5 : Try.prog.info? 5 = some Try.t5 := by kernel_rfl
@[simp] theorem ty5 : TyOne Try.prog 5 1 (some .u8) none false := tyOne_int in5 Try.underlying5 rfl rfl
@[simp] theorem tz5 : TyZ Try.prog 5 [.int .u8 0] := tyZ in5 rfl rfl rfl rfl
theorem in6 : Try.prog.info? 6 = some Try.t6 := by kernel_rfl
@[simp] theorem ty6 : TyOne Try.prog 6 1 (some .u8) none false := tyOne_int in6 Try.underlying6 rfl rfl
@[simp] theorem tz6 : TyZ Try.prog 6 [.int .u8 0] := tyZ in6 rfl rfl rfl rfl
theorem in8 : Try.prog.info? 8 = some Try.t8 := by kernel_rfl
@[simp] theorem ty8 : TyAgg Try.prog 8 4 24 := tyAgg_struct in8 Try.underlying8 rfl rfl
@[simp] theorem tz8 : TyZ Try.prog 8 [.int .i64 0, .int .i64 0, .bool false, .int .u8 0] := tyZ in8 rfl rfl rfl rfl
theorem in9 : Try.prog.info? 9 = some Try.t9 := by kernel_rfl
@[simp] theorem ty9 : TyOne Try.prog 9 16 none none true := tyOne_str in9 Try.underlying9 rfl rfl
@[simp] theorem tz9 : TyZ Try.prog 9 [.str []] := tyZ in9 rfl rfl rfl rfl
theorem in10 : Try.prog.info? 10 = some Try.t10 := by kernel_rfl
@[simp] theorem ty10 : TyOne Try.prog 10 16 none none true := tyOne_str in10 Try.underlying10 rfl rfl
@[simp] theorem tz10 : TyZ Try.prog 10 [.str []] := tyZ in10 rfl rfl rfl rfl
theorem in11 : Try.prog.info? 11 = some Try.t11 := by kernel_rfl
@[simp] theorem ty11 : TyOne Try.prog 11 16 none none true := tyOne_str in11 Try.underlying11 rfl rfl
@[simp] theorem tz11 : TyZ Try.prog 11 [.str []] := tyZ in11 rfl rfl rfl rfl
theorem in12 : Try.prog.info? 12 = some Try.t12 := by kernel_rfl
@[simp] theorem ty12 : TyOne Try.prog 12 8 (some .u64) none false := tyOne_int in12 Try.underlying12 rfl rfl
@[simp] theorem tz12 : TyZ Try.prog 12 [.int .u64 0] := tyZ in12 rfl rfl rfl rfl
theorem in14 : Try.prog.info? 14 = some Try.t14 := by kernel_rfl
@[simp] theorem ty14 : TyAgg Try.prog 14 2 24 := tyAgg_struct in14 Try.underlying14 rfl rfl
@[simp] theorem tz14 : TyZ Try.prog 14 [.str [], .int .u64 0] := tyZ in14 rfl rfl rfl rfl
theorem in15 : Try.prog.info? 15 = some Try.t15 := by kernel_rfl
@[simp] theorem ty15 : TyOne Try.prog 15 8 none none false := tyOne_pointer in15 Try.underlying15 rfl rfl
@[simp] theorem tz15 : TyZ Try.prog 15 [.raw (.pointer none)] := tyZ in15 rfl rfl rfl rfl
theorem in16 : Try.prog.info? 16 = some Try.t16 := by kernel_rfl
@[simp] theorem ty16 : TyOne Try.prog 16 8 none none false := tyOne_pointer in16 Try.underlying16 rfl rfl
@[simp] theorem tz16 : TyZ Try.prog 16 [.raw (.pointer none)] := tyZ in16 rfl rfl rfl rfl
theorem in17 : Try.prog.info? 17 = some Try.t17 := by kernel_rfl
@[simp] theorem ty17 : TyOne Try.prog 17 8 none none false := tyOne_pointer in17 Try.underlying17 rfl rfl
@[simp] theorem tz17 : TyZ Try.prog 17 [.raw (.pointer none)] := tyZ in17 rfl rfl rfl rfl
theorem in19 : Try.prog.info? 19 = some Try.t19 := by kernel_rfl
@[simp] theorem ty19 : TyAgg Try.prog 19 1 8 := tyAgg_struct in19 Try.underlying19 rfl rfl
@[simp] theorem tz19 : TyZ Try.prog 19 [.raw (.pointer none)] := tyZ in19 rfl rfl rfl rfl
theorem in22 : Try.prog.info? 22 = some Try.t22 := by kernel_rfl
@[simp] theorem ty22 : TyOne Try.prog 22 24 none (some 81) false := tyOne_slice in22 Try.underlying22 rfl rfl
@[simp] theorem tz22 : TyZ Try.prog 22 [.nils] := tyZ in22 rfl rfl rfl rfl
theorem in23 : Try.prog.info? 23 = some Try.t23 := by kernel_rfl
@[simp] theorem ty23 : TyOne Try.prog 23 24 none (some 85) false := tyOne_slice in23 Try.underlying23 rfl rfl
@[simp] theorem tz23 : TyZ Try.prog 23 [.nils] := tyZ in23 rfl rfl rfl rfl
theorem in24 : Try.prog.info? 24 = some Try.t24 := by kernel_rfl
@[simp] theorem ty24 : TyOne Try.prog 24 24 none (some 89) false := tyOne_slice in24 Try.underlying24 rfl rfl
@[simp] theorem tz24 : TyZ Try.prog 24 [.nils] := tyZ in24 rfl rfl rfl rfl
theorem in25 : Try.prog.info? 25 = some Try.t25 := by kernel_rfl
@[simp] theorem ty25 : TyOne Try.prog 25 24 none (some 92) false := tyOne_slice in25 Try.underlying25 rfl rfl
@[simp] theorem tz25 : TyZ Try.prog 25 [.nils] := tyZ in25 rfl rfl rfl rfl
theorem in27 : Try.prog.info? 27 = some Try.t27 := by kernel_rfl
@[simp] theorem ty27 : TyAgg Try.prog 27 3 24 := tyAgg_struct in27 Try.underlying27 rfl rfl
@[simp] theorem tz27 : TyZ Try.prog 27 [.int .i64 0, .int .i64 0, .int .i64 0] := tyZ in27 rfl rfl rfl rfl
theorem in28 : Try.prog.info? 28 = some Try.t28 := by kernel_rfl
@[simp] theorem ty28 : TyOne Try.prog 28 24 none (some 95) false := tyOne_slice in28 Try.underlying28 rfl rfl
@[simp] theorem tz28 : TyZ Try.prog 28 [.nils] := tyZ in28 rfl rfl rfl rfl
theorem in30 : Try.prog.info? 30 = some Try.t30 := by kernel_rfl
@[simp] theorem ty30 : TyAgg Try.prog 30 5 48 := tyAgg_struct in30 Try.underlying30 rfl rfl
@[simp] theorem tz30 : TyZ Try.prog 30 [.str [], .int .i64 0, .int .i64 0, .int .i64 0, .int .i64 0] := tyZ in30 rfl rfl rfl rfl
theorem in31 : Try.prog.info? 31 = some Try.t31 := by kernel_rfl
@[simp] theorem ty31 : TyOne Try.prog 31 24 none (some 99) false := tyOne_slice in31 Try.underlying31 rfl rfl
@[simp] theorem tz31 : TyZ Try.prog 31 [.nils] := tyZ in31 rfl rfl rfl rfl
theorem in32 : Try.prog.info? 32 = some Try.t32 := by kernel_rfl
@[simp] theorem ty32 : TyOne Try.prog 32 24 none (some 103) false := tyOne_slice in32 Try.underlying32 rfl rfl
@[simp] theorem tz32 : TyZ Try.prog 32 [.nils] := tyZ in32 rfl rfl rfl rfl
theorem in33 : Try.prog.info? 33 = some Try.t33 := by kernel_rfl
@[simp] theorem ty33 : TyOne Try.prog 33 24 none (some 118) false := tyOne_slice in33 Try.underlying33 rfl rfl
@[simp] theorem tz33 : TyZ Try.prog 33 [.nils] := tyZ in33 rfl rfl rfl rfl
theorem in35 : Try.prog.info? 35 = some Try.t35 := by kernel_rfl
@[simp] theorem ty35 : TyAgg Try.prog 35 2 40 := tyAgg_struct in35 Try.underlying35 rfl rfl
@[simp] theorem tz35 : TyZ Try.prog 35 [.str [], .nils] := tyZ in35 rfl rfl rfl rfl
theorem in37 : Try.prog.info? 37 = some Try.t37 := by kernel_rfl
@[simp] theorem ty37 : TyAgg Try.prog 37 20 304 := tyAgg_struct in37 Try.underlying37 rfl rfl
@[simp] theorem tz37 : TyZ Try.prog 37 [.nils, .nils, .nils, .nils, .int .i64 0, .int .i64 0, .int .i64 0, .nils, .int .i64 0, .str [], .int .i64 0, .int .i64 0, .int .i64 0, .int .i64 0, .nils, .int .i64 0, .int .i64 0, .nils, .str [], .nils] := tyZ in37 rfl rfl rfl rfl
theorem in38 : Try.prog.info? 38 = some Try.t38 := by kernel_rfl
@[simp] theorem ty38 : TyOne Try.prog 38 24 none (some 64) false := tyOne_slice in38 Try.underlying38 rfl rfl
@[simp] theorem tz38 : TyZ Try.prog 38 [.nils] := tyZ in38 rfl rfl rfl rfl
theorem in39 : Try.prog.info? 39 = some Try.t39 := by kernel_rfl
@[simp] theorem ty39 : TyOne Try.prog 39 24 none (some 67) false := tyOne_slice in39 Try.underlying39 rfl rfl
@[simp] theorem tz39 : TyZ Try.prog 39 [.nils] := tyZ in39 rfl rfl rfl rfl
theorem in41 : Try.prog.info? 41 = some Try.t41 := by kernel_rfl
@[simp] theorem ty41 : TyAgg Try.prog 41 22 352 := tyAgg_struct in41 Try.underlying41 rfl rfl
@[simp] theorem tz41 : TyZ Try.prog 41 [.nils, .nils, .nils, .nils, .int .i64 0, .int .i64 0, .int .i64 0, .nils, .int .i64 0, .str [], .int .i64 0, .int .i64 0, .int .i64 0, .int .i64 0, .nils, .int .i64 0, .int .i64 0, .nils, .str [], .nils, .nils, .nils] := tyZ in41 rfl rfl rfl rfl
theorem in64 : Try.prog.info? 64 = some Try.t64 := by kernel_rfl
@[simp] theorem ty64 : TyAgg Try.prog 64 5 48 := tyAgg_struct in64 Try.underlying64 rfl rfl
@[simp] theorem tz64 : TyZ Try.prog 64 [.str [], .int .i64 0, .int .i64 0, .int .i64 0, .int .i64 0] := tyZ in64 rfl rfl rfl rfl
theorem in67 : Try.prog.info? 67 = some Try.t67 := by kernel_rfl
@[simp] theorem ty67 : TyAgg Try.prog 67 3 40 := tyAgg_struct in67 Try.underlying67 rfl rfl
@[simp] theorem tz67 : TyZ Try.prog 67 [.int .i64 0, .str [], .str []] := tyZ in67 rfl rfl rfl rfl
theorem in79 : Try.prog.info? 79 = some Try.t79 := by kernel_rfl
@[simp] theorem ty79 : TyAgg Try.prog 79 3 24 := tyAgg_struct in79 Try.underlying79 rfl rfl
@[simp] theorem tz79 : TyZ Try.prog 79 [.int .i64 0, .int .i64 0, .int .i64 0] := tyZ in79 rfl rfl rfl rfl
theorem in81 : Try.prog.info? 81 = some Try.t81 := by kernel_rfl
@[simp] theorem ty81 : TyAgg Try.prog 81 5 48 := tyAgg_struct in81 Try.underlying81 rfl rfl
@[simp] theorem tz81 : TyZ Try.prog 81 [.str [], .int .i64 0, .int .i64 0, .int .i64 0, .int .i64 0] := tyZ in81 rfl rfl rfl rfl
theorem in83 : Try.prog.info? 83 = some Try.t83 := by kernel_rfl
@[simp] theorem ty83 : TyOne Try.prog 83 24 none (some 9) false := tyOne_slice in83 Try.underlying83 rfl rfl
@[simp] theorem tz83 : TyZ Try.prog 83 [.nils] := tyZ in83 rfl rfl rfl rfl
theorem in85 : Try.prog.info? 85 = some Try.t85 := by kernel_rfl
@[simp] theorem ty85 : TyAgg Try.prog 85 3 48 := tyAgg_struct in85 Try.underlying85 rfl rfl
@[simp] theorem tz85 : TyZ Try.prog 85 [.str [], .nils, .int .i64 0] := tyZ in85 rfl rfl rfl rfl
theorem in87 : Try.prog.info? 87 = some Try.t87 := by kernel_rfl
@[simp] theorem ty87 : TyOne Try.prog 87 24 none (some 120) false := tyOne_slice in87 Try.underlying87 rfl rfl
@[simp] theorem tz87 : TyZ Try.prog 87 [.nils] := tyZ in87 rfl rfl rfl rfl
theorem in89 : Try.prog.info? 89 = some Try.t89 := by kernel_rfl
@[simp] theorem ty89 : TyAgg Try.prog 89 5 64 := tyAgg_struct in89 Try.underlying89 rfl rfl
@[simp] theorem tz89 : TyZ Try.prog 89 [.str [], .int .i64 0, .int .i64 0, .int .i64 0, .nils] := tyZ in89 rfl rfl rfl rfl
theorem in92 : Try.prog.info? 92 = some Try.t92 := by kernel_rfl
@[simp] theorem ty92 : TyAgg Try.prog 92 5 48 := tyAgg_struct in92 Try.underlying92 rfl rfl
@[simp] theorem tz92 : TyZ Try.prog 92 [.str [], .int .i64 0, .int .i64 0, .int .i64 0, .int .i64 0] := tyZ in92 rfl rfl rfl rfl
theorem in95 : Try.prog.info? 95 = some Try.t95 := by kernel_rfl
@[simp] theorem ty95 : TyAgg Try.prog 95 5 48 := tyAgg_struct in95 Try.underlying95 rfl rfl
@[simp] theorem tz95 : TyZ Try.prog 95 [.str [], .int .i64 0, .int .i64 0, .int .i64 0, .int .i64 0] := tyZ in95 rfl rfl rfl rfl
theorem in97 : Try.prog.info? 97 = some Try.t97 := by kernel_rfl
@[simp] theorem ty97 : TyOne Try.prog 97 24 none (some 122) false := tyOne_slice in97 Try.underlying97 rfl rfl
@[simp] theorem tz97 : TyZ Try.prog 97 [.nils] := tyZ in97 rfl rfl rfl rfl
theorem in99 : Try.prog.info? 99 = some Try.t99 := by kernel_rfl
@[simp] theorem ty99 : TyAgg Try.prog 99 6 72 := tyAgg_struct in99 Try.underlying99 rfl rfl
@[simp] theorem tz99 : TyZ Try.prog 99 [.str [], .int .i64 0, .int .i64 0, .int .i64 0, .int .i64 0, .nils] := tyZ in99 rfl rfl rfl rfl
theorem in101 : Try.prog.info? 101 = some Try.t101 := by kernel_rfl
@[simp] theorem ty101 : TyOne Try.prog 101 24 none (some 124) false := tyOne_slice in101 Try.underlying101 rfl rfl
@[simp] theorem tz101 : TyZ Try.prog 101 [.nils] := tyZ in101 rfl rfl rfl rfl
theorem in103 : Try.prog.info? 103 = some Try.t103 := by kernel_rfl
@[simp] theorem ty103 : TyAgg Try.prog 103 4 48 := tyAgg_struct in103 Try.underlying103 rfl rfl
@[simp] theorem tz103 : TyZ Try.prog 103 [.int .i64 0, .nils, .int .i64 0, .int .i64 0] := tyZ in103 rfl rfl rfl rfl
theorem in110 : Try.prog.info? 110 = some Try.t110 := by kernel_rfl
@[simp] theorem ty110 : TyOne Try.prog 110 24 none (some 5) false := tyOne_slice in110 Try.underlying110 rfl rfl
@[simp] theorem tz110 : TyZ Try.prog 110 [.nils] := tyZ in110 rfl rfl rfl rfl
theorem in118 : Try.prog.info? 118 = some Try.t118 := by kernel_rfl
@[simp] theorem ty118 : TyAgg Try.prog 118 3 24 := tyAgg_struct in118 Try.underlying118 rfl rfl
@[simp] theorem tz118 : TyZ Try.prog 118 [.int .i64 0, .int .i64 0, .int .i64 0] := tyZ in118 rfl rfl rfl rfl
theorem in120 : Try.prog.info? 120 = some Try.t120 := by kernel_rfl
@[simp] theorem ty120 : TyAgg Try.prog 120 2 24 := tyAgg_struct in120 Try.underlying120 rfl rfl
@[simp] theorem tz120 : TyZ Try.prog 120 [.str [], .int .i64 0] := tyZ in120 rfl rfl rfl rfl
theorem in122 : Try.prog.info? 122 = some Try.t122 := by kernel_rfl
@[simp] theorem ty122 : TyAgg Try.prog 122 2 16 := tyAgg_struct in122 Try.underlying122 rfl rfl
@[simp] theorem tz122 : TyZ Try.prog 122 [.int .i64 0, .int .i64 0] := tyZ in122 rfl rfl rfl rfl
theorem in124 : Try.prog.info? 124 = some Try.t124 := by kernel_rfl
@[simp] theorem ty124 : TyAgg Try.prog 124 2 16 := tyAgg_struct in124 Try.underlying124 rfl rfl
@[simp] theorem tz124 : TyZ Try.prog 124 [.int .i64 0, .int .i64 0] := tyZ in124 rfl rfl rfl rfl
theorem in137 : Try.prog.info? 137 = some Try.t137 := by kernel_rfl
@[simp] theorem ty137 : TyOne Try.prog 137 1 (some .u8) none false := tyOne_int in137 Try.underlying137 rfl rfl
@[simp] theorem tz137 : TyZ Try.prog 137 [.int .u8 0] := tyZ in137 rfl rfl rfl rfl
@[simp] theorem ts8 : structT Try.prog 8 = true := structOf Try.underlying8 (by simp [in2, in3, in4, in6])
@[simp] theorem fl8_0 : fldT Try.prog 8 0 = some (0, false, 1) := fldOf Try.underlying8 rfl rfl ty2.1 ty2.2.1 ty2.2.2.1
@[simp] theorem fl8_1 : fldT Try.prog 8 1 = some (1, false, 1) := fldOf Try.underlying8 rfl rfl ty3.1 ty3.2.1 ty3.2.2.1
@[simp] theorem fl8_2 : fldT Try.prog 8 2 = some (2, false, 1) := fldOf Try.underlying8 rfl rfl ty4.1 ty4.2.1 ty4.2.2.1
@[simp] theorem fl8_3 : fldT Try.prog 8 3 = some (3, false, 1) := fldOf Try.underlying8 rfl rfl ty6.1 ty6.2.1 ty6.2.2.1
@[simp] theorem ts14 : structT Try.prog 14 = true := structOf Try.underlying14 (by simp [in12, in9])
@[simp] theorem fl14_0 : fldT Try.prog 14 0 = some (0, false, 1) := fldOf Try.underlying14 rfl rfl ty9.1 ty9.2.1 ty9.2.2.1
@[simp] theorem fl14_1 : fldT Try.prog 14 1 = some (1, false, 1) := fldOf Try.underlying14 rfl rfl ty12.1 ty12.2.1 ty12.2.2.1
@[simp] theorem ts19 : structT Try.prog 19 = true := structOf Try.underlying19 (by simp [in17])
@[simp] theorem fl19_0 : fldT Try.prog 19 0 = some (0, false, 1) := fldOf Try.underlying19 rfl rfl ty17.1 ty17.2.1 ty17.2.2.1
@[simp] theorem ts27 : structT Try.prog 27 = true := structOf Try.underlying27 (by simp [in2])
@[simp] theorem fl27_0 : fldT Try.prog 27 0 = some (0, false, 1) := fldOf Try.underlying27 rfl rfl ty2.1 ty2.2.1 ty2.2.2.1
@[simp] theorem fl27_1 : fldT Try.prog 27 1 = some (1, false, 1) := fldOf Try.underlying27 rfl rfl ty2.1 ty2.2.1 ty2.2.2.1
@[simp] theorem fl27_2 : fldT Try.prog 27 2 = some (2, false, 1) := fldOf Try.underlying27 rfl rfl ty2.1 ty2.2.1 ty2.2.2.1
@[simp] theorem ts30 : structT Try.prog 30 = true := structOf Try.underlying30 (by simp [in2, in9])
@[simp] theorem fl30_0 : fldT Try.prog 30 0 = some (0, false, 1) := fldOf Try.underlying30 rfl rfl ty9.1 ty9.2.1 ty9.2.2.1
@[simp] theorem fl30_1 : fldT Try.prog 30 1 = some (1, false, 1) := fldOf Try.underlying30 rfl rfl ty2.1 ty2.2.1 ty2.2.2.1
@[simp] theorem fl30_2 : fldT Try.prog 30 2 = some (2, false, 1) := fldOf Try.underlying30 rfl rfl ty2.1 ty2.2.1 ty2.2.2.1
@[simp] theorem fl30_3 : fldT Try.prog 30 3 = some (3, false, 1) := fldOf Try.underlying30 rfl rfl ty2.1 ty2.2.1 ty2.2.2.1
@[simp] theorem fl30_4 : fldT Try.prog 30 4 = some (4, false, 1) := fldOf Try.underlying30 rfl rfl ty2.1 ty2.2.1 ty2.2.2.1
@[simp] theorem ts35 : structT Try.prog 35 = true := structOf Try.underlying35 (by simp [in33, in9])
@[simp] theorem fl35_0 : fldT Try.prog 35 0 = some (0, false, 1) := fldOf Try.underlying35 rfl rfl ty9.1 ty9.2.1 ty9.2.2.1
@[simp] theorem fl35_1 : fldT Try.prog 35 1 = some (1, false, 1) := fldOf Try.underlying35 rfl rfl ty33.1 ty33.2.1 ty33.2.2.1
@[simp] theorem ts37 : structT Try.prog 37 = true := structOf Try.underlying37 (by simp [in2, in22, in23, in24, in25, in27, in28, in30, in31, in32, in35])
@[simp] theorem fl37_0 : fldT Try.prog 37 0 = some (0, false, 1) := fldOf Try.underlying37 rfl rfl ty22.1 ty22.2.1 ty22.2.2.1
@[simp] theorem fl37_1 : fldT Try.prog 37 1 = some (1, false, 1) := fldOf Try.underlying37 rfl rfl ty23.1 ty23.2.1 ty23.2.2.1
@[simp] theorem fl37_2 : fldT Try.prog 37 2 = some (2, false, 1) := fldOf Try.underlying37 rfl rfl ty24.1 ty24.2.1 ty24.2.2.1
@[simp] theorem fl37_3 : fldT Try.prog 37 3 = some (3, false, 1) := fldOf Try.underlying37 rfl rfl ty25.1 ty25.2.1 ty25.2.2.1
@[simp] theorem fl37_4 : fldT Try.prog 37 4 = some (4, true, 3) := fldOf Try.underlying37 rfl rfl ty27.1 ty27.2.1 ty27.2.2.1
@[simp] theorem fl37_5 : fldT Try.prog 37 5 = some (7, false, 1) := fldOf Try.underlying37 rfl rfl ty28.1 ty28.2.1 ty28.2.2.1
@[simp] theorem fl37_6 : fldT Try.prog 37 6 = some (8, false, 1) := fldOf Try.underlying37 rfl rfl ty2.1 ty2.2.1 ty2.2.2.1
@[simp] theorem fl37_7 : fldT Try.prog 37 7 = some (9, true, 5) := fldOf Try.underlying37 rfl rfl ty30.1 ty30.2.1 ty30.2.2.1
@[simp] theorem fl37_8 : fldT Try.prog 37 8 = some (14, false, 1) := fldOf Try.underlying37 rfl rfl ty31.1 ty31.2.1 ty31.2.2.1
@[simp] theorem fl37_9 : fldT Try.prog 37 9 = some (15, false, 1) := fldOf Try.underlying37 rfl rfl ty2.1 ty2.2.1 ty2.2.2.1
@[simp] theorem fl37_10 : fldT Try.prog 37 10 = some (16, false, 1) := fldOf Try.underlying37 rfl rfl ty2.1 ty2.2.1 ty2.2.2.1
@[simp] theorem fl37_11 : fldT Try.prog 37 11 = some (17, false, 1) := fldOf Try.underlying37 rfl rfl ty32.1 ty32.2.1 ty32.2.2.1
@[simp] theorem fl37_12 : fldT Try.prog 37 12 = some (18, true, 2) := fldOf Try.underlying37 rfl rfl ty35.1 ty35.2.1 ty35.2.2.1
@[simp] theorem ts41 : structT Try.prog 41 = true := structOf Try.underlying41 (by simp [in37, in38, in39])
@[simp] theorem fl41_0 : fldT Try.prog 41 0 = some (0, true, 20) := fldOf Try.underlying41 rfl rfl ty37.1 ty37.2.1 ty37.2.2.1
@[simp] theorem fl41_1 : fldT Try.prog 41 1 = some (20, false, 1) := fldOf Try.underlying41 rfl rfl ty38.1 ty38.2.1 ty38.2.2.1
@[simp] theorem fl41_2 : fldT Try.prog 41 2 = some (21, false, 1) := fldOf Try.underlying41 rfl rfl ty39.1 ty39.2.1 ty39.2.2.1
@[simp] theorem ts64 : structT Try.prog 64 = true := structOf Try.underlying64 (by simp [in2, in9])
@[simp] theorem fl64_0 : fldT Try.prog 64 0 = some (0, false, 1) := fldOf Try.underlying64 rfl rfl ty9.1 ty9.2.1 ty9.2.2.1
@[simp] theorem fl64_1 : fldT Try.prog 64 1 = some (1, false, 1) := fldOf Try.underlying64 rfl rfl ty2.1 ty2.2.1 ty2.2.2.1
@[simp] theorem fl64_2 : fldT Try.prog 64 2 = some (2, false, 1) := fldOf Try.underlying64 rfl rfl ty2.1 ty2.2.1 ty2.2.2.1
@[simp] theorem fl64_3 : fldT Try.prog 64 3 = some (3, false, 1) := fldOf Try.underlying64 rfl rfl ty2.1 ty2.2.1 ty2.2.2.1
@[simp] theorem fl64_4 : fldT Try.prog 64 4 = some (4, false, 1) := fldOf Try.underlying64 rfl rfl ty2.1 ty2.2.1 ty2.2.2.1
@[simp] theorem ts67 : structT Try.prog 67 = true := structOf Try.underlying67 (by simp [in2, in9])
@[simp] theorem fl67_0 : fldT Try.prog 67 0 = some (0, false, 1) := fldOf Try.underlying67 rfl rfl ty2.1 ty2.2.1 ty2.2.2.1
@[simp] theorem fl67_1 : fldT Try.prog 67 1 = some (1, false, 1) := fldOf Try.underlying67 rfl rfl ty9.1 ty9.2.1 ty9.2.2.1
@[simp] theorem fl67_2 : fldT Try.prog 67 2 = some (2, false, 1) := fldOf Try.underlying67 rfl rfl ty9.1 ty9.2.1 ty9.2.2.1
@[simp] theorem ts79 : structT Try.prog 79 = true := structOf Try.underlying79 (by simp [in2])
@[simp] theorem fl79_0 : fldT Try.prog 79 0 = some (0, false, 1) := fldOf Try.underlying79 rfl rfl ty2.1 ty2.2.1 ty2.2.2.1
@[simp] theorem fl79_1 : fldT Try.prog 79 1 = some (1, false, 1) := fldOf Try.underlying79 rfl rfl ty2.1 ty2.2.1 ty2.2.2.1
@[simp] theorem fl79_2 : fldT Try.prog 79 2 = some (2, false, 1) := fldOf Try.underlying79 rfl rfl ty2.1 ty2.2.1 ty2.2.2.1
@[simp] theorem ts81 : structT Try.prog 81 = true := structOf Try.underlying81 (by simp [in2, in79, in9])
@[simp] theorem fl81_0 : fldT Try.prog 81 0 = some (0, false, 1) := fldOf Try.underlying81 rfl rfl ty9.1 ty9.2.1 ty9.2.2.1
@[simp] theorem fl81_1 : fldT Try.prog 81 1 = some (1, false, 1) := fldOf Try.underlying81 rfl rfl ty2.1 ty2.2.1 ty2.2.2.1
@[simp] theorem fl81_2 : fldT Try.prog 81 2 = some (2, true, 3) := fldOf Try.underlying81 rfl rfl ty79.1 ty79.2.1 ty79.2.2.1
@[simp] theorem ts85 : structT Try.prog 85 = true := structOf Try.underlying85 (by simp [in2, in83, in9])
@[simp] theorem fl85_0 : fldT Try.prog 85 0 = some (0, false, 1) := fldOf Try.underlying85 rfl rfl ty9.1 ty9.2.1 ty9.2.2.1
@[simp] theorem fl85_1 : fldT Try.prog 85 1 = some (1, false, 1) := fldOf Try.underlying85 rfl rfl ty83.1 ty83.2.1 ty83.2.2.1
@[simp] theorem fl85_2 : fldT Try.prog 85 2 = some (2, false, 1) := fldOf Try.underlying85 rfl rfl ty2.1 ty2.2.1 ty2.2.2.1
@[simp] theorem ts89 : structT Try.prog 89 = true := structOf Try.underlying89 (by simp [in2, in87, in9])
@[simp] theorem fl89_0 : fldT Try.prog 89 0 = some (0, false, 1) := fldOf Try.underlying89 rfl rfl ty9.1 ty9.2.1 ty9.2.2.1
@[simp] theorem fl89_1 : fldT Try.prog 89 1 = some (1, false, 1) := fldOf Try.underlying89 rfl rfl ty2.1 ty2.2.1 ty2.2.2.1
@[simp] theorem fl89_2 : fldT Try.prog 89 2 = some (2, false, 1) := fldOf Try.underlying89 rfl rfl ty2.1 ty2.2.1 ty2.2.2.1
@[simp] theorem fl89_3 : fldT Try.prog 89 3 = some (3, false, 1) := fldOf Try.underlying89 rfl rfl ty2.1 ty2.2.1 ty2.2.2.1
@[simp] theorem fl89_4 : fldT Try.prog 89 4 = some (4, false, 1) := fldOf Try.underlying89 rfl rfl ty87.1 ty87.2.1 ty87.2.2.1
@[simp] theorem ts92 : structT Try.prog 92 = true := structOf Try.underlying92 (by simp [in2, in9])
@[simp] theorem fl92_0 : fldT Try.prog 92 0 = some (0, false, 1) := fldOf Try.underlying92 rfl rfl ty9.1 ty9.2.1 ty9.2.2.1
@[simp] theorem fl92_1 : fldT Try.prog 92 1 = some (1, false, 1) := fldOf Try.underlying92 rfl rfl ty2.1 ty2.2.1 ty2.2.2.1
@[simp] theorem fl92_2 : fldT Try.prog 92 2 = some (2, false, 1) := fldOf Try.underlying92 rfl rfl ty2.1 ty2.2.1 ty2.2.2.1
@[simp] theorem fl92_3 : fldT Try.prog 92 3 = some (3, false, 1) := fldOf Try.underlying92 rfl rfl ty2.1 ty2.2.1 ty2.2.2.1
@[simp] theorem fl92_4 : fldT Try.prog 92 4 = some (4, false, 1) := fldOf Try.underlying92 rfl rfl ty2.1 ty2.2.1 ty2.2.2.1
@[simp] theorem ts95 : structT Try.prog 95 = true := structOf Try.underlying95 (by simp [in2, in9])
@[simp] theorem fl95_0 : fldT Try.prog 95 0 = some (0, false, 1) := fldOf Try.underlying95 rfl rfl ty9.1 ty9.2.1 ty9.2.2.1
@[simp] theorem fl95_1 : fldT Try.prog 95 1 = some (1, false, 1) := fldOf Try.underlying95 rfl rfl ty2.1 ty2.2.1 ty2.2.2.1
@[simp] theorem fl95_2 : fldT Try.prog 95 2 = some (2, false, 1) := fldOf Try.underlying95 rfl rfl ty2.1 ty2.2.1 ty2.2.2.1
@[simp] theorem fl95_3 : fldT Try.prog 95 3 = some (3, false, 1) := fldOf Try.underlying95 rfl rfl ty2.1 ty2.2.1 ty2.2.2.1
@[simp] theorem fl95_4 : fldT Try.prog 95 4 = some (4, false, 1) := fldOf Try.underlying95 rfl rfl ty2.1 ty2.2.1 ty2.2.2.1
@[simp] theorem ts99 : structT Try.prog 99 = true := structOf Try.underlying99 (by simp [in2, in9, in97])
@[simp] theorem fl99_0 : fldT Try.prog 99 0 = some (0, false, 1) := fldOf Try.underlying99 rfl rfl ty9.1 ty9.2.1 ty9.2.2.1
@[simp] theorem fl99_1 : fldT Try.prog 99 1 = some (1, false, 1) := fldOf Try.underlying99 rfl rfl ty2.1 ty2.2.1 ty2.2.2.1
@[simp] theorem fl99_2 : fldT Try.prog 99 2 = some (2, false, 1) := fldOf Try.underlying99 rfl rfl ty2.1 ty2.2.1 ty2.2.2.1
@[simp] theorem fl99_3 : fldT Try.prog 99 3 = some (3, false, 1) := fldOf Try.underlying99 rfl rfl ty2.1 ty2.2.1 ty2.2.2.1
@[simp] theorem fl99_4 : fldT Try.prog 99 4 = some (4, false, 1) := fldOf Try.underlying99 rfl rfl ty2.1 ty2.2.1 ty2.2.2.1
@[simp] theorem fl99_5 : fldT Try.prog 99 5 = some (5, false, 1) := fldOf Try.underlying99 rfl rfl ty97.1 ty97.2.1 ty97.2.2.1
@[simp] theorem ts103 : structT Try.prog 103 = true := structOf Try.underlying103 (by simp [in101, in2])
@[simp] theorem fl103_0 : fldT Try.prog 103 0 = some (0, false, 1) := fldOf Try.underlying103 rfl rfl ty2.1 ty2.2.1 ty2.2.2.1
@[simp] theorem fl103_1 : fldT Try.prog 103 1 = some (1, false, 1) := fldOf Try.underlying103 rfl rfl ty101.1 ty101.2.1 ty101.2.2.1
@[simp] theorem fl103_2 : fldT Try.prog 103 2 = some (2, false, 1) := fldOf Try.underlying103 rfl rfl ty2.1 ty2.2.1 ty2.2.2.1
@[simp] theorem fl103_3 : fldT Try.prog 103 3 = some (3, false, 1) := fldOf Try.underlying103 rfl rfl ty2.1 ty2.2.1 ty2.2.2.1
@[simp] theorem ts118 : structT Try.prog 118 = true := structOf Try.underlying118 (by simp [in2])
@[simp] theorem fl118_0 : fldT Try.prog 118 0 = some (0, false, 1) := fldOf Try.underlying118 rfl rfl ty2.1 ty2.2.1 ty2.2.2.1
@[simp] theorem fl118_1 : fldT Try.prog 118 1 = some (1, false, 1) := fldOf Try.underlying118 rfl rfl ty2.1 ty2.2.1 ty2.2.2.1
@[simp] theorem fl118_2 : fldT Try.prog 118 2 = some (2, false, 1) := fldOf Try.underlying118 rfl rfl ty2.1 ty2.2.1 ty2.2.2.1
@[simp] theorem ts120 : structT Try.prog 120 = true := structOf Try.underlying120 (by simp [in2, in9])
@[simp] theorem fl120_0 : fldT Try.prog 120 0 = some (0, false, 1) := fldOf Try.underlying120 rfl rfl ty9.1 ty9.2.1 ty9.2.2.1
@[simp] theorem fl120_1 : fldT Try.prog 120 1 = some (1, false, 1) := fldOf Try.underlying120 rfl rfl ty2.1 ty2.2.1 ty2.2.2.1
@[simp] theorem ts122 : structT Try.prog 122 = true := structOf Try.underlying122 (by simp [in2])
@[simp] theorem fl122_0 : fldT Try.prog 122 0 = some (0, false, 1) := fldOf Try.underlying122 rfl rfl ty2.1 ty2.2.1 ty2.2.2.1
@[simp] theorem fl122_1 : fldT Try.prog 122 1 = some (1, false, 1) := fldOf Try.underlying122 rfl rfl ty2.1 ty2.2.1 ty2.2.2.1
@[simp] theorem ts124 : structT Try.prog 124 = true := structOf Try.underlying124 (by simp [in2])
@[simp] theorem fl124_0 : fldT Try.prog 124 0 = some (0, false, 1) := fldOf Try.underlying124 rfl rfl ty2.1 ty2.2.1 ty2.2.2.1
@[simp] theorem fl124_1 : fldT Try.prog 124 1 = some (1, false, 1) := fldOf Try.underlying124 rfl rfl ty2.1 ty2.2.1 ty2.2.2.1
@[simp] theorem res_3 : Try.f3.results.toList = [.tmp 0] := rfl
@[simp] theorem res_4 : Try.f4.results.toList = [.cell 0 41] := rfl
@[simp] theorem res_5 : Try.f5.results.toList = [.cell 0 41] := rfl
@[simp] theorem res_6 : Try.f6.results.toList = [.tmp 4] := rfl
@[simp] theorem res_7 : Try.f7.results.toList = [.tmp 4] := rfl
@[simp] theorem res_8 : Try.f8.results.toList = [.tmp 4] := rfl
@[simp] theorem res_9 : Try.f9.results.toList = [.cell 0 41] := rfl
@[simp] theorem res_10 : Try.f10.results.toList = [.tmp 4] := rfl
@[simp] theorem res_11 : Try.f11.results.toList = [.tmp 4] := rfl
@[simp] theorem res_12 : Try.f12.results.toList = [.tmp 4] := rfl
@[simp] theorem res_13 : Try.f13.results.toList = [.tmp 4] := rfl
@[simp] theorem res_14 : Try.f14.results.toList = [.tmp 4] := rfl
@[simp] theorem res_15 : Try.f15.results.toList = [.tmp 4] := rfl
@[simp] theorem res_16 : Try.f16.results.toList = [.tmp 4] := rfl
@[simp] theorem res_17 : Try.f17.results.toList = [.tmp 4] := rfl
@[simp] theorem res_18 : Try.f18.results.toList = [.tmp 4] := rfl
@[simp] theorem res_19 : Try.f19.results.toList = [.tmp 4] := rfl
@[simp] theorem res_20 : Try.f20.results.toList = [.tmp 4] := rfl
@[simp] theorem res_21 : Try.f21.results.toList = [.tmp 4] := rfl
@[simp] theorem res_22 : Try.f22.results.toList = [.tmp 4] := rfl
@[simp] theorem res_23 : Try.f23.results.toList = [.tmp 4] := rfl
@[simp] theorem res_24 : Try.f24.results.toList = [.tmp 4] := rfl
@[simp] theorem res_25 : Try.f25.results.toList = [.tmp 4] := rfl
@[simp] theorem res_26 : Try.f26.results.toList = [.tmp 4] := rfl
@[simp] theorem res_27 : Try.f27.results.toList = [.tmp 4] := rfl
@[simp] theorem res_28 : Try.f28.results.toList = [.tmp 4] := rfl
@[simp] theorem res_29 : Try.f29.results.toList = [.tmp 4] := rfl
@[simp] theorem res_30 : Try.f30.results.toList = [.tmp 4] := rfl
@[simp] theorem res_31 : Try.f31.results.toList = [.tmp 4] := rfl
@[simp] theorem res_32 : Try.f32.results.toList = [.tmp 4] := rfl
@[simp] theorem res_33 : Try.f33.results.toList = [.tmp 4] := rfl
@[simp] theorem res_34 : Try.f34.results.toList = [.tmp 4] := rfl
@[simp] theorem res_35 : Try.f35.results.toList = [.tmp 4] := rfl
@[simp] theorem res_36 : Try.f36.results.toList = [.tmp 4] := rfl
@[simp] theorem res_37 : Try.f37.results.toList = [.tmp 4] := rfl
@[simp] theorem res_38 : Try.f38.results.toList = [.tmp 4] := rfl
@[simp] theorem res_39 : Try.f39.results.toList = [.tmp 2] := rfl
@[simp] theorem res_40 : Try.f40.results.toList = [.tmp 4] := rfl
@[simp] theorem res_41 : Try.f41.results.toList = [.tmp 4] := rfl
@[simp] theorem res_42 : Try.f42.results.toList = [.tmp 4] := rfl
@[simp] theorem res_43 : Try.f43.results.toList = [.tmp 4] := rfl
@[simp] theorem res_44 : Try.f44.results.toList = [.tmp 4] := rfl
@[simp] theorem res_45 : Try.f45.results.toList = [.tmp 4] := rfl
@[simp] theorem res_46 : Try.f46.results.toList = [.tmp 4] := rfl
@[simp] theorem res_47 : Try.f47.results.toList = [.tmp 4] := rfl
@[simp] theorem res_48 : Try.f48.results.toList = [.tmp 4] := rfl
@[simp] theorem res_49 : Try.f49.results.toList = [.tmp 4] := rfl
@[simp] theorem res_50 : Try.f50.results.toList = [.tmp 4] := rfl
@[simp] theorem res_51 : Try.f51.results.toList = [.tmp 4] := rfl
@[simp] theorem res_52 : Try.f52.results.toList = [.tmp 4] := rfl
@[simp] theorem res_53 : Try.f53.results.toList = [.tmp 4] := rfl
@[simp] theorem res_54 : Try.f54.results.toList = [.tmp 4] := rfl
@[simp] theorem res_55 : Try.f55.results.toList = [.tmp 4] := rfl
@[simp] theorem res_56 : Try.f56.results.toList = [.tmp 4] := rfl
@[simp] theorem res_57 : Try.f57.results.toList = [.tmp 4] := rfl
@[simp] theorem res_58 : Try.f58.results.toList = [.tmp 4] := rfl
@[simp] theorem res_59 : Try.f59.results.toList = [.tmp 4] := rfl
@[simp] theorem res_60 : Try.f60.results.toList = [.tmp 4] := rfl
@[simp] theorem res_61 : Try.f61.results.toList = [.tmp 4] := rfl
@[simp] theorem res_62 : Try.f62.results.toList = [.tmp 4] := rfl
@[simp] theorem res_63 : Try.f63.results.toList = [.tmp 4] := rfl
@[simp] theorem res_64 : Try.f64.results.toList = [.tmp 4] := rfl
@[simp] theorem res_65 : Try.f65.results.toList = [.tmp 4] := rfl
@[simp] theorem res_66 : Try.f66.results.toList = [.tmp 4] := rfl
@[simp] theorem res_67 : Try.f67.results.toList = [.tmp 4] := rfl
@[simp] theorem res_68 : Try.f68.results.toList = [.tmp 4] := rfl
@[simp] theorem res_69 : Try.f69.results.toList = [.tmp 4] := rfl
@[simp] theorem res_70 : Try.f70.results.toList = [.tmp 4] := rfl
@[simp] theorem res_71 : Try.f71.results.toList = [.tmp 4] := rfl
@[simp] theorem res_72 : Try.f72.results.toList = [.tmp 4] := rfl
@[simp] theorem res_73 : Try.f73.results.toList = [.tmp 4] := rfl
@[simp] theorem res_74 : Try.f74.results.toList = [.tmp 4] := rfl
theorem hm : Try.prog.follows .mixedOrders = true := by kernel_rfl
end Go.Proofs.Ytlfhelfbgbajmaa
