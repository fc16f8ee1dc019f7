/- Closed facts on the types of the program. Made by a program (gen_types.py). No condition. -/
import Derived.Test.YtcjpfjklhhclmaaGreatDoorAcd
import Derived.Test.YtcjpfjklhhclmaaGreatDoorAbz
import Derived.Test.YtcjpfjklhhclmaaGreatDoorProg
namespace Go.Proofs.YtcjpfjklhhclmaaGreatDoor
open Go Go.Ab

theorem in2 : Tryz.prog.info? 2 = some Tryz.t2 := by kernel_rfl
@[simp] theorem ty2 : TyOne Tryz.prog 2 8 (some .i64) none false := tyOne_int in2 Tryz.underlying2 rfl rfl
@[simp] theorem tz2 : TyZ Tryz.prog 2 [.int .i64 0] := tyZ in2 rfl rfl rfl rfl
theorem in3 : Tryz.prog.info? 3 = some Tryz.t3 := by kernel_rfl
@[simp] theorem ty3 : TyOne Tryz.prog 3 8 (some .i64) none false := tyOne_int in3 Tryz.underlying3 rfl rfl
@[simp] theorem tz3 : TyZ Tryz.prog 3 [.int .i64 0] := tyZ in3 rfl rfl rfl rfl
theorem in5 : Tryz.prog.info? 5 = some Tryz.t5 := by kernel_rfl
@[simp] theorem ty5 : TyOne Tryz.prog 5 1 (some .u8) none false := tyOne_int in5 Tryz.underlying5 rfl rfl
@[simp] theorem tz5 : TyZ Tryz.prog 5 [.int .u8 0] := tyZ in5 rfl rfl rfl rfl
theorem in9 : Tryz.prog.info? 9 = some Tryz.t9 := by kernel_rfl
@[simp] theorem ty9 : TyOne Tryz.prog 9 16 none none true := tyOne_str in9 Tryz.underlying9 rfl rfl
@[simp] theorem tz9 : TyZ Tryz.prog 9 [.str []] := tyZ in9 rfl rfl rfl rfl
theorem in22 : Tryz.prog.info? 22 = some Tryz.t22 := by kernel_rfl
@[simp] theorem ty22 : TyOne Tryz.prog 22 24 none (some 5) false := tyOne_slice in22 Tryz.underlying22 rfl rfl
theorem in23 : Tryz.prog.info? 23 = some Tryz.t23 := by kernel_rfl
@[simp] theorem ty23 : TyOne Tryz.prog 23 24 none (some 250) false := tyOne_slice in23 Tryz.underlying23 rfl rfl
theorem in24 : Tryz.prog.info? 24 = some Tryz.t24 := by kernel_rfl
@[simp] theorem ty24 : TyOne Tryz.prog 24 24 none (some 198) false := tyOne_slice in24 Tryz.underlying24 rfl rfl
theorem in25 : Tryz.prog.info? 25 = some Tryz.t25 := by kernel_rfl
@[simp] theorem ty25 : TyOne Tryz.prog 25 24 none (some 56) false := tyOne_slice in25 Tryz.underlying25 rfl rfl
theorem in26 : Tryz.prog.info? 26 = some Tryz.t26 := by kernel_rfl
@[simp] theorem ty26 : TyOne Tryz.prog 26 24 none (some 53) false := tyOne_slice in26 Tryz.underlying26 rfl rfl
theorem in28 : Tryz.prog.info? 28 = some Tryz.t28 := by kernel_rfl
@[simp] theorem ty28 : TyAgg Tryz.prog 28 3 24 := tyAgg_struct in28 Tryz.underlying28 rfl rfl
@[simp] theorem tz28 : TyZ Tryz.prog 28 [.int .i64 0, .int .i64 0, .int .i64 0] := tyZ in28 rfl rfl rfl rfl
theorem in29 : Tryz.prog.info? 29 = some Tryz.t29 := by kernel_rfl
@[simp] theorem ty29 : TyOne Tryz.prog 29 24 none (some 51) false := tyOne_slice in29 Tryz.underlying29 rfl rfl
theorem in31 : Tryz.prog.info? 31 = some Tryz.t31 := by kernel_rfl
@[simp] theorem ty31 : TyAgg Tryz.prog 31 5 48 := tyAgg_struct in31 Tryz.underlying31 rfl rfl
@[simp] theorem tz31 : TyZ Tryz.prog 31 [.str [], .int .i64 0, .int .i64 0, .int .i64 0, .int .i64 0] := tyZ in31 rfl rfl rfl rfl
theorem in32 : Tryz.prog.info? 32 = some Tryz.t32 := by kernel_rfl
@[simp] theorem ty32 : TyOne Tryz.prog 32 24 none (some 60) false := tyOne_slice in32 Tryz.underlying32 rfl rfl
theorem in33 : Tryz.prog.info? 33 = some Tryz.t33 := by kernel_rfl
@[simp] theorem ty33 : TyOne Tryz.prog 33 24 none (some 125) false := tyOne_slice in33 Tryz.underlying33 rfl rfl
theorem in34 : Tryz.prog.info? 34 = some Tryz.t34 := by kernel_rfl
@[simp] theorem ty34 : TyOne Tryz.prog 34 24 none (some 121) false := tyOne_slice in34 Tryz.underlying34 rfl rfl
theorem in36 : Tryz.prog.info? 36 = some Tryz.t36 := by kernel_rfl
@[simp] theorem ty36 : TyAgg Tryz.prog 36 2 40 := tyAgg_struct in36 Tryz.underlying36 rfl rfl
@[simp] theorem tz36 : TyZ Tryz.prog 36 [.str [], .nils] := tyZ in36 rfl rfl rfl rfl
theorem in38 : Tryz.prog.info? 38 = some Tryz.t38 := by kernel_rfl
@[simp] theorem ty38 : TyAgg Tryz.prog 38 20 304 := tyAgg_struct in38 Tryz.underlying38 rfl rfl
@[simp] theorem tz38 : TyZ Tryz.prog 38 [.nils, .nils, .nils, .nils, .int .i64 0, .int .i64 0, .int .i64 0, .nils, .int .i64 0, .str [], .int .i64 0, .int .i64 0, .int .i64 0, .int .i64 0, .nils, .int .i64 0, .int .i64 0, .nils, .str [], .nils] := tyZ in38 rfl rfl rfl rfl
theorem in41 : Tryz.prog.info? 41 = some Tryz.t41 := by kernel_rfl
@[simp] theorem ty41 : TyOne Tryz.prog 41 24 none (some 70) false := tyOne_slice in41 Tryz.underlying41 rfl rfl
theorem in46 : Tryz.prog.info? 46 = some Tryz.t46 := by kernel_rfl
@[simp] theorem ty46 : TyOne Tryz.prog 46 24 none (some 209) false := tyOne_slice in46 Tryz.underlying46 rfl rfl
theorem in51 : Tryz.prog.info? 51 = some Tryz.t51 := by kernel_rfl
@[simp] theorem ty51 : TyAgg Tryz.prog 51 5 48 := tyAgg_struct in51 Tryz.underlying51 rfl rfl
@[simp] theorem tz51 : TyZ Tryz.prog 51 [.str [], .int .i64 0, .int .i64 0, .int .i64 0, .int .i64 0] := tyZ in51 rfl rfl rfl rfl
theorem in53 : Tryz.prog.info? 53 = some Tryz.t53 := by kernel_rfl
@[simp] theorem ty53 : TyAgg Tryz.prog 53 5 48 := tyAgg_struct in53 Tryz.underlying53 rfl rfl
@[simp] theorem tz53 : TyZ Tryz.prog 53 [.str [], .int .i64 0, .int .i64 0, .int .i64 0, .int .i64 0] := tyZ in53 rfl rfl rfl rfl
theorem in54 : Tryz.prog.info? 54 = some Tryz.t54 := by kernel_rfl
@[simp] theorem ty54 : TyOne Tryz.prog 54 24 none (some 303) false := tyOne_slice in54 Tryz.underlying54 rfl rfl
theorem in56 : Tryz.prog.info? 56 = some Tryz.t56 := by kernel_rfl
@[simp] theorem ty56 : TyAgg Tryz.prog 56 5 64 := tyAgg_struct in56 Tryz.underlying56 rfl rfl
@[simp] theorem tz56 : TyZ Tryz.prog 56 [.str [], .int .i64 0, .int .i64 0, .int .i64 0, .nils] := tyZ in56 rfl rfl rfl rfl
theorem in58 : Tryz.prog.info? 58 = some Tryz.t58 := by kernel_rfl
@[simp] theorem ty58 : TyOne Tryz.prog 58 24 none (some 217) false := tyOne_slice in58 Tryz.underlying58 rfl rfl
theorem in60 : Tryz.prog.info? 60 = some Tryz.t60 := by kernel_rfl
@[simp] theorem ty60 : TyAgg Tryz.prog 60 6 72 := tyAgg_struct in60 Tryz.underlying60 rfl rfl
@[simp] theorem tz60 : TyZ Tryz.prog 60 [.str [], .int .i64 0, .int .i64 0, .int .i64 0, .int .i64 0, .nils] := tyZ in60 rfl rfl rfl rfl
theorem in61 : Tryz.prog.info? 61 = some Tryz.t61 := by kernel_rfl
@[simp] theorem ty61 : TyOne Tryz.prog 61 24 none (some 2) false := tyOne_slice in61 Tryz.underlying61 rfl rfl
@[simp] theorem tz61 : TyZ Tryz.prog 61 [.nils] := tyZ in61 rfl rfl rfl rfl
theorem in70 : Tryz.prog.info? 70 = some Tryz.t70 := by kernel_rfl
@[simp] theorem ty70 : TyAgg Tryz.prog 70 3 40 := tyAgg_struct in70 Tryz.underlying70 rfl rfl
@[simp] theorem tz70 : TyZ Tryz.prog 70 [.int .i64 0, .str [], .str []] := tyZ in70 rfl rfl rfl rfl
theorem in99 : Tryz.prog.info? 99 = some Tryz.t99 := by kernel_rfl
@[simp] theorem ty99 : TyOne Tryz.prog 99 8 none none false := tyOne_func in99 Tryz.underlying99 rfl rfl
@[simp] theorem tz99 : TyZ Tryz.prog 99 [.raw .nilFunc] := tyZ in99 rfl rfl rfl rfl
theorem in108 : Tryz.prog.info? 108 = some Tryz.t108 := by kernel_rfl
@[simp] theorem ty108 : TyOne Tryz.prog 108 24 none (some 61) false := tyOne_slice in108 Tryz.underlying108 rfl rfl
theorem in121 : Tryz.prog.info? 121 = some Tryz.t121 := by kernel_rfl
@[simp] theorem ty121 : TyAgg Tryz.prog 121 3 24 := tyAgg_struct in121 Tryz.underlying121 rfl rfl
@[simp] theorem tz121 : TyZ Tryz.prog 121 [.int .i64 0, .int .i64 0, .int .i64 0] := tyZ in121 rfl rfl rfl rfl
theorem in123 : Tryz.prog.info? 123 = some Tryz.t123 := by kernel_rfl
@[simp] theorem ty123 : TyOne Tryz.prog 123 24 none (some 174) false := tyOne_slice in123 Tryz.underlying123 rfl rfl
theorem in125 : Tryz.prog.info? 125 = some Tryz.t125 := by kernel_rfl
@[simp] theorem ty125 : TyAgg Tryz.prog 125 4 48 := tyAgg_struct in125 Tryz.underlying125 rfl rfl
@[simp] theorem tz125 : TyZ Tryz.prog 125 [.int .i64 0, .nils, .int .i64 0, .int .i64 0] := tyZ in125 rfl rfl rfl rfl
theorem in126 : Tryz.prog.info? 126 = some Tryz.t126 := by kernel_rfl
@[simp] theorem ty126 : TyOne Tryz.prog 126 24 none (some 9) false := tyOne_slice in126 Tryz.underlying126 rfl rfl
theorem in167 : Tryz.prog.info? 167 = some Tryz.t167 := by kernel_rfl
@[simp] theorem ty167 : TyOne Tryz.prog 167 8 (some .u64) none false := tyOne_int in167 Tryz.underlying167 rfl rfl
theorem in169 : Tryz.prog.info? 169 = some Tryz.t169 := by kernel_rfl
@[simp] theorem tz169 : TyZ Tryz.prog 169 [.nils, .int .i64 0, .int .u64 0] := tyZ in169 rfl rfl rfl rfl
theorem in174 : Tryz.prog.info? 174 = some Tryz.t174 := by kernel_rfl
@[simp] theorem ty174 : TyAgg Tryz.prog 174 2 16 := tyAgg_struct in174 Tryz.underlying174 rfl rfl
@[simp] theorem tz174 : TyZ Tryz.prog 174 [.int .i64 0, .int .i64 0] := tyZ in174 rfl rfl rfl rfl
theorem in184 : Tryz.prog.info? 184 = some Tryz.t184 := by kernel_rfl
@[simp] theorem ty184 : TyOne Tryz.prog 184 24 none (some 99) false := tyOne_slice in184 Tryz.underlying184 rfl rfl
theorem in198 : Tryz.prog.info? 198 = some Tryz.t198 := by kernel_rfl
@[simp] theorem ty198 : TyAgg Tryz.prog 198 3 48 := tyAgg_struct in198 Tryz.underlying198 rfl rfl
@[simp] theorem tz198 : TyZ Tryz.prog 198 [.str [], .nils, .int .i64 0] := tyZ in198 rfl rfl rfl rfl
theorem in209 : Tryz.prog.info? 209 = some Tryz.t209 := by kernel_rfl
@[simp] theorem ty209 : TyAgg Tryz.prog 209 3 32 := tyAgg_struct in209 Tryz.underlying209 rfl rfl
@[simp] theorem tz209 : TyZ Tryz.prog 209 [.str [], .int .i64 0, .int .i64 0] := tyZ in209 rfl rfl rfl rfl
theorem in217 : Tryz.prog.info? 217 = some Tryz.t217 := by kernel_rfl
@[simp] theorem ty217 : TyAgg Tryz.prog 217 2 16 := tyAgg_struct in217 Tryz.underlying217 rfl rfl
@[simp] theorem tz217 : TyZ Tryz.prog 217 [.int .i64 0, .int .i64 0] := tyZ in217 rfl rfl rfl rfl
theorem in248 : Tryz.prog.info? 248 = some Tryz.t248 := by kernel_rfl
@[simp] theorem ty248 : TyAgg Tryz.prog 248 3 24 := tyAgg_struct in248 Tryz.underlying248 rfl rfl
@[simp] theorem tz248 : TyZ Tryz.prog 248 [.int .i64 0, .int .i64 0, .int .i64 0] := tyZ in248 rfl rfl rfl rfl
theorem in250 : Tryz.prog.info? 250 = some Tryz.t250 := by kernel_rfl
@[simp] theorem ty250 : TyAgg Tryz.prog 250 5 48 := tyAgg_struct in250 Tryz.underlying250 rfl rfl
@[simp] theorem tz250 : TyZ Tryz.prog 250 [.str [], .int .i64 0, .int .i64 0, .int .i64 0, .int .i64 0] := tyZ in250 rfl rfl rfl rfl
theorem in303 : Tryz.prog.info? 303 = some Tryz.t303 := by kernel_rfl
@[simp] theorem ty303 : TyAgg Tryz.prog 303 2 24 := tyAgg_struct in303 Tryz.underlying303 rfl rfl
@[simp] theorem tz303 : TyZ Tryz.prog 303 [.str [], .int .i64 0] := tyZ in303 rfl rfl rfl rfl
theorem in335 : Tryz.prog.info? 335 = some Tryz.t335 := by kernel_rfl
@[simp] theorem ty335 : TyOne Tryz.prog 335 8 (some .u64) none false := tyOne_int in335 Tryz.underlying335 rfl rfl
theorem in351 : Tryz.prog.info? 351 = some Tryz.t351 := by kernel_rfl
@[simp] theorem ty351 : TyAgg Tryz.prog 351 91 728 := tyAgg_array in351 Tryz.underlying351 rfl rfl
@[simp] theorem ar351 : arrT Tryz.prog 351 = some (91, 2) := arrOf Tryz.underlying351
theorem in398 : Tryz.prog.info? 398 = some Tryz.t398 := by kernel_rfl
@[simp] theorem ty398 : TyOne Tryz.prog 398 24 none (some 3) false := tyOne_slice in398 Tryz.underlying398 rfl rfl
@[simp] theorem gv0 : globV 0 = .pe 91 [sineT] 0 0 := rfl
@[simp] theorem gv1 : globV 1 = .pe 20 [powT] 0 0 := rfl
@[simp] theorem ts28 : structT Tryz.prog 28 = true := structOf Tryz.underlying28 (by simp [in2])
@[simp] theorem fl28_0 : fldT Tryz.prog 28 0 = some (0, false, 1) := fldOf Tryz.underlying28 rfl rfl ty2.1 ty2.2.1 ty2.2.2.1
@[simp] theorem fl28_1 : fldT Tryz.prog 28 1 = some (1, false, 1) := fldOf Tryz.underlying28 rfl rfl ty2.1 ty2.2.1 ty2.2.2.1
@[simp] theorem fl28_2 : fldT Tryz.prog 28 2 = some (2, false, 1) := fldOf Tryz.underlying28 rfl rfl ty2.1 ty2.2.1 ty2.2.2.1
@[simp] theorem ts31 : structT Tryz.prog 31 = true := structOf Tryz.underlying31 (by simp [in2, in9])
@[simp] theorem fl31_0 : fldT Tryz.prog 31 0 = some (0, false, 1) := fldOf Tryz.underlying31 rfl rfl ty9.1 ty9.2.1 ty9.2.2.1
@[simp] theorem fl31_1 : fldT Tryz.prog 31 1 = some (1, false, 1) := fldOf Tryz.underlying31 rfl rfl ty2.1 ty2.2.1 ty2.2.2.1
@[simp] theorem fl31_2 : fldT Tryz.prog 31 2 = some (2, false, 1) := fldOf Tryz.underlying31 rfl rfl ty2.1 ty2.2.1 ty2.2.2.1
@[simp] theorem fl31_3 : fldT Tryz.prog 31 3 = some (3, false, 1) := fldOf Tryz.underlying31 rfl rfl ty2.1 ty2.2.1 ty2.2.2.1
@[simp] theorem fl31_4 : fldT Tryz.prog 31 4 = some (4, false, 1) := fldOf Tryz.underlying31 rfl rfl ty2.1 ty2.2.1 ty2.2.2.1
@[simp] theorem ts36 : structT Tryz.prog 36 = true := structOf Tryz.underlying36 (by simp [in34, in9])
@[simp] theorem fl36_0 : fldT Tryz.prog 36 0 = some (0, false, 1) := fldOf Tryz.underlying36 rfl rfl ty9.1 ty9.2.1 ty9.2.2.1
@[simp] theorem fl36_1 : fldT Tryz.prog 36 1 = some (1, false, 1) := fldOf Tryz.underlying36 rfl rfl ty34.1 ty34.2.1 ty34.2.2.1
@[simp] theorem ts38 : structT Tryz.prog 38 = true := structOf Tryz.underlying38 (by simp [in2, in23, in24, in25, in26, in28, in29, in31, in32, in33, in36])
@[simp] theorem fl38_0 : fldT Tryz.prog 38 0 = some (0, false, 1) := fldOf Tryz.underlying38 rfl rfl ty23.1 ty23.2.1 ty23.2.2.1
@[simp] theorem fl38_1 : fldT Tryz.prog 38 1 = some (1, false, 1) := fldOf Tryz.underlying38 rfl rfl ty24.1 ty24.2.1 ty24.2.2.1
@[simp] theorem fl38_2 : fldT Tryz.prog 38 2 = some (2, false, 1) := fldOf Tryz.underlying38 rfl rfl ty25.1 ty25.2.1 ty25.2.2.1
@[simp] theorem fl38_3 : fldT Tryz.prog 38 3 = some (3, false, 1) := fldOf Tryz.underlying38 rfl rfl ty26.1 ty26.2.1 ty26.2.2.1
@[simp] theorem fl38_4 : fldT Tryz.prog 38 4 = some (4, true, 3) := fldOf Tryz.underlying38 rfl rfl ty28.1 ty28.2.1 ty28.2.2.1
@[simp] theorem fl38_5 : fldT Tryz.prog 38 5 = some (7, false, 1) := fldOf Tryz.underlying38 rfl rfl ty29.1 ty29.2.1 ty29.2.2.1
@[simp] theorem fl38_6 : fldT Tryz.prog 38 6 = some (8, false, 1) := fldOf Tryz.underlying38 rfl rfl ty2.1 ty2.2.1 ty2.2.2.1
@[simp] theorem fl38_7 : fldT Tryz.prog 38 7 = some (9, true, 5) := fldOf Tryz.underlying38 rfl rfl ty31.1 ty31.2.1 ty31.2.2.1
@[simp] theorem fl38_8 : fldT Tryz.prog 38 8 = some (14, false, 1) := fldOf Tryz.underlying38 rfl rfl ty32.1 ty32.2.1 ty32.2.2.1
@[simp] theorem fl38_9 : fldT Tryz.prog 38 9 = some (15, false, 1) := fldOf Tryz.underlying38 rfl rfl ty2.1 ty2.2.1 ty2.2.2.1
@[simp] theorem fl38_10 : fldT Tryz.prog 38 10 = some (16, false, 1) := fldOf Tryz.underlying38 rfl rfl ty2.1 ty2.2.1 ty2.2.2.1
@[simp] theorem fl38_11 : fldT Tryz.prog 38 11 = some (17, false, 1) := fldOf Tryz.underlying38 rfl rfl ty33.1 ty33.2.1 ty33.2.2.1
@[simp] theorem fl38_12 : fldT Tryz.prog 38 12 = some (18, true, 2) := fldOf Tryz.underlying38 rfl rfl ty36.1 ty36.2.1 ty36.2.2.1
@[simp] theorem ts51 : structT Tryz.prog 51 = true := structOf Tryz.underlying51 (by simp [in2, in9])
@[simp] theorem fl51_0 : fldT Tryz.prog 51 0 = some (0, false, 1) := fldOf Tryz.underlying51 rfl rfl ty9.1 ty9.2.1 ty9.2.2.1
@[simp] theorem fl51_1 : fldT Tryz.prog 51 1 = some (1, false, 1) := fldOf Tryz.underlying51 rfl rfl ty2.1 ty2.2.1 ty2.2.2.1
@[simp] theorem fl51_2 : fldT Tryz.prog 51 2 = some (2, false, 1) := fldOf Tryz.underlying51 rfl rfl ty2.1 ty2.2.1 ty2.2.2.1
@[simp] theorem fl51_3 : fldT Tryz.prog 51 3 = some (3, false, 1) := fldOf Tryz.underlying51 rfl rfl ty2.1 ty2.2.1 ty2.2.2.1
@[simp] theorem fl51_4 : fldT Tryz.prog 51 4 = some (4, false, 1) := fldOf Tryz.underlying51 rfl rfl ty2.1 ty2.2.1 ty2.2.2.1
@[simp] theorem ts53 : structT Tryz.prog 53 = true := structOf Tryz.underlying53 (by simp [in2, in9])
@[simp] theorem fl53_0 : fldT Tryz.prog 53 0 = some (0, false, 1) := fldOf Tryz.underlying53 rfl rfl ty9.1 ty9.2.1 ty9.2.2.1
@[simp] theorem fl53_1 : fldT Tryz.prog 53 1 = some (1, false, 1) := fldOf Tryz.underlying53 rfl rfl ty2.1 ty2.2.1 ty2.2.2.1
@[simp] theorem fl53_2 : fldT Tryz.prog 53 2 = some (2, false, 1) := fldOf Tryz.underlying53 rfl rfl ty2.1 ty2.2.1 ty2.2.2.1
@[simp] theorem fl53_3 : fldT Tryz.prog 53 3 = some (3, false, 1) := fldOf Tryz.underlying53 rfl rfl ty2.1 ty2.2.1 ty2.2.2.1
@[simp] theorem fl53_4 : fldT Tryz.prog 53 4 = some (4, false, 1) := fldOf Tryz.underlying53 rfl rfl ty2.1 ty2.2.1 ty2.2.2.1
@[simp] theorem ts56 : structT Tryz.prog 56 = true := structOf Tryz.underlying56 (by simp [in2, in54, in9])
@[simp] theorem fl56_0 : fldT Tryz.prog 56 0 = some (0, false, 1) := fldOf Tryz.underlying56 rfl rfl ty9.1 ty9.2.1 ty9.2.2.1
@[simp] theorem fl56_1 : fldT Tryz.prog 56 1 = some (1, false, 1) := fldOf Tryz.underlying56 rfl rfl ty2.1 ty2.2.1 ty2.2.2.1
@[simp] theorem fl56_2 : fldT Tryz.prog 56 2 = some (2, false, 1) := fldOf Tryz.underlying56 rfl rfl ty2.1 ty2.2.1 ty2.2.2.1
@[simp] theorem fl56_3 : fldT Tryz.prog 56 3 = some (3, false, 1) := fldOf Tryz.underlying56 rfl rfl ty2.1 ty2.2.1 ty2.2.2.1
@[simp] theorem fl56_4 : fldT Tryz.prog 56 4 = some (4, false, 1) := fldOf Tryz.underlying56 rfl rfl ty54.1 ty54.2.1 ty54.2.2.1
@[simp] theorem ts60 : structT Tryz.prog 60 = true := structOf Tryz.underlying60 (by simp [in2, in58, in9])
@[simp] theorem fl60_0 : fldT Tryz.prog 60 0 = some (0, false, 1) := fldOf Tryz.underlying60 rfl rfl ty9.1 ty9.2.1 ty9.2.2.1
@[simp] theorem fl60_1 : fldT Tryz.prog 60 1 = some (1, false, 1) := fldOf Tryz.underlying60 rfl rfl ty2.1 ty2.2.1 ty2.2.2.1
@[simp] theorem fl60_2 : fldT Tryz.prog 60 2 = some (2, false, 1) := fldOf Tryz.underlying60 rfl rfl ty2.1 ty2.2.1 ty2.2.2.1
@[simp] theorem fl60_3 : fldT Tryz.prog 60 3 = some (3, false, 1) := fldOf Tryz.underlying60 rfl rfl ty2.1 ty2.2.1 ty2.2.2.1
@[simp] theorem fl60_4 : fldT Tryz.prog 60 4 = some (4, false, 1) := fldOf Tryz.underlying60 rfl rfl ty2.1 ty2.2.1 ty2.2.2.1
@[simp] theorem fl60_5 : fldT Tryz.prog 60 5 = some (5, false, 1) := fldOf Tryz.underlying60 rfl rfl ty58.1 ty58.2.1 ty58.2.2.1
@[simp] theorem ts70 : structT Tryz.prog 70 = true := structOf Tryz.underlying70 (by simp [in2, in9])
@[simp] theorem fl70_0 : fldT Tryz.prog 70 0 = some (0, false, 1) := fldOf Tryz.underlying70 rfl rfl ty2.1 ty2.2.1 ty2.2.2.1
@[simp] theorem fl70_1 : fldT Tryz.prog 70 1 = some (1, false, 1) := fldOf Tryz.underlying70 rfl rfl ty9.1 ty9.2.1 ty9.2.2.1
@[simp] theorem fl70_2 : fldT Tryz.prog 70 2 = some (2, false, 1) := fldOf Tryz.underlying70 rfl rfl ty9.1 ty9.2.1 ty9.2.2.1
@[simp] theorem ts121 : structT Tryz.prog 121 = true := structOf Tryz.underlying121 (by simp [in2])
@[simp] theorem fl121_0 : fldT Tryz.prog 121 0 = some (0, false, 1) := fldOf Tryz.underlying121 rfl rfl ty2.1 ty2.2.1 ty2.2.2.1
@[simp] theorem fl121_1 : fldT Tryz.prog 121 1 = some (1, false, 1) := fldOf Tryz.underlying121 rfl rfl ty2.1 ty2.2.1 ty2.2.2.1
@[simp] theorem fl121_2 : fldT Tryz.prog 121 2 = some (2, false, 1) := fldOf Tryz.underlying121 rfl rfl ty2.1 ty2.2.1 ty2.2.2.1
@[simp] theorem ts125 : structT Tryz.prog 125 = true := structOf Tryz.underlying125 (by simp [in123, in2])
@[simp] theorem fl125_0 : fldT Tryz.prog 125 0 = some (0, false, 1) := fldOf Tryz.underlying125 rfl rfl ty2.1 ty2.2.1 ty2.2.2.1
@[simp] theorem fl125_1 : fldT Tryz.prog 125 1 = some (1, false, 1) := fldOf Tryz.underlying125 rfl rfl ty123.1 ty123.2.1 ty123.2.2.1
@[simp] theorem fl125_2 : fldT Tryz.prog 125 2 = some (2, false, 1) := fldOf Tryz.underlying125 rfl rfl ty2.1 ty2.2.1 ty2.2.2.1
@[simp] theorem fl125_3 : fldT Tryz.prog 125 3 = some (3, false, 1) := fldOf Tryz.underlying125 rfl rfl ty2.1 ty2.2.1 ty2.2.2.1
@[simp] theorem ts169 : structT Tryz.prog 169 = true := structOf Tryz.underlying169 (by simp [in167, in22, in3])
@[simp] theorem fl169_0 : fldT Tryz.prog 169 0 = some (0, false, 1) := fldOf Tryz.underlying169 rfl rfl ty22.1 ty22.2.1 ty22.2.2.1
@[simp] theorem fl169_1 : fldT Tryz.prog 169 1 = some (1, false, 1) := fldOf Tryz.underlying169 rfl rfl ty3.1 ty3.2.1 ty3.2.2.1
@[simp] theorem fl169_2 : fldT Tryz.prog 169 2 = some (2, false, 1) := fldOf Tryz.underlying169 rfl rfl ty167.1 ty167.2.1 ty167.2.2.1
@[simp] theorem ts174 : structT Tryz.prog 174 = true := structOf Tryz.underlying174 (by simp [in2])
@[simp] theorem fl174_0 : fldT Tryz.prog 174 0 = some (0, false, 1) := fldOf Tryz.underlying174 rfl rfl ty2.1 ty2.2.1 ty2.2.2.1
@[simp] theorem fl174_1 : fldT Tryz.prog 174 1 = some (1, false, 1) := fldOf Tryz.underlying174 rfl rfl ty2.1 ty2.2.1 ty2.2.2.1
@[simp] theorem ts198 : structT Tryz.prog 198 = true := structOf Tryz.underlying198 (by simp [in126, in2, in9])
@[simp] theorem fl198_0 : fldT Tryz.prog 198 0 = some (0, false, 1) := fldOf Tryz.underlying198 rfl rfl ty9.1 ty9.2.1 ty9.2.2.1
@[simp] theorem fl198_1 : fldT Tryz.prog 198 1 = some (1, false, 1) := fldOf Tryz.underlying198 rfl rfl ty126.1 ty126.2.1 ty126.2.2.1
@[simp] theorem fl198_2 : fldT Tryz.prog 198 2 = some (2, false, 1) := fldOf Tryz.underlying198 rfl rfl ty2.1 ty2.2.1 ty2.2.2.1
@[simp] theorem ts209 : structT Tryz.prog 209 = true := structOf Tryz.underlying209 (by simp [in2, in9])
@[simp] theorem fl209_0 : fldT Tryz.prog 209 0 = some (0, false, 1) := fldOf Tryz.underlying209 rfl rfl ty9.1 ty9.2.1 ty9.2.2.1
@[simp] theorem fl209_1 : fldT Tryz.prog 209 1 = some (1, false, 1) := fldOf Tryz.underlying209 rfl rfl ty2.1 ty2.2.1 ty2.2.2.1
@[simp] theorem fl209_2 : fldT Tryz.prog 209 2 = some (2, false, 1) := fldOf Tryz.underlying209 rfl rfl ty2.1 ty2.2.1 ty2.2.2.1
@[simp] theorem ts217 : structT Tryz.prog 217 = true := structOf Tryz.underlying217 (by simp [in2])
@[simp] theorem fl217_0 : fldT Tryz.prog 217 0 = some (0, false, 1) := fldOf Tryz.underlying217 rfl rfl ty2.1 ty2.2.1 ty2.2.2.1
@[simp] theorem fl217_1 : fldT Tryz.prog 217 1 = some (1, false, 1) := fldOf Tryz.underlying217 rfl rfl ty2.1 ty2.2.1 ty2.2.2.1
@[simp] theorem ts248 : structT Tryz.prog 248 = true := structOf Tryz.underlying248 (by simp [in2])
@[simp] theorem fl248_0 : fldT Tryz.prog 248 0 = some (0, false, 1) := fldOf Tryz.underlying248 rfl rfl ty2.1 ty2.2.1 ty2.2.2.1
@[simp] theorem fl248_1 : fldT Tryz.prog 248 1 = some (1, false, 1) := fldOf Tryz.underlying248 rfl rfl ty2.1 ty2.2.1 ty2.2.2.1
@[simp] theorem fl248_2 : fldT Tryz.prog 248 2 = some (2, false, 1) := fldOf Tryz.underlying248 rfl rfl ty2.1 ty2.2.1 ty2.2.2.1
@[simp] theorem ts250 : structT Tryz.prog 250 = true := structOf Tryz.underlying250 (by simp [in2, in248, in9])
@[simp] theorem fl250_0 : fldT Tryz.prog 250 0 = some (0, false, 1) := fldOf Tryz.underlying250 rfl rfl ty9.1 ty9.2.1 ty9.2.2.1
@[simp] theorem fl250_1 : fldT Tryz.prog 250 1 = some (1, false, 1) := fldOf Tryz.underlying250 rfl rfl ty2.1 ty2.2.1 ty2.2.2.1
@[simp] theorem fl250_2 : fldT Tryz.prog 250 2 = some (2, true, 3) := fldOf Tryz.underlying250 rfl rfl ty248.1 ty248.2.1 ty248.2.2.1
@[simp] theorem ts303 : structT Tryz.prog 303 = true := structOf Tryz.underlying303 (by simp [in2, in9])
@[simp] theorem fl303_0 : fldT Tryz.prog 303 0 = some (0, false, 1) := fldOf Tryz.underlying303 rfl rfl ty9.1 ty9.2.1 ty9.2.2.1
@[simp] theorem fl303_1 : fldT Tryz.prog 303 1 = some (1, false, 1) := fldOf Tryz.underlying303 rfl rfl ty2.1 ty2.2.1 ty2.2.2.1
@[simp] theorem res_3 : Tryz.f3.results.toList = [.tmp 2] := rfl
@[simp] theorem res_4 : Tryz.f4.results.toList = [.tmp 2] := rfl
@[simp] theorem res_5 : Tryz.f5.results.toList = [.tmp 2] := rfl
@[simp] theorem res_6 : Tryz.f6.results.toList = [.cell 2 38] := rfl
@[simp] theorem res_7 : Tryz.f7.results.toList = [.tmp 2] := rfl
@[simp] theorem res_8 : Tryz.f8.results.toList = [.tmp 2, .tmp 3] := rfl
@[simp] theorem res_9 : Tryz.f9.results.toList = [.tmp 6] := rfl
@[simp] theorem res_10 : Tryz.f10.results.toList = [.tmp 6] := rfl
@[simp] theorem res_11 : Tryz.f11.results.toList = [.tmp 2, .tmp 3] := rfl
@[simp] theorem res_12 : Tryz.f12.results.toList = [.tmp 4] := rfl
@[simp] theorem res_13 : Tryz.f13.results.toList = [.tmp 6] := rfl
@[simp] theorem res_14 : Tryz.f14.results.toList = [.tmp 2, .tmp 3] := rfl
@[simp] theorem res_15 : Tryz.f15.results.toList = [.tmp 4, .tmp 5] := rfl
@[simp] theorem res_16 : Tryz.f16.results.toList = [.tmp 2, .tmp 3] := rfl
@[simp] theorem res_17 : Tryz.f17.results.toList = [.tmp 2, .tmp 3] := rfl
@[simp] theorem res_18 : Tryz.f18.results.toList = [.tmp 2, .tmp 3] := rfl
@[simp] theorem res_19 : Tryz.f19.results.toList = [.tmp 2, .tmp 3] := rfl
@[simp] theorem res_20 : Tryz.f20.results.toList = [.tmp 2] := rfl
@[simp] theorem res_21 : Tryz.f21.results.toList = [.tmp 2] := rfl
@[simp] theorem res_22 : Tryz.f22.results.toList = [.tmp 2] := rfl
@[simp] theorem res_23 : Tryz.f23.results.toList = [.tmp 4] := rfl
@[simp] theorem res_24 : Tryz.f24.results.toList = [.tmp 2, .tmp 3] := rfl
@[simp] theorem res_25 : Tryz.f25.results.toList = [.cell 2 38] := rfl
@[simp] theorem res_26 : Tryz.f26.results.toList = [.tmp 4] := rfl
@[simp] theorem res_27 : Tryz.f27.results.toList = [.tmp 4] := rfl
@[simp] theorem res_28 : Tryz.f28.results.toList = [.tmp 4] := rfl
@[simp] theorem res_29 : Tryz.f29.results.toList = [.tmp 4] := rfl
@[simp] theorem res_30 : Tryz.f30.results.toList = [.tmp 4] := rfl
@[simp] theorem res_31 : Tryz.f31.results.toList = [.tmp 2] := rfl
@[simp] theorem res_32 : Tryz.f32.results.toList = [.cell 2 38] := rfl
@[simp] theorem res_33 : Tryz.f33.results.toList = [.tmp 2] := rfl
@[simp] theorem res_34 : Tryz.f34.results.toList = [.tmp 4, .tmp 5] := rfl
@[simp] theorem res_35 : Tryz.f35.results.toList = [.tmp 2] := rfl
@[simp] theorem res_36 : Tryz.f36.results.toList = [.tmp 2] := rfl
@[simp] theorem res_37 : Tryz.f37.results.toList = [.tmp 2] := rfl
@[simp] theorem res_38 : Tryz.f38.results.toList = [.tmp 2] := rfl
@[simp] theorem res_39 : Tryz.f39.results.toList = [.tmp 4] := rfl
@[simp] theorem res_40 : Tryz.f40.results.toList = [.tmp 4] := rfl
@[simp] theorem res_41 : Tryz.f41.results.toList = [.tmp 4] := rfl
@[simp] theorem res_42 : Tryz.f42.results.toList = [.tmp 2] := rfl
@[simp] theorem res_43 : Tryz.f43.results.toList = [.tmp 2] := rfl
@[simp] theorem res_44 : Tryz.f44.results.toList = [.tmp 2] := rfl
@[simp] theorem res_45 : Tryz.f45.results.toList = [.tmp 6] := rfl
@[simp] theorem res_46 : Tryz.f46.results.toList = [.tmp 4] := rfl
@[simp] theorem res_47 : Tryz.f47.results.toList = [.tmp 2] := rfl
@[simp] theorem res_48 : Tryz.f48.results.toList = [.tmp 2, .tmp 3] := rfl
@[simp] theorem res_49 : Tryz.f49.results.toList = [.tmp 4, .tmp 5] := rfl
@[simp] theorem res_50 : Tryz.f50.results.toList = [.tmp 2] := rfl
@[simp] theorem res_51 : Tryz.f51.results.toList = [.tmp 6] := rfl
@[simp] theorem res_52 : Tryz.f52.results.toList = [.tmp 2] := rfl
@[simp] theorem res_53 : Tryz.f53.results.toList = [.tmp 4] := rfl
@[simp] theorem res_54 : Tryz.f54.results.toList = [.tmp 2] := rfl
@[simp] theorem res_55 : Tryz.f55.results.toList = [.tmp 2] := rfl
@[simp] theorem res_56 : Tryz.f56.results.toList = [.tmp 4] := rfl
@[simp] theorem res_57 : Tryz.f57.results.toList = [.tmp 4] := rfl
@[simp] theorem res_58 : Tryz.f58.results.toList = [.tmp 4] := rfl
@[simp] theorem res_59 : Tryz.f59.results.toList = [.tmp 4] := rfl
@[simp] theorem res_60 : Tryz.f60.results.toList = [.tmp 4] := rfl
@[simp] theorem res_61 : Tryz.f61.results.toList = [.tmp 4] := rfl
@[simp] theorem res_62 : Tryz.f62.results.toList = [.tmp 4] := rfl
@[simp] theorem res_63 : Tryz.f63.results.toList = [.tmp 4] := rfl
@[simp] theorem res_64 : Tryz.f64.results.toList = [.tmp 4] := rfl
@[simp] theorem res_65 : Tryz.f65.results.toList = [.tmp 2] := rfl
@[simp] theorem res_66 : Tryz.f66.results.toList = [.tmp 2] := rfl
@[simp] theorem res_67 : Tryz.f67.results.toList = [.tmp 2] := rfl
@[simp] theorem res_68 : Tryz.f68.results.toList = [.tmp 2] := rfl
@[simp] theorem res_69 : Tryz.f69.results.toList = [.tmp 2] := rfl
@[simp] theorem res_70 : Tryz.f70.results.toList = [.cell 2 28] := rfl
@[simp] theorem res_71 : Tryz.f71.results.toList = [.tmp 2] := rfl
@[simp] theorem res_72 : Tryz.f72.results.toList = [.cell 2 31] := rfl
@[simp] theorem res_73 : Tryz.f73.results.toList = [.tmp 2] := rfl
@[simp] theorem res_74 : Tryz.f74.results.toList = [.tmp 2] := rfl
@[simp] theorem res_75 : Tryz.f75.results.toList = [.cell 2 36] := rfl
@[simp] theorem res_76 : Tryz.f76.results.toList = [.tmp 4] := rfl
@[simp] theorem res_77 : Tryz.f77.results.toList = [.tmp 4] := rfl
@[simp] theorem res_78 : Tryz.f78.results.toList = [.tmp 4] := rfl
@[simp] theorem res_79 : Tryz.f79.results.toList = [.tmp 4] := rfl
@[simp] theorem res_80 : Tryz.f80.results.toList = [.tmp 4] := rfl
@[simp] theorem res_81 : Tryz.f81.results.toList = [.tmp 4] := rfl
@[simp] theorem res_82 : Tryz.f82.results.toList = [.tmp 4] := rfl
@[simp] theorem res_83 : Tryz.f83.results.toList = [.tmp 4] := rfl
@[simp] theorem res_84 : Tryz.f84.results.toList = [.tmp 4] := rfl
@[simp] theorem res_85 : Tryz.f85.results.toList = [.tmp 4] := rfl
@[simp] theorem res_86 : Tryz.f86.results.toList = [.tmp 4] := rfl
@[simp] theorem res_87 : Tryz.f87.results.toList = [.tmp 4] := rfl
@[simp] theorem res_88 : Tryz.f88.results.toList = [.tmp 4] := rfl
@[simp] theorem res_89 : Tryz.f89.results.toList = [.tmp 4] := rfl
@[simp] theorem res_90 : Tryz.f90.results.toList = [.tmp 4] := rfl
@[simp] theorem res_91 : Tryz.f91.results.toList = [.tmp 4] := rfl
@[simp] theorem res_92 : Tryz.f92.results.toList = [.tmp 4] := rfl
@[simp] theorem res_93 : Tryz.f93.results.toList = [.tmp 4] := rfl
@[simp] theorem res_94 : Tryz.f94.results.toList = [.tmp 4] := rfl
@[simp] theorem res_95 : Tryz.f95.results.toList = [.tmp 2] := rfl
@[simp] theorem res_96 : Tryz.f96.results.toList = [.tmp 2, .tmp 3, .tmp 4] := rfl
@[simp] theorem res_97 : Tryz.f97.results.toList = [.tmp 4] := rfl
@[simp] theorem res_98 : Tryz.f98.results.toList = [.cell 2 60] := rfl
@[simp] theorem res_99 : Tryz.f99.results.toList = [.tmp 2] := rfl
@[simp] theorem res_100 : Tryz.f100.results.toList = [.tmp 4] := rfl
@[simp] theorem res_101 : Tryz.f101.results.toList = [.tmp 2] := rfl
@[simp] theorem res_102 : Tryz.f102.results.toList = [.tmp 2] := rfl
@[simp] theorem res_103 : Tryz.f103.results.toList = [.tmp 2] := rfl
@[simp] theorem res_104 : Tryz.f104.results.toList = [.tmp 2] := rfl
@[simp] theorem res_105 : Tryz.f105.results.toList = [.tmp 2] := rfl
@[simp] theorem res_106 : Tryz.f106.results.toList = [.tmp 2] := rfl
@[simp] theorem res_107 : Tryz.f107.results.toList = [.tmp 6] := rfl
@[simp] theorem res_108 : Tryz.f108.results.toList = [.tmp 2] := rfl
@[simp] theorem res_109 : Tryz.f109.results.toList = [.tmp 6] := rfl
@[simp] theorem res_110 : Tryz.f110.results.toList = [.tmp 4] := rfl
@[simp] theorem res_111 : Tryz.f111.results.toList = [.tmp 3] := rfl
@[simp] theorem res_112 : Tryz.f112.results.toList = [.tmp 4] := rfl
@[simp] theorem res_113 : Tryz.f113.results.toList = [.tmp 3] := rfl
@[simp] theorem res_114 : Tryz.f114.results.toList = [.tmp 6, .tmp 7] := rfl
@[simp] theorem res_115 : Tryz.f115.results.toList = [.tmp 4] := rfl
@[simp] theorem res_116 : Tryz.f116.results.toList = [.tmp 2] := rfl
@[simp] theorem res_117 : Tryz.f117.results.toList = [.tmp 4] := rfl
@[simp] theorem res_118 : Tryz.f118.results.toList = [.tmp 2] := rfl
@[simp] theorem res_119 : Tryz.f119.results.toList = [.tmp 2] := rfl
@[simp] theorem res_120 : Tryz.f120.results.toList = [.tmp 4] := rfl
@[simp] theorem res_121 : Tryz.f121.results.toList = [.tmp 2] := rfl
@[simp] theorem res_122 : Tryz.f122.results.toList = [.tmp 4, .tmp 5] := rfl
@[simp] theorem res_123 : Tryz.f123.results.toList = [.tmp 4] := rfl
@[simp] theorem res_124 : Tryz.f124.results.toList = [.tmp 3] := rfl
@[simp] theorem res_125 : Tryz.f125.results.toList = [.tmp 2] := rfl
@[simp] theorem res_126 : Tryz.f126.results.toList = [.tmp 4] := rfl
@[simp] theorem res_127 : Tryz.f127.results.toList = [.tmp 4] := rfl
@[simp] theorem res_128 : Tryz.f128.results.toList = [.tmp 4] := rfl
@[simp] theorem res_129 : Tryz.f129.results.toList = [.tmp 2] := rfl
@[simp] theorem res_130 : Tryz.f130.results.toList = [.tmp 6] := rfl
@[simp] theorem res_131 : Tryz.f131.results.toList = [.tmp 4] := rfl
@[simp] theorem res_132 : Tryz.f132.results.toList = [.tmp 2] := rfl
@[simp] theorem res_133 : Tryz.f133.results.toList = [.tmp 2, .tmp 3, .tmp 4] := rfl
@[simp] theorem res_134 : Tryz.f134.results.toList = [.tmp 4] := rfl
@[simp] theorem res_135 : Tryz.f135.results.toList = [.tmp 2] := rfl
@[simp] theorem res_136 : Tryz.f136.results.toList = [.tmp 2] := rfl
@[simp] theorem res_137 : Tryz.f137.results.toList = [.tmp 2] := rfl
@[simp] theorem res_138 : Tryz.f138.results.toList = [.tmp 4] := rfl
@[simp] theorem res_139 : Tryz.f139.results.toList = [.tmp 2] := rfl
@[simp] theorem res_140 : Tryz.f140.results.toList = [.tmp 4] := rfl
@[simp] theorem res_141 : Tryz.f141.results.toList = [.tmp 2] := rfl
@[simp] theorem res_142 : Tryz.f142.results.toList = [.tmp 2] := rfl
@[simp] theorem res_143 : Tryz.f143.results.toList = [.tmp 2] := rfl
@[simp] theorem res_144 : Tryz.f144.results.toList = [.tmp 4] := rfl
@[simp] theorem res_145 : Tryz.f145.results.toList = [.tmp 2] := rfl
@[simp] theorem res_146 : Tryz.f146.results.toList = [.tmp 6] := rfl
@[simp] theorem res_147 : Tryz.f147.results.toList = [.tmp 4] := rfl
@[simp] theorem res_148 : Tryz.f148.results.toList = [.tmp 4] := rfl
@[simp] theorem res_149 : Tryz.f149.results.toList = [.tmp 4] := rfl
@[simp] theorem res_150 : Tryz.f150.results.toList = [.tmp 4] := rfl
@[simp] theorem res_151 : Tryz.f151.results.toList = [.tmp 4] := rfl
@[simp] theorem res_152 : Tryz.f152.results.toList = [.tmp 4] := rfl
@[simp] theorem res_153 : Tryz.f153.results.toList = [.tmp 4] := rfl
@[simp] theorem res_154 : Tryz.f154.results.toList = [.tmp 4] := rfl
@[simp] theorem res_155 : Tryz.f155.results.toList = [.tmp 2] := rfl
@[simp] theorem res_156 : Tryz.f156.results.toList = [.tmp 2] := rfl
@[simp] theorem res_157 : Tryz.f157.results.toList = [.tmp 2] := rfl
@[simp] theorem res_158 : Tryz.f158.results.toList = [.tmp 2] := rfl
@[simp] theorem res_159 : Tryz.f159.results.toList = [.cell 2 250] := rfl
@[simp] theorem res_160 : Tryz.f160.results.toList = [.cell 2 198] := rfl
@[simp] theorem res_161 : Tryz.f161.results.toList = [.cell 2 56] := rfl
@[simp] theorem res_162 : Tryz.f162.results.toList = [.cell 2 53] := rfl
@[simp] theorem res_163 : Tryz.f163.results.toList = [.cell 2 51] := rfl
@[simp] theorem res_164 : Tryz.f164.results.toList = [.cell 2 60] := rfl
@[simp] theorem res_165 : Tryz.f165.results.toList = [.cell 2 125] := rfl
@[simp] theorem res_166 : Tryz.f166.results.toList = [.tmp 2] := rfl
@[simp] theorem res_167 : Tryz.f167.results.toList = [.tmp 4] := rfl
@[simp] theorem res_168 : Tryz.f168.results.toList = [.tmp 4] := rfl
@[simp] theorem res_169 : Tryz.f169.results.toList = [.tmp 4] := rfl
@[simp] theorem res_170 : Tryz.f170.results.toList = [.tmp 4] := rfl
@[simp] theorem res_171 : Tryz.f171.results.toList = [.tmp 4] := rfl
@[simp] theorem res_172 : Tryz.f172.results.toList = [.tmp 4] := rfl
@[simp] theorem res_173 : Tryz.f173.results.toList = [.tmp 4] := rfl
@[simp] theorem res_174 : Tryz.f174.results.toList = [.tmp 4] := rfl
@[simp] theorem res_175 : Tryz.f175.results.toList = [.tmp 4] := rfl
@[simp] theorem res_176 : Tryz.f176.results.toList = [.tmp 4] := rfl
@[simp] theorem res_177 : Tryz.f177.results.toList = [.tmp 4] := rfl
@[simp] theorem res_178 : Tryz.f178.results.toList = [.tmp 4] := rfl
@[simp] theorem res_179 : Tryz.f179.results.toList = [.tmp 4] := rfl
@[simp] theorem res_180 : Tryz.f180.results.toList = [.tmp 2, .tmp 3] := rfl
@[simp] theorem res_181 : Tryz.f181.results.toList = [.tmp 6, .tmp 7] := rfl
@[simp] theorem res_182 : Tryz.f182.results.toList = [.cell 4 56] := rfl
@[simp] theorem res_183 : Tryz.f183.results.toList = [.tmp 2] := rfl
@[simp] theorem res_184 : Tryz.f184.results.toList = [.tmp 4] := rfl
@[simp] theorem res_185 : Tryz.f185.results.toList = [.tmp 2] := rfl
@[simp] theorem res_186 : Tryz.f186.results.toList = [.tmp 2] := rfl
@[simp] theorem res_187 : Tryz.f187.results.toList = [.tmp 4] := rfl
@[simp] theorem res_188 : Tryz.f188.results.toList = [.tmp 2] := rfl
@[simp] theorem res_189 : Tryz.f189.results.toList = [.tmp 2] := rfl
@[simp] theorem res_190 : Tryz.f190.results.toList = [.tmp 2] := rfl
@[simp] theorem res_191 : Tryz.f191.results.toList = [.tmp 2] := rfl
@[simp] theorem res_192 : Tryz.f192.results.toList = [.tmp 2] := rfl
@[simp] theorem res_193 : Tryz.f193.results.toList = [.tmp 2] := rfl
@[simp] theorem res_194 : Tryz.f194.results.toList = [.tmp 2] := rfl
@[simp] theorem res_195 : Tryz.f195.results.toList = [.tmp 2] := rfl
@[simp] theorem res_196 : Tryz.f196.results.toList = [.tmp 2] := rfl
@[simp] theorem res_197 : Tryz.f197.results.toList = [.tmp 2] := rfl
@[simp] theorem res_198 : Tryz.f198.results.toList = [.tmp 2] := rfl
@[simp] theorem res_199 : Tryz.f199.results.toList = [.tmp 2] := rfl
@[simp] theorem res_200 : Tryz.f200.results.toList = [.tmp 4] := rfl
@[simp] theorem res_201 : Tryz.f201.results.toList = [.tmp 4] := rfl
@[simp] theorem res_202 : Tryz.f202.results.toList = [.tmp 4] := rfl
@[simp] theorem res_203 : Tryz.f203.results.toList = [.tmp 4] := rfl
@[simp] theorem res_204 : Tryz.f204.results.toList = [.tmp 6] := rfl
@[simp] theorem res_205 : Tryz.f205.results.toList = [.tmp 4] := rfl
@[simp] theorem res_206 : Tryz.f206.results.toList = [.tmp 4, .tmp 5] := rfl
@[simp] theorem res_207 : Tryz.f207.results.toList = [.tmp 2, .tmp 3] := rfl
@[simp] theorem res_208 : Tryz.f208.results.toList = [] := rfl
@[simp] theorem res_209 : Tryz.f209.results.toList = [.tmp 2] := rfl
@[simp] theorem res_210 : Tryz.f210.results.toList = [.tmp 4] := rfl
@[simp] theorem res_211 : Tryz.f211.results.toList = [.tmp 3] := rfl
@[simp] theorem res_212 : Tryz.f212.results.toList = [.tmp 2] := rfl
@[simp] theorem res_213 : Tryz.f213.results.toList = [.tmp 2] := rfl
@[simp] theorem res_214 : Tryz.f214.results.toList = [.tmp 4, .tmp 5] := rfl
@[simp] theorem res_215 : Tryz.f215.results.toList = [.tmp 4] := rfl
@[simp] theorem res_216 : Tryz.f216.results.toList = [.tmp 4] := rfl
@[simp] theorem res_217 : Tryz.f217.results.toList = [.tmp 2] := rfl
@[simp] theorem res_218 : Tryz.f218.results.toList = [.tmp 2] := rfl
@[simp] theorem res_219 : Tryz.f219.results.toList = [.tmp 2] := rfl
@[simp] theorem res_220 : Tryz.f220.results.toList = [.tmp 4, .tmp 5, .tmp 6] := rfl
@[simp] theorem res_221 : Tryz.f221.results.toList = [.tmp 4] := rfl
@[simp] theorem res_222 : Tryz.f222.results.toList = [.tmp 2] := rfl
@[simp] theorem res_223 : Tryz.f223.results.toList = [.tmp 2] := rfl
@[simp] theorem res_224 : Tryz.f224.results.toList = [.tmp 2] := rfl
@[simp] theorem res_225 : Tryz.f225.results.toList = [.tmp 2] := rfl
@[simp] theorem res_226 : Tryz.f226.results.toList = [.tmp 2] := rfl
@[simp] theorem res_227 : Tryz.f227.results.toList = [.tmp 4] := rfl
@[simp] theorem res_228 : Tryz.f228.results.toList = [.tmp 2] := rfl
@[simp] theorem res_229 : Tryz.f229.results.toList = [.tmp 2] := rfl
@[simp] theorem res_230 : Tryz.f230.results.toList = [.tmp 2, .tmp 3] := rfl
@[simp] theorem res_231 : Tryz.f231.results.toList = [.tmp 4] := rfl
@[simp] theorem res_232 : Tryz.f232.results.toList = [.tmp 4] := rfl
@[simp] theorem res_233 : Tryz.f233.results.toList = [.tmp 2] := rfl
@[simp] theorem res_234 : Tryz.f234.results.toList = [.tmp 4] := rfl
@[simp] theorem res_235 : Tryz.f235.results.toList = [.tmp 4] := rfl
@[simp] theorem res_236 : Tryz.f236.results.toList = [.tmp 4] := rfl
@[simp] theorem res_237 : Tryz.f237.results.toList = [.tmp 4] := rfl
@[simp] theorem res_238 : Tryz.f238.results.toList = [.tmp 4] := rfl
@[simp] theorem res_239 : Tryz.f239.results.toList = [.tmp 4] := rfl
@[simp] theorem res_240 : Tryz.f240.results.toList = [.tmp 2, .tmp 3] := rfl
@[simp] theorem res_241 : Tryz.f241.results.toList = [.tmp 2] := rfl
@[simp] theorem res_242 : Tryz.f242.results.toList = [.tmp 4] := rfl
@[simp] theorem res_243 : Tryz.f243.results.toList = [.tmp 2] := rfl
@[simp] theorem res_244 : Tryz.f244.results.toList = [.cell 2 248] := rfl
@[simp] theorem res_245 : Tryz.f245.results.toList = [.tmp 2] := rfl
@[simp] theorem res_246 : Tryz.f246.results.toList = [.tmp 2] := rfl
@[simp] theorem res_247 : Tryz.f247.results.toList = [.tmp 2] := rfl
@[simp] theorem res_248 : Tryz.f248.results.toList = [.tmp 2] := rfl
@[simp] theorem res_249 : Tryz.f249.results.toList = [.cell 2 121] := rfl
@[simp] theorem res_250 : Tryz.f250.results.toList = [.tmp 4] := rfl
@[simp] theorem res_251 : Tryz.f251.results.toList = [.tmp 4] := rfl
@[simp] theorem res_252 : Tryz.f252.results.toList = [.tmp 4] := rfl
@[simp] theorem res_253 : Tryz.f253.results.toList = [.tmp 4] := rfl
@[simp] theorem res_254 : Tryz.f254.results.toList = [.tmp 4] := rfl
@[simp] theorem res_255 : Tryz.f255.results.toList = [.tmp 4] := rfl
@[simp] theorem res_256 : Tryz.f256.results.toList = [.tmp 2] := rfl
@[simp] theorem res_257 : Tryz.f257.results.toList = [.tmp 6, .tmp 7] := rfl
@[simp] theorem res_258 : Tryz.f258.results.toList = [.cell 4 198] := rfl
@[simp] theorem res_259 : Tryz.f259.results.toList = [.cell 2 56] := rfl
@[simp] theorem res_260 : Tryz.f260.results.toList = [.tmp 4] := rfl
@[simp] theorem res_261 : Tryz.f261.results.toList = [.tmp 4] := rfl
@[simp] theorem res_262 : Tryz.f262.results.toList = [.tmp 2] := rfl
@[simp] theorem res_263 : Tryz.f263.results.toList = [.tmp 2] := rfl
@[simp] theorem res_264 : Tryz.f264.results.toList = [.tmp 2] := rfl
@[simp] theorem res_265 : Tryz.f265.results.toList = [.tmp 4] := rfl
@[simp] theorem res_266 : Tryz.f266.results.toList = [.tmp 3] := rfl
@[simp] theorem res_267 : Tryz.f267.results.toList = [.tmp 4] := rfl
@[simp] theorem res_268 : Tryz.f268.results.toList = [.tmp 2] := rfl
@[simp] theorem res_269 : Tryz.f269.results.toList = [.tmp 2] := rfl
@[simp] theorem res_270 : Tryz.f270.results.toList = [.tmp 2] := rfl
@[simp] theorem res_271 : Tryz.f271.results.toList = [.tmp 2] := rfl
@[simp] theorem res_272 : Tryz.f272.results.toList = [.tmp 2] := rfl
@[simp] theorem res_273 : Tryz.f273.results.toList = [.tmp 4] := rfl
@[simp] theorem res_274 : Tryz.f274.results.toList = [.tmp 4] := rfl
@[simp] theorem res_275 : Tryz.f275.results.toList = [.cell 4 198, .tmp 5] := rfl
@[simp] theorem res_276 : Tryz.f276.results.toList = [.tmp 3] := rfl
@[simp] theorem res_277 : Tryz.f277.results.toList = [.tmp 4] := rfl
@[simp] theorem res_278 : Tryz.f278.results.toList = [.tmp 2] := rfl
@[simp] theorem res_279 : Tryz.f279.results.toList = [.tmp 2] := rfl
@[simp] theorem res_280 : Tryz.f280.results.toList = [.tmp 4] := rfl
@[simp] theorem res_281 : Tryz.f281.results.toList = [.tmp 4] := rfl
@[simp] theorem res_282 : Tryz.f282.results.toList = [] := rfl
@[simp] theorem res_283 : Tryz.f283.results.toList = [.tmp 2] := rfl
@[simp] theorem res_284 : Tryz.f284.results.toList = [.tmp 4] := rfl
@[simp] theorem res_285 : Tryz.f285.results.toList = [.tmp 4] := rfl
@[simp] theorem res_286 : Tryz.f286.results.toList = [.tmp 2] := rfl
@[simp] theorem res_287 : Tryz.f287.results.toList = [.tmp 2] := rfl
@[simp] theorem res_288 : Tryz.f288.results.toList = [.tmp 2] := rfl
@[simp] theorem res_289 : Tryz.f289.results.toList = [.tmp 4] := rfl
@[simp] theorem res_290 : Tryz.f290.results.toList = [.tmp 4] := rfl
@[simp] theorem res_291 : Tryz.f291.results.toList = [.tmp 4] := rfl
@[simp] theorem res_292 : Tryz.f292.results.toList = [.tmp 4, .tmp 5] := rfl
@[simp] theorem res_293 : Tryz.f293.results.toList = [.tmp 2] := rfl
@[simp] theorem res_294 : Tryz.f294.results.toList = [.cell 2 303] := rfl
@[simp] theorem res_295 : Tryz.f295.results.toList = [.cell 2 217] := rfl
@[simp] theorem res_296 : Tryz.f296.results.toList = [.cell 2 174] := rfl
@[simp] theorem res_297 : Tryz.f297.results.toList = [.tmp 4] := rfl
@[simp] theorem res_298 : Tryz.f298.results.toList = [.tmp 4] := rfl
@[simp] theorem res_299 : Tryz.f299.results.toList = [.tmp 4] := rfl
@[simp] theorem res_300 : Tryz.f300.results.toList = [.cell 2 248] := rfl
@[simp] theorem res_301 : Tryz.f301.results.toList = [.tmp 4] := rfl
@[simp] theorem res_302 : Tryz.f302.results.toList = [.tmp 4] := rfl
@[simp] theorem res_303 : Tryz.f303.results.toList = [.cell 2 198] := rfl
@[simp] theorem res_304 : Tryz.f304.results.toList = [.tmp 2] := rfl
@[simp] theorem res_305 : Tryz.f305.results.toList = [.tmp 2] := rfl
@[simp] theorem res_306 : Tryz.f306.results.toList = [.tmp 4] := rfl
@[simp] theorem res_307 : Tryz.f307.results.toList = [.tmp 4] := rfl
@[simp] theorem res_308 : Tryz.f308.results.toList = [.tmp 3] := rfl
@[simp] theorem res_309 : Tryz.f309.results.toList = [.tmp 4] := rfl
@[simp] theorem res_310 : Tryz.f310.results.toList = [.tmp 2] := rfl
@[simp] theorem res_311 : Tryz.f311.results.toList = [.tmp 4] := rfl
@[simp] theorem res_312 : Tryz.f312.results.toList = [.tmp 2] := rfl
@[simp] theorem res_313 : Tryz.f313.results.toList = [.tmp 4] := rfl
@[simp] theorem res_314 : Tryz.f314.results.toList = [.tmp 2] := rfl
@[simp] theorem res_315 : Tryz.f315.results.toList = [.tmp 2] := rfl
@[simp] theorem res_316 : Tryz.f316.results.toList = [.tmp 2] := rfl
@[simp] theorem res_317 : Tryz.f317.results.toList = [.tmp 2] := rfl
@[simp] theorem res_318 : Tryz.f318.results.toList = [.tmp 4] := rfl
@[simp] theorem res_319 : Tryz.f319.results.toList = [.tmp 4] := rfl
@[simp] theorem res_320 : Tryz.f320.results.toList = [.tmp 3] := rfl
@[simp] theorem res_321 : Tryz.f321.results.toList = [.tmp 4] := rfl
@[simp] theorem res_322 : Tryz.f322.results.toList = [.tmp 4, .tmp 5] := rfl
@[simp] theorem res_323 : Tryz.f323.results.toList = [.tmp 4] := rfl
@[simp] theorem res_324 : Tryz.f324.results.toList = [] := rfl
@[simp] theorem res_325 : Tryz.f325.results.toList = [] := rfl
@[simp] theorem res_326 : Tryz.f326.results.toList = [] := rfl
@[simp] theorem res_327 : Tryz.f327.results.toList = [.tmp 6, .tmp 7] := rfl
@[simp] theorem res_328 : Tryz.f328.results.toList = [] := rfl
@[simp] theorem res_329 : Tryz.f329.results.toList = [.tmp 6] := rfl
@[simp] theorem res_330 : Tryz.f330.results.toList = [.tmp 4] := rfl
@[simp] theorem res_331 : Tryz.f331.results.toList = [.tmp 8] := rfl
@[simp] theorem res_332 : Tryz.f332.results.toList = [.tmp 8, .tmp 9] := rfl
@[simp] theorem res_333 : Tryz.f333.results.toList = [.tmp 2] := rfl
@[simp] theorem res_334 : Tryz.f334.results.toList = [.tmp 2] := rfl
@[simp] theorem res_335 : Tryz.f335.results.toList = [.tmp 4] := rfl
@[simp] theorem res_336 : Tryz.f336.results.toList = [.tmp 4] := rfl
@[simp] theorem res_337 : Tryz.f337.results.toList = [.tmp 4] := rfl
@[simp] theorem res_338 : Tryz.f338.results.toList = [.tmp 2] := rfl
@[simp] theorem res_339 : Tryz.f339.results.toList = [.tmp 2] := rfl
@[simp] theorem res_340 : Tryz.f340.results.toList = [.tmp 4] := rfl
@[simp] theorem res_341 : Tryz.f341.results.toList = [.tmp 4] := rfl
@[simp] theorem res_342 : Tryz.f342.results.toList = [.tmp 4] := rfl
@[simp] theorem res_343 : Tryz.f343.results.toList = [.tmp 2] := rfl
@[simp] theorem res_344 : Tryz.f344.results.toList = [.tmp 3] := rfl
@[simp] theorem res_345 : Tryz.f345.results.toList = [.tmp 4, .tmp 5] := rfl
@[simp] theorem res_346 : Tryz.f346.results.toList = [.tmp 4] := rfl
@[simp] theorem res_347 : Tryz.f347.results.toList = [.tmp 6, .tmp 7] := rfl
@[simp] theorem res_348 : Tryz.f348.results.toList = [.tmp 4] := rfl
@[simp] theorem res_349 : Tryz.f349.results.toList = [.tmp 4] := rfl
@[simp] theorem res_350 : Tryz.f350.results.toList = [.tmp 4] := rfl
@[simp] theorem res_351 : Tryz.f351.results.toList = [] := rfl
@[simp] theorem res_352 : Tryz.f352.results.toList = [.tmp 2] := rfl
@[simp] theorem res_353 : Tryz.f353.results.toList = [.tmp 2] := rfl
@[simp] theorem res_354 : Tryz.f354.results.toList = [.tmp 6] := rfl
@[simp] theorem res_355 : Tryz.f355.results.toList = [.tmp 10] := rfl
@[simp] theorem res_356 : Tryz.f356.results.toList = [.tmp 2] := rfl
@[simp] theorem res_357 : Tryz.f357.results.toList = [.tmp 2] := rfl
@[simp] theorem res_358 : Tryz.f358.results.toList = [] := rfl
@[simp] theorem res_359 : Tryz.f359.results.toList = [.tmp 10, .tmp 11] := rfl
@[simp] theorem res_360 : Tryz.f360.results.toList = [.tmp 2] := rfl
@[simp] theorem res_361 : Tryz.f361.results.toList = [.tmp 2] := rfl
@[simp] theorem res_362 : Tryz.f362.results.toList = [.tmp 0] := rfl
@[simp] theorem res_363 : Tryz.f363.results.toList = [.tmp 4, .tmp 5] := rfl
@[simp] theorem res_364 : Tryz.f364.results.toList = [.tmp 4, .tmp 5, .tmp 6] := rfl
@[simp] theorem res_365 : Tryz.f365.results.toList = [.tmp 2] := rfl
@[simp] theorem res_366 : Tryz.f366.results.toList = [.tmp 8, .tmp 9] := rfl
@[simp] theorem res_367 : Tryz.f367.results.toList = [.tmp 2] := rfl
@[simp] theorem res_368 : Tryz.f368.results.toList = [.tmp 2] := rfl
@[simp] theorem res_369 : Tryz.f369.results.toList = [.tmp 2] := rfl
@[simp] theorem res_370 : Tryz.f370.results.toList = [.tmp 2] := rfl
@[simp] theorem res_371 : Tryz.f371.results.toList = [.tmp 6, .tmp 7] := rfl
@[simp] theorem res_372 : Tryz.f372.results.toList = [.tmp 4] := rfl
@[simp] theorem res_373 : Tryz.f373.results.toList = [.tmp 2] := rfl
@[simp] theorem res_374 : Tryz.f374.results.toList = [.tmp 2] := rfl
theorem hm : Tryz.prog.follows .mixedOrders = true := by kernel_rfl
end Go.Proofs.YtcjpfjklhhclmaaGreatDoor
