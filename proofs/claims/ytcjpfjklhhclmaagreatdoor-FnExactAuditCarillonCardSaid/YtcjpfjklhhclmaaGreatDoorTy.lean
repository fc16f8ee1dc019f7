/- Closed facts on the types of the program. Made by a program (gen_types.py). No condition. -/
import Derived.Test.YtcjpfjklhhclmaaGreatDoorAcd
import Derived.Test.YtcjpfjklhhclmaaGreatDoorAbz
import Derived.Test.YtcjpfjklhhclmaaGreatDoorProg
namespace Go.Proofs.YtcjpfjklhhclmaaGreatDoor
open Go Go.Ab
theorem in2 : Tryz.prog.info? 2 = some Tryz.t2 := by kernel_rfl
@[simp] theorem ty2 : TyOne Tryz.prog 2 8 (some .i64) none false := qfn in2 Tryz.underlying2 rfl rfl
@[simp] theorem tz2 : TyZ Tryz.prog 2 [.int .i64 0] := tyZ in2 rfl rfl rfl rfl
theorem in3 : Tryz.prog.info? 3 = some Tryz.t3 := by kernel_rfl
@[simp] theorem ty3 : TyOne Tryz.prog 3 8 (some .i64) none false := qfn in3 Tryz.underlying3 rfl rfl
@[simp] theorem tz3 : TyZ Tryz.prog 3 [.int .i64 0] := tyZ in3 rfl rfl rfl rfl
theorem in5 : Tryz.prog.info? 5 = some Tryz.t5 := by kernel_rfl
@[simp] theorem ty5 : TyOne Tryz.prog 5 1 (some .u8) none false := qfn in5 Tryz.underlying5 rfl rfl
@[simp] theorem tz5 : TyZ Tryz.prog 5 [.int .u8 0] := tyZ in5 rfl rfl rfl rfl
theorem in9 : Tryz.prog.info? 9 = some Tryz.t9 := by kernel_rfl
@[simp] theorem ty9 : TyOne Tryz.prog 9 16 none none true := qmd in9 Tryz.underlying9 rfl rfl
@[simp] theorem tz9 : TyZ Tryz.prog 9 [.str []] := tyZ in9 rfl rfl rfl rfl
theorem in22 : Tryz.prog.info? 22 = some Tryz.t22 := by kernel_rfl
@[simp] theorem ty22 : TyOne Tryz.prog 22 24 none (some 5) false := qay in22 Tryz.underlying22 rfl rfl
theorem in23 : Tryz.prog.info? 23 = some Tryz.t23 := by kernel_rfl
@[simp] theorem ty23 : TyOne Tryz.prog 23 24 none (some 250) false := qay in23 Tryz.underlying23 rfl rfl
theorem in24 : Tryz.prog.info? 24 = some Tryz.t24 := by kernel_rfl
@[simp] theorem ty24 : TyOne Tryz.prog 24 24 none (some 198) false := qay in24 Tryz.underlying24 rfl rfl
theorem in25 : Tryz.prog.info? 25 = some Tryz.t25 := by kernel_rfl
@[simp] theorem ty25 : TyOne Tryz.prog 25 24 none (some 56) false := qay in25 Tryz.underlying25 rfl rfl
theorem in26 : Tryz.prog.info? 26 = some Tryz.t26 := by kernel_rfl
@[simp] theorem ty26 : TyOne Tryz.prog 26 24 none (some 53) false := qay in26 Tryz.underlying26 rfl rfl
theorem in28 : Tryz.prog.info? 28 = some Tryz.t28 := by kernel_rfl
@[simp] theorem ty28 : TyAgg Tryz.prog 28 3 24 := qat in28 Tryz.underlying28 rfl rfl
@[simp] theorem tz28 : TyZ Tryz.prog 28 [.int .i64 0, .int .i64 0, .int .i64 0] := tyZ in28 rfl rfl rfl rfl
theorem in29 : Tryz.prog.info? 29 = some Tryz.t29 := by kernel_rfl
@[simp] theorem ty29 : TyOne Tryz.prog 29 24 none (some 51) false := qay in29 Tryz.underlying29 rfl rfl
theorem in31 : Tryz.prog.info? 31 = some Tryz.t31 := by kernel_rfl
@[simp] theorem ty31 : TyAgg Tryz.prog 31 5 48 := qat in31 Tryz.underlying31 rfl rfl
@[simp] theorem tz31 : TyZ Tryz.prog 31 [.str [], .int .i64 0, .int .i64 0, .int .i64 0, .int .i64 0] := tyZ in31 rfl rfl rfl rfl
theorem in32 : Tryz.prog.info? 32 = some Tryz.t32 := by kernel_rfl
@[simp] theorem ty32 : TyOne Tryz.prog 32 24 none (some 60) false := qay in32 Tryz.underlying32 rfl rfl
theorem in33 : Tryz.prog.info? 33 = some Tryz.t33 := by kernel_rfl
@[simp] theorem ty33 : TyOne Tryz.prog 33 24 none (some 125) false := qay in33 Tryz.underlying33 rfl rfl
theorem in34 : Tryz.prog.info? 34 = some Tryz.t34 := by kernel_rfl
@[simp] theorem ty34 : TyOne Tryz.prog 34 24 none (some 121) false := qay in34 Tryz.underlying34 rfl rfl
theorem in36 : Tryz.prog.info? 36 = some Tryz.t36 := by kernel_rfl
@[simp] theorem ty36 : TyAgg Tryz.prog 36 2 40 := qat in36 Tryz.underlying36 rfl rfl
@[simp] theorem tz36 : TyZ Tryz.prog 36 [.str [], .nils] := tyZ in36 rfl rfl rfl rfl
theorem in38 : Tryz.prog.info? 38 = some Tryz.t38 := by kernel_rfl
@[simp] theorem ty38 : TyAgg Tryz.prog 38 20 304 := qat in38 Tryz.underlying38 rfl rfl
@[simp] theorem tz38 : TyZ Tryz.prog 38 [.nils, .nils, .nils, .nils, .int .i64 0, .int .i64 0, .int .i64 0, .nils, .int .i64 0, .str [], .int .i64 0, .int .i64 0, .int .i64 0, .int .i64 0, .nils, .int .i64 0, .int .i64 0, .nils, .str [], .nils] := tyZ in38 rfl rfl rfl rfl
theorem in41 : Tryz.prog.info? 41 = some Tryz.t41 := by kernel_rfl
@[simp] theorem ty41 : TyOne Tryz.prog 41 24 none (some 70) false := qay in41 Tryz.underlying41 rfl rfl
theorem in46 : Tryz.prog.info? 46 = some Tryz.t46 := by kernel_rfl
@[simp] theorem ty46 : TyOne Tryz.prog 46 24 none (some 209) false := qay in46 Tryz.underlying46 rfl rfl
theorem in51 : Tryz.prog.info? 51 = some Tryz.t51 := by kernel_rfl
@[simp] theorem ty51 : TyAgg Tryz.prog 51 5 48 := qat in51 Tryz.underlying51 rfl rfl
@[simp] theorem tz51 : TyZ Tryz.prog 51 [.str [], .int .i64 0, .int .i64 0, .int .i64 0, .int .i64 0] := tyZ in51 rfl rfl rfl rfl
theorem in53 : Tryz.prog.info? 53 = some Tryz.t53 := by kernel_rfl
@[simp] theorem ty53 : TyAgg Tryz.prog 53 5 48 := qat in53 Tryz.underlying53 rfl rfl
@[simp] theorem tz53 : TyZ Tryz.prog 53 [.str [], .int .i64 0, .int .i64 0, .int .i64 0, .int .i64 0] := tyZ in53 rfl rfl rfl rfl
theorem in54 : Tryz.prog.info? 54 = some Tryz.t54 := by kernel_rfl
@[simp] theorem ty54 : TyOne Tryz.prog 54 24 none (some 303) false := qay in54 Tryz.underlying54 rfl rfl
theorem in56 : Tryz.prog.info? 56 = some Tryz.t56 := by kernel_rfl
@[simp] theorem ty56 : TyAgg Tryz.prog 56 5 64 := qat in56 Tryz.underlying56 rfl rfl
@[simp] theorem tz56 : TyZ Tryz.prog 56 [.str [], .int .i64 0, .int .i64 0, .int .i64 0, .nils] := tyZ in56 rfl rfl rfl rfl
theorem in58 : Tryz.prog.info? 58 = some Tryz.t58 := by kernel_rfl
@[simp] theorem ty58 : TyOne Tryz.prog 58 24 none (some 217) false := qay in58 Tryz.underlying58 rfl rfl
theorem in60 : Tryz.prog.info? 60 = some Tryz.t60 := by kernel_rfl
@[simp] theorem ty60 : TyAgg Tryz.prog 60 6 72 := qat in60 Tryz.underlying60 rfl rfl
@[simp] theorem tz60 : TyZ Tryz.prog 60 [.str [], .int .i64 0, .int .i64 0, .int .i64 0, .int .i64 0, .nils] := tyZ in60 rfl rfl rfl rfl
theorem in61 : Tryz.prog.info? 61 = some Tryz.t61 := by kernel_rfl
@[simp] theorem ty61 : TyOne Tryz.prog 61 24 none (some 2) false := qay in61 Tryz.underlying61 rfl rfl
@[simp] theorem tz61 : TyZ Tryz.prog 61 [.nils] := tyZ in61 rfl rfl rfl rfl
theorem in70 : Tryz.prog.info? 70 = some Tryz.t70 := by kernel_rfl
@[simp] theorem ty70 : TyAgg Tryz.prog 70 3 40 := qat in70 Tryz.underlying70 rfl rfl
@[simp] theorem tz70 : TyZ Tryz.prog 70 [.int .i64 0, .str [], .str []] := tyZ in70 rfl rfl rfl rfl
theorem in72 : Tryz.prog.info? 72 = some Tryz.t72 := by kernel_rfl
@[simp] theorem ty72 : TyOne Tryz.prog 72 24 none (some 228) false := qay in72 Tryz.underlying72 rfl rfl
theorem in73 : Tryz.prog.info? 73 = some Tryz.t73 := by kernel_rfl
@[simp] theorem ty73 : TyOne Tryz.prog 73 24 none (some 230) false := qay in73 Tryz.underlying73 rfl rfl
theorem in74 : Tryz.prog.info? 74 = some Tryz.t74 := by kernel_rfl
@[simp] theorem ty74 : TyOne Tryz.prog 74 24 none (some 234) false := qay in74 Tryz.underlying74 rfl rfl
theorem in75 : Tryz.prog.info? 75 = some Tryz.t75 := by kernel_rfl
@[simp] theorem ty75 : TyOne Tryz.prog 75 24 none (some 236) false := qay in75 Tryz.underlying75 rfl rfl
theorem in76 : Tryz.prog.info? 76 = some Tryz.t76 := by kernel_rfl
@[simp] theorem ty76 : TyAgg Tryz.prog 76 3 24 := qat in76 Tryz.underlying76 rfl rfl
theorem in77 : Tryz.prog.info? 77 = some Tryz.t77 := by kernel_rfl
@[simp] theorem ty77 : TyOne Tryz.prog 77 24 none (some 238) false := qay in77 Tryz.underlying77 rfl rfl
theorem in78 : Tryz.prog.info? 78 = some Tryz.t78 := by kernel_rfl
@[simp] theorem ty78 : TyAgg Tryz.prog 78 5 48 := qat in78 Tryz.underlying78 rfl rfl
theorem in79 : Tryz.prog.info? 79 = some Tryz.t79 := by kernel_rfl
@[simp] theorem ty79 : TyOne Tryz.prog 79 24 none (some 242) false := qay in79 Tryz.underlying79 rfl rfl
theorem in80 : Tryz.prog.info? 80 = some Tryz.t80 := by kernel_rfl
@[simp] theorem ty80 : TyOne Tryz.prog 80 24 none (some 246) false := qay in80 Tryz.underlying80 rfl rfl
theorem in81 : Tryz.prog.info? 81 = some Tryz.t81 := by kernel_rfl
@[simp] theorem ty81 : TyOne Tryz.prog 81 24 none (some 323) false := qay in81 Tryz.underlying81 rfl rfl
theorem in83 : Tryz.prog.info? 83 = some Tryz.t83 := by kernel_rfl
@[simp] theorem ty83 : TyAgg Tryz.prog 83 2 40 := qat in83 Tryz.underlying83 rfl rfl
theorem in85 : Tryz.prog.info? 85 = some Tryz.t85 := by kernel_rfl
@[simp] theorem ty85 : TyAgg Tryz.prog 85 20 304 := qat in85 Tryz.underlying85 rfl rfl
theorem in99 : Tryz.prog.info? 99 = some Tryz.t99 := by kernel_rfl
@[simp] theorem ty99 : TyOne Tryz.prog 99 8 none none false := qme in99 Tryz.underlying99 rfl rfl
@[simp] theorem tz99 : TyZ Tryz.prog 99 [.raw .nilFunc] := tyZ in99 rfl rfl rfl rfl
theorem in108 : Tryz.prog.info? 108 = some Tryz.t108 := by kernel_rfl
@[simp] theorem ty108 : TyOne Tryz.prog 108 24 none (some 61) false := qay in108 Tryz.underlying108 rfl rfl
theorem in121 : Tryz.prog.info? 121 = some Tryz.t121 := by kernel_rfl
@[simp] theorem ty121 : TyAgg Tryz.prog 121 3 24 := qat in121 Tryz.underlying121 rfl rfl
@[simp] theorem tz121 : TyZ Tryz.prog 121 [.int .i64 0, .int .i64 0, .int .i64 0] := tyZ in121 rfl rfl rfl rfl
theorem in123 : Tryz.prog.info? 123 = some Tryz.t123 := by kernel_rfl
@[simp] theorem ty123 : TyOne Tryz.prog 123 24 none (some 174) false := qay in123 Tryz.underlying123 rfl rfl
theorem in125 : Tryz.prog.info? 125 = some Tryz.t125 := by kernel_rfl
@[simp] theorem ty125 : TyAgg Tryz.prog 125 4 48 := qat in125 Tryz.underlying125 rfl rfl
@[simp] theorem tz125 : TyZ Tryz.prog 125 [.int .i64 0, .nils, .int .i64 0, .int .i64 0] := tyZ in125 rfl rfl rfl rfl
theorem in126 : Tryz.prog.info? 126 = some Tryz.t126 := by kernel_rfl
@[simp] theorem ty126 : TyOne Tryz.prog 126 24 none (some 9) false := qay in126 Tryz.underlying126 rfl rfl
theorem in174 : Tryz.prog.info? 174 = some Tryz.t174 := by kernel_rfl
@[simp] theorem ty174 : TyAgg Tryz.prog 174 2 16 := qat in174 Tryz.underlying174 rfl rfl
@[simp] theorem tz174 : TyZ Tryz.prog 174 [.int .i64 0, .int .i64 0] := tyZ in174 rfl rfl rfl rfl
theorem in184 : Tryz.prog.info? 184 = some Tryz.t184 := by kernel_rfl
@[simp] theorem ty184 : TyOne Tryz.prog 184 24 none (some 99) false := qay in184 Tryz.underlying184 rfl rfl
theorem in198 : Tryz.prog.info? 198 = some Tryz.t198 := by kernel_rfl
@[simp] theorem ty198 : TyAgg Tryz.prog 198 3 48 := qat in198 Tryz.underlying198 rfl rfl
@[simp] theorem tz198 : TyZ Tryz.prog 198 [.str [], .nils, .int .i64 0] := tyZ in198 rfl rfl rfl rfl
theorem in209 : Tryz.prog.info? 209 = some Tryz.t209 := by kernel_rfl
@[simp] theorem ty209 : TyAgg Tryz.prog 209 3 32 := qat in209 Tryz.underlying209 rfl rfl
@[simp] theorem tz209 : TyZ Tryz.prog 209 [.str [], .int .i64 0, .int .i64 0] := tyZ in209 rfl rfl rfl rfl
theorem in217 : Tryz.prog.info? 217 = some Tryz.t217 := by kernel_rfl
@[simp] theorem ty217 : TyAgg Tryz.prog 217 2 16 := qat in217 Tryz.underlying217 rfl rfl
@[simp] theorem tz217 : TyZ Tryz.prog 217 [.int .i64 0, .int .i64 0] := tyZ in217 rfl rfl rfl rfl
theorem in226 : Tryz.prog.info? 226 = some Tryz.t226 := by kernel_rfl
@[simp] theorem ty226 : TyAgg Tryz.prog 226 3 24 := qat in226 Tryz.underlying226 rfl rfl
theorem in228 : Tryz.prog.info? 228 = some Tryz.t228 := by kernel_rfl
@[simp] theorem ty228 : TyAgg Tryz.prog 228 5 48 := qat in228 Tryz.underlying228 rfl rfl
theorem in230 : Tryz.prog.info? 230 = some Tryz.t230 := by kernel_rfl
@[simp] theorem ty230 : TyAgg Tryz.prog 230 3 48 := qat in230 Tryz.underlying230 rfl rfl
theorem in232 : Tryz.prog.info? 232 = some Tryz.t232 := by kernel_rfl
@[simp] theorem ty232 : TyOne Tryz.prog 232 24 none (some 355) false := qay in232 Tryz.underlying232 rfl rfl
theorem in234 : Tryz.prog.info? 234 = some Tryz.t234 := by kernel_rfl
@[simp] theorem ty234 : TyAgg Tryz.prog 234 5 64 := qat in234 Tryz.underlying234 rfl rfl
theorem in236 : Tryz.prog.info? 236 = some Tryz.t236 := by kernel_rfl
@[simp] theorem ty236 : TyAgg Tryz.prog 236 5 48 := qat in236 Tryz.underlying236 rfl rfl
theorem in238 : Tryz.prog.info? 238 = some Tryz.t238 := by kernel_rfl
@[simp] theorem ty238 : TyAgg Tryz.prog 238 5 48 := qat in238 Tryz.underlying238 rfl rfl
theorem in240 : Tryz.prog.info? 240 = some Tryz.t240 := by kernel_rfl
@[simp] theorem ty240 : TyOne Tryz.prog 240 24 none (some 360) false := qay in240 Tryz.underlying240 rfl rfl
theorem in242 : Tryz.prog.info? 242 = some Tryz.t242 := by kernel_rfl
@[simp] theorem ty242 : TyAgg Tryz.prog 242 6 72 := qat in242 Tryz.underlying242 rfl rfl
theorem in244 : Tryz.prog.info? 244 = some Tryz.t244 := by kernel_rfl
@[simp] theorem ty244 : TyOne Tryz.prog 244 24 none (some 362) false := qay in244 Tryz.underlying244 rfl rfl
theorem in246 : Tryz.prog.info? 246 = some Tryz.t246 := by kernel_rfl
@[simp] theorem ty246 : TyAgg Tryz.prog 246 4 48 := qat in246 Tryz.underlying246 rfl rfl
theorem in248 : Tryz.prog.info? 248 = some Tryz.t248 := by kernel_rfl
@[simp] theorem ty248 : TyAgg Tryz.prog 248 3 24 := qat in248 Tryz.underlying248 rfl rfl
@[simp] theorem tz248 : TyZ Tryz.prog 248 [.int .i64 0, .int .i64 0, .int .i64 0] := tyZ in248 rfl rfl rfl rfl
theorem in250 : Tryz.prog.info? 250 = some Tryz.t250 := by kernel_rfl
@[simp] theorem ty250 : TyAgg Tryz.prog 250 5 48 := qat in250 Tryz.underlying250 rfl rfl
@[simp] theorem tz250 : TyZ Tryz.prog 250 [.str [], .int .i64 0, .int .i64 0, .int .i64 0, .int .i64 0] := tyZ in250 rfl rfl rfl rfl
theorem in303 : Tryz.prog.info? 303 = some Tryz.t303 := by kernel_rfl
@[simp] theorem ty303 : TyAgg Tryz.prog 303 2 24 := qat in303 Tryz.underlying303 rfl rfl
@[simp] theorem tz303 : TyZ Tryz.prog 303 [.str [], .int .i64 0] := tyZ in303 rfl rfl rfl rfl
theorem in323 : Tryz.prog.info? 323 = some Tryz.t323 := by kernel_rfl
@[simp] theorem ty323 : TyAgg Tryz.prog 323 3 24 := qat in323 Tryz.underlying323 rfl rfl
theorem in335 : Tryz.prog.info? 335 = some Tryz.t335 := by kernel_rfl
@[simp] theorem ty335 : TyOne Tryz.prog 335 8 (some .u64) none false := qfn in335 Tryz.underlying335 rfl rfl
theorem in351 : Tryz.prog.info? 351 = some Tryz.t351 := by kernel_rfl
@[simp] theorem ty351 : TyAgg Tryz.prog 351 91 728 := qmf in351 Tryz.underlying351 rfl rfl
@[simp] theorem ar351 : arrT Tryz.prog 351 = some (91, 2) := arrOf Tryz.underlying351
theorem in355 : Tryz.prog.info? 355 = some Tryz.t355 := by kernel_rfl
@[simp] theorem ty355 : TyAgg Tryz.prog 355 2 24 := qat in355 Tryz.underlying355 rfl rfl
theorem in360 : Tryz.prog.info? 360 = some Tryz.t360 := by kernel_rfl
@[simp] theorem ty360 : TyAgg Tryz.prog 360 2 16 := qat in360 Tryz.underlying360 rfl rfl
theorem in362 : Tryz.prog.info? 362 = some Tryz.t362 := by kernel_rfl
@[simp] theorem ty362 : TyAgg Tryz.prog 362 2 16 := qat in362 Tryz.underlying362 rfl rfl
theorem in398 : Tryz.prog.info? 398 = some Tryz.t398 := by kernel_rfl
@[simp] theorem ty398 : TyOne Tryz.prog 398 24 none (some 3) false := qay in398 Tryz.underlying398 rfl rfl
@[simp] theorem gv0 : globV 0 = .pe 91 [sineT] 0 0 := rfl
@[simp] theorem gv1 : globV 1 = .pe 20 [powT] 0 0 := rfl
@[simp] theorem qxk : fldT Tryz.prog 28 0 = some (0, false, 1) := fldOf Tryz.underlying28 rfl rfl ty2.1 ty2.2.1 ty2.2.2.1
@[simp] theorem qxl : fldT Tryz.prog 28 1 = some (1, false, 1) := fldOf Tryz.underlying28 rfl rfl ty2.1 ty2.2.1 ty2.2.2.1
@[simp] theorem qxm : fldT Tryz.prog 28 2 = some (2, false, 1) := fldOf Tryz.underlying28 rfl rfl ty2.1 ty2.2.1 ty2.2.2.1
@[simp] theorem qxn : fldT Tryz.prog 31 0 = some (0, false, 1) := fldOf Tryz.underlying31 rfl rfl ty9.1 ty9.2.1 ty9.2.2.1
@[simp] theorem qxo : fldT Tryz.prog 31 1 = some (1, false, 1) := fldOf Tryz.underlying31 rfl rfl ty2.1 ty2.2.1 ty2.2.2.1
@[simp] theorem qxp : fldT Tryz.prog 31 2 = some (2, false, 1) := fldOf Tryz.underlying31 rfl rfl ty2.1 ty2.2.1 ty2.2.2.1
@[simp] theorem qxq : fldT Tryz.prog 31 3 = some (3, false, 1) := fldOf Tryz.underlying31 rfl rfl ty2.1 ty2.2.1 ty2.2.2.1
@[simp] theorem qxr : fldT Tryz.prog 31 4 = some (4, false, 1) := fldOf Tryz.underlying31 rfl rfl ty2.1 ty2.2.1 ty2.2.2.1
@[simp] theorem qxs : fldT Tryz.prog 36 0 = some (0, false, 1) := fldOf Tryz.underlying36 rfl rfl ty9.1 ty9.2.1 ty9.2.2.1
@[simp] theorem qxt : fldT Tryz.prog 36 1 = some (1, false, 1) := fldOf Tryz.underlying36 rfl rfl ty34.1 ty34.2.1 ty34.2.2.1
@[simp] theorem qxu : fldT Tryz.prog 38 0 = some (0, false, 1) := fldOf Tryz.underlying38 rfl rfl ty23.1 ty23.2.1 ty23.2.2.1
@[simp] theorem qxv : fldT Tryz.prog 38 1 = some (1, false, 1) := fldOf Tryz.underlying38 rfl rfl ty24.1 ty24.2.1 ty24.2.2.1
@[simp] theorem qxw : fldT Tryz.prog 38 2 = some (2, false, 1) := fldOf Tryz.underlying38 rfl rfl ty25.1 ty25.2.1 ty25.2.2.1
@[simp] theorem qxx : fldT Tryz.prog 38 3 = some (3, false, 1) := fldOf Tryz.underlying38 rfl rfl ty26.1 ty26.2.1 ty26.2.2.1
@[simp] theorem qxy : fldT Tryz.prog 38 4 = some (4, true, 3) := fldOf Tryz.underlying38 rfl rfl ty28.1 ty28.2.1 ty28.2.2.1
@[simp] theorem qxz : fldT Tryz.prog 38 5 = some (7, false, 1) := fldOf Tryz.underlying38 rfl rfl ty29.1 ty29.2.1 ty29.2.2.1
@[simp] theorem qxA : fldT Tryz.prog 38 6 = some (8, false, 1) := fldOf Tryz.underlying38 rfl rfl ty2.1 ty2.2.1 ty2.2.2.1
@[simp] theorem qxB : fldT Tryz.prog 38 7 = some (9, true, 5) := fldOf Tryz.underlying38 rfl rfl ty31.1 ty31.2.1 ty31.2.2.1
@[simp] theorem qxC : fldT Tryz.prog 38 8 = some (14, false, 1) := fldOf Tryz.underlying38 rfl rfl ty32.1 ty32.2.1 ty32.2.2.1
@[simp] theorem qxD : fldT Tryz.prog 38 9 = some (15, false, 1) := fldOf Tryz.underlying38 rfl rfl ty2.1 ty2.2.1 ty2.2.2.1
@[simp] theorem qxE : fldT Tryz.prog 38 10 = some (16, false, 1) := fldOf Tryz.underlying38 rfl rfl ty2.1 ty2.2.1 ty2.2.2.1
@[simp] theorem qxF : fldT Tryz.prog 38 11 = some (17, false, 1) := fldOf Tryz.underlying38 rfl rfl ty33.1 ty33.2.1 ty33.2.2.1
@[simp] theorem qxG : fldT Tryz.prog 38 12 = some (18, true, 2) := fldOf Tryz.underlying38 rfl rfl ty36.1 ty36.2.1 ty36.2.2.1
@[simp] theorem qxH : fldT Tryz.prog 51 0 = some (0, false, 1) := fldOf Tryz.underlying51 rfl rfl ty9.1 ty9.2.1 ty9.2.2.1
@[simp] theorem qxI : fldT Tryz.prog 51 1 = some (1, false, 1) := fldOf Tryz.underlying51 rfl rfl ty2.1 ty2.2.1 ty2.2.2.1
@[simp] theorem qxJ : fldT Tryz.prog 51 2 = some (2, false, 1) := fldOf Tryz.underlying51 rfl rfl ty2.1 ty2.2.1 ty2.2.2.1
@[simp] theorem qxK : fldT Tryz.prog 51 3 = some (3, false, 1) := fldOf Tryz.underlying51 rfl rfl ty2.1 ty2.2.1 ty2.2.2.1
@[simp] theorem qxL : fldT Tryz.prog 51 4 = some (4, false, 1) := fldOf Tryz.underlying51 rfl rfl ty2.1 ty2.2.1 ty2.2.2.1
@[simp] theorem qxM : fldT Tryz.prog 53 0 = some (0, false, 1) := fldOf Tryz.underlying53 rfl rfl ty9.1 ty9.2.1 ty9.2.2.1
@[simp] theorem qxN : fldT Tryz.prog 53 1 = some (1, false, 1) := fldOf Tryz.underlying53 rfl rfl ty2.1 ty2.2.1 ty2.2.2.1
@[simp] theorem qxO : fldT Tryz.prog 53 2 = some (2, false, 1) := fldOf Tryz.underlying53 rfl rfl ty2.1 ty2.2.1 ty2.2.2.1
@[simp] theorem qxP : fldT Tryz.prog 53 3 = some (3, false, 1) := fldOf Tryz.underlying53 rfl rfl ty2.1 ty2.2.1 ty2.2.2.1
@[simp] theorem qxQ : fldT Tryz.prog 53 4 = some (4, false, 1) := fldOf Tryz.underlying53 rfl rfl ty2.1 ty2.2.1 ty2.2.2.1
@[simp] theorem qxR : fldT Tryz.prog 56 0 = some (0, false, 1) := fldOf Tryz.underlying56 rfl rfl ty9.1 ty9.2.1 ty9.2.2.1
@[simp] theorem qxS : fldT Tryz.prog 56 1 = some (1, false, 1) := fldOf Tryz.underlying56 rfl rfl ty2.1 ty2.2.1 ty2.2.2.1
@[simp] theorem qxT : fldT Tryz.prog 56 2 = some (2, false, 1) := fldOf Tryz.underlying56 rfl rfl ty2.1 ty2.2.1 ty2.2.2.1
@[simp] theorem qxU : fldT Tryz.prog 56 3 = some (3, false, 1) := fldOf Tryz.underlying56 rfl rfl ty2.1 ty2.2.1 ty2.2.2.1
@[simp] theorem qxV : fldT Tryz.prog 56 4 = some (4, false, 1) := fldOf Tryz.underlying56 rfl rfl ty54.1 ty54.2.1 ty54.2.2.1
@[simp] theorem qxW : fldT Tryz.prog 60 0 = some (0, false, 1) := fldOf Tryz.underlying60 rfl rfl ty9.1 ty9.2.1 ty9.2.2.1
@[simp] theorem qxX : fldT Tryz.prog 60 1 = some (1, false, 1) := fldOf Tryz.underlying60 rfl rfl ty2.1 ty2.2.1 ty2.2.2.1
@[simp] theorem qxY : fldT Tryz.prog 60 2 = some (2, false, 1) := fldOf Tryz.underlying60 rfl rfl ty2.1 ty2.2.1 ty2.2.2.1
@[simp] theorem qxZ : fldT Tryz.prog 60 3 = some (3, false, 1) := fldOf Tryz.underlying60 rfl rfl ty2.1 ty2.2.1 ty2.2.2.1
@[simp] theorem qx0 : fldT Tryz.prog 60 4 = some (4, false, 1) := fldOf Tryz.underlying60 rfl rfl ty2.1 ty2.2.1 ty2.2.2.1
@[simp] theorem qx1 : fldT Tryz.prog 60 5 = some (5, false, 1) := fldOf Tryz.underlying60 rfl rfl ty58.1 ty58.2.1 ty58.2.2.1
@[simp] theorem ts70 : qc7 Tryz.prog 70 = true := qgC Tryz.underlying70 (by simp [in2, in9])
@[simp] theorem qx2 : fldT Tryz.prog 70 0 = some (0, false, 1) := fldOf Tryz.underlying70 rfl rfl ty2.1 ty2.2.1 ty2.2.2.1
@[simp] theorem qx3 : fldT Tryz.prog 70 1 = some (1, false, 1) := fldOf Tryz.underlying70 rfl rfl ty9.1 ty9.2.1 ty9.2.2.1
@[simp] theorem qx4 : fldT Tryz.prog 70 2 = some (2, false, 1) := fldOf Tryz.underlying70 rfl rfl ty9.1 ty9.2.1 ty9.2.2.1
@[simp] theorem qx5 : fldT Tryz.prog 76 0 = some (0, false, 1) := fldOf Tryz.underlying76 rfl rfl ty2.1 ty2.2.1 ty2.2.2.1
@[simp] theorem qx6 : fldT Tryz.prog 76 1 = some (1, false, 1) := fldOf Tryz.underlying76 rfl rfl ty2.1 ty2.2.1 ty2.2.2.1
@[simp] theorem qx7 : fldT Tryz.prog 76 2 = some (2, false, 1) := fldOf Tryz.underlying76 rfl rfl ty2.1 ty2.2.1 ty2.2.2.1
@[simp] theorem qx8 : fldT Tryz.prog 78 0 = some (0, false, 1) := fldOf Tryz.underlying78 rfl rfl ty9.1 ty9.2.1 ty9.2.2.1
@[simp] theorem qx9 : fldT Tryz.prog 78 1 = some (1, false, 1) := fldOf Tryz.underlying78 rfl rfl ty2.1 ty2.2.1 ty2.2.2.1
@[simp] theorem qya : fldT Tryz.prog 78 2 = some (2, false, 1) := fldOf Tryz.underlying78 rfl rfl ty2.1 ty2.2.1 ty2.2.2.1
@[simp] theorem qyb : fldT Tryz.prog 78 3 = some (3, false, 1) := fldOf Tryz.underlying78 rfl rfl ty2.1 ty2.2.1 ty2.2.2.1
@[simp] theorem qyc : fldT Tryz.prog 78 4 = some (4, false, 1) := fldOf Tryz.underlying78 rfl rfl ty2.1 ty2.2.1 ty2.2.2.1
@[simp] theorem qyd : fldT Tryz.prog 83 0 = some (0, false, 1) := fldOf Tryz.underlying83 rfl rfl ty9.1 ty9.2.1 ty9.2.2.1
@[simp] theorem qye : fldT Tryz.prog 83 1 = some (1, false, 1) := fldOf Tryz.underlying83 rfl rfl ty81.1 ty81.2.1 ty81.2.2.1
@[simp] theorem qyf : fldT Tryz.prog 85 0 = some (0, false, 1) := fldOf Tryz.underlying85 rfl rfl ty72.1 ty72.2.1 ty72.2.2.1
@[simp] theorem qyg : fldT Tryz.prog 85 1 = some (1, false, 1) := fldOf Tryz.underlying85 rfl rfl ty73.1 ty73.2.1 ty73.2.2.1
@[simp] theorem qyh : fldT Tryz.prog 85 2 = some (2, false, 1) := fldOf Tryz.underlying85 rfl rfl ty74.1 ty74.2.1 ty74.2.2.1
@[simp] theorem qyi : fldT Tryz.prog 85 3 = some (3, false, 1) := fldOf Tryz.underlying85 rfl rfl ty75.1 ty75.2.1 ty75.2.2.1
@[simp] theorem qyj : fldT Tryz.prog 85 4 = some (4, true, 3) := fldOf Tryz.underlying85 rfl rfl ty76.1 ty76.2.1 ty76.2.2.1
@[simp] theorem qyk : fldT Tryz.prog 85 5 = some (7, false, 1) := fldOf Tryz.underlying85 rfl rfl ty77.1 ty77.2.1 ty77.2.2.1
@[simp] theorem qyl : fldT Tryz.prog 85 6 = some (8, false, 1) := fldOf Tryz.underlying85 rfl rfl ty2.1 ty2.2.1 ty2.2.2.1
@[simp] theorem qym : fldT Tryz.prog 85 7 = some (9, true, 5) := fldOf Tryz.underlying85 rfl rfl ty78.1 ty78.2.1 ty78.2.2.1
@[simp] theorem qyn : fldT Tryz.prog 85 8 = some (14, false, 1) := fldOf Tryz.underlying85 rfl rfl ty79.1 ty79.2.1 ty79.2.2.1
@[simp] theorem qyo : fldT Tryz.prog 85 9 = some (15, false, 1) := fldOf Tryz.underlying85 rfl rfl ty2.1 ty2.2.1 ty2.2.2.1
@[simp] theorem qyp : fldT Tryz.prog 85 10 = some (16, false, 1) := fldOf Tryz.underlying85 rfl rfl ty2.1 ty2.2.1 ty2.2.2.1
@[simp] theorem qyq : fldT Tryz.prog 85 11 = some (17, false, 1) := fldOf Tryz.underlying85 rfl rfl ty80.1 ty80.2.1 ty80.2.2.1
@[simp] theorem qyr : fldT Tryz.prog 85 12 = some (18, true, 2) := fldOf Tryz.underlying85 rfl rfl ty83.1 ty83.2.1 ty83.2.2.1
@[simp] theorem qys : fldT Tryz.prog 121 0 = some (0, false, 1) := fldOf Tryz.underlying121 rfl rfl ty2.1 ty2.2.1 ty2.2.2.1
@[simp] theorem qyt : fldT Tryz.prog 121 1 = some (1, false, 1) := fldOf Tryz.underlying121 rfl rfl ty2.1 ty2.2.1 ty2.2.2.1
@[simp] theorem qyu : fldT Tryz.prog 121 2 = some (2, false, 1) := fldOf Tryz.underlying121 rfl rfl ty2.1 ty2.2.1 ty2.2.2.1
@[simp] theorem qyv : fldT Tryz.prog 125 0 = some (0, false, 1) := fldOf Tryz.underlying125 rfl rfl ty2.1 ty2.2.1 ty2.2.2.1
@[simp] theorem qyw : fldT Tryz.prog 125 1 = some (1, false, 1) := fldOf Tryz.underlying125 rfl rfl ty123.1 ty123.2.1 ty123.2.2.1
@[simp] theorem qyx : fldT Tryz.prog 125 2 = some (2, false, 1) := fldOf Tryz.underlying125 rfl rfl ty2.1 ty2.2.1 ty2.2.2.1
@[simp] theorem qyy : fldT Tryz.prog 125 3 = some (3, false, 1) := fldOf Tryz.underlying125 rfl rfl ty2.1 ty2.2.1 ty2.2.2.1
@[simp] theorem qyz : fldT Tryz.prog 174 0 = some (0, false, 1) := fldOf Tryz.underlying174 rfl rfl ty2.1 ty2.2.1 ty2.2.2.1
@[simp] theorem qyA : fldT Tryz.prog 174 1 = some (1, false, 1) := fldOf Tryz.underlying174 rfl rfl ty2.1 ty2.2.1 ty2.2.2.1
@[simp] theorem ts198 : qc7 Tryz.prog 198 = true := qgC Tryz.underlying198 (by simp [in126, in2, in9])
@[simp] theorem qyB : fldT Tryz.prog 198 0 = some (0, false, 1) := fldOf Tryz.underlying198 rfl rfl ty9.1 ty9.2.1 ty9.2.2.1
@[simp] theorem qyC : fldT Tryz.prog 198 1 = some (1, false, 1) := fldOf Tryz.underlying198 rfl rfl ty126.1 ty126.2.1 ty126.2.2.1
@[simp] theorem qyD : fldT Tryz.prog 198 2 = some (2, false, 1) := fldOf Tryz.underlying198 rfl rfl ty2.1 ty2.2.1 ty2.2.2.1
@[simp] theorem ts209 : qc7 Tryz.prog 209 = true := qgC Tryz.underlying209 (by simp [in2, in9])
@[simp] theorem qyE : fldT Tryz.prog 209 0 = some (0, false, 1) := fldOf Tryz.underlying209 rfl rfl ty9.1 ty9.2.1 ty9.2.2.1
@[simp] theorem qyF : fldT Tryz.prog 209 1 = some (1, false, 1) := fldOf Tryz.underlying209 rfl rfl ty2.1 ty2.2.1 ty2.2.2.1
@[simp] theorem qyG : fldT Tryz.prog 209 2 = some (2, false, 1) := fldOf Tryz.underlying209 rfl rfl ty2.1 ty2.2.1 ty2.2.2.1
@[simp] theorem qyH : fldT Tryz.prog 217 0 = some (0, false, 1) := fldOf Tryz.underlying217 rfl rfl ty2.1 ty2.2.1 ty2.2.2.1
@[simp] theorem qyI : fldT Tryz.prog 217 1 = some (1, false, 1) := fldOf Tryz.underlying217 rfl rfl ty2.1 ty2.2.1 ty2.2.2.1
@[simp] theorem qyJ : fldT Tryz.prog 226 0 = some (0, false, 1) := fldOf Tryz.underlying226 rfl rfl ty2.1 ty2.2.1 ty2.2.2.1
@[simp] theorem qyK : fldT Tryz.prog 226 1 = some (1, false, 1) := fldOf Tryz.underlying226 rfl rfl ty2.1 ty2.2.1 ty2.2.2.1
@[simp] theorem qyL : fldT Tryz.prog 226 2 = some (2, false, 1) := fldOf Tryz.underlying226 rfl rfl ty2.1 ty2.2.1 ty2.2.2.1
@[simp] theorem qyM : fldT Tryz.prog 228 0 = some (0, false, 1) := fldOf Tryz.underlying228 rfl rfl ty9.1 ty9.2.1 ty9.2.2.1
@[simp] theorem qyN : fldT Tryz.prog 228 1 = some (1, false, 1) := fldOf Tryz.underlying228 rfl rfl ty2.1 ty2.2.1 ty2.2.2.1
@[simp] theorem qyO : fldT Tryz.prog 228 2 = some (2, true, 3) := fldOf Tryz.underlying228 rfl rfl ty226.1 ty226.2.1 ty226.2.2.1
@[simp] theorem qyP : fldT Tryz.prog 230 0 = some (0, false, 1) := fldOf Tryz.underlying230 rfl rfl ty9.1 ty9.2.1 ty9.2.2.1
@[simp] theorem qyQ : fldT Tryz.prog 230 1 = some (1, false, 1) := fldOf Tryz.underlying230 rfl rfl ty126.1 ty126.2.1 ty126.2.2.1
@[simp] theorem qyR : fldT Tryz.prog 230 2 = some (2, false, 1) := fldOf Tryz.underlying230 rfl rfl ty2.1 ty2.2.1 ty2.2.2.1
@[simp] theorem qyS : fldT Tryz.prog 234 0 = some (0, false, 1) := fldOf Tryz.underlying234 rfl rfl ty9.1 ty9.2.1 ty9.2.2.1
@[simp] theorem qyT : fldT Tryz.prog 234 1 = some (1, false, 1) := fldOf Tryz.underlying234 rfl rfl ty2.1 ty2.2.1 ty2.2.2.1
@[simp] theorem qyU : fldT Tryz.prog 234 2 = some (2, false, 1) := fldOf Tryz.underlying234 rfl rfl ty2.1 ty2.2.1 ty2.2.2.1
@[simp] theorem qyV : fldT Tryz.prog 234 3 = some (3, false, 1) := fldOf Tryz.underlying234 rfl rfl ty2.1 ty2.2.1 ty2.2.2.1
@[simp] theorem qyW : fldT Tryz.prog 234 4 = some (4, false, 1) := fldOf Tryz.underlying234 rfl rfl ty232.1 ty232.2.1 ty232.2.2.1
@[simp] theorem qyX : fldT Tryz.prog 236 0 = some (0, false, 1) := fldOf Tryz.underlying236 rfl rfl ty9.1 ty9.2.1 ty9.2.2.1
@[simp] theorem qyY : fldT Tryz.prog 236 1 = some (1, false, 1) := fldOf Tryz.underlying236 rfl rfl ty2.1 ty2.2.1 ty2.2.2.1
@[simp] theorem qyZ : fldT Tryz.prog 236 2 = some (2, false, 1) := fldOf Tryz.underlying236 rfl rfl ty2.1 ty2.2.1 ty2.2.2.1
@[simp] theorem qy0 : fldT Tryz.prog 236 3 = some (3, false, 1) := fldOf Tryz.underlying236 rfl rfl ty2.1 ty2.2.1 ty2.2.2.1
@[simp] theorem qy1 : fldT Tryz.prog 236 4 = some (4, false, 1) := fldOf Tryz.underlying236 rfl rfl ty2.1 ty2.2.1 ty2.2.2.1
@[simp] theorem qy2 : fldT Tryz.prog 238 0 = some (0, false, 1) := fldOf Tryz.underlying238 rfl rfl ty9.1 ty9.2.1 ty9.2.2.1
@[simp] theorem qy3 : fldT Tryz.prog 238 1 = some (1, false, 1) := fldOf Tryz.underlying238 rfl rfl ty2.1 ty2.2.1 ty2.2.2.1
@[simp] theorem qy4 : fldT Tryz.prog 238 2 = some (2, false, 1) := fldOf Tryz.underlying238 rfl rfl ty2.1 ty2.2.1 ty2.2.2.1
@[simp] theorem qy5 : fldT Tryz.prog 238 3 = some (3, false, 1) := fldOf Tryz.underlying238 rfl rfl ty2.1 ty2.2.1 ty2.2.2.1
@[simp] theorem qy6 : fldT Tryz.prog 238 4 = some (4, false, 1) := fldOf Tryz.underlying238 rfl rfl ty2.1 ty2.2.1 ty2.2.2.1
@[simp] theorem qy7 : fldT Tryz.prog 242 0 = some (0, false, 1) := fldOf Tryz.underlying242 rfl rfl ty9.1 ty9.2.1 ty9.2.2.1
@[simp] theorem qy8 : fldT Tryz.prog 242 1 = some (1, false, 1) := fldOf Tryz.underlying242 rfl rfl ty2.1 ty2.2.1 ty2.2.2.1
@[simp] theorem qy9 : fldT Tryz.prog 242 2 = some (2, false, 1) := fldOf Tryz.underlying242 rfl rfl ty2.1 ty2.2.1 ty2.2.2.1
@[simp] theorem qza : fldT Tryz.prog 242 3 = some (3, false, 1) := fldOf Tryz.underlying242 rfl rfl ty2.1 ty2.2.1 ty2.2.2.1
@[simp] theorem qzb : fldT Tryz.prog 242 4 = some (4, false, 1) := fldOf Tryz.underlying242 rfl rfl ty2.1 ty2.2.1 ty2.2.2.1
@[simp] theorem qzc : fldT Tryz.prog 242 5 = some (5, false, 1) := fldOf Tryz.underlying242 rfl rfl ty240.1 ty240.2.1 ty240.2.2.1
@[simp] theorem qzd : fldT Tryz.prog 246 0 = some (0, false, 1) := fldOf Tryz.underlying246 rfl rfl ty2.1 ty2.2.1 ty2.2.2.1
@[simp] theorem qze : fldT Tryz.prog 246 1 = some (1, false, 1) := fldOf Tryz.underlying246 rfl rfl ty244.1 ty244.2.1 ty244.2.2.1
@[simp] theorem qzf : fldT Tryz.prog 246 2 = some (2, false, 1) := fldOf Tryz.underlying246 rfl rfl ty2.1 ty2.2.1 ty2.2.2.1
@[simp] theorem qzg : fldT Tryz.prog 246 3 = some (3, false, 1) := fldOf Tryz.underlying246 rfl rfl ty2.1 ty2.2.1 ty2.2.2.1
@[simp] theorem qzh : fldT Tryz.prog 248 0 = some (0, false, 1) := fldOf Tryz.underlying248 rfl rfl ty2.1 ty2.2.1 ty2.2.2.1
@[simp] theorem qzi : fldT Tryz.prog 248 1 = some (1, false, 1) := fldOf Tryz.underlying248 rfl rfl ty2.1 ty2.2.1 ty2.2.2.1
@[simp] theorem qzj : fldT Tryz.prog 248 2 = some (2, false, 1) := fldOf Tryz.underlying248 rfl rfl ty2.1 ty2.2.1 ty2.2.2.1
@[simp] theorem qzk : fldT Tryz.prog 250 0 = some (0, false, 1) := fldOf Tryz.underlying250 rfl rfl ty9.1 ty9.2.1 ty9.2.2.1
@[simp] theorem qzl : fldT Tryz.prog 250 1 = some (1, false, 1) := fldOf Tryz.underlying250 rfl rfl ty2.1 ty2.2.1 ty2.2.2.1
@[simp] theorem qzm : fldT Tryz.prog 250 2 = some (2, true, 3) := fldOf Tryz.underlying250 rfl rfl ty248.1 ty248.2.1 ty248.2.2.1
@[simp] theorem qzn : fldT Tryz.prog 303 0 = some (0, false, 1) := fldOf Tryz.underlying303 rfl rfl ty9.1 ty9.2.1 ty9.2.2.1
@[simp] theorem qzo : fldT Tryz.prog 303 1 = some (1, false, 1) := fldOf Tryz.underlying303 rfl rfl ty2.1 ty2.2.1 ty2.2.2.1
@[simp] theorem qzp : fldT Tryz.prog 323 0 = some (0, false, 1) := fldOf Tryz.underlying323 rfl rfl ty2.1 ty2.2.1 ty2.2.2.1
@[simp] theorem qzq : fldT Tryz.prog 323 1 = some (1, false, 1) := fldOf Tryz.underlying323 rfl rfl ty2.1 ty2.2.1 ty2.2.2.1
@[simp] theorem qzr : fldT Tryz.prog 323 2 = some (2, false, 1) := fldOf Tryz.underlying323 rfl rfl ty2.1 ty2.2.1 ty2.2.2.1
@[simp] theorem qzs : fldT Tryz.prog 355 0 = some (0, false, 1) := fldOf Tryz.underlying355 rfl rfl ty9.1 ty9.2.1 ty9.2.2.1
@[simp] theorem qzt : fldT Tryz.prog 355 1 = some (1, false, 1) := fldOf Tryz.underlying355 rfl rfl ty2.1 ty2.2.1 ty2.2.2.1
@[simp] theorem qzu : fldT Tryz.prog 360 0 = some (0, false, 1) := fldOf Tryz.underlying360 rfl rfl ty2.1 ty2.2.1 ty2.2.2.1
@[simp] theorem qzv : fldT Tryz.prog 360 1 = some (1, false, 1) := fldOf Tryz.underlying360 rfl rfl ty2.1 ty2.2.1 ty2.2.2.1
@[simp] theorem qzw : fldT Tryz.prog 362 0 = some (0, false, 1) := fldOf Tryz.underlying362 rfl rfl ty2.1 ty2.2.1 ty2.2.2.1
@[simp] theorem qzx : fldT Tryz.prog 362 1 = some (1, false, 1) := fldOf Tryz.underlying362 rfl rfl ty2.1 ty2.2.1 ty2.2.2.1
@[simp] theorem res_3 : Tryz.f3.results.toList = [.tmp 2] := rfl
@[simp] theorem res_4 : Tryz.f4.results.toList = [.tmp 2] := rfl
@[simp] theorem res_5 : Tryz.f5.results.toList = [.tmp 2] := rfl
@[simp] theorem res_6 : Tryz.f6.results.toList = [.cell 2 38] := rfl
@[simp] theorem res_7 : Tryz.f7.results.toList = [.tmp 2] := rfl
@[simp] theorem res_8 : Tryz.f8.results.toList = [.tmp 2, .tmp 3] := rfl
@[simp] theorem res_9 : Tryz.f9.results.toList = [.tmp 6] := rfl
@[simp] theorem qzy : Tryz.f10.results.toList = [.tmp 6] := rfl
@[simp] theorem qzz : Tryz.f11.results.toList = [.tmp 2, .tmp 3] := rfl
@[simp] theorem qzA : Tryz.f12.results.toList = [.tmp 4] := rfl
@[simp] theorem qzB : Tryz.f13.results.toList = [.tmp 6] := rfl
@[simp] theorem qzC : Tryz.f14.results.toList = [.tmp 2, .tmp 3] := rfl
@[simp] theorem qzD : Tryz.f15.results.toList = [.tmp 4, .tmp 5] := rfl
@[simp] theorem qzE : Tryz.f16.results.toList = [.tmp 2, .tmp 3] := rfl
@[simp] theorem qzF : Tryz.f17.results.toList = [.tmp 2, .tmp 3] := rfl
@[simp] theorem qzG : Tryz.f18.results.toList = [.tmp 2, .tmp 3] := rfl
@[simp] theorem qzH : Tryz.f19.results.toList = [.tmp 2, .tmp 3] := rfl
@[simp] theorem qzI : Tryz.f20.results.toList = [.tmp 2] := rfl
@[simp] theorem qzJ : Tryz.f21.results.toList = [.tmp 2] := rfl
@[simp] theorem qzK : Tryz.f22.results.toList = [.tmp 2] := rfl
@[simp] theorem qzL : Tryz.f23.results.toList = [.tmp 4] := rfl
@[simp] theorem qzM : Tryz.f24.results.toList = [.tmp 2, .tmp 3] := rfl
@[simp] theorem qzN : Tryz.f25.results.toList = [.cell 2 38] := rfl
@[simp] theorem qzO : Tryz.f26.results.toList = [.tmp 4] := rfl
@[simp] theorem qzP : Tryz.f27.results.toList = [.tmp 4] := rfl
@[simp] theorem qzQ : Tryz.f28.results.toList = [.tmp 4] := rfl
@[simp] theorem qzR : Tryz.f29.results.toList = [.tmp 4] := rfl
@[simp] theorem qzS : Tryz.f30.results.toList = [.tmp 4] := rfl
@[simp] theorem qzT : Tryz.f31.results.toList = [.tmp 2] := rfl
@[simp] theorem qzU : Tryz.f32.results.toList = [.cell 2 38] := rfl
@[simp] theorem qzV : Tryz.f33.results.toList = [.tmp 2] := rfl
@[simp] theorem qzW : Tryz.f34.results.toList = [.tmp 4, .tmp 5] := rfl
@[simp] theorem qzX : Tryz.f35.results.toList = [.tmp 2] := rfl
@[simp] theorem qzY : Tryz.f36.results.toList = [.tmp 2] := rfl
@[simp] theorem qzZ : Tryz.f37.results.toList = [.tmp 2] := rfl
@[simp] theorem qz0 : Tryz.f38.results.toList = [.tmp 2] := rfl
@[simp] theorem qz1 : Tryz.f39.results.toList = [.tmp 4] := rfl
@[simp] theorem qz2 : Tryz.f40.results.toList = [.tmp 4] := rfl
@[simp] theorem qz3 : Tryz.f41.results.toList = [.tmp 4] := rfl
@[simp] theorem qz4 : Tryz.f42.results.toList = [.tmp 2] := rfl
@[simp] theorem qz5 : Tryz.f43.results.toList = [.tmp 2] := rfl
@[simp] theorem qz6 : Tryz.f44.results.toList = [.tmp 2] := rfl
@[simp] theorem qz7 : Tryz.f45.results.toList = [.tmp 6] := rfl
@[simp] theorem qz8 : Tryz.f46.results.toList = [.tmp 4] := rfl
@[simp] theorem qz9 : Tryz.f47.results.toList = [.tmp 2] := rfl
@[simp] theorem qAa : Tryz.f48.results.toList = [.tmp 2, .tmp 3] := rfl
@[simp] theorem qAb : Tryz.f49.results.toList = [.tmp 4, .tmp 5] := rfl
@[simp] theorem qAc : Tryz.f50.results.toList = [.tmp 2] := rfl
@[simp] theorem qAd : Tryz.f51.results.toList = [.tmp 6] := rfl
@[simp] theorem qAe : Tryz.f52.results.toList = [.tmp 2] := rfl
@[simp] theorem qAf : Tryz.f53.results.toList = [.tmp 4] := rfl
@[simp] theorem qAg : Tryz.f54.results.toList = [.tmp 2] := rfl
@[simp] theorem qAh : Tryz.f55.results.toList = [.tmp 2] := rfl
@[simp] theorem qAi : Tryz.f56.results.toList = [.tmp 4] := rfl
@[simp] theorem qAj : Tryz.f57.results.toList = [.tmp 4] := rfl
@[simp] theorem qAk : Tryz.f58.results.toList = [.tmp 4] := rfl
@[simp] theorem qAl : Tryz.f59.results.toList = [.tmp 4] := rfl
@[simp] theorem qAm : Tryz.f60.results.toList = [.tmp 4] := rfl
@[simp] theorem qAn : Tryz.f61.results.toList = [.tmp 4] := rfl
@[simp] theorem qAo : Tryz.f62.results.toList = [.tmp 4] := rfl
@[simp] theorem qAp : Tryz.f63.results.toList = [.tmp 4] := rfl
@[simp] theorem qAq : Tryz.f64.results.toList = [.tmp 4] := rfl
@[simp] theorem qAr : Tryz.f65.results.toList = [.tmp 2] := rfl
@[simp] theorem qAs : Tryz.f66.results.toList = [.tmp 2] := rfl
@[simp] theorem qAt : Tryz.f67.results.toList = [.tmp 2] := rfl
@[simp] theorem qAu : Tryz.f68.results.toList = [.tmp 2] := rfl
@[simp] theorem qAv : Tryz.f69.results.toList = [.tmp 2] := rfl
@[simp] theorem qAw : Tryz.f70.results.toList = [.cell 2 28] := rfl
@[simp] theorem qAx : Tryz.f71.results.toList = [.tmp 2] := rfl
@[simp] theorem qAy : Tryz.f72.results.toList = [.cell 2 31] := rfl
@[simp] theorem qAz : Tryz.f73.results.toList = [.tmp 2] := rfl
@[simp] theorem qAA : Tryz.f74.results.toList = [.tmp 2] := rfl
@[simp] theorem qAB : Tryz.f75.results.toList = [.cell 2 36] := rfl
@[simp] theorem qAC : Tryz.f76.results.toList = [.tmp 4] := rfl
@[simp] theorem qAD : Tryz.f77.results.toList = [.tmp 4] := rfl
@[simp] theorem qAE : Tryz.f78.results.toList = [.tmp 4] := rfl
@[simp] theorem qAF : Tryz.f79.results.toList = [.tmp 4] := rfl
@[simp] theorem qAG : Tryz.f80.results.toList = [.tmp 4] := rfl
@[simp] theorem qAH : Tryz.f81.results.toList = [.tmp 4] := rfl
@[simp] theorem qAI : Tryz.f82.results.toList = [.tmp 4] := rfl
@[simp] theorem qAJ : Tryz.f83.results.toList = [.tmp 4] := rfl
@[simp] theorem qAK : Tryz.f84.results.toList = [.tmp 4] := rfl
@[simp] theorem qAL : Tryz.f85.results.toList = [.tmp 4] := rfl
@[simp] theorem qAM : Tryz.f86.results.toList = [.tmp 4] := rfl
@[simp] theorem qAN : Tryz.f87.results.toList = [.tmp 4] := rfl
@[simp] theorem qAO : Tryz.f88.results.toList = [.tmp 4] := rfl
@[simp] theorem qAP : Tryz.f89.results.toList = [.tmp 4] := rfl
@[simp] theorem qAQ : Tryz.f90.results.toList = [.tmp 4] := rfl
@[simp] theorem qAR : Tryz.f91.results.toList = [.tmp 4] := rfl
@[simp] theorem qAS : Tryz.f92.results.toList = [.tmp 4] := rfl
@[simp] theorem qAT : Tryz.f93.results.toList = [.tmp 4] := rfl
@[simp] theorem qAU : Tryz.f94.results.toList = [.tmp 4] := rfl
@[simp] theorem qAV : Tryz.f95.results.toList = [.tmp 2] := rfl
@[simp] theorem qAW : Tryz.f96.results.toList = [.tmp 2, .tmp 3, .tmp 4] := rfl
@[simp] theorem qAX : Tryz.f97.results.toList = [.tmp 4] := rfl
@[simp] theorem qAY : Tryz.f98.results.toList = [.cell 2 60] := rfl
@[simp] theorem qAZ : Tryz.f99.results.toList = [.tmp 2] := rfl
@[simp] theorem qA0 : Tryz.f100.results.toList = [.tmp 4] := rfl
@[simp] theorem qA1 : Tryz.f101.results.toList = [.tmp 2] := rfl
@[simp] theorem qA2 : Tryz.f102.results.toList = [.tmp 2] := rfl
@[simp] theorem qA3 : Tryz.f103.results.toList = [.tmp 2] := rfl
@[simp] theorem qA4 : Tryz.f104.results.toList = [.tmp 2] := rfl
@[simp] theorem qA5 : Tryz.f105.results.toList = [.tmp 2] := rfl
@[simp] theorem qA6 : Tryz.f106.results.toList = [.tmp 2] := rfl
@[simp] theorem qA7 : Tryz.f107.results.toList = [.tmp 6] := rfl
@[simp] theorem qA8 : Tryz.f108.results.toList = [.tmp 2] := rfl
@[simp] theorem qA9 : Tryz.f109.results.toList = [.tmp 6] := rfl
@[simp] theorem qBa : Tryz.f110.results.toList = [.tmp 4] := rfl
@[simp] theorem qBb : Tryz.f111.results.toList = [.tmp 3] := rfl
@[simp] theorem qBc : Tryz.f112.results.toList = [.tmp 4] := rfl
@[simp] theorem qBd : Tryz.f113.results.toList = [.tmp 3] := rfl
@[simp] theorem qBe : Tryz.f114.results.toList = [.tmp 6, .tmp 7] := rfl
@[simp] theorem qBf : Tryz.f115.results.toList = [.tmp 4] := rfl
@[simp] theorem qBg : Tryz.f116.results.toList = [.tmp 2] := rfl
@[simp] theorem qBh : Tryz.f117.results.toList = [.tmp 4] := rfl
@[simp] theorem qBi : Tryz.f118.results.toList = [.tmp 2] := rfl
@[simp] theorem qBj : Tryz.f119.results.toList = [.tmp 2] := rfl
@[simp] theorem qBk : Tryz.f120.results.toList = [.tmp 4] := rfl
@[simp] theorem qBl : Tryz.f121.results.toList = [.tmp 2] := rfl
@[simp] theorem qBm : Tryz.f122.results.toList = [.tmp 4, .tmp 5] := rfl
@[simp] theorem qBn : Tryz.f123.results.toList = [.tmp 4] := rfl
@[simp] theorem qBo : Tryz.f124.results.toList = [.tmp 3] := rfl
@[simp] theorem qBp : Tryz.f125.results.toList = [.tmp 2] := rfl
@[simp] theorem qBq : Tryz.f126.results.toList = [.tmp 4] := rfl
@[simp] theorem qBr : Tryz.f127.results.toList = [.tmp 4] := rfl
@[simp] theorem qBs : Tryz.f128.results.toList = [.tmp 4] := rfl
@[simp] theorem qBt : Tryz.f129.results.toList = [.tmp 2] := rfl
@[simp] theorem qBu : Tryz.f130.results.toList = [.tmp 6] := rfl
@[simp] theorem qBv : Tryz.f131.results.toList = [.tmp 4] := rfl
@[simp] theorem qBw : Tryz.f132.results.toList = [.tmp 2] := rfl
@[simp] theorem qBx : Tryz.f133.results.toList = [.tmp 2, .tmp 3, .tmp 4] := rfl
@[simp] theorem qBy : Tryz.f134.results.toList = [.tmp 4] := rfl
@[simp] theorem qBz : Tryz.f135.results.toList = [.tmp 2] := rfl
@[simp] theorem qBA : Tryz.f136.results.toList = [.tmp 2] := rfl
@[simp] theorem qBB : Tryz.f137.results.toList = [.tmp 2] := rfl
@[simp] theorem qBC : Tryz.f138.results.toList = [.tmp 4] := rfl
@[simp] theorem qBD : Tryz.f139.results.toList = [.tmp 2] := rfl
@[simp] theorem qBE : Tryz.f140.results.toList = [.tmp 4] := rfl
@[simp] theorem qBF : Tryz.f141.results.toList = [.tmp 2] := rfl
@[simp] theorem qBG : Tryz.f142.results.toList = [.tmp 2] := rfl
@[simp] theorem qBH : Tryz.f143.results.toList = [.tmp 2] := rfl
@[simp] theorem qBI : Tryz.f144.results.toList = [.tmp 4] := rfl
@[simp] theorem qBJ : Tryz.f145.results.toList = [.tmp 2] := rfl
@[simp] theorem qBK : Tryz.f146.results.toList = [.tmp 6] := rfl
@[simp] theorem qBL : Tryz.f147.results.toList = [.tmp 4] := rfl
@[simp] theorem qBM : Tryz.f148.results.toList = [.tmp 4] := rfl
@[simp] theorem qBN : Tryz.f149.results.toList = [.tmp 4] := rfl
@[simp] theorem qBO : Tryz.f150.results.toList = [.tmp 4] := rfl
@[simp] theorem qBP : Tryz.f151.results.toList = [.tmp 4] := rfl
@[simp] theorem qBQ : Tryz.f152.results.toList = [.tmp 4] := rfl
@[simp] theorem qBR : Tryz.f153.results.toList = [.tmp 4] := rfl
@[simp] theorem qBS : Tryz.f154.results.toList = [.tmp 4] := rfl
@[simp] theorem qBT : Tryz.f155.results.toList = [.tmp 2] := rfl
@[simp] theorem qBU : Tryz.f156.results.toList = [.tmp 2] := rfl
@[simp] theorem qBV : Tryz.f157.results.toList = [.tmp 2] := rfl
@[simp] theorem qBW : Tryz.f158.results.toList = [.tmp 2] := rfl
@[simp] theorem qBX : Tryz.f159.results.toList = [.cell 2 250] := rfl
@[simp] theorem qBY : Tryz.f160.results.toList = [.cell 2 198] := rfl
@[simp] theorem qBZ : Tryz.f161.results.toList = [.cell 2 56] := rfl
@[simp] theorem qB0 : Tryz.f162.results.toList = [.cell 2 53] := rfl
@[simp] theorem qB1 : Tryz.f163.results.toList = [.cell 2 51] := rfl
@[simp] theorem qB2 : Tryz.f164.results.toList = [.cell 2 60] := rfl
@[simp] theorem qB3 : Tryz.f165.results.toList = [.cell 2 125] := rfl
@[simp] theorem qB4 : Tryz.f166.results.toList = [.tmp 2] := rfl
@[simp] theorem qB5 : Tryz.f167.results.toList = [.tmp 4] := rfl
@[simp] theorem qB6 : Tryz.f168.results.toList = [.tmp 4] := rfl
@[simp] theorem qB7 : Tryz.f169.results.toList = [.tmp 4] := rfl
@[simp] theorem qB8 : Tryz.f170.results.toList = [.tmp 4] := rfl
@[simp] theorem qB9 : Tryz.f171.results.toList = [.tmp 4] := rfl
@[simp] theorem qCa : Tryz.f172.results.toList = [.tmp 4] := rfl
@[simp] theorem qCb : Tryz.f173.results.toList = [.tmp 4] := rfl
@[simp] theorem qCc : Tryz.f174.results.toList = [.tmp 4] := rfl
@[simp] theorem qCd : Tryz.f175.results.toList = [.tmp 4] := rfl
@[simp] theorem qCe : Tryz.f176.results.toList = [.tmp 4] := rfl
@[simp] theorem qCf : Tryz.f177.results.toList = [.tmp 4] := rfl
@[simp] theorem qCg : Tryz.f178.results.toList = [.tmp 4] := rfl
@[simp] theorem qCh : Tryz.f179.results.toList = [.tmp 4] := rfl
@[simp] theorem qCi : Tryz.f180.results.toList = [.tmp 2, .tmp 3] := rfl
@[simp] theorem qCj : Tryz.f181.results.toList = [.tmp 6, .tmp 7] := rfl
@[simp] theorem qCk : Tryz.f182.results.toList = [.cell 4 56] := rfl
@[simp] theorem qCl : Tryz.f183.results.toList = [.tmp 2] := rfl
@[simp] theorem qCm : Tryz.f184.results.toList = [.tmp 4] := rfl
@[simp] theorem qCn : Tryz.f185.results.toList = [.tmp 2] := rfl
@[simp] theorem qCo : Tryz.f186.results.toList = [.tmp 2] := rfl
@[simp] theorem qCp : Tryz.f187.results.toList = [.tmp 4] := rfl
@[simp] theorem qCq : Tryz.f188.results.toList = [.tmp 2] := rfl
@[simp] theorem qCr : Tryz.f189.results.toList = [.tmp 2] := rfl
@[simp] theorem qCs : Tryz.f190.results.toList = [.tmp 2] := rfl
@[simp] theorem qCt : Tryz.f191.results.toList = [.tmp 2] := rfl
@[simp] theorem qCu : Tryz.f192.results.toList = [.tmp 2] := rfl
@[simp] theorem qCv : Tryz.f193.results.toList = [.tmp 2] := rfl
@[simp] theorem qCw : Tryz.f194.results.toList = [.tmp 2] := rfl
@[simp] theorem qCx : Tryz.f195.results.toList = [.tmp 2] := rfl
@[simp] theorem qCy : Tryz.f196.results.toList = [.tmp 2] := rfl
@[simp] theorem qCz : Tryz.f197.results.toList = [.tmp 2] := rfl
@[simp] theorem qCA : Tryz.f198.results.toList = [.tmp 2] := rfl
@[simp] theorem qCB : Tryz.f199.results.toList = [.tmp 2] := rfl
@[simp] theorem qCC : Tryz.f200.results.toList = [.tmp 4] := rfl
@[simp] theorem qCD : Tryz.f201.results.toList = [.tmp 4] := rfl
@[simp] theorem qCE : Tryz.f202.results.toList = [.tmp 4] := rfl
@[simp] theorem qCF : Tryz.f203.results.toList = [.tmp 4] := rfl
@[simp] theorem qCG : Tryz.f204.results.toList = [.tmp 6] := rfl
@[simp] theorem qCH : Tryz.f205.results.toList = [.tmp 4] := rfl
@[simp] theorem qCI : Tryz.f206.results.toList = [.tmp 4, .tmp 5] := rfl
@[simp] theorem qCJ : Tryz.f207.results.toList = [.tmp 2, .tmp 3] := rfl
@[simp] theorem qCK : Tryz.f208.results.toList = [] := rfl
@[simp] theorem qCL : Tryz.f209.results.toList = [.tmp 2] := rfl
@[simp] theorem qCM : Tryz.f210.results.toList = [.tmp 4] := rfl
@[simp] theorem qCN : Tryz.f211.results.toList = [.tmp 3] := rfl
@[simp] theorem qCO : Tryz.f212.results.toList = [.tmp 2] := rfl
@[simp] theorem qCP : Tryz.f213.results.toList = [.tmp 2] := rfl
@[simp] theorem qCQ : Tryz.f214.results.toList = [.tmp 4, .tmp 5] := rfl
@[simp] theorem qCR : Tryz.f215.results.toList = [.tmp 4] := rfl
@[simp] theorem qCS : Tryz.f216.results.toList = [.tmp 4] := rfl
@[simp] theorem qCT : Tryz.f217.results.toList = [.tmp 2] := rfl
@[simp] theorem qCU : Tryz.f218.results.toList = [.tmp 2] := rfl
@[simp] theorem qCV : Tryz.f219.results.toList = [.tmp 2] := rfl
@[simp] theorem qCW : Tryz.f220.results.toList = [.tmp 4, .tmp 5, .tmp 6] := rfl
@[simp] theorem qCX : Tryz.f221.results.toList = [.tmp 4] := rfl
@[simp] theorem qCY : Tryz.f222.results.toList = [.tmp 2] := rfl
@[simp] theorem qCZ : Tryz.f223.results.toList = [.tmp 2] := rfl
@[simp] theorem qC0 : Tryz.f224.results.toList = [.tmp 2] := rfl
@[simp] theorem qC1 : Tryz.f225.results.toList = [.tmp 2] := rfl
@[simp] theorem qC2 : Tryz.f226.results.toList = [.tmp 2] := rfl
@[simp] theorem qC3 : Tryz.f227.results.toList = [.tmp 4] := rfl
@[simp] theorem qC4 : Tryz.f228.results.toList = [.tmp 2] := rfl
@[simp] theorem qC5 : Tryz.f229.results.toList = [.tmp 2] := rfl
@[simp] theorem qC6 : Tryz.f230.results.toList = [.tmp 2, .tmp 3] := rfl
@[simp] theorem qC7 : Tryz.f231.results.toList = [.tmp 4] := rfl
@[simp] theorem qC8 : Tryz.f232.results.toList = [.tmp 4] := rfl
@[simp] theorem qC9 : Tryz.f233.results.toList = [.tmp 2] := rfl
@[simp] theorem qDa : Tryz.f234.results.toList = [.tmp 4] := rfl
@[simp] theorem qDb : Tryz.f235.results.toList = [.tmp 4] := rfl
@[simp] theorem qDc : Tryz.f236.results.toList = [.tmp 4] := rfl
@[simp] theorem qDd : Tryz.f237.results.toList = [.tmp 4] := rfl
@[simp] theorem qDe : Tryz.f238.results.toList = [.tmp 4] := rfl
@[simp] theorem qDf : Tryz.f239.results.toList = [.tmp 4] := rfl
@[simp] theorem qDg : Tryz.f240.results.toList = [.tmp 2, .tmp 3] := rfl
@[simp] theorem qDh : Tryz.f241.results.toList = [.tmp 2] := rfl
@[simp] theorem qDi : Tryz.f242.results.toList = [.tmp 4] := rfl
@[simp] theorem qDj : Tryz.f243.results.toList = [.tmp 2] := rfl
@[simp] theorem qDk : Tryz.f244.results.toList = [.cell 2 248] := rfl
@[simp] theorem qDl : Tryz.f245.results.toList = [.tmp 2] := rfl
@[simp] theorem qDm : Tryz.f246.results.toList = [.tmp 2] := rfl
@[simp] theorem qDn : Tryz.f247.results.toList = [.tmp 2] := rfl
@[simp] theorem qDo : Tryz.f248.results.toList = [.tmp 2] := rfl
@[simp] theorem qDp : Tryz.f249.results.toList = [.cell 2 121] := rfl
@[simp] theorem qDq : Tryz.f250.results.toList = [.tmp 4] := rfl
@[simp] theorem qDr : Tryz.f251.results.toList = [.tmp 4] := rfl
@[simp] theorem qDs : Tryz.f252.results.toList = [.tmp 4] := rfl
@[simp] theorem qDt : Tryz.f253.results.toList = [.tmp 4] := rfl
@[simp] theorem qDu : Tryz.f254.results.toList = [.tmp 4] := rfl
@[simp] theorem qDv : Tryz.f255.results.toList = [.tmp 4] := rfl
@[simp] theorem qDw : Tryz.f256.results.toList = [.tmp 2] := rfl
@[simp] theorem qDx : Tryz.f257.results.toList = [.tmp 6, .tmp 7] := rfl
@[simp] theorem qDy : Tryz.f258.results.toList = [.cell 4 198] := rfl
@[simp] theorem qDz : Tryz.f259.results.toList = [.cell 2 56] := rfl
@[simp] theorem qDA : Tryz.f260.results.toList = [.tmp 4] := rfl
@[simp] theorem qDB : Tryz.f261.results.toList = [.tmp 4] := rfl
@[simp] theorem qDC : Tryz.f262.results.toList = [.tmp 2] := rfl
@[simp] theorem qDD : Tryz.f263.results.toList = [.tmp 2] := rfl
@[simp] theorem qDE : Tryz.f264.results.toList = [.tmp 2] := rfl
@[simp] theorem qDF : Tryz.f265.results.toList = [.tmp 4] := rfl
@[simp] theorem qDG : Tryz.f266.results.toList = [.tmp 3] := rfl
@[simp] theorem qDH : Tryz.f267.results.toList = [.tmp 4] := rfl
@[simp] theorem qDI : Tryz.f268.results.toList = [.tmp 2] := rfl
@[simp] theorem qDJ : Tryz.f269.results.toList = [.tmp 2] := rfl
@[simp] theorem qDK : Tryz.f270.results.toList = [.tmp 2] := rfl
@[simp] theorem qDL : Tryz.f271.results.toList = [.tmp 2] := rfl
@[simp] theorem qDM : Tryz.f272.results.toList = [.tmp 2] := rfl
@[simp] theorem qDN : Tryz.f273.results.toList = [.tmp 4] := rfl
@[simp] theorem qDO : Tryz.f274.results.toList = [.tmp 4] := rfl
@[simp] theorem qDP : Tryz.f275.results.toList = [.cell 4 198, .tmp 5] := rfl
@[simp] theorem qDQ : Tryz.f276.results.toList = [.tmp 3] := rfl
@[simp] theorem qDR : Tryz.f277.results.toList = [.tmp 4] := rfl
@[simp] theorem qDS : Tryz.f278.results.toList = [.tmp 2] := rfl
@[simp] theorem qDT : Tryz.f279.results.toList = [.tmp 2] := rfl
@[simp] theorem qDU : Tryz.f280.results.toList = [.tmp 4] := rfl
@[simp] theorem qDV : Tryz.f281.results.toList = [.tmp 4] := rfl
@[simp] theorem qDW : Tryz.f282.results.toList = [] := rfl
@[simp] theorem qDX : Tryz.f283.results.toList = [.tmp 2] := rfl
@[simp] theorem qDY : Tryz.f284.results.toList = [.tmp 4] := rfl
@[simp] theorem qDZ : Tryz.f285.results.toList = [.tmp 4] := rfl
@[simp] theorem qD0 : Tryz.f286.results.toList = [.tmp 2] := rfl
@[simp] theorem qD1 : Tryz.f287.results.toList = [.tmp 2] := rfl
@[simp] theorem qD2 : Tryz.f288.results.toList = [.tmp 2] := rfl
@[simp] theorem qD3 : Tryz.f289.results.toList = [.tmp 4] := rfl
@[simp] theorem qD4 : Tryz.f290.results.toList = [.tmp 4] := rfl
@[simp] theorem qD5 : Tryz.f291.results.toList = [.tmp 4] := rfl
@[simp] theorem qD6 : Tryz.f292.results.toList = [.tmp 4, .tmp 5] := rfl
@[simp] theorem qD7 : Tryz.f293.results.toList = [.tmp 2] := rfl
@[simp] theorem qD8 : Tryz.f294.results.toList = [.cell 2 303] := rfl
@[simp] theorem qD9 : Tryz.f295.results.toList = [.cell 2 217] := rfl
@[simp] theorem qEa : Tryz.f296.results.toList = [.cell 2 174] := rfl
@[simp] theorem qEb : Tryz.f297.results.toList = [.tmp 4] := rfl
@[simp] theorem qEc : Tryz.f298.results.toList = [.tmp 4] := rfl
@[simp] theorem qEd : Tryz.f299.results.toList = [.tmp 4] := rfl
@[simp] theorem qEe : Tryz.f300.results.toList = [.cell 2 248] := rfl
@[simp] theorem qEf : Tryz.f301.results.toList = [.tmp 4] := rfl
@[simp] theorem qEg : Tryz.f302.results.toList = [.tmp 4] := rfl
@[simp] theorem qEh : Tryz.f303.results.toList = [.cell 2 198] := rfl
@[simp] theorem qEi : Tryz.f304.results.toList = [.tmp 2] := rfl
@[simp] theorem qEj : Tryz.f305.results.toList = [.tmp 2] := rfl
@[simp] theorem qEk : Tryz.f306.results.toList = [.tmp 4] := rfl
@[simp] theorem qEl : Tryz.f307.results.toList = [.tmp 4] := rfl
@[simp] theorem qEm : Tryz.f308.results.toList = [.tmp 3] := rfl
@[simp] theorem qEn : Tryz.f309.results.toList = [.tmp 4] := rfl
@[simp] theorem qEo : Tryz.f310.results.toList = [.tmp 2] := rfl
@[simp] theorem qEp : Tryz.f311.results.toList = [.tmp 4] := rfl
@[simp] theorem qEq : Tryz.f312.results.toList = [.tmp 2] := rfl
@[simp] theorem qEr : Tryz.f313.results.toList = [.tmp 4] := rfl
@[simp] theorem qEs : Tryz.f314.results.toList = [.tmp 2] := rfl
@[simp] theorem qEt : Tryz.f315.results.toList = [.tmp 2] := rfl
@[simp] theorem qEu : Tryz.f316.results.toList = [.tmp 2] := rfl
@[simp] theorem qEv : Tryz.f317.results.toList = [.tmp 2] := rfl
@[simp] theorem qEw : Tryz.f318.results.toList = [.tmp 4] := rfl
@[simp] theorem qEx : Tryz.f319.results.toList = [.tmp 4] := rfl
@[simp] theorem qEy : Tryz.f320.results.toList = [.tmp 3] := rfl
@[simp] theorem qEz : Tryz.f321.results.toList = [.tmp 4] := rfl
@[simp] theorem qEA : Tryz.f322.results.toList = [.tmp 4, .tmp 5] := rfl
@[simp] theorem qEB : Tryz.f323.results.toList = [.tmp 4] := rfl
@[simp] theorem qEC : Tryz.f324.results.toList = [] := rfl
@[simp] theorem qED : Tryz.f325.results.toList = [] := rfl
@[simp] theorem qEE : Tryz.f326.results.toList = [] := rfl
@[simp] theorem qEF : Tryz.f327.results.toList = [.tmp 6, .tmp 7] := rfl
@[simp] theorem qEG : Tryz.f328.results.toList = [] := rfl
@[simp] theorem qEH : Tryz.f329.results.toList = [.tmp 6] := rfl
@[simp] theorem qEI : Tryz.f330.results.toList = [.tmp 4] := rfl
@[simp] theorem qEJ : Tryz.f331.results.toList = [.tmp 8] := rfl
@[simp] theorem qEK : Tryz.f332.results.toList = [.tmp 8, .tmp 9] := rfl
@[simp] theorem qEL : Tryz.f333.results.toList = [.tmp 2] := rfl
@[simp] theorem qEM : Tryz.f334.results.toList = [.tmp 2] := rfl
@[simp] theorem qEN : Tryz.f335.results.toList = [.tmp 4] := rfl
@[simp] theorem qEO : Tryz.f336.results.toList = [.tmp 4] := rfl
@[simp] theorem qEP : Tryz.f337.results.toList = [.tmp 4] := rfl
@[simp] theorem qEQ : Tryz.f338.results.toList = [.tmp 2] := rfl
@[simp] theorem qER : Tryz.f339.results.toList = [.tmp 2] := rfl
@[simp] theorem qES : Tryz.f340.results.toList = [.tmp 4] := rfl
@[simp] theorem qET : Tryz.f341.results.toList = [.tmp 4] := rfl
@[simp] theorem qEU : Tryz.f342.results.toList = [.tmp 4] := rfl
@[simp] theorem qEV : Tryz.f343.results.toList = [.tmp 2] := rfl
@[simp] theorem qEW : Tryz.f344.results.toList = [.tmp 3] := rfl
@[simp] theorem qEX : Tryz.f345.results.toList = [.tmp 4, .tmp 5] := rfl
@[simp] theorem qEY : Tryz.f346.results.toList = [.tmp 4] := rfl
@[simp] theorem qEZ : Tryz.f347.results.toList = [.tmp 6, .tmp 7] := rfl
@[simp] theorem qE0 : Tryz.f348.results.toList = [.tmp 4] := rfl
@[simp] theorem qE1 : Tryz.f349.results.toList = [.tmp 4] := rfl
@[simp] theorem qE2 : Tryz.f350.results.toList = [.tmp 4] := rfl
@[simp] theorem qE3 : Tryz.f351.results.toList = [] := rfl
@[simp] theorem qE4 : Tryz.f352.results.toList = [.tmp 2] := rfl
@[simp] theorem qE5 : Tryz.f353.results.toList = [.tmp 2] := rfl
@[simp] theorem qE6 : Tryz.f354.results.toList = [.tmp 6] := rfl
@[simp] theorem qE7 : Tryz.f355.results.toList = [.tmp 10] := rfl
@[simp] theorem qE8 : Tryz.f356.results.toList = [.tmp 2] := rfl
@[simp] theorem qE9 : Tryz.f357.results.toList = [.tmp 2] := rfl
@[simp] theorem qFa : Tryz.f358.results.toList = [] := rfl
@[simp] theorem qFb : Tryz.f359.results.toList = [.tmp 10, .tmp 11] := rfl
@[simp] theorem qFc : Tryz.f360.results.toList = [.tmp 2] := rfl
@[simp] theorem qFd : Tryz.f361.results.toList = [.tmp 2] := rfl
@[simp] theorem qFe : Tryz.f362.results.toList = [.tmp 0] := rfl
@[simp] theorem qFf : Tryz.f363.results.toList = [.tmp 4, .tmp 5] := rfl
@[simp] theorem qFg : Tryz.f364.results.toList = [.tmp 4, .tmp 5, .tmp 6] := rfl
@[simp] theorem qFh : Tryz.f365.results.toList = [.tmp 2] := rfl
@[simp] theorem qFi : Tryz.f366.results.toList = [.tmp 8, .tmp 9] := rfl
@[simp] theorem qFj : Tryz.f367.results.toList = [.tmp 2] := rfl
@[simp] theorem qFk : Tryz.f368.results.toList = [.tmp 2] := rfl
@[simp] theorem qFl : Tryz.f369.results.toList = [.tmp 2] := rfl
@[simp] theorem qFm : Tryz.f370.results.toList = [.tmp 2] := rfl
@[simp] theorem qFn : Tryz.f371.results.toList = [.tmp 6, .tmp 7] := rfl
@[simp] theorem qFo : Tryz.f372.results.toList = [.tmp 4] := rfl
@[simp] theorem qFp : Tryz.f373.results.toList = [.tmp 2] := rfl
@[simp] theorem qFq : Tryz.f374.results.toList = [.tmp 2] := rfl
theorem hm : Tryz.prog.follows .mixedOrders = true := by kernel_rfl
end Go.Proofs.YtcjpfjklhhclmaaGreatDoor
