/- Closed facts on the types of the program. Made by a program (gen_types.py). No condition. -/
import Derived.Test.YtaefhahgkijnfaaAcd
import Derived.Test.YtaefhahgkijnfaaAbz
import Derived.Test.YtaefhahgkijnfaaRows
namespace Go.Proofs.Ytaefhahgkijnfaa
open Go Go.Ab

theorem in2 : Try.prog.info? 2 = some Try.t2 := by kernel_rfl
@[simp] theorem ty2 : TyOne Try.prog 2 8 (some .i64) none false := tyOne_int in2 Try.underlying2 rfl rfl
@[simp] theorem tz2 : TyZ Try.prog 2 [.int .i64 0] := tyZ in2 rfl rfl rfl rfl
theorem in3 : Try.prog.info? 3 = some Try.t3 := by kernel_rfl
@[simp] theorem ty3 : TyOne Try.prog 3 8 (some .i64) none false := tyOne_int in3 Try.underlying3 rfl rfl
@[simp] theorem tz3 : TyZ Try.prog 3 [.int .i64 0] := tyZ in3 rfl rfl rfl rfl
theorem in4 : Try.prog.info? 4 = some Try.t4 := by kernel_rfl
@[simp] theorem ty4 : TyOne Try.prog 4 1 none none false := tyOne_bool in4 Try.underlying4 rfl rfl
@[simp] theorem ub4 : Try.prog.underlying 4 = some .bool := Try.underlying4
@[simp] theorem tz4 : TyZ Try.prog 4 [.bool false] := tyZ in4 rfl rfl rfl rfl
theorem in5 : Try.prog.info? 5 = some Try.t5 := by kernel_rfl
@[simp] theorem ty5 : TyOne Try.prog 5 1 (some .u8) none false := tyOne_int in5 Try.underlying5 rfl rfl
@[simp] theorem tz5 : TyZ Try.prog 5 [.int .u8 0] := tyZ in5 rfl rfl rfl rfl
theorem in6 : Try.prog.info? 6 = some Try.t6 := by kernel_rfl
@[simp] theorem ty6 : TyOne Try.prog 6 1 (some .u8) none false := tyOne_int in6 Try.underlying6 rfl rfl
@[simp] theorem tz6 : TyZ Try.prog 6 [.int .u8 0] := tyZ in6 rfl rfl rfl rfl
theorem in8 : Try.prog.info? 8 = some Try.t8 := by kernel_rfl
@[simp] theorem ty8 : TyAgg Try.prog 8 4 24 := tyAgg_struct in8 Try.underlying8 rfl rfl
@[simp] theorem tz8 : TyZ Try.prog 8 [.int .i64 0, .int .i64 0, .bool false, .int .u8 0] := tyZ in8 rfl rfl rfl rfl
theorem in9 : Try.prog.info? 9 = some Try.t9 := by kernel_rfl
@[simp] theorem ty9 : TyOne Try.prog 9 16 none none true := tyOne_str in9 Try.underlying9 rfl rfl
@[simp] theorem tz9 : TyZ Try.prog 9 [.str []] := tyZ in9 rfl rfl rfl rfl
theorem in10 : Try.prog.info? 10 = some Try.t10 := by kernel_rfl
@[simp] theorem ty10 : TyOne Try.prog 10 16 none none true := tyOne_str in10 Try.underlying10 rfl rfl
@[simp] theorem tz10 : TyZ Try.prog 10 [.str []] := tyZ in10 rfl rfl rfl rfl
theorem in11 : Try.prog.info? 11 = some Try.t11 := by kernel_rfl
@[simp] theorem ty11 : TyOne Try.prog 11 16 none none true := tyOne_str in11 Try.underlying11 rfl rfl
@[simp] theorem tz11 : TyZ Try.prog 11 [.str []] := tyZ in11 rfl rfl rfl rfl
theorem in12 : Try.prog.info? 12 = some Try.t12 := by kernel_rfl
@[simp] theorem ty12 : TyOne Try.prog 12 8 (some .u64) none false := tyOne_int in12 Try.underlying12 rfl rfl
@[simp] theorem tz12 : TyZ Try.prog 12 [.int .u64 0] := tyZ in12 rfl rfl rfl rfl
theorem in14 : Try.prog.info? 14 = some Try.t14 := by kernel_rfl
@[simp] theorem ty14 : TyAgg Try.prog 14 2 24 := tyAgg_struct in14 Try.underlying14 rfl rfl
@[simp] theorem tz14 : TyZ Try.prog 14 [.str [], .int .u64 0] := tyZ in14 rfl rfl rfl rfl
theorem in15 : Try.prog.info? 15 = some Try.t15 := by kernel_rfl
@[simp] theorem ty15 : TyOne Try.prog 15 8 none none false := tyOne_pointer in15 Try.underlying15 rfl rfl
@[simp] theorem tz15 : TyZ Try.prog 15 [.raw (.pointer none)] := tyZ in15 rfl rfl rfl rfl
theorem in16 : Try.prog.info? 16 = some Try.t16 := by kernel_rfl
@[simp] theorem ty16 : TyOne Try.prog 16 8 none none false := tyOne_pointer in16 Try.underlying16 rfl rfl
@[simp] theorem tz16 : TyZ Try.prog 16 [.raw (.pointer none)] := tyZ in16 rfl rfl rfl rfl
theorem in17 : Try.prog.info? 17 = some Try.t17 := by kernel_rfl
@[simp] theorem ty17 : TyOne Try.prog 17 8 none none false := tyOne_pointer in17 Try.underlying17 rfl rfl
@[simp] theorem tz17 : TyZ Try.prog 17 [.raw (.pointer none)] := tyZ in17 rfl rfl rfl rfl
theorem in19 : Try.prog.info? 19 = some Try.t19 := by kernel_rfl
@[simp] theorem ty19 : TyAgg Try.prog 19 1 8 := tyAgg_struct in19 Try.underlying19 rfl rfl
@[simp] theorem tz19 : TyZ Try.prog 19 [.raw (.pointer none)] := tyZ in19 rfl rfl rfl rfl
theorem in22 : Try.prog.info? 22 = some Try.t22 := by kernel_rfl
@[simp] theorem ty22 : TyOne Try.prog 22 24 none (some 89) false := tyOne_slice in22 Try.underlying22 rfl rfl
@[simp] theorem tz22 : TyZ Try.prog 22 [.nils] := tyZ in22 rfl rfl rfl rfl
theorem in24 : Try.prog.info? 24 = some Try.t24 := by kernel_rfl
@[simp] theorem ty24 : TyOne Try.prog 24 24 none (some 2) false := tyOne_slice in24 Try.underlying24 rfl rfl
@[simp] theorem tz24 : TyZ Try.prog 24 [.nils] := tyZ in24 rfl rfl rfl rfl
theorem in27 : Try.prog.info? 27 = some Try.t27 := by kernel_rfl
@[simp] theorem ty27 : TyOne Try.prog 27 24 none (some 93) false := tyOne_slice in27 Try.underlying27 rfl rfl
@[simp] theorem tz27 : TyZ Try.prog 27 [.nils] := tyZ in27 rfl rfl rfl rfl
theorem in34 : Try.prog.info? 34 = some Try.t34 := by kernel_rfl
@[simp] theorem ty34 : TyOne Try.prog 34 24 none (some 44) false := tyOne_slice in34 Try.underlying34 rfl rfl
@[simp] theorem tz34 : TyZ Try.prog 34 [.nils] := tyZ in34 rfl rfl rfl rfl
theorem in37 : Try.prog.info? 37 = some Try.t37 := by kernel_rfl
@[simp] theorem ty37 : TyOne Try.prog 37 24 none (some 48) false := tyOne_slice in37 Try.underlying37 rfl rfl
@[simp] theorem tz37 : TyZ Try.prog 37 [.nils] := tyZ in37 rfl rfl rfl rfl
theorem in44 : Try.prog.info? 44 = some Try.t44 := by kernel_rfl
@[simp] theorem ty44 : TyAgg Try.prog 44 3 40 := tyAgg_struct in44 Try.underlying44 rfl rfl
@[simp] theorem tz44 : TyZ Try.prog 44 [.int .i64 0, .str [], .str []] := tyZ in44 rfl rfl rfl rfl
theorem in48 : Try.prog.info? 48 = some Try.t48 := by kernel_rfl
@[simp] theorem ty48 : TyAgg Try.prog 48 3 40 := tyAgg_struct in48 Try.underlying48 rfl rfl
@[simp] theorem tz48 : TyZ Try.prog 48 [.int .i64 0, .str [], .str []] := tyZ in48 rfl rfl rfl rfl
theorem in51 : Try.prog.info? 51 = some Try.t51 := by kernel_rfl
@[simp] theorem ty51 : TyOne Try.prog 51 24 none (some 112) false := tyOne_slice in51 Try.underlying51 rfl rfl
@[simp] theorem tz51 : TyZ Try.prog 51 [.nils] := tyZ in51 rfl rfl rfl rfl
theorem in57 : Try.prog.info? 57 = some Try.t57 := by kernel_rfl
@[simp] theorem ty57 : TyOne Try.prog 57 24 none (some 61) false := tyOne_slice in57 Try.underlying57 rfl rfl
@[simp] theorem tz57 : TyZ Try.prog 57 [.nils] := tyZ in57 rfl rfl rfl rfl
theorem in59 : Try.prog.info? 59 = some Try.t59 := by kernel_rfl
@[simp] theorem ty59 : TyAgg Try.prog 59 4 64 := tyAgg_struct in59 Try.underlying59 rfl rfl
@[simp] theorem tz59 : TyZ Try.prog 59 [.int .i64 0, .int .i64 0, .nils, .nils] := tyZ in59 rfl rfl rfl rfl
theorem in61 : Try.prog.info? 61 = some Try.t61 := by kernel_rfl
@[simp] theorem ty61 : TyAgg Try.prog 61 2 16 := tyAgg_struct in61 Try.underlying61 rfl rfl
@[simp] theorem tz61 : TyZ Try.prog 61 [.int .i64 0, .int .i64 0] := tyZ in61 rfl rfl rfl rfl
theorem in63 : Try.prog.info? 63 = some Try.t63 := by kernel_rfl
@[simp] theorem ty63 : TyOne Try.prog 63 24 none (some 69) false := tyOne_slice in63 Try.underlying63 rfl rfl
@[simp] theorem tz63 : TyZ Try.prog 63 [.nils] := tyZ in63 rfl rfl rfl rfl
theorem in65 : Try.prog.info? 65 = some Try.t65 := by kernel_rfl
@[simp] theorem ty65 : TyAgg Try.prog 65 4 64 := tyAgg_struct in65 Try.underlying65 rfl rfl
@[simp] theorem tz65 : TyZ Try.prog 65 [.int .i64 0, .int .i64 0, .nils, .nils] := tyZ in65 rfl rfl rfl rfl
theorem in69 : Try.prog.info? 69 = some Try.t69 := by kernel_rfl
@[simp] theorem ty69 : TyAgg Try.prog 69 2 16 := tyAgg_struct in69 Try.underlying69 rfl rfl
@[simp] theorem tz69 : TyZ Try.prog 69 [.int .i64 0, .int .i64 0] := tyZ in69 rfl rfl rfl rfl
theorem in80 : Try.prog.info? 80 = some Try.t80 := by kernel_rfl
@[simp] theorem ty80 : TyOne Try.prog 80 24 none (some 144) false := tyOne_slice in80 Try.underlying80 rfl rfl
@[simp] theorem tz80 : TyZ Try.prog 80 [.nils] := tyZ in80 rfl rfl rfl rfl
theorem in89 : Try.prog.info? 89 = some Try.t89 := by kernel_rfl
@[simp] theorem ty89 : TyAgg Try.prog 89 5 48 := tyAgg_struct in89 Try.underlying89 rfl rfl
@[simp] theorem tz89 : TyZ Try.prog 89 [.str [], .int .i64 0, .int .i64 0, .int .i64 0, .int .i64 0] := tyZ in89 rfl rfl rfl rfl
theorem in93 : Try.prog.info? 93 = some Try.t93 := by kernel_rfl
@[simp] theorem ty93 : TyAgg Try.prog 93 5 48 := tyAgg_struct in93 Try.underlying93 rfl rfl
@[simp] theorem tz93 : TyZ Try.prog 93 [.str [], .int .i64 0, .int .i64 0, .int .i64 0, .int .i64 0] := tyZ in93 rfl rfl rfl rfl
theorem in104 : Try.prog.info? 104 = some Try.t104 := by kernel_rfl
@[simp] theorem ty104 : TyOne Try.prog 104 8 none none false := tyOne_pointer in104 Try.underlying104 rfl rfl
@[simp] theorem tz104 : TyZ Try.prog 104 [.raw (.pointer none)] := tyZ in104 rfl rfl rfl rfl
theorem in112 : Try.prog.info? 112 = some Try.t112 := by kernel_rfl
@[simp] theorem ty112 : TyAgg Try.prog 112 2 32 := tyAgg_struct in112 Try.underlying112 rfl rfl
@[simp] theorem tz112 : TyZ Try.prog 112 [.str [], .str []] := tyZ in112 rfl rfl rfl rfl
theorem in115 : Try.prog.info? 115 = some Try.t115 := by kernel_rfl
@[simp] theorem ty115 : TyOne Try.prog 115 8 none none false := tyOne_pointer in115 Try.underlying115 rfl rfl
@[simp] theorem tz115 : TyZ Try.prog 115 [.raw (.pointer none)] := tyZ in115 rfl rfl rfl rfl
theorem in125 : Try.prog.info? 125 = some Try.t125 := by kernel_rfl
@[simp] theorem ty125 : TyOne Try.prog 125 8 none none false := tyOne_func in125 Try.underlying125 rfl rfl
@[simp] theorem tz125 : TyZ Try.prog 125 [.raw .nilFunc] := tyZ in125 rfl rfl rfl rfl
theorem in133 : Try.prog.info? 133 = some Try.t133 := by kernel_rfl
@[simp] theorem ty133 : TyOne Try.prog 133 8 none none false := tyOne_func in133 Try.underlying133 rfl rfl
@[simp] theorem tz133 : TyZ Try.prog 133 [.raw .nilFunc] := tyZ in133 rfl rfl rfl rfl
theorem in134 : Try.prog.info? 134 = some Try.t134 := by kernel_rfl
@[simp] theorem ty134 : TyOne Try.prog 134 8 none none false := tyOne_pointer in134 Try.underlying134 rfl rfl
@[simp] theorem tz134 : TyZ Try.prog 134 [.raw (.pointer none)] := tyZ in134 rfl rfl rfl rfl
theorem in138 : Try.prog.info? 138 = some Try.t138 := by kernel_rfl
@[simp] theorem ty138 : TyAgg Try.prog 138 6 96 := tyAgg_struct in138 Try.underlying138 rfl rfl
@[simp] theorem tz138 : TyZ Try.prog 138 [.nils, .int .i64 0, .bool false, .nils, .nils, .int .i64 0] := tyZ in138 rfl rfl rfl rfl
theorem in141 : Try.prog.info? 141 = some Try.t141 := by kernel_rfl
@[simp] theorem ty141 : TyOne Try.prog 141 8 none none false := tyOne_func in141 Try.underlying141 rfl rfl
@[simp] theorem tz141 : TyZ Try.prog 141 [.raw .nilFunc] := tyZ in141 rfl rfl rfl rfl
theorem in144 : Try.prog.info? 144 = some Try.t144 := by kernel_rfl
@[simp] theorem ty144 : TyAgg Try.prog 144 2 32 := tyAgg_struct in144 Try.underlying144 rfl rfl
@[simp] theorem tz144 : TyZ Try.prog 144 [.str [], .str []] := tyZ in144 rfl rfl rfl rfl
theorem in147 : Try.prog.info? 147 = some Try.t147 := by kernel_rfl
@[simp] theorem ty147 : TyOne Try.prog 147 24 none (some 9) false := tyOne_slice in147 Try.underlying147 rfl rfl
@[simp] theorem tz147 : TyZ Try.prog 147 [.nils] := tyZ in147 rfl rfl rfl rfl
theorem in154 : Try.prog.info? 154 = some Try.t154 := by kernel_rfl
@[simp] theorem ty154 : TyOne Try.prog 154 8 none none false := tyOne_pointer in154 Try.underlying154 rfl rfl
@[simp] theorem tz154 : TyZ Try.prog 154 [.raw (.pointer none)] := tyZ in154 rfl rfl rfl rfl
theorem in157 : Try.prog.info? 157 = some Try.t157 := by kernel_rfl
@[simp] theorem ty157 : TyOne Try.prog 157 8 none none false := tyOne_func in157 Try.underlying157 rfl rfl
@[simp] theorem tz157 : TyZ Try.prog 157 [.raw .nilFunc] := tyZ in157 rfl rfl rfl rfl
theorem in159 : Try.prog.info? 159 = some Try.t159 := by kernel_rfl
@[simp] theorem ty159 : TyOne Try.prog 159 24 none (some 5) false := tyOne_slice in159 Try.underlying159 rfl rfl
@[simp] theorem tz159 : TyZ Try.prog 159 [.nils] := tyZ in159 rfl rfl rfl rfl
theorem in165 : Try.prog.info? 165 = some Try.t165 := by kernel_rfl
@[simp] theorem ty165 : TyOne Try.prog 165 8 none none false := tyOne_pointer in165 Try.underlying165 rfl rfl
@[simp] theorem tz165 : TyZ Try.prog 165 [.raw (.pointer none)] := tyZ in165 rfl rfl rfl rfl
theorem in168 : Try.prog.info? 168 = some Try.t168 := by kernel_rfl
@[simp] theorem ty168 : TyOne Try.prog 168 8 (some .u64) none false := tyOne_int in168 Try.underlying168 rfl rfl
@[simp] theorem tz168 : TyZ Try.prog 168 [.int .u64 0] := tyZ in168 rfl rfl rfl rfl
theorem in177 : Try.prog.info? 177 = some Try.t177 := by kernel_rfl
@[simp] theorem ty177 : TyOne Try.prog 177 8 none none false := tyOne_func in177 Try.underlying177 rfl rfl
@[simp] theorem tz177 : TyZ Try.prog 177 [.raw .nilFunc] := tyZ in177 rfl rfl rfl rfl
theorem in179 : Try.prog.info? 179 = some Try.t179 := by kernel_rfl
@[simp] theorem ty179 : TyOne Try.prog 179 24 none (some 51) false := tyOne_slice in179 Try.underlying179 rfl rfl
@[simp] theorem tz179 : TyZ Try.prog 179 [.nils] := tyZ in179 rfl rfl rfl rfl
theorem in185 : Try.prog.info? 185 = some Try.t185 := by kernel_rfl
@[simp] theorem ty185 : TyOne Try.prog 185 8 none none false := tyOne_func in185 Try.underlying185 rfl rfl
@[simp] theorem tz185 : TyZ Try.prog 185 [.raw .nilFunc] := tyZ in185 rfl rfl rfl rfl
theorem in189 : Try.prog.info? 189 = some Try.t189 := by kernel_rfl
@[simp] theorem ty189 : TyOne Try.prog 189 8 none none false := tyOne_func in189 Try.underlying189 rfl rfl
@[simp] theorem tz189 : TyZ Try.prog 189 [.raw .nilFunc] := tyZ in189 rfl rfl rfl rfl
theorem in192 : Try.prog.info? 192 = some Try.t192 := by kernel_rfl
@[simp] theorem ty192 : TyOne Try.prog 192 24 none (some 3) false := tyOne_slice in192 Try.underlying192 rfl rfl
@[simp] theorem tz192 : TyZ Try.prog 192 [.nils] := tyZ in192 rfl rfl rfl rfl
theorem in198 : Try.prog.info? 198 = some Try.t198 := by kernel_rfl
@[simp] theorem ty198 : TyOne Try.prog 198 8 (some .i64) none false := tyOne_int in198 Try.underlying198 rfl rfl
@[simp] theorem tz198 : TyZ Try.prog 198 [.int .i64 0] := tyZ in198 rfl rfl rfl rfl
theorem in206 : Try.prog.info? 206 = some Try.t206 := by kernel_rfl
@[simp] theorem ty206 : TyOne Try.prog 206 4 (some .u32) none false := tyOne_int in206 Try.underlying206 rfl rfl
@[simp] theorem tz206 : TyZ Try.prog 206 [.int .u32 0] := tyZ in206 rfl rfl rfl rfl
theorem in208 : Try.prog.info? 208 = some Try.t208 := by kernel_rfl
@[simp] theorem ty208 : TyOne Try.prog 208 8 (some .u64) none false := tyOne_int in208 Try.underlying208 rfl rfl
@[simp] theorem tz208 : TyZ Try.prog 208 [.int .u64 0] := tyZ in208 rfl rfl rfl rfl
theorem in219 : Try.prog.info? 219 = some Try.t219 := by kernel_rfl
@[simp] theorem ty219 : TyOne Try.prog 219 8 (some .u64) none false := tyOne_int in219 Try.underlying219 rfl rfl
@[simp] theorem tz219 : TyZ Try.prog 219 [.int .u64 0] := tyZ in219 rfl rfl rfl rfl
theorem in223 : Try.prog.info? 223 = some Try.t223 := by kernel_rfl
@[simp] theorem ty223 : TyOne Try.prog 223 8 none none false := tyOne_pointer in223 Try.underlying223 rfl rfl
@[simp] theorem tz223 : TyZ Try.prog 223 [.raw (.pointer none)] := tyZ in223 rfl rfl rfl rfl
theorem in228 : Try.prog.info? 228 = some Try.t228 := by kernel_rfl
@[simp] theorem ty228 : TyOne Try.prog 228 8 none none false := tyOne_pointer in228 Try.underlying228 rfl rfl
@[simp] theorem tz228 : TyZ Try.prog 228 [.raw (.pointer none)] := tyZ in228 rfl rfl rfl rfl
theorem in240 : Try.prog.info? 240 = some Try.t240 := by kernel_rfl
@[simp] theorem ty240 : TyOne Try.prog 240 1 (some .u8) none false := tyOne_int in240 Try.underlying240 rfl rfl
@[simp] theorem tz240 : TyZ Try.prog 240 [.int .u8 0] := tyZ in240 rfl rfl rfl rfl
@[simp] theorem ts8 : structT Try.prog 8 = true := structOf Try.underlying8 (by simp [in2, in3, in4, in6])
@[simp] theorem fl8_0 : fldT Try.prog 8 0 = some (0, false, 1) := fldOf Try.underlying8 rfl rfl ty2.1 ty2.2.1 ty2.2.2.1
@[simp] theorem fl8_1 : fldT Try.prog 8 1 = some (1, false, 1) := fldOf Try.underlying8 rfl rfl ty3.1 ty3.2.1 ty3.2.2.1
@[simp] theorem fl8_2 : fldT Try.prog 8 2 = some (2, false, 1) := fldOf Try.underlying8 rfl rfl ty4.1 ty4.2.1 ty4.2.2.1
@[simp] theorem fl8_3 : fldT Try.prog 8 3 = some (3, false, 1) := fldOf Try.underlying8 rfl rfl ty6.1 ty6.2.1 ty6.2.2.1
@[simp] theorem ts14 : structT Try.prog 14 = true := structOf Try.underlying14 (by simp [in12, in9])
@[simp] theorem fl14_0 : fldT Try.prog 14 0 = some (0, false, 1) := fldOf Try.underlying14 rfl rfl ty9.1 ty9.2.1 ty9.2.2.1
@[simp] theorem fl14_1 : fldT Try.prog 14 1 = some (1, false, 1) := fldOf Try.underlying14 rfl rfl ty12.1 ty12.2.1 ty12.2.2.1
@[simp] theorem ts19 : structT Try.prog 19 = true := structOf Try.underlying19 (by simp [in17])
@[simp] theorem fl19_0 : fldT Try.prog 19 0 = some (0, false, 1) := fldOf Try.underlying19 rfl rfl ty17.1 ty17.2.1 ty17.2.2.1
@[simp] theorem ts44 : structT Try.prog 44 = true := structOf Try.underlying44 (by simp [in2, in9])
@[simp] theorem fl44_0 : fldT Try.prog 44 0 = some (0, false, 1) := fldOf Try.underlying44 rfl rfl ty2.1 ty2.2.1 ty2.2.2.1
@[simp] theorem fl44_1 : fldT Try.prog 44 1 = some (1, false, 1) := fldOf Try.underlying44 rfl rfl ty9.1 ty9.2.1 ty9.2.2.1
@[simp] theorem fl44_2 : fldT Try.prog 44 2 = some (2, false, 1) := fldOf Try.underlying44 rfl rfl ty9.1 ty9.2.1 ty9.2.2.1
@[simp] theorem ts48 : structT Try.prog 48 = true := structOf Try.underlying48 (by simp [in2, in9])
@[simp] theorem fl48_0 : fldT Try.prog 48 0 = some (0, false, 1) := fldOf Try.underlying48 rfl rfl ty2.1 ty2.2.1 ty2.2.2.1
@[simp] theorem fl48_1 : fldT Try.prog 48 1 = some (1, false, 1) := fldOf Try.underlying48 rfl rfl ty9.1 ty9.2.1 ty9.2.2.1
@[simp] theorem fl48_2 : fldT Try.prog 48 2 = some (2, false, 1) := fldOf Try.underlying48 rfl rfl ty9.1 ty9.2.1 ty9.2.2.1
@[simp] theorem ts59 : structT Try.prog 59 = true := structOf Try.underlying59 (by simp [in2, in24, in57])
@[simp] theorem fl59_0 : fldT Try.prog 59 0 = some (0, false, 1) := fldOf Try.underlying59 rfl rfl ty2.1 ty2.2.1 ty2.2.2.1
@[simp] theorem fl59_1 : fldT Try.prog 59 1 = some (1, false, 1) := fldOf Try.underlying59 rfl rfl ty2.1 ty2.2.1 ty2.2.2.1
@[simp] theorem fl59_2 : fldT Try.prog 59 2 = some (2, false, 1) := fldOf Try.underlying59 rfl rfl ty24.1 ty24.2.1 ty24.2.2.1
@[simp] theorem fl59_3 : fldT Try.prog 59 3 = some (3, false, 1) := fldOf Try.underlying59 rfl rfl ty57.1 ty57.2.1 ty57.2.2.1
@[simp] theorem ts61 : structT Try.prog 61 = true := structOf Try.underlying61 (by simp [in2])
@[simp] theorem fl61_0 : fldT Try.prog 61 0 = some (0, false, 1) := fldOf Try.underlying61 rfl rfl ty2.1 ty2.2.1 ty2.2.2.1
@[simp] theorem fl61_1 : fldT Try.prog 61 1 = some (1, false, 1) := fldOf Try.underlying61 rfl rfl ty2.1 ty2.2.1 ty2.2.2.1
@[simp] theorem ts65 : structT Try.prog 65 = true := structOf Try.underlying65 (by simp [in2, in24, in63])
@[simp] theorem fl65_0 : fldT Try.prog 65 0 = some (0, false, 1) := fldOf Try.underlying65 rfl rfl ty2.1 ty2.2.1 ty2.2.2.1
@[simp] theorem fl65_1 : fldT Try.prog 65 1 = some (1, false, 1) := fldOf Try.underlying65 rfl rfl ty2.1 ty2.2.1 ty2.2.2.1
@[simp] theorem fl65_2 : fldT Try.prog 65 2 = some (2, false, 1) := fldOf Try.underlying65 rfl rfl ty24.1 ty24.2.1 ty24.2.2.1
@[simp] theorem fl65_3 : fldT Try.prog 65 3 = some (3, false, 1) := fldOf Try.underlying65 rfl rfl ty63.1 ty63.2.1 ty63.2.2.1
@[simp] theorem ts69 : structT Try.prog 69 = true := structOf Try.underlying69 (by simp [in2])
@[simp] theorem fl69_0 : fldT Try.prog 69 0 = some (0, false, 1) := fldOf Try.underlying69 rfl rfl ty2.1 ty2.2.1 ty2.2.2.1
@[simp] theorem fl69_1 : fldT Try.prog 69 1 = some (1, false, 1) := fldOf Try.underlying69 rfl rfl ty2.1 ty2.2.1 ty2.2.2.1
@[simp] theorem ts89 : structT Try.prog 89 = true := structOf Try.underlying89 (by simp [in2, in9])
@[simp] theorem fl89_0 : fldT Try.prog 89 0 = some (0, false, 1) := fldOf Try.underlying89 rfl rfl ty9.1 ty9.2.1 ty9.2.2.1
@[simp] theorem fl89_1 : fldT Try.prog 89 1 = some (1, false, 1) := fldOf Try.underlying89 rfl rfl ty2.1 ty2.2.1 ty2.2.2.1
@[simp] theorem fl89_2 : fldT Try.prog 89 2 = some (2, false, 1) := fldOf Try.underlying89 rfl rfl ty2.1 ty2.2.1 ty2.2.2.1
@[simp] theorem fl89_3 : fldT Try.prog 89 3 = some (3, false, 1) := fldOf Try.underlying89 rfl rfl ty2.1 ty2.2.1 ty2.2.2.1
@[simp] theorem fl89_4 : fldT Try.prog 89 4 = some (4, false, 1) := fldOf Try.underlying89 rfl rfl ty2.1 ty2.2.1 ty2.2.2.1
@[simp] theorem ts93 : structT Try.prog 93 = true := structOf Try.underlying93 (by simp [in2, in9])
@[simp] theorem fl93_0 : fldT Try.prog 93 0 = some (0, false, 1) := fldOf Try.underlying93 rfl rfl ty9.1 ty9.2.1 ty9.2.2.1
@[simp] theorem fl93_1 : fldT Try.prog 93 1 = some (1, false, 1) := fldOf Try.underlying93 rfl rfl ty2.1 ty2.2.1 ty2.2.2.1
@[simp] theorem fl93_2 : fldT Try.prog 93 2 = some (2, false, 1) := fldOf Try.underlying93 rfl rfl ty2.1 ty2.2.1 ty2.2.2.1
@[simp] theorem fl93_3 : fldT Try.prog 93 3 = some (3, false, 1) := fldOf Try.underlying93 rfl rfl ty2.1 ty2.2.1 ty2.2.2.1
@[simp] theorem fl93_4 : fldT Try.prog 93 4 = some (4, false, 1) := fldOf Try.underlying93 rfl rfl ty2.1 ty2.2.1 ty2.2.2.1
@[simp] theorem ts112 : structT Try.prog 112 = true := structOf Try.underlying112 (by simp [in9])
@[simp] theorem fl112_0 : fldT Try.prog 112 0 = some (0, false, 1) := fldOf Try.underlying112 rfl rfl ty9.1 ty9.2.1 ty9.2.2.1
@[simp] theorem fl112_1 : fldT Try.prog 112 1 = some (1, false, 1) := fldOf Try.underlying112 rfl rfl ty9.1 ty9.2.1 ty9.2.2.1
@[simp] theorem ts138 : structT Try.prog 138 = true := structOf Try.underlying138 (by simp [in2, in24, in27, in4])
@[simp] theorem fl138_0 : fldT Try.prog 138 0 = some (0, false, 1) := fldOf Try.underlying138 rfl rfl ty27.1 ty27.2.1 ty27.2.2.1
@[simp] theorem fl138_1 : fldT Try.prog 138 1 = some (1, false, 1) := fldOf Try.underlying138 rfl rfl ty2.1 ty2.2.1 ty2.2.2.1
@[simp] theorem fl138_2 : fldT Try.prog 138 2 = some (2, false, 1) := fldOf Try.underlying138 rfl rfl ty4.1 ty4.2.1 ty4.2.2.1
@[simp] theorem fl138_3 : fldT Try.prog 138 3 = some (3, false, 1) := fldOf Try.underlying138 rfl rfl ty24.1 ty24.2.1 ty24.2.2.1
@[simp] theorem fl138_4 : fldT Try.prog 138 4 = some (4, false, 1) := fldOf Try.underlying138 rfl rfl ty24.1 ty24.2.1 ty24.2.2.1
@[simp] theorem fl138_5 : fldT Try.prog 138 5 = some (5, false, 1) := fldOf Try.underlying138 rfl rfl ty2.1 ty2.2.1 ty2.2.2.1
@[simp] theorem ts144 : structT Try.prog 144 = true := structOf Try.underlying144 (by simp [in9])
@[simp] theorem fl144_0 : fldT Try.prog 144 0 = some (0, false, 1) := fldOf Try.underlying144 rfl rfl ty9.1 ty9.2.1 ty9.2.2.1
@[simp] theorem fl144_1 : fldT Try.prog 144 1 = some (1, false, 1) := fldOf Try.underlying144 rfl rfl ty9.1 ty9.2.1 ty9.2.2.1
@[simp] theorem eq69 : EqT Try.prog 69 [1, 1] := eqT_struct Try.underlying69 Try.stoodInHeld69 Try.eqGuardType69 (by simp [fieldsOk])
@[simp] theorem res_3 : Try.f3.results.toList = [.tmp 2] := rfl
@[simp] theorem res_4 : Try.f4.results.toList = [.tmp 2] := rfl
@[simp] theorem res_5 : Try.f5.results.toList = [.tmp 2] := rfl
@[simp] theorem res_6 : Try.f6.results.toList = [.tmp 4] := rfl
@[simp] theorem res_7 : Try.f7.results.toList = [.tmp 4] := rfl
@[simp] theorem res_8 : Try.f8.results.toList = [.tmp 4] := rfl
@[simp] theorem res_9 : Try.f9.results.toList = [.tmp 4] := rfl
@[simp] theorem res_10 : Try.f10.results.toList = [.tmp 4] := rfl
@[simp] theorem res_11 : Try.f11.results.toList = [.tmp 4] := rfl
@[simp] theorem res_12 : Try.f12.results.toList = [.tmp 4] := rfl
@[simp] theorem res_13 : Try.f13.results.toList = [.tmp 4] := rfl
@[simp] theorem res_14 : Try.f14.results.toList = [.tmp 4] := rfl
@[simp] theorem res_15 : Try.f15.results.toList = [.tmp 2, .tmp 3] := rfl
@[simp] theorem res_16 : Try.f16.results.toList = [.tmp 2] := rfl
@[simp] theorem res_17 : Try.f17.results.toList = [.tmp 2, .tmp 3] := rfl
@[simp] theorem res_18 : Try.f18.results.toList = [.tmp 4] := rfl
@[simp] theorem res_19 : Try.f19.results.toList = [.tmp 4] := rfl
@[simp] theorem res_20 : Try.f20.results.toList = [.tmp 4] := rfl
@[simp] theorem res_21 : Try.f21.results.toList = [.tmp 4] := rfl
@[simp] theorem res_22 : Try.f22.results.toList = [.tmp 4] := rfl
@[simp] theorem res_23 : Try.f23.results.toList = [.tmp 4] := rfl
@[simp] theorem res_24 : Try.f24.results.toList = [.tmp 2] := rfl
@[simp] theorem res_25 : Try.f25.results.toList = [.tmp 2] := rfl
@[simp] theorem res_26 : Try.f26.results.toList = [.tmp 2] := rfl
@[simp] theorem res_27 : Try.f27.results.toList = [.tmp 4] := rfl
@[simp] theorem res_28 : Try.f28.results.toList = [.tmp 2, .tmp 3] := rfl
@[simp] theorem res_29 : Try.f29.results.toList = [.tmp 2, .tmp 3] := rfl
@[simp] theorem res_30 : Try.f30.results.toList = [.tmp 4] := rfl
@[simp] theorem res_31 : Try.f31.results.toList = [.tmp 4] := rfl
@[simp] theorem res_32 : Try.f32.results.toList = [.tmp 4, .tmp 5] := rfl
@[simp] theorem res_33 : Try.f33.results.toList = [.cell 2 48] := rfl
@[simp] theorem res_34 : Try.f34.results.toList = [.tmp 4, .tmp 5] := rfl
@[simp] theorem res_35 : Try.f35.results.toList = [.tmp 4] := rfl
@[simp] theorem res_36 : Try.f36.results.toList = [.tmp 4, .tmp 5] := rfl
@[simp] theorem res_37 : Try.f37.results.toList = [.tmp 4, .tmp 5] := rfl
@[simp] theorem res_38 : Try.f38.results.toList = [.tmp 4] := rfl
@[simp] theorem res_39 : Try.f39.results.toList = [.tmp 4] := rfl
@[simp] theorem res_40 : Try.f40.results.toList = [.tmp 4] := rfl
@[simp] theorem res_41 : Try.f41.results.toList = [.tmp 4] := rfl
@[simp] theorem res_42 : Try.f42.results.toList = [.cell 4 65, .tmp 5] := rfl
@[simp] theorem res_43 : Try.f43.results.toList = [.cell 2 65] := rfl
@[simp] theorem res_44 : Try.f44.results.toList = [.cell 2 69] := rfl
@[simp] theorem res_45 : Try.f45.results.toList = [.cell 4 65, .tmp 5] := rfl
@[simp] theorem res_46 : Try.f46.results.toList = [.tmp 4] := rfl
@[simp] theorem res_47 : Try.f47.results.toList = [.tmp 4] := rfl
@[simp] theorem res_48 : Try.f48.results.toList = [.tmp 4] := rfl
@[simp] theorem res_49 : Try.f49.results.toList = [.tmp 4, .tmp 5] := rfl
@[simp] theorem res_50 : Try.f50.results.toList = [.tmp 4, .tmp 5] := rfl
@[simp] theorem res_51 : Try.f51.results.toList = [.tmp 4, .tmp 5] := rfl
@[simp] theorem res_52 : Try.f52.results.toList = [.tmp 4, .tmp 5] := rfl
@[simp] theorem res_53 : Try.f53.results.toList = [.tmp 4, .tmp 5, .tmp 6] := rfl
@[simp] theorem res_54 : Try.f54.results.toList = [.tmp 4, .tmp 5, .tmp 6] := rfl
@[simp] theorem res_55 : Try.f55.results.toList = [.tmp 4] := rfl
@[simp] theorem res_56 : Try.f56.results.toList = [.tmp 4, .tmp 5] := rfl
@[simp] theorem res_57 : Try.f57.results.toList = [.tmp 2] := rfl
@[simp] theorem res_58 : Try.f58.results.toList = [.tmp 4, .tmp 5] := rfl
@[simp] theorem res_59 : Try.f59.results.toList = [.cell 4 65, .tmp 5] := rfl
@[simp] theorem res_60 : Try.f60.results.toList = [.cell 4 65, .tmp 5] := rfl
@[simp] theorem res_61 : Try.f61.results.toList = [.tmp 4] := rfl
@[simp] theorem res_62 : Try.f62.results.toList = [.tmp 2] := rfl
@[simp] theorem res_63 : Try.f63.results.toList = [.tmp 4] := rfl
@[simp] theorem res_64 : Try.f64.results.toList = [.tmp 2] := rfl
@[simp] theorem res_65 : Try.f65.results.toList = [.cell 2 93] := rfl
@[simp] theorem res_66 : Try.f66.results.toList = [.tmp 2] := rfl
@[simp] theorem res_67 : Try.f67.results.toList = [.tmp 4] := rfl
@[simp] theorem res_68 : Try.f68.results.toList = [.tmp 2] := rfl
@[simp] theorem res_69 : Try.f69.results.toList = [.tmp 4] := rfl
@[simp] theorem res_70 : Try.f70.results.toList = [.tmp 2] := rfl
@[simp] theorem res_71 : Try.f71.results.toList = [.tmp 2] := rfl
@[simp] theorem res_72 : Try.f72.results.toList = [.tmp 2] := rfl
@[simp] theorem res_73 : Try.f73.results.toList = [.tmp 4] := rfl
@[simp] theorem res_74 : Try.f74.results.toList = [.tmp 4] := rfl
@[simp] theorem res_75 : Try.f75.results.toList = [.tmp 4, .tmp 5] := rfl
@[simp] theorem res_76 : Try.f76.results.toList = [.tmp 2, .tmp 3] := rfl
@[simp] theorem res_77 : Try.f77.results.toList = [.tmp 2] := rfl
@[simp] theorem res_78 : Try.f78.results.toList = [.tmp 4, .tmp 5] := rfl
@[simp] theorem res_79 : Try.f79.results.toList = [.tmp 2] := rfl
@[simp] theorem res_80 : Try.f80.results.toList = [.tmp 6] := rfl
@[simp] theorem res_81 : Try.f81.results.toList = [.tmp 4] := rfl
@[simp] theorem res_82 : Try.f82.results.toList = [.tmp 6] := rfl
@[simp] theorem res_83 : Try.f83.results.toList = [.tmp 2] := rfl
@[simp] theorem res_84 : Try.f84.results.toList = [.tmp 2] := rfl
@[simp] theorem res_85 : Try.f85.results.toList = [.tmp 4] := rfl
@[simp] theorem res_86 : Try.f86.results.toList = [.tmp 4] := rfl
@[simp] theorem res_87 : Try.f87.results.toList = [.tmp 4] := rfl
@[simp] theorem res_88 : Try.f88.results.toList = [.tmp 2] := rfl
@[simp] theorem res_89 : Try.f89.results.toList = [.tmp 4] := rfl
@[simp] theorem res_90 : Try.f90.results.toList = [.cell 2 65] := rfl
@[simp] theorem res_91 : Try.f91.results.toList = [.tmp 4] := rfl
@[simp] theorem res_92 : Try.f92.results.toList = [.tmp 4] := rfl
@[simp] theorem res_93 : Try.f93.results.toList = [.tmp 2] := rfl
@[simp] theorem res_94 : Try.f94.results.toList = [.tmp 2] := rfl
@[simp] theorem res_95 : Try.f95.results.toList = [.tmp 2] := rfl
@[simp] theorem res_96 : Try.f96.results.toList = [.tmp 6, .tmp 7] := rfl
@[simp] theorem res_97 : Try.f97.results.toList = [.tmp 4] := rfl
@[simp] theorem res_98 : Try.f98.results.toList = [.tmp 4] := rfl
@[simp] theorem res_99 : Try.f99.results.toList = [.cell 2 65] := rfl
@[simp] theorem res_100 : Try.f100.results.toList = [.tmp 6] := rfl
@[simp] theorem res_101 : Try.f101.results.toList = [.tmp 4] := rfl
@[simp] theorem res_102 : Try.f102.results.toList = [.tmp 4] := rfl
@[simp] theorem res_103 : Try.f103.results.toList = [.tmp 4] := rfl
@[simp] theorem res_104 : Try.f104.results.toList = [.tmp 4] := rfl
@[simp] theorem res_105 : Try.f105.results.toList = [.tmp 4] := rfl
@[simp] theorem res_106 : Try.f106.results.toList = [.tmp 4] := rfl
@[simp] theorem res_107 : Try.f107.results.toList = [.tmp 6, .tmp 7] := rfl
@[simp] theorem res_108 : Try.f108.results.toList = [.tmp 2] := rfl
@[simp] theorem res_109 : Try.f109.results.toList = [.tmp 4] := rfl
@[simp] theorem res_110 : Try.f110.results.toList = [.tmp 6] := rfl
@[simp] theorem res_111 : Try.f111.results.toList = [.tmp 2] := rfl
@[simp] theorem res_112 : Try.f112.results.toList = [.tmp 2] := rfl
@[simp] theorem res_113 : Try.f113.results.toList = [.tmp 3] := rfl
@[simp] theorem res_114 : Try.f114.results.toList = [.tmp 4] := rfl
@[simp] theorem res_115 : Try.f115.results.toList = [.tmp 4] := rfl
@[simp] theorem res_116 : Try.f116.results.toList = [.tmp 2] := rfl
@[simp] theorem res_117 : Try.f117.results.toList = [.cell 2 112] := rfl
@[simp] theorem res_118 : Try.f118.results.toList = [.tmp 2] := rfl
@[simp] theorem res_119 : Try.f119.results.toList = [.tmp 2] := rfl
@[simp] theorem res_120 : Try.f120.results.toList = [] := rfl
@[simp] theorem res_121 : Try.f121.results.toList = [.tmp 2] := rfl
@[simp] theorem res_122 : Try.f122.results.toList = [.tmp 4, .tmp 5] := rfl
@[simp] theorem res_123 : Try.f123.results.toList = [] := rfl
@[simp] theorem res_124 : Try.f124.results.toList = [.tmp 2] := rfl
@[simp] theorem res_125 : Try.f125.results.toList = [.tmp 2] := rfl
@[simp] theorem res_126 : Try.f126.results.toList = [.tmp 2] := rfl
@[simp] theorem res_127 : Try.f127.results.toList = [] := rfl
@[simp] theorem res_128 : Try.f128.results.toList = [.tmp 5] := rfl
@[simp] theorem res_129 : Try.f129.results.toList = [.tmp 4] := rfl
@[simp] theorem res_130 : Try.f130.results.toList = [.tmp 2] := rfl
@[simp] theorem res_131 : Try.f131.results.toList = [.tmp 6] := rfl
@[simp] theorem res_132 : Try.f132.results.toList = [.tmp 2] := rfl
@[simp] theorem res_133 : Try.f133.results.toList = [.tmp 2] := rfl
@[simp] theorem res_134 : Try.f134.results.toList = [.tmp 2] := rfl
@[simp] theorem res_135 : Try.f135.results.toList = [.tmp 2] := rfl
@[simp] theorem res_136 : Try.f136.results.toList = [.tmp 6] := rfl
@[simp] theorem res_137 : Try.f137.results.toList = [.tmp 6] := rfl
@[simp] theorem res_138 : Try.f138.results.toList = [.tmp 4] := rfl
@[simp] theorem res_139 : Try.f139.results.toList = [.tmp 4] := rfl
@[simp] theorem res_140 : Try.f140.results.toList = [.tmp 2] := rfl
@[simp] theorem res_141 : Try.f141.results.toList = [.tmp 2] := rfl
@[simp] theorem res_142 : Try.f142.results.toList = [.tmp 2] := rfl
@[simp] theorem res_143 : Try.f143.results.toList = [.tmp 2] := rfl
@[simp] theorem res_145 : Try.f145.results.toList = [] := rfl
@[simp] theorem res_146 : Try.f146.results.toList = [.tmp 4] := rfl
@[simp] theorem res_147 : Try.f147.results.toList = [.tmp 4] := rfl
@[simp] theorem res_148 : Try.f148.results.toList = [.tmp 4] := rfl
@[simp] theorem res_149 : Try.f149.results.toList = [.tmp 6] := rfl
@[simp] theorem res_150 : Try.f150.results.toList = [] := rfl
@[simp] theorem res_151 : Try.f151.results.toList = [.tmp 6] := rfl
@[simp] theorem res_152 : Try.f152.results.toList = [] := rfl
@[simp] theorem res_153 : Try.f153.results.toList = [.tmp 6] := rfl
@[simp] theorem res_154 : Try.f154.results.toList = [.tmp 2] := rfl
@[simp] theorem res_155 : Try.f155.results.toList = [.tmp 4] := rfl
@[simp] theorem res_156 : Try.f156.results.toList = [] := rfl
@[simp] theorem res_157 : Try.f157.results.toList = [.tmp 2] := rfl
@[simp] theorem res_158 : Try.f158.results.toList = [.tmp 6, .tmp 7] := rfl
@[simp] theorem res_159 : Try.f159.results.toList = [.tmp 4] := rfl
@[simp] theorem res_160 : Try.f160.results.toList = [.tmp 4] := rfl
@[simp] theorem res_161 : Try.f161.results.toList = [] := rfl
@[simp] theorem res_162 : Try.f162.results.toList = [.tmp 2] := rfl
@[simp] theorem res_163 : Try.f163.results.toList = [.tmp 2] := rfl
@[simp] theorem res_164 : Try.f164.results.toList = [] := rfl
@[simp] theorem res_165 : Try.f165.results.toList = [.tmp 2] := rfl
@[simp] theorem res_166 : Try.f166.results.toList = [.tmp 4] := rfl
@[simp] theorem res_167 : Try.f167.results.toList = [.tmp 2] := rfl
@[simp] theorem res_168 : Try.f168.results.toList = [.tmp 2] := rfl
@[simp] theorem res_169 : Try.f169.results.toList = [.tmp 2] := rfl
@[simp] theorem res_171 : Try.f171.results.toList = [] := rfl
@[simp] theorem res_172 : Try.f172.results.toList = [.tmp 4] := rfl
@[simp] theorem res_173 : Try.f173.results.toList = [] := rfl
@[simp] theorem res_174 : Try.f174.results.toList = [.tmp 4] := rfl
@[simp] theorem res_175 : Try.f175.results.toList = [.tmp 2] := rfl
@[simp] theorem res_176 : Try.f176.results.toList = [.tmp 6] := rfl
@[simp] theorem res_177 : Try.f177.results.toList = [.tmp 2] := rfl
@[simp] theorem res_178 : Try.f178.results.toList = [.tmp 4] := rfl
@[simp] theorem res_179 : Try.f179.results.toList = [.tmp 6] := rfl
@[simp] theorem res_180 : Try.f180.results.toList = [.tmp 4] := rfl
@[simp] theorem res_181 : Try.f181.results.toList = [] := rfl
@[simp] theorem res_182 : Try.f182.results.toList = [] := rfl
@[simp] theorem res_183 : Try.f183.results.toList = [] := rfl
@[simp] theorem res_184 : Try.f184.results.toList = [.tmp 6, .tmp 7] := rfl
@[simp] theorem res_185 : Try.f185.results.toList = [] := rfl
@[simp] theorem res_186 : Try.f186.results.toList = [.tmp 6] := rfl
@[simp] theorem res_187 : Try.f187.results.toList = [.tmp 4] := rfl
@[simp] theorem res_188 : Try.f188.results.toList = [.tmp 8] := rfl
@[simp] theorem res_189 : Try.f189.results.toList = [.tmp 8, .tmp 9] := rfl
@[simp] theorem res_190 : Try.f190.results.toList = [.tmp 2] := rfl
@[simp] theorem res_191 : Try.f191.results.toList = [.tmp 2] := rfl
@[simp] theorem res_192 : Try.f192.results.toList = [.tmp 4] := rfl
@[simp] theorem res_193 : Try.f193.results.toList = [] := rfl
@[simp] theorem res_194 : Try.f194.results.toList = [] := rfl
@[simp] theorem res_195 : Try.f195.results.toList = [] := rfl
@[simp] theorem res_196 : Try.f196.results.toList = [.tmp 8, .tmp 9] := rfl
@[simp] theorem res_197 : Try.f197.results.toList = [] := rfl
@[simp] theorem res_198 : Try.f198.results.toList = [.tmp 8] := rfl
@[simp] theorem res_199 : Try.f199.results.toList = [.tmp 10] := rfl
@[simp] theorem res_200 : Try.f200.results.toList = [.tmp 10, .tmp 11] := rfl
@[simp] theorem res_201 : Try.f201.results.toList = [] := rfl
@[simp] theorem res_202 : Try.f202.results.toList = [] := rfl
@[simp] theorem res_203 : Try.f203.results.toList = [.tmp 4] := rfl
@[simp] theorem res_204 : Try.f204.results.toList = [] := rfl
@[simp] theorem res_205 : Try.f205.results.toList = [] := rfl
@[simp] theorem res_206 : Try.f206.results.toList = [.tmp 6] := rfl
@[simp] theorem res_207 : Try.f207.results.toList = [.tmp 4] := rfl
@[simp] theorem res_208 : Try.f208.results.toList = [.tmp 4] := rfl
@[simp] theorem res_209 : Try.f209.results.toList = [] := rfl
@[simp] theorem res_210 : Try.f210.results.toList = [.tmp 2] := rfl
@[simp] theorem res_211 : Try.f211.results.toList = [.tmp 2] := rfl
@[simp] theorem res_212 : Try.f212.results.toList = [.tmp 6] := rfl
@[simp] theorem res_213 : Try.f213.results.toList = [.tmp 10] := rfl
@[simp] theorem res_214 : Try.f214.results.toList = [.tmp 2] := rfl
@[simp] theorem res_216 : Try.f216.results.toList = [] := rfl
@[simp] theorem res_217 : Try.f217.results.toList = [.tmp 8] := rfl
@[simp] theorem res_218 : Try.f218.results.toList = [.tmp 12] := rfl
@[simp] theorem res_219 : Try.f219.results.toList = [] := rfl
@[simp] theorem res_220 : Try.f220.results.toList = [] := rfl
@[simp] theorem res_221 : Try.f221.results.toList = [.tmp 8, .tmp 9] := rfl
@[simp] theorem res_222 : Try.f222.results.toList = [.tmp 10, .tmp 11] := rfl
@[simp] theorem res_223 : Try.f223.results.toList = [] := rfl
theorem hm : Try.prog.follows .mixedOrders = true := Try.checked.mixed
end Go.Proofs.Ytaefhahgkijnfaa
