/- Closed facts on the types of the program. Made by a program (gen_types.py). No condition. -/
import Derived.Test.YtjmoilnklaeacaaGreatDoorAcd
import Derived.Test.YtjmoilnklaeacaaGreatDoorAbz
import Derived.Test.YtjmoilnklaeacaaGreatDoorProg
namespace Go.Proofs.YtjmoilnklaeacaaGreatDoor
open Go Go.Ab

theorem in2 : Tryz.prog.info? 2 = some Tryz.t2 := by kernel_rfl
@[simp] theorem ty2 : TyOne Tryz.prog 2 8 (some .i64) none false := tyOne_int in2 Tryz.underlying2 rfl rfl
@[simp] theorem tz2 : TyZ Tryz.prog 2 [.int .i64 0] := tyZ in2 rfl rfl rfl rfl
theorem in3 : Tryz.prog.info? 3 = some Tryz.t3 := by kernel_rfl
@[simp] theorem ty3 : TyOne Tryz.prog 3 8 (some .i64) none false := tyOne_int in3 Tryz.underlying3 rfl rfl
@[simp] theorem tz3 : TyZ Tryz.prog 3 [.int .i64 0] := tyZ in3 rfl rfl rfl rfl
theorem in4 : Tryz.prog.info? 4 = some Tryz.t4 := by kernel_rfl
@[simp] theorem ty4 : TyOne Tryz.prog 4 1 none none false := tyOne_bool in4 Tryz.underlying4 rfl rfl
@[simp] theorem ub4 : Tryz.prog.underlying 4 = some .bool := Tryz.underlying4
@[simp] theorem tz4 : TyZ Tryz.prog 4 [.bool false] := tyZ in4 rfl rfl rfl rfl
theorem in5 : Tryz.prog.info? 5 = some Tryz.t5 := by kernel_rfl
@[simp] theorem ty5 : TyOne Tryz.prog 5 1 (some .u8) none false := tyOne_int in5 Tryz.underlying5 rfl rfl
@[simp] theorem tz5 : TyZ Tryz.prog 5 [.int .u8 0] := tyZ in5 rfl rfl rfl rfl
theorem in6 : Tryz.prog.info? 6 = some Tryz.t6 := by kernel_rfl
@[simp] theorem ty6 : TyOne Tryz.prog 6 1 (some .u8) none false := tyOne_int in6 Tryz.underlying6 rfl rfl
@[simp] theorem tz6 : TyZ Tryz.prog 6 [.int .u8 0] := tyZ in6 rfl rfl rfl rfl
theorem in8 : Tryz.prog.info? 8 = some Tryz.t8 := by kernel_rfl
@[simp] theorem ty8 : TyAgg Tryz.prog 8 4 24 := tyAgg_struct in8 Tryz.underlying8 rfl rfl
@[simp] theorem tz8 : TyZ Tryz.prog 8 [.int .i64 0, .int .i64 0, .bool false, .int .u8 0] := tyZ in8 rfl rfl rfl rfl
theorem in9 : Tryz.prog.info? 9 = some Tryz.t9 := by kernel_rfl
@[simp] theorem ty9 : TyOne Tryz.prog 9 16 none none true := tyOne_str in9 Tryz.underlying9 rfl rfl
@[simp] theorem tz9 : TyZ Tryz.prog 9 [.str []] := tyZ in9 rfl rfl rfl rfl
theorem in10 : Tryz.prog.info? 10 = some Tryz.t10 := by kernel_rfl
@[simp] theorem ty10 : TyOne Tryz.prog 10 16 none none true := tyOne_str in10 Tryz.underlying10 rfl rfl
@[simp] theorem tz10 : TyZ Tryz.prog 10 [.str []] := tyZ in10 rfl rfl rfl rfl
theorem in11 : Tryz.prog.info? 11 = some Tryz.t11 := by kernel_rfl
@[simp] theorem ty11 : TyOne Tryz.prog 11 16 none none true := tyOne_str in11 Tryz.underlying11 rfl rfl
@[simp] theorem tz11 : TyZ Tryz.prog 11 [.str []] := tyZ in11 rfl rfl rfl rfl
theorem in12 : Tryz.prog.info? 12 = some Tryz.t12 := by kernel_rfl
@[simp] theorem ty12 : TyOne Tryz.prog 12 8 (some .u64) none false := tyOne_int in12 Tryz.underlying12 rfl rfl
@[simp] theorem tz12 : TyZ Tryz.prog 12 [.int .u64 0] := tyZ in12 rfl rfl rfl rfl
theorem in14 : Tryz.prog.info? 14 = some Tryz.t14 := by kernel_rfl
@[simp] theorem ty14 : TyAgg Tryz.prog 14 2 24 := tyAgg_struct in14 Tryz.underlying14 rfl rfl
@[simp] theorem tz14 : TyZ Tryz.prog 14 [.str [], .int .u64 0] := tyZ in14 rfl rfl rfl rfl
theorem in15 : Tryz.prog.info? 15 = some Tryz.t15 := by kernel_rfl
@[simp] theorem ty15 : TyOne Tryz.prog 15 8 none none false := tyOne_pointer in15 Tryz.underlying15 rfl rfl
@[simp] theorem tz15 : TyZ Tryz.prog 15 [.raw (.pointer none)] := tyZ in15 rfl rfl rfl rfl
theorem in16 : Tryz.prog.info? 16 = some Tryz.t16 := by kernel_rfl
@[simp] theorem ty16 : TyOne Tryz.prog 16 8 none none false := tyOne_pointer in16 Tryz.underlying16 rfl rfl
@[simp] theorem tz16 : TyZ Tryz.prog 16 [.raw (.pointer none)] := tyZ in16 rfl rfl rfl rfl
theorem in17 : Tryz.prog.info? 17 = some Tryz.t17 := by kernel_rfl
@[simp] theorem ty17 : TyOne Tryz.prog 17 8 none none false := tyOne_pointer in17 Tryz.underlying17 rfl rfl
@[simp] theorem tz17 : TyZ Tryz.prog 17 [.raw (.pointer none)] := tyZ in17 rfl rfl rfl rfl
theorem in19 : Tryz.prog.info? 19 = some Tryz.t19 := by kernel_rfl
@[simp] theorem ty19 : TyAgg Tryz.prog 19 1 8 := tyAgg_struct in19 Tryz.underlying19 rfl rfl
@[simp] theorem tz19 : TyZ Tryz.prog 19 [.raw (.pointer none)] := tyZ in19 rfl rfl rfl rfl
theorem in21 : Tryz.prog.info? 21 = some Tryz.t21 := by kernel_rfl
@[simp] theorem ty21 : TyOne Tryz.prog 21 4 (some .i32) none false := tyOne_int in21 Tryz.underlying21 rfl rfl
@[simp] theorem tz21 : TyZ Tryz.prog 21 [.int .i32 0] := tyZ in21 rfl rfl rfl rfl
theorem in22 : Tryz.prog.info? 22 = some Tryz.t22 := by kernel_rfl
@[simp] theorem ty22 : TyOne Tryz.prog 22 24 none (some 2) false := tyOne_slice in22 Tryz.underlying22 rfl rfl
@[simp] theorem tz22 : TyZ Tryz.prog 22 [.nils] := tyZ in22 rfl rfl rfl rfl
theorem in23 : Tryz.prog.info? 23 = some Tryz.t23 := by kernel_rfl
@[simp] theorem ty23 : TyOne Tryz.prog 23 24 none (some 69) false := tyOne_slice in23 Tryz.underlying23 rfl rfl
@[simp] theorem tz23 : TyZ Tryz.prog 23 [.nils] := tyZ in23 rfl rfl rfl rfl
theorem in25 : Tryz.prog.info? 25 = some Tryz.t25 := by kernel_rfl
@[simp] theorem ty25 : TyAgg Tryz.prog 25 4 64 := tyAgg_struct in25 Tryz.underlying25 rfl rfl
@[simp] theorem tz25 : TyZ Tryz.prog 25 [.int .i64 0, .int .i64 0, .nils, .nils] := tyZ in25 rfl rfl rfl rfl
theorem in31 : Tryz.prog.info? 31 = some Tryz.t31 := by kernel_rfl
@[simp] theorem ty31 : TyOne Tryz.prog 31 24 none (some 86) false := tyOne_slice in31 Tryz.underlying31 rfl rfl
@[simp] theorem tz31 : TyZ Tryz.prog 31 [.nils] := tyZ in31 rfl rfl rfl rfl
theorem in37 : Tryz.prog.info? 37 = some Tryz.t37 := by kernel_rfl
@[simp] theorem ty37 : TyOne Tryz.prog 37 24 none (some 5) false := tyOne_slice in37 Tryz.underlying37 rfl rfl
@[simp] theorem tz37 : TyZ Tryz.prog 37 [.nils] := tyZ in37 rfl rfl rfl rfl
theorem in44 : Tryz.prog.info? 44 = some Tryz.t44 := by kernel_rfl
@[simp] theorem ty44 : TyOne Tryz.prog 44 24 none (some 47) false := tyOne_slice in44 Tryz.underlying44 rfl rfl
@[simp] theorem tz44 : TyZ Tryz.prog 44 [.nils] := tyZ in44 rfl rfl rfl rfl
theorem in47 : Tryz.prog.info? 47 = some Tryz.t47 := by kernel_rfl
@[simp] theorem ty47 : TyAgg Tryz.prog 47 5 48 := tyAgg_struct in47 Tryz.underlying47 rfl rfl
@[simp] theorem tz47 : TyZ Tryz.prog 47 [.str [], .int .i64 0, .int .i64 0, .int .i64 0, .int .i64 0] := tyZ in47 rfl rfl rfl rfl
theorem in62 : Tryz.prog.info? 62 = some Tryz.t62 := by kernel_rfl
@[simp] theorem ty62 : TyOne Tryz.prog 62 24 none (some 9) false := tyOne_slice in62 Tryz.underlying62 rfl rfl
@[simp] theorem tz62 : TyZ Tryz.prog 62 [.nils] := tyZ in62 rfl rfl rfl rfl
theorem in69 : Tryz.prog.info? 69 = some Tryz.t69 := by kernel_rfl
@[simp] theorem ty69 : TyAgg Tryz.prog 69 2 16 := tyAgg_struct in69 Tryz.underlying69 rfl rfl
@[simp] theorem tz69 : TyZ Tryz.prog 69 [.int .i64 0, .int .i64 0] := tyZ in69 rfl rfl rfl rfl
theorem in71 : Tryz.prog.info? 71 = some Tryz.t71 := by kernel_rfl
@[simp] theorem ty71 : TyOne Tryz.prog 71 8 none none false := tyOne_pointer in71 Tryz.underlying71 rfl rfl
@[simp] theorem tz71 : TyZ Tryz.prog 71 [.raw (.pointer none)] := tyZ in71 rfl rfl rfl rfl
theorem in86 : Tryz.prog.info? 86 = some Tryz.t86 := by kernel_rfl
@[simp] theorem ty86 : TyAgg Tryz.prog 86 3 40 := tyAgg_struct in86 Tryz.underlying86 rfl rfl
@[simp] theorem tz86 : TyZ Tryz.prog 86 [.int .i64 0, .str [], .str []] := tyZ in86 rfl rfl rfl rfl
theorem in88 : Tryz.prog.info? 88 = some Tryz.t88 := by kernel_rfl
@[simp] theorem ty88 : TyOne Tryz.prog 88 8 none none false := tyOne_pointer in88 Tryz.underlying88 rfl rfl
@[simp] theorem tz88 : TyZ Tryz.prog 88 [.raw (.pointer none)] := tyZ in88 rfl rfl rfl rfl
theorem in108 : Tryz.prog.info? 108 = some Tryz.t108 := by kernel_rfl
@[simp] theorem ty108 : TyOne Tryz.prog 108 8 none none false := tyOne_func in108 Tryz.underlying108 rfl rfl
@[simp] theorem tz108 : TyZ Tryz.prog 108 [.raw .nilFunc] := tyZ in108 rfl rfl rfl rfl
theorem in111 : Tryz.prog.info? 111 = some Tryz.t111 := by kernel_rfl
@[simp] theorem ty111 : TyOne Tryz.prog 111 8 none none false := tyOne_pointer in111 Tryz.underlying111 rfl rfl
@[simp] theorem tz111 : TyZ Tryz.prog 111 [.raw (.pointer none)] := tyZ in111 rfl rfl rfl rfl
theorem in116 : Tryz.prog.info? 116 = some Tryz.t116 := by kernel_rfl
theorem in122 : Tryz.prog.info? 122 = some Tryz.t122 := by kernel_rfl
@[simp] theorem ty122 : TyOne Tryz.prog 122 8 none none false := tyOne_func in122 Tryz.underlying122 rfl rfl
@[simp] theorem tz122 : TyZ Tryz.prog 122 [.raw .nilFunc] := tyZ in122 rfl rfl rfl rfl
theorem in130 : Tryz.prog.info? 130 = some Tryz.t130 := by kernel_rfl
@[simp] theorem ty130 : TyOne Tryz.prog 130 8 (some .u64) none false := tyOne_int in130 Tryz.underlying130 rfl rfl
@[simp] theorem tz130 : TyZ Tryz.prog 130 [.int .u64 0] := tyZ in130 rfl rfl rfl rfl
theorem in132 : Tryz.prog.info? 132 = some Tryz.t132 := by kernel_rfl
@[simp] theorem ty132 : TyAgg Tryz.prog 132 3 40 := tyAgg_struct in132 Tryz.underlying132 rfl rfl
@[simp] theorem tz132 : TyZ Tryz.prog 132 [.nils, .int .i64 0, .int .u64 0] := tyZ in132 rfl rfl rfl rfl
theorem in137 : Tryz.prog.info? 137 = some Tryz.t137 := by kernel_rfl
@[simp] theorem ty137 : TyOne Tryz.prog 137 8 none none false := tyOne_pointer in137 Tryz.underlying137 rfl rfl
@[simp] theorem tz137 : TyZ Tryz.prog 137 [.raw (.pointer none)] := tyZ in137 rfl rfl rfl rfl
theorem in145 : Tryz.prog.info? 145 = some Tryz.t145 := by kernel_rfl
@[simp] theorem ty145 : TyOne Tryz.prog 145 8 none none false := tyOne_func in145 Tryz.underlying145 rfl rfl
@[simp] theorem tz145 : TyZ Tryz.prog 145 [.raw .nilFunc] := tyZ in145 rfl rfl rfl rfl
theorem in150 : Tryz.prog.info? 150 = some Tryz.t150 := by kernel_rfl
@[simp] theorem ty150 : TyOne Tryz.prog 150 8 none none false := tyOne_func in150 Tryz.underlying150 rfl rfl
@[simp] theorem tz150 : TyZ Tryz.prog 150 [.raw .nilFunc] := tyZ in150 rfl rfl rfl rfl
theorem in160 : Tryz.prog.info? 160 = some Tryz.t160 := by kernel_rfl
@[simp] theorem ty160 : TyOne Tryz.prog 160 8 none none false := tyOne_pointer in160 Tryz.underlying160 rfl rfl
@[simp] theorem tz160 : TyZ Tryz.prog 160 [.raw (.pointer none)] := tyZ in160 rfl rfl rfl rfl
theorem in162 : Tryz.prog.info? 162 = some Tryz.t162 := by kernel_rfl
@[simp] theorem ty162 : TyAgg Tryz.prog 162 2 32 := tyAgg_struct in162 Tryz.underlying162 rfl rfl
@[simp] theorem tz162 : TyZ Tryz.prog 162 [.raw (.pointer none), .nils] := tyZ in162 rfl rfl rfl rfl
theorem in169 : Tryz.prog.info? 169 = some Tryz.t169 := by kernel_rfl
@[simp] theorem ty169 : TyOne Tryz.prog 169 8 (some .u64) none false := tyOne_int in169 Tryz.underlying169 rfl rfl
@[simp] theorem tz169 : TyZ Tryz.prog 169 [.int .u64 0] := tyZ in169 rfl rfl rfl rfl
theorem in174 : Tryz.prog.info? 174 = some Tryz.t174 := by kernel_rfl
@[simp] theorem ty174 : TyOne Tryz.prog 174 24 none (some 177) false := tyOne_slice in174 Tryz.underlying174 rfl rfl
@[simp] theorem tz174 : TyZ Tryz.prog 174 [.nils] := tyZ in174 rfl rfl rfl rfl
theorem in177 : Tryz.prog.info? 177 = some Tryz.t177 := by kernel_rfl
@[simp] theorem ty177 : TyAgg Tryz.prog 177 2 32 := tyAgg_struct in177 Tryz.underlying177 rfl rfl
@[simp] theorem tz177 : TyZ Tryz.prog 177 [.str [], .str []] := tyZ in177 rfl rfl rfl rfl
theorem in180 : Tryz.prog.info? 180 = some Tryz.t180 := by kernel_rfl
@[simp] theorem ty180 : TyOne Tryz.prog 180 8 none none false := tyOne_pointer in180 Tryz.underlying180 rfl rfl
@[simp] theorem tz180 : TyZ Tryz.prog 180 [.raw (.pointer none)] := tyZ in180 rfl rfl rfl rfl
theorem in190 : Tryz.prog.info? 190 = some Tryz.t190 := by kernel_rfl
@[simp] theorem ty190 : TyOne Tryz.prog 190 8 (some .i64) none false := tyOne_int in190 Tryz.underlying190 rfl rfl
@[simp] theorem tz190 : TyZ Tryz.prog 190 [.int .i64 0] := tyZ in190 rfl rfl rfl rfl
theorem in193 : Tryz.prog.info? 193 = some Tryz.t193 := by kernel_rfl
@[simp] theorem ty193 : TyOne Tryz.prog 193 8 none none false := tyOne_pointer in193 Tryz.underlying193 rfl rfl
@[simp] theorem tz193 : TyZ Tryz.prog 193 [.raw (.pointer none)] := tyZ in193 rfl rfl rfl rfl
theorem in197 : Tryz.prog.info? 197 = some Tryz.t197 := by kernel_rfl
@[simp] theorem ty197 : TyOne Tryz.prog 197 24 none (some 3) false := tyOne_slice in197 Tryz.underlying197 rfl rfl
@[simp] theorem tz197 : TyZ Tryz.prog 197 [.nils] := tyZ in197 rfl rfl rfl rfl
theorem in198 : Tryz.prog.info? 198 = some Tryz.t198 := by kernel_rfl
@[simp] theorem ty198 : TyOne Tryz.prog 198 8 none none false := tyOne_pointer in198 Tryz.underlying198 rfl rfl
@[simp] theorem tz198 : TyZ Tryz.prog 198 [.raw (.pointer none)] := tyZ in198 rfl rfl rfl rfl
theorem in208 : Tryz.prog.info? 208 = some Tryz.t208 := by kernel_rfl
@[simp] theorem ty208 : TyAgg Tryz.prog 208 3 48 := tyAgg_struct in208 Tryz.underlying208 rfl rfl
@[simp] theorem tz208 : TyZ Tryz.prog 208 [.str [], .str [], .raw .nilIface] := tyZ in208 rfl rfl rfl rfl
theorem in210 : Tryz.prog.info? 210 = some Tryz.t210 := by kernel_rfl
@[simp] theorem ty210 : TyAgg Tryz.prog 210 24 24 := tyAgg_array in210 Tryz.underlying210 rfl rfl
@[simp] theorem ar210 : arrT Tryz.prog 210 = some (24, 5) := arrOf Tryz.underlying210
@[simp] theorem tz210 : TyZ Tryz.prog 210 [.int .u8 0, .int .u8 0, .int .u8 0, .int .u8 0, .int .u8 0, .int .u8 0, .int .u8 0, .int .u8 0, .int .u8 0, .int .u8 0, .int .u8 0, .int .u8 0, .int .u8 0, .int .u8 0, .int .u8 0, .int .u8 0, .int .u8 0, .int .u8 0, .int .u8 0, .int .u8 0, .int .u8 0, .int .u8 0, .int .u8 0, .int .u8 0] := tyZ in210 rfl rfl rfl rfl
theorem in215 : Tryz.prog.info? 215 = some Tryz.t215 := by kernel_rfl
@[simp] theorem ty215 : TyOne Tryz.prog 215 4 (some .u32) none false := tyOne_int in215 Tryz.underlying215 rfl rfl
@[simp] theorem tz215 : TyZ Tryz.prog 215 [.int .u32 0] := tyZ in215 rfl rfl rfl rfl
theorem in218 : Tryz.prog.info? 218 = some Tryz.t218 := by kernel_rfl
theorem in223 : Tryz.prog.info? 223 = some Tryz.t223 := by kernel_rfl
@[simp] theorem ty223 : TyOne Tryz.prog 223 8 none none false := tyOne_func in223 Tryz.underlying223 rfl rfl
@[simp] theorem tz223 : TyZ Tryz.prog 223 [.raw .nilFunc] := tyZ in223 rfl rfl rfl rfl
theorem in226 : Tryz.prog.info? 226 = some Tryz.t226 := by kernel_rfl
@[simp] theorem ty226 : TyAgg Tryz.prog 226 256 256 := tyAgg_array in226 Tryz.underlying226 rfl rfl
@[simp] theorem ar226 : arrT Tryz.prog 226 = some (256, 5) := arrOf Tryz.underlying226
theorem in228 : Tryz.prog.info? 228 = some Tryz.t228 := by kernel_rfl
@[simp] theorem ty228 : TyAgg Tryz.prog 228 2 2 := tyAgg_struct in228 Tryz.underlying228 rfl rfl
@[simp] theorem tz228 : TyZ Tryz.prog 228 [.int .u8 0, .int .u8 0] := tyZ in228 rfl rfl rfl rfl
theorem in229 : Tryz.prog.info? 229 = some Tryz.t229 := by kernel_rfl
@[simp] theorem ty229 : TyAgg Tryz.prog 229 32 32 := tyAgg_array in229 Tryz.underlying229 rfl rfl
@[simp] theorem ar229 : arrT Tryz.prog 229 = some (16, 228) := arrOf Tryz.underlying229
@[simp] theorem tz229 : TyZ Tryz.prog 229 [.int .u8 0, .int .u8 0, .int .u8 0, .int .u8 0, .int .u8 0, .int .u8 0, .int .u8 0, .int .u8 0, .int .u8 0, .int .u8 0, .int .u8 0, .int .u8 0, .int .u8 0, .int .u8 0, .int .u8 0, .int .u8 0, .int .u8 0, .int .u8 0, .int .u8 0, .int .u8 0, .int .u8 0, .int .u8 0, .int .u8 0, .int .u8 0, .int .u8 0, .int .u8 0, .int .u8 0, .int .u8 0, .int .u8 0, .int .u8 0, .int .u8 0, .int .u8 0] := tyZ in229 rfl rfl rfl rfl
theorem in230 : Tryz.prog.info? 230 = some Tryz.t230 := by kernel_rfl
@[simp] theorem ty230 : TyOne Tryz.prog 230 8 none none false := tyOne_pointer in230 Tryz.underlying230 rfl rfl
@[simp] theorem tz230 : TyZ Tryz.prog 230 [.raw (.pointer none)] := tyZ in230 rfl rfl rfl rfl
theorem in232 : Tryz.prog.info? 232 = some Tryz.t232 := by kernel_rfl
@[simp] theorem ty232 : TyAgg Tryz.prog 232 1 16 := tyAgg_struct in232 Tryz.underlying232 rfl rfl
@[simp] theorem tz232 : TyZ Tryz.prog 232 [.str []] := tyZ in232 rfl rfl rfl rfl
theorem in234 : Tryz.prog.info? 234 = some Tryz.t234 := by kernel_rfl
@[simp] theorem ty234 : TyAgg Tryz.prog 234 20 160 := tyAgg_array in234 Tryz.underlying234 rfl rfl
@[simp] theorem ar234 : arrT Tryz.prog 234 = some (20, 130) := arrOf Tryz.underlying234
@[simp] theorem tz234 : TyZ Tryz.prog 234 [.int .u64 0, .int .u64 0, .int .u64 0, .int .u64 0, .int .u64 0, .int .u64 0, .int .u64 0, .int .u64 0, .int .u64 0, .int .u64 0, .int .u64 0, .int .u64 0, .int .u64 0, .int .u64 0, .int .u64 0, .int .u64 0, .int .u64 0, .int .u64 0, .int .u64 0, .int .u64 0] := tyZ in234 rfl rfl rfl rfl
theorem in235 : Tryz.prog.info? 235 = some Tryz.t235 := by kernel_rfl
@[simp] theorem ty235 : TyAgg Tryz.prog 235 65 65 := tyAgg_array in235 Tryz.underlying235 rfl rfl
@[simp] theorem ar235 : arrT Tryz.prog 235 = some (65, 5) := arrOf Tryz.underlying235
theorem in242 : Tryz.prog.info? 242 = some Tryz.t242 := by kernel_rfl
@[simp] theorem ty242 : TyAgg Tryz.prog 242 32 32 := tyAgg_array in242 Tryz.underlying242 rfl rfl
@[simp] theorem ar242 : arrT Tryz.prog 242 = some (32, 5) := arrOf Tryz.underlying242
@[simp] theorem tz242 : TyZ Tryz.prog 242 [.int .u8 0, .int .u8 0, .int .u8 0, .int .u8 0, .int .u8 0, .int .u8 0, .int .u8 0, .int .u8 0, .int .u8 0, .int .u8 0, .int .u8 0, .int .u8 0, .int .u8 0, .int .u8 0, .int .u8 0, .int .u8 0, .int .u8 0, .int .u8 0, .int .u8 0, .int .u8 0, .int .u8 0, .int .u8 0, .int .u8 0, .int .u8 0, .int .u8 0, .int .u8 0, .int .u8 0, .int .u8 0, .int .u8 0, .int .u8 0, .int .u8 0, .int .u8 0] := tyZ in242 rfl rfl rfl rfl
theorem in243 : Tryz.prog.info? 243 = some Tryz.t243 := by kernel_rfl
@[simp] theorem ty243 : TyAgg Tryz.prog 243 64 64 := tyAgg_array in243 Tryz.underlying243 rfl rfl
@[simp] theorem ar243 : arrT Tryz.prog 243 = some (64, 5) := arrOf Tryz.underlying243
@[simp] theorem tz243 : TyZ Tryz.prog 243 [.int .u8 0, .int .u8 0, .int .u8 0, .int .u8 0, .int .u8 0, .int .u8 0, .int .u8 0, .int .u8 0, .int .u8 0, .int .u8 0, .int .u8 0, .int .u8 0, .int .u8 0, .int .u8 0, .int .u8 0, .int .u8 0, .int .u8 0, .int .u8 0, .int .u8 0, .int .u8 0, .int .u8 0, .int .u8 0, .int .u8 0, .int .u8 0, .int .u8 0, .int .u8 0, .int .u8 0, .int .u8 0, .int .u8 0, .int .u8 0, .int .u8 0, .int .u8 0, .int .u8 0, .int .u8 0, .int .u8 0, .int .u8 0, .int .u8 0, .int .u8 0, .int .u8 0, .int .u8 0, .int .u8 0, .int .u8 0, .int .u8 0, .int .u8 0, .int .u8 0, .int .u8 0, .int .u8 0, .int .u8 0, .int .u8 0, .int .u8 0, .int .u8 0, .int .u8 0, .int .u8 0, .int .u8 0, .int .u8 0, .int .u8 0, .int .u8 0, .int .u8 0, .int .u8 0, .int .u8 0, .int .u8 0, .int .u8 0, .int .u8 0, .int .u8 0] := tyZ in243 rfl rfl rfl rfl
theorem in252 : Tryz.prog.info? 252 = some Tryz.t252 := by kernel_rfl
@[simp] theorem ty252 : TyOne Tryz.prog 252 1 (some .u8) none false := tyOne_int in252 Tryz.underlying252 rfl rfl
@[simp] theorem tz252 : TyZ Tryz.prog 252 [.int .u8 0] := tyZ in252 rfl rfl rfl rfl
@[simp] theorem gv5 : globV 5 = .pe 20 [powT] 0 0 := rfl
@[simp] theorem ts8 : structT Tryz.prog 8 = true := structOf Tryz.underlying8 (by simp [in2, in3, in4, in6])
@[simp] theorem fl8_0 : fldT Tryz.prog 8 0 = some (0, false, 1) := fldOf Tryz.underlying8 rfl rfl ty2.1 ty2.2.1 ty2.2.2.1
@[simp] theorem fl8_1 : fldT Tryz.prog 8 1 = some (1, false, 1) := fldOf Tryz.underlying8 rfl rfl ty3.1 ty3.2.1 ty3.2.2.1
@[simp] theorem fl8_2 : fldT Tryz.prog 8 2 = some (2, false, 1) := fldOf Tryz.underlying8 rfl rfl ty4.1 ty4.2.1 ty4.2.2.1
@[simp] theorem fl8_3 : fldT Tryz.prog 8 3 = some (3, false, 1) := fldOf Tryz.underlying8 rfl rfl ty6.1 ty6.2.1 ty6.2.2.1
@[simp] theorem ts14 : structT Tryz.prog 14 = true := structOf Tryz.underlying14 (by simp [in12, in9])
@[simp] theorem fl14_0 : fldT Tryz.prog 14 0 = some (0, false, 1) := fldOf Tryz.underlying14 rfl rfl ty9.1 ty9.2.1 ty9.2.2.1
@[simp] theorem fl14_1 : fldT Tryz.prog 14 1 = some (1, false, 1) := fldOf Tryz.underlying14 rfl rfl ty12.1 ty12.2.1 ty12.2.2.1
@[simp] theorem ts19 : structT Tryz.prog 19 = true := structOf Tryz.underlying19 (by simp [in17])
@[simp] theorem fl19_0 : fldT Tryz.prog 19 0 = some (0, false, 1) := fldOf Tryz.underlying19 rfl rfl ty17.1 ty17.2.1 ty17.2.2.1
@[simp] theorem ts25 : structT Tryz.prog 25 = true := structOf Tryz.underlying25 (by simp [in2, in22, in23])
@[simp] theorem fl25_0 : fldT Tryz.prog 25 0 = some (0, false, 1) := fldOf Tryz.underlying25 rfl rfl ty2.1 ty2.2.1 ty2.2.2.1
@[simp] theorem fl25_1 : fldT Tryz.prog 25 1 = some (1, false, 1) := fldOf Tryz.underlying25 rfl rfl ty2.1 ty2.2.1 ty2.2.2.1
@[simp] theorem fl25_2 : fldT Tryz.prog 25 2 = some (2, false, 1) := fldOf Tryz.underlying25 rfl rfl ty22.1 ty22.2.1 ty22.2.2.1
@[simp] theorem fl25_3 : fldT Tryz.prog 25 3 = some (3, false, 1) := fldOf Tryz.underlying25 rfl rfl ty23.1 ty23.2.1 ty23.2.2.1
@[simp] theorem ts47 : structT Tryz.prog 47 = true := structOf Tryz.underlying47 (by simp [in2, in9])
@[simp] theorem fl47_0 : fldT Tryz.prog 47 0 = some (0, false, 1) := fldOf Tryz.underlying47 rfl rfl ty9.1 ty9.2.1 ty9.2.2.1
@[simp] theorem fl47_1 : fldT Tryz.prog 47 1 = some (1, false, 1) := fldOf Tryz.underlying47 rfl rfl ty2.1 ty2.2.1 ty2.2.2.1
@[simp] theorem fl47_2 : fldT Tryz.prog 47 2 = some (2, false, 1) := fldOf Tryz.underlying47 rfl rfl ty2.1 ty2.2.1 ty2.2.2.1
@[simp] theorem fl47_3 : fldT Tryz.prog 47 3 = some (3, false, 1) := fldOf Tryz.underlying47 rfl rfl ty2.1 ty2.2.1 ty2.2.2.1
@[simp] theorem fl47_4 : fldT Tryz.prog 47 4 = some (4, false, 1) := fldOf Tryz.underlying47 rfl rfl ty2.1 ty2.2.1 ty2.2.2.1
@[simp] theorem ts69 : structT Tryz.prog 69 = true := structOf Tryz.underlying69 (by simp [in2])
@[simp] theorem fl69_0 : fldT Tryz.prog 69 0 = some (0, false, 1) := fldOf Tryz.underlying69 rfl rfl ty2.1 ty2.2.1 ty2.2.2.1
@[simp] theorem fl69_1 : fldT Tryz.prog 69 1 = some (1, false, 1) := fldOf Tryz.underlying69 rfl rfl ty2.1 ty2.2.1 ty2.2.2.1
@[simp] theorem ts86 : structT Tryz.prog 86 = true := structOf Tryz.underlying86 (by simp [in2, in9])
@[simp] theorem fl86_0 : fldT Tryz.prog 86 0 = some (0, false, 1) := fldOf Tryz.underlying86 rfl rfl ty2.1 ty2.2.1 ty2.2.2.1
@[simp] theorem fl86_1 : fldT Tryz.prog 86 1 = some (1, false, 1) := fldOf Tryz.underlying86 rfl rfl ty9.1 ty9.2.1 ty9.2.2.1
@[simp] theorem fl86_2 : fldT Tryz.prog 86 2 = some (2, false, 1) := fldOf Tryz.underlying86 rfl rfl ty9.1 ty9.2.1 ty9.2.2.1
@[simp] theorem ts132 : structT Tryz.prog 132 = true := structOf Tryz.underlying132 (by simp [in130, in3, in37])
@[simp] theorem fl132_0 : fldT Tryz.prog 132 0 = some (0, false, 1) := fldOf Tryz.underlying132 rfl rfl ty37.1 ty37.2.1 ty37.2.2.1
@[simp] theorem fl132_1 : fldT Tryz.prog 132 1 = some (1, false, 1) := fldOf Tryz.underlying132 rfl rfl ty3.1 ty3.2.1 ty3.2.2.1
@[simp] theorem fl132_2 : fldT Tryz.prog 132 2 = some (2, false, 1) := fldOf Tryz.underlying132 rfl rfl ty130.1 ty130.2.1 ty130.2.2.1
@[simp] theorem ts162 : structT Tryz.prog 162 = true := structOf Tryz.underlying162 (by simp [in160, in37])
@[simp] theorem fl162_0 : fldT Tryz.prog 162 0 = some (0, false, 1) := fldOf Tryz.underlying162 rfl rfl ty160.1 ty160.2.1 ty160.2.2.1
@[simp] theorem fl162_1 : fldT Tryz.prog 162 1 = some (1, false, 1) := fldOf Tryz.underlying162 rfl rfl ty37.1 ty37.2.1 ty37.2.2.1
@[simp] theorem ts177 : structT Tryz.prog 177 = true := structOf Tryz.underlying177 (by simp [in9])
@[simp] theorem fl177_0 : fldT Tryz.prog 177 0 = some (0, false, 1) := fldOf Tryz.underlying177 rfl rfl ty9.1 ty9.2.1 ty9.2.2.1
@[simp] theorem fl177_1 : fldT Tryz.prog 177 1 = some (1, false, 1) := fldOf Tryz.underlying177 rfl rfl ty9.1 ty9.2.1 ty9.2.2.1
@[simp] theorem ts208 : structT Tryz.prog 208 = true := structOf Tryz.underlying208 (by simp [in116, in9])
@[simp] theorem fl208_0 : fldT Tryz.prog 208 0 = some (0, false, 1) := fldOf Tryz.underlying208 rfl rfl ty9.1 ty9.2.1 ty9.2.2.1
@[simp] theorem fl208_1 : fldT Tryz.prog 208 1 = some (1, false, 1) := fldOf Tryz.underlying208 rfl rfl ty9.1 ty9.2.1 ty9.2.2.1
@[simp] theorem ts228 : structT Tryz.prog 228 = true := structOf Tryz.underlying228 (by simp [in5])
@[simp] theorem fl228_0 : fldT Tryz.prog 228 0 = some (0, false, 1) := fldOf Tryz.underlying228 rfl rfl ty5.1 ty5.2.1 ty5.2.2.1
@[simp] theorem fl228_1 : fldT Tryz.prog 228 1 = some (1, false, 1) := fldOf Tryz.underlying228 rfl rfl ty5.1 ty5.2.1 ty5.2.2.1
@[simp] theorem ts232 : structT Tryz.prog 232 = true := structOf Tryz.underlying232 (by simp [in9])
@[simp] theorem fl232_0 : fldT Tryz.prog 232 0 = some (0, false, 1) := fldOf Tryz.underlying232 rfl rfl ty9.1 ty9.2.1 ty9.2.2.1
@[simp] theorem eq47 : EqT Tryz.prog 47 [3, 1, 1, 1, 1] := eqT_struct Tryz.underlying47 Tryz.stoodInHeld47 Tryz.eqGuardType47 (by simp [fieldsOk])
@[simp] theorem eq86 : EqT Tryz.prog 86 [1, 3, 3] := eqT_struct Tryz.underlying86 Tryz.stoodInHeld86 Tryz.eqGuardType86 (by simp [fieldsOk])
@[simp] theorem res_3 : Tryz.f3.results.toList = [.tmp 2] := rfl
@[simp] theorem res_4 : Tryz.f4.results.toList = [.tmp 2] := rfl
@[simp] theorem res_5 : Tryz.f5.results.toList = [.tmp 2] := rfl
@[simp] theorem res_6 : Tryz.f6.results.toList = [.tmp 4] := rfl
@[simp] theorem res_7 : Tryz.f7.results.toList = [.tmp 4] := rfl
@[simp] theorem res_8 : Tryz.f8.results.toList = [.cell 2 25, .tmp 3] := rfl
@[simp] theorem res_9 : Tryz.f9.results.toList = [.cell 2 25, .tmp 3] := rfl
@[simp] theorem res_10 : Tryz.f10.results.toList = [.tmp 4] := rfl
@[simp] theorem res_11 : Tryz.f11.results.toList = [.tmp 4] := rfl
@[simp] theorem res_12 : Tryz.f12.results.toList = [.tmp 4] := rfl
@[simp] theorem res_13 : Tryz.f13.results.toList = [.tmp 2] := rfl
@[simp] theorem res_14 : Tryz.f14.results.toList = [.tmp 2] := rfl
@[simp] theorem res_15 : Tryz.f15.results.toList = [.tmp 4] := rfl
@[simp] theorem res_16 : Tryz.f16.results.toList = [.tmp 4] := rfl
@[simp] theorem res_17 : Tryz.f17.results.toList = [.tmp 4] := rfl
@[simp] theorem res_18 : Tryz.f18.results.toList = [.tmp 2, .tmp 3] := rfl
@[simp] theorem res_19 : Tryz.f19.results.toList = [.tmp 2, .tmp 3] := rfl
@[simp] theorem res_20 : Tryz.f20.results.toList = [.tmp 2] := rfl
@[simp] theorem res_21 : Tryz.f21.results.toList = [.tmp 2] := rfl
@[simp] theorem res_22 : Tryz.f22.results.toList = [.tmp 2, .tmp 3] := rfl
@[simp] theorem res_23 : Tryz.f23.results.toList = [.tmp 6] := rfl
@[simp] theorem res_24 : Tryz.f24.results.toList = [.tmp 6] := rfl
@[simp] theorem res_25 : Tryz.f25.results.toList = [.tmp 4] := rfl
@[simp] theorem res_26 : Tryz.f26.results.toList = [.tmp 4] := rfl
@[simp] theorem res_27 : Tryz.f27.results.toList = [.tmp 2] := rfl
@[simp] theorem res_28 : Tryz.f28.results.toList = [.tmp 6] := rfl
@[simp] theorem res_29 : Tryz.f29.results.toList = [.tmp 6] := rfl
@[simp] theorem res_30 : Tryz.f30.results.toList = [.cell 2 47, .tmp 3] := rfl
@[simp] theorem res_31 : Tryz.f31.results.toList = [.tmp 2] := rfl
@[simp] theorem res_32 : Tryz.f32.results.toList = [.tmp 4, .tmp 5] := rfl
@[simp] theorem res_33 : Tryz.f33.results.toList = [.tmp 4, .tmp 5] := rfl
@[simp] theorem res_34 : Tryz.f34.results.toList = [.tmp 2, .tmp 3] := rfl
@[simp] theorem res_35 : Tryz.f35.results.toList = [.tmp 4] := rfl
@[simp] theorem res_36 : Tryz.f36.results.toList = [.tmp 2, .tmp 3] := rfl
@[simp] theorem res_37 : Tryz.f37.results.toList = [.tmp 6, .tmp 7] := rfl
@[simp] theorem res_38 : Tryz.f38.results.toList = [.tmp 6, .tmp 7] := rfl
@[simp] theorem res_39 : Tryz.f39.results.toList = [.tmp 2, .tmp 3] := rfl
@[simp] theorem res_40 : Tryz.f40.results.toList = [.tmp 4] := rfl
@[simp] theorem res_41 : Tryz.f41.results.toList = [.tmp 2, .tmp 3] := rfl
@[simp] theorem res_42 : Tryz.f42.results.toList = [.tmp 2, .tmp 3] := rfl
@[simp] theorem res_43 : Tryz.f43.results.toList = [.tmp 2] := rfl
@[simp] theorem res_44 : Tryz.f44.results.toList = [.tmp 4] := rfl
@[simp] theorem res_45 : Tryz.f45.results.toList = [.tmp 2, .tmp 3] := rfl
@[simp] theorem res_46 : Tryz.f46.results.toList = [.tmp 2, .tmp 3] := rfl
@[simp] theorem res_47 : Tryz.f47.results.toList = [.tmp 4, .tmp 5, .tmp 6] := rfl
@[simp] theorem res_48 : Tryz.f48.results.toList = [.tmp 2] := rfl
@[simp] theorem res_49 : Tryz.f49.results.toList = [.tmp 2] := rfl
@[simp] theorem res_50 : Tryz.f50.results.toList = [.tmp 4] := rfl
@[simp] theorem res_51 : Tryz.f51.results.toList = [.tmp 4] := rfl
@[simp] theorem res_52 : Tryz.f52.results.toList = [.tmp 4] := rfl
@[simp] theorem res_53 : Tryz.f53.results.toList = [.tmp 4] := rfl
@[simp] theorem res_54 : Tryz.f54.results.toList = [.tmp 4] := rfl
@[simp] theorem res_55 : Tryz.f55.results.toList = [.tmp 4] := rfl
@[simp] theorem res_56 : Tryz.f56.results.toList = [.tmp 2, .tmp 3] := rfl
@[simp] theorem res_57 : Tryz.f57.results.toList = [.tmp 2, .tmp 3] := rfl
@[simp] theorem res_58 : Tryz.f58.results.toList = [.tmp 2, .tmp 3] := rfl
@[simp] theorem res_59 : Tryz.f59.results.toList = [.tmp 4] := rfl
@[simp] theorem res_60 : Tryz.f60.results.toList = [.tmp 2] := rfl
@[simp] theorem res_61 : Tryz.f61.results.toList = [.tmp 2] := rfl
@[simp] theorem res_62 : Tryz.f62.results.toList = [.tmp 2] := rfl
@[simp] theorem res_63 : Tryz.f63.results.toList = [.tmp 2] := rfl
@[simp] theorem res_64 : Tryz.f64.results.toList = [.tmp 2] := rfl
@[simp] theorem res_65 : Tryz.f65.results.toList = [.tmp 4] := rfl
@[simp] theorem res_66 : Tryz.f66.results.toList = [.tmp 2] := rfl
@[simp] theorem res_67 : Tryz.f67.results.toList = [.tmp 2, .tmp 3] := rfl
@[simp] theorem res_68 : Tryz.f68.results.toList = [.tmp 2] := rfl
@[simp] theorem res_69 : Tryz.f69.results.toList = [.tmp 2] := rfl
@[simp] theorem res_70 : Tryz.f70.results.toList = [.tmp 2] := rfl
@[simp] theorem res_71 : Tryz.f71.results.toList = [.tmp 2] := rfl
@[simp] theorem res_72 : Tryz.f72.results.toList = [.tmp 4, .tmp 5] := rfl
@[simp] theorem res_73 : Tryz.f73.results.toList = [.tmp 6] := rfl
@[simp] theorem res_74 : Tryz.f74.results.toList = [.tmp 2] := rfl
@[simp] theorem res_75 : Tryz.f75.results.toList = [.tmp 6] := rfl
@[simp] theorem res_76 : Tryz.f76.results.toList = [.tmp 2] := rfl
@[simp] theorem res_77 : Tryz.f77.results.toList = [.tmp 4] := rfl
@[simp] theorem res_78 : Tryz.f78.results.toList = [.tmp 2] := rfl
@[simp] theorem res_79 : Tryz.f79.results.toList = [.tmp 6] := rfl
@[simp] theorem res_80 : Tryz.f80.results.toList = [.tmp 6] := rfl
@[simp] theorem res_81 : Tryz.f81.results.toList = [.tmp 6] := rfl
@[simp] theorem res_82 : Tryz.f82.results.toList = [.tmp 2] := rfl
@[simp] theorem res_83 : Tryz.f83.results.toList = [.tmp 6] := rfl
@[simp] theorem res_84 : Tryz.f84.results.toList = [.tmp 4] := rfl
@[simp] theorem res_85 : Tryz.f85.results.toList = [.tmp 4] := rfl
@[simp] theorem res_86 : Tryz.f86.results.toList = [.tmp 8] := rfl
@[simp] theorem res_87 : Tryz.f87.results.toList = [.tmp 4] := rfl
@[simp] theorem res_88 : Tryz.f88.results.toList = [.tmp 6, .tmp 7] := rfl
@[simp] theorem res_89 : Tryz.f89.results.toList = [.tmp 2] := rfl
@[simp] theorem res_90 : Tryz.f90.results.toList = [.tmp 4, .tmp 5, .tmp 6] := rfl
@[simp] theorem res_91 : Tryz.f91.results.toList = [.tmp 6] := rfl
@[simp] theorem res_92 : Tryz.f92.results.toList = [.tmp 2] := rfl
@[simp] theorem res_93 : Tryz.f93.results.toList = [.tmp 4] := rfl
@[simp] theorem res_94 : Tryz.f94.results.toList = [.tmp 4] := rfl
@[simp] theorem res_95 : Tryz.f95.results.toList = [.tmp 2] := rfl
@[simp] theorem res_96 : Tryz.f96.results.toList = [.tmp 4] := rfl
@[simp] theorem res_97 : Tryz.f97.results.toList = [.tmp 4] := rfl
@[simp] theorem res_98 : Tryz.f98.results.toList = [.tmp 4] := rfl
@[simp] theorem res_99 : Tryz.f99.results.toList = [.cell 2 86, .tmp 3] := rfl
@[simp] theorem res_100 : Tryz.f100.results.toList = [.tmp 4] := rfl
@[simp] theorem res_101 : Tryz.f101.results.toList = [.tmp 4, .tmp 5] := rfl
@[simp] theorem res_102 : Tryz.f102.results.toList = [.cell 2 86, .tmp 3] := rfl
@[simp] theorem res_103 : Tryz.f103.results.toList = [.tmp 4] := rfl
@[simp] theorem res_104 : Tryz.f104.results.toList = [.tmp 4, .tmp 5] := rfl
@[simp] theorem res_105 : Tryz.f105.results.toList = [.tmp 2] := rfl
@[simp] theorem res_106 : Tryz.f106.results.toList = [.tmp 4] := rfl
@[simp] theorem res_107 : Tryz.f107.results.toList = [.cell 4 86] := rfl
@[simp] theorem res_108 : Tryz.f108.results.toList = [.cell 2 86] := rfl
@[simp] theorem res_109 : Tryz.f109.results.toList = [.tmp 4] := rfl
@[simp] theorem res_110 : Tryz.f110.results.toList = [.tmp 2] := rfl
@[simp] theorem res_111 : Tryz.f111.results.toList = [.tmp 6] := rfl
@[simp] theorem res_112 : Tryz.f112.results.toList = [.tmp 2] := rfl
@[simp] theorem res_113 : Tryz.f113.results.toList = [.tmp 2] := rfl
@[simp] theorem res_114 : Tryz.f114.results.toList = [.tmp 4] := rfl
@[simp] theorem res_115 : Tryz.f115.results.toList = [.tmp 4, .tmp 5] := rfl
@[simp] theorem res_116 : Tryz.f116.results.toList = [.cell 2 47] := rfl
@[simp] theorem res_117 : Tryz.f117.results.toList = [.tmp 2] := rfl
@[simp] theorem res_118 : Tryz.f118.results.toList = [.tmp 2] := rfl
@[simp] theorem res_119 : Tryz.f119.results.toList = [.tmp 4] := rfl
@[simp] theorem res_120 : Tryz.f120.results.toList = [.tmp 2] := rfl
@[simp] theorem res_121 : Tryz.f121.results.toList = [.tmp 2] := rfl
@[simp] theorem res_122 : Tryz.f122.results.toList = [.tmp 6, .tmp 7] := rfl
@[simp] theorem res_123 : Tryz.f123.results.toList = [.tmp 4] := rfl
@[simp] theorem res_124 : Tryz.f124.results.toList = [.tmp 4] := rfl
@[simp] theorem res_126 : Tryz.f126.results.toList = [] := rfl
@[simp] theorem res_127 : Tryz.f127.results.toList = [.tmp 4] := rfl
@[simp] theorem res_128 : Tryz.f128.results.toList = [.tmp 2] := rfl
@[simp] theorem res_129 : Tryz.f129.results.toList = [] := rfl
@[simp] theorem res_130 : Tryz.f130.results.toList = [.tmp 5] := rfl
@[simp] theorem res_131 : Tryz.f131.results.toList = [.tmp 4] := rfl
@[simp] theorem res_132 : Tryz.f132.results.toList = [.tmp 2] := rfl
@[simp] theorem res_133 : Tryz.f133.results.toList = [.tmp 2] := rfl
@[simp] theorem res_134 : Tryz.f134.results.toList = [.tmp 4] := rfl
@[simp] theorem res_135 : Tryz.f135.results.toList = [.tmp 4] := rfl
@[simp] theorem res_136 : Tryz.f136.results.toList = [.tmp 4] := rfl
@[simp] theorem res_137 : Tryz.f137.results.toList = [.tmp 4] := rfl
@[simp] theorem res_138 : Tryz.f138.results.toList = [.tmp 4] := rfl
@[simp] theorem res_139 : Tryz.f139.results.toList = [.tmp 4] := rfl
@[simp] theorem res_140 : Tryz.f140.results.toList = [.tmp 6, .tmp 7] := rfl
@[simp] theorem res_141 : Tryz.f141.results.toList = [.tmp 10] := rfl
@[simp] theorem res_142 : Tryz.f142.results.toList = [.tmp 4] := rfl
@[simp] theorem res_143 : Tryz.f143.results.toList = [.tmp 4] := rfl
@[simp] theorem res_144 : Tryz.f144.results.toList = [.tmp 4] := rfl
@[simp] theorem res_145 : Tryz.f145.results.toList = [.tmp 2] := rfl
@[simp] theorem res_146 : Tryz.f146.results.toList = [.tmp 2] := rfl
@[simp] theorem res_147 : Tryz.f147.results.toList = [.tmp 4] := rfl
@[simp] theorem res_148 : Tryz.f148.results.toList = [] := rfl
@[simp] theorem res_149 : Tryz.f149.results.toList = [.tmp 4, .tmp 5] := rfl
@[simp] theorem res_150 : Tryz.f150.results.toList = [.tmp 2] := rfl
@[simp] theorem res_151 : Tryz.f151.results.toList = [.tmp 4] := rfl
@[simp] theorem res_152 : Tryz.f152.results.toList = [.tmp 2] := rfl
@[simp] theorem res_153 : Tryz.f153.results.toList = [.tmp 2] := rfl
@[simp] theorem res_154 : Tryz.f154.results.toList = [.tmp 2] := rfl
@[simp] theorem res_155 : Tryz.f155.results.toList = [.tmp 4] := rfl
@[simp] theorem res_156 : Tryz.f156.results.toList = [.tmp 2] := rfl
@[simp] theorem res_157 : Tryz.f157.results.toList = [.tmp 4] := rfl
@[simp] theorem res_158 : Tryz.f158.results.toList = [.tmp 2] := rfl
@[simp] theorem res_159 : Tryz.f159.results.toList = [.tmp 2] := rfl
@[simp] theorem res_160 : Tryz.f160.results.toList = [.tmp 4, .tmp 5] := rfl
@[simp] theorem res_161 : Tryz.f161.results.toList = [.tmp 4] := rfl
@[simp] theorem res_162 : Tryz.f162.results.toList = [.tmp 2] := rfl
@[simp] theorem res_163 : Tryz.f163.results.toList = [.tmp 2] := rfl
@[simp] theorem res_164 : Tryz.f164.results.toList = [.tmp 2] := rfl
@[simp] theorem res_165 : Tryz.f165.results.toList = [.tmp 4] := rfl
@[simp] theorem res_166 : Tryz.f166.results.toList = [.tmp 4] := rfl
@[simp] theorem res_167 : Tryz.f167.results.toList = [.tmp 2] := rfl
@[simp] theorem res_168 : Tryz.f168.results.toList = [] := rfl
@[simp] theorem res_169 : Tryz.f169.results.toList = [] := rfl
@[simp] theorem res_170 : Tryz.f170.results.toList = [.tmp 2] := rfl
@[simp] theorem res_171 : Tryz.f171.results.toList = [.tmp 4] := rfl
@[simp] theorem res_172 : Tryz.f172.results.toList = [.tmp 2] := rfl
@[simp] theorem res_173 : Tryz.f173.results.toList = [.tmp 2, .tmp 3] := rfl
@[simp] theorem res_175 : Tryz.f175.results.toList = [.tmp 4] := rfl
@[simp] theorem res_176 : Tryz.f176.results.toList = [.tmp 6, .tmp 7] := rfl
@[simp] theorem res_177 : Tryz.f177.results.toList = [.tmp 4] := rfl
@[simp] theorem res_178 : Tryz.f178.results.toList = [.tmp 4] := rfl
@[simp] theorem res_179 : Tryz.f179.results.toList = [.tmp 6] := rfl
@[simp] theorem res_180 : Tryz.f180.results.toList = [.tmp 6] := rfl
@[simp] theorem res_181 : Tryz.f181.results.toList = [.tmp 4] := rfl
@[simp] theorem res_182 : Tryz.f182.results.toList = [.tmp 4] := rfl
@[simp] theorem res_184 : Tryz.f184.results.toList = [.tmp 2] := rfl
@[simp] theorem res_185 : Tryz.f185.results.toList = [.tmp 4] := rfl
@[simp] theorem res_186 : Tryz.f186.results.toList = [] := rfl
@[simp] theorem res_187 : Tryz.f187.results.toList = [] := rfl
@[simp] theorem res_188 : Tryz.f188.results.toList = [.tmp 2] := rfl
@[simp] theorem res_189 : Tryz.f189.results.toList = [.tmp 4, .tmp 5] := rfl
@[simp] theorem res_190 : Tryz.f190.results.toList = [.tmp 2] := rfl
@[simp] theorem res_191 : Tryz.f191.results.toList = [.tmp 2, .tmp 3] := rfl
@[simp] theorem res_192 : Tryz.f192.results.toList = [.tmp 2] := rfl
@[simp] theorem res_193 : Tryz.f193.results.toList = [.tmp 2] := rfl
@[simp] theorem res_194 : Tryz.f194.results.toList = [] := rfl
@[simp] theorem res_195 : Tryz.f195.results.toList = [] := rfl
@[simp] theorem res_196 : Tryz.f196.results.toList = [] := rfl
@[simp] theorem res_197 : Tryz.f197.results.toList = [.tmp 2, .tmp 3] := rfl
@[simp] theorem res_198 : Tryz.f198.results.toList = [.tmp 2] := rfl
@[simp] theorem res_199 : Tryz.f199.results.toList = [.tmp 2] := rfl
@[simp] theorem res_200 : Tryz.f200.results.toList = [.tmp 2] := rfl
@[simp] theorem res_201 : Tryz.f201.results.toList = [.tmp 2] := rfl
@[simp] theorem res_202 : Tryz.f202.results.toList = [.tmp 2] := rfl
@[simp] theorem res_203 : Tryz.f203.results.toList = [.tmp 2] := rfl
@[simp] theorem res_204 : Tryz.f204.results.toList = [.tmp 2] := rfl
@[simp] theorem res_205 : Tryz.f205.results.toList = [] := rfl
@[simp] theorem res_206 : Tryz.f206.results.toList = [.tmp 10, .tmp 11] := rfl
@[simp] theorem res_208 : Tryz.f208.results.toList = [.tmp 2, .tmp 3] := rfl
@[simp] theorem res_211 : Tryz.f211.results.toList = [.tmp 4] := rfl
@[simp] theorem res_212 : Tryz.f212.results.toList = [.tmp 2] := rfl
@[simp] theorem res_213 : Tryz.f213.results.toList = [.tmp 6, .tmp 7] := rfl
@[simp] theorem res_214 : Tryz.f214.results.toList = [.tmp 4] := rfl
@[simp] theorem res_215 : Tryz.f215.results.toList = [.tmp 4] := rfl
@[simp] theorem res_216 : Tryz.f216.results.toList = [.tmp 6] := rfl
@[simp] theorem res_217 : Tryz.f217.results.toList = [.tmp 6] := rfl
@[simp] theorem res_218 : Tryz.f218.results.toList = [] := rfl
@[simp] theorem res_219 : Tryz.f219.results.toList = [.tmp 2] := rfl
@[simp] theorem res_220 : Tryz.f220.results.toList = [.tmp 2] := rfl
@[simp] theorem res_221 : Tryz.f221.results.toList = [.tmp 2] := rfl
@[simp] theorem res_222 : Tryz.f222.results.toList = [.tmp 2] := rfl
@[simp] theorem res_223 : Tryz.f223.results.toList = [.tmp 2] := rfl
@[simp] theorem res_224 : Tryz.f224.results.toList = [.tmp 2] := rfl
@[simp] theorem res_225 : Tryz.f225.results.toList = [.tmp 4] := rfl
@[simp] theorem res_226 : Tryz.f226.results.toList = [.tmp 4] := rfl
@[simp] theorem res_228 : Tryz.f228.results.toList = [] := rfl
@[simp] theorem res_229 : Tryz.f229.results.toList = [] := rfl
@[simp] theorem res_230 : Tryz.f230.results.toList = [.tmp 2] := rfl
@[simp] theorem res_231 : Tryz.f231.results.toList = [.tmp 2] := rfl
@[simp] theorem res_233 : Tryz.f233.results.toList = [] := rfl
@[simp] theorem res_234 : Tryz.f234.results.toList = [] := rfl
theorem hm : Tryz.prog.follows .mixedOrders = true := by kernel_rfl
end Go.Proofs.YtjmoilnklaeacaaGreatDoor
