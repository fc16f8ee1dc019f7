/- Closed facts on the types of the program. Made by a program (gen_types.py). No condition. -/
import Derived.Test.YtjeioaeipffifaaGreatDoorAcd
import Derived.Test.YtjeioaeipffifaaGreatDoorAbz
import Derived.Test.YtjeioaeipffifaaGreatDoorProg
namespace Go.Proofs.YtjeioaeipffifaaGreatDoor
open Go Go.Ab

theorem in2 : Tryz.prog.info? 2 = some Tryz.t2 := by kernel_rfl
@[simp] theorem ty2 : TyOne Tryz.prog 2 8 (some .i64) none false := tyOne_int in2 Tryz.underlying2 rfl rfl
@[simp] theorem tz2 : TyZ Tryz.prog 2 [.int .i64 0] := tyZ in2 rfl rfl rfl rfl
theorem in3 : Tryz.prog.info? 3 = some Tryz.t3 := by kernel_rfl
@[simp] theorem ty3 : TyOne Tryz.prog 3 8 (some .i64) none false := tyOne_int in3 Tryz.underlying3 rfl rfl
@[simp] theorem tz3 : TyZ Tryz.prog 3 [.int .i64 0] := tyZ in3 rfl rfl rfl rfl
theorem in4 : Tryz.prog.info? 4 = some Tryz.t4 := by kernel_rfl
@[simp] theorem ty4 : TyOne Tryz.prog 4 1 none none false := tyOne_bool in4 Tryz.underlying4 rfl rfl
@[simp] theorem ub4 : Tryz.prog.underlying 4 = some .bool := Tryz.underlying4
@[simp] theorem tz4 : TyZ Tryz.prog 4 [.bool false] := tyZ in4 rfl rfl rfl rfl
theorem in5 : Tryz.prog.info? 5 = some Tryz.t5 := by kernel_rfl
@[simp] theorem ty5 : TyOne Tryz.prog 5 1 (some .u8) none false := tyOne_int in5 Tryz.underlying5 rfl rfl
@[simp] theorem tz5 : TyZ Tryz.prog 5 [.int .u8 0] := tyZ in5 rfl rfl rfl rfl
theorem in6 : Tryz.prog.info? 6 = some Tryz.t6 := by kernel_rfl
@[simp] theorem ty6 : TyOne Tryz.prog 6 1 (some .u8) none false := tyOne_int in6 Tryz.underlying6 rfl rfl
@[simp] theorem tz6 : TyZ Tryz.prog 6 [.int .u8 0] := tyZ in6 rfl rfl rfl rfl
theorem in8 : Tryz.prog.info? 8 = some Tryz.t8 := by kernel_rfl
@[simp] theorem ty8 : TyAgg Tryz.prog 8 4 24 := tyAgg_struct in8 Tryz.underlying8 rfl rfl
@[simp] theorem tz8 : TyZ Tryz.prog 8 [.int .i64 0, .int .i64 0, .bool false, .int .u8 0] := tyZ in8 rfl rfl rfl rfl
theorem in9 : Tryz.prog.info? 9 = some Tryz.t9 := by kernel_rfl
@[simp] theorem ty9 : TyOne Tryz.prog 9 16 none none true := tyOne_str in9 Tryz.underlying9 rfl rfl
@[simp] theorem tz9 : TyZ Tryz.prog 9 [.str []] := tyZ in9 rfl rfl rfl rfl
theorem in10 : Tryz.prog.info? 10 = some Tryz.t10 := by kernel_rfl
@[simp] theorem ty10 : TyOne Tryz.prog 10 16 none none true := tyOne_str in10 Tryz.underlying10 rfl rfl
@[simp] theorem tz10 : TyZ Tryz.prog 10 [.str []] := tyZ in10 rfl rfl rfl rfl
theorem in11 : Tryz.prog.info? 11 = some Tryz.t11 := by kernel_rfl
@[simp] theorem ty11 : TyOne Tryz.prog 11 16 none none true := tyOne_str in11 Tryz.underlying11 rfl rfl
@[simp] theorem tz11 : TyZ Tryz.prog 11 [.str []] := tyZ in11 rfl rfl rfl rfl
theorem in12 : Tryz.prog.info? 12 = some Tryz.t12 := by kernel_rfl
@[simp] theorem ty12 : TyOne Tryz.prog 12 8 (some .u64) none false := tyOne_int in12 Tryz.underlying12 rfl rfl
@[simp] theorem tz12 : TyZ Tryz.prog 12 [.int .u64 0] := tyZ in12 rfl rfl rfl rfl
theorem in14 : Tryz.prog.info? 14 = some Tryz.t14 := by kernel_rfl
@[simp] theorem ty14 : TyAgg Tryz.prog 14 2 24 := tyAgg_struct in14 Tryz.underlying14 rfl rfl
@[simp] theorem tz14 : TyZ Tryz.prog 14 [.str [], .int .u64 0] := tyZ in14 rfl rfl rfl rfl
theorem in15 : Tryz.prog.info? 15 = some Tryz.t15 := by kernel_rfl
@[simp] theorem ty15 : TyOne Tryz.prog 15 8 none none false := tyOne_pointer in15 Tryz.underlying15 rfl rfl
@[simp] theorem tz15 : TyZ Tryz.prog 15 [.raw (.pointer none)] := tyZ in15 rfl rfl rfl rfl
theorem in16 : Tryz.prog.info? 16 = some Tryz.t16 := by kernel_rfl
@[simp] theorem ty16 : TyOne Tryz.prog 16 8 none none false := tyOne_pointer in16 Tryz.underlying16 rfl rfl
@[simp] theorem tz16 : TyZ Tryz.prog 16 [.raw (.pointer none)] := tyZ in16 rfl rfl rfl rfl
theorem in17 : Tryz.prog.info? 17 = some Tryz.t17 := by kernel_rfl
@[simp] theorem ty17 : TyOne Tryz.prog 17 8 none none false := tyOne_pointer in17 Tryz.underlying17 rfl rfl
@[simp] theorem tz17 : TyZ Tryz.prog 17 [.raw (.pointer none)] := tyZ in17 rfl rfl rfl rfl
theorem in19 : Tryz.prog.info? 19 = some Tryz.t19 := by kernel_rfl
@[simp] theorem ty19 : TyAgg Tryz.prog 19 1 8 := tyAgg_struct in19 Tryz.underlying19 rfl rfl
@[simp] theorem tz19 : TyZ Tryz.prog 19 [.raw (.pointer none)] := tyZ in19 rfl rfl rfl rfl
theorem in21 : Tryz.prog.info? 21 = some Tryz.t21 := by kernel_rfl
@[simp] theorem ty21 : TyOne Tryz.prog 21 4 (some .i32) none false := tyOne_int in21 Tryz.underlying21 rfl rfl
@[simp] theorem tz21 : TyZ Tryz.prog 21 [.int .i32 0] := tyZ in21 rfl rfl rfl rfl
theorem in22 : Tryz.prog.info? 22 = some Tryz.t22 := by kernel_rfl
@[simp] theorem ty22 : TyOne Tryz.prog 22 24 none (some 5) false := tyOne_slice in22 Tryz.underlying22 rfl rfl
@[simp] theorem tz22 : TyZ Tryz.prog 22 [.nils] := tyZ in22 rfl rfl rfl rfl
theorem in24 : Tryz.prog.info? 24 = some Tryz.t24 := by kernel_rfl
@[simp] theorem ty24 : TyOne Tryz.prog 24 24 none (some 28) false := tyOne_slice in24 Tryz.underlying24 rfl rfl
@[simp] theorem tz24 : TyZ Tryz.prog 24 [.nils] := tyZ in24 rfl rfl rfl rfl
theorem in28 : Tryz.prog.info? 28 = some Tryz.t28 := by kernel_rfl
@[simp] theorem ty28 : TyAgg Tryz.prog 28 5 48 := tyAgg_struct in28 Tryz.underlying28 rfl rfl
@[simp] theorem tz28 : TyZ Tryz.prog 28 [.str [], .int .i64 0, .int .i64 0, .int .i64 0, .int .i64 0] := tyZ in28 rfl rfl rfl rfl
theorem in38 : Tryz.prog.info? 38 = some Tryz.t38 := by kernel_rfl
@[simp] theorem ty38 : TyOne Tryz.prog 38 24 none (some 2) false := tyOne_slice in38 Tryz.underlying38 rfl rfl
@[simp] theorem tz38 : TyZ Tryz.prog 38 [.nils] := tyZ in38 rfl rfl rfl rfl
theorem in45 : Tryz.prog.info? 45 = some Tryz.t45 := by kernel_rfl
@[simp] theorem ty45 : TyOne Tryz.prog 45 24 none (some 102) false := tyOne_slice in45 Tryz.underlying45 rfl rfl
@[simp] theorem tz45 : TyZ Tryz.prog 45 [.nils] := tyZ in45 rfl rfl rfl rfl
theorem in53 : Tryz.prog.info? 53 = some Tryz.t53 := by kernel_rfl
@[simp] theorem ty53 : TyOne Tryz.prog 53 24 none (some 65) false := tyOne_slice in53 Tryz.underlying53 rfl rfl
@[simp] theorem tz53 : TyZ Tryz.prog 53 [.nils] := tyZ in53 rfl rfl rfl rfl
theorem in55 : Tryz.prog.info? 55 = some Tryz.t55 := by kernel_rfl
@[simp] theorem ty55 : TyAgg Tryz.prog 55 4 64 := tyAgg_struct in55 Tryz.underlying55 rfl rfl
@[simp] theorem tz55 : TyZ Tryz.prog 55 [.int .i64 0, .int .i64 0, .nils, .nils] := tyZ in55 rfl rfl rfl rfl
theorem in65 : Tryz.prog.info? 65 = some Tryz.t65 := by kernel_rfl
@[simp] theorem ty65 : TyAgg Tryz.prog 65 2 16 := tyAgg_struct in65 Tryz.underlying65 rfl rfl
@[simp] theorem tz65 : TyZ Tryz.prog 65 [.int .i64 0, .int .i64 0] := tyZ in65 rfl rfl rfl rfl
theorem in72 : Tryz.prog.info? 72 = some Tryz.t72 := by kernel_rfl
@[simp] theorem ty72 : TyOne Tryz.prog 72 8 none none false := tyOne_pointer in72 Tryz.underlying72 rfl rfl
@[simp] theorem tz72 : TyZ Tryz.prog 72 [.raw (.pointer none)] := tyZ in72 rfl rfl rfl rfl
theorem in75 : Tryz.prog.info? 75 = some Tryz.t75 := by kernel_rfl
@[simp] theorem ty75 : TyOne Tryz.prog 75 24 none (some 9) false := tyOne_slice in75 Tryz.underlying75 rfl rfl
@[simp] theorem tz75 : TyZ Tryz.prog 75 [.nils] := tyZ in75 rfl rfl rfl rfl
theorem in102 : Tryz.prog.info? 102 = some Tryz.t102 := by kernel_rfl
@[simp] theorem ty102 : TyAgg Tryz.prog 102 3 40 := tyAgg_struct in102 Tryz.underlying102 rfl rfl
@[simp] theorem tz102 : TyZ Tryz.prog 102 [.int .i64 0, .str [], .str []] := tyZ in102 rfl rfl rfl rfl
theorem in105 : Tryz.prog.info? 105 = some Tryz.t105 := by kernel_rfl
@[simp] theorem ty105 : TyOne Tryz.prog 105 8 none none false := tyOne_func in105 Tryz.underlying105 rfl rfl
@[simp] theorem tz105 : TyZ Tryz.prog 105 [.raw .nilFunc] := tyZ in105 rfl rfl rfl rfl
theorem in109 : Tryz.prog.info? 109 = some Tryz.t109 := by kernel_rfl
@[simp] theorem ty109 : TyOne Tryz.prog 109 8 none none false := tyOne_func in109 Tryz.underlying109 rfl rfl
@[simp] theorem tz109 : TyZ Tryz.prog 109 [.raw .nilFunc] := tyZ in109 rfl rfl rfl rfl
theorem in114 : Tryz.prog.info? 114 = some Tryz.t114 := by kernel_rfl
@[simp] theorem ty114 : TyOne Tryz.prog 114 8 none none false := tyOne_pointer in114 Tryz.underlying114 rfl rfl
@[simp] theorem tz114 : TyZ Tryz.prog 114 [.raw (.pointer none)] := tyZ in114 rfl rfl rfl rfl
theorem in125 : Tryz.prog.info? 125 = some Tryz.t125 := by kernel_rfl
@[simp] theorem ty125 : TyOne Tryz.prog 125 8 (some .u64) none false := tyOne_int in125 Tryz.underlying125 rfl rfl
@[simp] theorem tz125 : TyZ Tryz.prog 125 [.int .u64 0] := tyZ in125 rfl rfl rfl rfl
theorem in127 : Tryz.prog.info? 127 = some Tryz.t127 := by kernel_rfl
@[simp] theorem ty127 : TyAgg Tryz.prog 127 3 40 := tyAgg_struct in127 Tryz.underlying127 rfl rfl
@[simp] theorem tz127 : TyZ Tryz.prog 127 [.nils, .int .i64 0, .int .u64 0] := tyZ in127 rfl rfl rfl rfl
theorem in134 : Tryz.prog.info? 134 = some Tryz.t134 := by kernel_rfl
@[simp] theorem ty134 : TyOne Tryz.prog 134 8 none none false := tyOne_func in134 Tryz.underlying134 rfl rfl
@[simp] theorem tz134 : TyZ Tryz.prog 134 [.raw .nilFunc] := tyZ in134 rfl rfl rfl rfl
theorem in139 : Tryz.prog.info? 139 = some Tryz.t139 := by kernel_rfl
@[simp] theorem ty139 : TyOne Tryz.prog 139 8 none none false := tyOne_func in139 Tryz.underlying139 rfl rfl
@[simp] theorem tz139 : TyZ Tryz.prog 139 [.raw .nilFunc] := tyZ in139 rfl rfl rfl rfl
theorem in145 : Tryz.prog.info? 145 = some Tryz.t145 := by kernel_rfl
@[simp] theorem ty145 : TyOne Tryz.prog 145 8 none none false := tyOne_pointer in145 Tryz.underlying145 rfl rfl
@[simp] theorem tz145 : TyZ Tryz.prog 145 [.raw (.pointer none)] := tyZ in145 rfl rfl rfl rfl
theorem in157 : Tryz.prog.info? 157 = some Tryz.t157 := by kernel_rfl
@[simp] theorem ty157 : TyOne Tryz.prog 157 8 (some .u64) none false := tyOne_int in157 Tryz.underlying157 rfl rfl
@[simp] theorem tz157 : TyZ Tryz.prog 157 [.int .u64 0] := tyZ in157 rfl rfl rfl rfl
theorem in160 : Tryz.prog.info? 160 = some Tryz.t160 := by kernel_rfl
@[simp] theorem ty160 : TyOne Tryz.prog 160 8 none none false := tyOne_pointer in160 Tryz.underlying160 rfl rfl
@[simp] theorem tz160 : TyZ Tryz.prog 160 [.raw (.pointer none)] := tyZ in160 rfl rfl rfl rfl
theorem in162 : Tryz.prog.info? 162 = some Tryz.t162 := by kernel_rfl
@[simp] theorem ty162 : TyAgg Tryz.prog 162 2 32 := tyAgg_struct in162 Tryz.underlying162 rfl rfl
@[simp] theorem tz162 : TyZ Tryz.prog 162 [.raw (.pointer none), .nils] := tyZ in162 rfl rfl rfl rfl
theorem in165 : Tryz.prog.info? 165 = some Tryz.t165 := by kernel_rfl
theorem in173 : Tryz.prog.info? 173 = some Tryz.t173 := by kernel_rfl
@[simp] theorem ty173 : TyOne Tryz.prog 173 8 none none false := tyOne_pointer in173 Tryz.underlying173 rfl rfl
@[simp] theorem tz173 : TyZ Tryz.prog 173 [.raw (.pointer none)] := tyZ in173 rfl rfl rfl rfl
theorem in177 : Tryz.prog.info? 177 = some Tryz.t177 := by kernel_rfl
@[simp] theorem ty177 : TyOne Tryz.prog 177 8 none none false := tyOne_pointer in177 Tryz.underlying177 rfl rfl
@[simp] theorem tz177 : TyZ Tryz.prog 177 [.raw (.pointer none)] := tyZ in177 rfl rfl rfl rfl
theorem in185 : Tryz.prog.info? 185 = some Tryz.t185 := by kernel_rfl
@[simp] theorem ty185 : TyOne Tryz.prog 185 24 none (some 188) false := tyOne_slice in185 Tryz.underlying185 rfl rfl
@[simp] theorem tz185 : TyZ Tryz.prog 185 [.nils] := tyZ in185 rfl rfl rfl rfl
theorem in188 : Tryz.prog.info? 188 = some Tryz.t188 := by kernel_rfl
@[simp] theorem ty188 : TyAgg Tryz.prog 188 2 32 := tyAgg_struct in188 Tryz.underlying188 rfl rfl
@[simp] theorem tz188 : TyZ Tryz.prog 188 [.str [], .str []] := tyZ in188 rfl rfl rfl rfl
theorem in195 : Tryz.prog.info? 195 = some Tryz.t195 := by kernel_rfl
@[simp] theorem ty195 : TyOne Tryz.prog 195 8 (some .i64) none false := tyOne_int in195 Tryz.underlying195 rfl rfl
@[simp] theorem tz195 : TyZ Tryz.prog 195 [.int .i64 0] := tyZ in195 rfl rfl rfl rfl
theorem in202 : Tryz.prog.info? 202 = some Tryz.t202 := by kernel_rfl
@[simp] theorem ty202 : TyOne Tryz.prog 202 4 (some .u32) none false := tyOne_int in202 Tryz.underlying202 rfl rfl
@[simp] theorem tz202 : TyZ Tryz.prog 202 [.int .u32 0] := tyZ in202 rfl rfl rfl rfl
theorem in204 : Tryz.prog.info? 204 = some Tryz.t204 := by kernel_rfl
@[simp] theorem ty204 : TyOne Tryz.prog 204 24 none (some 3) false := tyOne_slice in204 Tryz.underlying204 rfl rfl
@[simp] theorem tz204 : TyZ Tryz.prog 204 [.nils] := tyZ in204 rfl rfl rfl rfl
theorem in205 : Tryz.prog.info? 205 = some Tryz.t205 := by kernel_rfl
@[simp] theorem ty205 : TyOne Tryz.prog 205 8 none none false := tyOne_pointer in205 Tryz.underlying205 rfl rfl
@[simp] theorem tz205 : TyZ Tryz.prog 205 [.raw (.pointer none)] := tyZ in205 rfl rfl rfl rfl
theorem in215 : Tryz.prog.info? 215 = some Tryz.t215 := by kernel_rfl
@[simp] theorem ty215 : TyOne Tryz.prog 215 8 none none false := tyOne_func in215 Tryz.underlying215 rfl rfl
@[simp] theorem tz215 : TyZ Tryz.prog 215 [.raw .nilFunc] := tyZ in215 rfl rfl rfl rfl
theorem in222 : Tryz.prog.info? 222 = some Tryz.t222 := by kernel_rfl
@[simp] theorem ty222 : TyOne Tryz.prog 222 8 (some .u64) none false := tyOne_int in222 Tryz.underlying222 rfl rfl
@[simp] theorem tz222 : TyZ Tryz.prog 222 [.int .u64 0] := tyZ in222 rfl rfl rfl rfl
theorem in226 : Tryz.prog.info? 226 = some Tryz.t226 := by kernel_rfl
@[simp] theorem ty226 : TyOne Tryz.prog 226 8 none none false := tyOne_pointer in226 Tryz.underlying226 rfl rfl
@[simp] theorem tz226 : TyZ Tryz.prog 226 [.raw (.pointer none)] := tyZ in226 rfl rfl rfl rfl
theorem in229 : Tryz.prog.info? 229 = some Tryz.t229 := by kernel_rfl
@[simp] theorem ty229 : TyAgg Tryz.prog 229 24 24 := tyAgg_array in229 Tryz.underlying229 rfl rfl
@[simp] theorem ar229 : arrT Tryz.prog 229 = some (24, 5) := arrOf Tryz.underlying229
@[simp] theorem tz229 : TyZ Tryz.prog 229 [.int .u8 0, .int .u8 0, .int .u8 0, .int .u8 0, .int .u8 0, .int .u8 0, .int .u8 0, .int .u8 0, .int .u8 0, .int .u8 0, .int .u8 0, .int .u8 0, .int .u8 0, .int .u8 0, .int .u8 0, .int .u8 0, .int .u8 0, .int .u8 0, .int .u8 0, .int .u8 0, .int .u8 0, .int .u8 0, .int .u8 0, .int .u8 0] := tyZ in229 rfl rfl rfl rfl
theorem in233 : Tryz.prog.info? 233 = some Tryz.t233 := by kernel_rfl
theorem in237 : Tryz.prog.info? 237 = some Tryz.t237 := by kernel_rfl
@[simp] theorem ty237 : TyOne Tryz.prog 237 8 (some .i64) none false := tyOne_int in237 Tryz.underlying237 rfl rfl
@[simp] theorem tz237 : TyZ Tryz.prog 237 [.int .i64 0] := tyZ in237 rfl rfl rfl rfl
theorem in240 : Tryz.prog.info? 240 = some Tryz.t240 := by kernel_rfl
@[simp] theorem ty240 : TyOne Tryz.prog 240 8 none none false := tyOne_pointer in240 Tryz.underlying240 rfl rfl
@[simp] theorem tz240 : TyZ Tryz.prog 240 [.raw (.pointer none)] := tyZ in240 rfl rfl rfl rfl
theorem in247 : Tryz.prog.info? 247 = some Tryz.t247 := by kernel_rfl
@[simp] theorem ty247 : TyOne Tryz.prog 247 8 none none false := tyOne_func in247 Tryz.underlying247 rfl rfl
@[simp] theorem tz247 : TyZ Tryz.prog 247 [.raw .nilFunc] := tyZ in247 rfl rfl rfl rfl
theorem in250 : Tryz.prog.info? 250 = some Tryz.t250 := by kernel_rfl
@[simp] theorem ty250 : TyOne Tryz.prog 250 8 none none false := tyOne_pointer in250 Tryz.underlying250 rfl rfl
@[simp] theorem tz250 : TyZ Tryz.prog 250 [.raw (.pointer none)] := tyZ in250 rfl rfl rfl rfl
theorem in254 : Tryz.prog.info? 254 = some Tryz.t254 := by kernel_rfl
@[simp] theorem ty254 : TyAgg Tryz.prog 254 20 160 := tyAgg_array in254 Tryz.underlying254 rfl rfl
@[simp] theorem ar254 : arrT Tryz.prog 254 = some (20, 125) := arrOf Tryz.underlying254
@[simp] theorem tz254 : TyZ Tryz.prog 254 [.int .u64 0, .int .u64 0, .int .u64 0, .int .u64 0, .int .u64 0, .int .u64 0, .int .u64 0, .int .u64 0, .int .u64 0, .int .u64 0, .int .u64 0, .int .u64 0, .int .u64 0, .int .u64 0, .int .u64 0, .int .u64 0, .int .u64 0, .int .u64 0, .int .u64 0, .int .u64 0] := tyZ in254 rfl rfl rfl rfl
theorem in255 : Tryz.prog.info? 255 = some Tryz.t255 := by kernel_rfl
@[simp] theorem ty255 : TyAgg Tryz.prog 255 65 65 := tyAgg_array in255 Tryz.underlying255 rfl rfl
@[simp] theorem ar255 : arrT Tryz.prog 255 = some (65, 5) := arrOf Tryz.underlying255
theorem in260 : Tryz.prog.info? 260 = some Tryz.t260 := by kernel_rfl
@[simp] theorem ty260 : TyAgg Tryz.prog 260 3 48 := tyAgg_struct in260 Tryz.underlying260 rfl rfl
@[simp] theorem tz260 : TyZ Tryz.prog 260 [.str [], .str [], .raw .nilIface] := tyZ in260 rfl rfl rfl rfl
theorem in264 : Tryz.prog.info? 264 = some Tryz.t264 := by kernel_rfl
@[simp] theorem ty264 : TyAgg Tryz.prog 264 256 256 := tyAgg_array in264 Tryz.underlying264 rfl rfl
@[simp] theorem ar264 : arrT Tryz.prog 264 = some (256, 5) := arrOf Tryz.underlying264
theorem in266 : Tryz.prog.info? 266 = some Tryz.t266 := by kernel_rfl
@[simp] theorem ty266 : TyAgg Tryz.prog 266 2 2 := tyAgg_struct in266 Tryz.underlying266 rfl rfl
@[simp] theorem tz266 : TyZ Tryz.prog 266 [.int .u8 0, .int .u8 0] := tyZ in266 rfl rfl rfl rfl
theorem in267 : Tryz.prog.info? 267 = some Tryz.t267 := by kernel_rfl
@[simp] theorem ty267 : TyAgg Tryz.prog 267 32 32 := tyAgg_array in267 Tryz.underlying267 rfl rfl
@[simp] theorem ar267 : arrT Tryz.prog 267 = some (16, 266) := arrOf Tryz.underlying267
@[simp] theorem tz267 : TyZ Tryz.prog 267 [.int .u8 0, .int .u8 0, .int .u8 0, .int .u8 0, .int .u8 0, .int .u8 0, .int .u8 0, .int .u8 0, .int .u8 0, .int .u8 0, .int .u8 0, .int .u8 0, .int .u8 0, .int .u8 0, .int .u8 0, .int .u8 0, .int .u8 0, .int .u8 0, .int .u8 0, .int .u8 0, .int .u8 0, .int .u8 0, .int .u8 0, .int .u8 0, .int .u8 0, .int .u8 0, .int .u8 0, .int .u8 0, .int .u8 0, .int .u8 0, .int .u8 0, .int .u8 0] := tyZ in267 rfl rfl rfl rfl
theorem in271 : Tryz.prog.info? 271 = some Tryz.t271 := by kernel_rfl
@[simp] theorem ty271 : TyOne Tryz.prog 271 8 none none false := tyOne_pointer in271 Tryz.underlying271 rfl rfl
@[simp] theorem tz271 : TyZ Tryz.prog 271 [.raw (.pointer none)] := tyZ in271 rfl rfl rfl rfl
theorem in273 : Tryz.prog.info? 273 = some Tryz.t273 := by kernel_rfl
@[simp] theorem ty273 : TyAgg Tryz.prog 273 1 16 := tyAgg_struct in273 Tryz.underlying273 rfl rfl
@[simp] theorem tz273 : TyZ Tryz.prog 273 [.str []] := tyZ in273 rfl rfl rfl rfl
theorem in274 : Tryz.prog.info? 274 = some Tryz.t274 := by kernel_rfl
@[simp] theorem ty274 : TyAgg Tryz.prog 274 32 32 := tyAgg_array in274 Tryz.underlying274 rfl rfl
@[simp] theorem ar274 : arrT Tryz.prog 274 = some (32, 5) := arrOf Tryz.underlying274
@[simp] theorem tz274 : TyZ Tryz.prog 274 [.int .u8 0, .int .u8 0, .int .u8 0, .int .u8 0, .int .u8 0, .int .u8 0, .int .u8 0, .int .u8 0, .int .u8 0, .int .u8 0, .int .u8 0, .int .u8 0, .int .u8 0, .int .u8 0, .int .u8 0, .int .u8 0, .int .u8 0, .int .u8 0, .int .u8 0, .int .u8 0, .int .u8 0, .int .u8 0, .int .u8 0, .int .u8 0, .int .u8 0, .int .u8 0, .int .u8 0, .int .u8 0, .int .u8 0, .int .u8 0, .int .u8 0, .int .u8 0] := tyZ in274 rfl rfl rfl rfl
theorem in275 : Tryz.prog.info? 275 = some Tryz.t275 := by kernel_rfl
@[simp] theorem ty275 : TyAgg Tryz.prog 275 64 64 := tyAgg_array in275 Tryz.underlying275 rfl rfl
@[simp] theorem ar275 : arrT Tryz.prog 275 = some (64, 5) := arrOf Tryz.underlying275
@[simp] theorem tz275 : TyZ Tryz.prog 275 [.int .u8 0, .int .u8 0, .int .u8 0, .int .u8 0, .int .u8 0, .int .u8 0, .int .u8 0, .int .u8 0, .int .u8 0, .int .u8 0, .int .u8 0, .int .u8 0, .int .u8 0, .int .u8 0, .int .u8 0, .int .u8 0, .int .u8 0, .int .u8 0, .int .u8 0, .int .u8 0, .int .u8 0, .int .u8 0, .int .u8 0, .int .u8 0, .int .u8 0, .int .u8 0, .int .u8 0, .int .u8 0, .int .u8 0, .int .u8 0, .int .u8 0, .int .u8 0, .int .u8 0, .int .u8 0, .int .u8 0, .int .u8 0, .int .u8 0, .int .u8 0, .int .u8 0, .int .u8 0, .int .u8 0, .int .u8 0, .int .u8 0, .int .u8 0, .int .u8 0, .int .u8 0, .int .u8 0, .int .u8 0, .int .u8 0, .int .u8 0, .int .u8 0, .int .u8 0, .int .u8 0, .int .u8 0, .int .u8 0, .int .u8 0, .int .u8 0, .int .u8 0, .int .u8 0, .int .u8 0, .int .u8 0, .int .u8 0, .int .u8 0, .int .u8 0] := tyZ in275 rfl rfl rfl rfl
theorem in284 : Tryz.prog.info? 284 = some Tryz.t284 := by kernel_rfl
@[simp] theorem ty284 : TyOne Tryz.prog 284 1 (some .u8) none false := tyOne_int in284 Tryz.underlying284 rfl rfl
@[simp] theorem tz284 : TyZ Tryz.prog 284 [.int .u8 0] := tyZ in284 rfl rfl rfl rfl
@[simp] theorem gv1 : globV 1 = .pe 20 [powT] 0 0 := rfl
@[simp] theorem ts8 : structT Tryz.prog 8 = true := structOf Tryz.underlying8 (by simp [in2, in3, in4, in6])
@[simp] theorem fl8_0 : fldT Tryz.prog 8 0 = some (0, false, 1) := fldOf Tryz.underlying8 rfl rfl ty2.1 ty2.2.1 ty2.2.2.1
@[simp] theorem fl8_1 : fldT Tryz.prog 8 1 = some (1, false, 1) := fldOf Tryz.underlying8 rfl rfl ty3.1 ty3.2.1 ty3.2.2.1
@[simp] theorem fl8_2 : fldT Tryz.prog 8 2 = some (2, false, 1) := fldOf Tryz.underlying8 rfl rfl ty4.1 ty4.2.1 ty4.2.2.1
@[simp] theorem fl8_3 : fldT Tryz.prog 8 3 = some (3, false, 1) := fldOf Tryz.underlying8 rfl rfl ty6.1 ty6.2.1 ty6.2.2.1
@[simp] theorem ts14 : structT Tryz.prog 14 = true := structOf Tryz.underlying14 (by simp [in12, in9])
@[simp] theorem fl14_0 : fldT Tryz.prog 14 0 = some (0, false, 1) := fldOf Tryz.underlying14 rfl rfl ty9.1 ty9.2.1 ty9.2.2.1
@[simp] theorem fl14_1 : fldT Tryz.prog 14 1 = some (1, false, 1) := fldOf Tryz.underlying14 rfl rfl ty12.1 ty12.2.1 ty12.2.2.1
@[simp] theorem ts19 : structT Tryz.prog 19 = true := structOf Tryz.underlying19 (by simp [in17])
@[simp] theorem fl19_0 : fldT Tryz.prog 19 0 = some (0, false, 1) := fldOf Tryz.underlying19 rfl rfl ty17.1 ty17.2.1 ty17.2.2.1
@[simp] theorem ts28 : structT Tryz.prog 28 = true := structOf Tryz.underlying28 (by simp [in2, in9])
@[simp] theorem fl28_0 : fldT Tryz.prog 28 0 = some (0, false, 1) := fldOf Tryz.underlying28 rfl rfl ty9.1 ty9.2.1 ty9.2.2.1
@[simp] theorem fl28_1 : fldT Tryz.prog 28 1 = some (1, false, 1) := fldOf Tryz.underlying28 rfl rfl ty2.1 ty2.2.1 ty2.2.2.1
@[simp] theorem fl28_2 : fldT Tryz.prog 28 2 = some (2, false, 1) := fldOf Tryz.underlying28 rfl rfl ty2.1 ty2.2.1 ty2.2.2.1
@[simp] theorem fl28_3 : fldT Tryz.prog 28 3 = some (3, false, 1) := fldOf Tryz.underlying28 rfl rfl ty2.1 ty2.2.1 ty2.2.2.1
@[simp] theorem fl28_4 : fldT Tryz.prog 28 4 = some (4, false, 1) := fldOf Tryz.underlying28 rfl rfl ty2.1 ty2.2.1 ty2.2.2.1
@[simp] theorem ts55 : structT Tryz.prog 55 = true := structOf Tryz.underlying55 (by simp [in2, in38, in53])
@[simp] theorem fl55_0 : fldT Tryz.prog 55 0 = some (0, false, 1) := fldOf Tryz.underlying55 rfl rfl ty2.1 ty2.2.1 ty2.2.2.1
@[simp] theorem fl55_1 : fldT Tryz.prog 55 1 = some (1, false, 1) := fldOf Tryz.underlying55 rfl rfl ty2.1 ty2.2.1 ty2.2.2.1
@[simp] theorem fl55_2 : fldT Tryz.prog 55 2 = some (2, false, 1) := fldOf Tryz.underlying55 rfl rfl ty38.1 ty38.2.1 ty38.2.2.1
@[simp] theorem fl55_3 : fldT Tryz.prog 55 3 = some (3, false, 1) := fldOf Tryz.underlying55 rfl rfl ty53.1 ty53.2.1 ty53.2.2.1
@[simp] theorem ts65 : structT Tryz.prog 65 = true := structOf Tryz.underlying65 (by simp [in2])
@[simp] theorem fl65_0 : fldT Tryz.prog 65 0 = some (0, false, 1) := fldOf Tryz.underlying65 rfl rfl ty2.1 ty2.2.1 ty2.2.2.1
@[simp] theorem fl65_1 : fldT Tryz.prog 65 1 = some (1, false, 1) := fldOf Tryz.underlying65 rfl rfl ty2.1 ty2.2.1 ty2.2.2.1
@[simp] theorem ts102 : structT Tryz.prog 102 = true := structOf Tryz.underlying102 (by simp [in2, in9])
@[simp] theorem fl102_0 : fldT Tryz.prog 102 0 = some (0, false, 1) := fldOf Tryz.underlying102 rfl rfl ty2.1 ty2.2.1 ty2.2.2.1
@[simp] theorem fl102_1 : fldT Tryz.prog 102 1 = some (1, false, 1) := fldOf Tryz.underlying102 rfl rfl ty9.1 ty9.2.1 ty9.2.2.1
@[simp] theorem fl102_2 : fldT Tryz.prog 102 2 = some (2, false, 1) := fldOf Tryz.underlying102 rfl rfl ty9.1 ty9.2.1 ty9.2.2.1
@[simp] theorem ts127 : structT Tryz.prog 127 = true := structOf Tryz.underlying127 (by simp [in125, in22, in3])
@[simp] theorem fl127_0 : fldT Tryz.prog 127 0 = some (0, false, 1) := fldOf Tryz.underlying127 rfl rfl ty22.1 ty22.2.1 ty22.2.2.1
@[simp] theorem fl127_1 : fldT Tryz.prog 127 1 = some (1, false, 1) := fldOf Tryz.underlying127 rfl rfl ty3.1 ty3.2.1 ty3.2.2.1
@[simp] theorem fl127_2 : fldT Tryz.prog 127 2 = some (2, false, 1) := fldOf Tryz.underlying127 rfl rfl ty125.1 ty125.2.1 ty125.2.2.1
@[simp] theorem ts162 : structT Tryz.prog 162 = true := structOf Tryz.underlying162 (by simp [in160, in22])
@[simp] theorem fl162_0 : fldT Tryz.prog 162 0 = some (0, false, 1) := fldOf Tryz.underlying162 rfl rfl ty160.1 ty160.2.1 ty160.2.2.1
@[simp] theorem fl162_1 : fldT Tryz.prog 162 1 = some (1, false, 1) := fldOf Tryz.underlying162 rfl rfl ty22.1 ty22.2.1 ty22.2.2.1
@[simp] theorem ts188 : structT Tryz.prog 188 = true := structOf Tryz.underlying188 (by simp [in9])
@[simp] theorem fl188_0 : fldT Tryz.prog 188 0 = some (0, false, 1) := fldOf Tryz.underlying188 rfl rfl ty9.1 ty9.2.1 ty9.2.2.1
@[simp] theorem fl188_1 : fldT Tryz.prog 188 1 = some (1, false, 1) := fldOf Tryz.underlying188 rfl rfl ty9.1 ty9.2.1 ty9.2.2.1
@[simp] theorem ts260 : structT Tryz.prog 260 = true := structOf Tryz.underlying260 (by simp [in165, in9])
@[simp] theorem fl260_0 : fldT Tryz.prog 260 0 = some (0, false, 1) := fldOf Tryz.underlying260 rfl rfl ty9.1 ty9.2.1 ty9.2.2.1
@[simp] theorem fl260_1 : fldT Tryz.prog 260 1 = some (1, false, 1) := fldOf Tryz.underlying260 rfl rfl ty9.1 ty9.2.1 ty9.2.2.1
@[simp] theorem ts266 : structT Tryz.prog 266 = true := structOf Tryz.underlying266 (by simp [in5])
@[simp] theorem fl266_0 : fldT Tryz.prog 266 0 = some (0, false, 1) := fldOf Tryz.underlying266 rfl rfl ty5.1 ty5.2.1 ty5.2.2.1
@[simp] theorem fl266_1 : fldT Tryz.prog 266 1 = some (1, false, 1) := fldOf Tryz.underlying266 rfl rfl ty5.1 ty5.2.1 ty5.2.2.1
@[simp] theorem ts273 : structT Tryz.prog 273 = true := structOf Tryz.underlying273 (by simp [in9])
@[simp] theorem fl273_0 : fldT Tryz.prog 273 0 = some (0, false, 1) := fldOf Tryz.underlying273 rfl rfl ty9.1 ty9.2.1 ty9.2.2.1
@[simp] theorem eq28 : EqT Tryz.prog 28 [3, 1, 1, 1, 1] := eqT_struct Tryz.underlying28 Tryz.stoodInHeld28 Tryz.eqGuardType28 (by simp [fieldsOk])
@[simp] theorem eq65 : EqT Tryz.prog 65 [1, 1] := eqT_struct Tryz.underlying65 Tryz.stoodInHeld65 Tryz.eqGuardType65 (by simp [fieldsOk])
@[simp] theorem eq102 : EqT Tryz.prog 102 [1, 3, 3] := eqT_struct Tryz.underlying102 Tryz.stoodInHeld102 Tryz.eqGuardType102 (by simp [fieldsOk])
@[simp] theorem res_3 : Tryz.f3.results.toList = [.tmp 4] := rfl
@[simp] theorem res_4 : Tryz.f4.results.toList = [.tmp 4] := rfl
@[simp] theorem res_5 : Tryz.f5.results.toList = [.tmp 4] := rfl
@[simp] theorem res_6 : Tryz.f6.results.toList = [.tmp 4] := rfl
@[simp] theorem res_7 : Tryz.f7.results.toList = [.tmp 2] := rfl
@[simp] theorem res_8 : Tryz.f8.results.toList = [.tmp 6] := rfl
@[simp] theorem res_9 : Tryz.f9.results.toList = [.tmp 6] := rfl
@[simp] theorem res_10 : Tryz.f10.results.toList = [.cell 2 28, .tmp 3] := rfl
@[simp] theorem res_11 : Tryz.f11.results.toList = [.tmp 2] := rfl
@[simp] theorem res_12 : Tryz.f12.results.toList = [.tmp 4, .tmp 5] := rfl
@[simp] theorem res_13 : Tryz.f13.results.toList = [.tmp 4, .tmp 5] := rfl
@[simp] theorem res_14 : Tryz.f14.results.toList = [.tmp 2, .tmp 3] := rfl
@[simp] theorem res_15 : Tryz.f15.results.toList = [.tmp 4] := rfl
@[simp] theorem res_16 : Tryz.f16.results.toList = [.tmp 2, .tmp 3] := rfl
@[simp] theorem res_17 : Tryz.f17.results.toList = [.tmp 6, .tmp 7] := rfl
@[simp] theorem res_18 : Tryz.f18.results.toList = [.tmp 6, .tmp 7] := rfl
@[simp] theorem res_19 : Tryz.f19.results.toList = [.tmp 2, .tmp 3] := rfl
@[simp] theorem res_20 : Tryz.f20.results.toList = [.tmp 2] := rfl
@[simp] theorem res_21 : Tryz.f21.results.toList = [.tmp 2] := rfl
@[simp] theorem res_22 : Tryz.f22.results.toList = [.tmp 2, .tmp 3] := rfl
@[simp] theorem res_23 : Tryz.f23.results.toList = [.tmp 6] := rfl
@[simp] theorem res_24 : Tryz.f24.results.toList = [.tmp 6] := rfl
@[simp] theorem res_25 : Tryz.f25.results.toList = [.tmp 2, .tmp 3] := rfl
@[simp] theorem res_26 : Tryz.f26.results.toList = [.tmp 2] := rfl
@[simp] theorem res_27 : Tryz.f27.results.toList = [.tmp 4] := rfl
@[simp] theorem res_28 : Tryz.f28.results.toList = [.cell 2 55, .tmp 3] := rfl
@[simp] theorem res_29 : Tryz.f29.results.toList = [.cell 4 55, .tmp 5] := rfl
@[simp] theorem res_30 : Tryz.f30.results.toList = [.tmp 2] := rfl
@[simp] theorem res_31 : Tryz.f31.results.toList = [.cell 2 55, .tmp 3] := rfl
@[simp] theorem res_32 : Tryz.f32.results.toList = [.tmp 2] := rfl
@[simp] theorem res_33 : Tryz.f33.results.toList = [.tmp 4] := rfl
@[simp] theorem res_34 : Tryz.f34.results.toList = [.cell 2 55, .cell 3 65] := rfl
@[simp] theorem res_35 : Tryz.f35.results.toList = [.cell 4 55, .tmp 5] := rfl
@[simp] theorem res_36 : Tryz.f36.results.toList = [.cell 4 55, .tmp 5] := rfl
@[simp] theorem res_37 : Tryz.f37.results.toList = [.tmp 4, .tmp 5] := rfl
@[simp] theorem res_38 : Tryz.f38.results.toList = [.tmp 2, .tmp 3, .tmp 4] := rfl
@[simp] theorem res_39 : Tryz.f39.results.toList = [.tmp 2] := rfl
@[simp] theorem res_40 : Tryz.f40.results.toList = [.tmp 2] := rfl
@[simp] theorem res_41 : Tryz.f41.results.toList = [.tmp 4] := rfl
@[simp] theorem res_42 : Tryz.f42.results.toList = [.tmp 2, .tmp 3] := rfl
@[simp] theorem res_43 : Tryz.f43.results.toList = [.tmp 2, .tmp 3] := rfl
@[simp] theorem res_44 : Tryz.f44.results.toList = [.tmp 2] := rfl
@[simp] theorem res_45 : Tryz.f45.results.toList = [.tmp 2] := rfl
@[simp] theorem res_46 : Tryz.f46.results.toList = [.tmp 2] := rfl
@[simp] theorem res_47 : Tryz.f47.results.toList = [.tmp 2] := rfl
@[simp] theorem res_48 : Tryz.f48.results.toList = [.tmp 4, .tmp 5] := rfl
@[simp] theorem res_49 : Tryz.f49.results.toList = [.tmp 6] := rfl
@[simp] theorem res_50 : Tryz.f50.results.toList = [.tmp 2] := rfl
@[simp] theorem res_51 : Tryz.f51.results.toList = [.tmp 6] := rfl
@[simp] theorem res_52 : Tryz.f52.results.toList = [.tmp 2] := rfl
@[simp] theorem res_53 : Tryz.f53.results.toList = [.tmp 4] := rfl
@[simp] theorem res_54 : Tryz.f54.results.toList = [.tmp 2] := rfl
@[simp] theorem res_55 : Tryz.f55.results.toList = [.tmp 6] := rfl
@[simp] theorem res_56 : Tryz.f56.results.toList = [.tmp 6] := rfl
@[simp] theorem res_57 : Tryz.f57.results.toList = [.tmp 6] := rfl
@[simp] theorem res_58 : Tryz.f58.results.toList = [.tmp 2] := rfl
@[simp] theorem res_59 : Tryz.f59.results.toList = [.tmp 2] := rfl
@[simp] theorem res_60 : Tryz.f60.results.toList = [.tmp 2] := rfl
@[simp] theorem res_61 : Tryz.f61.results.toList = [.tmp 2, .tmp 3] := rfl
@[simp] theorem res_62 : Tryz.f62.results.toList = [.tmp 2, .tmp 3] := rfl
@[simp] theorem res_63 : Tryz.f63.results.toList = [.tmp 4] := rfl
@[simp] theorem res_64 : Tryz.f64.results.toList = [.cell 2 55] := rfl
@[simp] theorem res_65 : Tryz.f65.results.toList = [.tmp 4] := rfl
@[simp] theorem res_66 : Tryz.f66.results.toList = [.tmp 4] := rfl
@[simp] theorem res_67 : Tryz.f67.results.toList = [.tmp 4] := rfl
@[simp] theorem res_68 : Tryz.f68.results.toList = [.tmp 2] := rfl
@[simp] theorem res_69 : Tryz.f69.results.toList = [.cell 2 55] := rfl
@[simp] theorem res_70 : Tryz.f70.results.toList = [] := rfl
@[simp] theorem res_71 : Tryz.f71.results.toList = [.tmp 4] := rfl
@[simp] theorem res_72 : Tryz.f72.results.toList = [.tmp 2] := rfl
@[simp] theorem res_73 : Tryz.f73.results.toList = [.tmp 4] := rfl
@[simp] theorem res_74 : Tryz.f74.results.toList = [.tmp 2, .tmp 3] := rfl
@[simp] theorem res_75 : Tryz.f75.results.toList = [.tmp 4, .tmp 5, .tmp 6] := rfl
@[simp] theorem res_76 : Tryz.f76.results.toList = [.tmp 2] := rfl
@[simp] theorem res_77 : Tryz.f77.results.toList = [.tmp 4] := rfl
@[simp] theorem res_78 : Tryz.f78.results.toList = [.tmp 4] := rfl
@[simp] theorem res_79 : Tryz.f79.results.toList = [.cell 2 55, .cell 3 65] := rfl
@[simp] theorem res_80 : Tryz.f80.results.toList = [.tmp 6, .tmp 7] := rfl
@[simp] theorem res_81 : Tryz.f81.results.toList = [.tmp 4] := rfl
@[simp] theorem res_82 : Tryz.f82.results.toList = [.tmp 6] := rfl
@[simp] theorem res_83 : Tryz.f83.results.toList = [.tmp 4] := rfl
@[simp] theorem res_84 : Tryz.f84.results.toList = [.tmp 6] := rfl
@[simp] theorem res_85 : Tryz.f85.results.toList = [.tmp 6] := rfl
@[simp] theorem res_86 : Tryz.f86.results.toList = [.tmp 2] := rfl
@[simp] theorem res_87 : Tryz.f87.results.toList = [.tmp 4] := rfl
@[simp] theorem res_88 : Tryz.f88.results.toList = [.tmp 4, .tmp 5] := rfl
@[simp] theorem res_89 : Tryz.f89.results.toList = [.cell 2 28] := rfl
@[simp] theorem res_90 : Tryz.f90.results.toList = [.tmp 8] := rfl
@[simp] theorem res_91 : Tryz.f91.results.toList = [.tmp 2] := rfl
@[simp] theorem res_92 : Tryz.f92.results.toList = [.tmp 2] := rfl
@[simp] theorem res_93 : Tryz.f93.results.toList = [.tmp 2] := rfl
@[simp] theorem res_94 : Tryz.f94.results.toList = [.tmp 4] := rfl
@[simp] theorem res_95 : Tryz.f95.results.toList = [.tmp 2] := rfl
@[simp] theorem res_96 : Tryz.f96.results.toList = [.tmp 2] := rfl
@[simp] theorem res_97 : Tryz.f97.results.toList = [.tmp 6, .tmp 7] := rfl
@[simp] theorem res_98 : Tryz.f98.results.toList = [.tmp 4] := rfl
@[simp] theorem res_99 : Tryz.f99.results.toList = [.tmp 4] := rfl
@[simp] theorem res_101 : Tryz.f101.results.toList = [] := rfl
@[simp] theorem res_102 : Tryz.f102.results.toList = [.tmp 4] := rfl
@[simp] theorem res_103 : Tryz.f103.results.toList = [.tmp 2] := rfl
@[simp] theorem res_104 : Tryz.f104.results.toList = [] := rfl
@[simp] theorem res_105 : Tryz.f105.results.toList = [.tmp 5] := rfl
@[simp] theorem res_106 : Tryz.f106.results.toList = [.tmp 4] := rfl
@[simp] theorem res_107 : Tryz.f107.results.toList = [.tmp 2] := rfl
@[simp] theorem res_108 : Tryz.f108.results.toList = [.tmp 2] := rfl
@[simp] theorem res_109 : Tryz.f109.results.toList = [.tmp 4] := rfl
@[simp] theorem res_110 : Tryz.f110.results.toList = [.tmp 2] := rfl
@[simp] theorem res_111 : Tryz.f111.results.toList = [.cell 4 102] := rfl
@[simp] theorem res_112 : Tryz.f112.results.toList = [.cell 2 102] := rfl
@[simp] theorem res_113 : Tryz.f113.results.toList = [.tmp 2] := rfl
@[simp] theorem res_114 : Tryz.f114.results.toList = [.tmp 6] := rfl
@[simp] theorem res_115 : Tryz.f115.results.toList = [.tmp 2] := rfl
@[simp] theorem res_116 : Tryz.f116.results.toList = [.tmp 4] := rfl
@[simp] theorem res_117 : Tryz.f117.results.toList = [.tmp 2] := rfl
@[simp] theorem res_118 : Tryz.f118.results.toList = [.cell 2 102, .tmp 3] := rfl
@[simp] theorem res_119 : Tryz.f119.results.toList = [.tmp 4] := rfl
@[simp] theorem res_120 : Tryz.f120.results.toList = [.tmp 4, .tmp 5] := rfl
@[simp] theorem res_121 : Tryz.f121.results.toList = [.cell 2 55] := rfl
@[simp] theorem res_122 : Tryz.f122.results.toList = [.tmp 2] := rfl
@[simp] theorem res_123 : Tryz.f123.results.toList = [.tmp 2] := rfl
@[simp] theorem res_124 : Tryz.f124.results.toList = [.tmp 2] := rfl
@[simp] theorem res_125 : Tryz.f125.results.toList = [] := rfl
@[simp] theorem res_126 : Tryz.f126.results.toList = [.tmp 2] := rfl
@[simp] theorem res_127 : Tryz.f127.results.toList = [.tmp 2] := rfl
@[simp] theorem res_128 : Tryz.f128.results.toList = [.tmp 4] := rfl
@[simp] theorem res_129 : Tryz.f129.results.toList = [] := rfl
@[simp] theorem res_130 : Tryz.f130.results.toList = [.tmp 4, .tmp 5] := rfl
@[simp] theorem res_131 : Tryz.f131.results.toList = [.tmp 2] := rfl
@[simp] theorem res_132 : Tryz.f132.results.toList = [.tmp 4] := rfl
@[simp] theorem res_133 : Tryz.f133.results.toList = [.tmp 6, .tmp 7] := rfl
@[simp] theorem res_134 : Tryz.f134.results.toList = [.tmp 4, .tmp 5, .tmp 6] := rfl
@[simp] theorem res_135 : Tryz.f135.results.toList = [.tmp 6] := rfl
@[simp] theorem res_136 : Tryz.f136.results.toList = [.tmp 4] := rfl
@[simp] theorem res_137 : Tryz.f137.results.toList = [.tmp 4] := rfl
@[simp] theorem res_139 : Tryz.f139.results.toList = [] := rfl
@[simp] theorem res_140 : Tryz.f140.results.toList = [.tmp 2] := rfl
@[simp] theorem res_141 : Tryz.f141.results.toList = [.tmp 2] := rfl
@[simp] theorem res_142 : Tryz.f142.results.toList = [.tmp 4] := rfl
@[simp] theorem res_143 : Tryz.f143.results.toList = [.tmp 4] := rfl
@[simp] theorem res_144 : Tryz.f144.results.toList = [.tmp 4] := rfl
@[simp] theorem res_145 : Tryz.f145.results.toList = [.tmp 4] := rfl
@[simp] theorem res_146 : Tryz.f146.results.toList = [.tmp 4] := rfl
@[simp] theorem res_147 : Tryz.f147.results.toList = [.tmp 4] := rfl
@[simp] theorem res_148 : Tryz.f148.results.toList = [.tmp 2] := rfl
@[simp] theorem res_149 : Tryz.f149.results.toList = [] := rfl
@[simp] theorem res_150 : Tryz.f150.results.toList = [] := rfl
@[simp] theorem res_151 : Tryz.f151.results.toList = [.tmp 2] := rfl
@[simp] theorem res_152 : Tryz.f152.results.toList = [.tmp 4] := rfl
@[simp] theorem res_153 : Tryz.f153.results.toList = [.tmp 4, .tmp 5] := rfl
@[simp] theorem res_154 : Tryz.f154.results.toList = [.tmp 2] := rfl
@[simp] theorem res_155 : Tryz.f155.results.toList = [.tmp 2] := rfl
@[simp] theorem res_156 : Tryz.f156.results.toList = [.tmp 4, .tmp 5] := rfl
@[simp] theorem res_157 : Tryz.f157.results.toList = [.tmp 4] := rfl
@[simp] theorem res_158 : Tryz.f158.results.toList = [.tmp 4] := rfl
@[simp] theorem res_159 : Tryz.f159.results.toList = [.tmp 2] := rfl
@[simp] theorem res_160 : Tryz.f160.results.toList = [.tmp 2] := rfl
@[simp] theorem res_161 : Tryz.f161.results.toList = [.tmp 2] := rfl
@[simp] theorem res_162 : Tryz.f162.results.toList = [.tmp 4] := rfl
@[simp] theorem res_163 : Tryz.f163.results.toList = [.tmp 2] := rfl
@[simp] theorem res_164 : Tryz.f164.results.toList = [.cell 4 55, .tmp 5] := rfl
@[simp] theorem res_165 : Tryz.f165.results.toList = [.tmp 4] := rfl
@[simp] theorem res_166 : Tryz.f166.results.toList = [] := rfl
@[simp] theorem res_167 : Tryz.f167.results.toList = [] := rfl
@[simp] theorem res_168 : Tryz.f168.results.toList = [] := rfl
@[simp] theorem res_169 : Tryz.f169.results.toList = [.tmp 8, .tmp 9] := rfl
@[simp] theorem res_170 : Tryz.f170.results.toList = [] := rfl
@[simp] theorem res_171 : Tryz.f171.results.toList = [.tmp 8] := rfl
@[simp] theorem res_172 : Tryz.f172.results.toList = [.tmp 10] := rfl
@[simp] theorem res_173 : Tryz.f173.results.toList = [.tmp 10, .tmp 11] := rfl
@[simp] theorem res_174 : Tryz.f174.results.toList = [.tmp 2] := rfl
@[simp] theorem res_175 : Tryz.f175.results.toList = [.tmp 2] := rfl
@[simp] theorem res_176 : Tryz.f176.results.toList = [.tmp 4] := rfl
@[simp] theorem res_177 : Tryz.f177.results.toList = [] := rfl
@[simp] theorem res_178 : Tryz.f178.results.toList = [] := rfl
@[simp] theorem res_179 : Tryz.f179.results.toList = [.tmp 4] := rfl
@[simp] theorem res_180 : Tryz.f180.results.toList = [.tmp 6, .tmp 7] := rfl
@[simp] theorem res_181 : Tryz.f181.results.toList = [.tmp 10] := rfl
@[simp] theorem res_182 : Tryz.f182.results.toList = [.tmp 4] := rfl
@[simp] theorem res_183 : Tryz.f183.results.toList = [.tmp 4] := rfl
@[simp] theorem res_184 : Tryz.f184.results.toList = [] := rfl
@[simp] theorem res_185 : Tryz.f185.results.toList = [.tmp 2] := rfl
@[simp] theorem res_186 : Tryz.f186.results.toList = [.tmp 2] := rfl
@[simp] theorem res_187 : Tryz.f187.results.toList = [.tmp 2, .tmp 3] := rfl
@[simp] theorem res_189 : Tryz.f189.results.toList = [] := rfl
@[simp] theorem res_190 : Tryz.f190.results.toList = [] := rfl
@[simp] theorem res_191 : Tryz.f191.results.toList = [] := rfl
@[simp] theorem res_192 : Tryz.f192.results.toList = [.tmp 2] := rfl
@[simp] theorem res_193 : Tryz.f193.results.toList = [.tmp 2] := rfl
@[simp] theorem res_194 : Tryz.f194.results.toList = [.tmp 2] := rfl
@[simp] theorem res_195 : Tryz.f195.results.toList = [.tmp 4, .tmp 5] := rfl
@[simp] theorem res_196 : Tryz.f196.results.toList = [.tmp 2] := rfl
@[simp] theorem res_197 : Tryz.f197.results.toList = [.tmp 2, .tmp 3] := rfl
@[simp] theorem res_198 : Tryz.f198.results.toList = [.tmp 4] := rfl
@[simp] theorem res_199 : Tryz.f199.results.toList = [.cell 2 55] := rfl
@[simp] theorem res_200 : Tryz.f200.results.toList = [.tmp 4] := rfl
@[simp] theorem res_201 : Tryz.f201.results.toList = [] := rfl
@[simp] theorem res_202 : Tryz.f202.results.toList = [.tmp 2] := rfl
@[simp] theorem res_203 : Tryz.f203.results.toList = [.tmp 2] := rfl
@[simp] theorem res_204 : Tryz.f204.results.toList = [.tmp 8] := rfl
@[simp] theorem res_205 : Tryz.f205.results.toList = [.tmp 12] := rfl
@[simp] theorem res_206 : Tryz.f206.results.toList = [.tmp 2] := rfl
@[simp] theorem res_207 : Tryz.f207.results.toList = [.tmp 2] := rfl
@[simp] theorem res_208 : Tryz.f208.results.toList = [] := rfl
@[simp] theorem res_209 : Tryz.f209.results.toList = [.tmp 10, .tmp 11] := rfl
@[simp] theorem res_212 : Tryz.f212.results.toList = [.tmp 4] := rfl
@[simp] theorem res_213 : Tryz.f213.results.toList = [.tmp 6, .tmp 7] := rfl
@[simp] theorem res_214 : Tryz.f214.results.toList = [.tmp 4] := rfl
@[simp] theorem res_215 : Tryz.f215.results.toList = [.tmp 4] := rfl
@[simp] theorem res_216 : Tryz.f216.results.toList = [.tmp 6] := rfl
@[simp] theorem res_217 : Tryz.f217.results.toList = [.tmp 6] := rfl
@[simp] theorem res_218 : Tryz.f218.results.toList = [.tmp 4] := rfl
@[simp] theorem res_220 : Tryz.f220.results.toList = [.tmp 2] := rfl
@[simp] theorem res_221 : Tryz.f221.results.toList = [.tmp 4] := rfl
@[simp] theorem res_222 : Tryz.f222.results.toList = [] := rfl
@[simp] theorem res_223 : Tryz.f223.results.toList = [.tmp 2, .tmp 3] := rfl
@[simp] theorem res_224 : Tryz.f224.results.toList = [] := rfl
@[simp] theorem res_225 : Tryz.f225.results.toList = [.tmp 4] := rfl
@[simp] theorem res_226 : Tryz.f226.results.toList = [.tmp 2] := rfl
@[simp] theorem res_227 : Tryz.f227.results.toList = [.tmp 6, .tmp 7] := rfl
@[simp] theorem res_228 : Tryz.f228.results.toList = [.tmp 4] := rfl
@[simp] theorem res_229 : Tryz.f229.results.toList = [.tmp 4] := rfl
@[simp] theorem res_230 : Tryz.f230.results.toList = [.tmp 6] := rfl
@[simp] theorem res_231 : Tryz.f231.results.toList = [.tmp 6] := rfl
@[simp] theorem res_232 : Tryz.f232.results.toList = [.tmp 2] := rfl
@[simp] theorem res_233 : Tryz.f233.results.toList = [.tmp 10, .tmp 11] := rfl
@[simp] theorem res_234 : Tryz.f234.results.toList = [.tmp 2] := rfl
@[simp] theorem res_235 : Tryz.f235.results.toList = [.tmp 2] := rfl
@[simp] theorem res_236 : Tryz.f236.results.toList = [.tmp 2] := rfl
@[simp] theorem res_237 : Tryz.f237.results.toList = [.tmp 2] := rfl
@[simp] theorem res_238 : Tryz.f238.results.toList = [.tmp 2] := rfl
@[simp] theorem res_239 : Tryz.f239.results.toList = [.tmp 2] := rfl
@[simp] theorem res_240 : Tryz.f240.results.toList = [.tmp 2] := rfl
@[simp] theorem res_241 : Tryz.f241.results.toList = [.tmp 2] := rfl
@[simp] theorem res_242 : Tryz.f242.results.toList = [.tmp 2] := rfl
@[simp] theorem res_244 : Tryz.f244.results.toList = [.tmp 2, .tmp 3] := rfl
@[simp] theorem res_245 : Tryz.f245.results.toList = [] := rfl
@[simp] theorem res_246 : Tryz.f246.results.toList = [.tmp 4] := rfl
@[simp] theorem res_247 : Tryz.f247.results.toList = [.tmp 4] := rfl
@[simp] theorem res_249 : Tryz.f249.results.toList = [] := rfl
@[simp] theorem res_250 : Tryz.f250.results.toList = [.tmp 2] := rfl
@[simp] theorem res_251 : Tryz.f251.results.toList = [.tmp 2] := rfl
@[simp] theorem res_252 : Tryz.f252.results.toList = [.tmp 2] := rfl
@[simp] theorem res_254 : Tryz.f254.results.toList = [] := rfl
@[simp] theorem res_255 : Tryz.f255.results.toList = [] := rfl
theorem hm : Tryz.prog.follows .mixedOrders = true := by kernel_rfl
end Go.Proofs.YtjeioaeipffifaaGreatDoor
