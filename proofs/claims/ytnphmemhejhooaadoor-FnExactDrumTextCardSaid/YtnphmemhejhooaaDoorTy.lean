/- Closed facts on the types of the program. Made by a program (gen_types.py). No condition. -/
import Derived.Test.YtnphmemhejhooaaDoorAcd
import Derived.Test.YtnphmemhejhooaaDoorAbz
import Derived.Test.YtnphmemhejhooaaDoorRows
namespace Go.Proofs.YtnphmemhejhooaaDoor
open Go Go.Ab

theorem in2 : Tryd.prog.info? 2 = some Tryd.t2 := by kernel_rfl
@[simp] theorem ty2 : TyOne Tryd.prog 2 8 (some .i64) none false := tyOne_int in2 Tryd.underlying2 rfl rfl
@[simp] theorem tz2 : TyZ Tryd.prog 2 [.int .i64 0] := tyZ in2 rfl rfl rfl rfl
theorem in3 : Tryd.prog.info? 3 = some Tryd.t3 := by kernel_rfl
@[simp] theorem ty3 : TyOne Tryd.prog 3 8 (some .i64) none false := tyOne_int in3 Tryd.underlying3 rfl rfl
@[simp] theorem tz3 : TyZ Tryd.prog 3 [.int .i64 0] := tyZ in3 rfl rfl rfl rfl
theorem in4 : Tryd.prog.info? 4 = some Tryd.t4 := by kernel_rfl
@[simp] theorem ty4 : TyOne Tryd.prog 4 1 none none false := tyOne_bool in4 Tryd.underlying4 rfl rfl
@[simp] theorem ub4 : Tryd.prog.underlying 4 = some .bool := Tryd.underlying4
@[simp] theorem tz4 : TyZ Tryd.prog 4 [.bool false] := tyZ in4 rfl rfl rfl rfl
theorem in5 : Tryd.prog.info? 5 = some Tryd.t5 := by kernel_rfl
@[simp] theorem ty5 : TyOne Tryd.prog 5 1 (some .u8) none false := tyOne_int in5 Tryd.underlying5 rfl rfl
@[simp] theorem tz5 : TyZ Tryd.prog 5 [.int .u8 0] := tyZ in5 rfl rfl rfl rfl
theorem in6 : Tryd.prog.info? 6 = some Tryd.t6 := by kernel_rfl
@[simp] theorem ty6 : TyOne Tryd.prog 6 1 (some .u8) none false := tyOne_int in6 Tryd.underlying6 rfl rfl
@[simp] theorem tz6 : TyZ Tryd.prog 6 [.int .u8 0] := tyZ in6 rfl rfl rfl rfl
theorem in8 : Tryd.prog.info? 8 = some Tryd.t8 := by kernel_rfl
@[simp] theorem ty8 : TyAgg Tryd.prog 8 4 24 := tyAgg_struct in8 Tryd.underlying8 rfl rfl
@[simp] theorem tz8 : TyZ Tryd.prog 8 [.int .i64 0, .int .i64 0, .bool false, .int .u8 0] := tyZ in8 rfl rfl rfl rfl
theorem in9 : Tryd.prog.info? 9 = some Tryd.t9 := by kernel_rfl
@[simp] theorem ty9 : TyOne Tryd.prog 9 16 none none true := tyOne_str in9 Tryd.underlying9 rfl rfl
@[simp] theorem tz9 : TyZ Tryd.prog 9 [.str []] := tyZ in9 rfl rfl rfl rfl
theorem in10 : Tryd.prog.info? 10 = some Tryd.t10 := by kernel_rfl
@[simp] theorem ty10 : TyOne Tryd.prog 10 16 none none true := tyOne_str in10 Tryd.underlying10 rfl rfl
@[simp] theorem tz10 : TyZ Tryd.prog 10 [.str []] := tyZ in10 rfl rfl rfl rfl
theorem in11 : Tryd.prog.info? 11 = some Tryd.t11 := by kernel_rfl
@[simp] theorem ty11 : TyOne Tryd.prog 11 16 none none true := tyOne_str in11 Tryd.underlying11 rfl rfl
@[simp] theorem tz11 : TyZ Tryd.prog 11 [.str []] := tyZ in11 rfl rfl rfl rfl
theorem in12 : Tryd.prog.info? 12 = some Tryd.t12 := by kernel_rfl
@[simp] theorem ty12 : TyOne Tryd.prog 12 8 (some .u64) none false := tyOne_int in12 Tryd.underlying12 rfl rfl
@[simp] theorem tz12 : TyZ Tryd.prog 12 [.int .u64 0] := tyZ in12 rfl rfl rfl rfl
theorem in14 : Tryd.prog.info? 14 = some Tryd.t14 := by kernel_rfl
@[simp] theorem ty14 : TyAgg Tryd.prog 14 2 24 := tyAgg_struct in14 Tryd.underlying14 rfl rfl
@[simp] theorem tz14 : TyZ Tryd.prog 14 [.str [], .int .u64 0] := tyZ in14 rfl rfl rfl rfl
theorem in15 : Tryd.prog.info? 15 = some Tryd.t15 := by kernel_rfl
@[simp] theorem ty15 : TyOne Tryd.prog 15 8 none none false := tyOne_pointer in15 Tryd.underlying15 rfl rfl
@[simp] theorem tz15 : TyZ Tryd.prog 15 [.raw (.pointer none)] := tyZ in15 rfl rfl rfl rfl
theorem in16 : Tryd.prog.info? 16 = some Tryd.t16 := by kernel_rfl
@[simp] theorem ty16 : TyOne Tryd.prog 16 8 none none false := tyOne_pointer in16 Tryd.underlying16 rfl rfl
@[simp] theorem tz16 : TyZ Tryd.prog 16 [.raw (.pointer none)] := tyZ in16 rfl rfl rfl rfl
theorem in17 : Tryd.prog.info? 17 = some Tryd.t17 := by kernel_rfl
@[simp] theorem ty17 : TyOne Tryd.prog 17 8 none none false := tyOne_pointer in17 Tryd.underlying17 rfl rfl
@[simp] theorem tz17 : TyZ Tryd.prog 17 [.raw (.pointer none)] := tyZ in17 rfl rfl rfl rfl
theorem in19 : Tryd.prog.info? 19 = some Tryd.t19 := by kernel_rfl
@[simp] theorem ty19 : TyAgg Tryd.prog 19 1 8 := tyAgg_struct in19 Tryd.underlying19 rfl rfl
@[simp] theorem tz19 : TyZ Tryd.prog 19 [.raw (.pointer none)] := tyZ in19 rfl rfl rfl rfl
theorem in22 : Tryd.prog.info? 22 = some Tryd.t22 := by kernel_rfl
@[simp] theorem ty22 : TyOne Tryd.prog 22 24 none (some 63) false := tyOne_slice in22 Tryd.underlying22 rfl rfl
@[simp] theorem tz22 : TyZ Tryd.prog 22 [.nils] := tyZ in22 rfl rfl rfl rfl
theorem in24 : Tryd.prog.info? 24 = some Tryd.t24 := by kernel_rfl
@[simp] theorem ty24 : TyOne Tryd.prog 24 24 none (some 71) false := tyOne_slice in24 Tryd.underlying24 rfl rfl
@[simp] theorem tz24 : TyZ Tryd.prog 24 [.nils] := tyZ in24 rfl rfl rfl rfl
theorem in27 : Tryd.prog.info? 27 = some Tryd.t27 := by kernel_rfl
@[simp] theorem ty27 : TyOne Tryd.prog 27 24 none (some 65) false := tyOne_slice in27 Tryd.underlying27 rfl rfl
@[simp] theorem tz27 : TyZ Tryd.prog 27 [.nils] := tyZ in27 rfl rfl rfl rfl
theorem in35 : Tryd.prog.info? 35 = some Tryd.t35 := by kernel_rfl
@[simp] theorem ty35 : TyAgg Tryd.prog 35 5 48 := tyAgg_struct in35 Tryd.underlying35 rfl rfl
@[simp] theorem tz35 : TyZ Tryd.prog 35 [.str [], .int .i64 0, .int .i64 0, .int .i64 0, .int .i64 0] := tyZ in35 rfl rfl rfl rfl
theorem in38 : Tryd.prog.info? 38 = some Tryd.t38 := by kernel_rfl
@[simp] theorem ty38 : TyAgg Tryd.prog 38 5 48 := tyAgg_struct in38 Tryd.underlying38 rfl rfl
@[simp] theorem tz38 : TyZ Tryd.prog 38 [.str [], .int .i64 0, .int .i64 0, .int .i64 0, .int .i64 0] := tyZ in38 rfl rfl rfl rfl
theorem in41 : Tryd.prog.info? 41 = some Tryd.t41 := by kernel_rfl
@[simp] theorem ty41 : TyOne Tryd.prog 41 24 none (some 2) false := tyOne_slice in41 Tryd.underlying41 rfl rfl
@[simp] theorem tz41 : TyZ Tryd.prog 41 [.nils] := tyZ in41 rfl rfl rfl rfl
theorem in42 : Tryd.prog.info? 42 = some Tryd.t42 := by kernel_rfl
@[simp] theorem ty42 : TyOne Tryd.prog 42 24 none (some 134) false := tyOne_slice in42 Tryd.underlying42 rfl rfl
@[simp] theorem tz42 : TyZ Tryd.prog 42 [.nils] := tyZ in42 rfl rfl rfl rfl
theorem in44 : Tryd.prog.info? 44 = some Tryd.t44 := by kernel_rfl
@[simp] theorem ty44 : TyAgg Tryd.prog 44 4 64 := tyAgg_struct in44 Tryd.underlying44 rfl rfl
@[simp] theorem tz44 : TyZ Tryd.prog 44 [.int .i64 0, .int .i64 0, .nils, .nils] := tyZ in44 rfl rfl rfl rfl
theorem in47 : Tryd.prog.info? 47 = some Tryd.t47 := by kernel_rfl
@[simp] theorem ty47 : TyOne Tryd.prog 47 24 none (some 90) false := tyOne_slice in47 Tryd.underlying47 rfl rfl
@[simp] theorem tz47 : TyZ Tryd.prog 47 [.nils] := tyZ in47 rfl rfl rfl rfl
theorem in49 : Tryd.prog.info? 49 = some Tryd.t49 := by kernel_rfl
@[simp] theorem ty49 : TyAgg Tryd.prog 49 4 64 := tyAgg_struct in49 Tryd.underlying49 rfl rfl
@[simp] theorem tz49 : TyZ Tryd.prog 49 [.int .i64 0, .int .i64 0, .nils, .nils] := tyZ in49 rfl rfl rfl rfl
theorem in53 : Tryd.prog.info? 53 = some Tryd.t53 := by kernel_rfl
@[simp] theorem ty53 : TyOne Tryd.prog 53 24 none (some 96) false := tyOne_slice in53 Tryd.underlying53 rfl rfl
@[simp] theorem tz53 : TyZ Tryd.prog 53 [.nils] := tyZ in53 rfl rfl rfl rfl
theorem in57 : Tryd.prog.info? 57 = some Tryd.t57 := by kernel_rfl
@[simp] theorem ty57 : TyOne Tryd.prog 57 24 none (some 99) false := tyOne_slice in57 Tryd.underlying57 rfl rfl
@[simp] theorem tz57 : TyZ Tryd.prog 57 [.nils] := tyZ in57 rfl rfl rfl rfl
theorem in63 : Tryd.prog.info? 63 = some Tryd.t63 := by kernel_rfl
@[simp] theorem ty63 : TyAgg Tryd.prog 63 5 48 := tyAgg_struct in63 Tryd.underlying63 rfl rfl
@[simp] theorem tz63 : TyZ Tryd.prog 63 [.str [], .int .i64 0, .int .i64 0, .int .i64 0, .int .i64 0] := tyZ in63 rfl rfl rfl rfl
theorem in65 : Tryd.prog.info? 65 = some Tryd.t65 := by kernel_rfl
@[simp] theorem ty65 : TyAgg Tryd.prog 65 5 48 := tyAgg_struct in65 Tryd.underlying65 rfl rfl
@[simp] theorem tz65 : TyZ Tryd.prog 65 [.str [], .int .i64 0, .int .i64 0, .int .i64 0, .int .i64 0] := tyZ in65 rfl rfl rfl rfl
theorem in71 : Tryd.prog.info? 71 = some Tryd.t71 := by kernel_rfl
@[simp] theorem ty71 : TyAgg Tryd.prog 71 3 32 := tyAgg_struct in71 Tryd.underlying71 rfl rfl
@[simp] theorem tz71 : TyZ Tryd.prog 71 [.str [], .int .i64 0, .int .i64 0] := tyZ in71 rfl rfl rfl rfl
theorem in75 : Tryd.prog.info? 75 = some Tryd.t75 := by kernel_rfl
@[simp] theorem ty75 : TyOne Tryd.prog 75 8 none none false := tyOne_pointer in75 Tryd.underlying75 rfl rfl
@[simp] theorem tz75 : TyZ Tryd.prog 75 [.raw (.pointer none)] := tyZ in75 rfl rfl rfl rfl
theorem in83 : Tryd.prog.info? 83 = some Tryd.t83 := by kernel_rfl
@[simp] theorem ty83 : TyOne Tryd.prog 83 8 none none false := tyOne_pointer in83 Tryd.underlying83 rfl rfl
@[simp] theorem tz83 : TyZ Tryd.prog 83 [.raw (.pointer none)] := tyZ in83 rfl rfl rfl rfl
theorem in88 : Tryd.prog.info? 88 = some Tryd.t88 := by kernel_rfl
@[simp] theorem ty88 : TyOne Tryd.prog 88 24 none (some 9) false := tyOne_slice in88 Tryd.underlying88 rfl rfl
@[simp] theorem tz88 : TyZ Tryd.prog 88 [.nils] := tyZ in88 rfl rfl rfl rfl
theorem in90 : Tryd.prog.info? 90 = some Tryd.t90 := by kernel_rfl
@[simp] theorem ty90 : TyAgg Tryd.prog 90 2 16 := tyAgg_struct in90 Tryd.underlying90 rfl rfl
@[simp] theorem tz90 : TyZ Tryd.prog 90 [.int .i64 0, .int .i64 0] := tyZ in90 rfl rfl rfl rfl
theorem in96 : Tryd.prog.info? 96 = some Tryd.t96 := by kernel_rfl
@[simp] theorem ty96 : TyAgg Tryd.prog 96 3 40 := tyAgg_struct in96 Tryd.underlying96 rfl rfl
@[simp] theorem tz96 : TyZ Tryd.prog 96 [.int .i64 0, .str [], .str []] := tyZ in96 rfl rfl rfl rfl
theorem in99 : Tryd.prog.info? 99 = some Tryd.t99 := by kernel_rfl
@[simp] theorem ty99 : TyAgg Tryd.prog 99 3 40 := tyAgg_struct in99 Tryd.underlying99 rfl rfl
@[simp] theorem tz99 : TyZ Tryd.prog 99 [.int .i64 0, .str [], .str []] := tyZ in99 rfl rfl rfl rfl
theorem in101 : Tryd.prog.info? 101 = some Tryd.t101 := by kernel_rfl
@[simp] theorem ty101 : TyOne Tryd.prog 101 8 none none false := tyOne_pointer in101 Tryd.underlying101 rfl rfl
@[simp] theorem tz101 : TyZ Tryd.prog 101 [.raw (.pointer none)] := tyZ in101 rfl rfl rfl rfl
theorem in102 : Tryd.prog.info? 102 = some Tryd.t102 := by kernel_rfl
@[simp] theorem ty102 : TyOne Tryd.prog 102 24 none (some 5) false := tyOne_slice in102 Tryd.underlying102 rfl rfl
@[simp] theorem tz102 : TyZ Tryd.prog 102 [.nils] := tyZ in102 rfl rfl rfl rfl
theorem in104 : Tryd.prog.info? 104 = some Tryd.t104 := by kernel_rfl
@[simp] theorem ty104 : TyAgg Tryd.prog 104 2 32 := tyAgg_struct in104 Tryd.underlying104 rfl rfl
@[simp] theorem tz104 : TyZ Tryd.prog 104 [.raw (.pointer none), .nils] := tyZ in104 rfl rfl rfl rfl
theorem in108 : Tryd.prog.info? 108 = some Tryd.t108 := by kernel_rfl
theorem in114 : Tryd.prog.info? 114 = some Tryd.t114 := by kernel_rfl
@[simp] theorem ty114 : TyOne Tryd.prog 114 8 none none false := tyOne_pointer in114 Tryd.underlying114 rfl rfl
@[simp] theorem tz114 : TyZ Tryd.prog 114 [.raw (.pointer none)] := tyZ in114 rfl rfl rfl rfl
theorem in120 : Tryd.prog.info? 120 = some Tryd.t120 := by kernel_rfl
@[simp] theorem ty120 : TyOne Tryd.prog 120 8 none none false := tyOne_pointer in120 Tryd.underlying120 rfl rfl
@[simp] theorem tz120 : TyZ Tryd.prog 120 [.raw (.pointer none)] := tyZ in120 rfl rfl rfl rfl
theorem in128 : Tryd.prog.info? 128 = some Tryd.t128 := by kernel_rfl
@[simp] theorem ty128 : TyOne Tryd.prog 128 8 none none false := tyOne_func in128 Tryd.underlying128 rfl rfl
@[simp] theorem tz128 : TyZ Tryd.prog 128 [.raw .nilFunc] := tyZ in128 rfl rfl rfl rfl
theorem in131 : Tryd.prog.info? 131 = some Tryd.t131 := by kernel_rfl
@[simp] theorem ty131 : TyOne Tryd.prog 131 8 none none false := tyOne_pointer in131 Tryd.underlying131 rfl rfl
@[simp] theorem tz131 : TyZ Tryd.prog 131 [.raw (.pointer none)] := tyZ in131 rfl rfl rfl rfl
theorem in134 : Tryd.prog.info? 134 = some Tryd.t134 := by kernel_rfl
@[simp] theorem ty134 : TyAgg Tryd.prog 134 2 16 := tyAgg_struct in134 Tryd.underlying134 rfl rfl
@[simp] theorem tz134 : TyZ Tryd.prog 134 [.int .i64 0, .int .i64 0] := tyZ in134 rfl rfl rfl rfl
theorem in143 : Tryd.prog.info? 143 = some Tryd.t143 := by kernel_rfl
@[simp] theorem ty143 : TyOne Tryd.prog 143 8 none none false := tyOne_pointer in143 Tryd.underlying143 rfl rfl
@[simp] theorem tz143 : TyZ Tryd.prog 143 [.raw (.pointer none)] := tyZ in143 rfl rfl rfl rfl
theorem in148 : Tryd.prog.info? 148 = some Tryd.t148 := by kernel_rfl
@[simp] theorem ty148 : TyOne Tryd.prog 148 8 (some .u64) none false := tyOne_int in148 Tryd.underlying148 rfl rfl
@[simp] theorem tz148 : TyZ Tryd.prog 148 [.int .u64 0] := tyZ in148 rfl rfl rfl rfl
theorem in149 : Tryd.prog.info? 149 = some Tryd.t149 := by kernel_rfl
@[simp] theorem ty149 : TyOne Tryd.prog 149 8 none none false := tyOne_pointer in149 Tryd.underlying149 rfl rfl
@[simp] theorem tz149 : TyZ Tryd.prog 149 [.raw (.pointer none)] := tyZ in149 rfl rfl rfl rfl
theorem in153 : Tryd.prog.info? 153 = some Tryd.t153 := by kernel_rfl
@[simp] theorem ty153 : TyOne Tryd.prog 153 8 none none false := tyOne_func in153 Tryd.underlying153 rfl rfl
@[simp] theorem tz153 : TyZ Tryd.prog 153 [.raw .nilFunc] := tyZ in153 rfl rfl rfl rfl
theorem in154 : Tryd.prog.info? 154 = some Tryd.t154 := by kernel_rfl
@[simp] theorem ty154 : TyOne Tryd.prog 154 8 none none false := tyOne_func in154 Tryd.underlying154 rfl rfl
@[simp] theorem tz154 : TyZ Tryd.prog 154 [.raw .nilFunc] := tyZ in154 rfl rfl rfl rfl
theorem in164 : Tryd.prog.info? 164 = some Tryd.t164 := by kernel_rfl
@[simp] theorem ty164 : TyOne Tryd.prog 164 24 none (some 167) false := tyOne_slice in164 Tryd.underlying164 rfl rfl
@[simp] theorem tz164 : TyZ Tryd.prog 164 [.nils] := tyZ in164 rfl rfl rfl rfl
theorem in167 : Tryd.prog.info? 167 = some Tryd.t167 := by kernel_rfl
@[simp] theorem ty167 : TyAgg Tryd.prog 167 2 32 := tyAgg_struct in167 Tryd.underlying167 rfl rfl
@[simp] theorem tz167 : TyZ Tryd.prog 167 [.str [], .str []] := tyZ in167 rfl rfl rfl rfl
theorem in172 : Tryd.prog.info? 172 = some Tryd.t172 := by kernel_rfl
theorem in175 : Tryd.prog.info? 175 = some Tryd.t175 := by kernel_rfl
@[simp] theorem ty175 : TyAgg Tryd.prog 175 91 728 := tyAgg_array in175 Tryd.underlying175 rfl rfl
@[simp] theorem ar175 : arrT Tryd.prog 175 = some (91, 2) := arrOf Tryd.underlying175
theorem in176 : Tryd.prog.info? 176 = some Tryd.t176 := by kernel_rfl
@[simp] theorem ty176 : TyOne Tryd.prog 176 24 none (some 3) false := tyOne_slice in176 Tryd.underlying176 rfl rfl
@[simp] theorem tz176 : TyZ Tryd.prog 176 [.nils] := tyZ in176 rfl rfl rfl rfl
theorem in177 : Tryd.prog.info? 177 = some Tryd.t177 := by kernel_rfl
@[simp] theorem ty177 : TyAgg Tryd.prog 177 24 24 := tyAgg_array in177 Tryd.underlying177 rfl rfl
@[simp] theorem ar177 : arrT Tryd.prog 177 = some (24, 5) := arrOf Tryd.underlying177
@[simp] theorem tz177 : TyZ Tryd.prog 177 [.int .u8 0, .int .u8 0, .int .u8 0, .int .u8 0, .int .u8 0, .int .u8 0, .int .u8 0, .int .u8 0, .int .u8 0, .int .u8 0, .int .u8 0, .int .u8 0, .int .u8 0, .int .u8 0, .int .u8 0, .int .u8 0, .int .u8 0, .int .u8 0, .int .u8 0, .int .u8 0, .int .u8 0, .int .u8 0, .int .u8 0, .int .u8 0] := tyZ in177 rfl rfl rfl rfl
theorem in178 : Tryd.prog.info? 178 = some Tryd.t178 := by kernel_rfl
@[simp] theorem ty178 : TyOne Tryd.prog 178 8 (some .u64) none false := tyOne_int in178 Tryd.underlying178 rfl rfl
@[simp] theorem tz178 : TyZ Tryd.prog 178 [.int .u64 0] := tyZ in178 rfl rfl rfl rfl
theorem in187 : Tryd.prog.info? 187 = some Tryd.t187 := by kernel_rfl
@[simp] theorem ty187 : TyOne Tryd.prog 187 8 none none false := tyOne_func in187 Tryd.underlying187 rfl rfl
@[simp] theorem tz187 : TyZ Tryd.prog 187 [.raw .nilFunc] := tyZ in187 rfl rfl rfl rfl
theorem in192 : Tryd.prog.info? 192 = some Tryd.t192 := by kernel_rfl
@[simp] theorem ty192 : TyAgg Tryd.prog 192 20 160 := tyAgg_array in192 Tryd.underlying192 rfl rfl
@[simp] theorem ar192 : arrT Tryd.prog 192 = some (20, 178) := arrOf Tryd.underlying192
@[simp] theorem tz192 : TyZ Tryd.prog 192 [.int .u64 0, .int .u64 0, .int .u64 0, .int .u64 0, .int .u64 0, .int .u64 0, .int .u64 0, .int .u64 0, .int .u64 0, .int .u64 0, .int .u64 0, .int .u64 0, .int .u64 0, .int .u64 0, .int .u64 0, .int .u64 0, .int .u64 0, .int .u64 0, .int .u64 0, .int .u64 0] := tyZ in192 rfl rfl rfl rfl
theorem in193 : Tryd.prog.info? 193 = some Tryd.t193 := by kernel_rfl
@[simp] theorem ty193 : TyOne Tryd.prog 193 4 (some .u32) none false := tyOne_int in193 Tryd.underlying193 rfl rfl
@[simp] theorem tz193 : TyZ Tryd.prog 193 [.int .u32 0] := tyZ in193 rfl rfl rfl rfl
theorem in194 : Tryd.prog.info? 194 = some Tryd.t194 := by kernel_rfl
@[simp] theorem ty194 : TyAgg Tryd.prog 194 65 65 := tyAgg_array in194 Tryd.underlying194 rfl rfl
@[simp] theorem ar194 : arrT Tryd.prog 194 = some (65, 5) := arrOf Tryd.underlying194
theorem in201 : Tryd.prog.info? 201 = some Tryd.t201 := by kernel_rfl
@[simp] theorem ty201 : TyAgg Tryd.prog 201 32 32 := tyAgg_array in201 Tryd.underlying201 rfl rfl
@[simp] theorem ar201 : arrT Tryd.prog 201 = some (32, 5) := arrOf Tryd.underlying201
@[simp] theorem tz201 : TyZ Tryd.prog 201 [.int .u8 0, .int .u8 0, .int .u8 0, .int .u8 0, .int .u8 0, .int .u8 0, .int .u8 0, .int .u8 0, .int .u8 0, .int .u8 0, .int .u8 0, .int .u8 0, .int .u8 0, .int .u8 0, .int .u8 0, .int .u8 0, .int .u8 0, .int .u8 0, .int .u8 0, .int .u8 0, .int .u8 0, .int .u8 0, .int .u8 0, .int .u8 0, .int .u8 0, .int .u8 0, .int .u8 0, .int .u8 0, .int .u8 0, .int .u8 0, .int .u8 0, .int .u8 0] := tyZ in201 rfl rfl rfl rfl
theorem in202 : Tryd.prog.info? 202 = some Tryd.t202 := by kernel_rfl
@[simp] theorem ty202 : TyAgg Tryd.prog 202 64 64 := tyAgg_array in202 Tryd.underlying202 rfl rfl
@[simp] theorem ar202 : arrT Tryd.prog 202 = some (64, 5) := arrOf Tryd.underlying202
@[simp] theorem tz202 : TyZ Tryd.prog 202 [.int .u8 0, .int .u8 0, .int .u8 0, .int .u8 0, .int .u8 0, .int .u8 0, .int .u8 0, .int .u8 0, .int .u8 0, .int .u8 0, .int .u8 0, .int .u8 0, .int .u8 0, .int .u8 0, .int .u8 0, .int .u8 0, .int .u8 0, .int .u8 0, .int .u8 0, .int .u8 0, .int .u8 0, .int .u8 0, .int .u8 0, .int .u8 0, .int .u8 0, .int .u8 0, .int .u8 0, .int .u8 0, .int .u8 0, .int .u8 0, .int .u8 0, .int .u8 0, .int .u8 0, .int .u8 0, .int .u8 0, .int .u8 0, .int .u8 0, .int .u8 0, .int .u8 0, .int .u8 0, .int .u8 0, .int .u8 0, .int .u8 0, .int .u8 0, .int .u8 0, .int .u8 0, .int .u8 0, .int .u8 0, .int .u8 0, .int .u8 0, .int .u8 0, .int .u8 0, .int .u8 0, .int .u8 0, .int .u8 0, .int .u8 0, .int .u8 0, .int .u8 0, .int .u8 0, .int .u8 0, .int .u8 0, .int .u8 0, .int .u8 0, .int .u8 0] := tyZ in202 rfl rfl rfl rfl
theorem in211 : Tryd.prog.info? 211 = some Tryd.t211 := by kernel_rfl
@[simp] theorem ty211 : TyOne Tryd.prog 211 1 (some .u8) none false := tyOne_int in211 Tryd.underlying211 rfl rfl
@[simp] theorem tz211 : TyZ Tryd.prog 211 [.int .u8 0] := tyZ in211 rfl rfl rfl rfl
@[simp] theorem gv1 : globV 1 = .pe 20 [powT] 0 0 := rfl
@[simp] theorem ts8 : structT Tryd.prog 8 = true := structOf Tryd.underlying8 (by simp [in2, in3, in4, in6])
@[simp] theorem fl8_0 : fldT Tryd.prog 8 0 = some (0, false, 1) := fldOf Tryd.underlying8 rfl rfl ty2.1 ty2.2.1 ty2.2.2.1
@[simp] theorem fl8_1 : fldT Tryd.prog 8 1 = some (1, false, 1) := fldOf Tryd.underlying8 rfl rfl ty3.1 ty3.2.1 ty3.2.2.1
@[simp] theorem fl8_2 : fldT Tryd.prog 8 2 = some (2, false, 1) := fldOf Tryd.underlying8 rfl rfl ty4.1 ty4.2.1 ty4.2.2.1
@[simp] theorem fl8_3 : fldT Tryd.prog 8 3 = some (3, false, 1) := fldOf Tryd.underlying8 rfl rfl ty6.1 ty6.2.1 ty6.2.2.1
@[simp] theorem ts14 : structT Tryd.prog 14 = true := structOf Tryd.underlying14 (by simp [in12, in9])
@[simp] theorem fl14_0 : fldT Tryd.prog 14 0 = some (0, false, 1) := fldOf Tryd.underlying14 rfl rfl ty9.1 ty9.2.1 ty9.2.2.1
@[simp] theorem fl14_1 : fldT Tryd.prog 14 1 = some (1, false, 1) := fldOf Tryd.underlying14 rfl rfl ty12.1 ty12.2.1 ty12.2.2.1
@[simp] theorem ts19 : structT Tryd.prog 19 = true := structOf Tryd.underlying19 (by simp [in17])
@[simp] theorem fl19_0 : fldT Tryd.prog 19 0 = some (0, false, 1) := fldOf Tryd.underlying19 rfl rfl ty17.1 ty17.2.1 ty17.2.2.1
@[simp] theorem ts35 : structT Tryd.prog 35 = true := structOf Tryd.underlying35 (by simp [in2, in9])
@[simp] theorem fl35_0 : fldT Tryd.prog 35 0 = some (0, false, 1) := fldOf Tryd.underlying35 rfl rfl ty9.1 ty9.2.1 ty9.2.2.1
@[simp] theorem fl35_1 : fldT Tryd.prog 35 1 = some (1, false, 1) := fldOf Tryd.underlying35 rfl rfl ty2.1 ty2.2.1 ty2.2.2.1
@[simp] theorem fl35_2 : fldT Tryd.prog 35 2 = some (2, false, 1) := fldOf Tryd.underlying35 rfl rfl ty2.1 ty2.2.1 ty2.2.2.1
@[simp] theorem fl35_3 : fldT Tryd.prog 35 3 = some (3, false, 1) := fldOf Tryd.underlying35 rfl rfl ty2.1 ty2.2.1 ty2.2.2.1
@[simp] theorem fl35_4 : fldT Tryd.prog 35 4 = some (4, false, 1) := fldOf Tryd.underlying35 rfl rfl ty2.1 ty2.2.1 ty2.2.2.1
@[simp] theorem ts38 : structT Tryd.prog 38 = true := structOf Tryd.underlying38 (by simp [in2, in9])
@[simp] theorem fl38_0 : fldT Tryd.prog 38 0 = some (0, false, 1) := fldOf Tryd.underlying38 rfl rfl ty9.1 ty9.2.1 ty9.2.2.1
@[simp] theorem fl38_1 : fldT Tryd.prog 38 1 = some (1, false, 1) := fldOf Tryd.underlying38 rfl rfl ty2.1 ty2.2.1 ty2.2.2.1
@[simp] theorem fl38_2 : fldT Tryd.prog 38 2 = some (2, false, 1) := fldOf Tryd.underlying38 rfl rfl ty2.1 ty2.2.1 ty2.2.2.1
@[simp] theorem fl38_3 : fldT Tryd.prog 38 3 = some (3, false, 1) := fldOf Tryd.underlying38 rfl rfl ty2.1 ty2.2.1 ty2.2.2.1
@[simp] theorem fl38_4 : fldT Tryd.prog 38 4 = some (4, false, 1) := fldOf Tryd.underlying38 rfl rfl ty2.1 ty2.2.1 ty2.2.2.1
@[simp] theorem ts44 : structT Tryd.prog 44 = true := structOf Tryd.underlying44 (by simp [in2, in41, in42])
@[simp] theorem fl44_0 : fldT Tryd.prog 44 0 = some (0, false, 1) := fldOf Tryd.underlying44 rfl rfl ty2.1 ty2.2.1 ty2.2.2.1
@[simp] theorem fl44_1 : fldT Tryd.prog 44 1 = some (1, false, 1) := fldOf Tryd.underlying44 rfl rfl ty2.1 ty2.2.1 ty2.2.2.1
@[simp] theorem fl44_2 : fldT Tryd.prog 44 2 = some (2, false, 1) := fldOf Tryd.underlying44 rfl rfl ty41.1 ty41.2.1 ty41.2.2.1
@[simp] theorem fl44_3 : fldT Tryd.prog 44 3 = some (3, false, 1) := fldOf Tryd.underlying44 rfl rfl ty42.1 ty42.2.1 ty42.2.2.1
@[simp] theorem ts49 : structT Tryd.prog 49 = true := structOf Tryd.underlying49 (by simp [in2, in41, in47])
@[simp] theorem fl49_0 : fldT Tryd.prog 49 0 = some (0, false, 1) := fldOf Tryd.underlying49 rfl rfl ty2.1 ty2.2.1 ty2.2.2.1
@[simp] theorem fl49_1 : fldT Tryd.prog 49 1 = some (1, false, 1) := fldOf Tryd.underlying49 rfl rfl ty2.1 ty2.2.1 ty2.2.2.1
@[simp] theorem fl49_2 : fldT Tryd.prog 49 2 = some (2, false, 1) := fldOf Tryd.underlying49 rfl rfl ty41.1 ty41.2.1 ty41.2.2.1
@[simp] theorem fl49_3 : fldT Tryd.prog 49 3 = some (3, false, 1) := fldOf Tryd.underlying49 rfl rfl ty47.1 ty47.2.1 ty47.2.2.1
@[simp] theorem ts63 : structT Tryd.prog 63 = true := structOf Tryd.underlying63 (by simp [in2, in9])
@[simp] theorem fl63_0 : fldT Tryd.prog 63 0 = some (0, false, 1) := fldOf Tryd.underlying63 rfl rfl ty9.1 ty9.2.1 ty9.2.2.1
@[simp] theorem fl63_1 : fldT Tryd.prog 63 1 = some (1, false, 1) := fldOf Tryd.underlying63 rfl rfl ty2.1 ty2.2.1 ty2.2.2.1
@[simp] theorem fl63_2 : fldT Tryd.prog 63 2 = some (2, false, 1) := fldOf Tryd.underlying63 rfl rfl ty2.1 ty2.2.1 ty2.2.2.1
@[simp] theorem fl63_3 : fldT Tryd.prog 63 3 = some (3, false, 1) := fldOf Tryd.underlying63 rfl rfl ty2.1 ty2.2.1 ty2.2.2.1
@[simp] theorem fl63_4 : fldT Tryd.prog 63 4 = some (4, false, 1) := fldOf Tryd.underlying63 rfl rfl ty2.1 ty2.2.1 ty2.2.2.1
@[simp] theorem ts65 : structT Tryd.prog 65 = true := structOf Tryd.underlying65 (by simp [in2, in9])
@[simp] theorem fl65_0 : fldT Tryd.prog 65 0 = some (0, false, 1) := fldOf Tryd.underlying65 rfl rfl ty9.1 ty9.2.1 ty9.2.2.1
@[simp] theorem fl65_1 : fldT Tryd.prog 65 1 = some (1, false, 1) := fldOf Tryd.underlying65 rfl rfl ty2.1 ty2.2.1 ty2.2.2.1
@[simp] theorem fl65_2 : fldT Tryd.prog 65 2 = some (2, false, 1) := fldOf Tryd.underlying65 rfl rfl ty2.1 ty2.2.1 ty2.2.2.1
@[simp] theorem fl65_3 : fldT Tryd.prog 65 3 = some (3, false, 1) := fldOf Tryd.underlying65 rfl rfl ty2.1 ty2.2.1 ty2.2.2.1
@[simp] theorem fl65_4 : fldT Tryd.prog 65 4 = some (4, false, 1) := fldOf Tryd.underlying65 rfl rfl ty2.1 ty2.2.1 ty2.2.2.1
@[simp] theorem ts71 : structT Tryd.prog 71 = true := structOf Tryd.underlying71 (by simp [in2, in9])
@[simp] theorem fl71_0 : fldT Tryd.prog 71 0 = some (0, false, 1) := fldOf Tryd.underlying71 rfl rfl ty9.1 ty9.2.1 ty9.2.2.1
@[simp] theorem fl71_1 : fldT Tryd.prog 71 1 = some (1, false, 1) := fldOf Tryd.underlying71 rfl rfl ty2.1 ty2.2.1 ty2.2.2.1
@[simp] theorem fl71_2 : fldT Tryd.prog 71 2 = some (2, false, 1) := fldOf Tryd.underlying71 rfl rfl ty2.1 ty2.2.1 ty2.2.2.1
@[simp] theorem ts90 : structT Tryd.prog 90 = true := structOf Tryd.underlying90 (by simp [in2])
@[simp] theorem fl90_0 : fldT Tryd.prog 90 0 = some (0, false, 1) := fldOf Tryd.underlying90 rfl rfl ty2.1 ty2.2.1 ty2.2.2.1
@[simp] theorem fl90_1 : fldT Tryd.prog 90 1 = some (1, false, 1) := fldOf Tryd.underlying90 rfl rfl ty2.1 ty2.2.1 ty2.2.2.1
@[simp] theorem ts96 : structT Tryd.prog 96 = true := structOf Tryd.underlying96 (by simp [in2, in9])
@[simp] theorem fl96_0 : fldT Tryd.prog 96 0 = some (0, false, 1) := fldOf Tryd.underlying96 rfl rfl ty2.1 ty2.2.1 ty2.2.2.1
@[simp] theorem fl96_1 : fldT Tryd.prog 96 1 = some (1, false, 1) := fldOf Tryd.underlying96 rfl rfl ty9.1 ty9.2.1 ty9.2.2.1
@[simp] theorem fl96_2 : fldT Tryd.prog 96 2 = some (2, false, 1) := fldOf Tryd.underlying96 rfl rfl ty9.1 ty9.2.1 ty9.2.2.1
@[simp] theorem ts99 : structT Tryd.prog 99 = true := structOf Tryd.underlying99 (by simp [in2, in9])
@[simp] theorem fl99_0 : fldT Tryd.prog 99 0 = some (0, false, 1) := fldOf Tryd.underlying99 rfl rfl ty2.1 ty2.2.1 ty2.2.2.1
@[simp] theorem fl99_1 : fldT Tryd.prog 99 1 = some (1, false, 1) := fldOf Tryd.underlying99 rfl rfl ty9.1 ty9.2.1 ty9.2.2.1
@[simp] theorem fl99_2 : fldT Tryd.prog 99 2 = some (2, false, 1) := fldOf Tryd.underlying99 rfl rfl ty9.1 ty9.2.1 ty9.2.2.1
@[simp] theorem ts104 : structT Tryd.prog 104 = true := structOf Tryd.underlying104 (by simp [in101, in102])
@[simp] theorem fl104_0 : fldT Tryd.prog 104 0 = some (0, false, 1) := fldOf Tryd.underlying104 rfl rfl ty101.1 ty101.2.1 ty101.2.2.1
@[simp] theorem fl104_1 : fldT Tryd.prog 104 1 = some (1, false, 1) := fldOf Tryd.underlying104 rfl rfl ty102.1 ty102.2.1 ty102.2.2.1
@[simp] theorem ts134 : structT Tryd.prog 134 = true := structOf Tryd.underlying134 (by simp [in2])
@[simp] theorem fl134_0 : fldT Tryd.prog 134 0 = some (0, false, 1) := fldOf Tryd.underlying134 rfl rfl ty2.1 ty2.2.1 ty2.2.2.1
@[simp] theorem fl134_1 : fldT Tryd.prog 134 1 = some (1, false, 1) := fldOf Tryd.underlying134 rfl rfl ty2.1 ty2.2.1 ty2.2.2.1
@[simp] theorem ts167 : structT Tryd.prog 167 = true := structOf Tryd.underlying167 (by simp [in9])
@[simp] theorem fl167_0 : fldT Tryd.prog 167 0 = some (0, false, 1) := fldOf Tryd.underlying167 rfl rfl ty9.1 ty9.2.1 ty9.2.2.1
@[simp] theorem fl167_1 : fldT Tryd.prog 167 1 = some (1, false, 1) := fldOf Tryd.underlying167 rfl rfl ty9.1 ty9.2.1 ty9.2.2.1
@[simp] theorem res_3 : Tryd.f3.results.toList = [.tmp 2] := rfl
@[simp] theorem res_4 : Tryd.f4.results.toList = [.tmp 2] := rfl
@[simp] theorem res_5 : Tryd.f5.results.toList = [.tmp 2] := rfl
@[simp] theorem res_6 : Tryd.f6.results.toList = [.tmp 2] := rfl
@[simp] theorem res_7 : Tryd.f7.results.toList = [.tmp 4] := rfl
@[simp] theorem res_8 : Tryd.f8.results.toList = [.tmp 2, .tmp 3] := rfl
@[simp] theorem res_9 : Tryd.f9.results.toList = [.tmp 2] := rfl
@[simp] theorem res_10 : Tryd.f10.results.toList = [.tmp 2, .tmp 3] := rfl
@[simp] theorem res_11 : Tryd.f11.results.toList = [.tmp 4] := rfl
@[simp] theorem res_12 : Tryd.f12.results.toList = [.tmp 4] := rfl
@[simp] theorem res_13 : Tryd.f13.results.toList = [.tmp 4] := rfl
@[simp] theorem res_14 : Tryd.f14.results.toList = [.tmp 4] := rfl
@[simp] theorem res_15 : Tryd.f15.results.toList = [.tmp 4] := rfl
@[simp] theorem res_16 : Tryd.f16.results.toList = [.tmp 4] := rfl
@[simp] theorem res_17 : Tryd.f17.results.toList = [.tmp 2] := rfl
@[simp] theorem res_18 : Tryd.f18.results.toList = [.cell 2 38] := rfl
@[simp] theorem res_19 : Tryd.f19.results.toList = [.tmp 2] := rfl
@[simp] theorem res_20 : Tryd.f20.results.toList = [.tmp 4] := rfl
@[simp] theorem res_21 : Tryd.f21.results.toList = [.tmp 2] := rfl
@[simp] theorem res_22 : Tryd.f22.results.toList = [.cell 2 49] := rfl
@[simp] theorem res_23 : Tryd.f23.results.toList = [.tmp 2] := rfl
@[simp] theorem res_24 : Tryd.f24.results.toList = [.tmp 4] := rfl
@[simp] theorem res_25 : Tryd.f25.results.toList = [.tmp 4] := rfl
@[simp] theorem res_26 : Tryd.f26.results.toList = [.tmp 2, .tmp 3] := rfl
@[simp] theorem res_27 : Tryd.f27.results.toList = [.tmp 2] := rfl
@[simp] theorem res_28 : Tryd.f28.results.toList = [.tmp 2, .tmp 3] := rfl
@[simp] theorem res_29 : Tryd.f29.results.toList = [.tmp 4] := rfl
@[simp] theorem res_30 : Tryd.f30.results.toList = [.tmp 4] := rfl
@[simp] theorem res_31 : Tryd.f31.results.toList = [.tmp 2] := rfl
@[simp] theorem res_32 : Tryd.f32.results.toList = [.tmp 2, .tmp 3] := rfl
@[simp] theorem res_33 : Tryd.f33.results.toList = [.cell 2 65] := rfl
@[simp] theorem res_34 : Tryd.f34.results.toList = [.tmp 2] := rfl
@[simp] theorem res_35 : Tryd.f35.results.toList = [.tmp 2, .tmp 3] := rfl
@[simp] theorem res_36 : Tryd.f36.results.toList = [.tmp 4] := rfl
@[simp] theorem res_37 : Tryd.f37.results.toList = [.tmp 4] := rfl
@[simp] theorem res_38 : Tryd.f38.results.toList = [.tmp 2] := rfl
@[simp] theorem res_39 : Tryd.f39.results.toList = [.tmp 2] := rfl
@[simp] theorem res_40 : Tryd.f40.results.toList = [.tmp 2] := rfl
@[simp] theorem res_41 : Tryd.f41.results.toList = [.tmp 2] := rfl
@[simp] theorem res_42 : Tryd.f42.results.toList = [.tmp 2] := rfl
@[simp] theorem res_43 : Tryd.f43.results.toList = [.tmp 2] := rfl
@[simp] theorem res_44 : Tryd.f44.results.toList = [.tmp 4] := rfl
@[simp] theorem res_45 : Tryd.f45.results.toList = [.tmp 4] := rfl
@[simp] theorem res_46 : Tryd.f46.results.toList = [.tmp 2] := rfl
@[simp] theorem res_47 : Tryd.f47.results.toList = [.tmp 2] := rfl
@[simp] theorem res_48 : Tryd.f48.results.toList = [.tmp 2] := rfl
@[simp] theorem res_49 : Tryd.f49.results.toList = [.tmp 2] := rfl
@[simp] theorem res_50 : Tryd.f50.results.toList = [.tmp 2] := rfl
@[simp] theorem res_51 : Tryd.f51.results.toList = [.tmp 2] := rfl
@[simp] theorem res_52 : Tryd.f52.results.toList = [.tmp 4] := rfl
@[simp] theorem res_53 : Tryd.f53.results.toList = [.tmp 4] := rfl
@[simp] theorem res_54 : Tryd.f54.results.toList = [.tmp 4] := rfl
@[simp] theorem res_55 : Tryd.f55.results.toList = [.tmp 4] := rfl
@[simp] theorem res_56 : Tryd.f56.results.toList = [.tmp 2] := rfl
@[simp] theorem res_57 : Tryd.f57.results.toList = [.tmp 2] := rfl
@[simp] theorem res_58 : Tryd.f58.results.toList = [.cell 2 99] := rfl
@[simp] theorem res_59 : Tryd.f59.results.toList = [.tmp 2] := rfl
@[simp] theorem res_60 : Tryd.f60.results.toList = [.tmp 4] := rfl
@[simp] theorem res_61 : Tryd.f61.results.toList = [.tmp 2] := rfl
@[simp] theorem res_62 : Tryd.f62.results.toList = [.tmp 4, .tmp 5] := rfl
@[simp] theorem res_63 : Tryd.f63.results.toList = [.tmp 2] := rfl
@[simp] theorem res_64 : Tryd.f64.results.toList = [.tmp 4] := rfl
@[simp] theorem res_65 : Tryd.f65.results.toList = [.tmp 2] := rfl
@[simp] theorem res_66 : Tryd.f66.results.toList = [.tmp 4, .tmp 5] := rfl
@[simp] theorem res_67 : Tryd.f67.results.toList = [.tmp 4] := rfl
@[simp] theorem res_68 : Tryd.f68.results.toList = [.tmp 4] := rfl
@[simp] theorem res_69 : Tryd.f69.results.toList = [.tmp 2] := rfl
@[simp] theorem res_70 : Tryd.f70.results.toList = [.tmp 2] := rfl
@[simp] theorem res_71 : Tryd.f71.results.toList = [.tmp 2] := rfl
@[simp] theorem res_72 : Tryd.f72.results.toList = [.tmp 2, .tmp 3, .tmp 4] := rfl
@[simp] theorem res_73 : Tryd.f73.results.toList = [.tmp 4] := rfl
@[simp] theorem res_74 : Tryd.f74.results.toList = [.tmp 2] := rfl
@[simp] theorem res_75 : Tryd.f75.results.toList = [.tmp 2] := rfl
@[simp] theorem res_76 : Tryd.f76.results.toList = [.tmp 2] := rfl
@[simp] theorem res_77 : Tryd.f77.results.toList = [.tmp 6] := rfl
@[simp] theorem res_78 : Tryd.f78.results.toList = [.tmp 2] := rfl
@[simp] theorem res_79 : Tryd.f79.results.toList = [.tmp 2] := rfl
@[simp] theorem res_80 : Tryd.f80.results.toList = [.tmp 2] := rfl
@[simp] theorem res_81 : Tryd.f81.results.toList = [.tmp 2] := rfl
@[simp] theorem res_82 : Tryd.f82.results.toList = [.tmp 2] := rfl
@[simp] theorem res_83 : Tryd.f83.results.toList = [.tmp 2] := rfl
@[simp] theorem res_84 : Tryd.f84.results.toList = [.tmp 6] := rfl
@[simp] theorem res_85 : Tryd.f85.results.toList = [.tmp 4] := rfl
@[simp] theorem res_86 : Tryd.f86.results.toList = [.tmp 2] := rfl
@[simp] theorem res_87 : Tryd.f87.results.toList = [.tmp 2] := rfl
@[simp] theorem res_88 : Tryd.f88.results.toList = [.tmp 4] := rfl
@[simp] theorem res_89 : Tryd.f89.results.toList = [.tmp 4] := rfl
@[simp] theorem res_90 : Tryd.f90.results.toList = [.tmp 2] := rfl
@[simp] theorem res_91 : Tryd.f91.results.toList = [.cell 2 90] := rfl
@[simp] theorem res_92 : Tryd.f92.results.toList = [.tmp 2] := rfl
@[simp] theorem res_93 : Tryd.f93.results.toList = [.tmp 4] := rfl
@[simp] theorem res_94 : Tryd.f94.results.toList = [.tmp 4] := rfl
@[simp] theorem res_95 : Tryd.f95.results.toList = [.tmp 4] := rfl
@[simp] theorem res_96 : Tryd.f96.results.toList = [.tmp 4] := rfl
@[simp] theorem res_97 : Tryd.f97.results.toList = [] := rfl
@[simp] theorem res_98 : Tryd.f98.results.toList = [.tmp 4] := rfl
@[simp] theorem res_99 : Tryd.f99.results.toList = [.tmp 2] := rfl
@[simp] theorem res_100 : Tryd.f100.results.toList = [.tmp 6] := rfl
@[simp] theorem res_101 : Tryd.f101.results.toList = [.tmp 2] := rfl
@[simp] theorem res_102 : Tryd.f102.results.toList = [.tmp 4] := rfl
@[simp] theorem res_103 : Tryd.f103.results.toList = [.tmp 2] := rfl
@[simp] theorem res_104 : Tryd.f104.results.toList = [.tmp 4] := rfl
@[simp] theorem res_105 : Tryd.f105.results.toList = [] := rfl
@[simp] theorem res_106 : Tryd.f106.results.toList = [.tmp 4] := rfl
@[simp] theorem res_107 : Tryd.f107.results.toList = [.tmp 4] := rfl
@[simp] theorem res_108 : Tryd.f108.results.toList = [.tmp 2] := rfl
@[simp] theorem res_109 : Tryd.f109.results.toList = [.tmp 2] := rfl
@[simp] theorem res_110 : Tryd.f110.results.toList = [.tmp 4, .tmp 5, .tmp 6] := rfl
@[simp] theorem res_111 : Tryd.f111.results.toList = [.tmp 4] := rfl
@[simp] theorem res_112 : Tryd.f112.results.toList = [.tmp 2] := rfl
@[simp] theorem res_113 : Tryd.f113.results.toList = [.tmp 2] := rfl
@[simp] theorem res_114 : Tryd.f114.results.toList = [.tmp 2] := rfl
@[simp] theorem res_115 : Tryd.f115.results.toList = [.tmp 2] := rfl
@[simp] theorem res_116 : Tryd.f116.results.toList = [.tmp 2] := rfl
@[simp] theorem res_117 : Tryd.f117.results.toList = [.tmp 2] := rfl
@[simp] theorem res_118 : Tryd.f118.results.toList = [.tmp 4] := rfl
@[simp] theorem res_119 : Tryd.f119.results.toList = [.tmp 4] := rfl
@[simp] theorem res_120 : Tryd.f120.results.toList = [.tmp 4] := rfl
@[simp] theorem res_121 : Tryd.f121.results.toList = [.tmp 2] := rfl
@[simp] theorem res_122 : Tryd.f122.results.toList = [.tmp 2] := rfl
@[simp] theorem res_123 : Tryd.f123.results.toList = [.tmp 4] := rfl
@[simp] theorem res_124 : Tryd.f124.results.toList = [.tmp 4] := rfl
@[simp] theorem res_125 : Tryd.f125.results.toList = [.tmp 4] := rfl
@[simp] theorem res_126 : Tryd.f126.results.toList = [] := rfl
@[simp] theorem res_127 : Tryd.f127.results.toList = [.tmp 2] := rfl
@[simp] theorem res_128 : Tryd.f128.results.toList = [.tmp 4, .tmp 5] := rfl
@[simp] theorem res_129 : Tryd.f129.results.toList = [.tmp 4] := rfl
@[simp] theorem res_130 : Tryd.f130.results.toList = [.tmp 4] := rfl
@[simp] theorem res_131 : Tryd.f131.results.toList = [.tmp 2] := rfl
@[simp] theorem res_132 : Tryd.f132.results.toList = [.tmp 4, .tmp 5] := rfl
@[simp] theorem res_133 : Tryd.f133.results.toList = [.tmp 2] := rfl
@[simp] theorem res_134 : Tryd.f134.results.toList = [.tmp 2, .tmp 3] := rfl
@[simp] theorem res_136 : Tryd.f136.results.toList = [.tmp 2] := rfl
@[simp] theorem res_137 : Tryd.f137.results.toList = [.tmp 2] := rfl
@[simp] theorem res_138 : Tryd.f138.results.toList = [.tmp 0] := rfl
@[simp] theorem res_139 : Tryd.f139.results.toList = [.tmp 2] := rfl
@[simp] theorem res_140 : Tryd.f140.results.toList = [.tmp 2] := rfl
@[simp] theorem res_141 : Tryd.f141.results.toList = [.tmp 2] := rfl
@[simp] theorem res_142 : Tryd.f142.results.toList = [.tmp 2] := rfl
@[simp] theorem res_143 : Tryd.f143.results.toList = [.tmp 2] := rfl
@[simp] theorem res_144 : Tryd.f144.results.toList = [.tmp 2] := rfl
@[simp] theorem res_145 : Tryd.f145.results.toList = [] := rfl
@[simp] theorem res_146 : Tryd.f146.results.toList = [.tmp 10, .tmp 11] := rfl
@[simp] theorem res_148 : Tryd.f148.results.toList = [.tmp 4] := rfl
@[simp] theorem res_149 : Tryd.f149.results.toList = [.tmp 2] := rfl
@[simp] theorem res_150 : Tryd.f150.results.toList = [.tmp 6, .tmp 7] := rfl
@[simp] theorem res_151 : Tryd.f151.results.toList = [.tmp 4] := rfl
@[simp] theorem res_152 : Tryd.f152.results.toList = [.tmp 4] := rfl
@[simp] theorem res_153 : Tryd.f153.results.toList = [.tmp 6] := rfl
@[simp] theorem res_154 : Tryd.f154.results.toList = [.tmp 6] := rfl
@[simp] theorem res_155 : Tryd.f155.results.toList = [.tmp 2] := rfl
@[simp] theorem res_156 : Tryd.f156.results.toList = [.tmp 2] := rfl
@[simp] theorem res_157 : Tryd.f157.results.toList = [.tmp 2] := rfl
@[simp] theorem res_158 : Tryd.f158.results.toList = [.tmp 2] := rfl
@[simp] theorem res_159 : Tryd.f159.results.toList = [.tmp 2] := rfl
@[simp] theorem res_160 : Tryd.f160.results.toList = [.tmp 4] := rfl
@[simp] theorem res_161 : Tryd.f161.results.toList = [.tmp 4] := rfl
@[simp] theorem res_163 : Tryd.f163.results.toList = [] := rfl
@[simp] theorem res_164 : Tryd.f164.results.toList = [.tmp 2] := rfl
@[simp] theorem res_165 : Tryd.f165.results.toList = [.tmp 2] := rfl
@[simp] theorem res_167 : Tryd.f167.results.toList = [] := rfl
@[simp] theorem res_168 : Tryd.f168.results.toList = [] := rfl
theorem hm : Tryd.prog.follows .mixedOrders = true := Tryd.checked.mixed
end Go.Proofs.YtnphmemhejhooaaDoor
