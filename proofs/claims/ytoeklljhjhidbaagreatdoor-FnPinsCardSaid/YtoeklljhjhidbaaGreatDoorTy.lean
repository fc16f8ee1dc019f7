/- Closed facts on the types of the program. Made by a program (gen_types.py). No condition. -/
import Derived.Test.YtoeklljhjhidbaaGreatDoorAcd
import Derived.Test.YtoeklljhjhidbaaGreatDoorAbz
import Derived.Test.YtoeklljhjhidbaaGreatDoorProg
namespace Go.Proofs.YtoeklljhjhidbaaGreatDoor
open Go Go.Ab

theorem in2 : Tryz.prog.info? 2 = some Tryz.t2 := by kernel_rfl
@[simp] theorem ty2 : TyOne Tryz.prog 2 8 (some .i64) none false := tyOne_int in2 Tryz.underlying2 rfl rfl
@[simp] theorem tz2 : TyZ Tryz.prog 2 [.int .i64 0] := tyZ in2 rfl rfl rfl rfl
theorem in3 : Tryz.prog.info? 3 = some Tryz.t3 := by kernel_rfl
@[simp] theorem ty3 : TyOne Tryz.prog 3 8 (some .i64) none false := tyOne_int in3 Tryz.underlying3 rfl rfl
@[simp] theorem tz3 : TyZ Tryz.prog 3 [.int .i64 0] := tyZ in3 rfl rfl rfl rfl
theorem in4 : Tryz.prog.info? 4 = some Tryz.t4 := by kernel_rfl
@[simp] theorem ty4 : TyOne Tryz.prog 4 1 none none false := tyOne_bool in4 Tryz.underlying4 rfl rfl
@[simp] theorem ub4 : Tryz.prog.underlying 4 = some .bool := Tryz.underlying4
@[simp] theorem tz4 : TyZ Tryz.prog 4 [.bool false] := tyZ in4 rfl rfl rfl rfl
theorem in5 : Tryz.prog.info? 5 = some Tryz.t5 := by kernel_rfl
@[simp] theorem ty5 : TyOne Tryz.prog 5 1 (some .u8) none false := tyOne_int in5 Tryz.underlying5 rfl rfl
@[simp] theorem tz5 : TyZ Tryz.prog 5 [.int .u8 0] := tyZ in5 rfl rfl rfl rfl
theorem in6 : Tryz.prog.info? 6 = some Tryz.t6 := by kernel_rfl
@[simp] theorem ty6 : TyOne Tryz.prog 6 1 (some .u8) none false := tyOne_int in6 Tryz.underlying6 rfl rfl
@[simp] theorem tz6 : TyZ Tryz.prog 6 [.int .u8 0] := tyZ in6 rfl rfl rfl rfl
theorem in8 : Tryz.prog.info? 8 = some Tryz.t8 := by kernel_rfl
@[simp] theorem ty8 : TyAgg Tryz.prog 8 4 24 := tyAgg_struct in8 Tryz.underlying8 rfl rfl
@[simp] theorem tz8 : TyZ Tryz.prog 8 [.int .i64 0, .int .i64 0, .bool false, .int .u8 0] := tyZ in8 rfl rfl rfl rfl
theorem in9 : Tryz.prog.info? 9 = some Tryz.t9 := by kernel_rfl
@[simp] theorem ty9 : TyOne Tryz.prog 9 16 none none true := tyOne_str in9 Tryz.underlying9 rfl rfl
@[simp] theorem tz9 : TyZ Tryz.prog 9 [.str []] := tyZ in9 rfl rfl rfl rfl
theorem in10 : Tryz.prog.info? 10 = some Tryz.t10 := by kernel_rfl
@[simp] theorem ty10 : TyOne Tryz.prog 10 16 none none true := tyOne_str in10 Tryz.underlying10 rfl rfl
@[simp] theorem tz10 : TyZ Tryz.prog 10 [.str []] := tyZ in10 rfl rfl rfl rfl
theorem in11 : Tryz.prog.info? 11 = some Tryz.t11 := by kernel_rfl
@[simp] theorem ty11 : TyOne Tryz.prog 11 16 none none true := tyOne_str in11 Tryz.underlying11 rfl rfl
@[simp] theorem tz11 : TyZ Tryz.prog 11 [.str []] := tyZ in11 rfl rfl rfl rfl
theorem in12 : Tryz.prog.info? 12 = some Tryz.t12 := by kernel_rfl
@[simp] theorem ty12 : TyOne Tryz.prog 12 8 (some .u64) none false := tyOne_int in12 Tryz.underlying12 rfl rfl
@[simp] theorem tz12 : TyZ Tryz.prog 12 [.int .u64 0] := tyZ in12 rfl rfl rfl rfl
theorem in14 : Tryz.prog.info? 14 = some Tryz.t14 := by kernel_rfl
@[simp] theorem ty14 : TyAgg Tryz.prog 14 2 24 := tyAgg_struct in14 Tryz.underlying14 rfl rfl
@[simp] theorem tz14 : TyZ Tryz.prog 14 [.str [], .int .u64 0] := tyZ in14 rfl rfl rfl rfl
theorem in15 : Tryz.prog.info? 15 = some Tryz.t15 := by kernel_rfl
@[simp] theorem ty15 : TyOne Tryz.prog 15 8 none none false := tyOne_pointer in15 Tryz.underlying15 rfl rfl
@[simp] theorem tz15 : TyZ Tryz.prog 15 [.raw (.pointer none)] := tyZ in15 rfl rfl rfl rfl
theorem in16 : Tryz.prog.info? 16 = some Tryz.t16 := by kernel_rfl
@[simp] theorem ty16 : TyOne Tryz.prog 16 8 none none false := tyOne_pointer in16 Tryz.underlying16 rfl rfl
@[simp] theorem tz16 : TyZ Tryz.prog 16 [.raw (.pointer none)] := tyZ in16 rfl rfl rfl rfl
theorem in17 : Tryz.prog.info? 17 = some Tryz.t17 := by kernel_rfl
@[simp] theorem ty17 : TyOne Tryz.prog 17 8 none none false := tyOne_pointer in17 Tryz.underlying17 rfl rfl
@[simp] theorem tz17 : TyZ Tryz.prog 17 [.raw (.pointer none)] := tyZ in17 rfl rfl rfl rfl
theorem in19 : Tryz.prog.info? 19 = some Tryz.t19 := by kernel_rfl
@[simp] theorem ty19 : TyAgg Tryz.prog 19 1 8 := tyAgg_struct in19 Tryz.underlying19 rfl rfl
@[simp] theorem tz19 : TyZ Tryz.prog 19 [.raw (.pointer none)] := tyZ in19 rfl rfl rfl rfl
theorem in21 : Tryz.prog.info? 21 = some Tryz.t21 := by kernel_rfl
@[simp] theorem ty21 : TyOne Tryz.prog 21 4 (some .i32) none false := tyOne_int in21 Tryz.underlying21 rfl rfl
@[simp] theorem tz21 : TyZ Tryz.prog 21 [.int .i32 0] := tyZ in21 rfl rfl rfl rfl
theorem in22 : Tryz.prog.info? 22 = some Tryz.t22 := by kernel_rfl
@[simp] theorem ty22 : TyOne Tryz.prog 22 24 none (some 5) false := tyOne_slice in22 Tryz.underlying22 rfl rfl
@[simp] theorem tz22 : TyZ Tryz.prog 22 [.nils] := tyZ in22 rfl rfl rfl rfl
theorem in24 : Tryz.prog.info? 24 = some Tryz.t24 := by kernel_rfl
@[simp] theorem ty24 : TyOne Tryz.prog 24 24 none (some 2) false := tyOne_slice in24 Tryz.underlying24 rfl rfl
@[simp] theorem tz24 : TyZ Tryz.prog 24 [.nils] := tyZ in24 rfl rfl rfl rfl
theorem in25 : Tryz.prog.info? 25 = some Tryz.t25 := by kernel_rfl
@[simp] theorem ty25 : TyOne Tryz.prog 25 24 none (some 37) false := tyOne_slice in25 Tryz.underlying25 rfl rfl
@[simp] theorem tz25 : TyZ Tryz.prog 25 [.nils] := tyZ in25 rfl rfl rfl rfl
theorem in27 : Tryz.prog.info? 27 = some Tryz.t27 := by kernel_rfl
@[simp] theorem ty27 : TyAgg Tryz.prog 27 4 64 := tyAgg_struct in27 Tryz.underlying27 rfl rfl
@[simp] theorem tz27 : TyZ Tryz.prog 27 [.int .i64 0, .int .i64 0, .nils, .nils] := tyZ in27 rfl rfl rfl rfl
theorem in37 : Tryz.prog.info? 37 = some Tryz.t37 := by kernel_rfl
@[simp] theorem ty37 : TyAgg Tryz.prog 37 2 16 := tyAgg_struct in37 Tryz.underlying37 rfl rfl
@[simp] theorem tz37 : TyZ Tryz.prog 37 [.int .i64 0, .int .i64 0] := tyZ in37 rfl rfl rfl rfl
theorem in46 : Tryz.prog.info? 46 = some Tryz.t46 := by kernel_rfl
@[simp] theorem ty46 : TyOne Tryz.prog 46 8 none none false := tyOne_pointer in46 Tryz.underlying46 rfl rfl
@[simp] theorem tz46 : TyZ Tryz.prog 46 [.raw (.pointer none)] := tyZ in46 rfl rfl rfl rfl
theorem in50 : Tryz.prog.info? 50 = some Tryz.t50 := by kernel_rfl
@[simp] theorem ty50 : TyOne Tryz.prog 50 8 none none false := tyOne_func in50 Tryz.underlying50 rfl rfl
@[simp] theorem tz50 : TyZ Tryz.prog 50 [.raw .nilFunc] := tyZ in50 rfl rfl rfl rfl
theorem in54 : Tryz.prog.info? 54 = some Tryz.t54 := by kernel_rfl
@[simp] theorem ty54 : TyOne Tryz.prog 54 8 none none false := tyOne_func in54 Tryz.underlying54 rfl rfl
@[simp] theorem tz54 : TyZ Tryz.prog 54 [.raw .nilFunc] := tyZ in54 rfl rfl rfl rfl
theorem in57 : Tryz.prog.info? 57 = some Tryz.t57 := by kernel_rfl
@[simp] theorem ty57 : TyOne Tryz.prog 57 24 none (some 9) false := tyOne_slice in57 Tryz.underlying57 rfl rfl
@[simp] theorem tz57 : TyZ Tryz.prog 57 [.nils] := tyZ in57 rfl rfl rfl rfl
theorem in67 : Tryz.prog.info? 67 = some Tryz.t67 := by kernel_rfl
@[simp] theorem ty67 : TyOne Tryz.prog 67 8 none none false := tyOne_pointer in67 Tryz.underlying67 rfl rfl
@[simp] theorem tz67 : TyZ Tryz.prog 67 [.raw (.pointer none)] := tyZ in67 rfl rfl rfl rfl
theorem in79 : Tryz.prog.info? 79 = some Tryz.t79 := by kernel_rfl
@[simp] theorem ty79 : TyOne Tryz.prog 79 8 (some .u64) none false := tyOne_int in79 Tryz.underlying79 rfl rfl
@[simp] theorem tz79 : TyZ Tryz.prog 79 [.int .u64 0] := tyZ in79 rfl rfl rfl rfl
theorem in81 : Tryz.prog.info? 81 = some Tryz.t81 := by kernel_rfl
@[simp] theorem ty81 : TyAgg Tryz.prog 81 3 40 := tyAgg_struct in81 Tryz.underlying81 rfl rfl
@[simp] theorem tz81 : TyZ Tryz.prog 81 [.nils, .int .i64 0, .int .u64 0] := tyZ in81 rfl rfl rfl rfl
theorem in88 : Tryz.prog.info? 88 = some Tryz.t88 := by kernel_rfl
@[simp] theorem ty88 : TyOne Tryz.prog 88 8 (some .u64) none false := tyOne_int in88 Tryz.underlying88 rfl rfl
@[simp] theorem tz88 : TyZ Tryz.prog 88 [.int .u64 0] := tyZ in88 rfl rfl rfl rfl
theorem in93 : Tryz.prog.info? 93 = some Tryz.t93 := by kernel_rfl
@[simp] theorem ty93 : TyOne Tryz.prog 93 8 none none false := tyOne_pointer in93 Tryz.underlying93 rfl rfl
@[simp] theorem tz93 : TyZ Tryz.prog 93 [.raw (.pointer none)] := tyZ in93 rfl rfl rfl rfl
theorem in95 : Tryz.prog.info? 95 = some Tryz.t95 := by kernel_rfl
@[simp] theorem ty95 : TyAgg Tryz.prog 95 2 32 := tyAgg_struct in95 Tryz.underlying95 rfl rfl
@[simp] theorem tz95 : TyZ Tryz.prog 95 [.raw (.pointer none), .nils] := tyZ in95 rfl rfl rfl rfl
theorem in98 : Tryz.prog.info? 98 = some Tryz.t98 := by kernel_rfl
theorem in107 : Tryz.prog.info? 107 = some Tryz.t107 := by kernel_rfl
@[simp] theorem ty107 : TyOne Tryz.prog 107 8 none none false := tyOne_pointer in107 Tryz.underlying107 rfl rfl
@[simp] theorem tz107 : TyZ Tryz.prog 107 [.raw (.pointer none)] := tyZ in107 rfl rfl rfl rfl
theorem in112 : Tryz.prog.info? 112 = some Tryz.t112 := by kernel_rfl
@[simp] theorem ty112 : TyOne Tryz.prog 112 8 (some .i64) none false := tyOne_int in112 Tryz.underlying112 rfl rfl
@[simp] theorem tz112 : TyZ Tryz.prog 112 [.int .i64 0] := tyZ in112 rfl rfl rfl rfl
theorem in119 : Tryz.prog.info? 119 = some Tryz.t119 := by kernel_rfl
@[simp] theorem ty119 : TyOne Tryz.prog 119 4 (some .u32) none false := tyOne_int in119 Tryz.underlying119 rfl rfl
@[simp] theorem tz119 : TyZ Tryz.prog 119 [.int .u32 0] := tyZ in119 rfl rfl rfl rfl
theorem in121 : Tryz.prog.info? 121 = some Tryz.t121 := by kernel_rfl
@[simp] theorem ty121 : TyOne Tryz.prog 121 24 none (some 3) false := tyOne_slice in121 Tryz.underlying121 rfl rfl
@[simp] theorem tz121 : TyZ Tryz.prog 121 [.nils] := tyZ in121 rfl rfl rfl rfl
theorem in123 : Tryz.prog.info? 123 = some Tryz.t123 := by kernel_rfl
@[simp] theorem ty123 : TyOne Tryz.prog 123 8 none none false := tyOne_pointer in123 Tryz.underlying123 rfl rfl
@[simp] theorem tz123 : TyZ Tryz.prog 123 [.raw (.pointer none)] := tyZ in123 rfl rfl rfl rfl
theorem in131 : Tryz.prog.info? 131 = some Tryz.t131 := by kernel_rfl
@[simp] theorem ty131 : TyOne Tryz.prog 131 8 (some .u64) none false := tyOne_int in131 Tryz.underlying131 rfl rfl
@[simp] theorem tz131 : TyZ Tryz.prog 131 [.int .u64 0] := tyZ in131 rfl rfl rfl rfl
theorem in135 : Tryz.prog.info? 135 = some Tryz.t135 := by kernel_rfl
@[simp] theorem ty135 : TyOne Tryz.prog 135 8 none none false := tyOne_pointer in135 Tryz.underlying135 rfl rfl
@[simp] theorem tz135 : TyZ Tryz.prog 135 [.raw (.pointer none)] := tyZ in135 rfl rfl rfl rfl
theorem in138 : Tryz.prog.info? 138 = some Tryz.t138 := by kernel_rfl
@[simp] theorem ty138 : TyAgg Tryz.prog 138 24 24 := tyAgg_array in138 Tryz.underlying138 rfl rfl
@[simp] theorem ar138 : arrT Tryz.prog 138 = some (24, 5) := arrOf Tryz.underlying138
@[simp] theorem tz138 : TyZ Tryz.prog 138 [.int .u8 0, .int .u8 0, .int .u8 0, .int .u8 0, .int .u8 0, .int .u8 0, .int .u8 0, .int .u8 0, .int .u8 0, .int .u8 0, .int .u8 0, .int .u8 0, .int .u8 0, .int .u8 0, .int .u8 0, .int .u8 0, .int .u8 0, .int .u8 0, .int .u8 0, .int .u8 0, .int .u8 0, .int .u8 0, .int .u8 0, .int .u8 0] := tyZ in138 rfl rfl rfl rfl
theorem in142 : Tryz.prog.info? 142 = some Tryz.t142 := by kernel_rfl
theorem in150 : Tryz.prog.info? 150 = some Tryz.t150 := by kernel_rfl
@[simp] theorem ty150 : TyOne Tryz.prog 150 8 (some .i64) none false := tyOne_int in150 Tryz.underlying150 rfl rfl
@[simp] theorem tz150 : TyZ Tryz.prog 150 [.int .i64 0] := tyZ in150 rfl rfl rfl rfl
theorem in153 : Tryz.prog.info? 153 = some Tryz.t153 := by kernel_rfl
@[simp] theorem ty153 : TyOne Tryz.prog 153 8 none none false := tyOne_pointer in153 Tryz.underlying153 rfl rfl
@[simp] theorem tz153 : TyZ Tryz.prog 153 [.raw (.pointer none)] := tyZ in153 rfl rfl rfl rfl
theorem in158 : Tryz.prog.info? 158 = some Tryz.t158 := by kernel_rfl
@[simp] theorem ty158 : TyOne Tryz.prog 158 8 none none false := tyOne_pointer in158 Tryz.underlying158 rfl rfl
@[simp] theorem tz158 : TyZ Tryz.prog 158 [.raw (.pointer none)] := tyZ in158 rfl rfl rfl rfl
theorem in162 : Tryz.prog.info? 162 = some Tryz.t162 := by kernel_rfl
@[simp] theorem ty162 : TyAgg Tryz.prog 162 20 160 := tyAgg_array in162 Tryz.underlying162 rfl rfl
@[simp] theorem ar162 : arrT Tryz.prog 162 = some (20, 79) := arrOf Tryz.underlying162
@[simp] theorem tz162 : TyZ Tryz.prog 162 [.int .u64 0, .int .u64 0, .int .u64 0, .int .u64 0, .int .u64 0, .int .u64 0, .int .u64 0, .int .u64 0, .int .u64 0, .int .u64 0, .int .u64 0, .int .u64 0, .int .u64 0, .int .u64 0, .int .u64 0, .int .u64 0, .int .u64 0, .int .u64 0, .int .u64 0, .int .u64 0] := tyZ in162 rfl rfl rfl rfl
theorem in163 : Tryz.prog.info? 163 = some Tryz.t163 := by kernel_rfl
@[simp] theorem ty163 : TyAgg Tryz.prog 163 65 65 := tyAgg_array in163 Tryz.underlying163 rfl rfl
@[simp] theorem ar163 : arrT Tryz.prog 163 = some (65, 5) := arrOf Tryz.underlying163
theorem in169 : Tryz.prog.info? 169 = some Tryz.t169 := by kernel_rfl
@[simp] theorem ty169 : TyAgg Tryz.prog 169 3 48 := tyAgg_struct in169 Tryz.underlying169 rfl rfl
@[simp] theorem tz169 : TyZ Tryz.prog 169 [.str [], .str [], .raw .nilIface] := tyZ in169 rfl rfl rfl rfl
theorem in173 : Tryz.prog.info? 173 = some Tryz.t173 := by kernel_rfl
@[simp] theorem ty173 : TyAgg Tryz.prog 173 256 256 := tyAgg_array in173 Tryz.underlying173 rfl rfl
@[simp] theorem ar173 : arrT Tryz.prog 173 = some (256, 5) := arrOf Tryz.underlying173
theorem in175 : Tryz.prog.info? 175 = some Tryz.t175 := by kernel_rfl
@[simp] theorem ty175 : TyAgg Tryz.prog 175 2 2 := tyAgg_struct in175 Tryz.underlying175 rfl rfl
@[simp] theorem tz175 : TyZ Tryz.prog 175 [.int .u8 0, .int .u8 0] := tyZ in175 rfl rfl rfl rfl
theorem in176 : Tryz.prog.info? 176 = some Tryz.t176 := by kernel_rfl
@[simp] theorem ty176 : TyAgg Tryz.prog 176 32 32 := tyAgg_array in176 Tryz.underlying176 rfl rfl
@[simp] theorem ar176 : arrT Tryz.prog 176 = some (16, 175) := arrOf Tryz.underlying176
@[simp] theorem tz176 : TyZ Tryz.prog 176 [.int .u8 0, .int .u8 0, .int .u8 0, .int .u8 0, .int .u8 0, .int .u8 0, .int .u8 0, .int .u8 0, .int .u8 0, .int .u8 0, .int .u8 0, .int .u8 0, .int .u8 0, .int .u8 0, .int .u8 0, .int .u8 0, .int .u8 0, .int .u8 0, .int .u8 0, .int .u8 0, .int .u8 0, .int .u8 0, .int .u8 0, .int .u8 0, .int .u8 0, .int .u8 0, .int .u8 0, .int .u8 0, .int .u8 0, .int .u8 0, .int .u8 0, .int .u8 0] := tyZ in176 rfl rfl rfl rfl
theorem in177 : Tryz.prog.info? 177 = some Tryz.t177 := by kernel_rfl
@[simp] theorem ty177 : TyOne Tryz.prog 177 8 none none false := tyOne_pointer in177 Tryz.underlying177 rfl rfl
@[simp] theorem tz177 : TyZ Tryz.prog 177 [.raw (.pointer none)] := tyZ in177 rfl rfl rfl rfl
theorem in179 : Tryz.prog.info? 179 = some Tryz.t179 := by kernel_rfl
@[simp] theorem ty179 : TyAgg Tryz.prog 179 1 16 := tyAgg_struct in179 Tryz.underlying179 rfl rfl
@[simp] theorem tz179 : TyZ Tryz.prog 179 [.str []] := tyZ in179 rfl rfl rfl rfl
theorem in180 : Tryz.prog.info? 180 = some Tryz.t180 := by kernel_rfl
@[simp] theorem ty180 : TyAgg Tryz.prog 180 32 32 := tyAgg_array in180 Tryz.underlying180 rfl rfl
@[simp] theorem ar180 : arrT Tryz.prog 180 = some (32, 5) := arrOf Tryz.underlying180
@[simp] theorem tz180 : TyZ Tryz.prog 180 [.int .u8 0, .int .u8 0, .int .u8 0, .int .u8 0, .int .u8 0, .int .u8 0, .int .u8 0, .int .u8 0, .int .u8 0, .int .u8 0, .int .u8 0, .int .u8 0, .int .u8 0, .int .u8 0, .int .u8 0, .int .u8 0, .int .u8 0, .int .u8 0, .int .u8 0, .int .u8 0, .int .u8 0, .int .u8 0, .int .u8 0, .int .u8 0, .int .u8 0, .int .u8 0, .int .u8 0, .int .u8 0, .int .u8 0, .int .u8 0, .int .u8 0, .int .u8 0] := tyZ in180 rfl rfl rfl rfl
theorem in181 : Tryz.prog.info? 181 = some Tryz.t181 := by kernel_rfl
@[simp] theorem ty181 : TyAgg Tryz.prog 181 64 64 := tyAgg_array in181 Tryz.underlying181 rfl rfl
@[simp] theorem ar181 : arrT Tryz.prog 181 = some (64, 5) := arrOf Tryz.underlying181
@[simp] theorem tz181 : TyZ Tryz.prog 181 [.int .u8 0, .int .u8 0, .int .u8 0, .int .u8 0, .int .u8 0, .int .u8 0, .int .u8 0, .int .u8 0, .int .u8 0, .int .u8 0, .int .u8 0, .int .u8 0, .int .u8 0, .int .u8 0, .int .u8 0, .int .u8 0, .int .u8 0, .int .u8 0, .int .u8 0, .int .u8 0, .int .u8 0, .int .u8 0, .int .u8 0, .int .u8 0, .int .u8 0, .int .u8 0, .int .u8 0, .int .u8 0, .int .u8 0, .int .u8 0, .int .u8 0, .int .u8 0, .int .u8 0, .int .u8 0, .int .u8 0, .int .u8 0, .int .u8 0, .int .u8 0, .int .u8 0, .int .u8 0, .int .u8 0, .int .u8 0, .int .u8 0, .int .u8 0, .int .u8 0, .int .u8 0, .int .u8 0, .int .u8 0, .int .u8 0, .int .u8 0, .int .u8 0, .int .u8 0, .int .u8 0, .int .u8 0, .int .u8 0, .int .u8 0, .int .u8 0, .int .u8 0, .int .u8 0, .int .u8 0, .int .u8 0, .int .u8 0, .int .u8 0, .int .u8 0] := tyZ in181 rfl rfl rfl rfl
theorem in189 : Tryz.prog.info? 189 = some Tryz.t189 := by kernel_rfl
@[simp] theorem ty189 : TyOne Tryz.prog 189 1 (some .u8) none false := tyOne_int in189 Tryz.underlying189 rfl rfl
@[simp] theorem tz189 : TyZ Tryz.prog 189 [.int .u8 0] := tyZ in189 rfl rfl rfl rfl
@[simp] theorem gv1 : globV 1 = .pe 20 [powT] 0 0 := rfl
@[simp] theorem ts8 : structT Tryz.prog 8 = true := structOf Tryz.underlying8 (by simp [in2, in3, in4, in6])
@[simp] theorem fl8_0 : fldT Tryz.prog 8 0 = some (0, false, 1) := fldOf Tryz.underlying8 rfl rfl ty2.1 ty2.2.1 ty2.2.2.1
@[simp] theorem fl8_1 : fldT Tryz.prog 8 1 = some (1, false, 1) := fldOf Tryz.underlying8 rfl rfl ty3.1 ty3.2.1 ty3.2.2.1
@[simp] theorem fl8_2 : fldT Tryz.prog 8 2 = some (2, false, 1) := fldOf Tryz.underlying8 rfl rfl ty4.1 ty4.2.1 ty4.2.2.1
@[simp] theorem fl8_3 : fldT Tryz.prog 8 3 = some (3, false, 1) := fldOf Tryz.underlying8 rfl rfl ty6.1 ty6.2.1 ty6.2.2.1
@[simp] theorem ts14 : structT Tryz.prog 14 = true := structOf Tryz.underlying14 (by simp [in12, in9])
@[simp] theorem fl14_0 : fldT Tryz.prog 14 0 = some (0, false, 1) := fldOf Tryz.underlying14 rfl rfl ty9.1 ty9.2.1 ty9.2.2.1
@[simp] theorem fl14_1 : fldT Tryz.prog 14 1 = some (1, false, 1) := fldOf Tryz.underlying14 rfl rfl ty12.1 ty12.2.1 ty12.2.2.1
@[simp] theorem ts19 : structT Tryz.prog 19 = true := structOf Tryz.underlying19 (by simp [in17])
@[simp] theorem fl19_0 : fldT Tryz.prog 19 0 = some (0, false, 1) := fldOf Tryz.underlying19 rfl rfl ty17.1 ty17.2.1 ty17.2.2.1
@[simp] theorem ts27 : structT Tryz.prog 27 = true := structOf Tryz.underlying27 (by simp [in2, in24, in25])
@[simp] theorem fl27_0 : fldT Tryz.prog 27 0 = some (0, false, 1) := fldOf Tryz.underlying27 rfl rfl ty2.1 ty2.2.1 ty2.2.2.1
@[simp] theorem fl27_1 : fldT Tryz.prog 27 1 = some (1, false, 1) := fldOf Tryz.underlying27 rfl rfl ty2.1 ty2.2.1 ty2.2.2.1
@[simp] theorem fl27_2 : fldT Tryz.prog 27 2 = some (2, false, 1) := fldOf Tryz.underlying27 rfl rfl ty24.1 ty24.2.1 ty24.2.2.1
@[simp] theorem fl27_3 : fldT Tryz.prog 27 3 = some (3, false, 1) := fldOf Tryz.underlying27 rfl rfl ty25.1 ty25.2.1 ty25.2.2.1
@[simp] theorem ts37 : structT Tryz.prog 37 = true := structOf Tryz.underlying37 (by simp [in2])
@[simp] theorem fl37_0 : fldT Tryz.prog 37 0 = some (0, false, 1) := fldOf Tryz.underlying37 rfl rfl ty2.1 ty2.2.1 ty2.2.2.1
@[simp] theorem fl37_1 : fldT Tryz.prog 37 1 = some (1, false, 1) := fldOf Tryz.underlying37 rfl rfl ty2.1 ty2.2.1 ty2.2.2.1
@[simp] theorem ts81 : structT Tryz.prog 81 = true := structOf Tryz.underlying81 (by simp [in22, in3, in79])
@[simp] theorem fl81_0 : fldT Tryz.prog 81 0 = some (0, false, 1) := fldOf Tryz.underlying81 rfl rfl ty22.1 ty22.2.1 ty22.2.2.1
@[simp] theorem fl81_1 : fldT Tryz.prog 81 1 = some (1, false, 1) := fldOf Tryz.underlying81 rfl rfl ty3.1 ty3.2.1 ty3.2.2.1
@[simp] theorem fl81_2 : fldT Tryz.prog 81 2 = some (2, false, 1) := fldOf Tryz.underlying81 rfl rfl ty79.1 ty79.2.1 ty79.2.2.1
@[simp] theorem ts95 : structT Tryz.prog 95 = true := structOf Tryz.underlying95 (by simp [in22, in93])
@[simp] theorem fl95_0 : fldT Tryz.prog 95 0 = some (0, false, 1) := fldOf Tryz.underlying95 rfl rfl ty93.1 ty93.2.1 ty93.2.2.1
@[simp] theorem fl95_1 : fldT Tryz.prog 95 1 = some (1, false, 1) := fldOf Tryz.underlying95 rfl rfl ty22.1 ty22.2.1 ty22.2.2.1
@[simp] theorem ts169 : structT Tryz.prog 169 = true := structOf Tryz.underlying169 (by simp [in9, in98])
@[simp] theorem fl169_0 : fldT Tryz.prog 169 0 = some (0, false, 1) := fldOf Tryz.underlying169 rfl rfl ty9.1 ty9.2.1 ty9.2.2.1
@[simp] theorem fl169_1 : fldT Tryz.prog 169 1 = some (1, false, 1) := fldOf Tryz.underlying169 rfl rfl ty9.1 ty9.2.1 ty9.2.2.1
@[simp] theorem ts175 : structT Tryz.prog 175 = true := structOf Tryz.underlying175 (by simp [in5])
@[simp] theorem fl175_0 : fldT Tryz.prog 175 0 = some (0, false, 1) := fldOf Tryz.underlying175 rfl rfl ty5.1 ty5.2.1 ty5.2.2.1
@[simp] theorem fl175_1 : fldT Tryz.prog 175 1 = some (1, false, 1) := fldOf Tryz.underlying175 rfl rfl ty5.1 ty5.2.1 ty5.2.2.1
@[simp] theorem ts179 : structT Tryz.prog 179 = true := structOf Tryz.underlying179 (by simp [in9])
@[simp] theorem fl179_0 : fldT Tryz.prog 179 0 = some (0, false, 1) := fldOf Tryz.underlying179 rfl rfl ty9.1 ty9.2.1 ty9.2.2.1
@[simp] theorem eq37 : EqT Tryz.prog 37 [1, 1] := eqT_struct Tryz.underlying37 Tryz.stoodInHeld37 Tryz.eqGuardType37 (by simp [fieldsOk])
@[simp] theorem res_3 : Tryz.f3.results.toList = [.tmp 4] := rfl
@[simp] theorem res_4 : Tryz.f4.results.toList = [.tmp 2] := rfl
@[simp] theorem res_5 : Tryz.f5.results.toList = [.cell 2 27, .tmp 3] := rfl
@[simp] theorem res_6 : Tryz.f6.results.toList = [.cell 4 27, .tmp 5] := rfl
@[simp] theorem res_7 : Tryz.f7.results.toList = [.tmp 2] := rfl
@[simp] theorem res_8 : Tryz.f8.results.toList = [.cell 2 27, .tmp 3] := rfl
@[simp] theorem res_9 : Tryz.f9.results.toList = [.tmp 2] := rfl
@[simp] theorem res_10 : Tryz.f10.results.toList = [.tmp 4] := rfl
@[simp] theorem res_11 : Tryz.f11.results.toList = [.cell 2 27, .cell 3 37] := rfl
@[simp] theorem res_12 : Tryz.f12.results.toList = [.cell 4 27, .tmp 5] := rfl
@[simp] theorem res_13 : Tryz.f13.results.toList = [.cell 4 27, .tmp 5] := rfl
@[simp] theorem res_14 : Tryz.f14.results.toList = [.tmp 4, .tmp 5] := rfl
@[simp] theorem res_15 : Tryz.f15.results.toList = [.tmp 2, .tmp 3, .tmp 4] := rfl
@[simp] theorem res_16 : Tryz.f16.results.toList = [.tmp 2] := rfl
@[simp] theorem res_17 : Tryz.f17.results.toList = [.cell 2 27] := rfl
@[simp] theorem res_18 : Tryz.f18.results.toList = [.tmp 4] := rfl
@[simp] theorem res_19 : Tryz.f19.results.toList = [.tmp 4] := rfl
@[simp] theorem res_20 : Tryz.f20.results.toList = [.tmp 4] := rfl
@[simp] theorem res_21 : Tryz.f21.results.toList = [.tmp 2] := rfl
@[simp] theorem res_22 : Tryz.f22.results.toList = [.cell 2 27] := rfl
@[simp] theorem res_23 : Tryz.f23.results.toList = [] := rfl
@[simp] theorem res_24 : Tryz.f24.results.toList = [.tmp 4] := rfl
@[simp] theorem res_25 : Tryz.f25.results.toList = [.tmp 2] := rfl
@[simp] theorem res_26 : Tryz.f26.results.toList = [.tmp 2] := rfl
@[simp] theorem res_27 : Tryz.f27.results.toList = [.tmp 4] := rfl
@[simp] theorem res_28 : Tryz.f28.results.toList = [.tmp 4] := rfl
@[simp] theorem res_29 : Tryz.f29.results.toList = [.tmp 2, .tmp 3] := rfl
@[simp] theorem res_30 : Tryz.f30.results.toList = [.tmp 2, .tmp 3] := rfl
@[simp] theorem res_31 : Tryz.f31.results.toList = [.tmp 4, .tmp 5, .tmp 6] := rfl
@[simp] theorem res_32 : Tryz.f32.results.toList = [.tmp 2] := rfl
@[simp] theorem res_33 : Tryz.f33.results.toList = [.tmp 4] := rfl
@[simp] theorem res_34 : Tryz.f34.results.toList = [.tmp 4] := rfl
@[simp] theorem res_35 : Tryz.f35.results.toList = [.cell 2 27, .cell 3 37] := rfl
@[simp] theorem res_36 : Tryz.f36.results.toList = [.tmp 6, .tmp 7] := rfl
@[simp] theorem res_37 : Tryz.f37.results.toList = [.tmp 4] := rfl
@[simp] theorem res_38 : Tryz.f38.results.toList = [.tmp 6] := rfl
@[simp] theorem res_39 : Tryz.f39.results.toList = [.tmp 4] := rfl
@[simp] theorem res_40 : Tryz.f40.results.toList = [.tmp 6] := rfl
@[simp] theorem res_41 : Tryz.f41.results.toList = [.tmp 6] := rfl
@[simp] theorem res_42 : Tryz.f42.results.toList = [.tmp 2] := rfl
@[simp] theorem res_43 : Tryz.f43.results.toList = [.tmp 4] := rfl
@[simp] theorem res_44 : Tryz.f44.results.toList = [.cell 2 27] := rfl
@[simp] theorem res_45 : Tryz.f45.results.toList = [.tmp 2] := rfl
@[simp] theorem res_46 : Tryz.f46.results.toList = [.tmp 2] := rfl
@[simp] theorem res_47 : Tryz.f47.results.toList = [.tmp 2] := rfl
@[simp] theorem res_48 : Tryz.f48.results.toList = [.tmp 2] := rfl
@[simp] theorem res_49 : Tryz.f49.results.toList = [.tmp 2] := rfl
@[simp] theorem res_50 : Tryz.f50.results.toList = [] := rfl
@[simp] theorem res_51 : Tryz.f51.results.toList = [.tmp 2] := rfl
@[simp] theorem res_52 : Tryz.f52.results.toList = [.tmp 2] := rfl
@[simp] theorem res_53 : Tryz.f53.results.toList = [.tmp 4] := rfl
@[simp] theorem res_54 : Tryz.f54.results.toList = [.tmp 4] := rfl
@[simp] theorem res_55 : Tryz.f55.results.toList = [.tmp 4] := rfl
@[simp] theorem res_56 : Tryz.f56.results.toList = [.tmp 2] := rfl
@[simp] theorem res_57 : Tryz.f57.results.toList = [.tmp 2] := rfl
@[simp] theorem res_58 : Tryz.f58.results.toList = [] := rfl
@[simp] theorem res_59 : Tryz.f59.results.toList = [.tmp 4, .tmp 5] := rfl
@[simp] theorem res_60 : Tryz.f60.results.toList = [.tmp 2] := rfl
@[simp] theorem res_61 : Tryz.f61.results.toList = [.tmp 8] := rfl
@[simp] theorem res_62 : Tryz.f62.results.toList = [.tmp 4] := rfl
@[simp] theorem res_63 : Tryz.f63.results.toList = [.tmp 6, .tmp 7] := rfl
@[simp] theorem res_64 : Tryz.f64.results.toList = [.tmp 4, .tmp 5, .tmp 6] := rfl
@[simp] theorem res_65 : Tryz.f65.results.toList = [.tmp 6] := rfl
@[simp] theorem res_66 : Tryz.f66.results.toList = [.tmp 4] := rfl
@[simp] theorem res_67 : Tryz.f67.results.toList = [.tmp 4] := rfl
@[simp] theorem res_69 : Tryz.f69.results.toList = [] := rfl
@[simp] theorem res_70 : Tryz.f70.results.toList = [.cell 4 27, .tmp 5] := rfl
@[simp] theorem res_71 : Tryz.f71.results.toList = [.tmp 4] := rfl
@[simp] theorem res_72 : Tryz.f72.results.toList = [] := rfl
@[simp] theorem res_73 : Tryz.f73.results.toList = [] := rfl
@[simp] theorem res_74 : Tryz.f74.results.toList = [] := rfl
@[simp] theorem res_75 : Tryz.f75.results.toList = [.tmp 8, .tmp 9] := rfl
@[simp] theorem res_76 : Tryz.f76.results.toList = [] := rfl
@[simp] theorem res_77 : Tryz.f77.results.toList = [.tmp 8] := rfl
@[simp] theorem res_78 : Tryz.f78.results.toList = [.tmp 10] := rfl
@[simp] theorem res_79 : Tryz.f79.results.toList = [.tmp 10, .tmp 11] := rfl
@[simp] theorem res_80 : Tryz.f80.results.toList = [.tmp 2] := rfl
@[simp] theorem res_81 : Tryz.f81.results.toList = [.tmp 2] := rfl
@[simp] theorem res_82 : Tryz.f82.results.toList = [.tmp 2] := rfl
@[simp] theorem res_83 : Tryz.f83.results.toList = [.tmp 4] := rfl
@[simp] theorem res_84 : Tryz.f84.results.toList = [.tmp 4] := rfl
@[simp] theorem res_85 : Tryz.f85.results.toList = [] := rfl
@[simp] theorem res_86 : Tryz.f86.results.toList = [] := rfl
@[simp] theorem res_87 : Tryz.f87.results.toList = [.tmp 4] := rfl
@[simp] theorem res_88 : Tryz.f88.results.toList = [.tmp 4] := rfl
@[simp] theorem res_89 : Tryz.f89.results.toList = [.tmp 4] := rfl
@[simp] theorem res_90 : Tryz.f90.results.toList = [.tmp 4] := rfl
@[simp] theorem res_91 : Tryz.f91.results.toList = [.tmp 6, .tmp 7] := rfl
@[simp] theorem res_92 : Tryz.f92.results.toList = [.tmp 10] := rfl
@[simp] theorem res_93 : Tryz.f93.results.toList = [.tmp 4] := rfl
@[simp] theorem res_94 : Tryz.f94.results.toList = [.tmp 4] := rfl
@[simp] theorem res_95 : Tryz.f95.results.toList = [] := rfl
@[simp] theorem res_96 : Tryz.f96.results.toList = [.tmp 4] := rfl
@[simp] theorem res_97 : Tryz.f97.results.toList = [.cell 2 27] := rfl
@[simp] theorem res_98 : Tryz.f98.results.toList = [.tmp 4] := rfl
@[simp] theorem res_99 : Tryz.f99.results.toList = [] := rfl
@[simp] theorem res_100 : Tryz.f100.results.toList = [.tmp 2] := rfl
@[simp] theorem res_101 : Tryz.f101.results.toList = [.tmp 2] := rfl
@[simp] theorem res_102 : Tryz.f102.results.toList = [.tmp 8] := rfl
@[simp] theorem res_103 : Tryz.f103.results.toList = [.tmp 12] := rfl
@[simp] theorem res_104 : Tryz.f104.results.toList = [.tmp 2] := rfl
@[simp] theorem res_105 : Tryz.f105.results.toList = [.tmp 2] := rfl
@[simp] theorem res_106 : Tryz.f106.results.toList = [] := rfl
@[simp] theorem res_107 : Tryz.f107.results.toList = [.tmp 10, .tmp 11] := rfl
@[simp] theorem res_110 : Tryz.f110.results.toList = [.tmp 2] := rfl
@[simp] theorem res_111 : Tryz.f111.results.toList = [.tmp 2, .tmp 3] := rfl
@[simp] theorem res_113 : Tryz.f113.results.toList = [.tmp 4] := rfl
@[simp] theorem res_114 : Tryz.f114.results.toList = [.tmp 6, .tmp 7] := rfl
@[simp] theorem res_115 : Tryz.f115.results.toList = [.tmp 4] := rfl
@[simp] theorem res_116 : Tryz.f116.results.toList = [.tmp 4] := rfl
@[simp] theorem res_117 : Tryz.f117.results.toList = [.tmp 6] := rfl
@[simp] theorem res_118 : Tryz.f118.results.toList = [.tmp 6] := rfl
@[simp] theorem res_119 : Tryz.f119.results.toList = [.tmp 4] := rfl
@[simp] theorem res_121 : Tryz.f121.results.toList = [.tmp 2] := rfl
@[simp] theorem res_122 : Tryz.f122.results.toList = [.tmp 4] := rfl
@[simp] theorem res_123 : Tryz.f123.results.toList = [] := rfl
@[simp] theorem res_124 : Tryz.f124.results.toList = [.tmp 2] := rfl
@[simp] theorem res_125 : Tryz.f125.results.toList = [.tmp 10, .tmp 11] := rfl
@[simp] theorem res_126 : Tryz.f126.results.toList = [.tmp 2] := rfl
@[simp] theorem res_127 : Tryz.f127.results.toList = [.tmp 2] := rfl
@[simp] theorem res_128 : Tryz.f128.results.toList = [.tmp 2] := rfl
@[simp] theorem res_129 : Tryz.f129.results.toList = [.tmp 2] := rfl
@[simp] theorem res_130 : Tryz.f130.results.toList = [.tmp 2, .tmp 3] := rfl
@[simp] theorem res_131 : Tryz.f131.results.toList = [.tmp 2] := rfl
@[simp] theorem res_132 : Tryz.f132.results.toList = [.tmp 2] := rfl
@[simp] theorem res_133 : Tryz.f133.results.toList = [.tmp 2] := rfl
@[simp] theorem res_134 : Tryz.f134.results.toList = [.tmp 2] := rfl
@[simp] theorem res_135 : Tryz.f135.results.toList = [.tmp 2] := rfl
@[simp] theorem res_137 : Tryz.f137.results.toList = [.tmp 2, .tmp 3] := rfl
@[simp] theorem res_138 : Tryz.f138.results.toList = [.tmp 2] := rfl
@[simp] theorem res_139 : Tryz.f139.results.toList = [.tmp 2] := rfl
@[simp] theorem res_140 : Tryz.f140.results.toList = [.tmp 2] := rfl
theorem hm : Tryz.prog.follows .mixedOrders = true := by kernel_rfl
end Go.Proofs.YtoeklljhjhidbaaGreatDoor
