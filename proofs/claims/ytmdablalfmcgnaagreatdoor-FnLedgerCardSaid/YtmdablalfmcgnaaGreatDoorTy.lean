/- Closed facts on the types of the program. Made by a program (gen_types.py). No condition. -/
import Derived.Test.YtmdablalfmcgnaaGreatDoorAcd
import Derived.Test.YtmdablalfmcgnaaGreatDoorAbz
import Derived.Test.YtmdablalfmcgnaaGreatDoorProg
namespace Go.Proofs.YtmdablalfmcgnaaGreatDoor
open Go Go.Ab

theorem in2 : Tryz.prog.info? 2 = some Tryz.t2 := by kernel_rfl
@[simp] theorem ty2 : TyOne Tryz.prog 2 8 (some .i64) none false := tyOne_int in2 Tryz.underlying2 rfl rfl
@[simp] theorem tz2 : TyZ Tryz.prog 2 [.int .i64 0] := tyZ in2 rfl rfl rfl rfl
theorem in3 : Tryz.prog.info? 3 = some Tryz.t3 := by kernel_rfl
@[simp] theorem ty3 : TyOne Tryz.prog 3 8 (some .i64) none false := tyOne_int in3 Tryz.underlying3 rfl rfl
@[simp] theorem tz3 : TyZ Tryz.prog 3 [.int .i64 0] := tyZ in3 rfl rfl rfl rfl
theorem in4 : Tryz.prog.info? 4 = some Tryz.t4 := by kernel_rfl
@[simp] theorem ty4 : TyOne Tryz.prog 4 1 none none false := tyOne_bool in4 Tryz.underlying4 rfl rfl
@[simp] theorem ub4 : Tryz.prog.underlying 4 = some .bool := Tryz.underlying4
@[simp] theorem tz4 : TyZ Tryz.prog 4 [.bool false] := tyZ in4 rfl rfl rfl rfl
theorem in5 : Tryz.prog.info? 5 = some Tryz.t5 := by kernel_rfl
@[simp] theorem ty5 : TyOne Tryz.prog 5 1 (some .u8) none false := tyOne_int in5 Tryz.underlying5 rfl rfl
@[simp] theorem tz5 : TyZ Tryz.prog 5 [.int .u8 0] := tyZ in5 rfl rfl rfl rfl
theorem in6 : Tryz.prog.info? 6 = some Tryz.t6 := by kernel_rfl
@[simp] theorem ty6 : TyOne Tryz.prog 6 1 (some .u8) none false := tyOne_int in6 Tryz.underlying6 rfl rfl
@[simp] theorem tz6 : TyZ Tryz.prog 6 [.int .u8 0] := tyZ in6 rfl rfl rfl rfl
theorem in8 : Tryz.prog.info? 8 = some Tryz.t8 := by kernel_rfl
@[simp] theorem ty8 : TyAgg Tryz.prog 8 4 24 := tyAgg_struct in8 Tryz.underlying8 rfl rfl
@[simp] theorem tz8 : TyZ Tryz.prog 8 [.int .i64 0, .int .i64 0, .bool false, .int .u8 0] := tyZ in8 rfl rfl rfl rfl
theorem in9 : Tryz.prog.info? 9 = some Tryz.t9 := by kernel_rfl
@[simp] theorem ty9 : TyOne Tryz.prog 9 16 none none true := tyOne_str in9 Tryz.underlying9 rfl rfl
@[simp] theorem tz9 : TyZ Tryz.prog 9 [.str []] := tyZ in9 rfl rfl rfl rfl
theorem in10 : Tryz.prog.info? 10 = some Tryz.t10 := by kernel_rfl
@[simp] theorem ty10 : TyOne Tryz.prog 10 16 none none true := tyOne_str in10 Tryz.underlying10 rfl rfl
@[simp] theorem tz10 : TyZ Tryz.prog 10 [.str []] := tyZ in10 rfl rfl rfl rfl
theorem in11 : Tryz.prog.info? 11 = some Tryz.t11 := by kernel_rfl
@[simp] theorem ty11 : TyOne Tryz.prog 11 16 none none true := tyOne_str in11 Tryz.underlying11 rfl rfl
@[simp] theorem tz11 : TyZ Tryz.prog 11 [.str []] := tyZ in11 rfl rfl rfl rfl
theorem in12 : Tryz.prog.info? 12 = some Tryz.t12 := by kernel_rfl
@[simp] theorem ty12 : TyOne Tryz.prog 12 8 (some .u64) none false := tyOne_int in12 Tryz.underlying12 rfl rfl
@[simp] theorem tz12 : TyZ Tryz.prog 12 [.int .u64 0] := tyZ in12 rfl rfl rfl rfl
theorem in14 : Tryz.prog.info? 14 = some Tryz.t14 := by kernel_rfl
@[simp] theorem ty14 : TyAgg Tryz.prog 14 2 24 := tyAgg_struct in14 Tryz.underlying14 rfl rfl
@[simp] theorem tz14 : TyZ Tryz.prog 14 [.str [], .int .u64 0] := tyZ in14 rfl rfl rfl rfl
theorem in15 : Tryz.prog.info? 15 = some Tryz.t15 := by kernel_rfl
@[simp] theorem ty15 : TyOne Tryz.prog 15 8 none none false := tyOne_pointer in15 Tryz.underlying15 rfl rfl
@[simp] theorem tz15 : TyZ Tryz.prog 15 [.raw (.pointer none)] := tyZ in15 rfl rfl rfl rfl
theorem in16 : Tryz.prog.info? 16 = some Tryz.t16 := by kernel_rfl
@[simp] theorem ty16 : TyOne Tryz.prog 16 8 none none false := tyOne_pointer in16 Tryz.underlying16 rfl rfl
@[simp] theorem tz16 : TyZ Tryz.prog 16 [.raw (.pointer none)] := tyZ in16 rfl rfl rfl rfl
theorem in17 : Tryz.prog.info? 17 = some Tryz.t17 := by kernel_rfl
@[simp] theorem ty17 : TyOne Tryz.prog 17 8 none none false := tyOne_pointer in17 Tryz.underlying17 rfl rfl
@[simp] theorem tz17 : TyZ Tryz.prog 17 [.raw (.pointer none)] := tyZ in17 rfl rfl rfl rfl
theorem in19 : Tryz.prog.info? 19 = some Tryz.t19 := by kernel_rfl
@[simp] theorem ty19 : TyAgg Tryz.prog 19 1 8 := tyAgg_struct in19 Tryz.underlying19 rfl rfl
@[simp] theorem tz19 : TyZ Tryz.prog 19 [.raw (.pointer none)] := tyZ in19 rfl rfl rfl rfl
theorem in21 : Tryz.prog.info? 21 = some Tryz.t21 := by kernel_rfl
@[simp] theorem ty21 : TyOne Tryz.prog 21 4 (some .i32) none false := tyOne_int in21 Tryz.underlying21 rfl rfl
@[simp] theorem tz21 : TyZ Tryz.prog 21 [.int .i32 0] := tyZ in21 rfl rfl rfl rfl
theorem in22 : Tryz.prog.info? 22 = some Tryz.t22 := by kernel_rfl
@[simp] theorem ty22 : TyOne Tryz.prog 22 24 none (some 5) false := tyOne_slice in22 Tryz.underlying22 rfl rfl
@[simp] theorem tz22 : TyZ Tryz.prog 22 [.nils] := tyZ in22 rfl rfl rfl rfl
theorem in24 : Tryz.prog.info? 24 = some Tryz.t24 := by kernel_rfl
@[simp] theorem ty24 : TyOne Tryz.prog 24 24 none (some 26) false := tyOne_slice in24 Tryz.underlying24 rfl rfl
@[simp] theorem tz24 : TyZ Tryz.prog 24 [.nils] := tyZ in24 rfl rfl rfl rfl
theorem in26 : Tryz.prog.info? 26 = some Tryz.t26 := by kernel_rfl
@[simp] theorem ty26 : TyAgg Tryz.prog 26 3 40 := tyAgg_struct in26 Tryz.underlying26 rfl rfl
@[simp] theorem tz26 : TyZ Tryz.prog 26 [.int .i64 0, .str [], .str []] := tyZ in26 rfl rfl rfl rfl
theorem in31 : Tryz.prog.info? 31 = some Tryz.t31 := by kernel_rfl
@[simp] theorem ty31 : TyOne Tryz.prog 31 24 none (some 95) false := tyOne_slice in31 Tryz.underlying31 rfl rfl
@[simp] theorem tz31 : TyZ Tryz.prog 31 [.nils] := tyZ in31 rfl rfl rfl rfl
theorem in47 : Tryz.prog.info? 47 = some Tryz.t47 := by kernel_rfl
@[simp] theorem ty47 : TyOne Tryz.prog 47 24 none (some 2) false := tyOne_slice in47 Tryz.underlying47 rfl rfl
@[simp] theorem tz47 : TyZ Tryz.prog 47 [.nils] := tyZ in47 rfl rfl rfl rfl
theorem in48 : Tryz.prog.info? 48 = some Tryz.t48 := by kernel_rfl
@[simp] theorem ty48 : TyOne Tryz.prog 48 24 none (some 60) false := tyOne_slice in48 Tryz.underlying48 rfl rfl
@[simp] theorem tz48 : TyZ Tryz.prog 48 [.nils] := tyZ in48 rfl rfl rfl rfl
theorem in50 : Tryz.prog.info? 50 = some Tryz.t50 := by kernel_rfl
@[simp] theorem ty50 : TyAgg Tryz.prog 50 4 64 := tyAgg_struct in50 Tryz.underlying50 rfl rfl
@[simp] theorem tz50 : TyZ Tryz.prog 50 [.int .i64 0, .int .i64 0, .nils, .nils] := tyZ in50 rfl rfl rfl rfl
theorem in60 : Tryz.prog.info? 60 = some Tryz.t60 := by kernel_rfl
@[simp] theorem ty60 : TyAgg Tryz.prog 60 2 16 := tyAgg_struct in60 Tryz.underlying60 rfl rfl
@[simp] theorem tz60 : TyZ Tryz.prog 60 [.int .i64 0, .int .i64 0] := tyZ in60 rfl rfl rfl rfl
theorem in68 : Tryz.prog.info? 68 = some Tryz.t68 := by kernel_rfl
@[simp] theorem ty68 : TyOne Tryz.prog 68 8 none none false := tyOne_pointer in68 Tryz.underlying68 rfl rfl
@[simp] theorem tz68 : TyZ Tryz.prog 68 [.raw (.pointer none)] := tyZ in68 rfl rfl rfl rfl
theorem in79 : Tryz.prog.info? 79 = some Tryz.t79 := by kernel_rfl
@[simp] theorem ty79 : TyOne Tryz.prog 79 8 none none false := tyOne_pointer in79 Tryz.underlying79 rfl rfl
@[simp] theorem tz79 : TyZ Tryz.prog 79 [.raw (.pointer none)] := tyZ in79 rfl rfl rfl rfl
theorem in81 : Tryz.prog.info? 81 = some Tryz.t81 := by kernel_rfl
@[simp] theorem ty81 : TyAgg Tryz.prog 81 2 32 := tyAgg_struct in81 Tryz.underlying81 rfl rfl
@[simp] theorem tz81 : TyZ Tryz.prog 81 [.raw (.pointer none), .nils] := tyZ in81 rfl rfl rfl rfl
theorem in85 : Tryz.prog.info? 85 = some Tryz.t85 := by kernel_rfl
theorem in90 : Tryz.prog.info? 90 = some Tryz.t90 := by kernel_rfl
@[simp] theorem ty90 : TyOne Tryz.prog 90 24 none (some 9) false := tyOne_slice in90 Tryz.underlying90 rfl rfl
@[simp] theorem tz90 : TyZ Tryz.prog 90 [.nils] := tyZ in90 rfl rfl rfl rfl
theorem in95 : Tryz.prog.info? 95 = some Tryz.t95 := by kernel_rfl
@[simp] theorem ty95 : TyAgg Tryz.prog 95 2 32 := tyAgg_struct in95 Tryz.underlying95 rfl rfl
@[simp] theorem tz95 : TyZ Tryz.prog 95 [.str [], .str []] := tyZ in95 rfl rfl rfl rfl
theorem in107 : Tryz.prog.info? 107 = some Tryz.t107 := by kernel_rfl
@[simp] theorem ty107 : TyOne Tryz.prog 107 8 none none false := tyOne_func in107 Tryz.underlying107 rfl rfl
@[simp] theorem tz107 : TyZ Tryz.prog 107 [.raw .nilFunc] := tyZ in107 rfl rfl rfl rfl
theorem in111 : Tryz.prog.info? 111 = some Tryz.t111 := by kernel_rfl
@[simp] theorem ty111 : TyOne Tryz.prog 111 8 none none false := tyOne_func in111 Tryz.underlying111 rfl rfl
@[simp] theorem tz111 : TyZ Tryz.prog 111 [.raw .nilFunc] := tyZ in111 rfl rfl rfl rfl
theorem in122 : Tryz.prog.info? 122 = some Tryz.t122 := by kernel_rfl
@[simp] theorem ty122 : TyOne Tryz.prog 122 8 none none false := tyOne_pointer in122 Tryz.underlying122 rfl rfl
@[simp] theorem tz122 : TyZ Tryz.prog 122 [.raw (.pointer none)] := tyZ in122 rfl rfl rfl rfl
theorem in132 : Tryz.prog.info? 132 = some Tryz.t132 := by kernel_rfl
@[simp] theorem ty132 : TyOne Tryz.prog 132 8 (some .u64) none false := tyOne_int in132 Tryz.underlying132 rfl rfl
@[simp] theorem tz132 : TyZ Tryz.prog 132 [.int .u64 0] := tyZ in132 rfl rfl rfl rfl
theorem in134 : Tryz.prog.info? 134 = some Tryz.t134 := by kernel_rfl
@[simp] theorem ty134 : TyAgg Tryz.prog 134 3 40 := tyAgg_struct in134 Tryz.underlying134 rfl rfl
@[simp] theorem tz134 : TyZ Tryz.prog 134 [.nils, .int .i64 0, .int .u64 0] := tyZ in134 rfl rfl rfl rfl
theorem in139 : Tryz.prog.info? 139 = some Tryz.t139 := by kernel_rfl
@[simp] theorem ty139 : TyOne Tryz.prog 139 8 (some .u64) none false := tyOne_int in139 Tryz.underlying139 rfl rfl
@[simp] theorem tz139 : TyZ Tryz.prog 139 [.int .u64 0] := tyZ in139 rfl rfl rfl rfl
theorem in141 : Tryz.prog.info? 141 = some Tryz.t141 := by kernel_rfl
@[simp] theorem ty141 : TyOne Tryz.prog 141 8 none none false := tyOne_pointer in141 Tryz.underlying141 rfl rfl
@[simp] theorem tz141 : TyZ Tryz.prog 141 [.raw (.pointer none)] := tyZ in141 rfl rfl rfl rfl
theorem in145 : Tryz.prog.info? 145 = some Tryz.t145 := by kernel_rfl
@[simp] theorem ty145 : TyOne Tryz.prog 145 8 none none false := tyOne_pointer in145 Tryz.underlying145 rfl rfl
@[simp] theorem tz145 : TyZ Tryz.prog 145 [.raw (.pointer none)] := tyZ in145 rfl rfl rfl rfl
theorem in149 : Tryz.prog.info? 149 = some Tryz.t149 := by kernel_rfl
@[simp] theorem ty149 : TyOne Tryz.prog 149 24 none (some 31) false := tyOne_slice in149 Tryz.underlying149 rfl rfl
@[simp] theorem tz149 : TyZ Tryz.prog 149 [.nils] := tyZ in149 rfl rfl rfl rfl
theorem in155 : Tryz.prog.info? 155 = some Tryz.t155 := by kernel_rfl
@[simp] theorem ty155 : TyOne Tryz.prog 155 8 none none false := tyOne_func in155 Tryz.underlying155 rfl rfl
@[simp] theorem tz155 : TyZ Tryz.prog 155 [.raw .nilFunc] := tyZ in155 rfl rfl rfl rfl
theorem in170 : Tryz.prog.info? 170 = some Tryz.t170 := by kernel_rfl
@[simp] theorem ty170 : TyOne Tryz.prog 170 8 none none false := tyOne_pointer in170 Tryz.underlying170 rfl rfl
@[simp] theorem tz170 : TyZ Tryz.prog 170 [.raw (.pointer none)] := tyZ in170 rfl rfl rfl rfl
theorem in174 : Tryz.prog.info? 174 = some Tryz.t174 := by kernel_rfl
@[simp] theorem ty174 : TyOne Tryz.prog 174 8 none none false := tyOne_func in174 Tryz.underlying174 rfl rfl
@[simp] theorem tz174 : TyZ Tryz.prog 174 [.raw .nilFunc] := tyZ in174 rfl rfl rfl rfl
theorem in176 : Tryz.prog.info? 176 = some Tryz.t176 := by kernel_rfl
theorem in179 : Tryz.prog.info? 179 = some Tryz.t179 := by kernel_rfl
@[simp] theorem ty179 : TyOne Tryz.prog 179 8 (some .i64) none false := tyOne_int in179 Tryz.underlying179 rfl rfl
@[simp] theorem tz179 : TyZ Tryz.prog 179 [.int .i64 0] := tyZ in179 rfl rfl rfl rfl
theorem in187 : Tryz.prog.info? 187 = some Tryz.t187 := by kernel_rfl
@[simp] theorem ty187 : TyOne Tryz.prog 187 4 (some .u32) none false := tyOne_int in187 Tryz.underlying187 rfl rfl
@[simp] theorem tz187 : TyZ Tryz.prog 187 [.int .u32 0] := tyZ in187 rfl rfl rfl rfl
theorem in195 : Tryz.prog.info? 195 = some Tryz.t195 := by kernel_rfl
@[simp] theorem ty195 : TyOne Tryz.prog 195 24 none (some 3) false := tyOne_slice in195 Tryz.underlying195 rfl rfl
@[simp] theorem tz195 : TyZ Tryz.prog 195 [.nils] := tyZ in195 rfl rfl rfl rfl
theorem in202 : Tryz.prog.info? 202 = some Tryz.t202 := by kernel_rfl
@[simp] theorem ty202 : TyAgg Tryz.prog 202 24 24 := tyAgg_array in202 Tryz.underlying202 rfl rfl
@[simp] theorem ar202 : arrT Tryz.prog 202 = some (24, 5) := arrOf Tryz.underlying202
@[simp] theorem tz202 : TyZ Tryz.prog 202 [.int .u8 0, .int .u8 0, .int .u8 0, .int .u8 0, .int .u8 0, .int .u8 0, .int .u8 0, .int .u8 0, .int .u8 0, .int .u8 0, .int .u8 0, .int .u8 0, .int .u8 0, .int .u8 0, .int .u8 0, .int .u8 0, .int .u8 0, .int .u8 0, .int .u8 0, .int .u8 0, .int .u8 0, .int .u8 0, .int .u8 0, .int .u8 0] := tyZ in202 rfl rfl rfl rfl
theorem in206 : Tryz.prog.info? 206 = some Tryz.t206 := by kernel_rfl
@[simp] theorem ty206 : TyOne Tryz.prog 206 8 (some .u64) none false := tyOne_int in206 Tryz.underlying206 rfl rfl
@[simp] theorem tz206 : TyZ Tryz.prog 206 [.int .u64 0] := tyZ in206 rfl rfl rfl rfl
theorem in210 : Tryz.prog.info? 210 = some Tryz.t210 := by kernel_rfl
@[simp] theorem ty210 : TyOne Tryz.prog 210 8 none none false := tyOne_pointer in210 Tryz.underlying210 rfl rfl
@[simp] theorem tz210 : TyZ Tryz.prog 210 [.raw (.pointer none)] := tyZ in210 rfl rfl rfl rfl
theorem in222 : Tryz.prog.info? 222 = some Tryz.t222 := by kernel_rfl
@[simp] theorem ty222 : TyOne Tryz.prog 222 8 (some .i64) none false := tyOne_int in222 Tryz.underlying222 rfl rfl
@[simp] theorem tz222 : TyZ Tryz.prog 222 [.int .i64 0] := tyZ in222 rfl rfl rfl rfl
theorem in225 : Tryz.prog.info? 225 = some Tryz.t225 := by kernel_rfl
@[simp] theorem ty225 : TyOne Tryz.prog 225 8 none none false := tyOne_pointer in225 Tryz.underlying225 rfl rfl
@[simp] theorem tz225 : TyZ Tryz.prog 225 [.raw (.pointer none)] := tyZ in225 rfl rfl rfl rfl
theorem in232 : Tryz.prog.info? 232 = some Tryz.t232 := by kernel_rfl
@[simp] theorem ty232 : TyAgg Tryz.prog 232 20 160 := tyAgg_array in232 Tryz.underlying232 rfl rfl
@[simp] theorem ar232 : arrT Tryz.prog 232 = some (20, 132) := arrOf Tryz.underlying232
@[simp] theorem tz232 : TyZ Tryz.prog 232 [.int .u64 0, .int .u64 0, .int .u64 0, .int .u64 0, .int .u64 0, .int .u64 0, .int .u64 0, .int .u64 0, .int .u64 0, .int .u64 0, .int .u64 0, .int .u64 0, .int .u64 0, .int .u64 0, .int .u64 0, .int .u64 0, .int .u64 0, .int .u64 0, .int .u64 0, .int .u64 0] := tyZ in232 rfl rfl rfl rfl
theorem in233 : Tryz.prog.info? 233 = some Tryz.t233 := by kernel_rfl
@[simp] theorem ty233 : TyAgg Tryz.prog 233 65 65 := tyAgg_array in233 Tryz.underlying233 rfl rfl
@[simp] theorem ar233 : arrT Tryz.prog 233 = some (65, 5) := arrOf Tryz.underlying233
theorem in235 : Tryz.prog.info? 235 = some Tryz.t235 := by kernel_rfl
@[simp] theorem ty235 : TyOne Tryz.prog 235 8 none none false := tyOne_pointer in235 Tryz.underlying235 rfl rfl
@[simp] theorem tz235 : TyZ Tryz.prog 235 [.raw (.pointer none)] := tyZ in235 rfl rfl rfl rfl
theorem in242 : Tryz.prog.info? 242 = some Tryz.t242 := by kernel_rfl
@[simp] theorem ty242 : TyAgg Tryz.prog 242 3 48 := tyAgg_struct in242 Tryz.underlying242 rfl rfl
@[simp] theorem tz242 : TyZ Tryz.prog 242 [.str [], .str [], .raw .nilIface] := tyZ in242 rfl rfl rfl rfl
theorem in246 : Tryz.prog.info? 246 = some Tryz.t246 := by kernel_rfl
@[simp] theorem ty246 : TyAgg Tryz.prog 246 256 256 := tyAgg_array in246 Tryz.underlying246 rfl rfl
@[simp] theorem ar246 : arrT Tryz.prog 246 = some (256, 5) := arrOf Tryz.underlying246
theorem in248 : Tryz.prog.info? 248 = some Tryz.t248 := by kernel_rfl
@[simp] theorem ty248 : TyAgg Tryz.prog 248 2 2 := tyAgg_struct in248 Tryz.underlying248 rfl rfl
@[simp] theorem tz248 : TyZ Tryz.prog 248 [.int .u8 0, .int .u8 0] := tyZ in248 rfl rfl rfl rfl
theorem in249 : Tryz.prog.info? 249 = some Tryz.t249 := by kernel_rfl
@[simp] theorem ty249 : TyAgg Tryz.prog 249 32 32 := tyAgg_array in249 Tryz.underlying249 rfl rfl
@[simp] theorem ar249 : arrT Tryz.prog 249 = some (16, 248) := arrOf Tryz.underlying249
@[simp] theorem tz249 : TyZ Tryz.prog 249 [.int .u8 0, .int .u8 0, .int .u8 0, .int .u8 0, .int .u8 0, .int .u8 0, .int .u8 0, .int .u8 0, .int .u8 0, .int .u8 0, .int .u8 0, .int .u8 0, .int .u8 0, .int .u8 0, .int .u8 0, .int .u8 0, .int .u8 0, .int .u8 0, .int .u8 0, .int .u8 0, .int .u8 0, .int .u8 0, .int .u8 0, .int .u8 0, .int .u8 0, .int .u8 0, .int .u8 0, .int .u8 0, .int .u8 0, .int .u8 0, .int .u8 0, .int .u8 0] := tyZ in249 rfl rfl rfl rfl
theorem in250 : Tryz.prog.info? 250 = some Tryz.t250 := by kernel_rfl
@[simp] theorem ty250 : TyOne Tryz.prog 250 8 none none false := tyOne_pointer in250 Tryz.underlying250 rfl rfl
@[simp] theorem tz250 : TyZ Tryz.prog 250 [.raw (.pointer none)] := tyZ in250 rfl rfl rfl rfl
theorem in252 : Tryz.prog.info? 252 = some Tryz.t252 := by kernel_rfl
@[simp] theorem ty252 : TyAgg Tryz.prog 252 1 16 := tyAgg_struct in252 Tryz.underlying252 rfl rfl
@[simp] theorem tz252 : TyZ Tryz.prog 252 [.str []] := tyZ in252 rfl rfl rfl rfl
theorem in253 : Tryz.prog.info? 253 = some Tryz.t253 := by kernel_rfl
@[simp] theorem ty253 : TyAgg Tryz.prog 253 32 32 := tyAgg_array in253 Tryz.underlying253 rfl rfl
@[simp] theorem ar253 : arrT Tryz.prog 253 = some (32, 5) := arrOf Tryz.underlying253
@[simp] theorem tz253 : TyZ Tryz.prog 253 [.int .u8 0, .int .u8 0, .int .u8 0, .int .u8 0, .int .u8 0, .int .u8 0, .int .u8 0, .int .u8 0, .int .u8 0, .int .u8 0, .int .u8 0, .int .u8 0, .int .u8 0, .int .u8 0, .int .u8 0, .int .u8 0, .int .u8 0, .int .u8 0, .int .u8 0, .int .u8 0, .int .u8 0, .int .u8 0, .int .u8 0, .int .u8 0, .int .u8 0, .int .u8 0, .int .u8 0, .int .u8 0, .int .u8 0, .int .u8 0, .int .u8 0, .int .u8 0] := tyZ in253 rfl rfl rfl rfl
theorem in254 : Tryz.prog.info? 254 = some Tryz.t254 := by kernel_rfl
@[simp] theorem ty254 : TyAgg Tryz.prog 254 64 64 := tyAgg_array in254 Tryz.underlying254 rfl rfl
@[simp] theorem ar254 : arrT Tryz.prog 254 = some (64, 5) := arrOf Tryz.underlying254
@[simp] theorem tz254 : TyZ Tryz.prog 254 [.int .u8 0, .int .u8 0, .int .u8 0, .int .u8 0, .int .u8 0, .int .u8 0, .int .u8 0, .int .u8 0, .int .u8 0, .int .u8 0, .int .u8 0, .int .u8 0, .int .u8 0, .int .u8 0, .int .u8 0, .int .u8 0, .int .u8 0, .int .u8 0, .int .u8 0, .int .u8 0, .int .u8 0, .int .u8 0, .int .u8 0, .int .u8 0, .int .u8 0, .int .u8 0, .int .u8 0, .int .u8 0, .int .u8 0, .int .u8 0, .int .u8 0, .int .u8 0, .int .u8 0, .int .u8 0, .int .u8 0, .int .u8 0, .int .u8 0, .int .u8 0, .int .u8 0, .int .u8 0, .int .u8 0, .int .u8 0, .int .u8 0, .int .u8 0, .int .u8 0, .int .u8 0, .int .u8 0, .int .u8 0, .int .u8 0, .int .u8 0, .int .u8 0, .int .u8 0, .int .u8 0, .int .u8 0, .int .u8 0, .int .u8 0, .int .u8 0, .int .u8 0, .int .u8 0, .int .u8 0, .int .u8 0, .int .u8 0, .int .u8 0, .int .u8 0] := tyZ in254 rfl rfl rfl rfl
theorem in262 : Tryz.prog.info? 262 = some Tryz.t262 := by kernel_rfl
@[simp] theorem ty262 : TyOne Tryz.prog 262 1 (some .u8) none false := tyOne_int in262 Tryz.underlying262 rfl rfl
@[simp] theorem tz262 : TyZ Tryz.prog 262 [.int .u8 0] := tyZ in262 rfl rfl rfl rfl
@[simp] theorem gv1 : globV 1 = .pe 20 [powT] 0 0 := rfl
@[simp] theorem ts8 : structT Tryz.prog 8 = true := structOf Tryz.underlying8 (by simp [in2, in3, in4, in6])
@[simp] theorem fl8_0 : fldT Tryz.prog 8 0 = some (0, false, 1) := fldOf Tryz.underlying8 rfl rfl ty2.1 ty2.2.1 ty2.2.2.1
@[simp] theorem fl8_1 : fldT Tryz.prog 8 1 = some (1, false, 1) := fldOf Tryz.underlying8 rfl rfl ty3.1 ty3.2.1 ty3.2.2.1
@[simp] theorem fl8_2 : fldT Tryz.prog 8 2 = some (2, false, 1) := fldOf Tryz.underlying8 rfl rfl ty4.1 ty4.2.1 ty4.2.2.1
@[simp] theorem fl8_3 : fldT Tryz.prog 8 3 = some (3, false, 1) := fldOf Tryz.underlying8 rfl rfl ty6.1 ty6.2.1 ty6.2.2.1
@[simp] theorem ts14 : structT Tryz.prog 14 = true := structOf Tryz.underlying14 (by simp [in12, in9])
@[simp] theorem fl14_0 : fldT Tryz.prog 14 0 = some (0, false, 1) := fldOf Tryz.underlying14 rfl rfl ty9.1 ty9.2.1 ty9.2.2.1
@[simp] theorem fl14_1 : fldT Tryz.prog 14 1 = some (1, false, 1) := fldOf Tryz.underlying14 rfl rfl ty12.1 ty12.2.1 ty12.2.2.1
@[simp] theorem ts19 : structT Tryz.prog 19 = true := structOf Tryz.underlying19 (by simp [in17])
@[simp] theorem fl19_0 : fldT Tryz.prog 19 0 = some (0, false, 1) := fldOf Tryz.underlying19 rfl rfl ty17.1 ty17.2.1 ty17.2.2.1
@[simp] theorem ts26 : structT Tryz.prog 26 = true := structOf Tryz.underlying26 (by simp [in2, in9])
@[simp] theorem fl26_0 : fldT Tryz.prog 26 0 = some (0, false, 1) := fldOf Tryz.underlying26 rfl rfl ty2.1 ty2.2.1 ty2.2.2.1
@[simp] theorem fl26_1 : fldT Tryz.prog 26 1 = some (1, false, 1) := fldOf Tryz.underlying26 rfl rfl ty9.1 ty9.2.1 ty9.2.2.1
@[simp] theorem fl26_2 : fldT Tryz.prog 26 2 = some (2, false, 1) := fldOf Tryz.underlying26 rfl rfl ty9.1 ty9.2.1 ty9.2.2.1
@[simp] theorem ts50 : structT Tryz.prog 50 = true := structOf Tryz.underlying50 (by simp [in2, in47, in48])
@[simp] theorem fl50_0 : fldT Tryz.prog 50 0 = some (0, false, 1) := fldOf Tryz.underlying50 rfl rfl ty2.1 ty2.2.1 ty2.2.2.1
@[simp] theorem fl50_1 : fldT Tryz.prog 50 1 = some (1, false, 1) := fldOf Tryz.underlying50 rfl rfl ty2.1 ty2.2.1 ty2.2.2.1
@[simp] theorem fl50_2 : fldT Tryz.prog 50 2 = some (2, false, 1) := fldOf Tryz.underlying50 rfl rfl ty47.1 ty47.2.1 ty47.2.2.1
@[simp] theorem fl50_3 : fldT Tryz.prog 50 3 = some (3, false, 1) := fldOf Tryz.underlying50 rfl rfl ty48.1 ty48.2.1 ty48.2.2.1
@[simp] theorem ts60 : structT Tryz.prog 60 = true := structOf Tryz.underlying60 (by simp [in2])
@[simp] theorem fl60_0 : fldT Tryz.prog 60 0 = some (0, false, 1) := fldOf Tryz.underlying60 rfl rfl ty2.1 ty2.2.1 ty2.2.2.1
@[simp] theorem fl60_1 : fldT Tryz.prog 60 1 = some (1, false, 1) := fldOf Tryz.underlying60 rfl rfl ty2.1 ty2.2.1 ty2.2.2.1
@[simp] theorem ts81 : structT Tryz.prog 81 = true := structOf Tryz.underlying81 (by simp [in22, in79])
@[simp] theorem fl81_0 : fldT Tryz.prog 81 0 = some (0, false, 1) := fldOf Tryz.underlying81 rfl rfl ty79.1 ty79.2.1 ty79.2.2.1
@[simp] theorem fl81_1 : fldT Tryz.prog 81 1 = some (1, false, 1) := fldOf Tryz.underlying81 rfl rfl ty22.1 ty22.2.1 ty22.2.2.1
@[simp] theorem ts95 : structT Tryz.prog 95 = true := structOf Tryz.underlying95 (by simp [in9])
@[simp] theorem fl95_0 : fldT Tryz.prog 95 0 = some (0, false, 1) := fldOf Tryz.underlying95 rfl rfl ty9.1 ty9.2.1 ty9.2.2.1
@[simp] theorem fl95_1 : fldT Tryz.prog 95 1 = some (1, false, 1) := fldOf Tryz.underlying95 rfl rfl ty9.1 ty9.2.1 ty9.2.2.1
@[simp] theorem ts134 : structT Tryz.prog 134 = true := structOf Tryz.underlying134 (by simp [in132, in22, in3])
@[simp] theorem fl134_0 : fldT Tryz.prog 134 0 = some (0, false, 1) := fldOf Tryz.underlying134 rfl rfl ty22.1 ty22.2.1 ty22.2.2.1
@[simp] theorem fl134_1 : fldT Tryz.prog 134 1 = some (1, false, 1) := fldOf Tryz.underlying134 rfl rfl ty3.1 ty3.2.1 ty3.2.2.1
@[simp] theorem fl134_2 : fldT Tryz.prog 134 2 = some (2, false, 1) := fldOf Tryz.underlying134 rfl rfl ty132.1 ty132.2.1 ty132.2.2.1
@[simp] theorem ts242 : structT Tryz.prog 242 = true := structOf Tryz.underlying242 (by simp [in85, in9])
@[simp] theorem fl242_0 : fldT Tryz.prog 242 0 = some (0, false, 1) := fldOf Tryz.underlying242 rfl rfl ty9.1 ty9.2.1 ty9.2.2.1
@[simp] theorem fl242_1 : fldT Tryz.prog 242 1 = some (1, false, 1) := fldOf Tryz.underlying242 rfl rfl ty9.1 ty9.2.1 ty9.2.2.1
@[simp] theorem ts248 : structT Tryz.prog 248 = true := structOf Tryz.underlying248 (by simp [in5])
@[simp] theorem fl248_0 : fldT Tryz.prog 248 0 = some (0, false, 1) := fldOf Tryz.underlying248 rfl rfl ty5.1 ty5.2.1 ty5.2.2.1
@[simp] theorem fl248_1 : fldT Tryz.prog 248 1 = some (1, false, 1) := fldOf Tryz.underlying248 rfl rfl ty5.1 ty5.2.1 ty5.2.2.1
@[simp] theorem ts252 : structT Tryz.prog 252 = true := structOf Tryz.underlying252 (by simp [in9])
@[simp] theorem fl252_0 : fldT Tryz.prog 252 0 = some (0, false, 1) := fldOf Tryz.underlying252 rfl rfl ty9.1 ty9.2.1 ty9.2.2.1
@[simp] theorem eq26 : EqT Tryz.prog 26 [1, 3, 3] := eqT_struct Tryz.underlying26 Tryz.stoodInHeld26 Tryz.eqGuardType26 (by simp [fieldsOk])
@[simp] theorem eq60 : EqT Tryz.prog 60 [1, 1] := eqT_struct Tryz.underlying60 Tryz.stoodInHeld60 Tryz.eqGuardType60 (by simp [fieldsOk])
@[simp] theorem eq95 : EqT Tryz.prog 95 [3, 3] := eqT_struct Tryz.underlying95 Tryz.stoodInHeld95 Tryz.eqGuardType95 (by simp [fieldsOk])
@[simp] theorem res_3 : Tryz.f3.results.toList = [.tmp 4] := rfl
@[simp] theorem res_4 : Tryz.f4.results.toList = [.tmp 4] := rfl
@[simp] theorem res_5 : Tryz.f5.results.toList = [.tmp 4] := rfl
@[simp] theorem res_6 : Tryz.f6.results.toList = [.tmp 2] := rfl
@[simp] theorem res_7 : Tryz.f7.results.toList = [.tmp 2, .cell 3 26] := rfl
@[simp] theorem res_8 : Tryz.f8.results.toList = [.tmp 4, .tmp 5] := rfl
@[simp] theorem res_9 : Tryz.f9.results.toList = [.tmp 4, .tmp 5] := rfl
@[simp] theorem res_10 : Tryz.f10.results.toList = [.tmp 2, .tmp 3] := rfl
@[simp] theorem res_11 : Tryz.f11.results.toList = [.tmp 2, .tmp 3] := rfl
@[simp] theorem res_12 : Tryz.f12.results.toList = [.tmp 4] := rfl
@[simp] theorem res_13 : Tryz.f13.results.toList = [.tmp 2] := rfl
@[simp] theorem res_14 : Tryz.f14.results.toList = [.tmp 2] := rfl
@[simp] theorem res_15 : Tryz.f15.results.toList = [.tmp 4] := rfl
@[simp] theorem res_16 : Tryz.f16.results.toList = [.tmp 2, .tmp 3] := rfl
@[simp] theorem res_17 : Tryz.f17.results.toList = [.tmp 4, .tmp 5] := rfl
@[simp] theorem res_18 : Tryz.f18.results.toList = [.tmp 2] := rfl
@[simp] theorem res_19 : Tryz.f19.results.toList = [.tmp 2, .tmp 3] := rfl
@[simp] theorem res_20 : Tryz.f20.results.toList = [.tmp 6] := rfl
@[simp] theorem res_21 : Tryz.f21.results.toList = [.tmp 6] := rfl
@[simp] theorem res_22 : Tryz.f22.results.toList = [.cell 2 50, .tmp 3] := rfl
@[simp] theorem res_23 : Tryz.f23.results.toList = [.cell 4 50, .tmp 5] := rfl
@[simp] theorem res_24 : Tryz.f24.results.toList = [.tmp 2] := rfl
@[simp] theorem res_25 : Tryz.f25.results.toList = [.cell 2 50, .tmp 3] := rfl
@[simp] theorem res_26 : Tryz.f26.results.toList = [.tmp 2] := rfl
@[simp] theorem res_27 : Tryz.f27.results.toList = [.tmp 4] := rfl
@[simp] theorem res_28 : Tryz.f28.results.toList = [.cell 2 50, .cell 3 60] := rfl
@[simp] theorem res_29 : Tryz.f29.results.toList = [.cell 4 50, .tmp 5] := rfl
@[simp] theorem res_30 : Tryz.f30.results.toList = [.cell 4 50, .tmp 5] := rfl
@[simp] theorem res_31 : Tryz.f31.results.toList = [.tmp 4, .tmp 5] := rfl
@[simp] theorem res_32 : Tryz.f32.results.toList = [.tmp 2, .tmp 3, .tmp 4] := rfl
@[simp] theorem res_33 : Tryz.f33.results.toList = [.tmp 2] := rfl
@[simp] theorem res_34 : Tryz.f34.results.toList = [.tmp 2] := rfl
@[simp] theorem res_35 : Tryz.f35.results.toList = [.cell 4 26] := rfl
@[simp] theorem res_36 : Tryz.f36.results.toList = [.cell 2 26] := rfl
@[simp] theorem res_37 : Tryz.f37.results.toList = [.tmp 2] := rfl
@[simp] theorem res_38 : Tryz.f38.results.toList = [.tmp 2] := rfl
@[simp] theorem res_39 : Tryz.f39.results.toList = [.tmp 4] := rfl
@[simp] theorem res_40 : Tryz.f40.results.toList = [.tmp 2] := rfl
@[simp] theorem res_41 : Tryz.f41.results.toList = [.tmp 6] := rfl
@[simp] theorem res_42 : Tryz.f42.results.toList = [.tmp 2] := rfl
@[simp] theorem res_43 : Tryz.f43.results.toList = [.tmp 2] := rfl
@[simp] theorem res_44 : Tryz.f44.results.toList = [.tmp 4] := rfl
@[simp] theorem res_45 : Tryz.f45.results.toList = [.tmp 2] := rfl
@[simp] theorem res_46 : Tryz.f46.results.toList = [.tmp 4, .tmp 5] := rfl
@[simp] theorem res_47 : Tryz.f47.results.toList = [.tmp 2] := rfl
@[simp] theorem res_48 : Tryz.f48.results.toList = [.tmp 2] := rfl
@[simp] theorem res_49 : Tryz.f49.results.toList = [.tmp 2, .tmp 3] := rfl
@[simp] theorem res_50 : Tryz.f50.results.toList = [.tmp 2, .tmp 3] := rfl
@[simp] theorem res_51 : Tryz.f51.results.toList = [.tmp 4] := rfl
@[simp] theorem res_52 : Tryz.f52.results.toList = [.tmp 2] := rfl
@[simp] theorem res_53 : Tryz.f53.results.toList = [.tmp 2] := rfl
@[simp] theorem res_54 : Tryz.f54.results.toList = [.tmp 4] := rfl
@[simp] theorem res_55 : Tryz.f55.results.toList = [.tmp 4] := rfl
@[simp] theorem res_56 : Tryz.f56.results.toList = [.tmp 4] := rfl
@[simp] theorem res_57 : Tryz.f57.results.toList = [.tmp 2] := rfl
@[simp] theorem res_58 : Tryz.f58.results.toList = [.tmp 2] := rfl
@[simp] theorem res_59 : Tryz.f59.results.toList = [] := rfl
@[simp] theorem res_60 : Tryz.f60.results.toList = [.tmp 2] := rfl
@[simp] theorem res_61 : Tryz.f61.results.toList = [.tmp 4, .tmp 5] := rfl
@[simp] theorem res_62 : Tryz.f62.results.toList = [.tmp 2] := rfl
@[simp] theorem res_63 : Tryz.f63.results.toList = [.cell 2 50] := rfl
@[simp] theorem res_64 : Tryz.f64.results.toList = [.tmp 4] := rfl
@[simp] theorem res_65 : Tryz.f65.results.toList = [.tmp 4] := rfl
@[simp] theorem res_66 : Tryz.f66.results.toList = [.tmp 2] := rfl
@[simp] theorem res_67 : Tryz.f67.results.toList = [.cell 2 50] := rfl
@[simp] theorem res_68 : Tryz.f68.results.toList = [] := rfl
@[simp] theorem res_69 : Tryz.f69.results.toList = [.tmp 4] := rfl
@[simp] theorem res_70 : Tryz.f70.results.toList = [.tmp 2] := rfl
@[simp] theorem res_71 : Tryz.f71.results.toList = [.tmp 4] := rfl
@[simp] theorem res_72 : Tryz.f72.results.toList = [.tmp 4] := rfl
@[simp] theorem res_73 : Tryz.f73.results.toList = [.tmp 2, .tmp 3] := rfl
@[simp] theorem res_74 : Tryz.f74.results.toList = [.tmp 2, .tmp 3] := rfl
@[simp] theorem res_75 : Tryz.f75.results.toList = [.tmp 4, .tmp 5, .tmp 6] := rfl
@[simp] theorem res_76 : Tryz.f76.results.toList = [.tmp 2] := rfl
@[simp] theorem res_77 : Tryz.f77.results.toList = [.tmp 4] := rfl
@[simp] theorem res_78 : Tryz.f78.results.toList = [.tmp 4] := rfl
@[simp] theorem res_79 : Tryz.f79.results.toList = [.cell 2 50, .cell 3 60] := rfl
@[simp] theorem res_80 : Tryz.f80.results.toList = [.tmp 6, .tmp 7] := rfl
@[simp] theorem res_81 : Tryz.f81.results.toList = [.tmp 4] := rfl
@[simp] theorem res_82 : Tryz.f82.results.toList = [.tmp 6] := rfl
@[simp] theorem res_83 : Tryz.f83.results.toList = [.tmp 4] := rfl
@[simp] theorem res_84 : Tryz.f84.results.toList = [.tmp 6] := rfl
@[simp] theorem res_85 : Tryz.f85.results.toList = [.tmp 2] := rfl
@[simp] theorem res_86 : Tryz.f86.results.toList = [.tmp 4] := rfl
@[simp] theorem res_87 : Tryz.f87.results.toList = [.tmp 2] := rfl
@[simp] theorem res_88 : Tryz.f88.results.toList = [.tmp 2] := rfl
@[simp] theorem res_89 : Tryz.f89.results.toList = [.tmp 2, .tmp 3] := rfl
@[simp] theorem res_90 : Tryz.f90.results.toList = [.tmp 6] := rfl
@[simp] theorem res_91 : Tryz.f91.results.toList = [.tmp 6] := rfl
@[simp] theorem res_92 : Tryz.f92.results.toList = [] := rfl
@[simp] theorem res_93 : Tryz.f93.results.toList = [.tmp 4] := rfl
@[simp] theorem res_94 : Tryz.f94.results.toList = [.cell 2 26, .tmp 3] := rfl
@[simp] theorem res_95 : Tryz.f95.results.toList = [.tmp 2] := rfl
@[simp] theorem res_96 : Tryz.f96.results.toList = [.tmp 6] := rfl
@[simp] theorem res_97 : Tryz.f97.results.toList = [.tmp 4, .tmp 5] := rfl
@[simp] theorem res_98 : Tryz.f98.results.toList = [.tmp 4, .tmp 5] := rfl
@[simp] theorem res_99 : Tryz.f99.results.toList = [.tmp 2] := rfl
@[simp] theorem res_100 : Tryz.f100.results.toList = [.tmp 4] := rfl
@[simp] theorem res_101 : Tryz.f101.results.toList = [] := rfl
@[simp] theorem res_102 : Tryz.f102.results.toList = [.tmp 2] := rfl
@[simp] theorem res_103 : Tryz.f103.results.toList = [.tmp 6, .tmp 7] := rfl
@[simp] theorem res_104 : Tryz.f104.results.toList = [.tmp 4] := rfl
@[simp] theorem res_105 : Tryz.f105.results.toList = [.tmp 4] := rfl
@[simp] theorem res_106 : Tryz.f106.results.toList = [.tmp 2] := rfl
@[simp] theorem res_107 : Tryz.f107.results.toList = [.tmp 4] := rfl
@[simp] theorem res_108 : Tryz.f108.results.toList = [.tmp 2] := rfl
@[simp] theorem res_109 : Tryz.f109.results.toList = [.cell 2 50] := rfl
@[simp] theorem res_110 : Tryz.f110.results.toList = [.tmp 2] := rfl
@[simp] theorem res_111 : Tryz.f111.results.toList = [.tmp 2] := rfl
@[simp] theorem res_112 : Tryz.f112.results.toList = [.tmp 2] := rfl
@[simp] theorem res_113 : Tryz.f113.results.toList = [.tmp 2] := rfl
@[simp] theorem res_114 : Tryz.f114.results.toList = [] := rfl
@[simp] theorem res_115 : Tryz.f115.results.toList = [.tmp 2] := rfl
@[simp] theorem res_116 : Tryz.f116.results.toList = [.tmp 4] := rfl
@[simp] theorem res_117 : Tryz.f117.results.toList = [.tmp 4] := rfl
@[simp] theorem res_118 : Tryz.f118.results.toList = [.tmp 2] := rfl
@[simp] theorem res_119 : Tryz.f119.results.toList = [.tmp 2] := rfl
@[simp] theorem res_120 : Tryz.f120.results.toList = [] := rfl
@[simp] theorem res_121 : Tryz.f121.results.toList = [.tmp 8] := rfl
@[simp] theorem res_122 : Tryz.f122.results.toList = [.tmp 4] := rfl
@[simp] theorem res_123 : Tryz.f123.results.toList = [.tmp 6, .tmp 7] := rfl
@[simp] theorem res_124 : Tryz.f124.results.toList = [.tmp 4, .tmp 5, .tmp 6] := rfl
@[simp] theorem res_125 : Tryz.f125.results.toList = [.tmp 6] := rfl
@[simp] theorem res_126 : Tryz.f126.results.toList = [.tmp 4] := rfl
@[simp] theorem res_127 : Tryz.f127.results.toList = [.tmp 4] := rfl
@[simp] theorem res_129 : Tryz.f129.results.toList = [] := rfl
@[simp] theorem res_130 : Tryz.f130.results.toList = [.tmp 4] := rfl
@[simp] theorem res_131 : Tryz.f131.results.toList = [.tmp 2] := rfl
@[simp] theorem res_133 : Tryz.f133.results.toList = [] := rfl
@[simp] theorem res_135 : Tryz.f135.results.toList = [.tmp 4] := rfl
@[simp] theorem res_136 : Tryz.f136.results.toList = [.tmp 2] := rfl
@[simp] theorem res_137 : Tryz.f137.results.toList = [.tmp 2] := rfl
@[simp] theorem res_138 : Tryz.f138.results.toList = [] := rfl
@[simp] theorem res_139 : Tryz.f139.results.toList = [] := rfl
@[simp] theorem res_140 : Tryz.f140.results.toList = [] := rfl
@[simp] theorem res_141 : Tryz.f141.results.toList = [.tmp 6, .tmp 7] := rfl
@[simp] theorem res_142 : Tryz.f142.results.toList = [] := rfl
@[simp] theorem res_143 : Tryz.f143.results.toList = [.tmp 6] := rfl
@[simp] theorem res_144 : Tryz.f144.results.toList = [.tmp 4] := rfl
@[simp] theorem res_145 : Tryz.f145.results.toList = [.tmp 8] := rfl
@[simp] theorem res_146 : Tryz.f146.results.toList = [.tmp 8, .tmp 9] := rfl
@[simp] theorem res_147 : Tryz.f147.results.toList = [.tmp 2] := rfl
@[simp] theorem res_148 : Tryz.f148.results.toList = [.tmp 2] := rfl
@[simp] theorem res_149 : Tryz.f149.results.toList = [.tmp 4] := rfl
@[simp] theorem res_150 : Tryz.f150.results.toList = [.tmp 4] := rfl
@[simp] theorem res_151 : Tryz.f151.results.toList = [.cell 4 50, .tmp 5] := rfl
@[simp] theorem res_152 : Tryz.f152.results.toList = [.tmp 4] := rfl
@[simp] theorem res_153 : Tryz.f153.results.toList = [] := rfl
@[simp] theorem res_154 : Tryz.f154.results.toList = [] := rfl
@[simp] theorem res_155 : Tryz.f155.results.toList = [] := rfl
@[simp] theorem res_156 : Tryz.f156.results.toList = [.tmp 8, .tmp 9] := rfl
@[simp] theorem res_157 : Tryz.f157.results.toList = [] := rfl
@[simp] theorem res_158 : Tryz.f158.results.toList = [.tmp 8] := rfl
@[simp] theorem res_159 : Tryz.f159.results.toList = [.tmp 10] := rfl
@[simp] theorem res_160 : Tryz.f160.results.toList = [.tmp 10, .tmp 11] := rfl
@[simp] theorem res_161 : Tryz.f161.results.toList = [.tmp 2] := rfl
@[simp] theorem res_162 : Tryz.f162.results.toList = [.tmp 4] := rfl
@[simp] theorem res_163 : Tryz.f163.results.toList = [] := rfl
@[simp] theorem res_164 : Tryz.f164.results.toList = [.tmp 4] := rfl
@[simp] theorem res_165 : Tryz.f165.results.toList = [.tmp 4] := rfl
@[simp] theorem res_166 : Tryz.f166.results.toList = [.tmp 4] := rfl
@[simp] theorem res_167 : Tryz.f167.results.toList = [.tmp 4] := rfl
@[simp] theorem res_168 : Tryz.f168.results.toList = [.tmp 6, .tmp 7] := rfl
@[simp] theorem res_169 : Tryz.f169.results.toList = [.tmp 10] := rfl
@[simp] theorem res_170 : Tryz.f170.results.toList = [.tmp 4] := rfl
@[simp] theorem res_171 : Tryz.f171.results.toList = [.tmp 4] := rfl
@[simp] theorem res_172 : Tryz.f172.results.toList = [] := rfl
@[simp] theorem res_173 : Tryz.f173.results.toList = [.tmp 4] := rfl
@[simp] theorem res_174 : Tryz.f174.results.toList = [] := rfl
@[simp] theorem res_175 : Tryz.f175.results.toList = [.tmp 2] := rfl
@[simp] theorem res_176 : Tryz.f176.results.toList = [.tmp 2] := rfl
@[simp] theorem res_177 : Tryz.f177.results.toList = [] := rfl
@[simp] theorem res_178 : Tryz.f178.results.toList = [.tmp 10, .tmp 11] := rfl
@[simp] theorem res_179 : Tryz.f179.results.toList = [.tmp 2] := rfl
@[simp] theorem res_180 : Tryz.f180.results.toList = [.tmp 2] := rfl
@[simp] theorem res_181 : Tryz.f181.results.toList = [] := rfl
@[simp] theorem res_182 : Tryz.f182.results.toList = [.tmp 2] := rfl
@[simp] theorem res_183 : Tryz.f183.results.toList = [.tmp 2] := rfl
@[simp] theorem res_184 : Tryz.f184.results.toList = [.tmp 6] := rfl
@[simp] theorem res_185 : Tryz.f185.results.toList = [.tmp 10] := rfl
@[simp] theorem res_186 : Tryz.f186.results.toList = [.tmp 2] := rfl
@[simp] theorem res_188 : Tryz.f188.results.toList = [.tmp 4] := rfl
@[simp] theorem res_189 : Tryz.f189.results.toList = [.cell 2 50] := rfl
@[simp] theorem res_190 : Tryz.f190.results.toList = [.tmp 4] := rfl
@[simp] theorem res_191 : Tryz.f191.results.toList = [] := rfl
@[simp] theorem res_192 : Tryz.f192.results.toList = [.tmp 8] := rfl
@[simp] theorem res_193 : Tryz.f193.results.toList = [.tmp 12] := rfl
@[simp] theorem res_195 : Tryz.f195.results.toList = [.tmp 2] := rfl
@[simp] theorem res_196 : Tryz.f196.results.toList = [.tmp 2, .tmp 3] := rfl
@[simp] theorem res_198 : Tryz.f198.results.toList = [.tmp 4] := rfl
@[simp] theorem res_199 : Tryz.f199.results.toList = [.tmp 6, .tmp 7] := rfl
@[simp] theorem res_200 : Tryz.f200.results.toList = [.tmp 4] := rfl
@[simp] theorem res_201 : Tryz.f201.results.toList = [.tmp 4] := rfl
@[simp] theorem res_202 : Tryz.f202.results.toList = [.tmp 6] := rfl
@[simp] theorem res_203 : Tryz.f203.results.toList = [.tmp 6] := rfl
@[simp] theorem res_204 : Tryz.f204.results.toList = [.tmp 4] := rfl
@[simp] theorem res_206 : Tryz.f206.results.toList = [.tmp 2] := rfl
@[simp] theorem res_207 : Tryz.f207.results.toList = [.tmp 4] := rfl
@[simp] theorem res_208 : Tryz.f208.results.toList = [] := rfl
@[simp] theorem res_209 : Tryz.f209.results.toList = [] := rfl
@[simp] theorem res_210 : Tryz.f210.results.toList = [.tmp 2] := rfl
@[simp] theorem res_211 : Tryz.f211.results.toList = [.tmp 2] := rfl
@[simp] theorem res_212 : Tryz.f212.results.toList = [.tmp 2] := rfl
@[simp] theorem res_213 : Tryz.f213.results.toList = [.tmp 2] := rfl
@[simp] theorem res_214 : Tryz.f214.results.toList = [.tmp 8, .tmp 9] := rfl
@[simp] theorem res_215 : Tryz.f215.results.toList = [.tmp 2] := rfl
@[simp] theorem res_216 : Tryz.f216.results.toList = [.tmp 10, .tmp 11] := rfl
@[simp] theorem res_217 : Tryz.f217.results.toList = [.tmp 2, .tmp 3] := rfl
@[simp] theorem res_218 : Tryz.f218.results.toList = [.tmp 2] := rfl
@[simp] theorem res_219 : Tryz.f219.results.toList = [.tmp 2] := rfl
@[simp] theorem res_220 : Tryz.f220.results.toList = [.tmp 2] := rfl
@[simp] theorem res_221 : Tryz.f221.results.toList = [.tmp 2] := rfl
@[simp] theorem res_222 : Tryz.f222.results.toList = [.tmp 2] := rfl
@[simp] theorem res_224 : Tryz.f224.results.toList = [.tmp 2, .tmp 3] := rfl
@[simp] theorem res_225 : Tryz.f225.results.toList = [.tmp 2] := rfl
@[simp] theorem res_226 : Tryz.f226.results.toList = [.tmp 2] := rfl
@[simp] theorem res_227 : Tryz.f227.results.toList = [.tmp 2] := rfl
theorem hm : Tryz.prog.follows .mixedOrders = true := by kernel_rfl
end Go.Proofs.YtmdablalfmcgnaaGreatDoor
