/- Closed facts on the types of the program. Made by a program (gen_types.py). No condition. -/
import Derived.Test.YtmdablalfmcgnaaDoorAcd
import Derived.Test.YtmdablalfmcgnaaDoorAbz
import Derived.Test.YtmdablalfmcgnaaDoorProg
namespace Go.Proofs.YtmdablalfmcgnaaDoor
open Go Go.Ab

theorem in2 : Tryd.prog.info? 2 = some Tryd.t2 := by kernel_rfl
@[simp] theorem ty2 : TyOne Tryd.prog 2 8 (some .i64) none false := tyOne_int in2 Tryd.underlying2 rfl rfl
@[simp] theorem tz2 : TyZ Tryd.prog 2 [.int .i64 0] := tyZ in2 rfl rfl rfl rfl
theorem in3 : Tryd.prog.info? 3 = some Tryd.t3 := by kernel_rfl
@[simp] theorem ty3 : TyOne Tryd.prog 3 8 (some .i64) none false := tyOne_int in3 Tryd.underlying3 rfl rfl
@[simp] theorem tz3 : TyZ Tryd.prog 3 [.int .i64 0] := tyZ in3 rfl rfl rfl rfl
theorem in4 : Tryd.prog.info? 4 = some Tryd.t4 := by kernel_rfl
@[simp] theorem ty4 : TyOne Tryd.prog 4 1 none none false := tyOne_bool in4 Tryd.underlying4 rfl rfl
@[simp] theorem ub4 : Tryd.prog.underlying 4 = some .bool := Tryd.underlying4
@[simp] theorem tz4 : TyZ Tryd.prog 4 [.bool false] := tyZ in4 rfl rfl rfl rfl
theorem in5 : Tryd.prog.info? 5 = some Tryd.t5 := by kernel_rfl
@[simp] theorem ty5 : TyOne Tryd.prog 5 1 (some .u8) none false := tyOne_int in5 Tryd.underlying5 rfl rfl
@[simp] theorem tz5 : TyZ Tryd.prog 5 [.int .u8 0] := tyZ in5 rfl rfl rfl rfl
theorem in6 : Tryd.prog.info? 6 = some Tryd.t6 := by kernel_rfl
@[simp] theorem ty6 : TyOne Tryd.prog 6 1 (some .u8) none false := tyOne_int in6 Tryd.underlying6 rfl rfl
@[simp] theorem tz6 : TyZ Tryd.prog 6 [.int .u8 0] := tyZ in6 rfl rfl rfl rfl
theorem in8 : Tryd.prog.info? 8 = some Tryd.t8 := by kernel_rfl
@[simp] theorem ty8 : TyAgg Tryd.prog 8 4 24 := tyAgg_struct in8 Tryd.underlying8 rfl rfl
@[simp] theorem tz8 : TyZ Tryd.prog 8 [.int .i64 0, .int .i64 0, .bool false, .int .u8 0] := tyZ in8 rfl rfl rfl rfl
theorem in9 : Tryd.prog.info? 9 = some Tryd.t9 := by kernel_rfl
@[simp] theorem ty9 : TyOne Tryd.prog 9 16 none none true := tyOne_str in9 Tryd.underlying9 rfl rfl
@[simp] theorem tz9 : TyZ Tryd.prog 9 [.str []] := tyZ in9 rfl rfl rfl rfl
theorem in10 : Tryd.prog.info? 10 = some Tryd.t10 := by kernel_rfl
@[simp] theorem ty10 : TyOne Tryd.prog 10 16 none none true := tyOne_str in10 Tryd.underlying10 rfl rfl
@[simp] theorem tz10 : TyZ Tryd.prog 10 [.str []] := tyZ in10 rfl rfl rfl rfl
theorem in11 : Tryd.prog.info? 11 = some Tryd.t11 := by kernel_rfl
@[simp] theorem ty11 : TyOne Tryd.prog 11 16 none none true := tyOne_str in11 Tryd.underlying11 rfl rfl
@[simp] theorem tz11 : TyZ Tryd.prog 11 [.str []] := tyZ in11 rfl rfl rfl rfl
theorem in12 : Tryd.prog.info? 12 = some Tryd.t12 := by kernel_rfl
@[simp] theorem ty12 : TyOne Tryd.prog 12 8 (some .u64) none false := tyOne_int in12 Tryd.underlying12 rfl rfl
@[simp] theorem tz12 : TyZ Tryd.prog 12 [.int .u64 0] := tyZ in12 rfl rfl rfl rfl
theorem in14 : Tryd.prog.info? 14 = some Tryd.t14 := by kernel_rfl
@[simp] theorem ty14 : TyAgg Tryd.prog 14 2 24 := tyAgg_struct in14 Tryd.underlying14 rfl rfl
@[simp] theorem tz14 : TyZ Tryd.prog 14 [.str [], .int .u64 0] := tyZ in14 rfl rfl rfl rfl
theorem in15 : Tryd.prog.info? 15 = some Tryd.t15 := by kernel_rfl
@[simp] theorem ty15 : TyOne Tryd.prog 15 8 none none false := tyOne_pointer in15 Tryd.underlying15 rfl rfl
@[simp] theorem tz15 : TyZ Tryd.prog 15 [.raw (.pointer none)] := tyZ in15 rfl rfl rfl rfl
theorem in16 : Tryd.prog.info? 16 = some Tryd.t16 := by kernel_rfl
@[simp] theorem ty16 : TyOne Tryd.prog 16 8 none none false := tyOne_pointer in16 Tryd.underlying16 rfl rfl
@[simp] theorem tz16 : TyZ Tryd.prog 16 [.raw (.pointer none)] := tyZ in16 rfl rfl rfl rfl
theorem in17 : Tryd.prog.info? 17 = some Tryd.t17 := by kernel_rfl
@[simp] theorem ty17 : TyOne Tryd.prog 17 8 none none false := tyOne_pointer in17 Tryd.underlying17 rfl rfl
@[simp] theorem tz17 : TyZ Tryd.prog 17 [.raw (.pointer none)] := tyZ in17 rfl rfl rfl rfl
theorem in19 : Tryd.prog.info? 19 = some Tryd.t19 := by kernel_rfl
@[simp] theorem ty19 : TyAgg Tryd.prog 19 1 8 := tyAgg_struct in19 Tryd.underlying19 rfl rfl
@[simp] theorem tz19 : TyZ Tryd.prog 19 [.raw (.pointer none)] := tyZ in19 rfl rfl rfl rfl
theorem in21 : Tryd.prog.info? 21 = some Tryd.t21 := by kernel_rfl
@[simp] theorem ty21 : TyOne Tryd.prog 21 4 (some .i32) none false := tyOne_int in21 Tryd.underlying21 rfl rfl
@[simp] theorem tz21 : TyZ Tryd.prog 21 [.int .i32 0] := tyZ in21 rfl rfl rfl rfl
theorem in22 : Tryd.prog.info? 22 = some Tryd.t22 := by kernel_rfl
@[simp] theorem ty22 : TyOne Tryd.prog 22 24 none (some 61) false := tyOne_slice in22 Tryd.underlying22 rfl rfl
@[simp] theorem tz22 : TyZ Tryd.prog 22 [.nils] := tyZ in22 rfl rfl rfl rfl
theorem in24 : Tryd.prog.info? 24 = some Tryd.t24 := by kernel_rfl
@[simp] theorem ty24 : TyOne Tryd.prog 24 24 none (some 69) false := tyOne_slice in24 Tryd.underlying24 rfl rfl
@[simp] theorem tz24 : TyZ Tryd.prog 24 [.nils] := tyZ in24 rfl rfl rfl rfl
theorem in27 : Tryd.prog.info? 27 = some Tryd.t27 := by kernel_rfl
@[simp] theorem ty27 : TyOne Tryd.prog 27 24 none (some 63) false := tyOne_slice in27 Tryd.underlying27 rfl rfl
@[simp] theorem tz27 : TyZ Tryd.prog 27 [.nils] := tyZ in27 rfl rfl rfl rfl
theorem in34 : Tryd.prog.info? 34 = some Tryd.t34 := by kernel_rfl
@[simp] theorem ty34 : TyOne Tryd.prog 34 24 none (some 74) false := tyOne_slice in34 Tryd.underlying34 rfl rfl
@[simp] theorem tz34 : TyZ Tryd.prog 34 [.nils] := tyZ in34 rfl rfl rfl rfl
theorem in38 : Tryd.prog.info? 38 = some Tryd.t38 := by kernel_rfl
@[simp] theorem ty38 : TyOne Tryd.prog 38 24 none (some 77) false := tyOne_slice in38 Tryd.underlying38 rfl rfl
@[simp] theorem tz38 : TyZ Tryd.prog 38 [.nils] := tyZ in38 rfl rfl rfl rfl
theorem in42 : Tryd.prog.info? 42 = some Tryd.t42 := by kernel_rfl
@[simp] theorem ty42 : TyOne Tryd.prog 42 24 none (some 5) false := tyOne_slice in42 Tryd.underlying42 rfl rfl
@[simp] theorem tz42 : TyZ Tryd.prog 42 [.nils] := tyZ in42 rfl rfl rfl rfl
theorem in44 : Tryd.prog.info? 44 = some Tryd.t44 := by kernel_rfl
@[simp] theorem ty44 : TyOne Tryd.prog 44 24 none (some 2) false := tyOne_slice in44 Tryd.underlying44 rfl rfl
@[simp] theorem tz44 : TyZ Tryd.prog 44 [.nils] := tyZ in44 rfl rfl rfl rfl
theorem in52 : Tryd.prog.info? 52 = some Tryd.t52 := by kernel_rfl
@[simp] theorem ty52 : TyOne Tryd.prog 52 24 none (some 44) false := tyOne_slice in52 Tryd.underlying52 rfl rfl
@[simp] theorem tz52 : TyZ Tryd.prog 52 [.nils] := tyZ in52 rfl rfl rfl rfl
theorem in55 : Tryd.prog.info? 55 = some Tryd.t55 := by kernel_rfl
@[simp] theorem ty55 : TyOne Tryd.prog 55 24 none (some 9) false := tyOne_slice in55 Tryd.underlying55 rfl rfl
@[simp] theorem tz55 : TyZ Tryd.prog 55 [.nils] := tyZ in55 rfl rfl rfl rfl
theorem in61 : Tryd.prog.info? 61 = some Tryd.t61 := by kernel_rfl
@[simp] theorem ty61 : TyAgg Tryd.prog 61 5 48 := tyAgg_struct in61 Tryd.underlying61 rfl rfl
@[simp] theorem tz61 : TyZ Tryd.prog 61 [.str [], .int .i64 0, .int .i64 0, .int .i64 0, .int .i64 0] := tyZ in61 rfl rfl rfl rfl
theorem in63 : Tryd.prog.info? 63 = some Tryd.t63 := by kernel_rfl
@[simp] theorem ty63 : TyAgg Tryd.prog 63 5 48 := tyAgg_struct in63 Tryd.underlying63 rfl rfl
@[simp] theorem tz63 : TyZ Tryd.prog 63 [.str [], .int .i64 0, .int .i64 0, .int .i64 0, .int .i64 0] := tyZ in63 rfl rfl rfl rfl
theorem in69 : Tryd.prog.info? 69 = some Tryd.t69 := by kernel_rfl
@[simp] theorem ty69 : TyAgg Tryd.prog 69 3 32 := tyAgg_struct in69 Tryd.underlying69 rfl rfl
@[simp] theorem tz69 : TyZ Tryd.prog 69 [.str [], .int .i64 0, .int .i64 0] := tyZ in69 rfl rfl rfl rfl
theorem in74 : Tryd.prog.info? 74 = some Tryd.t74 := by kernel_rfl
@[simp] theorem ty74 : TyAgg Tryd.prog 74 3 40 := tyAgg_struct in74 Tryd.underlying74 rfl rfl
@[simp] theorem tz74 : TyZ Tryd.prog 74 [.int .i64 0, .str [], .str []] := tyZ in74 rfl rfl rfl rfl
theorem in77 : Tryd.prog.info? 77 = some Tryd.t77 := by kernel_rfl
@[simp] theorem ty77 : TyAgg Tryd.prog 77 3 40 := tyAgg_struct in77 Tryd.underlying77 rfl rfl
@[simp] theorem tz77 : TyZ Tryd.prog 77 [.int .i64 0, .str [], .str []] := tyZ in77 rfl rfl rfl rfl
theorem in79 : Tryd.prog.info? 79 = some Tryd.t79 := by kernel_rfl
@[simp] theorem ty79 : TyOne Tryd.prog 79 8 none none false := tyOne_pointer in79 Tryd.underlying79 rfl rfl
@[simp] theorem tz79 : TyZ Tryd.prog 79 [.raw (.pointer none)] := tyZ in79 rfl rfl rfl rfl
theorem in81 : Tryd.prog.info? 81 = some Tryd.t81 := by kernel_rfl
@[simp] theorem ty81 : TyAgg Tryd.prog 81 2 32 := tyAgg_struct in81 Tryd.underlying81 rfl rfl
@[simp] theorem tz81 : TyZ Tryd.prog 81 [.raw (.pointer none), .nils] := tyZ in81 rfl rfl rfl rfl
theorem in85 : Tryd.prog.info? 85 = some Tryd.t85 := by kernel_rfl
theorem in91 : Tryd.prog.info? 91 = some Tryd.t91 := by kernel_rfl
@[simp] theorem ty91 : TyOne Tryd.prog 91 8 none none false := tyOne_pointer in91 Tryd.underlying91 rfl rfl
@[simp] theorem tz91 : TyZ Tryd.prog 91 [.raw (.pointer none)] := tyZ in91 rfl rfl rfl rfl
theorem in103 : Tryd.prog.info? 103 = some Tryd.t103 := by kernel_rfl
@[simp] theorem ty103 : TyOne Tryd.prog 103 8 none none false := tyOne_func in103 Tryd.underlying103 rfl rfl
@[simp] theorem tz103 : TyZ Tryd.prog 103 [.raw .nilFunc] := tyZ in103 rfl rfl rfl rfl
theorem in105 : Tryd.prog.info? 105 = some Tryd.t105 := by kernel_rfl
@[simp] theorem ty105 : TyOne Tryd.prog 105 8 none none false := tyOne_pointer in105 Tryd.underlying105 rfl rfl
@[simp] theorem tz105 : TyZ Tryd.prog 105 [.raw (.pointer none)] := tyZ in105 rfl rfl rfl rfl
theorem in111 : Tryd.prog.info? 111 = some Tryd.t111 := by kernel_rfl
@[simp] theorem ty111 : TyOne Tryd.prog 111 8 none none false := tyOne_pointer in111 Tryd.underlying111 rfl rfl
@[simp] theorem tz111 : TyZ Tryd.prog 111 [.raw (.pointer none)] := tyZ in111 rfl rfl rfl rfl
theorem in118 : Tryd.prog.info? 118 = some Tryd.t118 := by kernel_rfl
@[simp] theorem ty118 : TyOne Tryd.prog 118 8 none none false := tyOne_pointer in118 Tryd.underlying118 rfl rfl
@[simp] theorem tz118 : TyZ Tryd.prog 118 [.raw (.pointer none)] := tyZ in118 rfl rfl rfl rfl
theorem in124 : Tryd.prog.info? 124 = some Tryd.t124 := by kernel_rfl
@[simp] theorem ty124 : TyOne Tryd.prog 124 8 (some .u64) none false := tyOne_int in124 Tryd.underlying124 rfl rfl
@[simp] theorem tz124 : TyZ Tryd.prog 124 [.int .u64 0] := tyZ in124 rfl rfl rfl rfl
theorem in126 : Tryd.prog.info? 126 = some Tryd.t126 := by kernel_rfl
@[simp] theorem ty126 : TyOne Tryd.prog 126 8 none none false := tyOne_pointer in126 Tryd.underlying126 rfl rfl
@[simp] theorem tz126 : TyZ Tryd.prog 126 [.raw (.pointer none)] := tyZ in126 rfl rfl rfl rfl
theorem in127 : Tryd.prog.info? 127 = some Tryd.t127 := by kernel_rfl
@[simp] theorem ty127 : TyOne Tryd.prog 127 8 (some .u64) none false := tyOne_int in127 Tryd.underlying127 rfl rfl
@[simp] theorem tz127 : TyZ Tryd.prog 127 [.int .u64 0] := tyZ in127 rfl rfl rfl rfl
theorem in129 : Tryd.prog.info? 129 = some Tryd.t129 := by kernel_rfl
@[simp] theorem ty129 : TyAgg Tryd.prog 129 3 40 := tyAgg_struct in129 Tryd.underlying129 rfl rfl
@[simp] theorem tz129 : TyZ Tryd.prog 129 [.nils, .int .i64 0, .int .u64 0] := tyZ in129 rfl rfl rfl rfl
theorem in140 : Tryd.prog.info? 140 = some Tryd.t140 := by kernel_rfl
@[simp] theorem ty140 : TyOne Tryd.prog 140 8 none none false := tyOne_func in140 Tryd.underlying140 rfl rfl
@[simp] theorem tz140 : TyZ Tryd.prog 140 [.raw .nilFunc] := tyZ in140 rfl rfl rfl rfl
theorem in142 : Tryd.prog.info? 142 = some Tryd.t142 := by kernel_rfl
@[simp] theorem ty142 : TyOne Tryd.prog 142 24 none (some 145) false := tyOne_slice in142 Tryd.underlying142 rfl rfl
@[simp] theorem tz142 : TyZ Tryd.prog 142 [.nils] := tyZ in142 rfl rfl rfl rfl
theorem in145 : Tryd.prog.info? 145 = some Tryd.t145 := by kernel_rfl
@[simp] theorem ty145 : TyAgg Tryd.prog 145 2 32 := tyAgg_struct in145 Tryd.underlying145 rfl rfl
@[simp] theorem tz145 : TyZ Tryd.prog 145 [.str [], .str []] := tyZ in145 rfl rfl rfl rfl
theorem in150 : Tryd.prog.info? 150 = some Tryd.t150 := by kernel_rfl
theorem in158 : Tryd.prog.info? 158 = some Tryd.t158 := by kernel_rfl
@[simp] theorem ty158 : TyOne Tryd.prog 158 8 none none false := tyOne_func in158 Tryd.underlying158 rfl rfl
@[simp] theorem tz158 : TyZ Tryd.prog 158 [.raw .nilFunc] := tyZ in158 rfl rfl rfl rfl
theorem in160 : Tryd.prog.info? 160 = some Tryd.t160 := by kernel_rfl
@[simp] theorem ty160 : TyAgg Tryd.prog 160 91 728 := tyAgg_array in160 Tryd.underlying160 rfl rfl
@[simp] theorem ar160 : arrT Tryd.prog 160 = some (91, 2) := arrOf Tryd.underlying160
theorem in164 : Tryd.prog.info? 164 = some Tryd.t164 := by kernel_rfl
@[simp] theorem ty164 : TyOne Tryd.prog 164 8 none none false := tyOne_func in164 Tryd.underlying164 rfl rfl
@[simp] theorem tz164 : TyZ Tryd.prog 164 [.raw .nilFunc] := tyZ in164 rfl rfl rfl rfl
theorem in167 : Tryd.prog.info? 167 = some Tryd.t167 := by kernel_rfl
@[simp] theorem ty167 : TyAgg Tryd.prog 167 24 24 := tyAgg_array in167 Tryd.underlying167 rfl rfl
@[simp] theorem ar167 : arrT Tryd.prog 167 = some (24, 5) := arrOf Tryd.underlying167
@[simp] theorem tz167 : TyZ Tryd.prog 167 [.int .u8 0, .int .u8 0, .int .u8 0, .int .u8 0, .int .u8 0, .int .u8 0, .int .u8 0, .int .u8 0, .int .u8 0, .int .u8 0, .int .u8 0, .int .u8 0, .int .u8 0, .int .u8 0, .int .u8 0, .int .u8 0, .int .u8 0, .int .u8 0, .int .u8 0, .int .u8 0, .int .u8 0, .int .u8 0, .int .u8 0, .int .u8 0] := tyZ in167 rfl rfl rfl rfl
theorem in173 : Tryd.prog.info? 173 = some Tryd.t173 := by kernel_rfl
@[simp] theorem ty173 : TyOne Tryd.prog 173 8 (some .i64) none false := tyOne_int in173 Tryd.underlying173 rfl rfl
@[simp] theorem tz173 : TyZ Tryd.prog 173 [.int .i64 0] := tyZ in173 rfl rfl rfl rfl
theorem in181 : Tryd.prog.info? 181 = some Tryd.t181 := by kernel_rfl
@[simp] theorem ty181 : TyOne Tryd.prog 181 4 (some .u32) none false := tyOne_int in181 Tryd.underlying181 rfl rfl
@[simp] theorem tz181 : TyZ Tryd.prog 181 [.int .u32 0] := tyZ in181 rfl rfl rfl rfl
theorem in188 : Tryd.prog.info? 188 = some Tryd.t188 := by kernel_rfl
@[simp] theorem ty188 : TyAgg Tryd.prog 188 20 160 := tyAgg_array in188 Tryd.underlying188 rfl rfl
@[simp] theorem ar188 : arrT Tryd.prog 188 = some (20, 127) := arrOf Tryd.underlying188
@[simp] theorem tz188 : TyZ Tryd.prog 188 [.int .u64 0, .int .u64 0, .int .u64 0, .int .u64 0, .int .u64 0, .int .u64 0, .int .u64 0, .int .u64 0, .int .u64 0, .int .u64 0, .int .u64 0, .int .u64 0, .int .u64 0, .int .u64 0, .int .u64 0, .int .u64 0, .int .u64 0, .int .u64 0, .int .u64 0, .int .u64 0] := tyZ in188 rfl rfl rfl rfl
theorem in189 : Tryd.prog.info? 189 = some Tryd.t189 := by kernel_rfl
@[simp] theorem ty189 : TyAgg Tryd.prog 189 65 65 := tyAgg_array in189 Tryd.underlying189 rfl rfl
@[simp] theorem ar189 : arrT Tryd.prog 189 = some (65, 5) := arrOf Tryd.underlying189
theorem in191 : Tryd.prog.info? 191 = some Tryd.t191 := by kernel_rfl
@[simp] theorem ty191 : TyOne Tryd.prog 191 8 (some .u64) none false := tyOne_int in191 Tryd.underlying191 rfl rfl
@[simp] theorem tz191 : TyZ Tryd.prog 191 [.int .u64 0] := tyZ in191 rfl rfl rfl rfl
theorem in195 : Tryd.prog.info? 195 = some Tryd.t195 := by kernel_rfl
@[simp] theorem ty195 : TyOne Tryd.prog 195 8 none none false := tyOne_pointer in195 Tryd.underlying195 rfl rfl
@[simp] theorem tz195 : TyZ Tryd.prog 195 [.raw (.pointer none)] := tyZ in195 rfl rfl rfl rfl
theorem in200 : Tryd.prog.info? 200 = some Tryd.t200 := by kernel_rfl
@[simp] theorem ty200 : TyOne Tryd.prog 200 8 none none false := tyOne_pointer in200 Tryd.underlying200 rfl rfl
@[simp] theorem tz200 : TyZ Tryd.prog 200 [.raw (.pointer none)] := tyZ in200 rfl rfl rfl rfl
theorem in204 : Tryd.prog.info? 204 = some Tryd.t204 := by kernel_rfl
@[simp] theorem ty204 : TyAgg Tryd.prog 204 32 32 := tyAgg_array in204 Tryd.underlying204 rfl rfl
@[simp] theorem ar204 : arrT Tryd.prog 204 = some (32, 5) := arrOf Tryd.underlying204
@[simp] theorem tz204 : TyZ Tryd.prog 204 [.int .u8 0, .int .u8 0, .int .u8 0, .int .u8 0, .int .u8 0, .int .u8 0, .int .u8 0, .int .u8 0, .int .u8 0, .int .u8 0, .int .u8 0, .int .u8 0, .int .u8 0, .int .u8 0, .int .u8 0, .int .u8 0, .int .u8 0, .int .u8 0, .int .u8 0, .int .u8 0, .int .u8 0, .int .u8 0, .int .u8 0, .int .u8 0, .int .u8 0, .int .u8 0, .int .u8 0, .int .u8 0, .int .u8 0, .int .u8 0, .int .u8 0, .int .u8 0] := tyZ in204 rfl rfl rfl rfl
theorem in205 : Tryd.prog.info? 205 = some Tryd.t205 := by kernel_rfl
@[simp] theorem ty205 : TyAgg Tryd.prog 205 64 64 := tyAgg_array in205 Tryd.underlying205 rfl rfl
@[simp] theorem ar205 : arrT Tryd.prog 205 = some (64, 5) := arrOf Tryd.underlying205
@[simp] theorem tz205 : TyZ Tryd.prog 205 [.int .u8 0, .int .u8 0, .int .u8 0, .int .u8 0, .int .u8 0, .int .u8 0, .int .u8 0, .int .u8 0, .int .u8 0, .int .u8 0, .int .u8 0, .int .u8 0, .int .u8 0, .int .u8 0, .int .u8 0, .int .u8 0, .int .u8 0, .int .u8 0, .int .u8 0, .int .u8 0, .int .u8 0, .int .u8 0, .int .u8 0, .int .u8 0, .int .u8 0, .int .u8 0, .int .u8 0, .int .u8 0, .int .u8 0, .int .u8 0, .int .u8 0, .int .u8 0, .int .u8 0, .int .u8 0, .int .u8 0, .int .u8 0, .int .u8 0, .int .u8 0, .int .u8 0, .int .u8 0, .int .u8 0, .int .u8 0, .int .u8 0, .int .u8 0, .int .u8 0, .int .u8 0, .int .u8 0, .int .u8 0, .int .u8 0, .int .u8 0, .int .u8 0, .int .u8 0, .int .u8 0, .int .u8 0, .int .u8 0, .int .u8 0, .int .u8 0, .int .u8 0, .int .u8 0, .int .u8 0, .int .u8 0, .int .u8 0, .int .u8 0, .int .u8 0] := tyZ in205 rfl rfl rfl rfl
theorem in206 : Tryd.prog.info? 206 = some Tryd.t206 := by kernel_rfl
@[simp] theorem ty206 : TyAgg Tryd.prog 206 256 256 := tyAgg_array in206 Tryd.underlying206 rfl rfl
@[simp] theorem ar206 : arrT Tryd.prog 206 = some (256, 5) := arrOf Tryd.underlying206
theorem in208 : Tryd.prog.info? 208 = some Tryd.t208 := by kernel_rfl
@[simp] theorem ty208 : TyAgg Tryd.prog 208 2 2 := tyAgg_struct in208 Tryd.underlying208 rfl rfl
@[simp] theorem tz208 : TyZ Tryd.prog 208 [.int .u8 0, .int .u8 0] := tyZ in208 rfl rfl rfl rfl
theorem in209 : Tryd.prog.info? 209 = some Tryd.t209 := by kernel_rfl
@[simp] theorem ty209 : TyAgg Tryd.prog 209 32 32 := tyAgg_array in209 Tryd.underlying209 rfl rfl
@[simp] theorem ar209 : arrT Tryd.prog 209 = some (16, 208) := arrOf Tryd.underlying209
@[simp] theorem tz209 : TyZ Tryd.prog 209 [.int .u8 0, .int .u8 0, .int .u8 0, .int .u8 0, .int .u8 0, .int .u8 0, .int .u8 0, .int .u8 0, .int .u8 0, .int .u8 0, .int .u8 0, .int .u8 0, .int .u8 0, .int .u8 0, .int .u8 0, .int .u8 0, .int .u8 0, .int .u8 0, .int .u8 0, .int .u8 0, .int .u8 0, .int .u8 0, .int .u8 0, .int .u8 0, .int .u8 0, .int .u8 0, .int .u8 0, .int .u8 0, .int .u8 0, .int .u8 0, .int .u8 0, .int .u8 0] := tyZ in209 rfl rfl rfl rfl
theorem in219 : Tryd.prog.info? 219 = some Tryd.t219 := by kernel_rfl
@[simp] theorem ty219 : TyOne Tryd.prog 219 1 (some .u8) none false := tyOne_int in219 Tryd.underlying219 rfl rfl
@[simp] theorem tz219 : TyZ Tryd.prog 219 [.int .u8 0] := tyZ in219 rfl rfl rfl rfl
@[simp] theorem gv1 : globV 1 = .pe 20 [powT] 0 0 := rfl
@[simp] theorem ts8 : structT Tryd.prog 8 = true := structOf Tryd.underlying8 (by simp [in2, in3, in4, in6])
@[simp] theorem fl8_0 : fldT Tryd.prog 8 0 = some (0, false, 1) := fldOf Tryd.underlying8 rfl rfl ty2.1 ty2.2.1 ty2.2.2.1
@[simp] theorem fl8_1 : fldT Tryd.prog 8 1 = some (1, false, 1) := fldOf Tryd.underlying8 rfl rfl ty3.1 ty3.2.1 ty3.2.2.1
@[simp] theorem fl8_2 : fldT Tryd.prog 8 2 = some (2, false, 1) := fldOf Tryd.underlying8 rfl rfl ty4.1 ty4.2.1 ty4.2.2.1
@[simp] theorem fl8_3 : fldT Tryd.prog 8 3 = some (3, false, 1) := fldOf Tryd.underlying8 rfl rfl ty6.1 ty6.2.1 ty6.2.2.1
@[simp] theorem ts14 : structT Tryd.prog 14 = true := structOf Tryd.underlying14 (by simp [in12, in9])
@[simp] theorem fl14_0 : fldT Tryd.prog 14 0 = some (0, false, 1) := fldOf Tryd.underlying14 rfl rfl ty9.1 ty9.2.1 ty9.2.2.1
@[simp] theorem fl14_1 : fldT Tryd.prog 14 1 = some (1, false, 1) := fldOf Tryd.underlying14 rfl rfl ty12.1 ty12.2.1 ty12.2.2.1
@[simp] theorem ts19 : structT Tryd.prog 19 = true := structOf Tryd.underlying19 (by simp [in17])
@[simp] theorem fl19_0 : fldT Tryd.prog 19 0 = some (0, false, 1) := fldOf Tryd.underlying19 rfl rfl ty17.1 ty17.2.1 ty17.2.2.1
@[simp] theorem ts61 : structT Tryd.prog 61 = true := structOf Tryd.underlying61 (by simp [in2, in9])
@[simp] theorem fl61_0 : fldT Tryd.prog 61 0 = some (0, false, 1) := fldOf Tryd.underlying61 rfl rfl ty9.1 ty9.2.1 ty9.2.2.1
@[simp] theorem fl61_1 : fldT Tryd.prog 61 1 = some (1, false, 1) := fldOf Tryd.underlying61 rfl rfl ty2.1 ty2.2.1 ty2.2.2.1
@[simp] theorem fl61_2 : fldT Tryd.prog 61 2 = some (2, false, 1) := fldOf Tryd.underlying61 rfl rfl ty2.1 ty2.2.1 ty2.2.2.1
@[simp] theorem fl61_3 : fldT Tryd.prog 61 3 = some (3, false, 1) := fldOf Tryd.underlying61 rfl rfl ty2.1 ty2.2.1 ty2.2.2.1
@[simp] theorem fl61_4 : fldT Tryd.prog 61 4 = some (4, false, 1) := fldOf Tryd.underlying61 rfl rfl ty2.1 ty2.2.1 ty2.2.2.1
@[simp] theorem ts63 : structT Tryd.prog 63 = true := structOf Tryd.underlying63 (by simp [in2, in9])
@[simp] theorem fl63_0 : fldT Tryd.prog 63 0 = some (0, false, 1) := fldOf Tryd.underlying63 rfl rfl ty9.1 ty9.2.1 ty9.2.2.1
@[simp] theorem fl63_1 : fldT Tryd.prog 63 1 = some (1, false, 1) := fldOf Tryd.underlying63 rfl rfl ty2.1 ty2.2.1 ty2.2.2.1
@[simp] theorem fl63_2 : fldT Tryd.prog 63 2 = some (2, false, 1) := fldOf Tryd.underlying63 rfl rfl ty2.1 ty2.2.1 ty2.2.2.1
@[simp] theorem fl63_3 : fldT Tryd.prog 63 3 = some (3, false, 1) := fldOf Tryd.underlying63 rfl rfl ty2.1 ty2.2.1 ty2.2.2.1
@[simp] theorem fl63_4 : fldT Tryd.prog 63 4 = some (4, false, 1) := fldOf Tryd.underlying63 rfl rfl ty2.1 ty2.2.1 ty2.2.2.1
@[simp] theorem ts69 : structT Tryd.prog 69 = true := structOf Tryd.underlying69 (by simp [in2, in9])
@[simp] theorem fl69_0 : fldT Tryd.prog 69 0 = some (0, false, 1) := fldOf Tryd.underlying69 rfl rfl ty9.1 ty9.2.1 ty9.2.2.1
@[simp] theorem fl69_1 : fldT Tryd.prog 69 1 = some (1, false, 1) := fldOf Tryd.underlying69 rfl rfl ty2.1 ty2.2.1 ty2.2.2.1
@[simp] theorem fl69_2 : fldT Tryd.prog 69 2 = some (2, false, 1) := fldOf Tryd.underlying69 rfl rfl ty2.1 ty2.2.1 ty2.2.2.1
@[simp] theorem ts74 : structT Tryd.prog 74 = true := structOf Tryd.underlying74 (by simp [in2, in9])
@[simp] theorem fl74_0 : fldT Tryd.prog 74 0 = some (0, false, 1) := fldOf Tryd.underlying74 rfl rfl ty2.1 ty2.2.1 ty2.2.2.1
@[simp] theorem fl74_1 : fldT Tryd.prog 74 1 = some (1, false, 1) := fldOf Tryd.underlying74 rfl rfl ty9.1 ty9.2.1 ty9.2.2.1
@[simp] theorem fl74_2 : fldT Tryd.prog 74 2 = some (2, false, 1) := fldOf Tryd.underlying74 rfl rfl ty9.1 ty9.2.1 ty9.2.2.1
@[simp] theorem ts77 : structT Tryd.prog 77 = true := structOf Tryd.underlying77 (by simp [in2, in9])
@[simp] theorem fl77_0 : fldT Tryd.prog 77 0 = some (0, false, 1) := fldOf Tryd.underlying77 rfl rfl ty2.1 ty2.2.1 ty2.2.2.1
@[simp] theorem fl77_1 : fldT Tryd.prog 77 1 = some (1, false, 1) := fldOf Tryd.underlying77 rfl rfl ty9.1 ty9.2.1 ty9.2.2.1
@[simp] theorem fl77_2 : fldT Tryd.prog 77 2 = some (2, false, 1) := fldOf Tryd.underlying77 rfl rfl ty9.1 ty9.2.1 ty9.2.2.1
@[simp] theorem ts81 : structT Tryd.prog 81 = true := structOf Tryd.underlying81 (by simp [in42, in79])
@[simp] theorem fl81_0 : fldT Tryd.prog 81 0 = some (0, false, 1) := fldOf Tryd.underlying81 rfl rfl ty79.1 ty79.2.1 ty79.2.2.1
@[simp] theorem fl81_1 : fldT Tryd.prog 81 1 = some (1, false, 1) := fldOf Tryd.underlying81 rfl rfl ty42.1 ty42.2.1 ty42.2.2.1
@[simp] theorem ts129 : structT Tryd.prog 129 = true := structOf Tryd.underlying129 (by simp [in127, in3, in42])
@[simp] theorem fl129_0 : fldT Tryd.prog 129 0 = some (0, false, 1) := fldOf Tryd.underlying129 rfl rfl ty42.1 ty42.2.1 ty42.2.2.1
@[simp] theorem fl129_1 : fldT Tryd.prog 129 1 = some (1, false, 1) := fldOf Tryd.underlying129 rfl rfl ty3.1 ty3.2.1 ty3.2.2.1
@[simp] theorem fl129_2 : fldT Tryd.prog 129 2 = some (2, false, 1) := fldOf Tryd.underlying129 rfl rfl ty127.1 ty127.2.1 ty127.2.2.1
@[simp] theorem ts145 : structT Tryd.prog 145 = true := structOf Tryd.underlying145 (by simp [in9])
@[simp] theorem fl145_0 : fldT Tryd.prog 145 0 = some (0, false, 1) := fldOf Tryd.underlying145 rfl rfl ty9.1 ty9.2.1 ty9.2.2.1
@[simp] theorem fl145_1 : fldT Tryd.prog 145 1 = some (1, false, 1) := fldOf Tryd.underlying145 rfl rfl ty9.1 ty9.2.1 ty9.2.2.1
@[simp] theorem ts208 : structT Tryd.prog 208 = true := structOf Tryd.underlying208 (by simp [in5])
@[simp] theorem fl208_0 : fldT Tryd.prog 208 0 = some (0, false, 1) := fldOf Tryd.underlying208 rfl rfl ty5.1 ty5.2.1 ty5.2.2.1
@[simp] theorem fl208_1 : fldT Tryd.prog 208 1 = some (1, false, 1) := fldOf Tryd.underlying208 rfl rfl ty5.1 ty5.2.1 ty5.2.2.1
@[simp] theorem res_3 : Tryd.f3.results.toList = [.tmp 2] := rfl
@[simp] theorem res_4 : Tryd.f4.results.toList = [.tmp 2] := rfl
@[simp] theorem res_5 : Tryd.f5.results.toList = [.tmp 4] := rfl
@[simp] theorem res_6 : Tryd.f6.results.toList = [.tmp 4] := rfl
@[simp] theorem res_7 : Tryd.f7.results.toList = [.tmp 2, .tmp 3] := rfl
@[simp] theorem res_8 : Tryd.f8.results.toList = [.tmp 2] := rfl
@[simp] theorem res_9 : Tryd.f9.results.toList = [.tmp 2, .tmp 3] := rfl
@[simp] theorem res_10 : Tryd.f10.results.toList = [.tmp 4] := rfl
@[simp] theorem res_11 : Tryd.f11.results.toList = [.tmp 4] := rfl
@[simp] theorem res_12 : Tryd.f12.results.toList = [.tmp 4] := rfl
@[simp] theorem res_13 : Tryd.f13.results.toList = [.tmp 4] := rfl
@[simp] theorem res_14 : Tryd.f14.results.toList = [.tmp 4] := rfl
@[simp] theorem res_15 : Tryd.f15.results.toList = [.tmp 4] := rfl
@[simp] theorem res_16 : Tryd.f16.results.toList = [.tmp 2, .tmp 3] := rfl
@[simp] theorem res_17 : Tryd.f17.results.toList = [.tmp 2] := rfl
@[simp] theorem res_18 : Tryd.f18.results.toList = [.tmp 2, .tmp 3] := rfl
@[simp] theorem res_19 : Tryd.f19.results.toList = [.tmp 4] := rfl
@[simp] theorem res_20 : Tryd.f20.results.toList = [.tmp 4] := rfl
@[simp] theorem res_21 : Tryd.f21.results.toList = [.tmp 2] := rfl
@[simp] theorem res_22 : Tryd.f22.results.toList = [.tmp 4] := rfl
@[simp] theorem res_23 : Tryd.f23.results.toList = [.tmp 4, .tmp 5] := rfl
@[simp] theorem res_24 : Tryd.f24.results.toList = [.tmp 4] := rfl
@[simp] theorem res_25 : Tryd.f25.results.toList = [.tmp 4] := rfl
@[simp] theorem res_26 : Tryd.f26.results.toList = [.tmp 2] := rfl
@[simp] theorem res_27 : Tryd.f27.results.toList = [.tmp 4, .tmp 5] := rfl
@[simp] theorem res_28 : Tryd.f28.results.toList = [.tmp 4, .tmp 5] := rfl
@[simp] theorem res_29 : Tryd.f29.results.toList = [.tmp 2, .tmp 3] := rfl
@[simp] theorem res_30 : Tryd.f30.results.toList = [.tmp 4] := rfl
@[simp] theorem res_31 : Tryd.f31.results.toList = [.tmp 2] := rfl
@[simp] theorem res_32 : Tryd.f32.results.toList = [.tmp 2, .tmp 3] := rfl
@[simp] theorem res_33 : Tryd.f33.results.toList = [.cell 2 63] := rfl
@[simp] theorem res_34 : Tryd.f34.results.toList = [.tmp 2] := rfl
@[simp] theorem res_35 : Tryd.f35.results.toList = [.tmp 2, .tmp 3] := rfl
@[simp] theorem res_36 : Tryd.f36.results.toList = [.tmp 4] := rfl
@[simp] theorem res_37 : Tryd.f37.results.toList = [.tmp 4] := rfl
@[simp] theorem res_38 : Tryd.f38.results.toList = [.tmp 2] := rfl
@[simp] theorem res_39 : Tryd.f39.results.toList = [.tmp 4] := rfl
@[simp] theorem res_40 : Tryd.f40.results.toList = [.tmp 2] := rfl
@[simp] theorem res_41 : Tryd.f41.results.toList = [.tmp 2] := rfl
@[simp] theorem res_42 : Tryd.f42.results.toList = [.cell 2 77] := rfl
@[simp] theorem res_43 : Tryd.f43.results.toList = [.tmp 2] := rfl
@[simp] theorem res_44 : Tryd.f44.results.toList = [.tmp 4] := rfl
@[simp] theorem res_45 : Tryd.f45.results.toList = [.tmp 2] := rfl
@[simp] theorem res_46 : Tryd.f46.results.toList = [.tmp 4, .tmp 5] := rfl
@[simp] theorem res_47 : Tryd.f47.results.toList = [.tmp 2] := rfl
@[simp] theorem res_48 : Tryd.f48.results.toList = [.tmp 2] := rfl
@[simp] theorem res_49 : Tryd.f49.results.toList = [.tmp 4] := rfl
@[simp] theorem res_50 : Tryd.f50.results.toList = [.tmp 2] := rfl
@[simp] theorem res_51 : Tryd.f51.results.toList = [.tmp 2] := rfl
@[simp] theorem res_52 : Tryd.f52.results.toList = [.tmp 4] := rfl
@[simp] theorem res_53 : Tryd.f53.results.toList = [.tmp 4] := rfl
@[simp] theorem res_54 : Tryd.f54.results.toList = [.tmp 2] := rfl
@[simp] theorem res_55 : Tryd.f55.results.toList = [.tmp 2] := rfl
@[simp] theorem res_56 : Tryd.f56.results.toList = [.tmp 4] := rfl
@[simp] theorem res_57 : Tryd.f57.results.toList = [.tmp 4, .tmp 5] := rfl
@[simp] theorem res_58 : Tryd.f58.results.toList = [.tmp 2] := rfl
@[simp] theorem res_59 : Tryd.f59.results.toList = [.tmp 2] := rfl
@[simp] theorem res_60 : Tryd.f60.results.toList = [.tmp 2] := rfl
@[simp] theorem res_61 : Tryd.f61.results.toList = [.tmp 2] := rfl
@[simp] theorem res_62 : Tryd.f62.results.toList = [.tmp 4] := rfl
@[simp] theorem res_63 : Tryd.f63.results.toList = [.tmp 3] := rfl
@[simp] theorem res_64 : Tryd.f64.results.toList = [.tmp 2] := rfl
@[simp] theorem res_65 : Tryd.f65.results.toList = [.tmp 4, .tmp 5] := rfl
@[simp] theorem res_66 : Tryd.f66.results.toList = [.tmp 4] := rfl
@[simp] theorem res_67 : Tryd.f67.results.toList = [.tmp 4] := rfl
@[simp] theorem res_68 : Tryd.f68.results.toList = [.tmp 2] := rfl
@[simp] theorem res_69 : Tryd.f69.results.toList = [.tmp 2] := rfl
@[simp] theorem res_70 : Tryd.f70.results.toList = [.tmp 2] := rfl
@[simp] theorem res_71 : Tryd.f71.results.toList = [.tmp 2, .tmp 3, .tmp 4] := rfl
@[simp] theorem res_72 : Tryd.f72.results.toList = [.tmp 4] := rfl
@[simp] theorem res_73 : Tryd.f73.results.toList = [.tmp 2] := rfl
@[simp] theorem res_74 : Tryd.f74.results.toList = [.tmp 2] := rfl
@[simp] theorem res_75 : Tryd.f75.results.toList = [.tmp 2] := rfl
@[simp] theorem res_76 : Tryd.f76.results.toList = [.tmp 6] := rfl
@[simp] theorem res_77 : Tryd.f77.results.toList = [.tmp 2] := rfl
@[simp] theorem res_78 : Tryd.f78.results.toList = [.tmp 4] := rfl
@[simp] theorem res_79 : Tryd.f79.results.toList = [.tmp 2] := rfl
@[simp] theorem res_80 : Tryd.f80.results.toList = [.tmp 2] := rfl
@[simp] theorem res_81 : Tryd.f81.results.toList = [.tmp 4] := rfl
@[simp] theorem res_82 : Tryd.f82.results.toList = [.tmp 6] := rfl
@[simp] theorem res_83 : Tryd.f83.results.toList = [] := rfl
@[simp] theorem res_84 : Tryd.f84.results.toList = [.tmp 4] := rfl
@[simp] theorem res_85 : Tryd.f85.results.toList = [.tmp 4] := rfl
@[simp] theorem res_86 : Tryd.f86.results.toList = [.tmp 2] := rfl
@[simp] theorem res_87 : Tryd.f87.results.toList = [.tmp 4] := rfl
@[simp] theorem res_88 : Tryd.f88.results.toList = [.tmp 2] := rfl
@[simp] theorem res_89 : Tryd.f89.results.toList = [.tmp 2] := rfl
@[simp] theorem res_90 : Tryd.f90.results.toList = [.tmp 4, .tmp 5] := rfl
@[simp] theorem res_91 : Tryd.f91.results.toList = [.tmp 2] := rfl
@[simp] theorem res_92 : Tryd.f92.results.toList = [] := rfl
@[simp] theorem res_93 : Tryd.f93.results.toList = [.tmp 4] := rfl
@[simp] theorem res_94 : Tryd.f94.results.toList = [.tmp 4] := rfl
@[simp] theorem res_95 : Tryd.f95.results.toList = [.tmp 4] := rfl
@[simp] theorem res_96 : Tryd.f96.results.toList = [.tmp 6] := rfl
@[simp] theorem res_97 : Tryd.f97.results.toList = [.tmp 4] := rfl
@[simp] theorem res_98 : Tryd.f98.results.toList = [.tmp 4] := rfl
@[simp] theorem res_99 : Tryd.f99.results.toList = [.tmp 4] := rfl
@[simp] theorem res_100 : Tryd.f100.results.toList = [.tmp 2] := rfl
@[simp] theorem res_101 : Tryd.f101.results.toList = [.tmp 4] := rfl
@[simp] theorem res_102 : Tryd.f102.results.toList = [.tmp 4] := rfl
@[simp] theorem res_103 : Tryd.f103.results.toList = [.tmp 2] := rfl
@[simp] theorem res_104 : Tryd.f104.results.toList = [.tmp 2] := rfl
@[simp] theorem res_105 : Tryd.f105.results.toList = [.tmp 2] := rfl
@[simp] theorem res_106 : Tryd.f106.results.toList = [.tmp 2] := rfl
@[simp] theorem res_107 : Tryd.f107.results.toList = [.tmp 4, .tmp 5, .tmp 6] := rfl
@[simp] theorem res_108 : Tryd.f108.results.toList = [.tmp 4] := rfl
@[simp] theorem res_109 : Tryd.f109.results.toList = [.tmp 2] := rfl
@[simp] theorem res_110 : Tryd.f110.results.toList = [.tmp 2] := rfl
@[simp] theorem res_111 : Tryd.f111.results.toList = [.tmp 2] := rfl
@[simp] theorem res_112 : Tryd.f112.results.toList = [.tmp 2] := rfl
@[simp] theorem res_113 : Tryd.f113.results.toList = [.tmp 2] := rfl
@[simp] theorem res_114 : Tryd.f114.results.toList = [.tmp 4, .tmp 5] := rfl
@[simp] theorem res_115 : Tryd.f115.results.toList = [.tmp 4] := rfl
@[simp] theorem res_116 : Tryd.f116.results.toList = [.tmp 4] := rfl
@[simp] theorem res_117 : Tryd.f117.results.toList = [.tmp 2] := rfl
@[simp] theorem res_118 : Tryd.f118.results.toList = [.tmp 4, .tmp 5] := rfl
@[simp] theorem res_119 : Tryd.f119.results.toList = [.tmp 2] := rfl
@[simp] theorem res_120 : Tryd.f120.results.toList = [.tmp 2, .tmp 3] := rfl
@[simp] theorem res_122 : Tryd.f122.results.toList = [.tmp 4] := rfl
@[simp] theorem res_123 : Tryd.f123.results.toList = [.tmp 2] := rfl
@[simp] theorem res_124 : Tryd.f124.results.toList = [.tmp 2] := rfl
@[simp] theorem res_125 : Tryd.f125.results.toList = [] := rfl
@[simp] theorem res_126 : Tryd.f126.results.toList = [.tmp 2] := rfl
@[simp] theorem res_127 : Tryd.f127.results.toList = [.tmp 4] := rfl
@[simp] theorem res_128 : Tryd.f128.results.toList = [.tmp 4] := rfl
@[simp] theorem res_129 : Tryd.f129.results.toList = [.tmp 8] := rfl
@[simp] theorem res_130 : Tryd.f130.results.toList = [.tmp 2] := rfl
@[simp] theorem res_131 : Tryd.f131.results.toList = [.tmp 2] := rfl
@[simp] theorem res_132 : Tryd.f132.results.toList = [.tmp 2] := rfl
@[simp] theorem res_133 : Tryd.f133.results.toList = [.tmp 2] := rfl
@[simp] theorem res_134 : Tryd.f134.results.toList = [.tmp 0] := rfl
@[simp] theorem res_135 : Tryd.f135.results.toList = [.tmp 2] := rfl
@[simp] theorem res_136 : Tryd.f136.results.toList = [.tmp 2] := rfl
@[simp] theorem res_137 : Tryd.f137.results.toList = [.tmp 2] := rfl
@[simp] theorem res_138 : Tryd.f138.results.toList = [.tmp 4] := rfl
@[simp] theorem res_139 : Tryd.f139.results.toList = [.tmp 2] := rfl
@[simp] theorem res_140 : Tryd.f140.results.toList = [.tmp 6, .tmp 7] := rfl
@[simp] theorem res_141 : Tryd.f141.results.toList = [.tmp 4] := rfl
@[simp] theorem res_142 : Tryd.f142.results.toList = [.tmp 4] := rfl
@[simp] theorem res_143 : Tryd.f143.results.toList = [.tmp 6] := rfl
@[simp] theorem res_144 : Tryd.f144.results.toList = [.tmp 6] := rfl
@[simp] theorem res_145 : Tryd.f145.results.toList = [.tmp 2] := rfl
@[simp] theorem res_146 : Tryd.f146.results.toList = [.tmp 2] := rfl
@[simp] theorem res_147 : Tryd.f147.results.toList = [] := rfl
@[simp] theorem res_148 : Tryd.f148.results.toList = [.tmp 10, .tmp 11] := rfl
@[simp] theorem res_149 : Tryd.f149.results.toList = [] := rfl
@[simp] theorem res_150 : Tryd.f150.results.toList = [] := rfl
@[simp] theorem res_151 : Tryd.f151.results.toList = [] := rfl
@[simp] theorem res_152 : Tryd.f152.results.toList = [.tmp 6, .tmp 7] := rfl
@[simp] theorem res_153 : Tryd.f153.results.toList = [] := rfl
@[simp] theorem res_154 : Tryd.f154.results.toList = [.tmp 6] := rfl
@[simp] theorem res_155 : Tryd.f155.results.toList = [.tmp 4] := rfl
@[simp] theorem res_156 : Tryd.f156.results.toList = [.tmp 8] := rfl
@[simp] theorem res_157 : Tryd.f157.results.toList = [.tmp 8, .tmp 9] := rfl
@[simp] theorem res_158 : Tryd.f158.results.toList = [.tmp 2] := rfl
@[simp] theorem res_159 : Tryd.f159.results.toList = [.tmp 2] := rfl
@[simp] theorem res_161 : Tryd.f161.results.toList = [.tmp 4] := rfl
@[simp] theorem res_162 : Tryd.f162.results.toList = [.tmp 4] := rfl
@[simp] theorem res_163 : Tryd.f163.results.toList = [.tmp 4] := rfl
@[simp] theorem res_164 : Tryd.f164.results.toList = [.tmp 4] := rfl
@[simp] theorem res_165 : Tryd.f165.results.toList = [.tmp 4] := rfl
@[simp] theorem res_167 : Tryd.f167.results.toList = [] := rfl
@[simp] theorem res_168 : Tryd.f168.results.toList = [.tmp 2] := rfl
@[simp] theorem res_169 : Tryd.f169.results.toList = [.tmp 2] := rfl
@[simp] theorem res_170 : Tryd.f170.results.toList = [.tmp 2] := rfl
@[simp] theorem res_171 : Tryd.f171.results.toList = [.tmp 2] := rfl
@[simp] theorem res_172 : Tryd.f172.results.toList = [] := rfl
@[simp] theorem res_173 : Tryd.f173.results.toList = [.tmp 2] := rfl
@[simp] theorem res_174 : Tryd.f174.results.toList = [.tmp 2] := rfl
@[simp] theorem res_175 : Tryd.f175.results.toList = [.tmp 6] := rfl
@[simp] theorem res_176 : Tryd.f176.results.toList = [.tmp 10] := rfl
@[simp] theorem res_177 : Tryd.f177.results.toList = [.tmp 2] := rfl
@[simp] theorem res_178 : Tryd.f178.results.toList = [.tmp 2] := rfl
@[simp] theorem res_179 : Tryd.f179.results.toList = [.tmp 2, .tmp 3] := rfl
@[simp] theorem res_181 : Tryd.f181.results.toList = [.tmp 4] := rfl
@[simp] theorem res_183 : Tryd.f183.results.toList = [] := rfl
@[simp] theorem res_184 : Tryd.f184.results.toList = [.tmp 2] := rfl
@[simp] theorem res_185 : Tryd.f185.results.toList = [.tmp 2] := rfl
@[simp] theorem res_186 : Tryd.f186.results.toList = [.tmp 8, .tmp 9] := rfl
@[simp] theorem res_187 : Tryd.f187.results.toList = [.tmp 2, .tmp 3] := rfl
@[simp] theorem res_189 : Tryd.f189.results.toList = [.tmp 2] := rfl
@[simp] theorem res_190 : Tryd.f190.results.toList = [.tmp 4] := rfl
@[simp] theorem res_191 : Tryd.f191.results.toList = [] := rfl
@[simp] theorem res_192 : Tryd.f192.results.toList = [.tmp 2, .tmp 3] := rfl
theorem hm : Tryd.prog.follows .mixedOrders = true := by kernel_rfl
end Go.Proofs.YtmdablalfmcgnaaDoor
