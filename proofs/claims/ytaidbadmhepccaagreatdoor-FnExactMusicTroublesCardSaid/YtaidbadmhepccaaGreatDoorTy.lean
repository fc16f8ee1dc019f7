/- Closed facts on the types of the program. Made by a program (gen_types.py). No condition. -/
import Derived.Test.YtaidbadmhepccaaGreatDoorAcd
import Derived.Test.YtaidbadmhepccaaGreatDoorAbz
import Derived.Test.YtaidbadmhepccaaGreatDoorProg
namespace Go.Proofs.YtaidbadmhepccaaGreatDoor
open Go Go.Ab

theorem in2 : Tryz.prog.info? 2 = some Tryz.t2 := by kernel_rfl
@[simp] theorem ty2 : TyOne Tryz.prog 2 8 (some .i64) none false := tyOne_int in2 Tryz.underlying2 rfl rfl
@[simp] theorem tz2 : TyZ Tryz.prog 2 [.int .i64 0] := tyZ in2 rfl rfl rfl rfl
theorem in3 : Tryz.prog.info? 3 = some Tryz.t3 := by kernel_rfl
@[simp] theorem ty3 : TyOne Tryz.prog 3 8 (some .i64) none false := tyOne_int in3 Tryz.underlying3 rfl rfl
@[simp] theorem tz3 : TyZ Tryz.prog 3 [.int .i64 0] := tyZ in3 rfl rfl rfl rfl
theorem in4 : Tryz.prog.info? 4 = some Tryz.t4 := by kernel_rfl
@[simp] theorem ty4 : TyOne Tryz.prog 4 1 none none false := tyOne_bool in4 Tryz.underlying4 rfl rfl
@[simp] theorem ub4 : Tryz.prog.underlying 4 = some .bool := Tryz.underlying4
@[simp] theorem tz4 : TyZ Tryz.prog 4 [.bool false] := tyZ in4 rfl rfl rfl rfl
theorem in5 : Tryz.prog.info? 5 = some Tryz.t5 := by kernel_rfl
@[simp] theorem ty5 : TyOne Tryz.prog 5 1 (some .u8) none false := tyOne_int in5 Tryz.underlying5 rfl rfl
@[simp] theorem tz5 : TyZ Tryz.prog 5 [.int .u8 0] := tyZ in5 rfl rfl rfl rfl
theorem in6 : Tryz.prog.info? 6 = some Tryz.t6 := by kernel_rfl
@[simp] theorem ty6 : TyOne Tryz.prog 6 1 (some .u8) none false := tyOne_int in6 Tryz.underlying6 rfl rfl
@[simp] theorem tz6 : TyZ Tryz.prog 6 [.int .u8 0] := tyZ in6 rfl rfl rfl rfl
theorem in8 : Tryz.prog.info? 8 = some Tryz.t8 := by kernel_rfl
@[simp] theorem ty8 : TyAgg Tryz.prog 8 4 24 := tyAgg_struct in8 Tryz.underlying8 rfl rfl
@[simp] theorem tz8 : TyZ Tryz.prog 8 [.int .i64 0, .int .i64 0, .bool false, .int .u8 0] := tyZ in8 rfl rfl rfl rfl
theorem in9 : Tryz.prog.info? 9 = some Tryz.t9 := by kernel_rfl
@[simp] theorem ty9 : TyOne Tryz.prog 9 16 none none true := tyOne_str in9 Tryz.underlying9 rfl rfl
@[simp] theorem tz9 : TyZ Tryz.prog 9 [.str []] := tyZ in9 rfl rfl rfl rfl
theorem in10 : Tryz.prog.info? 10 = some Tryz.t10 := by kernel_rfl
@[simp] theorem ty10 : TyOne Tryz.prog 10 16 none none true := tyOne_str in10 Tryz.underlying10 rfl rfl
@[simp] theorem tz10 : TyZ Tryz.prog 10 [.str []] := tyZ in10 rfl rfl rfl rfl
theorem in11 : Tryz.prog.info? 11 = some Tryz.t11 := by kernel_rfl
@[simp] theorem ty11 : TyOne Tryz.prog 11 16 none none true := tyOne_str in11 Tryz.underlying11 rfl rfl
@[simp] theorem tz11 : TyZ Tryz.prog 11 [.str []] := tyZ in11 rfl rfl rfl rfl
theorem in12 : Tryz.prog.info? 12 = some Tryz.t12 := by kernel_rfl
@[simp] theorem ty12 : TyOne Tryz.prog 12 8 (some .u64) none false := tyOne_int in12 Tryz.underlying12 rfl rfl
@[simp] theorem tz12 : TyZ Tryz.prog 12 [.int .u64 0] := tyZ in12 rfl rfl rfl rfl
theorem in14 : Tryz.prog.info? 14 = some Tryz.t14 := by kernel_rfl
@[simp] theorem ty14 : TyAgg Tryz.prog 14 2 24 := tyAgg_struct in14 Tryz.underlying14 rfl rfl
@[simp] theorem tz14 : TyZ Tryz.prog 14 [.str [], .int .u64 0] := tyZ in14 rfl rfl rfl rfl
theorem in15 : Tryz.prog.info? 15 = some Tryz.t15 := by kernel_rfl
@[simp] theorem ty15 : TyOne Tryz.prog 15 8 none none false := tyOne_pointer in15 Tryz.underlying15 rfl rfl
@[simp] theorem tz15 : TyZ Tryz.prog 15 [.raw (.pointer none)] := tyZ in15 rfl rfl rfl rfl
theorem in16 : Tryz.prog.info? 16 = some Tryz.t16 := by kernel_rfl
@[simp] theorem ty16 : TyOne Tryz.prog 16 8 none none false := tyOne_pointer in16 Tryz.underlying16 rfl rfl
@[simp] theorem tz16 : TyZ Tryz.prog 16 [.raw (.pointer none)] := tyZ in16 rfl rfl rfl rfl
theorem in17 : Tryz.prog.info? 17 = some Tryz.t17 := by kernel_rfl
@[simp] theorem ty17 : TyOne Tryz.prog 17 8 none none false := tyOne_pointer in17 Tryz.underlying17 rfl rfl
@[simp] theorem tz17 : TyZ Tryz.prog 17 [.raw (.pointer none)] := tyZ in17 rfl rfl rfl rfl
theorem in19 : Tryz.prog.info? 19 = some Tryz.t19 := by kernel_rfl
@[simp] theorem ty19 : TyAgg Tryz.prog 19 1 8 := tyAgg_struct in19 Tryz.underlying19 rfl rfl
@[simp] theorem tz19 : TyZ Tryz.prog 19 [.raw (.pointer none)] := tyZ in19 rfl rfl rfl rfl
theorem in22 : Tryz.prog.info? 22 = some Tryz.t22 := by kernel_rfl
@[simp] theorem ty22 : TyOne Tryz.prog 22 24 none (some 113) false := tyOne_slice in22 Tryz.underlying22 rfl rfl
@[simp] theorem tz22 : TyZ Tryz.prog 22 [.nils] := tyZ in22 rfl rfl rfl rfl
theorem in23 : Tryz.prog.info? 23 = some Tryz.t23 := by kernel_rfl
@[simp] theorem ty23 : TyOne Tryz.prog 23 24 none (some 117) false := tyOne_slice in23 Tryz.underlying23 rfl rfl
@[simp] theorem tz23 : TyZ Tryz.prog 23 [.nils] := tyZ in23 rfl rfl rfl rfl
theorem in24 : Tryz.prog.info? 24 = some Tryz.t24 := by kernel_rfl
@[simp] theorem ty24 : TyOne Tryz.prog 24 24 none (some 121) false := tyOne_slice in24 Tryz.underlying24 rfl rfl
@[simp] theorem tz24 : TyZ Tryz.prog 24 [.nils] := tyZ in24 rfl rfl rfl rfl
theorem in25 : Tryz.prog.info? 25 = some Tryz.t25 := by kernel_rfl
@[simp] theorem ty25 : TyOne Tryz.prog 25 24 none (some 124) false := tyOne_slice in25 Tryz.underlying25 rfl rfl
@[simp] theorem tz25 : TyZ Tryz.prog 25 [.nils] := tyZ in25 rfl rfl rfl rfl
theorem in27 : Tryz.prog.info? 27 = some Tryz.t27 := by kernel_rfl
@[simp] theorem ty27 : TyAgg Tryz.prog 27 3 24 := tyAgg_struct in27 Tryz.underlying27 rfl rfl
@[simp] theorem tz27 : TyZ Tryz.prog 27 [.int .i64 0, .int .i64 0, .int .i64 0] := tyZ in27 rfl rfl rfl rfl
theorem in28 : Tryz.prog.info? 28 = some Tryz.t28 := by kernel_rfl
@[simp] theorem ty28 : TyOne Tryz.prog 28 24 none (some 127) false := tyOne_slice in28 Tryz.underlying28 rfl rfl
@[simp] theorem tz28 : TyZ Tryz.prog 28 [.nils] := tyZ in28 rfl rfl rfl rfl
theorem in30 : Tryz.prog.info? 30 = some Tryz.t30 := by kernel_rfl
@[simp] theorem ty30 : TyAgg Tryz.prog 30 5 48 := tyAgg_struct in30 Tryz.underlying30 rfl rfl
@[simp] theorem tz30 : TyZ Tryz.prog 30 [.str [], .int .i64 0, .int .i64 0, .int .i64 0, .int .i64 0] := tyZ in30 rfl rfl rfl rfl
theorem in31 : Tryz.prog.info? 31 = some Tryz.t31 := by kernel_rfl
@[simp] theorem ty31 : TyOne Tryz.prog 31 24 none (some 131) false := tyOne_slice in31 Tryz.underlying31 rfl rfl
@[simp] theorem tz31 : TyZ Tryz.prog 31 [.nils] := tyZ in31 rfl rfl rfl rfl
theorem in32 : Tryz.prog.info? 32 = some Tryz.t32 := by kernel_rfl
@[simp] theorem ty32 : TyOne Tryz.prog 32 24 none (some 135) false := tyOne_slice in32 Tryz.underlying32 rfl rfl
@[simp] theorem tz32 : TyZ Tryz.prog 32 [.nils] := tyZ in32 rfl rfl rfl rfl
theorem in33 : Tryz.prog.info? 33 = some Tryz.t33 := by kernel_rfl
@[simp] theorem ty33 : TyOne Tryz.prog 33 24 none (some 230) false := tyOne_slice in33 Tryz.underlying33 rfl rfl
@[simp] theorem tz33 : TyZ Tryz.prog 33 [.nils] := tyZ in33 rfl rfl rfl rfl
theorem in35 : Tryz.prog.info? 35 = some Tryz.t35 := by kernel_rfl
@[simp] theorem ty35 : TyAgg Tryz.prog 35 2 40 := tyAgg_struct in35 Tryz.underlying35 rfl rfl
@[simp] theorem tz35 : TyZ Tryz.prog 35 [.str [], .nils] := tyZ in35 rfl rfl rfl rfl
theorem in37 : Tryz.prog.info? 37 = some Tryz.t37 := by kernel_rfl
@[simp] theorem ty37 : TyAgg Tryz.prog 37 20 304 := tyAgg_struct in37 Tryz.underlying37 rfl rfl
@[simp] theorem tz37 : TyZ Tryz.prog 37 [.nils, .nils, .nils, .nils, .int .i64 0, .int .i64 0, .int .i64 0, .nils, .int .i64 0, .str [], .int .i64 0, .int .i64 0, .int .i64 0, .int .i64 0, .nils, .int .i64 0, .int .i64 0, .nils, .str [], .nils] := tyZ in37 rfl rfl rfl rfl
theorem in39 : Tryz.prog.info? 39 = some Tryz.t39 := by kernel_rfl
@[simp] theorem ty39 : TyOne Tryz.prog 39 24 none (some 87) false := tyOne_slice in39 Tryz.underlying39 rfl rfl
@[simp] theorem tz39 : TyZ Tryz.prog 39 [.nils] := tyZ in39 rfl rfl rfl rfl
theorem in42 : Tryz.prog.info? 42 = some Tryz.t42 := by kernel_rfl
@[simp] theorem ty42 : TyOne Tryz.prog 42 24 none (some 139) false := tyOne_slice in42 Tryz.underlying42 rfl rfl
@[simp] theorem tz42 : TyZ Tryz.prog 42 [.nils] := tyZ in42 rfl rfl rfl rfl
theorem in43 : Tryz.prog.info? 43 = some Tryz.t43 := by kernel_rfl
@[simp] theorem ty43 : TyOne Tryz.prog 43 24 none (some 141) false := tyOne_slice in43 Tryz.underlying43 rfl rfl
@[simp] theorem tz43 : TyZ Tryz.prog 43 [.nils] := tyZ in43 rfl rfl rfl rfl
theorem in44 : Tryz.prog.info? 44 = some Tryz.t44 := by kernel_rfl
@[simp] theorem ty44 : TyOne Tryz.prog 44 24 none (some 145) false := tyOne_slice in44 Tryz.underlying44 rfl rfl
@[simp] theorem tz44 : TyZ Tryz.prog 44 [.nils] := tyZ in44 rfl rfl rfl rfl
theorem in45 : Tryz.prog.info? 45 = some Tryz.t45 := by kernel_rfl
@[simp] theorem ty45 : TyOne Tryz.prog 45 24 none (some 147) false := tyOne_slice in45 Tryz.underlying45 rfl rfl
@[simp] theorem tz45 : TyZ Tryz.prog 45 [.nils] := tyZ in45 rfl rfl rfl rfl
theorem in46 : Tryz.prog.info? 46 = some Tryz.t46 := by kernel_rfl
@[simp] theorem ty46 : TyAgg Tryz.prog 46 3 24 := tyAgg_struct in46 Tryz.underlying46 rfl rfl
@[simp] theorem tz46 : TyZ Tryz.prog 46 [.int .i64 0, .int .i64 0, .int .i64 0] := tyZ in46 rfl rfl rfl rfl
theorem in47 : Tryz.prog.info? 47 = some Tryz.t47 := by kernel_rfl
@[simp] theorem ty47 : TyOne Tryz.prog 47 24 none (some 149) false := tyOne_slice in47 Tryz.underlying47 rfl rfl
@[simp] theorem tz47 : TyZ Tryz.prog 47 [.nils] := tyZ in47 rfl rfl rfl rfl
theorem in48 : Tryz.prog.info? 48 = some Tryz.t48 := by kernel_rfl
@[simp] theorem ty48 : TyAgg Tryz.prog 48 5 48 := tyAgg_struct in48 Tryz.underlying48 rfl rfl
@[simp] theorem tz48 : TyZ Tryz.prog 48 [.str [], .int .i64 0, .int .i64 0, .int .i64 0, .int .i64 0] := tyZ in48 rfl rfl rfl rfl
theorem in49 : Tryz.prog.info? 49 = some Tryz.t49 := by kernel_rfl
@[simp] theorem ty49 : TyOne Tryz.prog 49 24 none (some 153) false := tyOne_slice in49 Tryz.underlying49 rfl rfl
@[simp] theorem tz49 : TyZ Tryz.prog 49 [.nils] := tyZ in49 rfl rfl rfl rfl
theorem in50 : Tryz.prog.info? 50 = some Tryz.t50 := by kernel_rfl
@[simp] theorem ty50 : TyOne Tryz.prog 50 24 none (some 157) false := tyOne_slice in50 Tryz.underlying50 rfl rfl
@[simp] theorem tz50 : TyZ Tryz.prog 50 [.nils] := tyZ in50 rfl rfl rfl rfl
theorem in51 : Tryz.prog.info? 51 = some Tryz.t51 := by kernel_rfl
@[simp] theorem ty51 : TyOne Tryz.prog 51 24 none (some 185) false := tyOne_slice in51 Tryz.underlying51 rfl rfl
@[simp] theorem tz51 : TyZ Tryz.prog 51 [.nils] := tyZ in51 rfl rfl rfl rfl
theorem in53 : Tryz.prog.info? 53 = some Tryz.t53 := by kernel_rfl
@[simp] theorem ty53 : TyAgg Tryz.prog 53 2 40 := tyAgg_struct in53 Tryz.underlying53 rfl rfl
@[simp] theorem tz53 : TyZ Tryz.prog 53 [.str [], .nils] := tyZ in53 rfl rfl rfl rfl
theorem in55 : Tryz.prog.info? 55 = some Tryz.t55 := by kernel_rfl
@[simp] theorem ty55 : TyAgg Tryz.prog 55 20 304 := tyAgg_struct in55 Tryz.underlying55 rfl rfl
@[simp] theorem tz55 : TyZ Tryz.prog 55 [.nils, .nils, .nils, .nils, .int .i64 0, .int .i64 0, .int .i64 0, .nils, .int .i64 0, .str [], .int .i64 0, .int .i64 0, .int .i64 0, .int .i64 0, .nils, .int .i64 0, .int .i64 0, .nils, .str [], .nils] := tyZ in55 rfl rfl rfl rfl
theorem in72 : Tryz.prog.info? 72 = some Tryz.t72 := by kernel_rfl
@[simp] theorem ty72 : TyOne Tryz.prog 72 8 none none false := tyOne_pointer in72 Tryz.underlying72 rfl rfl
@[simp] theorem tz72 : TyZ Tryz.prog 72 [.raw (.pointer none)] := tyZ in72 rfl rfl rfl rfl
theorem in84 : Tryz.prog.info? 84 = some Tryz.t84 := by kernel_rfl
@[simp] theorem ty84 : TyOne Tryz.prog 84 8 none none false := tyOne_func in84 Tryz.underlying84 rfl rfl
@[simp] theorem tz84 : TyZ Tryz.prog 84 [.raw .nilFunc] := tyZ in84 rfl rfl rfl rfl
theorem in87 : Tryz.prog.info? 87 = some Tryz.t87 := by kernel_rfl
@[simp] theorem ty87 : TyAgg Tryz.prog 87 3 40 := tyAgg_struct in87 Tryz.underlying87 rfl rfl
@[simp] theorem tz87 : TyZ Tryz.prog 87 [.int .i64 0, .str [], .str []] := tyZ in87 rfl rfl rfl rfl
theorem in111 : Tryz.prog.info? 111 = some Tryz.t111 := by kernel_rfl
@[simp] theorem ty111 : TyAgg Tryz.prog 111 3 24 := tyAgg_struct in111 Tryz.underlying111 rfl rfl
@[simp] theorem tz111 : TyZ Tryz.prog 111 [.int .i64 0, .int .i64 0, .int .i64 0] := tyZ in111 rfl rfl rfl rfl
theorem in113 : Tryz.prog.info? 113 = some Tryz.t113 := by kernel_rfl
@[simp] theorem ty113 : TyAgg Tryz.prog 113 5 48 := tyAgg_struct in113 Tryz.underlying113 rfl rfl
@[simp] theorem tz113 : TyZ Tryz.prog 113 [.str [], .int .i64 0, .int .i64 0, .int .i64 0, .int .i64 0] := tyZ in113 rfl rfl rfl rfl
theorem in115 : Tryz.prog.info? 115 = some Tryz.t115 := by kernel_rfl
@[simp] theorem ty115 : TyOne Tryz.prog 115 24 none (some 9) false := tyOne_slice in115 Tryz.underlying115 rfl rfl
@[simp] theorem tz115 : TyZ Tryz.prog 115 [.nils] := tyZ in115 rfl rfl rfl rfl
theorem in117 : Tryz.prog.info? 117 = some Tryz.t117 := by kernel_rfl
@[simp] theorem ty117 : TyAgg Tryz.prog 117 3 48 := tyAgg_struct in117 Tryz.underlying117 rfl rfl
@[simp] theorem tz117 : TyZ Tryz.prog 117 [.str [], .nils, .int .i64 0] := tyZ in117 rfl rfl rfl rfl
theorem in119 : Tryz.prog.info? 119 = some Tryz.t119 := by kernel_rfl
@[simp] theorem ty119 : TyOne Tryz.prog 119 24 none (some 279) false := tyOne_slice in119 Tryz.underlying119 rfl rfl
@[simp] theorem tz119 : TyZ Tryz.prog 119 [.nils] := tyZ in119 rfl rfl rfl rfl
theorem in121 : Tryz.prog.info? 121 = some Tryz.t121 := by kernel_rfl
@[simp] theorem ty121 : TyAgg Tryz.prog 121 5 64 := tyAgg_struct in121 Tryz.underlying121 rfl rfl
@[simp] theorem tz121 : TyZ Tryz.prog 121 [.str [], .int .i64 0, .int .i64 0, .int .i64 0, .nils] := tyZ in121 rfl rfl rfl rfl
theorem in124 : Tryz.prog.info? 124 = some Tryz.t124 := by kernel_rfl
@[simp] theorem ty124 : TyAgg Tryz.prog 124 5 48 := tyAgg_struct in124 Tryz.underlying124 rfl rfl
@[simp] theorem tz124 : TyZ Tryz.prog 124 [.str [], .int .i64 0, .int .i64 0, .int .i64 0, .int .i64 0] := tyZ in124 rfl rfl rfl rfl
theorem in127 : Tryz.prog.info? 127 = some Tryz.t127 := by kernel_rfl
@[simp] theorem ty127 : TyAgg Tryz.prog 127 5 48 := tyAgg_struct in127 Tryz.underlying127 rfl rfl
@[simp] theorem tz127 : TyZ Tryz.prog 127 [.str [], .int .i64 0, .int .i64 0, .int .i64 0, .int .i64 0] := tyZ in127 rfl rfl rfl rfl
theorem in129 : Tryz.prog.info? 129 = some Tryz.t129 := by kernel_rfl
@[simp] theorem ty129 : TyOne Tryz.prog 129 24 none (some 293) false := tyOne_slice in129 Tryz.underlying129 rfl rfl
@[simp] theorem tz129 : TyZ Tryz.prog 129 [.nils] := tyZ in129 rfl rfl rfl rfl
theorem in131 : Tryz.prog.info? 131 = some Tryz.t131 := by kernel_rfl
@[simp] theorem ty131 : TyAgg Tryz.prog 131 6 72 := tyAgg_struct in131 Tryz.underlying131 rfl rfl
@[simp] theorem tz131 : TyZ Tryz.prog 131 [.str [], .int .i64 0, .int .i64 0, .int .i64 0, .int .i64 0, .nils] := tyZ in131 rfl rfl rfl rfl
theorem in133 : Tryz.prog.info? 133 = some Tryz.t133 := by kernel_rfl
@[simp] theorem ty133 : TyOne Tryz.prog 133 24 none (some 295) false := tyOne_slice in133 Tryz.underlying133 rfl rfl
@[simp] theorem tz133 : TyZ Tryz.prog 133 [.nils] := tyZ in133 rfl rfl rfl rfl
theorem in135 : Tryz.prog.info? 135 = some Tryz.t135 := by kernel_rfl
@[simp] theorem ty135 : TyAgg Tryz.prog 135 4 48 := tyAgg_struct in135 Tryz.underlying135 rfl rfl
@[simp] theorem tz135 : TyZ Tryz.prog 135 [.int .i64 0, .nils, .int .i64 0, .int .i64 0] := tyZ in135 rfl rfl rfl rfl
theorem in137 : Tryz.prog.info? 137 = some Tryz.t137 := by kernel_rfl
@[simp] theorem ty137 : TyAgg Tryz.prog 137 3 24 := tyAgg_struct in137 Tryz.underlying137 rfl rfl
@[simp] theorem tz137 : TyZ Tryz.prog 137 [.int .i64 0, .int .i64 0, .int .i64 0] := tyZ in137 rfl rfl rfl rfl
theorem in139 : Tryz.prog.info? 139 = some Tryz.t139 := by kernel_rfl
@[simp] theorem ty139 : TyAgg Tryz.prog 139 5 48 := tyAgg_struct in139 Tryz.underlying139 rfl rfl
@[simp] theorem tz139 : TyZ Tryz.prog 139 [.str [], .int .i64 0, .int .i64 0, .int .i64 0, .int .i64 0] := tyZ in139 rfl rfl rfl rfl
theorem in141 : Tryz.prog.info? 141 = some Tryz.t141 := by kernel_rfl
@[simp] theorem ty141 : TyAgg Tryz.prog 141 3 48 := tyAgg_struct in141 Tryz.underlying141 rfl rfl
@[simp] theorem tz141 : TyZ Tryz.prog 141 [.str [], .nils, .int .i64 0] := tyZ in141 rfl rfl rfl rfl
theorem in143 : Tryz.prog.info? 143 = some Tryz.t143 := by kernel_rfl
@[simp] theorem ty143 : TyOne Tryz.prog 143 24 none (some 248) false := tyOne_slice in143 Tryz.underlying143 rfl rfl
@[simp] theorem tz143 : TyZ Tryz.prog 143 [.nils] := tyZ in143 rfl rfl rfl rfl
theorem in145 : Tryz.prog.info? 145 = some Tryz.t145 := by kernel_rfl
@[simp] theorem ty145 : TyAgg Tryz.prog 145 5 64 := tyAgg_struct in145 Tryz.underlying145 rfl rfl
@[simp] theorem tz145 : TyZ Tryz.prog 145 [.str [], .int .i64 0, .int .i64 0, .int .i64 0, .nils] := tyZ in145 rfl rfl rfl rfl
theorem in147 : Tryz.prog.info? 147 = some Tryz.t147 := by kernel_rfl
@[simp] theorem ty147 : TyAgg Tryz.prog 147 5 48 := tyAgg_struct in147 Tryz.underlying147 rfl rfl
@[simp] theorem tz147 : TyZ Tryz.prog 147 [.str [], .int .i64 0, .int .i64 0, .int .i64 0, .int .i64 0] := tyZ in147 rfl rfl rfl rfl
theorem in149 : Tryz.prog.info? 149 = some Tryz.t149 := by kernel_rfl
@[simp] theorem ty149 : TyAgg Tryz.prog 149 5 48 := tyAgg_struct in149 Tryz.underlying149 rfl rfl
@[simp] theorem tz149 : TyZ Tryz.prog 149 [.str [], .int .i64 0, .int .i64 0, .int .i64 0, .int .i64 0] := tyZ in149 rfl rfl rfl rfl
theorem in151 : Tryz.prog.info? 151 = some Tryz.t151 := by kernel_rfl
@[simp] theorem ty151 : TyOne Tryz.prog 151 24 none (some 240) false := tyOne_slice in151 Tryz.underlying151 rfl rfl
@[simp] theorem tz151 : TyZ Tryz.prog 151 [.nils] := tyZ in151 rfl rfl rfl rfl
theorem in153 : Tryz.prog.info? 153 = some Tryz.t153 := by kernel_rfl
@[simp] theorem ty153 : TyAgg Tryz.prog 153 6 72 := tyAgg_struct in153 Tryz.underlying153 rfl rfl
@[simp] theorem tz153 : TyZ Tryz.prog 153 [.str [], .int .i64 0, .int .i64 0, .int .i64 0, .int .i64 0, .nils] := tyZ in153 rfl rfl rfl rfl
theorem in155 : Tryz.prog.info? 155 = some Tryz.t155 := by kernel_rfl
@[simp] theorem ty155 : TyOne Tryz.prog 155 24 none (some 250) false := tyOne_slice in155 Tryz.underlying155 rfl rfl
@[simp] theorem tz155 : TyZ Tryz.prog 155 [.nils] := tyZ in155 rfl rfl rfl rfl
theorem in157 : Tryz.prog.info? 157 = some Tryz.t157 := by kernel_rfl
@[simp] theorem ty157 : TyAgg Tryz.prog 157 4 48 := tyAgg_struct in157 Tryz.underlying157 rfl rfl
@[simp] theorem tz157 : TyZ Tryz.prog 157 [.int .i64 0, .nils, .int .i64 0, .int .i64 0] := tyZ in157 rfl rfl rfl rfl
theorem in160 : Tryz.prog.info? 160 = some Tryz.t160 := by kernel_rfl
@[simp] theorem ty160 : TyOne Tryz.prog 160 24 none (some 84) false := tyOne_slice in160 Tryz.underlying160 rfl rfl
@[simp] theorem tz160 : TyZ Tryz.prog 160 [.nils] := tyZ in160 rfl rfl rfl rfl
theorem in162 : Tryz.prog.info? 162 = some Tryz.t162 := by kernel_rfl
@[simp] theorem ty162 : TyOne Tryz.prog 162 24 none (some 286) false := tyOne_slice in162 Tryz.underlying162 rfl rfl
@[simp] theorem tz162 : TyZ Tryz.prog 162 [.nils] := tyZ in162 rfl rfl rfl rfl
theorem in181 : Tryz.prog.info? 181 = some Tryz.t181 := by kernel_rfl
@[simp] theorem ty181 : TyOne Tryz.prog 181 24 none (some 5) false := tyOne_slice in181 Tryz.underlying181 rfl rfl
@[simp] theorem tz181 : TyZ Tryz.prog 181 [.nils] := tyZ in181 rfl rfl rfl rfl
theorem in182 : Tryz.prog.info? 182 = some Tryz.t182 := by kernel_rfl
@[simp] theorem ty182 : TyOne Tryz.prog 182 24 none (some 2) false := tyOne_slice in182 Tryz.underlying182 rfl rfl
@[simp] theorem tz182 : TyZ Tryz.prog 182 [.nils] := tyZ in182 rfl rfl rfl rfl
theorem in185 : Tryz.prog.info? 185 = some Tryz.t185 := by kernel_rfl
@[simp] theorem ty185 : TyAgg Tryz.prog 185 3 24 := tyAgg_struct in185 Tryz.underlying185 rfl rfl
@[simp] theorem tz185 : TyZ Tryz.prog 185 [.int .i64 0, .int .i64 0, .int .i64 0] := tyZ in185 rfl rfl rfl rfl
theorem in186 : Tryz.prog.info? 186 = some Tryz.t186 := by kernel_rfl
@[simp] theorem ty186 : TyOne Tryz.prog 186 8 none none false := tyOne_func in186 Tryz.underlying186 rfl rfl
@[simp] theorem tz186 : TyZ Tryz.prog 186 [.raw .nilFunc] := tyZ in186 rfl rfl rfl rfl
theorem in190 : Tryz.prog.info? 190 = some Tryz.t190 := by kernel_rfl
@[simp] theorem ty190 : TyOne Tryz.prog 190 8 none none false := tyOne_func in190 Tryz.underlying190 rfl rfl
@[simp] theorem tz190 : TyZ Tryz.prog 190 [.raw .nilFunc] := tyZ in190 rfl rfl rfl rfl
theorem in196 : Tryz.prog.info? 196 = some Tryz.t196 := by kernel_rfl
@[simp] theorem ty196 : TyOne Tryz.prog 196 8 none none false := tyOne_pointer in196 Tryz.underlying196 rfl rfl
@[simp] theorem tz196 : TyZ Tryz.prog 196 [.raw (.pointer none)] := tyZ in196 rfl rfl rfl rfl
theorem in200 : Tryz.prog.info? 200 = some Tryz.t200 := by kernel_rfl
@[simp] theorem ty200 : TyOne Tryz.prog 200 8 none none false := tyOne_pointer in200 Tryz.underlying200 rfl rfl
@[simp] theorem tz200 : TyZ Tryz.prog 200 [.raw (.pointer none)] := tyZ in200 rfl rfl rfl rfl
theorem in205 : Tryz.prog.info? 205 = some Tryz.t205 := by kernel_rfl
@[simp] theorem ty205 : TyOne Tryz.prog 205 8 none none false := tyOne_pointer in205 Tryz.underlying205 rfl rfl
@[simp] theorem tz205 : TyZ Tryz.prog 205 [.raw (.pointer none)] := tyZ in205 rfl rfl rfl rfl
theorem in209 : Tryz.prog.info? 209 = some Tryz.t209 := by kernel_rfl
@[simp] theorem ty209 : TyOne Tryz.prog 209 8 none none false := tyOne_func in209 Tryz.underlying209 rfl rfl
@[simp] theorem tz209 : TyZ Tryz.prog 209 [.raw .nilFunc] := tyZ in209 rfl rfl rfl rfl
theorem in212 : Tryz.prog.info? 212 = some Tryz.t212 := by kernel_rfl
@[simp] theorem ty212 : TyOne Tryz.prog 212 24 none (some 182) false := tyOne_slice in212 Tryz.underlying212 rfl rfl
@[simp] theorem tz212 : TyZ Tryz.prog 212 [.nils] := tyZ in212 rfl rfl rfl rfl
theorem in221 : Tryz.prog.info? 221 = some Tryz.t221 := by kernel_rfl
@[simp] theorem ty221 : TyOne Tryz.prog 221 8 none none false := tyOne_pointer in221 Tryz.underlying221 rfl rfl
@[simp] theorem tz221 : TyZ Tryz.prog 221 [.raw (.pointer none)] := tyZ in221 rfl rfl rfl rfl
theorem in230 : Tryz.prog.info? 230 = some Tryz.t230 := by kernel_rfl
@[simp] theorem ty230 : TyAgg Tryz.prog 230 3 24 := tyAgg_struct in230 Tryz.underlying230 rfl rfl
@[simp] theorem tz230 : TyZ Tryz.prog 230 [.int .i64 0, .int .i64 0, .int .i64 0] := tyZ in230 rfl rfl rfl rfl
theorem in240 : Tryz.prog.info? 240 = some Tryz.t240 := by kernel_rfl
@[simp] theorem ty240 : TyAgg Tryz.prog 240 2 16 := tyAgg_struct in240 Tryz.underlying240 rfl rfl
@[simp] theorem tz240 : TyZ Tryz.prog 240 [.int .i64 0, .int .i64 0] := tyZ in240 rfl rfl rfl rfl
theorem in248 : Tryz.prog.info? 248 = some Tryz.t248 := by kernel_rfl
@[simp] theorem ty248 : TyAgg Tryz.prog 248 2 24 := tyAgg_struct in248 Tryz.underlying248 rfl rfl
@[simp] theorem tz248 : TyZ Tryz.prog 248 [.str [], .int .i64 0] := tyZ in248 rfl rfl rfl rfl
theorem in250 : Tryz.prog.info? 250 = some Tryz.t250 := by kernel_rfl
@[simp] theorem ty250 : TyAgg Tryz.prog 250 2 16 := tyAgg_struct in250 Tryz.underlying250 rfl rfl
@[simp] theorem tz250 : TyZ Tryz.prog 250 [.int .i64 0, .int .i64 0] := tyZ in250 rfl rfl rfl rfl
theorem in254 : Tryz.prog.info? 254 = some Tryz.t254 := by kernel_rfl
@[simp] theorem ty254 : TyOne Tryz.prog 254 8 none none false := tyOne_func in254 Tryz.underlying254 rfl rfl
@[simp] theorem tz254 : TyZ Tryz.prog 254 [.raw .nilFunc] := tyZ in254 rfl rfl rfl rfl
theorem in256 : Tryz.prog.info? 256 = some Tryz.t256 := by kernel_rfl
@[simp] theorem ty256 : TyOne Tryz.prog 256 8 none none false := tyOne_pointer in256 Tryz.underlying256 rfl rfl
@[simp] theorem tz256 : TyZ Tryz.prog 256 [.raw (.pointer none)] := tyZ in256 rfl rfl rfl rfl
theorem in258 : Tryz.prog.info? 258 = some Tryz.t258 := by kernel_rfl
@[simp] theorem ty258 : TyOne Tryz.prog 258 8 none none false := tyOne_pointer in258 Tryz.underlying258 rfl rfl
@[simp] theorem tz258 : TyZ Tryz.prog 258 [.raw (.pointer none)] := tyZ in258 rfl rfl rfl rfl
theorem in261 : Tryz.prog.info? 261 = some Tryz.t261 := by kernel_rfl
@[simp] theorem ty261 : TyOne Tryz.prog 261 8 none none false := tyOne_pointer in261 Tryz.underlying261 rfl rfl
@[simp] theorem tz261 : TyZ Tryz.prog 261 [.raw (.pointer none)] := tyZ in261 rfl rfl rfl rfl
theorem in263 : Tryz.prog.info? 263 = some Tryz.t263 := by kernel_rfl
@[simp] theorem ty263 : TyOne Tryz.prog 263 8 none none false := tyOne_pointer in263 Tryz.underlying263 rfl rfl
@[simp] theorem tz263 : TyZ Tryz.prog 263 [.raw (.pointer none)] := tyZ in263 rfl rfl rfl rfl
theorem in265 : Tryz.prog.info? 265 = some Tryz.t265 := by kernel_rfl
@[simp] theorem ty265 : TyOne Tryz.prog 265 8 none none false := tyOne_pointer in265 Tryz.underlying265 rfl rfl
@[simp] theorem tz265 : TyZ Tryz.prog 265 [.raw (.pointer none)] := tyZ in265 rfl rfl rfl rfl
theorem in266 : Tryz.prog.info? 266 = some Tryz.t266 := by kernel_rfl
@[simp] theorem ty266 : TyOne Tryz.prog 266 8 none none false := tyOne_func in266 Tryz.underlying266 rfl rfl
@[simp] theorem tz266 : TyZ Tryz.prog 266 [.raw .nilFunc] := tyZ in266 rfl rfl rfl rfl
theorem in269 : Tryz.prog.info? 269 = some Tryz.t269 := by kernel_rfl
@[simp] theorem ty269 : TyOne Tryz.prog 269 8 none none false := tyOne_pointer in269 Tryz.underlying269 rfl rfl
@[simp] theorem tz269 : TyZ Tryz.prog 269 [.raw (.pointer none)] := tyZ in269 rfl rfl rfl rfl
theorem in271 : Tryz.prog.info? 271 = some Tryz.t271 := by kernel_rfl
@[simp] theorem ty271 : TyOne Tryz.prog 271 8 none none false := tyOne_pointer in271 Tryz.underlying271 rfl rfl
@[simp] theorem tz271 : TyZ Tryz.prog 271 [.raw (.pointer none)] := tyZ in271 rfl rfl rfl rfl
theorem in279 : Tryz.prog.info? 279 = some Tryz.t279 := by kernel_rfl
@[simp] theorem ty279 : TyAgg Tryz.prog 279 2 24 := tyAgg_struct in279 Tryz.underlying279 rfl rfl
@[simp] theorem tz279 : TyZ Tryz.prog 279 [.str [], .int .i64 0] := tyZ in279 rfl rfl rfl rfl
theorem in286 : Tryz.prog.info? 286 = some Tryz.t286 := by kernel_rfl
@[simp] theorem ty286 : TyAgg Tryz.prog 286 3 32 := tyAgg_struct in286 Tryz.underlying286 rfl rfl
@[simp] theorem tz286 : TyZ Tryz.prog 286 [.str [], .int .i64 0, .int .i64 0] := tyZ in286 rfl rfl rfl rfl
theorem in288 : Tryz.prog.info? 288 = some Tryz.t288 := by kernel_rfl
@[simp] theorem ty288 : TyOne Tryz.prog 288 8 none none false := tyOne_pointer in288 Tryz.underlying288 rfl rfl
@[simp] theorem tz288 : TyZ Tryz.prog 288 [.raw (.pointer none)] := tyZ in288 rfl rfl rfl rfl
theorem in293 : Tryz.prog.info? 293 = some Tryz.t293 := by kernel_rfl
@[simp] theorem ty293 : TyAgg Tryz.prog 293 2 16 := tyAgg_struct in293 Tryz.underlying293 rfl rfl
@[simp] theorem tz293 : TyZ Tryz.prog 293 [.int .i64 0, .int .i64 0] := tyZ in293 rfl rfl rfl rfl
theorem in295 : Tryz.prog.info? 295 = some Tryz.t295 := by kernel_rfl
@[simp] theorem ty295 : TyAgg Tryz.prog 295 2 16 := tyAgg_struct in295 Tryz.underlying295 rfl rfl
@[simp] theorem tz295 : TyZ Tryz.prog 295 [.int .i64 0, .int .i64 0] := tyZ in295 rfl rfl rfl rfl
theorem in297 : Tryz.prog.info? 297 = some Tryz.t297 := by kernel_rfl
@[simp] theorem ty297 : TyOne Tryz.prog 297 8 none none false := tyOne_func in297 Tryz.underlying297 rfl rfl
@[simp] theorem tz297 : TyZ Tryz.prog 297 [.raw .nilFunc] := tyZ in297 rfl rfl rfl rfl
theorem in316 : Tryz.prog.info? 316 = some Tryz.t316 := by kernel_rfl
@[simp] theorem ty316 : TyOne Tryz.prog 316 8 (some .u64) none false := tyOne_int in316 Tryz.underlying316 rfl rfl
@[simp] theorem tz316 : TyZ Tryz.prog 316 [.int .u64 0] := tyZ in316 rfl rfl rfl rfl
theorem in319 : Tryz.prog.info? 319 = some Tryz.t319 := by kernel_rfl
@[simp] theorem ty319 : TyOne Tryz.prog 319 8 none none false := tyOne_pointer in319 Tryz.underlying319 rfl rfl
@[simp] theorem tz319 : TyZ Tryz.prog 319 [.raw (.pointer none)] := tyZ in319 rfl rfl rfl rfl
theorem in322 : Tryz.prog.info? 322 = some Tryz.t322 := by kernel_rfl
@[simp] theorem ty322 : TyOne Tryz.prog 322 8 none none false := tyOne_pointer in322 Tryz.underlying322 rfl rfl
@[simp] theorem tz322 : TyZ Tryz.prog 322 [.raw (.pointer none)] := tyZ in322 rfl rfl rfl rfl
theorem in338 : Tryz.prog.info? 338 = some Tryz.t338 := by kernel_rfl
@[simp] theorem ty338 : TyOne Tryz.prog 338 8 none none false := tyOne_func in338 Tryz.underlying338 rfl rfl
@[simp] theorem tz338 : TyZ Tryz.prog 338 [.raw .nilFunc] := tyZ in338 rfl rfl rfl rfl
theorem in342 : Tryz.prog.info? 342 = some Tryz.t342 := by kernel_rfl
@[simp] theorem ty342 : TyOne Tryz.prog 342 8 none none false := tyOne_func in342 Tryz.underlying342 rfl rfl
@[simp] theorem tz342 : TyZ Tryz.prog 342 [.raw .nilFunc] := tyZ in342 rfl rfl rfl rfl
theorem in345 : Tryz.prog.info? 345 = some Tryz.t345 := by kernel_rfl
@[simp] theorem ty345 : TyOne Tryz.prog 345 8 (some .i64) none false := tyOne_int in345 Tryz.underlying345 rfl rfl
@[simp] theorem tz345 : TyZ Tryz.prog 345 [.int .i64 0] := tyZ in345 rfl rfl rfl rfl
theorem in354 : Tryz.prog.info? 354 = some Tryz.t354 := by kernel_rfl
@[simp] theorem ty354 : TyOne Tryz.prog 354 4 (some .u32) none false := tyOne_int in354 Tryz.underlying354 rfl rfl
@[simp] theorem tz354 : TyZ Tryz.prog 354 [.int .u32 0] := tyZ in354 rfl rfl rfl rfl
theorem in356 : Tryz.prog.info? 356 = some Tryz.t356 := by kernel_rfl
@[simp] theorem ty356 : TyOne Tryz.prog 356 8 (some .u64) none false := tyOne_int in356 Tryz.underlying356 rfl rfl
@[simp] theorem tz356 : TyZ Tryz.prog 356 [.int .u64 0] := tyZ in356 rfl rfl rfl rfl
theorem in368 : Tryz.prog.info? 368 = some Tryz.t368 := by kernel_rfl
@[simp] theorem ty368 : TyOne Tryz.prog 368 24 none (some 3) false := tyOne_slice in368 Tryz.underlying368 rfl rfl
@[simp] theorem tz368 : TyZ Tryz.prog 368 [.nils] := tyZ in368 rfl rfl rfl rfl
theorem in369 : Tryz.prog.info? 369 = some Tryz.t369 := by kernel_rfl
@[simp] theorem ty369 : TyAgg Tryz.prog 369 91 728 := tyAgg_array in369 Tryz.underlying369 rfl rfl
@[simp] theorem ar369 : arrT Tryz.prog 369 = some (91, 2) := arrOf Tryz.underlying369
theorem in371 : Tryz.prog.info? 371 = some Tryz.t371 := by kernel_rfl
@[simp] theorem ty371 : TyOne Tryz.prog 371 8 (some .u64) none false := tyOne_int in371 Tryz.underlying371 rfl rfl
@[simp] theorem tz371 : TyZ Tryz.prog 371 [.int .u64 0] := tyZ in371 rfl rfl rfl rfl
theorem in375 : Tryz.prog.info? 375 = some Tryz.t375 := by kernel_rfl
@[simp] theorem ty375 : TyOne Tryz.prog 375 8 none none false := tyOne_pointer in375 Tryz.underlying375 rfl rfl
@[simp] theorem tz375 : TyZ Tryz.prog 375 [.raw (.pointer none)] := tyZ in375 rfl rfl rfl rfl
theorem in377 : Tryz.prog.info? 377 = some Tryz.t377 := by kernel_rfl
@[simp] theorem ty377 : TyAgg Tryz.prog 377 24 24 := tyAgg_array in377 Tryz.underlying377 rfl rfl
@[simp] theorem ar377 : arrT Tryz.prog 377 = some (24, 5) := arrOf Tryz.underlying377
@[simp] theorem tz377 : TyZ Tryz.prog 377 [.int .u8 0, .int .u8 0, .int .u8 0, .int .u8 0, .int .u8 0, .int .u8 0, .int .u8 0, .int .u8 0, .int .u8 0, .int .u8 0, .int .u8 0, .int .u8 0, .int .u8 0, .int .u8 0, .int .u8 0, .int .u8 0, .int .u8 0, .int .u8 0, .int .u8 0, .int .u8 0, .int .u8 0, .int .u8 0, .int .u8 0, .int .u8 0] := tyZ in377 rfl rfl rfl rfl
theorem in384 : Tryz.prog.info? 384 = some Tryz.t384 := by kernel_rfl
@[simp] theorem ty384 : TyOne Tryz.prog 384 8 none none false := tyOne_func in384 Tryz.underlying384 rfl rfl
@[simp] theorem tz384 : TyZ Tryz.prog 384 [.raw .nilFunc] := tyZ in384 rfl rfl rfl rfl
theorem in386 : Tryz.prog.info? 386 = some Tryz.t386 := by kernel_rfl
@[simp] theorem ty386 : TyOne Tryz.prog 386 8 none none false := tyOne_pointer in386 Tryz.underlying386 rfl rfl
@[simp] theorem tz386 : TyZ Tryz.prog 386 [.raw (.pointer none)] := tyZ in386 rfl rfl rfl rfl
theorem in391 : Tryz.prog.info? 391 = some Tryz.t391 := by kernel_rfl
@[simp] theorem ty391 : TyAgg Tryz.prog 391 20 160 := tyAgg_array in391 Tryz.underlying391 rfl rfl
@[simp] theorem ar391 : arrT Tryz.prog 391 = some (20, 356) := arrOf Tryz.underlying391
@[simp] theorem tz391 : TyZ Tryz.prog 391 [.int .u64 0, .int .u64 0, .int .u64 0, .int .u64 0, .int .u64 0, .int .u64 0, .int .u64 0, .int .u64 0, .int .u64 0, .int .u64 0, .int .u64 0, .int .u64 0, .int .u64 0, .int .u64 0, .int .u64 0, .int .u64 0, .int .u64 0, .int .u64 0, .int .u64 0, .int .u64 0] := tyZ in391 rfl rfl rfl rfl
theorem in392 : Tryz.prog.info? 392 = some Tryz.t392 := by kernel_rfl
@[simp] theorem ty392 : TyAgg Tryz.prog 392 65 65 := tyAgg_array in392 Tryz.underlying392 rfl rfl
@[simp] theorem ar392 : arrT Tryz.prog 392 = some (65, 5) := arrOf Tryz.underlying392
theorem in397 : Tryz.prog.info? 397 = some Tryz.t397 := by kernel_rfl
@[simp] theorem ty397 : TyOne Tryz.prog 397 8 none none false := tyOne_func in397 Tryz.underlying397 rfl rfl
@[simp] theorem tz397 : TyZ Tryz.prog 397 [.raw .nilFunc] := tyZ in397 rfl rfl rfl rfl
theorem in398 : Tryz.prog.info? 398 = some Tryz.t398 := by kernel_rfl
@[simp] theorem ty398 : TyAgg Tryz.prog 398 32 32 := tyAgg_array in398 Tryz.underlying398 rfl rfl
@[simp] theorem ar398 : arrT Tryz.prog 398 = some (32, 5) := arrOf Tryz.underlying398
@[simp] theorem tz398 : TyZ Tryz.prog 398 [.int .u8 0, .int .u8 0, .int .u8 0, .int .u8 0, .int .u8 0, .int .u8 0, .int .u8 0, .int .u8 0, .int .u8 0, .int .u8 0, .int .u8 0, .int .u8 0, .int .u8 0, .int .u8 0, .int .u8 0, .int .u8 0, .int .u8 0, .int .u8 0, .int .u8 0, .int .u8 0, .int .u8 0, .int .u8 0, .int .u8 0, .int .u8 0, .int .u8 0, .int .u8 0, .int .u8 0, .int .u8 0, .int .u8 0, .int .u8 0, .int .u8 0, .int .u8 0] := tyZ in398 rfl rfl rfl rfl
theorem in399 : Tryz.prog.info? 399 = some Tryz.t399 := by kernel_rfl
@[simp] theorem ty399 : TyAgg Tryz.prog 399 64 64 := tyAgg_array in399 Tryz.underlying399 rfl rfl
@[simp] theorem ar399 : arrT Tryz.prog 399 = some (64, 5) := arrOf Tryz.underlying399
@[simp] theorem tz399 : TyZ Tryz.prog 399 [.int .u8 0, .int .u8 0, .int .u8 0, .int .u8 0, .int .u8 0, .int .u8 0, .int .u8 0, .int .u8 0, .int .u8 0, .int .u8 0, .int .u8 0, .int .u8 0, .int .u8 0, .int .u8 0, .int .u8 0, .int .u8 0, .int .u8 0, .int .u8 0, .int .u8 0, .int .u8 0, .int .u8 0, .int .u8 0, .int .u8 0, .int .u8 0, .int .u8 0, .int .u8 0, .int .u8 0, .int .u8 0, .int .u8 0, .int .u8 0, .int .u8 0, .int .u8 0, .int .u8 0, .int .u8 0, .int .u8 0, .int .u8 0, .int .u8 0, .int .u8 0, .int .u8 0, .int .u8 0, .int .u8 0, .int .u8 0, .int .u8 0, .int .u8 0, .int .u8 0, .int .u8 0, .int .u8 0, .int .u8 0, .int .u8 0, .int .u8 0, .int .u8 0, .int .u8 0, .int .u8 0, .int .u8 0, .int .u8 0, .int .u8 0, .int .u8 0, .int .u8 0, .int .u8 0, .int .u8 0, .int .u8 0, .int .u8 0, .int .u8 0, .int .u8 0] := tyZ in399 rfl rfl rfl rfl
theorem in408 : Tryz.prog.info? 408 = some Tryz.t408 := by kernel_rfl
@[simp] theorem ty408 : TyOne Tryz.prog 408 1 (some .u8) none false := tyOne_int in408 Tryz.underlying408 rfl rfl
@[simp] theorem tz408 : TyZ Tryz.prog 408 [.int .u8 0] := tyZ in408 rfl rfl rfl rfl
@[simp] theorem gv1 : globV 1 = .pe 20 [powT] 0 0 := rfl
@[simp] theorem ts8 : structT Tryz.prog 8 = true := structOf Tryz.underlying8 (by simp [in2, in3, in4, in6])
@[simp] theorem fl8_0 : fldT Tryz.prog 8 0 = some (0, false, 1) := fldOf Tryz.underlying8 rfl rfl ty2.1 ty2.2.1 ty2.2.2.1
@[simp] theorem fl8_1 : fldT Tryz.prog 8 1 = some (1, false, 1) := fldOf Tryz.underlying8 rfl rfl ty3.1 ty3.2.1 ty3.2.2.1
@[simp] theorem fl8_2 : fldT Tryz.prog 8 2 = some (2, false, 1) := fldOf Tryz.underlying8 rfl rfl ty4.1 ty4.2.1 ty4.2.2.1
@[simp] theorem fl8_3 : fldT Tryz.prog 8 3 = some (3, false, 1) := fldOf Tryz.underlying8 rfl rfl ty6.1 ty6.2.1 ty6.2.2.1
@[simp] theorem ts14 : structT Tryz.prog 14 = true := structOf Tryz.underlying14 (by simp [in12, in9])
@[simp] theorem fl14_0 : fldT Tryz.prog 14 0 = some (0, false, 1) := fldOf Tryz.underlying14 rfl rfl ty9.1 ty9.2.1 ty9.2.2.1
@[simp] theorem fl14_1 : fldT Tryz.prog 14 1 = some (1, false, 1) := fldOf Tryz.underlying14 rfl rfl ty12.1 ty12.2.1 ty12.2.2.1
@[simp] theorem ts19 : structT Tryz.prog 19 = true := structOf Tryz.underlying19 (by simp [in17])
@[simp] theorem fl19_0 : fldT Tryz.prog 19 0 = some (0, false, 1) := fldOf Tryz.underlying19 rfl rfl ty17.1 ty17.2.1 ty17.2.2.1
@[simp] theorem ts27 : structT Tryz.prog 27 = true := structOf Tryz.underlying27 (by simp [in2])
@[simp] theorem fl27_0 : fldT Tryz.prog 27 0 = some (0, false, 1) := fldOf Tryz.underlying27 rfl rfl ty2.1 ty2.2.1 ty2.2.2.1
@[simp] theorem fl27_1 : fldT Tryz.prog 27 1 = some (1, false, 1) := fldOf Tryz.underlying27 rfl rfl ty2.1 ty2.2.1 ty2.2.2.1
@[simp] theorem fl27_2 : fldT Tryz.prog 27 2 = some (2, false, 1) := fldOf Tryz.underlying27 rfl rfl ty2.1 ty2.2.1 ty2.2.2.1
@[simp] theorem ts30 : structT Tryz.prog 30 = true := structOf Tryz.underlying30 (by simp [in2, in9])
@[simp] theorem fl30_0 : fldT Tryz.prog 30 0 = some (0, false, 1) := fldOf Tryz.underlying30 rfl rfl ty9.1 ty9.2.1 ty9.2.2.1
@[simp] theorem fl30_1 : fldT Tryz.prog 30 1 = some (1, false, 1) := fldOf Tryz.underlying30 rfl rfl ty2.1 ty2.2.1 ty2.2.2.1
@[simp] theorem fl30_2 : fldT Tryz.prog 30 2 = some (2, false, 1) := fldOf Tryz.underlying30 rfl rfl ty2.1 ty2.2.1 ty2.2.2.1
@[simp] theorem fl30_3 : fldT Tryz.prog 30 3 = some (3, false, 1) := fldOf Tryz.underlying30 rfl rfl ty2.1 ty2.2.1 ty2.2.2.1
@[simp] theorem fl30_4 : fldT Tryz.prog 30 4 = some (4, false, 1) := fldOf Tryz.underlying30 rfl rfl ty2.1 ty2.2.1 ty2.2.2.1
@[simp] theorem ts35 : structT Tryz.prog 35 = true := structOf Tryz.underlying35 (by simp [in33, in9])
@[simp] theorem fl35_0 : fldT Tryz.prog 35 0 = some (0, false, 1) := fldOf Tryz.underlying35 rfl rfl ty9.1 ty9.2.1 ty9.2.2.1
@[simp] theorem fl35_1 : fldT Tryz.prog 35 1 = some (1, false, 1) := fldOf Tryz.underlying35 rfl rfl ty33.1 ty33.2.1 ty33.2.2.1
@[simp] theorem ts37 : structT Tryz.prog 37 = true := structOf Tryz.underlying37 (by simp [in2, in22, in23, in24, in25, in27, in28, in30, in31, in32, in35])
@[simp] theorem fl37_0 : fldT Tryz.prog 37 0 = some (0, false, 1) := fldOf Tryz.underlying37 rfl rfl ty22.1 ty22.2.1 ty22.2.2.1
@[simp] theorem fl37_1 : fldT Tryz.prog 37 1 = some (1, false, 1) := fldOf Tryz.underlying37 rfl rfl ty23.1 ty23.2.1 ty23.2.2.1
@[simp] theorem fl37_2 : fldT Tryz.prog 37 2 = some (2, false, 1) := fldOf Tryz.underlying37 rfl rfl ty24.1 ty24.2.1 ty24.2.2.1
@[simp] theorem fl37_3 : fldT Tryz.prog 37 3 = some (3, false, 1) := fldOf Tryz.underlying37 rfl rfl ty25.1 ty25.2.1 ty25.2.2.1
@[simp] theorem fl37_4 : fldT Tryz.prog 37 4 = some (4, true, 3) := fldOf Tryz.underlying37 rfl rfl ty27.1 ty27.2.1 ty27.2.2.1
@[simp] theorem fl37_5 : fldT Tryz.prog 37 5 = some (7, false, 1) := fldOf Tryz.underlying37 rfl rfl ty28.1 ty28.2.1 ty28.2.2.1
@[simp] theorem fl37_6 : fldT Tryz.prog 37 6 = some (8, false, 1) := fldOf Tryz.underlying37 rfl rfl ty2.1 ty2.2.1 ty2.2.2.1
@[simp] theorem fl37_7 : fldT Tryz.prog 37 7 = some (9, true, 5) := fldOf Tryz.underlying37 rfl rfl ty30.1 ty30.2.1 ty30.2.2.1
@[simp] theorem fl37_8 : fldT Tryz.prog 37 8 = some (14, false, 1) := fldOf Tryz.underlying37 rfl rfl ty31.1 ty31.2.1 ty31.2.2.1
@[simp] theorem fl37_9 : fldT Tryz.prog 37 9 = some (15, false, 1) := fldOf Tryz.underlying37 rfl rfl ty2.1 ty2.2.1 ty2.2.2.1
@[simp] theorem fl37_10 : fldT Tryz.prog 37 10 = some (16, false, 1) := fldOf Tryz.underlying37 rfl rfl ty2.1 ty2.2.1 ty2.2.2.1
@[simp] theorem fl37_11 : fldT Tryz.prog 37 11 = some (17, false, 1) := fldOf Tryz.underlying37 rfl rfl ty32.1 ty32.2.1 ty32.2.2.1
@[simp] theorem fl37_12 : fldT Tryz.prog 37 12 = some (18, true, 2) := fldOf Tryz.underlying37 rfl rfl ty35.1 ty35.2.1 ty35.2.2.1
@[simp] theorem ts46 : structT Tryz.prog 46 = true := structOf Tryz.underlying46 (by simp [in2])
@[simp] theorem fl46_0 : fldT Tryz.prog 46 0 = some (0, false, 1) := fldOf Tryz.underlying46 rfl rfl ty2.1 ty2.2.1 ty2.2.2.1
@[simp] theorem fl46_1 : fldT Tryz.prog 46 1 = some (1, false, 1) := fldOf Tryz.underlying46 rfl rfl ty2.1 ty2.2.1 ty2.2.2.1
@[simp] theorem fl46_2 : fldT Tryz.prog 46 2 = some (2, false, 1) := fldOf Tryz.underlying46 rfl rfl ty2.1 ty2.2.1 ty2.2.2.1
@[simp] theorem ts48 : structT Tryz.prog 48 = true := structOf Tryz.underlying48 (by simp [in2, in9])
@[simp] theorem fl48_0 : fldT Tryz.prog 48 0 = some (0, false, 1) := fldOf Tryz.underlying48 rfl rfl ty9.1 ty9.2.1 ty9.2.2.1
@[simp] theorem fl48_1 : fldT Tryz.prog 48 1 = some (1, false, 1) := fldOf Tryz.underlying48 rfl rfl ty2.1 ty2.2.1 ty2.2.2.1
@[simp] theorem fl48_2 : fldT Tryz.prog 48 2 = some (2, false, 1) := fldOf Tryz.underlying48 rfl rfl ty2.1 ty2.2.1 ty2.2.2.1
@[simp] theorem fl48_3 : fldT Tryz.prog 48 3 = some (3, false, 1) := fldOf Tryz.underlying48 rfl rfl ty2.1 ty2.2.1 ty2.2.2.1
@[simp] theorem fl48_4 : fldT Tryz.prog 48 4 = some (4, false, 1) := fldOf Tryz.underlying48 rfl rfl ty2.1 ty2.2.1 ty2.2.2.1
@[simp] theorem ts53 : structT Tryz.prog 53 = true := structOf Tryz.underlying53 (by simp [in51, in9])
@[simp] theorem fl53_0 : fldT Tryz.prog 53 0 = some (0, false, 1) := fldOf Tryz.underlying53 rfl rfl ty9.1 ty9.2.1 ty9.2.2.1
@[simp] theorem fl53_1 : fldT Tryz.prog 53 1 = some (1, false, 1) := fldOf Tryz.underlying53 rfl rfl ty51.1 ty51.2.1 ty51.2.2.1
@[simp] theorem ts55 : structT Tryz.prog 55 = true := structOf Tryz.underlying55 (by simp [in2, in42, in43, in44, in45, in46, in47, in48, in49, in50, in53])
@[simp] theorem fl55_0 : fldT Tryz.prog 55 0 = some (0, false, 1) := fldOf Tryz.underlying55 rfl rfl ty42.1 ty42.2.1 ty42.2.2.1
@[simp] theorem fl55_1 : fldT Tryz.prog 55 1 = some (1, false, 1) := fldOf Tryz.underlying55 rfl rfl ty43.1 ty43.2.1 ty43.2.2.1
@[simp] theorem fl55_2 : fldT Tryz.prog 55 2 = some (2, false, 1) := fldOf Tryz.underlying55 rfl rfl ty44.1 ty44.2.1 ty44.2.2.1
@[simp] theorem fl55_3 : fldT Tryz.prog 55 3 = some (3, false, 1) := fldOf Tryz.underlying55 rfl rfl ty45.1 ty45.2.1 ty45.2.2.1
@[simp] theorem fl55_4 : fldT Tryz.prog 55 4 = some (4, true, 3) := fldOf Tryz.underlying55 rfl rfl ty46.1 ty46.2.1 ty46.2.2.1
@[simp] theorem fl55_5 : fldT Tryz.prog 55 5 = some (7, false, 1) := fldOf Tryz.underlying55 rfl rfl ty47.1 ty47.2.1 ty47.2.2.1
@[simp] theorem fl55_6 : fldT Tryz.prog 55 6 = some (8, false, 1) := fldOf Tryz.underlying55 rfl rfl ty2.1 ty2.2.1 ty2.2.2.1
@[simp] theorem fl55_7 : fldT Tryz.prog 55 7 = some (9, true, 5) := fldOf Tryz.underlying55 rfl rfl ty48.1 ty48.2.1 ty48.2.2.1
@[simp] theorem fl55_8 : fldT Tryz.prog 55 8 = some (14, false, 1) := fldOf Tryz.underlying55 rfl rfl ty49.1 ty49.2.1 ty49.2.2.1
@[simp] theorem fl55_9 : fldT Tryz.prog 55 9 = some (15, false, 1) := fldOf Tryz.underlying55 rfl rfl ty2.1 ty2.2.1 ty2.2.2.1
@[simp] theorem fl55_10 : fldT Tryz.prog 55 10 = some (16, false, 1) := fldOf Tryz.underlying55 rfl rfl ty2.1 ty2.2.1 ty2.2.2.1
@[simp] theorem fl55_11 : fldT Tryz.prog 55 11 = some (17, false, 1) := fldOf Tryz.underlying55 rfl rfl ty50.1 ty50.2.1 ty50.2.2.1
@[simp] theorem fl55_12 : fldT Tryz.prog 55 12 = some (18, true, 2) := fldOf Tryz.underlying55 rfl rfl ty53.1 ty53.2.1 ty53.2.2.1
@[simp] theorem ts87 : structT Tryz.prog 87 = true := structOf Tryz.underlying87 (by simp [in2, in9])
@[simp] theorem fl87_0 : fldT Tryz.prog 87 0 = some (0, false, 1) := fldOf Tryz.underlying87 rfl rfl ty2.1 ty2.2.1 ty2.2.2.1
@[simp] theorem fl87_1 : fldT Tryz.prog 87 1 = some (1, false, 1) := fldOf Tryz.underlying87 rfl rfl ty9.1 ty9.2.1 ty9.2.2.1
@[simp] theorem fl87_2 : fldT Tryz.prog 87 2 = some (2, false, 1) := fldOf Tryz.underlying87 rfl rfl ty9.1 ty9.2.1 ty9.2.2.1
@[simp] theorem ts111 : structT Tryz.prog 111 = true := structOf Tryz.underlying111 (by simp [in2])
@[simp] theorem fl111_0 : fldT Tryz.prog 111 0 = some (0, false, 1) := fldOf Tryz.underlying111 rfl rfl ty2.1 ty2.2.1 ty2.2.2.1
@[simp] theorem fl111_1 : fldT Tryz.prog 111 1 = some (1, false, 1) := fldOf Tryz.underlying111 rfl rfl ty2.1 ty2.2.1 ty2.2.2.1
@[simp] theorem fl111_2 : fldT Tryz.prog 111 2 = some (2, false, 1) := fldOf Tryz.underlying111 rfl rfl ty2.1 ty2.2.1 ty2.2.2.1
@[simp] theorem ts113 : structT Tryz.prog 113 = true := structOf Tryz.underlying113 (by simp [in111, in2, in9])
@[simp] theorem fl113_0 : fldT Tryz.prog 113 0 = some (0, false, 1) := fldOf Tryz.underlying113 rfl rfl ty9.1 ty9.2.1 ty9.2.2.1
@[simp] theorem fl113_1 : fldT Tryz.prog 113 1 = some (1, false, 1) := fldOf Tryz.underlying113 rfl rfl ty2.1 ty2.2.1 ty2.2.2.1
@[simp] theorem fl113_2 : fldT Tryz.prog 113 2 = some (2, true, 3) := fldOf Tryz.underlying113 rfl rfl ty111.1 ty111.2.1 ty111.2.2.1
@[simp] theorem ts117 : structT Tryz.prog 117 = true := structOf Tryz.underlying117 (by simp [in115, in2, in9])
@[simp] theorem fl117_0 : fldT Tryz.prog 117 0 = some (0, false, 1) := fldOf Tryz.underlying117 rfl rfl ty9.1 ty9.2.1 ty9.2.2.1
@[simp] theorem fl117_1 : fldT Tryz.prog 117 1 = some (1, false, 1) := fldOf Tryz.underlying117 rfl rfl ty115.1 ty115.2.1 ty115.2.2.1
@[simp] theorem fl117_2 : fldT Tryz.prog 117 2 = some (2, false, 1) := fldOf Tryz.underlying117 rfl rfl ty2.1 ty2.2.1 ty2.2.2.1
@[simp] theorem ts121 : structT Tryz.prog 121 = true := structOf Tryz.underlying121 (by simp [in119, in2, in9])
@[simp] theorem fl121_0 : fldT Tryz.prog 121 0 = some (0, false, 1) := fldOf Tryz.underlying121 rfl rfl ty9.1 ty9.2.1 ty9.2.2.1
@[simp] theorem fl121_1 : fldT Tryz.prog 121 1 = some (1, false, 1) := fldOf Tryz.underlying121 rfl rfl ty2.1 ty2.2.1 ty2.2.2.1
@[simp] theorem fl121_2 : fldT Tryz.prog 121 2 = some (2, false, 1) := fldOf Tryz.underlying121 rfl rfl ty2.1 ty2.2.1 ty2.2.2.1
@[simp] theorem fl121_3 : fldT Tryz.prog 121 3 = some (3, false, 1) := fldOf Tryz.underlying121 rfl rfl ty2.1 ty2.2.1 ty2.2.2.1
@[simp] theorem fl121_4 : fldT Tryz.prog 121 4 = some (4, false, 1) := fldOf Tryz.underlying121 rfl rfl ty119.1 ty119.2.1 ty119.2.2.1
@[simp] theorem ts124 : structT Tryz.prog 124 = true := structOf Tryz.underlying124 (by simp [in2, in9])
@[simp] theorem fl124_0 : fldT Tryz.prog 124 0 = some (0, false, 1) := fldOf Tryz.underlying124 rfl rfl ty9.1 ty9.2.1 ty9.2.2.1
@[simp] theorem fl124_1 : fldT Tryz.prog 124 1 = some (1, false, 1) := fldOf Tryz.underlying124 rfl rfl ty2.1 ty2.2.1 ty2.2.2.1
@[simp] theorem fl124_2 : fldT Tryz.prog 124 2 = some (2, false, 1) := fldOf Tryz.underlying124 rfl rfl ty2.1 ty2.2.1 ty2.2.2.1
@[simp] theorem fl124_3 : fldT Tryz.prog 124 3 = some (3, false, 1) := fldOf Tryz.underlying124 rfl rfl ty2.1 ty2.2.1 ty2.2.2.1
@[simp] theorem fl124_4 : fldT Tryz.prog 124 4 = some (4, false, 1) := fldOf Tryz.underlying124 rfl rfl ty2.1 ty2.2.1 ty2.2.2.1
@[simp] theorem ts127 : structT Tryz.prog 127 = true := structOf Tryz.underlying127 (by simp [in2, in9])
@[simp] theorem fl127_0 : fldT Tryz.prog 127 0 = some (0, false, 1) := fldOf Tryz.underlying127 rfl rfl ty9.1 ty9.2.1 ty9.2.2.1
@[simp] theorem fl127_1 : fldT Tryz.prog 127 1 = some (1, false, 1) := fldOf Tryz.underlying127 rfl rfl ty2.1 ty2.2.1 ty2.2.2.1
@[simp] theorem fl127_2 : fldT Tryz.prog 127 2 = some (2, false, 1) := fldOf Tryz.underlying127 rfl rfl ty2.1 ty2.2.1 ty2.2.2.1
@[simp] theorem fl127_3 : fldT Tryz.prog 127 3 = some (3, false, 1) := fldOf Tryz.underlying127 rfl rfl ty2.1 ty2.2.1 ty2.2.2.1
@[simp] theorem fl127_4 : fldT Tryz.prog 127 4 = some (4, false, 1) := fldOf Tryz.underlying127 rfl rfl ty2.1 ty2.2.1 ty2.2.2.1
@[simp] theorem ts131 : structT Tryz.prog 131 = true := structOf Tryz.underlying131 (by simp [in129, in2, in9])
@[simp] theorem fl131_0 : fldT Tryz.prog 131 0 = some (0, false, 1) := fldOf Tryz.underlying131 rfl rfl ty9.1 ty9.2.1 ty9.2.2.1
@[simp] theorem fl131_1 : fldT Tryz.prog 131 1 = some (1, false, 1) := fldOf Tryz.underlying131 rfl rfl ty2.1 ty2.2.1 ty2.2.2.1
@[simp] theorem fl131_2 : fldT Tryz.prog 131 2 = some (2, false, 1) := fldOf Tryz.underlying131 rfl rfl ty2.1 ty2.2.1 ty2.2.2.1
@[simp] theorem fl131_3 : fldT Tryz.prog 131 3 = some (3, false, 1) := fldOf Tryz.underlying131 rfl rfl ty2.1 ty2.2.1 ty2.2.2.1
@[simp] theorem fl131_4 : fldT Tryz.prog 131 4 = some (4, false, 1) := fldOf Tryz.underlying131 rfl rfl ty2.1 ty2.2.1 ty2.2.2.1
@[simp] theorem fl131_5 : fldT Tryz.prog 131 5 = some (5, false, 1) := fldOf Tryz.underlying131 rfl rfl ty129.1 ty129.2.1 ty129.2.2.1
@[simp] theorem ts135 : structT Tryz.prog 135 = true := structOf Tryz.underlying135 (by simp [in133, in2])
@[simp] theorem fl135_0 : fldT Tryz.prog 135 0 = some (0, false, 1) := fldOf Tryz.underlying135 rfl rfl ty2.1 ty2.2.1 ty2.2.2.1
@[simp] theorem fl135_1 : fldT Tryz.prog 135 1 = some (1, false, 1) := fldOf Tryz.underlying135 rfl rfl ty133.1 ty133.2.1 ty133.2.2.1
@[simp] theorem fl135_2 : fldT Tryz.prog 135 2 = some (2, false, 1) := fldOf Tryz.underlying135 rfl rfl ty2.1 ty2.2.1 ty2.2.2.1
@[simp] theorem fl135_3 : fldT Tryz.prog 135 3 = some (3, false, 1) := fldOf Tryz.underlying135 rfl rfl ty2.1 ty2.2.1 ty2.2.2.1
@[simp] theorem ts137 : structT Tryz.prog 137 = true := structOf Tryz.underlying137 (by simp [in2])
@[simp] theorem fl137_0 : fldT Tryz.prog 137 0 = some (0, false, 1) := fldOf Tryz.underlying137 rfl rfl ty2.1 ty2.2.1 ty2.2.2.1
@[simp] theorem fl137_1 : fldT Tryz.prog 137 1 = some (1, false, 1) := fldOf Tryz.underlying137 rfl rfl ty2.1 ty2.2.1 ty2.2.2.1
@[simp] theorem fl137_2 : fldT Tryz.prog 137 2 = some (2, false, 1) := fldOf Tryz.underlying137 rfl rfl ty2.1 ty2.2.1 ty2.2.2.1
@[simp] theorem ts139 : structT Tryz.prog 139 = true := structOf Tryz.underlying139 (by simp [in137, in2, in9])
@[simp] theorem fl139_0 : fldT Tryz.prog 139 0 = some (0, false, 1) := fldOf Tryz.underlying139 rfl rfl ty9.1 ty9.2.1 ty9.2.2.1
@[simp] theorem fl139_1 : fldT Tryz.prog 139 1 = some (1, false, 1) := fldOf Tryz.underlying139 rfl rfl ty2.1 ty2.2.1 ty2.2.2.1
@[simp] theorem fl139_2 : fldT Tryz.prog 139 2 = some (2, true, 3) := fldOf Tryz.underlying139 rfl rfl ty137.1 ty137.2.1 ty137.2.2.1
@[simp] theorem ts141 : structT Tryz.prog 141 = true := structOf Tryz.underlying141 (by simp [in115, in2, in9])
@[simp] theorem fl141_0 : fldT Tryz.prog 141 0 = some (0, false, 1) := fldOf Tryz.underlying141 rfl rfl ty9.1 ty9.2.1 ty9.2.2.1
@[simp] theorem fl141_1 : fldT Tryz.prog 141 1 = some (1, false, 1) := fldOf Tryz.underlying141 rfl rfl ty115.1 ty115.2.1 ty115.2.2.1
@[simp] theorem fl141_2 : fldT Tryz.prog 141 2 = some (2, false, 1) := fldOf Tryz.underlying141 rfl rfl ty2.1 ty2.2.1 ty2.2.2.1
@[simp] theorem ts145 : structT Tryz.prog 145 = true := structOf Tryz.underlying145 (by simp [in143, in2, in9])
@[simp] theorem fl145_0 : fldT Tryz.prog 145 0 = some (0, false, 1) := fldOf Tryz.underlying145 rfl rfl ty9.1 ty9.2.1 ty9.2.2.1
@[simp] theorem fl145_1 : fldT Tryz.prog 145 1 = some (1, false, 1) := fldOf Tryz.underlying145 rfl rfl ty2.1 ty2.2.1 ty2.2.2.1
@[simp] theorem fl145_2 : fldT Tryz.prog 145 2 = some (2, false, 1) := fldOf Tryz.underlying145 rfl rfl ty2.1 ty2.2.1 ty2.2.2.1
@[simp] theorem fl145_3 : fldT Tryz.prog 145 3 = some (3, false, 1) := fldOf Tryz.underlying145 rfl rfl ty2.1 ty2.2.1 ty2.2.2.1
@[simp] theorem fl145_4 : fldT Tryz.prog 145 4 = some (4, false, 1) := fldOf Tryz.underlying145 rfl rfl ty143.1 ty143.2.1 ty143.2.2.1
@[simp] theorem ts147 : structT Tryz.prog 147 = true := structOf Tryz.underlying147 (by simp [in2, in9])
@[simp] theorem fl147_0 : fldT Tryz.prog 147 0 = some (0, false, 1) := fldOf Tryz.underlying147 rfl rfl ty9.1 ty9.2.1 ty9.2.2.1
@[simp] theorem fl147_1 : fldT Tryz.prog 147 1 = some (1, false, 1) := fldOf Tryz.underlying147 rfl rfl ty2.1 ty2.2.1 ty2.2.2.1
@[simp] theorem fl147_2 : fldT Tryz.prog 147 2 = some (2, false, 1) := fldOf Tryz.underlying147 rfl rfl ty2.1 ty2.2.1 ty2.2.2.1
@[simp] theorem fl147_3 : fldT Tryz.prog 147 3 = some (3, false, 1) := fldOf Tryz.underlying147 rfl rfl ty2.1 ty2.2.1 ty2.2.2.1
@[simp] theorem fl147_4 : fldT Tryz.prog 147 4 = some (4, false, 1) := fldOf Tryz.underlying147 rfl rfl ty2.1 ty2.2.1 ty2.2.2.1
@[simp] theorem ts149 : structT Tryz.prog 149 = true := structOf Tryz.underlying149 (by simp [in2, in9])
@[simp] theorem fl149_0 : fldT Tryz.prog 149 0 = some (0, false, 1) := fldOf Tryz.underlying149 rfl rfl ty9.1 ty9.2.1 ty9.2.2.1
@[simp] theorem fl149_1 : fldT Tryz.prog 149 1 = some (1, false, 1) := fldOf Tryz.underlying149 rfl rfl ty2.1 ty2.2.1 ty2.2.2.1
@[simp] theorem fl149_2 : fldT Tryz.prog 149 2 = some (2, false, 1) := fldOf Tryz.underlying149 rfl rfl ty2.1 ty2.2.1 ty2.2.2.1
@[simp] theorem fl149_3 : fldT Tryz.prog 149 3 = some (3, false, 1) := fldOf Tryz.underlying149 rfl rfl ty2.1 ty2.2.1 ty2.2.2.1
@[simp] theorem fl149_4 : fldT Tryz.prog 149 4 = some (4, false, 1) := fldOf Tryz.underlying149 rfl rfl ty2.1 ty2.2.1 ty2.2.2.1
@[simp] theorem ts153 : structT Tryz.prog 153 = true := structOf Tryz.underlying153 (by simp [in151, in2, in9])
@[simp] theorem fl153_0 : fldT Tryz.prog 153 0 = some (0, false, 1) := fldOf Tryz.underlying153 rfl rfl ty9.1 ty9.2.1 ty9.2.2.1
@[simp] theorem fl153_1 : fldT Tryz.prog 153 1 = some (1, false, 1) := fldOf Tryz.underlying153 rfl rfl ty2.1 ty2.2.1 ty2.2.2.1
@[simp] theorem fl153_2 : fldT Tryz.prog 153 2 = some (2, false, 1) := fldOf Tryz.underlying153 rfl rfl ty2.1 ty2.2.1 ty2.2.2.1
@[simp] theorem fl153_3 : fldT Tryz.prog 153 3 = some (3, false, 1) := fldOf Tryz.underlying153 rfl rfl ty2.1 ty2.2.1 ty2.2.2.1
@[simp] theorem fl153_4 : fldT Tryz.prog 153 4 = some (4, false, 1) := fldOf Tryz.underlying153 rfl rfl ty2.1 ty2.2.1 ty2.2.2.1
@[simp] theorem fl153_5 : fldT Tryz.prog 153 5 = some (5, false, 1) := fldOf Tryz.underlying153 rfl rfl ty151.1 ty151.2.1 ty151.2.2.1
@[simp] theorem ts157 : structT Tryz.prog 157 = true := structOf Tryz.underlying157 (by simp [in155, in2])
@[simp] theorem fl157_0 : fldT Tryz.prog 157 0 = some (0, false, 1) := fldOf Tryz.underlying157 rfl rfl ty2.1 ty2.2.1 ty2.2.2.1
@[simp] theorem fl157_1 : fldT Tryz.prog 157 1 = some (1, false, 1) := fldOf Tryz.underlying157 rfl rfl ty155.1 ty155.2.1 ty155.2.2.1
@[simp] theorem fl157_2 : fldT Tryz.prog 157 2 = some (2, false, 1) := fldOf Tryz.underlying157 rfl rfl ty2.1 ty2.2.1 ty2.2.2.1
@[simp] theorem fl157_3 : fldT Tryz.prog 157 3 = some (3, false, 1) := fldOf Tryz.underlying157 rfl rfl ty2.1 ty2.2.1 ty2.2.2.1
@[simp] theorem ts185 : structT Tryz.prog 185 = true := structOf Tryz.underlying185 (by simp [in2])
@[simp] theorem fl185_0 : fldT Tryz.prog 185 0 = some (0, false, 1) := fldOf Tryz.underlying185 rfl rfl ty2.1 ty2.2.1 ty2.2.2.1
@[simp] theorem fl185_1 : fldT Tryz.prog 185 1 = some (1, false, 1) := fldOf Tryz.underlying185 rfl rfl ty2.1 ty2.2.1 ty2.2.2.1
@[simp] theorem fl185_2 : fldT Tryz.prog 185 2 = some (2, false, 1) := fldOf Tryz.underlying185 rfl rfl ty2.1 ty2.2.1 ty2.2.2.1
@[simp] theorem ts230 : structT Tryz.prog 230 = true := structOf Tryz.underlying230 (by simp [in2])
@[simp] theorem fl230_0 : fldT Tryz.prog 230 0 = some (0, false, 1) := fldOf Tryz.underlying230 rfl rfl ty2.1 ty2.2.1 ty2.2.2.1
@[simp] theorem fl230_1 : fldT Tryz.prog 230 1 = some (1, false, 1) := fldOf Tryz.underlying230 rfl rfl ty2.1 ty2.2.1 ty2.2.2.1
@[simp] theorem fl230_2 : fldT Tryz.prog 230 2 = some (2, false, 1) := fldOf Tryz.underlying230 rfl rfl ty2.1 ty2.2.1 ty2.2.2.1
@[simp] theorem ts240 : structT Tryz.prog 240 = true := structOf Tryz.underlying240 (by simp [in2])
@[simp] theorem fl240_0 : fldT Tryz.prog 240 0 = some (0, false, 1) := fldOf Tryz.underlying240 rfl rfl ty2.1 ty2.2.1 ty2.2.2.1
@[simp] theorem fl240_1 : fldT Tryz.prog 240 1 = some (1, false, 1) := fldOf Tryz.underlying240 rfl rfl ty2.1 ty2.2.1 ty2.2.2.1
@[simp] theorem ts248 : structT Tryz.prog 248 = true := structOf Tryz.underlying248 (by simp [in2, in9])
@[simp] theorem fl248_0 : fldT Tryz.prog 248 0 = some (0, false, 1) := fldOf Tryz.underlying248 rfl rfl ty9.1 ty9.2.1 ty9.2.2.1
@[simp] theorem fl248_1 : fldT Tryz.prog 248 1 = some (1, false, 1) := fldOf Tryz.underlying248 rfl rfl ty2.1 ty2.2.1 ty2.2.2.1
@[simp] theorem ts250 : structT Tryz.prog 250 = true := structOf Tryz.underlying250 (by simp [in2])
@[simp] theorem fl250_0 : fldT Tryz.prog 250 0 = some (0, false, 1) := fldOf Tryz.underlying250 rfl rfl ty2.1 ty2.2.1 ty2.2.2.1
@[simp] theorem fl250_1 : fldT Tryz.prog 250 1 = some (1, false, 1) := fldOf Tryz.underlying250 rfl rfl ty2.1 ty2.2.1 ty2.2.2.1
@[simp] theorem ts279 : structT Tryz.prog 279 = true := structOf Tryz.underlying279 (by simp [in2, in9])
@[simp] theorem fl279_0 : fldT Tryz.prog 279 0 = some (0, false, 1) := fldOf Tryz.underlying279 rfl rfl ty9.1 ty9.2.1 ty9.2.2.1
@[simp] theorem fl279_1 : fldT Tryz.prog 279 1 = some (1, false, 1) := fldOf Tryz.underlying279 rfl rfl ty2.1 ty2.2.1 ty2.2.2.1
@[simp] theorem ts286 : structT Tryz.prog 286 = true := structOf Tryz.underlying286 (by simp [in2, in9])
@[simp] theorem fl286_0 : fldT Tryz.prog 286 0 = some (0, false, 1) := fldOf Tryz.underlying286 rfl rfl ty9.1 ty9.2.1 ty9.2.2.1
@[simp] theorem fl286_1 : fldT Tryz.prog 286 1 = some (1, false, 1) := fldOf Tryz.underlying286 rfl rfl ty2.1 ty2.2.1 ty2.2.2.1
@[simp] theorem fl286_2 : fldT Tryz.prog 286 2 = some (2, false, 1) := fldOf Tryz.underlying286 rfl rfl ty2.1 ty2.2.1 ty2.2.2.1
@[simp] theorem ts293 : structT Tryz.prog 293 = true := structOf Tryz.underlying293 (by simp [in2])
@[simp] theorem fl293_0 : fldT Tryz.prog 293 0 = some (0, false, 1) := fldOf Tryz.underlying293 rfl rfl ty2.1 ty2.2.1 ty2.2.2.1
@[simp] theorem fl293_1 : fldT Tryz.prog 293 1 = some (1, false, 1) := fldOf Tryz.underlying293 rfl rfl ty2.1 ty2.2.1 ty2.2.2.1
@[simp] theorem ts295 : structT Tryz.prog 295 = true := structOf Tryz.underlying295 (by simp [in2])
@[simp] theorem fl295_0 : fldT Tryz.prog 295 0 = some (0, false, 1) := fldOf Tryz.underlying295 rfl rfl ty2.1 ty2.2.1 ty2.2.2.1
@[simp] theorem fl295_1 : fldT Tryz.prog 295 1 = some (1, false, 1) := fldOf Tryz.underlying295 rfl rfl ty2.1 ty2.2.1 ty2.2.2.1
@[simp] theorem res_3 : Tryz.f3.results.toList = [.tmp 2] := rfl
@[simp] theorem res_4 : Tryz.f4.results.toList = [.tmp 2] := rfl
@[simp] theorem res_5 : Tryz.f5.results.toList = [.tmp 2] := rfl
@[simp] theorem res_6 : Tryz.f6.results.toList = [.tmp 4] := rfl
@[simp] theorem res_7 : Tryz.f7.results.toList = [.tmp 2, .tmp 3] := rfl
@[simp] theorem res_8 : Tryz.f8.results.toList = [.cell 2 55] := rfl
@[simp] theorem res_9 : Tryz.f9.results.toList = [.tmp 2, .tmp 3] := rfl
@[simp] theorem res_10 : Tryz.f10.results.toList = [.tmp 4] := rfl
@[simp] theorem res_11 : Tryz.f11.results.toList = [.tmp 4] := rfl
@[simp] theorem res_12 : Tryz.f12.results.toList = [.tmp 4] := rfl
@[simp] theorem res_13 : Tryz.f13.results.toList = [.tmp 4] := rfl
@[simp] theorem res_14 : Tryz.f14.results.toList = [.tmp 4] := rfl
@[simp] theorem res_15 : Tryz.f15.results.toList = [.tmp 2, .tmp 3] := rfl
@[simp] theorem res_16 : Tryz.f16.results.toList = [.tmp 2, .tmp 3] := rfl
@[simp] theorem res_17 : Tryz.f17.results.toList = [.tmp 2, .tmp 3] := rfl
@[simp] theorem res_18 : Tryz.f18.results.toList = [.tmp 2, .tmp 3] := rfl
@[simp] theorem res_19 : Tryz.f19.results.toList = [.tmp 4] := rfl
@[simp] theorem res_20 : Tryz.f20.results.toList = [.tmp 4] := rfl
@[simp] theorem res_21 : Tryz.f21.results.toList = [.tmp 4] := rfl
@[simp] theorem res_22 : Tryz.f22.results.toList = [.tmp 4] := rfl
@[simp] theorem res_23 : Tryz.f23.results.toList = [.tmp 4] := rfl
@[simp] theorem res_24 : Tryz.f24.results.toList = [.tmp 4] := rfl
@[simp] theorem res_25 : Tryz.f25.results.toList = [.tmp 4] := rfl
@[simp] theorem res_26 : Tryz.f26.results.toList = [.tmp 4] := rfl
@[simp] theorem res_27 : Tryz.f27.results.toList = [.tmp 4] := rfl
@[simp] theorem res_28 : Tryz.f28.results.toList = [.tmp 4, .tmp 5] := rfl
@[simp] theorem res_29 : Tryz.f29.results.toList = [.tmp 2] := rfl
@[simp] theorem res_30 : Tryz.f30.results.toList = [.tmp 2] := rfl
@[simp] theorem res_31 : Tryz.f31.results.toList = [.tmp 2] := rfl
@[simp] theorem res_32 : Tryz.f32.results.toList = [.tmp 2] := rfl
@[simp] theorem res_33 : Tryz.f33.results.toList = [.cell 2 46] := rfl
@[simp] theorem res_34 : Tryz.f34.results.toList = [.tmp 2] := rfl
@[simp] theorem res_35 : Tryz.f35.results.toList = [.cell 2 48] := rfl
@[simp] theorem res_36 : Tryz.f36.results.toList = [.tmp 2] := rfl
@[simp] theorem res_37 : Tryz.f37.results.toList = [.tmp 2] := rfl
@[simp] theorem res_38 : Tryz.f38.results.toList = [.cell 2 53] := rfl
@[simp] theorem res_39 : Tryz.f39.results.toList = [.tmp 4, .tmp 5] := rfl
@[simp] theorem res_40 : Tryz.f40.results.toList = [.tmp 2] := rfl
@[simp] theorem res_41 : Tryz.f41.results.toList = [.tmp 4] := rfl
@[simp] theorem res_42 : Tryz.f42.results.toList = [.tmp 4] := rfl
@[simp] theorem res_43 : Tryz.f43.results.toList = [.tmp 4] := rfl
@[simp] theorem res_44 : Tryz.f44.results.toList = [.tmp 4] := rfl
@[simp] theorem res_45 : Tryz.f45.results.toList = [.tmp 4] := rfl
@[simp] theorem res_46 : Tryz.f46.results.toList = [.tmp 4] := rfl
@[simp] theorem res_47 : Tryz.f47.results.toList = [.tmp 4] := rfl
@[simp] theorem res_48 : Tryz.f48.results.toList = [.tmp 4] := rfl
@[simp] theorem res_49 : Tryz.f49.results.toList = [.tmp 4] := rfl
@[simp] theorem res_50 : Tryz.f50.results.toList = [.tmp 4] := rfl
@[simp] theorem res_51 : Tryz.f51.results.toList = [.tmp 4] := rfl
@[simp] theorem res_52 : Tryz.f52.results.toList = [.tmp 4] := rfl
@[simp] theorem res_53 : Tryz.f53.results.toList = [.tmp 4] := rfl
@[simp] theorem res_54 : Tryz.f54.results.toList = [.tmp 4] := rfl
@[simp] theorem res_55 : Tryz.f55.results.toList = [.tmp 4] := rfl
@[simp] theorem res_56 : Tryz.f56.results.toList = [.tmp 4] := rfl
@[simp] theorem res_57 : Tryz.f57.results.toList = [.tmp 4] := rfl
@[simp] theorem res_58 : Tryz.f58.results.toList = [.tmp 4] := rfl
@[simp] theorem res_59 : Tryz.f59.results.toList = [.tmp 4] := rfl
@[simp] theorem res_60 : Tryz.f60.results.toList = [.tmp 2] := rfl
@[simp] theorem res_61 : Tryz.f61.results.toList = [.tmp 2] := rfl
@[simp] theorem res_62 : Tryz.f62.results.toList = [.tmp 2] := rfl
@[simp] theorem res_63 : Tryz.f63.results.toList = [.tmp 2] := rfl
@[simp] theorem res_64 : Tryz.f64.results.toList = [.tmp 2] := rfl
@[simp] theorem res_65 : Tryz.f65.results.toList = [.tmp 2] := rfl
@[simp] theorem res_66 : Tryz.f66.results.toList = [.tmp 4] := rfl
@[simp] theorem res_67 : Tryz.f67.results.toList = [.tmp 4] := rfl
@[simp] theorem res_68 : Tryz.f68.results.toList = [.tmp 4] := rfl
@[simp] theorem res_69 : Tryz.f69.results.toList = [.tmp 4] := rfl
@[simp] theorem res_70 : Tryz.f70.results.toList = [.tmp 4] := rfl
@[simp] theorem res_71 : Tryz.f71.results.toList = [.tmp 4] := rfl
@[simp] theorem res_72 : Tryz.f72.results.toList = [.tmp 4] := rfl
@[simp] theorem res_73 : Tryz.f73.results.toList = [.tmp 4] := rfl
@[simp] theorem res_74 : Tryz.f74.results.toList = [.tmp 2] := rfl
@[simp] theorem res_75 : Tryz.f75.results.toList = [.tmp 2] := rfl
@[simp] theorem res_76 : Tryz.f76.results.toList = [.tmp 2] := rfl
@[simp] theorem res_77 : Tryz.f77.results.toList = [.tmp 2] := rfl
@[simp] theorem res_78 : Tryz.f78.results.toList = [.cell 2 139] := rfl
@[simp] theorem res_79 : Tryz.f79.results.toList = [.cell 2 141] := rfl
@[simp] theorem res_80 : Tryz.f80.results.toList = [.cell 2 145] := rfl
@[simp] theorem res_81 : Tryz.f81.results.toList = [.cell 2 147] := rfl
@[simp] theorem res_82 : Tryz.f82.results.toList = [.cell 2 149] := rfl
@[simp] theorem res_83 : Tryz.f83.results.toList = [.cell 2 153] := rfl
@[simp] theorem res_84 : Tryz.f84.results.toList = [.cell 2 157] := rfl
@[simp] theorem res_85 : Tryz.f85.results.toList = [.tmp 2] := rfl
@[simp] theorem res_86 : Tryz.f86.results.toList = [.tmp 2] := rfl
@[simp] theorem res_87 : Tryz.f87.results.toList = [.tmp 2, .tmp 3] := rfl
@[simp] theorem res_88 : Tryz.f88.results.toList = [.tmp 2] := rfl
@[simp] theorem res_89 : Tryz.f89.results.toList = [.tmp 4] := rfl
@[simp] theorem res_90 : Tryz.f90.results.toList = [.tmp 2] := rfl
@[simp] theorem res_91 : Tryz.f91.results.toList = [.tmp 2] := rfl
@[simp] theorem res_92 : Tryz.f92.results.toList = [.tmp 4] := rfl
@[simp] theorem res_93 : Tryz.f93.results.toList = [.tmp 4] := rfl
@[simp] theorem res_94 : Tryz.f94.results.toList = [.tmp 4] := rfl
@[simp] theorem res_95 : Tryz.f95.results.toList = [.tmp 4] := rfl
@[simp] theorem res_96 : Tryz.f96.results.toList = [.tmp 4] := rfl
@[simp] theorem res_97 : Tryz.f97.results.toList = [.tmp 4] := rfl
@[simp] theorem res_98 : Tryz.f98.results.toList = [.tmp 4] := rfl
@[simp] theorem res_99 : Tryz.f99.results.toList = [.tmp 4] := rfl
@[simp] theorem res_100 : Tryz.f100.results.toList = [.tmp 4] := rfl
@[simp] theorem res_101 : Tryz.f101.results.toList = [.tmp 4] := rfl
@[simp] theorem res_102 : Tryz.f102.results.toList = [.tmp 4] := rfl
@[simp] theorem res_103 : Tryz.f103.results.toList = [.tmp 4] := rfl
@[simp] theorem res_104 : Tryz.f104.results.toList = [.tmp 4] := rfl
@[simp] theorem res_105 : Tryz.f105.results.toList = [.tmp 4] := rfl
@[simp] theorem res_106 : Tryz.f106.results.toList = [.tmp 2] := rfl
@[simp] theorem res_107 : Tryz.f107.results.toList = [.tmp 4, .tmp 5] := rfl
@[simp] theorem res_108 : Tryz.f108.results.toList = [.tmp 4] := rfl
@[simp] theorem res_109 : Tryz.f109.results.toList = [.tmp 3] := rfl
@[simp] theorem res_110 : Tryz.f110.results.toList = [.tmp 2] := rfl
@[simp] theorem res_111 : Tryz.f111.results.toList = [.tmp 2] := rfl
@[simp] theorem res_112 : Tryz.f112.results.toList = [.tmp 2] := rfl
@[simp] theorem res_113 : Tryz.f113.results.toList = [.tmp 2] := rfl
@[simp] theorem res_114 : Tryz.f114.results.toList = [.tmp 2] := rfl
@[simp] theorem res_115 : Tryz.f115.results.toList = [.tmp 2] := rfl
@[simp] theorem res_116 : Tryz.f116.results.toList = [.tmp 2] := rfl
@[simp] theorem res_117 : Tryz.f117.results.toList = [.tmp 2] := rfl
@[simp] theorem res_118 : Tryz.f118.results.toList = [.tmp 2] := rfl
@[simp] theorem res_119 : Tryz.f119.results.toList = [.tmp 2] := rfl
@[simp] theorem res_120 : Tryz.f120.results.toList = [.tmp 6] := rfl
@[simp] theorem res_121 : Tryz.f121.results.toList = [.tmp 2] := rfl
@[simp] theorem res_122 : Tryz.f122.results.toList = [.tmp 2] := rfl
@[simp] theorem res_123 : Tryz.f123.results.toList = [.tmp 6] := rfl
@[simp] theorem res_124 : Tryz.f124.results.toList = [.tmp 4] := rfl
@[simp] theorem res_125 : Tryz.f125.results.toList = [.tmp 3] := rfl
@[simp] theorem res_126 : Tryz.f126.results.toList = [.tmp 4] := rfl
@[simp] theorem res_127 : Tryz.f127.results.toList = [.tmp 3] := rfl
@[simp] theorem res_128 : Tryz.f128.results.toList = [.tmp 6, .tmp 7] := rfl
@[simp] theorem res_129 : Tryz.f129.results.toList = [.tmp 4] := rfl
@[simp] theorem res_130 : Tryz.f130.results.toList = [.tmp 4] := rfl
@[simp] theorem res_131 : Tryz.f131.results.toList = [.tmp 4] := rfl
@[simp] theorem res_132 : Tryz.f132.results.toList = [.tmp 4] := rfl
@[simp] theorem res_133 : Tryz.f133.results.toList = [.tmp 4] := rfl
@[simp] theorem res_134 : Tryz.f134.results.toList = [.tmp 6] := rfl
@[simp] theorem res_135 : Tryz.f135.results.toList = [.tmp 4] := rfl
@[simp] theorem res_136 : Tryz.f136.results.toList = [.tmp 4] := rfl
@[simp] theorem res_137 : Tryz.f137.results.toList = [.tmp 6] := rfl
@[simp] theorem res_138 : Tryz.f138.results.toList = [.tmp 4] := rfl
@[simp] theorem res_139 : Tryz.f139.results.toList = [.tmp 2, .tmp 3] := rfl
@[simp] theorem res_140 : Tryz.f140.results.toList = [.tmp 2] := rfl
@[simp] theorem res_141 : Tryz.f141.results.toList = [.tmp 4] := rfl
@[simp] theorem res_142 : Tryz.f142.results.toList = [.tmp 2] := rfl
@[simp] theorem res_143 : Tryz.f143.results.toList = [.tmp 2] := rfl
@[simp] theorem res_144 : Tryz.f144.results.toList = [.tmp 2, .tmp 3] := rfl
@[simp] theorem res_145 : Tryz.f145.results.toList = [.tmp 4, .tmp 5] := rfl
@[simp] theorem res_146 : Tryz.f146.results.toList = [.tmp 4] := rfl
@[simp] theorem res_147 : Tryz.f147.results.toList = [.tmp 2] := rfl
@[simp] theorem res_148 : Tryz.f148.results.toList = [.cell 2 137] := rfl
@[simp] theorem res_149 : Tryz.f149.results.toList = [.tmp 2] := rfl
@[simp] theorem res_150 : Tryz.f150.results.toList = [.tmp 2] := rfl
@[simp] theorem res_151 : Tryz.f151.results.toList = [.tmp 2] := rfl
@[simp] theorem res_152 : Tryz.f152.results.toList = [.tmp 2] := rfl
@[simp] theorem res_153 : Tryz.f153.results.toList = [.cell 2 185] := rfl
@[simp] theorem res_154 : Tryz.f154.results.toList = [.tmp 2] := rfl
@[simp] theorem res_155 : Tryz.f155.results.toList = [.tmp 2] := rfl
@[simp] theorem res_156 : Tryz.f156.results.toList = [.tmp 2] := rfl
@[simp] theorem res_157 : Tryz.f157.results.toList = [.tmp 2] := rfl
@[simp] theorem res_158 : Tryz.f158.results.toList = [.tmp 2] := rfl
@[simp] theorem res_159 : Tryz.f159.results.toList = [.tmp 2] := rfl
@[simp] theorem res_160 : Tryz.f160.results.toList = [.tmp 2] := rfl
@[simp] theorem res_161 : Tryz.f161.results.toList = [.tmp 2] := rfl
@[simp] theorem res_162 : Tryz.f162.results.toList = [.tmp 2] := rfl
@[simp] theorem res_163 : Tryz.f163.results.toList = [.tmp 6] := rfl
@[simp] theorem res_164 : Tryz.f164.results.toList = [.tmp 2] := rfl
@[simp] theorem res_165 : Tryz.f165.results.toList = [.tmp 2] := rfl
@[simp] theorem res_166 : Tryz.f166.results.toList = [.tmp 2, .tmp 3] := rfl
@[simp] theorem res_167 : Tryz.f167.results.toList = [.tmp 4, .tmp 5] := rfl
@[simp] theorem res_168 : Tryz.f168.results.toList = [.tmp 2, .tmp 3] := rfl
@[simp] theorem res_169 : Tryz.f169.results.toList = [.tmp 4] := rfl
@[simp] theorem res_170 : Tryz.f170.results.toList = [.tmp 4] := rfl
@[simp] theorem res_171 : Tryz.f171.results.toList = [.tmp 4] := rfl
@[simp] theorem res_172 : Tryz.f172.results.toList = [.tmp 4] := rfl
@[simp] theorem res_173 : Tryz.f173.results.toList = [.tmp 4] := rfl
@[simp] theorem res_174 : Tryz.f174.results.toList = [.tmp 4] := rfl
@[simp] theorem res_175 : Tryz.f175.results.toList = [.tmp 4] := rfl
@[simp] theorem res_176 : Tryz.f176.results.toList = [] := rfl
@[simp] theorem res_177 : Tryz.f177.results.toList = [.tmp 2] := rfl
@[simp] theorem res_178 : Tryz.f178.results.toList = [.tmp 4] := rfl
@[simp] theorem res_179 : Tryz.f179.results.toList = [.tmp 3] := rfl
@[simp] theorem res_180 : Tryz.f180.results.toList = [.tmp 2] := rfl
@[simp] theorem res_181 : Tryz.f181.results.toList = [.tmp 2] := rfl
@[simp] theorem res_182 : Tryz.f182.results.toList = [.tmp 2] := rfl
@[simp] theorem res_183 : Tryz.f183.results.toList = [.tmp 2] := rfl
@[simp] theorem res_184 : Tryz.f184.results.toList = [.tmp 4] := rfl
@[simp] theorem res_185 : Tryz.f185.results.toList = [.tmp 2] := rfl
@[simp] theorem res_186 : Tryz.f186.results.toList = [.tmp 2] := rfl
@[simp] theorem res_187 : Tryz.f187.results.toList = [.tmp 2] := rfl
@[simp] theorem res_188 : Tryz.f188.results.toList = [.tmp 2] := rfl
@[simp] theorem res_189 : Tryz.f189.results.toList = [.tmp 2] := rfl
@[simp] theorem res_190 : Tryz.f190.results.toList = [.tmp 2] := rfl
@[simp] theorem res_191 : Tryz.f191.results.toList = [.tmp 2] := rfl
@[simp] theorem res_192 : Tryz.f192.results.toList = [.tmp 4] := rfl
@[simp] theorem res_193 : Tryz.f193.results.toList = [.tmp 4] := rfl
@[simp] theorem res_194 : Tryz.f194.results.toList = [.tmp 4] := rfl
@[simp] theorem res_195 : Tryz.f195.results.toList = [.tmp 4] := rfl
@[simp] theorem res_196 : Tryz.f196.results.toList = [.tmp 4] := rfl
@[simp] theorem res_197 : Tryz.f197.results.toList = [.tmp 6] := rfl
@[simp] theorem res_198 : Tryz.f198.results.toList = [.tmp 4] := rfl
@[simp] theorem res_199 : Tryz.f199.results.toList = [.tmp 4] := rfl
@[simp] theorem res_200 : Tryz.f200.results.toList = [.tmp 4] := rfl
@[simp] theorem res_201 : Tryz.f201.results.toList = [.tmp 4] := rfl
@[simp] theorem res_202 : Tryz.f202.results.toList = [.tmp 4] := rfl
@[simp] theorem res_203 : Tryz.f203.results.toList = [.tmp 6] := rfl
@[simp] theorem res_204 : Tryz.f204.results.toList = [.tmp 4] := rfl
@[simp] theorem res_205 : Tryz.f205.results.toList = [.tmp 4, .tmp 5] := rfl
@[simp] theorem res_206 : Tryz.f206.results.toList = [.tmp 4] := rfl
@[simp] theorem res_207 : Tryz.f207.results.toList = [.tmp 4] := rfl
@[simp] theorem res_208 : Tryz.f208.results.toList = [.tmp 2] := rfl
@[simp] theorem res_209 : Tryz.f209.results.toList = [.tmp 2] := rfl
@[simp] theorem res_210 : Tryz.f210.results.toList = [.tmp 4, .tmp 5] := rfl
@[simp] theorem res_211 : Tryz.f211.results.toList = [.tmp 2, .tmp 3] := rfl
@[simp] theorem res_212 : Tryz.f212.results.toList = [.tmp 4] := rfl
@[simp] theorem res_213 : Tryz.f213.results.toList = [.tmp 4] := rfl
@[simp] theorem res_214 : Tryz.f214.results.toList = [.tmp 2] := rfl
@[simp] theorem res_215 : Tryz.f215.results.toList = [.cell 2 248] := rfl
@[simp] theorem res_216 : Tryz.f216.results.toList = [.cell 2 240] := rfl
@[simp] theorem res_217 : Tryz.f217.results.toList = [.cell 2 250] := rfl
@[simp] theorem res_218 : Tryz.f218.results.toList = [.tmp 2] := rfl
@[simp] theorem res_219 : Tryz.f219.results.toList = [.tmp 2] := rfl
@[simp] theorem res_220 : Tryz.f220.results.toList = [.tmp 4] := rfl
@[simp] theorem res_221 : Tryz.f221.results.toList = [.tmp 3] := rfl
@[simp] theorem res_222 : Tryz.f222.results.toList = [.tmp 4] := rfl
@[simp] theorem res_223 : Tryz.f223.results.toList = [.tmp 2] := rfl
@[simp] theorem res_224 : Tryz.f224.results.toList = [.tmp 2] := rfl
@[simp] theorem res_225 : Tryz.f225.results.toList = [.tmp 2] := rfl
@[simp] theorem res_226 : Tryz.f226.results.toList = [.tmp 2] := rfl
@[simp] theorem res_227 : Tryz.f227.results.toList = [.tmp 2] := rfl
@[simp] theorem res_228 : Tryz.f228.results.toList = [.tmp 2] := rfl
@[simp] theorem res_229 : Tryz.f229.results.toList = [.tmp 2] := rfl
@[simp] theorem res_230 : Tryz.f230.results.toList = [.tmp 4] := rfl
@[simp] theorem res_231 : Tryz.f231.results.toList = [.tmp 2, .tmp 3, .tmp 4] := rfl
@[simp] theorem res_232 : Tryz.f232.results.toList = [.tmp 2] := rfl
@[simp] theorem res_233 : Tryz.f233.results.toList = [.tmp 2] := rfl
@[simp] theorem res_234 : Tryz.f234.results.toList = [.tmp 2] := rfl
@[simp] theorem res_235 : Tryz.f235.results.toList = [.tmp 2] := rfl
@[simp] theorem res_236 : Tryz.f236.results.toList = [.tmp 4] := rfl
@[simp] theorem res_237 : Tryz.f237.results.toList = [.tmp 4] := rfl
@[simp] theorem res_238 : Tryz.f238.results.toList = [.tmp 2] := rfl
@[simp] theorem res_239 : Tryz.f239.results.toList = [.tmp 4] := rfl
@[simp] theorem res_240 : Tryz.f240.results.toList = [.tmp 4] := rfl
@[simp] theorem res_241 : Tryz.f241.results.toList = [.tmp 4] := rfl
@[simp] theorem res_242 : Tryz.f242.results.toList = [] := rfl
@[simp] theorem res_243 : Tryz.f243.results.toList = [.tmp 2] := rfl
@[simp] theorem res_244 : Tryz.f244.results.toList = [.tmp 4] := rfl
@[simp] theorem res_245 : Tryz.f245.results.toList = [.tmp 2] := rfl
@[simp] theorem res_246 : Tryz.f246.results.toList = [.tmp 2] := rfl
@[simp] theorem res_247 : Tryz.f247.results.toList = [.tmp 2] := rfl
@[simp] theorem res_248 : Tryz.f248.results.toList = [.tmp 4] := rfl
@[simp] theorem res_249 : Tryz.f249.results.toList = [.tmp 2] := rfl
@[simp] theorem res_250 : Tryz.f250.results.toList = [.tmp 4] := rfl
@[simp] theorem res_251 : Tryz.f251.results.toList = [.cell 4 141, .tmp 5] := rfl
@[simp] theorem res_252 : Tryz.f252.results.toList = [.tmp 3] := rfl
@[simp] theorem res_253 : Tryz.f253.results.toList = [.tmp 4] := rfl
@[simp] theorem res_254 : Tryz.f254.results.toList = [.tmp 2] := rfl
@[simp] theorem res_255 : Tryz.f255.results.toList = [.tmp 4] := rfl
@[simp] theorem res_256 : Tryz.f256.results.toList = [.tmp 4] := rfl
@[simp] theorem res_257 : Tryz.f257.results.toList = [.tmp 4] := rfl
@[simp] theorem res_258 : Tryz.f258.results.toList = [.tmp 2] := rfl
@[simp] theorem res_259 : Tryz.f259.results.toList = [.tmp 4] := rfl
@[simp] theorem res_260 : Tryz.f260.results.toList = [.tmp 4] := rfl
@[simp] theorem res_261 : Tryz.f261.results.toList = [.tmp 2] := rfl
@[simp] theorem res_262 : Tryz.f262.results.toList = [.tmp 2] := rfl
@[simp] theorem res_263 : Tryz.f263.results.toList = [.tmp 4] := rfl
@[simp] theorem res_264 : Tryz.f264.results.toList = [.tmp 4] := rfl
@[simp] theorem res_265 : Tryz.f265.results.toList = [.tmp 2] := rfl
@[simp] theorem res_266 : Tryz.f266.results.toList = [.tmp 2] := rfl
@[simp] theorem res_267 : Tryz.f267.results.toList = [.tmp 4] := rfl
@[simp] theorem res_268 : Tryz.f268.results.toList = [.tmp 4] := rfl
@[simp] theorem res_269 : Tryz.f269.results.toList = [.tmp 3] := rfl
@[simp] theorem res_270 : Tryz.f270.results.toList = [.tmp 4] := rfl
@[simp] theorem res_271 : Tryz.f271.results.toList = [.tmp 2] := rfl
@[simp] theorem res_272 : Tryz.f272.results.toList = [.tmp 2] := rfl
@[simp] theorem res_273 : Tryz.f273.results.toList = [.tmp 4] := rfl
@[simp] theorem res_274 : Tryz.f274.results.toList = [.tmp 2] := rfl
@[simp] theorem res_275 : Tryz.f275.results.toList = [.tmp 4] := rfl
@[simp] theorem res_276 : Tryz.f276.results.toList = [.tmp 2] := rfl
@[simp] theorem res_277 : Tryz.f277.results.toList = [.tmp 2] := rfl
@[simp] theorem res_278 : Tryz.f278.results.toList = [.tmp 2] := rfl
@[simp] theorem res_279 : Tryz.f279.results.toList = [.tmp 2] := rfl
@[simp] theorem res_280 : Tryz.f280.results.toList = [.tmp 4] := rfl
@[simp] theorem res_281 : Tryz.f281.results.toList = [.tmp 4, .tmp 5, .tmp 6] := rfl
@[simp] theorem res_282 : Tryz.f282.results.toList = [.tmp 4] := rfl
@[simp] theorem res_283 : Tryz.f283.results.toList = [.tmp 2] := rfl
@[simp] theorem res_284 : Tryz.f284.results.toList = [.tmp 2] := rfl
@[simp] theorem res_285 : Tryz.f285.results.toList = [.tmp 4] := rfl
@[simp] theorem res_286 : Tryz.f286.results.toList = [] := rfl
@[simp] theorem res_287 : Tryz.f287.results.toList = [] := rfl
@[simp] theorem res_288 : Tryz.f288.results.toList = [] := rfl
@[simp] theorem res_289 : Tryz.f289.results.toList = [.tmp 6, .tmp 7] := rfl
@[simp] theorem res_290 : Tryz.f290.results.toList = [] := rfl
@[simp] theorem res_291 : Tryz.f291.results.toList = [.tmp 6] := rfl
@[simp] theorem res_292 : Tryz.f292.results.toList = [.tmp 4] := rfl
@[simp] theorem res_293 : Tryz.f293.results.toList = [.tmp 8] := rfl
@[simp] theorem res_294 : Tryz.f294.results.toList = [.tmp 8, .tmp 9] := rfl
@[simp] theorem res_295 : Tryz.f295.results.toList = [.tmp 2] := rfl
@[simp] theorem res_296 : Tryz.f296.results.toList = [.tmp 2] := rfl
@[simp] theorem res_297 : Tryz.f297.results.toList = [.tmp 4] := rfl
@[simp] theorem res_298 : Tryz.f298.results.toList = [.tmp 4] := rfl
@[simp] theorem res_299 : Tryz.f299.results.toList = [.tmp 3] := rfl
@[simp] theorem res_300 : Tryz.f300.results.toList = [.tmp 4] := rfl
@[simp] theorem res_301 : Tryz.f301.results.toList = [.tmp 4, .tmp 5] := rfl
@[simp] theorem res_302 : Tryz.f302.results.toList = [.tmp 4, .tmp 5] := rfl
@[simp] theorem res_303 : Tryz.f303.results.toList = [.tmp 4] := rfl
@[simp] theorem res_304 : Tryz.f304.results.toList = [.tmp 4] := rfl
@[simp] theorem res_305 : Tryz.f305.results.toList = [.tmp 2] := rfl
@[simp] theorem res_306 : Tryz.f306.results.toList = [.tmp 2] := rfl
@[simp] theorem res_307 : Tryz.f307.results.toList = [.tmp 0] := rfl
@[simp] theorem res_308 : Tryz.f308.results.toList = [.tmp 4] := rfl
@[simp] theorem res_309 : Tryz.f309.results.toList = [.tmp 2] := rfl
@[simp] theorem res_310 : Tryz.f310.results.toList = [.tmp 4] := rfl
@[simp] theorem res_311 : Tryz.f311.results.toList = [.tmp 4] := rfl
@[simp] theorem res_312 : Tryz.f312.results.toList = [.tmp 4] := rfl
@[simp] theorem res_313 : Tryz.f313.results.toList = [.tmp 2] := rfl
@[simp] theorem res_314 : Tryz.f314.results.toList = [.tmp 2] := rfl
@[simp] theorem res_315 : Tryz.f315.results.toList = [.tmp 2] := rfl
@[simp] theorem res_316 : Tryz.f316.results.toList = [.tmp 2] := rfl
@[simp] theorem res_317 : Tryz.f317.results.toList = [.tmp 4] := rfl
@[simp] theorem res_318 : Tryz.f318.results.toList = [] := rfl
@[simp] theorem res_319 : Tryz.f319.results.toList = [.tmp 2] := rfl
@[simp] theorem res_320 : Tryz.f320.results.toList = [.tmp 2] := rfl
@[simp] theorem res_321 : Tryz.f321.results.toList = [.tmp 6] := rfl
@[simp] theorem res_322 : Tryz.f322.results.toList = [.tmp 10] := rfl
@[simp] theorem res_323 : Tryz.f323.results.toList = [.tmp 2] := rfl
@[simp] theorem res_324 : Tryz.f324.results.toList = [.tmp 2] := rfl
@[simp] theorem res_325 : Tryz.f325.results.toList = [] := rfl
@[simp] theorem res_326 : Tryz.f326.results.toList = [.tmp 10, .tmp 11] := rfl
@[simp] theorem res_327 : Tryz.f327.results.toList = [.tmp 3] := rfl
@[simp] theorem res_328 : Tryz.f328.results.toList = [.tmp 4, .tmp 5] := rfl
@[simp] theorem res_329 : Tryz.f329.results.toList = [.tmp 4] := rfl
@[simp] theorem res_330 : Tryz.f330.results.toList = [.tmp 6, .tmp 7] := rfl
@[simp] theorem res_331 : Tryz.f331.results.toList = [.tmp 4] := rfl
@[simp] theorem res_332 : Tryz.f332.results.toList = [.tmp 4] := rfl
@[simp] theorem res_333 : Tryz.f333.results.toList = [.tmp 4] := rfl
@[simp] theorem res_334 : Tryz.f334.results.toList = [.tmp 4] := rfl
@[simp] theorem res_335 : Tryz.f335.results.toList = [.tmp 8, .tmp 9] := rfl
@[simp] theorem res_336 : Tryz.f336.results.toList = [.tmp 2] := rfl
@[simp] theorem res_337 : Tryz.f337.results.toList = [.tmp 2] := rfl
@[simp] theorem res_338 : Tryz.f338.results.toList = [.tmp 2] := rfl
@[simp] theorem res_339 : Tryz.f339.results.toList = [.tmp 2] := rfl
@[simp] theorem res_340 : Tryz.f340.results.toList = [.tmp 4, .tmp 5] := rfl
@[simp] theorem res_341 : Tryz.f341.results.toList = [.tmp 4, .tmp 5, .tmp 6] := rfl
@[simp] theorem res_342 : Tryz.f342.results.toList = [.tmp 2] := rfl
@[simp] theorem res_343 : Tryz.f343.results.toList = [.tmp 2] := rfl
@[simp] theorem res_344 : Tryz.f344.results.toList = [.tmp 2] := rfl
@[simp] theorem res_345 : Tryz.f345.results.toList = [.tmp 6, .tmp 7] := rfl
@[simp] theorem res_346 : Tryz.f346.results.toList = [.tmp 4] := rfl
theorem hm : Tryz.prog.follows .mixedOrders = true := by kernel_rfl
end Go.Proofs.YtaidbadmhepccaaGreatDoor
