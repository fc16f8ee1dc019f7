/- Closed facts on the types of the program. Made by a program (gen_types.py). No condition. -/
import Derived.Test.YtdnflnpihcghcaaGreatDoorAcd
import Derived.Test.YtdnflnpihcghcaaGreatDoorAbz
import Derived.Test.YtdnflnpihcghcaaGreatDoorProg
namespace Go.Proofs.YtdnflnpihcghcaaGreatDoor
open Go Go.Ab


theorem in2 : Tryz.prog.info? 2 = some Tryz.t2 := by kernel_rfl
@[simp] theorem ty2 : TyOne Tryz.prog 2 8 (some .i64) none false := tyOne_int in2 Tryz.underlying2 rfl rfl
@[simp] theorem tz2 : TyZ Tryz.prog 2 [.int .i64 0] := tyZ in2 rfl rfl rfl rfl
theorem in3 : Tryz.prog.info? 3 = some Tryz.t3 := by kernel_rfl
@[simp] theorem ty3 : TyOne Tryz.prog 3 8 (some .i64) none false := tyOne_int in3 Tryz.underlying3 rfl rfl
@[simp] theorem tz3 : TyZ Tryz.prog 3 [.int .i64 0] := tyZ in3 rfl rfl rfl rfl
theorem in4 : Tryz.prog.info? 4 = some Tryz.t4 := by kernel_rfl
@[simp] theorem ty4 : TyOne Tryz.prog 4 1 none none false := tyOne_bool in4 Tryz.underlying4 rfl rfl
@[simp] theorem ub4 : Tryz.prog.underlying 4 = some .bool := Tryz.underlying4
@[simp] theorem tz4 : TyZ Tryz.prog 4 [.bool false] := tyZ in4 rfl rfl rfl rfl
theorem in5 : Tryz.prog.info? 5 = some Tryz.t5 := by kernel_rfl
@[simp] theorem ty5 : TyOne Tryz.prog 5 1 (some .u8) none false := tyOne_int in5 Tryz.underlying5 rfl rfl
@[simp] theorem tz5 : TyZ Tryz.prog 5 [.int .u8 0] := tyZ in5 rfl rfl rfl rfl
theorem in6 : Tryz.prog.info? 6 = some Tryz.t6 := by kernel_rfl
@[simp] theorem ty6 : TyOne Tryz.prog 6 1 (some .u8) none false := tyOne_int in6 Tryz.underlying6 rfl rfl
@[simp] theorem tz6 : TyZ Tryz.prog 6 [.int .u8 0] := tyZ in6 rfl rfl rfl rfl
theorem in8 : Tryz.prog.info? 8 = some Tryz.t8 := by kernel_rfl
@[simp] theorem ty8 : TyAgg Tryz.prog 8 4 24 := tyAgg_struct in8 Tryz.underlying8 rfl rfl
@[simp] theorem tz8 : TyZ Tryz.prog 8 [.int .i64 0, .int .i64 0, .bool false, .int .u8 0] := tyZ in8 rfl rfl rfl rfl
theorem in9 : Tryz.prog.info? 9 = some Tryz.t9 := by kernel_rfl
@[simp] theorem ty9 : TyOne Tryz.prog 9 16 none none true := tyOne_str in9 Tryz.underlying9 rfl rfl
@[simp] theorem tz9 : TyZ Tryz.prog 9 [.str []] := tyZ in9 rfl rfl rfl rfl
theorem in10 : Tryz.prog.info? 10 = some Tryz.t10 := by kernel_rfl
@[simp] theorem ty10 : TyOne Tryz.prog 10 16 none none true := tyOne_str in10 Tryz.underlying10 rfl rfl
@[simp] theorem tz10 : TyZ Tryz.prog 10 [.str []] := tyZ in10 rfl rfl rfl rfl
theorem in11 : Tryz.prog.info? 11 = some Tryz.t11 := by kernel_rfl
@[simp] theorem ty11 : TyOne Tryz.prog 11 16 none none true := tyOne_str in11 Tryz.underlying11 rfl rfl
@[simp] theorem tz11 : TyZ Tryz.prog 11 [.str []] := tyZ in11 rfl rfl rfl rfl
theorem in12 : Tryz.prog.info? 12 = some Tryz.t12 := by kernel_rfl
@[simp] theorem ty12 : TyOne Tryz.prog 12 8 (some .u64) none false := tyOne_int in12 Tryz.underlying12 rfl rfl
@[simp] theorem tz12 : TyZ Tryz.prog 12 [.int .u64 0] := tyZ in12 rfl rfl rfl rfl
theorem in14 : Tryz.prog.info? 14 = some Tryz.t14 := by kernel_rfl
@[simp] theorem ty14 : TyAgg Tryz.prog 14 2 24 := tyAgg_struct in14 Tryz.underlying14 rfl rfl
@[simp] theorem tz14 : TyZ Tryz.prog 14 [.str [], .int .u64 0] := tyZ in14 rfl rfl rfl rfl
theorem in15 : Tryz.prog.info? 15 = some Tryz.t15 := by kernel_rfl
@[simp] theorem ty15 : TyOne Tryz.prog 15 8 none none false := tyOne_pointer in15 Tryz.underlying15 rfl rfl
@[simp] theorem tz15 : TyZ Tryz.prog 15 [.raw (.pointer none)] := tyZ in15 rfl rfl rfl rfl
theorem in16 : Tryz.prog.info? 16 = some Tryz.t16 := by kernel_rfl
@[simp] theorem ty16 : TyOne Tryz.prog 16 8 none none false := tyOne_pointer in16 Tryz.underlying16 rfl rfl
@[simp] theorem tz16 : TyZ Tryz.prog 16 [.raw (.pointer none)] := tyZ in16 rfl rfl rfl rfl
theorem in17 : Tryz.prog.info? 17 = some Tryz.t17 := by kernel_rfl
@[simp] theorem ty17 : TyOne Tryz.prog 17 8 none none false := tyOne_pointer in17 Tryz.underlying17 rfl rfl
@[simp] theorem tz17 : TyZ Tryz.prog 17 [.raw (.pointer none)] := tyZ in17 rfl rfl rfl rfl
theorem in19 : Tryz.prog.info? 19 = some Tryz.t19 := by kernel_rfl
@[simp] theorem ty19 : TyAgg Tryz.prog 19 1 8 := tyAgg_struct in19 Tryz.underlying19 rfl rfl
@[simp] theorem tz19 : TyZ Tryz.prog 19 [.raw (.pointer none)] := tyZ in19 rfl rfl rfl rfl
theorem in22 : Tryz.prog.info? 22 = some Tryz.t22 := by kernel_rfl
@[simp] theorem ty22 : TyOne Tryz.prog 22 24 none (some 96) false := tyOne_slice in22 Tryz.underlying22 rfl rfl
@[simp] theorem tz22 : TyZ Tryz.prog 22 [.nils] := tyZ in22 rfl rfl rfl rfl
theorem in23 : Tryz.prog.info? 23 = some Tryz.t23 := by kernel_rfl
@[simp] theorem ty23 : TyOne Tryz.prog 23 24 none (some 100) false := tyOne_slice in23 Tryz.underlying23 rfl rfl
@[simp] theorem tz23 : TyZ Tryz.prog 23 [.nils] := tyZ in23 rfl rfl rfl rfl
theorem in24 : Tryz.prog.info? 24 = some Tryz.t24 := by kernel_rfl
@[simp] theorem ty24 : TyOne Tryz.prog 24 24 none (some 104) false := tyOne_slice in24 Tryz.underlying24 rfl rfl
@[simp] theorem tz24 : TyZ Tryz.prog 24 [.nils] := tyZ in24 rfl rfl rfl rfl
theorem in25 : Tryz.prog.info? 25 = some Tryz.t25 := by kernel_rfl
@[simp] theorem ty25 : TyOne Tryz.prog 25 24 none (some 107) false := tyOne_slice in25 Tryz.underlying25 rfl rfl
@[simp] theorem tz25 : TyZ Tryz.prog 25 [.nils] := tyZ in25 rfl rfl rfl rfl
theorem in27 : Tryz.prog.info? 27 = some Tryz.t27 := by kernel_rfl
@[simp] theorem ty27 : TyAgg Tryz.prog 27 3 24 := tyAgg_struct in27 Tryz.underlying27 rfl rfl
@[simp] theorem tz27 : TyZ Tryz.prog 27 [.int .i64 0, .int .i64 0, .int .i64 0] := tyZ in27 rfl rfl rfl rfl
theorem in28 : Tryz.prog.info? 28 = some Tryz.t28 := by kernel_rfl
@[simp] theorem ty28 : TyOne Tryz.prog 28 24 none (some 110) false := tyOne_slice in28 Tryz.underlying28 rfl rfl
@[simp] theorem tz28 : TyZ Tryz.prog 28 [.nils] := tyZ in28 rfl rfl rfl rfl
theorem in30 : Tryz.prog.info? 30 = some Tryz.t30 := by kernel_rfl
@[simp] theorem ty30 : TyAgg Tryz.prog 30 5 48 := tyAgg_struct in30 Tryz.underlying30 rfl rfl
@[simp] theorem tz30 : TyZ Tryz.prog 30 [.str [], .int .i64 0, .int .i64 0, .int .i64 0, .int .i64 0] := tyZ in30 rfl rfl rfl rfl
theorem in31 : Tryz.prog.info? 31 = some Tryz.t31 := by kernel_rfl
@[simp] theorem ty31 : TyOne Tryz.prog 31 24 none (some 114) false := tyOne_slice in31 Tryz.underlying31 rfl rfl
@[simp] theorem tz31 : TyZ Tryz.prog 31 [.nils] := tyZ in31 rfl rfl rfl rfl
theorem in32 : Tryz.prog.info? 32 = some Tryz.t32 := by kernel_rfl
@[simp] theorem ty32 : TyOne Tryz.prog 32 24 none (some 118) false := tyOne_slice in32 Tryz.underlying32 rfl rfl
@[simp] theorem tz32 : TyZ Tryz.prog 32 [.nils] := tyZ in32 rfl rfl rfl rfl
theorem in33 : Tryz.prog.info? 33 = some Tryz.t33 := by kernel_rfl
@[simp] theorem ty33 : TyOne Tryz.prog 33 24 none (some 219) false := tyOne_slice in33 Tryz.underlying33 rfl rfl
@[simp] theorem tz33 : TyZ Tryz.prog 33 [.nils] := tyZ in33 rfl rfl rfl rfl
theorem in35 : Tryz.prog.info? 35 = some Tryz.t35 := by kernel_rfl
@[simp] theorem ty35 : TyAgg Tryz.prog 35 2 40 := tyAgg_struct in35 Tryz.underlying35 rfl rfl
@[simp] theorem tz35 : TyZ Tryz.prog 35 [.str [], .nils] := tyZ in35 rfl rfl rfl rfl
theorem in37 : Tryz.prog.info? 37 = some Tryz.t37 := by kernel_rfl
@[simp] theorem ty37 : TyAgg Tryz.prog 37 20 304 := tyAgg_struct in37 Tryz.underlying37 rfl rfl
@[simp] theorem tz37 : TyZ Tryz.prog 37 [.nils, .nils, .nils, .nils, .int .i64 0, .int .i64 0, .int .i64 0, .nils, .int .i64 0, .str [], .int .i64 0, .int .i64 0, .int .i64 0, .int .i64 0, .nils, .int .i64 0, .int .i64 0, .nils, .str [], .nils] := tyZ in37 rfl rfl rfl rfl
theorem in40 : Tryz.prog.info? 40 = some Tryz.t40 := by kernel_rfl
@[simp] theorem ty40 : TyOne Tryz.prog 40 24 none (some 137) false := tyOne_slice in40 Tryz.underlying40 rfl rfl
@[simp] theorem tz40 : TyZ Tryz.prog 40 [.nils] := tyZ in40 rfl rfl rfl rfl
theorem in41 : Tryz.prog.info? 41 = some Tryz.t41 := by kernel_rfl
@[simp] theorem ty41 : TyOne Tryz.prog 41 24 none (some 139) false := tyOne_slice in41 Tryz.underlying41 rfl rfl
@[simp] theorem tz41 : TyZ Tryz.prog 41 [.nils] := tyZ in41 rfl rfl rfl rfl
theorem in42 : Tryz.prog.info? 42 = some Tryz.t42 := by kernel_rfl
@[simp] theorem ty42 : TyOne Tryz.prog 42 24 none (some 143) false := tyOne_slice in42 Tryz.underlying42 rfl rfl
@[simp] theorem tz42 : TyZ Tryz.prog 42 [.nils] := tyZ in42 rfl rfl rfl rfl
theorem in43 : Tryz.prog.info? 43 = some Tryz.t43 := by kernel_rfl
@[simp] theorem ty43 : TyOne Tryz.prog 43 24 none (some 145) false := tyOne_slice in43 Tryz.underlying43 rfl rfl
@[simp] theorem tz43 : TyZ Tryz.prog 43 [.nils] := tyZ in43 rfl rfl rfl rfl
theorem in44 : Tryz.prog.info? 44 = some Tryz.t44 := by kernel_rfl
@[simp] theorem ty44 : TyAgg Tryz.prog 44 3 24 := tyAgg_struct in44 Tryz.underlying44 rfl rfl
@[simp] theorem tz44 : TyZ Tryz.prog 44 [.int .i64 0, .int .i64 0, .int .i64 0] := tyZ in44 rfl rfl rfl rfl
theorem in45 : Tryz.prog.info? 45 = some Tryz.t45 := by kernel_rfl
@[simp] theorem ty45 : TyOne Tryz.prog 45 24 none (some 147) false := tyOne_slice in45 Tryz.underlying45 rfl rfl
@[simp] theorem tz45 : TyZ Tryz.prog 45 [.nils] := tyZ in45 rfl rfl rfl rfl
theorem in46 : Tryz.prog.info? 46 = some Tryz.t46 := by kernel_rfl
@[simp] theorem ty46 : TyAgg Tryz.prog 46 5 48 := tyAgg_struct in46 Tryz.underlying46 rfl rfl
@[simp] theorem tz46 : TyZ Tryz.prog 46 [.str [], .int .i64 0, .int .i64 0, .int .i64 0, .int .i64 0] := tyZ in46 rfl rfl rfl rfl
theorem in47 : Tryz.prog.info? 47 = some Tryz.t47 := by kernel_rfl
@[simp] theorem ty47 : TyOne Tryz.prog 47 24 none (some 151) false := tyOne_slice in47 Tryz.underlying47 rfl rfl
@[simp] theorem tz47 : TyZ Tryz.prog 47 [.nils] := tyZ in47 rfl rfl rfl rfl
theorem in48 : Tryz.prog.info? 48 = some Tryz.t48 := by kernel_rfl
@[simp] theorem ty48 : TyOne Tryz.prog 48 24 none (some 155) false := tyOne_slice in48 Tryz.underlying48 rfl rfl
@[simp] theorem tz48 : TyZ Tryz.prog 48 [.nils] := tyZ in48 rfl rfl rfl rfl
theorem in49 : Tryz.prog.info? 49 = some Tryz.t49 := by kernel_rfl
@[simp] theorem ty49 : TyOne Tryz.prog 49 24 none (some 191) false := tyOne_slice in49 Tryz.underlying49 rfl rfl
@[simp] theorem tz49 : TyZ Tryz.prog 49 [.nils] := tyZ in49 rfl rfl rfl rfl
theorem in51 : Tryz.prog.info? 51 = some Tryz.t51 := by kernel_rfl
@[simp] theorem ty51 : TyAgg Tryz.prog 51 2 40 := tyAgg_struct in51 Tryz.underlying51 rfl rfl
@[simp] theorem tz51 : TyZ Tryz.prog 51 [.str [], .nils] := tyZ in51 rfl rfl rfl rfl
theorem in53 : Tryz.prog.info? 53 = some Tryz.t53 := by kernel_rfl
@[simp] theorem ty53 : TyAgg Tryz.prog 53 20 304 := tyAgg_struct in53 Tryz.underlying53 rfl rfl
@[simp] theorem tz53 : TyZ Tryz.prog 53 [.nils, .nils, .nils, .nils, .int .i64 0, .int .i64 0, .int .i64 0, .nils, .int .i64 0, .str [], .int .i64 0, .int .i64 0, .int .i64 0, .int .i64 0, .nils, .int .i64 0, .int .i64 0, .nils, .str [], .nils] := tyZ in53 rfl rfl rfl rfl
theorem in67 : Tryz.prog.info? 67 = some Tryz.t67 := by kernel_rfl
@[simp] theorem ty67 : TyOne Tryz.prog 67 8 none none false := tyOne_pointer in67 Tryz.underlying67 rfl rfl
@[simp] theorem tz67 : TyZ Tryz.prog 67 [.raw (.pointer none)] := tyZ in67 rfl rfl rfl rfl
theorem in68 : Tryz.prog.info? 68 = some Tryz.t68 := by kernel_rfl
@[simp] theorem ty68 : TyOne Tryz.prog 68 24 none (some 195) false := tyOne_slice in68 Tryz.underlying68 rfl rfl
@[simp] theorem tz68 : TyZ Tryz.prog 68 [.nils] := tyZ in68 rfl rfl rfl rfl
theorem in94 : Tryz.prog.info? 94 = some Tryz.t94 := by kernel_rfl
@[simp] theorem ty94 : TyAgg Tryz.prog 94 3 24 := tyAgg_struct in94 Tryz.underlying94 rfl rfl
@[simp] theorem tz94 : TyZ Tryz.prog 94 [.int .i64 0, .int .i64 0, .int .i64 0] := tyZ in94 rfl rfl rfl rfl
theorem in96 : Tryz.prog.info? 96 = some Tryz.t96 := by kernel_rfl
@[simp] theorem ty96 : TyAgg Tryz.prog 96 5 48 := tyAgg_struct in96 Tryz.underlying96 rfl rfl
@[simp] theorem tz96 : TyZ Tryz.prog 96 [.str [], .int .i64 0, .int .i64 0, .int .i64 0, .int .i64 0] := tyZ in96 rfl rfl rfl rfl
theorem in98 : Tryz.prog.info? 98 = some Tryz.t98 := by kernel_rfl
@[simp] theorem ty98 : TyOne Tryz.prog 98 24 none (some 9) false := tyOne_slice in98 Tryz.underlying98 rfl rfl
@[simp] theorem tz98 : TyZ Tryz.prog 98 [.nils] := tyZ in98 rfl rfl rfl rfl
theorem in100 : Tryz.prog.info? 100 = some Tryz.t100 := by kernel_rfl
@[simp] theorem ty100 : TyAgg Tryz.prog 100 3 48 := tyAgg_struct in100 Tryz.underlying100 rfl rfl
@[simp] theorem tz100 : TyZ Tryz.prog 100 [.str [], .nils, .int .i64 0] := tyZ in100 rfl rfl rfl rfl
theorem in102 : Tryz.prog.info? 102 = some Tryz.t102 := by kernel_rfl
@[simp] theorem ty102 : TyOne Tryz.prog 102 24 none (some 238) false := tyOne_slice in102 Tryz.underlying102 rfl rfl
@[simp] theorem tz102 : TyZ Tryz.prog 102 [.nils] := tyZ in102 rfl rfl rfl rfl
theorem in104 : Tryz.prog.info? 104 = some Tryz.t104 := by kernel_rfl
@[simp] theorem ty104 : TyAgg Tryz.prog 104 5 64 := tyAgg_struct in104 Tryz.underlying104 rfl rfl
@[simp] theorem tz104 : TyZ Tryz.prog 104 [.str [], .int .i64 0, .int .i64 0, .int .i64 0, .nils] := tyZ in104 rfl rfl rfl rfl
theorem in107 : Tryz.prog.info? 107 = some Tryz.t107 := by kernel_rfl
@[simp] theorem ty107 : TyAgg Tryz.prog 107 5 48 := tyAgg_struct in107 Tryz.underlying107 rfl rfl
@[simp] theorem tz107 : TyZ Tryz.prog 107 [.str [], .int .i64 0, .int .i64 0, .int .i64 0, .int .i64 0] := tyZ in107 rfl rfl rfl rfl
theorem in110 : Tryz.prog.info? 110 = some Tryz.t110 := by kernel_rfl
@[simp] theorem ty110 : TyAgg Tryz.prog 110 5 48 := tyAgg_struct in110 Tryz.underlying110 rfl rfl
@[simp] theorem tz110 : TyZ Tryz.prog 110 [.str [], .int .i64 0, .int .i64 0, .int .i64 0, .int .i64 0] := tyZ in110 rfl rfl rfl rfl
theorem in112 : Tryz.prog.info? 112 = some Tryz.t112 := by kernel_rfl
@[simp] theorem ty112 : TyOne Tryz.prog 112 24 none (some 266) false := tyOne_slice in112 Tryz.underlying112 rfl rfl
@[simp] theorem tz112 : TyZ Tryz.prog 112 [.nils] := tyZ in112 rfl rfl rfl rfl
theorem in114 : Tryz.prog.info? 114 = some Tryz.t114 := by kernel_rfl
@[simp] theorem ty114 : TyAgg Tryz.prog 114 6 72 := tyAgg_struct in114 Tryz.underlying114 rfl rfl
@[simp] theorem tz114 : TyZ Tryz.prog 114 [.str [], .int .i64 0, .int .i64 0, .int .i64 0, .int .i64 0, .nils] := tyZ in114 rfl rfl rfl rfl
theorem in116 : Tryz.prog.info? 116 = some Tryz.t116 := by kernel_rfl
@[simp] theorem ty116 : TyOne Tryz.prog 116 24 none (some 268) false := tyOne_slice in116 Tryz.underlying116 rfl rfl
@[simp] theorem tz116 : TyZ Tryz.prog 116 [.nils] := tyZ in116 rfl rfl rfl rfl
theorem in118 : Tryz.prog.info? 118 = some Tryz.t118 := by kernel_rfl
@[simp] theorem ty118 : TyAgg Tryz.prog 118 4 48 := tyAgg_struct in118 Tryz.underlying118 rfl rfl
@[simp] theorem tz118 : TyZ Tryz.prog 118 [.int .i64 0, .nils, .int .i64 0, .int .i64 0] := tyZ in118 rfl rfl rfl rfl
theorem in125 : Tryz.prog.info? 125 = some Tryz.t125 := by kernel_rfl
@[simp] theorem ty125 : TyOne Tryz.prog 125 8 none none false := tyOne_pointer in125 Tryz.underlying125 rfl rfl
@[simp] theorem tz125 : TyZ Tryz.prog 125 [.raw (.pointer none)] := tyZ in125 rfl rfl rfl rfl
theorem in129 : Tryz.prog.info? 129 = some Tryz.t129 := by kernel_rfl
@[simp] theorem ty129 : TyOne Tryz.prog 129 8 none none false := tyOne_pointer in129 Tryz.underlying129 rfl rfl
@[simp] theorem tz129 : TyZ Tryz.prog 129 [.raw (.pointer none)] := tyZ in129 rfl rfl rfl rfl
theorem in134 : Tryz.prog.info? 134 = some Tryz.t134 := by kernel_rfl
@[simp] theorem ty134 : TyOne Tryz.prog 134 8 none none false := tyOne_pointer in134 Tryz.underlying134 rfl rfl
@[simp] theorem tz134 : TyZ Tryz.prog 134 [.raw (.pointer none)] := tyZ in134 rfl rfl rfl rfl
theorem in135 : Tryz.prog.info? 135 = some Tryz.t135 := by kernel_rfl
@[simp] theorem ty135 : TyAgg Tryz.prog 135 3 24 := tyAgg_struct in135 Tryz.underlying135 rfl rfl
@[simp] theorem tz135 : TyZ Tryz.prog 135 [.int .i64 0, .int .i64 0, .int .i64 0] := tyZ in135 rfl rfl rfl rfl
theorem in137 : Tryz.prog.info? 137 = some Tryz.t137 := by kernel_rfl
@[simp] theorem ty137 : TyAgg Tryz.prog 137 5 48 := tyAgg_struct in137 Tryz.underlying137 rfl rfl
@[simp] theorem tz137 : TyZ Tryz.prog 137 [.str [], .int .i64 0, .int .i64 0, .int .i64 0, .int .i64 0] := tyZ in137 rfl rfl rfl rfl
theorem in139 : Tryz.prog.info? 139 = some Tryz.t139 := by kernel_rfl
@[simp] theorem ty139 : TyAgg Tryz.prog 139 3 48 := tyAgg_struct in139 Tryz.underlying139 rfl rfl
@[simp] theorem tz139 : TyZ Tryz.prog 139 [.str [], .nils, .int .i64 0] := tyZ in139 rfl rfl rfl rfl
theorem in141 : Tryz.prog.info? 141 = some Tryz.t141 := by kernel_rfl
@[simp] theorem ty141 : TyOne Tryz.prog 141 24 none (some 241) false := tyOne_slice in141 Tryz.underlying141 rfl rfl
@[simp] theorem tz141 : TyZ Tryz.prog 141 [.nils] := tyZ in141 rfl rfl rfl rfl
theorem in143 : Tryz.prog.info? 143 = some Tryz.t143 := by kernel_rfl
@[simp] theorem ty143 : TyAgg Tryz.prog 143 5 64 := tyAgg_struct in143 Tryz.underlying143 rfl rfl
@[simp] theorem tz143 : TyZ Tryz.prog 143 [.str [], .int .i64 0, .int .i64 0, .int .i64 0, .nils] := tyZ in143 rfl rfl rfl rfl
theorem in145 : Tryz.prog.info? 145 = some Tryz.t145 := by kernel_rfl
@[simp] theorem ty145 : TyAgg Tryz.prog 145 5 48 := tyAgg_struct in145 Tryz.underlying145 rfl rfl
@[simp] theorem tz145 : TyZ Tryz.prog 145 [.str [], .int .i64 0, .int .i64 0, .int .i64 0, .int .i64 0] := tyZ in145 rfl rfl rfl rfl
theorem in147 : Tryz.prog.info? 147 = some Tryz.t147 := by kernel_rfl
@[simp] theorem ty147 : TyAgg Tryz.prog 147 5 48 := tyAgg_struct in147 Tryz.underlying147 rfl rfl
@[simp] theorem tz147 : TyZ Tryz.prog 147 [.str [], .int .i64 0, .int .i64 0, .int .i64 0, .int .i64 0] := tyZ in147 rfl rfl rfl rfl
theorem in149 : Tryz.prog.info? 149 = some Tryz.t149 := by kernel_rfl
@[simp] theorem ty149 : TyOne Tryz.prog 149 24 none (some 246) false := tyOne_slice in149 Tryz.underlying149 rfl rfl
@[simp] theorem tz149 : TyZ Tryz.prog 149 [.nils] := tyZ in149 rfl rfl rfl rfl
theorem in151 : Tryz.prog.info? 151 = some Tryz.t151 := by kernel_rfl
@[simp] theorem ty151 : TyAgg Tryz.prog 151 6 72 := tyAgg_struct in151 Tryz.underlying151 rfl rfl
@[simp] theorem tz151 : TyZ Tryz.prog 151 [.str [], .int .i64 0, .int .i64 0, .int .i64 0, .int .i64 0, .nils] := tyZ in151 rfl rfl rfl rfl
theorem in153 : Tryz.prog.info? 153 = some Tryz.t153 := by kernel_rfl
@[simp] theorem ty153 : TyOne Tryz.prog 153 24 none (some 248) false := tyOne_slice in153 Tryz.underlying153 rfl rfl
@[simp] theorem tz153 : TyZ Tryz.prog 153 [.nils] := tyZ in153 rfl rfl rfl rfl
theorem in155 : Tryz.prog.info? 155 = some Tryz.t155 := by kernel_rfl
@[simp] theorem ty155 : TyAgg Tryz.prog 155 4 48 := tyAgg_struct in155 Tryz.underlying155 rfl rfl
@[simp] theorem tz155 : TyZ Tryz.prog 155 [.int .i64 0, .nils, .int .i64 0, .int .i64 0] := tyZ in155 rfl rfl rfl rfl
theorem in159 : Tryz.prog.info? 159 = some Tryz.t159 := by kernel_rfl
@[simp] theorem ty159 : TyOne Tryz.prog 159 8 none none false := tyOne_func in159 Tryz.underlying159 rfl rfl
@[simp] theorem tz159 : TyZ Tryz.prog 159 [.raw .nilFunc] := tyZ in159 rfl rfl rfl rfl
theorem in173 : Tryz.prog.info? 173 = some Tryz.t173 := by kernel_rfl
@[simp] theorem ty173 : TyOne Tryz.prog 173 8 none none false := tyOne_pointer in173 Tryz.underlying173 rfl rfl
@[simp] theorem tz173 : TyZ Tryz.prog 173 [.raw (.pointer none)] := tyZ in173 rfl rfl rfl rfl
theorem in175 : Tryz.prog.info? 175 = some Tryz.t175 := by kernel_rfl
@[simp] theorem ty175 : TyOne Tryz.prog 175 8 none none false := tyOne_pointer in175 Tryz.underlying175 rfl rfl
@[simp] theorem tz175 : TyZ Tryz.prog 175 [.raw (.pointer none)] := tyZ in175 rfl rfl rfl rfl
theorem in178 : Tryz.prog.info? 178 = some Tryz.t178 := by kernel_rfl
@[simp] theorem ty178 : TyOne Tryz.prog 178 8 none none false := tyOne_pointer in178 Tryz.underlying178 rfl rfl
@[simp] theorem tz178 : TyZ Tryz.prog 178 [.raw (.pointer none)] := tyZ in178 rfl rfl rfl rfl
theorem in180 : Tryz.prog.info? 180 = some Tryz.t180 := by kernel_rfl
@[simp] theorem ty180 : TyOne Tryz.prog 180 8 none none false := tyOne_pointer in180 Tryz.underlying180 rfl rfl
@[simp] theorem tz180 : TyZ Tryz.prog 180 [.raw (.pointer none)] := tyZ in180 rfl rfl rfl rfl
theorem in182 : Tryz.prog.info? 182 = some Tryz.t182 := by kernel_rfl
@[simp] theorem ty182 : TyOne Tryz.prog 182 8 none none false := tyOne_pointer in182 Tryz.underlying182 rfl rfl
@[simp] theorem tz182 : TyZ Tryz.prog 182 [.raw (.pointer none)] := tyZ in182 rfl rfl rfl rfl
theorem in183 : Tryz.prog.info? 183 = some Tryz.t183 := by kernel_rfl
@[simp] theorem ty183 : TyOne Tryz.prog 183 8 none none false := tyOne_func in183 Tryz.underlying183 rfl rfl
@[simp] theorem tz183 : TyZ Tryz.prog 183 [.raw .nilFunc] := tyZ in183 rfl rfl rfl rfl
theorem in185 : Tryz.prog.info? 185 = some Tryz.t185 := by kernel_rfl
@[simp] theorem ty185 : TyOne Tryz.prog 185 8 none none false := tyOne_pointer in185 Tryz.underlying185 rfl rfl
@[simp] theorem tz185 : TyZ Tryz.prog 185 [.raw (.pointer none)] := tyZ in185 rfl rfl rfl rfl
theorem in187 : Tryz.prog.info? 187 = some Tryz.t187 := by kernel_rfl
@[simp] theorem ty187 : TyOne Tryz.prog 187 8 none none false := tyOne_pointer in187 Tryz.underlying187 rfl rfl
@[simp] theorem tz187 : TyZ Tryz.prog 187 [.raw (.pointer none)] := tyZ in187 rfl rfl rfl rfl
theorem in189 : Tryz.prog.info? 189 = some Tryz.t189 := by kernel_rfl
@[simp] theorem ty189 : TyOne Tryz.prog 189 8 none none false := tyOne_pointer in189 Tryz.underlying189 rfl rfl
@[simp] theorem tz189 : TyZ Tryz.prog 189 [.raw (.pointer none)] := tyZ in189 rfl rfl rfl rfl
theorem in191 : Tryz.prog.info? 191 = some Tryz.t191 := by kernel_rfl
@[simp] theorem ty191 : TyAgg Tryz.prog 191 3 24 := tyAgg_struct in191 Tryz.underlying191 rfl rfl
@[simp] theorem tz191 : TyZ Tryz.prog 191 [.int .i64 0, .int .i64 0, .int .i64 0] := tyZ in191 rfl rfl rfl rfl
theorem in195 : Tryz.prog.info? 195 = some Tryz.t195 := by kernel_rfl
@[simp] theorem ty195 : TyAgg Tryz.prog 195 3 40 := tyAgg_struct in195 Tryz.underlying195 rfl rfl
@[simp] theorem tz195 : TyZ Tryz.prog 195 [.int .i64 0, .str [], .str []] := tyZ in195 rfl rfl rfl rfl
theorem in198 : Tryz.prog.info? 198 = some Tryz.t198 := by kernel_rfl
@[simp] theorem ty198 : TyOne Tryz.prog 198 24 none (some 2) false := tyOne_slice in198 Tryz.underlying198 rfl rfl
@[simp] theorem tz198 : TyZ Tryz.prog 198 [.nils] := tyZ in198 rfl rfl rfl rfl
theorem in200 : Tryz.prog.info? 200 = some Tryz.t200 := by kernel_rfl
@[simp] theorem ty200 : TyOne Tryz.prog 200 24 none (some 198) false := tyOne_slice in200 Tryz.underlying200 rfl rfl
@[simp] theorem tz200 : TyZ Tryz.prog 200 [.nils] := tyZ in200 rfl rfl rfl rfl
theorem in202 : Tryz.prog.info? 202 = some Tryz.t202 := by kernel_rfl
@[simp] theorem ty202 : TyOne Tryz.prog 202 24 none (some 258) false := tyOne_slice in202 Tryz.underlying202 rfl rfl
@[simp] theorem tz202 : TyZ Tryz.prog 202 [.nils] := tyZ in202 rfl rfl rfl rfl
theorem in219 : Tryz.prog.info? 219 = some Tryz.t219 := by kernel_rfl
@[simp] theorem ty219 : TyAgg Tryz.prog 219 3 24 := tyAgg_struct in219 Tryz.underlying219 rfl rfl
@[simp] theorem tz219 : TyZ Tryz.prog 219 [.int .i64 0, .int .i64 0, .int .i64 0] := tyZ in219 rfl rfl rfl rfl
theorem in220 : Tryz.prog.info? 220 = some Tryz.t220 := by kernel_rfl
@[simp] theorem ty220 : TyOne Tryz.prog 220 24 none (some 159) false := tyOne_slice in220 Tryz.underlying220 rfl rfl
@[simp] theorem tz220 : TyZ Tryz.prog 220 [.nils] := tyZ in220 rfl rfl rfl rfl
theorem in222 : Tryz.prog.info? 222 = some Tryz.t222 := by kernel_rfl
@[simp] theorem ty222 : TyOne Tryz.prog 222 8 none none false := tyOne_func in222 Tryz.underlying222 rfl rfl
@[simp] theorem tz222 : TyZ Tryz.prog 222 [.raw .nilFunc] := tyZ in222 rfl rfl rfl rfl
theorem in224 : Tryz.prog.info? 224 = some Tryz.t224 := by kernel_rfl
@[simp] theorem ty224 : TyOne Tryz.prog 224 8 none none false := tyOne_func in224 Tryz.underlying224 rfl rfl
@[simp] theorem tz224 : TyZ Tryz.prog 224 [.raw .nilFunc] := tyZ in224 rfl rfl rfl rfl
theorem in228 : Tryz.prog.info? 228 = some Tryz.t228 := by kernel_rfl
@[simp] theorem ty228 : TyOne Tryz.prog 228 8 none none false := tyOne_func in228 Tryz.underlying228 rfl rfl
@[simp] theorem tz228 : TyZ Tryz.prog 228 [.raw .nilFunc] := tyZ in228 rfl rfl rfl rfl
theorem in238 : Tryz.prog.info? 238 = some Tryz.t238 := by kernel_rfl
@[simp] theorem ty238 : TyAgg Tryz.prog 238 2 24 := tyAgg_struct in238 Tryz.underlying238 rfl rfl
@[simp] theorem tz238 : TyZ Tryz.prog 238 [.str [], .int .i64 0] := tyZ in238 rfl rfl rfl rfl
theorem in240 : Tryz.prog.info? 240 = some Tryz.t240 := by kernel_rfl
@[simp] theorem ty240 : TyOne Tryz.prog 240 8 none none false := tyOne_pointer in240 Tryz.underlying240 rfl rfl
@[simp] theorem tz240 : TyZ Tryz.prog 240 [.raw (.pointer none)] := tyZ in240 rfl rfl rfl rfl
theorem in241 : Tryz.prog.info? 241 = some Tryz.t241 := by kernel_rfl
@[simp] theorem ty241 : TyAgg Tryz.prog 241 2 24 := tyAgg_struct in241 Tryz.underlying241 rfl rfl
@[simp] theorem tz241 : TyZ Tryz.prog 241 [.str [], .int .i64 0] := tyZ in241 rfl rfl rfl rfl
theorem in244 : Tryz.prog.info? 244 = some Tryz.t244 := by kernel_rfl
@[simp] theorem ty244 : TyOne Tryz.prog 244 8 none none false := tyOne_pointer in244 Tryz.underlying244 rfl rfl
@[simp] theorem tz244 : TyZ Tryz.prog 244 [.raw (.pointer none)] := tyZ in244 rfl rfl rfl rfl
theorem in246 : Tryz.prog.info? 246 = some Tryz.t246 := by kernel_rfl
@[simp] theorem ty246 : TyAgg Tryz.prog 246 2 16 := tyAgg_struct in246 Tryz.underlying246 rfl rfl
@[simp] theorem tz246 : TyZ Tryz.prog 246 [.int .i64 0, .int .i64 0] := tyZ in246 rfl rfl rfl rfl
theorem in248 : Tryz.prog.info? 248 = some Tryz.t248 := by kernel_rfl
@[simp] theorem ty248 : TyAgg Tryz.prog 248 2 16 := tyAgg_struct in248 Tryz.underlying248 rfl rfl
@[simp] theorem tz248 : TyZ Tryz.prog 248 [.int .i64 0, .int .i64 0] := tyZ in248 rfl rfl rfl rfl
theorem in258 : Tryz.prog.info? 258 = some Tryz.t258 := by kernel_rfl
@[simp] theorem ty258 : TyAgg Tryz.prog 258 3 32 := tyAgg_struct in258 Tryz.underlying258 rfl rfl
@[simp] theorem tz258 : TyZ Tryz.prog 258 [.str [], .int .i64 0, .int .i64 0] := tyZ in258 rfl rfl rfl rfl
theorem in260 : Tryz.prog.info? 260 = some Tryz.t260 := by kernel_rfl
@[simp] theorem ty260 : TyOne Tryz.prog 260 8 none none false := tyOne_pointer in260 Tryz.underlying260 rfl rfl
@[simp] theorem tz260 : TyZ Tryz.prog 260 [.raw (.pointer none)] := tyZ in260 rfl rfl rfl rfl
theorem in266 : Tryz.prog.info? 266 = some Tryz.t266 := by kernel_rfl
@[simp] theorem ty266 : TyAgg Tryz.prog 266 2 16 := tyAgg_struct in266 Tryz.underlying266 rfl rfl
@[simp] theorem tz266 : TyZ Tryz.prog 266 [.int .i64 0, .int .i64 0] := tyZ in266 rfl rfl rfl rfl
theorem in268 : Tryz.prog.info? 268 = some Tryz.t268 := by kernel_rfl
@[simp] theorem ty268 : TyAgg Tryz.prog 268 2 16 := tyAgg_struct in268 Tryz.underlying268 rfl rfl
@[simp] theorem tz268 : TyZ Tryz.prog 268 [.int .i64 0, .int .i64 0] := tyZ in268 rfl rfl rfl rfl
theorem in281 : Tryz.prog.info? 281 = some Tryz.t281 := by kernel_rfl
@[simp] theorem ty281 : TyOne Tryz.prog 281 8 none none false := tyOne_func in281 Tryz.underlying281 rfl rfl
@[simp] theorem tz281 : TyZ Tryz.prog 281 [.raw .nilFunc] := tyZ in281 rfl rfl rfl rfl
theorem in292 : Tryz.prog.info? 292 = some Tryz.t292 := by kernel_rfl
@[simp] theorem ty292 : TyOne Tryz.prog 292 24 none (some 5) false := tyOne_slice in292 Tryz.underlying292 rfl rfl
@[simp] theorem tz292 : TyZ Tryz.prog 292 [.nils] := tyZ in292 rfl rfl rfl rfl
theorem in294 : Tryz.prog.info? 294 = some Tryz.t294 := by kernel_rfl
@[simp] theorem ty294 : TyOne Tryz.prog 294 8 none none false := tyOne_func in294 Tryz.underlying294 rfl rfl
@[simp] theorem tz294 : TyZ Tryz.prog 294 [.raw .nilFunc] := tyZ in294 rfl rfl rfl rfl
theorem in311 : Tryz.prog.info? 311 = some Tryz.t311 := by kernel_rfl
@[simp] theorem ty311 : TyOne Tryz.prog 311 8 (some .u64) none false := tyOne_int in311 Tryz.underlying311 rfl rfl
@[simp] theorem tz311 : TyZ Tryz.prog 311 [.int .u64 0] := tyZ in311 rfl rfl rfl rfl
theorem in326 : Tryz.prog.info? 326 = some Tryz.t326 := by kernel_rfl
@[simp] theorem ty326 : TyOne Tryz.prog 326 8 none none false := tyOne_func in326 Tryz.underlying326 rfl rfl
@[simp] theorem tz326 : TyZ Tryz.prog 326 [.raw .nilFunc] := tyZ in326 rfl rfl rfl rfl
theorem in333 : Tryz.prog.info? 333 = some Tryz.t333 := by kernel_rfl
@[simp] theorem ty333 : TyOne Tryz.prog 333 8 none none false := tyOne_func in333 Tryz.underlying333 rfl rfl
@[simp] theorem tz333 : TyZ Tryz.prog 333 [.raw .nilFunc] := tyZ in333 rfl rfl rfl rfl
theorem in336 : Tryz.prog.info? 336 = some Tryz.t336 := by kernel_rfl
@[simp] theorem ty336 : TyOne Tryz.prog 336 8 (some .i64) none false := tyOne_int in336 Tryz.underlying336 rfl rfl
@[simp] theorem tz336 : TyZ Tryz.prog 336 [.int .i64 0] := tyZ in336 rfl rfl rfl rfl
theorem in344 : Tryz.prog.info? 344 = some Tryz.t344 := by kernel_rfl
@[simp] theorem ty344 : TyOne Tryz.prog 344 4 (some .u32) none false := tyOne_int in344 Tryz.underlying344 rfl rfl
@[simp] theorem tz344 : TyZ Tryz.prog 344 [.int .u32 0] := tyZ in344 rfl rfl rfl rfl
theorem in346 : Tryz.prog.info? 346 = some Tryz.t346 := by kernel_rfl
@[simp] theorem ty346 : TyOne Tryz.prog 346 8 (some .u64) none false := tyOne_int in346 Tryz.underlying346 rfl rfl
@[simp] theorem tz346 : TyZ Tryz.prog 346 [.int .u64 0] := tyZ in346 rfl rfl rfl rfl
theorem in351 : Tryz.prog.info? 351 = some Tryz.t351 := by kernel_rfl
@[simp] theorem ty351 : TyOne Tryz.prog 351 24 none (some 3) false := tyOne_slice in351 Tryz.underlying351 rfl rfl
@[simp] theorem tz351 : TyZ Tryz.prog 351 [.nils] := tyZ in351 rfl rfl rfl rfl
theorem in355 : Tryz.prog.info? 355 = some Tryz.t355 := by kernel_rfl
@[simp] theorem ty355 : TyOne Tryz.prog 355 8 none none false := tyOne_func in355 Tryz.underlying355 rfl rfl
@[simp] theorem tz355 : TyZ Tryz.prog 355 [.raw .nilFunc] := tyZ in355 rfl rfl rfl rfl
theorem in356 : Tryz.prog.info? 356 = some Tryz.t356 := by kernel_rfl
@[simp] theorem ty356 : TyAgg Tryz.prog 356 91 728 := tyAgg_array in356 Tryz.underlying356 rfl rfl
@[simp] theorem ar356 : arrT Tryz.prog 356 = some (91, 2) := arrOf Tryz.underlying356
theorem in358 : Tryz.prog.info? 358 = some Tryz.t358 := by kernel_rfl
@[simp] theorem ty358 : TyOne Tryz.prog 358 8 (some .u64) none false := tyOne_int in358 Tryz.underlying358 rfl rfl
@[simp] theorem tz358 : TyZ Tryz.prog 358 [.int .u64 0] := tyZ in358 rfl rfl rfl rfl
theorem in362 : Tryz.prog.info? 362 = some Tryz.t362 := by kernel_rfl
@[simp] theorem ty362 : TyOne Tryz.prog 362 8 none none false := tyOne_pointer in362 Tryz.underlying362 rfl rfl
@[simp] theorem tz362 : TyZ Tryz.prog 362 [.raw (.pointer none)] := tyZ in362 rfl rfl rfl rfl
theorem in365 : Tryz.prog.info? 365 = some Tryz.t365 := by kernel_rfl
@[simp] theorem ty365 : TyAgg Tryz.prog 365 24 24 := tyAgg_array in365 Tryz.underlying365 rfl rfl
@[simp] theorem ar365 : arrT Tryz.prog 365 = some (24, 5) := arrOf Tryz.underlying365
@[simp] theorem tz365 : TyZ Tryz.prog 365 [.int .u8 0, .int .u8 0, .int .u8 0, .int .u8 0, .int .u8 0, .int .u8 0, .int .u8 0, .int .u8 0, .int .u8 0, .int .u8 0, .int .u8 0, .int .u8 0, .int .u8 0, .int .u8 0, .int .u8 0, .int .u8 0, .int .u8 0, .int .u8 0, .int .u8 0, .int .u8 0, .int .u8 0, .int .u8 0, .int .u8 0, .int .u8 0] := tyZ in365 rfl rfl rfl rfl
theorem in371 : Tryz.prog.info? 371 = some Tryz.t371 := by kernel_rfl
@[simp] theorem ty371 : TyOne Tryz.prog 371 8 none none false := tyOne_pointer in371 Tryz.underlying371 rfl rfl
@[simp] theorem tz371 : TyZ Tryz.prog 371 [.raw (.pointer none)] := tyZ in371 rfl rfl rfl rfl
theorem in376 : Tryz.prog.info? 376 = some Tryz.t376 := by kernel_rfl
@[simp] theorem ty376 : TyAgg Tryz.prog 376 20 160 := tyAgg_array in376 Tryz.underlying376 rfl rfl
@[simp] theorem ar376 : arrT Tryz.prog 376 = some (20, 346) := arrOf Tryz.underlying376
@[simp] theorem tz376 : TyZ Tryz.prog 376 [.int .u64 0, .int .u64 0, .int .u64 0, .int .u64 0, .int .u64 0, .int .u64 0, .int .u64 0, .int .u64 0, .int .u64 0, .int .u64 0, .int .u64 0, .int .u64 0, .int .u64 0, .int .u64 0, .int .u64 0, .int .u64 0, .int .u64 0, .int .u64 0, .int .u64 0, .int .u64 0] := tyZ in376 rfl rfl rfl rfl
theorem in377 : Tryz.prog.info? 377 = some Tryz.t377 := by kernel_rfl
@[simp] theorem ty377 : TyAgg Tryz.prog 377 65 65 := tyAgg_array in377 Tryz.underlying377 rfl rfl
@[simp] theorem ar377 : arrT Tryz.prog 377 = some (65, 5) := arrOf Tryz.underlying377
theorem in380 : Tryz.prog.info? 380 = some Tryz.t380 := by kernel_rfl
@[simp] theorem ty380 : TyOne Tryz.prog 380 8 none none false := tyOne_func in380 Tryz.underlying380 rfl rfl
@[simp] theorem tz380 : TyZ Tryz.prog 380 [.raw .nilFunc] := tyZ in380 rfl rfl rfl rfl
theorem in381 : Tryz.prog.info? 381 = some Tryz.t381 := by kernel_rfl
@[simp] theorem ty381 : TyAgg Tryz.prog 381 32 32 := tyAgg_array in381 Tryz.underlying381 rfl rfl
@[simp] theorem ar381 : arrT Tryz.prog 381 = some (32, 5) := arrOf Tryz.underlying381
@[simp] theorem tz381 : TyZ Tryz.prog 381 [.int .u8 0, .int .u8 0, .int .u8 0, .int .u8 0, .int .u8 0, .int .u8 0, .int .u8 0, .int .u8 0, .int .u8 0, .int .u8 0, .int .u8 0, .int .u8 0, .int .u8 0, .int .u8 0, .int .u8 0, .int .u8 0, .int .u8 0, .int .u8 0, .int .u8 0, .int .u8 0, .int .u8 0, .int .u8 0, .int .u8 0, .int .u8 0, .int .u8 0, .int .u8 0, .int .u8 0, .int .u8 0, .int .u8 0, .int .u8 0, .int .u8 0, .int .u8 0] := tyZ in381 rfl rfl rfl rfl
theorem in382 : Tryz.prog.info? 382 = some Tryz.t382 := by kernel_rfl
@[simp] theorem ty382 : TyAgg Tryz.prog 382 64 64 := tyAgg_array in382 Tryz.underlying382 rfl rfl
@[simp] theorem ar382 : arrT Tryz.prog 382 = some (64, 5) := arrOf Tryz.underlying382
@[simp] theorem tz382 : TyZ Tryz.prog 382 [.int .u8 0, .int .u8 0, .int .u8 0, .int .u8 0, .int .u8 0, .int .u8 0, .int .u8 0, .int .u8 0, .int .u8 0, .int .u8 0, .int .u8 0, .int .u8 0, .int .u8 0, .int .u8 0, .int .u8 0, .int .u8 0, .int .u8 0, .int .u8 0, .int .u8 0, .int .u8 0, .int .u8 0, .int .u8 0, .int .u8 0, .int .u8 0, .int .u8 0, .int .u8 0, .int .u8 0, .int .u8 0, .int .u8 0, .int .u8 0, .int .u8 0, .int .u8 0, .int .u8 0, .int .u8 0, .int .u8 0, .int .u8 0, .int .u8 0, .int .u8 0, .int .u8 0, .int .u8 0, .int .u8 0, .int .u8 0, .int .u8 0, .int .u8 0, .int .u8 0, .int .u8 0, .int .u8 0, .int .u8 0, .int .u8 0, .int .u8 0, .int .u8 0, .int .u8 0, .int .u8 0, .int .u8 0, .int .u8 0, .int .u8 0, .int .u8 0, .int .u8 0, .int .u8 0, .int .u8 0, .int .u8 0, .int .u8 0, .int .u8 0, .int .u8 0] := tyZ in382 rfl rfl rfl rfl
theorem in391 : Tryz.prog.info? 391 = some Tryz.t391 := by kernel_rfl
@[simp] theorem ty391 : TyOne Tryz.prog 391 1 (some .u8) none false := tyOne_int in391 Tryz.underlying391 rfl rfl
@[simp] theorem tz391 : TyZ Tryz.prog 391 [.int .u8 0] := tyZ in391 rfl rfl rfl rfl
@[simp] theorem gv0 : globV 0 = .pe 91 [sineT] 0 0 := rfl
@[simp] theorem gv1 : globV 1 = .pe 20 [powT] 0 0 := rfl
@[simp] theorem ts8 : structT Tryz.prog 8 = true := structOf Tryz.underlying8 (by simp [in2, in3, in4, in6])
@[simp] theorem fl8_0 : fldT Tryz.prog 8 0 = some (0, false, 1) := fldOf Tryz.underlying8 rfl rfl ty2.1 ty2.2.1 ty2.2.2.1
@[simp] theorem fl8_1 : fldT Tryz.prog 8 1 = some (1, false, 1) := fldOf Tryz.underlying8 rfl rfl ty3.1 ty3.2.1 ty3.2.2.1
@[simp] theorem fl8_2 : fldT Tryz.prog 8 2 = some (2, false, 1) := fldOf Tryz.underlying8 rfl rfl ty4.1 ty4.2.1 ty4.2.2.1
@[simp] theorem fl8_3 : fldT Tryz.prog 8 3 = some (3, false, 1) := fldOf Tryz.underlying8 rfl rfl ty6.1 ty6.2.1 ty6.2.2.1
@[simp] theorem ts14 : structT Tryz.prog 14 = true := structOf Tryz.underlying14 (by simp [in12, in9])
@[simp] theorem fl14_0 : fldT Tryz.prog 14 0 = some (0, false, 1) := fldOf Tryz.underlying14 rfl rfl ty9.1 ty9.2.1 ty9.2.2.1
@[simp] theorem fl14_1 : fldT Tryz.prog 14 1 = some (1, false, 1) := fldOf Tryz.underlying14 rfl rfl ty12.1 ty12.2.1 ty12.2.2.1
@[simp] theorem ts19 : structT Tryz.prog 19 = true := structOf Tryz.underlying19 (by simp [in17])
@[simp] theorem fl19_0 : fldT Tryz.prog 19 0 = some (0, false, 1) := fldOf Tryz.underlying19 rfl rfl ty17.1 ty17.2.1 ty17.2.2.1
@[simp] theorem ts27 : structT Tryz.prog 27 = true := structOf Tryz.underlying27 (by simp [in2])
@[simp] theorem fl27_0 : fldT Tryz.prog 27 0 = some (0, false, 1) := fldOf Tryz.underlying27 rfl rfl ty2.1 ty2.2.1 ty2.2.2.1
@[simp] theorem fl27_1 : fldT Tryz.prog 27 1 = some (1, false, 1) := fldOf Tryz.underlying27 rfl rfl ty2.1 ty2.2.1 ty2.2.2.1
@[simp] theorem fl27_2 : fldT Tryz.prog 27 2 = some (2, false, 1) := fldOf Tryz.underlying27 rfl rfl ty2.1 ty2.2.1 ty2.2.2.1
@[simp] theorem ts30 : structT Tryz.prog 30 = true := structOf Tryz.underlying30 (by simp [in2, in9])
@[simp] theorem fl30_0 : fldT Tryz.prog 30 0 = some (0, false, 1) := fldOf Tryz.underlying30 rfl rfl ty9.1 ty9.2.1 ty9.2.2.1
@[simp] theorem fl30_1 : fldT Tryz.prog 30 1 = some (1, false, 1) := fldOf Tryz.underlying30 rfl rfl ty2.1 ty2.2.1 ty2.2.2.1
@[simp] theorem fl30_2 : fldT Tryz.prog 30 2 = some (2, false, 1) := fldOf Tryz.underlying30 rfl rfl ty2.1 ty2.2.1 ty2.2.2.1
@[simp] theorem fl30_3 : fldT Tryz.prog 30 3 = some (3, false, 1) := fldOf Tryz.underlying30 rfl rfl ty2.1 ty2.2.1 ty2.2.2.1
@[simp] theorem fl30_4 : fldT Tryz.prog 30 4 = some (4, false, 1) := fldOf Tryz.underlying30 rfl rfl ty2.1 ty2.2.1 ty2.2.2.1
@[simp] theorem ts35 : structT Tryz.prog 35 = true := structOf Tryz.underlying35 (by simp [in33, in9])
@[simp] theorem fl35_0 : fldT Tryz.prog 35 0 = some (0, false, 1) := fldOf Tryz.underlying35 rfl rfl ty9.1 ty9.2.1 ty9.2.2.1
@[simp] theorem fl35_1 : fldT Tryz.prog 35 1 = some (1, false, 1) := fldOf Tryz.underlying35 rfl rfl ty33.1 ty33.2.1 ty33.2.2.1
@[simp] theorem ts37 : structT Tryz.prog 37 = true := structOf Tryz.underlying37 (by simp [in2, in22, in23, in24, in25, in27, in28, in30, in31, in32, in35])
@[simp] theorem fl37_0 : fldT Tryz.prog 37 0 = some (0, false, 1) := fldOf Tryz.underlying37 rfl rfl ty22.1 ty22.2.1 ty22.2.2.1
@[simp] theorem fl37_1 : fldT Tryz.prog 37 1 = some (1, false, 1) := fldOf Tryz.underlying37 rfl rfl ty23.1 ty23.2.1 ty23.2.2.1
@[simp] theorem fl37_2 : fldT Tryz.prog 37 2 = some (2, false, 1) := fldOf Tryz.underlying37 rfl rfl ty24.1 ty24.2.1 ty24.2.2.1
@[simp] theorem fl37_3 : fldT Tryz.prog 37 3 = some (3, false, 1) := fldOf Tryz.underlying37 rfl rfl ty25.1 ty25.2.1 ty25.2.2.1
@[simp] theorem fl37_4 : fldT Tryz.prog 37 4 = some (4, true, 3) := fldOf Tryz.underlying37 rfl rfl ty27.1 ty27.2.1 ty27.2.2.1
@[simp] theorem fl37_5 : fldT Tryz.prog 37 5 = some (7, false, 1) := fldOf Tryz.underlying37 rfl rfl ty28.1 ty28.2.1 ty28.2.2.1
@[simp] theorem fl37_6 : fldT Tryz.prog 37 6 = some (8, false, 1) := fldOf Tryz.underlying37 rfl rfl ty2.1 ty2.2.1 ty2.2.2.1
@[simp] theorem fl37_7 : fldT Tryz.prog 37 7 = some (9, true, 5) := fldOf Tryz.underlying37 rfl rfl ty30.1 ty30.2.1 ty30.2.2.1
@[simp] theorem fl37_8 : fldT Tryz.prog 37 8 = some (14, false, 1) := fldOf Tryz.underlying37 rfl rfl ty31.1 ty31.2.1 ty31.2.2.1
@[simp] theorem fl37_9 : fldT Tryz.prog 37 9 = some (15, false, 1) := fldOf Tryz.underlying37 rfl rfl ty2.1 ty2.2.1 ty2.2.2.1
@[simp] theorem fl37_10 : fldT Tryz.prog 37 10 = some (16, false, 1) := fldOf Tryz.underlying37 rfl rfl ty2.1 ty2.2.1 ty2.2.2.1
@[simp] theorem fl37_11 : fldT Tryz.prog 37 11 = some (17, false, 1) := fldOf Tryz.underlying37 rfl rfl ty32.1 ty32.2.1 ty32.2.2.1
@[simp] theorem fl37_12 : fldT Tryz.prog 37 12 = some (18, true, 2) := fldOf Tryz.underlying37 rfl rfl ty35.1 ty35.2.1 ty35.2.2.1
@[simp] theorem ts44 : structT Tryz.prog 44 = true := structOf Tryz.underlying44 (by simp [in2])
@[simp] theorem fl44_0 : fldT Tryz.prog 44 0 = some (0, false, 1) := fldOf Tryz.underlying44 rfl rfl ty2.1 ty2.2.1 ty2.2.2.1
@[simp] theorem fl44_1 : fldT Tryz.prog 44 1 = some (1, false, 1) := fldOf Tryz.underlying44 rfl rfl ty2.1 ty2.2.1 ty2.2.2.1
@[simp] theorem fl44_2 : fldT Tryz.prog 44 2 = some (2, false, 1) := fldOf Tryz.underlying44 rfl rfl ty2.1 ty2.2.1 ty2.2.2.1
@[simp] theorem ts46 : structT Tryz.prog 46 = true := structOf Tryz.underlying46 (by simp [in2, in9])
@[simp] theorem fl46_0 : fldT Tryz.prog 46 0 = some (0, false, 1) := fldOf Tryz.underlying46 rfl rfl ty9.1 ty9.2.1 ty9.2.2.1
@[simp] theorem fl46_1 : fldT Tryz.prog 46 1 = some (1, false, 1) := fldOf Tryz.underlying46 rfl rfl ty2.1 ty2.2.1 ty2.2.2.1
@[simp] theorem fl46_2 : fldT Tryz.prog 46 2 = some (2, false, 1) := fldOf Tryz.underlying46 rfl rfl ty2.1 ty2.2.1 ty2.2.2.1
@[simp] theorem fl46_3 : fldT Tryz.prog 46 3 = some (3, false, 1) := fldOf Tryz.underlying46 rfl rfl ty2.1 ty2.2.1 ty2.2.2.1
@[simp] theorem fl46_4 : fldT Tryz.prog 46 4 = some (4, false, 1) := fldOf Tryz.underlying46 rfl rfl ty2.1 ty2.2.1 ty2.2.2.1
@[simp] theorem ts51 : structT Tryz.prog 51 = true := structOf Tryz.underlying51 (by simp [in49, in9])
@[simp] theorem fl51_0 : fldT Tryz.prog 51 0 = some (0, false, 1) := fldOf Tryz.underlying51 rfl rfl ty9.1 ty9.2.1 ty9.2.2.1
@[simp] theorem fl51_1 : fldT Tryz.prog 51 1 = some (1, false, 1) := fldOf Tryz.underlying51 rfl rfl ty49.1 ty49.2.1 ty49.2.2.1
@[simp] theorem ts53 : structT Tryz.prog 53 = true := structOf Tryz.underlying53 (by simp [in2, in40, in41, in42, in43, in44, in45, in46, in47, in48, in51])
@[simp] theorem fl53_0 : fldT Tryz.prog 53 0 = some (0, false, 1) := fldOf Tryz.underlying53 rfl rfl ty40.1 ty40.2.1 ty40.2.2.1
@[simp] theorem fl53_1 : fldT Tryz.prog 53 1 = some (1, false, 1) := fldOf Tryz.underlying53 rfl rfl ty41.1 ty41.2.1 ty41.2.2.1
@[simp] theorem fl53_2 : fldT Tryz.prog 53 2 = some (2, false, 1) := fldOf Tryz.underlying53 rfl rfl ty42.1 ty42.2.1 ty42.2.2.1
@[simp] theorem fl53_3 : fldT Tryz.prog 53 3 = some (3, false, 1) := fldOf Tryz.underlying53 rfl rfl ty43.1 ty43.2.1 ty43.2.2.1
@[simp] theorem fl53_4 : fldT Tryz.prog 53 4 = some (4, true, 3) := fldOf Tryz.underlying53 rfl rfl ty44.1 ty44.2.1 ty44.2.2.1
@[simp] theorem fl53_5 : fldT Tryz.prog 53 5 = some (7, false, 1) := fldOf Tryz.underlying53 rfl rfl ty45.1 ty45.2.1 ty45.2.2.1
@[simp] theorem fl53_6 : fldT Tryz.prog 53 6 = some (8, false, 1) := fldOf Tryz.underlying53 rfl rfl ty2.1 ty2.2.1 ty2.2.2.1
@[simp] theorem fl53_7 : fldT Tryz.prog 53 7 = some (9, true, 5) := fldOf Tryz.underlying53 rfl rfl ty46.1 ty46.2.1 ty46.2.2.1
@[simp] theorem fl53_8 : fldT Tryz.prog 53 8 = some (14, false, 1) := fldOf Tryz.underlying53 rfl rfl ty47.1 ty47.2.1 ty47.2.2.1
@[simp] theorem fl53_9 : fldT Tryz.prog 53 9 = some (15, false, 1) := fldOf Tryz.underlying53 rfl rfl ty2.1 ty2.2.1 ty2.2.2.1
@[simp] theorem fl53_10 : fldT Tryz.prog 53 10 = some (16, false, 1) := fldOf Tryz.underlying53 rfl rfl ty2.1 ty2.2.1 ty2.2.2.1
@[simp] theorem fl53_11 : fldT Tryz.prog 53 11 = some (17, false, 1) := fldOf Tryz.underlying53 rfl rfl ty48.1 ty48.2.1 ty48.2.2.1
@[simp] theorem fl53_12 : fldT Tryz.prog 53 12 = some (18, true, 2) := fldOf Tryz.underlying53 rfl rfl ty51.1 ty51.2.1 ty51.2.2.1
@[simp] theorem ts94 : structT Tryz.prog 94 = true := structOf Tryz.underlying94 (by simp [in2])
@[simp] theorem fl94_0 : fldT Tryz.prog 94 0 = some (0, false, 1) := fldOf Tryz.underlying94 rfl rfl ty2.1 ty2.2.1 ty2.2.2.1
@[simp] theorem fl94_1 : fldT Tryz.prog 94 1 = some (1, false, 1) := fldOf Tryz.underlying94 rfl rfl ty2.1 ty2.2.1 ty2.2.2.1
@[simp] theorem fl94_2 : fldT Tryz.prog 94 2 = some (2, false, 1) := fldOf Tryz.underlying94 rfl rfl ty2.1 ty2.2.1 ty2.2.2.1
@[simp] theorem ts96 : structT Tryz.prog 96 = true := structOf Tryz.underlying96 (by simp [in2, in9, in94])
@[simp] theorem fl96_0 : fldT Tryz.prog 96 0 = some (0, false, 1) := fldOf Tryz.underlying96 rfl rfl ty9.1 ty9.2.1 ty9.2.2.1
@[simp] theorem fl96_1 : fldT Tryz.prog 96 1 = some (1, false, 1) := fldOf Tryz.underlying96 rfl rfl ty2.1 ty2.2.1 ty2.2.2.1
@[simp] theorem fl96_2 : fldT Tryz.prog 96 2 = some (2, true, 3) := fldOf Tryz.underlying96 rfl rfl ty94.1 ty94.2.1 ty94.2.2.1
@[simp] theorem ts100 : structT Tryz.prog 100 = true := structOf Tryz.underlying100 (by simp [in2, in9, in98])
@[simp] theorem fl100_0 : fldT Tryz.prog 100 0 = some (0, false, 1) := fldOf Tryz.underlying100 rfl rfl ty9.1 ty9.2.1 ty9.2.2.1
@[simp] theorem fl100_1 : fldT Tryz.prog 100 1 = some (1, false, 1) := fldOf Tryz.underlying100 rfl rfl ty98.1 ty98.2.1 ty98.2.2.1
@[simp] theorem fl100_2 : fldT Tryz.prog 100 2 = some (2, false, 1) := fldOf Tryz.underlying100 rfl rfl ty2.1 ty2.2.1 ty2.2.2.1
@[simp] theorem ts104 : structT Tryz.prog 104 = true := structOf Tryz.underlying104 (by simp [in102, in2, in9])
@[simp] theorem fl104_0 : fldT Tryz.prog 104 0 = some (0, false, 1) := fldOf Tryz.underlying104 rfl rfl ty9.1 ty9.2.1 ty9.2.2.1
@[simp] theorem fl104_1 : fldT Tryz.prog 104 1 = some (1, false, 1) := fldOf Tryz.underlying104 rfl rfl ty2.1 ty2.2.1 ty2.2.2.1
@[simp] theorem fl104_2 : fldT Tryz.prog 104 2 = some (2, false, 1) := fldOf Tryz.underlying104 rfl rfl ty2.1 ty2.2.1 ty2.2.2.1
@[simp] theorem fl104_3 : fldT Tryz.prog 104 3 = some (3, false, 1) := fldOf Tryz.underlying104 rfl rfl ty2.1 ty2.2.1 ty2.2.2.1
@[simp] theorem fl104_4 : fldT Tryz.prog 104 4 = some (4, false, 1) := fldOf Tryz.underlying104 rfl rfl ty102.1 ty102.2.1 ty102.2.2.1
@[simp] theorem ts107 : structT Tryz.prog 107 = true := structOf Tryz.underlying107 (by simp [in2, in9])
@[simp] theorem fl107_0 : fldT Tryz.prog 107 0 = some (0, false, 1) := fldOf Tryz.underlying107 rfl rfl ty9.1 ty9.2.1 ty9.2.2.1
@[simp] theorem fl107_1 : fldT Tryz.prog 107 1 = some (1, false, 1) := fldOf Tryz.underlying107 rfl rfl ty2.1 ty2.2.1 ty2.2.2.1
@[simp] theorem fl107_2 : fldT Tryz.prog 107 2 = some (2, false, 1) := fldOf Tryz.underlying107 rfl rfl ty2.1 ty2.2.1 ty2.2.2.1
@[simp] theorem fl107_3 : fldT Tryz.prog 107 3 = some (3, false, 1) := fldOf Tryz.underlying107 rfl rfl ty2.1 ty2.2.1 ty2.2.2.1
@[simp] theorem fl107_4 : fldT Tryz.prog 107 4 = some (4, false, 1) := fldOf Tryz.underlying107 rfl rfl ty2.1 ty2.2.1 ty2.2.2.1
@[simp] theorem ts110 : structT Tryz.prog 110 = true := structOf Tryz.underlying110 (by simp [in2, in9])
@[simp] theorem fl110_0 : fldT Tryz.prog 110 0 = some (0, false, 1) := fldOf Tryz.underlying110 rfl rfl ty9.1 ty9.2.1 ty9.2.2.1
@[simp] theorem fl110_1 : fldT Tryz.prog 110 1 = some (1, false, 1) := fldOf Tryz.underlying110 rfl rfl ty2.1 ty2.2.1 ty2.2.2.1
@[simp] theorem fl110_2 : fldT Tryz.prog 110 2 = some (2, false, 1) := fldOf Tryz.underlying110 rfl rfl ty2.1 ty2.2.1 ty2.2.2.1
@[simp] theorem fl110_3 : fldT Tryz.prog 110 3 = some (3, false, 1) := fldOf Tryz.underlying110 rfl rfl ty2.1 ty2.2.1 ty2.2.2.1
@[simp] theorem fl110_4 : fldT Tryz.prog 110 4 = some (4, false, 1) := fldOf Tryz.underlying110 rfl rfl ty2.1 ty2.2.1 ty2.2.2.1
@[simp] theorem ts114 : structT Tryz.prog 114 = true := structOf Tryz.underlying114 (by simp [in112, in2, in9])
@[simp] theorem fl114_0 : fldT Tryz.prog 114 0 = some (0, false, 1) := fldOf Tryz.underlying114 rfl rfl ty9.1 ty9.2.1 ty9.2.2.1
@[simp] theorem fl114_1 : fldT Tryz.prog 114 1 = some (1, false, 1) := fldOf Tryz.underlying114 rfl rfl ty2.1 ty2.2.1 ty2.2.2.1
@[simp] theorem fl114_2 : fldT Tryz.prog 114 2 = some (2, false, 1) := fldOf Tryz.underlying114 rfl rfl ty2.1 ty2.2.1 ty2.2.2.1
@[simp] theorem fl114_3 : fldT Tryz.prog 114 3 = some (3, false, 1) := fldOf Tryz.underlying114 rfl rfl ty2.1 ty2.2.1 ty2.2.2.1
@[simp] theorem fl114_4 : fldT Tryz.prog 114 4 = some (4, false, 1) := fldOf Tryz.underlying114 rfl rfl ty2.1 ty2.2.1 ty2.2.2.1
@[simp] theorem fl114_5 : fldT Tryz.prog 114 5 = some (5, false, 1) := fldOf Tryz.underlying114 rfl rfl ty112.1 ty112.2.1 ty112.2.2.1
@[simp] theorem ts118 : structT Tryz.prog 118 = true := structOf Tryz.underlying118 (by simp [in116, in2])
@[simp] theorem fl118_0 : fldT Tryz.prog 118 0 = some (0, false, 1) := fldOf Tryz.underlying118 rfl rfl ty2.1 ty2.2.1 ty2.2.2.1
@[simp] theorem fl118_1 : fldT Tryz.prog 118 1 = some (1, false, 1) := fldOf Tryz.underlying118 rfl rfl ty116.1 ty116.2.1 ty116.2.2.1
@[simp] theorem fl118_2 : fldT Tryz.prog 118 2 = some (2, false, 1) := fldOf Tryz.underlying118 rfl rfl ty2.1 ty2.2.1 ty2.2.2.1
@[simp] theorem fl118_3 : fldT Tryz.prog 118 3 = some (3, false, 1) := fldOf Tryz.underlying118 rfl rfl ty2.1 ty2.2.1 ty2.2.2.1
@[simp] theorem ts135 : structT Tryz.prog 135 = true := structOf Tryz.underlying135 (by simp [in2])
@[simp] theorem fl135_0 : fldT Tryz.prog 135 0 = some (0, false, 1) := fldOf Tryz.underlying135 rfl rfl ty2.1 ty2.2.1 ty2.2.2.1
@[simp] theorem fl135_1 : fldT Tryz.prog 135 1 = some (1, false, 1) := fldOf Tryz.underlying135 rfl rfl ty2.1 ty2.2.1 ty2.2.2.1
@[simp] theorem fl135_2 : fldT Tryz.prog 135 2 = some (2, false, 1) := fldOf Tryz.underlying135 rfl rfl ty2.1 ty2.2.1 ty2.2.2.1
@[simp] theorem ts137 : structT Tryz.prog 137 = true := structOf Tryz.underlying137 (by simp [in135, in2, in9])
@[simp] theorem fl137_0 : fldT Tryz.prog 137 0 = some (0, false, 1) := fldOf Tryz.underlying137 rfl rfl ty9.1 ty9.2.1 ty9.2.2.1
@[simp] theorem fl137_1 : fldT Tryz.prog 137 1 = some (1, false, 1) := fldOf Tryz.underlying137 rfl rfl ty2.1 ty2.2.1 ty2.2.2.1
@[simp] theorem fl137_2 : fldT Tryz.prog 137 2 = some (2, true, 3) := fldOf Tryz.underlying137 rfl rfl ty135.1 ty135.2.1 ty135.2.2.1
@[simp] theorem ts139 : structT Tryz.prog 139 = true := structOf Tryz.underlying139 (by simp [in2, in9, in98])
@[simp] theorem fl139_0 : fldT Tryz.prog 139 0 = some (0, false, 1) := fldOf Tryz.underlying139 rfl rfl ty9.1 ty9.2.1 ty9.2.2.1
@[simp] theorem fl139_1 : fldT Tryz.prog 139 1 = some (1, false, 1) := fldOf Tryz.underlying139 rfl rfl ty98.1 ty98.2.1 ty98.2.2.1
@[simp] theorem fl139_2 : fldT Tryz.prog 139 2 = some (2, false, 1) := fldOf Tryz.underlying139 rfl rfl ty2.1 ty2.2.1 ty2.2.2.1
@[simp] theorem ts143 : structT Tryz.prog 143 = true := structOf Tryz.underlying143 (by simp [in141, in2, in9])
@[simp] theorem fl143_0 : fldT Tryz.prog 143 0 = some (0, false, 1) := fldOf Tryz.underlying143 rfl rfl ty9.1 ty9.2.1 ty9.2.2.1
@[simp] theorem fl143_1 : fldT Tryz.prog 143 1 = some (1, false, 1) := fldOf Tryz.underlying143 rfl rfl ty2.1 ty2.2.1 ty2.2.2.1
@[simp] theorem fl143_2 : fldT Tryz.prog 143 2 = some (2, false, 1) := fldOf Tryz.underlying143 rfl rfl ty2.1 ty2.2.1 ty2.2.2.1
@[simp] theorem fl143_3 : fldT Tryz.prog 143 3 = some (3, false, 1) := fldOf Tryz.underlying143 rfl rfl ty2.1 ty2.2.1 ty2.2.2.1
@[simp] theorem fl143_4 : fldT Tryz.prog 143 4 = some (4, false, 1) := fldOf Tryz.underlying143 rfl rfl ty141.1 ty141.2.1 ty141.2.2.1
@[simp] theorem ts145 : structT Tryz.prog 145 = true := structOf Tryz.underlying145 (by simp [in2, in9])
@[simp] theorem fl145_0 : fldT Tryz.prog 145 0 = some (0, false, 1) := fldOf Tryz.underlying145 rfl rfl ty9.1 ty9.2.1 ty9.2.2.1
@[simp] theorem fl145_1 : fldT Tryz.prog 145 1 = some (1, false, 1) := fldOf Tryz.underlying145 rfl rfl ty2.1 ty2.2.1 ty2.2.2.1
@[simp] theorem fl145_2 : fldT Tryz.prog 145 2 = some (2, false, 1) := fldOf Tryz.underlying145 rfl rfl ty2.1 ty2.2.1 ty2.2.2.1
@[simp] theorem fl145_3 : fldT Tryz.prog 145 3 = some (3, false, 1) := fldOf Tryz.underlying145 rfl rfl ty2.1 ty2.2.1 ty2.2.2.1
@[simp] theorem fl145_4 : fldT Tryz.prog 145 4 = some (4, false, 1) := fldOf Tryz.underlying145 rfl rfl ty2.1 ty2.2.1 ty2.2.2.1
@[simp] theorem ts147 : structT Tryz.prog 147 = true := structOf Tryz.underlying147 (by simp [in2, in9])
@[simp] theorem fl147_0 : fldT Tryz.prog 147 0 = some (0, false, 1) := fldOf Tryz.underlying147 rfl rfl ty9.1 ty9.2.1 ty9.2.2.1
@[simp] theorem fl147_1 : fldT Tryz.prog 147 1 = some (1, false, 1) := fldOf Tryz.underlying147 rfl rfl ty2.1 ty2.2.1 ty2.2.2.1
@[simp] theorem fl147_2 : fldT Tryz.prog 147 2 = some (2, false, 1) := fldOf Tryz.underlying147 rfl rfl ty2.1 ty2.2.1 ty2.2.2.1
@[simp] theorem fl147_3 : fldT Tryz.prog 147 3 = some (3, false, 1) := fldOf Tryz.underlying147 rfl rfl ty2.1 ty2.2.1 ty2.2.2.1
@[simp] theorem fl147_4 : fldT Tryz.prog 147 4 = some (4, false, 1) := fldOf Tryz.underlying147 rfl rfl ty2.1 ty2.2.1 ty2.2.2.1
@[simp] theorem ts151 : structT Tryz.prog 151 = true := structOf Tryz.underlying151 (by simp [in149, in2, in9])
@[simp] theorem fl151_0 : fldT Tryz.prog 151 0 = some (0, false, 1) := fldOf Tryz.underlying151 rfl rfl ty9.1 ty9.2.1 ty9.2.2.1
@[simp] theorem fl151_1 : fldT Tryz.prog 151 1 = some (1, false, 1) := fldOf Tryz.underlying151 rfl rfl ty2.1 ty2.2.1 ty2.2.2.1
@[simp] theorem fl151_2 : fldT Tryz.prog 151 2 = some (2, false, 1) := fldOf Tryz.underlying151 rfl rfl ty2.1 ty2.2.1 ty2.2.2.1
@[simp] theorem fl151_3 : fldT Tryz.prog 151 3 = some (3, false, 1) := fldOf Tryz.underlying151 rfl rfl ty2.1 ty2.2.1 ty2.2.2.1
@[simp] theorem fl151_4 : fldT Tryz.prog 151 4 = some (4, false, 1) := fldOf Tryz.underlying151 rfl rfl ty2.1 ty2.2.1 ty2.2.2.1
@[simp] theorem fl151_5 : fldT Tryz.prog 151 5 = some (5, false, 1) := fldOf Tryz.underlying151 rfl rfl ty149.1 ty149.2.1 ty149.2.2.1
@[simp] theorem ts155 : structT Tryz.prog 155 = true := structOf Tryz.underlying155 (by simp [in153, in2])
@[simp] theorem fl155_0 : fldT Tryz.prog 155 0 = some (0, false, 1) := fldOf Tryz.underlying155 rfl rfl ty2.1 ty2.2.1 ty2.2.2.1
@[simp] theorem fl155_1 : fldT Tryz.prog 155 1 = some (1, false, 1) := fldOf Tryz.underlying155 rfl rfl ty153.1 ty153.2.1 ty153.2.2.1
@[simp] theorem fl155_2 : fldT Tryz.prog 155 2 = some (2, false, 1) := fldOf Tryz.underlying155 rfl rfl ty2.1 ty2.2.1 ty2.2.2.1
@[simp] theorem fl155_3 : fldT Tryz.prog 155 3 = some (3, false, 1) := fldOf Tryz.underlying155 rfl rfl ty2.1 ty2.2.1 ty2.2.2.1
@[simp] theorem ts191 : structT Tryz.prog 191 = true := structOf Tryz.underlying191 (by simp [in2])
@[simp] theorem fl191_0 : fldT Tryz.prog 191 0 = some (0, false, 1) := fldOf Tryz.underlying191 rfl rfl ty2.1 ty2.2.1 ty2.2.2.1
@[simp] theorem fl191_1 : fldT Tryz.prog 191 1 = some (1, false, 1) := fldOf Tryz.underlying191 rfl rfl ty2.1 ty2.2.1 ty2.2.2.1
@[simp] theorem fl191_2 : fldT Tryz.prog 191 2 = some (2, false, 1) := fldOf Tryz.underlying191 rfl rfl ty2.1 ty2.2.1 ty2.2.2.1
@[simp] theorem ts195 : structT Tryz.prog 195 = true := structOf Tryz.underlying195 (by simp [in2, in9])
@[simp] theorem fl195_0 : fldT Tryz.prog 195 0 = some (0, false, 1) := fldOf Tryz.underlying195 rfl rfl ty2.1 ty2.2.1 ty2.2.2.1
@[simp] theorem fl195_1 : fldT Tryz.prog 195 1 = some (1, false, 1) := fldOf Tryz.underlying195 rfl rfl ty9.1 ty9.2.1 ty9.2.2.1
@[simp] theorem fl195_2 : fldT Tryz.prog 195 2 = some (2, false, 1) := fldOf Tryz.underlying195 rfl rfl ty9.1 ty9.2.1 ty9.2.2.1
@[simp] theorem ts219 : structT Tryz.prog 219 = true := structOf Tryz.underlying219 (by simp [in2])
@[simp] theorem fl219_0 : fldT Tryz.prog 219 0 = some (0, false, 1) := fldOf Tryz.underlying219 rfl rfl ty2.1 ty2.2.1 ty2.2.2.1
@[simp] theorem fl219_1 : fldT Tryz.prog 219 1 = some (1, false, 1) := fldOf Tryz.underlying219 rfl rfl ty2.1 ty2.2.1 ty2.2.2.1
@[simp] theorem fl219_2 : fldT Tryz.prog 219 2 = some (2, false, 1) := fldOf Tryz.underlying219 rfl rfl ty2.1 ty2.2.1 ty2.2.2.1
@[simp] theorem ts238 : structT Tryz.prog 238 = true := structOf Tryz.underlying238 (by simp [in2, in9])
@[simp] theorem fl238_0 : fldT Tryz.prog 238 0 = some (0, false, 1) := fldOf Tryz.underlying238 rfl rfl ty9.1 ty9.2.1 ty9.2.2.1
@[simp] theorem fl238_1 : fldT Tryz.prog 238 1 = some (1, false, 1) := fldOf Tryz.underlying238 rfl rfl ty2.1 ty2.2.1 ty2.2.2.1
@[simp] theorem ts241 : structT Tryz.prog 241 = true := structOf Tryz.underlying241 (by simp [in2, in9])
@[simp] theorem fl241_0 : fldT Tryz.prog 241 0 = some (0, false, 1) := fldOf Tryz.underlying241 rfl rfl ty9.1 ty9.2.1 ty9.2.2.1
@[simp] theorem fl241_1 : fldT Tryz.prog 241 1 = some (1, false, 1) := fldOf Tryz.underlying241 rfl rfl ty2.1 ty2.2.1 ty2.2.2.1
@[simp] theorem ts246 : structT Tryz.prog 246 = true := structOf Tryz.underlying246 (by simp [in2])
@[simp] theorem fl246_0 : fldT Tryz.prog 246 0 = some (0, false, 1) := fldOf Tryz.underlying246 rfl rfl ty2.1 ty2.2.1 ty2.2.2.1
@[simp] theorem fl246_1 : fldT Tryz.prog 246 1 = some (1, false, 1) := fldOf Tryz.underlying246 rfl rfl ty2.1 ty2.2.1 ty2.2.2.1
@[simp] theorem ts248 : structT Tryz.prog 248 = true := structOf Tryz.underlying248 (by simp [in2])
@[simp] theorem fl248_0 : fldT Tryz.prog 248 0 = some (0, false, 1) := fldOf Tryz.underlying248 rfl rfl ty2.1 ty2.2.1 ty2.2.2.1
@[simp] theorem fl248_1 : fldT Tryz.prog 248 1 = some (1, false, 1) := fldOf Tryz.underlying248 rfl rfl ty2.1 ty2.2.1 ty2.2.2.1
@[simp] theorem ts258 : structT Tryz.prog 258 = true := structOf Tryz.underlying258 (by simp [in2, in9])
@[simp] theorem fl258_0 : fldT Tryz.prog 258 0 = some (0, false, 1) := fldOf Tryz.underlying258 rfl rfl ty9.1 ty9.2.1 ty9.2.2.1
@[simp] theorem fl258_1 : fldT Tryz.prog 258 1 = some (1, false, 1) := fldOf Tryz.underlying258 rfl rfl ty2.1 ty2.2.1 ty2.2.2.1
@[simp] theorem fl258_2 : fldT Tryz.prog 258 2 = some (2, false, 1) := fldOf Tryz.underlying258 rfl rfl ty2.1 ty2.2.1 ty2.2.2.1
@[simp] theorem ts266 : structT Tryz.prog 266 = true := structOf Tryz.underlying266 (by simp [in2])
@[simp] theorem fl266_0 : fldT Tryz.prog 266 0 = some (0, false, 1) := fldOf Tryz.underlying266 rfl rfl ty2.1 ty2.2.1 ty2.2.2.1
@[simp] theorem fl266_1 : fldT Tryz.prog 266 1 = some (1, false, 1) := fldOf Tryz.underlying266 rfl rfl ty2.1 ty2.2.1 ty2.2.2.1
@[simp] theorem ts268 : structT Tryz.prog 268 = true := structOf Tryz.underlying268 (by simp [in2])
@[simp] theorem fl268_0 : fldT Tryz.prog 268 0 = some (0, false, 1) := fldOf Tryz.underlying268 rfl rfl ty2.1 ty2.2.1 ty2.2.2.1
@[simp] theorem fl268_1 : fldT Tryz.prog 268 1 = some (1, false, 1) := fldOf Tryz.underlying268 rfl rfl ty2.1 ty2.2.1 ty2.2.2.1
@[simp] theorem res_3 : Tryz.f3.results.toList = [.tmp 2] := rfl
@[simp] theorem res_4 : Tryz.f4.results.toList = [.tmp 4] := rfl
@[simp] theorem res_5 : Tryz.f5.results.toList = [.tmp 2] := rfl
@[simp] theorem res_6 : Tryz.f6.results.toList = [.cell 2 53] := rfl
@[simp] theorem res_7 : Tryz.f7.results.toList = [.tmp 2] := rfl
@[simp] theorem res_8 : Tryz.f8.results.toList = [.tmp 4] := rfl
@[simp] theorem res_9 : Tryz.f9.results.toList = [.tmp 4] := rfl
@[simp] theorem res_10 : Tryz.f10.results.toList = [.tmp 4] := rfl
@[simp] theorem res_11 : Tryz.f11.results.toList = [.tmp 4] := rfl
@[simp] theorem res_12 : Tryz.f12.results.toList = [.tmp 4] := rfl
@[simp] theorem res_13 : Tryz.f13.results.toList = [.tmp 4] := rfl
@[simp] theorem res_14 : Tryz.f14.results.toList = [.tmp 4] := rfl
@[simp] theorem res_15 : Tryz.f15.results.toList = [.tmp 4] := rfl
@[simp] theorem res_16 : Tryz.f16.results.toList = [.tmp 4] := rfl
@[simp] theorem res_17 : Tryz.f17.results.toList = [.tmp 4] := rfl
@[simp] theorem res_18 : Tryz.f18.results.toList = [.tmp 2] := rfl
@[simp] theorem res_19 : Tryz.f19.results.toList = [.tmp 2] := rfl
@[simp] theorem res_20 : Tryz.f20.results.toList = [.tmp 2] := rfl
@[simp] theorem res_21 : Tryz.f21.results.toList = [.tmp 2] := rfl
@[simp] theorem res_22 : Tryz.f22.results.toList = [.tmp 2] := rfl
@[simp] theorem res_23 : Tryz.f23.results.toList = [.tmp 2] := rfl
@[simp] theorem res_24 : Tryz.f24.results.toList = [.cell 2 44] := rfl
@[simp] theorem res_25 : Tryz.f25.results.toList = [.tmp 2] := rfl
@[simp] theorem res_26 : Tryz.f26.results.toList = [.cell 2 46] := rfl
@[simp] theorem res_27 : Tryz.f27.results.toList = [.tmp 2] := rfl
@[simp] theorem res_28 : Tryz.f28.results.toList = [.tmp 2] := rfl
@[simp] theorem res_29 : Tryz.f29.results.toList = [.cell 2 51] := rfl
@[simp] theorem res_30 : Tryz.f30.results.toList = [.tmp 2, .tmp 3] := rfl
@[simp] theorem res_31 : Tryz.f31.results.toList = [.tmp 4] := rfl
@[simp] theorem res_32 : Tryz.f32.results.toList = [.tmp 4] := rfl
@[simp] theorem res_33 : Tryz.f33.results.toList = [.tmp 4] := rfl
@[simp] theorem res_34 : Tryz.f34.results.toList = [.tmp 4] := rfl
@[simp] theorem res_35 : Tryz.f35.results.toList = [.tmp 4] := rfl
@[simp] theorem res_36 : Tryz.f36.results.toList = [.tmp 4] := rfl
@[simp] theorem res_37 : Tryz.f37.results.toList = [.tmp 4] := rfl
@[simp] theorem res_38 : Tryz.f38.results.toList = [.tmp 4] := rfl
@[simp] theorem res_39 : Tryz.f39.results.toList = [.tmp 4] := rfl
@[simp] theorem res_40 : Tryz.f40.results.toList = [.tmp 4] := rfl
@[simp] theorem res_41 : Tryz.f41.results.toList = [.tmp 4] := rfl
@[simp] theorem res_42 : Tryz.f42.results.toList = [.tmp 4] := rfl
@[simp] theorem res_43 : Tryz.f43.results.toList = [.tmp 4] := rfl
@[simp] theorem res_44 : Tryz.f44.results.toList = [.tmp 4] := rfl
@[simp] theorem res_45 : Tryz.f45.results.toList = [.tmp 4] := rfl
@[simp] theorem res_46 : Tryz.f46.results.toList = [.tmp 4] := rfl
@[simp] theorem res_47 : Tryz.f47.results.toList = [.tmp 4] := rfl
@[simp] theorem res_48 : Tryz.f48.results.toList = [.tmp 4] := rfl
@[simp] theorem res_49 : Tryz.f49.results.toList = [.tmp 2] := rfl
@[simp] theorem res_50 : Tryz.f50.results.toList = [.tmp 2] := rfl
@[simp] theorem res_51 : Tryz.f51.results.toList = [.tmp 2] := rfl
@[simp] theorem res_52 : Tryz.f52.results.toList = [.tmp 2] := rfl
@[simp] theorem res_53 : Tryz.f53.results.toList = [.tmp 2] := rfl
@[simp] theorem res_54 : Tryz.f54.results.toList = [.tmp 2] := rfl
@[simp] theorem res_55 : Tryz.f55.results.toList = [.tmp 2] := rfl
@[simp] theorem res_56 : Tryz.f56.results.toList = [.tmp 2] := rfl
@[simp] theorem res_57 : Tryz.f57.results.toList = [.tmp 2] := rfl
@[simp] theorem res_58 : Tryz.f58.results.toList = [.tmp 6] := rfl
@[simp] theorem res_59 : Tryz.f59.results.toList = [.tmp 2] := rfl
@[simp] theorem res_60 : Tryz.f60.results.toList = [.tmp 2] := rfl
@[simp] theorem res_61 : Tryz.f61.results.toList = [.tmp 2] := rfl
@[simp] theorem res_62 : Tryz.f62.results.toList = [.tmp 2] := rfl
@[simp] theorem res_63 : Tryz.f63.results.toList = [.tmp 2] := rfl
@[simp] theorem res_64 : Tryz.f64.results.toList = [.tmp 2] := rfl
@[simp] theorem res_65 : Tryz.f65.results.toList = [.cell 2 137] := rfl
@[simp] theorem res_66 : Tryz.f66.results.toList = [.cell 2 139] := rfl
@[simp] theorem res_67 : Tryz.f67.results.toList = [.cell 2 143] := rfl
@[simp] theorem res_68 : Tryz.f68.results.toList = [.cell 2 145] := rfl
@[simp] theorem res_69 : Tryz.f69.results.toList = [.cell 2 147] := rfl
@[simp] theorem res_70 : Tryz.f70.results.toList = [.cell 2 151] := rfl
@[simp] theorem res_71 : Tryz.f71.results.toList = [.cell 2 155] := rfl
@[simp] theorem res_72 : Tryz.f72.results.toList = [.tmp 2] := rfl
@[simp] theorem res_73 : Tryz.f73.results.toList = [.tmp 4, .tmp 5] := rfl
@[simp] theorem res_74 : Tryz.f74.results.toList = [.tmp 2] := rfl
@[simp] theorem res_75 : Tryz.f75.results.toList = [.tmp 2] := rfl
@[simp] theorem res_76 : Tryz.f76.results.toList = [.tmp 2] := rfl
@[simp] theorem res_77 : Tryz.f77.results.toList = [.tmp 2] := rfl
@[simp] theorem res_78 : Tryz.f78.results.toList = [.tmp 4] := rfl
@[simp] theorem res_79 : Tryz.f79.results.toList = [.tmp 4] := rfl
@[simp] theorem res_80 : Tryz.f80.results.toList = [.tmp 4] := rfl
@[simp] theorem res_81 : Tryz.f81.results.toList = [.tmp 4] := rfl
@[simp] theorem res_82 : Tryz.f82.results.toList = [.tmp 4] := rfl
@[simp] theorem res_83 : Tryz.f83.results.toList = [.tmp 4] := rfl
@[simp] theorem res_84 : Tryz.f84.results.toList = [.tmp 4] := rfl
@[simp] theorem res_85 : Tryz.f85.results.toList = [.tmp 4] := rfl
@[simp] theorem res_86 : Tryz.f86.results.toList = [.tmp 4] := rfl
@[simp] theorem res_87 : Tryz.f87.results.toList = [.tmp 4] := rfl
@[simp] theorem res_88 : Tryz.f88.results.toList = [.tmp 4] := rfl
@[simp] theorem res_89 : Tryz.f89.results.toList = [.tmp 4] := rfl
@[simp] theorem res_90 : Tryz.f90.results.toList = [.tmp 2] := rfl
@[simp] theorem res_91 : Tryz.f91.results.toList = [.tmp 2] := rfl
@[simp] theorem res_92 : Tryz.f92.results.toList = [.tmp 4] := rfl
@[simp] theorem res_93 : Tryz.f93.results.toList = [.tmp 2] := rfl
@[simp] theorem res_94 : Tryz.f94.results.toList = [.tmp 2] := rfl
@[simp] theorem res_95 : Tryz.f95.results.toList = [.tmp 2] := rfl
@[simp] theorem res_96 : Tryz.f96.results.toList = [.tmp 2] := rfl
@[simp] theorem res_97 : Tryz.f97.results.toList = [.tmp 2] := rfl
@[simp] theorem res_98 : Tryz.f98.results.toList = [.tmp 2] := rfl
@[simp] theorem res_99 : Tryz.f99.results.toList = [.tmp 2] := rfl
@[simp] theorem res_100 : Tryz.f100.results.toList = [.tmp 4] := rfl
@[simp] theorem res_101 : Tryz.f101.results.toList = [.tmp 6] := rfl
@[simp] theorem res_102 : Tryz.f102.results.toList = [.tmp 4] := rfl
@[simp] theorem res_103 : Tryz.f103.results.toList = [.tmp 4] := rfl
@[simp] theorem res_104 : Tryz.f104.results.toList = [.tmp 6] := rfl
@[simp] theorem res_105 : Tryz.f105.results.toList = [.tmp 4] := rfl
@[simp] theorem res_106 : Tryz.f106.results.toList = [.tmp 2, .tmp 3] := rfl
@[simp] theorem res_107 : Tryz.f107.results.toList = [.tmp 2] := rfl
@[simp] theorem res_108 : Tryz.f108.results.toList = [.tmp 4] := rfl
@[simp] theorem res_109 : Tryz.f109.results.toList = [.tmp 2] := rfl
@[simp] theorem res_110 : Tryz.f110.results.toList = [.tmp 2] := rfl
@[simp] theorem res_111 : Tryz.f111.results.toList = [.tmp 2, .tmp 3] := rfl
@[simp] theorem res_112 : Tryz.f112.results.toList = [.tmp 4, .tmp 5] := rfl
@[simp] theorem res_113 : Tryz.f113.results.toList = [.tmp 4] := rfl
@[simp] theorem res_114 : Tryz.f114.results.toList = [.tmp 2] := rfl
@[simp] theorem res_115 : Tryz.f115.results.toList = [.cell 2 135] := rfl
@[simp] theorem res_116 : Tryz.f116.results.toList = [.tmp 2] := rfl
@[simp] theorem res_117 : Tryz.f117.results.toList = [.tmp 2] := rfl
@[simp] theorem res_118 : Tryz.f118.results.toList = [.tmp 2] := rfl
@[simp] theorem res_119 : Tryz.f119.results.toList = [.tmp 2] := rfl
@[simp] theorem res_120 : Tryz.f120.results.toList = [.cell 2 191] := rfl
@[simp] theorem res_121 : Tryz.f121.results.toList = [.tmp 2] := rfl
@[simp] theorem res_122 : Tryz.f122.results.toList = [.tmp 6] := rfl
@[simp] theorem res_123 : Tryz.f123.results.toList = [.tmp 4] := rfl
@[simp] theorem res_124 : Tryz.f124.results.toList = [.tmp 3] := rfl
@[simp] theorem res_125 : Tryz.f125.results.toList = [.tmp 4] := rfl
@[simp] theorem res_126 : Tryz.f126.results.toList = [.tmp 3] := rfl
@[simp] theorem res_127 : Tryz.f127.results.toList = [.tmp 6, .tmp 7] := rfl
@[simp] theorem res_128 : Tryz.f128.results.toList = [.tmp 4] := rfl
@[simp] theorem res_129 : Tryz.f129.results.toList = [.tmp 2, .tmp 3] := rfl
@[simp] theorem res_130 : Tryz.f130.results.toList = [.tmp 2] := rfl
@[simp] theorem res_131 : Tryz.f131.results.toList = [.tmp 4] := rfl
@[simp] theorem res_132 : Tryz.f132.results.toList = [.tmp 2] := rfl
@[simp] theorem res_133 : Tryz.f133.results.toList = [.tmp 2] := rfl
@[simp] theorem res_134 : Tryz.f134.results.toList = [.tmp 4] := rfl
@[simp] theorem res_135 : Tryz.f135.results.toList = [.tmp 2] := rfl
@[simp] theorem res_136 : Tryz.f136.results.toList = [.tmp 4, .tmp 5] := rfl
@[simp] theorem res_137 : Tryz.f137.results.toList = [.tmp 4] := rfl
@[simp] theorem res_138 : Tryz.f138.results.toList = [.tmp 3] := rfl
@[simp] theorem res_139 : Tryz.f139.results.toList = [.tmp 2] := rfl
@[simp] theorem res_140 : Tryz.f140.results.toList = [.tmp 4] := rfl
@[simp] theorem res_141 : Tryz.f141.results.toList = [.tmp 4] := rfl
@[simp] theorem res_142 : Tryz.f142.results.toList = [.tmp 4] := rfl
@[simp] theorem res_143 : Tryz.f143.results.toList = [.tmp 4] := rfl
@[simp] theorem res_144 : Tryz.f144.results.toList = [.tmp 4] := rfl
@[simp] theorem res_145 : Tryz.f145.results.toList = [.tmp 4] := rfl
@[simp] theorem res_146 : Tryz.f146.results.toList = [.tmp 4] := rfl
@[simp] theorem res_147 : Tryz.f147.results.toList = [.tmp 2] := rfl
@[simp] theorem res_148 : Tryz.f148.results.toList = [.tmp 2] := rfl
@[simp] theorem res_149 : Tryz.f149.results.toList = [.tmp 2] := rfl
@[simp] theorem res_150 : Tryz.f150.results.toList = [.tmp 4] := rfl
@[simp] theorem res_151 : Tryz.f151.results.toList = [.tmp 2] := rfl
@[simp] theorem res_152 : Tryz.f152.results.toList = [.tmp 4] := rfl
@[simp] theorem res_153 : Tryz.f153.results.toList = [.tmp 4] := rfl
@[simp] theorem res_154 : Tryz.f154.results.toList = [.tmp 4] := rfl
@[simp] theorem res_155 : Tryz.f155.results.toList = [.tmp 6] := rfl
@[simp] theorem res_156 : Tryz.f156.results.toList = [.tmp 4] := rfl
@[simp] theorem res_157 : Tryz.f157.results.toList = [.tmp 4, .tmp 5] := rfl
@[simp] theorem res_158 : Tryz.f158.results.toList = [.tmp 4] := rfl
@[simp] theorem res_159 : Tryz.f159.results.toList = [.tmp 4] := rfl
@[simp] theorem res_160 : Tryz.f160.results.toList = [.tmp 2] := rfl
@[simp] theorem res_161 : Tryz.f161.results.toList = [.tmp 2] := rfl
@[simp] theorem res_162 : Tryz.f162.results.toList = [.tmp 4, .tmp 5] := rfl
@[simp] theorem res_163 : Tryz.f163.results.toList = [.tmp 2, .tmp 3] := rfl
@[simp] theorem res_164 : Tryz.f164.results.toList = [.tmp 4] := rfl
@[simp] theorem res_165 : Tryz.f165.results.toList = [.tmp 4] := rfl
@[simp] theorem res_166 : Tryz.f166.results.toList = [.tmp 2] := rfl
@[simp] theorem res_167 : Tryz.f167.results.toList = [.cell 2 241] := rfl
@[simp] theorem res_168 : Tryz.f168.results.toList = [.cell 2 246] := rfl
@[simp] theorem res_169 : Tryz.f169.results.toList = [.cell 2 248] := rfl
@[simp] theorem res_170 : Tryz.f170.results.toList = [.tmp 2] := rfl
@[simp] theorem res_171 : Tryz.f171.results.toList = [.tmp 2] := rfl
@[simp] theorem res_172 : Tryz.f172.results.toList = [.tmp 2] := rfl
@[simp] theorem res_173 : Tryz.f173.results.toList = [.tmp 2] := rfl
@[simp] theorem res_174 : Tryz.f174.results.toList = [.tmp 2] := rfl
@[simp] theorem res_175 : Tryz.f175.results.toList = [.tmp 2] := rfl
@[simp] theorem res_176 : Tryz.f176.results.toList = [.tmp 2] := rfl
@[simp] theorem res_177 : Tryz.f177.results.toList = [.tmp 2] := rfl
@[simp] theorem res_178 : Tryz.f178.results.toList = [.tmp 2] := rfl
@[simp] theorem res_179 : Tryz.f179.results.toList = [.tmp 6] := rfl
@[simp] theorem res_180 : Tryz.f180.results.toList = [.tmp 2] := rfl
@[simp] theorem res_181 : Tryz.f181.results.toList = [.tmp 2] := rfl
@[simp] theorem res_182 : Tryz.f182.results.toList = [.tmp 4] := rfl
@[simp] theorem res_183 : Tryz.f183.results.toList = [.tmp 4] := rfl
@[simp] theorem res_184 : Tryz.f184.results.toList = [.tmp 4] := rfl
@[simp] theorem res_185 : Tryz.f185.results.toList = [.tmp 4] := rfl
@[simp] theorem res_186 : Tryz.f186.results.toList = [.tmp 6] := rfl
@[simp] theorem res_187 : Tryz.f187.results.toList = [.tmp 4] := rfl
@[simp] theorem res_188 : Tryz.f188.results.toList = [.tmp 2, .tmp 3] := rfl
@[simp] theorem res_189 : Tryz.f189.results.toList = [.tmp 4, .tmp 5] := rfl
@[simp] theorem res_190 : Tryz.f190.results.toList = [.tmp 2, .tmp 3] := rfl
@[simp] theorem res_191 : Tryz.f191.results.toList = [.tmp 4] := rfl
@[simp] theorem res_192 : Tryz.f192.results.toList = [] := rfl
@[simp] theorem res_193 : Tryz.f193.results.toList = [.tmp 2] := rfl
@[simp] theorem res_194 : Tryz.f194.results.toList = [.tmp 4] := rfl
@[simp] theorem res_195 : Tryz.f195.results.toList = [.tmp 3] := rfl
@[simp] theorem res_196 : Tryz.f196.results.toList = [.tmp 2] := rfl
@[simp] theorem res_197 : Tryz.f197.results.toList = [.tmp 2] := rfl
@[simp] theorem res_198 : Tryz.f198.results.toList = [.tmp 4] := rfl
@[simp] theorem res_199 : Tryz.f199.results.toList = [.tmp 4] := rfl
@[simp] theorem res_200 : Tryz.f200.results.toList = [.tmp 4] := rfl
@[simp] theorem res_201 : Tryz.f201.results.toList = [.tmp 4] := rfl
@[simp] theorem res_202 : Tryz.f202.results.toList = [.tmp 4] := rfl
@[simp] theorem res_203 : Tryz.f203.results.toList = [.tmp 4] := rfl
@[simp] theorem res_204 : Tryz.f204.results.toList = [.tmp 2] := rfl
@[simp] theorem res_205 : Tryz.f205.results.toList = [.tmp 4] := rfl
@[simp] theorem res_206 : Tryz.f206.results.toList = [.tmp 4] := rfl
@[simp] theorem res_207 : Tryz.f207.results.toList = [.tmp 2] := rfl
@[simp] theorem res_208 : Tryz.f208.results.toList = [.tmp 2] := rfl
@[simp] theorem res_209 : Tryz.f209.results.toList = [.tmp 4] := rfl
@[simp] theorem res_210 : Tryz.f210.results.toList = [.tmp 4] := rfl
@[simp] theorem res_211 : Tryz.f211.results.toList = [.tmp 2] := rfl
@[simp] theorem res_212 : Tryz.f212.results.toList = [.tmp 2] := rfl
@[simp] theorem res_213 : Tryz.f213.results.toList = [.tmp 4] := rfl
@[simp] theorem res_214 : Tryz.f214.results.toList = [.tmp 3] := rfl
@[simp] theorem res_215 : Tryz.f215.results.toList = [.tmp 4] := rfl
@[simp] theorem res_216 : Tryz.f216.results.toList = [.tmp 2] := rfl
@[simp] theorem res_217 : Tryz.f217.results.toList = [.tmp 2] := rfl
@[simp] theorem res_218 : Tryz.f218.results.toList = [.tmp 2] := rfl
@[simp] theorem res_219 : Tryz.f219.results.toList = [.tmp 2] := rfl
@[simp] theorem res_220 : Tryz.f220.results.toList = [.tmp 2] := rfl
@[simp] theorem res_221 : Tryz.f221.results.toList = [.tmp 2] := rfl
@[simp] theorem res_222 : Tryz.f222.results.toList = [.tmp 2] := rfl
@[simp] theorem res_223 : Tryz.f223.results.toList = [.tmp 4] := rfl
@[simp] theorem res_224 : Tryz.f224.results.toList = [.tmp 4] := rfl
@[simp] theorem res_225 : Tryz.f225.results.toList = [.cell 4 139, .tmp 5] := rfl
@[simp] theorem res_226 : Tryz.f226.results.toList = [.tmp 3] := rfl
@[simp] theorem res_227 : Tryz.f227.results.toList = [.tmp 4] := rfl
@[simp] theorem res_228 : Tryz.f228.results.toList = [.tmp 2] := rfl
@[simp] theorem res_229 : Tryz.f229.results.toList = [.tmp 2, .tmp 3, .tmp 4] := rfl
@[simp] theorem res_230 : Tryz.f230.results.toList = [.tmp 2] := rfl
@[simp] theorem res_231 : Tryz.f231.results.toList = [.tmp 2] := rfl
@[simp] theorem res_232 : Tryz.f232.results.toList = [.tmp 2] := rfl
@[simp] theorem res_233 : Tryz.f233.results.toList = [.tmp 2] := rfl
@[simp] theorem res_234 : Tryz.f234.results.toList = [.tmp 4] := rfl
@[simp] theorem res_235 : Tryz.f235.results.toList = [.tmp 4] := rfl
@[simp] theorem res_236 : Tryz.f236.results.toList = [.tmp 2] := rfl
@[simp] theorem res_237 : Tryz.f237.results.toList = [] := rfl
@[simp] theorem res_238 : Tryz.f238.results.toList = [.tmp 2] := rfl
@[simp] theorem res_239 : Tryz.f239.results.toList = [.tmp 4] := rfl
@[simp] theorem res_240 : Tryz.f240.results.toList = [.tmp 4, .tmp 5] := rfl
@[simp] theorem res_241 : Tryz.f241.results.toList = [.tmp 4] := rfl
@[simp] theorem res_242 : Tryz.f242.results.toList = [.tmp 4] := rfl
@[simp] theorem res_243 : Tryz.f243.results.toList = [.tmp 2] := rfl
@[simp] theorem res_244 : Tryz.f244.results.toList = [.tmp 2] := rfl
@[simp] theorem res_245 : Tryz.f245.results.toList = [.tmp 0] := rfl
@[simp] theorem res_246 : Tryz.f246.results.toList = [.tmp 4] := rfl
@[simp] theorem res_247 : Tryz.f247.results.toList = [.tmp 2] := rfl
@[simp] theorem res_248 : Tryz.f248.results.toList = [.tmp 2] := rfl
@[simp] theorem res_249 : Tryz.f249.results.toList = [.tmp 4] := rfl
@[simp] theorem res_250 : Tryz.f250.results.toList = [.tmp 4] := rfl
@[simp] theorem res_251 : Tryz.f251.results.toList = [.tmp 3] := rfl
@[simp] theorem res_252 : Tryz.f252.results.toList = [.tmp 4] := rfl
@[simp] theorem res_253 : Tryz.f253.results.toList = [.tmp 2] := rfl
@[simp] theorem res_254 : Tryz.f254.results.toList = [.tmp 2] := rfl
@[simp] theorem res_255 : Tryz.f255.results.toList = [.tmp 4] := rfl
@[simp] theorem res_256 : Tryz.f256.results.toList = [.tmp 2] := rfl
@[simp] theorem res_257 : Tryz.f257.results.toList = [.tmp 4] := rfl
@[simp] theorem res_258 : Tryz.f258.results.toList = [.tmp 2] := rfl
@[simp] theorem res_259 : Tryz.f259.results.toList = [.tmp 2] := rfl
@[simp] theorem res_260 : Tryz.f260.results.toList = [.tmp 2] := rfl
@[simp] theorem res_261 : Tryz.f261.results.toList = [.tmp 2] := rfl
@[simp] theorem res_262 : Tryz.f262.results.toList = [.tmp 4] := rfl
@[simp] theorem res_263 : Tryz.f263.results.toList = [.tmp 4] := rfl
@[simp] theorem res_264 : Tryz.f264.results.toList = [.tmp 3] := rfl
@[simp] theorem res_265 : Tryz.f265.results.toList = [.tmp 4] := rfl
@[simp] theorem res_266 : Tryz.f266.results.toList = [.tmp 4, .tmp 5] := rfl
@[simp] theorem res_267 : Tryz.f267.results.toList = [.tmp 4, .tmp 5, .tmp 6] := rfl
@[simp] theorem res_268 : Tryz.f268.results.toList = [.tmp 4] := rfl
@[simp] theorem res_269 : Tryz.f269.results.toList = [.tmp 2] := rfl
@[simp] theorem res_270 : Tryz.f270.results.toList = [.tmp 2] := rfl
@[simp] theorem res_271 : Tryz.f271.results.toList = [.tmp 4] := rfl
@[simp] theorem res_272 : Tryz.f272.results.toList = [] := rfl
@[simp] theorem res_273 : Tryz.f273.results.toList = [] := rfl
@[simp] theorem res_274 : Tryz.f274.results.toList = [] := rfl
@[simp] theorem res_275 : Tryz.f275.results.toList = [.tmp 6, .tmp 7] := rfl
@[simp] theorem res_276 : Tryz.f276.results.toList = [] := rfl
@[simp] theorem res_277 : Tryz.f277.results.toList = [.tmp 6] := rfl
@[simp] theorem res_278 : Tryz.f278.results.toList = [.tmp 4] := rfl
@[simp] theorem res_279 : Tryz.f279.results.toList = [.tmp 8] := rfl
@[simp] theorem res_280 : Tryz.f280.results.toList = [.tmp 8, .tmp 9] := rfl
@[simp] theorem res_281 : Tryz.f281.results.toList = [.tmp 2] := rfl
@[simp] theorem res_282 : Tryz.f282.results.toList = [.tmp 2] := rfl
@[simp] theorem res_283 : Tryz.f283.results.toList = [.tmp 4] := rfl
@[simp] theorem res_284 : Tryz.f284.results.toList = [.tmp 4] := rfl
@[simp] theorem res_285 : Tryz.f285.results.toList = [.tmp 4] := rfl
@[simp] theorem res_286 : Tryz.f286.results.toList = [.tmp 2] := rfl
@[simp] theorem res_287 : Tryz.f287.results.toList = [.tmp 4] := rfl
@[simp] theorem res_288 : Tryz.f288.results.toList = [.tmp 4] := rfl
@[simp] theorem res_289 : Tryz.f289.results.toList = [.tmp 4] := rfl
@[simp] theorem res_290 : Tryz.f290.results.toList = [.tmp 2] := rfl
@[simp] theorem res_291 : Tryz.f291.results.toList = [.tmp 3] := rfl
@[simp] theorem res_292 : Tryz.f292.results.toList = [.tmp 4, .tmp 5] := rfl
@[simp] theorem res_293 : Tryz.f293.results.toList = [.tmp 4] := rfl
@[simp] theorem res_294 : Tryz.f294.results.toList = [.tmp 6, .tmp 7] := rfl
@[simp] theorem res_295 : Tryz.f295.results.toList = [.tmp 4] := rfl
@[simp] theorem res_296 : Tryz.f296.results.toList = [.tmp 4] := rfl
@[simp] theorem res_297 : Tryz.f297.results.toList = [.tmp 2] := rfl
@[simp] theorem res_298 : Tryz.f298.results.toList = [.tmp 2] := rfl
@[simp] theorem res_299 : Tryz.f299.results.toList = [.tmp 2] := rfl
@[simp] theorem res_300 : Tryz.f300.results.toList = [.tmp 4] := rfl
@[simp] theorem res_301 : Tryz.f301.results.toList = [] := rfl
@[simp] theorem res_302 : Tryz.f302.results.toList = [.tmp 2] := rfl
@[simp] theorem res_303 : Tryz.f303.results.toList = [.tmp 2] := rfl
@[simp] theorem res_304 : Tryz.f304.results.toList = [.tmp 6] := rfl
@[simp] theorem res_305 : Tryz.f305.results.toList = [.tmp 10] := rfl
@[simp] theorem res_306 : Tryz.f306.results.toList = [.tmp 2] := rfl
@[simp] theorem res_307 : Tryz.f307.results.toList = [.tmp 2] := rfl
@[simp] theorem res_308 : Tryz.f308.results.toList = [] := rfl
@[simp] theorem res_309 : Tryz.f309.results.toList = [.tmp 10, .tmp 11] := rfl
@[simp] theorem res_310 : Tryz.f310.results.toList = [.tmp 4, .tmp 5] := rfl
@[simp] theorem res_311 : Tryz.f311.results.toList = [.tmp 4, .tmp 5, .tmp 6] := rfl
@[simp] theorem res_312 : Tryz.f312.results.toList = [.tmp 2] := rfl
@[simp] theorem res_313 : Tryz.f313.results.toList = [.tmp 8, .tmp 9] := rfl
@[simp] theorem res_314 : Tryz.f314.results.toList = [.tmp 2] := rfl
@[simp] theorem res_315 : Tryz.f315.results.toList = [.tmp 2] := rfl
@[simp] theorem res_316 : Tryz.f316.results.toList = [.tmp 2] := rfl
@[simp] theorem res_317 : Tryz.f317.results.toList = [.tmp 2] := rfl
@[simp] theorem res_318 : Tryz.f318.results.toList = [.tmp 6, .tmp 7] := rfl
@[simp] theorem res_319 : Tryz.f319.results.toList = [.tmp 4] := rfl
@[simp] theorem res_320 : Tryz.f320.results.toList = [.tmp 2] := rfl
@[simp] theorem res_321 : Tryz.f321.results.toList = [.tmp 2] := rfl
theorem hm : Tryz.prog.follows .mixedOrders = true := by kernel_rfl
end Go.Proofs.YtdnflnpihcghcaaGreatDoor
