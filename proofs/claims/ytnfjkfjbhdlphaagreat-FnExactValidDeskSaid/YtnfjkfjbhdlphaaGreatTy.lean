/- Closed facts on the types of the program. Made by a program (gen_types.py). No condition. -/
import Derived.Test.YtnfjkfjbhdlphaaGreatAce
import Derived.Test.YtnfjkfjbhdlphaaGreatAcd
import Derived.Test.YtnfjkfjbhdlphaaGreatAbz
import Derived.Test.YtnfjkfjbhdlphaaGreatProg
namespace Go.Proofs.YtnfjkfjbhdlphaaGreat
open Go Go.Ab


theorem in2 : Tryz.prog.info? 2 = some Tryz.t2 := by kernel_rfl
@[simp] theorem ty2 : TyOne Tryz.prog 2 8 (some .i64) none false := tyOne_int in2 Tryz.underlying2 rfl rfl
@[simp] theorem tz2 : TyZ Tryz.prog 2 [.int .i64 0] := tyZ in2 rfl rfl rfl rfl
theorem in3 : Tryz.prog.info? 3 = some Tryz.t3 := by kernel_rfl
@[simp] theorem ty3 : TyOne Tryz.prog 3 8 (some .i64) none false := tyOne_int in3 Tryz.underlying3 rfl rfl
@[simp] theorem tz3 : TyZ Tryz.prog 3 [.int .i64 0] := tyZ in3 rfl rfl rfl rfl
theorem in4 : Tryz.prog.info? 4 = some Tryz.t4 := by kernel_rfl
@[simp] theorem ty4 : TyOne Tryz.prog 4 1 none none false := tyOne_bool in4 Tryz.underlying4 rfl rfl
@[simp] theorem ub4 : Tryz.prog.underlying 4 = some .bool := Tryz.underlying4
@[simp] theorem tz4 : TyZ Tryz.prog 4 [.bool false] := tyZ in4 rfl rfl rfl rfl
theorem in5 : Tryz.prog.info? 5 = some Tryz.t5 := by kernel_rfl
@[simp] theorem ty5 : TyOne Tryz.prog 5 1 (some .u8) none false := tyOne_int in5 Tryz.underlying5 rfl rfl
@[simp] theorem tz5 : TyZ Tryz.prog 5 [.int .u8 0] := tyZ in5 rfl rfl rfl rfl
theorem in6 : Tryz.prog.info? 6 = some Tryz.t6 := by kernel_rfl
@[simp] theorem ty6 : TyOne Tryz.prog 6 1 (some .u8) none false := tyOne_int in6 Tryz.underlying6 rfl rfl
@[simp] theorem tz6 : TyZ Tryz.prog 6 [.int .u8 0] := tyZ in6 rfl rfl rfl rfl
theorem in8 : Tryz.prog.info? 8 = some Tryz.t8 := by kernel_rfl
@[simp] theorem ty8 : TyAgg Tryz.prog 8 4 24 := tyAgg_struct in8 Tryz.underlying8 rfl rfl
@[simp] theorem tz8 : TyZ Tryz.prog 8 [.int .i64 0, .int .i64 0, .bool false, .int .u8 0] := tyZ in8 rfl rfl rfl rfl
theorem in9 : Tryz.prog.info? 9 = some Tryz.t9 := by kernel_rfl
@[simp] theorem ty9 : TyOne Tryz.prog 9 16 none none true := tyOne_str in9 Tryz.underlying9 rfl rfl
@[simp] theorem tz9 : TyZ Tryz.prog 9 [.str []] := tyZ in9 rfl rfl rfl rfl
theorem in10 : Tryz.prog.info? 10 = some Tryz.t10 := by kernel_rfl
@[simp] theorem ty10 : TyOne Tryz.prog 10 16 none none true := tyOne_str in10 Tryz.underlying10 rfl rfl
@[simp] theorem tz10 : TyZ Tryz.prog 10 [.str []] := tyZ in10 rfl rfl rfl rfl
theorem in11 : Tryz.prog.info? 11 = some Tryz.t11 := by kernel_rfl
@[simp] theorem ty11 : TyOne Tryz.prog 11 16 none none true := tyOne_str in11 Tryz.underlying11 rfl rfl
@[simp] theorem tz11 : TyZ Tryz.prog 11 [.str []] := tyZ in11 rfl rfl rfl rfl
theorem in12 : Tryz.prog.info? 12 = some Tryz.t12 := by kernel_rfl
@[simp] theorem ty12 : TyOne Tryz.prog 12 8 (some .u64) none false := tyOne_int in12 Tryz.underlying12 rfl rfl
@[simp] theorem tz12 : TyZ Tryz.prog 12 [.int .u64 0] := tyZ in12 rfl rfl rfl rfl
theorem in14 : Tryz.prog.info? 14 = some Tryz.t14 := by kernel_rfl
@[simp] theorem ty14 : TyAgg Tryz.prog 14 2 24 := tyAgg_struct in14 Tryz.underlying14 rfl rfl
@[simp] theorem tz14 : TyZ Tryz.prog 14 [.str [], .int .u64 0] := tyZ in14 rfl rfl rfl rfl
theorem in15 : Tryz.prog.info? 15 = some Tryz.t15 := by kernel_rfl
@[simp] theorem ty15 : TyOne Tryz.prog 15 8 none none false := tyOne_pointer in15 Tryz.underlying15 rfl rfl
@[simp] theorem tz15 : TyZ Tryz.prog 15 [.raw (.pointer none)] := tyZ in15 rfl rfl rfl rfl
theorem in16 : Tryz.prog.info? 16 = some Tryz.t16 := by kernel_rfl
@[simp] theorem ty16 : TyOne Tryz.prog 16 8 none none false := tyOne_pointer in16 Tryz.underlying16 rfl rfl
@[simp] theorem tz16 : TyZ Tryz.prog 16 [.raw (.pointer none)] := tyZ in16 rfl rfl rfl rfl
theorem in17 : Tryz.prog.info? 17 = some Tryz.t17 := by kernel_rfl
@[simp] theorem ty17 : TyOne Tryz.prog 17 8 none none false := tyOne_pointer in17 Tryz.underlying17 rfl rfl
@[simp] theorem tz17 : TyZ Tryz.prog 17 [.raw (.pointer none)] := tyZ in17 rfl rfl rfl rfl
theorem in19 : Tryz.prog.info? 19 = some Tryz.t19 := by kernel_rfl
@[simp] theorem ty19 : TyAgg Tryz.prog 19 1 8 := tyAgg_struct in19 Tryz.underlying19 rfl rfl
@[simp] theorem tz19 : TyZ Tryz.prog 19 [.raw (.pointer none)] := tyZ in19 rfl rfl rfl rfl
theorem in22 : Tryz.prog.info? 22 = some Tryz.t22 := by kernel_rfl
@[simp] theorem ty22 : TyOne Tryz.prog 22 24 none (some 180) false := tyOne_slice in22 Tryz.underlying22 rfl rfl
@[simp] theorem tz22 : TyZ Tryz.prog 22 [.nils] := tyZ in22 rfl rfl rfl rfl
theorem in23 : Tryz.prog.info? 23 = some Tryz.t23 := by kernel_rfl
@[simp] theorem ty23 : TyOne Tryz.prog 23 24 none (some 182) false := tyOne_slice in23 Tryz.underlying23 rfl rfl
@[simp] theorem tz23 : TyZ Tryz.prog 23 [.nils] := tyZ in23 rfl rfl rfl rfl
theorem in24 : Tryz.prog.info? 24 = some Tryz.t24 := by kernel_rfl
@[simp] theorem ty24 : TyOne Tryz.prog 24 24 none (some 186) false := tyOne_slice in24 Tryz.underlying24 rfl rfl
@[simp] theorem tz24 : TyZ Tryz.prog 24 [.nils] := tyZ in24 rfl rfl rfl rfl
theorem in25 : Tryz.prog.info? 25 = some Tryz.t25 := by kernel_rfl
@[simp] theorem ty25 : TyOne Tryz.prog 25 24 none (some 188) false := tyOne_slice in25 Tryz.underlying25 rfl rfl
@[simp] theorem tz25 : TyZ Tryz.prog 25 [.nils] := tyZ in25 rfl rfl rfl rfl
theorem in27 : Tryz.prog.info? 27 = some Tryz.t27 := by kernel_rfl
@[simp] theorem ty27 : TyAgg Tryz.prog 27 3 24 := tyAgg_struct in27 Tryz.underlying27 rfl rfl
@[simp] theorem tz27 : TyZ Tryz.prog 27 [.int .i64 0, .int .i64 0, .int .i64 0] := tyZ in27 rfl rfl rfl rfl
theorem in28 : Tryz.prog.info? 28 = some Tryz.t28 := by kernel_rfl
@[simp] theorem ty28 : TyOne Tryz.prog 28 24 none (some 190) false := tyOne_slice in28 Tryz.underlying28 rfl rfl
@[simp] theorem tz28 : TyZ Tryz.prog 28 [.nils] := tyZ in28 rfl rfl rfl rfl
theorem in30 : Tryz.prog.info? 30 = some Tryz.t30 := by kernel_rfl
@[simp] theorem ty30 : TyAgg Tryz.prog 30 5 48 := tyAgg_struct in30 Tryz.underlying30 rfl rfl
@[simp] theorem tz30 : TyZ Tryz.prog 30 [.str [], .int .i64 0, .int .i64 0, .int .i64 0, .int .i64 0] := tyZ in30 rfl rfl rfl rfl
theorem in31 : Tryz.prog.info? 31 = some Tryz.t31 := by kernel_rfl
@[simp] theorem ty31 : TyOne Tryz.prog 31 24 none (some 194) false := tyOne_slice in31 Tryz.underlying31 rfl rfl
@[simp] theorem tz31 : TyZ Tryz.prog 31 [.nils] := tyZ in31 rfl rfl rfl rfl
theorem in32 : Tryz.prog.info? 32 = some Tryz.t32 := by kernel_rfl
@[simp] theorem ty32 : TyOne Tryz.prog 32 24 none (some 198) false := tyOne_slice in32 Tryz.underlying32 rfl rfl
@[simp] theorem tz32 : TyZ Tryz.prog 32 [.nils] := tyZ in32 rfl rfl rfl rfl
theorem in33 : Tryz.prog.info? 33 = some Tryz.t33 := by kernel_rfl
@[simp] theorem ty33 : TyOne Tryz.prog 33 24 none (some 264) false := tyOne_slice in33 Tryz.underlying33 rfl rfl
@[simp] theorem tz33 : TyZ Tryz.prog 33 [.nils] := tyZ in33 rfl rfl rfl rfl
theorem in35 : Tryz.prog.info? 35 = some Tryz.t35 := by kernel_rfl
@[simp] theorem ty35 : TyAgg Tryz.prog 35 2 40 := tyAgg_struct in35 Tryz.underlying35 rfl rfl
@[simp] theorem tz35 : TyZ Tryz.prog 35 [.str [], .nils] := tyZ in35 rfl rfl rfl rfl
theorem in37 : Tryz.prog.info? 37 = some Tryz.t37 := by kernel_rfl
@[simp] theorem ty37 : TyAgg Tryz.prog 37 20 304 := tyAgg_struct in37 Tryz.underlying37 rfl rfl
@[simp] theorem tz37 : TyZ Tryz.prog 37 [.nils, .nils, .nils, .nils, .int .i64 0, .int .i64 0, .int .i64 0, .nils, .int .i64 0, .str [], .int .i64 0, .int .i64 0, .int .i64 0, .int .i64 0, .nils, .int .i64 0, .int .i64 0, .nils, .str [], .nils] := tyZ in37 rfl rfl rfl rfl
theorem in38 : Tryz.prog.info? 38 = some Tryz.t38 := by kernel_rfl
@[simp] theorem ty38 : TyOne Tryz.prog 38 24 none (some 145) false := tyOne_slice in38 Tryz.underlying38 rfl rfl
@[simp] theorem tz38 : TyZ Tryz.prog 38 [.nils] := tyZ in38 rfl rfl rfl rfl
theorem in39 : Tryz.prog.info? 39 = some Tryz.t39 := by kernel_rfl
@[simp] theorem ty39 : TyOne Tryz.prog 39 24 none (some 148) false := tyOne_slice in39 Tryz.underlying39 rfl rfl
@[simp] theorem tz39 : TyZ Tryz.prog 39 [.nils] := tyZ in39 rfl rfl rfl rfl
theorem in41 : Tryz.prog.info? 41 = some Tryz.t41 := by kernel_rfl
@[simp] theorem ty41 : TyAgg Tryz.prog 41 22 352 := tyAgg_struct in41 Tryz.underlying41 rfl rfl
@[simp] theorem tz41 : TyZ Tryz.prog 41 [.nils, .nils, .nils, .nils, .int .i64 0, .int .i64 0, .int .i64 0, .nils, .int .i64 0, .str [], .int .i64 0, .int .i64 0, .int .i64 0, .int .i64 0, .nils, .int .i64 0, .int .i64 0, .nils, .str [], .nils, .nils, .nils] := tyZ in41 rfl rfl rfl rfl
theorem in44 : Tryz.prog.info? 44 = some Tryz.t44 := by kernel_rfl
@[simp] theorem ty44 : TyOne Tryz.prog 44 24 none (some 83) false := tyOne_slice in44 Tryz.underlying44 rfl rfl
@[simp] theorem tz44 : TyZ Tryz.prog 44 [.nils] := tyZ in44 rfl rfl rfl rfl
theorem in45 : Tryz.prog.info? 45 = some Tryz.t45 := by kernel_rfl
@[simp] theorem ty45 : TyOne Tryz.prog 45 24 none (some 158) false := tyOne_slice in45 Tryz.underlying45 rfl rfl
@[simp] theorem tz45 : TyZ Tryz.prog 45 [.nils] := tyZ in45 rfl rfl rfl rfl
theorem in46 : Tryz.prog.info? 46 = some Tryz.t46 := by kernel_rfl
@[simp] theorem ty46 : TyOne Tryz.prog 46 24 none (some 164) false := tyOne_slice in46 Tryz.underlying46 rfl rfl
@[simp] theorem tz46 : TyZ Tryz.prog 46 [.nils] := tyZ in46 rfl rfl rfl rfl
theorem in47 : Tryz.prog.info? 47 = some Tryz.t47 := by kernel_rfl
@[simp] theorem ty47 : TyOne Tryz.prog 47 24 none (some 88) false := tyOne_slice in47 Tryz.underlying47 rfl rfl
@[simp] theorem tz47 : TyZ Tryz.prog 47 [.nils] := tyZ in47 rfl rfl rfl rfl
theorem in48 : Tryz.prog.info? 48 = some Tryz.t48 := by kernel_rfl
@[simp] theorem ty48 : TyAgg Tryz.prog 48 3 24 := tyAgg_struct in48 Tryz.underlying48 rfl rfl
@[simp] theorem tz48 : TyZ Tryz.prog 48 [.int .i64 0, .int .i64 0, .int .i64 0] := tyZ in48 rfl rfl rfl rfl
theorem in49 : Tryz.prog.info? 49 = some Tryz.t49 := by kernel_rfl
@[simp] theorem ty49 : TyOne Tryz.prog 49 24 none (some 91) false := tyOne_slice in49 Tryz.underlying49 rfl rfl
@[simp] theorem tz49 : TyZ Tryz.prog 49 [.nils] := tyZ in49 rfl rfl rfl rfl
theorem in50 : Tryz.prog.info? 50 = some Tryz.t50 := by kernel_rfl
@[simp] theorem ty50 : TyAgg Tryz.prog 50 5 48 := tyAgg_struct in50 Tryz.underlying50 rfl rfl
@[simp] theorem tz50 : TyZ Tryz.prog 50 [.str [], .int .i64 0, .int .i64 0, .int .i64 0, .int .i64 0] := tyZ in50 rfl rfl rfl rfl
theorem in51 : Tryz.prog.info? 51 = some Tryz.t51 := by kernel_rfl
@[simp] theorem ty51 : TyOne Tryz.prog 51 24 none (some 95) false := tyOne_slice in51 Tryz.underlying51 rfl rfl
@[simp] theorem tz51 : TyZ Tryz.prog 51 [.nils] := tyZ in51 rfl rfl rfl rfl
theorem in52 : Tryz.prog.info? 52 = some Tryz.t52 := by kernel_rfl
@[simp] theorem ty52 : TyOne Tryz.prog 52 24 none (some 100) false := tyOne_slice in52 Tryz.underlying52 rfl rfl
@[simp] theorem tz52 : TyZ Tryz.prog 52 [.nils] := tyZ in52 rfl rfl rfl rfl
theorem in53 : Tryz.prog.info? 53 = some Tryz.t53 := by kernel_rfl
@[simp] theorem ty53 : TyOne Tryz.prog 53 24 none (some 174) false := tyOne_slice in53 Tryz.underlying53 rfl rfl
@[simp] theorem tz53 : TyZ Tryz.prog 53 [.nils] := tyZ in53 rfl rfl rfl rfl
theorem in55 : Tryz.prog.info? 55 = some Tryz.t55 := by kernel_rfl
@[simp] theorem ty55 : TyAgg Tryz.prog 55 2 40 := tyAgg_struct in55 Tryz.underlying55 rfl rfl
@[simp] theorem tz55 : TyZ Tryz.prog 55 [.str [], .nils] := tyZ in55 rfl rfl rfl rfl
theorem in57 : Tryz.prog.info? 57 = some Tryz.t57 := by kernel_rfl
@[simp] theorem ty57 : TyAgg Tryz.prog 57 20 304 := tyAgg_struct in57 Tryz.underlying57 rfl rfl
@[simp] theorem tz57 : TyZ Tryz.prog 57 [.nils, .nils, .nils, .nils, .int .i64 0, .int .i64 0, .int .i64 0, .nils, .int .i64 0, .str [], .int .i64 0, .int .i64 0, .int .i64 0, .int .i64 0, .nils, .int .i64 0, .int .i64 0, .nils, .str [], .nils] := tyZ in57 rfl rfl rfl rfl
theorem in58 : Tryz.prog.info? 58 = some Tryz.t58 := by kernel_rfl
@[simp] theorem ty58 : TyOne Tryz.prog 58 24 none (some 151) false := tyOne_slice in58 Tryz.underlying58 rfl rfl
@[simp] theorem tz58 : TyZ Tryz.prog 58 [.nils] := tyZ in58 rfl rfl rfl rfl
theorem in59 : Tryz.prog.info? 59 = some Tryz.t59 := by kernel_rfl
@[simp] theorem ty59 : TyOne Tryz.prog 59 24 none (some 152) false := tyOne_slice in59 Tryz.underlying59 rfl rfl
@[simp] theorem tz59 : TyZ Tryz.prog 59 [.nils] := tyZ in59 rfl rfl rfl rfl
theorem in61 : Tryz.prog.info? 61 = some Tryz.t61 := by kernel_rfl
@[simp] theorem ty61 : TyAgg Tryz.prog 61 22 352 := tyAgg_struct in61 Tryz.underlying61 rfl rfl
@[simp] theorem tz61 : TyZ Tryz.prog 61 [.nils, .nils, .nils, .nils, .int .i64 0, .int .i64 0, .int .i64 0, .nils, .int .i64 0, .str [], .int .i64 0, .int .i64 0, .int .i64 0, .int .i64 0, .nils, .int .i64 0, .int .i64 0, .nils, .str [], .nils, .nils, .nils] := tyZ in61 rfl rfl rfl rfl
theorem in74 : Tryz.prog.info? 74 = some Tryz.t74 := by kernel_rfl
@[simp] theorem ty74 : TyOne Tryz.prog 74 8 none none false := tyOne_pointer in74 Tryz.underlying74 rfl rfl
@[simp] theorem tz74 : TyZ Tryz.prog 74 [.raw (.pointer none)] := tyZ in74 rfl rfl rfl rfl
theorem in81 : Tryz.prog.info? 81 = some Tryz.t81 := by kernel_rfl
@[simp] theorem ty81 : TyAgg Tryz.prog 81 3 24 := tyAgg_struct in81 Tryz.underlying81 rfl rfl
@[simp] theorem tz81 : TyZ Tryz.prog 81 [.int .i64 0, .int .i64 0, .int .i64 0] := tyZ in81 rfl rfl rfl rfl
theorem in83 : Tryz.prog.info? 83 = some Tryz.t83 := by kernel_rfl
@[simp] theorem ty83 : TyAgg Tryz.prog 83 5 48 := tyAgg_struct in83 Tryz.underlying83 rfl rfl
@[simp] theorem tz83 : TyZ Tryz.prog 83 [.str [], .int .i64 0, .int .i64 0, .int .i64 0, .int .i64 0] := tyZ in83 rfl rfl rfl rfl
theorem in88 : Tryz.prog.info? 88 = some Tryz.t88 := by kernel_rfl
@[simp] theorem ty88 : TyAgg Tryz.prog 88 5 48 := tyAgg_struct in88 Tryz.underlying88 rfl rfl
@[simp] theorem tz88 : TyZ Tryz.prog 88 [.str [], .int .i64 0, .int .i64 0, .int .i64 0, .int .i64 0] := tyZ in88 rfl rfl rfl rfl
theorem in91 : Tryz.prog.info? 91 = some Tryz.t91 := by kernel_rfl
@[simp] theorem ty91 : TyAgg Tryz.prog 91 5 48 := tyAgg_struct in91 Tryz.underlying91 rfl rfl
@[simp] theorem tz91 : TyZ Tryz.prog 91 [.str [], .int .i64 0, .int .i64 0, .int .i64 0, .int .i64 0] := tyZ in91 rfl rfl rfl rfl
theorem in93 : Tryz.prog.info? 93 = some Tryz.t93 := by kernel_rfl
@[simp] theorem ty93 : TyOne Tryz.prog 93 24 none (some 168) false := tyOne_slice in93 Tryz.underlying93 rfl rfl
@[simp] theorem tz93 : TyZ Tryz.prog 93 [.nils] := tyZ in93 rfl rfl rfl rfl
theorem in95 : Tryz.prog.info? 95 = some Tryz.t95 := by kernel_rfl
@[simp] theorem ty95 : TyAgg Tryz.prog 95 6 72 := tyAgg_struct in95 Tryz.underlying95 rfl rfl
@[simp] theorem tz95 : TyZ Tryz.prog 95 [.str [], .int .i64 0, .int .i64 0, .int .i64 0, .int .i64 0, .nils] := tyZ in95 rfl rfl rfl rfl
theorem in96 : Tryz.prog.info? 96 = some Tryz.t96 := by kernel_rfl
@[simp] theorem ty96 : TyOne Tryz.prog 96 8 none none false := tyOne_func in96 Tryz.underlying96 rfl rfl
@[simp] theorem tz96 : TyZ Tryz.prog 96 [.raw .nilFunc] := tyZ in96 rfl rfl rfl rfl
theorem in98 : Tryz.prog.info? 98 = some Tryz.t98 := by kernel_rfl
@[simp] theorem ty98 : TyOne Tryz.prog 98 24 none (some 171) false := tyOne_slice in98 Tryz.underlying98 rfl rfl
@[simp] theorem tz98 : TyZ Tryz.prog 98 [.nils] := tyZ in98 rfl rfl rfl rfl
theorem in100 : Tryz.prog.info? 100 = some Tryz.t100 := by kernel_rfl
@[simp] theorem ty100 : TyAgg Tryz.prog 100 4 48 := tyAgg_struct in100 Tryz.underlying100 rfl rfl
@[simp] theorem tz100 : TyZ Tryz.prog 100 [.int .i64 0, .nils, .int .i64 0, .int .i64 0] := tyZ in100 rfl rfl rfl rfl
theorem in101 : Tryz.prog.info? 101 = some Tryz.t101 := by kernel_rfl
@[simp] theorem ty101 : TyOne Tryz.prog 101 8 none none false := tyOne_func in101 Tryz.underlying101 rfl rfl
@[simp] theorem tz101 : TyZ Tryz.prog 101 [.raw .nilFunc] := tyZ in101 rfl rfl rfl rfl
theorem in140 : Tryz.prog.info? 140 = some Tryz.t140 := by kernel_rfl
@[simp] theorem ty140 : TyOne Tryz.prog 140 8 none none false := tyOne_pointer in140 Tryz.underlying140 rfl rfl
@[simp] theorem tz140 : TyZ Tryz.prog 140 [.raw (.pointer none)] := tyZ in140 rfl rfl rfl rfl
theorem in145 : Tryz.prog.info? 145 = some Tryz.t145 := by kernel_rfl
@[simp] theorem ty145 : TyAgg Tryz.prog 145 5 48 := tyAgg_struct in145 Tryz.underlying145 rfl rfl
@[simp] theorem tz145 : TyZ Tryz.prog 145 [.str [], .int .i64 0, .int .i64 0, .int .i64 0, .int .i64 0] := tyZ in145 rfl rfl rfl rfl
theorem in148 : Tryz.prog.info? 148 = some Tryz.t148 := by kernel_rfl
@[simp] theorem ty148 : TyAgg Tryz.prog 148 3 40 := tyAgg_struct in148 Tryz.underlying148 rfl rfl
@[simp] theorem tz148 : TyZ Tryz.prog 148 [.int .i64 0, .str [], .str []] := tyZ in148 rfl rfl rfl rfl
theorem in150 : Tryz.prog.info? 150 = some Tryz.t150 := by kernel_rfl
@[simp] theorem ty150 : TyOne Tryz.prog 150 8 none none false := tyOne_pointer in150 Tryz.underlying150 rfl rfl
@[simp] theorem tz150 : TyZ Tryz.prog 150 [.raw (.pointer none)] := tyZ in150 rfl rfl rfl rfl
theorem in151 : Tryz.prog.info? 151 = some Tryz.t151 := by kernel_rfl
@[simp] theorem ty151 : TyAgg Tryz.prog 151 5 48 := tyAgg_struct in151 Tryz.underlying151 rfl rfl
@[simp] theorem tz151 : TyZ Tryz.prog 151 [.str [], .int .i64 0, .int .i64 0, .int .i64 0, .int .i64 0] := tyZ in151 rfl rfl rfl rfl
theorem in152 : Tryz.prog.info? 152 = some Tryz.t152 := by kernel_rfl
@[simp] theorem ty152 : TyAgg Tryz.prog 152 3 40 := tyAgg_struct in152 Tryz.underlying152 rfl rfl
@[simp] theorem tz152 : TyZ Tryz.prog 152 [.int .i64 0, .str [], .str []] := tyZ in152 rfl rfl rfl rfl
theorem in156 : Tryz.prog.info? 156 = some Tryz.t156 := by kernel_rfl
@[simp] theorem ty156 : TyOne Tryz.prog 156 24 none (some 9) false := tyOne_slice in156 Tryz.underlying156 rfl rfl
@[simp] theorem tz156 : TyZ Tryz.prog 156 [.nils] := tyZ in156 rfl rfl rfl rfl
theorem in158 : Tryz.prog.info? 158 = some Tryz.t158 := by kernel_rfl
@[simp] theorem ty158 : TyAgg Tryz.prog 158 3 48 := tyAgg_struct in158 Tryz.underlying158 rfl rfl
@[simp] theorem tz158 : TyZ Tryz.prog 158 [.str [], .nils, .int .i64 0] := tyZ in158 rfl rfl rfl rfl
theorem in160 : Tryz.prog.info? 160 = some Tryz.t160 := by kernel_rfl
@[simp] theorem ty160 : TyOne Tryz.prog 160 8 none none false := tyOne_func in160 Tryz.underlying160 rfl rfl
@[simp] theorem tz160 : TyZ Tryz.prog 160 [.raw .nilFunc] := tyZ in160 rfl rfl rfl rfl
theorem in162 : Tryz.prog.info? 162 = some Tryz.t162 := by kernel_rfl
@[simp] theorem ty162 : TyOne Tryz.prog 162 24 none (some 238) false := tyOne_slice in162 Tryz.underlying162 rfl rfl
@[simp] theorem tz162 : TyZ Tryz.prog 162 [.nils] := tyZ in162 rfl rfl rfl rfl
theorem in164 : Tryz.prog.info? 164 = some Tryz.t164 := by kernel_rfl
@[simp] theorem ty164 : TyAgg Tryz.prog 164 5 64 := tyAgg_struct in164 Tryz.underlying164 rfl rfl
@[simp] theorem tz164 : TyZ Tryz.prog 164 [.str [], .int .i64 0, .int .i64 0, .int .i64 0, .nils] := tyZ in164 rfl rfl rfl rfl
theorem in165 : Tryz.prog.info? 165 = some Tryz.t165 := by kernel_rfl
@[simp] theorem ty165 : TyOne Tryz.prog 165 8 none none false := tyOne_func in165 Tryz.underlying165 rfl rfl
@[simp] theorem tz165 : TyZ Tryz.prog 165 [.raw .nilFunc] := tyZ in165 rfl rfl rfl rfl
theorem in168 : Tryz.prog.info? 168 = some Tryz.t168 := by kernel_rfl
@[simp] theorem ty168 : TyAgg Tryz.prog 168 2 16 := tyAgg_struct in168 Tryz.underlying168 rfl rfl
@[simp] theorem tz168 : TyZ Tryz.prog 168 [.int .i64 0, .int .i64 0] := tyZ in168 rfl rfl rfl rfl
theorem in171 : Tryz.prog.info? 171 = some Tryz.t171 := by kernel_rfl
@[simp] theorem ty171 : TyAgg Tryz.prog 171 2 16 := tyAgg_struct in171 Tryz.underlying171 rfl rfl
@[simp] theorem tz171 : TyZ Tryz.prog 171 [.int .i64 0, .int .i64 0] := tyZ in171 rfl rfl rfl rfl
theorem in174 : Tryz.prog.info? 174 = some Tryz.t174 := by kernel_rfl
@[simp] theorem ty174 : TyAgg Tryz.prog 174 3 24 := tyAgg_struct in174 Tryz.underlying174 rfl rfl
@[simp] theorem tz174 : TyZ Tryz.prog 174 [.int .i64 0, .int .i64 0, .int .i64 0] := tyZ in174 rfl rfl rfl rfl
theorem in178 : Tryz.prog.info? 178 = some Tryz.t178 := by kernel_rfl
@[simp] theorem ty178 : TyAgg Tryz.prog 178 3 24 := tyAgg_struct in178 Tryz.underlying178 rfl rfl
@[simp] theorem tz178 : TyZ Tryz.prog 178 [.int .i64 0, .int .i64 0, .int .i64 0] := tyZ in178 rfl rfl rfl rfl
theorem in180 : Tryz.prog.info? 180 = some Tryz.t180 := by kernel_rfl
@[simp] theorem ty180 : TyAgg Tryz.prog 180 5 48 := tyAgg_struct in180 Tryz.underlying180 rfl rfl
@[simp] theorem tz180 : TyZ Tryz.prog 180 [.str [], .int .i64 0, .int .i64 0, .int .i64 0, .int .i64 0] := tyZ in180 rfl rfl rfl rfl
theorem in182 : Tryz.prog.info? 182 = some Tryz.t182 := by kernel_rfl
@[simp] theorem ty182 : TyAgg Tryz.prog 182 3 48 := tyAgg_struct in182 Tryz.underlying182 rfl rfl
@[simp] theorem tz182 : TyZ Tryz.prog 182 [.str [], .nils, .int .i64 0] := tyZ in182 rfl rfl rfl rfl
theorem in184 : Tryz.prog.info? 184 = some Tryz.t184 := by kernel_rfl
@[simp] theorem ty184 : TyOne Tryz.prog 184 24 none (some 289) false := tyOne_slice in184 Tryz.underlying184 rfl rfl
@[simp] theorem tz184 : TyZ Tryz.prog 184 [.nils] := tyZ in184 rfl rfl rfl rfl
theorem in186 : Tryz.prog.info? 186 = some Tryz.t186 := by kernel_rfl
@[simp] theorem ty186 : TyAgg Tryz.prog 186 5 64 := tyAgg_struct in186 Tryz.underlying186 rfl rfl
@[simp] theorem tz186 : TyZ Tryz.prog 186 [.str [], .int .i64 0, .int .i64 0, .int .i64 0, .nils] := tyZ in186 rfl rfl rfl rfl
theorem in188 : Tryz.prog.info? 188 = some Tryz.t188 := by kernel_rfl
@[simp] theorem ty188 : TyAgg Tryz.prog 188 5 48 := tyAgg_struct in188 Tryz.underlying188 rfl rfl
@[simp] theorem tz188 : TyZ Tryz.prog 188 [.str [], .int .i64 0, .int .i64 0, .int .i64 0, .int .i64 0] := tyZ in188 rfl rfl rfl rfl
theorem in190 : Tryz.prog.info? 190 = some Tryz.t190 := by kernel_rfl
@[simp] theorem ty190 : TyAgg Tryz.prog 190 5 48 := tyAgg_struct in190 Tryz.underlying190 rfl rfl
@[simp] theorem tz190 : TyZ Tryz.prog 190 [.str [], .int .i64 0, .int .i64 0, .int .i64 0, .int .i64 0] := tyZ in190 rfl rfl rfl rfl
theorem in192 : Tryz.prog.info? 192 = some Tryz.t192 := by kernel_rfl
@[simp] theorem ty192 : TyOne Tryz.prog 192 24 none (some 297) false := tyOne_slice in192 Tryz.underlying192 rfl rfl
@[simp] theorem tz192 : TyZ Tryz.prog 192 [.nils] := tyZ in192 rfl rfl rfl rfl
theorem in194 : Tryz.prog.info? 194 = some Tryz.t194 := by kernel_rfl
@[simp] theorem ty194 : TyAgg Tryz.prog 194 6 72 := tyAgg_struct in194 Tryz.underlying194 rfl rfl
@[simp] theorem tz194 : TyZ Tryz.prog 194 [.str [], .int .i64 0, .int .i64 0, .int .i64 0, .int .i64 0, .nils] := tyZ in194 rfl rfl rfl rfl
theorem in196 : Tryz.prog.info? 196 = some Tryz.t196 := by kernel_rfl
@[simp] theorem ty196 : TyOne Tryz.prog 196 24 none (some 299) false := tyOne_slice in196 Tryz.underlying196 rfl rfl
@[simp] theorem tz196 : TyZ Tryz.prog 196 [.nils] := tyZ in196 rfl rfl rfl rfl
theorem in198 : Tryz.prog.info? 198 = some Tryz.t198 := by kernel_rfl
@[simp] theorem ty198 : TyAgg Tryz.prog 198 4 48 := tyAgg_struct in198 Tryz.underlying198 rfl rfl
@[simp] theorem tz198 : TyZ Tryz.prog 198 [.int .i64 0, .nils, .int .i64 0, .int .i64 0] := tyZ in198 rfl rfl rfl rfl
theorem in201 : Tryz.prog.info? 201 = some Tryz.t201 := by kernel_rfl
@[simp] theorem ty201 : TyOne Tryz.prog 201 8 none none false := tyOne_pointer in201 Tryz.underlying201 rfl rfl
@[simp] theorem tz201 : TyZ Tryz.prog 201 [.raw (.pointer none)] := tyZ in201 rfl rfl rfl rfl
theorem in203 : Tryz.prog.info? 203 = some Tryz.t203 := by kernel_rfl
@[simp] theorem ty203 : TyOne Tryz.prog 203 8 none none false := tyOne_pointer in203 Tryz.underlying203 rfl rfl
@[simp] theorem tz203 : TyZ Tryz.prog 203 [.raw (.pointer none)] := tyZ in203 rfl rfl rfl rfl
theorem in205 : Tryz.prog.info? 205 = some Tryz.t205 := by kernel_rfl
@[simp] theorem ty205 : TyOne Tryz.prog 205 8 none none false := tyOne_pointer in205 Tryz.underlying205 rfl rfl
@[simp] theorem tz205 : TyZ Tryz.prog 205 [.raw (.pointer none)] := tyZ in205 rfl rfl rfl rfl
theorem in215 : Tryz.prog.info? 215 = some Tryz.t215 := by kernel_rfl
@[simp] theorem ty215 : TyOne Tryz.prog 215 8 none none false := tyOne_func in215 Tryz.underlying215 rfl rfl
@[simp] theorem tz215 : TyZ Tryz.prog 215 [.raw .nilFunc] := tyZ in215 rfl rfl rfl rfl
theorem in220 : Tryz.prog.info? 220 = some Tryz.t220 := by kernel_rfl
@[simp] theorem ty220 : TyOne Tryz.prog 220 8 none none false := tyOne_func in220 Tryz.underlying220 rfl rfl
@[simp] theorem tz220 : TyZ Tryz.prog 220 [.raw .nilFunc] := tyZ in220 rfl rfl rfl rfl
theorem in232 : Tryz.prog.info? 232 = some Tryz.t232 := by kernel_rfl
@[simp] theorem ty232 : TyOne Tryz.prog 232 8 none none false := tyOne_pointer in232 Tryz.underlying232 rfl rfl
@[simp] theorem tz232 : TyZ Tryz.prog 232 [.raw (.pointer none)] := tyZ in232 rfl rfl rfl rfl
theorem in235 : Tryz.prog.info? 235 = some Tryz.t235 := by kernel_rfl
@[simp] theorem ty235 : TyOne Tryz.prog 235 8 none none false := tyOne_pointer in235 Tryz.underlying235 rfl rfl
@[simp] theorem tz235 : TyZ Tryz.prog 235 [.raw (.pointer none)] := tyZ in235 rfl rfl rfl rfl
theorem in238 : Tryz.prog.info? 238 = some Tryz.t238 := by kernel_rfl
@[simp] theorem ty238 : TyAgg Tryz.prog 238 2 24 := tyAgg_struct in238 Tryz.underlying238 rfl rfl
@[simp] theorem tz238 : TyZ Tryz.prog 238 [.str [], .int .i64 0] := tyZ in238 rfl rfl rfl rfl
theorem in244 : Tryz.prog.info? 244 = some Tryz.t244 := by kernel_rfl
@[simp] theorem ty244 : TyOne Tryz.prog 244 8 none none false := tyOne_pointer in244 Tryz.underlying244 rfl rfl
@[simp] theorem tz244 : TyZ Tryz.prog 244 [.raw (.pointer none)] := tyZ in244 rfl rfl rfl rfl
theorem in246 : Tryz.prog.info? 246 = some Tryz.t246 := by kernel_rfl
@[simp] theorem ty246 : TyOne Tryz.prog 246 8 none none false := tyOne_pointer in246 Tryz.underlying246 rfl rfl
@[simp] theorem tz246 : TyZ Tryz.prog 246 [.raw (.pointer none)] := tyZ in246 rfl rfl rfl rfl
theorem in250 : Tryz.prog.info? 250 = some Tryz.t250 := by kernel_rfl
@[simp] theorem ty250 : TyOne Tryz.prog 250 8 none none false := tyOne_pointer in250 Tryz.underlying250 rfl rfl
@[simp] theorem tz250 : TyZ Tryz.prog 250 [.raw (.pointer none)] := tyZ in250 rfl rfl rfl rfl
theorem in252 : Tryz.prog.info? 252 = some Tryz.t252 := by kernel_rfl
@[simp] theorem ty252 : TyOne Tryz.prog 252 8 none none false := tyOne_pointer in252 Tryz.underlying252 rfl rfl
@[simp] theorem tz252 : TyZ Tryz.prog 252 [.raw (.pointer none)] := tyZ in252 rfl rfl rfl rfl
theorem in256 : Tryz.prog.info? 256 = some Tryz.t256 := by kernel_rfl
@[simp] theorem ty256 : TyOne Tryz.prog 256 8 none none false := tyOne_pointer in256 Tryz.underlying256 rfl rfl
@[simp] theorem tz256 : TyZ Tryz.prog 256 [.raw (.pointer none)] := tyZ in256 rfl rfl rfl rfl
theorem in264 : Tryz.prog.info? 264 = some Tryz.t264 := by kernel_rfl
@[simp] theorem ty264 : TyAgg Tryz.prog 264 3 24 := tyAgg_struct in264 Tryz.underlying264 rfl rfl
@[simp] theorem tz264 : TyZ Tryz.prog 264 [.int .i64 0, .int .i64 0, .int .i64 0] := tyZ in264 rfl rfl rfl rfl
theorem in270 : Tryz.prog.info? 270 = some Tryz.t270 := by kernel_rfl
@[simp] theorem ty270 : TyOne Tryz.prog 270 24 none (some 5) false := tyOne_slice in270 Tryz.underlying270 rfl rfl
@[simp] theorem tz270 : TyZ Tryz.prog 270 [.nils] := tyZ in270 rfl rfl rfl rfl
theorem in273 : Tryz.prog.info? 273 = some Tryz.t273 := by kernel_rfl
@[simp] theorem ty273 : TyOne Tryz.prog 273 8 none none false := tyOne_func in273 Tryz.underlying273 rfl rfl
@[simp] theorem tz273 : TyZ Tryz.prog 273 [.raw .nilFunc] := tyZ in273 rfl rfl rfl rfl
theorem in279 : Tryz.prog.info? 279 = some Tryz.t279 := by kernel_rfl
@[simp] theorem ty279 : TyOne Tryz.prog 279 8 none none false := tyOne_pointer in279 Tryz.underlying279 rfl rfl
@[simp] theorem tz279 : TyZ Tryz.prog 279 [.raw (.pointer none)] := tyZ in279 rfl rfl rfl rfl
theorem in283 : Tryz.prog.info? 283 = some Tryz.t283 := by kernel_rfl
@[simp] theorem ty283 : TyOne Tryz.prog 283 24 none (some 312) false := tyOne_slice in283 Tryz.underlying283 rfl rfl
@[simp] theorem tz283 : TyZ Tryz.prog 283 [.nils] := tyZ in283 rfl rfl rfl rfl
theorem in285 : Tryz.prog.info? 285 = some Tryz.t285 := by kernel_rfl
@[simp] theorem ty285 : TyOne Tryz.prog 285 24 none (some 2) false := tyOne_slice in285 Tryz.underlying285 rfl rfl
@[simp] theorem tz285 : TyZ Tryz.prog 285 [.nils] := tyZ in285 rfl rfl rfl rfl
theorem in289 : Tryz.prog.info? 289 = some Tryz.t289 := by kernel_rfl
@[simp] theorem ty289 : TyAgg Tryz.prog 289 2 24 := tyAgg_struct in289 Tryz.underlying289 rfl rfl
@[simp] theorem tz289 : TyZ Tryz.prog 289 [.str [], .int .i64 0] := tyZ in289 rfl rfl rfl rfl
theorem in291 : Tryz.prog.info? 291 = some Tryz.t291 := by kernel_rfl
@[simp] theorem ty291 : TyOne Tryz.prog 291 8 none none false := tyOne_pointer in291 Tryz.underlying291 rfl rfl
@[simp] theorem tz291 : TyZ Tryz.prog 291 [.raw (.pointer none)] := tyZ in291 rfl rfl rfl rfl
theorem in292 : Tryz.prog.info? 292 = some Tryz.t292 := by kernel_rfl
@[simp] theorem ty292 : TyOne Tryz.prog 292 8 none none false := tyOne_func in292 Tryz.underlying292 rfl rfl
@[simp] theorem tz292 : TyZ Tryz.prog 292 [.raw .nilFunc] := tyZ in292 rfl rfl rfl rfl
theorem in294 : Tryz.prog.info? 294 = some Tryz.t294 := by kernel_rfl
@[simp] theorem ty294 : TyOne Tryz.prog 294 8 none none false := tyOne_pointer in294 Tryz.underlying294 rfl rfl
@[simp] theorem tz294 : TyZ Tryz.prog 294 [.raw (.pointer none)] := tyZ in294 rfl rfl rfl rfl
theorem in297 : Tryz.prog.info? 297 = some Tryz.t297 := by kernel_rfl
@[simp] theorem ty297 : TyAgg Tryz.prog 297 2 16 := tyAgg_struct in297 Tryz.underlying297 rfl rfl
@[simp] theorem tz297 : TyZ Tryz.prog 297 [.int .i64 0, .int .i64 0] := tyZ in297 rfl rfl rfl rfl
theorem in299 : Tryz.prog.info? 299 = some Tryz.t299 := by kernel_rfl
@[simp] theorem ty299 : TyAgg Tryz.prog 299 2 16 := tyAgg_struct in299 Tryz.underlying299 rfl rfl
@[simp] theorem tz299 : TyZ Tryz.prog 299 [.int .i64 0, .int .i64 0] := tyZ in299 rfl rfl rfl rfl
theorem in303 : Tryz.prog.info? 303 = some Tryz.t303 := by kernel_rfl
@[simp] theorem ty303 : TyOne Tryz.prog 303 24 none (some 3) false := tyOne_slice in303 Tryz.underlying303 rfl rfl
@[simp] theorem tz303 : TyZ Tryz.prog 303 [.nils] := tyZ in303 rfl rfl rfl rfl
theorem in308 : Tryz.prog.info? 308 = some Tryz.t308 := by kernel_rfl
@[simp] theorem ty308 : TyOne Tryz.prog 308 8 none none false := tyOne_pointer in308 Tryz.underlying308 rfl rfl
@[simp] theorem tz308 : TyZ Tryz.prog 308 [.raw (.pointer none)] := tyZ in308 rfl rfl rfl rfl
theorem in312 : Tryz.prog.info? 312 = some Tryz.t312 := by kernel_rfl
@[simp] theorem ty312 : TyAgg Tryz.prog 312 2 32 := tyAgg_struct in312 Tryz.underlying312 rfl rfl
@[simp] theorem tz312 : TyZ Tryz.prog 312 [.str [], .str []] := tyZ in312 rfl rfl rfl rfl
theorem in316 : Tryz.prog.info? 316 = some Tryz.t316 := by kernel_rfl
@[simp] theorem ty316 : TyOne Tryz.prog 316 8 none none false := tyOne_func in316 Tryz.underlying316 rfl rfl
@[simp] theorem tz316 : TyZ Tryz.prog 316 [.raw .nilFunc] := tyZ in316 rfl rfl rfl rfl
theorem in320 : Tryz.prog.info? 320 = some Tryz.t320 := by kernel_rfl
@[simp] theorem ty320 : TyOne Tryz.prog 320 8 (some .u64) none false := tyOne_int in320 Tryz.underlying320 rfl rfl
@[simp] theorem tz320 : TyZ Tryz.prog 320 [.int .u64 0] := tyZ in320 rfl rfl rfl rfl
theorem in333 : Tryz.prog.info? 333 = some Tryz.t333 := by kernel_rfl
@[simp] theorem ty333 : TyOne Tryz.prog 333 1 (some .u8) none false := tyOne_int in333 Tryz.underlying333 rfl rfl
@[simp] theorem tz333 : TyZ Tryz.prog 333 [.int .u8 0] := tyZ in333 rfl rfl rfl rfl
@[simp] theorem ts8 : structT Tryz.prog 8 = true := structOf Tryz.underlying8 (by simp [in2, in3, in4, in6])
@[simp] theorem fl8_0 : fldT Tryz.prog 8 0 = some (0, false, 1) := fldOf Tryz.underlying8 rfl rfl ty2.1 ty2.2.1 ty2.2.2.1
@[simp] theorem fl8_1 : fldT Tryz.prog 8 1 = some (1, false, 1) := fldOf Tryz.underlying8 rfl rfl ty3.1 ty3.2.1 ty3.2.2.1
@[simp] theorem fl8_2 : fldT Tryz.prog 8 2 = some (2, false, 1) := fldOf Tryz.underlying8 rfl rfl ty4.1 ty4.2.1 ty4.2.2.1
@[simp] theorem fl8_3 : fldT Tryz.prog 8 3 = some (3, false, 1) := fldOf Tryz.underlying8 rfl rfl ty6.1 ty6.2.1 ty6.2.2.1
@[simp] theorem ts14 : structT Tryz.prog 14 = true := structOf Tryz.underlying14 (by simp [in12, in9])
@[simp] theorem fl14_0 : fldT Tryz.prog 14 0 = some (0, false, 1) := fldOf Tryz.underlying14 rfl rfl ty9.1 ty9.2.1 ty9.2.2.1
@[simp] theorem fl14_1 : fldT Tryz.prog 14 1 = some (1, false, 1) := fldOf Tryz.underlying14 rfl rfl ty12.1 ty12.2.1 ty12.2.2.1
@[simp] theorem ts19 : structT Tryz.prog 19 = true := structOf Tryz.underlying19 (by simp [in17])
@[simp] theorem fl19_0 : fldT Tryz.prog 19 0 = some (0, false, 1) := fldOf Tryz.underlying19 rfl rfl ty17.1 ty17.2.1 ty17.2.2.1
@[simp] theorem ts27 : structT Tryz.prog 27 = true := structOf Tryz.underlying27 (by simp [in2])
@[simp] theorem fl27_0 : fldT Tryz.prog 27 0 = some (0, false, 1) := fldOf Tryz.underlying27 rfl rfl ty2.1 ty2.2.1 ty2.2.2.1
@[simp] theorem fl27_1 : fldT Tryz.prog 27 1 = some (1, false, 1) := fldOf Tryz.underlying27 rfl rfl ty2.1 ty2.2.1 ty2.2.2.1
@[simp] theorem fl27_2 : fldT Tryz.prog 27 2 = some (2, false, 1) := fldOf Tryz.underlying27 rfl rfl ty2.1 ty2.2.1 ty2.2.2.1
@[simp] theorem ts30 : structT Tryz.prog 30 = true := structOf Tryz.underlying30 (by simp [in2, in9])
@[simp] theorem fl30_0 : fldT Tryz.prog 30 0 = some (0, false, 1) := fldOf Tryz.underlying30 rfl rfl ty9.1 ty9.2.1 ty9.2.2.1
@[simp] theorem fl30_1 : fldT Tryz.prog 30 1 = some (1, false, 1) := fldOf Tryz.underlying30 rfl rfl ty2.1 ty2.2.1 ty2.2.2.1
@[simp] theorem fl30_2 : fldT Tryz.prog 30 2 = some (2, false, 1) := fldOf Tryz.underlying30 rfl rfl ty2.1 ty2.2.1 ty2.2.2.1
@[simp] theorem fl30_3 : fldT Tryz.prog 30 3 = some (3, false, 1) := fldOf Tryz.underlying30 rfl rfl ty2.1 ty2.2.1 ty2.2.2.1
@[simp] theorem fl30_4 : fldT Tryz.prog 30 4 = some (4, false, 1) := fldOf Tryz.underlying30 rfl rfl ty2.1 ty2.2.1 ty2.2.2.1
@[simp] theorem ts35 : structT Tryz.prog 35 = true := structOf Tryz.underlying35 (by simp [in33, in9])
@[simp] theorem fl35_0 : fldT Tryz.prog 35 0 = some (0, false, 1) := fldOf Tryz.underlying35 rfl rfl ty9.1 ty9.2.1 ty9.2.2.1
@[simp] theorem fl35_1 : fldT Tryz.prog 35 1 = some (1, false, 1) := fldOf Tryz.underlying35 rfl rfl ty33.1 ty33.2.1 ty33.2.2.1
@[simp] theorem ts37 : structT Tryz.prog 37 = true := structOf Tryz.underlying37 (by simp [in2, in22, in23, in24, in25, in27, in28, in30, in31, in32, in35])
@[simp] theorem fl37_0 : fldT Tryz.prog 37 0 = some (0, false, 1) := fldOf Tryz.underlying37 rfl rfl ty22.1 ty22.2.1 ty22.2.2.1
@[simp] theorem fl37_1 : fldT Tryz.prog 37 1 = some (1, false, 1) := fldOf Tryz.underlying37 rfl rfl ty23.1 ty23.2.1 ty23.2.2.1
@[simp] theorem fl37_2 : fldT Tryz.prog 37 2 = some (2, false, 1) := fldOf Tryz.underlying37 rfl rfl ty24.1 ty24.2.1 ty24.2.2.1
@[simp] theorem fl37_3 : fldT Tryz.prog 37 3 = some (3, false, 1) := fldOf Tryz.underlying37 rfl rfl ty25.1 ty25.2.1 ty25.2.2.1
@[simp] theorem fl37_4 : fldT Tryz.prog 37 4 = some (4, true, 3) := fldOf Tryz.underlying37 rfl rfl ty27.1 ty27.2.1 ty27.2.2.1
@[simp] theorem fl37_5 : fldT Tryz.prog 37 5 = some (7, false, 1) := fldOf Tryz.underlying37 rfl rfl ty28.1 ty28.2.1 ty28.2.2.1
@[simp] theorem fl37_6 : fldT Tryz.prog 37 6 = some (8, false, 1) := fldOf Tryz.underlying37 rfl rfl ty2.1 ty2.2.1 ty2.2.2.1
@[simp] theorem fl37_7 : fldT Tryz.prog 37 7 = some (9, true, 5) := fldOf Tryz.underlying37 rfl rfl ty30.1 ty30.2.1 ty30.2.2.1
@[simp] theorem fl37_8 : fldT Tryz.prog 37 8 = some (14, false, 1) := fldOf Tryz.underlying37 rfl rfl ty31.1 ty31.2.1 ty31.2.2.1
@[simp] theorem fl37_9 : fldT Tryz.prog 37 9 = some (15, false, 1) := fldOf Tryz.underlying37 rfl rfl ty2.1 ty2.2.1 ty2.2.2.1
@[simp] theorem fl37_10 : fldT Tryz.prog 37 10 = some (16, false, 1) := fldOf Tryz.underlying37 rfl rfl ty2.1 ty2.2.1 ty2.2.2.1
@[simp] theorem fl37_11 : fldT Tryz.prog 37 11 = some (17, false, 1) := fldOf Tryz.underlying37 rfl rfl ty32.1 ty32.2.1 ty32.2.2.1
@[simp] theorem fl37_12 : fldT Tryz.prog 37 12 = some (18, true, 2) := fldOf Tryz.underlying37 rfl rfl ty35.1 ty35.2.1 ty35.2.2.1
@[simp] theorem ts41 : structT Tryz.prog 41 = true := structOf Tryz.underlying41 (by simp [in37, in38, in39])
@[simp] theorem fl41_0 : fldT Tryz.prog 41 0 = some (0, true, 20) := fldOf Tryz.underlying41 rfl rfl ty37.1 ty37.2.1 ty37.2.2.1
@[simp] theorem fl41_1 : fldT Tryz.prog 41 1 = some (20, false, 1) := fldOf Tryz.underlying41 rfl rfl ty38.1 ty38.2.1 ty38.2.2.1
@[simp] theorem fl41_2 : fldT Tryz.prog 41 2 = some (21, false, 1) := fldOf Tryz.underlying41 rfl rfl ty39.1 ty39.2.1 ty39.2.2.1
@[simp] theorem ts48 : structT Tryz.prog 48 = true := structOf Tryz.underlying48 (by simp [in2])
@[simp] theorem fl48_0 : fldT Tryz.prog 48 0 = some (0, false, 1) := fldOf Tryz.underlying48 rfl rfl ty2.1 ty2.2.1 ty2.2.2.1
@[simp] theorem fl48_1 : fldT Tryz.prog 48 1 = some (1, false, 1) := fldOf Tryz.underlying48 rfl rfl ty2.1 ty2.2.1 ty2.2.2.1
@[simp] theorem fl48_2 : fldT Tryz.prog 48 2 = some (2, false, 1) := fldOf Tryz.underlying48 rfl rfl ty2.1 ty2.2.1 ty2.2.2.1
@[simp] theorem ts50 : structT Tryz.prog 50 = true := structOf Tryz.underlying50 (by simp [in2, in9])
@[simp] theorem fl50_0 : fldT Tryz.prog 50 0 = some (0, false, 1) := fldOf Tryz.underlying50 rfl rfl ty9.1 ty9.2.1 ty9.2.2.1
@[simp] theorem fl50_1 : fldT Tryz.prog 50 1 = some (1, false, 1) := fldOf Tryz.underlying50 rfl rfl ty2.1 ty2.2.1 ty2.2.2.1
@[simp] theorem fl50_2 : fldT Tryz.prog 50 2 = some (2, false, 1) := fldOf Tryz.underlying50 rfl rfl ty2.1 ty2.2.1 ty2.2.2.1
@[simp] theorem fl50_3 : fldT Tryz.prog 50 3 = some (3, false, 1) := fldOf Tryz.underlying50 rfl rfl ty2.1 ty2.2.1 ty2.2.2.1
@[simp] theorem fl50_4 : fldT Tryz.prog 50 4 = some (4, false, 1) := fldOf Tryz.underlying50 rfl rfl ty2.1 ty2.2.1 ty2.2.2.1
@[simp] theorem ts55 : structT Tryz.prog 55 = true := structOf Tryz.underlying55 (by simp [in53, in9])
@[simp] theorem fl55_0 : fldT Tryz.prog 55 0 = some (0, false, 1) := fldOf Tryz.underlying55 rfl rfl ty9.1 ty9.2.1 ty9.2.2.1
@[simp] theorem fl55_1 : fldT Tryz.prog 55 1 = some (1, false, 1) := fldOf Tryz.underlying55 rfl rfl ty53.1 ty53.2.1 ty53.2.2.1
@[simp] theorem ts57 : structT Tryz.prog 57 = true := structOf Tryz.underlying57 (by simp [in2, in44, in45, in46, in47, in48, in49, in50, in51, in52, in55])
@[simp] theorem fl57_0 : fldT Tryz.prog 57 0 = some (0, false, 1) := fldOf Tryz.underlying57 rfl rfl ty44.1 ty44.2.1 ty44.2.2.1
@[simp] theorem fl57_1 : fldT Tryz.prog 57 1 = some (1, false, 1) := fldOf Tryz.underlying57 rfl rfl ty45.1 ty45.2.1 ty45.2.2.1
@[simp] theorem fl57_2 : fldT Tryz.prog 57 2 = some (2, false, 1) := fldOf Tryz.underlying57 rfl rfl ty46.1 ty46.2.1 ty46.2.2.1
@[simp] theorem fl57_3 : fldT Tryz.prog 57 3 = some (3, false, 1) := fldOf Tryz.underlying57 rfl rfl ty47.1 ty47.2.1 ty47.2.2.1
@[simp] theorem fl57_4 : fldT Tryz.prog 57 4 = some (4, true, 3) := fldOf Tryz.underlying57 rfl rfl ty48.1 ty48.2.1 ty48.2.2.1
@[simp] theorem fl57_5 : fldT Tryz.prog 57 5 = some (7, false, 1) := fldOf Tryz.underlying57 rfl rfl ty49.1 ty49.2.1 ty49.2.2.1
@[simp] theorem fl57_6 : fldT Tryz.prog 57 6 = some (8, false, 1) := fldOf Tryz.underlying57 rfl rfl ty2.1 ty2.2.1 ty2.2.2.1
@[simp] theorem fl57_7 : fldT Tryz.prog 57 7 = some (9, true, 5) := fldOf Tryz.underlying57 rfl rfl ty50.1 ty50.2.1 ty50.2.2.1
@[simp] theorem fl57_8 : fldT Tryz.prog 57 8 = some (14, false, 1) := fldOf Tryz.underlying57 rfl rfl ty51.1 ty51.2.1 ty51.2.2.1
@[simp] theorem fl57_9 : fldT Tryz.prog 57 9 = some (15, false, 1) := fldOf Tryz.underlying57 rfl rfl ty2.1 ty2.2.1 ty2.2.2.1
@[simp] theorem fl57_10 : fldT Tryz.prog 57 10 = some (16, false, 1) := fldOf Tryz.underlying57 rfl rfl ty2.1 ty2.2.1 ty2.2.2.1
@[simp] theorem fl57_11 : fldT Tryz.prog 57 11 = some (17, false, 1) := fldOf Tryz.underlying57 rfl rfl ty52.1 ty52.2.1 ty52.2.2.1
@[simp] theorem fl57_12 : fldT Tryz.prog 57 12 = some (18, true, 2) := fldOf Tryz.underlying57 rfl rfl ty55.1 ty55.2.1 ty55.2.2.1
@[simp] theorem ts61 : structT Tryz.prog 61 = true := structOf Tryz.underlying61 (by simp [in57, in58, in59])
@[simp] theorem fl61_0 : fldT Tryz.prog 61 0 = some (0, true, 20) := fldOf Tryz.underlying61 rfl rfl ty57.1 ty57.2.1 ty57.2.2.1
@[simp] theorem fl61_1 : fldT Tryz.prog 61 1 = some (20, false, 1) := fldOf Tryz.underlying61 rfl rfl ty58.1 ty58.2.1 ty58.2.2.1
@[simp] theorem fl61_2 : fldT Tryz.prog 61 2 = some (21, false, 1) := fldOf Tryz.underlying61 rfl rfl ty59.1 ty59.2.1 ty59.2.2.1
@[simp] theorem ts81 : structT Tryz.prog 81 = true := structOf Tryz.underlying81 (by simp [in2])
@[simp] theorem fl81_0 : fldT Tryz.prog 81 0 = some (0, false, 1) := fldOf Tryz.underlying81 rfl rfl ty2.1 ty2.2.1 ty2.2.2.1
@[simp] theorem fl81_1 : fldT Tryz.prog 81 1 = some (1, false, 1) := fldOf Tryz.underlying81 rfl rfl ty2.1 ty2.2.1 ty2.2.2.1
@[simp] theorem fl81_2 : fldT Tryz.prog 81 2 = some (2, false, 1) := fldOf Tryz.underlying81 rfl rfl ty2.1 ty2.2.1 ty2.2.2.1
@[simp] theorem ts83 : structT Tryz.prog 83 = true := structOf Tryz.underlying83 (by simp [in2, in81, in9])
@[simp] theorem fl83_0 : fldT Tryz.prog 83 0 = some (0, false, 1) := fldOf Tryz.underlying83 rfl rfl ty9.1 ty9.2.1 ty9.2.2.1
@[simp] theorem fl83_1 : fldT Tryz.prog 83 1 = some (1, false, 1) := fldOf Tryz.underlying83 rfl rfl ty2.1 ty2.2.1 ty2.2.2.1
@[simp] theorem fl83_2 : fldT Tryz.prog 83 2 = some (2, true, 3) := fldOf Tryz.underlying83 rfl rfl ty81.1 ty81.2.1 ty81.2.2.1
@[simp] theorem ts88 : structT Tryz.prog 88 = true := structOf Tryz.underlying88 (by simp [in2, in9])
@[simp] theorem fl88_0 : fldT Tryz.prog 88 0 = some (0, false, 1) := fldOf Tryz.underlying88 rfl rfl ty9.1 ty9.2.1 ty9.2.2.1
@[simp] theorem fl88_1 : fldT Tryz.prog 88 1 = some (1, false, 1) := fldOf Tryz.underlying88 rfl rfl ty2.1 ty2.2.1 ty2.2.2.1
@[simp] theorem fl88_2 : fldT Tryz.prog 88 2 = some (2, false, 1) := fldOf Tryz.underlying88 rfl rfl ty2.1 ty2.2.1 ty2.2.2.1
@[simp] theorem fl88_3 : fldT Tryz.prog 88 3 = some (3, false, 1) := fldOf Tryz.underlying88 rfl rfl ty2.1 ty2.2.1 ty2.2.2.1
@[simp] theorem fl88_4 : fldT Tryz.prog 88 4 = some (4, false, 1) := fldOf Tryz.underlying88 rfl rfl ty2.1 ty2.2.1 ty2.2.2.1
@[simp] theorem ts91 : structT Tryz.prog 91 = true := structOf Tryz.underlying91 (by simp [in2, in9])
@[simp] theorem fl91_0 : fldT Tryz.prog 91 0 = some (0, false, 1) := fldOf Tryz.underlying91 rfl rfl ty9.1 ty9.2.1 ty9.2.2.1
@[simp] theorem fl91_1 : fldT Tryz.prog 91 1 = some (1, false, 1) := fldOf Tryz.underlying91 rfl rfl ty2.1 ty2.2.1 ty2.2.2.1
@[simp] theorem fl91_2 : fldT Tryz.prog 91 2 = some (2, false, 1) := fldOf Tryz.underlying91 rfl rfl ty2.1 ty2.2.1 ty2.2.2.1
@[simp] theorem fl91_3 : fldT Tryz.prog 91 3 = some (3, false, 1) := fldOf Tryz.underlying91 rfl rfl ty2.1 ty2.2.1 ty2.2.2.1
@[simp] theorem fl91_4 : fldT Tryz.prog 91 4 = some (4, false, 1) := fldOf Tryz.underlying91 rfl rfl ty2.1 ty2.2.1 ty2.2.2.1
@[simp] theorem ts95 : structT Tryz.prog 95 = true := structOf Tryz.underlying95 (by simp [in2, in9, in93])
@[simp] theorem fl95_0 : fldT Tryz.prog 95 0 = some (0, false, 1) := fldOf Tryz.underlying95 rfl rfl ty9.1 ty9.2.1 ty9.2.2.1
@[simp] theorem fl95_1 : fldT Tryz.prog 95 1 = some (1, false, 1) := fldOf Tryz.underlying95 rfl rfl ty2.1 ty2.2.1 ty2.2.2.1
@[simp] theorem fl95_2 : fldT Tryz.prog 95 2 = some (2, false, 1) := fldOf Tryz.underlying95 rfl rfl ty2.1 ty2.2.1 ty2.2.2.1
@[simp] theorem fl95_3 : fldT Tryz.prog 95 3 = some (3, false, 1) := fldOf Tryz.underlying95 rfl rfl ty2.1 ty2.2.1 ty2.2.2.1
@[simp] theorem fl95_4 : fldT Tryz.prog 95 4 = some (4, false, 1) := fldOf Tryz.underlying95 rfl rfl ty2.1 ty2.2.1 ty2.2.2.1
@[simp] theorem fl95_5 : fldT Tryz.prog 95 5 = some (5, false, 1) := fldOf Tryz.underlying95 rfl rfl ty93.1 ty93.2.1 ty93.2.2.1
@[simp] theorem ts100 : structT Tryz.prog 100 = true := structOf Tryz.underlying100 (by simp [in2, in98])
@[simp] theorem fl100_0 : fldT Tryz.prog 100 0 = some (0, false, 1) := fldOf Tryz.underlying100 rfl rfl ty2.1 ty2.2.1 ty2.2.2.1
@[simp] theorem fl100_1 : fldT Tryz.prog 100 1 = some (1, false, 1) := fldOf Tryz.underlying100 rfl rfl ty98.1 ty98.2.1 ty98.2.2.1
@[simp] theorem fl100_2 : fldT Tryz.prog 100 2 = some (2, false, 1) := fldOf Tryz.underlying100 rfl rfl ty2.1 ty2.2.1 ty2.2.2.1
@[simp] theorem fl100_3 : fldT Tryz.prog 100 3 = some (3, false, 1) := fldOf Tryz.underlying100 rfl rfl ty2.1 ty2.2.1 ty2.2.2.1
@[simp] theorem ts145 : structT Tryz.prog 145 = true := structOf Tryz.underlying145 (by simp [in2, in9])
@[simp] theorem fl145_0 : fldT Tryz.prog 145 0 = some (0, false, 1) := fldOf Tryz.underlying145 rfl rfl ty9.1 ty9.2.1 ty9.2.2.1
@[simp] theorem fl145_1 : fldT Tryz.prog 145 1 = some (1, false, 1) := fldOf Tryz.underlying145 rfl rfl ty2.1 ty2.2.1 ty2.2.2.1
@[simp] theorem fl145_2 : fldT Tryz.prog 145 2 = some (2, false, 1) := fldOf Tryz.underlying145 rfl rfl ty2.1 ty2.2.1 ty2.2.2.1
@[simp] theorem fl145_3 : fldT Tryz.prog 145 3 = some (3, false, 1) := fldOf Tryz.underlying145 rfl rfl ty2.1 ty2.2.1 ty2.2.2.1
@[simp] theorem fl145_4 : fldT Tryz.prog 145 4 = some (4, false, 1) := fldOf Tryz.underlying145 rfl rfl ty2.1 ty2.2.1 ty2.2.2.1
@[simp] theorem ts148 : structT Tryz.prog 148 = true := structOf Tryz.underlying148 (by simp [in2, in9])
@[simp] theorem fl148_0 : fldT Tryz.prog 148 0 = some (0, false, 1) := fldOf Tryz.underlying148 rfl rfl ty2.1 ty2.2.1 ty2.2.2.1
@[simp] theorem fl148_1 : fldT Tryz.prog 148 1 = some (1, false, 1) := fldOf Tryz.underlying148 rfl rfl ty9.1 ty9.2.1 ty9.2.2.1
@[simp] theorem fl148_2 : fldT Tryz.prog 148 2 = some (2, false, 1) := fldOf Tryz.underlying148 rfl rfl ty9.1 ty9.2.1 ty9.2.2.1
@[simp] theorem ts151 : structT Tryz.prog 151 = true := structOf Tryz.underlying151 (by simp [in2, in9])
@[simp] theorem fl151_0 : fldT Tryz.prog 151 0 = some (0, false, 1) := fldOf Tryz.underlying151 rfl rfl ty9.1 ty9.2.1 ty9.2.2.1
@[simp] theorem fl151_1 : fldT Tryz.prog 151 1 = some (1, false, 1) := fldOf Tryz.underlying151 rfl rfl ty2.1 ty2.2.1 ty2.2.2.1
@[simp] theorem fl151_2 : fldT Tryz.prog 151 2 = some (2, false, 1) := fldOf Tryz.underlying151 rfl rfl ty2.1 ty2.2.1 ty2.2.2.1
@[simp] theorem fl151_3 : fldT Tryz.prog 151 3 = some (3, false, 1) := fldOf Tryz.underlying151 rfl rfl ty2.1 ty2.2.1 ty2.2.2.1
@[simp] theorem fl151_4 : fldT Tryz.prog 151 4 = some (4, false, 1) := fldOf Tryz.underlying151 rfl rfl ty2.1 ty2.2.1 ty2.2.2.1
@[simp] theorem ts152 : structT Tryz.prog 152 = true := structOf Tryz.underlying152 (by simp [in2, in9])
@[simp] theorem fl152_0 : fldT Tryz.prog 152 0 = some (0, false, 1) := fldOf Tryz.underlying152 rfl rfl ty2.1 ty2.2.1 ty2.2.2.1
@[simp] theorem fl152_1 : fldT Tryz.prog 152 1 = some (1, false, 1) := fldOf Tryz.underlying152 rfl rfl ty9.1 ty9.2.1 ty9.2.2.1
@[simp] theorem fl152_2 : fldT Tryz.prog 152 2 = some (2, false, 1) := fldOf Tryz.underlying152 rfl rfl ty9.1 ty9.2.1 ty9.2.2.1
@[simp] theorem ts158 : structT Tryz.prog 158 = true := structOf Tryz.underlying158 (by simp [in156, in2, in9])
@[simp] theorem fl158_0 : fldT Tryz.prog 158 0 = some (0, false, 1) := fldOf Tryz.underlying158 rfl rfl ty9.1 ty9.2.1 ty9.2.2.1
@[simp] theorem fl158_1 : fldT Tryz.prog 158 1 = some (1, false, 1) := fldOf Tryz.underlying158 rfl rfl ty156.1 ty156.2.1 ty156.2.2.1
@[simp] theorem fl158_2 : fldT Tryz.prog 158 2 = some (2, false, 1) := fldOf Tryz.underlying158 rfl rfl ty2.1 ty2.2.1 ty2.2.2.1
@[simp] theorem ts164 : structT Tryz.prog 164 = true := structOf Tryz.underlying164 (by simp [in162, in2, in9])
@[simp] theorem fl164_0 : fldT Tryz.prog 164 0 = some (0, false, 1) := fldOf Tryz.underlying164 rfl rfl ty9.1 ty9.2.1 ty9.2.2.1
@[simp] theorem fl164_1 : fldT Tryz.prog 164 1 = some (1, false, 1) := fldOf Tryz.underlying164 rfl rfl ty2.1 ty2.2.1 ty2.2.2.1
@[simp] theorem fl164_2 : fldT Tryz.prog 164 2 = some (2, false, 1) := fldOf Tryz.underlying164 rfl rfl ty2.1 ty2.2.1 ty2.2.2.1
@[simp] theorem fl164_3 : fldT Tryz.prog 164 3 = some (3, false, 1) := fldOf Tryz.underlying164 rfl rfl ty2.1 ty2.2.1 ty2.2.2.1
@[simp] theorem fl164_4 : fldT Tryz.prog 164 4 = some (4, false, 1) := fldOf Tryz.underlying164 rfl rfl ty162.1 ty162.2.1 ty162.2.2.1
@[simp] theorem ts168 : structT Tryz.prog 168 = true := structOf Tryz.underlying168 (by simp [in2])
@[simp] theorem fl168_0 : fldT Tryz.prog 168 0 = some (0, false, 1) := fldOf Tryz.underlying168 rfl rfl ty2.1 ty2.2.1 ty2.2.2.1
@[simp] theorem fl168_1 : fldT Tryz.prog 168 1 = some (1, false, 1) := fldOf Tryz.underlying168 rfl rfl ty2.1 ty2.2.1 ty2.2.2.1
@[simp] theorem ts171 : structT Tryz.prog 171 = true := structOf Tryz.underlying171 (by simp [in2])
@[simp] theorem fl171_0 : fldT Tryz.prog 171 0 = some (0, false, 1) := fldOf Tryz.underlying171 rfl rfl ty2.1 ty2.2.1 ty2.2.2.1
@[simp] theorem fl171_1 : fldT Tryz.prog 171 1 = some (1, false, 1) := fldOf Tryz.underlying171 rfl rfl ty2.1 ty2.2.1 ty2.2.2.1
@[simp] theorem ts174 : structT Tryz.prog 174 = true := structOf Tryz.underlying174 (by simp [in2])
@[simp] theorem fl174_0 : fldT Tryz.prog 174 0 = some (0, false, 1) := fldOf Tryz.underlying174 rfl rfl ty2.1 ty2.2.1 ty2.2.2.1
@[simp] theorem fl174_1 : fldT Tryz.prog 174 1 = some (1, false, 1) := fldOf Tryz.underlying174 rfl rfl ty2.1 ty2.2.1 ty2.2.2.1
@[simp] theorem fl174_2 : fldT Tryz.prog 174 2 = some (2, false, 1) := fldOf Tryz.underlying174 rfl rfl ty2.1 ty2.2.1 ty2.2.2.1
@[simp] theorem ts178 : structT Tryz.prog 178 = true := structOf Tryz.underlying178 (by simp [in2])
@[simp] theorem fl178_0 : fldT Tryz.prog 178 0 = some (0, false, 1) := fldOf Tryz.underlying178 rfl rfl ty2.1 ty2.2.1 ty2.2.2.1
@[simp] theorem fl178_1 : fldT Tryz.prog 178 1 = some (1, false, 1) := fldOf Tryz.underlying178 rfl rfl ty2.1 ty2.2.1 ty2.2.2.1
@[simp] theorem fl178_2 : fldT Tryz.prog 178 2 = some (2, false, 1) := fldOf Tryz.underlying178 rfl rfl ty2.1 ty2.2.1 ty2.2.2.1
@[simp] theorem ts180 : structT Tryz.prog 180 = true := structOf Tryz.underlying180 (by simp [in178, in2, in9])
@[simp] theorem fl180_0 : fldT Tryz.prog 180 0 = some (0, false, 1) := fldOf Tryz.underlying180 rfl rfl ty9.1 ty9.2.1 ty9.2.2.1
@[simp] theorem fl180_1 : fldT Tryz.prog 180 1 = some (1, false, 1) := fldOf Tryz.underlying180 rfl rfl ty2.1 ty2.2.1 ty2.2.2.1
@[simp] theorem fl180_2 : fldT Tryz.prog 180 2 = some (2, true, 3) := fldOf Tryz.underlying180 rfl rfl ty178.1 ty178.2.1 ty178.2.2.1
@[simp] theorem ts182 : structT Tryz.prog 182 = true := structOf Tryz.underlying182 (by simp [in156, in2, in9])
@[simp] theorem fl182_0 : fldT Tryz.prog 182 0 = some (0, false, 1) := fldOf Tryz.underlying182 rfl rfl ty9.1 ty9.2.1 ty9.2.2.1
@[simp] theorem fl182_1 : fldT Tryz.prog 182 1 = some (1, false, 1) := fldOf Tryz.underlying182 rfl rfl ty156.1 ty156.2.1 ty156.2.2.1
@[simp] theorem fl182_2 : fldT Tryz.prog 182 2 = some (2, false, 1) := fldOf Tryz.underlying182 rfl rfl ty2.1 ty2.2.1 ty2.2.2.1
@[simp] theorem ts186 : structT Tryz.prog 186 = true := structOf Tryz.underlying186 (by simp [in184, in2, in9])
@[simp] theorem fl186_0 : fldT Tryz.prog 186 0 = some (0, false, 1) := fldOf Tryz.underlying186 rfl rfl ty9.1 ty9.2.1 ty9.2.2.1
@[simp] theorem fl186_1 : fldT Tryz.prog 186 1 = some (1, false, 1) := fldOf Tryz.underlying186 rfl rfl ty2.1 ty2.2.1 ty2.2.2.1
@[simp] theorem fl186_2 : fldT Tryz.prog 186 2 = some (2, false, 1) := fldOf Tryz.underlying186 rfl rfl ty2.1 ty2.2.1 ty2.2.2.1
@[simp] theorem fl186_3 : fldT Tryz.prog 186 3 = some (3, false, 1) := fldOf Tryz.underlying186 rfl rfl ty2.1 ty2.2.1 ty2.2.2.1
@[simp] theorem fl186_4 : fldT Tryz.prog 186 4 = some (4, false, 1) := fldOf Tryz.underlying186 rfl rfl ty184.1 ty184.2.1 ty184.2.2.1
@[simp] theorem ts188 : structT Tryz.prog 188 = true := structOf Tryz.underlying188 (by simp [in2, in9])
@[simp] theorem fl188_0 : fldT Tryz.prog 188 0 = some (0, false, 1) := fldOf Tryz.underlying188 rfl rfl ty9.1 ty9.2.1 ty9.2.2.1
@[simp] theorem fl188_1 : fldT Tryz.prog 188 1 = some (1, false, 1) := fldOf Tryz.underlying188 rfl rfl ty2.1 ty2.2.1 ty2.2.2.1
@[simp] theorem fl188_2 : fldT Tryz.prog 188 2 = some (2, false, 1) := fldOf Tryz.underlying188 rfl rfl ty2.1 ty2.2.1 ty2.2.2.1
@[simp] theorem fl188_3 : fldT Tryz.prog 188 3 = some (3, false, 1) := fldOf Tryz.underlying188 rfl rfl ty2.1 ty2.2.1 ty2.2.2.1
@[simp] theorem fl188_4 : fldT Tryz.prog 188 4 = some (4, false, 1) := fldOf Tryz.underlying188 rfl rfl ty2.1 ty2.2.1 ty2.2.2.1
@[simp] theorem ts190 : structT Tryz.prog 190 = true := structOf Tryz.underlying190 (by simp [in2, in9])
@[simp] theorem fl190_0 : fldT Tryz.prog 190 0 = some (0, false, 1) := fldOf Tryz.underlying190 rfl rfl ty9.1 ty9.2.1 ty9.2.2.1
@[simp] theorem fl190_1 : fldT Tryz.prog 190 1 = some (1, false, 1) := fldOf Tryz.underlying190 rfl rfl ty2.1 ty2.2.1 ty2.2.2.1
@[simp] theorem fl190_2 : fldT Tryz.prog 190 2 = some (2, false, 1) := fldOf Tryz.underlying190 rfl rfl ty2.1 ty2.2.1 ty2.2.2.1
@[simp] theorem fl190_3 : fldT Tryz.prog 190 3 = some (3, false, 1) := fldOf Tryz.underlying190 rfl rfl ty2.1 ty2.2.1 ty2.2.2.1
@[simp] theorem fl190_4 : fldT Tryz.prog 190 4 = some (4, false, 1) := fldOf Tryz.underlying190 rfl rfl ty2.1 ty2.2.1 ty2.2.2.1
@[simp] theorem ts194 : structT Tryz.prog 194 = true := structOf Tryz.underlying194 (by simp [in192, in2, in9])
@[simp] theorem fl194_0 : fldT Tryz.prog 194 0 = some (0, false, 1) := fldOf Tryz.underlying194 rfl rfl ty9.1 ty9.2.1 ty9.2.2.1
@[simp] theorem fl194_1 : fldT Tryz.prog 194 1 = some (1, false, 1) := fldOf Tryz.underlying194 rfl rfl ty2.1 ty2.2.1 ty2.2.2.1
@[simp] theorem fl194_2 : fldT Tryz.prog 194 2 = some (2, false, 1) := fldOf Tryz.underlying194 rfl rfl ty2.1 ty2.2.1 ty2.2.2.1
@[simp] theorem fl194_3 : fldT Tryz.prog 194 3 = some (3, false, 1) := fldOf Tryz.underlying194 rfl rfl ty2.1 ty2.2.1 ty2.2.2.1
@[simp] theorem fl194_4 : fldT Tryz.prog 194 4 = some (4, false, 1) := fldOf Tryz.underlying194 rfl rfl ty2.1 ty2.2.1 ty2.2.2.1
@[simp] theorem fl194_5 : fldT Tryz.prog 194 5 = some (5, false, 1) := fldOf Tryz.underlying194 rfl rfl ty192.1 ty192.2.1 ty192.2.2.1
@[simp] theorem ts198 : structT Tryz.prog 198 = true := structOf Tryz.underlying198 (by simp [in196, in2])
@[simp] theorem fl198_0 : fldT Tryz.prog 198 0 = some (0, false, 1) := fldOf Tryz.underlying198 rfl rfl ty2.1 ty2.2.1 ty2.2.2.1
@[simp] theorem fl198_1 : fldT Tryz.prog 198 1 = some (1, false, 1) := fldOf Tryz.underlying198 rfl rfl ty196.1 ty196.2.1 ty196.2.2.1
@[simp] theorem fl198_2 : fldT Tryz.prog 198 2 = some (2, false, 1) := fldOf Tryz.underlying198 rfl rfl ty2.1 ty2.2.1 ty2.2.2.1
@[simp] theorem fl198_3 : fldT Tryz.prog 198 3 = some (3, false, 1) := fldOf Tryz.underlying198 rfl rfl ty2.1 ty2.2.1 ty2.2.2.1
@[simp] theorem ts238 : structT Tryz.prog 238 = true := structOf Tryz.underlying238 (by simp [in2, in9])
@[simp] theorem fl238_0 : fldT Tryz.prog 238 0 = some (0, false, 1) := fldOf Tryz.underlying238 rfl rfl ty9.1 ty9.2.1 ty9.2.2.1
@[simp] theorem fl238_1 : fldT Tryz.prog 238 1 = some (1, false, 1) := fldOf Tryz.underlying238 rfl rfl ty2.1 ty2.2.1 ty2.2.2.1
@[simp] theorem ts264 : structT Tryz.prog 264 = true := structOf Tryz.underlying264 (by simp [in2])
@[simp] theorem fl264_0 : fldT Tryz.prog 264 0 = some (0, false, 1) := fldOf Tryz.underlying264 rfl rfl ty2.1 ty2.2.1 ty2.2.2.1
@[simp] theorem fl264_1 : fldT Tryz.prog 264 1 = some (1, false, 1) := fldOf Tryz.underlying264 rfl rfl ty2.1 ty2.2.1 ty2.2.2.1
@[simp] theorem fl264_2 : fldT Tryz.prog 264 2 = some (2, false, 1) := fldOf Tryz.underlying264 rfl rfl ty2.1 ty2.2.1 ty2.2.2.1
@[simp] theorem ts289 : structT Tryz.prog 289 = true := structOf Tryz.underlying289 (by simp [in2, in9])
@[simp] theorem fl289_0 : fldT Tryz.prog 289 0 = some (0, false, 1) := fldOf Tryz.underlying289 rfl rfl ty9.1 ty9.2.1 ty9.2.2.1
@[simp] theorem fl289_1 : fldT Tryz.prog 289 1 = some (1, false, 1) := fldOf Tryz.underlying289 rfl rfl ty2.1 ty2.2.1 ty2.2.2.1
@[simp] theorem ts297 : structT Tryz.prog 297 = true := structOf Tryz.underlying297 (by simp [in2])
@[simp] theorem fl297_0 : fldT Tryz.prog 297 0 = some (0, false, 1) := fldOf Tryz.underlying297 rfl rfl ty2.1 ty2.2.1 ty2.2.2.1
@[simp] theorem fl297_1 : fldT Tryz.prog 297 1 = some (1, false, 1) := fldOf Tryz.underlying297 rfl rfl ty2.1 ty2.2.1 ty2.2.2.1
@[simp] theorem ts299 : structT Tryz.prog 299 = true := structOf Tryz.underlying299 (by simp [in2])
@[simp] theorem fl299_0 : fldT Tryz.prog 299 0 = some (0, false, 1) := fldOf Tryz.underlying299 rfl rfl ty2.1 ty2.2.1 ty2.2.2.1
@[simp] theorem fl299_1 : fldT Tryz.prog 299 1 = some (1, false, 1) := fldOf Tryz.underlying299 rfl rfl ty2.1 ty2.2.1 ty2.2.2.1
@[simp] theorem ts312 : structT Tryz.prog 312 = true := structOf Tryz.underlying312 (by simp [in9])
@[simp] theorem fl312_0 : fldT Tryz.prog 312 0 = some (0, false, 1) := fldOf Tryz.underlying312 rfl rfl ty9.1 ty9.2.1 ty9.2.2.1
@[simp] theorem fl312_1 : fldT Tryz.prog 312 1 = some (1, false, 1) := fldOf Tryz.underlying312 rfl rfl ty9.1 ty9.2.1 ty9.2.2.1
@[simp] theorem eq48 : EqT Tryz.prog 48 [1, 1, 1] := eqT_struct Tryz.underlying48 Tryz.stoodInHeld48 Tryz.eqGuardType48 (by simp [fieldsOk])
@[simp] theorem eq50 : EqT Tryz.prog 50 [3, 1, 1, 1, 1] := eqT_struct Tryz.underlying50 Tryz.stoodInHeld50 Tryz.eqGuardType50 (by simp [fieldsOk])
@[simp] theorem eq83 : EqT Tryz.prog 83 [3, 1, 1, 1, 1] := eqT_struct2 (ks := [.one 3, .one 1, .sub [1, 1, 1]]) Tryz.underlying83 Tryz.stoodInHeld83 Tryz.eqGuardType83 (by simp [fieldsOk2, fieldsOk, Tryz.underlying81, Tryz.stoodInHeld81]) rfl
@[simp] theorem eq88 : EqT Tryz.prog 88 [3, 1, 1, 1, 1] := eqT_struct Tryz.underlying88 Tryz.stoodInHeld88 Tryz.eqGuardType88 (by simp [fieldsOk])
@[simp] theorem eq91 : EqT Tryz.prog 91 [3, 1, 1, 1, 1] := eqT_struct Tryz.underlying91 Tryz.stoodInHeld91 Tryz.eqGuardType91 (by simp [fieldsOk])
@[simp] theorem eq151 : EqT Tryz.prog 151 [3, 1, 1, 1, 1] := eqT_struct Tryz.underlying151 Tryz.stoodInHeld151 Tryz.eqGuardType151 (by simp [fieldsOk])
@[simp] theorem eq152 : EqT Tryz.prog 152 [1, 3, 3] := eqT_struct Tryz.underlying152 Tryz.stoodInHeld152 Tryz.eqGuardType152 (by simp [fieldsOk])
@[simp] theorem eq168 : EqT Tryz.prog 168 [1, 1] := eqT_struct Tryz.underlying168 Tryz.stoodInHeld168 Tryz.eqGuardType168 (by simp [fieldsOk])
@[simp] theorem eq171 : EqT Tryz.prog 171 [1, 1] := eqT_struct Tryz.underlying171 Tryz.stoodInHeld171 Tryz.eqGuardType171 (by simp [fieldsOk])
@[simp] theorem eq174 : EqT Tryz.prog 174 [1, 1, 1] := eqT_struct Tryz.underlying174 Tryz.stoodInHeld174 Tryz.eqGuardType174 (by simp [fieldsOk])
@[simp] theorem eq238 : EqT Tryz.prog 238 [3, 1] := eqT_struct Tryz.underlying238 Tryz.stoodInHeld238 Tryz.eqGuardType238 (by simp [fieldsOk])
@[simp] theorem res_3 : Tryz.f3.results.toList = [.tmp 4] := rfl
@[simp] theorem res_4 : Tryz.f4.results.toList = [.tmp 2] := rfl
@[simp] theorem res_5 : Tryz.f5.results.toList = [.tmp 2] := rfl
@[simp] theorem res_6 : Tryz.f6.results.toList = [.tmp 4] := rfl
@[simp] theorem res_7 : Tryz.f7.results.toList = [.tmp 4] := rfl
@[simp] theorem res_8 : Tryz.f8.results.toList = [.cell 2 61] := rfl
@[simp] theorem res_9 : Tryz.f9.results.toList = [.tmp 4] := rfl
@[simp] theorem res_10 : Tryz.f10.results.toList = [.tmp 4] := rfl
@[simp] theorem res_11 : Tryz.f11.results.toList = [.tmp 4] := rfl
@[simp] theorem res_12 : Tryz.f12.results.toList = [.tmp 2] := rfl
@[simp] theorem res_13 : Tryz.f13.results.toList = [.cell 2 57] := rfl
@[simp] theorem res_14 : Tryz.f14.results.toList = [.tmp 2] := rfl
@[simp] theorem res_15 : Tryz.f15.results.toList = [.tmp 4] := rfl
@[simp] theorem res_16 : Tryz.f16.results.toList = [.tmp 2] := rfl
@[simp] theorem res_17 : Tryz.f17.results.toList = [.tmp 2] := rfl
@[simp] theorem res_18 : Tryz.f18.results.toList = [.tmp 4] := rfl
@[simp] theorem res_19 : Tryz.f19.results.toList = [.tmp 4] := rfl
@[simp] theorem res_20 : Tryz.f20.results.toList = [.tmp 4] := rfl
@[simp] theorem res_21 : Tryz.f21.results.toList = [.tmp 4] := rfl
@[simp] theorem res_22 : Tryz.f22.results.toList = [.tmp 4] := rfl
@[simp] theorem res_23 : Tryz.f23.results.toList = [.tmp 2] := rfl
@[simp] theorem res_24 : Tryz.f24.results.toList = [.tmp 2] := rfl
@[simp] theorem res_25 : Tryz.f25.results.toList = [.tmp 4] := rfl
@[simp] theorem res_26 : Tryz.f26.results.toList = [.tmp 4] := rfl
@[simp] theorem res_27 : Tryz.f27.results.toList = [.tmp 4] := rfl
@[simp] theorem res_28 : Tryz.f28.results.toList = [.tmp 4] := rfl
@[simp] theorem res_29 : Tryz.f29.results.toList = [.tmp 4] := rfl
@[simp] theorem res_30 : Tryz.f30.results.toList = [.tmp 6] := rfl
@[simp] theorem res_31 : Tryz.f31.results.toList = [.tmp 4] := rfl
@[simp] theorem res_32 : Tryz.f32.results.toList = [.tmp 6] := rfl
@[simp] theorem res_33 : Tryz.f33.results.toList = [.tmp 4] := rfl
@[simp] theorem res_34 : Tryz.f34.results.toList = [.tmp 4] := rfl
@[simp] theorem res_35 : Tryz.f35.results.toList = [.tmp 4] := rfl
@[simp] theorem res_36 : Tryz.f36.results.toList = [.tmp 4] := rfl
@[simp] theorem res_37 : Tryz.f37.results.toList = [.tmp 4] := rfl
@[simp] theorem res_38 : Tryz.f38.results.toList = [.tmp 4] := rfl
@[simp] theorem res_39 : Tryz.f39.results.toList = [.tmp 4] := rfl
@[simp] theorem res_40 : Tryz.f40.results.toList = [.tmp 4] := rfl
@[simp] theorem res_41 : Tryz.f41.results.toList = [.tmp 4] := rfl
@[simp] theorem res_42 : Tryz.f42.results.toList = [.tmp 4] := rfl
@[simp] theorem res_43 : Tryz.f43.results.toList = [.tmp 4] := rfl
@[simp] theorem res_44 : Tryz.f44.results.toList = [.tmp 4] := rfl
@[simp] theorem res_45 : Tryz.f45.results.toList = [.tmp 4] := rfl
@[simp] theorem res_46 : Tryz.f46.results.toList = [.tmp 4] := rfl
@[simp] theorem res_47 : Tryz.f47.results.toList = [.tmp 4] := rfl
@[simp] theorem res_48 : Tryz.f48.results.toList = [.tmp 2] := rfl
@[simp] theorem res_49 : Tryz.f49.results.toList = [.tmp 2] := rfl
@[simp] theorem res_50 : Tryz.f50.results.toList = [.tmp 2] := rfl
@[simp] theorem res_51 : Tryz.f51.results.toList = [.tmp 2] := rfl
@[simp] theorem res_52 : Tryz.f52.results.toList = [.tmp 2] := rfl
@[simp] theorem res_53 : Tryz.f53.results.toList = [.cell 2 48] := rfl
@[simp] theorem res_54 : Tryz.f54.results.toList = [.tmp 2] := rfl
@[simp] theorem res_55 : Tryz.f55.results.toList = [.cell 2 50] := rfl
@[simp] theorem res_56 : Tryz.f56.results.toList = [.tmp 2] := rfl
@[simp] theorem res_57 : Tryz.f57.results.toList = [.tmp 2] := rfl
@[simp] theorem res_58 : Tryz.f58.results.toList = [.cell 2 55] := rfl
@[simp] theorem res_59 : Tryz.f59.results.toList = [.tmp 2] := rfl
@[simp] theorem res_60 : Tryz.f60.results.toList = [.tmp 2] := rfl
@[simp] theorem res_61 : Tryz.f61.results.toList = [.tmp 2] := rfl
@[simp] theorem res_62 : Tryz.f62.results.toList = [.tmp 2] := rfl
@[simp] theorem res_63 : Tryz.f63.results.toList = [.tmp 2] := rfl
@[simp] theorem res_64 : Tryz.f64.results.toList = [.tmp 2] := rfl
@[simp] theorem res_65 : Tryz.f65.results.toList = [.tmp 2] := rfl
@[simp] theorem res_66 : Tryz.f66.results.toList = [.tmp 2] := rfl
@[simp] theorem res_67 : Tryz.f67.results.toList = [.tmp 2] := rfl
@[simp] theorem res_68 : Tryz.f68.results.toList = [.tmp 6] := rfl
@[simp] theorem res_69 : Tryz.f69.results.toList = [.tmp 2] := rfl
@[simp] theorem res_70 : Tryz.f70.results.toList = [.tmp 2] := rfl
@[simp] theorem res_71 : Tryz.f71.results.toList = [.tmp 4] := rfl
@[simp] theorem res_72 : Tryz.f72.results.toList = [.tmp 4] := rfl
@[simp] theorem res_73 : Tryz.f73.results.toList = [.tmp 4] := rfl
@[simp] theorem res_74 : Tryz.f74.results.toList = [.tmp 4] := rfl
@[simp] theorem res_75 : Tryz.f75.results.toList = [.tmp 4] := rfl
@[simp] theorem res_76 : Tryz.f76.results.toList = [.tmp 4] := rfl
@[simp] theorem res_77 : Tryz.f77.results.toList = [.tmp 4] := rfl
@[simp] theorem res_78 : Tryz.f78.results.toList = [.tmp 4] := rfl
@[simp] theorem res_79 : Tryz.f79.results.toList = [.tmp 4] := rfl
@[simp] theorem res_80 : Tryz.f80.results.toList = [.tmp 4] := rfl
@[simp] theorem res_81 : Tryz.f81.results.toList = [.tmp 2] := rfl
@[simp] theorem res_82 : Tryz.f82.results.toList = [.tmp 2] := rfl
@[simp] theorem res_83 : Tryz.f83.results.toList = [.tmp 2] := rfl
@[simp] theorem res_84 : Tryz.f84.results.toList = [.tmp 4] := rfl
@[simp] theorem res_85 : Tryz.f85.results.toList = [.tmp 4] := rfl
@[simp] theorem res_86 : Tryz.f86.results.toList = [.tmp 4] := rfl
@[simp] theorem res_87 : Tryz.f87.results.toList = [.tmp 4] := rfl
@[simp] theorem res_88 : Tryz.f88.results.toList = [.tmp 4] := rfl
@[simp] theorem res_89 : Tryz.f89.results.toList = [.tmp 4] := rfl
@[simp] theorem res_90 : Tryz.f90.results.toList = [.tmp 4] := rfl
@[simp] theorem res_91 : Tryz.f91.results.toList = [.cell 2 151] := rfl
@[simp] theorem res_92 : Tryz.f92.results.toList = [.cell 2 152] := rfl
@[simp] theorem res_93 : Tryz.f93.results.toList = [.tmp 6] := rfl
@[simp] theorem res_94 : Tryz.f94.results.toList = [.tmp 4] := rfl
@[simp] theorem res_95 : Tryz.f95.results.toList = [.tmp 4] := rfl
@[simp] theorem res_96 : Tryz.f96.results.toList = [.tmp 6] := rfl
@[simp] theorem res_97 : Tryz.f97.results.toList = [.tmp 4] := rfl
@[simp] theorem res_98 : Tryz.f98.results.toList = [.tmp 4] := rfl
@[simp] theorem res_99 : Tryz.f99.results.toList = [.tmp 4] := rfl
@[simp] theorem res_100 : Tryz.f100.results.toList = [.tmp 4] := rfl
@[simp] theorem res_101 : Tryz.f101.results.toList = [.tmp 4] := rfl
@[simp] theorem res_102 : Tryz.f102.results.toList = [.tmp 4] := rfl
@[simp] theorem res_103 : Tryz.f103.results.toList = [.tmp 4] := rfl
@[simp] theorem res_104 : Tryz.f104.results.toList = [.tmp 4] := rfl
@[simp] theorem res_105 : Tryz.f105.results.toList = [.tmp 4] := rfl
@[simp] theorem res_106 : Tryz.f106.results.toList = [.tmp 4] := rfl
@[simp] theorem res_107 : Tryz.f107.results.toList = [.tmp 4] := rfl
@[simp] theorem res_108 : Tryz.f108.results.toList = [.tmp 4] := rfl
@[simp] theorem res_109 : Tryz.f109.results.toList = [.tmp 4] := rfl
@[simp] theorem res_110 : Tryz.f110.results.toList = [.tmp 4] := rfl
@[simp] theorem res_111 : Tryz.f111.results.toList = [.tmp 4] := rfl
@[simp] theorem res_112 : Tryz.f112.results.toList = [.tmp 4] := rfl
@[simp] theorem res_113 : Tryz.f113.results.toList = [.tmp 2] := rfl
@[simp] theorem res_114 : Tryz.f114.results.toList = [.tmp 2] := rfl
@[simp] theorem res_115 : Tryz.f115.results.toList = [.tmp 2] := rfl
@[simp] theorem res_116 : Tryz.f116.results.toList = [.tmp 2] := rfl
@[simp] theorem res_117 : Tryz.f117.results.toList = [.tmp 2] := rfl
@[simp] theorem res_118 : Tryz.f118.results.toList = [.tmp 2] := rfl
@[simp] theorem res_119 : Tryz.f119.results.toList = [.tmp 2] := rfl
@[simp] theorem res_120 : Tryz.f120.results.toList = [.tmp 2] := rfl
@[simp] theorem res_121 : Tryz.f121.results.toList = [.tmp 2] := rfl
@[simp] theorem res_122 : Tryz.f122.results.toList = [.tmp 6] := rfl
@[simp] theorem res_123 : Tryz.f123.results.toList = [.tmp 2] := rfl
@[simp] theorem res_124 : Tryz.f124.results.toList = [.tmp 2] := rfl
@[simp] theorem res_125 : Tryz.f125.results.toList = [.cell 2 83] := rfl
@[simp] theorem res_126 : Tryz.f126.results.toList = [.cell 2 158] := rfl
@[simp] theorem res_127 : Tryz.f127.results.toList = [.cell 2 164] := rfl
@[simp] theorem res_128 : Tryz.f128.results.toList = [.cell 2 88] := rfl
@[simp] theorem res_129 : Tryz.f129.results.toList = [.cell 2 91] := rfl
@[simp] theorem res_130 : Tryz.f130.results.toList = [.cell 2 95] := rfl
@[simp] theorem res_131 : Tryz.f131.results.toList = [.cell 2 100] := rfl
@[simp] theorem res_132 : Tryz.f132.results.toList = [.tmp 2] := rfl
@[simp] theorem res_133 : Tryz.f133.results.toList = [.tmp 2] := rfl
@[simp] theorem res_134 : Tryz.f134.results.toList = [.tmp 2] := rfl
@[simp] theorem res_135 : Tryz.f135.results.toList = [.tmp 4] := rfl
@[simp] theorem res_136 : Tryz.f136.results.toList = [.tmp 3] := rfl
@[simp] theorem res_137 : Tryz.f137.results.toList = [.tmp 4] := rfl
@[simp] theorem res_138 : Tryz.f138.results.toList = [.tmp 2] := rfl
@[simp] theorem res_139 : Tryz.f139.results.toList = [.tmp 2] := rfl
@[simp] theorem res_140 : Tryz.f140.results.toList = [.tmp 2] := rfl
@[simp] theorem res_141 : Tryz.f141.results.toList = [.tmp 2] := rfl
@[simp] theorem res_142 : Tryz.f142.results.toList = [.tmp 2] := rfl
@[simp] theorem res_143 : Tryz.f143.results.toList = [.tmp 2] := rfl
@[simp] theorem res_144 : Tryz.f144.results.toList = [.tmp 2] := rfl
@[simp] theorem res_145 : Tryz.f145.results.toList = [.tmp 4] := rfl
@[simp] theorem res_146 : Tryz.f146.results.toList = [.tmp 4] := rfl
@[simp] theorem res_147 : Tryz.f147.results.toList = [.tmp 4] := rfl
@[simp] theorem res_148 : Tryz.f148.results.toList = [.tmp 4] := rfl
@[simp] theorem res_149 : Tryz.f149.results.toList = [.tmp 4] := rfl
@[simp] theorem res_150 : Tryz.f150.results.toList = [.tmp 4] := rfl
@[simp] theorem res_151 : Tryz.f151.results.toList = [.tmp 4] := rfl
@[simp] theorem res_152 : Tryz.f152.results.toList = [.tmp 4] := rfl
@[simp] theorem res_153 : Tryz.f153.results.toList = [.tmp 4] := rfl
@[simp] theorem res_154 : Tryz.f154.results.toList = [.tmp 2] := rfl
@[simp] theorem res_155 : Tryz.f155.results.toList = [.tmp 2] := rfl
@[simp] theorem res_156 : Tryz.f156.results.toList = [.tmp 2] := rfl
@[simp] theorem res_157 : Tryz.f157.results.toList = [.tmp 2] := rfl
@[simp] theorem res_158 : Tryz.f158.results.toList = [.tmp 4] := rfl
@[simp] theorem res_159 : Tryz.f159.results.toList = [.tmp 4] := rfl
@[simp] theorem res_160 : Tryz.f160.results.toList = [.tmp 4] := rfl
@[simp] theorem res_161 : Tryz.f161.results.toList = [.tmp 4] := rfl
@[simp] theorem res_162 : Tryz.f162.results.toList = [.tmp 4] := rfl
@[simp] theorem res_163 : Tryz.f163.results.toList = [.tmp 4] := rfl
@[simp] theorem res_164 : Tryz.f164.results.toList = [.tmp 4] := rfl
@[simp] theorem res_165 : Tryz.f165.results.toList = [.tmp 4] := rfl
@[simp] theorem res_166 : Tryz.f166.results.toList = [.tmp 4] := rfl
@[simp] theorem res_167 : Tryz.f167.results.toList = [.tmp 4] := rfl
@[simp] theorem res_168 : Tryz.f168.results.toList = [.tmp 2] := rfl
@[simp] theorem res_169 : Tryz.f169.results.toList = [.tmp 2] := rfl
@[simp] theorem res_170 : Tryz.f170.results.toList = [.tmp 4] := rfl
@[simp] theorem res_171 : Tryz.f171.results.toList = [.tmp 2] := rfl
@[simp] theorem res_172 : Tryz.f172.results.toList = [.tmp 2] := rfl
@[simp] theorem res_173 : Tryz.f173.results.toList = [.tmp 2] := rfl
@[simp] theorem res_174 : Tryz.f174.results.toList = [.tmp 2] := rfl
@[simp] theorem res_175 : Tryz.f175.results.toList = [.tmp 2] := rfl
@[simp] theorem res_176 : Tryz.f176.results.toList = [.tmp 2] := rfl
@[simp] theorem res_177 : Tryz.f177.results.toList = [.tmp 2] := rfl
@[simp] theorem res_178 : Tryz.f178.results.toList = [.tmp 4] := rfl
@[simp] theorem res_179 : Tryz.f179.results.toList = [.cell 2 81] := rfl
@[simp] theorem res_180 : Tryz.f180.results.toList = [.tmp 2] := rfl
@[simp] theorem res_181 : Tryz.f181.results.toList = [.tmp 2] := rfl
@[simp] theorem res_182 : Tryz.f182.results.toList = [.tmp 2] := rfl
@[simp] theorem res_183 : Tryz.f183.results.toList = [.tmp 2] := rfl
@[simp] theorem res_184 : Tryz.f184.results.toList = [.cell 2 174] := rfl
@[simp] theorem res_185 : Tryz.f185.results.toList = [.tmp 2] := rfl
@[simp] theorem res_186 : Tryz.f186.results.toList = [.tmp 2] := rfl
@[simp] theorem res_187 : Tryz.f187.results.toList = [.tmp 4] := rfl
@[simp] theorem res_188 : Tryz.f188.results.toList = [.tmp 4] := rfl
@[simp] theorem res_189 : Tryz.f189.results.toList = [.tmp 3] := rfl
@[simp] theorem res_190 : Tryz.f190.results.toList = [.tmp 4] := rfl
@[simp] theorem res_191 : Tryz.f191.results.toList = [.tmp 2] := rfl
@[simp] theorem res_192 : Tryz.f192.results.toList = [.tmp 2] := rfl
@[simp] theorem res_193 : Tryz.f193.results.toList = [.tmp 4] := rfl
@[simp] theorem res_194 : Tryz.f194.results.toList = [.tmp 2] := rfl
@[simp] theorem res_195 : Tryz.f195.results.toList = [.tmp 4] := rfl
@[simp] theorem res_196 : Tryz.f196.results.toList = [.tmp 2] := rfl
@[simp] theorem res_197 : Tryz.f197.results.toList = [.tmp 2] := rfl
@[simp] theorem res_198 : Tryz.f198.results.toList = [.tmp 2] := rfl
@[simp] theorem res_199 : Tryz.f199.results.toList = [.tmp 2] := rfl
@[simp] theorem res_200 : Tryz.f200.results.toList = [.tmp 2] := rfl
@[simp] theorem res_201 : Tryz.f201.results.toList = [.tmp 4] := rfl
@[simp] theorem res_202 : Tryz.f202.results.toList = [.tmp 4] := rfl
@[simp] theorem res_203 : Tryz.f203.results.toList = [.tmp 4] := rfl
@[simp] theorem res_204 : Tryz.f204.results.toList = [.tmp 4] := rfl
@[simp] theorem res_205 : Tryz.f205.results.toList = [.tmp 4] := rfl
@[simp] theorem res_206 : Tryz.f206.results.toList = [.tmp 4] := rfl
@[simp] theorem res_207 : Tryz.f207.results.toList = [.tmp 4] := rfl
@[simp] theorem res_208 : Tryz.f208.results.toList = [.tmp 2] := rfl
@[simp] theorem res_209 : Tryz.f209.results.toList = [.tmp 2] := rfl
@[simp] theorem res_210 : Tryz.f210.results.toList = [.tmp 6] := rfl
@[simp] theorem res_211 : Tryz.f211.results.toList = [.tmp 2] := rfl
@[simp] theorem res_212 : Tryz.f212.results.toList = [.tmp 4, .tmp 5] := rfl
@[simp] theorem res_213 : Tryz.f213.results.toList = [.tmp 2] := rfl
@[simp] theorem res_214 : Tryz.f214.results.toList = [.tmp 2, .tmp 3] := rfl
@[simp] theorem res_215 : Tryz.f215.results.toList = [.tmp 4] := rfl
@[simp] theorem res_216 : Tryz.f216.results.toList = [.tmp 2] := rfl
@[simp] theorem res_217 : Tryz.f217.results.toList = [.tmp 2] := rfl
@[simp] theorem res_218 : Tryz.f218.results.toList = [.tmp 2] := rfl
@[simp] theorem res_219 : Tryz.f219.results.toList = [.tmp 4] := rfl
@[simp] theorem res_220 : Tryz.f220.results.toList = [.tmp 2] := rfl
@[simp] theorem res_221 : Tryz.f221.results.toList = [.cell 2 238] := rfl
@[simp] theorem res_222 : Tryz.f222.results.toList = [.cell 2 168] := rfl
@[simp] theorem res_223 : Tryz.f223.results.toList = [.cell 2 171] := rfl
@[simp] theorem res_224 : Tryz.f224.results.toList = [.tmp 2] := rfl
@[simp] theorem res_225 : Tryz.f225.results.toList = [.tmp 4] := rfl
@[simp] theorem res_226 : Tryz.f226.results.toList = [.tmp 4] := rfl
@[simp] theorem res_227 : Tryz.f227.results.toList = [.tmp 4] := rfl
@[simp] theorem res_228 : Tryz.f228.results.toList = [.tmp 2] := rfl
@[simp] theorem res_229 : Tryz.f229.results.toList = [.tmp 4] := rfl
@[simp] theorem res_230 : Tryz.f230.results.toList = [.tmp 4] := rfl
@[simp] theorem res_231 : Tryz.f231.results.toList = [.tmp 4] := rfl
@[simp] theorem res_232 : Tryz.f232.results.toList = [.tmp 2] := rfl
@[simp] theorem res_233 : Tryz.f233.results.toList = [.tmp 2] := rfl
@[simp] theorem res_234 : Tryz.f234.results.toList = [.tmp 4, .tmp 5] := rfl
@[simp] theorem res_235 : Tryz.f235.results.toList = [.tmp 4] := rfl
@[simp] theorem res_236 : Tryz.f236.results.toList = [.tmp 4] := rfl
@[simp] theorem res_237 : Tryz.f237.results.toList = [.tmp 2] := rfl
@[simp] theorem res_238 : Tryz.f238.results.toList = [.tmp 6, .tmp 7] := rfl
@[simp] theorem res_239 : Tryz.f239.results.toList = [.tmp 4] := rfl
@[simp] theorem res_240 : Tryz.f240.results.toList = [.tmp 4] := rfl
@[simp] theorem res_241 : Tryz.f241.results.toList = [.tmp 6] := rfl
@[simp] theorem res_242 : Tryz.f242.results.toList = [.tmp 6] := rfl
@[simp] theorem res_243 : Tryz.f243.results.toList = [.tmp 4] := rfl
@[simp] theorem res_244 : Tryz.f244.results.toList = [.tmp 4] := rfl
@[simp] theorem res_246 : Tryz.f246.results.toList = [] := rfl
@[simp] theorem res_248 : Tryz.f248.results.toList = [] := rfl
@[simp] theorem res_249 : Tryz.f249.results.toList = [] := rfl
theorem hm : Tryz.prog.follows .mixedOrders = true := by kernel_rfl
end Go.Proofs.YtnfjkfjbhdlphaaGreat
