/- Closed facts on the types of the program. Made by a program (gen_types.py). No condition. -/
import Derived.Test.YteckngloamnfdaaGreatDoorAcd
import Derived.Test.YteckngloamnfdaaGreatDoorAbz
import Derived.Test.YteckngloamnfdaaGreatDoorProg
namespace Go.Proofs.YteckngloamnfdaaGreatDoor
open Go Go.Ab
theorem in2:Tryz.prog.info? 2=some Tryz.t2:=by kernel_rfl
@[simp] theorem ty2:TyOne Tryz.prog 2 8 (some .i64) none false:=qcF in2 Tryz.underlying2 rfl rfl
@[simp] theorem tz2:TyZ Tryz.prog 2 [.int .i64 0]:=tyZ in2 rfl rfl rfl rfl
theorem in3:Tryz.prog.info? 3=some Tryz.t3:=by kernel_rfl
@[simp] theorem ty3:TyOne Tryz.prog 3 8 (some .i64) none false:=qcF in3 Tryz.underlying3 rfl rfl
@[simp] theorem tz3:TyZ Tryz.prog 3 [.int .i64 0]:=tyZ in3 rfl rfl rfl rfl
theorem in4:Tryz.prog.info? 4=some Tryz.t4:=by kernel_rfl
@[simp] theorem ty4:TyOne Tryz.prog 4 1 none none false:=qns in4 Tryz.underlying4 rfl rfl
@[simp] theorem ub4:Tryz.prog.underlying 4=some .bool:=Tryz.underlying4
@[simp] theorem tz4:TyZ Tryz.prog 4 [.bool false]:=tyZ in4 rfl rfl rfl rfl
theorem in5:Tryz.prog.info? 5=some Tryz.t5:=by kernel_rfl
@[simp] theorem ty5:TyOne Tryz.prog 5 1 (some .u8) none false:=qcF in5 Tryz.underlying5 rfl rfl
@[simp] theorem tz5:TyZ Tryz.prog 5 [.int .u8 0]:=tyZ in5 rfl rfl rfl rfl
theorem in6:Tryz.prog.info? 6=some Tryz.t6:=by kernel_rfl
@[simp] theorem ty6:TyOne Tryz.prog 6 1 (some .u8) none false:=qcF in6 Tryz.underlying6 rfl rfl
@[simp] theorem tz6:TyZ Tryz.prog 6 [.int .u8 0]:=tyZ in6 rfl rfl rfl rfl
theorem in8:Tryz.prog.info? 8=some Tryz.t8:=by kernel_rfl
@[simp] theorem ty8:TyAgg Tryz.prog 8 4 24:=qas in8 Tryz.underlying8 rfl rfl
@[simp] theorem tz8:TyZ Tryz.prog 8 [.int .i64 0, .int .i64 0, .bool false, .int .u8 0]:=tyZ in8 rfl rfl rfl rfl
theorem in9:Tryz.prog.info? 9=some Tryz.t9:=by kernel_rfl
@[simp] theorem ty9:TyOne Tryz.prog 9 16 none none true:=qhf in9 Tryz.underlying9 rfl rfl
@[simp] theorem tz9:TyZ Tryz.prog 9 [.str []]:=tyZ in9 rfl rfl rfl rfl
theorem in10:Tryz.prog.info? 10=some Tryz.t10:=by kernel_rfl
@[simp] theorem ty10:TyOne Tryz.prog 10 16 none none true:=qhf in10 Tryz.underlying10 rfl rfl
@[simp] theorem tz10:TyZ Tryz.prog 10 [.str []]:=tyZ in10 rfl rfl rfl rfl
theorem in11:Tryz.prog.info? 11=some Tryz.t11:=by kernel_rfl
@[simp] theorem ty11:TyOne Tryz.prog 11 16 none none true:=qhf in11 Tryz.underlying11 rfl rfl
@[simp] theorem tz11:TyZ Tryz.prog 11 [.str []]:=tyZ in11 rfl rfl rfl rfl
theorem in12:Tryz.prog.info? 12=some Tryz.t12:=by kernel_rfl
@[simp] theorem ty12:TyOne Tryz.prog 12 8 (some .u64) none false:=qcF in12 Tryz.underlying12 rfl rfl
@[simp] theorem tz12:TyZ Tryz.prog 12 [.int .u64 0]:=tyZ in12 rfl rfl rfl rfl
theorem in14:Tryz.prog.info? 14=some Tryz.t14:=by kernel_rfl
@[simp] theorem ty14:TyAgg Tryz.prog 14 2 24:=qas in14 Tryz.underlying14 rfl rfl
@[simp] theorem tz14:TyZ Tryz.prog 14 [.str [], .int .u64 0]:=tyZ in14 rfl rfl rfl rfl
theorem in15:Tryz.prog.info? 15=some Tryz.t15:=by kernel_rfl
@[simp] theorem ty15:TyOne Tryz.prog 15 8 none none false:=qaX in15 Tryz.underlying15 rfl rfl
@[simp] theorem tz15:TyZ Tryz.prog 15 [.raw (.pointer none)]:=tyZ in15 rfl rfl rfl rfl
theorem in16:Tryz.prog.info? 16=some Tryz.t16:=by kernel_rfl
@[simp] theorem ty16:TyOne Tryz.prog 16 8 none none false:=qaX in16 Tryz.underlying16 rfl rfl
@[simp] theorem tz16:TyZ Tryz.prog 16 [.raw (.pointer none)]:=tyZ in16 rfl rfl rfl rfl
theorem in17:Tryz.prog.info? 17=some Tryz.t17:=by kernel_rfl
@[simp] theorem ty17:TyOne Tryz.prog 17 8 none none false:=qaX in17 Tryz.underlying17 rfl rfl
@[simp] theorem tz17:TyZ Tryz.prog 17 [.raw (.pointer none)]:=tyZ in17 rfl rfl rfl rfl
theorem in19:Tryz.prog.info? 19=some Tryz.t19:=by kernel_rfl
@[simp] theorem ty19:TyAgg Tryz.prog 19 1 8:=qas in19 Tryz.underlying19 rfl rfl
@[simp] theorem tz19:TyZ Tryz.prog 19 [.raw (.pointer none)]:=tyZ in19 rfl rfl rfl rfl
theorem in22:Tryz.prog.info? 22=some Tryz.t22:=by kernel_rfl
@[simp] theorem ty22:TyOne Tryz.prog 22 24 none (some 184) false:=qaw in22 Tryz.underlying22 rfl rfl
@[simp] theorem tz22:TyZ Tryz.prog 22 [.nils]:=tyZ in22 rfl rfl rfl rfl
theorem in23:Tryz.prog.info? 23=some Tryz.t23:=by kernel_rfl
@[simp] theorem ty23:TyOne Tryz.prog 23 24 none (some 186) false:=qaw in23 Tryz.underlying23 rfl rfl
@[simp] theorem tz23:TyZ Tryz.prog 23 [.nils]:=tyZ in23 rfl rfl rfl rfl
theorem in24:Tryz.prog.info? 24=some Tryz.t24:=by kernel_rfl
@[simp] theorem ty24:TyOne Tryz.prog 24 24 none (some 190) false:=qaw in24 Tryz.underlying24 rfl rfl
@[simp] theorem tz24:TyZ Tryz.prog 24 [.nils]:=tyZ in24 rfl rfl rfl rfl
theorem in25:Tryz.prog.info? 25=some Tryz.t25:=by kernel_rfl
@[simp] theorem ty25:TyOne Tryz.prog 25 24 none (some 192) false:=qaw in25 Tryz.underlying25 rfl rfl
@[simp] theorem tz25:TyZ Tryz.prog 25 [.nils]:=tyZ in25 rfl rfl rfl rfl
theorem in27:Tryz.prog.info? 27=some Tryz.t27:=by kernel_rfl
@[simp] theorem ty27:TyAgg Tryz.prog 27 3 24:=qas in27 Tryz.underlying27 rfl rfl
@[simp] theorem tz27:TyZ Tryz.prog 27 [.int .i64 0, .int .i64 0, .int .i64 0]:=tyZ in27 rfl rfl rfl rfl
theorem in28:Tryz.prog.info? 28=some Tryz.t28:=by kernel_rfl
@[simp] theorem ty28:TyOne Tryz.prog 28 24 none (some 195) false:=qaw in28 Tryz.underlying28 rfl rfl
@[simp] theorem tz28:TyZ Tryz.prog 28 [.nils]:=tyZ in28 rfl rfl rfl rfl
theorem in30:Tryz.prog.info? 30=some Tryz.t30:=by kernel_rfl
@[simp] theorem ty30:TyAgg Tryz.prog 30 5 48:=qas in30 Tryz.underlying30 rfl rfl
@[simp] theorem tz30:TyZ Tryz.prog 30 [.str [], .int .i64 0, .int .i64 0, .int .i64 0, .int .i64 0]:=tyZ in30 rfl rfl rfl rfl
theorem in31:Tryz.prog.info? 31=some Tryz.t31:=by kernel_rfl
@[simp] theorem ty31:TyOne Tryz.prog 31 24 none (some 199) false:=qaw in31 Tryz.underlying31 rfl rfl
@[simp] theorem tz31:TyZ Tryz.prog 31 [.nils]:=tyZ in31 rfl rfl rfl rfl
theorem in32:Tryz.prog.info? 32=some Tryz.t32:=by kernel_rfl
@[simp] theorem ty32:TyOne Tryz.prog 32 24 none (some 203) false:=qaw in32 Tryz.underlying32 rfl rfl
@[simp] theorem tz32:TyZ Tryz.prog 32 [.nils]:=tyZ in32 rfl rfl rfl rfl
theorem in33:Tryz.prog.info? 33=some Tryz.t33:=by kernel_rfl
@[simp] theorem ty33:TyOne Tryz.prog 33 24 none (some 313) false:=qaw in33 Tryz.underlying33 rfl rfl
@[simp] theorem tz33:TyZ Tryz.prog 33 [.nils]:=tyZ in33 rfl rfl rfl rfl
theorem in35:Tryz.prog.info? 35=some Tryz.t35:=by kernel_rfl
@[simp] theorem ty35:TyAgg Tryz.prog 35 2 40:=qas in35 Tryz.underlying35 rfl rfl
@[simp] theorem tz35:TyZ Tryz.prog 35 [.str [], .nils]:=tyZ in35 rfl rfl rfl rfl
theorem in37:Tryz.prog.info? 37=some Tryz.t37:=by kernel_rfl
@[simp] theorem ty37:TyAgg Tryz.prog 37 20 304:=qas in37 Tryz.underlying37 rfl rfl
@[simp] theorem tz37:TyZ Tryz.prog 37 [.nils, .nils, .nils, .nils, .int .i64 0, .int .i64 0, .int .i64 0, .nils, .int .i64 0, .str [], .int .i64 0, .int .i64 0, .int .i64 0, .int .i64 0, .nils, .int .i64 0, .int .i64 0, .nils, .str [], .nils]:=tyZ in37 rfl rfl rfl rfl
theorem in38:Tryz.prog.info? 38=some Tryz.t38:=by kernel_rfl
@[simp] theorem ty38:TyOne Tryz.prog 38 24 none (some 135) false:=qaw in38 Tryz.underlying38 rfl rfl
@[simp] theorem tz38:TyZ Tryz.prog 38 [.nils]:=tyZ in38 rfl rfl rfl rfl
theorem in39:Tryz.prog.info? 39=some Tryz.t39:=by kernel_rfl
@[simp] theorem ty39:TyOne Tryz.prog 39 24 none (some 138) false:=qaw in39 Tryz.underlying39 rfl rfl
@[simp] theorem tz39:TyZ Tryz.prog 39 [.nils]:=tyZ in39 rfl rfl rfl rfl
theorem in41:Tryz.prog.info? 41=some Tryz.t41:=by kernel_rfl
@[simp] theorem ty41:TyAgg Tryz.prog 41 22 352:=qas in41 Tryz.underlying41 rfl rfl
@[simp] theorem tz41:TyZ Tryz.prog 41 [.nils, .nils, .nils, .nils, .int .i64 0, .int .i64 0, .int .i64 0, .nils, .int .i64 0, .str [], .int .i64 0, .int .i64 0, .int .i64 0, .int .i64 0, .nils, .int .i64 0, .int .i64 0, .nils, .str [], .nils, .nils, .nils]:=tyZ in41 rfl rfl rfl rfl
theorem in43:Tryz.prog.info? 43=some Tryz.t43:=by kernel_rfl
@[simp] theorem ty43:TyOne Tryz.prog 43 24 none (some 9) false:=qaw in43 Tryz.underlying43 rfl rfl
@[simp] theorem tz43:TyZ Tryz.prog 43 [.nils]:=tyZ in43 rfl rfl rfl rfl
theorem in46:Tryz.prog.info? 46=some Tryz.t46:=by kernel_rfl
@[simp] theorem ty46:TyOne Tryz.prog 46 24 none (some 93) false:=qaw in46 Tryz.underlying46 rfl rfl
@[simp] theorem tz46:TyZ Tryz.prog 46 [.nils]:=tyZ in46 rfl rfl rfl rfl
theorem in47:Tryz.prog.info? 47=some Tryz.t47:=by kernel_rfl
@[simp] theorem ty47:TyOne Tryz.prog 47 24 none (some 96) false:=qaw in47 Tryz.underlying47 rfl rfl
@[simp] theorem tz47:TyZ Tryz.prog 47 [.nils]:=tyZ in47 rfl rfl rfl rfl
theorem in48:Tryz.prog.info? 48=some Tryz.t48:=by kernel_rfl
@[simp] theorem ty48:TyOne Tryz.prog 48 24 none (some 100) false:=qaw in48 Tryz.underlying48 rfl rfl
@[simp] theorem tz48:TyZ Tryz.prog 48 [.nils]:=tyZ in48 rfl rfl rfl rfl
theorem in49:Tryz.prog.info? 49=some Tryz.t49:=by kernel_rfl
@[simp] theorem ty49:TyOne Tryz.prog 49 24 none (some 103) false:=qaw in49 Tryz.underlying49 rfl rfl
@[simp] theorem tz49:TyZ Tryz.prog 49 [.nils]:=tyZ in49 rfl rfl rfl rfl
theorem in50:Tryz.prog.info? 50=some Tryz.t50:=by kernel_rfl
@[simp] theorem ty50:TyAgg Tryz.prog 50 3 24:=qas in50 Tryz.underlying50 rfl rfl
@[simp] theorem tz50:TyZ Tryz.prog 50 [.int .i64 0, .int .i64 0, .int .i64 0]:=tyZ in50 rfl rfl rfl rfl
theorem in51:Tryz.prog.info? 51=some Tryz.t51:=by kernel_rfl
@[simp] theorem ty51:TyOne Tryz.prog 51 24 none (some 227) false:=qaw in51 Tryz.underlying51 rfl rfl
@[simp] theorem tz51:TyZ Tryz.prog 51 [.nils]:=tyZ in51 rfl rfl rfl rfl
theorem in52:Tryz.prog.info? 52=some Tryz.t52:=by kernel_rfl
@[simp] theorem ty52:TyAgg Tryz.prog 52 5 48:=qas in52 Tryz.underlying52 rfl rfl
@[simp] theorem tz52:TyZ Tryz.prog 52 [.str [], .int .i64 0, .int .i64 0, .int .i64 0, .int .i64 0]:=tyZ in52 rfl rfl rfl rfl
theorem in53:Tryz.prog.info? 53=some Tryz.t53:=by kernel_rfl
@[simp] theorem ty53:TyOne Tryz.prog 53 24 none (some 231) false:=qaw in53 Tryz.underlying53 rfl rfl
@[simp] theorem tz53:TyZ Tryz.prog 53 [.nils]:=tyZ in53 rfl rfl rfl rfl
theorem in54:Tryz.prog.info? 54=some Tryz.t54:=by kernel_rfl
@[simp] theorem ty54:TyOne Tryz.prog 54 24 none (some 107) false:=qaw in54 Tryz.underlying54 rfl rfl
@[simp] theorem tz54:TyZ Tryz.prog 54 [.nils]:=tyZ in54 rfl rfl rfl rfl
theorem in55:Tryz.prog.info? 55=some Tryz.t55:=by kernel_rfl
@[simp] theorem ty55:TyOne Tryz.prog 55 24 none (some 110) false:=qaw in55 Tryz.underlying55 rfl rfl
@[simp] theorem tz55:TyZ Tryz.prog 55 [.nils]:=tyZ in55 rfl rfl rfl rfl
theorem in57:Tryz.prog.info? 57=some Tryz.t57:=by kernel_rfl
@[simp] theorem ty57:TyAgg Tryz.prog 57 2 40:=qas in57 Tryz.underlying57 rfl rfl
@[simp] theorem tz57:TyZ Tryz.prog 57 [.str [], .nils]:=tyZ in57 rfl rfl rfl rfl
theorem in59:Tryz.prog.info? 59=some Tryz.t59:=by kernel_rfl
@[simp] theorem ty59:TyAgg Tryz.prog 59 20 304:=qas in59 Tryz.underlying59 rfl rfl
@[simp] theorem tz59:TyZ Tryz.prog 59 [.nils, .nils, .nils, .nils, .int .i64 0, .int .i64 0, .int .i64 0, .nils, .int .i64 0, .str [], .int .i64 0, .int .i64 0, .int .i64 0, .int .i64 0, .nils, .int .i64 0, .int .i64 0, .nils, .str [], .nils]:=tyZ in59 rfl rfl rfl rfl
theorem in60:Tryz.prog.info? 60=some Tryz.t60:=by kernel_rfl
@[simp] theorem ty60:TyOne Tryz.prog 60 24 none (some 113) false:=qaw in60 Tryz.underlying60 rfl rfl
@[simp] theorem tz60:TyZ Tryz.prog 60 [.nils]:=tyZ in60 rfl rfl rfl rfl
theorem in61:Tryz.prog.info? 61=some Tryz.t61:=by kernel_rfl
@[simp] theorem ty61:TyOne Tryz.prog 61 24 none (some 142) false:=qaw in61 Tryz.underlying61 rfl rfl
@[simp] theorem tz61:TyZ Tryz.prog 61 [.nils]:=tyZ in61 rfl rfl rfl rfl
theorem in63:Tryz.prog.info? 63=some Tryz.t63:=by kernel_rfl
@[simp] theorem ty63:TyAgg Tryz.prog 63 22 352:=qas in63 Tryz.underlying63 rfl rfl
@[simp] theorem tz63:TyZ Tryz.prog 63 [.nils, .nils, .nils, .nils, .int .i64 0, .int .i64 0, .int .i64 0, .nils, .int .i64 0, .str [], .int .i64 0, .int .i64 0, .int .i64 0, .int .i64 0, .nils, .int .i64 0, .int .i64 0, .nils, .str [], .nils, .nils, .nils]:=tyZ in63 rfl rfl rfl rfl
theorem in74:Tryz.prog.info? 74=some Tryz.t74:=by kernel_rfl
@[simp] theorem ty74:TyOne Tryz.prog 74 8 none none false:=qaX in74 Tryz.underlying74 rfl rfl
@[simp] theorem tz74:TyZ Tryz.prog 74 [.raw (.pointer none)]:=tyZ in74 rfl rfl rfl rfl
theorem in75:Tryz.prog.info? 75=some Tryz.t75:=by kernel_rfl
@[simp] theorem ty75:TyOne Tryz.prog 75 8 none none false:=qaX in75 Tryz.underlying75 rfl rfl
@[simp] theorem tz75:TyZ Tryz.prog 75 [.raw (.pointer none)]:=tyZ in75 rfl rfl rfl rfl
theorem in76:Tryz.prog.info? 76=some Tryz.t76:=by kernel_rfl
@[simp] theorem ty76:TyOne Tryz.prog 76 24 none (some 2) false:=qaw in76 Tryz.underlying76 rfl rfl
@[simp] theorem tz76:TyZ Tryz.prog 76 [.nils]:=tyZ in76 rfl rfl rfl rfl
theorem in79:Tryz.prog.info? 79=some Tryz.t79:=by kernel_rfl
@[simp] theorem ty79:TyOne Tryz.prog 79 24 none (some 117) false:=qaw in79 Tryz.underlying79 rfl rfl
@[simp] theorem tz79:TyZ Tryz.prog 79 [.nils]:=tyZ in79 rfl rfl rfl rfl
theorem in82:Tryz.prog.info? 82=some Tryz.t82:=by kernel_rfl
@[simp] theorem ty82:TyOne Tryz.prog 82 24 none (some 3) false:=qaw in82 Tryz.underlying82 rfl rfl
@[simp] theorem tz82:TyZ Tryz.prog 82 [.nils]:=tyZ in82 rfl rfl rfl rfl
theorem in91:Tryz.prog.info? 91=some Tryz.t91:=by kernel_rfl
@[simp] theorem ty91:TyAgg Tryz.prog 91 3 24:=qas in91 Tryz.underlying91 rfl rfl
@[simp] theorem tz91:TyZ Tryz.prog 91 [.int .i64 0, .int .i64 0, .int .i64 0]:=tyZ in91 rfl rfl rfl rfl
theorem in93:Tryz.prog.info? 93=some Tryz.t93:=by kernel_rfl
@[simp] theorem ty93:TyAgg Tryz.prog 93 5 48:=qas in93 Tryz.underlying93 rfl rfl
@[simp] theorem tz93:TyZ Tryz.prog 93 [.str [], .int .i64 0, .int .i64 0, .int .i64 0, .int .i64 0]:=tyZ in93 rfl rfl rfl rfl
theorem in96:Tryz.prog.info? 96=some Tryz.t96:=by kernel_rfl
@[simp] theorem ty96:TyAgg Tryz.prog 96 3 48:=qas in96 Tryz.underlying96 rfl rfl
@[simp] theorem tz96:TyZ Tryz.prog 96 [.str [], .nils, .int .i64 0]:=tyZ in96 rfl rfl rfl rfl
theorem in98:Tryz.prog.info? 98=some Tryz.t98:=by kernel_rfl
@[simp] theorem ty98:TyOne Tryz.prog 98 24 none (some 351) false:=qaw in98 Tryz.underlying98 rfl rfl
@[simp] theorem tz98:TyZ Tryz.prog 98 [.nils]:=tyZ in98 rfl rfl rfl rfl
theorem in100:Tryz.prog.info? 100=some Tryz.t100:=by kernel_rfl
@[simp] theorem ty100:TyAgg Tryz.prog 100 5 64:=qas in100 Tryz.underlying100 rfl rfl
@[simp] theorem tz100:TyZ Tryz.prog 100 [.str [], .int .i64 0, .int .i64 0, .int .i64 0, .nils]:=tyZ in100 rfl rfl rfl rfl
theorem in103:Tryz.prog.info? 103=some Tryz.t103:=by kernel_rfl
@[simp] theorem ty103:TyAgg Tryz.prog 103 5 48:=qas in103 Tryz.underlying103 rfl rfl
@[simp] theorem tz103:TyZ Tryz.prog 103 [.str [], .int .i64 0, .int .i64 0, .int .i64 0, .int .i64 0]:=tyZ in103 rfl rfl rfl rfl
theorem in105:Tryz.prog.info? 105=some Tryz.t105:=by kernel_rfl
@[simp] theorem ty105:TyOne Tryz.prog 105 24 none (some 353) false:=qaw in105 Tryz.underlying105 rfl rfl
@[simp] theorem tz105:TyZ Tryz.prog 105 [.nils]:=tyZ in105 rfl rfl rfl rfl
theorem in107:Tryz.prog.info? 107=some Tryz.t107:=by kernel_rfl
@[simp] theorem ty107:TyAgg Tryz.prog 107 4 48:=qas in107 Tryz.underlying107 rfl rfl
@[simp] theorem tz107:TyZ Tryz.prog 107 [.int .i64 0, .nils, .int .i64 0, .int .i64 0]:=tyZ in107 rfl rfl rfl rfl
theorem in110:Tryz.prog.info? 110=some Tryz.t110:=by kernel_rfl
@[simp] theorem ty110:TyAgg Tryz.prog 110 3 24:=qas in110 Tryz.underlying110 rfl rfl
@[simp] theorem tz110:TyZ Tryz.prog 110 [.int .i64 0, .int .i64 0, .int .i64 0]:=tyZ in110 rfl rfl rfl rfl
theorem in113:Tryz.prog.info? 113=some Tryz.t113:=by kernel_rfl
@[simp] theorem ty113:TyAgg Tryz.prog 113 5 48:=qas in113 Tryz.underlying113 rfl rfl
@[simp] theorem tz113:TyZ Tryz.prog 113 [.str [], .int .i64 0, .int .i64 0, .int .i64 0, .int .i64 0]:=tyZ in113 rfl rfl rfl rfl
theorem in117:Tryz.prog.info? 117=some Tryz.t117:=by kernel_rfl
@[simp] theorem ty117:TyAgg Tryz.prog 117 3 40:=qas in117 Tryz.underlying117 rfl rfl
@[simp] theorem tz117:TyZ Tryz.prog 117 [.int .i64 0, .str [], .str []]:=tyZ in117 rfl rfl rfl rfl
theorem in135:Tryz.prog.info? 135=some Tryz.t135:=by kernel_rfl
@[simp] theorem ty135:TyAgg Tryz.prog 135 5 48:=qas in135 Tryz.underlying135 rfl rfl
@[simp] theorem tz135:TyZ Tryz.prog 135 [.str [], .int .i64 0, .int .i64 0, .int .i64 0, .int .i64 0]:=tyZ in135 rfl rfl rfl rfl
theorem in138:Tryz.prog.info? 138=some Tryz.t138:=by kernel_rfl
@[simp] theorem ty138:TyAgg Tryz.prog 138 3 40:=qas in138 Tryz.underlying138 rfl rfl
@[simp] theorem tz138:TyZ Tryz.prog 138 [.int .i64 0, .str [], .str []]:=tyZ in138 rfl rfl rfl rfl
theorem in142:Tryz.prog.info? 142=some Tryz.t142:=by kernel_rfl
@[simp] theorem ty142:TyAgg Tryz.prog 142 3 40:=qas in142 Tryz.underlying142 rfl rfl
@[simp] theorem tz142:TyZ Tryz.prog 142 [.int .i64 0, .str [], .str []]:=tyZ in142 rfl rfl rfl rfl
theorem in144:Tryz.prog.info? 144=some Tryz.t144:=by kernel_rfl
@[simp] theorem ty144:TyOne Tryz.prog 144 24 none (some 5) false:=qaw in144 Tryz.underlying144 rfl rfl
@[simp] theorem tz144:TyZ Tryz.prog 144 [.nils]:=tyZ in144 rfl rfl rfl rfl
theorem in159:Tryz.prog.info? 159=some Tryz.t159:=by kernel_rfl
@[simp] theorem ty159:TyOne Tryz.prog 159 8 none none false:=qb8 in159 Tryz.underlying159 rfl rfl
@[simp] theorem tz159:TyZ Tryz.prog 159 [.raw .nilFunc]:=tyZ in159 rfl rfl rfl rfl
theorem in182:Tryz.prog.info? 182=some Tryz.t182:=by kernel_rfl
@[simp] theorem ty182:TyAgg Tryz.prog 182 3 24:=qas in182 Tryz.underlying182 rfl rfl
@[simp] theorem tz182:TyZ Tryz.prog 182 [.int .i64 0, .int .i64 0, .int .i64 0]:=tyZ in182 rfl rfl rfl rfl
theorem in184:Tryz.prog.info? 184=some Tryz.t184:=by kernel_rfl
@[simp] theorem ty184:TyAgg Tryz.prog 184 5 48:=qas in184 Tryz.underlying184 rfl rfl
@[simp] theorem tz184:TyZ Tryz.prog 184 [.str [], .int .i64 0, .int .i64 0, .int .i64 0, .int .i64 0]:=tyZ in184 rfl rfl rfl rfl
theorem in186:Tryz.prog.info? 186=some Tryz.t186:=by kernel_rfl
@[simp] theorem ty186:TyAgg Tryz.prog 186 3 48:=qas in186 Tryz.underlying186 rfl rfl
@[simp] theorem tz186:TyZ Tryz.prog 186 [.str [], .nils, .int .i64 0]:=tyZ in186 rfl rfl rfl rfl
theorem in188:Tryz.prog.info? 188=some Tryz.t188:=by kernel_rfl
@[simp] theorem ty188:TyOne Tryz.prog 188 24 none (some 355) false:=qaw in188 Tryz.underlying188 rfl rfl
@[simp] theorem tz188:TyZ Tryz.prog 188 [.nils]:=tyZ in188 rfl rfl rfl rfl
theorem in190:Tryz.prog.info? 190=some Tryz.t190:=by kernel_rfl
@[simp] theorem ty190:TyAgg Tryz.prog 190 5 64:=qas in190 Tryz.underlying190 rfl rfl
@[simp] theorem tz190:TyZ Tryz.prog 190 [.str [], .int .i64 0, .int .i64 0, .int .i64 0, .nils]:=tyZ in190 rfl rfl rfl rfl
theorem in192:Tryz.prog.info? 192=some Tryz.t192:=by kernel_rfl
@[simp] theorem ty192:TyAgg Tryz.prog 192 5 48:=qas in192 Tryz.underlying192 rfl rfl
@[simp] theorem tz192:TyZ Tryz.prog 192 [.str [], .int .i64 0, .int .i64 0, .int .i64 0, .int .i64 0]:=tyZ in192 rfl rfl rfl rfl
theorem in195:Tryz.prog.info? 195=some Tryz.t195:=by kernel_rfl
@[simp] theorem ty195:TyAgg Tryz.prog 195 5 48:=qas in195 Tryz.underlying195 rfl rfl
@[simp] theorem tz195:TyZ Tryz.prog 195 [.str [], .int .i64 0, .int .i64 0, .int .i64 0, .int .i64 0]:=tyZ in195 rfl rfl rfl rfl
theorem in197:Tryz.prog.info? 197=some Tryz.t197:=by kernel_rfl
@[simp] theorem ty197:TyOne Tryz.prog 197 24 none (some 374) false:=qaw in197 Tryz.underlying197 rfl rfl
@[simp] theorem tz197:TyZ Tryz.prog 197 [.nils]:=tyZ in197 rfl rfl rfl rfl
theorem in199:Tryz.prog.info? 199=some Tryz.t199:=by kernel_rfl
@[simp] theorem ty199:TyAgg Tryz.prog 199 6 72:=qas in199 Tryz.underlying199 rfl rfl
@[simp] theorem tz199:TyZ Tryz.prog 199 [.str [], .int .i64 0, .int .i64 0, .int .i64 0, .int .i64 0, .nils]:=tyZ in199 rfl rfl rfl rfl
theorem in201:Tryz.prog.info? 201=some Tryz.t201:=by kernel_rfl
@[simp] theorem ty201:TyOne Tryz.prog 201 24 none (some 376) false:=qaw in201 Tryz.underlying201 rfl rfl
@[simp] theorem tz201:TyZ Tryz.prog 201 [.nils]:=tyZ in201 rfl rfl rfl rfl
theorem in203:Tryz.prog.info? 203=some Tryz.t203:=by kernel_rfl
@[simp] theorem ty203:TyAgg Tryz.prog 203 4 48:=qas in203 Tryz.underlying203 rfl rfl
@[simp] theorem tz203:TyZ Tryz.prog 203 [.int .i64 0, .nils, .int .i64 0, .int .i64 0]:=tyZ in203 rfl rfl rfl rfl
theorem in210:Tryz.prog.info? 210=some Tryz.t210:=by kernel_rfl
@[simp] theorem ty210:TyOne Tryz.prog 210 8 none none false:=qaX in210 Tryz.underlying210 rfl rfl
@[simp] theorem tz210:TyZ Tryz.prog 210 [.raw (.pointer none)]:=tyZ in210 rfl rfl rfl rfl
theorem in214:Tryz.prog.info? 214=some Tryz.t214:=by kernel_rfl
@[simp] theorem ty214:TyOne Tryz.prog 214 8 none none false:=qaX in214 Tryz.underlying214 rfl rfl
@[simp] theorem tz214:TyZ Tryz.prog 214 [.raw (.pointer none)]:=tyZ in214 rfl rfl rfl rfl
theorem in219:Tryz.prog.info? 219=some Tryz.t219:=by kernel_rfl
@[simp] theorem ty219:TyOne Tryz.prog 219 8 none none false:=qaX in219 Tryz.underlying219 rfl rfl
@[simp] theorem tz219:TyZ Tryz.prog 219 [.raw (.pointer none)]:=tyZ in219 rfl rfl rfl rfl
theorem in221:Tryz.prog.info? 221=some Tryz.t221:=by kernel_rfl
@[simp] theorem ty221:TyOne Tryz.prog 221 8 none none false:=qaX in221 Tryz.underlying221 rfl rfl
@[simp] theorem tz221:TyZ Tryz.prog 221 [.raw (.pointer none)]:=tyZ in221 rfl rfl rfl rfl
theorem in227:Tryz.prog.info? 227=some Tryz.t227:=by kernel_rfl
@[simp] theorem ty227:TyAgg Tryz.prog 227 5 48:=qas in227 Tryz.underlying227 rfl rfl
@[simp] theorem tz227:TyZ Tryz.prog 227 [.str [], .int .i64 0, .int .i64 0, .int .i64 0, .int .i64 0]:=tyZ in227 rfl rfl rfl rfl
theorem in229:Tryz.prog.info? 229=some Tryz.t229:=by kernel_rfl
@[simp] theorem ty229:TyOne Tryz.prog 229 24 none (some 335) false:=qaw in229 Tryz.underlying229 rfl rfl
@[simp] theorem tz229:TyZ Tryz.prog 229 [.nils]:=tyZ in229 rfl rfl rfl rfl
theorem in231:Tryz.prog.info? 231=some Tryz.t231:=by kernel_rfl
@[simp] theorem ty231:TyAgg Tryz.prog 231 6 72:=qas in231 Tryz.underlying231 rfl rfl
@[simp] theorem tz231:TyZ Tryz.prog 231 [.str [], .int .i64 0, .int .i64 0, .int .i64 0, .int .i64 0, .nils]:=tyZ in231 rfl rfl rfl rfl
theorem in241:Tryz.prog.info? 241=some Tryz.t241:=by kernel_rfl
@[simp] theorem ty241:TyOne Tryz.prog 241 24 none (some 159) false:=qaw in241 Tryz.underlying241 rfl rfl
@[simp] theorem tz241:TyZ Tryz.prog 241 [.nils]:=tyZ in241 rfl rfl rfl rfl
theorem in244:Tryz.prog.info? 244=some Tryz.t244:=by kernel_rfl
@[simp] theorem ty244:TyOne Tryz.prog 244 8 none none false:=qb8 in244 Tryz.underlying244 rfl rfl
@[simp] theorem tz244:TyZ Tryz.prog 244 [.raw .nilFunc]:=tyZ in244 rfl rfl rfl rfl
theorem in246:Tryz.prog.info? 246=some Tryz.t246:=by kernel_rfl
@[simp] theorem ty246:TyOne Tryz.prog 246 8 none none false:=qb8 in246 Tryz.underlying246 rfl rfl
@[simp] theorem tz246:TyZ Tryz.prog 246 [.raw .nilFunc]:=tyZ in246 rfl rfl rfl rfl
theorem in249:Tryz.prog.info? 249=some Tryz.t249:=by kernel_rfl
@[simp] theorem ty249:TyOne Tryz.prog 249 24 none (some 76) false:=qaw in249 Tryz.underlying249 rfl rfl
@[simp] theorem tz249:TyZ Tryz.prog 249 [.nils]:=tyZ in249 rfl rfl rfl rfl
theorem in251:Tryz.prog.info? 251=some Tryz.t251:=by kernel_rfl
@[simp] theorem ty251:TyOne Tryz.prog 251 24 none (some 367) false:=qaw in251 Tryz.underlying251 rfl rfl
@[simp] theorem tz251:TyZ Tryz.prog 251 [.nils]:=tyZ in251 rfl rfl rfl rfl
theorem in257:Tryz.prog.info? 257=some Tryz.t257:=by kernel_rfl
@[simp] theorem ty257:TyOne Tryz.prog 257 8 none none false:=qb8 in257 Tryz.underlying257 rfl rfl
@[simp] theorem tz257:TyZ Tryz.prog 257 [.raw .nilFunc]:=tyZ in257 rfl rfl rfl rfl
theorem in277:Tryz.prog.info? 277=some Tryz.t277:=by kernel_rfl
@[simp] theorem ty277:TyOne Tryz.prog 277 8 none none false:=qaX in277 Tryz.underlying277 rfl rfl
@[simp] theorem tz277:TyZ Tryz.prog 277 [.raw (.pointer none)]:=tyZ in277 rfl rfl rfl rfl
theorem in279:Tryz.prog.info? 279=some Tryz.t279:=by kernel_rfl
@[simp] theorem ty279:TyOne Tryz.prog 279 8 none none false:=qaX in279 Tryz.underlying279 rfl rfl
@[simp] theorem tz279:TyZ Tryz.prog 279 [.raw (.pointer none)]:=tyZ in279 rfl rfl rfl rfl
theorem in282:Tryz.prog.info? 282=some Tryz.t282:=by kernel_rfl
@[simp] theorem ty282:TyOne Tryz.prog 282 8 none none false:=qaX in282 Tryz.underlying282 rfl rfl
@[simp] theorem tz282:TyZ Tryz.prog 282 [.raw (.pointer none)]:=tyZ in282 rfl rfl rfl rfl
theorem in284:Tryz.prog.info? 284=some Tryz.t284:=by kernel_rfl
@[simp] theorem ty284:TyOne Tryz.prog 284 8 none none false:=qaX in284 Tryz.underlying284 rfl rfl
@[simp] theorem tz284:TyZ Tryz.prog 284 [.raw (.pointer none)]:=tyZ in284 rfl rfl rfl rfl
theorem in286:Tryz.prog.info? 286=some Tryz.t286:=by kernel_rfl
@[simp] theorem ty286:TyOne Tryz.prog 286 8 none none false:=qaX in286 Tryz.underlying286 rfl rfl
@[simp] theorem tz286:TyZ Tryz.prog 286 [.raw (.pointer none)]:=tyZ in286 rfl rfl rfl rfl
theorem in287:Tryz.prog.info? 287=some Tryz.t287:=by kernel_rfl
@[simp] theorem ty287:TyOne Tryz.prog 287 8 none none false:=qb8 in287 Tryz.underlying287 rfl rfl
@[simp] theorem tz287:TyZ Tryz.prog 287 [.raw .nilFunc]:=tyZ in287 rfl rfl rfl rfl
theorem in289:Tryz.prog.info? 289=some Tryz.t289:=by kernel_rfl
@[simp] theorem ty289:TyOne Tryz.prog 289 8 none none false:=qaX in289 Tryz.underlying289 rfl rfl
@[simp] theorem tz289:TyZ Tryz.prog 289 [.raw (.pointer none)]:=tyZ in289 rfl rfl rfl rfl
theorem in291:Tryz.prog.info? 291=some Tryz.t291:=by kernel_rfl
@[simp] theorem ty291:TyOne Tryz.prog 291 8 none none false:=qaX in291 Tryz.underlying291 rfl rfl
@[simp] theorem tz291:TyZ Tryz.prog 291 [.raw (.pointer none)]:=tyZ in291 rfl rfl rfl rfl
theorem in293:Tryz.prog.info? 293=some Tryz.t293:=by kernel_rfl
@[simp] theorem ty293:TyOne Tryz.prog 293 8 none none false:=qaX in293 Tryz.underlying293 rfl rfl
@[simp] theorem tz293:TyZ Tryz.prog 293 [.raw (.pointer none)]:=tyZ in293 rfl rfl rfl rfl
theorem in296:Tryz.prog.info? 296=some Tryz.t296:=by kernel_rfl
@[simp] theorem ty296:TyOne Tryz.prog 296 8 none none false:=qaX in296 Tryz.underlying296 rfl rfl
@[simp] theorem tz296:TyZ Tryz.prog 296 [.raw (.pointer none)]:=tyZ in296 rfl rfl rfl rfl
theorem in297:Tryz.prog.info? 297=some Tryz.t297:=by kernel_rfl
@[simp] theorem ty297:TyOne Tryz.prog 297 24 none (some 300) false:=qaw in297 Tryz.underlying297 rfl rfl
@[simp] theorem tz297:TyZ Tryz.prog 297 [.nils]:=tyZ in297 rfl rfl rfl rfl
theorem in300:Tryz.prog.info? 300=some Tryz.t300:=by kernel_rfl
@[simp] theorem ty300:TyAgg Tryz.prog 300 2 32:=qas in300 Tryz.underlying300 rfl rfl
@[simp] theorem tz300:TyZ Tryz.prog 300 [.str [], .str []]:=tyZ in300 rfl rfl rfl rfl
theorem in313:Tryz.prog.info? 313=some Tryz.t313:=by kernel_rfl
@[simp] theorem ty313:TyAgg Tryz.prog 313 3 24:=qas in313 Tryz.underlying313 rfl rfl
@[simp] theorem tz313:TyZ Tryz.prog 313 [.int .i64 0, .int .i64 0, .int .i64 0]:=tyZ in313 rfl rfl rfl rfl
theorem in315:Tryz.prog.info? 315=some Tryz.t315:=by kernel_rfl
@[simp] theorem ty315:TyOne Tryz.prog 315 8 none none false:=qb8 in315 Tryz.underlying315 rfl rfl
@[simp] theorem tz315:TyZ Tryz.prog 315 [.raw .nilFunc]:=tyZ in315 rfl rfl rfl rfl
theorem in319:Tryz.prog.info? 319=some Tryz.t319:=by kernel_rfl
@[simp] theorem ty319:TyOne Tryz.prog 319 8 none none false:=qb8 in319 Tryz.underlying319 rfl rfl
@[simp] theorem tz319:TyZ Tryz.prog 319 [.raw .nilFunc]:=tyZ in319 rfl rfl rfl rfl
theorem in335:Tryz.prog.info? 335=some Tryz.t335:=by kernel_rfl
@[simp] theorem ty335:TyAgg Tryz.prog 335 2 16:=qas in335 Tryz.underlying335 rfl rfl
@[simp] theorem tz335:TyZ Tryz.prog 335 [.int .i64 0, .int .i64 0]:=tyZ in335 rfl rfl rfl rfl
theorem in339:Tryz.prog.info? 339=some Tryz.t339:=by kernel_rfl
@[simp] theorem ty339:TyAgg Tryz.prog 339 24 24:=qeD in339 Tryz.underlying339 rfl rfl
@[simp] theorem ar339:arrT Tryz.prog 339=some (24,5):=arrOf Tryz.underlying339
@[simp] theorem tz339:TyZ Tryz.prog 339 [.int .u8 0, .int .u8 0, .int .u8 0, .int .u8 0, .int .u8 0, .int .u8 0, .int .u8 0, .int .u8 0, .int .u8 0, .int .u8 0, .int .u8 0, .int .u8 0, .int .u8 0, .int .u8 0, .int .u8 0, .int .u8 0, .int .u8 0, .int .u8 0, .int .u8 0, .int .u8 0, .int .u8 0, .int .u8 0, .int .u8 0, .int .u8 0]:=tyZ in339 rfl rfl rfl rfl
theorem in340:Tryz.prog.info? 340=some Tryz.t340:=by kernel_rfl
@[simp] theorem ty340:TyOne Tryz.prog 340 8 (some .u64) none false:=qcF in340 Tryz.underlying340 rfl rfl
@[simp] theorem tz340:TyZ Tryz.prog 340 [.int .u64 0]:=tyZ in340 rfl rfl rfl rfl
theorem in351:Tryz.prog.info? 351=some Tryz.t351:=by kernel_rfl
@[simp] theorem ty351:TyAgg Tryz.prog 351 2 24:=qas in351 Tryz.underlying351 rfl rfl
@[simp] theorem tz351:TyZ Tryz.prog 351 [.str [], .int .i64 0]:=tyZ in351 rfl rfl rfl rfl
theorem in353:Tryz.prog.info? 353=some Tryz.t353:=by kernel_rfl
@[simp] theorem ty353:TyAgg Tryz.prog 353 2 16:=qas in353 Tryz.underlying353 rfl rfl
@[simp] theorem tz353:TyZ Tryz.prog 353 [.int .i64 0, .int .i64 0]:=tyZ in353 rfl rfl rfl rfl
theorem in355:Tryz.prog.info? 355=some Tryz.t355:=by kernel_rfl
@[simp] theorem ty355:TyAgg Tryz.prog 355 2 24:=qas in355 Tryz.underlying355 rfl rfl
@[simp] theorem tz355:TyZ Tryz.prog 355 [.str [], .int .i64 0]:=tyZ in355 rfl rfl rfl rfl
theorem in357:Tryz.prog.info? 357=some Tryz.t357:=by kernel_rfl
@[simp] theorem ty357:TyOne Tryz.prog 357 8 none none false:=qaX in357 Tryz.underlying357 rfl rfl
@[simp] theorem tz357:TyZ Tryz.prog 357 [.raw (.pointer none)]:=tyZ in357 rfl rfl rfl rfl
theorem in358:Tryz.prog.info? 358=some Tryz.t358:=by kernel_rfl
@[simp] theorem ty358:TyOne Tryz.prog 358 8 none none false:=qb8 in358 Tryz.underlying358 rfl rfl
@[simp] theorem tz358:TyZ Tryz.prog 358 [.raw .nilFunc]:=tyZ in358 rfl rfl rfl rfl
theorem in360:Tryz.prog.info? 360=some Tryz.t360:=by kernel_rfl
@[simp] theorem ty360:TyOne Tryz.prog 360 8 none none false:=qaX in360 Tryz.underlying360 rfl rfl
@[simp] theorem tz360:TyZ Tryz.prog 360 [.raw (.pointer none)]:=tyZ in360 rfl rfl rfl rfl
theorem in367:Tryz.prog.info? 367=some Tryz.t367:=by kernel_rfl
@[simp] theorem ty367:TyAgg Tryz.prog 367 3 32:=qas in367 Tryz.underlying367 rfl rfl
@[simp] theorem tz367:TyZ Tryz.prog 367 [.str [], .int .i64 0, .int .i64 0]:=tyZ in367 rfl rfl rfl rfl
theorem in369:Tryz.prog.info? 369=some Tryz.t369:=by kernel_rfl
@[simp] theorem ty369:TyOne Tryz.prog 369 8 none none false:=qaX in369 Tryz.underlying369 rfl rfl
@[simp] theorem tz369:TyZ Tryz.prog 369 [.raw (.pointer none)]:=tyZ in369 rfl rfl rfl rfl
theorem in374:Tryz.prog.info? 374=some Tryz.t374:=by kernel_rfl
@[simp] theorem ty374:TyAgg Tryz.prog 374 2 16:=qas in374 Tryz.underlying374 rfl rfl
@[simp] theorem tz374:TyZ Tryz.prog 374 [.int .i64 0, .int .i64 0]:=tyZ in374 rfl rfl rfl rfl
theorem in376:Tryz.prog.info? 376=some Tryz.t376:=by kernel_rfl
@[simp] theorem ty376:TyAgg Tryz.prog 376 2 16:=qas in376 Tryz.underlying376 rfl rfl
@[simp] theorem tz376:TyZ Tryz.prog 376 [.int .i64 0, .int .i64 0]:=tyZ in376 rfl rfl rfl rfl
theorem in384:Tryz.prog.info? 384=some Tryz.t384:=by kernel_rfl
@[simp] theorem ty384:TyOne Tryz.prog 384 8 none none false:=qb8 in384 Tryz.underlying384 rfl rfl
@[simp] theorem tz384:TyZ Tryz.prog 384 [.raw .nilFunc]:=tyZ in384 rfl rfl rfl rfl
theorem in390:Tryz.prog.info? 390=some Tryz.t390:=by kernel_rfl
@[simp] theorem ty390:TyOne Tryz.prog 390 8 none none false:=qb8 in390 Tryz.underlying390 rfl rfl
@[simp] theorem tz390:TyZ Tryz.prog 390 [.raw .nilFunc]:=tyZ in390 rfl rfl rfl rfl
theorem in406:Tryz.prog.info? 406=some Tryz.t406:=by kernel_rfl
@[simp] theorem ty406:TyOne Tryz.prog 406 8 (some .u64) none false:=qcF in406 Tryz.underlying406 rfl rfl
@[simp] theorem tz406:TyZ Tryz.prog 406 [.int .u64 0]:=tyZ in406 rfl rfl rfl rfl
theorem in409:Tryz.prog.info? 409=some Tryz.t409:=by kernel_rfl
@[simp] theorem ty409:TyAgg Tryz.prog 409 20 160:=qeD in409 Tryz.underlying409 rfl rfl
@[simp] theorem ar409:arrT Tryz.prog 409=some (20,340):=arrOf Tryz.underlying409
@[simp] theorem tz409:TyZ Tryz.prog 409 [.int .u64 0, .int .u64 0, .int .u64 0, .int .u64 0, .int .u64 0, .int .u64 0, .int .u64 0, .int .u64 0, .int .u64 0, .int .u64 0, .int .u64 0, .int .u64 0, .int .u64 0, .int .u64 0, .int .u64 0, .int .u64 0, .int .u64 0, .int .u64 0, .int .u64 0, .int .u64 0]:=tyZ in409 rfl rfl rfl rfl
theorem in410:Tryz.prog.info? 410=some Tryz.t410:=by kernel_rfl
@[simp] theorem ty410:TyOne Tryz.prog 410 4 (some .u32) none false:=qcF in410 Tryz.underlying410 rfl rfl
@[simp] theorem tz410:TyZ Tryz.prog 410 [.int .u32 0]:=tyZ in410 rfl rfl rfl rfl
theorem in411:Tryz.prog.info? 411=some Tryz.t411:=by kernel_rfl
@[simp] theorem ty411:TyAgg Tryz.prog 411 65 65:=qeD in411 Tryz.underlying411 rfl rfl
@[simp] theorem ar411:arrT Tryz.prog 411=some (65,5):=arrOf Tryz.underlying411
theorem in430:Tryz.prog.info? 430=some Tryz.t430:=by kernel_rfl
@[simp] theorem ty430:TyOne Tryz.prog 430 8 none none false:=qb8 in430 Tryz.underlying430 rfl rfl
@[simp] theorem tz430:TyZ Tryz.prog 430 [.raw .nilFunc]:=tyZ in430 rfl rfl rfl rfl
theorem in433:Tryz.prog.info? 433=some Tryz.t433:=by kernel_rfl
@[simp] theorem ty433:TyOne Tryz.prog 433 8 (some .i64) none false:=qcF in433 Tryz.underlying433 rfl rfl
@[simp] theorem tz433:TyZ Tryz.prog 433 [.int .i64 0]:=tyZ in433 rfl rfl rfl rfl
theorem in448:Tryz.prog.info? 448=some Tryz.t448:=by kernel_rfl
@[simp] theorem ty448:TyOne Tryz.prog 448 8 none none false:=qb8 in448 Tryz.underlying448 rfl rfl
@[simp] theorem tz448:TyZ Tryz.prog 448 [.raw .nilFunc]:=tyZ in448 rfl rfl rfl rfl
theorem in449:Tryz.prog.info? 449=some Tryz.t449:=by kernel_rfl
@[simp] theorem ty449:TyAgg Tryz.prog 449 91 728:=qeD in449 Tryz.underlying449 rfl rfl
@[simp] theorem ar449:arrT Tryz.prog 449=some (91,2):=arrOf Tryz.underlying449
theorem in451:Tryz.prog.info? 451=some Tryz.t451:=by kernel_rfl
@[simp] theorem ty451:TyOne Tryz.prog 451 8 (some .u64) none false:=qcF in451 Tryz.underlying451 rfl rfl
@[simp] theorem tz451:TyZ Tryz.prog 451 [.int .u64 0]:=tyZ in451 rfl rfl rfl rfl
theorem in455:Tryz.prog.info? 455=some Tryz.t455:=by kernel_rfl
@[simp] theorem ty455:TyOne Tryz.prog 455 8 none none false:=qaX in455 Tryz.underlying455 rfl rfl
@[simp] theorem tz455:TyZ Tryz.prog 455 [.raw (.pointer none)]:=tyZ in455 rfl rfl rfl rfl
theorem in457:Tryz.prog.info? 457=some Tryz.t457:=by kernel_rfl
@[simp] theorem ty457:TyAgg Tryz.prog 457 32 32:=qeD in457 Tryz.underlying457 rfl rfl
@[simp] theorem ar457:arrT Tryz.prog 457=some (32,5):=arrOf Tryz.underlying457
@[simp] theorem tz457:TyZ Tryz.prog 457 [.int .u8 0, .int .u8 0, .int .u8 0, .int .u8 0, .int .u8 0, .int .u8 0, .int .u8 0, .int .u8 0, .int .u8 0, .int .u8 0, .int .u8 0, .int .u8 0, .int .u8 0, .int .u8 0, .int .u8 0, .int .u8 0, .int .u8 0, .int .u8 0, .int .u8 0, .int .u8 0, .int .u8 0, .int .u8 0, .int .u8 0, .int .u8 0, .int .u8 0, .int .u8 0, .int .u8 0, .int .u8 0, .int .u8 0, .int .u8 0, .int .u8 0, .int .u8 0]:=tyZ in457 rfl rfl rfl rfl
theorem in458:Tryz.prog.info? 458=some Tryz.t458:=by kernel_rfl
@[simp] theorem ty458:TyAgg Tryz.prog 458 64 64:=qeD in458 Tryz.underlying458 rfl rfl
@[simp] theorem ar458:arrT Tryz.prog 458=some (64,5):=arrOf Tryz.underlying458
@[simp] theorem tz458:TyZ Tryz.prog 458 [.int .u8 0, .int .u8 0, .int .u8 0, .int .u8 0, .int .u8 0, .int .u8 0, .int .u8 0, .int .u8 0, .int .u8 0, .int .u8 0, .int .u8 0, .int .u8 0, .int .u8 0, .int .u8 0, .int .u8 0, .int .u8 0, .int .u8 0, .int .u8 0, .int .u8 0, .int .u8 0, .int .u8 0, .int .u8 0, .int .u8 0, .int .u8 0, .int .u8 0, .int .u8 0, .int .u8 0, .int .u8 0, .int .u8 0, .int .u8 0, .int .u8 0, .int .u8 0, .int .u8 0, .int .u8 0, .int .u8 0, .int .u8 0, .int .u8 0, .int .u8 0, .int .u8 0, .int .u8 0, .int .u8 0, .int .u8 0, .int .u8 0, .int .u8 0, .int .u8 0, .int .u8 0, .int .u8 0, .int .u8 0, .int .u8 0, .int .u8 0, .int .u8 0, .int .u8 0, .int .u8 0, .int .u8 0, .int .u8 0, .int .u8 0, .int .u8 0, .int .u8 0, .int .u8 0, .int .u8 0, .int .u8 0, .int .u8 0, .int .u8 0, .int .u8 0]:=tyZ in458 rfl rfl rfl rfl
theorem in463:Tryz.prog.info? 463=some Tryz.t463:=by kernel_rfl
@[simp] theorem ty463:TyOne Tryz.prog 463 8 none none false:=qaX in463 Tryz.underlying463 rfl rfl
@[simp] theorem tz463:TyZ Tryz.prog 463 [.raw (.pointer none)]:=tyZ in463 rfl rfl rfl rfl
theorem in467:Tryz.prog.info? 467=some Tryz.t467:=by kernel_rfl
@[simp] theorem ty467:TyOne Tryz.prog 467 8 none none false:=qb8 in467 Tryz.underlying467 rfl rfl
@[simp] theorem tz467:TyZ Tryz.prog 467 [.raw .nilFunc]:=tyZ in467 rfl rfl rfl rfl
theorem in476:Tryz.prog.info? 476=some Tryz.t476:=by kernel_rfl
@[simp] theorem ty476:TyOne Tryz.prog 476 1 (some .u8) none false:=qcF in476 Tryz.underlying476 rfl rfl
@[simp] theorem tz476:TyZ Tryz.prog 476 [.int .u8 0]:=tyZ in476 rfl rfl rfl rfl
@[simp] theorem gv0:globV 0 = .pe 20 [powT] 0 0:=rfl
@[simp] theorem gv2:globV 2 = .pe 91 [sineT] 0 0:=rfl
@[simp] theorem ts8:qap Tryz.prog 8=true:=qat Tryz.underlying8 (by simp[in2,in3,in4,in6])
@[simp] theorem fl8_0:fldT Tryz.prog 8 0=some (0,false,1):=fldOf Tryz.underlying8 rfl rfl ty2.1 ty2.2.1 ty2.2.2.1
@[simp] theorem fl8_1:fldT Tryz.prog 8 1=some (1,false,1):=fldOf Tryz.underlying8 rfl rfl ty3.1 ty3.2.1 ty3.2.2.1
@[simp] theorem fl8_2:fldT Tryz.prog 8 2=some (2,false,1):=fldOf Tryz.underlying8 rfl rfl ty4.1 ty4.2.1 ty4.2.2.1
@[simp] theorem fl8_3:fldT Tryz.prog 8 3=some (3,false,1):=fldOf Tryz.underlying8 rfl rfl ty6.1 ty6.2.1 ty6.2.2.1
@[simp] theorem ts14:qap Tryz.prog 14=true:=qat Tryz.underlying14 (by simp[in12,in9])
@[simp] theorem qzG:fldT Tryz.prog 14 0=some (0,false,1):=fldOf Tryz.underlying14 rfl rfl ty9.1 ty9.2.1 ty9.2.2.1
@[simp] theorem qzH:fldT Tryz.prog 14 1=some (1,false,1):=fldOf Tryz.underlying14 rfl rfl ty12.1 ty12.2.1 ty12.2.2.1
@[simp] theorem ts19:qap Tryz.prog 19=true:=qat Tryz.underlying19 (by simp[in17])
@[simp] theorem qzI:fldT Tryz.prog 19 0=some (0,false,1):=fldOf Tryz.underlying19 rfl rfl ty17.1 ty17.2.1 ty17.2.2.1
@[simp] theorem ts27:qap Tryz.prog 27=true:=qat Tryz.underlying27 (by simp[in2])
@[simp] theorem qzJ:fldT Tryz.prog 27 0=some (0,false,1):=fldOf Tryz.underlying27 rfl rfl ty2.1 ty2.2.1 ty2.2.2.1
@[simp] theorem qzK:fldT Tryz.prog 27 1=some (1,false,1):=fldOf Tryz.underlying27 rfl rfl ty2.1 ty2.2.1 ty2.2.2.1
@[simp] theorem qzL:fldT Tryz.prog 27 2=some (2,false,1):=fldOf Tryz.underlying27 rfl rfl ty2.1 ty2.2.1 ty2.2.2.1
@[simp] theorem ts30:qap Tryz.prog 30=true:=qat Tryz.underlying30 (by simp[in2,in9])
@[simp] theorem qzM:fldT Tryz.prog 30 0=some (0,false,1):=fldOf Tryz.underlying30 rfl rfl ty9.1 ty9.2.1 ty9.2.2.1
@[simp] theorem qzN:fldT Tryz.prog 30 1=some (1,false,1):=fldOf Tryz.underlying30 rfl rfl ty2.1 ty2.2.1 ty2.2.2.1
@[simp] theorem qzO:fldT Tryz.prog 30 2=some (2,false,1):=fldOf Tryz.underlying30 rfl rfl ty2.1 ty2.2.1 ty2.2.2.1
@[simp] theorem qzP:fldT Tryz.prog 30 3=some (3,false,1):=fldOf Tryz.underlying30 rfl rfl ty2.1 ty2.2.1 ty2.2.2.1
@[simp] theorem qzQ:fldT Tryz.prog 30 4=some (4,false,1):=fldOf Tryz.underlying30 rfl rfl ty2.1 ty2.2.1 ty2.2.2.1
@[simp] theorem ts35:qap Tryz.prog 35=true:=qat Tryz.underlying35 (by simp[in33,in9])
@[simp] theorem qzR:fldT Tryz.prog 35 0=some (0,false,1):=fldOf Tryz.underlying35 rfl rfl ty9.1 ty9.2.1 ty9.2.2.1
@[simp] theorem qzS:fldT Tryz.prog 35 1=some (1,false,1):=fldOf Tryz.underlying35 rfl rfl ty33.1 ty33.2.1 ty33.2.2.1
@[simp] theorem ts37:qap Tryz.prog 37=true:=qat Tryz.underlying37 (by simp[in2,in22,in23,in24,in25,in27,in28,in30,in31,in32,in35])
@[simp] theorem qzT:fldT Tryz.prog 37 0=some (0,false,1):=fldOf Tryz.underlying37 rfl rfl ty22.1 ty22.2.1 ty22.2.2.1
@[simp] theorem qzU:fldT Tryz.prog 37 1=some (1,false,1):=fldOf Tryz.underlying37 rfl rfl ty23.1 ty23.2.1 ty23.2.2.1
@[simp] theorem qzV:fldT Tryz.prog 37 2=some (2,false,1):=fldOf Tryz.underlying37 rfl rfl ty24.1 ty24.2.1 ty24.2.2.1
@[simp] theorem qzW:fldT Tryz.prog 37 3=some (3,false,1):=fldOf Tryz.underlying37 rfl rfl ty25.1 ty25.2.1 ty25.2.2.1
@[simp] theorem qzX:fldT Tryz.prog 37 4=some (4,true,3):=fldOf Tryz.underlying37 rfl rfl ty27.1 ty27.2.1 ty27.2.2.1
@[simp] theorem qzY:fldT Tryz.prog 37 5=some (7,false,1):=fldOf Tryz.underlying37 rfl rfl ty28.1 ty28.2.1 ty28.2.2.1
@[simp] theorem qzZ:fldT Tryz.prog 37 6=some (8,false,1):=fldOf Tryz.underlying37 rfl rfl ty2.1 ty2.2.1 ty2.2.2.1
@[simp] theorem qz0:fldT Tryz.prog 37 7=some (9,true,5):=fldOf Tryz.underlying37 rfl rfl ty30.1 ty30.2.1 ty30.2.2.1
@[simp] theorem qz1:fldT Tryz.prog 37 8=some (14,false,1):=fldOf Tryz.underlying37 rfl rfl ty31.1 ty31.2.1 ty31.2.2.1
@[simp] theorem qz2:fldT Tryz.prog 37 9=some (15,false,1):=fldOf Tryz.underlying37 rfl rfl ty2.1 ty2.2.1 ty2.2.2.1
@[simp] theorem qz3:fldT Tryz.prog 37 10=some (16,false,1):=fldOf Tryz.underlying37 rfl rfl ty2.1 ty2.2.1 ty2.2.2.1
@[simp] theorem qz4:fldT Tryz.prog 37 11=some (17,false,1):=fldOf Tryz.underlying37 rfl rfl ty32.1 ty32.2.1 ty32.2.2.1
@[simp] theorem qz5:fldT Tryz.prog 37 12=some (18,true,2):=fldOf Tryz.underlying37 rfl rfl ty35.1 ty35.2.1 ty35.2.2.1
@[simp] theorem ts41:qap Tryz.prog 41=true:=qat Tryz.underlying41 (by simp[in37,in38,in39])
@[simp] theorem qz6:fldT Tryz.prog 41 0=some (0,true,20):=fldOf Tryz.underlying41 rfl rfl ty37.1 ty37.2.1 ty37.2.2.1
@[simp] theorem qz7:fldT Tryz.prog 41 1=some (20,false,1):=fldOf Tryz.underlying41 rfl rfl ty38.1 ty38.2.1 ty38.2.2.1
@[simp] theorem qz8:fldT Tryz.prog 41 2=some (21,false,1):=fldOf Tryz.underlying41 rfl rfl ty39.1 ty39.2.1 ty39.2.2.1
@[simp] theorem ts50:qap Tryz.prog 50=true:=qat Tryz.underlying50 (by simp[in2])
@[simp] theorem qz9:fldT Tryz.prog 50 0=some (0,false,1):=fldOf Tryz.underlying50 rfl rfl ty2.1 ty2.2.1 ty2.2.2.1
@[simp] theorem qAa:fldT Tryz.prog 50 1=some (1,false,1):=fldOf Tryz.underlying50 rfl rfl ty2.1 ty2.2.1 ty2.2.2.1
@[simp] theorem qAb:fldT Tryz.prog 50 2=some (2,false,1):=fldOf Tryz.underlying50 rfl rfl ty2.1 ty2.2.1 ty2.2.2.1
@[simp] theorem ts52:qap Tryz.prog 52=true:=qat Tryz.underlying52 (by simp[in2,in9])
@[simp] theorem qAc:fldT Tryz.prog 52 0=some (0,false,1):=fldOf Tryz.underlying52 rfl rfl ty9.1 ty9.2.1 ty9.2.2.1
@[simp] theorem qAd:fldT Tryz.prog 52 1=some (1,false,1):=fldOf Tryz.underlying52 rfl rfl ty2.1 ty2.2.1 ty2.2.2.1
@[simp] theorem qAe:fldT Tryz.prog 52 2=some (2,false,1):=fldOf Tryz.underlying52 rfl rfl ty2.1 ty2.2.1 ty2.2.2.1
@[simp] theorem qAf:fldT Tryz.prog 52 3=some (3,false,1):=fldOf Tryz.underlying52 rfl rfl ty2.1 ty2.2.1 ty2.2.2.1
@[simp] theorem qAg:fldT Tryz.prog 52 4=some (4,false,1):=fldOf Tryz.underlying52 rfl rfl ty2.1 ty2.2.1 ty2.2.2.1
@[simp] theorem ts57:qap Tryz.prog 57=true:=qat Tryz.underlying57 (by simp[in55,in9])
@[simp] theorem qAh:fldT Tryz.prog 57 0=some (0,false,1):=fldOf Tryz.underlying57 rfl rfl ty9.1 ty9.2.1 ty9.2.2.1
@[simp] theorem qAi:fldT Tryz.prog 57 1=some (1,false,1):=fldOf Tryz.underlying57 rfl rfl ty55.1 ty55.2.1 ty55.2.2.1
@[simp] theorem ts59:qap Tryz.prog 59=true:=qat Tryz.underlying59 (by simp[in2,in46,in47,in48,in49,in50,in51,in52,in53,in54,in57])
@[simp] theorem qAj:fldT Tryz.prog 59 0=some (0,false,1):=fldOf Tryz.underlying59 rfl rfl ty46.1 ty46.2.1 ty46.2.2.1
@[simp] theorem qAk:fldT Tryz.prog 59 1=some (1,false,1):=fldOf Tryz.underlying59 rfl rfl ty47.1 ty47.2.1 ty47.2.2.1
@[simp] theorem qAl:fldT Tryz.prog 59 2=some (2,false,1):=fldOf Tryz.underlying59 rfl rfl ty48.1 ty48.2.1 ty48.2.2.1
@[simp] theorem qAm:fldT Tryz.prog 59 3=some (3,false,1):=fldOf Tryz.underlying59 rfl rfl ty49.1 ty49.2.1 ty49.2.2.1
@[simp] theorem qAn:fldT Tryz.prog 59 4=some (4,true,3):=fldOf Tryz.underlying59 rfl rfl ty50.1 ty50.2.1 ty50.2.2.1
@[simp] theorem qAo:fldT Tryz.prog 59 5=some (7,false,1):=fldOf Tryz.underlying59 rfl rfl ty51.1 ty51.2.1 ty51.2.2.1
@[simp] theorem qAp:fldT Tryz.prog 59 6=some (8,false,1):=fldOf Tryz.underlying59 rfl rfl ty2.1 ty2.2.1 ty2.2.2.1
@[simp] theorem qAq:fldT Tryz.prog 59 7=some (9,true,5):=fldOf Tryz.underlying59 rfl rfl ty52.1 ty52.2.1 ty52.2.2.1
@[simp] theorem qAr:fldT Tryz.prog 59 8=some (14,false,1):=fldOf Tryz.underlying59 rfl rfl ty53.1 ty53.2.1 ty53.2.2.1
@[simp] theorem qAs:fldT Tryz.prog 59 9=some (15,false,1):=fldOf Tryz.underlying59 rfl rfl ty2.1 ty2.2.1 ty2.2.2.1
@[simp] theorem qAt:fldT Tryz.prog 59 10=some (16,false,1):=fldOf Tryz.underlying59 rfl rfl ty2.1 ty2.2.1 ty2.2.2.1
@[simp] theorem qAu:fldT Tryz.prog 59 11=some (17,false,1):=fldOf Tryz.underlying59 rfl rfl ty54.1 ty54.2.1 ty54.2.2.1
@[simp] theorem qAv:fldT Tryz.prog 59 12=some (18,true,2):=fldOf Tryz.underlying59 rfl rfl ty57.1 ty57.2.1 ty57.2.2.1
@[simp] theorem ts63:qap Tryz.prog 63=true:=qat Tryz.underlying63 (by simp[in59,in60,in61])
@[simp] theorem qAw:fldT Tryz.prog 63 0=some (0,true,20):=fldOf Tryz.underlying63 rfl rfl ty59.1 ty59.2.1 ty59.2.2.1
@[simp] theorem qAx:fldT Tryz.prog 63 1=some (20,false,1):=fldOf Tryz.underlying63 rfl rfl ty60.1 ty60.2.1 ty60.2.2.1
@[simp] theorem qAy:fldT Tryz.prog 63 2=some (21,false,1):=fldOf Tryz.underlying63 rfl rfl ty61.1 ty61.2.1 ty61.2.2.1
@[simp] theorem ts91:qap Tryz.prog 91=true:=qat Tryz.underlying91 (by simp[in2])
@[simp] theorem qAz:fldT Tryz.prog 91 0=some (0,false,1):=fldOf Tryz.underlying91 rfl rfl ty2.1 ty2.2.1 ty2.2.2.1
@[simp] theorem qAA:fldT Tryz.prog 91 1=some (1,false,1):=fldOf Tryz.underlying91 rfl rfl ty2.1 ty2.2.1 ty2.2.2.1
@[simp] theorem qAB:fldT Tryz.prog 91 2=some (2,false,1):=fldOf Tryz.underlying91 rfl rfl ty2.1 ty2.2.1 ty2.2.2.1
@[simp] theorem ts93:qap Tryz.prog 93=true:=qat Tryz.underlying93 (by simp[in2,in9,in91])
@[simp] theorem qAC:fldT Tryz.prog 93 0=some (0,false,1):=fldOf Tryz.underlying93 rfl rfl ty9.1 ty9.2.1 ty9.2.2.1
@[simp] theorem qAD:fldT Tryz.prog 93 1=some (1,false,1):=fldOf Tryz.underlying93 rfl rfl ty2.1 ty2.2.1 ty2.2.2.1
@[simp] theorem qAE:fldT Tryz.prog 93 2=some (2,true,3):=fldOf Tryz.underlying93 rfl rfl ty91.1 ty91.2.1 ty91.2.2.1
@[simp] theorem ts96:qap Tryz.prog 96=true:=qat Tryz.underlying96 (by simp[in2,in43,in9])
@[simp] theorem qAF:fldT Tryz.prog 96 0=some (0,false,1):=fldOf Tryz.underlying96 rfl rfl ty9.1 ty9.2.1 ty9.2.2.1
@[simp] theorem qAG:fldT Tryz.prog 96 1=some (1,false,1):=fldOf Tryz.underlying96 rfl rfl ty43.1 ty43.2.1 ty43.2.2.1
@[simp] theorem qAH:fldT Tryz.prog 96 2=some (2,false,1):=fldOf Tryz.underlying96 rfl rfl ty2.1 ty2.2.1 ty2.2.2.1
@[simp] theorem ts100:qap Tryz.prog 100=true:=qat Tryz.underlying100 (by simp[in2,in9,in98])
@[simp] theorem qAI:fldT Tryz.prog 100 0=some (0,false,1):=fldOf Tryz.underlying100 rfl rfl ty9.1 ty9.2.1 ty9.2.2.1
@[simp] theorem qAJ:fldT Tryz.prog 100 1=some (1,false,1):=fldOf Tryz.underlying100 rfl rfl ty2.1 ty2.2.1 ty2.2.2.1
@[simp] theorem qAK:fldT Tryz.prog 100 2=some (2,false,1):=fldOf Tryz.underlying100 rfl rfl ty2.1 ty2.2.1 ty2.2.2.1
@[simp] theorem qAL:fldT Tryz.prog 100 3=some (3,false,1):=fldOf Tryz.underlying100 rfl rfl ty2.1 ty2.2.1 ty2.2.2.1
@[simp] theorem qAM:fldT Tryz.prog 100 4=some (4,false,1):=fldOf Tryz.underlying100 rfl rfl ty98.1 ty98.2.1 ty98.2.2.1
@[simp] theorem ts103:qap Tryz.prog 103=true:=qat Tryz.underlying103 (by simp[in2,in9])
@[simp] theorem qAN:fldT Tryz.prog 103 0=some (0,false,1):=fldOf Tryz.underlying103 rfl rfl ty9.1 ty9.2.1 ty9.2.2.1
@[simp] theorem qAO:fldT Tryz.prog 103 1=some (1,false,1):=fldOf Tryz.underlying103 rfl rfl ty2.1 ty2.2.1 ty2.2.2.1
@[simp] theorem qAP:fldT Tryz.prog 103 2=some (2,false,1):=fldOf Tryz.underlying103 rfl rfl ty2.1 ty2.2.1 ty2.2.2.1
@[simp] theorem qAQ:fldT Tryz.prog 103 3=some (3,false,1):=fldOf Tryz.underlying103 rfl rfl ty2.1 ty2.2.1 ty2.2.2.1
@[simp] theorem qAR:fldT Tryz.prog 103 4=some (4,false,1):=fldOf Tryz.underlying103 rfl rfl ty2.1 ty2.2.1 ty2.2.2.1
@[simp] theorem ts107:qap Tryz.prog 107=true:=qat Tryz.underlying107 (by simp[in105,in2])
@[simp] theorem qAS:fldT Tryz.prog 107 0=some (0,false,1):=fldOf Tryz.underlying107 rfl rfl ty2.1 ty2.2.1 ty2.2.2.1
@[simp] theorem qAT:fldT Tryz.prog 107 1=some (1,false,1):=fldOf Tryz.underlying107 rfl rfl ty105.1 ty105.2.1 ty105.2.2.1
@[simp] theorem qAU:fldT Tryz.prog 107 2=some (2,false,1):=fldOf Tryz.underlying107 rfl rfl ty2.1 ty2.2.1 ty2.2.2.1
@[simp] theorem qAV:fldT Tryz.prog 107 3=some (3,false,1):=fldOf Tryz.underlying107 rfl rfl ty2.1 ty2.2.1 ty2.2.2.1
@[simp] theorem ts110:qap Tryz.prog 110=true:=qat Tryz.underlying110 (by simp[in2])
@[simp] theorem qAW:fldT Tryz.prog 110 0=some (0,false,1):=fldOf Tryz.underlying110 rfl rfl ty2.1 ty2.2.1 ty2.2.2.1
@[simp] theorem qAX:fldT Tryz.prog 110 1=some (1,false,1):=fldOf Tryz.underlying110 rfl rfl ty2.1 ty2.2.1 ty2.2.2.1
@[simp] theorem qAY:fldT Tryz.prog 110 2=some (2,false,1):=fldOf Tryz.underlying110 rfl rfl ty2.1 ty2.2.1 ty2.2.2.1
@[simp] theorem ts113:qap Tryz.prog 113=true:=qat Tryz.underlying113 (by simp[in2,in9])
@[simp] theorem qAZ:fldT Tryz.prog 113 0=some (0,false,1):=fldOf Tryz.underlying113 rfl rfl ty9.1 ty9.2.1 ty9.2.2.1
@[simp] theorem qA0:fldT Tryz.prog 113 1=some (1,false,1):=fldOf Tryz.underlying113 rfl rfl ty2.1 ty2.2.1 ty2.2.2.1
@[simp] theorem qA1:fldT Tryz.prog 113 2=some (2,false,1):=fldOf Tryz.underlying113 rfl rfl ty2.1 ty2.2.1 ty2.2.2.1
@[simp] theorem qA2:fldT Tryz.prog 113 3=some (3,false,1):=fldOf Tryz.underlying113 rfl rfl ty2.1 ty2.2.1 ty2.2.2.1
@[simp] theorem qA3:fldT Tryz.prog 113 4=some (4,false,1):=fldOf Tryz.underlying113 rfl rfl ty2.1 ty2.2.1 ty2.2.2.1
@[simp] theorem ts117:qap Tryz.prog 117=true:=qat Tryz.underlying117 (by simp[in2,in9])
@[simp] theorem qA4:fldT Tryz.prog 117 0=some (0,false,1):=fldOf Tryz.underlying117 rfl rfl ty2.1 ty2.2.1 ty2.2.2.1
@[simp] theorem qA5:fldT Tryz.prog 117 1=some (1,false,1):=fldOf Tryz.underlying117 rfl rfl ty9.1 ty9.2.1 ty9.2.2.1
@[simp] theorem qA6:fldT Tryz.prog 117 2=some (2,false,1):=fldOf Tryz.underlying117 rfl rfl ty9.1 ty9.2.1 ty9.2.2.1
@[simp] theorem ts135:qap Tryz.prog 135=true:=qat Tryz.underlying135 (by simp[in2,in9])
@[simp] theorem qA7:fldT Tryz.prog 135 0=some (0,false,1):=fldOf Tryz.underlying135 rfl rfl ty9.1 ty9.2.1 ty9.2.2.1
@[simp] theorem qA8:fldT Tryz.prog 135 1=some (1,false,1):=fldOf Tryz.underlying135 rfl rfl ty2.1 ty2.2.1 ty2.2.2.1
@[simp] theorem qA9:fldT Tryz.prog 135 2=some (2,false,1):=fldOf Tryz.underlying135 rfl rfl ty2.1 ty2.2.1 ty2.2.2.1
@[simp] theorem qBa:fldT Tryz.prog 135 3=some (3,false,1):=fldOf Tryz.underlying135 rfl rfl ty2.1 ty2.2.1 ty2.2.2.1
@[simp] theorem qBb:fldT Tryz.prog 135 4=some (4,false,1):=fldOf Tryz.underlying135 rfl rfl ty2.1 ty2.2.1 ty2.2.2.1
@[simp] theorem ts138:qap Tryz.prog 138=true:=qat Tryz.underlying138 (by simp[in2,in9])
@[simp] theorem qBc:fldT Tryz.prog 138 0=some (0,false,1):=fldOf Tryz.underlying138 rfl rfl ty2.1 ty2.2.1 ty2.2.2.1
@[simp] theorem qBd:fldT Tryz.prog 138 1=some (1,false,1):=fldOf Tryz.underlying138 rfl rfl ty9.1 ty9.2.1 ty9.2.2.1
@[simp] theorem qBe:fldT Tryz.prog 138 2=some (2,false,1):=fldOf Tryz.underlying138 rfl rfl ty9.1 ty9.2.1 ty9.2.2.1
@[simp] theorem ts142:qap Tryz.prog 142=true:=qat Tryz.underlying142 (by simp[in2,in9])
@[simp] theorem qBf:fldT Tryz.prog 142 0=some (0,false,1):=fldOf Tryz.underlying142 rfl rfl ty2.1 ty2.2.1 ty2.2.2.1
@[simp] theorem qBg:fldT Tryz.prog 142 1=some (1,false,1):=fldOf Tryz.underlying142 rfl rfl ty9.1 ty9.2.1 ty9.2.2.1
@[simp] theorem qBh:fldT Tryz.prog 142 2=some (2,false,1):=fldOf Tryz.underlying142 rfl rfl ty9.1 ty9.2.1 ty9.2.2.1
@[simp] theorem ts182:qap Tryz.prog 182=true:=qat Tryz.underlying182 (by simp[in2])
@[simp] theorem qBi:fldT Tryz.prog 182 0=some (0,false,1):=fldOf Tryz.underlying182 rfl rfl ty2.1 ty2.2.1 ty2.2.2.1
@[simp] theorem qBj:fldT Tryz.prog 182 1=some (1,false,1):=fldOf Tryz.underlying182 rfl rfl ty2.1 ty2.2.1 ty2.2.2.1
@[simp] theorem qBk:fldT Tryz.prog 182 2=some (2,false,1):=fldOf Tryz.underlying182 rfl rfl ty2.1 ty2.2.1 ty2.2.2.1
@[simp] theorem ts184:qap Tryz.prog 184=true:=qat Tryz.underlying184 (by simp[in182,in2,in9])
@[simp] theorem qBl:fldT Tryz.prog 184 0=some (0,false,1):=fldOf Tryz.underlying184 rfl rfl ty9.1 ty9.2.1 ty9.2.2.1
@[simp] theorem qBm:fldT Tryz.prog 184 1=some (1,false,1):=fldOf Tryz.underlying184 rfl rfl ty2.1 ty2.2.1 ty2.2.2.1
@[simp] theorem qBn:fldT Tryz.prog 184 2=some (2,true,3):=fldOf Tryz.underlying184 rfl rfl ty182.1 ty182.2.1 ty182.2.2.1
@[simp] theorem ts186:qap Tryz.prog 186=true:=qat Tryz.underlying186 (by simp[in2,in43,in9])
@[simp] theorem qBo:fldT Tryz.prog 186 0=some (0,false,1):=fldOf Tryz.underlying186 rfl rfl ty9.1 ty9.2.1 ty9.2.2.1
@[simp] theorem qBp:fldT Tryz.prog 186 1=some (1,false,1):=fldOf Tryz.underlying186 rfl rfl ty43.1 ty43.2.1 ty43.2.2.1
@[simp] theorem qBq:fldT Tryz.prog 186 2=some (2,false,1):=fldOf Tryz.underlying186 rfl rfl ty2.1 ty2.2.1 ty2.2.2.1
@[simp] theorem ts190:qap Tryz.prog 190=true:=qat Tryz.underlying190 (by simp[in188,in2,in9])
@[simp] theorem qBr:fldT Tryz.prog 190 0=some (0,false,1):=fldOf Tryz.underlying190 rfl rfl ty9.1 ty9.2.1 ty9.2.2.1
@[simp] theorem qBs:fldT Tryz.prog 190 1=some (1,false,1):=fldOf Tryz.underlying190 rfl rfl ty2.1 ty2.2.1 ty2.2.2.1
@[simp] theorem qBt:fldT Tryz.prog 190 2=some (2,false,1):=fldOf Tryz.underlying190 rfl rfl ty2.1 ty2.2.1 ty2.2.2.1
@[simp] theorem qBu:fldT Tryz.prog 190 3=some (3,false,1):=fldOf Tryz.underlying190 rfl rfl ty2.1 ty2.2.1 ty2.2.2.1
@[simp] theorem qBv:fldT Tryz.prog 190 4=some (4,false,1):=fldOf Tryz.underlying190 rfl rfl ty188.1 ty188.2.1 ty188.2.2.1
@[simp] theorem ts192:qap Tryz.prog 192=true:=qat Tryz.underlying192 (by simp[in2,in9])
@[simp] theorem qBw:fldT Tryz.prog 192 0=some (0,false,1):=fldOf Tryz.underlying192 rfl rfl ty9.1 ty9.2.1 ty9.2.2.1
@[simp] theorem qBx:fldT Tryz.prog 192 1=some (1,false,1):=fldOf Tryz.underlying192 rfl rfl ty2.1 ty2.2.1 ty2.2.2.1
@[simp] theorem qBy:fldT Tryz.prog 192 2=some (2,false,1):=fldOf Tryz.underlying192 rfl rfl ty2.1 ty2.2.1 ty2.2.2.1
@[simp] theorem qBz:fldT Tryz.prog 192 3=some (3,false,1):=fldOf Tryz.underlying192 rfl rfl ty2.1 ty2.2.1 ty2.2.2.1
@[simp] theorem qBA:fldT Tryz.prog 192 4=some (4,false,1):=fldOf Tryz.underlying192 rfl rfl ty2.1 ty2.2.1 ty2.2.2.1
@[simp] theorem ts195:qap Tryz.prog 195=true:=qat Tryz.underlying195 (by simp[in2,in9])
@[simp] theorem qBB:fldT Tryz.prog 195 0=some (0,false,1):=fldOf Tryz.underlying195 rfl rfl ty9.1 ty9.2.1 ty9.2.2.1
@[simp] theorem qBC:fldT Tryz.prog 195 1=some (1,false,1):=fldOf Tryz.underlying195 rfl rfl ty2.1 ty2.2.1 ty2.2.2.1
@[simp] theorem qBD:fldT Tryz.prog 195 2=some (2,false,1):=fldOf Tryz.underlying195 rfl rfl ty2.1 ty2.2.1 ty2.2.2.1
@[simp] theorem qBE:fldT Tryz.prog 195 3=some (3,false,1):=fldOf Tryz.underlying195 rfl rfl ty2.1 ty2.2.1 ty2.2.2.1
@[simp] theorem qBF:fldT Tryz.prog 195 4=some (4,false,1):=fldOf Tryz.underlying195 rfl rfl ty2.1 ty2.2.1 ty2.2.2.1
@[simp] theorem ts199:qap Tryz.prog 199=true:=qat Tryz.underlying199 (by simp[in197,in2,in9])
@[simp] theorem qBG:fldT Tryz.prog 199 0=some (0,false,1):=fldOf Tryz.underlying199 rfl rfl ty9.1 ty9.2.1 ty9.2.2.1
@[simp] theorem qBH:fldT Tryz.prog 199 1=some (1,false,1):=fldOf Tryz.underlying199 rfl rfl ty2.1 ty2.2.1 ty2.2.2.1
@[simp] theorem qBI:fldT Tryz.prog 199 2=some (2,false,1):=fldOf Tryz.underlying199 rfl rfl ty2.1 ty2.2.1 ty2.2.2.1
@[simp] theorem qBJ:fldT Tryz.prog 199 3=some (3,false,1):=fldOf Tryz.underlying199 rfl rfl ty2.1 ty2.2.1 ty2.2.2.1
@[simp] theorem qBK:fldT Tryz.prog 199 4=some (4,false,1):=fldOf Tryz.underlying199 rfl rfl ty2.1 ty2.2.1 ty2.2.2.1
@[simp] theorem qBL:fldT Tryz.prog 199 5=some (5,false,1):=fldOf Tryz.underlying199 rfl rfl ty197.1 ty197.2.1 ty197.2.2.1
@[simp] theorem ts203:qap Tryz.prog 203=true:=qat Tryz.underlying203 (by simp[in2,in201])
@[simp] theorem qBM:fldT Tryz.prog 203 0=some (0,false,1):=fldOf Tryz.underlying203 rfl rfl ty2.1 ty2.2.1 ty2.2.2.1
@[simp] theorem qBN:fldT Tryz.prog 203 1=some (1,false,1):=fldOf Tryz.underlying203 rfl rfl ty201.1 ty201.2.1 ty201.2.2.1
@[simp] theorem qBO:fldT Tryz.prog 203 2=some (2,false,1):=fldOf Tryz.underlying203 rfl rfl ty2.1 ty2.2.1 ty2.2.2.1
@[simp] theorem qBP:fldT Tryz.prog 203 3=some (3,false,1):=fldOf Tryz.underlying203 rfl rfl ty2.1 ty2.2.1 ty2.2.2.1
@[simp] theorem ts227:qap Tryz.prog 227=true:=qat Tryz.underlying227 (by simp[in2,in9])
@[simp] theorem qBQ:fldT Tryz.prog 227 0=some (0,false,1):=fldOf Tryz.underlying227 rfl rfl ty9.1 ty9.2.1 ty9.2.2.1
@[simp] theorem qBR:fldT Tryz.prog 227 1=some (1,false,1):=fldOf Tryz.underlying227 rfl rfl ty2.1 ty2.2.1 ty2.2.2.1
@[simp] theorem qBS:fldT Tryz.prog 227 2=some (2,false,1):=fldOf Tryz.underlying227 rfl rfl ty2.1 ty2.2.1 ty2.2.2.1
@[simp] theorem qBT:fldT Tryz.prog 227 3=some (3,false,1):=fldOf Tryz.underlying227 rfl rfl ty2.1 ty2.2.1 ty2.2.2.1
@[simp] theorem qBU:fldT Tryz.prog 227 4=some (4,false,1):=fldOf Tryz.underlying227 rfl rfl ty2.1 ty2.2.1 ty2.2.2.1
@[simp] theorem ts231:qap Tryz.prog 231=true:=qat Tryz.underlying231 (by simp[in2,in229,in9])
@[simp] theorem qBV:fldT Tryz.prog 231 0=some (0,false,1):=fldOf Tryz.underlying231 rfl rfl ty9.1 ty9.2.1 ty9.2.2.1
@[simp] theorem qBW:fldT Tryz.prog 231 1=some (1,false,1):=fldOf Tryz.underlying231 rfl rfl ty2.1 ty2.2.1 ty2.2.2.1
@[simp] theorem qBX:fldT Tryz.prog 231 2=some (2,false,1):=fldOf Tryz.underlying231 rfl rfl ty2.1 ty2.2.1 ty2.2.2.1
@[simp] theorem qBY:fldT Tryz.prog 231 3=some (3,false,1):=fldOf Tryz.underlying231 rfl rfl ty2.1 ty2.2.1 ty2.2.2.1
@[simp] theorem qBZ:fldT Tryz.prog 231 4=some (4,false,1):=fldOf Tryz.underlying231 rfl rfl ty2.1 ty2.2.1 ty2.2.2.1
@[simp] theorem qB0:fldT Tryz.prog 231 5=some (5,false,1):=fldOf Tryz.underlying231 rfl rfl ty229.1 ty229.2.1 ty229.2.2.1
@[simp] theorem ts300:qap Tryz.prog 300=true:=qat Tryz.underlying300 (by simp[in9])
@[simp] theorem qB1:fldT Tryz.prog 300 0=some (0,false,1):=fldOf Tryz.underlying300 rfl rfl ty9.1 ty9.2.1 ty9.2.2.1
@[simp] theorem qB2:fldT Tryz.prog 300 1=some (1,false,1):=fldOf Tryz.underlying300 rfl rfl ty9.1 ty9.2.1 ty9.2.2.1
@[simp] theorem ts313:qap Tryz.prog 313=true:=qat Tryz.underlying313 (by simp[in2])
@[simp] theorem qB3:fldT Tryz.prog 313 0=some (0,false,1):=fldOf Tryz.underlying313 rfl rfl ty2.1 ty2.2.1 ty2.2.2.1
@[simp] theorem qB4:fldT Tryz.prog 313 1=some (1,false,1):=fldOf Tryz.underlying313 rfl rfl ty2.1 ty2.2.1 ty2.2.2.1
@[simp] theorem qB5:fldT Tryz.prog 313 2=some (2,false,1):=fldOf Tryz.underlying313 rfl rfl ty2.1 ty2.2.1 ty2.2.2.1
@[simp] theorem ts335:qap Tryz.prog 335=true:=qat Tryz.underlying335 (by simp[in2])
@[simp] theorem qB6:fldT Tryz.prog 335 0=some (0,false,1):=fldOf Tryz.underlying335 rfl rfl ty2.1 ty2.2.1 ty2.2.2.1
@[simp] theorem qB7:fldT Tryz.prog 335 1=some (1,false,1):=fldOf Tryz.underlying335 rfl rfl ty2.1 ty2.2.1 ty2.2.2.1
@[simp] theorem ts351:qap Tryz.prog 351=true:=qat Tryz.underlying351 (by simp[in2,in9])
@[simp] theorem qB8:fldT Tryz.prog 351 0=some (0,false,1):=fldOf Tryz.underlying351 rfl rfl ty9.1 ty9.2.1 ty9.2.2.1
@[simp] theorem qB9:fldT Tryz.prog 351 1=some (1,false,1):=fldOf Tryz.underlying351 rfl rfl ty2.1 ty2.2.1 ty2.2.2.1
@[simp] theorem ts353:qap Tryz.prog 353=true:=qat Tryz.underlying353 (by simp[in2])
@[simp] theorem qCa:fldT Tryz.prog 353 0=some (0,false,1):=fldOf Tryz.underlying353 rfl rfl ty2.1 ty2.2.1 ty2.2.2.1
@[simp] theorem qCb:fldT Tryz.prog 353 1=some (1,false,1):=fldOf Tryz.underlying353 rfl rfl ty2.1 ty2.2.1 ty2.2.2.1
@[simp] theorem ts355:qap Tryz.prog 355=true:=qat Tryz.underlying355 (by simp[in2,in9])
@[simp] theorem qCc:fldT Tryz.prog 355 0=some (0,false,1):=fldOf Tryz.underlying355 rfl rfl ty9.1 ty9.2.1 ty9.2.2.1
@[simp] theorem qCd:fldT Tryz.prog 355 1=some (1,false,1):=fldOf Tryz.underlying355 rfl rfl ty2.1 ty2.2.1 ty2.2.2.1
@[simp] theorem ts367:qap Tryz.prog 367=true:=qat Tryz.underlying367 (by simp[in2,in9])
@[simp] theorem qCe:fldT Tryz.prog 367 0=some (0,false,1):=fldOf Tryz.underlying367 rfl rfl ty9.1 ty9.2.1 ty9.2.2.1
@[simp] theorem qCf:fldT Tryz.prog 367 1=some (1,false,1):=fldOf Tryz.underlying367 rfl rfl ty2.1 ty2.2.1 ty2.2.2.1
@[simp] theorem qCg:fldT Tryz.prog 367 2=some (2,false,1):=fldOf Tryz.underlying367 rfl rfl ty2.1 ty2.2.1 ty2.2.2.1
@[simp] theorem ts374:qap Tryz.prog 374=true:=qat Tryz.underlying374 (by simp[in2])
@[simp] theorem qCh:fldT Tryz.prog 374 0=some (0,false,1):=fldOf Tryz.underlying374 rfl rfl ty2.1 ty2.2.1 ty2.2.2.1
@[simp] theorem qCi:fldT Tryz.prog 374 1=some (1,false,1):=fldOf Tryz.underlying374 rfl rfl ty2.1 ty2.2.1 ty2.2.2.1
@[simp] theorem ts376:qap Tryz.prog 376=true:=qat Tryz.underlying376 (by simp[in2])
@[simp] theorem qCj:fldT Tryz.prog 376 0=some (0,false,1):=fldOf Tryz.underlying376 rfl rfl ty2.1 ty2.2.1 ty2.2.2.1
@[simp] theorem qCk:fldT Tryz.prog 376 1=some (1,false,1):=fldOf Tryz.underlying376 rfl rfl ty2.1 ty2.2.1 ty2.2.2.1
@[simp] theorem res_3:Tryz.f3.results.toList=[.tmp 2]:=rfl
@[simp] theorem res_4:Tryz.f4.results.toList=[.tmp 4]:=rfl
@[simp] theorem res_5:Tryz.f5.results.toList=[.tmp 2, .tmp 3]:=rfl
@[simp] theorem res_6:Tryz.f6.results.toList=[.cell 2 63]:=rfl
@[simp] theorem res_7:Tryz.f7.results.toList=[.tmp 2, .tmp 3]:=rfl
@[simp] theorem res_8:Tryz.f8.results.toList=[.tmp 4]:=rfl
@[simp] theorem res_9:Tryz.f9.results.toList=[.tmp 4]:=rfl
@[simp] theorem qCl:Tryz.f10.results.toList=[.tmp 4]:=rfl
@[simp] theorem qCm:Tryz.f11.results.toList=[.tmp 4]:=rfl
@[simp] theorem qCn:Tryz.f12.results.toList=[.tmp 4]:=rfl
@[simp] theorem qCo:Tryz.f13.results.toList=[.tmp 4]:=rfl
@[simp] theorem qCp:Tryz.f14.results.toList=[.tmp 4]:=rfl
@[simp] theorem qCq:Tryz.f15.results.toList=[.tmp 4]:=rfl
@[simp] theorem qCr:Tryz.f16.results.toList=[.tmp 2]:=rfl
@[simp] theorem qCs:Tryz.f17.results.toList=[.tmp 4, .tmp 5]:=rfl
@[simp] theorem qCt:Tryz.f18.results.toList=[.tmp 2, .tmp 3]:=rfl
@[simp] theorem qCu:Tryz.f19.results.toList=[.tmp 2]:=rfl
@[simp] theorem qCv:Tryz.f20.results.toList=[.cell 2 59]:=rfl
@[simp] theorem qCw:Tryz.f21.results.toList=[.tmp 2]:=rfl
@[simp] theorem qCx:Tryz.f22.results.toList=[.tmp 2]:=rfl
@[simp] theorem qCy:Tryz.f23.results.toList=[.tmp 2]:=rfl
@[simp] theorem qCz:Tryz.f24.results.toList=[.tmp 2, .tmp 3]:=rfl
@[simp] theorem qCA:Tryz.f25.results.toList=[.tmp 2, .tmp 3]:=rfl
@[simp] theorem qCB:Tryz.f26.results.toList=[.tmp 2]:=rfl
@[simp] theorem qCC:Tryz.f27.results.toList=[.tmp 2]:=rfl
@[simp] theorem qCD:Tryz.f28.results.toList=[.tmp 2]:=rfl
@[simp] theorem qCE:Tryz.f29.results.toList=[.tmp 2]:=rfl
@[simp] theorem qCF:Tryz.f30.results.toList=[.tmp 2]:=rfl
@[simp] theorem qCG:Tryz.f31.results.toList=[.tmp 2]:=rfl
@[simp] theorem qCH:Tryz.f32.results.toList=[.tmp 2]:=rfl
@[simp] theorem qCI:Tryz.f33.results.toList=[.tmp 2]:=rfl
@[simp] theorem qCJ:Tryz.f34.results.toList=[.tmp 2]:=rfl
@[simp] theorem qCK:Tryz.f35.results.toList=[.tmp 2]:=rfl
@[simp] theorem qCL:Tryz.f36.results.toList=[.tmp 4]:=rfl
@[simp] theorem qCM:Tryz.f37.results.toList=[.tmp 4]:=rfl
@[simp] theorem qCN:Tryz.f38.results.toList=[.tmp 4]:=rfl
@[simp] theorem qCO:Tryz.f39.results.toList=[.tmp 4]:=rfl
@[simp] theorem qCP:Tryz.f40.results.toList=[.tmp 4]:=rfl
@[simp] theorem qCQ:Tryz.f41.results.toList=[.tmp 4]:=rfl
@[simp] theorem qCR:Tryz.f42.results.toList=[.tmp 2]:=rfl
@[simp] theorem qCS:Tryz.f43.results.toList=[.tmp 4]:=rfl
@[simp] theorem qCT:Tryz.f44.results.toList=[.tmp 4]:=rfl
@[simp] theorem qCU:Tryz.f45.results.toList=[.tmp 4]:=rfl
@[simp] theorem qCV:Tryz.f46.results.toList=[.tmp 4]:=rfl
@[simp] theorem qCW:Tryz.f47.results.toList=[.tmp 4]:=rfl
@[simp] theorem qCX:Tryz.f48.results.toList=[.tmp 4]:=rfl
@[simp] theorem qCY:Tryz.f49.results.toList=[.tmp 4]:=rfl
@[simp] theorem qCZ:Tryz.f50.results.toList=[.tmp 4]:=rfl
@[simp] theorem qC0:Tryz.f51.results.toList=[.tmp 4]:=rfl
@[simp] theorem qC1:Tryz.f52.results.toList=[.tmp 4]:=rfl
@[simp] theorem qC2:Tryz.f53.results.toList=[.tmp 4]:=rfl
@[simp] theorem qC3:Tryz.f54.results.toList=[.tmp 2]:=rfl
@[simp] theorem qC4:Tryz.f55.results.toList=[.tmp 2]:=rfl
@[simp] theorem qC5:Tryz.f56.results.toList=[.tmp 2]:=rfl
@[simp] theorem qC6:Tryz.f57.results.toList=[.tmp 2]:=rfl
@[simp] theorem qC7:Tryz.f58.results.toList=[.tmp 2]:=rfl
@[simp] theorem qC8:Tryz.f59.results.toList=[.tmp 2]:=rfl
@[simp] theorem qC9:Tryz.f60.results.toList=[.tmp 2]:=rfl
@[simp] theorem qDa:Tryz.f61.results.toList=[.tmp 2]:=rfl
@[simp] theorem qDb:Tryz.f62.results.toList=[.cell 2 50]:=rfl
@[simp] theorem qDc:Tryz.f63.results.toList=[.tmp 2]:=rfl
@[simp] theorem qDd:Tryz.f64.results.toList=[.cell 2 52]:=rfl
@[simp] theorem qDe:Tryz.f65.results.toList=[.tmp 2]:=rfl
@[simp] theorem qDf:Tryz.f66.results.toList=[.tmp 2]:=rfl
@[simp] theorem qDg:Tryz.f67.results.toList=[.cell 2 57]:=rfl
@[simp] theorem qDh:Tryz.f68.results.toList=[.cell 2 113]:=rfl
@[simp] theorem qDi:Tryz.f69.results.toList=[.cell 2 142]:=rfl
@[simp] theorem qDj:Tryz.f70.results.toList=[.tmp 2]:=rfl
@[simp] theorem qDk:Tryz.f71.results.toList=[.tmp 2]:=rfl
@[simp] theorem qDl:Tryz.f72.results.toList=[.tmp 2]:=rfl
@[simp] theorem qDm:Tryz.f73.results.toList=[.tmp 4, .tmp 5]:=rfl
@[simp] theorem qDn:Tryz.f74.results.toList=[.tmp 2]:=rfl
@[simp] theorem qDo:Tryz.f75.results.toList=[.tmp 2]:=rfl
@[simp] theorem qDp:Tryz.f76.results.toList=[.tmp 2]:=rfl
@[simp] theorem qDq:Tryz.f77.results.toList=[.tmp 2]:=rfl
@[simp] theorem qDr:Tryz.f78.results.toList=[.tmp 4]:=rfl
@[simp] theorem qDs:Tryz.f79.results.toList=[.tmp 4]:=rfl
@[simp] theorem qDt:Tryz.f80.results.toList=[.tmp 4]:=rfl
@[simp] theorem qDu:Tryz.f81.results.toList=[.tmp 4]:=rfl
@[simp] theorem qDv:Tryz.f82.results.toList=[.tmp 4]:=rfl
@[simp] theorem qDw:Tryz.f83.results.toList=[.tmp 4]:=rfl
@[simp] theorem qDx:Tryz.f84.results.toList=[.tmp 4]:=rfl
@[simp] theorem qDy:Tryz.f85.results.toList=[.tmp 4]:=rfl
@[simp] theorem qDz:Tryz.f86.results.toList=[.tmp 4]:=rfl
@[simp] theorem qDA:Tryz.f87.results.toList=[.tmp 4]:=rfl
@[simp] theorem qDB:Tryz.f88.results.toList=[.tmp 4]:=rfl
@[simp] theorem qDC:Tryz.f89.results.toList=[.tmp 4]:=rfl
@[simp] theorem qDD:Tryz.f90.results.toList=[.tmp 4]:=rfl
@[simp] theorem qDE:Tryz.f91.results.toList=[.tmp 4]:=rfl
@[simp] theorem qDF:Tryz.f92.results.toList=[.tmp 4]:=rfl
@[simp] theorem qDG:Tryz.f93.results.toList=[.tmp 4]:=rfl
@[simp] theorem qDH:Tryz.f94.results.toList=[.tmp 4]:=rfl
@[simp] theorem qDI:Tryz.f95.results.toList=[.tmp 4]:=rfl
@[simp] theorem qDJ:Tryz.f96.results.toList=[.tmp 4]:=rfl
@[simp] theorem qDK:Tryz.f97.results.toList=[.tmp 4]:=rfl
@[simp] theorem qDL:Tryz.f98.results.toList=[.tmp 4]:=rfl
@[simp] theorem qDM:Tryz.f99.results.toList=[.tmp 4]:=rfl
@[simp] theorem qDN:Tryz.f100.results.toList=[.tmp 4]:=rfl
@[simp] theorem qDO:Tryz.f101.results.toList=[.tmp 4]:=rfl
@[simp] theorem qDP:Tryz.f102.results.toList=[.tmp 4]:=rfl
@[simp] theorem qDQ:Tryz.f103.results.toList=[.tmp 4]:=rfl
@[simp] theorem qDR:Tryz.f104.results.toList=[.tmp 4]:=rfl
@[simp] theorem qDS:Tryz.f105.results.toList=[.tmp 4]:=rfl
@[simp] theorem qDT:Tryz.f106.results.toList=[.tmp 4]:=rfl
@[simp] theorem qDU:Tryz.f107.results.toList=[.tmp 2]:=rfl
@[simp] theorem qDV:Tryz.f108.results.toList=[.tmp 2]:=rfl
@[simp] theorem qDW:Tryz.f109.results.toList=[.tmp 2]:=rfl
@[simp] theorem qDX:Tryz.f110.results.toList=[.tmp 2]:=rfl
@[simp] theorem qDY:Tryz.f111.results.toList=[.tmp 2]:=rfl
@[simp] theorem qDZ:Tryz.f112.results.toList=[.tmp 2]:=rfl
@[simp] theorem qD0:Tryz.f113.results.toList=[.tmp 2]:=rfl
@[simp] theorem qD1:Tryz.f114.results.toList=[.tmp 2]:=rfl
@[simp] theorem qD2:Tryz.f115.results.toList=[.tmp 2]:=rfl
@[simp] theorem qD3:Tryz.f116.results.toList=[.tmp 6]:=rfl
@[simp] theorem qD4:Tryz.f117.results.toList=[.tmp 2]:=rfl
@[simp] theorem qD5:Tryz.f118.results.toList=[.tmp 2]:=rfl
@[simp] theorem qD6:Tryz.f119.results.toList=[.tmp 2]:=rfl
@[simp] theorem qD7:Tryz.f120.results.toList=[.tmp 2]:=rfl
@[simp] theorem qD8:Tryz.f121.results.toList=[.tmp 6]:=rfl
@[simp] theorem qD9:Tryz.f122.results.toList=[.tmp 2]:=rfl
@[simp] theorem qEa:Tryz.f123.results.toList=[.tmp 2]:=rfl
@[simp] theorem qEb:Tryz.f124.results.toList=[.tmp 2]:=rfl
@[simp] theorem qEc:Tryz.f125.results.toList=[.tmp 2]:=rfl
@[simp] theorem qEd:Tryz.f126.results.toList=[.cell 2 93]:=rfl
@[simp] theorem qEe:Tryz.f127.results.toList=[.cell 2 96]:=rfl
@[simp] theorem qEf:Tryz.f128.results.toList=[.cell 2 100]:=rfl
@[simp] theorem qEg:Tryz.f129.results.toList=[.cell 2 103]:=rfl
@[simp] theorem qEh:Tryz.f130.results.toList=[.cell 2 227]:=rfl
@[simp] theorem qEi:Tryz.f131.results.toList=[.cell 2 231]:=rfl
@[simp] theorem qEj:Tryz.f132.results.toList=[.cell 2 107]:=rfl
@[simp] theorem qEk:Tryz.f133.results.toList=[.tmp 2]:=rfl
@[simp] theorem qEl:Tryz.f134.results.toList=[.tmp 2]:=rfl
@[simp] theorem qEm:Tryz.f135.results.toList=[.tmp 2]:=rfl
@[simp] theorem qEn:Tryz.f136.results.toList=[.tmp 2]:=rfl
@[simp] theorem qEo:Tryz.f137.results.toList=[.tmp 2]:=rfl
@[simp] theorem qEp:Tryz.f138.results.toList=[.tmp 2]:=rfl
@[simp] theorem qEq:Tryz.f139.results.toList=[.tmp 2]:=rfl
@[simp] theorem qEr:Tryz.f140.results.toList=[.tmp 2]:=rfl
@[simp] theorem qEs:Tryz.f141.results.toList=[.tmp 2]:=rfl
@[simp] theorem qEt:Tryz.f142.results.toList=[.tmp 2]:=rfl
@[simp] theorem qEu:Tryz.f143.results.toList=[.tmp 6]:=rfl
@[simp] theorem qEv:Tryz.f144.results.toList=[.tmp 2]:=rfl
@[simp] theorem qEw:Tryz.f145.results.toList=[.tmp 2]:=rfl
@[simp] theorem qEx:Tryz.f146.results.toList=[.tmp 2]:=rfl
@[simp] theorem qEy:Tryz.f147.results.toList=[.tmp 2]:=rfl
@[simp] theorem qEz:Tryz.f148.results.toList=[.tmp 4]:=rfl
@[simp] theorem qEA:Tryz.f149.results.toList=[.tmp 6]:=rfl
@[simp] theorem qEB:Tryz.f150.results.toList=[.tmp 4]:=rfl
@[simp] theorem qEC:Tryz.f151.results.toList=[.tmp 3]:=rfl
@[simp] theorem qED:Tryz.f152.results.toList=[.tmp 4]:=rfl
@[simp] theorem qEE:Tryz.f153.results.toList=[.tmp 3]:=rfl
@[simp] theorem qEF:Tryz.f154.results.toList=[.tmp 6, .tmp 7]:=rfl
@[simp] theorem qEG:Tryz.f155.results.toList=[.tmp 4]:=rfl
@[simp] theorem qEH:Tryz.f156.results.toList=[.tmp 2, .tmp 3]:=rfl
@[simp] theorem qEI:Tryz.f157.results.toList=[.tmp 2]:=rfl
@[simp] theorem qEJ:Tryz.f158.results.toList=[.tmp 4]:=rfl
@[simp] theorem qEK:Tryz.f159.results.toList=[.tmp 2]:=rfl
@[simp] theorem qEL:Tryz.f160.results.toList=[.tmp 2]:=rfl
@[simp] theorem qEM:Tryz.f161.results.toList=[.tmp 4]:=rfl
@[simp] theorem qEN:Tryz.f162.results.toList=[.tmp 2]:=rfl
@[simp] theorem qEO:Tryz.f163.results.toList=[.tmp 4, .tmp 5]:=rfl
@[simp] theorem qEP:Tryz.f164.results.toList=[.tmp 4]:=rfl
@[simp] theorem qEQ:Tryz.f165.results.toList=[.tmp 3]:=rfl
@[simp] theorem qER:Tryz.f166.results.toList=[.tmp 2]:=rfl
@[simp] theorem qES:Tryz.f167.results.toList=[.tmp 4]:=rfl
@[simp] theorem qET:Tryz.f168.results.toList=[.tmp 4]:=rfl
@[simp] theorem qEU:Tryz.f169.results.toList=[.tmp 4]:=rfl
@[simp] theorem qEV:Tryz.f170.results.toList=[.tmp 4]:=rfl
@[simp] theorem qEW:Tryz.f171.results.toList=[.tmp 4]:=rfl
@[simp] theorem qEX:Tryz.f172.results.toList=[.tmp 4]:=rfl
@[simp] theorem qEY:Tryz.f173.results.toList=[.tmp 4]:=rfl
@[simp] theorem qEZ:Tryz.f174.results.toList=[.tmp 4]:=rfl
@[simp] theorem qE0:Tryz.f175.results.toList=[.tmp 4]:=rfl
@[simp] theorem qE1:Tryz.f176.results.toList=[.tmp 4]:=rfl
@[simp] theorem qE2:Tryz.f177.results.toList=[.tmp 4]:=rfl
@[simp] theorem qE3:Tryz.f178.results.toList=[.tmp 4]:=rfl
@[simp] theorem qE4:Tryz.f179.results.toList=[.tmp 4]:=rfl
@[simp] theorem qE5:Tryz.f180.results.toList=[.tmp 4]:=rfl
@[simp] theorem qE6:Tryz.f181.results.toList=[.tmp 4]:=rfl
@[simp] theorem qE7:Tryz.f182.results.toList=[.tmp 4]:=rfl
@[simp] theorem qE8:Tryz.f183.results.toList=[.tmp 4]:=rfl
@[simp] theorem qE9:Tryz.f184.results.toList=[.tmp 2]:=rfl
@[simp] theorem qFa:Tryz.f185.results.toList=[.tmp 2]:=rfl
@[simp] theorem qFb:Tryz.f186.results.toList=[.tmp 4]:=rfl
@[simp] theorem qFc:Tryz.f187.results.toList=[.tmp 2]:=rfl
@[simp] theorem qFd:Tryz.f188.results.toList=[.tmp 2]:=rfl
@[simp] theorem qFe:Tryz.f189.results.toList=[.tmp 2]:=rfl
@[simp] theorem qFf:Tryz.f190.results.toList=[.tmp 2]:=rfl
@[simp] theorem qFg:Tryz.f191.results.toList=[.tmp 2]:=rfl
@[simp] theorem qFh:Tryz.f192.results.toList=[.tmp 2]:=rfl
@[simp] theorem qFi:Tryz.f193.results.toList=[.tmp 2]:=rfl
@[simp] theorem qFj:Tryz.f194.results.toList=[.tmp 4]:=rfl
@[simp] theorem qFk:Tryz.f195.results.toList=[.tmp 2]:=rfl
@[simp] theorem qFl:Tryz.f196.results.toList=[.tmp 2]:=rfl
@[simp] theorem qFm:Tryz.f197.results.toList=[.tmp 4]:=rfl
@[simp] theorem qFn:Tryz.f198.results.toList=[.tmp 6]:=rfl
@[simp] theorem qFo:Tryz.f199.results.toList=[.tmp 4]:=rfl
@[simp] theorem qFp:Tryz.f200.results.toList=[.tmp 4]:=rfl
@[simp] theorem qFq:Tryz.f201.results.toList=[.tmp 6]:=rfl
@[simp] theorem qFr:Tryz.f202.results.toList=[.tmp 4]:=rfl
@[simp] theorem qFs:Tryz.f203.results.toList=[.tmp 2, .tmp 3]:=rfl
@[simp] theorem qFt:Tryz.f204.results.toList=[.tmp 2]:=rfl
@[simp] theorem qFu:Tryz.f205.results.toList=[.tmp 4]:=rfl
@[simp] theorem qFv:Tryz.f206.results.toList=[.tmp 2]:=rfl
@[simp] theorem qFw:Tryz.f207.results.toList=[.tmp 2]:=rfl
@[simp] theorem qFx:Tryz.f208.results.toList=[.tmp 2, .tmp 3]:=rfl
@[simp] theorem qFy:Tryz.f209.results.toList=[.tmp 4, .tmp 5]:=rfl
@[simp] theorem qFz:Tryz.f210.results.toList=[.tmp 4]:=rfl
@[simp] theorem qFA:Tryz.f211.results.toList=[.tmp 2]:=rfl
@[simp] theorem qFB:Tryz.f212.results.toList=[.cell 2 91]:=rfl
@[simp] theorem qFC:Tryz.f213.results.toList=[.tmp 2]:=rfl
@[simp] theorem qFD:Tryz.f214.results.toList=[.tmp 2]:=rfl
@[simp] theorem qFE:Tryz.f215.results.toList=[.tmp 2]:=rfl
@[simp] theorem qFF:Tryz.f216.results.toList=[.tmp 2]:=rfl
@[simp] theorem qFG:Tryz.f217.results.toList=[.cell 2 110]:=rfl
@[simp] theorem qFH:Tryz.f218.results.toList=[.tmp 2]:=rfl
@[simp] theorem qFI:Tryz.f219.results.toList=[.tmp 2]:=rfl
@[simp] theorem qFJ:Tryz.f220.results.toList=[.tmp 4]:=rfl
@[simp] theorem qFK:Tryz.f221.results.toList=[.tmp 3]:=rfl
@[simp] theorem qFL:Tryz.f222.results.toList=[.tmp 4]:=rfl
@[simp] theorem qFM:Tryz.f223.results.toList=[.tmp 2]:=rfl
@[simp] theorem qFN:Tryz.f224.results.toList=[.tmp 2]:=rfl
@[simp] theorem qFO:Tryz.f225.results.toList=[.tmp 2]:=rfl
@[simp] theorem qFP:Tryz.f226.results.toList=[.tmp 2]:=rfl
@[simp] theorem qFQ:Tryz.f227.results.toList=[.tmp 2]:=rfl
@[simp] theorem qFR:Tryz.f228.results.toList=[.tmp 2]:=rfl
@[simp] theorem qFS:Tryz.f229.results.toList=[.tmp 2]:=rfl
@[simp] theorem qFT:Tryz.f230.results.toList=[.tmp 4]:=rfl
@[simp] theorem qFU:Tryz.f231.results.toList=[.tmp 2]:=rfl
@[simp] theorem qFV:Tryz.f232.results.toList=[.tmp 2]:=rfl
@[simp] theorem qFW:Tryz.f233.results.toList=[.tmp 2]:=rfl
@[simp] theorem qFX:Tryz.f234.results.toList=[.tmp 4, .tmp 5]:=rfl
@[simp] theorem qFY:Tryz.f235.results.toList=[.tmp 2]:=rfl
@[simp] theorem qFZ:Tryz.f236.results.toList=[.tmp 4]:=rfl
@[simp] theorem qF0:Tryz.f237.results.toList=[.tmp 4]:=rfl
@[simp] theorem qF1:Tryz.f238.results.toList=[.tmp 4]:=rfl
@[simp] theorem qF2:Tryz.f239.results.toList=[.tmp 4]:=rfl
@[simp] theorem qF3:Tryz.f240.results.toList=[.tmp 6]:=rfl
@[simp] theorem qF4:Tryz.f241.results.toList=[.tmp 4]:=rfl
@[simp] theorem qF5:Tryz.f242.results.toList=[.tmp 2, .tmp 3]:=rfl
@[simp] theorem qF6:Tryz.f243.results.toList=[.tmp 4, .tmp 5]:=rfl
@[simp] theorem qF7:Tryz.f244.results.toList=[.tmp 2, .tmp 3]:=rfl
@[simp] theorem qF8:Tryz.f245.results.toList=[.tmp 4]:=rfl
@[simp] theorem qF9:Tryz.f246.results.toList=[]:=rfl
@[simp] theorem qGa:Tryz.f247.results.toList=[.tmp 2]:=rfl
@[simp] theorem qGb:Tryz.f248.results.toList=[.tmp 4]:=rfl
@[simp] theorem qGc:Tryz.f249.results.toList=[.tmp 3]:=rfl
@[simp] theorem qGd:Tryz.f250.results.toList=[.tmp 2]:=rfl
@[simp] theorem qGe:Tryz.f251.results.toList=[.tmp 2]:=rfl
@[simp] theorem qGf:Tryz.f252.results.toList=[]:=rfl
@[simp] theorem qGg:Tryz.f253.results.toList=[.tmp 10, .tmp 11]:=rfl
@[simp] theorem qGh:Tryz.f254.results.toList=[.tmp 4]:=rfl
@[simp] theorem qGi:Tryz.f255.results.toList=[.tmp 4]:=rfl
@[simp] theorem qGj:Tryz.f256.results.toList=[.tmp 4]:=rfl
@[simp] theorem qGk:Tryz.f257.results.toList=[.tmp 4]:=rfl
@[simp] theorem qGl:Tryz.f258.results.toList=[.tmp 4]:=rfl
@[simp] theorem qGm:Tryz.f259.results.toList=[.tmp 4]:=rfl
@[simp] theorem qGn:Tryz.f260.results.toList=[.tmp 2]:=rfl
@[simp] theorem qGo:Tryz.f261.results.toList=[.tmp 2]:=rfl
@[simp] theorem qGp:Tryz.f262.results.toList=[.tmp 2]:=rfl
@[simp] theorem qGq:Tryz.f263.results.toList=[.tmp 4]:=rfl
@[simp] theorem qGr:Tryz.f264.results.toList=[.tmp 2]:=rfl
@[simp] theorem qGs:Tryz.f265.results.toList=[.tmp 4]:=rfl
@[simp] theorem qGt:Tryz.f266.results.toList=[.tmp 4]:=rfl
@[simp] theorem qGu:Tryz.f267.results.toList=[.tmp 4]:=rfl
@[simp] theorem qGv:Tryz.f268.results.toList=[.tmp 6]:=rfl
@[simp] theorem qGw:Tryz.f269.results.toList=[.tmp 4]:=rfl
@[simp] theorem qGx:Tryz.f270.results.toList=[.tmp 4, .tmp 5]:=rfl
@[simp] theorem qGy:Tryz.f271.results.toList=[.tmp 4]:=rfl
@[simp] theorem qGz:Tryz.f272.results.toList=[.tmp 4]:=rfl
@[simp] theorem qGA:Tryz.f273.results.toList=[.tmp 2]:=rfl
@[simp] theorem qGB:Tryz.f274.results.toList=[.tmp 2]:=rfl
@[simp] theorem qGC:Tryz.f275.results.toList=[.tmp 4, .tmp 5]:=rfl
@[simp] theorem qGD:Tryz.f276.results.toList=[.tmp 2, .tmp 3]:=rfl
@[simp] theorem qGE:Tryz.f277.results.toList=[.tmp 4]:=rfl
@[simp] theorem qGF:Tryz.f278.results.toList=[.tmp 4]:=rfl
@[simp] theorem qGG:Tryz.f279.results.toList=[.cell 2 351]:=rfl
@[simp] theorem qGH:Tryz.f280.results.toList=[.cell 2 335]:=rfl
@[simp] theorem qGI:Tryz.f281.results.toList=[.cell 2 353]:=rfl
@[simp] theorem qGJ:Tryz.f282.results.toList=[.tmp 2]:=rfl
@[simp] theorem qGK:Tryz.f283.results.toList=[.tmp 2]:=rfl
@[simp] theorem qGL:Tryz.f284.results.toList=[.tmp 4]:=rfl
@[simp] theorem qGM:Tryz.f285.results.toList=[.tmp 4]:=rfl
@[simp] theorem qGN:Tryz.f286.results.toList=[.tmp 3]:=rfl
@[simp] theorem qGO:Tryz.f287.results.toList=[.tmp 4]:=rfl
@[simp] theorem qGP:Tryz.f288.results.toList=[.tmp 2]:=rfl
@[simp] theorem qGQ:Tryz.f289.results.toList=[.tmp 4]:=rfl
@[simp] theorem qGR:Tryz.f290.results.toList=[.tmp 2]:=rfl
@[simp] theorem qGS:Tryz.f291.results.toList=[.tmp 4]:=rfl
@[simp] theorem qGT:Tryz.f292.results.toList=[.tmp 2]:=rfl
@[simp] theorem qGU:Tryz.f293.results.toList=[.tmp 2]:=rfl
@[simp] theorem qGV:Tryz.f294.results.toList=[.tmp 2]:=rfl
@[simp] theorem qGW:Tryz.f295.results.toList=[.tmp 2]:=rfl
@[simp] theorem qGX:Tryz.f296.results.toList=[.tmp 4]:=rfl
@[simp] theorem qGY:Tryz.f297.results.toList=[.tmp 4]:=rfl
@[simp] theorem qGZ:Tryz.f298.results.toList=[.tmp 2]:=rfl
@[simp] theorem qG0:Tryz.f299.results.toList=[.tmp 6, .tmp 7]:=rfl
@[simp] theorem qG1:Tryz.f300.results.toList=[.tmp 4]:=rfl
@[simp] theorem qG2:Tryz.f301.results.toList=[.tmp 4]:=rfl
@[simp] theorem qG3:Tryz.f302.results.toList=[.tmp 6]:=rfl
@[simp] theorem qG4:Tryz.f303.results.toList=[.tmp 6]:=rfl
@[simp] theorem qG5:Tryz.f304.results.toList=[.tmp 4]:=rfl
@[simp] theorem qG6:Tryz.f305.results.toList=[.cell 4 96, .tmp 5]:=rfl
@[simp] theorem qG7:Tryz.f306.results.toList=[.tmp 3]:=rfl
@[simp] theorem qG8:Tryz.f307.results.toList=[.tmp 4]:=rfl
@[simp] theorem qG9:Tryz.f308.results.toList=[.tmp 2]:=rfl
@[simp] theorem qHa:Tryz.f309.results.toList=[.tmp 2, .tmp 3, .tmp 4]:=rfl
@[simp] theorem qHb:Tryz.f310.results.toList=[.tmp 2]:=rfl
@[simp] theorem qHc:Tryz.f311.results.toList=[.tmp 2]:=rfl
@[simp] theorem qHd:Tryz.f312.results.toList=[.tmp 2]:=rfl
@[simp] theorem qHe:Tryz.f313.results.toList=[.tmp 2]:=rfl
@[simp] theorem qHf:Tryz.f314.results.toList=[.tmp 4]:=rfl
@[simp] theorem qHg:Tryz.f315.results.toList=[.tmp 4]:=rfl
@[simp] theorem qHh:Tryz.f316.results.toList=[.tmp 2]:=rfl
@[simp] theorem qHi:Tryz.f317.results.toList=[]:=rfl
@[simp] theorem qHj:Tryz.f318.results.toList=[.tmp 2]:=rfl
@[simp] theorem qHk:Tryz.f319.results.toList=[.tmp 2]:=rfl
@[simp] theorem qHl:Tryz.f320.results.toList=[.tmp 2]:=rfl
@[simp] theorem qHm:Tryz.f321.results.toList=[.tmp 2]:=rfl
@[simp] theorem qHn:Tryz.f322.results.toList=[.tmp 2]:=rfl
@[simp] theorem qHo:Tryz.f323.results.toList=[.tmp 2]:=rfl
@[simp] theorem qHp:Tryz.f324.results.toList=[.tmp 4]:=rfl
@[simp] theorem qHq:Tryz.f325.results.toList=[.tmp 4]:=rfl
@[simp] theorem qHr:Tryz.f326.results.toList=[.tmp 4]:=rfl
@[simp] theorem qHs:Tryz.f327.results.toList=[.tmp 4]:=rfl
@[simp] theorem qHt:Tryz.f328.results.toList=[.tmp 4]:=rfl
@[simp] theorem qHu:Tryz.f329.results.toList=[.tmp 4]:=rfl
@[simp] theorem qHv:Tryz.f330.results.toList=[.tmp 2]:=rfl
@[simp] theorem qHw:Tryz.f331.results.toList=[.tmp 4]:=rfl
@[simp] theorem qHx:Tryz.f332.results.toList=[.tmp 4]:=rfl
@[simp] theorem qHy:Tryz.f333.results.toList=[.tmp 2]:=rfl
@[simp] theorem qHz:Tryz.f334.results.toList=[.tmp 2]:=rfl
@[simp] theorem qHA:Tryz.f335.results.toList=[.tmp 4]:=rfl
@[simp] theorem qHB:Tryz.f336.results.toList=[.tmp 4]:=rfl
@[simp] theorem qHC:Tryz.f337.results.toList=[.tmp 2]:=rfl
@[simp] theorem qHD:Tryz.f338.results.toList=[.tmp 4]:=rfl
@[simp] theorem qHE:Tryz.f339.results.toList=[.tmp 4]:=rfl
@[simp] theorem qHF:Tryz.f340.results.toList=[.tmp 4]:=rfl
@[simp] theorem qHG:Tryz.f341.results.toList=[.tmp 2]:=rfl
@[simp] theorem qHH:Tryz.f342.results.toList=[.tmp 4]:=rfl
@[simp] theorem qHI:Tryz.f343.results.toList=[.tmp 4]:=rfl
@[simp] theorem qHJ:Tryz.f345.results.toList=[]:=rfl
@[simp] theorem qHK:Tryz.f346.results.toList=[.tmp 4]:=rfl
@[simp] theorem qHL:Tryz.f347.results.toList=[.tmp 3]:=rfl
@[simp] theorem qHM:Tryz.f348.results.toList=[.tmp 4]:=rfl
@[simp] theorem qHN:Tryz.f349.results.toList=[.tmp 4, .tmp 5]:=rfl
@[simp] theorem qHO:Tryz.f350.results.toList=[.tmp 4, .tmp 5, .tmp 6]:=rfl
@[simp] theorem qHP:Tryz.f351.results.toList=[.tmp 4]:=rfl
@[simp] theorem qHQ:Tryz.f352.results.toList=[.tmp 2]:=rfl
@[simp] theorem qHR:Tryz.f353.results.toList=[.tmp 2]:=rfl
@[simp] theorem qHS:Tryz.f354.results.toList=[.tmp 4]:=rfl
@[simp] theorem qHT:Tryz.f355.results.toList=[]:=rfl
@[simp] theorem qHU:Tryz.f356.results.toList=[]:=rfl
@[simp] theorem qHV:Tryz.f357.results.toList=[]:=rfl
@[simp] theorem qHW:Tryz.f358.results.toList=[.tmp 6, .tmp 7]:=rfl
@[simp] theorem qHX:Tryz.f359.results.toList=[]:=rfl
@[simp] theorem qHY:Tryz.f360.results.toList=[.tmp 6]:=rfl
@[simp] theorem qHZ:Tryz.f361.results.toList=[.tmp 4]:=rfl
@[simp] theorem qH0:Tryz.f362.results.toList=[.tmp 8]:=rfl
@[simp] theorem qH1:Tryz.f363.results.toList=[.tmp 8, .tmp 9]:=rfl
@[simp] theorem qH2:Tryz.f364.results.toList=[.tmp 2]:=rfl
@[simp] theorem qH3:Tryz.f365.results.toList=[.tmp 2]:=rfl
@[simp] theorem qH4:Tryz.f366.results.toList=[.tmp 2]:=rfl
@[simp] theorem qH5:Tryz.f367.results.toList=[.tmp 4, .tmp 5]:=rfl
@[simp] theorem qH6:Tryz.f368.results.toList=[.tmp 4]:=rfl
@[simp] theorem qH7:Tryz.f369.results.toList=[.tmp 4]:=rfl
@[simp] theorem qH8:Tryz.f370.results.toList=[.tmp 2]:=rfl
@[simp] theorem qH9:Tryz.f371.results.toList=[.tmp 2]:=rfl
@[simp] theorem qIa:Tryz.f372.results.toList=[.tmp 0]:=rfl
@[simp] theorem qIb:Tryz.f373.results.toList=[.tmp 4]:=rfl
@[simp] theorem qIc:Tryz.f375.results.toList=[]:=rfl
@[simp] theorem qId:Tryz.f376.results.toList=[.tmp 3]:=rfl
@[simp] theorem qIe:Tryz.f377.results.toList=[.tmp 4, .tmp 5]:=rfl
@[simp] theorem qIf:Tryz.f378.results.toList=[.tmp 4]:=rfl
@[simp] theorem qIg:Tryz.f379.results.toList=[.tmp 6, .tmp 7]:=rfl
@[simp] theorem qIh:Tryz.f380.results.toList=[.tmp 4]:=rfl
@[simp] theorem qIi:Tryz.f381.results.toList=[.tmp 4]:=rfl
@[simp] theorem qIj:Tryz.f382.results.toList=[.tmp 2]:=rfl
@[simp] theorem qIk:Tryz.f383.results.toList=[.tmp 2]:=rfl
@[simp] theorem qIl:Tryz.f384.results.toList=[.tmp 2]:=rfl
@[simp] theorem qIm:Tryz.f385.results.toList=[.tmp 4]:=rfl
@[simp] theorem qIn:Tryz.f386.results.toList=[]:=rfl
@[simp] theorem qIo:Tryz.f387.results.toList=[.tmp 2]:=rfl
@[simp] theorem qIp:Tryz.f388.results.toList=[.tmp 2]:=rfl
@[simp] theorem qIq:Tryz.f389.results.toList=[.tmp 6]:=rfl
@[simp] theorem qIr:Tryz.f390.results.toList=[.tmp 10]:=rfl
@[simp] theorem qIs:Tryz.f391.results.toList=[.tmp 4]:=rfl
@[simp] theorem qIt:Tryz.f392.results.toList=[.tmp 4]:=rfl
@[simp] theorem qIu:Tryz.f393.results.toList=[]:=rfl
@[simp] theorem qIv:Tryz.f394.results.toList=[.tmp 4, .tmp 5]:=rfl
@[simp] theorem qIw:Tryz.f395.results.toList=[.tmp 4, .tmp 5, .tmp 6]:=rfl
@[simp] theorem qIx:Tryz.f396.results.toList=[.tmp 2]:=rfl
@[simp] theorem qIy:Tryz.f397.results.toList=[.tmp 8, .tmp 9]:=rfl
@[simp] theorem qIz:Tryz.f398.results.toList=[.tmp 6, .tmp 7]:=rfl
@[simp] theorem qIA:Tryz.f399.results.toList=[.tmp 4]:=rfl
theorem hm:Tryz.prog.follows .mixedOrders=true:=by kernel_rfl
end Go.Proofs.YteckngloamnfdaaGreatDoor
