/- Closed facts on the types of the program. Made by a program (gen_types.py). No condition. -/
import Derived.Test.YteomgilojaibeaaAcd
import Derived.Test.YteomgilojaibeaaAbz
import Derived.Test.YteomgilojaibeaaProg
namespace Go.Proofs.Yteomgilojaibeaa
open Go Go.Ab

theorem in2 : Try.prog.info? 2 = some Try.t2 := by kernel_rfl
@[simp] theorem ty2 : TyOne Try.prog 2 8 (some .i64) none false := tyOne_int in2 Try.underlying2 rfl rfl
@[simp] theorem tz2 : TyZ Try.prog 2 [.int .i64 0] := tyZ in2 rfl rfl rfl rfl
theorem in3 : Try.prog.info? 3 = some Try.t3 := by kernel_rfl
@[simp] theorem ty3 : TyOne Try.prog 3 8 (some .i64) none false := tyOne_int in3 Try.underlying3 rfl rfl
@[simp] theorem tz3 : TyZ Try.prog 3 [.int .i64 0] := tyZ in3 rfl rfl rfl rfl
theorem in4 : Try.prog.info? 4 = some Try.t4 := by kernel_rfl
@[simp] theorem ty4 : TyOne Try.prog 4 1 none none false := tyOne_bool in4 Try.underlying4 rfl rfl
@[simp] theorem ub4 : Try.prog.underlying 4 = some .bool := Try.underlying4
@[simp] theorem tz4 : TyZ Try.prog 4 [.bool false] := tyZ in4 rfl rfl rfl rfl
theorem in5 : Try.prog.info? 5 = some Try.t5 := by kernel_rfl
@[simp] theorem ty5 : TyOne Try.prog 5 1 (some .u8) none false := tyOne_int in5 Try.underlying5 rfl rfl
@[simp] theorem tz5 : TyZ Try.prog 5 [.int .u8 0] := tyZ in5 rfl rfl rfl rfl
theorem in6 : Try.prog.info? 6 = some Try.t6 := by kernel_rfl
@[simp] theorem ty6 : TyOne Try.prog 6 1 (some .u8) none false := tyOne_int in6 Try.underlying6 rfl rfl
@[simp] theorem tz6 : TyZ Try.prog 6 [.int .u8 0] := tyZ in6 rfl rfl rfl rfl
theorem in8 : Try.prog.info? 8 = some Try.t8 := by kernel_rfl
@[simp] theorem ty8 : TyAgg Try.prog 8 4 24 := tyAgg_struct in8 Try.underlying8 rfl rfl
@[simp] theorem tz8 : TyZ Try.prog 8 [.int .i64 0, .int .i64 0, .bool false, .int .u8 0] := tyZ in8 rfl rfl rfl rfl
theorem in9 : Try.prog.info? 9 = some Try.t9 := by kernel_rfl
@[simp] theorem ty9 : TyOne Try.prog 9 16 none none true := tyOne_str in9 Try.underlying9 rfl rfl
@[simp] theorem tz9 : TyZ Try.prog 9 [.str []] := tyZ in9 rfl rfl rfl rfl
theorem in10 : Try.prog.info? 10 = some Try.t10 := by kernel_rfl
@[simp] theorem ty10 : TyOne Try.prog 10 16 none none true := tyOne_str in10 Try.underlying10 rfl rfl
@[simp] theorem tz10 : TyZ Try.prog 10 [.str []] := tyZ in10 rfl rfl rfl rfl
theorem in11 : Try.prog.info? 11 = some Try.t11 := by kernel_rfl
@[simp] theorem ty11 : TyOne Try.prog 11 16 none none true := tyOne_str in11 Try.underlying11 rfl rfl
@[simp] theorem tz11 : TyZ Try.prog 11 [.str []] := tyZ in11 rfl rfl rfl rfl
theorem in12 : Try.prog.info? 12 = some Try.t12 := by kernel_rfl
@[simp] theorem ty12 : TyOne Try.prog 12 8 (some .u64) none false := tyOne_int in12 Try.underlying12 rfl rfl
@[simp] theorem tz12 : TyZ Try.prog 12 [.int .u64 0] := tyZ in12 rfl rfl rfl rfl
theorem in14 : Try.prog.info? 14 = some Try.t14 := by kernel_rfl
@[simp] theorem ty14 : TyAgg Try.prog 14 2 24 := tyAgg_struct in14 Try.underlying14 rfl rfl
@[simp] theorem tz14 : TyZ Try.prog 14 [.str [], .int .u64 0] := tyZ in14 rfl rfl rfl rfl
theorem in15 : Try.prog.info? 15 = some Try.t15 := by kernel_rfl
@[simp] theorem ty15 : TyOne Try.prog 15 8 none none false := tyOne_pointer in15 Try.underlying15 rfl rfl
@[simp] theorem tz15 : TyZ Try.prog 15 [.raw (.pointer none)] := tyZ in15 rfl rfl rfl rfl
theorem in16 : Try.prog.info? 16 = some Try.t16 := by kernel_rfl
@[simp] theorem ty16 : TyOne Try.prog 16 8 none none false := tyOne_pointer in16 Try.underlying16 rfl rfl
@[simp] theorem tz16 : TyZ Try.prog 16 [.raw (.pointer none)] := tyZ in16 rfl rfl rfl rfl
theorem in17 : Try.prog.info? 17 = some Try.t17 := by kernel_rfl
@[simp] theorem ty17 : TyOne Try.prog 17 8 none none false := tyOne_pointer in17 Try.underlying17 rfl rfl
@[simp] theorem tz17 : TyZ Try.prog 17 [.raw (.pointer none)] := tyZ in17 rfl rfl rfl rfl
theorem in19 : Try.prog.info? 19 = some Try.t19 := by kernel_rfl
@[simp] theorem ty19 : TyAgg Try.prog 19 1 8 := tyAgg_struct in19 Try.underlying19 rfl rfl
@[simp] theorem tz19 : TyZ Try.prog 19 [.raw (.pointer none)] := tyZ in19 rfl rfl rfl rfl
theorem in22 : Try.prog.info? 22 = some Try.t22 := by kernel_rfl
@[simp] theorem ty22 : TyOne Try.prog 22 24 none (some 158) false := tyOne_slice in22 Try.underlying22 rfl rfl
@[simp] theorem tz22 : TyZ Try.prog 22 [.nils] := tyZ in22 rfl rfl rfl rfl
theorem in24 : Try.prog.info? 24 = some Try.t24 := by kernel_rfl
@[simp] theorem ty24 : TyAgg Try.prog 24 2 40 := tyAgg_struct in24 Try.underlying24 rfl rfl
@[simp] theorem tz24 : TyZ Try.prog 24 [.str [], .nils] := tyZ in24 rfl rfl rfl rfl
theorem in26 : Try.prog.info? 26 = some Try.t26 := by kernel_rfl
@[simp] theorem ty26 : TyOne Try.prog 26 24 none (some 2) false := tyOne_slice in26 Try.underlying26 rfl rfl
@[simp] theorem tz26 : TyZ Try.prog 26 [.nils] := tyZ in26 rfl rfl rfl rfl
theorem in27 : Try.prog.info? 27 = some Try.t27 := by kernel_rfl
@[simp] theorem ty27 : TyOne Try.prog 27 24 none (some 99) false := tyOne_slice in27 Try.underlying27 rfl rfl
@[simp] theorem tz27 : TyZ Try.prog 27 [.nils] := tyZ in27 rfl rfl rfl rfl
theorem in29 : Try.prog.info? 29 = some Try.t29 := by kernel_rfl
@[simp] theorem ty29 : TyAgg Try.prog 29 4 64 := tyAgg_struct in29 Try.underlying29 rfl rfl
@[simp] theorem tz29 : TyZ Try.prog 29 [.int .i64 0, .int .i64 0, .nils, .nils] := tyZ in29 rfl rfl rfl rfl
theorem in32 : Try.prog.info? 32 = some Try.t32 := by kernel_rfl
@[simp] theorem ty32 : TyOne Try.prog 32 24 none (some 95) false := tyOne_slice in32 Try.underlying32 rfl rfl
@[simp] theorem tz32 : TyZ Try.prog 32 [.nils] := tyZ in32 rfl rfl rfl rfl
theorem in34 : Try.prog.info? 34 = some Try.t34 := by kernel_rfl
@[simp] theorem ty34 : TyAgg Try.prog 34 2 40 := tyAgg_struct in34 Try.underlying34 rfl rfl
@[simp] theorem tz34 : TyZ Try.prog 34 [.str [], .nils] := tyZ in34 rfl rfl rfl rfl
theorem in43 : Try.prog.info? 43 = some Try.t43 := by kernel_rfl
@[simp] theorem ty43 : TyOne Try.prog 43 24 none (some 175) false := tyOne_slice in43 Try.underlying43 rfl rfl
@[simp] theorem tz43 : TyZ Try.prog 43 [.nils] := tyZ in43 rfl rfl rfl rfl
theorem in45 : Try.prog.info? 45 = some Try.t45 := by kernel_rfl
@[simp] theorem ty45 : TyAgg Try.prog 45 4 64 := tyAgg_struct in45 Try.underlying45 rfl rfl
@[simp] theorem tz45 : TyZ Try.prog 45 [.int .i64 0, .int .i64 0, .nils, .nils] := tyZ in45 rfl rfl rfl rfl
theorem in51 : Try.prog.info? 51 = some Try.t51 := by kernel_rfl
@[simp] theorem ty51 : TyOne Try.prog 51 24 none (some 128) false := tyOne_slice in51 Try.underlying51 rfl rfl
@[simp] theorem tz51 : TyZ Try.prog 51 [.nils] := tyZ in51 rfl rfl rfl rfl
theorem in55 : Try.prog.info? 55 = some Try.t55 := by kernel_rfl
@[simp] theorem ty55 : TyOne Try.prog 55 24 none (some 134) false := tyOne_slice in55 Try.underlying55 rfl rfl
@[simp] theorem tz55 : TyZ Try.prog 55 [.nils] := tyZ in55 rfl rfl rfl rfl
theorem in64 : Try.prog.info? 64 = some Try.t64 := by kernel_rfl
@[simp] theorem ty64 : TyOne Try.prog 64 24 none (some 5) false := tyOne_slice in64 Try.underlying64 rfl rfl
@[simp] theorem tz64 : TyZ Try.prog 64 [.nils] := tyZ in64 rfl rfl rfl rfl
theorem in71 : Try.prog.info? 71 = some Try.t71 := by kernel_rfl
@[simp] theorem ty71 : TyOne Try.prog 71 24 none (some 246) false := tyOne_slice in71 Try.underlying71 rfl rfl
@[simp] theorem tz71 : TyZ Try.prog 71 [.nils] := tyZ in71 rfl rfl rfl rfl
theorem in72 : Try.prog.info? 72 = some Try.t72 := by kernel_rfl
@[simp] theorem ty72 : TyOne Try.prog 72 24 none (some 249) false := tyOne_slice in72 Try.underlying72 rfl rfl
@[simp] theorem tz72 : TyZ Try.prog 72 [.nils] := tyZ in72 rfl rfl rfl rfl
theorem in73 : Try.prog.info? 73 = some Try.t73 := by kernel_rfl
@[simp] theorem ty73 : TyOne Try.prog 73 24 none (some 253) false := tyOne_slice in73 Try.underlying73 rfl rfl
@[simp] theorem tz73 : TyZ Try.prog 73 [.nils] := tyZ in73 rfl rfl rfl rfl
theorem in74 : Try.prog.info? 74 = some Try.t74 := by kernel_rfl
@[simp] theorem ty74 : TyOne Try.prog 74 24 none (some 256) false := tyOne_slice in74 Try.underlying74 rfl rfl
@[simp] theorem tz74 : TyZ Try.prog 74 [.nils] := tyZ in74 rfl rfl rfl rfl
theorem in76 : Try.prog.info? 76 = some Try.t76 := by kernel_rfl
@[simp] theorem ty76 : TyAgg Try.prog 76 3 24 := tyAgg_struct in76 Try.underlying76 rfl rfl
@[simp] theorem tz76 : TyZ Try.prog 76 [.int .i64 0, .int .i64 0, .int .i64 0] := tyZ in76 rfl rfl rfl rfl
theorem in77 : Try.prog.info? 77 = some Try.t77 := by kernel_rfl
@[simp] theorem ty77 : TyOne Try.prog 77 24 none (some 259) false := tyOne_slice in77 Try.underlying77 rfl rfl
@[simp] theorem tz77 : TyZ Try.prog 77 [.nils] := tyZ in77 rfl rfl rfl rfl
theorem in79 : Try.prog.info? 79 = some Try.t79 := by kernel_rfl
@[simp] theorem ty79 : TyAgg Try.prog 79 5 48 := tyAgg_struct in79 Try.underlying79 rfl rfl
@[simp] theorem tz79 : TyZ Try.prog 79 [.str [], .int .i64 0, .int .i64 0, .int .i64 0, .int .i64 0] := tyZ in79 rfl rfl rfl rfl
theorem in80 : Try.prog.info? 80 = some Try.t80 := by kernel_rfl
@[simp] theorem ty80 : TyOne Try.prog 80 24 none (some 263) false := tyOne_slice in80 Try.underlying80 rfl rfl
@[simp] theorem tz80 : TyZ Try.prog 80 [.nils] := tyZ in80 rfl rfl rfl rfl
theorem in81 : Try.prog.info? 81 = some Try.t81 := by kernel_rfl
@[simp] theorem ty81 : TyOne Try.prog 81 24 none (some 267) false := tyOne_slice in81 Try.underlying81 rfl rfl
@[simp] theorem tz81 : TyZ Try.prog 81 [.nils] := tyZ in81 rfl rfl rfl rfl
theorem in83 : Try.prog.info? 83 = some Try.t83 := by kernel_rfl
@[simp] theorem ty83 : TyAgg Try.prog 83 20 304 := tyAgg_struct in83 Try.underlying83 rfl rfl
@[simp] theorem tz83 : TyZ Try.prog 83 [.nils, .nils, .nils, .nils, .int .i64 0, .int .i64 0, .int .i64 0, .nils, .int .i64 0, .str [], .int .i64 0, .int .i64 0, .int .i64 0, .int .i64 0, .nils, .int .i64 0, .int .i64 0, .nils, .str [], .nils] := tyZ in83 rfl rfl rfl rfl
theorem in84 : Try.prog.info? 84 = some Try.t84 := by kernel_rfl
@[simp] theorem ty84 : TyOne Try.prog 84 24 none (some 205) false := tyOne_slice in84 Try.underlying84 rfl rfl
@[simp] theorem tz84 : TyZ Try.prog 84 [.nils] := tyZ in84 rfl rfl rfl rfl
theorem in86 : Try.prog.info? 86 = some Try.t86 := by kernel_rfl
@[simp] theorem ty86 : TyAgg Try.prog 86 22 352 := tyAgg_struct in86 Try.underlying86 rfl rfl
@[simp] theorem tz86 : TyZ Try.prog 86 [.nils, .nils, .nils, .nils, .int .i64 0, .int .i64 0, .int .i64 0, .nils, .int .i64 0, .str [], .int .i64 0, .int .i64 0, .int .i64 0, .int .i64 0, .nils, .int .i64 0, .int .i64 0, .nils, .str [], .nils, .nils, .nils] := tyZ in86 rfl rfl rfl rfl
theorem in93 : Try.prog.info? 93 = some Try.t93 := by kernel_rfl
@[simp] theorem ty93 : TyOne Try.prog 93 8 none none false := tyOne_pointer in93 Try.underlying93 rfl rfl
@[simp] theorem tz93 : TyZ Try.prog 93 [.raw (.pointer none)] := tyZ in93 rfl rfl rfl rfl
theorem in95 : Try.prog.info? 95 = some Try.t95 := by kernel_rfl
@[simp] theorem ty95 : TyAgg Try.prog 95 3 24 := tyAgg_struct in95 Try.underlying95 rfl rfl
@[simp] theorem tz95 : TyZ Try.prog 95 [.int .i64 0, .int .i64 0, .int .i64 0] := tyZ in95 rfl rfl rfl rfl
theorem in99 : Try.prog.info? 99 = some Try.t99 := by kernel_rfl
@[simp] theorem ty99 : TyAgg Try.prog 99 2 16 := tyAgg_struct in99 Try.underlying99 rfl rfl
@[simp] theorem tz99 : TyZ Try.prog 99 [.int .i64 0, .int .i64 0] := tyZ in99 rfl rfl rfl rfl
theorem in103 : Try.prog.info? 103 = some Try.t103 := by kernel_rfl
@[simp] theorem ty103 : TyOne Try.prog 103 8 none none false := tyOne_func in103 Try.underlying103 rfl rfl
@[simp] theorem tz103 : TyZ Try.prog 103 [.raw .nilFunc] := tyZ in103 rfl rfl rfl rfl
theorem in106 : Try.prog.info? 106 = some Try.t106 := by kernel_rfl
@[simp] theorem ty106 : TyOne Try.prog 106 8 none none false := tyOne_func in106 Try.underlying106 rfl rfl
@[simp] theorem tz106 : TyZ Try.prog 106 [.raw .nilFunc] := tyZ in106 rfl rfl rfl rfl
theorem in108 : Try.prog.info? 108 = some Try.t108 := by kernel_rfl
@[simp] theorem ty108 : TyOne Try.prog 108 8 none none false := tyOne_func in108 Try.underlying108 rfl rfl
@[simp] theorem tz108 : TyZ Try.prog 108 [.raw .nilFunc] := tyZ in108 rfl rfl rfl rfl
theorem in115 : Try.prog.info? 115 = some Try.t115 := by kernel_rfl
@[simp] theorem ty115 : TyOne Try.prog 115 8 none none false := tyOne_pointer in115 Try.underlying115 rfl rfl
@[simp] theorem tz115 : TyZ Try.prog 115 [.raw (.pointer none)] := tyZ in115 rfl rfl rfl rfl
theorem in121 : Try.prog.info? 121 = some Try.t121 := by kernel_rfl
@[simp] theorem ty121 : TyOne Try.prog 121 8 none none false := tyOne_func in121 Try.underlying121 rfl rfl
@[simp] theorem tz121 : TyZ Try.prog 121 [.raw .nilFunc] := tyZ in121 rfl rfl rfl rfl
theorem in123 : Try.prog.info? 123 = some Try.t123 := by kernel_rfl
@[simp] theorem ty123 : TyOne Try.prog 123 8 none none false := tyOne_func in123 Try.underlying123 rfl rfl
@[simp] theorem tz123 : TyZ Try.prog 123 [.raw .nilFunc] := tyZ in123 rfl rfl rfl rfl
theorem in128 : Try.prog.info? 128 = some Try.t128 := by kernel_rfl
@[simp] theorem ty128 : TyAgg Try.prog 128 5 48 := tyAgg_struct in128 Try.underlying128 rfl rfl
@[simp] theorem tz128 : TyZ Try.prog 128 [.str [], .int .i64 0, .int .i64 0, .int .i64 0, .int .i64 0] := tyZ in128 rfl rfl rfl rfl
theorem in129 : Try.prog.info? 129 = some Try.t129 := by kernel_rfl
@[simp] theorem ty129 : TyOne Try.prog 129 8 none none false := tyOne_pointer in129 Try.underlying129 rfl rfl
@[simp] theorem tz129 : TyZ Try.prog 129 [.raw (.pointer none)] := tyZ in129 rfl rfl rfl rfl
theorem in133 : Try.prog.info? 133 = some Try.t133 := by kernel_rfl
@[simp] theorem ty133 : TyAgg Try.prog 133 6 96 := tyAgg_struct in133 Try.underlying133 rfl rfl
@[simp] theorem tz133 : TyZ Try.prog 133 [.nils, .int .i64 0, .bool false, .nils, .nils, .int .i64 0] := tyZ in133 rfl rfl rfl rfl
theorem in134 : Try.prog.info? 134 = some Try.t134 := by kernel_rfl
@[simp] theorem ty134 : TyAgg Try.prog 134 5 48 := tyAgg_struct in134 Try.underlying134 rfl rfl
@[simp] theorem tz134 : TyZ Try.prog 134 [.str [], .int .i64 0, .int .i64 0, .int .i64 0, .int .i64 0] := tyZ in134 rfl rfl rfl rfl
theorem in141 : Try.prog.info? 141 = some Try.t141 := by kernel_rfl
@[simp] theorem ty141 : TyOne Try.prog 141 8 none none false := tyOne_pointer in141 Try.underlying141 rfl rfl
@[simp] theorem tz141 : TyZ Try.prog 141 [.raw (.pointer none)] := tyZ in141 rfl rfl rfl rfl
theorem in156 : Try.prog.info? 156 = some Try.t156 := by kernel_rfl
@[simp] theorem ty156 : TyOne Try.prog 156 8 none none false := tyOne_pointer in156 Try.underlying156 rfl rfl
@[simp] theorem tz156 : TyZ Try.prog 156 [.raw (.pointer none)] := tyZ in156 rfl rfl rfl rfl
theorem in158 : Try.prog.info? 158 = some Try.t158 := by kernel_rfl
@[simp] theorem ty158 : TyAgg Try.prog 158 3 24 := tyAgg_struct in158 Try.underlying158 rfl rfl
@[simp] theorem tz158 : TyZ Try.prog 158 [.int .i64 0, .int .i64 0, .int .i64 0] := tyZ in158 rfl rfl rfl rfl
theorem in160 : Try.prog.info? 160 = some Try.t160 := by kernel_rfl
@[simp] theorem ty160 : TyOne Try.prog 160 8 none none false := tyOne_func in160 Try.underlying160 rfl rfl
@[simp] theorem tz160 : TyZ Try.prog 160 [.raw .nilFunc] := tyZ in160 rfl rfl rfl rfl
theorem in164 : Try.prog.info? 164 = some Try.t164 := by kernel_rfl
@[simp] theorem ty164 : TyOne Try.prog 164 8 (some .u64) none false := tyOne_int in164 Try.underlying164 rfl rfl
@[simp] theorem tz164 : TyZ Try.prog 164 [.int .u64 0] := tyZ in164 rfl rfl rfl rfl
theorem in166 : Try.prog.info? 166 = some Try.t166 := by kernel_rfl
@[simp] theorem ty166 : TyOne Try.prog 166 8 none none false := tyOne_func in166 Try.underlying166 rfl rfl
@[simp] theorem tz166 : TyZ Try.prog 166 [.raw .nilFunc] := tyZ in166 rfl rfl rfl rfl
theorem in171 : Try.prog.info? 171 = some Try.t171 := by kernel_rfl
@[simp] theorem ty171 : TyOne Try.prog 171 8 none none false := tyOne_pointer in171 Try.underlying171 rfl rfl
@[simp] theorem tz171 : TyZ Try.prog 171 [.raw (.pointer none)] := tyZ in171 rfl rfl rfl rfl
theorem in175 : Try.prog.info? 175 = some Try.t175 := by kernel_rfl
@[simp] theorem ty175 : TyAgg Try.prog 175 2 16 := tyAgg_struct in175 Try.underlying175 rfl rfl
@[simp] theorem tz175 : TyZ Try.prog 175 [.int .i64 0, .int .i64 0] := tyZ in175 rfl rfl rfl rfl
theorem in183 : Try.prog.info? 183 = some Try.t183 := by kernel_rfl
@[simp] theorem ty183 : TyOne Try.prog 183 8 (some .u64) none false := tyOne_int in183 Try.underlying183 rfl rfl
@[simp] theorem tz183 : TyZ Try.prog 183 [.int .u64 0] := tyZ in183 rfl rfl rfl rfl
theorem in185 : Try.prog.info? 185 = some Try.t185 := by kernel_rfl
@[simp] theorem ty185 : TyAgg Try.prog 185 3 40 := tyAgg_struct in185 Try.underlying185 rfl rfl
@[simp] theorem tz185 : TyZ Try.prog 185 [.nils, .int .i64 0, .int .u64 0] := tyZ in185 rfl rfl rfl rfl
theorem in191 : Try.prog.info? 191 = some Try.t191 := by kernel_rfl
@[simp] theorem ty191 : TyOne Try.prog 191 8 none none false := tyOne_pointer in191 Try.underlying191 rfl rfl
@[simp] theorem tz191 : TyZ Try.prog 191 [.raw (.pointer none)] := tyZ in191 rfl rfl rfl rfl
theorem in205 : Try.prog.info? 205 = some Try.t205 := by kernel_rfl
@[simp] theorem ty205 : TyAgg Try.prog 205 3 40 := tyAgg_struct in205 Try.underlying205 rfl rfl
@[simp] theorem tz205 : TyZ Try.prog 205 [.int .i64 0, .str [], .str []] := tyZ in205 rfl rfl rfl rfl
theorem in215 : Try.prog.info? 215 = some Try.t215 := by kernel_rfl
@[simp] theorem ty215 : TyOne Try.prog 215 8 (some .i64) none false := tyOne_int in215 Try.underlying215 rfl rfl
@[simp] theorem tz215 : TyZ Try.prog 215 [.int .i64 0] := tyZ in215 rfl rfl rfl rfl
theorem in223 : Try.prog.info? 223 = some Try.t223 := by kernel_rfl
@[simp] theorem ty223 : TyOne Try.prog 223 4 (some .u32) none false := tyOne_int in223 Try.underlying223 rfl rfl
@[simp] theorem tz223 : TyZ Try.prog 223 [.int .u32 0] := tyZ in223 rfl rfl rfl rfl
theorem in225 : Try.prog.info? 225 = some Try.t225 := by kernel_rfl
@[simp] theorem ty225 : TyOne Try.prog 225 24 none (some 3) false := tyOne_slice in225 Try.underlying225 rfl rfl
@[simp] theorem tz225 : TyZ Try.prog 225 [.nils] := tyZ in225 rfl rfl rfl rfl
theorem in241 : Try.prog.info? 241 = some Try.t241 := by kernel_rfl
@[simp] theorem ty241 : TyOne Try.prog 241 24 none (some 9) false := tyOne_slice in241 Try.underlying241 rfl rfl
@[simp] theorem tz241 : TyZ Try.prog 241 [.nils] := tyZ in241 rfl rfl rfl rfl
theorem in244 : Try.prog.info? 244 = some Try.t244 := by kernel_rfl
@[simp] theorem ty244 : TyAgg Try.prog 244 3 24 := tyAgg_struct in244 Try.underlying244 rfl rfl
@[simp] theorem tz244 : TyZ Try.prog 244 [.int .i64 0, .int .i64 0, .int .i64 0] := tyZ in244 rfl rfl rfl rfl
theorem in246 : Try.prog.info? 246 = some Try.t246 := by kernel_rfl
@[simp] theorem ty246 : TyAgg Try.prog 246 5 48 := tyAgg_struct in246 Try.underlying246 rfl rfl
@[simp] theorem tz246 : TyZ Try.prog 246 [.str [], .int .i64 0, .int .i64 0, .int .i64 0, .int .i64 0] := tyZ in246 rfl rfl rfl rfl
theorem in249 : Try.prog.info? 249 = some Try.t249 := by kernel_rfl
@[simp] theorem ty249 : TyAgg Try.prog 249 3 48 := tyAgg_struct in249 Try.underlying249 rfl rfl
@[simp] theorem tz249 : TyZ Try.prog 249 [.str [], .nils, .int .i64 0] := tyZ in249 rfl rfl rfl rfl
theorem in251 : Try.prog.info? 251 = some Try.t251 := by kernel_rfl
@[simp] theorem ty251 : TyOne Try.prog 251 24 none (some 294) false := tyOne_slice in251 Try.underlying251 rfl rfl
@[simp] theorem tz251 : TyZ Try.prog 251 [.nils] := tyZ in251 rfl rfl rfl rfl
theorem in253 : Try.prog.info? 253 = some Try.t253 := by kernel_rfl
@[simp] theorem ty253 : TyAgg Try.prog 253 5 64 := tyAgg_struct in253 Try.underlying253 rfl rfl
@[simp] theorem tz253 : TyZ Try.prog 253 [.str [], .int .i64 0, .int .i64 0, .int .i64 0, .nils] := tyZ in253 rfl rfl rfl rfl
theorem in256 : Try.prog.info? 256 = some Try.t256 := by kernel_rfl
@[simp] theorem ty256 : TyAgg Try.prog 256 5 48 := tyAgg_struct in256 Try.underlying256 rfl rfl
@[simp] theorem tz256 : TyZ Try.prog 256 [.str [], .int .i64 0, .int .i64 0, .int .i64 0, .int .i64 0] := tyZ in256 rfl rfl rfl rfl
theorem in259 : Try.prog.info? 259 = some Try.t259 := by kernel_rfl
@[simp] theorem ty259 : TyAgg Try.prog 259 5 48 := tyAgg_struct in259 Try.underlying259 rfl rfl
@[simp] theorem tz259 : TyZ Try.prog 259 [.str [], .int .i64 0, .int .i64 0, .int .i64 0, .int .i64 0] := tyZ in259 rfl rfl rfl rfl
theorem in261 : Try.prog.info? 261 = some Try.t261 := by kernel_rfl
@[simp] theorem ty261 : TyOne Try.prog 261 24 none (some 296) false := tyOne_slice in261 Try.underlying261 rfl rfl
@[simp] theorem tz261 : TyZ Try.prog 261 [.nils] := tyZ in261 rfl rfl rfl rfl
theorem in263 : Try.prog.info? 263 = some Try.t263 := by kernel_rfl
@[simp] theorem ty263 : TyAgg Try.prog 263 6 72 := tyAgg_struct in263 Try.underlying263 rfl rfl
@[simp] theorem tz263 : TyZ Try.prog 263 [.str [], .int .i64 0, .int .i64 0, .int .i64 0, .int .i64 0, .nils] := tyZ in263 rfl rfl rfl rfl
theorem in265 : Try.prog.info? 265 = some Try.t265 := by kernel_rfl
@[simp] theorem ty265 : TyOne Try.prog 265 24 none (some 298) false := tyOne_slice in265 Try.underlying265 rfl rfl
@[simp] theorem tz265 : TyZ Try.prog 265 [.nils] := tyZ in265 rfl rfl rfl rfl
theorem in267 : Try.prog.info? 267 = some Try.t267 := by kernel_rfl
@[simp] theorem ty267 : TyAgg Try.prog 267 4 48 := tyAgg_struct in267 Try.underlying267 rfl rfl
@[simp] theorem tz267 : TyZ Try.prog 267 [.int .i64 0, .nils, .int .i64 0, .int .i64 0] := tyZ in267 rfl rfl rfl rfl
theorem in277 : Try.prog.info? 277 = some Try.t277 := by kernel_rfl
@[simp] theorem ty277 : TyOne Try.prog 277 8 (some .u64) none false := tyOne_int in277 Try.underlying277 rfl rfl
@[simp] theorem tz277 : TyZ Try.prog 277 [.int .u64 0] := tyZ in277 rfl rfl rfl rfl
theorem in281 : Try.prog.info? 281 = some Try.t281 := by kernel_rfl
@[simp] theorem ty281 : TyOne Try.prog 281 8 none none false := tyOne_pointer in281 Try.underlying281 rfl rfl
@[simp] theorem tz281 : TyZ Try.prog 281 [.raw (.pointer none)] := tyZ in281 rfl rfl rfl rfl
theorem in294 : Try.prog.info? 294 = some Try.t294 := by kernel_rfl
@[simp] theorem ty294 : TyAgg Try.prog 294 2 24 := tyAgg_struct in294 Try.underlying294 rfl rfl
@[simp] theorem tz294 : TyZ Try.prog 294 [.str [], .int .i64 0] := tyZ in294 rfl rfl rfl rfl
theorem in296 : Try.prog.info? 296 = some Try.t296 := by kernel_rfl
@[simp] theorem ty296 : TyAgg Try.prog 296 2 16 := tyAgg_struct in296 Try.underlying296 rfl rfl
@[simp] theorem tz296 : TyZ Try.prog 296 [.int .i64 0, .int .i64 0] := tyZ in296 rfl rfl rfl rfl
theorem in298 : Try.prog.info? 298 = some Try.t298 := by kernel_rfl
@[simp] theorem ty298 : TyAgg Try.prog 298 2 16 := tyAgg_struct in298 Try.underlying298 rfl rfl
@[simp] theorem tz298 : TyZ Try.prog 298 [.int .i64 0, .int .i64 0] := tyZ in298 rfl rfl rfl rfl
theorem in301 : Try.prog.info? 301 = some Try.t301 := by kernel_rfl
@[simp] theorem ty301 : TyOne Try.prog 301 8 none none false := tyOne_pointer in301 Try.underlying301 rfl rfl
@[simp] theorem tz301 : TyZ Try.prog 301 [.raw (.pointer none)] := tyZ in301 rfl rfl rfl rfl
theorem in319 : Try.prog.info? 319 = some Try.t319 := by kernel_rfl
@[simp] theorem ty319 : TyOne Try.prog 319 1 (some .u8) none false := tyOne_int in319 Try.underlying319 rfl rfl
@[simp] theorem tz319 : TyZ Try.prog 319 [.int .u8 0] := tyZ in319 rfl rfl rfl rfl
@[simp] theorem ts8 : structT Try.prog 8 = true := structOf Try.underlying8 (by simp [in2, in3, in4, in6])
@[simp] theorem fl8_0 : fldT Try.prog 8 0 = some (0, false, 1) := fldOf Try.underlying8 rfl rfl ty2.1 ty2.2.1 ty2.2.2.1
@[simp] theorem fl8_1 : fldT Try.prog 8 1 = some (1, false, 1) := fldOf Try.underlying8 rfl rfl ty3.1 ty3.2.1 ty3.2.2.1
@[simp] theorem fl8_2 : fldT Try.prog 8 2 = some (2, false, 1) := fldOf Try.underlying8 rfl rfl ty4.1 ty4.2.1 ty4.2.2.1
@[simp] theorem fl8_3 : fldT Try.prog 8 3 = some (3, false, 1) := fldOf Try.underlying8 rfl rfl ty6.1 ty6.2.1 ty6.2.2.1
@[simp] theorem ts14 : structT Try.prog 14 = true := structOf Try.underlying14 (by simp [in12, in9])
@[simp] theorem fl14_0 : fldT Try.prog 14 0 = some (0, false, 1) := fldOf Try.underlying14 rfl rfl ty9.1 ty9.2.1 ty9.2.2.1
@[simp] theorem fl14_1 : fldT Try.prog 14 1 = some (1, false, 1) := fldOf Try.underlying14 rfl rfl ty12.1 ty12.2.1 ty12.2.2.1
@[simp] theorem ts19 : structT Try.prog 19 = true := structOf Try.underlying19 (by simp [in17])
@[simp] theorem fl19_0 : fldT Try.prog 19 0 = some (0, false, 1) := fldOf Try.underlying19 rfl rfl ty17.1 ty17.2.1 ty17.2.2.1
@[simp] theorem ts24 : structT Try.prog 24 = true := structOf Try.underlying24 (by simp [in22, in9])
@[simp] theorem fl24_0 : fldT Try.prog 24 0 = some (0, false, 1) := fldOf Try.underlying24 rfl rfl ty9.1 ty9.2.1 ty9.2.2.1
@[simp] theorem fl24_1 : fldT Try.prog 24 1 = some (1, false, 1) := fldOf Try.underlying24 rfl rfl ty22.1 ty22.2.1 ty22.2.2.1
@[simp] theorem ts29 : structT Try.prog 29 = true := structOf Try.underlying29 (by simp [in2, in26, in27])
@[simp] theorem fl29_0 : fldT Try.prog 29 0 = some (0, false, 1) := fldOf Try.underlying29 rfl rfl ty2.1 ty2.2.1 ty2.2.2.1
@[simp] theorem fl29_1 : fldT Try.prog 29 1 = some (1, false, 1) := fldOf Try.underlying29 rfl rfl ty2.1 ty2.2.1 ty2.2.2.1
@[simp] theorem fl29_2 : fldT Try.prog 29 2 = some (2, false, 1) := fldOf Try.underlying29 rfl rfl ty26.1 ty26.2.1 ty26.2.2.1
@[simp] theorem fl29_3 : fldT Try.prog 29 3 = some (3, false, 1) := fldOf Try.underlying29 rfl rfl ty27.1 ty27.2.1 ty27.2.2.1
@[simp] theorem ts34 : structT Try.prog 34 = true := structOf Try.underlying34 (by simp [in32, in9])
@[simp] theorem fl34_0 : fldT Try.prog 34 0 = some (0, false, 1) := fldOf Try.underlying34 rfl rfl ty9.1 ty9.2.1 ty9.2.2.1
@[simp] theorem fl34_1 : fldT Try.prog 34 1 = some (1, false, 1) := fldOf Try.underlying34 rfl rfl ty32.1 ty32.2.1 ty32.2.2.1
@[simp] theorem ts45 : structT Try.prog 45 = true := structOf Try.underlying45 (by simp [in2, in26, in43])
@[simp] theorem fl45_0 : fldT Try.prog 45 0 = some (0, false, 1) := fldOf Try.underlying45 rfl rfl ty2.1 ty2.2.1 ty2.2.2.1
@[simp] theorem fl45_1 : fldT Try.prog 45 1 = some (1, false, 1) := fldOf Try.underlying45 rfl rfl ty2.1 ty2.2.1 ty2.2.2.1
@[simp] theorem fl45_2 : fldT Try.prog 45 2 = some (2, false, 1) := fldOf Try.underlying45 rfl rfl ty26.1 ty26.2.1 ty26.2.2.1
@[simp] theorem fl45_3 : fldT Try.prog 45 3 = some (3, false, 1) := fldOf Try.underlying45 rfl rfl ty43.1 ty43.2.1 ty43.2.2.1
@[simp] theorem ts76 : structT Try.prog 76 = true := structOf Try.underlying76 (by simp [in2])
@[simp] theorem fl76_0 : fldT Try.prog 76 0 = some (0, false, 1) := fldOf Try.underlying76 rfl rfl ty2.1 ty2.2.1 ty2.2.2.1
@[simp] theorem fl76_1 : fldT Try.prog 76 1 = some (1, false, 1) := fldOf Try.underlying76 rfl rfl ty2.1 ty2.2.1 ty2.2.2.1
@[simp] theorem fl76_2 : fldT Try.prog 76 2 = some (2, false, 1) := fldOf Try.underlying76 rfl rfl ty2.1 ty2.2.1 ty2.2.2.1
@[simp] theorem ts79 : structT Try.prog 79 = true := structOf Try.underlying79 (by simp [in2, in9])
@[simp] theorem fl79_0 : fldT Try.prog 79 0 = some (0, false, 1) := fldOf Try.underlying79 rfl rfl ty9.1 ty9.2.1 ty9.2.2.1
@[simp] theorem fl79_1 : fldT Try.prog 79 1 = some (1, false, 1) := fldOf Try.underlying79 rfl rfl ty2.1 ty2.2.1 ty2.2.2.1
@[simp] theorem fl79_2 : fldT Try.prog 79 2 = some (2, false, 1) := fldOf Try.underlying79 rfl rfl ty2.1 ty2.2.1 ty2.2.2.1
@[simp] theorem fl79_3 : fldT Try.prog 79 3 = some (3, false, 1) := fldOf Try.underlying79 rfl rfl ty2.1 ty2.2.1 ty2.2.2.1
@[simp] theorem fl79_4 : fldT Try.prog 79 4 = some (4, false, 1) := fldOf Try.underlying79 rfl rfl ty2.1 ty2.2.1 ty2.2.2.1
@[simp] theorem ts83 : structT Try.prog 83 = true := structOf Try.underlying83 (by simp [in2, in34, in71, in72, in73, in74, in76, in77, in79, in80, in81])
@[simp] theorem fl83_0 : fldT Try.prog 83 0 = some (0, false, 1) := fldOf Try.underlying83 rfl rfl ty71.1 ty71.2.1 ty71.2.2.1
@[simp] theorem fl83_1 : fldT Try.prog 83 1 = some (1, false, 1) := fldOf Try.underlying83 rfl rfl ty72.1 ty72.2.1 ty72.2.2.1
@[simp] theorem fl83_2 : fldT Try.prog 83 2 = some (2, false, 1) := fldOf Try.underlying83 rfl rfl ty73.1 ty73.2.1 ty73.2.2.1
@[simp] theorem fl83_3 : fldT Try.prog 83 3 = some (3, false, 1) := fldOf Try.underlying83 rfl rfl ty74.1 ty74.2.1 ty74.2.2.1
@[simp] theorem fl83_4 : fldT Try.prog 83 4 = some (4, true, 3) := fldOf Try.underlying83 rfl rfl ty76.1 ty76.2.1 ty76.2.2.1
@[simp] theorem fl83_5 : fldT Try.prog 83 5 = some (7, false, 1) := fldOf Try.underlying83 rfl rfl ty77.1 ty77.2.1 ty77.2.2.1
@[simp] theorem fl83_6 : fldT Try.prog 83 6 = some (8, false, 1) := fldOf Try.underlying83 rfl rfl ty2.1 ty2.2.1 ty2.2.2.1
@[simp] theorem fl83_7 : fldT Try.prog 83 7 = some (9, true, 5) := fldOf Try.underlying83 rfl rfl ty79.1 ty79.2.1 ty79.2.2.1
@[simp] theorem fl83_8 : fldT Try.prog 83 8 = some (14, false, 1) := fldOf Try.underlying83 rfl rfl ty80.1 ty80.2.1 ty80.2.2.1
@[simp] theorem fl83_9 : fldT Try.prog 83 9 = some (15, false, 1) := fldOf Try.underlying83 rfl rfl ty2.1 ty2.2.1 ty2.2.2.1
@[simp] theorem fl83_10 : fldT Try.prog 83 10 = some (16, false, 1) := fldOf Try.underlying83 rfl rfl ty2.1 ty2.2.1 ty2.2.2.1
@[simp] theorem fl83_11 : fldT Try.prog 83 11 = some (17, false, 1) := fldOf Try.underlying83 rfl rfl ty81.1 ty81.2.1 ty81.2.2.1
@[simp] theorem fl83_12 : fldT Try.prog 83 12 = some (18, true, 2) := fldOf Try.underlying83 rfl rfl ty34.1 ty34.2.1 ty34.2.2.1
@[simp] theorem ts86 : structT Try.prog 86 = true := structOf Try.underlying86 (by simp [in55, in83, in84])
@[simp] theorem fl86_0 : fldT Try.prog 86 0 = some (0, true, 20) := fldOf Try.underlying86 rfl rfl ty83.1 ty83.2.1 ty83.2.2.1
@[simp] theorem fl86_1 : fldT Try.prog 86 1 = some (20, false, 1) := fldOf Try.underlying86 rfl rfl ty55.1 ty55.2.1 ty55.2.2.1
@[simp] theorem fl86_2 : fldT Try.prog 86 2 = some (21, false, 1) := fldOf Try.underlying86 rfl rfl ty84.1 ty84.2.1 ty84.2.2.1
@[simp] theorem ts95 : structT Try.prog 95 = true := structOf Try.underlying95 (by simp [in2])
@[simp] theorem fl95_0 : fldT Try.prog 95 0 = some (0, false, 1) := fldOf Try.underlying95 rfl rfl ty2.1 ty2.2.1 ty2.2.2.1
@[simp] theorem fl95_1 : fldT Try.prog 95 1 = some (1, false, 1) := fldOf Try.underlying95 rfl rfl ty2.1 ty2.2.1 ty2.2.2.1
@[simp] theorem fl95_2 : fldT Try.prog 95 2 = some (2, false, 1) := fldOf Try.underlying95 rfl rfl ty2.1 ty2.2.1 ty2.2.2.1
@[simp] theorem ts99 : structT Try.prog 99 = true := structOf Try.underlying99 (by simp [in2])
@[simp] theorem fl99_0 : fldT Try.prog 99 0 = some (0, false, 1) := fldOf Try.underlying99 rfl rfl ty2.1 ty2.2.1 ty2.2.2.1
@[simp] theorem fl99_1 : fldT Try.prog 99 1 = some (1, false, 1) := fldOf Try.underlying99 rfl rfl ty2.1 ty2.2.1 ty2.2.2.1
@[simp] theorem ts128 : structT Try.prog 128 = true := structOf Try.underlying128 (by simp [in2, in9])
@[simp] theorem fl128_0 : fldT Try.prog 128 0 = some (0, false, 1) := fldOf Try.underlying128 rfl rfl ty9.1 ty9.2.1 ty9.2.2.1
@[simp] theorem fl128_1 : fldT Try.prog 128 1 = some (1, false, 1) := fldOf Try.underlying128 rfl rfl ty2.1 ty2.2.1 ty2.2.2.1
@[simp] theorem fl128_2 : fldT Try.prog 128 2 = some (2, false, 1) := fldOf Try.underlying128 rfl rfl ty2.1 ty2.2.1 ty2.2.2.1
@[simp] theorem fl128_3 : fldT Try.prog 128 3 = some (3, false, 1) := fldOf Try.underlying128 rfl rfl ty2.1 ty2.2.1 ty2.2.2.1
@[simp] theorem fl128_4 : fldT Try.prog 128 4 = some (4, false, 1) := fldOf Try.underlying128 rfl rfl ty2.1 ty2.2.1 ty2.2.2.1
@[simp] theorem ts133 : structT Try.prog 133 = true := structOf Try.underlying133 (by simp [in2, in26, in4, in55])
@[simp] theorem fl133_0 : fldT Try.prog 133 0 = some (0, false, 1) := fldOf Try.underlying133 rfl rfl ty55.1 ty55.2.1 ty55.2.2.1
@[simp] theorem fl133_1 : fldT Try.prog 133 1 = some (1, false, 1) := fldOf Try.underlying133 rfl rfl ty2.1 ty2.2.1 ty2.2.2.1
@[simp] theorem fl133_2 : fldT Try.prog 133 2 = some (2, false, 1) := fldOf Try.underlying133 rfl rfl ty4.1 ty4.2.1 ty4.2.2.1
@[simp] theorem fl133_3 : fldT Try.prog 133 3 = some (3, false, 1) := fldOf Try.underlying133 rfl rfl ty26.1 ty26.2.1 ty26.2.2.1
@[simp] theorem fl133_4 : fldT Try.prog 133 4 = some (4, false, 1) := fldOf Try.underlying133 rfl rfl ty26.1 ty26.2.1 ty26.2.2.1
@[simp] theorem fl133_5 : fldT Try.prog 133 5 = some (5, false, 1) := fldOf Try.underlying133 rfl rfl ty2.1 ty2.2.1 ty2.2.2.1
@[simp] theorem ts134 : structT Try.prog 134 = true := structOf Try.underlying134 (by simp [in2, in9])
@[simp] theorem fl134_0 : fldT Try.prog 134 0 = some (0, false, 1) := fldOf Try.underlying134 rfl rfl ty9.1 ty9.2.1 ty9.2.2.1
@[simp] theorem fl134_1 : fldT Try.prog 134 1 = some (1, false, 1) := fldOf Try.underlying134 rfl rfl ty2.1 ty2.2.1 ty2.2.2.1
@[simp] theorem fl134_2 : fldT Try.prog 134 2 = some (2, false, 1) := fldOf Try.underlying134 rfl rfl ty2.1 ty2.2.1 ty2.2.2.1
@[simp] theorem fl134_3 : fldT Try.prog 134 3 = some (3, false, 1) := fldOf Try.underlying134 rfl rfl ty2.1 ty2.2.1 ty2.2.2.1
@[simp] theorem fl134_4 : fldT Try.prog 134 4 = some (4, false, 1) := fldOf Try.underlying134 rfl rfl ty2.1 ty2.2.1 ty2.2.2.1
@[simp] theorem ts158 : structT Try.prog 158 = true := structOf Try.underlying158 (by simp [in2])
@[simp] theorem fl158_0 : fldT Try.prog 158 0 = some (0, false, 1) := fldOf Try.underlying158 rfl rfl ty2.1 ty2.2.1 ty2.2.2.1
@[simp] theorem fl158_1 : fldT Try.prog 158 1 = some (1, false, 1) := fldOf Try.underlying158 rfl rfl ty2.1 ty2.2.1 ty2.2.2.1
@[simp] theorem fl158_2 : fldT Try.prog 158 2 = some (2, false, 1) := fldOf Try.underlying158 rfl rfl ty2.1 ty2.2.1 ty2.2.2.1
@[simp] theorem ts175 : structT Try.prog 175 = true := structOf Try.underlying175 (by simp [in2])
@[simp] theorem fl175_0 : fldT Try.prog 175 0 = some (0, false, 1) := fldOf Try.underlying175 rfl rfl ty2.1 ty2.2.1 ty2.2.2.1
@[simp] theorem fl175_1 : fldT Try.prog 175 1 = some (1, false, 1) := fldOf Try.underlying175 rfl rfl ty2.1 ty2.2.1 ty2.2.2.1
@[simp] theorem ts185 : structT Try.prog 185 = true := structOf Try.underlying185 (by simp [in183, in3, in64])
@[simp] theorem fl185_0 : fldT Try.prog 185 0 = some (0, false, 1) := fldOf Try.underlying185 rfl rfl ty64.1 ty64.2.1 ty64.2.2.1
@[simp] theorem fl185_1 : fldT Try.prog 185 1 = some (1, false, 1) := fldOf Try.underlying185 rfl rfl ty3.1 ty3.2.1 ty3.2.2.1
@[simp] theorem fl185_2 : fldT Try.prog 185 2 = some (2, false, 1) := fldOf Try.underlying185 rfl rfl ty183.1 ty183.2.1 ty183.2.2.1
@[simp] theorem ts205 : structT Try.prog 205 = true := structOf Try.underlying205 (by simp [in2, in9])
@[simp] theorem fl205_0 : fldT Try.prog 205 0 = some (0, false, 1) := fldOf Try.underlying205 rfl rfl ty2.1 ty2.2.1 ty2.2.2.1
@[simp] theorem fl205_1 : fldT Try.prog 205 1 = some (1, false, 1) := fldOf Try.underlying205 rfl rfl ty9.1 ty9.2.1 ty9.2.2.1
@[simp] theorem fl205_2 : fldT Try.prog 205 2 = some (2, false, 1) := fldOf Try.underlying205 rfl rfl ty9.1 ty9.2.1 ty9.2.2.1
@[simp] theorem ts244 : structT Try.prog 244 = true := structOf Try.underlying244 (by simp [in2])
@[simp] theorem fl244_0 : fldT Try.prog 244 0 = some (0, false, 1) := fldOf Try.underlying244 rfl rfl ty2.1 ty2.2.1 ty2.2.2.1
@[simp] theorem fl244_1 : fldT Try.prog 244 1 = some (1, false, 1) := fldOf Try.underlying244 rfl rfl ty2.1 ty2.2.1 ty2.2.2.1
@[simp] theorem fl244_2 : fldT Try.prog 244 2 = some (2, false, 1) := fldOf Try.underlying244 rfl rfl ty2.1 ty2.2.1 ty2.2.2.1
@[simp] theorem ts246 : structT Try.prog 246 = true := structOf Try.underlying246 (by simp [in2, in244, in9])
@[simp] theorem fl246_0 : fldT Try.prog 246 0 = some (0, false, 1) := fldOf Try.underlying246 rfl rfl ty9.1 ty9.2.1 ty9.2.2.1
@[simp] theorem fl246_1 : fldT Try.prog 246 1 = some (1, false, 1) := fldOf Try.underlying246 rfl rfl ty2.1 ty2.2.1 ty2.2.2.1
@[simp] theorem fl246_2 : fldT Try.prog 246 2 = some (2, true, 3) := fldOf Try.underlying246 rfl rfl ty244.1 ty244.2.1 ty244.2.2.1
@[simp] theorem ts249 : structT Try.prog 249 = true := structOf Try.underlying249 (by simp [in2, in241, in9])
@[simp] theorem fl249_0 : fldT Try.prog 249 0 = some (0, false, 1) := fldOf Try.underlying249 rfl rfl ty9.1 ty9.2.1 ty9.2.2.1
@[simp] theorem fl249_1 : fldT Try.prog 249 1 = some (1, false, 1) := fldOf Try.underlying249 rfl rfl ty241.1 ty241.2.1 ty241.2.2.1
@[simp] theorem fl249_2 : fldT Try.prog 249 2 = some (2, false, 1) := fldOf Try.underlying249 rfl rfl ty2.1 ty2.2.1 ty2.2.2.1
@[simp] theorem ts253 : structT Try.prog 253 = true := structOf Try.underlying253 (by simp [in2, in251, in9])
@[simp] theorem fl253_0 : fldT Try.prog 253 0 = some (0, false, 1) := fldOf Try.underlying253 rfl rfl ty9.1 ty9.2.1 ty9.2.2.1
@[simp] theorem fl253_1 : fldT Try.prog 253 1 = some (1, false, 1) := fldOf Try.underlying253 rfl rfl ty2.1 ty2.2.1 ty2.2.2.1
@[simp] theorem fl253_2 : fldT Try.prog 253 2 = some (2, false, 1) := fldOf Try.underlying253 rfl rfl ty2.1 ty2.2.1 ty2.2.2.1
@[simp] theorem fl253_3 : fldT Try.prog 253 3 = some (3, false, 1) := fldOf Try.underlying253 rfl rfl ty2.1 ty2.2.1 ty2.2.2.1
@[simp] theorem fl253_4 : fldT Try.prog 253 4 = some (4, false, 1) := fldOf Try.underlying253 rfl rfl ty251.1 ty251.2.1 ty251.2.2.1
@[simp] theorem ts256 : structT Try.prog 256 = true := structOf Try.underlying256 (by simp [in2, in9])
@[simp] theorem fl256_0 : fldT Try.prog 256 0 = some (0, false, 1) := fldOf Try.underlying256 rfl rfl ty9.1 ty9.2.1 ty9.2.2.1
@[simp] theorem fl256_1 : fldT Try.prog 256 1 = some (1, false, 1) := fldOf Try.underlying256 rfl rfl ty2.1 ty2.2.1 ty2.2.2.1
@[simp] theorem fl256_2 : fldT Try.prog 256 2 = some (2, false, 1) := fldOf Try.underlying256 rfl rfl ty2.1 ty2.2.1 ty2.2.2.1
@[simp] theorem fl256_3 : fldT Try.prog 256 3 = some (3, false, 1) := fldOf Try.underlying256 rfl rfl ty2.1 ty2.2.1 ty2.2.2.1
@[simp] theorem fl256_4 : fldT Try.prog 256 4 = some (4, false, 1) := fldOf Try.underlying256 rfl rfl ty2.1 ty2.2.1 ty2.2.2.1
@[simp] theorem ts259 : structT Try.prog 259 = true := structOf Try.underlying259 (by simp [in2, in9])
@[simp] theorem fl259_0 : fldT Try.prog 259 0 = some (0, false, 1) := fldOf Try.underlying259 rfl rfl ty9.1 ty9.2.1 ty9.2.2.1
@[simp] theorem fl259_1 : fldT Try.prog 259 1 = some (1, false, 1) := fldOf Try.underlying259 rfl rfl ty2.1 ty2.2.1 ty2.2.2.1
@[simp] theorem fl259_2 : fldT Try.prog 259 2 = some (2, false, 1) := fldOf Try.underlying259 rfl rfl ty2.1 ty2.2.1 ty2.2.2.1
@[simp] theorem fl259_3 : fldT Try.prog 259 3 = some (3, false, 1) := fldOf Try.underlying259 rfl rfl ty2.1 ty2.2.1 ty2.2.2.1
@[simp] theorem fl259_4 : fldT Try.prog 259 4 = some (4, false, 1) := fldOf Try.underlying259 rfl rfl ty2.1 ty2.2.1 ty2.2.2.1
@[simp] theorem ts263 : structT Try.prog 263 = true := structOf Try.underlying263 (by simp [in2, in261, in9])
@[simp] theorem fl263_0 : fldT Try.prog 263 0 = some (0, false, 1) := fldOf Try.underlying263 rfl rfl ty9.1 ty9.2.1 ty9.2.2.1
@[simp] theorem fl263_1 : fldT Try.prog 263 1 = some (1, false, 1) := fldOf Try.underlying263 rfl rfl ty2.1 ty2.2.1 ty2.2.2.1
@[simp] theorem fl263_2 : fldT Try.prog 263 2 = some (2, false, 1) := fldOf Try.underlying263 rfl rfl ty2.1 ty2.2.1 ty2.2.2.1
@[simp] theorem fl263_3 : fldT Try.prog 263 3 = some (3, false, 1) := fldOf Try.underlying263 rfl rfl ty2.1 ty2.2.1 ty2.2.2.1
@[simp] theorem fl263_4 : fldT Try.prog 263 4 = some (4, false, 1) := fldOf Try.underlying263 rfl rfl ty2.1 ty2.2.1 ty2.2.2.1
@[simp] theorem fl263_5 : fldT Try.prog 263 5 = some (5, false, 1) := fldOf Try.underlying263 rfl rfl ty261.1 ty261.2.1 ty261.2.2.1
@[simp] theorem ts267 : structT Try.prog 267 = true := structOf Try.underlying267 (by simp [in2, in265])
@[simp] theorem fl267_0 : fldT Try.prog 267 0 = some (0, false, 1) := fldOf Try.underlying267 rfl rfl ty2.1 ty2.2.1 ty2.2.2.1
@[simp] theorem fl267_1 : fldT Try.prog 267 1 = some (1, false, 1) := fldOf Try.underlying267 rfl rfl ty265.1 ty265.2.1 ty265.2.2.1
@[simp] theorem fl267_2 : fldT Try.prog 267 2 = some (2, false, 1) := fldOf Try.underlying267 rfl rfl ty2.1 ty2.2.1 ty2.2.2.1
@[simp] theorem fl267_3 : fldT Try.prog 267 3 = some (3, false, 1) := fldOf Try.underlying267 rfl rfl ty2.1 ty2.2.1 ty2.2.2.1
@[simp] theorem ts294 : structT Try.prog 294 = true := structOf Try.underlying294 (by simp [in2, in9])
@[simp] theorem fl294_0 : fldT Try.prog 294 0 = some (0, false, 1) := fldOf Try.underlying294 rfl rfl ty9.1 ty9.2.1 ty9.2.2.1
@[simp] theorem fl294_1 : fldT Try.prog 294 1 = some (1, false, 1) := fldOf Try.underlying294 rfl rfl ty2.1 ty2.2.1 ty2.2.2.1
@[simp] theorem ts296 : structT Try.prog 296 = true := structOf Try.underlying296 (by simp [in2])
@[simp] theorem fl296_0 : fldT Try.prog 296 0 = some (0, false, 1) := fldOf Try.underlying296 rfl rfl ty2.1 ty2.2.1 ty2.2.2.1
@[simp] theorem fl296_1 : fldT Try.prog 296 1 = some (1, false, 1) := fldOf Try.underlying296 rfl rfl ty2.1 ty2.2.1 ty2.2.2.1
@[simp] theorem ts298 : structT Try.prog 298 = true := structOf Try.underlying298 (by simp [in2])
@[simp] theorem fl298_0 : fldT Try.prog 298 0 = some (0, false, 1) := fldOf Try.underlying298 rfl rfl ty2.1 ty2.2.1 ty2.2.2.1
@[simp] theorem fl298_1 : fldT Try.prog 298 1 = some (1, false, 1) := fldOf Try.underlying298 rfl rfl ty2.1 ty2.2.1 ty2.2.2.1
@[simp] theorem eq95 : EqT Try.prog 95 [1, 1, 1] := eqT_struct Try.underlying95 Try.stoodInHeld95 Try.eqGuardType95 (by simp [fieldsOk])
@[simp] theorem res_3 : Try.f3.results.toList = [.tmp 6] := rfl
@[simp] theorem res_4 : Try.f4.results.toList = [.tmp 6] := rfl
@[simp] theorem res_5 : Try.f5.results.toList = [.tmp 4] := rfl
@[simp] theorem res_6 : Try.f6.results.toList = [.tmp 4] := rfl
@[simp] theorem res_7 : Try.f7.results.toList = [.tmp 4] := rfl
@[simp] theorem res_8 : Try.f8.results.toList = [.tmp 4] := rfl
@[simp] theorem res_9 : Try.f9.results.toList = [.tmp 0] := rfl
@[simp] theorem res_10 : Try.f10.results.toList = [.tmp 4] := rfl
@[simp] theorem res_11 : Try.f11.results.toList = [.cell 6 29, .tmp 7] := rfl
@[simp] theorem res_12 : Try.f12.results.toList = [.cell 2 34] := rfl
@[simp] theorem res_13 : Try.f13.results.toList = [.cell 6 29, .tmp 7] := rfl
@[simp] theorem res_14 : Try.f14.results.toList = [.tmp 4] := rfl
@[simp] theorem res_15 : Try.f15.results.toList = [.tmp 4] := rfl
@[simp] theorem res_16 : Try.f16.results.toList = [.tmp 4] := rfl
@[simp] theorem res_17 : Try.f17.results.toList = [.tmp 4] := rfl
@[simp] theorem res_18 : Try.f18.results.toList = [.tmp 4] := rfl
@[simp] theorem res_19 : Try.f19.results.toList = [.tmp 6, .tmp 7] := rfl
@[simp] theorem res_20 : Try.f20.results.toList = [.tmp 6, .tmp 7] := rfl
@[simp] theorem res_21 : Try.f21.results.toList = [.tmp 4] := rfl
@[simp] theorem res_22 : Try.f22.results.toList = [.cell 4 34, .tmp 5] := rfl
@[simp] theorem res_23 : Try.f23.results.toList = [.cell 2 29] := rfl
@[simp] theorem res_24 : Try.f24.results.toList = [.cell 4 34, .tmp 5] := rfl
@[simp] theorem res_25 : Try.f25.results.toList = [.tmp 4] := rfl
@[simp] theorem res_26 : Try.f26.results.toList = [.tmp 4] := rfl
@[simp] theorem res_27 : Try.f27.results.toList = [.tmp 4, .tmp 5] := rfl
@[simp] theorem res_28 : Try.f28.results.toList = [.tmp 2] := rfl
@[simp] theorem res_29 : Try.f29.results.toList = [.tmp 4, .tmp 5] := rfl
@[simp] theorem res_30 : Try.f30.results.toList = [.tmp 4] := rfl
@[simp] theorem res_31 : Try.f31.results.toList = [.tmp 4] := rfl
@[simp] theorem res_32 : Try.f32.results.toList = [.tmp 4] := rfl
@[simp] theorem res_33 : Try.f33.results.toList = [.tmp 4] := rfl
@[simp] theorem res_34 : Try.f34.results.toList = [.tmp 4] := rfl
@[simp] theorem res_35 : Try.f35.results.toList = [.tmp 4, .tmp 5, .tmp 6] := rfl
@[simp] theorem res_36 : Try.f36.results.toList = [.tmp 4, .tmp 5, .tmp 6] := rfl
@[simp] theorem res_37 : Try.f37.results.toList = [.tmp 4] := rfl
@[simp] theorem res_38 : Try.f38.results.toList = [.tmp 2] := rfl
@[simp] theorem res_39 : Try.f39.results.toList = [.tmp 6] := rfl
@[simp] theorem res_40 : Try.f40.results.toList = [.tmp 6, .tmp 7] := rfl
@[simp] theorem res_41 : Try.f41.results.toList = [.tmp 2, .tmp 3] := rfl
@[simp] theorem res_42 : Try.f42.results.toList = [.cell 0 86] := rfl
@[simp] theorem res_43 : Try.f43.results.toList = [.cell 0 86] := rfl
@[simp] theorem res_44 : Try.f44.results.toList = [.tmp 4] := rfl
@[simp] theorem res_45 : Try.f45.results.toList = [.tmp 4] := rfl
@[simp] theorem res_46 : Try.f46.results.toList = [.tmp 4] := rfl
@[simp] theorem res_47 : Try.f47.results.toList = [.tmp 4] := rfl
@[simp] theorem res_48 : Try.f48.results.toList = [.tmp 6] := rfl
@[simp] theorem res_49 : Try.f49.results.toList = [.tmp 4] := rfl
@[simp] theorem res_50 : Try.f50.results.toList = [.tmp 4] := rfl
@[simp] theorem res_51 : Try.f51.results.toList = [.tmp 2] := rfl
@[simp] theorem res_52 : Try.f52.results.toList = [.tmp 6] := rfl
@[simp] theorem res_53 : Try.f53.results.toList = [.tmp 4] := rfl
@[simp] theorem res_54 : Try.f54.results.toList = [.tmp 2] := rfl
@[simp] theorem res_55 : Try.f55.results.toList = [.tmp 8, .tmp 9] := rfl
@[simp] theorem res_56 : Try.f56.results.toList = [.tmp 2] := rfl
@[simp] theorem res_57 : Try.f57.results.toList = [] := rfl
@[simp] theorem res_58 : Try.f58.results.toList = [.tmp 4] := rfl
@[simp] theorem res_59 : Try.f59.results.toList = [.tmp 4] := rfl
@[simp] theorem res_60 : Try.f60.results.toList = [.tmp 4] := rfl
@[simp] theorem res_61 : Try.f61.results.toList = [.tmp 4] := rfl
@[simp] theorem res_62 : Try.f62.results.toList = [.tmp 4] := rfl
@[simp] theorem res_63 : Try.f63.results.toList = [.tmp 4] := rfl
@[simp] theorem res_64 : Try.f64.results.toList = [.tmp 2] := rfl
@[simp] theorem res_65 : Try.f65.results.toList = [.tmp 4] := rfl
@[simp] theorem res_66 : Try.f66.results.toList = [.tmp 4] := rfl
@[simp] theorem res_67 : Try.f67.results.toList = [.tmp 2] := rfl
@[simp] theorem res_68 : Try.f68.results.toList = [.tmp 6] := rfl
@[simp] theorem res_69 : Try.f69.results.toList = [.tmp 2] := rfl
@[simp] theorem res_70 : Try.f70.results.toList = [.tmp 2] := rfl
@[simp] theorem res_71 : Try.f71.results.toList = [.tmp 2] := rfl
@[simp] theorem res_72 : Try.f72.results.toList = [.tmp 2] := rfl
@[simp] theorem res_73 : Try.f73.results.toList = [.tmp 2] := rfl
@[simp] theorem res_74 : Try.f74.results.toList = [] := rfl
@[simp] theorem res_75 : Try.f75.results.toList = [.tmp 4] := rfl
@[simp] theorem res_76 : Try.f76.results.toList = [.tmp 2] := rfl
@[simp] theorem res_77 : Try.f77.results.toList = [.cell 4 34, .tmp 5] := rfl
@[simp] theorem res_78 : Try.f78.results.toList = [.tmp 4] := rfl
@[simp] theorem res_79 : Try.f79.results.toList = [.tmp 4] := rfl
@[simp] theorem res_80 : Try.f80.results.toList = [.tmp 6, .tmp 7] := rfl
@[simp] theorem res_81 : Try.f81.results.toList = [.tmp 2] := rfl
@[simp] theorem res_82 : Try.f82.results.toList = [.cell 2 134] := rfl
@[simp] theorem res_83 : Try.f83.results.toList = [.tmp 4] := rfl
@[simp] theorem res_84 : Try.f84.results.toList = [.tmp 6] := rfl
@[simp] theorem res_85 : Try.f85.results.toList = [.tmp 2] := rfl
@[simp] theorem res_86 : Try.f86.results.toList = [.tmp 4] := rfl
@[simp] theorem res_87 : Try.f87.results.toList = [.tmp 2] := rfl
@[simp] theorem res_88 : Try.f88.results.toList = [.tmp 3] := rfl
@[simp] theorem res_89 : Try.f89.results.toList = [.tmp 4] := rfl
@[simp] theorem res_90 : Try.f90.results.toList = [.tmp 2] := rfl
@[simp] theorem res_91 : Try.f91.results.toList = [.tmp 2] := rfl
@[simp] theorem res_92 : Try.f92.results.toList = [.tmp 2, .tmp 3] := rfl
@[simp] theorem res_93 : Try.f93.results.toList = [.tmp 2, .tmp 3] := rfl
@[simp] theorem res_94 : Try.f94.results.toList = [.tmp 6, .tmp 7] := rfl
@[simp] theorem res_95 : Try.f95.results.toList = [.tmp 2] := rfl
@[simp] theorem res_96 : Try.f96.results.toList = [.tmp 6] := rfl
@[simp] theorem res_97 : Try.f97.results.toList = [.tmp 4] := rfl
@[simp] theorem res_98 : Try.f98.results.toList = [.tmp 2] := rfl
@[simp] theorem res_99 : Try.f99.results.toList = [.cell 0 86] := rfl
@[simp] theorem res_100 : Try.f100.results.toList = [.tmp 4] := rfl
@[simp] theorem res_101 : Try.f101.results.toList = [.tmp 4] := rfl
@[simp] theorem res_102 : Try.f102.results.toList = [.tmp 4] := rfl
@[simp] theorem res_103 : Try.f103.results.toList = [.tmp 4] := rfl
@[simp] theorem res_104 : Try.f104.results.toList = [.tmp 4] := rfl
@[simp] theorem res_105 : Try.f105.results.toList = [.tmp 4] := rfl
@[simp] theorem res_106 : Try.f106.results.toList = [.tmp 4] := rfl
@[simp] theorem res_107 : Try.f107.results.toList = [.tmp 4] := rfl
@[simp] theorem res_108 : Try.f108.results.toList = [.cell 2 95] := rfl
@[simp] theorem res_109 : Try.f109.results.toList = [.tmp 2] := rfl
@[simp] theorem res_110 : Try.f110.results.toList = [.tmp 2] := rfl
@[simp] theorem res_111 : Try.f111.results.toList = [] := rfl
@[simp] theorem res_112 : Try.f112.results.toList = [.tmp 2] := rfl
@[simp] theorem res_113 : Try.f113.results.toList = [.tmp 4] := rfl
@[simp] theorem res_114 : Try.f114.results.toList = [.tmp 4] := rfl
@[simp] theorem res_115 : Try.f115.results.toList = [] := rfl
@[simp] theorem res_116 : Try.f116.results.toList = [.tmp 2] := rfl
@[simp] theorem res_117 : Try.f117.results.toList = [.tmp 2] := rfl
@[simp] theorem res_118 : Try.f118.results.toList = [.tmp 4] := rfl
@[simp] theorem res_119 : Try.f119.results.toList = [.tmp 4] := rfl
@[simp] theorem res_120 : Try.f120.results.toList = [.tmp 4] := rfl
@[simp] theorem res_121 : Try.f121.results.toList = [.tmp 4] := rfl
@[simp] theorem res_122 : Try.f122.results.toList = [.tmp 2] := rfl
@[simp] theorem res_123 : Try.f123.results.toList = [.tmp 4] := rfl
@[simp] theorem res_124 : Try.f124.results.toList = [.tmp 2] := rfl
@[simp] theorem res_125 : Try.f125.results.toList = [.cell 2 99] := rfl
@[simp] theorem res_126 : Try.f126.results.toList = [.tmp 6] := rfl
@[simp] theorem res_127 : Try.f127.results.toList = [.tmp 2] := rfl
@[simp] theorem res_128 : Try.f128.results.toList = [.tmp 4] := rfl
@[simp] theorem res_129 : Try.f129.results.toList = [.tmp 2] := rfl
@[simp] theorem res_130 : Try.f130.results.toList = [.tmp 4] := rfl
@[simp] theorem res_131 : Try.f131.results.toList = [] := rfl
@[simp] theorem res_132 : Try.f132.results.toList = [] := rfl
@[simp] theorem res_133 : Try.f133.results.toList = [.tmp 6] := rfl
@[simp] theorem res_134 : Try.f134.results.toList = [] := rfl
@[simp] theorem res_135 : Try.f135.results.toList = [.tmp 6] := rfl
@[simp] theorem res_136 : Try.f136.results.toList = [] := rfl
@[simp] theorem res_137 : Try.f137.results.toList = [.tmp 2] := rfl
@[simp] theorem res_138 : Try.f138.results.toList = [.tmp 2] := rfl
@[simp] theorem res_139 : Try.f139.results.toList = [.tmp 6] := rfl
@[simp] theorem res_140 : Try.f140.results.toList = [.tmp 4] := rfl
@[simp] theorem res_141 : Try.f141.results.toList = [.tmp 2] := rfl
@[simp] theorem res_142 : Try.f142.results.toList = [.tmp 4] := rfl
@[simp] theorem res_143 : Try.f143.results.toList = [.tmp 4, .tmp 5] := rfl
@[simp] theorem res_144 : Try.f144.results.toList = [.cell 2 134] := rfl
@[simp] theorem res_145 : Try.f145.results.toList = [.tmp 2] := rfl
@[simp] theorem res_146 : Try.f146.results.toList = [.tmp 2] := rfl
@[simp] theorem res_147 : Try.f147.results.toList = [.tmp 6] := rfl
@[simp] theorem res_148 : Try.f148.results.toList = [.tmp 4] := rfl
@[simp] theorem res_149 : Try.f149.results.toList = [.tmp 4] := rfl
@[simp] theorem res_150 : Try.f150.results.toList = [.tmp 4] := rfl
@[simp] theorem res_151 : Try.f151.results.toList = [.tmp 4] := rfl
@[simp] theorem res_152 : Try.f152.results.toList = [.tmp 4] := rfl
@[simp] theorem res_153 : Try.f153.results.toList = [.tmp 4] := rfl
@[simp] theorem res_154 : Try.f154.results.toList = [.tmp 4] := rfl
@[simp] theorem res_155 : Try.f155.results.toList = [.tmp 4] := rfl
@[simp] theorem res_156 : Try.f156.results.toList = [.tmp 4] := rfl
@[simp] theorem res_157 : Try.f157.results.toList = [.tmp 4] := rfl
@[simp] theorem res_158 : Try.f158.results.toList = [.tmp 4] := rfl
@[simp] theorem res_159 : Try.f159.results.toList = [.tmp 4] := rfl
@[simp] theorem res_160 : Try.f160.results.toList = [.tmp 4] := rfl
@[simp] theorem res_161 : Try.f161.results.toList = [.tmp 4] := rfl
@[simp] theorem res_162 : Try.f162.results.toList = [.tmp 4] := rfl
@[simp] theorem res_163 : Try.f163.results.toList = [.tmp 4] := rfl
@[simp] theorem res_164 : Try.f164.results.toList = [.tmp 4] := rfl
@[simp] theorem res_165 : Try.f165.results.toList = [.tmp 4] := rfl
@[simp] theorem res_166 : Try.f166.results.toList = [.tmp 4] := rfl
@[simp] theorem res_167 : Try.f167.results.toList = [.tmp 4] := rfl
@[simp] theorem res_168 : Try.f168.results.toList = [.tmp 4] := rfl
@[simp] theorem res_169 : Try.f169.results.toList = [.tmp 4] := rfl
@[simp] theorem res_170 : Try.f170.results.toList = [.tmp 4] := rfl
@[simp] theorem res_171 : Try.f171.results.toList = [.tmp 4] := rfl
@[simp] theorem res_172 : Try.f172.results.toList = [.tmp 2] := rfl
@[simp] theorem res_173 : Try.f173.results.toList = [.tmp 2] := rfl
@[simp] theorem res_174 : Try.f174.results.toList = [] := rfl
@[simp] theorem res_175 : Try.f175.results.toList = [] := rfl
@[simp] theorem res_176 : Try.f176.results.toList = [] := rfl
@[simp] theorem res_177 : Try.f177.results.toList = [] := rfl
@[simp] theorem res_178 : Try.f178.results.toList = [.tmp 8, .tmp 9] := rfl
@[simp] theorem res_179 : Try.f179.results.toList = [] := rfl
@[simp] theorem res_180 : Try.f180.results.toList = [.tmp 8] := rfl
@[simp] theorem res_181 : Try.f181.results.toList = [.tmp 10] := rfl
@[simp] theorem res_182 : Try.f182.results.toList = [.tmp 10, .tmp 11] := rfl
@[simp] theorem res_183 : Try.f183.results.toList = [.tmp 2] := rfl
@[simp] theorem res_184 : Try.f184.results.toList = [.tmp 2] := rfl
@[simp] theorem res_185 : Try.f185.results.toList = [.tmp 2] := rfl
@[simp] theorem res_186 : Try.f186.results.toList = [.tmp 4] := rfl
@[simp] theorem res_187 : Try.f187.results.toList = [.tmp 2] := rfl
@[simp] theorem res_188 : Try.f188.results.toList = [.tmp 2] := rfl
@[simp] theorem res_189 : Try.f189.results.toList = [.tmp 2] := rfl
@[simp] theorem res_190 : Try.f190.results.toList = [.tmp 4] := rfl
@[simp] theorem res_191 : Try.f191.results.toList = [.tmp 4] := rfl
@[simp] theorem res_192 : Try.f192.results.toList = [] := rfl
@[simp] theorem res_193 : Try.f193.results.toList = [] := rfl
@[simp] theorem res_194 : Try.f194.results.toList = [] := rfl
@[simp] theorem res_195 : Try.f195.results.toList = [.tmp 8, .tmp 9] := rfl
@[simp] theorem res_196 : Try.f196.results.toList = [] := rfl
@[simp] theorem res_197 : Try.f197.results.toList = [.tmp 8] := rfl
@[simp] theorem res_198 : Try.f198.results.toList = [.tmp 10] := rfl
@[simp] theorem res_199 : Try.f199.results.toList = [.tmp 10, .tmp 11] := rfl
@[simp] theorem res_200 : Try.f200.results.toList = [] := rfl
@[simp] theorem res_201 : Try.f201.results.toList = [.tmp 4] := rfl
@[simp] theorem res_202 : Try.f202.results.toList = [.tmp 2] := rfl
@[simp] theorem res_203 : Try.f203.results.toList = [.tmp 2] := rfl
@[simp] theorem res_204 : Try.f204.results.toList = [.tmp 4] := rfl
@[simp] theorem res_205 : Try.f205.results.toList = [.tmp 6] := rfl
@[simp] theorem res_206 : Try.f206.results.toList = [] := rfl
@[simp] theorem res_207 : Try.f207.results.toList = [.tmp 5] := rfl
@[simp] theorem res_208 : Try.f208.results.toList = [.tmp 4] := rfl
@[simp] theorem res_209 : Try.f209.results.toList = [.tmp 2] := rfl
@[simp] theorem res_210 : Try.f210.results.toList = [.tmp 4] := rfl
@[simp] theorem res_211 : Try.f211.results.toList = [.tmp 4] := rfl
@[simp] theorem res_212 : Try.f212.results.toList = [.tmp 4] := rfl
@[simp] theorem res_213 : Try.f213.results.toList = [.tmp 4] := rfl
@[simp] theorem res_214 : Try.f214.results.toList = [.tmp 4] := rfl
@[simp] theorem res_215 : Try.f215.results.toList = [.tmp 4] := rfl
@[simp] theorem res_216 : Try.f216.results.toList = [.tmp 4] := rfl
@[simp] theorem res_217 : Try.f217.results.toList = [.tmp 4] := rfl
@[simp] theorem res_218 : Try.f218.results.toList = [.tmp 4] := rfl
@[simp] theorem res_219 : Try.f219.results.toList = [.tmp 4] := rfl
@[simp] theorem res_220 : Try.f220.results.toList = [.tmp 4] := rfl
@[simp] theorem res_221 : Try.f221.results.toList = [.tmp 4] := rfl
@[simp] theorem res_222 : Try.f222.results.toList = [.tmp 4] := rfl
@[simp] theorem res_223 : Try.f223.results.toList = [.tmp 4] := rfl
@[simp] theorem res_224 : Try.f224.results.toList = [.tmp 4] := rfl
@[simp] theorem res_225 : Try.f225.results.toList = [.tmp 4] := rfl
@[simp] theorem res_226 : Try.f226.results.toList = [.tmp 4] := rfl
@[simp] theorem res_227 : Try.f227.results.toList = [.tmp 4] := rfl
@[simp] theorem res_228 : Try.f228.results.toList = [] := rfl
@[simp] theorem res_229 : Try.f229.results.toList = [] := rfl
@[simp] theorem res_230 : Try.f230.results.toList = [] := rfl
@[simp] theorem res_231 : Try.f231.results.toList = [.tmp 6, .tmp 7] := rfl
@[simp] theorem res_232 : Try.f232.results.toList = [] := rfl
@[simp] theorem res_233 : Try.f233.results.toList = [.tmp 6] := rfl
@[simp] theorem res_234 : Try.f234.results.toList = [.tmp 8] := rfl
@[simp] theorem res_235 : Try.f235.results.toList = [.tmp 8, .tmp 9] := rfl
@[simp] theorem res_236 : Try.f236.results.toList = [] := rfl
@[simp] theorem res_237 : Try.f237.results.toList = [.tmp 2] := rfl
@[simp] theorem res_238 : Try.f238.results.toList = [.tmp 2] := rfl
@[simp] theorem res_239 : Try.f239.results.toList = [.tmp 8] := rfl
@[simp] theorem res_240 : Try.f240.results.toList = [.tmp 12] := rfl
@[simp] theorem res_241 : Try.f241.results.toList = [] := rfl
@[simp] theorem res_242 : Try.f242.results.toList = [.tmp 8] := rfl
@[simp] theorem res_243 : Try.f243.results.toList = [.tmp 12] := rfl
@[simp] theorem res_244 : Try.f244.results.toList = [] := rfl
@[simp] theorem res_245 : Try.f245.results.toList = [.tmp 2] := rfl
@[simp] theorem res_246 : Try.f246.results.toList = [.tmp 4] := rfl
@[simp] theorem res_247 : Try.f247.results.toList = [] := rfl
@[simp] theorem res_248 : Try.f248.results.toList = [.tmp 4] := rfl
@[simp] theorem res_249 : Try.f249.results.toList = [.tmp 4] := rfl
@[simp] theorem res_250 : Try.f250.results.toList = [.tmp 4] := rfl
@[simp] theorem res_251 : Try.f251.results.toList = [.tmp 4] := rfl
@[simp] theorem res_252 : Try.f252.results.toList = [.tmp 4] := rfl
@[simp] theorem res_253 : Try.f253.results.toList = [] := rfl
@[simp] theorem res_254 : Try.f254.results.toList = [.tmp 6] := rfl
@[simp] theorem res_255 : Try.f255.results.toList = [.tmp 10] := rfl
@[simp] theorem res_256 : Try.f256.results.toList = [.tmp 10, .tmp 11] := rfl
@[simp] theorem res_257 : Try.f257.results.toList = [.tmp 10, .tmp 11] := rfl
@[simp] theorem res_258 : Try.f258.results.toList = [] := rfl
@[simp] theorem res_259 : Try.f259.results.toList = [.tmp 2] := rfl
@[simp] theorem res_260 : Try.f260.results.toList = [] := rfl
@[simp] theorem res_261 : Try.f261.results.toList = [] := rfl
@[simp] theorem res_262 : Try.f262.results.toList = [.tmp 4] := rfl
@[simp] theorem res_263 : Try.f263.results.toList = [.tmp 4] := rfl
@[simp] theorem res_264 : Try.f264.results.toList = [.tmp 4] := rfl
@[simp] theorem res_265 : Try.f265.results.toList = [.tmp 8, .tmp 9] := rfl
@[simp] theorem res_266 : Try.f266.results.toList = [] := rfl
@[simp] theorem res_267 : Try.f267.results.toList = [] := rfl
@[simp] theorem res_268 : Try.f268.results.toList = [] := rfl
theorem hm : Try.prog.follows .mixedOrders = true := by kernel_rfl
end Go.Proofs.Yteomgilojaibeaa
