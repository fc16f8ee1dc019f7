/- Closed facts on the types of the program. Made by a program (gen_types.py). No condition. -/
import Derived.Test.YtnphmemhejhooaaAcd
import Derived.Test.YtnphmemhejhooaaAbz
import Derived.Test.YtnphmemhejhooaaRows
namespace Go.Proofs.Ytnphmemhejhooaa
open Go Go.Ab

theorem in2 : Try.prog.info? 2 = some Try.t2 := by kernel_rfl
@[simp] theorem ty2 : TyOne Try.prog 2 8 (some .i64) none false := tyOne_int in2 Try.underlying2 rfl rfl
@[simp] theorem tz2 : TyZ Try.prog 2 [.int .i64 0] := tyZ in2 rfl rfl rfl rfl
theorem in3 : Try.prog.info? 3 = some Try.t3 := by kernel_rfl
@[simp] theorem ty3 : TyOne Try.prog 3 8 (some .i64) none false := tyOne_int in3 Try.underlying3 rfl rfl
@[simp] theorem tz3 : TyZ Try.prog 3 [.int .i64 0] := tyZ in3 rfl rfl rfl rfl
theorem in4 : Try.prog.info? 4 = some Try.t4 := by kernel_rfl
@[simp] theorem ty4 : TyOne Try.prog 4 1 none none false := tyOne_bool in4 Try.underlying4 rfl rfl
@[simp] theorem ub4 : Try.prog.underlying 4 = some .bool := Try.underlying4
@[simp] theorem tz4 : TyZ Try.prog 4 [.bool false] := tyZ in4 rfl rfl rfl rfl
theorem in5 : Try.prog.info? 5 = some Try.t5 := by kernel_rfl
@[simp] theorem ty5 : TyOne Try.prog 5 1 (some .u8) none false := tyOne_int in5 Try.underlying5 rfl rfl
@[simp] theorem tz5 : TyZ Try.prog 5 [.int .u8 0] := tyZ in5 rfl rfl rfl rfl
theorem in6 : Try.prog.info? 6 = some Try.t6 := by kernel_rfl
@[simp] theorem ty6 : TyOne Try.prog 6 1 (some .u8) none false := tyOne_int in6 Try.underlying6 rfl rfl
@[simp] theorem tz6 : TyZ Try.prog 6 [.int .u8 0] := tyZ in6 rfl rfl rfl rfl
theorem in8 : Try.prog.info? 8 = some Try.t8 := by kernel_rfl
@[simp] theorem ty8 : TyAgg Try.prog 8 4 24 := tyAgg_struct in8 Try.underlying8 rfl rfl
@[simp] theorem tz8 : TyZ Try.prog 8 [.int .i64 0, .int .i64 0, .bool false, .int .u8 0] := tyZ in8 rfl rfl rfl rfl
theorem in9 : Try.prog.info? 9 = some Try.t9 := by kernel_rfl
@[simp] theorem ty9 : TyOne Try.prog 9 16 none none true := tyOne_str in9 Try.underlying9 rfl rfl
@[simp] theorem tz9 : TyZ Try.prog 9 [.str []] := tyZ in9 rfl rfl rfl rfl
theorem in10 : Try.prog.info? 10 = some Try.t10 := by kernel_rfl
@[simp] theorem ty10 : TyOne Try.prog 10 16 none none true := tyOne_str in10 Try.underlying10 rfl rfl
@[simp] theorem tz10 : TyZ Try.prog 10 [.str []] := tyZ in10 rfl rfl rfl rfl
theorem in11 : Try.prog.info? 11 = some Try.t11 := by kernel_rfl
@[simp] theorem ty11 : TyOne Try.prog 11 16 none none true := tyOne_str in11 Try.underlying11 rfl rfl
@[simp] theorem tz11 : TyZ Try.prog 11 [.str []] := tyZ in11 rfl rfl rfl rfl
theorem in12 : Try.prog.info? 12 = some Try.t12 := by kernel_rfl
@[simp] theorem ty12 : TyOne Try.prog 12 8 (some .u64) none false := tyOne_int in12 Try.underlying12 rfl rfl
@[simp] theorem tz12 : TyZ Try.prog 12 [.int .u64 0] := tyZ in12 rfl rfl rfl rfl
theorem in14 : Try.prog.info? 14 = some Try.t14 := by kernel_rfl
@[simp] theorem ty14 : TyAgg Try.prog 14 2 24 := tyAgg_struct in14 Try.underlying14 rfl rfl
@[simp] theorem tz14 : TyZ Try.prog 14 [.str [], .int .u64 0] := tyZ in14 rfl rfl rfl rfl
theorem in15 : Try.prog.info? 15 = some Try.t15 := by kernel_rfl
@[simp] theorem ty15 : TyOne Try.prog 15 8 none none false := tyOne_pointer in15 Try.underlying15 rfl rfl
@[simp] theorem tz15 : TyZ Try.prog 15 [.raw (.pointer none)] := tyZ in15 rfl rfl rfl rfl
theorem in16 : Try.prog.info? 16 = some Try.t16 := by kernel_rfl
@[simp] theorem ty16 : TyOne Try.prog 16 8 none none false := tyOne_pointer in16 Try.underlying16 rfl rfl
@[simp] theorem tz16 : TyZ Try.prog 16 [.raw (.pointer none)] := tyZ in16 rfl rfl rfl rfl
theorem in17 : Try.prog.info? 17 = some Try.t17 := by kernel_rfl
@[simp] theorem ty17 : TyOne Try.prog 17 8 none none false := tyOne_pointer in17 Try.underlying17 rfl rfl
@[simp] theorem tz17 : TyZ Try.prog 17 [.raw (.pointer none)] := tyZ in17 rfl rfl rfl rfl
theorem in19 : Try.prog.info? 19 = some Try.t19 := by kernel_rfl
@[simp] theorem ty19 : TyAgg Try.prog 19 1 8 := tyAgg_struct in19 Try.underlying19 rfl rfl
@[simp] theorem tz19 : TyZ Try.prog 19 [.raw (.pointer none)] := tyZ in19 rfl rfl rfl rfl
theorem in22 : Try.prog.info? 22 = some Try.t22 := by kernel_rfl
@[simp] theorem ty22 : TyOne Try.prog 22 24 none (some 86) false := tyOne_slice in22 Try.underlying22 rfl rfl
@[simp] theorem tz22 : TyZ Try.prog 22 [.nils] := tyZ in22 rfl rfl rfl rfl
theorem in24 : Try.prog.info? 24 = some Try.t24 := by kernel_rfl
@[simp] theorem ty24 : TyOne Try.prog 24 24 none (some 2) false := tyOne_slice in24 Try.underlying24 rfl rfl
@[simp] theorem tz24 : TyZ Try.prog 24 [.nils] := tyZ in24 rfl rfl rfl rfl
theorem in27 : Try.prog.info? 27 = some Try.t27 := by kernel_rfl
@[simp] theorem ty27 : TyOne Try.prog 27 24 none (some 93) false := tyOne_slice in27 Try.underlying27 rfl rfl
@[simp] theorem tz27 : TyZ Try.prog 27 [.nils] := tyZ in27 rfl rfl rfl rfl
theorem in36 : Try.prog.info? 36 = some Try.t36 := by kernel_rfl
@[simp] theorem ty36 : TyOne Try.prog 36 24 none (some 5) false := tyOne_slice in36 Try.underlying36 rfl rfl
@[simp] theorem tz36 : TyZ Try.prog 36 [.nils] := tyZ in36 rfl rfl rfl rfl
theorem in44 : Try.prog.info? 44 = some Try.t44 := by kernel_rfl
@[simp] theorem ty44 : TyOne Try.prog 44 24 none (some 177) false := tyOne_slice in44 Try.underlying44 rfl rfl
@[simp] theorem tz44 : TyZ Try.prog 44 [.nils] := tyZ in44 rfl rfl rfl rfl
theorem in46 : Try.prog.info? 46 = some Try.t46 := by kernel_rfl
@[simp] theorem ty46 : TyAgg Try.prog 46 2 40 := tyAgg_struct in46 Try.underlying46 rfl rfl
@[simp] theorem tz46 : TyZ Try.prog 46 [.str [], .nils] := tyZ in46 rfl rfl rfl rfl
theorem in49 : Try.prog.info? 49 = some Try.t49 := by kernel_rfl
@[simp] theorem ty49 : TyOne Try.prog 49 24 none (some 115) false := tyOne_slice in49 Try.underlying49 rfl rfl
@[simp] theorem tz49 : TyZ Try.prog 49 [.nils] := tyZ in49 rfl rfl rfl rfl
theorem in51 : Try.prog.info? 51 = some Try.t51 := by kernel_rfl
@[simp] theorem ty51 : TyAgg Try.prog 51 2 40 := tyAgg_struct in51 Try.underlying51 rfl rfl
@[simp] theorem tz51 : TyZ Try.prog 51 [.str [], .nils] := tyZ in51 rfl rfl rfl rfl
theorem in55 : Try.prog.info? 55 = some Try.t55 := by kernel_rfl
@[simp] theorem ty55 : TyOne Try.prog 55 24 none (some 126) false := tyOne_slice in55 Try.underlying55 rfl rfl
@[simp] theorem tz55 : TyZ Try.prog 55 [.nils] := tyZ in55 rfl rfl rfl rfl
theorem in57 : Try.prog.info? 57 = some Try.t57 := by kernel_rfl
@[simp] theorem ty57 : TyOne Try.prog 57 24 none (some 130) false := tyOne_slice in57 Try.underlying57 rfl rfl
@[simp] theorem tz57 : TyZ Try.prog 57 [.nils] := tyZ in57 rfl rfl rfl rfl
theorem in60 : Try.prog.info? 60 = some Try.t60 := by kernel_rfl
@[simp] theorem ty60 : TyOne Try.prog 60 24 none (some 128) false := tyOne_slice in60 Try.underlying60 rfl rfl
@[simp] theorem tz60 : TyZ Try.prog 60 [.nils] := tyZ in60 rfl rfl rfl rfl
theorem in67 : Try.prog.info? 67 = some Try.t67 := by kernel_rfl
@[simp] theorem ty67 : TyOne Try.prog 67 24 none (some 194) false := tyOne_slice in67 Try.underlying67 rfl rfl
@[simp] theorem tz67 : TyZ Try.prog 67 [.nils] := tyZ in67 rfl rfl rfl rfl
theorem in69 : Try.prog.info? 69 = some Try.t69 := by kernel_rfl
@[simp] theorem ty69 : TyAgg Try.prog 69 4 64 := tyAgg_struct in69 Try.underlying69 rfl rfl
@[simp] theorem tz69 : TyZ Try.prog 69 [.int .i64 0, .int .i64 0, .nils, .nils] := tyZ in69 rfl rfl rfl rfl
theorem in71 : Try.prog.info? 71 = some Try.t71 := by kernel_rfl
@[simp] theorem ty71 : TyOne Try.prog 71 24 none (some 145) false := tyOne_slice in71 Try.underlying71 rfl rfl
@[simp] theorem tz71 : TyZ Try.prog 71 [.nils] := tyZ in71 rfl rfl rfl rfl
theorem in73 : Try.prog.info? 73 = some Try.t73 := by kernel_rfl
@[simp] theorem ty73 : TyAgg Try.prog 73 4 64 := tyAgg_struct in73 Try.underlying73 rfl rfl
@[simp] theorem tz73 : TyZ Try.prog 73 [.int .i64 0, .int .i64 0, .nils, .nils] := tyZ in73 rfl rfl rfl rfl
theorem in86 : Try.prog.info? 86 = some Try.t86 := by kernel_rfl
@[simp] theorem ty86 : TyAgg Try.prog 86 5 48 := tyAgg_struct in86 Try.underlying86 rfl rfl
@[simp] theorem tz86 : TyZ Try.prog 86 [.str [], .int .i64 0, .int .i64 0, .int .i64 0, .int .i64 0] := tyZ in86 rfl rfl rfl rfl
theorem in87 : Try.prog.info? 87 = some Try.t87 := by kernel_rfl
@[simp] theorem ty87 : TyOne Try.prog 87 8 none none false := tyOne_pointer in87 Try.underlying87 rfl rfl
@[simp] theorem tz87 : TyZ Try.prog 87 [.raw (.pointer none)] := tyZ in87 rfl rfl rfl rfl
theorem in92 : Try.prog.info? 92 = some Try.t92 := by kernel_rfl
@[simp] theorem ty92 : TyAgg Try.prog 92 6 96 := tyAgg_struct in92 Try.underlying92 rfl rfl
@[simp] theorem tz92 : TyZ Try.prog 92 [.nils, .int .i64 0, .bool false, .nils, .nils, .int .i64 0] := tyZ in92 rfl rfl rfl rfl
theorem in93 : Try.prog.info? 93 = some Try.t93 := by kernel_rfl
@[simp] theorem ty93 : TyAgg Try.prog 93 5 48 := tyAgg_struct in93 Try.underlying93 rfl rfl
@[simp] theorem tz93 : TyZ Try.prog 93 [.str [], .int .i64 0, .int .i64 0, .int .i64 0, .int .i64 0] := tyZ in93 rfl rfl rfl rfl
theorem in97 : Try.prog.info? 97 = some Try.t97 := by kernel_rfl
@[simp] theorem ty97 : TyOne Try.prog 97 8 none none false := tyOne_func in97 Try.underlying97 rfl rfl
@[simp] theorem tz97 : TyZ Try.prog 97 [.raw .nilFunc] := tyZ in97 rfl rfl rfl rfl
theorem in101 : Try.prog.info? 101 = some Try.t101 := by kernel_rfl
@[simp] theorem ty101 : TyOne Try.prog 101 8 none none false := tyOne_pointer in101 Try.underlying101 rfl rfl
@[simp] theorem tz101 : TyZ Try.prog 101 [.raw (.pointer none)] := tyZ in101 rfl rfl rfl rfl
theorem in113 : Try.prog.info? 113 = some Try.t113 := by kernel_rfl
@[simp] theorem ty113 : TyOne Try.prog 113 8 none none false := tyOne_pointer in113 Try.underlying113 rfl rfl
@[simp] theorem tz113 : TyZ Try.prog 113 [.raw (.pointer none)] := tyZ in113 rfl rfl rfl rfl
theorem in115 : Try.prog.info? 115 = some Try.t115 := by kernel_rfl
@[simp] theorem ty115 : TyAgg Try.prog 115 3 24 := tyAgg_struct in115 Try.underlying115 rfl rfl
@[simp] theorem tz115 : TyZ Try.prog 115 [.int .i64 0, .int .i64 0, .int .i64 0] := tyZ in115 rfl rfl rfl rfl
theorem in120 : Try.prog.info? 120 = some Try.t120 := by kernel_rfl
@[simp] theorem ty120 : TyOne Try.prog 120 8 none none false := tyOne_func in120 Try.underlying120 rfl rfl
@[simp] theorem tz120 : TyZ Try.prog 120 [.raw .nilFunc] := tyZ in120 rfl rfl rfl rfl
theorem in126 : Try.prog.info? 126 = some Try.t126 := by kernel_rfl
@[simp] theorem ty126 : TyAgg Try.prog 126 2 32 := tyAgg_struct in126 Try.underlying126 rfl rfl
@[simp] theorem tz126 : TyZ Try.prog 126 [.str [], .str []] := tyZ in126 rfl rfl rfl rfl
theorem in128 : Try.prog.info? 128 = some Try.t128 := by kernel_rfl
@[simp] theorem ty128 : TyAgg Try.prog 128 2 32 := tyAgg_struct in128 Try.underlying128 rfl rfl
@[simp] theorem tz128 : TyZ Try.prog 128 [.str [], .str []] := tyZ in128 rfl rfl rfl rfl
theorem in130 : Try.prog.info? 130 = some Try.t130 := by kernel_rfl
@[simp] theorem ty130 : TyAgg Try.prog 130 3 40 := tyAgg_struct in130 Try.underlying130 rfl rfl
@[simp] theorem tz130 : TyZ Try.prog 130 [.int .i64 0, .str [], .str []] := tyZ in130 rfl rfl rfl rfl
theorem in132 : Try.prog.info? 132 = some Try.t132 := by kernel_rfl
@[simp] theorem ty132 : TyOne Try.prog 132 24 none (some 9) false := tyOne_slice in132 Try.underlying132 rfl rfl
@[simp] theorem tz132 : TyZ Try.prog 132 [.nils] := tyZ in132 rfl rfl rfl rfl
theorem in142 : Try.prog.info? 142 = some Try.t142 := by kernel_rfl
@[simp] theorem ty142 : TyOne Try.prog 142 8 none none false := tyOne_pointer in142 Try.underlying142 rfl rfl
@[simp] theorem tz142 : TyZ Try.prog 142 [.raw (.pointer none)] := tyZ in142 rfl rfl rfl rfl
theorem in145 : Try.prog.info? 145 = some Try.t145 := by kernel_rfl
@[simp] theorem ty145 : TyAgg Try.prog 145 2 16 := tyAgg_struct in145 Try.underlying145 rfl rfl
@[simp] theorem tz145 : TyZ Try.prog 145 [.int .i64 0, .int .i64 0] := tyZ in145 rfl rfl rfl rfl
theorem in150 : Try.prog.info? 150 = some Try.t150 := by kernel_rfl
@[simp] theorem ty150 : TyOne Try.prog 150 8 none none false := tyOne_func in150 Try.underlying150 rfl rfl
@[simp] theorem tz150 : TyZ Try.prog 150 [.raw .nilFunc] := tyZ in150 rfl rfl rfl rfl
theorem in155 : Try.prog.info? 155 = some Try.t155 := by kernel_rfl
@[simp] theorem ty155 : TyOne Try.prog 155 8 none none false := tyOne_func in155 Try.underlying155 rfl rfl
@[simp] theorem tz155 : TyZ Try.prog 155 [.raw .nilFunc] := tyZ in155 rfl rfl rfl rfl
theorem in157 : Try.prog.info? 157 = some Try.t157 := by kernel_rfl
@[simp] theorem ty157 : TyOne Try.prog 157 8 none none false := tyOne_func in157 Try.underlying157 rfl rfl
@[simp] theorem tz157 : TyZ Try.prog 157 [.raw .nilFunc] := tyZ in157 rfl rfl rfl rfl
theorem in162 : Try.prog.info? 162 = some Try.t162 := by kernel_rfl
@[simp] theorem ty162 : TyOne Try.prog 162 8 none none false := tyOne_func in162 Try.underlying162 rfl rfl
@[simp] theorem tz162 : TyZ Try.prog 162 [.raw .nilFunc] := tyZ in162 rfl rfl rfl rfl
theorem in165 : Try.prog.info? 165 = some Try.t165 := by kernel_rfl
@[simp] theorem ty165 : TyOne Try.prog 165 8 (some .u64) none false := tyOne_int in165 Try.underlying165 rfl rfl
@[simp] theorem tz165 : TyZ Try.prog 165 [.int .u64 0] := tyZ in165 rfl rfl rfl rfl
theorem in167 : Try.prog.info? 167 = some Try.t167 := by kernel_rfl
@[simp] theorem ty167 : TyAgg Try.prog 167 3 40 := tyAgg_struct in167 Try.underlying167 rfl rfl
@[simp] theorem tz167 : TyZ Try.prog 167 [.nils, .int .i64 0, .int .u64 0] := tyZ in167 rfl rfl rfl rfl
theorem in173 : Try.prog.info? 173 = some Try.t173 := by kernel_rfl
@[simp] theorem ty173 : TyOne Try.prog 173 8 none none false := tyOne_pointer in173 Try.underlying173 rfl rfl
@[simp] theorem tz173 : TyZ Try.prog 173 [.raw (.pointer none)] := tyZ in173 rfl rfl rfl rfl
theorem in177 : Try.prog.info? 177 = some Try.t177 := by kernel_rfl
@[simp] theorem ty177 : TyAgg Try.prog 177 3 24 := tyAgg_struct in177 Try.underlying177 rfl rfl
@[simp] theorem tz177 : TyZ Try.prog 177 [.int .i64 0, .int .i64 0, .int .i64 0] := tyZ in177 rfl rfl rfl rfl
theorem in182 : Try.prog.info? 182 = some Try.t182 := by kernel_rfl
@[simp] theorem ty182 : TyOne Try.prog 182 24 none (some 60) false := tyOne_slice in182 Try.underlying182 rfl rfl
@[simp] theorem tz182 : TyZ Try.prog 182 [.nils] := tyZ in182 rfl rfl rfl rfl
theorem in186 : Try.prog.info? 186 = some Try.t186 := by kernel_rfl
@[simp] theorem ty186 : TyOne Try.prog 186 8 (some .u64) none false := tyOne_int in186 Try.underlying186 rfl rfl
@[simp] theorem tz186 : TyZ Try.prog 186 [.int .u64 0] := tyZ in186 rfl rfl rfl rfl
theorem in189 : Try.prog.info? 189 = some Try.t189 := by kernel_rfl
@[simp] theorem ty189 : TyOne Try.prog 189 8 none none false := tyOne_func in189 Try.underlying189 rfl rfl
@[simp] theorem tz189 : TyZ Try.prog 189 [.raw .nilFunc] := tyZ in189 rfl rfl rfl rfl
theorem in191 : Try.prog.info? 191 = some Try.t191 := by kernel_rfl
@[simp] theorem ty191 : TyOne Try.prog 191 8 none none false := tyOne_pointer in191 Try.underlying191 rfl rfl
@[simp] theorem tz191 : TyZ Try.prog 191 [.raw (.pointer none)] := tyZ in191 rfl rfl rfl rfl
theorem in194 : Try.prog.info? 194 = some Try.t194 := by kernel_rfl
@[simp] theorem ty194 : TyAgg Try.prog 194 2 16 := tyAgg_struct in194 Try.underlying194 rfl rfl
@[simp] theorem tz194 : TyZ Try.prog 194 [.int .i64 0, .int .i64 0] := tyZ in194 rfl rfl rfl rfl
theorem in201 : Try.prog.info? 201 = some Try.t201 := by kernel_rfl
@[simp] theorem ty201 : TyOne Try.prog 201 8 none none false := tyOne_func in201 Try.underlying201 rfl rfl
@[simp] theorem tz201 : TyZ Try.prog 201 [.raw .nilFunc] := tyZ in201 rfl rfl rfl rfl
theorem in204 : Try.prog.info? 204 = some Try.t204 := by kernel_rfl
@[simp] theorem ty204 : TyOne Try.prog 204 8 none none false := tyOne_pointer in204 Try.underlying204 rfl rfl
@[simp] theorem tz204 : TyZ Try.prog 204 [.raw (.pointer none)] := tyZ in204 rfl rfl rfl rfl
theorem in213 : Try.prog.info? 213 = some Try.t213 := by kernel_rfl
@[simp] theorem ty213 : TyOne Try.prog 213 8 none none false := tyOne_func in213 Try.underlying213 rfl rfl
@[simp] theorem tz213 : TyZ Try.prog 213 [.raw .nilFunc] := tyZ in213 rfl rfl rfl rfl
theorem in216 : Try.prog.info? 216 = some Try.t216 := by kernel_rfl
@[simp] theorem ty216 : TyOne Try.prog 216 8 (some .i64) none false := tyOne_int in216 Try.underlying216 rfl rfl
@[simp] theorem tz216 : TyZ Try.prog 216 [.int .i64 0] := tyZ in216 rfl rfl rfl rfl
theorem in224 : Try.prog.info? 224 = some Try.t224 := by kernel_rfl
@[simp] theorem ty224 : TyOne Try.prog 224 4 (some .u32) none false := tyOne_int in224 Try.underlying224 rfl rfl
@[simp] theorem tz224 : TyZ Try.prog 224 [.int .u32 0] := tyZ in224 rfl rfl rfl rfl
theorem in234 : Try.prog.info? 234 = some Try.t234 := by kernel_rfl
@[simp] theorem ty234 : TyOne Try.prog 234 24 none (some 3) false := tyOne_slice in234 Try.underlying234 rfl rfl
@[simp] theorem tz234 : TyZ Try.prog 234 [.nils] := tyZ in234 rfl rfl rfl rfl
theorem in250 : Try.prog.info? 250 = some Try.t250 := by kernel_rfl
@[simp] theorem ty250 : TyOne Try.prog 250 8 (some .u64) none false := tyOne_int in250 Try.underlying250 rfl rfl
@[simp] theorem tz250 : TyZ Try.prog 250 [.int .u64 0] := tyZ in250 rfl rfl rfl rfl
theorem in254 : Try.prog.info? 254 = some Try.t254 := by kernel_rfl
@[simp] theorem ty254 : TyOne Try.prog 254 8 none none false := tyOne_pointer in254 Try.underlying254 rfl rfl
@[simp] theorem tz254 : TyZ Try.prog 254 [.raw (.pointer none)] := tyZ in254 rfl rfl rfl rfl
theorem in264 : Try.prog.info? 264 = some Try.t264 := by kernel_rfl
@[simp] theorem ty264 : TyOne Try.prog 264 8 none none false := tyOne_pointer in264 Try.underlying264 rfl rfl
@[simp] theorem tz264 : TyZ Try.prog 264 [.raw (.pointer none)] := tyZ in264 rfl rfl rfl rfl
theorem in278 : Try.prog.info? 278 = some Try.t278 := by kernel_rfl
@[simp] theorem ty278 : TyOne Try.prog 278 1 (some .u8) none false := tyOne_int in278 Try.underlying278 rfl rfl
@[simp] theorem tz278 : TyZ Try.prog 278 [.int .u8 0] := tyZ in278 rfl rfl rfl rfl
@[simp] theorem ts8 : structT Try.prog 8 = true := structOf Try.underlying8 (by simp [in2, in3, in4, in6])
@[simp] theorem fl8_0 : fldT Try.prog 8 0 = some (0, false, 1) := fldOf Try.underlying8 rfl rfl ty2.1 ty2.2.1 ty2.2.2.1
@[simp] theorem fl8_1 : fldT Try.prog 8 1 = some (1, false, 1) := fldOf Try.underlying8 rfl rfl ty3.1 ty3.2.1 ty3.2.2.1
@[simp] theorem fl8_2 : fldT Try.prog 8 2 = some (2, false, 1) := fldOf Try.underlying8 rfl rfl ty4.1 ty4.2.1 ty4.2.2.1
@[simp] theorem fl8_3 : fldT Try.prog 8 3 = some (3, false, 1) := fldOf Try.underlying8 rfl rfl ty6.1 ty6.2.1 ty6.2.2.1
@[simp] theorem ts14 : structT Try.prog 14 = true := structOf Try.underlying14 (by simp [in12, in9])
@[simp] theorem fl14_0 : fldT Try.prog 14 0 = some (0, false, 1) := fldOf Try.underlying14 rfl rfl ty9.1 ty9.2.1 ty9.2.2.1
@[simp] theorem fl14_1 : fldT Try.prog 14 1 = some (1, false, 1) := fldOf Try.underlying14 rfl rfl ty12.1 ty12.2.1 ty12.2.2.1
@[simp] theorem ts19 : structT Try.prog 19 = true := structOf Try.underlying19 (by simp [in17])
@[simp] theorem fl19_0 : fldT Try.prog 19 0 = some (0, false, 1) := fldOf Try.underlying19 rfl rfl ty17.1 ty17.2.1 ty17.2.2.1
@[simp] theorem ts46 : structT Try.prog 46 = true := structOf Try.underlying46 (by simp [in44, in9])
@[simp] theorem fl46_0 : fldT Try.prog 46 0 = some (0, false, 1) := fldOf Try.underlying46 rfl rfl ty9.1 ty9.2.1 ty9.2.2.1
@[simp] theorem fl46_1 : fldT Try.prog 46 1 = some (1, false, 1) := fldOf Try.underlying46 rfl rfl ty44.1 ty44.2.1 ty44.2.2.1
@[simp] theorem ts51 : structT Try.prog 51 = true := structOf Try.underlying51 (by simp [in49, in9])
@[simp] theorem fl51_0 : fldT Try.prog 51 0 = some (0, false, 1) := fldOf Try.underlying51 rfl rfl ty9.1 ty9.2.1 ty9.2.2.1
@[simp] theorem fl51_1 : fldT Try.prog 51 1 = some (1, false, 1) := fldOf Try.underlying51 rfl rfl ty49.1 ty49.2.1 ty49.2.2.1
@[simp] theorem ts69 : structT Try.prog 69 = true := structOf Try.underlying69 (by simp [in2, in24, in67])
@[simp] theorem fl69_0 : fldT Try.prog 69 0 = some (0, false, 1) := fldOf Try.underlying69 rfl rfl ty2.1 ty2.2.1 ty2.2.2.1
@[simp] theorem fl69_1 : fldT Try.prog 69 1 = some (1, false, 1) := fldOf Try.underlying69 rfl rfl ty2.1 ty2.2.1 ty2.2.2.1
@[simp] theorem fl69_2 : fldT Try.prog 69 2 = some (2, false, 1) := fldOf Try.underlying69 rfl rfl ty24.1 ty24.2.1 ty24.2.2.1
@[simp] theorem fl69_3 : fldT Try.prog 69 3 = some (3, false, 1) := fldOf Try.underlying69 rfl rfl ty67.1 ty67.2.1 ty67.2.2.1
@[simp] theorem ts73 : structT Try.prog 73 = true := structOf Try.underlying73 (by simp [in2, in24, in71])
@[simp] theorem fl73_0 : fldT Try.prog 73 0 = some (0, false, 1) := fldOf Try.underlying73 rfl rfl ty2.1 ty2.2.1 ty2.2.2.1
@[simp] theorem fl73_1 : fldT Try.prog 73 1 = some (1, false, 1) := fldOf Try.underlying73 rfl rfl ty2.1 ty2.2.1 ty2.2.2.1
@[simp] theorem fl73_2 : fldT Try.prog 73 2 = some (2, false, 1) := fldOf Try.underlying73 rfl rfl ty24.1 ty24.2.1 ty24.2.2.1
@[simp] theorem fl73_3 : fldT Try.prog 73 3 = some (3, false, 1) := fldOf Try.underlying73 rfl rfl ty71.1 ty71.2.1 ty71.2.2.1
@[simp] theorem ts86 : structT Try.prog 86 = true := structOf Try.underlying86 (by simp [in2, in9])
@[simp] theorem fl86_0 : fldT Try.prog 86 0 = some (0, false, 1) := fldOf Try.underlying86 rfl rfl ty9.1 ty9.2.1 ty9.2.2.1
@[simp] theorem fl86_1 : fldT Try.prog 86 1 = some (1, false, 1) := fldOf Try.underlying86 rfl rfl ty2.1 ty2.2.1 ty2.2.2.1
@[simp] theorem fl86_2 : fldT Try.prog 86 2 = some (2, false, 1) := fldOf Try.underlying86 rfl rfl ty2.1 ty2.2.1 ty2.2.2.1
@[simp] theorem fl86_3 : fldT Try.prog 86 3 = some (3, false, 1) := fldOf Try.underlying86 rfl rfl ty2.1 ty2.2.1 ty2.2.2.1
@[simp] theorem fl86_4 : fldT Try.prog 86 4 = some (4, false, 1) := fldOf Try.underlying86 rfl rfl ty2.1 ty2.2.1 ty2.2.2.1
@[simp] theorem ts92 : structT Try.prog 92 = true := structOf Try.underlying92 (by simp [in2, in24, in27, in4])
@[simp] theorem fl92_0 : fldT Try.prog 92 0 = some (0, false, 1) := fldOf Try.underlying92 rfl rfl ty27.1 ty27.2.1 ty27.2.2.1
@[simp] theorem fl92_1 : fldT Try.prog 92 1 = some (1, false, 1) := fldOf Try.underlying92 rfl rfl ty2.1 ty2.2.1 ty2.2.2.1
@[simp] theorem fl92_2 : fldT Try.prog 92 2 = some (2, false, 1) := fldOf Try.underlying92 rfl rfl ty4.1 ty4.2.1 ty4.2.2.1
@[simp] theorem fl92_3 : fldT Try.prog 92 3 = some (3, false, 1) := fldOf Try.underlying92 rfl rfl ty24.1 ty24.2.1 ty24.2.2.1
@[simp] theorem fl92_4 : fldT Try.prog 92 4 = some (4, false, 1) := fldOf Try.underlying92 rfl rfl ty24.1 ty24.2.1 ty24.2.2.1
@[simp] theorem fl92_5 : fldT Try.prog 92 5 = some (5, false, 1) := fldOf Try.underlying92 rfl rfl ty2.1 ty2.2.1 ty2.2.2.1
@[simp] theorem ts93 : structT Try.prog 93 = true := structOf Try.underlying93 (by simp [in2, in9])
@[simp] theorem fl93_0 : fldT Try.prog 93 0 = some (0, false, 1) := fldOf Try.underlying93 rfl rfl ty9.1 ty9.2.1 ty9.2.2.1
@[simp] theorem fl93_1 : fldT Try.prog 93 1 = some (1, false, 1) := fldOf Try.underlying93 rfl rfl ty2.1 ty2.2.1 ty2.2.2.1
@[simp] theorem fl93_2 : fldT Try.prog 93 2 = some (2, false, 1) := fldOf Try.underlying93 rfl rfl ty2.1 ty2.2.1 ty2.2.2.1
@[simp] theorem fl93_3 : fldT Try.prog 93 3 = some (3, false, 1) := fldOf Try.underlying93 rfl rfl ty2.1 ty2.2.1 ty2.2.2.1
@[simp] theorem fl93_4 : fldT Try.prog 93 4 = some (4, false, 1) := fldOf Try.underlying93 rfl rfl ty2.1 ty2.2.1 ty2.2.2.1
@[simp] theorem ts115 : structT Try.prog 115 = true := structOf Try.underlying115 (by simp [in2])
@[simp] theorem fl115_0 : fldT Try.prog 115 0 = some (0, false, 1) := fldOf Try.underlying115 rfl rfl ty2.1 ty2.2.1 ty2.2.2.1
@[simp] theorem fl115_1 : fldT Try.prog 115 1 = some (1, false, 1) := fldOf Try.underlying115 rfl rfl ty2.1 ty2.2.1 ty2.2.2.1
@[simp] theorem fl115_2 : fldT Try.prog 115 2 = some (2, false, 1) := fldOf Try.underlying115 rfl rfl ty2.1 ty2.2.1 ty2.2.2.1
@[simp] theorem ts126 : structT Try.prog 126 = true := structOf Try.underlying126 (by simp [in9])
@[simp] theorem fl126_0 : fldT Try.prog 126 0 = some (0, false, 1) := fldOf Try.underlying126 rfl rfl ty9.1 ty9.2.1 ty9.2.2.1
@[simp] theorem fl126_1 : fldT Try.prog 126 1 = some (1, false, 1) := fldOf Try.underlying126 rfl rfl ty9.1 ty9.2.1 ty9.2.2.1
@[simp] theorem ts128 : structT Try.prog 128 = true := structOf Try.underlying128 (by simp [in9])
@[simp] theorem fl128_0 : fldT Try.prog 128 0 = some (0, false, 1) := fldOf Try.underlying128 rfl rfl ty9.1 ty9.2.1 ty9.2.2.1
@[simp] theorem fl128_1 : fldT Try.prog 128 1 = some (1, false, 1) := fldOf Try.underlying128 rfl rfl ty9.1 ty9.2.1 ty9.2.2.1
@[simp] theorem ts130 : structT Try.prog 130 = true := structOf Try.underlying130 (by simp [in2, in9])
@[simp] theorem fl130_0 : fldT Try.prog 130 0 = some (0, false, 1) := fldOf Try.underlying130 rfl rfl ty2.1 ty2.2.1 ty2.2.2.1
@[simp] theorem fl130_1 : fldT Try.prog 130 1 = some (1, false, 1) := fldOf Try.underlying130 rfl rfl ty9.1 ty9.2.1 ty9.2.2.1
@[simp] theorem fl130_2 : fldT Try.prog 130 2 = some (2, false, 1) := fldOf Try.underlying130 rfl rfl ty9.1 ty9.2.1 ty9.2.2.1
@[simp] theorem ts145 : structT Try.prog 145 = true := structOf Try.underlying145 (by simp [in2])
@[simp] theorem fl145_0 : fldT Try.prog 145 0 = some (0, false, 1) := fldOf Try.underlying145 rfl rfl ty2.1 ty2.2.1 ty2.2.2.1
@[simp] theorem fl145_1 : fldT Try.prog 145 1 = some (1, false, 1) := fldOf Try.underlying145 rfl rfl ty2.1 ty2.2.1 ty2.2.2.1
@[simp] theorem ts167 : structT Try.prog 167 = true := structOf Try.underlying167 (by simp [in165, in3, in36])
@[simp] theorem fl167_0 : fldT Try.prog 167 0 = some (0, false, 1) := fldOf Try.underlying167 rfl rfl ty36.1 ty36.2.1 ty36.2.2.1
@[simp] theorem fl167_1 : fldT Try.prog 167 1 = some (1, false, 1) := fldOf Try.underlying167 rfl rfl ty3.1 ty3.2.1 ty3.2.2.1
@[simp] theorem fl167_2 : fldT Try.prog 167 2 = some (2, false, 1) := fldOf Try.underlying167 rfl rfl ty165.1 ty165.2.1 ty165.2.2.1
@[simp] theorem ts177 : structT Try.prog 177 = true := structOf Try.underlying177 (by simp [in2])
@[simp] theorem fl177_0 : fldT Try.prog 177 0 = some (0, false, 1) := fldOf Try.underlying177 rfl rfl ty2.1 ty2.2.1 ty2.2.2.1
@[simp] theorem fl177_1 : fldT Try.prog 177 1 = some (1, false, 1) := fldOf Try.underlying177 rfl rfl ty2.1 ty2.2.1 ty2.2.2.1
@[simp] theorem fl177_2 : fldT Try.prog 177 2 = some (2, false, 1) := fldOf Try.underlying177 rfl rfl ty2.1 ty2.2.1 ty2.2.2.1
@[simp] theorem ts194 : structT Try.prog 194 = true := structOf Try.underlying194 (by simp [in2])
@[simp] theorem fl194_0 : fldT Try.prog 194 0 = some (0, false, 1) := fldOf Try.underlying194 rfl rfl ty2.1 ty2.2.1 ty2.2.2.1
@[simp] theorem fl194_1 : fldT Try.prog 194 1 = some (1, false, 1) := fldOf Try.underlying194 rfl rfl ty2.1 ty2.2.1 ty2.2.2.1
@[simp] theorem eq115 : EqT Try.prog 115 [1, 1, 1] := eqT_struct Try.underlying115 Try.stoodInHeld115 Try.eqGuardType115 (by simp [fieldsOk])
@[simp] theorem res_3 : Try.f3.results.toList = [.tmp 4] := rfl
@[simp] theorem res_4 : Try.f4.results.toList = [.tmp 4] := rfl
@[simp] theorem res_5 : Try.f5.results.toList = [.tmp 4] := rfl
@[simp] theorem res_6 : Try.f6.results.toList = [.tmp 6] := rfl
@[simp] theorem res_7 : Try.f7.results.toList = [.tmp 4] := rfl
@[simp] theorem res_8 : Try.f8.results.toList = [.tmp 4] := rfl
@[simp] theorem res_9 : Try.f9.results.toList = [.tmp 4] := rfl
@[simp] theorem res_10 : Try.f10.results.toList = [.tmp 6] := rfl
@[simp] theorem res_11 : Try.f11.results.toList = [.tmp 4] := rfl
@[simp] theorem res_12 : Try.f12.results.toList = [.tmp 4, .tmp 5] := rfl
@[simp] theorem res_13 : Try.f13.results.toList = [.tmp 2] := rfl
@[simp] theorem res_14 : Try.f14.results.toList = [.tmp 4, .tmp 5] := rfl
@[simp] theorem res_15 : Try.f15.results.toList = [.tmp 4] := rfl
@[simp] theorem res_16 : Try.f16.results.toList = [.tmp 4] := rfl
@[simp] theorem res_17 : Try.f17.results.toList = [.tmp 4] := rfl
@[simp] theorem res_18 : Try.f18.results.toList = [.tmp 4] := rfl
@[simp] theorem res_19 : Try.f19.results.toList = [.tmp 4] := rfl
@[simp] theorem res_20 : Try.f20.results.toList = [.tmp 4, .tmp 5, .tmp 6] := rfl
@[simp] theorem res_21 : Try.f21.results.toList = [.tmp 4, .tmp 5, .tmp 6] := rfl
@[simp] theorem res_22 : Try.f22.results.toList = [.tmp 4] := rfl
@[simp] theorem res_23 : Try.f23.results.toList = [.tmp 2] := rfl
@[simp] theorem res_24 : Try.f24.results.toList = [.tmp 6] := rfl
@[simp] theorem res_25 : Try.f25.results.toList = [.tmp 6, .tmp 7] := rfl
@[simp] theorem res_26 : Try.f26.results.toList = [.tmp 2, .tmp 3] := rfl
@[simp] theorem res_27 : Try.f27.results.toList = [.tmp 4] := rfl
@[simp] theorem res_28 : Try.f28.results.toList = [.tmp 6, .tmp 7] := rfl
@[simp] theorem res_29 : Try.f29.results.toList = [.cell 2 51] := rfl
@[simp] theorem res_30 : Try.f30.results.toList = [.tmp 6, .tmp 7] := rfl
@[simp] theorem res_31 : Try.f31.results.toList = [.tmp 4] := rfl
@[simp] theorem res_32 : Try.f32.results.toList = [.tmp 4] := rfl
@[simp] theorem res_33 : Try.f33.results.toList = [.tmp 4, .tmp 5] := rfl
@[simp] theorem res_34 : Try.f34.results.toList = [.tmp 2] := rfl
@[simp] theorem res_35 : Try.f35.results.toList = [.tmp 4, .tmp 5] := rfl
@[simp] theorem res_36 : Try.f36.results.toList = [.tmp 4] := rfl
@[simp] theorem res_37 : Try.f37.results.toList = [.tmp 4] := rfl
@[simp] theorem res_38 : Try.f38.results.toList = [.tmp 4] := rfl
@[simp] theorem res_39 : Try.f39.results.toList = [.tmp 4] := rfl
@[simp] theorem res_40 : Try.f40.results.toList = [.tmp 4] := rfl
@[simp] theorem res_41 : Try.f41.results.toList = [.tmp 4] := rfl
@[simp] theorem res_42 : Try.f42.results.toList = [.cell 4 73, .tmp 5] := rfl
@[simp] theorem res_43 : Try.f43.results.toList = [.cell 2 73] := rfl
@[simp] theorem res_44 : Try.f44.results.toList = [.cell 4 73, .tmp 5] := rfl
@[simp] theorem res_45 : Try.f45.results.toList = [.tmp 4] := rfl
@[simp] theorem res_46 : Try.f46.results.toList = [.tmp 4] := rfl
@[simp] theorem res_47 : Try.f47.results.toList = [.tmp 4] := rfl
@[simp] theorem res_48 : Try.f48.results.toList = [.cell 4 51, .tmp 5] := rfl
@[simp] theorem res_49 : Try.f49.results.toList = [.cell 4 51, .tmp 5] := rfl
@[simp] theorem res_50 : Try.f50.results.toList = [.tmp 4] := rfl
@[simp] theorem res_51 : Try.f51.results.toList = [.tmp 4] := rfl
@[simp] theorem res_52 : Try.f52.results.toList = [.cell 6 73, .tmp 7] := rfl
@[simp] theorem res_53 : Try.f53.results.toList = [.cell 6 73, .tmp 7] := rfl
@[simp] theorem res_54 : Try.f54.results.toList = [.tmp 4] := rfl
@[simp] theorem res_55 : Try.f55.results.toList = [.tmp 6, .tmp 7] := rfl
@[simp] theorem res_56 : Try.f56.results.toList = [.tmp 2] := rfl
@[simp] theorem res_57 : Try.f57.results.toList = [.cell 2 93] := rfl
@[simp] theorem res_58 : Try.f58.results.toList = [.tmp 4] := rfl
@[simp] theorem res_59 : Try.f59.results.toList = [.tmp 6] := rfl
@[simp] theorem res_60 : Try.f60.results.toList = [.tmp 2] := rfl
@[simp] theorem res_61 : Try.f61.results.toList = [.tmp 2] := rfl
@[simp] theorem res_62 : Try.f62.results.toList = [.tmp 4] := rfl
@[simp] theorem res_63 : Try.f63.results.toList = [.tmp 2] := rfl
@[simp] theorem res_64 : Try.f64.results.toList = [.tmp 3] := rfl
@[simp] theorem res_65 : Try.f65.results.toList = [.tmp 4] := rfl
@[simp] theorem res_66 : Try.f66.results.toList = [.tmp 2] := rfl
@[simp] theorem res_67 : Try.f67.results.toList = [.tmp 2] := rfl
@[simp] theorem res_68 : Try.f68.results.toList = [.tmp 2, .tmp 3] := rfl
@[simp] theorem res_69 : Try.f69.results.toList = [.tmp 2, .tmp 3] := rfl
@[simp] theorem res_70 : Try.f70.results.toList = [.tmp 6, .tmp 7] := rfl
@[simp] theorem res_71 : Try.f71.results.toList = [.tmp 2] := rfl
@[simp] theorem res_72 : Try.f72.results.toList = [.tmp 6] := rfl
@[simp] theorem res_73 : Try.f73.results.toList = [.tmp 4] := rfl
@[simp] theorem res_74 : Try.f74.results.toList = [.tmp 2] := rfl
@[simp] theorem res_75 : Try.f75.results.toList = [.tmp 4] := rfl
@[simp] theorem res_76 : Try.f76.results.toList = [.tmp 6] := rfl
@[simp] theorem res_77 : Try.f77.results.toList = [.tmp 4] := rfl
@[simp] theorem res_78 : Try.f78.results.toList = [.tmp 2] := rfl
@[simp] theorem res_79 : Try.f79.results.toList = [.tmp 6] := rfl
@[simp] theorem res_80 : Try.f80.results.toList = [.tmp 4] := rfl
@[simp] theorem res_81 : Try.f81.results.toList = [.tmp 2] := rfl
@[simp] theorem res_82 : Try.f82.results.toList = [.tmp 8, .tmp 9] := rfl
@[simp] theorem res_83 : Try.f83.results.toList = [.tmp 4] := rfl
@[simp] theorem res_84 : Try.f84.results.toList = [.tmp 4] := rfl
@[simp] theorem res_85 : Try.f85.results.toList = [.tmp 2] := rfl
@[simp] theorem res_86 : Try.f86.results.toList = [.cell 2 128] := rfl
@[simp] theorem res_87 : Try.f87.results.toList = [.tmp 2] := rfl
@[simp] theorem res_88 : Try.f88.results.toList = [.tmp 2] := rfl
@[simp] theorem res_89 : Try.f89.results.toList = [] := rfl
@[simp] theorem res_90 : Try.f90.results.toList = [.tmp 2] := rfl
@[simp] theorem res_91 : Try.f91.results.toList = [.tmp 4, .tmp 5] := rfl
@[simp] theorem res_92 : Try.f92.results.toList = [.tmp 4] := rfl
@[simp] theorem res_93 : Try.f93.results.toList = [.tmp 4] := rfl
@[simp] theorem res_94 : Try.f94.results.toList = [.tmp 4] := rfl
@[simp] theorem res_95 : Try.f95.results.toList = [.tmp 4] := rfl
@[simp] theorem res_96 : Try.f96.results.toList = [.tmp 2] := rfl
@[simp] theorem res_97 : Try.f97.results.toList = [.tmp 4] := rfl
@[simp] theorem res_98 : Try.f98.results.toList = [.tmp 2] := rfl
@[simp] theorem res_99 : Try.f99.results.toList = [.tmp 2] := rfl
@[simp] theorem res_100 : Try.f100.results.toList = [.tmp 2] := rfl
@[simp] theorem res_101 : Try.f101.results.toList = [.cell 2 73] := rfl
@[simp] theorem res_102 : Try.f102.results.toList = [] := rfl
@[simp] theorem res_103 : Try.f103.results.toList = [.tmp 4] := rfl
@[simp] theorem res_104 : Try.f104.results.toList = [.tmp 4] := rfl
@[simp] theorem res_105 : Try.f105.results.toList = [.tmp 4] := rfl
@[simp] theorem res_106 : Try.f106.results.toList = [.tmp 4] := rfl
@[simp] theorem res_107 : Try.f107.results.toList = [.tmp 6] := rfl
@[simp] theorem res_108 : Try.f108.results.toList = [.tmp 2] := rfl
@[simp] theorem res_109 : Try.f109.results.toList = [.tmp 2] := rfl
@[simp] theorem res_110 : Try.f110.results.toList = [] := rfl
@[simp] theorem res_111 : Try.f111.results.toList = [.tmp 4] := rfl
@[simp] theorem res_112 : Try.f112.results.toList = [.tmp 2] := rfl
@[simp] theorem res_113 : Try.f113.results.toList = [.cell 4 51, .tmp 5] := rfl
@[simp] theorem res_114 : Try.f114.results.toList = [.tmp 4] := rfl
@[simp] theorem res_115 : Try.f115.results.toList = [.tmp 4] := rfl
@[simp] theorem res_116 : Try.f116.results.toList = [.tmp 2] := rfl
@[simp] theorem res_117 : Try.f117.results.toList = [.tmp 6] := rfl
@[simp] theorem res_118 : Try.f118.results.toList = [] := rfl
@[simp] theorem res_119 : Try.f119.results.toList = [.tmp 6] := rfl
@[simp] theorem res_120 : Try.f120.results.toList = [] := rfl
@[simp] theorem res_121 : Try.f121.results.toList = [.tmp 2] := rfl
@[simp] theorem res_122 : Try.f122.results.toList = [.tmp 2] := rfl
@[simp] theorem res_123 : Try.f123.results.toList = [.tmp 6] := rfl
@[simp] theorem res_124 : Try.f124.results.toList = [.tmp 4] := rfl
@[simp] theorem res_125 : Try.f125.results.toList = [.tmp 2] := rfl
@[simp] theorem res_126 : Try.f126.results.toList = [.tmp 4] := rfl
@[simp] theorem res_127 : Try.f127.results.toList = [.tmp 4, .tmp 5] := rfl
@[simp] theorem res_128 : Try.f128.results.toList = [.cell 2 93] := rfl
@[simp] theorem res_129 : Try.f129.results.toList = [.tmp 2] := rfl
@[simp] theorem res_130 : Try.f130.results.toList = [.tmp 2] := rfl
@[simp] theorem res_131 : Try.f131.results.toList = [.tmp 6] := rfl
@[simp] theorem res_132 : Try.f132.results.toList = [.cell 2 115] := rfl
@[simp] theorem res_133 : Try.f133.results.toList = [.tmp 2] := rfl
@[simp] theorem res_134 : Try.f134.results.toList = [.tmp 2] := rfl
@[simp] theorem res_135 : Try.f135.results.toList = [] := rfl
@[simp] theorem res_136 : Try.f136.results.toList = [.tmp 2] := rfl
@[simp] theorem res_137 : Try.f137.results.toList = [.tmp 4] := rfl
@[simp] theorem res_138 : Try.f138.results.toList = [.tmp 4] := rfl
@[simp] theorem res_139 : Try.f139.results.toList = [.tmp 4] := rfl
@[simp] theorem res_140 : Try.f140.results.toList = [.tmp 2] := rfl
@[simp] theorem res_141 : Try.f141.results.toList = [.tmp 2] := rfl
@[simp] theorem res_142 : Try.f142.results.toList = [.tmp 2] := rfl
@[simp] theorem res_143 : Try.f143.results.toList = [.tmp 2] := rfl
@[simp] theorem res_144 : Try.f144.results.toList = [.tmp 4] := rfl
@[simp] theorem res_145 : Try.f145.results.toList = [] := rfl
@[simp] theorem res_146 : Try.f146.results.toList = [.tmp 2] := rfl
@[simp] theorem res_147 : Try.f147.results.toList = [.tmp 6, .tmp 7] := rfl
@[simp] theorem res_148 : Try.f148.results.toList = [.tmp 4] := rfl
@[simp] theorem res_149 : Try.f149.results.toList = [.tmp 4] := rfl
@[simp] theorem res_150 : Try.f150.results.toList = [.tmp 4] := rfl
@[simp] theorem res_151 : Try.f151.results.toList = [.tmp 4] := rfl
@[simp] theorem res_152 : Try.f152.results.toList = [.cell 2 145] := rfl
@[simp] theorem res_153 : Try.f153.results.toList = [.tmp 6] := rfl
@[simp] theorem res_154 : Try.f154.results.toList = [.tmp 2] := rfl
@[simp] theorem res_155 : Try.f155.results.toList = [.tmp 4] := rfl
@[simp] theorem res_156 : Try.f156.results.toList = [.tmp 2] := rfl
@[simp] theorem res_157 : Try.f157.results.toList = [.tmp 4] := rfl
@[simp] theorem res_158 : Try.f158.results.toList = [.tmp 2] := rfl
@[simp] theorem res_159 : Try.f159.results.toList = [] := rfl
@[simp] theorem res_160 : Try.f160.results.toList = [.tmp 2] := rfl
@[simp] theorem res_161 : Try.f161.results.toList = [.tmp 4] := rfl
@[simp] theorem res_162 : Try.f162.results.toList = [.tmp 4] := rfl
@[simp] theorem res_163 : Try.f163.results.toList = [.tmp 2] := rfl
@[simp] theorem res_164 : Try.f164.results.toList = [.tmp 4] := rfl
@[simp] theorem res_165 : Try.f165.results.toList = [] := rfl
@[simp] theorem res_166 : Try.f166.results.toList = [] := rfl
@[simp] theorem res_167 : Try.f167.results.toList = [.tmp 4] := rfl
@[simp] theorem res_168 : Try.f168.results.toList = [.tmp 2] := rfl
@[simp] theorem res_169 : Try.f169.results.toList = [.tmp 2] := rfl
@[simp] theorem res_170 : Try.f170.results.toList = [.tmp 4] := rfl
@[simp] theorem res_171 : Try.f171.results.toList = [.tmp 6] := rfl
@[simp] theorem res_172 : Try.f172.results.toList = [] := rfl
@[simp] theorem res_173 : Try.f173.results.toList = [.tmp 5] := rfl
@[simp] theorem res_174 : Try.f174.results.toList = [.tmp 4] := rfl
@[simp] theorem res_175 : Try.f175.results.toList = [.tmp 2] := rfl
@[simp] theorem res_176 : Try.f176.results.toList = [.tmp 4] := rfl
@[simp] theorem res_177 : Try.f177.results.toList = [.tmp 4] := rfl
@[simp] theorem res_178 : Try.f178.results.toList = [.tmp 4] := rfl
@[simp] theorem res_179 : Try.f179.results.toList = [.tmp 2] := rfl
@[simp] theorem res_180 : Try.f180.results.toList = [.tmp 2] := rfl
@[simp] theorem res_181 : Try.f181.results.toList = [] := rfl
@[simp] theorem res_182 : Try.f182.results.toList = [.tmp 2] := rfl
@[simp] theorem res_183 : Try.f183.results.toList = [.tmp 2] := rfl
@[simp] theorem res_184 : Try.f184.results.toList = [.tmp 4] := rfl
@[simp] theorem res_185 : Try.f185.results.toList = [.tmp 2] := rfl
@[simp] theorem res_186 : Try.f186.results.toList = [] := rfl
@[simp] theorem res_187 : Try.f187.results.toList = [] := rfl
@[simp] theorem res_188 : Try.f188.results.toList = [] := rfl
@[simp] theorem res_189 : Try.f189.results.toList = [.tmp 6, .tmp 7] := rfl
@[simp] theorem res_190 : Try.f190.results.toList = [] := rfl
@[simp] theorem res_191 : Try.f191.results.toList = [.tmp 6] := rfl
@[simp] theorem res_192 : Try.f192.results.toList = [.tmp 4] := rfl
@[simp] theorem res_193 : Try.f193.results.toList = [.tmp 8] := rfl
@[simp] theorem res_194 : Try.f194.results.toList = [.tmp 8, .tmp 9] := rfl
@[simp] theorem res_195 : Try.f195.results.toList = [.tmp 2] := rfl
@[simp] theorem res_196 : Try.f196.results.toList = [.tmp 2] := rfl
@[simp] theorem res_197 : Try.f197.results.toList = [.tmp 4] := rfl
@[simp] theorem res_198 : Try.f198.results.toList = [.tmp 4] := rfl
@[simp] theorem res_199 : Try.f199.results.toList = [.tmp 4] := rfl
@[simp] theorem res_200 : Try.f200.results.toList = [.tmp 4] := rfl
@[simp] theorem res_201 : Try.f201.results.toList = [] := rfl
@[simp] theorem res_202 : Try.f202.results.toList = [] := rfl
@[simp] theorem res_203 : Try.f203.results.toList = [] := rfl
@[simp] theorem res_204 : Try.f204.results.toList = [.tmp 8, .tmp 9] := rfl
@[simp] theorem res_205 : Try.f205.results.toList = [] := rfl
@[simp] theorem res_206 : Try.f206.results.toList = [.tmp 8] := rfl
@[simp] theorem res_207 : Try.f207.results.toList = [.tmp 10] := rfl
@[simp] theorem res_208 : Try.f208.results.toList = [.tmp 10, .tmp 11] := rfl
@[simp] theorem res_209 : Try.f209.results.toList = [.tmp 2] := rfl
@[simp] theorem res_210 : Try.f210.results.toList = [] := rfl
@[simp] theorem res_211 : Try.f211.results.toList = [] := rfl
@[simp] theorem res_212 : Try.f212.results.toList = [] := rfl
@[simp] theorem res_213 : Try.f213.results.toList = [.tmp 8, .tmp 9] := rfl
@[simp] theorem res_214 : Try.f214.results.toList = [] := rfl
@[simp] theorem res_215 : Try.f215.results.toList = [.tmp 8] := rfl
@[simp] theorem res_216 : Try.f216.results.toList = [.tmp 10] := rfl
@[simp] theorem res_217 : Try.f217.results.toList = [.tmp 10, .tmp 11] := rfl
@[simp] theorem res_218 : Try.f218.results.toList = [] := rfl
@[simp] theorem res_219 : Try.f219.results.toList = [.tmp 2] := rfl
@[simp] theorem res_220 : Try.f220.results.toList = [.tmp 4] := rfl
@[simp] theorem res_221 : Try.f221.results.toList = [] := rfl
@[simp] theorem res_222 : Try.f222.results.toList = [] := rfl
@[simp] theorem res_223 : Try.f223.results.toList = [] := rfl
@[simp] theorem res_224 : Try.f224.results.toList = [] := rfl
@[simp] theorem res_225 : Try.f225.results.toList = [.tmp 6, .tmp 7] := rfl
@[simp] theorem res_226 : Try.f226.results.toList = [] := rfl
@[simp] theorem res_227 : Try.f227.results.toList = [.tmp 6] := rfl
@[simp] theorem res_228 : Try.f228.results.toList = [.tmp 8] := rfl
@[simp] theorem res_229 : Try.f229.results.toList = [.tmp 8, .tmp 9] := rfl
@[simp] theorem res_230 : Try.f230.results.toList = [.tmp 4] := rfl
@[simp] theorem res_231 : Try.f231.results.toList = [] := rfl
@[simp] theorem res_232 : Try.f232.results.toList = [.tmp 2] := rfl
@[simp] theorem res_233 : Try.f233.results.toList = [.tmp 2] := rfl
@[simp] theorem res_234 : Try.f234.results.toList = [.tmp 6] := rfl
@[simp] theorem res_235 : Try.f235.results.toList = [.tmp 10] := rfl
@[simp] theorem res_236 : Try.f236.results.toList = [.tmp 2] := rfl
@[simp] theorem res_238 : Try.f238.results.toList = [] := rfl
@[simp] theorem res_239 : Try.f239.results.toList = [.tmp 8] := rfl
@[simp] theorem res_240 : Try.f240.results.toList = [.tmp 12] := rfl
@[simp] theorem res_241 : Try.f241.results.toList = [] := rfl
@[simp] theorem res_242 : Try.f242.results.toList = [.tmp 8] := rfl
@[simp] theorem res_243 : Try.f243.results.toList = [.tmp 12] := rfl
@[simp] theorem res_244 : Try.f244.results.toList = [] := rfl
@[simp] theorem res_245 : Try.f245.results.toList = [.tmp 2] := rfl
@[simp] theorem res_246 : Try.f246.results.toList = [] := rfl
@[simp] theorem res_247 : Try.f247.results.toList = [] := rfl
@[simp] theorem res_248 : Try.f248.results.toList = [] := rfl
@[simp] theorem res_249 : Try.f249.results.toList = [.tmp 6] := rfl
@[simp] theorem res_250 : Try.f250.results.toList = [.tmp 10] := rfl
@[simp] theorem res_251 : Try.f251.results.toList = [.tmp 8, .tmp 9] := rfl
@[simp] theorem res_252 : Try.f252.results.toList = [.tmp 10, .tmp 11] := rfl
@[simp] theorem res_253 : Try.f253.results.toList = [.tmp 10, .tmp 11] := rfl
@[simp] theorem res_254 : Try.f254.results.toList = [] := rfl
@[simp] theorem res_255 : Try.f255.results.toList = [] := rfl
@[simp] theorem res_256 : Try.f256.results.toList = [.tmp 8, .tmp 9] := rfl
@[simp] theorem res_257 : Try.f257.results.toList = [] := rfl
@[simp] theorem res_258 : Try.f258.results.toList = [] := rfl
theorem hm : Try.prog.follows .mixedOrders = true := Try.checked.mixed
end Go.Proofs.Ytnphmemhejhooaa
