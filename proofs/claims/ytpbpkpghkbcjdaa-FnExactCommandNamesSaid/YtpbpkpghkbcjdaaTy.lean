/- Closed facts on the types of the program. Made by a program (gen_types.py). No condition. -/
import Derived.Test.YtpbpkpghkbcjdaaAbz
import Derived.Test.YtpbpkpghkbcjdaaAbw
import Derived.Test.YtpbpkpghkbcjdaaRows
namespace Go.Proofs.Ytpbpkpghkbcjdaa
open Go Go.Ab

@[simp] theorem ty_known1 : knownT Try.prog 1 = true := by kernel_rfl
@[simp] theorem ty_agg1 : aggT Try.prog 1 = false := by kernel_rfl
@[simp] theorem ty_size1 : sizeT Try.prog 1 = 1 := by kernel_rfl
@[simp] theorem ty_bytes1 : bytesT Try.prog 1 = 8 := by kernel_rfl
@[simp] theorem ty_zok1 : zokT Try.prog 1 = true := by kernel_rfl
@[simp] theorem ty_zero1 : zeroT Try.prog 1 = some [.raw .nilFunc] := by kernel_rfl
@[simp] theorem ty_known2 : knownT Try.prog 2 = true := by kernel_rfl
@[simp] theorem ty_agg2 : aggT Try.prog 2 = false := by kernel_rfl
@[simp] theorem ty_size2 : sizeT Try.prog 2 = 1 := by kernel_rfl
@[simp] theorem ty_bytes2 : bytesT Try.prog 2 = 8 := by kernel_rfl
@[simp] theorem ty_zok2 : zokT Try.prog 2 = true := by kernel_rfl
@[simp] theorem ty_zero2 : zeroT Try.prog 2 = some [.int .i64 0] := by kernel_rfl
@[simp] theorem ty_kind2 : kindT Try.prog 2 = some .i64 := by kernel_rfl
@[simp] theorem ty_known3 : knownT Try.prog 3 = true := by kernel_rfl
@[simp] theorem ty_agg3 : aggT Try.prog 3 = false := by kernel_rfl
@[simp] theorem ty_size3 : sizeT Try.prog 3 = 1 := by kernel_rfl
@[simp] theorem ty_bytes3 : bytesT Try.prog 3 = 8 := by kernel_rfl
@[simp] theorem ty_zok3 : zokT Try.prog 3 = true := by kernel_rfl
@[simp] theorem ty_zero3 : zeroT Try.prog 3 = some [.int .i64 0] := by kernel_rfl
@[simp] theorem ty_kind3 : kindT Try.prog 3 = some .i64 := by kernel_rfl
@[simp] theorem ty_known4 : knownT Try.prog 4 = true := by kernel_rfl
@[simp] theorem ty_agg4 : aggT Try.prog 4 = false := by kernel_rfl
@[simp] theorem ty_size4 : sizeT Try.prog 4 = 1 := by kernel_rfl
@[simp] theorem ty_bytes4 : bytesT Try.prog 4 = 1 := by kernel_rfl
@[simp] theorem ty_zok4 : zokT Try.prog 4 = true := by kernel_rfl
@[simp] theorem ty_zero4 : zeroT Try.prog 4 = some [.bool false] := by kernel_rfl
@[simp] theorem ty_bool4 : Try.prog.underlying 4 = some .bool := by kernel_rfl
@[simp] theorem ty_known5 : knownT Try.prog 5 = true := by kernel_rfl
@[simp] theorem ty_agg5 : aggT Try.prog 5 = false := by kernel_rfl
@[simp] theorem ty_size5 : sizeT Try.prog 5 = 1 := by kernel_rfl
@[simp] theorem ty_bytes5 : bytesT Try.prog 5 = 1 := by kernel_rfl
@[simp] theorem ty_zok5 : zokT Try.prog 5 = true := by kernel_rfl
@[simp] theorem ty_zero5 : zeroT Try.prog 5 = some [.int .u8 0] := by kernel_rfl
@[simp] theorem ty_kind5 : kindT Try.prog 5 = some .u8 := by kernel_rfl
@[simp] theorem ty_known6 : knownT Try.prog 6 = true := by kernel_rfl
@[simp] theorem ty_agg6 : aggT Try.prog 6 = false := by kernel_rfl
@[simp] theorem ty_size6 : sizeT Try.prog 6 = 1 := by kernel_rfl
@[simp] theorem ty_bytes6 : bytesT Try.prog 6 = 1 := by kernel_rfl
@[simp] theorem ty_zok6 : zokT Try.prog 6 = true := by kernel_rfl
@[simp] theorem ty_zero6 : zeroT Try.prog 6 = some [.int .u8 0] := by kernel_rfl
@[simp] theorem ty_kind6 : kindT Try.prog 6 = some .u8 := by kernel_rfl
@[simp] theorem ty_known7 : knownT Try.prog 7 = true := by kernel_rfl
@[simp] theorem ty_agg7 : aggT Try.prog 7 = true := by kernel_rfl
@[simp] theorem ty_size7 : sizeT Try.prog 7 = 4 := by kernel_rfl
@[simp] theorem ty_bytes7 : bytesT Try.prog 7 = 24 := by kernel_rfl
@[simp] theorem ty_zok7 : zokT Try.prog 7 = true := by kernel_rfl
@[simp] theorem ty_zero7 : zeroT Try.prog 7 = some [.int .i64 0, .int .i64 0, .bool false, .int .u8 0] := by kernel_rfl
@[simp] theorem ty_struct7 : structT Try.prog 7 = true := by kernel_rfl
@[simp] theorem ty_fld7_0 : fldT Try.prog 7 0 = some (0, false, 1) := by kernel_rfl
@[simp] theorem ty_fld7_1 : fldT Try.prog 7 1 = some (1, false, 1) := by kernel_rfl
@[simp] theorem ty_fld7_2 : fldT Try.prog 7 2 = some (2, false, 1) := by kernel_rfl
@[simp] theorem ty_fld7_3 : fldT Try.prog 7 3 = some (3, false, 1) := by kernel_rfl
@[simp] theorem ty_known8 : knownT Try.prog 8 = true := by kernel_rfl
@[simp] theorem ty_agg8 : aggT Try.prog 8 = true := by kernel_rfl
@[simp] theorem ty_size8 : sizeT Try.prog 8 = 4 := by kernel_rfl
@[simp] theorem ty_bytes8 : bytesT Try.prog 8 = 24 := by kernel_rfl
@[simp] theorem ty_zok8 : zokT Try.prog 8 = true := by kernel_rfl
@[simp] theorem ty_zero8 : zeroT Try.prog 8 = some [.int .i64 0, .int .i64 0, .bool false, .int .u8 0] := by kernel_rfl
@[simp] theorem ty_struct8 : structT Try.prog 8 = true := by kernel_rfl
@[simp] theorem ty_fld8_0 : fldT Try.prog 8 0 = some (0, false, 1) := by kernel_rfl
@[simp] theorem ty_fld8_1 : fldT Try.prog 8 1 = some (1, false, 1) := by kernel_rfl
@[simp] theorem ty_fld8_2 : fldT Try.prog 8 2 = some (2, false, 1) := by kernel_rfl
@[simp] theorem ty_fld8_3 : fldT Try.prog 8 3 = some (3, false, 1) := by kernel_rfl
@[simp] theorem ty_known9 : knownT Try.prog 9 = true := by kernel_rfl
@[simp] theorem ty_agg9 : aggT Try.prog 9 = false := by kernel_rfl
@[simp] theorem ty_size9 : sizeT Try.prog 9 = 1 := by kernel_rfl
@[simp] theorem ty_bytes9 : bytesT Try.prog 9 = 16 := by kernel_rfl
@[simp] theorem ty_zok9 : zokT Try.prog 9 = true := by kernel_rfl
@[simp] theorem ty_zero9 : zeroT Try.prog 9 = some [.str []] := by kernel_rfl
@[simp] theorem ty_str9 : strT Try.prog 9 = true := by kernel_rfl
@[simp] theorem ty_selem9 : elemT Try.prog 9 = none := by kernel_rfl
@[simp] theorem ty_kindn9 : kindT Try.prog 9 = none := by kernel_rfl
@[simp] theorem ty_known10 : knownT Try.prog 10 = true := by kernel_rfl
@[simp] theorem ty_agg10 : aggT Try.prog 10 = false := by kernel_rfl
@[simp] theorem ty_size10 : sizeT Try.prog 10 = 1 := by kernel_rfl
@[simp] theorem ty_bytes10 : bytesT Try.prog 10 = 16 := by kernel_rfl
@[simp] theorem ty_zok10 : zokT Try.prog 10 = true := by kernel_rfl
@[simp] theorem ty_zero10 : zeroT Try.prog 10 = some [.str []] := by kernel_rfl
@[simp] theorem ty_str10 : strT Try.prog 10 = true := by kernel_rfl
@[simp] theorem ty_selem10 : elemT Try.prog 10 = none := by kernel_rfl
@[simp] theorem ty_kindn10 : kindT Try.prog 10 = none := by kernel_rfl
@[simp] theorem ty_known11 : knownT Try.prog 11 = true := by kernel_rfl
@[simp] theorem ty_agg11 : aggT Try.prog 11 = false := by kernel_rfl
@[simp] theorem ty_size11 : sizeT Try.prog 11 = 1 := by kernel_rfl
@[simp] theorem ty_bytes11 : bytesT Try.prog 11 = 16 := by kernel_rfl
@[simp] theorem ty_zok11 : zokT Try.prog 11 = true := by kernel_rfl
@[simp] theorem ty_zero11 : zeroT Try.prog 11 = some [.str []] := by kernel_rfl
@[simp] theorem ty_str11 : strT Try.prog 11 = true := by kernel_rfl
@[simp] theorem ty_selem11 : elemT Try.prog 11 = none := by kernel_rfl
@[simp] theorem ty_kindn11 : kindT Try.prog 11 = none := by kernel_rfl
@[simp] theorem ty_known12 : knownT Try.prog 12 = true := by kernel_rfl
@[simp] theorem ty_agg12 : aggT Try.prog 12 = false := by kernel_rfl
@[simp] theorem ty_size12 : sizeT Try.prog 12 = 1 := by kernel_rfl
@[simp] theorem ty_bytes12 : bytesT Try.prog 12 = 8 := by kernel_rfl
@[simp] theorem ty_zok12 : zokT Try.prog 12 = true := by kernel_rfl
@[simp] theorem ty_zero12 : zeroT Try.prog 12 = some [.int .u64 0] := by kernel_rfl
@[simp] theorem ty_kind12 : kindT Try.prog 12 = some .u64 := by kernel_rfl
@[simp] theorem ty_known13 : knownT Try.prog 13 = true := by kernel_rfl
@[simp] theorem ty_agg13 : aggT Try.prog 13 = true := by kernel_rfl
@[simp] theorem ty_size13 : sizeT Try.prog 13 = 2 := by kernel_rfl
@[simp] theorem ty_bytes13 : bytesT Try.prog 13 = 24 := by kernel_rfl
@[simp] theorem ty_zok13 : zokT Try.prog 13 = true := by kernel_rfl
@[simp] theorem ty_zero13 : zeroT Try.prog 13 = some [.str [], .int .u64 0] := by kernel_rfl
@[simp] theorem ty_struct13 : structT Try.prog 13 = true := by kernel_rfl
@[simp] theorem ty_fld13_0 : fldT Try.prog 13 0 = some (0, false, 1) := by kernel_rfl
@[simp] theorem ty_fld13_1 : fldT Try.prog 13 1 = some (1, false, 1) := by kernel_rfl
@[simp] theorem ty_known14 : knownT Try.prog 14 = true := by kernel_rfl
@[simp] theorem ty_agg14 : aggT Try.prog 14 = true := by kernel_rfl
@[simp] theorem ty_size14 : sizeT Try.prog 14 = 2 := by kernel_rfl
@[simp] theorem ty_bytes14 : bytesT Try.prog 14 = 24 := by kernel_rfl
@[simp] theorem ty_zok14 : zokT Try.prog 14 = true := by kernel_rfl
@[simp] theorem ty_zero14 : zeroT Try.prog 14 = some [.str [], .int .u64 0] := by kernel_rfl
@[simp] theorem ty_struct14 : structT Try.prog 14 = true := by kernel_rfl
@[simp] theorem ty_fld14_0 : fldT Try.prog 14 0 = some (0, false, 1) := by kernel_rfl
@[simp] theorem ty_fld14_1 : fldT Try.prog 14 1 = some (1, false, 1) := by kernel_rfl
@[simp] theorem ty_known15 : knownT Try.prog 15 = true := by kernel_rfl
@[simp] theorem ty_agg15 : aggT Try.prog 15 = false := by kernel_rfl
@[simp] theorem ty_size15 : sizeT Try.prog 15 = 1 := by kernel_rfl
@[simp] theorem ty_bytes15 : bytesT Try.prog 15 = 8 := by kernel_rfl
@[simp] theorem ty_zok15 : zokT Try.prog 15 = true := by kernel_rfl
@[simp] theorem ty_zero15 : zeroT Try.prog 15 = some [.raw (.pointer none)] := by kernel_rfl
@[simp] theorem ty_known16 : knownT Try.prog 16 = true := by kernel_rfl
@[simp] theorem ty_agg16 : aggT Try.prog 16 = false := by kernel_rfl
@[simp] theorem ty_size16 : sizeT Try.prog 16 = 1 := by kernel_rfl
@[simp] theorem ty_bytes16 : bytesT Try.prog 16 = 8 := by kernel_rfl
@[simp] theorem ty_zok16 : zokT Try.prog 16 = true := by kernel_rfl
@[simp] theorem ty_zero16 : zeroT Try.prog 16 = some [.raw (.pointer none)] := by kernel_rfl
@[simp] theorem ty_known17 : knownT Try.prog 17 = true := by kernel_rfl
@[simp] theorem ty_agg17 : aggT Try.prog 17 = false := by kernel_rfl
@[simp] theorem ty_size17 : sizeT Try.prog 17 = 1 := by kernel_rfl
@[simp] theorem ty_bytes17 : bytesT Try.prog 17 = 8 := by kernel_rfl
@[simp] theorem ty_zok17 : zokT Try.prog 17 = true := by kernel_rfl
@[simp] theorem ty_zero17 : zeroT Try.prog 17 = some [.raw (.pointer none)] := by kernel_rfl
@[simp] theorem ty_known18 : knownT Try.prog 18 = true := by kernel_rfl
@[simp] theorem ty_agg18 : aggT Try.prog 18 = true := by kernel_rfl
@[simp] theorem ty_size18 : sizeT Try.prog 18 = 1 := by kernel_rfl
@[simp] theorem ty_bytes18 : bytesT Try.prog 18 = 8 := by kernel_rfl
@[simp] theorem ty_zok18 : zokT Try.prog 18 = true := by kernel_rfl
@[simp] theorem ty_zero18 : zeroT Try.prog 18 = some [.raw (.pointer none)] := by kernel_rfl
@[simp] theorem ty_struct18 : structT Try.prog 18 = true := by kernel_rfl
@[simp] theorem ty_fld18_0 : fldT Try.prog 18 0 = some (0, false, 1) := by kernel_rfl
@[simp] theorem ty_known19 : knownT Try.prog 19 = true := by kernel_rfl
@[simp] theorem ty_agg19 : aggT Try.prog 19 = true := by kernel_rfl
@[simp] theorem ty_size19 : sizeT Try.prog 19 = 1 := by kernel_rfl
@[simp] theorem ty_bytes19 : bytesT Try.prog 19 = 8 := by kernel_rfl
@[simp] theorem ty_zok19 : zokT Try.prog 19 = true := by kernel_rfl
@[simp] theorem ty_zero19 : zeroT Try.prog 19 = some [.raw (.pointer none)] := by kernel_rfl
@[simp] theorem ty_struct19 : structT Try.prog 19 = true := by kernel_rfl
@[simp] theorem ty_fld19_0 : fldT Try.prog 19 0 = some (0, false, 1) := by kernel_rfl
@[simp] theorem ty_known21 : knownT Try.prog 21 = true := by kernel_rfl
@[simp] theorem ty_agg21 : aggT Try.prog 21 = false := by kernel_rfl
@[simp] theorem ty_size21 : sizeT Try.prog 21 = 1 := by kernel_rfl
@[simp] theorem ty_bytes21 : bytesT Try.prog 21 = 4 := by kernel_rfl
@[simp] theorem ty_zok21 : zokT Try.prog 21 = true := by kernel_rfl
@[simp] theorem ty_zero21 : zeroT Try.prog 21 = some [.int .i32 0] := by kernel_rfl
@[simp] theorem ty_kind21 : kindT Try.prog 21 = some .i32 := by kernel_rfl
@[simp] theorem ty_known22 : knownT Try.prog 22 = true := by kernel_rfl
@[simp] theorem ty_agg22 : aggT Try.prog 22 = false := by kernel_rfl
@[simp] theorem ty_size22 : sizeT Try.prog 22 = 1 := by kernel_rfl
@[simp] theorem ty_bytes22 : bytesT Try.prog 22 = 8 := by kernel_rfl
@[simp] theorem ty_zok22 : zokT Try.prog 22 = true := by kernel_rfl
@[simp] theorem ty_zero22 : zeroT Try.prog 22 = some [.raw .nilFunc] := by kernel_rfl
@[simp] theorem ty_known23 : knownT Try.prog 23 = true := by kernel_rfl
@[simp] theorem ty_agg23 : aggT Try.prog 23 = false := by kernel_rfl
@[simp] theorem ty_size23 : sizeT Try.prog 23 = 1 := by kernel_rfl
@[simp] theorem ty_bytes23 : bytesT Try.prog 23 = 8 := by kernel_rfl
@[simp] theorem ty_zok23 : zokT Try.prog 23 = true := by kernel_rfl
@[simp] theorem ty_zero23 : zeroT Try.prog 23 = some [.raw .nilFunc] := by kernel_rfl
@[simp] theorem ty_known24 : knownT Try.prog 24 = true := by kernel_rfl
@[simp] theorem ty_agg24 : aggT Try.prog 24 = true := by kernel_rfl
@[simp] theorem ty_size24 : sizeT Try.prog 24 = 3 := by kernel_rfl
@[simp] theorem ty_bytes24 : bytesT Try.prog 24 = 40 := by kernel_rfl
@[simp] theorem ty_zok24 : zokT Try.prog 24 = true := by kernel_rfl
@[simp] theorem ty_zero24 : zeroT Try.prog 24 = some [.int .i64 0, .str [], .str []] := by kernel_rfl
@[simp] theorem ty_struct24 : structT Try.prog 24 = true := by kernel_rfl
@[simp] theorem ty_fld24_0 : fldT Try.prog 24 0 = some (0, false, 1) := by kernel_rfl
@[simp] theorem ty_fld24_1 : fldT Try.prog 24 1 = some (1, false, 1) := by kernel_rfl
@[simp] theorem ty_fld24_2 : fldT Try.prog 24 2 = some (2, false, 1) := by kernel_rfl
@[simp] theorem ty_known25 : knownT Try.prog 25 = true := by kernel_rfl
@[simp] theorem ty_agg25 : aggT Try.prog 25 = true := by kernel_rfl
@[simp] theorem ty_size25 : sizeT Try.prog 25 = 3 := by kernel_rfl
@[simp] theorem ty_bytes25 : bytesT Try.prog 25 = 40 := by kernel_rfl
@[simp] theorem ty_zok25 : zokT Try.prog 25 = true := by kernel_rfl
@[simp] theorem ty_zero25 : zeroT Try.prog 25 = some [.int .i64 0, .str [], .str []] := by kernel_rfl
@[simp] theorem ty_struct25 : structT Try.prog 25 = true := by kernel_rfl
@[simp] theorem ty_fld25_0 : fldT Try.prog 25 0 = some (0, false, 1) := by kernel_rfl
@[simp] theorem ty_fld25_1 : fldT Try.prog 25 1 = some (1, false, 1) := by kernel_rfl
@[simp] theorem ty_fld25_2 : fldT Try.prog 25 2 = some (2, false, 1) := by kernel_rfl
@[simp] theorem ty_known26 : knownT Try.prog 26 = true := by kernel_rfl
@[simp] theorem ty_agg26 : aggT Try.prog 26 = false := by kernel_rfl
@[simp] theorem ty_size26 : sizeT Try.prog 26 = 1 := by kernel_rfl
@[simp] theorem ty_bytes26 : bytesT Try.prog 26 = 8 := by kernel_rfl
@[simp] theorem ty_zok26 : zokT Try.prog 26 = true := by kernel_rfl
@[simp] theorem ty_zero26 : zeroT Try.prog 26 = some [.raw .nilFunc] := by kernel_rfl
@[simp] theorem ty_known27 : knownT Try.prog 27 = true := by kernel_rfl
@[simp] theorem ty_agg27 : aggT Try.prog 27 = false := by kernel_rfl
@[simp] theorem ty_size27 : sizeT Try.prog 27 = 1 := by kernel_rfl
@[simp] theorem ty_bytes27 : bytesT Try.prog 27 = 8 := by kernel_rfl
@[simp] theorem ty_zok27 : zokT Try.prog 27 = true := by kernel_rfl
@[simp] theorem ty_zero27 : zeroT Try.prog 27 = some [.raw .nilFunc] := by kernel_rfl
@[simp] theorem ty_known28 : knownT Try.prog 28 = true := by kernel_rfl
@[simp] theorem ty_agg28 : aggT Try.prog 28 = true := by kernel_rfl
@[simp] theorem ty_size28 : sizeT Try.prog 28 = 3 := by kernel_rfl
@[simp] theorem ty_bytes28 : bytesT Try.prog 28 = 40 := by kernel_rfl
@[simp] theorem ty_zok28 : zokT Try.prog 28 = true := by kernel_rfl
@[simp] theorem ty_zero28 : zeroT Try.prog 28 = some [.int .i64 0, .str [], .str []] := by kernel_rfl
@[simp] theorem ty_struct28 : structT Try.prog 28 = true := by kernel_rfl
@[simp] theorem ty_fld28_0 : fldT Try.prog 28 0 = some (0, false, 1) := by kernel_rfl
@[simp] theorem ty_fld28_1 : fldT Try.prog 28 1 = some (1, false, 1) := by kernel_rfl
@[simp] theorem ty_fld28_2 : fldT Try.prog 28 2 = some (2, false, 1) := by kernel_rfl
@[simp] theorem ty_known29 : knownT Try.prog 29 = true := by kernel_rfl
@[simp] theorem ty_agg29 : aggT Try.prog 29 = false := by kernel_rfl
@[simp] theorem ty_size29 : sizeT Try.prog 29 = 1 := by kernel_rfl
@[simp] theorem ty_bytes29 : bytesT Try.prog 29 = 8 := by kernel_rfl
@[simp] theorem ty_zok29 : zokT Try.prog 29 = true := by kernel_rfl
@[simp] theorem ty_zero29 : zeroT Try.prog 29 = some [.raw .nilFunc] := by kernel_rfl
@[simp] theorem ty_known30 : knownT Try.prog 30 = true := by kernel_rfl
@[simp] theorem ty_agg30 : aggT Try.prog 30 = false := by kernel_rfl
@[simp] theorem ty_size30 : sizeT Try.prog 30 = 1 := by kernel_rfl
@[simp] theorem ty_bytes30 : bytesT Try.prog 30 = 8 := by kernel_rfl
@[simp] theorem ty_zok30 : zokT Try.prog 30 = true := by kernel_rfl
@[simp] theorem ty_zero30 : zeroT Try.prog 30 = some [.raw .nilFunc] := by kernel_rfl
@[simp] theorem ty_known31 : knownT Try.prog 31 = true := by kernel_rfl
@[simp] theorem ty_agg31 : aggT Try.prog 31 = false := by kernel_rfl
@[simp] theorem ty_size31 : sizeT Try.prog 31 = 1 := by kernel_rfl
@[simp] theorem ty_bytes31 : bytesT Try.prog 31 = 24 := by kernel_rfl
@[simp] theorem ty_zok31 : zokT Try.prog 31 = true := by kernel_rfl
@[simp] theorem ty_zero31 : zeroT Try.prog 31 = some [.nils] := by kernel_rfl
@[simp] theorem ty_elem31 : elemT Try.prog 31 = some 9 := by kernel_rfl
@[simp] theorem ty_kindn31 : kindT Try.prog 31 = none := by kernel_rfl
@[simp] theorem ty_strn31 : strT Try.prog 31 = false := by kernel_rfl
@[simp] theorem ty_known32 : knownT Try.prog 32 = true := by kernel_rfl
@[simp] theorem ty_agg32 : aggT Try.prog 32 = false := by kernel_rfl
@[simp] theorem ty_size32 : sizeT Try.prog 32 = 1 := by kernel_rfl
@[simp] theorem ty_bytes32 : bytesT Try.prog 32 = 8 := by kernel_rfl
@[simp] theorem ty_zok32 : zokT Try.prog 32 = true := by kernel_rfl
@[simp] theorem ty_zero32 : zeroT Try.prog 32 = some [.raw .nilFunc] := by kernel_rfl
@[simp] theorem ty_known33 : knownT Try.prog 33 = true := by kernel_rfl
@[simp] theorem ty_agg33 : aggT Try.prog 33 = false := by kernel_rfl
@[simp] theorem ty_size33 : sizeT Try.prog 33 = 1 := by kernel_rfl
@[simp] theorem ty_bytes33 : bytesT Try.prog 33 = 8 := by kernel_rfl
@[simp] theorem ty_zok33 : zokT Try.prog 33 = true := by kernel_rfl
@[simp] theorem ty_zero33 : zeroT Try.prog 33 = some [.raw .nilFunc] := by kernel_rfl
@[simp] theorem ty_known34 : knownT Try.prog 34 = true := by kernel_rfl
@[simp] theorem ty_agg34 : aggT Try.prog 34 = false := by kernel_rfl
@[simp] theorem ty_size34 : sizeT Try.prog 34 = 1 := by kernel_rfl
@[simp] theorem ty_bytes34 : bytesT Try.prog 34 = 8 := by kernel_rfl
@[simp] theorem ty_zok34 : zokT Try.prog 34 = true := by kernel_rfl
@[simp] theorem ty_zero34 : zeroT Try.prog 34 = some [.raw .nilFunc] := by kernel_rfl
@[simp] theorem ty_known35 : knownT Try.prog 35 = true := by kernel_rfl
@[simp] theorem ty_agg35 : aggT Try.prog 35 = false := by kernel_rfl
@[simp] theorem ty_size35 : sizeT Try.prog 35 = 1 := by kernel_rfl
@[simp] theorem ty_bytes35 : bytesT Try.prog 35 = 8 := by kernel_rfl
@[simp] theorem ty_zok35 : zokT Try.prog 35 = true := by kernel_rfl
@[simp] theorem ty_zero35 : zeroT Try.prog 35 = some [.raw .nilFunc] := by kernel_rfl
@[simp] theorem ty_known36 : knownT Try.prog 36 = true := by kernel_rfl
@[simp] theorem ty_agg36 : aggT Try.prog 36 = true := by kernel_rfl
@[simp] theorem ty_size36 : sizeT Try.prog 36 = 5 := by kernel_rfl
@[simp] theorem ty_bytes36 : bytesT Try.prog 36 = 48 := by kernel_rfl
@[simp] theorem ty_zok36 : zokT Try.prog 36 = true := by kernel_rfl
@[simp] theorem ty_zero36 : zeroT Try.prog 36 = some [.str [], .int .i64 0, .int .i64 0, .int .i64 0, .int .i64 0] := by kernel_rfl
@[simp] theorem ty_struct36 : structT Try.prog 36 = true := by kernel_rfl
@[simp] theorem ty_fld36_0 : fldT Try.prog 36 0 = some (0, false, 1) := by kernel_rfl
@[simp] theorem ty_fld36_1 : fldT Try.prog 36 1 = some (1, false, 1) := by kernel_rfl
@[simp] theorem ty_fld36_2 : fldT Try.prog 36 2 = some (2, false, 1) := by kernel_rfl
@[simp] theorem ty_fld36_3 : fldT Try.prog 36 3 = some (3, false, 1) := by kernel_rfl
@[simp] theorem ty_fld36_4 : fldT Try.prog 36 4 = some (4, false, 1) := by kernel_rfl
@[simp] theorem ty_known37 : knownT Try.prog 37 = true := by kernel_rfl
@[simp] theorem ty_agg37 : aggT Try.prog 37 = true := by kernel_rfl
@[simp] theorem ty_size37 : sizeT Try.prog 37 = 5 := by kernel_rfl
@[simp] theorem ty_bytes37 : bytesT Try.prog 37 = 48 := by kernel_rfl
@[simp] theorem ty_zok37 : zokT Try.prog 37 = true := by kernel_rfl
@[simp] theorem ty_zero37 : zeroT Try.prog 37 = some [.str [], .int .i64 0, .int .i64 0, .int .i64 0, .int .i64 0] := by kernel_rfl
@[simp] theorem ty_struct37 : structT Try.prog 37 = true := by kernel_rfl
@[simp] theorem ty_fld37_0 : fldT Try.prog 37 0 = some (0, false, 1) := by kernel_rfl
@[simp] theorem ty_fld37_1 : fldT Try.prog 37 1 = some (1, false, 1) := by kernel_rfl
@[simp] theorem ty_fld37_2 : fldT Try.prog 37 2 = some (2, false, 1) := by kernel_rfl
@[simp] theorem ty_fld37_3 : fldT Try.prog 37 3 = some (3, false, 1) := by kernel_rfl
@[simp] theorem ty_fld37_4 : fldT Try.prog 37 4 = some (4, false, 1) := by kernel_rfl
@[simp] theorem ty_known38 : knownT Try.prog 38 = true := by kernel_rfl
@[simp] theorem ty_agg38 : aggT Try.prog 38 = false := by kernel_rfl
@[simp] theorem ty_size38 : sizeT Try.prog 38 = 1 := by kernel_rfl
@[simp] theorem ty_bytes38 : bytesT Try.prog 38 = 8 := by kernel_rfl
@[simp] theorem ty_zok38 : zokT Try.prog 38 = true := by kernel_rfl
@[simp] theorem ty_zero38 : zeroT Try.prog 38 = some [.raw .nilFunc] := by kernel_rfl
@[simp] theorem ty_known40 : knownT Try.prog 40 = true := by kernel_rfl
@[simp] theorem ty_agg40 : aggT Try.prog 40 = false := by kernel_rfl
@[simp] theorem ty_size40 : sizeT Try.prog 40 = 1 := by kernel_rfl
@[simp] theorem ty_bytes40 : bytesT Try.prog 40 = 8 := by kernel_rfl
@[simp] theorem ty_zok40 : zokT Try.prog 40 = true := by kernel_rfl
@[simp] theorem ty_zero40 : zeroT Try.prog 40 = some [.raw .nilFunc] := by kernel_rfl
@[simp] theorem ty_known41 : knownT Try.prog 41 = true := by kernel_rfl
@[simp] theorem ty_agg41 : aggT Try.prog 41 = true := by kernel_rfl
@[simp] theorem ty_size41 : sizeT Try.prog 41 = 5 := by kernel_rfl
@[simp] theorem ty_bytes41 : bytesT Try.prog 41 = 48 := by kernel_rfl
@[simp] theorem ty_zok41 : zokT Try.prog 41 = true := by kernel_rfl
@[simp] theorem ty_zero41 : zeroT Try.prog 41 = some [.str [], .int .i64 0, .int .i64 0, .int .i64 0, .int .i64 0] := by kernel_rfl
@[simp] theorem ty_struct41 : structT Try.prog 41 = true := by kernel_rfl
@[simp] theorem ty_fld41_0 : fldT Try.prog 41 0 = some (0, false, 1) := by kernel_rfl
@[simp] theorem ty_fld41_1 : fldT Try.prog 41 1 = some (1, false, 1) := by kernel_rfl
@[simp] theorem ty_fld41_2 : fldT Try.prog 41 2 = some (2, false, 1) := by kernel_rfl
@[simp] theorem ty_fld41_3 : fldT Try.prog 41 3 = some (3, false, 1) := by kernel_rfl
@[simp] theorem ty_fld41_4 : fldT Try.prog 41 4 = some (4, false, 1) := by kernel_rfl
@[simp] theorem ty_known42 : knownT Try.prog 42 = true := by kernel_rfl
@[simp] theorem ty_agg42 : aggT Try.prog 42 = false := by kernel_rfl
@[simp] theorem ty_size42 : sizeT Try.prog 42 = 1 := by kernel_rfl
@[simp] theorem ty_bytes42 : bytesT Try.prog 42 = 8 := by kernel_rfl
@[simp] theorem ty_zok42 : zokT Try.prog 42 = true := by kernel_rfl
@[simp] theorem ty_zero42 : zeroT Try.prog 42 = some [.raw .nilFunc] := by kernel_rfl
@[simp] theorem ty_known43 : knownT Try.prog 43 = true := by kernel_rfl
@[simp] theorem ty_agg43 : aggT Try.prog 43 = false := by kernel_rfl
@[simp] theorem ty_size43 : sizeT Try.prog 43 = 1 := by kernel_rfl
@[simp] theorem ty_bytes43 : bytesT Try.prog 43 = 8 := by kernel_rfl
@[simp] theorem ty_zok43 : zokT Try.prog 43 = true := by kernel_rfl
@[simp] theorem ty_zero43 : zeroT Try.prog 43 = some [.raw .nilFunc] := by kernel_rfl
@[simp] theorem ty_known44 : knownT Try.prog 44 = true := by kernel_rfl
@[simp] theorem ty_agg44 : aggT Try.prog 44 = false := by kernel_rfl
@[simp] theorem ty_size44 : sizeT Try.prog 44 = 1 := by kernel_rfl
@[simp] theorem ty_bytes44 : bytesT Try.prog 44 = 24 := by kernel_rfl
@[simp] theorem ty_zok44 : zokT Try.prog 44 = true := by kernel_rfl
@[simp] theorem ty_zero44 : zeroT Try.prog 44 = some [.nils] := by kernel_rfl
@[simp] theorem ty_elem44 : elemT Try.prog 44 = some 51 := by kernel_rfl
@[simp] theorem ty_kindn44 : kindT Try.prog 44 = none := by kernel_rfl
@[simp] theorem ty_strn44 : strT Try.prog 44 = false := by kernel_rfl
@[simp] theorem ty_known45 : knownT Try.prog 45 = true := by kernel_rfl
@[simp] theorem ty_agg45 : aggT Try.prog 45 = false := by kernel_rfl
@[simp] theorem ty_size45 : sizeT Try.prog 45 = 1 := by kernel_rfl
@[simp] theorem ty_bytes45 : bytesT Try.prog 45 = 8 := by kernel_rfl
@[simp] theorem ty_zok45 : zokT Try.prog 45 = true := by kernel_rfl
@[simp] theorem ty_zero45 : zeroT Try.prog 45 = some [.raw .nilFunc] := by kernel_rfl
@[simp] theorem ty_known46 : knownT Try.prog 46 = true := by kernel_rfl
@[simp] theorem ty_agg46 : aggT Try.prog 46 = false := by kernel_rfl
@[simp] theorem ty_size46 : sizeT Try.prog 46 = 1 := by kernel_rfl
@[simp] theorem ty_bytes46 : bytesT Try.prog 46 = 8 := by kernel_rfl
@[simp] theorem ty_zok46 : zokT Try.prog 46 = true := by kernel_rfl
@[simp] theorem ty_zero46 : zeroT Try.prog 46 = some [.raw .nilFunc] := by kernel_rfl
@[simp] theorem ty_known47 : knownT Try.prog 47 = true := by kernel_rfl
@[simp] theorem ty_agg47 : aggT Try.prog 47 = false := by kernel_rfl
@[simp] theorem ty_size47 : sizeT Try.prog 47 = 1 := by kernel_rfl
@[simp] theorem ty_bytes47 : bytesT Try.prog 47 = 24 := by kernel_rfl
@[simp] theorem ty_zok47 : zokT Try.prog 47 = true := by kernel_rfl
@[simp] theorem ty_zero47 : zeroT Try.prog 47 = some [.nils] := by kernel_rfl
@[simp] theorem ty_elem47 : elemT Try.prog 47 = some 54 := by kernel_rfl
@[simp] theorem ty_kindn47 : kindT Try.prog 47 = none := by kernel_rfl
@[simp] theorem ty_strn47 : strT Try.prog 47 = false := by kernel_rfl
@[simp] theorem ty_known48 : knownT Try.prog 48 = true := by kernel_rfl
@[simp] theorem ty_agg48 : aggT Try.prog 48 = false := by kernel_rfl
@[simp] theorem ty_size48 : sizeT Try.prog 48 = 1 := by kernel_rfl
@[simp] theorem ty_bytes48 : bytesT Try.prog 48 = 8 := by kernel_rfl
@[simp] theorem ty_zok48 : zokT Try.prog 48 = true := by kernel_rfl
@[simp] theorem ty_zero48 : zeroT Try.prog 48 = some [.raw .nilFunc] := by kernel_rfl
@[simp] theorem ty_known49 : knownT Try.prog 49 = true := by kernel_rfl
@[simp] theorem ty_agg49 : aggT Try.prog 49 = false := by kernel_rfl
@[simp] theorem ty_size49 : sizeT Try.prog 49 = 1 := by kernel_rfl
@[simp] theorem ty_bytes49 : bytesT Try.prog 49 = 8 := by kernel_rfl
@[simp] theorem ty_zok49 : zokT Try.prog 49 = true := by kernel_rfl
@[simp] theorem ty_zero49 : zeroT Try.prog 49 = some [.raw .nilFunc] := by kernel_rfl
@[simp] theorem ty_known50 : knownT Try.prog 50 = true := by kernel_rfl
@[simp] theorem ty_agg50 : aggT Try.prog 50 = true := by kernel_rfl
@[simp] theorem ty_size50 : sizeT Try.prog 50 = 3 := by kernel_rfl
@[simp] theorem ty_bytes50 : bytesT Try.prog 50 = 40 := by kernel_rfl
@[simp] theorem ty_zok50 : zokT Try.prog 50 = true := by kernel_rfl
@[simp] theorem ty_zero50 : zeroT Try.prog 50 = some [.int .i64 0, .str [], .str []] := by kernel_rfl
@[simp] theorem ty_struct50 : structT Try.prog 50 = true := by kernel_rfl
@[simp] theorem ty_fld50_0 : fldT Try.prog 50 0 = some (0, false, 1) := by kernel_rfl
@[simp] theorem ty_fld50_1 : fldT Try.prog 50 1 = some (1, false, 1) := by kernel_rfl
@[simp] theorem ty_fld50_2 : fldT Try.prog 50 2 = some (2, false, 1) := by kernel_rfl
@[simp] theorem ty_known51 : knownT Try.prog 51 = true := by kernel_rfl
@[simp] theorem ty_agg51 : aggT Try.prog 51 = true := by kernel_rfl
@[simp] theorem ty_size51 : sizeT Try.prog 51 = 3 := by kernel_rfl
@[simp] theorem ty_bytes51 : bytesT Try.prog 51 = 40 := by kernel_rfl
@[simp] theorem ty_zok51 : zokT Try.prog 51 = true := by kernel_rfl
@[simp] theorem ty_zero51 : zeroT Try.prog 51 = some [.int .i64 0, .str [], .str []] := by kernel_rfl
@[simp] theorem ty_struct51 : structT Try.prog 51 = true := by kernel_rfl
@[simp] theorem ty_fld51_0 : fldT Try.prog 51 0 = some (0, false, 1) := by kernel_rfl
@[simp] theorem ty_fld51_1 : fldT Try.prog 51 1 = some (1, false, 1) := by kernel_rfl
@[simp] theorem ty_fld51_2 : fldT Try.prog 51 2 = some (2, false, 1) := by kernel_rfl
@[simp] theorem ty_known52 : knownT Try.prog 52 = true := by kernel_rfl
@[simp] theorem ty_agg52 : aggT Try.prog 52 = false := by kernel_rfl
@[simp] theorem ty_size52 : sizeT Try.prog 52 = 1 := by kernel_rfl
@[simp] theorem ty_bytes52 : bytesT Try.prog 52 = 8 := by kernel_rfl
@[simp] theorem ty_zok52 : zokT Try.prog 52 = true := by kernel_rfl
@[simp] theorem ty_zero52 : zeroT Try.prog 52 = some [.raw .nilFunc] := by kernel_rfl
@[simp] theorem ty_known53 : knownT Try.prog 53 = true := by kernel_rfl
@[simp] theorem ty_agg53 : aggT Try.prog 53 = false := by kernel_rfl
@[simp] theorem ty_size53 : sizeT Try.prog 53 = 1 := by kernel_rfl
@[simp] theorem ty_bytes53 : bytesT Try.prog 53 = 8 := by kernel_rfl
@[simp] theorem ty_zok53 : zokT Try.prog 53 = true := by kernel_rfl
@[simp] theorem ty_zero53 : zeroT Try.prog 53 = some [.raw .nilFunc] := by kernel_rfl
@[simp] theorem ty_known54 : knownT Try.prog 54 = true := by kernel_rfl
@[simp] theorem ty_agg54 : aggT Try.prog 54 = true := by kernel_rfl
@[simp] theorem ty_size54 : sizeT Try.prog 54 = 3 := by kernel_rfl
@[simp] theorem ty_bytes54 : bytesT Try.prog 54 = 40 := by kernel_rfl
@[simp] theorem ty_zok54 : zokT Try.prog 54 = true := by kernel_rfl
@[simp] theorem ty_zero54 : zeroT Try.prog 54 = some [.int .i64 0, .str [], .str []] := by kernel_rfl
@[simp] theorem ty_struct54 : structT Try.prog 54 = true := by kernel_rfl
@[simp] theorem ty_fld54_0 : fldT Try.prog 54 0 = some (0, false, 1) := by kernel_rfl
@[simp] theorem ty_fld54_1 : fldT Try.prog 54 1 = some (1, false, 1) := by kernel_rfl
@[simp] theorem ty_fld54_2 : fldT Try.prog 54 2 = some (2, false, 1) := by kernel_rfl
@[simp] theorem ty_known55 : knownT Try.prog 55 = true := by kernel_rfl
@[simp] theorem ty_agg55 : aggT Try.prog 55 = false := by kernel_rfl
@[simp] theorem ty_size55 : sizeT Try.prog 55 = 1 := by kernel_rfl
@[simp] theorem ty_bytes55 : bytesT Try.prog 55 = 8 := by kernel_rfl
@[simp] theorem ty_zok55 : zokT Try.prog 55 = true := by kernel_rfl
@[simp] theorem ty_zero55 : zeroT Try.prog 55 = some [.raw .nilFunc] := by kernel_rfl
@[simp] theorem ty_known56 : knownT Try.prog 56 = true := by kernel_rfl
@[simp] theorem ty_agg56 : aggT Try.prog 56 = false := by kernel_rfl
@[simp] theorem ty_size56 : sizeT Try.prog 56 = 1 := by kernel_rfl
@[simp] theorem ty_bytes56 : bytesT Try.prog 56 = 8 := by kernel_rfl
@[simp] theorem ty_zok56 : zokT Try.prog 56 = true := by kernel_rfl
@[simp] theorem ty_zero56 : zeroT Try.prog 56 = some [.raw .nilFunc] := by kernel_rfl
@[simp] theorem ty_known57 : knownT Try.prog 57 = true := by kernel_rfl
@[simp] theorem ty_agg57 : aggT Try.prog 57 = false := by kernel_rfl
@[simp] theorem ty_size57 : sizeT Try.prog 57 = 1 := by kernel_rfl
@[simp] theorem ty_bytes57 : bytesT Try.prog 57 = 24 := by kernel_rfl
@[simp] theorem ty_zok57 : zokT Try.prog 57 = true := by kernel_rfl
@[simp] theorem ty_zero57 : zeroT Try.prog 57 = some [.nils] := by kernel_rfl
@[simp] theorem ty_elem57 : elemT Try.prog 57 = some 37 := by kernel_rfl
@[simp] theorem ty_kindn57 : kindT Try.prog 57 = none := by kernel_rfl
@[simp] theorem ty_strn57 : strT Try.prog 57 = false := by kernel_rfl
@[simp] theorem ty_known58 : knownT Try.prog 58 = true := by kernel_rfl
@[simp] theorem ty_agg58 : aggT Try.prog 58 = false := by kernel_rfl
@[simp] theorem ty_size58 : sizeT Try.prog 58 = 1 := by kernel_rfl
@[simp] theorem ty_bytes58 : bytesT Try.prog 58 = 8 := by kernel_rfl
@[simp] theorem ty_zok58 : zokT Try.prog 58 = true := by kernel_rfl
@[simp] theorem ty_zero58 : zeroT Try.prog 58 = some [.raw .nilFunc] := by kernel_rfl
@[simp] theorem ty_known59 : knownT Try.prog 59 = true := by kernel_rfl
@[simp] theorem ty_agg59 : aggT Try.prog 59 = false := by kernel_rfl
@[simp] theorem ty_size59 : sizeT Try.prog 59 = 1 := by kernel_rfl
@[simp] theorem ty_bytes59 : bytesT Try.prog 59 = 8 := by kernel_rfl
@[simp] theorem ty_zok59 : zokT Try.prog 59 = true := by kernel_rfl
@[simp] theorem ty_zero59 : zeroT Try.prog 59 = some [.raw .nilFunc] := by kernel_rfl
@[simp] theorem ty_known60 : knownT Try.prog 60 = true := by kernel_rfl
@[simp] theorem ty_agg60 : aggT Try.prog 60 = false := by kernel_rfl
@[simp] theorem ty_size60 : sizeT Try.prog 60 = 1 := by kernel_rfl
@[simp] theorem ty_bytes60 : bytesT Try.prog 60 = 24 := by kernel_rfl
@[simp] theorem ty_zok60 : zokT Try.prog 60 = true := by kernel_rfl
@[simp] theorem ty_zero60 : zeroT Try.prog 60 = some [.nils] := by kernel_rfl
@[simp] theorem ty_elem60 : elemT Try.prog 60 = some 41 := by kernel_rfl
@[simp] theorem ty_kindn60 : kindT Try.prog 60 = none := by kernel_rfl
@[simp] theorem ty_strn60 : strT Try.prog 60 = false := by kernel_rfl
@[simp] theorem ty_known61 : knownT Try.prog 61 = true := by kernel_rfl
@[simp] theorem ty_agg61 : aggT Try.prog 61 = false := by kernel_rfl
@[simp] theorem ty_size61 : sizeT Try.prog 61 = 1 := by kernel_rfl
@[simp] theorem ty_bytes61 : bytesT Try.prog 61 = 8 := by kernel_rfl
@[simp] theorem ty_zok61 : zokT Try.prog 61 = true := by kernel_rfl
@[simp] theorem ty_zero61 : zeroT Try.prog 61 = some [.raw .nilFunc] := by kernel_rfl
@[simp] theorem ty_known62 : knownT Try.prog 62 = true := by kernel_rfl
@[simp] theorem ty_agg62 : aggT Try.prog 62 = false := by kernel_rfl
@[simp] theorem ty_size62 : sizeT Try.prog 62 = 1 := by kernel_rfl
@[simp] theorem ty_bytes62 : bytesT Try.prog 62 = 8 := by kernel_rfl
@[simp] theorem ty_zok62 : zokT Try.prog 62 = true := by kernel_rfl
@[simp] theorem ty_zero62 : zeroT Try.prog 62 = some [.raw .nilFunc] := by kernel_rfl
@[simp] theorem ty_known63 : knownT Try.prog 63 = true := by kernel_rfl
@[simp] theorem ty_agg63 : aggT Try.prog 63 = false := by kernel_rfl
@[simp] theorem ty_size63 : sizeT Try.prog 63 = 1 := by kernel_rfl
@[simp] theorem ty_bytes63 : bytesT Try.prog 63 = 8 := by kernel_rfl
@[simp] theorem ty_zok63 : zokT Try.prog 63 = true := by kernel_rfl
@[simp] theorem ty_zero63 : zeroT Try.prog 63 = some [.raw .nilFunc] := by kernel_rfl
@[simp] theorem ty_known64 : knownT Try.prog 64 = true := by kernel_rfl
@[simp] theorem ty_agg64 : aggT Try.prog 64 = false := by kernel_rfl
@[simp] theorem ty_size64 : sizeT Try.prog 64 = 1 := by kernel_rfl
@[simp] theorem ty_bytes64 : bytesT Try.prog 64 = 8 := by kernel_rfl
@[simp] theorem ty_zok64 : zokT Try.prog 64 = true := by kernel_rfl
@[simp] theorem ty_zero64 : zeroT Try.prog 64 = some [.raw .nilFunc] := by kernel_rfl
@[simp] theorem ty_known65 : knownT Try.prog 65 = true := by kernel_rfl
@[simp] theorem ty_agg65 : aggT Try.prog 65 = false := by kernel_rfl
@[simp] theorem ty_size65 : sizeT Try.prog 65 = 1 := by kernel_rfl
@[simp] theorem ty_bytes65 : bytesT Try.prog 65 = 8 := by kernel_rfl
@[simp] theorem ty_zok65 : zokT Try.prog 65 = true := by kernel_rfl
@[simp] theorem ty_zero65 : zeroT Try.prog 65 = some [.raw (.pointer none)] := by kernel_rfl
@[simp] theorem ty_known66 : knownT Try.prog 66 = true := by kernel_rfl
@[simp] theorem ty_agg66 : aggT Try.prog 66 = false := by kernel_rfl
@[simp] theorem ty_size66 : sizeT Try.prog 66 = 1 := by kernel_rfl
@[simp] theorem ty_bytes66 : bytesT Try.prog 66 = 8 := by kernel_rfl
@[simp] theorem ty_zok66 : zokT Try.prog 66 = true := by kernel_rfl
@[simp] theorem ty_zero66 : zeroT Try.prog 66 = some [.raw .nilFunc] := by kernel_rfl
@[simp] theorem ty_known67 : knownT Try.prog 67 = true := by kernel_rfl
@[simp] theorem ty_agg67 : aggT Try.prog 67 = false := by kernel_rfl
@[simp] theorem ty_size67 : sizeT Try.prog 67 = 1 := by kernel_rfl
@[simp] theorem ty_bytes67 : bytesT Try.prog 67 = 8 := by kernel_rfl
@[simp] theorem ty_zok67 : zokT Try.prog 67 = true := by kernel_rfl
@[simp] theorem ty_zero67 : zeroT Try.prog 67 = some [.raw .nilFunc] := by kernel_rfl
@[simp] theorem ty_known68 : knownT Try.prog 68 = true := by kernel_rfl
@[simp] theorem ty_agg68 : aggT Try.prog 68 = false := by kernel_rfl
@[simp] theorem ty_size68 : sizeT Try.prog 68 = 1 := by kernel_rfl
@[simp] theorem ty_bytes68 : bytesT Try.prog 68 = 8 := by kernel_rfl
@[simp] theorem ty_zok68 : zokT Try.prog 68 = true := by kernel_rfl
@[simp] theorem ty_zero68 : zeroT Try.prog 68 = some [.raw .nilFunc] := by kernel_rfl
@[simp] theorem ty_known69 : knownT Try.prog 69 = true := by kernel_rfl
@[simp] theorem ty_agg69 : aggT Try.prog 69 = false := by kernel_rfl
@[simp] theorem ty_size69 : sizeT Try.prog 69 = 1 := by kernel_rfl
@[simp] theorem ty_bytes69 : bytesT Try.prog 69 = 8 := by kernel_rfl
@[simp] theorem ty_zok69 : zokT Try.prog 69 = true := by kernel_rfl
@[simp] theorem ty_zero69 : zeroT Try.prog 69 = some [.raw .nilFunc] := by kernel_rfl
@[simp] theorem ty_known70 : knownT Try.prog 70 = true := by kernel_rfl
@[simp] theorem ty_agg70 : aggT Try.prog 70 = false := by kernel_rfl
@[simp] theorem ty_size70 : sizeT Try.prog 70 = 1 := by kernel_rfl
@[simp] theorem ty_bytes70 : bytesT Try.prog 70 = 8 := by kernel_rfl
@[simp] theorem ty_zok70 : zokT Try.prog 70 = true := by kernel_rfl
@[simp] theorem ty_zero70 : zeroT Try.prog 70 = some [.raw .nilFunc] := by kernel_rfl
@[simp] theorem ty_known71 : knownT Try.prog 71 = true := by kernel_rfl
@[simp] theorem ty_agg71 : aggT Try.prog 71 = false := by kernel_rfl
@[simp] theorem ty_size71 : sizeT Try.prog 71 = 1 := by kernel_rfl
@[simp] theorem ty_bytes71 : bytesT Try.prog 71 = 8 := by kernel_rfl
@[simp] theorem ty_zok71 : zokT Try.prog 71 = true := by kernel_rfl
@[simp] theorem ty_zero71 : zeroT Try.prog 71 = some [.raw (.pointer none)] := by kernel_rfl
@[simp] theorem ty_known72 : knownT Try.prog 72 = true := by kernel_rfl
@[simp] theorem ty_agg72 : aggT Try.prog 72 = false := by kernel_rfl
@[simp] theorem ty_size72 : sizeT Try.prog 72 = 1 := by kernel_rfl
@[simp] theorem ty_bytes72 : bytesT Try.prog 72 = 8 := by kernel_rfl
@[simp] theorem ty_zok72 : zokT Try.prog 72 = true := by kernel_rfl
@[simp] theorem ty_zero72 : zeroT Try.prog 72 = some [.raw .nilFunc] := by kernel_rfl
@[simp] theorem ty_known73 : knownT Try.prog 73 = true := by kernel_rfl
@[simp] theorem ty_agg73 : aggT Try.prog 73 = false := by kernel_rfl
@[simp] theorem ty_size73 : sizeT Try.prog 73 = 1 := by kernel_rfl
@[simp] theorem ty_bytes73 : bytesT Try.prog 73 = 8 := by kernel_rfl
@[simp] theorem ty_zok73 : zokT Try.prog 73 = true := by kernel_rfl
@[simp] theorem ty_zero73 : zeroT Try.prog 73 = some [.raw .nilFunc] := by kernel_rfl
@[simp] theorem ty_known74 : knownT Try.prog 74 = true := by kernel_rfl
@[simp] theorem ty_agg74 : aggT Try.prog 74 = false := by kernel_rfl
@[simp] theorem ty_size74 : sizeT Try.prog 74 = 1 := by kernel_rfl
@[simp] theorem ty_bytes74 : bytesT Try.prog 74 = 8 := by kernel_rfl
@[simp] theorem ty_zok74 : zokT Try.prog 74 = true := by kernel_rfl
@[simp] theorem ty_zero74 : zeroT Try.prog 74 = some [.raw .nilFunc] := by kernel_rfl
@[simp] theorem ty_known75 : knownT Try.prog 75 = true := by kernel_rfl
@[simp] theorem ty_agg75 : aggT Try.prog 75 = false := by kernel_rfl
@[simp] theorem ty_size75 : sizeT Try.prog 75 = 1 := by kernel_rfl
@[simp] theorem ty_bytes75 : bytesT Try.prog 75 = 24 := by kernel_rfl
@[simp] theorem ty_zok75 : zokT Try.prog 75 = true := by kernel_rfl
@[simp] theorem ty_zero75 : zeroT Try.prog 75 = some [.nils] := by kernel_rfl
@[simp] theorem ty_elem75 : elemT Try.prog 75 = some 5 := by kernel_rfl
@[simp] theorem ty_kindn75 : kindT Try.prog 75 = none := by kernel_rfl
@[simp] theorem ty_strn75 : strT Try.prog 75 = false := by kernel_rfl
@[simp] theorem ty_known76 : knownT Try.prog 76 = true := by kernel_rfl
@[simp] theorem ty_agg76 : aggT Try.prog 76 = false := by kernel_rfl
@[simp] theorem ty_size76 : sizeT Try.prog 76 = 1 := by kernel_rfl
@[simp] theorem ty_bytes76 : bytesT Try.prog 76 = 8 := by kernel_rfl
@[simp] theorem ty_zok76 : zokT Try.prog 76 = true := by kernel_rfl
@[simp] theorem ty_zero76 : zeroT Try.prog 76 = some [.raw .nilFunc] := by kernel_rfl
@[simp] theorem ty_known77 : knownT Try.prog 77 = true := by kernel_rfl
@[simp] theorem ty_agg77 : aggT Try.prog 77 = false := by kernel_rfl
@[simp] theorem ty_size77 : sizeT Try.prog 77 = 1 := by kernel_rfl
@[simp] theorem ty_bytes77 : bytesT Try.prog 77 = 8 := by kernel_rfl
@[simp] theorem ty_zok77 : zokT Try.prog 77 = true := by kernel_rfl
@[simp] theorem ty_zero77 : zeroT Try.prog 77 = some [.raw .nilFunc] := by kernel_rfl
@[simp] theorem ty_known78 : knownT Try.prog 78 = true := by kernel_rfl
@[simp] theorem ty_agg78 : aggT Try.prog 78 = false := by kernel_rfl
@[simp] theorem ty_size78 : sizeT Try.prog 78 = 1 := by kernel_rfl
@[simp] theorem ty_bytes78 : bytesT Try.prog 78 = 8 := by kernel_rfl
@[simp] theorem ty_zok78 : zokT Try.prog 78 = true := by kernel_rfl
@[simp] theorem ty_zero78 : zeroT Try.prog 78 = some [.raw .nilFunc] := by kernel_rfl
@[simp] theorem ty_known79 : knownT Try.prog 79 = true := by kernel_rfl
@[simp] theorem ty_agg79 : aggT Try.prog 79 = false := by kernel_rfl
@[simp] theorem ty_size79 : sizeT Try.prog 79 = 1 := by kernel_rfl
@[simp] theorem ty_bytes79 : bytesT Try.prog 79 = 8 := by kernel_rfl
@[simp] theorem ty_zok79 : zokT Try.prog 79 = true := by kernel_rfl
@[simp] theorem ty_zero79 : zeroT Try.prog 79 = some [.raw .nilFunc] := by kernel_rfl
@[simp] theorem ty_known80 : knownT Try.prog 80 = true := by kernel_rfl
@[simp] theorem ty_agg80 : aggT Try.prog 80 = false := by kernel_rfl
@[simp] theorem ty_size80 : sizeT Try.prog 80 = 1 := by kernel_rfl
@[simp] theorem ty_bytes80 : bytesT Try.prog 80 = 8 := by kernel_rfl
@[simp] theorem ty_zok80 : zokT Try.prog 80 = true := by kernel_rfl
@[simp] theorem ty_zero80 : zeroT Try.prog 80 = some [.raw .nilFunc] := by kernel_rfl
@[simp] theorem ty_known81 : knownT Try.prog 81 = true := by kernel_rfl
@[simp] theorem ty_agg81 : aggT Try.prog 81 = true := by kernel_rfl
@[simp] theorem ty_size81 : sizeT Try.prog 81 = 4 := by kernel_rfl
@[simp] theorem ty_bytes81 : bytesT Try.prog 81 = 40 := by kernel_rfl
@[simp] theorem ty_zok81 : zokT Try.prog 81 = true := by kernel_rfl
@[simp] theorem ty_zero81 : zeroT Try.prog 81 = some [.raw (.pointer none), .raw (.pointer none), .raw (.pointer none), .str []] := by kernel_rfl
@[simp] theorem ty_struct81 : structT Try.prog 81 = true := by kernel_rfl
@[simp] theorem ty_fld81_0 : fldT Try.prog 81 0 = some (0, false, 1) := by kernel_rfl
@[simp] theorem ty_fld81_1 : fldT Try.prog 81 1 = some (1, false, 1) := by kernel_rfl
@[simp] theorem ty_fld81_2 : fldT Try.prog 81 2 = some (2, false, 1) := by kernel_rfl
@[simp] theorem ty_fld81_3 : fldT Try.prog 81 3 = some (3, false, 1) := by kernel_rfl
@[simp] theorem ty_known82 : knownT Try.prog 82 = true := by kernel_rfl
@[simp] theorem ty_agg82 : aggT Try.prog 82 = true := by kernel_rfl
@[simp] theorem ty_size82 : sizeT Try.prog 82 = 4 := by kernel_rfl
@[simp] theorem ty_bytes82 : bytesT Try.prog 82 = 40 := by kernel_rfl
@[simp] theorem ty_zok82 : zokT Try.prog 82 = true := by kernel_rfl
@[simp] theorem ty_zero82 : zeroT Try.prog 82 = some [.raw (.pointer none), .raw (.pointer none), .raw (.pointer none), .str []] := by kernel_rfl
@[simp] theorem ty_struct82 : structT Try.prog 82 = true := by kernel_rfl
@[simp] theorem ty_fld82_0 : fldT Try.prog 82 0 = some (0, false, 1) := by kernel_rfl
@[simp] theorem ty_fld82_1 : fldT Try.prog 82 1 = some (1, false, 1) := by kernel_rfl
@[simp] theorem ty_fld82_2 : fldT Try.prog 82 2 = some (2, false, 1) := by kernel_rfl
@[simp] theorem ty_fld82_3 : fldT Try.prog 82 3 = some (3, false, 1) := by kernel_rfl
@[simp] theorem ty_known83 : knownT Try.prog 83 = true := by kernel_rfl
@[simp] theorem ty_agg83 : aggT Try.prog 83 = true := by kernel_rfl
@[simp] theorem ty_size83 : sizeT Try.prog 83 = 0 := by kernel_rfl
@[simp] theorem ty_bytes83 : bytesT Try.prog 83 = 0 := by kernel_rfl
@[simp] theorem ty_zok83 : zokT Try.prog 83 = true := by kernel_rfl
@[simp] theorem ty_zero83 : zeroT Try.prog 83 = some [] := by kernel_rfl
@[simp] theorem ty_known84 : knownT Try.prog 84 = true := by kernel_rfl
@[simp] theorem ty_agg84 : aggT Try.prog 84 = true := by kernel_rfl
@[simp] theorem ty_size84 : sizeT Try.prog 84 = 0 := by kernel_rfl
@[simp] theorem ty_bytes84 : bytesT Try.prog 84 = 0 := by kernel_rfl
@[simp] theorem ty_zok84 : zokT Try.prog 84 = true := by kernel_rfl
@[simp] theorem ty_zero84 : zeroT Try.prog 84 = some [] := by kernel_rfl
@[simp] theorem ty_struct84 : structT Try.prog 84 = true := by kernel_rfl
@[simp] theorem ty_fld84_0 : fldT Try.prog 84 0 = some (0, true, 0) := by kernel_rfl
@[simp] theorem ty_known85 : knownT Try.prog 85 = true := by kernel_rfl
@[simp] theorem ty_agg85 : aggT Try.prog 85 = true := by kernel_rfl
@[simp] theorem ty_size85 : sizeT Try.prog 85 = 0 := by kernel_rfl
@[simp] theorem ty_bytes85 : bytesT Try.prog 85 = 0 := by kernel_rfl
@[simp] theorem ty_zok85 : zokT Try.prog 85 = true := by kernel_rfl
@[simp] theorem ty_zero85 : zeroT Try.prog 85 = some [] := by kernel_rfl
@[simp] theorem ty_struct85 : structT Try.prog 85 = true := by kernel_rfl
@[simp] theorem ty_fld85_0 : fldT Try.prog 85 0 = some (0, true, 0) := by kernel_rfl
@[simp] theorem ty_known86 : knownT Try.prog 86 = true := by kernel_rfl
@[simp] theorem ty_agg86 : aggT Try.prog 86 = false := by kernel_rfl
@[simp] theorem ty_size86 : sizeT Try.prog 86 = 1 := by kernel_rfl
@[simp] theorem ty_bytes86 : bytesT Try.prog 86 = 8 := by kernel_rfl
@[simp] theorem ty_zok86 : zokT Try.prog 86 = true := by kernel_rfl
@[simp] theorem ty_zero86 : zeroT Try.prog 86 = some [.raw .nilFunc] := by kernel_rfl
@[simp] theorem ty_known87 : knownT Try.prog 87 = true := by kernel_rfl
@[simp] theorem ty_agg87 : aggT Try.prog 87 = false := by kernel_rfl
@[simp] theorem ty_size87 : sizeT Try.prog 87 = 1 := by kernel_rfl
@[simp] theorem ty_bytes87 : bytesT Try.prog 87 = 4 := by kernel_rfl
@[simp] theorem ty_zok87 : zokT Try.prog 87 = true := by kernel_rfl
@[simp] theorem ty_zero87 : zeroT Try.prog 87 = some [.int .u32 0] := by kernel_rfl
@[simp] theorem ty_kind87 : kindT Try.prog 87 = some .u32 := by kernel_rfl
@[simp] theorem ty_known88 : knownT Try.prog 88 = true := by kernel_rfl
@[simp] theorem ty_agg88 : aggT Try.prog 88 = false := by kernel_rfl
@[simp] theorem ty_size88 : sizeT Try.prog 88 = 1 := by kernel_rfl
@[simp] theorem ty_bytes88 : bytesT Try.prog 88 = 1 := by kernel_rfl
@[simp] theorem ty_zok88 : zokT Try.prog 88 = true := by kernel_rfl
@[simp] theorem ty_zero88 : zeroT Try.prog 88 = some [.int .u8 0] := by kernel_rfl
@[simp] theorem ty_kind88 : kindT Try.prog 88 = some .u8 := by kernel_rfl
@[simp] theorem ty_known89 : knownT Try.prog 89 = true := by kernel_rfl
@[simp] theorem ty_agg89 : aggT Try.prog 89 = false := by kernel_rfl
@[simp] theorem ty_size89 : sizeT Try.prog 89 = 1 := by kernel_rfl
@[simp] theorem ty_bytes89 : bytesT Try.prog 89 = 1 := by kernel_rfl
@[simp] theorem ty_zok89 : zokT Try.prog 89 = true := by kernel_rfl
@[simp] theorem ty_zero89 : zeroT Try.prog 89 = some [.int .u8 0] := by kernel_rfl
@[simp] theorem ty_kind89 : kindT Try.prog 89 = some .u8 := by kernel_rfl
@[simp] theorem ty_known90 : knownT Try.prog 90 = true := by kernel_rfl
@[simp] theorem ty_agg90 : aggT Try.prog 90 = false := by kernel_rfl
@[simp] theorem ty_size90 : sizeT Try.prog 90 = 1 := by kernel_rfl
@[simp] theorem ty_bytes90 : bytesT Try.prog 90 = 8 := by kernel_rfl
@[simp] theorem ty_zok90 : zokT Try.prog 90 = true := by kernel_rfl
@[simp] theorem ty_zero90 : zeroT Try.prog 90 = some [.raw .nilFunc] := by kernel_rfl
@[simp] theorem ty_known91 : knownT Try.prog 91 = true := by kernel_rfl
@[simp] theorem ty_agg91 : aggT Try.prog 91 = false := by kernel_rfl
@[simp] theorem ty_size91 : sizeT Try.prog 91 = 1 := by kernel_rfl
@[simp] theorem ty_bytes91 : bytesT Try.prog 91 = 8 := by kernel_rfl
@[simp] theorem ty_zok91 : zokT Try.prog 91 = true := by kernel_rfl
@[simp] theorem ty_zero91 : zeroT Try.prog 91 = some [.raw (.pointer none)] := by kernel_rfl
@[simp] theorem ty_known92 : knownT Try.prog 92 = true := by kernel_rfl
@[simp] theorem ty_agg92 : aggT Try.prog 92 = false := by kernel_rfl
@[simp] theorem ty_size92 : sizeT Try.prog 92 = 1 := by kernel_rfl
@[simp] theorem ty_bytes92 : bytesT Try.prog 92 = 4 := by kernel_rfl
@[simp] theorem ty_zok92 : zokT Try.prog 92 = true := by kernel_rfl
@[simp] theorem ty_zero92 : zeroT Try.prog 92 = some [.int .i32 0] := by kernel_rfl
@[simp] theorem ty_kind92 : kindT Try.prog 92 = some .i32 := by kernel_rfl
@[simp] theorem ty_known93 : knownT Try.prog 93 = true := by kernel_rfl
@[simp] theorem ty_agg93 : aggT Try.prog 93 = false := by kernel_rfl
@[simp] theorem ty_size93 : sizeT Try.prog 93 = 1 := by kernel_rfl
@[simp] theorem ty_bytes93 : bytesT Try.prog 93 = 4 := by kernel_rfl
@[simp] theorem ty_zok93 : zokT Try.prog 93 = true := by kernel_rfl
@[simp] theorem ty_zero93 : zeroT Try.prog 93 = some [.int .i32 0] := by kernel_rfl
@[simp] theorem ty_kind93 : kindT Try.prog 93 = some .i32 := by kernel_rfl
@[simp] theorem ty_known94 : knownT Try.prog 94 = true := by kernel_rfl
@[simp] theorem ty_agg94 : aggT Try.prog 94 = true := by kernel_rfl
@[simp] theorem ty_size94 : sizeT Try.prog 94 = 11 := by kernel_rfl
@[simp] theorem ty_bytes94 : bytesT Try.prog 94 = 48 := by kernel_rfl
@[simp] theorem ty_zok94 : zokT Try.prog 94 = true := by kernel_rfl
@[simp] theorem ty_zero94 : zeroT Try.prog 94 = some [.int .u64 0, .int .u64 0, .int .u32 0, .int .u8 0, .int .u8 0, .int .u8 0, .int .u8 0, .raw .nilFunc, .raw (.pointer none), .int .i32 0, .int .i32 0] := by kernel_rfl
@[simp] theorem ty_struct94 : structT Try.prog 94 = true := by kernel_rfl
@[simp] theorem ty_fld94_0 : fldT Try.prog 94 0 = some (0, false, 1) := by kernel_rfl
@[simp] theorem ty_fld94_1 : fldT Try.prog 94 1 = some (1, false, 1) := by kernel_rfl
@[simp] theorem ty_fld94_2 : fldT Try.prog 94 2 = some (2, false, 1) := by kernel_rfl
@[simp] theorem ty_fld94_3 : fldT Try.prog 94 3 = some (3, false, 1) := by kernel_rfl
@[simp] theorem ty_fld94_4 : fldT Try.prog 94 4 = some (4, false, 1) := by kernel_rfl
@[simp] theorem ty_fld94_5 : fldT Try.prog 94 5 = some (5, false, 1) := by kernel_rfl
@[simp] theorem ty_fld94_6 : fldT Try.prog 94 6 = some (6, false, 1) := by kernel_rfl
@[simp] theorem ty_fld94_7 : fldT Try.prog 94 7 = some (7, false, 1) := by kernel_rfl
@[simp] theorem ty_fld94_8 : fldT Try.prog 94 8 = some (8, false, 1) := by kernel_rfl
@[simp] theorem ty_fld94_9 : fldT Try.prog 94 9 = some (9, false, 1) := by kernel_rfl
@[simp] theorem ty_fld94_10 : fldT Try.prog 94 10 = some (10, false, 1) := by kernel_rfl
@[simp] theorem ty_known95 : knownT Try.prog 95 = true := by kernel_rfl
@[simp] theorem ty_agg95 : aggT Try.prog 95 = true := by kernel_rfl
@[simp] theorem ty_size95 : sizeT Try.prog 95 = 11 := by kernel_rfl
@[simp] theorem ty_bytes95 : bytesT Try.prog 95 = 48 := by kernel_rfl
@[simp] theorem ty_zok95 : zokT Try.prog 95 = true := by kernel_rfl
@[simp] theorem ty_zero95 : zeroT Try.prog 95 = some [.int .u64 0, .int .u64 0, .int .u32 0, .int .u8 0, .int .u8 0, .int .u8 0, .int .u8 0, .raw .nilFunc, .raw (.pointer none), .int .i32 0, .int .i32 0] := by kernel_rfl
@[simp] theorem ty_struct95 : structT Try.prog 95 = true := by kernel_rfl
@[simp] theorem ty_fld95_0 : fldT Try.prog 95 0 = some (0, false, 1) := by kernel_rfl
@[simp] theorem ty_fld95_1 : fldT Try.prog 95 1 = some (1, false, 1) := by kernel_rfl
@[simp] theorem ty_fld95_2 : fldT Try.prog 95 2 = some (2, false, 1) := by kernel_rfl
@[simp] theorem ty_fld95_3 : fldT Try.prog 95 3 = some (3, false, 1) := by kernel_rfl
@[simp] theorem ty_fld95_4 : fldT Try.prog 95 4 = some (4, false, 1) := by kernel_rfl
@[simp] theorem ty_fld95_5 : fldT Try.prog 95 5 = some (5, false, 1) := by kernel_rfl
@[simp] theorem ty_fld95_6 : fldT Try.prog 95 6 = some (6, false, 1) := by kernel_rfl
@[simp] theorem ty_fld95_7 : fldT Try.prog 95 7 = some (7, false, 1) := by kernel_rfl
@[simp] theorem ty_fld95_8 : fldT Try.prog 95 8 = some (8, false, 1) := by kernel_rfl
@[simp] theorem ty_fld95_9 : fldT Try.prog 95 9 = some (9, false, 1) := by kernel_rfl
@[simp] theorem ty_fld95_10 : fldT Try.prog 95 10 = some (10, false, 1) := by kernel_rfl
@[simp] theorem res_3 : Try.f3.results.toList = [.tmp 2] := rfl
@[simp] theorem res_4 : Try.f4.results.toList = [.tmp 2] := rfl
@[simp] theorem res_5 : Try.f5.results.toList = [.tmp 0] := rfl
@[simp] theorem res_6 : Try.f6.results.toList = [.tmp 2] := rfl
@[simp] theorem res_7 : Try.f7.results.toList = [.tmp 4] := rfl
@[simp] theorem res_8 : Try.f8.results.toList = [.tmp 2] := rfl
@[simp] theorem res_9 : Try.f9.results.toList = [.tmp 4] := rfl
@[simp] theorem res_10 : Try.f10.results.toList = [.tmp 2] := rfl
@[simp] theorem res_11 : Try.f11.results.toList = [.tmp 2] := rfl
@[simp] theorem res_12 : Try.f12.results.toList = [.tmp 4] := rfl
@[simp] theorem res_13 : Try.f13.results.toList = [.tmp 2] := rfl
@[simp] theorem res_14 : Try.f14.results.toList = [.cell 2 28] := rfl
@[simp] theorem res_15 : Try.f15.results.toList = [.tmp 2] := rfl
@[simp] theorem res_16 : Try.f16.results.toList = [.tmp 0] := rfl
@[simp] theorem res_17 : Try.f17.results.toList = [.tmp 0] := rfl
@[simp] theorem res_18 : Try.f18.results.toList = [.tmp 4] := rfl
@[simp] theorem res_19 : Try.f19.results.toList = [.tmp 4] := rfl
@[simp] theorem res_20 : Try.f20.results.toList = [.tmp 4] := rfl
@[simp] theorem res_21 : Try.f21.results.toList = [.tmp 4] := rfl
@[simp] theorem res_22 : Try.f22.results.toList = [.tmp 2, .tmp 3] := rfl
@[simp] theorem res_23 : Try.f23.results.toList = [.cell 2 41] := rfl
@[simp] theorem res_24 : Try.f24.results.toList = [.tmp 2, .tmp 3] := rfl
@[simp] theorem res_25 : Try.f25.results.toList = [.tmp 4] := rfl
@[simp] theorem res_26 : Try.f26.results.toList = [.tmp 4] := rfl
@[simp] theorem res_27 : Try.f27.results.toList = [.tmp 2] := rfl
@[simp] theorem res_28 : Try.f28.results.toList = [.tmp 4] := rfl
@[simp] theorem res_29 : Try.f29.results.toList = [.tmp 4] := rfl
@[simp] theorem res_30 : Try.f30.results.toList = [.tmp 4] := rfl
@[simp] theorem res_31 : Try.f31.results.toList = [.tmp 2] := rfl
@[simp] theorem res_32 : Try.f32.results.toList = [.cell 2 54] := rfl
@[simp] theorem res_33 : Try.f33.results.toList = [.tmp 2] := rfl
@[simp] theorem res_34 : Try.f34.results.toList = [.tmp 4] := rfl
@[simp] theorem res_35 : Try.f35.results.toList = [.tmp 4] := rfl
@[simp] theorem res_36 : Try.f36.results.toList = [.tmp 2] := rfl
@[simp] theorem res_37 : Try.f37.results.toList = [.tmp 4] := rfl
@[simp] theorem res_38 : Try.f38.results.toList = [.tmp 4] := rfl
@[simp] theorem res_39 : Try.f39.results.toList = [.tmp 2] := rfl
@[simp] theorem res_40 : Try.f40.results.toList = [.tmp 0] := rfl
@[simp] theorem res_41 : Try.f41.results.toList = [.tmp 2] := rfl
@[simp] theorem res_42 : Try.f42.results.toList = [.tmp 2] := rfl
@[simp] theorem res_43 : Try.f43.results.toList = [.tmp 2] := rfl
@[simp] theorem res_44 : Try.f44.results.toList = [.tmp 2] := rfl
@[simp] theorem res_45 : Try.f45.results.toList = [.tmp 2] := rfl
@[simp] theorem res_46 : Try.f46.results.toList = [.tmp 2] := rfl
@[simp] theorem res_47 : Try.f47.results.toList = [.tmp 4] := rfl
@[simp] theorem res_48 : Try.f48.results.toList = [.tmp 4] := rfl
@[simp] theorem res_49 : Try.f49.results.toList = [.tmp 2] := rfl
@[simp] theorem res_50 : Try.f50.results.toList = [.tmp 2] := rfl
@[simp] theorem res_51 : Try.f51.results.toList = [.tmp 2] := rfl
@[simp] theorem res_52 : Try.f52.results.toList = [.tmp 4] := rfl
@[simp] theorem res_53 : Try.f53.results.toList = [.tmp 4] := rfl
@[simp] theorem res_54 : Try.f54.results.toList = [.tmp 6] := rfl
@[simp] theorem res_55 : Try.f55.results.toList = [.tmp 6] := rfl
@[simp] theorem res_56 : Try.f56.results.toList = [.tmp 2] := rfl
@[simp] theorem res_57 : Try.f57.results.toList = [.tmp 2] := rfl
@[simp] theorem res_58 : Try.f58.results.toList = [.tmp 2] := rfl
@[simp] theorem res_59 : Try.f59.results.toList = [.tmp 2] := rfl
@[simp] theorem res_60 : Try.f60.results.toList = [.tmp 4] := rfl
@[simp] theorem res_61 : Try.f61.results.toList = [.tmp 2] := rfl
@[simp] theorem res_62 : Try.f62.results.toList = [.tmp 4] := rfl
@[simp] theorem res_63 : Try.f63.results.toList = [.tmp 2] := rfl
@[simp] theorem res_64 : Try.f64.results.toList = [.tmp 2] := rfl
@[simp] theorem res_65 : Try.f65.results.toList = [.tmp 2] := rfl
@[simp] theorem res_66 : Try.f66.results.toList = [.tmp 4] := rfl
theorem hm : Try.prog.follows .mixedOrders = true := Try.checked.mixed
end Go.Proofs.Ytpbpkpghkbcjdaa
