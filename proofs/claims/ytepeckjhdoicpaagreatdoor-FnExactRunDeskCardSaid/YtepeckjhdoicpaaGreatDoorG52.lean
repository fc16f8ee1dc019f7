/- What the row lists is what the text lays: the tie, fact by fact (in one theorem they want more memory than a build has). No condition. -/
import Derived.Test.YtepeckjhdoicpaaGreatDoorRows
import Derived.LaidByTextLater
import Derived.LaidOnce
import Derived.SevenTiedAt
namespace Go.Proofs.YtepeckjhdoicpaaGreatDoor
open Go
abbrev rdTL : List (String × DataW Unit) := [("unicode/utf8.acceptRanges", Rows.laid_unicode_utf8_acceptRanges), ("strconv.ErrSyntax", Rows.laid_strconv_ErrSyntax), ("strconv.ErrRange", Rows.laid_strconv_ErrRange), ("internal/strconv.uint64pow10", Rows.laid_internal_strconv_uint64pow10), ("math/bits.deBruijn32tab", Rows.laid_math_bits_deBruijn32tab), ("math/bits.deBruijn64tab", Rows.laid_math_bits_deBruijn64tab), ("loop.example/g00952/impl.roundSines", Rows.laid_loop_example_g00952_impl_roundSines)]
abbrev rdTK : List LaidKind := [.data, .sentinel, .sentinel, .data, .data, .data, .data]
theorem rdT6 : varsNamedLaterB Tryz.prog (varsId Tryz.prog) rdTL = true := by kernel_rfl
theorem rdT7 (os : Os) (tape : Tape) : doorLeaves Tryz.prog 200 8 92 rdTL os tape = some (rdTL.filter fun x => x.2.handleName?.isNone, (funcsListed rdTL).map (·.2.funcsOut)) := by kernel_rfl
theorem rdT1 : Tryz.prog.worded (varsWordLater true) = true := by kernel_rfl
theorem rdT2 : Tryz.prog.worded (varsWordLater !true) = false := by kernel_rfl
theorem rdT3 : Tryz.prog.worded rootWordLater = true := by kernel_rfl
theorem rdT4 : rdTL.map (fun x => Tryz.prog.kindOfLater x.1) = rdTK.map some := by kernel_rfl
theorem rdT5 : (Tryz.prog.funcNamed "gosem.cut.vars").isSome = true := by kernel_rfl
theorem rdPin : Tryz.pinned.checked.prog.pinnedFits "unicode/utf8.first" = true := by kernel_rfl
theorem rdOwn : Tryz.pinned.checked.prog.headLifts.contains "ownunsafe" = false := by kernel_rfl
theorem rdFits : Tryz.pinned.checked.prog.listedFits [("unicode/utf8.first", Rows.laid_unicode_utf8_first), ("unicode/utf8.acceptRanges", Rows.laid_unicode_utf8_acceptRanges), ("strconv.ErrSyntax", Rows.laid_strconv_ErrSyntax), ("strconv.ErrRange", Rows.laid_strconv_ErrRange), ("internal/strconv.uint64pow10", Rows.laid_internal_strconv_uint64pow10), ("math/bits.deBruijn32tab", Rows.laid_math_bits_deBruijn32tab), ("math/bits.deBruijn64tab", Rows.laid_math_bits_deBruijn64tab), ("loop.example/g00952/impl.roundSines", Rows.laid_loop_example_g00952_impl_roundSines)] = true := by
  unfold Program.listedFits
  rw [rdOwn]
  kernel_rfl
theorem rdTie : Tryz.prog.laidByTextLater rdTL rdTK true :=
  Program.laidByTextLater_by_one 200 8 92 rdT1 rdT2 rdT3 rdT4 rdT5 rdT6 rdT7
theorem fnExactRunDesk_row_tie : Rows.fnExactRunDeskRow.laidByTextAt .later Tryz.pinned [.pinned, .data, .sentinel, .sentinel, .data, .data, .data, .data] true :=
  OpenClaim.laidByTextAt_pinned rfl rfl rdTie rfl rfl rfl rfl (fun y hy _e => by
    simp only [Rows.fnExactRunDeskRow, List.zip_cons_cons, List.zip_nil_right, List.mem_cons, List.mem_nil_iff, or_false] at hy
    rcases hy with rfl | rfl | rfl | rfl | rfl | rfl | rfl | rfl
    · exact ⟨rdPin, by kernel_rfl⟩
    · cases _e
    · cases _e
    · cases _e
    · cases _e
    · cases _e
    · cases _e
    · cases _e) rdFits
end Go.Proofs.YtepeckjhdoicpaaGreatDoor
