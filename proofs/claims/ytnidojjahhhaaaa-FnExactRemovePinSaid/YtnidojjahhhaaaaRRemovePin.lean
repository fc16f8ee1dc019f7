/- For every input the laws FnExactRemovePin return true, and each argument reads as before. No condition. -/
import Derived.Test.YtnidojjahhhaaaaFg
import Derived.Test.YtnidojjahhhaaaaAby
namespace Go.Proofs.Ytnidojjahhhaaaa
open Go Go.Ab
open Go.ChangeShapes Go.WideShapes Go.ChangeAt Go.RowKit

theorem FnExactRemovePin_own : ownKnob Try.prog.godebug = none := by kernel_rfl
theorem FnExactRemovePin_laidOut : laidOutB Try.prog = true := by kernel_rfl
set_option maxRecDepth 100000 in
theorem FnExactRemovePin_lifted (os : Os) (started : os.Started) (H : Type) (enc : TypeId × Value → H) :
    ReturnsInHanded {} Try.checked os 12 .any (Rows.fnExactRemovePinSpec.pre6 enc Try.prog Try.f12 Rows.fnExactRemovePinRow.domain false) (Rows.fnExactRemovePinSpec.post enc Try.prog Try.f12 false true false false) := by
  refine returnsInHanded_of_change (C := Try.checked) FnExactRemovePin_own started (by kernel_rfl) Try.func12
    (ChangeSpec.witness6 (enc := enc) (C := Try.checked) false ⟨#[], #[.agg #[.int .i64 0, .int .i64 0, .slice none 0 0, .slice none 0 0], .agg #[.int .i64 0, .int .i64 0]], []⟩ 8 (by kernel_rfl) (by kernel_rfl) (by kernel_rfl) (by kernel_rfl)) ?_
  intro W base args ds gs before hval hW _ _
  exact law_contract (c := Try.f12.body.getD .skip) (tb := 4) Try.func12 (by kernel_rfl) rfl rfl (fun ds h => match ds, h with | [d0, d1], _ => rfl) FnExactRemovePin_laidOut (by kernel_rfl) rfl (by kernel_rfl) (xs := [.agg [.int .i64, .int .i64, .slc [.int .i64], .slc [.int .i64, .int .i64]], .agg [.int .i64, .int .i64]]) (by kernel_rfl) l_FnExactRemovePin W base args ds gs before hval hW

theorem FnExactRemovePin_holds : Rows.FnExactRemovePinSaid :=
  OpenClaim.holds_of_wide 12 Try.f12 rfl rfl rfl rfl rfl rfl rfl ⟨rfl, rfl, rfl, rfl, rfl⟩ rfl rfl rfl rfl rfl (by kernel_rfl) Try.func12 (by kernel_rfl)
    (of_decide_eq_true (by kernel_rfl)) (by unfold Func.isWrapper; first | (rw [if_pos (by decide +kernel)]; kernel_rfl) | (rw [if_neg (by decide +kernel)]; exact ⟨rfl, rfl⟩))
    (fun os started H enc _ => FnExactRemovePin_lifted os started H enc)

end Go.Proofs.Ytnidojjahhhaaaa
