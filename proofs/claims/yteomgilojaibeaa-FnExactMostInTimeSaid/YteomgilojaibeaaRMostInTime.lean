/- For every input the laws FnExactMostInTime return true, and each argument reads as before. No condition. -/
import Derived.Test.YteomgilojaibeaaMf
import Derived.Test.YteomgilojaibeaaAby
import Derived.Test.YteomgilojaibeaaChecked
import Derived.Test.YteomgilojaibeaaRows
namespace Go.Proofs.Yteomgilojaibeaa
open Go Go.Ab
open Go.ChangeShapes Go.WideShapes Go.ChangeAt Go.RowKit

theorem FnExactMostInTime_own : ownKnob Try.prog.godebug = none := by kernel_rfl
theorem FnExactMostInTime_laidOut : laidOutB Try.prog = true := by kernel_rfl
set_option maxRecDepth 100000 in
theorem FnExactMostInTime_lifted (os : Os) (started : os.Started) (H : Type) (enc : TypeId × Value → H) :
    ReturnsInHanded {} Try.checked os 6 .any (Rows.fnExactMostInTimeSpec.pre6 enc Try.prog Try.f6 Rows.fnExactMostInTimeRow.domain false) (Rows.fnExactMostInTimeSpec.post enc Try.prog Try.f6 false true false false) := by
  refine returnsInHanded_of_change (C := Try.checked) FnExactMostInTime_own started (by kernel_rfl) Try.func6
    (ChangeSpec.witness6 (enc := enc) (C := Try.checked) false ⟨#[], #[.slice none 0 0, .int .i64 0], []⟩ 8 (by kernel_rfl) (by kernel_rfl) (by kernel_rfl) (by kernel_rfl)) ?_
  intro W base args ds gs before hval hW _ _
  exact law_contract (c := Try.f6.body.getD .skip) (tb := 4) Try.func6 (by kernel_rfl) rfl rfl (fun ds h => match ds, h with | [d0, d1], _ => rfl) FnExactMostInTime_laidOut (by kernel_rfl) rfl (by kernel_rfl) (xs := [.one (.slc [.str, .int .i64, .int .i64, .int .i64, .int .i64]), .one (.int .i64)]) (by kernel_rfl) l_FnExactMostInTime W (aok_none rfl) base args ds gs before hval hW

theorem FnExactMostInTime_holds : Rows.FnExactMostInTimeSaid :=
  OpenClaim.holds_of_wide 6 Try.f6 rfl rfl rfl rfl rfl rfl rfl ⟨rfl, rfl, rfl, rfl, rfl⟩ rfl rfl rfl rfl rfl (by kernel_rfl) Try.func6 (by kernel_rfl)
    (of_decide_eq_true (by kernel_rfl)) (by unfold Func.isWrapper; first | (rw [if_pos (by decide +kernel)]; kernel_rfl) | (rw [if_neg (by decide +kernel)]; exact ⟨rfl, rfl⟩))
    (fun os started H enc _ => FnExactMostInTime_lifted os started H enc)

end Go.Proofs.Yteomgilojaibeaa
