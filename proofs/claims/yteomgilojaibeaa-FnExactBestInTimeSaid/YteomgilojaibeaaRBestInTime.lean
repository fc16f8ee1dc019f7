/- For every input the laws FnExactBestInTime return true, and each argument reads as before. No condition. -/
import Derived.Test.YteomgilojaibeaaMf
import Derived.Test.YteomgilojaibeaaAby
import Derived.Test.YteomgilojaibeaaChecked
import Derived.Test.YteomgilojaibeaaRows
namespace Go.Proofs.Yteomgilojaibeaa
open Go Go.Ab
open Go.ChangeShapes Go.WideShapes Go.ChangeAt Go.RowKit

theorem FnExactBestInTime_own : ownKnob Try.prog.godebug = none := by kernel_rfl
theorem FnExactBestInTime_laidOut : laidOutB Try.prog = true := by kernel_rfl
set_option maxRecDepth 100000 in
theorem FnExactBestInTime_lifted (os : Os) (started : os.Started) (H : Type) (enc : TypeId × Value → H) :
    ReturnsInHanded {} Try.checked os 7 .any (Rows.fnExactBestInTimeSpec.pre6 enc Try.prog Try.f7 Rows.fnExactBestInTimeRow.domain false) (Rows.fnExactBestInTimeSpec.post enc Try.prog Try.f7 false true false false) := by
  refine returnsInHanded_of_change (C := Try.checked) FnExactBestInTime_own started (by kernel_rfl) Try.func7
    (ChangeSpec.witness6 (enc := enc) (C := Try.checked) false ⟨#[], #[.slice none 0 0, .int .i64 0], []⟩ 8 (by kernel_rfl) (by kernel_rfl) (by kernel_rfl) (by kernel_rfl)) ?_
  intro W base args ds gs before hval hW _ _
  exact law_contract (c := Try.f7.body.getD .skip) (tb := 4) Try.func7 (by kernel_rfl) rfl rfl (fun ds h => match ds, h with | [d0, d1], _ => rfl) FnExactBestInTime_laidOut (by kernel_rfl) rfl (by kernel_rfl) (xs := [.one (.slc [.str, .int .i64, .int .i64, .int .i64, .int .i64]), .one (.int .i64)]) (by kernel_rfl) l_FnExactBestInTime W (aok_none rfl) base args ds gs before hval hW

theorem FnExactBestInTime_holds : Rows.FnExactBestInTimeSaid :=
  OpenClaim.holds_of_wide 7 Try.f7 rfl rfl rfl rfl rfl rfl rfl ⟨rfl, rfl, rfl, rfl, rfl⟩ rfl rfl rfl rfl rfl (by kernel_rfl) Try.func7 (by kernel_rfl)
    (of_decide_eq_true (by kernel_rfl)) (by unfold Func.isWrapper; first | (rw [if_pos (by decide +kernel)]; kernel_rfl) | (rw [if_neg (by decide +kernel)]; exact ⟨rfl, rfl⟩))
    (fun os started H enc _ => FnExactBestInTime_lifted os started H enc)

end Go.Proofs.Yteomgilojaibeaa
