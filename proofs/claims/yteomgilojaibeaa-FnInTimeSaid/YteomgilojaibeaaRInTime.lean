/- For every input the laws FnInTime return true, and each argument reads as before. No condition. -/
import Derived.Test.YteomgilojaibeaaNd
import Derived.Test.YteomgilojaibeaaAby
import Derived.Test.YteomgilojaibeaaChecked
import Derived.Test.YteomgilojaibeaaRows
namespace Go.Proofs.Yteomgilojaibeaa
open Go Go.Ab
open Go.ChangeShapes Go.WideShapes Go.ChangeAt Go.RowKit

theorem FnInTime_own : ownKnob Try.prog.godebug = none := by kernel_rfl
theorem FnInTime_laidOut : laidOutB Try.prog = true := by kernel_rfl
set_option maxRecDepth 100000 in
theorem FnInTime_lifted (os : Os) (started : os.Started) (H : Type) (enc : TypeId × Value → H) :
    ReturnsInHanded {} Try.checked os 8 .any (Rows.fnInTimeSpec.pre6 enc Try.prog Try.f8 Rows.fnInTimeRow.domain false) (Rows.fnInTimeSpec.post enc Try.prog Try.f8 false true false false) := by
  refine returnsInHanded_of_change (C := Try.checked) FnInTime_own started (by kernel_rfl) Try.func8
    (ChangeSpec.witness6 (enc := enc) (C := Try.checked) false ⟨#[], #[.slice none 0 0, .slice none 0 0], []⟩ 8 (by kernel_rfl) (by kernel_rfl) (by kernel_rfl) (by kernel_rfl)) ?_
  intro W base args ds gs before hval hW _ _
  exact law_contract (c := Try.f8.body.getD .skip) (tb := 4) Try.func8 (by kernel_rfl) rfl rfl (fun ds h => match ds, h with | [d0, d1], _ => rfl) FnInTime_laidOut (by kernel_rfl) rfl (by kernel_rfl) (xs := [.one (.slc [.int .u8]), .one (.slc [.int .u8])]) (by kernel_rfl) l_FnInTime W (aok_none rfl) base args ds gs before hval hW

theorem FnInTime_holds : Rows.FnInTimeSaid :=
  OpenClaim.holds_of_wide 8 Try.f8 rfl rfl rfl rfl rfl rfl rfl ⟨rfl, rfl, rfl, rfl, rfl⟩ rfl rfl rfl rfl rfl (by kernel_rfl) Try.func8 (by kernel_rfl)
    (of_decide_eq_true (by kernel_rfl)) (by unfold Func.isWrapper; first | (rw [if_pos (by decide +kernel)]; kernel_rfl) | (rw [if_neg (by decide +kernel)]; exact ⟨rfl, rfl⟩))
    (fun os started H enc _ => FnInTime_lifted os started H enc)

end Go.Proofs.Yteomgilojaibeaa
