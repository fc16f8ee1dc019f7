/- For every input the laws FnExactDrumOf return true, and each argument reads as before. No condition. -/
import Derived.Test.YteomgilojaibeaaVj
import Derived.Test.YteomgilojaibeaaAby
import Derived.Test.YteomgilojaibeaaChecked
import Derived.Test.YteomgilojaibeaaRows
namespace Go.Proofs.Yteomgilojaibeaa
open Go Go.Ab
open Go.ChangeShapes Go.WideShapes Go.ChangeAt Go.RowKit

theorem FnExactDrumOf_own : ownKnob Try.prog.godebug = none := by kernel_rfl
theorem FnExactDrumOf_laidOut : laidOutB Try.prog = true := by kernel_rfl
set_option maxRecDepth 100000 in
theorem FnExactDrumOf_lifted (os : Os) (started : os.Started) (H : Type) (enc : TypeId × Value → H) :
    ReturnsInHanded {} Try.checked os 3 .any (Rows.fnExactDrumOfSpec.pre6 enc Try.prog Try.f3 Rows.fnExactDrumOfRow.domain false) (Rows.fnExactDrumOfSpec.post enc Try.prog Try.f3 false true false false) := by
  refine returnsInHanded_of_change (C := Try.checked) FnExactDrumOf_own started (by kernel_rfl) Try.func3
    (ChangeSpec.witness6 (enc := enc) (C := Try.checked) false ⟨#[], #[.agg #[.string (ByteArray.mk #[]), .slice none 0 0], .int .i64 0, .int .i64 0], []⟩ 8 (by kernel_rfl) (by kernel_rfl) (by kernel_rfl) (by kernel_rfl)) ?_
  intro W base args ds gs before hval hW _ _
  exact law_contract (c := Try.f3.body.getD .skip) (tb := 4) Try.func3 (by kernel_rfl) rfl rfl (fun ds h => match ds, h with | [d0, d1, d2], _ => rfl) FnExactDrumOf_laidOut (by kernel_rfl) rfl (by kernel_rfl) (xs := [.agg [.str, .slc [.int .i64, .int .i64, .int .i64]], .one (.int .i64), .one (.int .i64)]) (by kernel_rfl) l_FnExactDrumOf W (aok_none rfl) base args ds gs before hval hW

theorem FnExactDrumOf_holds : Rows.FnExactDrumOfSaid :=
  OpenClaim.holds_of_wide 3 Try.f3 rfl rfl rfl rfl rfl rfl rfl ⟨rfl, rfl, rfl, rfl, rfl⟩ rfl rfl rfl rfl rfl (by kernel_rfl) Try.func3 (by kernel_rfl)
    (of_decide_eq_true (by kernel_rfl)) (by unfold Func.isWrapper; first | (rw [if_pos (by decide +kernel)]; kernel_rfl) | (rw [if_neg (by decide +kernel)]; exact ⟨rfl, rfl⟩))
    (fun os started H enc _ => FnExactDrumOf_lifted os started H enc)

end Go.Proofs.Yteomgilojaibeaa
