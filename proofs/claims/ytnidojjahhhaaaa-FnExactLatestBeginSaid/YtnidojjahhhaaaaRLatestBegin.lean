/- For every input the laws FnExactLatestBegin return true, and each argument reads as before. No condition. -/
import Derived.Test.YtnidojjahhhaaaaGc
import Derived.Test.YtnidojjahhhaaaaAby
namespace Go.Proofs.Ytnidojjahhhaaaa
open Go Go.Ab
open Go.ChangeShapes Go.WideShapes Go.ChangeAt Go.RowKit

theorem FnExactLatestBegin_own : ownKnob Try.prog.godebug = none := by kernel_rfl
theorem FnExactLatestBegin_laidOut : laidOutB Try.prog = true := by kernel_rfl
set_option maxRecDepth 100000 in
theorem FnExactLatestBegin_lifted (os : Os) (started : os.Started) (H : Type) (enc : TypeId × Value → H) :
    ReturnsInHanded {} Try.checked os 14 .any (Rows.fnExactLatestBeginSpec.pre6 enc Try.prog Try.f14 Rows.fnExactLatestBeginRow.domain false) (Rows.fnExactLatestBeginSpec.post enc Try.prog Try.f14 false true false false) := by
  refine returnsInHanded_of_change (C := Try.checked) FnExactLatestBegin_own started (by kernel_rfl) Try.func14
    (ChangeSpec.witness6 (enc := enc) (C := Try.checked) false ⟨#[], #[.slice none 0 0], []⟩ 8 (by kernel_rfl) (by kernel_rfl) (by kernel_rfl) (by kernel_rfl)) ?_
  intro W base args ds gs before hval hW _ _
  exact law_contract (c := Try.f14.body.getD .skip) (tb := 4) Try.func14 (by kernel_rfl) rfl rfl (fun ds h => match ds, h with | [d0], _ => rfl) FnExactLatestBegin_laidOut (by kernel_rfl) rfl (by kernel_rfl) (xs := [.one (.slc [.str, .int .i64, .int .i64, .int .i64, .int .i64])]) (by kernel_rfl) l_FnExactLatestBegin W base args ds gs before hval hW

theorem FnExactLatestBegin_holds : Rows.FnExactLatestBeginSaid :=
  OpenClaim.holds_of_wide 14 Try.f14 rfl rfl rfl rfl rfl rfl rfl ⟨rfl, rfl, rfl, rfl, rfl⟩ rfl rfl rfl rfl rfl (by kernel_rfl) Try.func14 (by kernel_rfl)
    (of_decide_eq_true (by kernel_rfl)) (by unfold Func.isWrapper; first | (rw [if_pos (by decide +kernel)]; kernel_rfl) | (rw [if_neg (by decide +kernel)]; exact ⟨rfl, rfl⟩))
    (fun os started H enc _ => FnExactLatestBegin_lifted os started H enc)

end Go.Proofs.Ytnidojjahhhaaaa
