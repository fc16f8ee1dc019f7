/- For every input the laws FnExactNewDesk return true, and each argument reads as before. No condition. -/
import Derived.Test.YtlfhelfbgbajmaaYn
import Derived.Test.YtlfhelfbgbajmaaAby
import Derived.Test.YtlfhelfbgbajmaaChecked
import Derived.Test.YtlfhelfbgbajmaaRows
namespace Go.Proofs.Ytlfhelfbgbajmaa
open Go Go.Ab
open Go.ChangeShapes Go.WideShapes Go.ChangeAt Go.RowKit

theorem FnExactNewDesk_own : ownKnob Try.prog.godebug = none := by kernel_rfl
theorem FnExactNewDesk_laidOut : laidOutB Try.prog = true := by kernel_rfl
set_option maxRecDepth 100000 in
theorem FnExactNewDesk_lifted (os : Os) (started : os.Started) (H : Type) (enc : TypeId × Value → H) :
    ReturnsInHanded {} Try.checked os 3 .any (Rows.fnExactNewDeskSpec.pre6 enc Try.prog Try.f3 Rows.fnExactNewDeskRow.domain false) (Rows.fnExactNewDeskSpec.post enc Try.prog Try.f3 false true false false) := by
  refine returnsInHanded_of_change (C := Try.checked) FnExactNewDesk_own started (by kernel_rfl) Try.func3
    (ChangeSpec.witness6 (enc := enc) (C := Try.checked) false ⟨#[], #[], []⟩ 8 (by kernel_rfl) (by kernel_rfl) (by kernel_rfl) (by kernel_rfl)) ?_
  intro W base args ds gs before hval hW _ _
  exact law_contract (c := Try.f3.body.getD .skip) (tb := 4) Try.func3 (by kernel_rfl) rfl rfl (fun ds h => match ds, h with | [], _ => rfl) FnExactNewDesk_laidOut (by kernel_rfl) rfl (by kernel_rfl) (xs := []) (by kernel_rfl) l_FnExactNewDesk W (aok_none rfl rfl) base args ds gs before hval hW

theorem FnExactNewDesk_holds : Rows.FnExactNewDeskSaid :=
  OpenClaim.holds_of_wide 3 Try.f3 rfl rfl rfl rfl rfl rfl rfl ⟨rfl, rfl, rfl, rfl, rfl⟩ rfl rfl rfl rfl rfl (by kernel_rfl) Try.func3 (by kernel_rfl)
    (of_decide_eq_true (by kernel_rfl)) (by unfold Func.isWrapper; first | (rw [if_pos (by decide +kernel)]; kernel_rfl) | (rw [if_neg (by decide +kernel)]; exact ⟨rfl, rfl⟩))
    (fun os started H enc _ => FnExactNewDesk_lifted os started H enc)

end Go.Proofs.Ytlfhelfbgbajmaa
