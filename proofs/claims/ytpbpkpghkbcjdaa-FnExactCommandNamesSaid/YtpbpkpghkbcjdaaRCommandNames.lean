/- For every input the laws FnExactCommandNames return true, and each argument reads as before. No condition. -/
import Derived.Test.YtpbpkpghkbcjdaaCd
import Derived.Test.YtpbpkpghkbcjdaaAby
namespace Go.Proofs.Ytpbpkpghkbcjdaa
open Go Go.Ab
open Go.ChangeShapes Go.WideShapes Go.ChangeAt Go.RowKit

theorem FnExactCommandNames_own : ownKnob Try.prog.godebug = none := by kernel_rfl
theorem FnExactCommandNames_laidOut : laidOutB Try.prog = true := by kernel_rfl
set_option maxRecDepth 100000 in
theorem FnExactCommandNames_lifted (os : Os) (started : os.Started) (H : Type) (enc : TypeId × Value → H) :
    ReturnsInHanded {} Try.checked os 5 .any (Rows.fnExactCommandNamesSpec.pre6 enc Try.prog Try.f5 Rows.fnExactCommandNamesRow.domain false) (Rows.fnExactCommandNamesSpec.post enc Try.prog Try.f5 false true false false) := by
  refine returnsInHanded_of_change (C := Try.checked) FnExactCommandNames_own started (by kernel_rfl) Try.func5
    (ChangeSpec.witness6 (enc := enc) (C := Try.checked) false ⟨#[], #[], []⟩ 8 (by kernel_rfl) (by kernel_rfl) (by kernel_rfl) (by kernel_rfl)) ?_
  intro W base args ds gs before hval hW _ _
  exact law_contract (c := Try.f5.body.getD .skip) (tb := 4) Try.func5 (by kernel_rfl) rfl rfl (fun ds h => match ds, h with | [], _ => rfl) FnExactCommandNames_laidOut (by kernel_rfl) rfl (by kernel_rfl) (xs := []) (by kernel_rfl) l_FnExactCommandNames W base args ds gs before hval hW

theorem FnExactCommandNames_holds : Rows.FnExactCommandNamesSaid :=
  OpenClaim.holds_of_wide 5 Try.f5 rfl rfl rfl rfl rfl rfl rfl ⟨rfl, rfl, rfl, rfl, rfl⟩ rfl rfl rfl rfl rfl (by kernel_rfl) Try.func5 (by kernel_rfl)
    (of_decide_eq_true (by kernel_rfl)) (by unfold Func.isWrapper; first | (rw [if_pos (by decide +kernel)]; kernel_rfl) | (rw [if_neg (by decide +kernel)]; exact ⟨rfl, rfl⟩))
    (fun os started H enc _ => FnExactCommandNames_lifted os started H enc)

end Go.Proofs.Ytpbpkpghkbcjdaa
