/- For every input the laws FnExactChangesBetween return true, and each argument reads as before. No condition. -/
import Derived.Test.YtnphmemhejhooaaSi
import Derived.Test.YtnphmemhejhooaaAby
namespace Go.Proofs.Ytnphmemhejhooaa
open Go Go.Ab
open Go.ChangeShapes Go.WideShapes Go.ChangeAt Go.RowKit

theorem FnExactChangesBetween_own : ownKnob Try.prog.godebug = none := by kernel_rfl
theorem FnExactChangesBetween_laidOut : laidOutB Try.prog = true := by kernel_rfl
set_option maxRecDepth 100000 in
theorem FnExactChangesBetween_lifted (os : Os) (started : os.Started) (H : Type) (enc : TypeId × Value → H) :
    ReturnsInHanded {} Try.checked os 7 .any (Rows.fnExactChangesBetweenSpec.pre6 enc Try.prog Try.f7 Rows.fnExactChangesBetweenRow.domain false) (Rows.fnExactChangesBetweenSpec.post enc Try.prog Try.f7 false true false false) := by
  refine returnsInHanded_of_change (C := Try.checked) FnExactChangesBetween_own started (by kernel_rfl) Try.func7
    (ChangeSpec.witness6 (enc := enc) (C := Try.checked) false ⟨#[], #[.slice none 0 0, .slice none 0 0], []⟩ 8 (by kernel_rfl) (by kernel_rfl) (by kernel_rfl) (by kernel_rfl)) ?_
  intro W base args ds gs before hval hW _ _
  exact law_contract (c := Try.f7.body.getD .skip) (tb := 4) Try.func7 (by kernel_rfl) rfl rfl (fun ds h => match ds, h with | [d0, d1], _ => rfl) FnExactChangesBetween_laidOut (by kernel_rfl) rfl (by kernel_rfl) (xs := [.one (.slc [.str, .str]), .one (.slc [.str, .str])]) (by kernel_rfl) l_FnExactChangesBetween W (aok_none rfl) base args ds gs before hval hW

theorem FnExactChangesBetween_holds : Rows.FnExactChangesBetweenSaid :=
  OpenClaim.holds_of_wide 7 Try.f7 rfl rfl rfl rfl rfl rfl rfl ⟨rfl, rfl, rfl, rfl, rfl⟩ rfl rfl rfl rfl rfl (by kernel_rfl) Try.func7 (by kernel_rfl)
    (of_decide_eq_true (by kernel_rfl)) (by unfold Func.isWrapper; first | (rw [if_pos (by decide +kernel)]; kernel_rfl) | (rw [if_neg (by decide +kernel)]; exact ⟨rfl, rfl⟩))
    (fun os started H enc _ => FnExactChangesBetween_lifted os started H enc)

end Go.Proofs.Ytnphmemhejhooaa
