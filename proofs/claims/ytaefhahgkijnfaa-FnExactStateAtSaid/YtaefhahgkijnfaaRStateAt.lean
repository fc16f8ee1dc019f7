/- For every input the laws FnExactStateAt return true, and each argument reads as before. No condition. -/
import Derived.Test.YtaefhahgkijnfaaHh
import Derived.Test.YtaefhahgkijnfaaAby
namespace Go.Proofs.Ytaefhahgkijnfaa
open Go Go.Ab
open Go.ChangeShapes Go.WideShapes Go.ChangeAt Go.RowKit

theorem FnExactStateAt_own : ownKnob Try.prog.godebug = none := by kernel_rfl
theorem FnExactStateAt_laidOut : laidOutB Try.prog = true := by kernel_rfl
set_option maxRecDepth 100000 in
theorem FnExactStateAt_lifted (os : Os) (started : os.Started) (H : Type) (enc : TypeId × Value → H) :
    ReturnsInHanded {} Try.checked os 7 .any (Rows.fnExactStateAtSpec.pre6 enc Try.prog Try.f7 Rows.fnExactStateAtRow.domain false) (Rows.fnExactStateAtSpec.post enc Try.prog Try.f7 false true false false) := by
  refine returnsInHanded_of_change (C := Try.checked) FnExactStateAt_own started (by kernel_rfl) Try.func7
    (ChangeSpec.witness6 (enc := enc) (C := Try.checked) false ⟨#[], #[.slice none 0 0, .int .i64 0], []⟩ 8 (by kernel_rfl) (by kernel_rfl) (by kernel_rfl) (by kernel_rfl)) ?_
  intro W base args ds gs before hval hW _ _
  exact law_contract (c := Try.f7.body.getD .skip) (tb := 4) Try.func7 (by kernel_rfl) rfl rfl (fun ds h => match ds, h with | [d0, d1], _ => rfl) FnExactStateAt_laidOut (by kernel_rfl) rfl (by kernel_rfl) (xs := [.one (.slc [.int .i64, .str, .str]), .one (.int .i64)]) (by kernel_rfl) l_FnExactStateAt W base args ds gs before hval hW

theorem FnExactStateAt_holds : Rows.FnExactStateAtSaid :=
  OpenClaim.holds_of_wide 7 Try.f7 rfl rfl rfl rfl rfl rfl rfl ⟨rfl, rfl, rfl, rfl, rfl⟩ rfl rfl rfl rfl rfl (by kernel_rfl) Try.func7 (by kernel_rfl)
    (of_decide_eq_true (by kernel_rfl)) (by unfold Func.isWrapper; first | (rw [if_pos (by decide +kernel)]; kernel_rfl) | (rw [if_neg (by decide +kernel)]; exact ⟨rfl, rfl⟩))
    (fun os started H enc _ => FnExactStateAt_lifted os started H enc)

end Go.Proofs.Ytaefhahgkijnfaa
