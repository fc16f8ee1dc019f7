/- For every input the laws FnExactHistoryOf return true, and each argument reads as before. No condition. -/
import Derived.Test.YtaefhahgkijnfaaHj
import Derived.Test.YtaefhahgkijnfaaAby
namespace Go.Proofs.Ytaefhahgkijnfaa
open Go Go.Ab
open Go.ChangeShapes Go.WideShapes Go.ChangeAt Go.RowKit

theorem FnExactHistoryOf_own : ownKnob Try.prog.godebug = none := by kernel_rfl
theorem FnExactHistoryOf_laidOut : laidOutB Try.prog = true := by kernel_rfl
set_option maxRecDepth 100000 in
theorem FnExactHistoryOf_lifted (os : Os) (started : os.Started) (H : Type) (enc : TypeId × Value → H) :
    ReturnsInHanded {} Try.checked os 9 .any (Rows.fnExactHistoryOfSpec.pre6 enc Try.prog Try.f9 Rows.fnExactHistoryOfRow.domain false) (Rows.fnExactHistoryOfSpec.post enc Try.prog Try.f9 false true false false) := by
  refine returnsInHanded_of_change (C := Try.checked) FnExactHistoryOf_own started (by kernel_rfl) Try.func9
    (ChangeSpec.witness6 (enc := enc) (C := Try.checked) false ⟨#[], #[.slice none 0 0, .string (ByteArray.mk #[])], []⟩ 8 (by kernel_rfl) (by kernel_rfl) (by kernel_rfl) (by kernel_rfl)) ?_
  intro W base args ds gs before hval hW _ _
  exact law_contract (c := Try.f9.body.getD .skip) (tb := 4) Try.func9 (by kernel_rfl) rfl rfl (fun ds h => match ds, h with | [d0, d1], _ => rfl) FnExactHistoryOf_laidOut (by kernel_rfl) rfl (by kernel_rfl) (xs := [.one (.slc [.int .i64, .str, .str]), .one (.str)]) (by kernel_rfl) l_FnExactHistoryOf W base args ds gs before hval hW

theorem FnExactHistoryOf_holds : Rows.FnExactHistoryOfSaid :=
  OpenClaim.holds_of_wide 9 Try.f9 rfl rfl rfl rfl rfl rfl rfl ⟨rfl, rfl, rfl, rfl, rfl⟩ rfl rfl rfl rfl rfl (by kernel_rfl) Try.func9 (by kernel_rfl)
    (of_decide_eq_true (by kernel_rfl)) (by unfold Func.isWrapper; first | (rw [if_pos (by decide +kernel)]; kernel_rfl) | (rw [if_neg (by decide +kernel)]; exact ⟨rfl, rfl⟩))
    (fun os started H enc _ => FnExactHistoryOf_lifted os started H enc)

end Go.Proofs.Ytaefhahgkijnfaa
