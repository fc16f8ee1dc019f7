/- For every input the laws FnExactActiveRecords return true, and each argument reads as before. No condition. -/
import Derived.Test.YtaefhahgkijnfaaHh
import Derived.Test.YtaefhahgkijnfaaAby
namespace Go.Proofs.Ytaefhahgkijnfaa
open Go Go.Ab
open Go.ChangeShapes Go.WideShapes Go.ChangeAt Go.RowKit

theorem FnExactActiveRecords_own : ownKnob Try.prog.godebug = none := by kernel_rfl
theorem FnExactActiveRecords_laidOut : laidOutB Try.prog = true := by kernel_rfl
set_option maxRecDepth 100000 in
theorem FnExactActiveRecords_lifted (os : Os) (started : os.Started) (H : Type) (enc : TypeId × Value → H) :
    ReturnsInHanded {} Try.checked os 5 .any (Rows.fnExactActiveRecordsSpec.pre6 enc Try.prog Try.f5 Rows.fnExactActiveRecordsRow.domain false) (Rows.fnExactActiveRecordsSpec.post enc Try.prog Try.f5 false true false false) := by
  refine returnsInHanded_of_change (C := Try.checked) FnExactActiveRecords_own started (by kernel_rfl) Try.func5
    (ChangeSpec.witness6 (enc := enc) (C := Try.checked) false ⟨#[], #[.slice none 0 0], []⟩ 8 (by kernel_rfl) (by kernel_rfl) (by kernel_rfl) (by kernel_rfl)) ?_
  intro W base args ds gs before hval hW _ _
  exact law_contract (c := Try.f5.body.getD .skip) (tb := 4) Try.func5 (by kernel_rfl) rfl rfl (fun ds h => match ds, h with | [d0], _ => rfl) FnExactActiveRecords_laidOut (by kernel_rfl) rfl (by kernel_rfl) (xs := [.one (.slc [.int .i64, .str, .str])]) (by kernel_rfl) l_FnExactActiveRecords W base args ds gs before hval hW

theorem FnExactActiveRecords_holds : Rows.FnExactActiveRecordsSaid :=
  OpenClaim.holds_of_wide 5 Try.f5 rfl rfl rfl rfl rfl rfl rfl ⟨rfl, rfl, rfl, rfl, rfl⟩ rfl rfl rfl rfl rfl (by kernel_rfl) Try.func5 (by kernel_rfl)
    (of_decide_eq_true (by kernel_rfl)) (by unfold Func.isWrapper; first | (rw [if_pos (by decide +kernel)]; kernel_rfl) | (rw [if_neg (by decide +kernel)]; exact ⟨rfl, rfl⟩))
    (fun os started H enc _ => FnExactActiveRecords_lifted os started H enc)

end Go.Proofs.Ytaefhahgkijnfaa
