/- For every input the laws FnExactAddRecord return true, and each argument reads as before. No condition. -/
import Derived.Test.YtaefhahgkijnfaaHh
import Derived.Test.YtaefhahgkijnfaaAby
namespace Go.Proofs.Ytaefhahgkijnfaa
open Go Go.Ab
open Go.ChangeShapes Go.WideShapes Go.ChangeAt Go.RowKit

theorem FnExactAddRecord_own : ownKnob Try.prog.godebug = none := by kernel_rfl
theorem FnExactAddRecord_laidOut : laidOutB Try.prog = true := by kernel_rfl
set_option maxRecDepth 100000 in
theorem FnExactAddRecord_lifted (os : Os) (started : os.Started) (H : Type) (enc : TypeId × Value → H) :
    ReturnsInHanded {} Try.checked os 6 .any (Rows.fnExactAddRecordSpec.pre6 enc Try.prog Try.f6 Rows.fnExactAddRecordRow.domain false) (Rows.fnExactAddRecordSpec.post enc Try.prog Try.f6 false true false false) := by
  refine returnsInHanded_of_change (C := Try.checked) FnExactAddRecord_own started (by kernel_rfl) Try.func6
    (ChangeSpec.witness6 (enc := enc) (C := Try.checked) false ⟨#[], #[.slice none 0 0, .agg #[.int .i64 0, .string (ByteArray.mk #[]), .string (ByteArray.mk #[])]], []⟩ 8 (by kernel_rfl) (by kernel_rfl) (by kernel_rfl) (by kernel_rfl)) ?_
  intro W base args ds gs before hval hW _ _
  exact law_contract (c := Try.f6.body.getD .skip) (tb := 4) Try.func6 (by kernel_rfl) rfl rfl (fun ds h => match ds, h with | [d0, d1], _ => rfl) FnExactAddRecord_laidOut (by kernel_rfl) rfl (by kernel_rfl) (xs := [.one (.slc [.int .i64, .str, .str]), .agg [.int .i64, .str, .str]]) (by kernel_rfl) l_FnExactAddRecord W base args ds gs before hval hW

theorem FnExactAddRecord_holds : Rows.FnExactAddRecordSaid :=
  OpenClaim.holds_of_wide 6 Try.f6 rfl rfl rfl rfl rfl rfl rfl ⟨rfl, rfl, rfl, rfl, rfl⟩ rfl rfl rfl rfl rfl (by kernel_rfl) Try.func6 (by kernel_rfl)
    (of_decide_eq_true (by kernel_rfl)) (by unfold Func.isWrapper; first | (rw [if_pos (by decide +kernel)]; kernel_rfl) | (rw [if_neg (by decide +kernel)]; exact ⟨rfl, rfl⟩))
    (fun os started H enc _ => FnExactAddRecord_lifted os started H enc)

end Go.Proofs.Ytaefhahgkijnfaa
