/- For every input the laws FnExactPriceOf return true, and each argument reads as before. No condition. -/
import Derived.Test.YtpbpkpghkbcjdaaCf
import Derived.Test.YtpbpkpghkbcjdaaAby
namespace Go.Proofs.Ytpbpkpghkbcjdaa
open Go Go.Ab
open Go.ChangeShapes Go.WideShapes Go.ChangeAt Go.RowKit

theorem FnExactPriceOf_own : ownKnob Try.prog.godebug = none := by kernel_rfl
theorem FnExactPriceOf_laidOut : laidOutB Try.prog = true := by kernel_rfl
set_option maxRecDepth 100000 in
theorem FnExactPriceOf_lifted (os : Os) (started : os.Started) (H : Type) (enc : TypeId × Value → H) :
    ReturnsInHanded {} Try.checked os 6 .any (Rows.fnExactPriceOfSpec.pre6 enc Try.prog Try.f6 Rows.fnExactPriceOfRow.domain false) (Rows.fnExactPriceOfSpec.post enc Try.prog Try.f6 false true false false) := by
  refine returnsInHanded_of_change (C := Try.checked) FnExactPriceOf_own started (by kernel_rfl) Try.func6
    (ChangeSpec.witness6 (enc := enc) (C := Try.checked) false ⟨#[], #[.agg #[.string (ByteArray.mk #[]), .int .i64 0, .int .i64 0, .int .i64 0, .int .i64 0]], []⟩ 8 (by kernel_rfl) (by kernel_rfl) (by kernel_rfl) (by kernel_rfl)) ?_
  intro W base args ds gs before hval hW _ _
  exact law_contract (c := Try.f6.body.getD .skip) (tb := 4) Try.func6 (by kernel_rfl) rfl rfl (fun ds h => match ds, h with | [d0], _ => rfl) FnExactPriceOf_laidOut (by kernel_rfl) rfl (by kernel_rfl) (xs := [.agg [.str, .int .i64, .int .i64, .int .i64, .int .i64]]) (by kernel_rfl) l_FnExactPriceOf W base args ds gs before hval hW

theorem FnExactPriceOf_holds : Rows.FnExactPriceOfSaid :=
  OpenClaim.holds_of_wide 6 Try.f6 rfl rfl rfl rfl rfl rfl rfl ⟨rfl, rfl, rfl, rfl, rfl⟩ rfl rfl rfl rfl rfl (by kernel_rfl) Try.func6 (by kernel_rfl)
    (of_decide_eq_true (by kernel_rfl)) (by unfold Func.isWrapper; first | (rw [if_pos (by decide +kernel)]; kernel_rfl) | (rw [if_neg (by decide +kernel)]; exact ⟨rfl, rfl⟩))
    (fun os started H enc _ => FnExactPriceOf_lifted os started H enc)

end Go.Proofs.Ytpbpkpghkbcjdaa
