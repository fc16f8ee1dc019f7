/- For every input the laws FnExactAddOrder return true, and each argument reads as before. No condition. -/
import Derived.Test.YtnidojjahhhaaaaFb
import Derived.Test.YtnidojjahhhaaaaAby
namespace Go.Proofs.Ytnidojjahhhaaaa
open Go Go.Ab
open Go.ChangeShapes Go.WideShapes Go.ChangeAt Go.RowKit

theorem FnExactAddOrder_own : ownKnob Try.prog.godebug = none := by kernel_rfl
theorem FnExactAddOrder_laidOut : laidOutB Try.prog = true := by kernel_rfl
set_option maxRecDepth 100000 in
theorem FnExactAddOrder_lifted (os : Os) (started : os.Started) (H : Type) (enc : TypeId × Value → H) :
    ReturnsInHanded {} Try.checked os 13 .any (Rows.fnExactAddOrderSpec.pre6 enc Try.prog Try.f13 Rows.fnExactAddOrderRow.domain false) (Rows.fnExactAddOrderSpec.post enc Try.prog Try.f13 false true false false) := by
  refine returnsInHanded_of_change (C := Try.checked) FnExactAddOrder_own started (by kernel_rfl) Try.func13
    (ChangeSpec.witness6 (enc := enc) (C := Try.checked) false ⟨#[], #[.slice none 0 0, .agg #[.string (ByteArray.mk #[]), .int .i64 0, .int .i64 0, .int .i64 0, .int .i64 0]], []⟩ 8 (by kernel_rfl) (by kernel_rfl) (by kernel_rfl) (by kernel_rfl)) ?_
  intro W base args ds gs before hval hW _ _
  exact law_contract (c := Try.f13.body.getD .skip) (tb := 4) Try.func13 (by kernel_rfl) rfl rfl (fun ds h => match ds, h with | [d0, d1], _ => rfl) FnExactAddOrder_laidOut (by kernel_rfl) rfl (by kernel_rfl) (xs := [.one (.slc [.str, .int .i64, .int .i64, .int .i64, .int .i64]), .agg [.str, .int .i64, .int .i64, .int .i64, .int .i64]]) (by kernel_rfl) l_FnExactAddOrder W base args ds gs before hval hW

theorem FnExactAddOrder_holds : Rows.FnExactAddOrderSaid :=
  OpenClaim.holds_of_wide 13 Try.f13 rfl rfl rfl rfl rfl rfl rfl ⟨rfl, rfl, rfl, rfl, rfl⟩ rfl rfl rfl rfl rfl (by kernel_rfl) Try.func13 (by kernel_rfl)
    (of_decide_eq_true (by kernel_rfl)) (by unfold Func.isWrapper; first | (rw [if_pos (by decide +kernel)]; kernel_rfl) | (rw [if_neg (by decide +kernel)]; exact ⟨rfl, rfl⟩))
    (fun os started H enc _ => FnExactAddOrder_lifted os started H enc)

end Go.Proofs.Ytnidojjahhhaaaa
