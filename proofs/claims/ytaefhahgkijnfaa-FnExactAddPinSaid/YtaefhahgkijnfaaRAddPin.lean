/- For every input the laws FnExactAddPin return true, and each argument reads as before. No condition. -/
import Derived.Test.YtaefhahgkijnfaaIb
import Derived.Test.YtaefhahgkijnfaaAby
namespace Go.Proofs.Ytaefhahgkijnfaa
open Go Go.Ab
open Go.ChangeShapes Go.WideShapes Go.ChangeAt Go.RowKit

theorem FnExactAddPin_own : ownKnob Try.prog.godebug = none := by kernel_rfl
theorem FnExactAddPin_laidOut : laidOutB Try.prog = true := by kernel_rfl
set_option maxRecDepth 100000 in
theorem FnExactAddPin_lifted (os : Os) (started : os.Started) (H : Type) (enc : TypeId × Value → H) :
    ReturnsInHanded {} Try.checked os 8 .any (Rows.fnExactAddPinSpec.pre6 enc Try.prog Try.f8 Rows.fnExactAddPinRow.domain false) (Rows.fnExactAddPinSpec.post enc Try.prog Try.f8 false true false false) := by
  refine returnsInHanded_of_change (C := Try.checked) FnExactAddPin_own started (by kernel_rfl) Try.func8
    (ChangeSpec.witness6 (enc := enc) (C := Try.checked) false ⟨#[], #[.agg #[.int .i64 0, .int .i64 0, .slice none 0 0, .slice none 0 0], .agg #[.int .i64 0, .int .i64 0]], []⟩ 8 (by kernel_rfl) (by kernel_rfl) (by kernel_rfl) (by kernel_rfl)) ?_
  intro W base args ds gs before hval hW _ _
  exact law_contract (c := Try.f8.body.getD .skip) (tb := 4) Try.func8 (by kernel_rfl) rfl rfl (fun ds h => match ds, h with | [d0, d1], _ => rfl) FnExactAddPin_laidOut (by kernel_rfl) rfl (by kernel_rfl) (xs := [.agg [.int .i64, .int .i64, .slc [.int .i64], .slc [.int .i64, .int .i64]], .agg [.int .i64, .int .i64]]) (by kernel_rfl) l_FnExactAddPin W base args ds gs before hval hW

theorem FnExactAddPin_holds : Rows.FnExactAddPinSaid :=
  OpenClaim.holds_of_wide 8 Try.f8 rfl rfl rfl rfl rfl rfl rfl ⟨rfl, rfl, rfl, rfl, rfl⟩ rfl rfl rfl rfl rfl (by kernel_rfl) Try.func8 (by kernel_rfl)
    (of_decide_eq_true (by kernel_rfl)) (by unfold Func.isWrapper; first | (rw [if_pos (by decide +kernel)]; kernel_rfl) | (rw [if_neg (by decide +kernel)]; exact ⟨rfl, rfl⟩))
    (fun os started H enc _ => FnExactAddPin_lifted os started H enc)

end Go.Proofs.Ytaefhahgkijnfaa
