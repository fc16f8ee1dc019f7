/- For every input the laws FnExactSameDrum return true, and each argument reads as before. No condition. -/
import Derived.Test.YtnidojjahhhaaaaDa
import Derived.Test.YtnidojjahhhaaaaAby
namespace Go.Proofs.Ytnidojjahhhaaaa
open Go Go.Ab
open Go.ChangeShapes Go.WideShapes Go.ChangeAt Go.RowKit

theorem FnExactSameDrum_own : ownKnob Try.prog.godebug = none := by kernel_rfl
theorem FnExactSameDrum_laidOut : laidOutB Try.prog = true := by kernel_rfl
set_option maxRecDepth 100000 in
theorem FnExactSameDrum_lifted (os : Os) (started : os.Started) (H : Type) (enc : TypeId × Value → H) :
    ReturnsInHanded {} Try.checked os 5 .any (Rows.fnExactSameDrumSpec.pre6 enc Try.prog Try.f5 Rows.fnExactSameDrumRow.domain false) (Rows.fnExactSameDrumSpec.post enc Try.prog Try.f5 false true false false) := by
  refine returnsInHanded_of_change (C := Try.checked) FnExactSameDrum_own started (by kernel_rfl) Try.func5
    (ChangeSpec.witness6 (enc := enc) (C := Try.checked) false ⟨#[], #[.agg #[.int .i64 0, .int .i64 0, .slice none 0 0, .slice none 0 0], .agg #[.int .i64 0, .int .i64 0, .slice none 0 0, .slice none 0 0]], []⟩ 8 (by kernel_rfl) (by kernel_rfl) (by kernel_rfl) (by kernel_rfl)) ?_
  intro W base args ds gs before hval hW _ _
  exact law_contract (c := Try.f5.body.getD .skip) (tb := 4) Try.func5 (by kernel_rfl) rfl rfl (fun ds h => match ds, h with | [d0, d1], _ => rfl) FnExactSameDrum_laidOut (by kernel_rfl) rfl (by kernel_rfl) (xs := [.agg [.int .i64, .int .i64, .slc [.int .i64], .slc [.int .i64, .int .i64]], .agg [.int .i64, .int .i64, .slc [.int .i64], .slc [.int .i64, .int .i64]]]) (by kernel_rfl) l_FnExactSameDrum W base args ds gs before hval hW

theorem FnExactSameDrum_holds : Rows.FnExactSameDrumSaid :=
  OpenClaim.holds_of_wide 5 Try.f5 rfl rfl rfl rfl rfl rfl rfl ⟨rfl, rfl, rfl, rfl, rfl⟩ rfl rfl rfl rfl rfl (by kernel_rfl) Try.func5 (by kernel_rfl)
    (of_decide_eq_true (by kernel_rfl)) (by unfold Func.isWrapper; first | (rw [if_pos (by decide +kernel)]; kernel_rfl) | (rw [if_neg (by decide +kernel)]; exact ⟨rfl, rfl⟩))
    (fun os started H enc _ => FnExactSameDrum_lifted os started H enc)

end Go.Proofs.Ytnidojjahhhaaaa
