/- For every input the laws FnExactEndsOf return true, and each argument reads as before. No condition. -/
import Derived.Test.YtnidojjahhhaaaaCj
import Derived.Test.YtnidojjahhhaaaaAby
namespace Go.Proofs.Ytnidojjahhhaaaa
open Go Go.Ab
open Go.ChangeShapes Go.WideShapes Go.ChangeAt Go.RowKit

theorem FnExactEndsOf_own : ownKnob Try.prog.godebug = none := by kernel_rfl
theorem FnExactEndsOf_laidOut : laidOutB Try.prog = true := by kernel_rfl
set_option maxRecDepth 100000 in
theorem FnExactEndsOf_lifted (os : Os) (started : os.Started) (H : Type) (enc : TypeId × Value → H) :
    ReturnsInHanded {} Try.checked os 8 .any (Rows.fnExactEndsOfSpec.pre6 enc Try.prog Try.f8 Rows.fnExactEndsOfRow.domain false) (Rows.fnExactEndsOfSpec.post enc Try.prog Try.f8 false true false false) := by
  refine returnsInHanded_of_change (C := Try.checked) FnExactEndsOf_own started (by kernel_rfl) Try.func8
    (ChangeSpec.witness6 (enc := enc) (C := Try.checked) false ⟨#[], #[.slice none 0 0, .slice none 0 0, .int .i64 0], []⟩ 8 (by kernel_rfl) (by kernel_rfl) (by kernel_rfl) (by kernel_rfl)) ?_
  intro W base args ds gs before hval hW _ _
  exact law_contract (c := Try.f8.body.getD .skip) (tb := 4) Try.func8 (by kernel_rfl) rfl rfl (fun ds h => match ds, h with | [d0, d1, d2], _ => rfl) FnExactEndsOf_laidOut (by kernel_rfl) rfl (by kernel_rfl) (xs := [.one (.slc [.str, .int .i64, .int .i64, .int .i64, .int .i64]), .one (.slc [.int .i64]), .one (.int .i64)]) (by kernel_rfl) l_FnExactEndsOf W base args ds gs before hval hW

theorem FnExactEndsOf_holds : Rows.FnExactEndsOfSaid :=
  OpenClaim.holds_of_wide 8 Try.f8 rfl rfl rfl rfl rfl rfl rfl ⟨rfl, rfl, rfl, rfl, rfl⟩ rfl rfl rfl rfl rfl (by kernel_rfl) Try.func8 (by kernel_rfl)
    (of_decide_eq_true (by kernel_rfl)) (by unfold Func.isWrapper; first | (rw [if_pos (by decide +kernel)]; kernel_rfl) | (rw [if_neg (by decide +kernel)]; exact ⟨rfl, rfl⟩))
    (fun os started H enc _ => FnExactEndsOf_lifted os started H enc)

end Go.Proofs.Ytnidojjahhhaaaa
