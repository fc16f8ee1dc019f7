/- For every input the laws FnExactTroubleName, FnExactTroubleText return true, and each argument reads as before. No condition. -/
import Derived.Test.YtpbpkpghkbcjdaaLd
import Derived.Test.YtpbpkpghkbcjdaaAby
namespace Go.Proofs.Ytpbpkpghkbcjdaa
open Go Go.Ab
open Go.ChangeShapes Go.WideShapes Go.ChangeAt Go.RowKit

theorem FnExactTroubleName_own : ownKnob Try.prog.godebug = none := by kernel_rfl
theorem FnExactTroubleName_laidOut : laidOutB Try.prog = true := by kernel_rfl
set_option maxRecDepth 100000 in
theorem FnExactTroubleName_lifted (os : Os) (started : os.Started) (H : Type) (enc : TypeId × Value → H) :
    ReturnsInHanded {} Try.checked os 3 .any (Rows.fnExactTroubleNameSpec.pre6 enc Try.prog Try.f3 Rows.fnExactTroubleNameRow.domain false) (Rows.fnExactTroubleNameSpec.post enc Try.prog Try.f3 false true false false) := by
  refine returnsInHanded_of_change (C := Try.checked) FnExactTroubleName_own started (by kernel_rfl) Try.func3
    (ChangeSpec.witness6 (enc := enc) (C := Try.checked) false ⟨#[], #[.int .i64 0], []⟩ 8 (by kernel_rfl) (by kernel_rfl) (by kernel_rfl) (by kernel_rfl)) ?_
  intro W base args ds gs before hval hW _ _
  exact law_contract (c := Try.f3.body.getD .skip) (tb := 4) Try.func3 (by kernel_rfl) rfl rfl (fun ds h => match ds, h with | [d0], _ => rfl) FnExactTroubleName_laidOut (by kernel_rfl) rfl (by kernel_rfl) (xs := [.one (.int .i64)]) (by kernel_rfl) l_FnExactTroubleName W base args ds gs before hval hW

theorem FnExactTroubleName_holds : Rows.FnExactTroubleNameSaid :=
  OpenClaim.holds_of_wide 3 Try.f3 rfl rfl rfl rfl rfl rfl rfl ⟨rfl, rfl, rfl, rfl, rfl⟩ rfl rfl rfl rfl rfl (by kernel_rfl) Try.func3 (by kernel_rfl)
    (of_decide_eq_true (by kernel_rfl)) (by unfold Func.isWrapper; first | (rw [if_pos (by decide +kernel)]; kernel_rfl) | (rw [if_neg (by decide +kernel)]; exact ⟨rfl, rfl⟩))
    (fun os started H enc _ => FnExactTroubleName_lifted os started H enc)

theorem FnExactTroubleText_own : ownKnob Try.prog.godebug = none := by kernel_rfl
theorem FnExactTroubleText_laidOut : laidOutB Try.prog = true := by kernel_rfl
set_option maxRecDepth 100000 in
theorem FnExactTroubleText_lifted (os : Os) (started : os.Started) (H : Type) (enc : TypeId × Value → H) :
    ReturnsInHanded {} Try.checked os 4 .any (Rows.fnExactTroubleTextSpec.pre6 enc Try.prog Try.f4 Rows.fnExactTroubleTextRow.domain false) (Rows.fnExactTroubleTextSpec.post enc Try.prog Try.f4 false true false false) := by
  refine returnsInHanded_of_change (C := Try.checked) FnExactTroubleText_own started (by kernel_rfl) Try.func4
    (ChangeSpec.witness6 (enc := enc) (C := Try.checked) false ⟨#[], #[.agg #[.int .i64 0, .string (ByteArray.mk #[]), .string (ByteArray.mk #[])]], []⟩ 8 (by kernel_rfl) (by kernel_rfl) (by kernel_rfl) (by kernel_rfl)) ?_
  intro W base args ds gs before hval hW _ _
  exact law_contract (c := Try.f4.body.getD .skip) (tb := 4) Try.func4 (by kernel_rfl) rfl rfl (fun ds h => match ds, h with | [d0], _ => rfl) FnExactTroubleText_laidOut (by kernel_rfl) rfl (by kernel_rfl) (xs := [.agg [.int .i64, .str, .str]]) (by kernel_rfl) l_FnExactTroubleText W base args ds gs before hval hW

theorem FnExactTroubleText_holds : Rows.FnExactTroubleTextSaid :=
  OpenClaim.holds_of_wide 4 Try.f4 rfl rfl rfl rfl rfl rfl rfl ⟨rfl, rfl, rfl, rfl, rfl⟩ rfl rfl rfl rfl rfl (by kernel_rfl) Try.func4 (by kernel_rfl)
    (of_decide_eq_true (by kernel_rfl)) (by unfold Func.isWrapper; first | (rw [if_pos (by decide +kernel)]; kernel_rfl) | (rw [if_neg (by decide +kernel)]; exact ⟨rfl, rfl⟩))
    (fun os started H enc _ => FnExactTroubleText_lifted os started H enc)

end Go.Proofs.Ytpbpkpghkbcjdaa
