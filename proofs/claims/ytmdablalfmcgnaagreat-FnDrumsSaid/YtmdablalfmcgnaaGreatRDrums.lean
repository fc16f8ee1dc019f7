/- For every input the laws FnDrums return true, and each argument reads as before. No condition. -/
import Derived.Test.YtmdablalfmcgnaaGreatQc
import Derived.Test.YtmdablalfmcgnaaGreatAby
import Derived.Test.YtmdablalfmcgnaaGreatChecked
import Derived.Test.YtmdablalfmcgnaaGreatRows
namespace Go.Proofs.YtmdablalfmcgnaaGreat
open Go Go.Ab
open Go.ChangeShapes Go.WideShapes Go.ChangeAt Go.RowKit

theorem FnDrums_own : ownKnob Tryz.prog.godebug = none := by kernel_rfl
theorem FnDrums_laidOut : laidOutB Tryz.prog = true := by kernel_rfl
set_option maxRecDepth 100000 in
theorem FnDrums_lifted (os : Os) (started : os.Started) (H : Type) (enc : TypeId × Value → H) :
    ReturnsInHanded {} Tryz.checked os 3 .any (Rows.fnDrumsSpec.pre6 enc Tryz.prog Tryz.f3 Rows.fnDrumsRow.domain false) (Rows.fnDrumsSpec.post enc Tryz.prog Tryz.f3 false true false false) := by
  refine returnsInHanded_of_change (C := Tryz.checked) FnDrums_own started (by kernel_rfl) Tryz.func3
    (ChangeSpec.witness6 (enc := enc) (C := Tryz.checked) false ⟨#[], #[.slice none 0 0], []⟩ 8 (by kernel_rfl) (by kernel_rfl) (by kernel_rfl) (by kernel_rfl)) ?_
  intro W base args ds gs before hval hW _ _
  exact law_contract (c := Tryz.f3.body.getD .skip) (tb := 4) Tryz.func3 (by kernel_rfl) rfl rfl (fun ds h => match ds, h with | [d0], _ => rfl) FnDrums_laidOut (by kernel_rfl) rfl (by kernel_rfl) (xs := [.one (.slc [.int .u8])]) (by kernel_rfl) l_FnDrums W (aok_none rfl rfl) base args ds gs before hval hW

theorem FnDrums_holds : Rows.FnDrumsSaid :=
  OpenClaim.holds_of_wide 3 Tryz.f3 rfl rfl rfl rfl rfl rfl rfl ⟨rfl, rfl, rfl, rfl, rfl⟩ rfl rfl rfl rfl rfl (by kernel_rfl) Tryz.func3 (by kernel_rfl)
    (of_decide_eq_true (by kernel_rfl)) (by unfold Func.isWrapper; first | (rw [if_pos (by decide +kernel)]; kernel_rfl) | (rw [if_neg (by decide +kernel)]; exact ⟨rfl, rfl⟩))
    (fun os started H enc _ => FnDrums_lifted os started H enc)

end Go.Proofs.YtmdablalfmcgnaaGreat
