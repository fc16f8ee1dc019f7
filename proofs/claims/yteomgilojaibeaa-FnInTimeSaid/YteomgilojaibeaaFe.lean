/- Contracts: a pin is removed. -/
import Derived.Test.YteomgilojaibeaaFd
namespace Go.Proofs.Yteomgilojaibeaa
open Go Go.Ab
set_option maxRecDepth 100000

theorem c_l00Own (rows : List (List PV)) (hone : Go.Ab.rowsOne rows) (hl : rows.length ≤ 1048576) : HFn Try.prog 81 [.sl 1 rows] [] (.sf 0 1) [some (.arr 1 rows)] := by
  refine hfn_intro hm Try.func81 (by kernel_rfl) rfl (by kernel_rfl) rfl (retN_ok (ρ := [0]) (φ := [])) ?_
  simp
  exact ⟨hone, by omega, by omega⟩

/-- A pin's index, or -1. -/
def findP (l : List Pin) (p : Pin) : Int := findI (fun q => decide (q = p)) l
theorem findP_eq (l : List Pin) (p : Pin) : findP l p = findG l fun x => cmpPin x p := by
  unfold findP findG
  congr 1
  funext q
  exact Bool.eq_iff_iff.2 (by simp [cmpPin_zero])

end Go.Proofs.Yteomgilojaibeaa
