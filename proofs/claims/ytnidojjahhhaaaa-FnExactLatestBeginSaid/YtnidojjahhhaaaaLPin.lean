/- Contracts: slices.Clone, Delete, Insert at Pin. -/
import Derived.Test.YtnidojjahhhaaaaTy
import Derived.Test.YtnidojjahhhaaaaAch
namespace Go.Proofs.Ytnidojjahhhaaaa
open Go Go.Ab
set_option maxRecDepth 100000

theorem c_ClonePin (rows : List (List PV)) (hone : rowsOne rows) (hl : rows.length ≤ 1048576) : HFn Try.prog 128 [.sl 2 rows] [] (.sf 0 2) [some (.arr 2 rows)] := by
  refine hfn_intro hm Try.func128 (by kernel_rfl) rfl (by kernel_rfl) rfl (fun _ _ h => h) ?_
  simp
  refine ⟨fun h => ?_, hone, by omega, by omega, Wk.weak (ρ := [0]) (φ := []) (by simp)⟩
  rw [h]
  exact (weak_nil (t := 0) (z := 2) rfl).trans (Wk.weak (ρ := [0]) (φ := []) (by simp))


theorem c_DeletePin (rows : List (List PV)) (i j : Nat) (hr : rowsOne rows) (hij : i < j) (hj : j ≤ rows.length) (hl : rows.length ≤ 1048576) : MFn Try.prog 102 [.sf 0 2, .int .i64 i, .int .i64 j] [some (.arr 2 rows)] [] (.sf 0 2) [some (.arr 2 (rows.take i ++ rows.drop j))] := by
  refine mfn_intro [] hm Try.func102 (by kernel_rfl) rfl (by kernel_rfl) rfl (fun _ _ h => h) trivial ?_
  simp
  have e1 : ((i : Int) + ((rows.length - j : Nat) : Int)).toNat = i + (rows.length - j) := by omega
  refine ⟨⟨by omega, hj⟩, fun h => by omega, fun _ => ⟨by omega, hj, by omega, fun r h => hr r (List.mem_of_mem_drop (List.mem_of_mem_take h)), rfl, by omega, ⟨by omega, by omega, by omega⟩, by omega, ?_⟩⟩
  rw [e1]
  refine (weak_cut (S := ⟨[(0, .so 0 2 0 (i + (rows.length - j)))], _⟩) (t := 0) rfl rfl (by simp; omega)).trans (Wk.weak (ρ := [0]) (φ := []) ?_)
  simp
  have := del_rows rows i j hij hj
  simpa using this _


end Go.Proofs.Ytnidojjahhhaaaa
