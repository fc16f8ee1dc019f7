/- Contracts: desks compared, the program's side. No condition. -/
import Derived.Test.YtnfjkfjbhdlphaaGreatXg
namespace Go.Proofs.YtnfjkfjbhdlphaaGreat
open Go Go.Ab
set_option maxRecDepth 100000

set_option maxHeartbeats 4000000 in
theorem c_impl_SameDesk (a b : Desk) (hw : a.wf) : HFn Tryz.prog 9 [.agg a.cells, .agg b.cells] [] (.bool (decide (a = b))) [] := by
  refine hfn_introL [1] hm Tryz.func9 (by kernel_rfl) rfl (by kernel_rfl) rfl ret0_ok ?_
  simp [Desk.cells]
  refine ends_late hm 6 [[2, 3], []] (by kernel_rfl) ?_
  have kT := c_impl_SameTune a.carillon.tune b.carillon.tune hw.carillon.tune
  simp only [Tune.cells] at kT
  simp
  refine CallZ.use0 (c_EqualIngot a.carillon.ingots b.carillon.ingots hw.carillon.ingots.1) rfl rfl ?_
  simp
  repeat refine ⟨by grind, ?_⟩
  refine CallY.use (fun _ => ⟨rfl, c_impl_SameMelts a.carillon.melts b.carillon.melts hw.carillon.melts.1 hw.carillon.melts.2⟩) rfl rfl ?_
  simp
  repeat refine ⟨by grind, ?_⟩
  refine CallY.use (fun _ => ⟨rfl, c_impl_SameBells a.carillon.bells b.carillon.bells hw.carillon.bells.1 hw.carillon.bells.2⟩) rfl rfl ?_
  simp
  repeat refine ⟨by grind, ?_⟩
  refine CallZ.use0 (c_EqualHung a.carillon.hung b.carillon.hung hw.carillon.hung.1) rfl rfl ?_
  simp
  repeat refine ⟨by grind, ?_⟩
  refine CallY.use (fun _ => ⟨rfl, c_EqualPlace a.carillon.places b.carillon.places hw.carillon.places.1⟩) rfl rfl ?_
  simp
  repeat refine ⟨by grind, ?_⟩
  refine CallY.use (fun _ => ⟨rfl, c_EqualFuncBeam _ c_SameBeam a.carillon.frame b.carillon.frame hw.carillon.frame.1 hw.carillon.frame.2⟩) rfl rfl ?_
  simp
  repeat refine ⟨by grind, ?_⟩
  refine CallZ.use0 (c_EqualFuncAction _ c_SameAction a.carillon.clavier b.carillon.clavier hw.carillon.clavier.1 hw.carillon.clavier.2) rfl rfl ?_
  simp
  repeat refine ⟨by grind, ?_⟩
  refine CallY.use (fun _ => ⟨rfl, kT⟩) rfl rfl ?_
  simp
  repeat refine ⟨by grind, ?_⟩
  refine CallY.use (fun _ => ⟨rfl, c_impl_SameOrders a.orders b.orders hw.orders.1⟩) rfl rfl ?_
  simp
  repeat refine ⟨by grind, ?_⟩
  refine CallY.use (fun _ => ⟨rfl, c_impl_SameRecords a.records b.records hw.records.1⟩) rfl rfl ?_
  simp
  rw [Bool.eq_iff_iff]
  simp [Desk.eq_iff, Carillon.eq_iff, Chamber.eq_iff, Tower.eq_iff]
  grind
end Go.Proofs.YtnfjkfjbhdlphaaGreat
