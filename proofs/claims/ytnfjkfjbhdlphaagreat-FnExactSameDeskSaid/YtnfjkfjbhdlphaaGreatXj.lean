/- Contracts: desks compared by the reference, whole; the law of SameDesk. No condition. -/
import Derived.Test.YtnfjkfjbhdlphaaGreatXh
import Derived.Test.YtnfjkfjbhdlphaaGreatXi
namespace Go.Proofs.YtnfjkfjbhdlphaaGreat
open Go Go.Ab
set_option maxRecDepth 100000

theorem c_spec_SameDesk (a b : Desk) (hw : a.wf) : HFn Tryz.prog 7 [.agg a.cells, .agg b.cells] [] (.bool (decide (a = b))) [] := by
  obtain ⟨A, oa, sa⟩ := a
  obtain ⟨B, ob, sb⟩ := b
  have k1 := c_l32Same A B oa ob sa sb [(Desk.mk A oa sa).cells] [(Desk.mk B ob sb).cells] 0 0 rfl rfl hw.carillon
  simp only [Desk.cells] at k1
  refine hfn_intro hm Tryz.func7 (by kernel_rfl) rfl (by kernel_rfl) rfl ret0_ok ?_
  simp [Desk.cells]
  refine CallZ.use0 k1 rfl rfl ?_
  simp
  refine CallY.use (fun _ => ⟨rfl, c_spec_SameOrders oa ob hw.orders.1⟩) rfl rfl ?_
  simp
  repeat refine ⟨by grind, ?_⟩
  refine CallY.use (fun _ => ⟨rfl, c_spec_SameRecords sa sb hw.records.1⟩) rfl rfl ?_
  simp
  try grind

set_option maxHeartbeats 4000000 in
theorem c_law_SameDesk (a b : Desk) (ha : a.wf) (hb : b.wf) : HFn Tryz.prog 3 [.agg a.cells, .agg b.cells] [] (.bool true) [] := by
  have kA := c_szDesk a 1048576 (by omega) ha
  have kS := c_spec_SameDesk a b ha
  have kI := c_impl_SameDesk a b ha
  have kEa := c_eqDesk a ha
  have kEb := c_eqDesk b hb
  refine hfn_intro hm Tryz.func3 (by kernel_rfl) rfl (by kernel_rfl) rfl ret0_ok ?_
  simp only [Desk.cells] at kA kS kI kEa kEb
  simp [Desk.cells]
  refine CallZ.use0 kA rfl rfl ?_
  simp
  intro h1
  have h1' := szR_ge h1
  have kB := c_szDesk b (1048576 - a.sz) (by omega) hb
  have kTa := c_toDesk a (by omega)
  simp only [Desk.cells] at kB kTa
  rw [szR_pos h1']
  have e1 : ((1048576 : Nat) : Int) - a.sz = ((1048576 - a.sz : Nat) : Int) := by omega
  rw [e1]
  refine CallZ.use0 kB rfl rfl ?_
  simp
  intro h2
  have h2' := szR_ge h2
  have kTb := c_toDesk b (by omega)
  simp only [Desk.cells] at kTb
  refine CallZ.use0 kTa rfl rfl ?_
  simp
  refine CallZ.use0 kTb rfl rfl ?_
  simp
  refine CallZ.use0 kS rfl rfl ?_
  simp
  refine CallZ.use0 kTa rfl rfl ?_
  simp
  refine CallZ.use0 kTb rfl rfl ?_
  simp
  refine CallZ.use0 kI rfl rfl ?_
  simp
  refine CallZ.use0 kTa rfl rfl ?_
  simp
  refine CallZ.use0 kEa rfl rfl ?_
  simp
  refine CallZ.use0 kTb rfl rfl ?_
  simp
  refine CallZ.use0 kEb rfl rfl ?_
  simp

theorem l_FnExactSameDesk (pargs : List PV) (h : fitsAll [.agg [.slc [.str, .int .i64, .int .i64, .int .i64, .int .i64], .slc [.str, .slc [.str], .int .i64], .slc [.str, .int .i64, .int .i64, .int .i64, .slc [.str, .int .i64]], .slc [.str, .int .i64, .int .i64, .int .i64, .int .i64], .int .i64, .int .i64, .int .i64, .slc [.str, .int .i64, .int .i64, .int .i64, .int .i64], .int .i64, .str, .int .i64, .int .i64, .int .i64, .int .i64, .slc [.str, .int .i64, .int .i64, .int .i64, .int .i64, .slc [.int .i64, .int .i64]], .int .i64, .int .i64, .slc [.int .i64, .slc [.int .i64, .int .i64], .int .i64, .int .i64], .str, .slc [.int .i64, .int .i64, .int .i64], .slc [.str, .int .i64, .int .i64, .int .i64, .int .i64], .slc [.int .i64, .str, .str]], .agg [.slc [.str, .int .i64, .int .i64, .int .i64, .int .i64], .slc [.str, .slc [.str], .int .i64], .slc [.str, .int .i64, .int .i64, .int .i64, .slc [.str, .int .i64]], .slc [.str, .int .i64, .int .i64, .int .i64, .int .i64], .int .i64, .int .i64, .int .i64, .slc [.str, .int .i64, .int .i64, .int .i64, .int .i64], .int .i64, .str, .int .i64, .int .i64, .int .i64, .int .i64, .slc [.str, .int .i64, .int .i64, .int .i64, .int .i64, .slc [.int .i64, .int .i64]], .int .i64, .int .i64, .slc [.int .i64, .slc [.int .i64, .int .i64], .int .i64, .int .i64], .str, .slc [.int .i64, .int .i64, .int .i64], .slc [.str, .int .i64, .int .i64, .int .i64, .int .i64], .slc [.int .i64, .str, .str]]] pargs) : HFn Tryz.prog 3 pargs [] (.bool true) [] := by
  obtain ⟨p, q, rfl, ⟨cs, rfl, h0⟩, hz⟩ := fitsAll_cons h
  obtain ⟨p2, q2, rfl, ⟨cs2, rfl, h1⟩, hz2⟩ := fitsAll_cons hz
  obtain rfl := fitsAll_nil hz2
  obtain ⟨x, rfl, hx⟩ := Desk.fits h0
  obtain ⟨y, rfl, hy⟩ := Desk.fits h1
  exact c_law_SameDesk x y hx hy
end Go.Proofs.YtnfjkfjbhdlphaaGreat
