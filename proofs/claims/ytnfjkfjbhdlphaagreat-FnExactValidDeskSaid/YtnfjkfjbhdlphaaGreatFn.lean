/- Contracts: valid desks; the laws of ValidCarillon and ValidDesk. No condition. -/
import Derived.Test.YtnfjkfjbhdlphaaGreatFm
import Derived.Test.YtnfjkfjbhdlphaaGreatHg
import Derived.Test.YtnfjkfjbhdlphaaGreatCh
namespace Go.Proofs.YtnfjkfjbhdlphaaGreat
open Go Go.Ab
set_option maxRecDepth 100000

theorem c_law_ValidCarillon (a : Carillon) (ha : a.wf) : HFn Tryz.prog 4 [.agg a.cells] [] (.bool true) [] := by
  have kA := c_szCarillon a 1048576 (by omega) ha
  have kEa := c_eqCarillon a ha
  refine hfn_intro hm Tryz.func4 (by kernel_rfl) rfl (by kernel_rfl) rfl ret0_ok ?_
  simp only [Carillon.cells] at kA kEa
  simp [Carillon.cells]
  refine CallZ.use0 kA rfl rfl ?_
  simp
  intro h1
  have h1' := szR_ge h1
  have hsm := Carillon.small_of_sz (show a.sz ≤ 1048576 by omega)
  have kTa := c_toCarillon a (by omega)
  have kS := c_spec_ValidCarillon a hsm
  have kI := c_impl_ValidCarillon a hsm
  simp only [Carillon.cells] at kTa kS kI
  refine CallZ.use0 kTa rfl rfl ?_
  simp
  refine CallZ.use0 kS rfl rfl ?_
  simp
  refine CallZ.use0 kTa rfl rfl ?_
  simp
  refine CallZ.use0 kI rfl rfl ?_
  simp
  refine CallZ.use0 kTa rfl rfl ?_
  simp
  refine CallZ.use0 kEa rfl rfl ?_
  simp

theorem l_FnExactValidCarillon (pargs : List PV) (h : fitsAll [.agg [.slc [.str, .int .i64, .int .i64, .int .i64, .int .i64], .slc [.str, .slc [.str], .int .i64], .slc [.str, .int .i64, .int .i64, .int .i64, .slc [.str, .int .i64]], .slc [.str, .int .i64, .int .i64, .int .i64, .int .i64], .int .i64, .int .i64, .int .i64, .slc [.str, .int .i64, .int .i64, .int .i64, .int .i64], .int .i64, .str, .int .i64, .int .i64, .int .i64, .int .i64, .slc [.str, .int .i64, .int .i64, .int .i64, .int .i64, .slc [.int .i64, .int .i64]], .int .i64, .int .i64, .slc [.int .i64, .slc [.int .i64, .int .i64], .int .i64, .int .i64], .str, .slc [.int .i64, .int .i64, .int .i64]]] pargs) : HFn Tryz.prog 4 pargs [] (.bool true) [] := by
  obtain ⟨p, q, rfl, ⟨cs, rfl, h0⟩, hz⟩ := fitsAll_cons h
  obtain rfl := fitsAll_nil hz
  obtain ⟨x, rfl, hx⟩ := Carillon.fits h0
  exact c_law_ValidCarillon x hx

def deskOk (d : Desk) : Bool := carOk d.carillon && validOrders d.orders && ledgerOk d.records
structure Desk.small (d : Desk) : Prop where
  car : d.carillon.small
  orders : d.orders.length ≤ 1048576
  records : d.records.length ≤ 1048576
theorem Desk.small_of_sz {d : Desk} (h : d.sz ≤ 1048576) : d.small := by
  unfold Desk.sz Order.szS Record.szS at h
  exact ⟨Carillon.small_of_sz (by omega), by omega, by omega⟩
theorem c_impl_ValidDesk (d : Desk) (hs : d.small) (hw : d.wf) : HFn Tryz.prog 17 [.agg d.cells] [] (.bool (deskOk d)) [] := by
  have kC := c_impl_ValidCarillon d.carillon hs.car
  simp only [Carillon.cells] at kC
  refine hfn_intro hm Tryz.func17 (by kernel_rfl) rfl (by kernel_rfl) rfl ret0_ok ?_
  simp [Desk.cells]
  refine CallZ.use0 kC rfl rfl ?_
  simp
  refine CallY.use (fun _ => ⟨rfl, c_impl_ValidOrders d.orders hs.orders⟩) rfl rfl ?_
  simp
  repeat refine ⟨by grind, ?_⟩
  refine CallY.use (fun _ => ⟨rfl, c_impl_ValidLedger d.records hs.records hw.records.2⟩) rfl rfl ?_
  simp [deskOk]
theorem c_spec_ValidDesk (d : Desk) (hs : d.small) (hw : d.wf) : HFn Tryz.prog 16 [.agg d.cells] [] (.bool (deskOk d)) [] := by
  have k : HFn Tryz.prog 81 [.pe 22 [d.cells] 0 0] [] (.bool (deskOk d)) [] := by
    have kC := c_l31OkC d.carillon [.sl 5 (Order.rows d.orders), .sl 3 (Record.rows d.records)] 2 [d.cells] 0 (by simp [Desk.cells, Carillon.cells]) hs.car
    simp only [Nat.reduceAdd] at kC
    rw [Desk.cells] at kC ⊢
    refine hfn_intro hm Tryz.func81 (by kernel_rfl) rfl (by kernel_rfl) rfl ret0_ok ?_
    simp
    refine CallZ.use0 kC rfl rfl ?_
    simp
    refine CallY.use (fun _ => ⟨rfl, c_spec_ValidOrders d.orders hs.orders⟩) rfl rfl ?_
    simp
    repeat refine ⟨by grind, ?_⟩
    refine CallY.use (fun _ => ⟨rfl, c_l30Ok d.records hs.records hw.records.2⟩) rfl rfl ?_
    simp [deskOk]
  rw [Desk.cells] at k
  refine hfn_intro hm Tryz.func16 (by kernel_rfl) rfl (by kernel_rfl) rfl ret0_ok ?_
  simp [Desk.cells]
  refine CallZ.use0 k rfl rfl ?_
  simp

theorem c_law_ValidDesk (a : Desk) (ha : a.wf) : HFn Tryz.prog 5 [.agg a.cells] [] (.bool true) [] := by
  have kA := c_szDesk a 1048576 (by omega) ha
  have kEa := c_eqDesk a ha
  refine hfn_intro hm Tryz.func5 (by kernel_rfl) rfl (by kernel_rfl) rfl ret0_ok ?_
  simp only [Desk.cells] at kA kEa
  simp [Desk.cells]
  refine CallZ.use0 kA rfl rfl ?_
  simp
  intro h1
  have h1' := szR_ge h1
  have hsm := Desk.small_of_sz (show a.sz ≤ 1048576 by omega)
  have kTa := c_toDesk a (by omega)
  have kS := c_spec_ValidDesk a hsm ha
  have kI := c_impl_ValidDesk a hsm ha
  simp only [Desk.cells] at kTa kS kI
  refine CallZ.use0 kTa rfl rfl ?_
  simp
  refine CallZ.use0 kS rfl rfl ?_
  simp
  refine CallZ.use0 kTa rfl rfl ?_
  simp
  refine CallZ.use0 kI rfl rfl ?_
  simp
  refine CallZ.use0 kTa rfl rfl ?_
  simp
  refine CallZ.use0 kEa rfl rfl ?_
  simp

theorem l_FnExactValidDesk (pargs : List PV) (h : fitsAll [.agg [.slc [.str, .int .i64, .int .i64, .int .i64, .int .i64], .slc [.str, .slc [.str], .int .i64], .slc [.str, .int .i64, .int .i64, .int .i64, .slc [.str, .int .i64]], .slc [.str, .int .i64, .int .i64, .int .i64, .int .i64], .int .i64, .int .i64, .int .i64, .slc [.str, .int .i64, .int .i64, .int .i64, .int .i64], .int .i64, .str, .int .i64, .int .i64, .int .i64, .int .i64, .slc [.str, .int .i64, .int .i64, .int .i64, .int .i64, .slc [.int .i64, .int .i64]], .int .i64, .int .i64, .slc [.int .i64, .slc [.int .i64, .int .i64], .int .i64, .int .i64], .str, .slc [.int .i64, .int .i64, .int .i64], .slc [.str, .int .i64, .int .i64, .int .i64, .int .i64], .slc [.int .i64, .str, .str]]] pargs) : HFn Tryz.prog 5 pargs [] (.bool true) [] := by
  obtain ⟨p, q, rfl, ⟨cs, rfl, h0⟩, hz⟩ := fitsAll_cons h
  obtain rfl := fitsAll_nil hz
  obtain ⟨x, rfl, hx⟩ := Desk.fits h0
  exact c_law_ValidDesk x hx
end Go.Proofs.YtnfjkfjbhdlphaaGreat
