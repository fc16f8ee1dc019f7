/- Contracts: whole ledgers read back; the law on them. No condition. -/
import Derived.Test.YtjmoilnklaeacaaGreatDoorOk
namespace Go.Proofs.YtjmoilnklaeacaaGreatDoor
open Go Go.Ab
set_option maxRecDepth 100000

/-- What the loading of a ledger answers. -/
def loadR (s : List UInt8) : List Record × Int := if (spl 10 s).getLast (spl_ne _ _) = [] then (if (salvR s).2 = 0 then ((salvR s).1, 0) else ([], (salvR s).2)) else ([], 11)
theorem loadR_len {s : List UInt8} (hs : s.length ≤ 1048576) : (loadR s).1.length ≤ 1048576 := by
  have := salvR_len hs
  unfold loadR
  split
  · split
    · exact this
    · simp
  · simp

theorem c_impl_LoadLedger (s : List UInt8) (hs : s.length ≤ 1048576) : HFn Tryz.prog 19 [.str s] [] (.tup [.sf 0 3, .int .i64 (loadR s).2]) [some (.arr 3 (Record.rows (loadR s).1))] := by
  have hl := lines_len s
  have kr := c_readLines (spl 10 s).dropLast (by omega) (fun x hx => Nat.le_trans (hl.2 x hx) hs)
  refine hfn_intro hm Tryz.func19 (by kernel_rfl) rfl (by kernel_rfl) rfl (fun _ _ h => h) ?_
  simp
  refine CallZ.use (c_endedLines s hs) rfl (.inr ⟨flat_strRows _, trivial⟩) rfl rfl ?_
  simp
  refine ⟨fun h => ?_, fun h => ?_⟩
  · have e : loadR s = ([], 11) := by unfold loadR; rw [if_neg h]
    rw [e]
    refine (weak_nilT (t := 0) 0 3 rfl rfl).trans (Wk.weak (ρ := [1]) (φ := []) ?_)
    simp [Record.rows]
  · have e : loadR s = if (salvR s).2 = 0 then ((salvR s).1, 0) else ([], (salvR s).2) := by unfold loadR; rw [if_pos h]
    have es : salvR s = runX (spl 10 s).dropLast [] 65535 := rfl
    rw [← es] at kr
    refine CallZ.use kr rfl (.inr ⟨Record.flat _, trivial⟩) rfl rfl ?_
    simp
    refine ⟨fun g => ?_, fun g => ?_⟩
    · rw [if_neg g] at e
      rw [e]
      refine (weak_nilT (t := 0) 0 3 rfl rfl).trans (Wk.weak (ρ := [2]) (φ := []) ?_)
      simp [Record.rows]
    · rw [if_pos g] at e
      rw [e]
      refine Wk.weak (ρ := [1]) (φ := []) ?_
      simp

theorem c_spec_LoadLedger (s : List UInt8) (hs : s.length ≤ 1048576) : HFn Tryz.prog 18 [.str s] [] (.tup [.sf 0 3, .int .i64 (loadR s).2]) [some (.arr 3 (Record.rows (loadR s).1))] := by
  have hlast := spl_last (s := s)
  have kl := c_l30Load s hs
  have es : salvR s = runX (spl 10 s).dropLast [] 65535 := rfl
  rw [← es] at kl
  refine hfn_intro hm Tryz.func18 (by kernel_rfl) rfl (by kernel_rfl) rfl (fun _ _ h => h) ?_
  have w1 : IntKind.i64.wrap ((s.length : Int) - 1) = (s.length : Int) - 1 := w64 (by omega) (by omega)
  rw [List.getD_eq_getElem?_getD] at hlast
  simp [w1]
  have h10 : ∀ b : UInt8, ((b.toNat : Int) = 10) ↔ b = 10 := fun b => ⟨fun h => UInt8.toNat_inj.1 (by have e : (10 : UInt8).toNat = 10 := rfl; omega), fun h => by rw [h]; rfl⟩
  simp only [h10]
  refine ⟨fun h => ⟨h, by omega, by omega⟩, fun h0 h1 => ?_, fun h => ?_⟩
  · have e : loadR s = ([], 11) := by unfold loadR; rw [if_neg fun g => hlast.1 g ⟨h0, h1⟩]
    rw [e]
    refine (weak_nilT (t := 0) 0 3 rfl rfl).trans (Wk.weak (ρ := [0]) (φ := []) ?_)
    simp [Record.rows]
  · have e : loadR s = if (salvR s).2 = 0 then ((salvR s).1, 0) else ([], (salvR s).2) := by unfold loadR; rw [if_pos (hlast.2 fun g => g.2 (h g.1))]
    refine CallZ.use kl rfl (.inr ⟨Record.flat _, trivial⟩) rfl rfl ?_
    simp
    refine ⟨fun g => ?_, fun g => ?_⟩
    · rw [if_neg g] at e
      rw [e]
      refine (weak_nilT (t := 0) 0 3 rfl rfl).trans (Wk.weak (ρ := [1]) (φ := []) ?_)
      simp [Record.rows]
    · rw [if_pos g] at e
      rw [e]
      refine Wk.weak (ρ := [0]) (φ := []) ?_
      simp

set_option maxHeartbeats 4000000 in
theorem c_law_LoadLedger (s : List UInt8) : HFn Tryz.prog 5 [.str s] [] (.bool true) [] := by
  refine hfn_intro hm Tryz.func5 (by kernel_rfl) rfl (by kernel_rfl) rfl ret0_ok ?_
  simp
  intro hs
  have kS := c_spec_LoadLedger s (by omega)
  have kI := c_impl_LoadLedger s (by omega)
  have hE := loadR_len (s := s) (by omega)
  generalize (loadR s).1 = E at *
  refine CallZ.use kS rfl (.inr ⟨Record.flat _, trivial⟩) rfl rfl ?_
  simp
  refine CallZ.use kI rfl (.inr ⟨Record.flat _, trivial⟩) rfl rfl ?_
  simp
  refine CallZ.use0 (c_eqRecordS E E (by omega)) rfl rfl ?_
  simp
  refine CallZ.useK 1 (c_markRecordS E (1) (by omega) (by omega)) rfl (by simp) rfl (by simp) rfl rfl ?_
  simp
  refine CallZ.use0 (c_heldRecordS (Record.marks (1) E.length) (1) (by omega) (by simp [Record.marks_len]; omega) (by simp [Record.marks_len])) rfl rfl ?_
  simp [Record.marks_len]
  have qq2 : ¬ (1 + 3 * (E.length : Int) < 0) := by omega
  have qp2 : 0 ≤ 1 + 3 * (E.length : Int) := by omega
  try simp [qq2, qp2]
  refine CallZ.use kI rfl (.inr ⟨Record.flat _, trivial⟩) rfl rfl ?_
  simp
  refine CallZ.use0 (c_eqRecordS E E (by omega)) rfl rfl ?_
  simp
  refine CallZ.use0 (c_heldRecordS (Record.marks (1) E.length) (1) (by omega) (by simp [Record.marks_len]; omega) (by simp [Record.marks_len])) rfl rfl ?_
  simp [Record.marks_len]
  try simp [qp2]
theorem l_FnExactLoadLedger (pargs : List PV) (h : fitsAll [.one .str] pargs) : HFn Tryz.prog 5 pargs [] (.bool true) [] := by
  obtain ⟨p0, r0, rfl, f0, z0⟩ := fitsAll_cons h
  obtain rfl := fitsAll_nil z0
  obtain ⟨s, rfl, _⟩ := fits_str f0
  exact c_law_LoadLedger s
end Go.Proofs.YtjmoilnklaeacaaGreatDoor
