/- Contracts: ledgers read back, whole or in part; the laws on them. No condition. -/
import Derived.Test.YtjmoilnklaeacaaGreatDoorOj
namespace Go.Proofs.YtjmoilnklaeacaaGreatDoor
open Go Go.Ab
set_option maxRecDepth 100000

def salvR (s : List UInt8) : List Record × Int := runX (spl 10 s).dropLast [] 65535
theorem lines_len (s : List UInt8) : (spl 10 s).dropLast.length ≤ s.length ∧ ∀ x ∈ (spl 10 s).dropLast, x.length ≤ s.length := by
  have := spl_len 10 s
  exact ⟨by rw [List.length_dropLast]; omega, fun x hx => spl_piece 10 s x ((List.dropLast_sublist _).subset hx)⟩
theorem runX_len : ∀ (xs : List (List UInt8)) (l : List Record) (last : Int), (runX xs l last).1.length ≤ l.length + xs.length
  | [], l, _ => by simp [runX]
  | x :: t, l, last => by
    unfold runX
    split
    · have := runX_len t (l ++ [recX x]) (numX x)
      simp at this ⊢
      omega
    · simp
theorem salvR_len {s : List UInt8} (hs : s.length ≤ 1048576) : (salvR s).1.length ≤ 1048576 := by
  have h1 := runX_len (spl 10 s).dropLast [] 65535
  have h2 := (lines_len s).1
  unfold salvR
  simp only [List.length_nil, Nat.zero_add] at h1
  omega

theorem c_impl_SalvageLedger (s : List UInt8) (hs : s.length ≤ 1048576) : HFn Tryz.prog 14 [.str s] [] (.sf 0 3) [some (.arr 3 (Record.rows (salvR s).1))] := by
  have hl := lines_len s
  have kr := c_readLines (spl 10 s).dropLast (by omega) (fun x hx => Nat.le_trans (hl.2 x hx) hs)
  refine hfn_intro hm Tryz.func14 (by kernel_rfl) rfl (by kernel_rfl) rfl (fun _ _ h => h) ?_
  simp
  refine CallZ.use (c_endedLines s hs) rfl (.inr ⟨flat_strRows _, trivial⟩) rfl rfl ?_
  simp
  refine CallZ.use kr rfl (.inr ⟨Record.flat _, trivial⟩) rfl rfl ?_
  simp
  refine Wk.weak (ρ := [1]) (φ := []) ?_
  simp [salvR]

theorem c_spec_SalvageLedger (s : List UInt8) (hs : s.length ≤ 1048576) : HFn Tryz.prog 13 [.str s] [] (.sf 0 3) [some (.arr 3 (Record.rows (salvR s).1))] := by
  refine hfn_intro hm Tryz.func13 (by kernel_rfl) rfl (by kernel_rfl) rfl (fun _ _ h => h) ?_
  simp
  refine CallZ.use (c_l30Load s hs) rfl (.inr ⟨Record.flat _, trivial⟩) rfl rfl ?_
  simp
  refine Wk.weak (ρ := [0]) (φ := []) ?_
  simp [salvR]

set_option maxHeartbeats 4000000 in
theorem c_law_SalvageLedger (s : List UInt8) : HFn Tryz.prog 4 [.str s] [] (.bool true) [] := by
  refine hfn_intro hm Tryz.func4 (by kernel_rfl) rfl (by kernel_rfl) rfl ret0_ok ?_
  simp
  intro hs
  have kS := c_spec_SalvageLedger s (by omega)
  have kI := c_impl_SalvageLedger s (by omega)
  have hE := salvR_len (s := s) (by omega)
  generalize (salvR s).1 = E at *
  refine CallZ.use kS rfl (.inr ⟨Record.flat _, trivial⟩) rfl rfl ?_
  simp
  refine CallZ.use kI rfl (.inr ⟨Record.flat _, trivial⟩) rfl rfl ?_
  simp
  refine CallZ.use0 (c_eqRecordS E E (by omega)) rfl rfl ?_
  simp
  refine CallZ.useK 1 (c_markRecordS E (1) (by omega) (by omega)) rfl (by simp) rfl (by simp) rfl rfl ?_
  simp
  refine CallZ.use0 (c_heldRecordS (Record.marks (1) E.length) (1) (by omega) (by simp [Record.marks_len]; omega) (by simp [Record.marks_len])) rfl rfl ?_
  simp [Record.marks_len]
  have qq2 : ¬ (1 + 3 * (E.length : Int) < 0) := by omega
  have qp2 : 0 ≤ 1 + 3 * (E.length : Int) := by omega
  try simp [qq2, qp2]
  refine CallZ.use kI rfl (.inr ⟨Record.flat _, trivial⟩) rfl rfl ?_
  simp
  refine CallZ.use0 (c_eqRecordS E E (by omega)) rfl rfl ?_
  simp
  refine CallZ.use0 (c_heldRecordS (Record.marks (1) E.length) (1) (by omega) (by simp [Record.marks_len]; omega) (by simp [Record.marks_len])) rfl rfl ?_
  simp [Record.marks_len]
  try simp [qp2]
theorem l_FnExactSalvageLedger (pargs : List PV) (h : fitsAll [.one .str] pargs) : HFn Tryz.prog 4 pargs [] (.bool true) [] := by
  obtain ⟨p0, r0, rfl, f0, z0⟩ := fitsAll_cons h
  obtain rfl := fitsAll_nil z0
  obtain ⟨s, rfl, _⟩ := fits_str f0
  exact c_law_SalvageLedger s
end Go.Proofs.YtjmoilnklaeacaaGreatDoor
