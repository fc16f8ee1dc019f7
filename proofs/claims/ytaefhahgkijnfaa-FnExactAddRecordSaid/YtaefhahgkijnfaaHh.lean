/- Contracts of the laws on ledgers: ValidLedger, StateAt, ActiveRecords, AddRecord. -/
import Derived.Test.YtaefhahgkijnfaaHg
namespace Go.Proofs.Ytaefhahgkijnfaa
open Go Go.Ab
set_option maxRecDepth 100000

theorem c_law_ValidLedger (l : List Record) (hl : l.length ≤ 9223372036854775807) (wl : ∀ x ∈ l, x.wf) : HFn Try.prog 4 [.sl 3 (Record.rows l)] [] (.bool true) [] := by
  refine hfn_intro hm Try.func4 (by kernel_rfl) rfl (by kernel_rfl) rfl ret0_ok ?_
  simp
  refine CallZ.use0 (c_szRecordS l 1048576 (by omega) hl wl) rfl rfl ?_
  simp
  intro ql
  have sl := szR_ge ql
  have ll : l.length ≤ 1048576 := by unfold Record.szS at sl; omega
  have el : szR (Record.szS l) 1048576 = ((1048576 - Record.szS l : Nat) : Int) := by rw [szR_pos sl]; omega
  try rw [el]
  refine CallZ.use (c_toRecordS l ll) rfl (.inr ⟨Record.flat _, trivial⟩) rfl rfl ?_
  simp
  refine CallZ.use0 (c_spec_ValidLedger l ll wl) rfl rfl ?_
  simp
  refine CallZ.use (c_toRecordS l ll) rfl (.inr ⟨Record.flat _, trivial⟩) rfl rfl ?_
  simp
  refine CallZ.use0 (c_impl_ValidLedger l ll wl) rfl rfl ?_
  simp
  refine CallZ.use (c_toRecordS l ll) rfl (.inr ⟨Record.flat _, trivial⟩) rfl rfl ?_
  simp
  refine CallZ.use0 (c_eqRecordS l l (by omega)) rfl rfl ?_
  simp

theorem l_FnExactValidLedger (pargs : List PV) (h : fitsAll [.one (.slc [.int .i64, .str, .str])] pargs) : HFn Try.prog 4 pargs [] (.bool true) [] := by
  obtain ⟨p0, r0, rfl, f0, z0⟩ := fitsAll_cons h
  obtain rfl := fitsAll_nil z0
  obtain ⟨rows0, rfl, g0, y0⟩ := fits_slc f0
  obtain ⟨l, rfl, wl⟩ := Record.fitsS y0
  exact c_law_ValidLedger l (by simpa [Record.rows] using g0) wl

theorem c_law_StateAt (l : List Record) (n : Int) (hl : l.length ≤ 9223372036854775807) (wl : ∀ x ∈ l, x.wf) (_wn : I64 n) : HFn Try.prog 7 [.sl 3 (Record.rows l), .int .i64 n] [] (.bool true) [] := by
  refine hfn_intro hm Try.func7 (by kernel_rfl) rfl (by kernel_rfl) rfl ret0_ok ?_
  simp
  refine CallZ.use0 (c_szRecordS l 1048576 (by omega) hl wl) rfl rfl ?_
  simp
  intro ql
  have sl := szR_ge ql
  have ll : l.length ≤ 1048576 := by unfold Record.szS at sl; omega
  have el : szR (Record.szS l) 1048576 = ((1048576 - Record.szS l : Nat) : Int) := by rw [szR_pos sl]; omega
  try rw [el]
  refine CallZ.use (c_toRecordS l ll) rfl (.inr ⟨Record.flat _, trivial⟩) rfl rfl ?_
  simp
  refine CallZ.use (c_spec_StateAt l n ll wl) rfl (.inr ⟨Pair.flat _, trivial⟩) rfl rfl ?_
  simp
  refine CallZ.use (c_toRecordS l ll) rfl (.inr ⟨Record.flat _, trivial⟩) rfl rfl ?_
  simp
  refine CallZ.use (c_impl_StateAt l n ll wl) rfl (.inr ⟨Pair.flat _, trivial⟩) rfl rfl ?_
  simp
  have hE := stL_le l n
  generalize gE : stL l n = E at *
  refine CallZ.use0 (c_eqPairS E E (by omega)) rfl rfl ?_
  simp
  refine CallZ.use (c_toRecordS l ll) rfl (.inr ⟨Record.flat _, trivial⟩) rfl rfl ?_
  simp
  refine CallZ.use0 (c_eqRecordS l l (by omega)) rfl rfl ?_
  simp
  refine CallZ.useK 2 (c_markRecordS l (1) (by omega) (by omega)) rfl (by simp) rfl (by simp) rfl rfl ?_
  simp
  have qq1 : ¬ (1 + 3 * (l.length : Int) < 0) := by omega
  simp [qq1]
  first | refine CallY.use (fun _ => ⟨rfl, c_eqPairS E E (by omega)⟩) rfl rfl ?_ | refine ⟨by intros; simp [*], CallY.use (fun _ => ⟨rfl, c_eqPairS E E (by omega)⟩) rfl rfl ?_⟩
  simp
  refine CallZ.useK 3 (c_markPairS E (1) (by omega) (by omega)) rfl (by simp) rfl (by simp) rfl rfl ?_
  simp
  refine CallZ.use0 (c_heldPairS (Pair.marks (1) E.length) (1) (by omega) (by simp [Pair.marks_len]; omega) (by simp [Pair.marks_len])) rfl rfl ?_
  simp [Pair.marks_len]
  have qq2 : ¬ (1 + 2 * (E.length : Int) < 0) := by omega
  have qp2 : 0 ≤ 1 + 2 * (E.length : Int) := by omega
  try simp [qq2, qp2]
  refine CallZ.use (c_toRecordS l ll) rfl (.inr ⟨Record.flat _, trivial⟩) rfl rfl ?_
  simp
  refine CallZ.use (c_impl_StateAt l n ll wl) rfl (.inr ⟨Pair.flat _, trivial⟩) rfl rfl ?_
  simp [gE]
  refine CallZ.use0 (c_eqPairS E E (by omega)) rfl rfl ?_
  simp
  refine CallZ.use0 (c_heldPairS (Pair.marks (1) E.length) (1) (by omega) (by simp [Pair.marks_len]; omega) (by simp [Pair.marks_len])) rfl rfl ?_
  simp [Pair.marks_len]
  have qq3 : ¬ (1 + 2 * (E.length : Int) < 0) := by omega
  have qp3 : 0 ≤ 1 + 2 * (E.length : Int) := by omega
  try simp [qp3]

theorem l_FnExactStateAt (pargs : List PV) (h : fitsAll [.one (.slc [.int .i64, .str, .str]), .one (.int .i64)] pargs) : HFn Try.prog 7 pargs [] (.bool true) [] := by
  obtain ⟨p0, r0, rfl, f0, z0⟩ := fitsAll_cons h
  obtain ⟨p1, r1, rfl, f1, z1⟩ := fitsAll_cons z0
  obtain rfl := fitsAll_nil z1
  obtain ⟨rows0, rfl, g0, y0⟩ := fits_slc f0
  obtain ⟨l, rfl, wl⟩ := Record.fitsS y0
  obtain ⟨n, rfl, wn⟩ := fits_int f1
  exact c_law_StateAt l n (by simpa [Record.rows] using g0) wl (lit64 wn)

theorem c_law_ActiveRecords (l : List Record) (hl : l.length ≤ 9223372036854775807) (wl : ∀ x ∈ l, x.wf) : HFn Try.prog 5 [.sl 3 (Record.rows l)] [] (.bool true) [] := by
  refine hfn_intro hm Try.func5 (by kernel_rfl) rfl (by kernel_rfl) rfl ret0_ok ?_
  simp
  refine CallZ.use0 (c_szRecordS l 1048576 (by omega) hl wl) rfl rfl ?_
  simp
  intro ql
  have sl := szR_ge ql
  have ll : l.length ≤ 1048576 := by unfold Record.szS at sl; omega
  have el : szR (Record.szS l) 1048576 = ((1048576 - Record.szS l : Nat) : Int) := by rw [szR_pos sl]; omega
  try rw [el]
  refine CallZ.use (c_toRecordS l ll) rfl (.inr ⟨Record.flat _, trivial⟩) rfl rfl ?_
  simp
  refine CallZ.use (c_spec_ActiveRecords l ll wl) rfl (.inr ⟨flat_intRows _, trivial⟩) rfl rfl ?_
  simp
  refine CallZ.use (c_toRecordS l ll) rfl (.inr ⟨Record.flat _, trivial⟩) rfl rfl ?_
  simp
  refine CallZ.use (c_impl_ActiveRecords l ll wl) rfl (.inr ⟨flat_intRows _, trivial⟩) rfl rfl ?_
  simp
  have hE := acL_le l
  generalize gE : acL l = E at *
  refine CallZ.use0 (c_eqInt64S E E (by omega)) rfl rfl ?_
  simp
  refine CallZ.use (c_toRecordS l ll) rfl (.inr ⟨Record.flat _, trivial⟩) rfl rfl ?_
  simp
  refine CallZ.use0 (c_eqRecordS l l (by omega)) rfl rfl ?_
  simp
  refine CallZ.useK 2 (c_markRecordS l (1) (by omega) (by omega)) rfl (by simp) rfl (by simp) rfl rfl ?_
  simp
  have qq1 : ¬ (1 + 3 * (l.length : Int) < 0) := by omega
  simp [qq1]
  first | refine CallY.use (fun _ => ⟨rfl, c_eqInt64S E E (by omega)⟩) rfl rfl ?_ | refine ⟨by intros; simp [*], CallY.use (fun _ => ⟨rfl, c_eqInt64S E E (by omega)⟩) rfl rfl ?_⟩
  simp
  refine CallZ.useK 3 (c_markInt64S E (1) (by omega) (by omega)) rfl (by simp) rfl (by simp) rfl rfl ?_
  simp
  refine CallZ.use0 (c_heldInt64S (marksI (1) E.length) (1) (by omega) (by simp [marksI_len]; omega) (by simp [marksI_len])) rfl rfl ?_
  simp [marksI_len]
  have qq2 : ¬ (1 + (E.length : Int) < 0) := by omega
  have qp2 : 0 ≤ 1 + (E.length : Int) := by omega
  try simp [qq2, qp2]
  refine CallZ.use (c_toRecordS l ll) rfl (.inr ⟨Record.flat _, trivial⟩) rfl rfl ?_
  simp
  refine CallZ.use (c_impl_ActiveRecords l ll wl) rfl (.inr ⟨flat_intRows _, trivial⟩) rfl rfl ?_
  simp [gE]
  refine CallZ.use0 (c_eqInt64S E E (by omega)) rfl rfl ?_
  simp
  refine CallZ.use0 (c_heldInt64S (marksI (1) E.length) (1) (by omega) (by simp [marksI_len]; omega) (by simp [marksI_len])) rfl rfl ?_
  simp [marksI_len]
  have qq3 : ¬ (1 + (E.length : Int) < 0) := by omega
  have qp3 : 0 ≤ 1 + (E.length : Int) := by omega
  try simp [qp3]

theorem l_FnExactActiveRecords (pargs : List PV) (h : fitsAll [.one (.slc [.int .i64, .str, .str])] pargs) : HFn Try.prog 5 pargs [] (.bool true) [] := by
  obtain ⟨p0, r0, rfl, f0, z0⟩ := fitsAll_cons h
  obtain rfl := fitsAll_nil z0
  obtain ⟨rows0, rfl, g0, y0⟩ := fits_slc f0
  obtain ⟨l, rfl, wl⟩ := Record.fitsS y0
  exact c_law_ActiveRecords l (by simpa [Record.rows] using g0) wl

theorem c_law_AddRecord (l : List Record) (x : Record) (hl : l.length ≤ 9223372036854775807) (wl : ∀ x ∈ l, x.wf) (wx : x.wf) : HFn Try.prog 6 [.sl 3 (Record.rows l), .agg x.cells] [] (.bool true) [] := by
  refine hfn_intro hm Try.func6 (by kernel_rfl) rfl (by kernel_rfl) rfl ret0_ok ?_
  simp [Record.cells]
  refine CallZ.use0 (c_szRecordS l 1048576 (by omega) hl wl) rfl rfl ?_
  simp
  intro ql
  have sl := szR_ge ql
  have ll : l.length ≤ 1048576 := by unfold Record.szS at sl; omega
  have el : szR (Record.szS l) 1048576 = ((1048576 - Record.szS l : Nat) : Int) := by rw [szR_pos sl]; omega
  try rw [el]
  refine CallZ.use0 (c_szRecord x (1048576 - Record.szS l) (by omega) wx) rfl rfl ?_
  simp
  intro qx
  have sx := szR_ge qx
  have ex : szR (x.sz) (1048576 - Record.szS l) = (((1048576 - Record.szS l) - x.sz : Nat) : Int) := by rw [szR_pos sx]; omega
  try rw [ex]
  refine CallZ.use (c_toRecordS l ll) rfl (.inr ⟨Record.flat _, trivial⟩) rfl rfl ?_
  simp
  refine CallZ.use0 (c_toRecord x) rfl rfl ?_
  simp
  refine CallZ.use (c_spec_AddRecord l x ll wl wx) rfl (.inr ⟨Record.flat _, trivial⟩) rfl rfl ?_
  simp
  refine CallZ.use (c_toRecordS l ll) rfl (.inr ⟨Record.flat _, trivial⟩) rfl rfl ?_
  simp
  refine CallZ.use0 (c_toRecord x) rfl rfl ?_
  simp
  refine CallZ.use (c_impl_AddRecord l x ll wl wx) rfl (.inr ⟨Record.flat _, trivial⟩) rfl rfl ?_
  simp
  have hE := arL_le l x
  generalize gE : arL l x = E at *
  refine CallZ.use0 (c_eqRecordS E E (by omega)) rfl rfl ?_
  simp
  refine CallZ.use (c_toRecordS l ll) rfl (.inr ⟨Record.flat _, trivial⟩) rfl rfl ?_
  simp
  refine CallZ.use0 (c_eqRecordS l l (by omega)) rfl rfl ?_
  simp
  refine CallZ.useK 3 (c_markRecordS l (1) (by omega) (by omega)) rfl (by simp) rfl (by simp) rfl rfl ?_
  simp
  have qq1 : ¬ (1 + 3 * (l.length : Int) < 0) := by omega
  simp [qq1]
  first | refine CallY.use (fun _ => ⟨rfl, c_eqRecordS E E (by omega)⟩) rfl rfl ?_ | refine ⟨by intros; simp [*], CallY.use (fun _ => ⟨rfl, c_eqRecordS E E (by omega)⟩) rfl rfl ?_⟩
  simp
  refine CallZ.useK 4 (c_markRecordS E (1) (by omega) (by omega)) rfl (by simp) rfl (by simp) rfl rfl ?_
  simp
  refine CallZ.use0 (c_heldRecordS (Record.marks (1) E.length) (1) (by omega) (by simp [Record.marks_len]; omega) (by simp [Record.marks_len])) rfl rfl ?_
  simp [Record.marks_len]
  have qq2 : ¬ (1 + 3 * (E.length : Int) < 0) := by omega
  have qp2 : 0 ≤ 1 + 3 * (E.length : Int) := by omega
  try simp [qq2, qp2]
  refine CallZ.use (c_toRecordS l ll) rfl (.inr ⟨Record.flat _, trivial⟩) rfl rfl ?_
  simp
  refine CallZ.use0 (c_toRecord x) rfl rfl ?_
  simp
  refine CallZ.use (c_impl_AddRecord l x ll wl wx) rfl (.inr ⟨Record.flat _, trivial⟩) rfl rfl ?_
  simp [gE]
  refine CallZ.use0 (c_eqRecordS E E (by omega)) rfl rfl ?_
  simp
  refine CallZ.use0 (c_heldRecordS (Record.marks (1) E.length) (1) (by omega) (by simp [Record.marks_len]; omega) (by simp [Record.marks_len])) rfl rfl ?_
  simp [Record.marks_len]
  have qq3 : ¬ (1 + 3 * (E.length : Int) < 0) := by omega
  have qp3 : 0 ≤ 1 + 3 * (E.length : Int) := by omega
  try simp [qp3]

theorem l_FnExactAddRecord (pargs : List PV) (h : fitsAll [.one (.slc [.int .i64, .str, .str]), .agg [.int .i64, .str, .str]] pargs) : HFn Try.prog 6 pargs [] (.bool true) [] := by
  obtain ⟨p0, r0, rfl, f0, z0⟩ := fitsAll_cons h
  obtain ⟨p1, r1, rfl, ⟨cs1, rfl, f1⟩, z1⟩ := fitsAll_cons z0
  obtain rfl := fitsAll_nil z1
  obtain ⟨rows0, rfl, g0, y0⟩ := fits_slc f0
  obtain ⟨l, rfl, wl⟩ := Record.fitsS y0
  obtain ⟨x, rfl, wx⟩ := Record.fits f1
  exact c_law_AddRecord l x (by simpa [Record.rows] using g0) wl wx
end Go.Proofs.Ytaefhahgkijnfaa

