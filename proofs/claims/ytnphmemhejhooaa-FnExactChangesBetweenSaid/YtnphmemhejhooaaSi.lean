/- Contract of the law ChangesBetween. -/
import Derived.Test.YtnphmemhejhooaaSg
namespace Go.Proofs.Ytnphmemhejhooaa
open Go Go.Ab
set_option maxRecDepth 100000

theorem c_law_ChangesBetween (a : List Pair) (b : List Pair) (ha : a.length ≤ 9223372036854775807) (wa : ∀ x ∈ a, x.wf) (hb : b.length ≤ 9223372036854775807) (wb : ∀ x ∈ b, x.wf) : HFn Try.prog 7 [.sl 2 (Pair.rows a), .sl 2 (Pair.rows b)] [] (.bool true) [] := by
  refine hfn_intro hm Try.func7 (by kernel_rfl) rfl (by kernel_rfl) rfl ret0_ok ?_
  simp [Pair.rows_len]
  refine CallZ.use0 (c_szPairS a 1048576 (by omega) ha wa) rfl rfl ?_
  simp
  intro qa
  have sa := szR_ge qa
  have la : a.length ≤ 1048576 := by unfold Pair.szS at sa; omega
  have ea : szR (Pair.szS a) 1048576 = ((1048576 - Pair.szS a : Nat) : Int) := by rw [szR_pos sa]; omega
  try rw [ea]
  refine CallZ.use0 (c_szPairS b (1048576 - Pair.szS a) (by omega) hb wb) rfl rfl ?_
  simp
  intro qb
  have sb := szR_ge qb
  have lb : b.length ≤ 1048576 := by unfold Pair.szS at sb; omega
  have eb : szR (Pair.szS b) (1048576 - Pair.szS a) = (((1048576 - Pair.szS a) - Pair.szS b : Nat) : Int) := by rw [szR_pos sb]; omega
  try rw [eb]
  refine CallZ.use (c_toPairS a la) rfl (.inr ⟨Pair.flat _, trivial⟩) rfl rfl ?_
  simp
  refine CallZ.use (c_toPairS b lb) rfl (.inr ⟨Pair.flat _, trivial⟩) rfl rfl ?_
  simp
  refine CallZ.use (c_spec_ChangesBetween a b la lb wa wb) rfl (.inr ⟨Record.flat _, trivial⟩) rfl rfl ?_
  simp
  refine CallZ.use (c_toPairS a la) rfl (.inr ⟨Pair.flat _, trivial⟩) rfl rfl ?_
  simp
  refine CallZ.use (c_toPairS b lb) rfl (.inr ⟨Pair.flat _, trivial⟩) rfl rfl ?_
  simp
  refine CallZ.use (c_impl_ChangesBetween a b la lb wa wb) rfl (.inr ⟨Record.flat _, trivial⟩) rfl rfl ?_
  simp
  have hE : (chgL a b).length ≤ 1048576 := by { have hE0 := chgL_len a b; unfold Pair.szS at sa sb; omega }
  generalize gE : chgL a b = E at *
  refine CallZ.use0 (c_eqRecordS E E (by omega)) rfl rfl ?_
  simp
  refine CallZ.use (c_toPairS a la) rfl (.inr ⟨Pair.flat _, trivial⟩) rfl rfl ?_
  simp
  refine CallZ.use0 (c_eqPairS a a (by omega)) rfl rfl ?_
  simp
  refine CallZ.use (c_toPairS b lb) rfl (.inr ⟨Pair.flat _, trivial⟩) rfl rfl ?_
  simp
  refine CallZ.use0 (c_eqPairS b b (by omega)) rfl rfl ?_
  simp
  refine CallZ.useK 3 (c_markPairS a (1) (by omega) (by omega)) rfl (by simp) rfl (by simp) rfl rfl ?_
  simp
  refine CallZ.useK 4 (c_markPairS b (1 + 2 * a.length) (by omega) (by omega)) rfl (by simp) rfl (by simp) rfl rfl ?_
  simp
  have qq1 : ¬ (1 + 2 * (a.length : Int) + 2 * (b.length : Int) < 0) := by omega
  simp [qq1]
  first | refine CallY.use (fun _ => ⟨rfl, c_eqRecordS E E (by omega)⟩) rfl rfl ?_ | refine ⟨by intros; simp [*], CallY.use (fun _ => ⟨rfl, c_eqRecordS E E (by omega)⟩) rfl rfl ?_⟩
  simp [qq1]
  refine CallZ.useK 5 (c_markRecordS E (1) (by omega) (by omega)) rfl (by simp) rfl (by simp) rfl rfl ?_
  simp
  refine CallZ.use0 (c_heldRecordS (Record.marks (1) E.length) (1) (by omega) (by simp [Record.marks_len]; omega) (by simp [Record.marks_len])) rfl rfl ?_
  simp [Record.marks_len]
  have qq2 : ¬ (1 + 3 * (E.length : Int) < 0) := by omega
  have qp2 : 0 ≤ 1 + 3 * (E.length : Int) := by omega
  try simp [qq2, qp2]
  refine CallZ.use (c_toPairS a la) rfl (.inr ⟨Pair.flat _, trivial⟩) rfl rfl ?_
  simp
  refine CallZ.use (c_toPairS b lb) rfl (.inr ⟨Pair.flat _, trivial⟩) rfl rfl ?_
  simp
  refine CallZ.use (c_impl_ChangesBetween a b la lb wa wb) rfl (.inr ⟨Record.flat _, trivial⟩) rfl rfl ?_
  simp [gE]
  refine CallZ.use0 (c_eqRecordS E E (by omega)) rfl rfl ?_
  simp
  refine CallZ.use0 (c_heldRecordS (Record.marks (1) E.length) (1) (by omega) (by simp [Record.marks_len]; omega) (by simp [Record.marks_len])) rfl rfl ?_
  simp [Record.marks_len]
  have qq3 : ¬ (1 + 3 * (E.length : Int) < 0) := by omega
  have qp3 : 0 ≤ 1 + 3 * (E.length : Int) := by omega
  try simp [qq3, qp3]

theorem l_FnExactChangesBetween (pargs : List PV) (h : fitsAll [.one (.slc [.str, .str]), .one (.slc [.str, .str])] pargs) : HFn Try.prog 7 pargs [] (.bool true) [] := by
  obtain ⟨p0, r0, rfl, f0, z0⟩ := fitsAll_cons h
  obtain ⟨p1, r1, rfl, f1, z1⟩ := fitsAll_cons z0
  obtain rfl := fitsAll_nil z1
  obtain ⟨rows0, rfl, g0, y0⟩ := fits_slc f0
  obtain ⟨a, rfl, wa⟩ := Pair.fitsS y0
  obtain ⟨rows1, rfl, g1, y1⟩ := fits_slc f1
  obtain ⟨b, rfl, wb⟩ := Pair.fitsS y1
  exact c_law_ChangesBetween a b (by simpa [Pair.rows] using g0) wa (by simpa [Pair.rows] using g1) wb
end Go.Proofs.Ytnphmemhejhooaa

