/- Contracts: a ledger's active records, its states, and what is added to it. -/
import Derived.Test.YtaefhahgkijnfaaHf
namespace Go.Proofs.Ytaefhahgkijnfaa
open Go Go.Ab
set_option maxRecDepth 100000

theorem Record.rowsOne (l : List Record) : rowsOne (Record.rows l) := fun r hr => by
  obtain ⟨x, _, rfl⟩ := List.mem_map.1 hr
  simp [Record.cells]
theorem c_sizeRecord (l : List Record) : HFn Try.prog 83 [.sl 3 (Record.rows l)] [] (.int .i64 l.length) [] := by
  refine hfn_intro hm Try.func83 (by kernel_rfl) rfl (by kernel_rfl) rfl ret0_ok ?_
  simp [Record.rows_len]
theorem c_CloneRecord (rows : List (List PV)) (hone : Go.Ab.rowsOne rows) (hl : rows.length ≤ 1048576) : HFn Try.prog 79 [.sl 3 rows] [] (.sf 0 3) [some (.arr 3 rows)] := by
  refine hfn_intro hm Try.func79 (by kernel_rfl) rfl (by kernel_rfl) rfl (fun _ _ h => h) ?_
  simp
  refine ⟨fun h => ?_, hone, by omega, by omega, Wk.weak (ρ := [0]) (φ := []) (by simp)⟩
  rw [h]
  exact (weak_nil (t := 0) (z := 3) rfl).trans (Wk.weak (ρ := [0]) (φ := []) (by simp))
theorem ledgerOk_le {l : List Record} (h : ledgerOk l = true) : l.length ≤ 32 := (ledgerOk_iff.1 h).1

def acCode (l : List Record) : Int := if ledgerOk l = true then 0 else 1
def acL (l : List Record) : List Int := if ledgerOk l = true then actL l l.length else []
theorem acL_le (l : List Record) : (acL l).length ≤ l.length := by
  unfold acL
  split
  · exact actL_len l _
  · simp

theorem c_impl_ActiveRecords (l : List Record) (hl : l.length ≤ 1048576) (hw : ∀ x ∈ l, x.wf) :
    HFn Try.prog 29 [.sl 3 (Record.rows l)] [] (.tup [.sf 0 1, .int .i64 (acCode l)]) [some (.arr 1 (intRows (acL l)))] := by
  refine hfn_intro hm Try.func29 (by kernel_rfl) rfl (by kernel_rfl) rfl (fun _ _ h => h) ?_
  simp
  refine CallZ.use0 (c_impl_ValidLedger l hl hw) rfl rfl ?_
  simp
  refine ⟨fun h => ?_, fun h => ?_⟩
  · refine (weak_nilT (t := 0) 0 1 rfl rfl).trans (Wk.weak (ρ := [0]) (φ := []) ?_)
    simp [acCode, acL, h, intRows]
  refine CallZ.use (c_impl_active l hl) rfl (.inl rfl) rfl rfl ?_
  simp
  refine Wk.weak (ρ := [0]) (φ := []) ?_
  simp [acCode, acL, h]

theorem c_spec_ActiveRecords (l : List Record) (hl : l.length ≤ 1048576) (hw : ∀ x ∈ l, x.wf) :
    HFn Try.prog 28 [.sl 3 (Record.rows l)] [] (.tup [.sf 0 1, .int .i64 (acCode l)]) [some (.arr 1 (intRows (acL l)))] := by
  refine hfn_intro hm Try.func28 (by kernel_rfl) rfl (by kernel_rfl) rfl (fun _ _ h => h) ?_
  simp
  refine CallZ.use0 (c_l30Ok l hl hw) rfl rfl ?_
  simp [Record.rows_len]
  refine ⟨fun h => ?_, fun h => ?_⟩
  · refine (weak_nilT (t := 0) 0 1 rfl rfl).trans (Wk.weak (ρ := [0]) (φ := []) ?_)
    simp [acCode, acL, h, intRows]
  refine CallZ.use (c_spec_l30Active l l.length (by omega) hl) rfl (.inl rfl) rfl rfl ?_
  simp
  refine Wk.weak (ρ := [0]) (φ := []) ?_
  simp [acCode, acL, h]

def stCode (l : List Record) (n : Int) : Int := if ledgerOk l = true then (if 0 ≤ n ∧ n ≤ l.length then 0 else 2) else 1
def stL (l : List Record) (n : Int) : List Pair := if stCode l n = 0 then stateF l (actL l n.toNat) else []
theorem stL_le (l : List Record) (n : Int) : (stL l n).length ≤ l.length := by
  unfold stL
  split
  · rename_i h
    have h1 := (stateF_ok l (actL l n.toNat)).2
    have h2 := actL_len l n.toNat
    unfold stCode at h
    split at h
    · split at h
      · omega
      · cases h
    · cases h
  · simp

theorem c_impl_StateAt (l : List Record) (n : Int) (hl : l.length ≤ 1048576) (hw : ∀ x ∈ l, x.wf) :
    HFn Try.prog 37 [.sl 3 (Record.rows l), .int .i64 n] [] (.tup [.sf 0 2, .int .i64 (stCode l n)]) [some (.arr 2 (Pair.rows (stL l n)))] := by
  refine hfn_intro hm Try.func37 (by kernel_rfl) rfl (by kernel_rfl) rfl (fun _ _ h => h) ?_
  simp
  refine CallZ.use0 (c_impl_ValidLedger l hl hw) rfl rfl ?_
  simp
  refine ⟨fun h => ?_, fun h => ?_⟩
  · refine (weak_nilT (t := 0) 0 2 rfl rfl).trans (Wk.weak (ρ := [0]) (φ := []) ?_)
    simp [stCode, stL, h, Pair.rows]
  refine CallZ.use0 (c_sizeRecord l) rfl rfl ?_
  simp
  refine CallZ.use0 (c_within _ _ _) rfl rfl ?_
  simp
  refine ⟨fun hb => ?_, fun h0 hn => ?_⟩
  · refine (weak_nilT (t := 0) 0 2 rfl rfl).trans (Wk.weak (ρ := [0]) (φ := []) ?_)
    have hc : stCode l n = 2 := by unfold stCode; rw [if_pos h, if_neg (by omega)]
    simp [stL, hc, Pair.rows]
  obtain ⟨N, rfl⟩ : ∃ N : Nat, n = (N : Int) := ⟨n.toNat, by omega⟩
  have hN : N ≤ l.length := by omega
  have h32 := ledgerOk_le h
  have hf : fineTo l N := fun i hi => (ledgerOk_iff.1 h).2 i (by omega)
  obtain ⟨e1, e2⟩ := actL_take l hN
  have hrows : (Record.rows l).take N = Record.rows (l.take N) := by simp [Record.rows]
  have c1 := c_stateOf (l.take N) (by rw [List.length_take]; omega) (fineTo_kind hf hN)
  rw [e1, e2, ← hrows] at c1
  refine ⟨⟨by omega, by rw [Record.rows_len]; omega⟩, ?_⟩
  rw [Int.toNat_natCast]
  refine CallZ.use c1 rfl (.inl rfl) rfl rfl ?_
  simp
  refine Wk.weak (ρ := [0]) (φ := []) ?_
  have hc : stCode l (N : Int) = 0 := by unfold stCode; rw [if_pos h, if_pos (by omega)]
  simp [stL, hc]
theorem c_spec_StateAt (l : List Record) (n : Int) (hl : l.length ≤ 1048576) (hw : ∀ x ∈ l, x.wf) :
    HFn Try.prog 36 [.sl 3 (Record.rows l), .int .i64 n] [] (.tup [.sf 0 2, .int .i64 (stCode l n)]) [some (.arr 2 (Pair.rows (stL l n)))] := by
  refine hfn_intro hm Try.func36 (by kernel_rfl) rfl (by kernel_rfl) rfl (fun _ _ h => h) ?_
  simp
  refine CallZ.use0 (c_l30Ok l hl hw) rfl rfl ?_
  simp [Record.rows_len]
  refine ⟨fun h => ?_, fun h => ?_⟩
  · refine (weak_nilT (t := 0) 0 2 rfl rfl).trans (Wk.weak (ρ := [0]) (φ := []) ?_)
    simp [stCode, stL, h, Pair.rows]
  refine CallZ.use0 (c_l00In _ _ _) rfl rfl ?_
  simp
  refine ⟨fun hb => ?_, fun h0 hn => ?_⟩
  · refine (weak_nilT (t := 0) 0 2 rfl rfl).trans (Wk.weak (ρ := [0]) (φ := []) ?_)
    have hc : stCode l n = 2 := by unfold stCode; rw [if_pos h, if_neg (by omega)]
    simp [stL, hc, Pair.rows]
  obtain ⟨N, rfl⟩ : ∃ N : Nat, n = (N : Int) := ⟨n.toNat, by omega⟩
  refine CallZ.use (c_l30State l N (by omega) hl) rfl (.inl rfl) rfl rfl ?_
  simp
  refine Wk.weak (ρ := [0]) (φ := []) ?_
  have hc : stCode l (N : Int) = 0 := by unfold stCode; rw [if_pos h, if_pos (by omega)]
  simp [stL, hc]

def arCode (l : List Record) (r : Record) : Int := if ledgerOk l = true then (if validRecord r = true then (if nextOk l l.length r = true then (if l.length = 32 then 5 else 0) else 6) else 2) else 1
def arL (l : List Record) (r : Record) : List Record := if arCode l r = 0 then l ++ [r] else []
theorem arL_le (l : List Record) (r : Record) : (arL l r).length ≤ l.length + 1 := by
  unfold arL
  split <;> simp

theorem c_impl_AddRecord (l : List Record) (r : Record) (hl : l.length ≤ 1048576) (hw : ∀ x ∈ l, x.wf) (hr : r.wf) :
    HFn Try.prog 34 [.sl 3 (Record.rows l), .agg r.cells] [] (.tup [.sf 0 3, .int .i64 (arCode l r)]) [some (.arr 3 (Record.rows (arL l r)))] := by
  refine hfn_intro hm Try.func34 (by kernel_rfl) rfl (by kernel_rfl) rfl (fun _ _ h => h) ?_
  simp [Record.cells]
  refine CallZ.use0 (c_impl_ValidLedger l hl hw) rfl rfl ?_
  simp
  refine ⟨fun h => ?_, fun h => ?_⟩
  · refine (weak_nilT (t := 0) 0 3 rfl rfl).trans (Wk.weak (ρ := [1]) (φ := []) ?_)
    simp [arCode, arL, h, Record.rows]
  have h32 := ledgerOk_le h
  have hf := (ledgerOk_iff.1 h).2
  refine CallZ.use0 (by simpa only [Record.cells] using c_impl_ValidRecord r hr) rfl rfl ?_
  simp
  refine ⟨fun h1 => ?_, fun h1 => ?_⟩
  · refine (weak_nilT (t := 0) 0 3 rfl rfl).trans (Wk.weak (ρ := [1]) (φ := []) ?_)
    simp [arCode, arL, h, h1, Record.rows]
  have cf := c_canFollow l l.length (Nat.le_refl _) (by omega) hf r h1
  rw [List.take_of_length_le (by rw [Record.rows_len]; omega), Record.cells] at cf
  refine CallZ.use0 cf rfl rfl ?_
  simp [Record.rows_len]
  refine ⟨fun h2 => ?_, fun h2 => ⟨fun h3 => ?_, fun h3 => ?_⟩⟩
  · refine (weak_nilT (t := 0) 0 3 rfl rfl).trans (Wk.weak (ρ := [1]) (φ := []) ?_)
    simp [arCode, arL, h, h1, h2, Record.rows]
  · have h3' : l.length = 32 := by omega
    have hc : arCode l r = 5 := by unfold arCode; rw [if_pos h, if_pos h1, if_pos h2, if_pos h3']
    refine (weak_nilT (t := 0) 0 3 rfl rfl).trans (Wk.weak (ρ := [1]) (φ := []) ?_)
    simp [arL, hc, Record.rows]
  have h3' : ¬ l.length = 32 := by omega
  refine CallZ.use (c_CloneRecord (Record.rows l) (Record.rowsOne l) (by rw [Record.rows_len]; exact hl)) rfl (.inl rfl) rfl rfl ?_
  simp [Record.rows_len]
  refine ⟨by simp [Go.Ab.rowsOne], by kernel_rfl, by omega, by omega, Wk.weak (ρ := [1]) (φ := []) ?_⟩
  simp [arCode, arL, h, h1, h2, h3', Record.rows, Record.cells]

theorem c_l30Add (l : List Record) (r : Record) (hl : l.length < 1048576) (h : ledgerOk l = true) (h1 : validRecord r = true) :
    HFn Try.prog 78 [.sl 3 (Record.rows l), .agg r.cells] [] (.tup [.sf 0 3, .int .i64 (arCode l r)]) [some (.arr 3 (Record.rows (arL l r)))] := by
  have h32 := ledgerOk_le h
  refine hfn_intro hm Try.func78 (by kernel_rfl) rfl (by kernel_rfl) rfl (fun _ _ h => h) ?_
  simp [Record.cells, Record.rows_len]
  refine CallZ.use0 (c_l30Next l l.length (Nat.le_refl _) hl r _ 0 rfl) rfl rfl ?_
  simp [Record.rows_len]
  refine ⟨fun h2 => ?_, fun h2 => ⟨fun h3 => ?_, fun h3 => ?_⟩⟩
  · refine (weak_nilT (t := 0) 0 3 rfl rfl).trans (Wk.weak (ρ := [1]) (φ := []) ?_)
    simp [arCode, arL, h, h1, h2, Record.rows]
  · have h3' : l.length = 32 := by omega
    have hc : arCode l r = 5 := by unfold arCode; rw [if_pos h, if_pos h1, if_pos h2, if_pos h3']
    refine (weak_nilT (t := 0) 0 3 rfl rfl).trans (Wk.weak (ρ := [1]) (φ := []) ?_)
    simp [arL, hc, Record.rows]
  have h3' : ¬ l.length = 32 := by omega
  refine ⟨Record.rowsOne l, by omega, by omega, by simp [Go.Ab.rowsOne], fun _ => by kernel_rfl, by omega, by omega, Wk.weak (ρ := [1]) (φ := []) ?_⟩
  simp [arCode, arL, h, h1, h2, h3', Record.rows, Record.cells]

theorem c_spec_AddRecord (l : List Record) (r : Record) (hl : l.length ≤ 1048576) (hw : ∀ x ∈ l, x.wf) (hr : r.wf) :
    HFn Try.prog 32 [.sl 3 (Record.rows l), .agg r.cells] [] (.tup [.sf 0 3, .int .i64 (arCode l r)]) [some (.arr 3 (Record.rows (arL l r)))] := by
  refine hfn_intro hm Try.func32 (by kernel_rfl) rfl (by kernel_rfl) rfl (fun _ _ h => h) ?_
  simp [Record.cells]
  refine CallZ.use0 (c_l30Ok l hl hw) rfl rfl ?_
  simp
  refine ⟨fun h => ?_, fun h => ?_⟩
  · refine (weak_nilT (t := 0) 0 3 rfl rfl).trans (Wk.weak (ρ := [1]) (φ := []) ?_)
    simp [arCode, arL, h, Record.rows]
  have h32 := ledgerOk_le h
  refine CallZ.use0 (c_l30One r hr _ 0 rfl) rfl rfl ?_
  simp
  refine ⟨fun h1 => ?_, fun h1 => ?_⟩
  · refine (weak_nilT (t := 0) 0 3 rfl rfl).trans (Wk.weak (ρ := [1]) (φ := []) ?_)
    simp [arCode, arL, h, h1, Record.rows]
  refine CallZ.use (by simpa only [Record.cells] using c_l30Add l r (by omega) h h1) rfl (.inl rfl) rfl rfl ?_
  simp
  refine Wk.weak (ρ := [1]) (φ := []) ?_
  simp
end Go.Proofs.Ytaefhahgkijnfaa
