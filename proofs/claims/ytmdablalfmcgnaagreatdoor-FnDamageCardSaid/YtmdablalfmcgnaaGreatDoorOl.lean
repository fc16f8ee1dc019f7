/- Contracts: whole ledgers read back; the law on them. No condition. -/
import Derived.Test.YtmdablalfmcgnaaGreatDoorOk
namespace Go.Proofs.YtmdablalfmcgnaaGreatDoor
open Go Go.Ab
set_option maxRecDepth 100000

/-- What the loading of a ledger answers. -/
def loadR (s : List UInt8) : List Record × Int := if (spl 10 s).getLast (spl_ne _ _) = [] then (if (salvR s).2 = 0 then ((salvR s).1, 0) else ([], (salvR s).2)) else ([], 11)
theorem loadR_len {s : List UInt8} (hs : s.length ≤ 1048576) : (loadR s).1.length ≤ 1048576 := by
  have := salvR_len hs
  unfold loadR
  split
  · split
    · exact this
    · simp
  · simp

theorem c_impl_LoadLedger (s : List UInt8) (hs : s.length ≤ 1048576) : HFn Tryz.prog 11 [.str s] [] (.tup [.sf 0 3, .int .i64 (loadR s).2]) [some (.arr 3 (Record.rows (loadR s).1))] := by
  have hl := lines_len s
  have kr := c_readLines (spl 10 s).dropLast (by omega) (fun x hx => Nat.le_trans (hl.2 x hx) hs)
  refine hfn_intro hm Tryz.func11 (by kernel_rfl) rfl (by kernel_rfl) rfl (fun _ _ h => h) ?_
  simp
  refine CallZ.use (c_endedLines s hs) rfl (.inr ⟨flat_strRows _, trivial⟩) rfl rfl ?_
  simp
  refine ⟨fun h => ?_, fun h => ?_⟩
  · have e : loadR s = ([], 11) := by unfold loadR; rw [if_neg h]
    rw [e]
    refine (weak_nilT (t := 0) 0 3 rfl rfl).trans (Wk.weak (ρ := [1]) (φ := []) ?_)
    simp [Record.rows]
  · have e : loadR s = if (salvR s).2 = 0 then ((salvR s).1, 0) else ([], (salvR s).2) := by unfold loadR; rw [if_pos h]
    have es : salvR s = runX (spl 10 s).dropLast [] 65535 := rfl
    rw [← es] at kr
    refine CallZ.use kr rfl (.inr ⟨Record.flat _, trivial⟩) rfl rfl ?_
    simp
    refine ⟨fun g => ?_, fun g => ?_⟩
    · rw [if_neg g] at e
      rw [e]
      refine (weak_nilT (t := 0) 0 3 rfl rfl).trans (Wk.weak (ρ := [2]) (φ := []) ?_)
      simp [Record.rows]
    · rw [if_pos g] at e
      rw [e]
      refine Wk.weak (ρ := [1]) (φ := []) ?_
      simp

end Go.Proofs.YtmdablalfmcgnaaGreatDoor
