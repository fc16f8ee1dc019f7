/- Contracts: ledgers read back, whole or in part; the laws on them. No condition. -/
import Derived.Test.YtmdablalfmcgnaaGreatDoorOj
namespace Go.Proofs.YtmdablalfmcgnaaGreatDoor
open Go Go.Ab
set_option maxRecDepth 100000

def salvR (s : List UInt8) : List Record × Int := runX (spl 10 s).dropLast [] 65535
theorem lines_len (s : List UInt8) : (spl 10 s).dropLast.length ≤ s.length ∧ ∀ x ∈ (spl 10 s).dropLast, x.length ≤ s.length := by
  have := spl_len 10 s
  exact ⟨by rw [List.length_dropLast]; omega, fun x hx => spl_piece 10 s x ((List.dropLast_sublist _).subset hx)⟩
theorem runX_len : ∀ (xs : List (List UInt8)) (l : List Record) (last : Int), (runX xs l last).1.length ≤ l.length + xs.length
  | [], l, _ => by simp [runX]
  | x :: t, l, last => by
    unfold runX
    split
    · have := runX_len t (l ++ [recX x]) (numX x)
      simp at this ⊢
      omega
    · simp
theorem salvR_len {s : List UInt8} (hs : s.length ≤ 1048576) : (salvR s).1.length ≤ 1048576 := by
  have h1 := runX_len (spl 10 s).dropLast [] 65535
  have h2 := (lines_len s).1
  unfold salvR
  simp only [List.length_nil, Nat.zero_add] at h1
  omega

theorem c_impl_SalvageLedger (s : List UInt8) (hs : s.length ≤ 1048576) : HFn Tryz.prog 14 [.str s] [] (.sf 0 3) [some (.arr 3 (Record.rows (salvR s).1))] := by
  have hl := lines_len s
  have kr := c_readLines (spl 10 s).dropLast (by omega) (fun x hx => Nat.le_trans (hl.2 x hx) hs)
  refine hfn_intro hm Tryz.func14 (by kernel_rfl) rfl (by kernel_rfl) rfl (fun _ _ h => h) ?_
  simp
  refine CallZ.use (c_endedLines s hs) rfl (.inr ⟨flat_strRows _, trivial⟩) rfl rfl ?_
  simp
  refine CallZ.use kr rfl (.inr ⟨Record.flat _, trivial⟩) rfl rfl ?_
  simp
  refine Wk.weak (ρ := [1]) (φ := []) ?_
  simp [salvR]

end Go.Proofs.YtmdablalfmcgnaaGreatDoor
