/- Contracts: names, numbers in bounds. -/
import Derived.Test.YtmdablalfmcgnaaGreatKc
import Derived.Test.YtmdablalfmcgnaaGreatCa
namespace Go.Proofs.YtmdablalfmcgnaaGreat
open Go Go.Ab
set_option maxRecDepth 100000

/-! ### Names -/

def isSmall (b : UInt8) : Bool := decide ((97 : Int) ≤ b.toNat) && decide ((b.toNat : Int) ≤ 122)
def isDigit (b : UInt8) : Bool := decide ((48 : Int) ≤ b.toNat) && decide ((b.toNat : Int) ≤ 57)
/-- Byte i of a name. -/
def nameAt (s : List UInt8) (i : Nat) : Bool := isSmall (s.getD i 0) || (decide (i ≠ 0) && isDigit (s.getD i 0))
def isName (s : List UInt8) : Bool := decide (1 ≤ s.length) && decide (s.length ≤ 10) && (List.range s.length).all (nameAt s)

theorem c_impl_IsName (s : List UInt8) : HFn Tryz.prog 53 [.str s] [] (.bool (isName s)) [] := by
  refine hfn_intro hm Tryz.func53 (by kernel_rfl) rfl (by kernel_rfl) rfl ret0_ok ?_
  simp
  refine ⟨fun h => ?_, fun h1 h2 => ?_⟩
  · simp only [isName]
    rcases h with h | h
    · simp [show ¬ 1 ≤ s.length by omega]
    · simp [show ¬ s.length ≤ 10 by omega]
  · have hN : isName s = (List.range s.length).all (nameAt s) := by simp only [isName]; simp [show 1 ≤ s.length by omega, show s.length ≤ 10 by omega]
    rw [hN]
    refine loop_upto hm s.length (fun i => ⟨[(16, .sl 1 (bytesV s)), (17, .int .i64 s.length), (18, .int .i64 i)], []⟩) (fun i => ∀ j, j < i → nameAt s j = true) (by kernel_rfl) ?_ (by simp) (fun i hi hI => ?_) (fun hI => ?_)
    · exact Wk.weak (ρ := []) (φ := []) (by simp [bytesV])
    · have hn : nameAt s i = true ↔ (((97 : Int) ≤ s[i].toNat ∧ (s[i].toNat : Int) ≤ 122) ∨ (¬ i = 0 ∧ (48 : Int) ≤ s[i].toNat ∧ (s[i].toNat : Int) ≤ 57)) := by
        simp [nameAt, hi, isSmall, isDigit]
      simp [bytesV, hi]
      refine ⟨by omega, by omega, fun h3 h4 => ⟨i, hi, ?_⟩, fun h => ⟨fun j hj => ?_, ?_⟩⟩
      · rw [← Bool.not_eq_true, hn]
        omega
      · by_cases e : j = i
        · subst e
          rw [hn]
          omega
        · exact hI j (by omega)
      · refine Wk.weak (ρ := []) (φ := []) ?_
        simp
        exact w64 (by omega) (by omega)
    · simp [bytesV]
      exact fun j hj => hI j hj

end Go.Proofs.YtmdablalfmcgnaaGreat
