/- Contracts: numbers that an input chooses. No condition. -/
import Derived.Test.YtjeioaeipffifaaGreatDoorNa
namespace Go.Proofs.YtjeioaeipffifaaGreatDoor
open Go Go.Ab
set_option maxRecDepth 100000

theorem fits_bytes {rows : List (List PV)} (h : ∀ r ∈ rows, fitsL [.int .u8] r) : ∃ l : List Int, rows = byteRows l ∧ ∀ x ∈ l, 0 ≤ x ∧ x < 256 := list_of fun r hr => by
  have h := h r hr
  obtain ⟨_, _, rfl, h0, h⟩ := fitsL_cons h
  obtain rfl := fitsL_nil h
  obtain ⟨n, rfl, w⟩ := fits_int h0
  refine ⟨n, rfl, ?_⟩
  have h1 : IntKind.u8.min = 0 := rfl
  have h2 : IntKind.u8.max = 255 := rfl
  simp only [Lit.wf, Bool.and_eq_true, decide_eq_true_eq, h1, h2] at w
  omega

theorem c_r8Long (a b : List Int) : HFn Tryz.prog 6 [.sl 1 (byteRows a), .sl 1 (byteRows b)] [] (.bool (decide (1048576 < a.length) || decide (1048576 < b.length))) [] := by
  refine hfn_intro hm Tryz.func6 (by kernel_rfl) rfl (by kernel_rfl) rfl ret0_ok ?_
  simp [byteRows_len]
  have e : ∀ n : Nat, decide ((1048576 : Int) < (n : Int)) = decide (1048576 < n) := fun n => decide_eq_decide.2 (by omega)
  rw [e, e]

/-- A number below n that an input chooses. -/
def r8AtV (code : List Int) (k : Nat) (n : Int) : Int := if n ≤ 1 ∨ code.length ≤ k then 0 else (code.getD k 0).tmod n
theorem r8AtV_le (code : List Int) (hc : ∀ c ∈ code, 0 ≤ c ∧ c < 256) (k : Nat) (n : Int) (hn : 0 < n) : 0 ≤ r8AtV code k n ∧ r8AtV code k n < n := by
  unfold r8AtV
  split
  · omega
  · rename_i h
    have hk : k < code.length := by omega
    have e : code.getD k 0 = code[k] := by simp [hk]
    have := hc _ (List.getElem_mem hk)
    rw [e, Int.tmod_eq_emod_of_nonneg this.1]
    exact ⟨Int.emod_nonneg _ (by omega), Int.emod_lt_of_pos _ hn⟩
theorem c_r8At (code : List Int) (hc : ∀ c ∈ code, 0 ≤ c ∧ c < 256) (k : Nat) (n : Int) : HFn Tryz.prog 9 [.sl 1 (byteRows code), .int .i64 k, .int .i64 n] [] (.int .i64 (r8AtV code k n)) [] := by
  refine hfn_intro hm Tryz.func9 (by kernel_rfl) rfl (by kernel_rfl) rfl ret0_ok ?_
  simp [byteRows_len]
  refine ⟨fun h => ?_, fun h1 h2 => ?_⟩
  · have : n ≤ 1 ∨ code.length ≤ k := by omega
    simp [r8AtV, this]
  · have hk : k < code.length := by omega
    have := hc _ (List.getElem_mem hk)
    have w : IntKind.i64.wrap code[k] = code[k] := w64 (by omega) (by omega)
    have hn : ¬ (n ≤ 1 ∨ code.length ≤ k) := by omega
    simp [byteRows, hk, w, r8AtV, hn, show ¬ n = 0 by omega]

def r8WideV (code : List Int) (k : Nat) (n : Int) : Int := (256 * r8AtV code k 256 + r8AtV code (k + 1) 256).tmod n
theorem r8WideV_le (code : List Int) (hc : ∀ c ∈ code, 0 ≤ c ∧ c < 256) (k : Nat) (n : Int) (hn : 0 < n) : 0 ≤ r8WideV code k n ∧ r8WideV code k n < n := by
  have h1 := r8AtV_le code hc k 256 (by omega)
  have h2 := r8AtV_le code hc (k + 1) 256 (by omega)
  unfold r8WideV
  rw [Int.tmod_eq_emod_of_nonneg (by omega)]
  exact ⟨Int.emod_nonneg _ (by omega), Int.emod_lt_of_pos _ hn⟩
theorem c_r8Wide (code : List Int) (hc : ∀ c ∈ code, 0 ≤ c ∧ c < 256) (k : Nat) (hk : k ≤ 1048576) (n : Int) (hn : 0 < n) : HFn Tryz.prog 8 [.sl 1 (byteRows code), .int .i64 k, .int .i64 n] [] (.int .i64 (r8WideV code k n)) [] := by
  have h1 := r8AtV_le code hc k 256 (by omega)
  have h2 := r8AtV_le code hc (k + 1) 256 (by omega)
  refine hfn_intro hm Tryz.func8 (by kernel_rfl) rfl (by kernel_rfl) rfl ret0_ok ?_
  simp
  refine CallZ.use0 (c_r8At code hc k 256) rfl rfl ?_
  have w0 : IntKind.i64.wrap ((k : Int) + 1) = ((k + 1 : Nat) : Int) := by rw [w64 (by omega) (by omega)]; omega
  simp [w0]
  refine CallZ.use0 (c_r8At code hc (k + 1) 256) rfl rfl ?_
  have w1 : IntKind.i64.wrap (256 * r8AtV code k 256) = 256 * r8AtV code k 256 := w64 (by omega) (by omega)
  have w2 : IntKind.i64.wrap (256 * r8AtV code k 256 + r8AtV code (k + 1) 256) = 256 * r8AtV code k 256 + r8AtV code (k + 1) 256 := w64 (by omega) (by omega)
  simp [w1, w2, r8WideV, show ¬ n = 0 by omega]

end Go.Proofs.YtjeioaeipffifaaGreatDoor
