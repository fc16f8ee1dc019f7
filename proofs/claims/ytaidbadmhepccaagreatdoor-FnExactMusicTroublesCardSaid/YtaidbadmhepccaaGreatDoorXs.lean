/- Contracts: lists of texts that the laws count and lay anew; sums of sizes. No condition. -/
import Derived.Test.YtaidbadmhepccaaGreatDoorTI
namespace Go.Proofs.YtaidbadmhepccaaGreatDoor
open Go Go.Ab
set_option maxRecDepth 100000

theorem strRows_len (l : List (List UInt8)) : (strRows l).length = l.length := by simp [strRows]
theorem strRows_get (l : List (List UInt8)) {i : Nat} (h : i < (strRows l).length) : (strRows l)[i] = [PV.str (l[i]'(by rw [strRows_len] at h; exact h))] := by simp [strRows]
theorem fits_strs {rows : List (List PV)} (h : ∀ r ∈ rows, fitsL [.str] r) : ∃ l : List (List UInt8), rows = strRows l ∧ ∀ x ∈ l, x.length ≤ 9223372036854775807 := list_of fun r hr => by
  have h := h r hr
  obtain ⟨_, _, rfl, h0, h⟩ := fitsL_cons h
  obtain rfl := fitsL_nil h
  obtain ⟨v, rfl, w⟩ := fits_str h0
  exact ⟨v, rfl, w⟩
theorem sum_mem {α : Type} (f : α → Nat) {l : List α} {x : α} (h : x ∈ l) : f x ≤ (l.map f).sum := by
  induction l with
  | nil => cases h
  | cons y r ih =>
    rcases List.mem_cons.1 h with rfl | h
    · simp
    · have := ih h; simp; omega
def strSzS (l : List (List UInt8)) : Nat := l.length + (l.map List.length).sum
theorem c_szStringS (l : List (List UInt8)) (left : Nat) (hl : left ≤ 1048576) (hlen : l.length ≤ 9223372036854775807) (hx : ∀ x ∈ l, x.length ≤ 9223372036854775807) : HFn Tryz.prog 130 [.sl 1 (strRows l), .int .i64 left] [] (.int .i64 (szR (strSzS l) left)) [] := by
  refine hfn_intro hm Tryz.func130 (by kernel_rfl) rfl (by kernel_rfl) rfl ret0_ok ?_
  simp [strRows_len]
  rw [w64 (n := (left : Int) - l.length) (by omega) (by omega)]
  refine ⟨fun h => by rw [szR_neg (by unfold strSzS; omega)], fun h => ?_⟩
  refine loop_upto hm l.length (fun i => ⟨[(0, .sl 1 (strRows l)), (1, .int .i64 (left - l.length - sumT List.length l i)), (5, .int .i64 i)], []⟩) (fun i => l.length + sumT List.length l i ≤ left) (by kernel_rfl) ?_ (by rw [sumT_zero]; omega) (fun i hi hI => ?_) (fun hI => ?_)
  · exact Wk.weak (ρ := []) (φ := []) (by simp [sumT_zero])
  · have es := sumT_succ List.length hi
    have hle := sumT_le List.length l (i + 1)
    have hw := hx _ (List.getElem_mem hi)
    simp [strRows_len, strRows_get, hi]
    rw [w64 (n := (left : Int) - l.length - sumT List.length l i - l[i].length) (by omega) (by omega)]
    refine ⟨fun h => by rw [szR_neg (by unfold strSzS; omega)], fun h => ⟨by omega, Wk.weak (ρ := []) (φ := []) ?_⟩⟩
    simp
    rw [w64 (by omega) (by omega)]
    omega
  · simp [strRows_len]
    rw [sumT_len] at hI ⊢
    rw [szR_pos (by unfold strSzS; omega)]
    unfold strSzS
    omega
theorem c_toStringSF (l : List (List UInt8)) (hl : l.length ≤ 1048576) : HFn Tryz.prog 149 [.sl 1 (strRows l)] [] (.sl 1 (strRows l)) [] := by
  refine hfn_intro hm Tryz.func149 (by kernel_rfl) rfl (by kernel_rfl) rfl (fun _ _ h => h) ?_
  simp [strRows]
  refine ⟨by omega, by omega, ?_⟩
  refine loop_upto hm l.length (fun i => ⟨[(0, .sl 1 (strRows l)), (3, .sf 0 1), (4, .int .i64 i)], [some (.arr 1 ((l.take i).map (fun s => [PV.str s]) ++ List.replicate (l.length - i) [.str []]))]⟩) (fun _ => True) (by kernel_rfl) ?_ trivial (fun i hi _ => ?_) (fun _ => ?_)
  · exact Wk.weak (ρ := [0]) (φ := []) (by simp [strRows])
  · obtain ⟨X, hX, hXl, hXg⟩ := filled (fun s => [PV.str s]) l [.str []] hi
    rw [hX]
    have ea := List.getElem?_eq_getElem hi
    simp [strRows, hi, hXl, hXg]
    refine Wk.weak (ρ := [0]) (φ := []) ?_
    simp
    rw [w64 (by omega) (by omega), ← hX]
    exact ⟨rfl, filled_next (fun s => [PV.str s]) l [.str []] hi⟩
  · simp [strRows]
    exact Wk.weak (ρ := []) (φ := [0]) (by simp)
end Go.Proofs.YtaidbadmhepccaaGreatDoor
