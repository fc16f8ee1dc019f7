/- Contracts: lists of texts that the laws count and lay anew; sums of sizes. No condition. -/
import Derived.Test.YtcjpfjklhhclmaaGreatDoorTI
namespace Go.Proofs.YtcjpfjklhhclmaaGreatDoor
open Go Go.Ab
set_option maxRecDepth 100000
theorem qaG (l : List (List UInt8)) : (qag l).length = l.length := by simp [qag]
theorem qdK (l : List (List UInt8)) {i : Nat} (h : i < (qag l).length) : (qag l)[i] = [PV.str (l[i]'(by rw [qaG] at h; exact h))] := by simp [qag]
theorem qmA {rows : List (List PV)} (h : ∀ r ∈ rows, fitsL [.str] r) : ∃ l : List (List UInt8), rows = qag l ∧ ∀ x ∈ l, x.length ≤ 9223372036854775807 := qbR fun r hr => by
 have h := h r hr
 obtain ⟨_, _, rfl, h0, h⟩ := qak h
 obtain rfl := qbV h
 obtain ⟨v, rfl, w⟩ := qcF h0
 exact ⟨v, rfl, w⟩
theorem qb8 {α : Type} (f : α → Nat) {l : List α} {x : α} (h : x ∈ l) : f x ≤ (l.map f).sum := by
 induction l with
 | nil => cases h
 | cons y r ih =>
   rcases List.mem_cons.1 h with rfl | h
   · simp
   · have := ih h; simp; omega
def qcG (l : List (List UInt8)) : Nat := l.length + (l.map List.length).sum
theorem qmB (l : List (List UInt8)) (left : Nat) (hl : left ≤ 1048576) (hlen : l.length ≤ 9223372036854775807) (hx : ∀ x ∈ l, x.length ≤ 9223372036854775807) : HFn Tryz.prog 234 [.sl 1 (qag l), .int .i64 left] [] (.int .i64 (szR (qcG l) left)) [] := by
 refine qaa hm Tryz.func234 (by kernel_rfl) rfl (by kernel_rfl) rfl qab ?_
 simp [qaG]
 rw [w64 (n := (left : Int) - l.length) (by omega) (by omega)]
 refine ⟨fun h => by rw [qam (by unfold qcG; omega)], fun h => ?_⟩
 refine qac hm l.length (fun i => ⟨[(0, .sl 1 (qag l)), (1, .int .i64 (left - l.length - sumT List.length l i)), (5, .int .i64 i)], []⟩) (fun i => l.length + sumT List.length l i ≤ left) (by kernel_rfl) ?_ (by rw [qaV]; omega) (fun i hi hI => ?_) (fun hI => ?_)
 · exact Wk.weak (ρ := []) (φ := []) (by simp [qaV])
 · have es := qbT List.length hi
   have hle := qbU List.length l (i + 1)
   have hw := hx _ (List.getElem_mem hi)
   simp [qaG, qdK, hi]
   rw [w64 (n := (left : Int) - l.length - sumT List.length l i - l[i].length) (by omega) (by omega)]
   refine ⟨fun h => by rw [qam (by unfold qcG; omega)], fun h => ⟨by omega, Wk.weak (ρ := []) (φ := []) ?_⟩⟩
   simp
   rw [w64 (by omega) (by omega)]
   omega
 · simp [qaG]
   rw [qbS] at hI ⊢
   rw [qal (by unfold qcG; omega)]
   unfold qcG
   omega
theorem qmC (l : List (List UInt8)) (hl : l.length ≤ 1048576) : HFn Tryz.prog 245 [.sl 1 (qag l)] [] (.sl 1 (qag l)) [] := by
 refine qaa hm Tryz.func245 (by kernel_rfl) rfl (by kernel_rfl) rfl (fun _ _ h => h) ?_
 simp [qag]
 refine ⟨by omega, by omega, ?_⟩
 refine qac hm l.length (fun i => ⟨[(0, .sl 1 (qag l)), (3, .sf 0 1), (4, .int .i64 i)], [some (.arr 1 ((l.take i).map (fun s => [PV.str s]) ++ List.replicate (l.length - i) [.str []]))]⟩) (fun _ => True) (by kernel_rfl) ?_ trivial (fun i hi _ => ?_) (fun _ => ?_)
 · exact Wk.weak (ρ := [0]) (φ := []) (by simp [qag])
 · obtain ⟨X, hX, hXl, hXg⟩ := qbq (fun s => [PV.str s]) l [.str []] hi
   rw [hX]
   have ea := List.getElem?_eq_getElem hi
   simp [qag, hi, hXl, hXg]
   refine Wk.weak (ρ := [0]) (φ := []) ?_
   simp
   rw [w64 (by omega) (by omega), ← hX]
   exact ⟨rfl, qbQ (fun s => [PV.str s]) l [.str []] hi⟩
 · simp [qag]
   exact Wk.weak (ρ := []) (φ := [0]) (by simp)
end Go.Proofs.YtcjpfjklhhclmaaGreatDoor
