/- Lists of numbers, and what the functions of package laws do with them. No condition. -/
import Derived.Test.YtjmoilnklaeacaaGreatDoorCd
namespace Go.Proofs.YtjmoilnklaeacaaGreatDoor
open Go Go.Ab
set_option maxRecDepth 100000

/-- A list of numbers, as rows. -/
def intRows (l : List Int) : List (List PV) := l.map fun n => [.int .i64 n]
theorem intRows_len (l : List Int) : (intRows l).length = l.length := by simp [intRows]
@[simp] theorem intRows_eq_nil (l : List Int) : intRows l = [] ↔ l = [] := by simp [intRows]
theorem flat_intRows (l : List Int) : flatRows (intRows l) := fun r hr c hc => by
  obtain ⟨s, _, rfl⟩ := List.mem_map.1 hr
  simp at hc
  subst hc
  rfl
def I64 (n : Int) : Prop := -9223372036854775808 ≤ n ∧ n ≤ 9223372036854775807
theorem fits_ints {rows : List (List PV)} (h : ∀ r ∈ rows, fitsL [.int .i64] r) : ∃ l : List Int, rows = intRows l ∧ ∀ x ∈ l, I64 x := list_of fun r hr => by
  have h := h r hr
  obtain ⟨_, _, rfl, h0, h⟩ := fitsL_cons h
  obtain rfl := fitsL_nil h
  obtain ⟨n, rfl, w⟩ := fits_int h0
  exact ⟨n, rfl, lit64 w⟩

theorem c_eqInt64S (a b : List Int) (ha : a.length ≤ 9223372036854775807) : HFn Tryz.prog 50 [.sl 1 (intRows a), .sl 1 (intRows b)] [] (.bool (decide (a = b))) [] := by
  refine hfn_intro hm Tryz.func50 (by kernel_rfl) rfl (by kernel_rfl) rfl ret0_ok ?_
  simp [intRows]
  refine ⟨fun h => ?_, fun h => ?_⟩
  · exact fun e => h (by rw [e])
  · refine loop_upto hm a.length (fun i => ⟨[(0, .sl 1 (intRows a)), (1, .sl 1 (intRows b)), (5, .int .i64 i)], []⟩) (fun i => a.take i = b.take i) (by kernel_rfl) ?_ (by simp) (fun i hi hI => ?_) (fun hI => ?_)
    · exact Wk.weak (ρ := []) (φ := []) (by simp [intRows])
    · have hl : a.length = b.length := by omega
      have ea := List.getElem?_eq_getElem hi
      have hi' : i < b.length := by omega
      have eb := List.getElem?_eq_getElem hi'
      simp [intRows, hi, hi']
      refine ⟨fun h e => h (by simp [e]), fun h => ⟨take_succ_eq hI ea eb h, ?_⟩⟩
      refine Wk.weak (ρ := []) (φ := []) ?_
      simp
      exact w64 (by omega) (by omega)
    · simp [intRows]
      exact eq_of_take hI (by omega)


/-- n marks, from number k on. -/
def marksI (k : Int) (n : Nat) : List Int := (List.range n).map fun i : Nat => k + i
theorem marksI_len (k : Int) (n : Nat) : (marksI k n).length = n := by simp [marksI]

theorem c_markInt64S (l : List Int) (k : Int) (hk : 0 ≤ k) (ha : l.length + k ≤ 1000000000) : MFn Tryz.prog 52 [.sf 0 1, .int .i64 k] [some (.arr 1 (intRows l))] [0] (.int .i64 (k + l.length)) [some (.arr 1 (intRows (marksI k l.length)))] := by
  refine mfn_intro [0] hm Tryz.func52 (by kernel_rfl) rfl (by kernel_rfl) rfl (retM_ok (ρ := [0]) (φ := [])) (by simp [intRows, marksI]) ?_
  simp
  refine loop_upto hm l.length (fun i => ⟨[(0, .sf 0 1), (1, .int .i64 (k + i)), (5, .int .i64 i), (Tryz.f52.ntmps, .own 0)], [some (.arr 1 (intRows (marksI k i ++ l.drop i)))]⟩) (fun _ => True) (by kernel_rfl) ?_ trivial (fun i hi _ => ?_) (fun _ => ?_)
  · refine Wk.weak (ρ := [0]) (φ := []) ?_
    simp [intRows, marksI]
  · obtain ⟨X, hX, hl, hg⟩ := marked (fun j : Nat => k + (j : Int)) l hi
    rw [show marksI k i ++ l.drop i = X from hX]
    simp [intRows, hl, hi]
    refine Wk.weak (ρ := [0]) (φ := []) ?_
    simp
    rw [w64 (by omega) (by omega), w64 (by omega) (by omega), ← hX]
    exact ⟨⟨by omega, rfl⟩, marked_next (fun n => [PV.int .i64 n]) (fun j : Nat => k + (j : Int)) l hi⟩
  · simp [intRows, marksI]

theorem c_heldInt64S (a : List Int) (k : Int) (hk : 0 ≤ k) (ha : a.length + k ≤ 1000000000) (h : a = marksI k a.length) : HFn Tryz.prog 54 [.sl 1 (intRows a), .int .i64 k] [] (.int .i64 (k + a.length)) [] := by
  refine hfn_intro hm Tryz.func54 (by kernel_rfl) rfl (by kernel_rfl) rfl ret0_ok ?_
  simp [intRows]
  refine loop_upto hm a.length (fun i => ⟨[(0, .sl 1 (intRows a)), (1, .int .i64 (k + i)), (5, .int .i64 i)], []⟩) (fun _ => True) (by kernel_rfl) ?_ trivial (fun i hi _ => ?_) (fun _ => ?_)
  · exact Wk.weak (ρ := []) (φ := []) (by simp [intRows])
  · have e : a[i] = k + i := by
      have h1 := List.getElem?_eq_getElem hi
      have h2 : a[i]? = (marksI k a.length)[i]? := by rw [← h]
      rw [h1] at h2
      simpa [marksI, hi] using h2
    simp [intRows, hi, e]
    refine Wk.weak (ρ := []) (φ := []) ?_
    simp
    rw [w64 (by omega) (by omega), w64 (by omega) (by omega)]
    omega
  · simp [intRows]
end Go.Proofs.YtjmoilnklaeacaaGreatDoor
