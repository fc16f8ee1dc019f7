/- Lists of numbers, and what the functions of package laws do with them. No condition. -/
import Derived.Test.YtoeklljhjhidbaaGreatDoorCd
namespace Go.Proofs.YtoeklljhjhidbaaGreatDoor
open Go Go.Ab
set_option maxRecDepth 100000

/-- A list of numbers, as rows. -/
def intRows (l : List Int) : List (List PV) := l.map fun n => [.int .i64 n]
theorem intRows_len (l : List Int) : (intRows l).length = l.length := by simp [intRows]
@[simp] theorem intRows_eq_nil (l : List Int) : intRows l = [] ↔ l = [] := by simp [intRows]
theorem flat_intRows (l : List Int) : flatRows (intRows l) := fun r hr c hc => by
  obtain ⟨s, _, rfl⟩ := List.mem_map.1 hr
  simp at hc
  subst hc
  rfl
def I64 (n : Int) : Prop := -9223372036854775808 ≤ n ∧ n ≤ 9223372036854775807
theorem fits_ints {rows : List (List PV)} (h : ∀ r ∈ rows, fitsL [.int .i64] r) : ∃ l : List Int, rows = intRows l ∧ ∀ x ∈ l, I64 x := list_of fun r hr => by
  have h := h r hr
  obtain ⟨_, _, rfl, h0, h⟩ := fitsL_cons h
  obtain rfl := fitsL_nil h
  obtain ⟨n, rfl, w⟩ := fits_int h0
  exact ⟨n, rfl, lit64 w⟩

theorem c_EqualInt [Go.Ab.Drwn] (a b : List Int) (ha : a.length ≤ 9223372036854775807) : HFn Tryz.prog 33 [.sl 1 (intRows a), .sl 1 (intRows b)] [] (.bool (decide (a = b))) [] := by
  refine hfn_intro hm Tryz.func33 (by kernel_rfl) rfl (by kernel_rfl) rfl ret0_ok ?_
  simp [intRows]
  refine ⟨fun h => ?_, fun h => ?_⟩
  · exact fun e => h (by rw [e])
  · refine loop_upto hm a.length (fun i => ⟨[(0, .sl 1 (intRows a)), (1, .sl 1 (intRows b)), (12, .int .i64 a.length), (13, .int .i64 i)], []⟩) (fun i => a.take i = b.take i) (by kernel_rfl) ?_ (by simp) (fun i hi hI => ?_) (fun hI => ?_)
    · exact Wk.weak (ρ := []) (φ := []) (by simp [intRows])
    · have hl : a.length = b.length := by omega
      have ea := List.getElem?_eq_getElem hi
      have hi' : i < b.length := by omega
      have eb := List.getElem?_eq_getElem hi'
      simp [intRows, hi, hi']
      refine ⟨fun h e => h (by simp [e]), fun h => ⟨take_succ_eq hI ea eb h, ?_⟩⟩
      refine Wk.weak (ρ := []) (φ := []) ?_
      simp
      exact w64 (by omega) (by omega)
    · simp [intRows]
      exact eq_of_take hI (by omega)

/-- n marks, from number k on. -/
def marksI (k : Int) (n : Nat) : List Int := (List.range n).map fun i : Nat => k + i
theorem marksI_len (k : Int) (n : Nat) : (marksI k n).length = n := by simp [marksI]

end Go.Proofs.YtoeklljhjhidbaaGreatDoor
