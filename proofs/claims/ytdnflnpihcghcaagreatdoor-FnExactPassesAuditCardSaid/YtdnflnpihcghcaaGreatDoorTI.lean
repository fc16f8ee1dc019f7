/- Lists of numbers, and what the functions of package laws do with them. No condition. -/
import Derived.Test.YtdnflnpihcghcaaGreatDoorCd
namespace Go.Proofs.YtdnflnpihcghcaaGreatDoor
open Go Go.Ab
set_option maxRecDepth 100000

/-- A list of numbers, as rows. -/
def intRows (l : List Int) : List (List PV) := l.map fun n => [.int .i64 n]
theorem intRows_len (l : List Int) : (intRows l).length = l.length := by simp [intRows]
@[simp] theorem intRows_eq_nil (l : List Int) : intRows l = [] ↔ l = [] := by simp [intRows]
theorem flat_intRows (l : List Int) : flatRows (intRows l) := fun r hr c hc => by
  obtain ⟨s, _, rfl⟩ := List.mem_map.1 hr
  simp at hc
  subst hc
  rfl
def I64 (n : Int) : Prop := -9223372036854775808 ≤ n ∧ n ≤ 9223372036854775807
theorem fits_ints {rows : List (List PV)} (h : ∀ r ∈ rows, fitsL [.int .i64] r) : ∃ l : List Int, rows = intRows l ∧ ∀ x ∈ l, I64 x := list_of fun r hr => by
  have h := h r hr
  obtain ⟨_, _, rfl, h0, h⟩ := fitsL_cons h
  obtain rfl := fitsL_nil h
  obtain ⟨n, rfl, w⟩ := fits_int h0
  exact ⟨n, rfl, lit64 w⟩

/-- n marks, from number k on. -/
def marksI (k : Int) (n : Nat) : List Int := (List.range n).map fun i : Nat => k + i
theorem marksI_len (k : Int) (n : Nat) : (marksI k n).length = n := by simp [marksI]

end Go.Proofs.YtdnflnpihcghcaaGreatDoor
