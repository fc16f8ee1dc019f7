/- Contracts: marks that the laws write, and lists of strings. -/
import Derived.Test.YtdnflnpihcghcaaGreatDoorTy
import Derived.Test.YtdnflnpihcghcaaGreatDoorKc
import Derived.Test.YtdnflnpihcghcaaGreatDoorAby
namespace Go.Proofs.YtdnflnpihcghcaaGreatDoor
open Go Go.Ab
set_option maxRecDepth 100000

/-- The decimal digits of a number; none for 0. -/
def digs (n : Nat) : List UInt8 := if n = 0 then [] else digs (n / 10) ++ [UInt8.ofNat (48 + n % 10)]
termination_by n
decreasing_by omega

theorem digs_zero : digs 0 = [] := by rw [digs]; rfl
theorem digs_pos {n : Nat} (h : n ≠ 0) : digs n = digs (n / 10) ++ [UInt8.ofNat (48 + n % 10)] := by rw [digs, if_neg h]

theorem digs_len (n : Nat) : (digs n).length ≤ n := by
  induction n using Nat.strongRecOn with
  | _ n ih =>
    by_cases h : n = 0
    · subst h; rw [digs_zero]; simp
    · rw [digs_pos h, List.length_append]
      have := ih (n / 10) (by omega)
      simp only [List.length_cons, List.length_nil]
      omega

/-- What the laws write as mark number k. -/
def markT (k : Int) : List UInt8 := if k ≤ 0 then [109, 48] else 109 :: digs k.toNat

/-- A list of strings, as rows. -/
def strRows (l : List (List UInt8)) : List (List PV) := l.map fun s => [.str s]

theorem c_eqStringS (a b : List (List UInt8)) (ha : a.length ≤ 9223372036854775807) : HFn Tryz.prog 141 [.sl 1 (strRows a), .sl 1 (strRows b)] [] (.bool (decide (a = b))) [] := by
  refine hfn_intro hm Tryz.func141 (by kernel_rfl) rfl (by kernel_rfl) rfl ret0_ok ?_
  simp [strRows]
  refine ⟨fun h => ?_, fun h => ?_⟩
  · exact fun e => h (by rw [e])
  · refine loop_upto hm a.length (fun i => ⟨[(0, .sl 1 (strRows a)), (1, .sl 1 (strRows b)), (5, .int .i64 i)], []⟩) (fun i => a.take i = b.take i) (by kernel_rfl) ?_ (by simp) (fun i hi hI => ?_) (fun hI => ?_)
    · exact Wk.weak (ρ := []) (φ := []) (by simp [strRows])
    · have hl : a.length = b.length := by omega
      have ea := List.getElem?_eq_getElem hi
      have hi' : i < b.length := by omega
      have eb := List.getElem?_eq_getElem hi'
      simp [strRows, hi, hi']
      refine ⟨fun h e => h (by simp [e]), fun h => ⟨take_succ_eq hI ea eb h, ?_⟩⟩
      refine Wk.weak (ρ := []) (φ := []) ?_
      simp
      exact w64 (by omega) (by omega)
    · simp [strRows]
      exact eq_of_take hI (by omega)

/-- n marks, from number k on. -/
def marksS (k : Int) (n : Nat) : List (List UInt8) := (List.range n).map fun i : Nat => markT (k + i)
theorem marksS_len (k : Int) (n : Nat) : (marksS k n).length = n := by simp [marksS]

def commandNames : List (List UInt8) := [[97, 114, 114, 97, 110, 103, 101], [97, 117, 100, 105, 116], [98, 101, 97, 109], [98, 101, 108, 108], [99, 97, 110, 99, 101, 108], [100, 114, 117, 109], [104, 97, 110, 103], [104, 101, 108, 112], [105, 110, 103, 111, 116], [107, 101, 121], [108, 101, 102, 116], [109, 101, 108, 116], [111, 114, 100, 101, 114], [112, 108, 97, 99, 101], [114, 101, 99, 97, 108, 108], [115, 101, 116], [115, 116, 97, 116, 101], [116, 111, 119, 101, 114], [116, 117, 110, 101], [117, 110, 100, 111], [117, 110, 115, 101, 116]]

theorem flat_strRows (l : List (List UInt8)) : flatRows (strRows l) := fun r hr c hc => by
  obtain ⟨s, _, rfl⟩ := List.mem_map.1 hr
  simp at hc
  subst hc
  rfl

end Go.Proofs.YtdnflnpihcghcaaGreatDoor
