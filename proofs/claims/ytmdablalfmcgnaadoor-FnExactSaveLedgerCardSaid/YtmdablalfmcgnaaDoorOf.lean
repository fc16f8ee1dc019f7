/- Texts cut at a byte's first place; drums read back from their texts: plain law. No condition. -/
import Derived.Test.YtmdablalfmcgnaaDoorOe
import Derived.Test.YtmdablalfmcgnaaDoorJg
namespace Go.Proofs.YtmdablalfmcgnaaDoor
open Go Go.Ab
set_option maxRecDepth 100000

theorem index_free {c : UInt8} : ∀ {x : List UInt8}, c ∉ x → ∀ y, Lib.index (x ++ c :: y) [c] = x.length
  | [], _, y => index_one_eq c y
  | b :: x, h, y => by
    have h1 : ¬ b = c := fun e => h (by simp [e])
    have ih := index_free (c := c) (x := x) (fun e => h (by simp [e])) y
    rw [List.cons_append, index_one_ne h1, ih]
    have h2 : (((x.length : Nat) : Int) == -1) = false := by simp
    rw [h2]
    simp
theorem cut_free {c : UInt8} {x : List UInt8} (h : c ∉ x) (y : List UInt8) : Lib.cut (x ++ c :: y) [c] = (x, y, true) := by
  unfold Lib.cut
  rw [index_free h, if_pos (by omega)]
  simp
theorem cut_len (w : List UInt8) (c : List UInt8) : (Lib.cut w c).1.length ≤ w.length ∧ (Lib.cut w c).2.1.length ≤ w.length := by
  unfold Lib.cut
  split
  · simp
    omega
  · simp
theorem cut_two {c : UInt8} {w x y : List UInt8} (h : spl c w = [x, y]) : w = x ++ c :: y ∧ Lib.cut w [c] = (x, y, true) := by
  have hx : c ∉ x := spl_mem x (by rw [h]; simp)
  have hw : w = x ++ c :: y := by
    have := join_spl c w
    rw [h, join_two, join_one] at this
    rw [← this]
    simp
  exact ⟨hw, by rw [hw]; exact cut_free hx y⟩

theorem nv_small (p : List UInt8) : (nv p).natAbs < 10 ^ 18 := by
  unfold nv
  cases h : num p with
  | none => simp
  | some v => exact (num_itoa.1 h).2
theorem num_iff {p : List UInt8} : Lib.itoa (nv p) = p ↔ (num p).isSome = true := by
  constructor
  · intro h
    have : num p = some (nv p) := num_itoa.2 ⟨h, nv_small p⟩
    rw [this]
    rfl
  · intro h
    obtain ⟨v, hv⟩ := Option.isSome_iff_exists.1 h
    unfold nv
    rw [hv]
    exact (num_itoa.1 hv).1

def pinS (w : List UInt8) : Bool := match spl 58 w with
  | [x, y] => (num x).isSome && (num y).isSome
  | _ => false
def wordsOk (a b c : List UInt8) (r : List (List UInt8)) : Bool := (num a).isSome && (num b).isSome && (listR c).isSome && r.all pinS
theorem map_self {α : Type} {f : α → α} : ∀ {l : List α}, l.map f = l ↔ ∀ x ∈ l, f x = x
  | [] => by simp
  | a :: l => by simp [map_self (f := f) (l := l)]
theorem listR_iff {c : List UInt8} : listT ((listR c).getD []) = c ↔ (listR c).isSome = true := by
  cases h : listR c with
  | some l => simpa using (listR_text h).2
  | none =>
    simp
    intro e
    have : listR [45] = some [] := rfl
    have e2 : listT [] = [45] := rfl
    rw [← e, e2, this] at h
    cases h
theorem len_over {α : Type} {l : List α} (h : 3 ≤ l.length) : ∃ a b c r, l = a :: b :: c :: r := by
  match l, h with
  | a :: b :: c :: r, _ => exact ⟨a, b, c, r, rfl⟩

theorem listR_len (c : List UInt8) : ((listR c).getD []).length ≤ 64 := by
  cases hl : listR c with
  | none => simp
  | some l =>
    have := (listR_text hl).1
    simp [listOk] at this
    exact this.1
end Go.Proofs.YtmdablalfmcgnaaDoor
