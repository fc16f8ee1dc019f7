/- Contracts: sequences of orders, the days on which they end. Contracts: the delay of a sequence. Contracts: what Go's library says of order. -/
import Derived.Test.YtdnflnpihcghcaaGreatDoorCe
import Derived.Test.YtdnflnpihcghcaaGreatDoorTI
namespace Go.Proofs.YtdnflnpihcghcaaGreatDoor
open Go Go.Ab
set_option maxRecDepth 100000

/-! ### Sequences -/

/-- Index i of a sequence is one of an order, and new. -/
def seqAt (n : Nat) (order : List Int) (i : Nat) : Bool := match order[i]? with
  | some k => (decide (0 ≤ k) && decide (k ≤ (n : Int) - 1)) && !((order.take i).any fun x => decide (k = x))
  | none => true
theorem seqAt_iff {n : Nat} {order : List Int} {i : Nat} (hi : i < order.length) : seqAt n order i = true ↔ 0 ≤ order[i] ∧ order[i] ≤ (n : Int) - 1 ∧ ∀ x, x ∈ order.take i → ¬ order[i] = x := by
  simp only [seqAt, List.getElem?_eq_getElem hi]
  simp
  constructor
  · rintro ⟨⟨h1, h2⟩, h3⟩
    exact ⟨h1, h2, h3⟩
  · rintro ⟨h1, h2, h3⟩
    exact ⟨⟨h1, h2⟩, h3⟩
def seqOk (n : Nat) (order : List Int) : Bool := (List.range order.length).all (seqAt n order)
/-! ### The days on which orders are done -/

def sumI (f : Int → Int) (l : List Int) (i : Nat) : Int := ((l.take i).map f).sum
theorem sumI_zero (f : Int → Int) (l : List Int) : sumI f l 0 = 0 := rfl
theorem sumI_succ (f : Int → Int) {l : List Int} {i : Nat} (h : i < l.length) : sumI f l (i + 1) = sumI f l i + f l[i] := by
  unfold sumI
  rw [List.take_add_one, List.getElem?_eq_getElem h, List.map_append, List.sum_append]
  simp
end Go.Proofs.YtdnflnpihcghcaaGreatDoor

namespace Go.Proofs.YtdnflnpihcghcaaGreatDoor
open Go Go.Ab
set_option maxRecDepth 100000

theorem c_l00Max (a b : Int) : HFn Tryz.prog 159 [.int .i64 a, .int .i64 b] [] (.int .i64 (max a b)) [] := by
  refine hfn_intro hm Tryz.func159 (by kernel_rfl) rfl (by kernel_rfl) rfl ret0_ok ?_
  simp
  omega

end Go.Proofs.YtdnflnpihcghcaaGreatDoor

namespace Go.Proofs.YtdnflnpihcghcaaGreatDoor
open Go Go.Ab
set_option maxRecDepth 100000

theorem c_isNaNInt (a : Int) : HFn Tryz.prog 290 [.int .i64 a] [] (.bool false) [] := by
  refine hfn_intro hm Tryz.func290 (by kernel_rfl) rfl (by kernel_rfl) rfl ret0_ok ?_
  simp

theorem c_LessInt (a b : Int) : HFn Tryz.prog 278 [.int .i64 a, .int .i64 b] [] (.bool (decide (a < b))) [] := by
  refine hfn_intro hm Tryz.func278 (by kernel_rfl) rfl (by kernel_rfl) rfl ret0_ok ?_
  simp
  refine CallZ.use0 (c_isNaNInt _) rfl rfl ?_
  simp
  refine CallY.use (fun _ => ⟨rfl, c_isNaNInt _⟩) rfl rfl ?_
  simp

/-- What cmp.Compare says. -/
def cmpI (a b : Int) : Int := if a < b then -1 else if b < a then 1 else 0
theorem c_CompareInt (a b : Int) : HFn Tryz.prog 262 [.int .i64 a, .int .i64 b] [] (.int .i64 (cmpI a b)) [] := by
  refine hfn_intro hm Tryz.func262 (by kernel_rfl) rfl (by kernel_rfl) rfl ret0_ok ?_
  simp
  refine CallZ.use0 (c_isNaNInt _) rfl rfl ?_
  simp
  refine CallZ.use0 (c_isNaNInt _) rfl rfl ?_
  simp [cmpI]
  grind

/-- The first number that is not 0. -/
def orL : List Int → Int
  | [] => 0
  | x :: r => if x = 0 then orL r else x
theorem c_OrInt (l : List Int) (hl : l.length ≤ 1048576) : HFn Tryz.prog 261 [.sl 1 (intRows l)] [] (.int .i64 (orL l)) [] := by
  refine hfn_intro hm Tryz.func261 (by kernel_rfl) rfl (by kernel_rfl) rfl ret0_ok ?_
  simp
  refine loop_upto hm l.length (fun i => ⟨[(3, .int .i64 0), (6, .sl 1 (intRows l)), (7, .int .i64 l.length), (8, .int .i64 i)], []⟩) (fun i => orL l = orL (l.drop i)) (by kernel_rfl) ?_ (by simp) (fun i hi hI => ?_) (fun hI => ?_)
  · exact Wk.weak (ρ := []) (φ := []) (by simp [intRows])
  · rw [List.drop_eq_getElem_cons hi, orL] at hI
    simp [intRows, hi]
    refine ⟨fun h => by simp [hI, h], fun h => ⟨by simp [hI, h], ?_⟩⟩
    refine Wk.weak (ρ := []) (φ := []) ?_
    simp
    exact w64 (by omega) (by omega)
  · simp at hI
    simp [hI, orL]

/-- No number is less than the one before. -/
def sortedAt (l : List Int) (i : Nat) : Bool := decide (i = 0) || decide (l.getD (i - 1) 0 ≤ l.getD i 0)
def sortedI (l : List Int) : Bool := (List.range l.length).all (sortedAt l)
end Go.Proofs.YtdnflnpihcghcaaGreatDoor
