/- Texts cut at a byte, and put together again; lists of numbers read back: the plain law. No condition. -/
import Derived.Test.YtjmoilnklaeacaaGreatDoorOb
import Derived.Test.YtjmoilnklaeacaaGreatDoorJd
namespace Go.Proofs.YtjmoilnklaeacaaGreatDoor
open Go Go.Ab
set_option maxRecDepth 100000

/-- The parts of a text between the bytes c. -/
def spl (c : UInt8) : List UInt8 → List (List UInt8)
  | [] => [[]]
  | b :: r => if b = c then [] :: spl c r else match spl c r with
    | x :: t => (b :: x) :: t
    | [] => [[b]]
theorem spl_cons (c b : UInt8) (r : List UInt8) : spl c (b :: r) = if b = c then [] :: spl c r else match spl c r with
    | x :: t => (b :: x) :: t
    | [] => [[b]] := rfl
theorem spl_ne (c : UInt8) (s : List UInt8) : spl c s ≠ [] := by
  cases s with
  | nil => simp [spl]
  | cons b r =>
    unfold spl
    split
    · simp
    · split <;> simp
theorem spl_len (c : UInt8) : ∀ s : List UInt8, (spl c s).length ≤ s.length + 1
  | [] => by simp [spl]
  | b :: r => by
    have ih := spl_len c r
    unfold spl
    split
    · simp; omega
    · split
      · rename_i x t e
        rw [e] at ih
        simp at ih ⊢
        omega
      · simp
theorem spl_piece (c : UInt8) : ∀ s : List UInt8, ∀ x ∈ spl c s, x.length ≤ s.length
  | [], x, hx => by simp [spl] at hx; simp [hx]
  | b :: r, x, hx => by
    have ih := spl_piece c r
    unfold spl at hx
    split at hx
    · rcases List.mem_cons.1 hx with rfl | hx
      · simp
      · have := ih x hx; simp; omega
    · split at hx
      · rename_i y t e
        rw [e] at ih
        rcases List.mem_cons.1 hx with rfl | hx
        · have := ih y (by simp); simp; omega
        · have := ih x (by simp [hx]); simp; omega
      · simp at hx; subst hx; simp
theorem spl_free {c : UInt8} : ∀ {x : List UInt8}, c ∉ x → ∀ r, spl c (x ++ c :: r) = x :: spl c r
  | [], _, r => by simp [spl]
  | b :: x, h, r => by
    have hb : ¬ b = c := fun e => h (by simp [e])
    have hx : c ∉ x := fun e => h (by simp [e])
    rw [List.cons_append, spl_cons, if_neg hb, spl_free hx r]
theorem spl_none {c : UInt8} : ∀ {x : List UInt8}, c ∉ x → spl c x = [x]
  | [], _ => rfl
  | b :: x, h => by
    have hb : ¬ b = c := fun e => h (by simp [e])
    have hx : c ∉ x := fun e => h (by simp [e])
    rw [spl_cons, if_neg hb, spl_none hx]
theorem join_two (x y : List UInt8) (t : List (List UInt8)) (sep : List UInt8) : Lib.join (x :: y :: t) sep = x ++ sep ++ Lib.join (y :: t) sep := by
  rw [Lib.join_cons, Lib.join_cons]
  simp [Lib.joinTail]
theorem join_one (x sep : List UInt8) : Lib.join [x] sep = x := Lib.join_one x sep
theorem spl_join {c : UInt8} : ∀ {xs : List (List UInt8)}, xs ≠ [] → (∀ x ∈ xs, c ∉ x) → spl c (Lib.join xs [c]) = xs
  | [x], _, h => by rw [join_one, spl_none (h x (by simp))]
  | x :: y :: t, _, h => by
    rw [join_two, List.append_assoc, List.singleton_append, spl_free (h x (by simp)), spl_join (by simp) fun z hz => h z (by simp [hz])]
theorem join_spl (c : UInt8) : ∀ s : List UInt8, Lib.join (spl c s) [c] = s
  | [] => join_one _ _
  | b :: r => by
    have ih := join_spl c r
    unfold spl
    split
    · rename_i e
      subst e
      cases hs : spl b r with
      | nil => exact absurd hs (spl_ne _ _)
      | cons y t => rw [join_two, ← hs, ih]; rfl
    · split
      · rename_i x t e
        rw [e] at ih
        cases t with
        | nil => rw [join_one] at ih ⊢; rw [ih]
        | cons y t => rw [join_two] at ih ⊢; rw [← ih]; simp
      · rename_i e
        exact absurd e (spl_ne _ _)

/-- The library's parts are these. -/
theorem index_one_eq (c : UInt8) (l : List UInt8) : Lib.index (c :: l) [c] = 0 := by
  unfold Lib.index
  rw [if_pos (by simp)]
theorem index_one_ne {b c : UInt8} (h : ¬ b = c) (l : List UInt8) : Lib.index (b :: l) [c] = if Lib.index l [c] == -1 then -1 else Lib.index l [c] + 1 := by
  rw [Lib.index]
  rw [if_neg]
  simp
  exact fun e => h e.symm
theorem split_spl (c : UInt8) : ∀ s : List UInt8, Lib.splitK [c] 0 (Lib.count s [c]) s = spl c s
  | [] => by
    have : Lib.count [] [c] = 0 := by rw [Lib.count_one]; rfl
    rw [this]
    rfl
  | b :: l => by
    have ih := split_spl c l
    unfold spl
    by_cases h : b = c
    · subst h
      rw [if_pos rfl, Lib.count_cons_eq, Nat.add_comm]
      unfold Lib.splitK
      rw [index_one_eq, if_neg (by decide)]
      simp [ih]
    · rw [if_neg h, Lib.count_cons_ne b c l h, ← ih]
      cases hk : Lib.count l [c] with
      | zero => rfl
      | succ k =>
        unfold Lib.splitK
        rw [index_one_ne h]
        have hge := Lib.index_ge l [c]
        by_cases hi : Lib.index l [c] = -1
        · simp [hi]
        · have h1 : (Lib.index l [c] == -1) = false := by simpa using hi
          have h2 : (Lib.index l [c] + 1 == -1) = false := by simp; omega
          have h3 : (Lib.index l [c] + 1).toNat = (Lib.index l [c]).toNat + 1 := by omega
          simp [h1, h2, h3]
end Go.Proofs.YtjmoilnklaeacaaGreatDoor
