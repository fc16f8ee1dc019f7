/- Changes of rows: the plain law. No condition. -/
import Derived.Test.YtndbhcnedfbcoaaDoorTI
namespace Go.Proofs.YtndbhcnedfbcoaaDoor
open Go Go.Ab

/-- A row after a change, from index i on; ps: the places that stay. -/
def appL (ps : List Int) : Nat → List Int → List Int
  | _, [] => []
  | _, [x] => [x]
  | i, x :: y :: r => if ((i : Int) + 1) ∈ ps then x :: appL ps (i + 1) (y :: r) else y :: x :: appL ps (i + 2) r
theorem appL_len (ps : List Int) : ∀ (k i : Nat) (r : List Int), r.length ≤ k → (appL ps i r).length = r.length
  | _, _, [], _ => rfl
  | _, _, [_], _ => by simp [appL]
  | 0, _, _ :: _ :: _, h => by simp at h
  | k + 1, i, x :: y :: r, h => by
    have h1 := appL_len ps k (i + 1) (y :: r) (by simp at h ⊢; omega)
    have h2 := appL_len ps k (i + 2) r (by simp at h; omega)
    rw [appL]
    split
    · simp at h1 ⊢; exact h1
    · simp [h2]
/-- A change made twice changes nothing. -/
theorem appL_twice (ps : List Int) : ∀ (k i : Nat) (r : List Int), r.length ≤ k → appL ps i (appL ps i r) = r
  | _, _, [], _ => rfl
  | _, _, [_], _ => by simp [appL]
  | 0, _, _ :: _ :: _, h => by simp at h
  | k + 1, i, x :: y :: r, h => by
    have h1 := appL_twice ps k (i + 1) (y :: r) (by simp at h ⊢; omega)
    have h2 := appL_twice ps k (i + 2) r (by simp at h; omega)
    have l1 := appL_len ps _ (i + 1) (y :: r) (Nat.le_refl _)
    by_cases hi : ((i : Int) + 1) ∈ ps
    · rw [appL, if_pos hi]
      cases ht : appL ps (i + 1) (y :: r) with
      | nil => rw [ht] at l1; simp at l1
      | cons z t =>
        rw [appL, if_pos hi, ← ht, h1]
    · rw [appL, if_neg hi, appL, if_neg hi, h2]
theorem appL_perm (ps : List Int) : ∀ (k i : Nat) (r : List Int), r.length ≤ k → (appL ps i r).Perm r
  | _, _, [], _ => by simp [appL]
  | _, _, [_], _ => by simp [appL]
  | 0, _, _ :: _ :: _, h => by simp at h
  | k + 1, i, x :: y :: r, h => by
    have h1 := appL_perm ps k (i + 1) (y :: r) (by simp at h ⊢; omega)
    have h2 := appL_perm ps k (i + 2) r (by simp at h; omega)
    rw [appL]
    split
    · exact h1.cons x
    · exact ((h2.cons x).cons y).trans (List.Perm.swap x y r)
/-- No bell moves by more than one place. -/
theorem appL_near (ps : List Int) : ∀ (k i : Nat) (r : List Int), r.length ≤ k → ∀ j, j < r.length → (appL ps i r)[j]? = r[j]? ∨ (0 < j ∧ (appL ps i r)[j]? = r[j - 1]?) ∨ (j + 1 < r.length ∧ (appL ps i r)[j]? = r[j + 1]?)
  | _, _, [], _, j, hj => by simp at hj
  | _, _, [_], _, j, hj => .inl (by simp [appL])
  | 0, _, _ :: _ :: _, h, _, _ => by simp at h
  | k + 1, i, x :: y :: r, h, j, hj => by
    rw [appL]
    split
    · match j with
      | 0 => exact .inl rfl
      | j + 1 =>
        rcases appL_near ps k (i + 1) (y :: r) (by simp at h ⊢; omega) j (by simpa using hj) with g | ⟨g, e⟩ | ⟨g, e⟩
        · exact .inl (by simpa using g)
        · refine .inr (.inl ⟨by omega, ?_⟩)
          obtain ⟨j, rfl⟩ : ∃ j', j = j' + 1 := ⟨j - 1, by omega⟩
          simpa using e
        · exact .inr (.inr ⟨by simp at g ⊢; omega, by simpa using e⟩)
    · match j with
      | 0 => exact .inr (.inr ⟨by simp, by simp⟩)
      | 1 => exact .inr (.inl ⟨by omega, by simp⟩)
      | j + 2 =>
        rcases appL_near ps k (i + 2) r (by simp at h; omega) j (by simpa using hj) with g | ⟨g, e⟩ | ⟨g, e⟩
        · exact .inl (by simpa using g)
        · refine .inr (.inl ⟨by omega, ?_⟩)
          obtain ⟨j, rfl⟩ : ∃ j', j = j' + 1 := ⟨j - 1, by omega⟩
          simpa using e
        · exact .inr (.inr ⟨by simp; omega, by simpa using e⟩)
end Go.Proofs.YtndbhcnedfbcoaaDoor
