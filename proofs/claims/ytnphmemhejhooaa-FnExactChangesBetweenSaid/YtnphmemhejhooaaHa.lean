/- Contracts: the active ones of records. -/
import Derived.Test.YtnphmemhejhooaaCg
import Derived.Test.YtnphmemhejhooaaFd
namespace Go.Proofs.Ytnphmemhejhooaa
open Go Go.Ab
set_option maxRecDepth 100000

def recAt (l : List Record) (i : Nat) : Record := l.getD i ⟨0, [], []⟩
theorem recAt_eq {l : List Record} {i : Nat} (hi : i < l.length) : recAt l i = l[i] := by simp [recAt, hi]
/-- The active ones of the first i records; none if there is nothing to take back for one. -/
def act (l : List Record) : Nat → Option (List Int)
  | 0 => some []
  | i + 1 => match act l i with
    | none => none
    | some S => if (recAt l i).kind ≠ 3 then some (S ++ [(i : Int)]) else if S = [] then none else some S.dropLast
theorem act_len {l : List Record} : ∀ {i : Nat} {S : List Int}, act l i = some S → S.length ≤ i
  | 0, S, h => by cases h; exact Nat.le_refl _
  | i + 1, S, h => by
    unfold act at h
    cases ha : act l i with
    | none => rw [ha] at h; cases h
    | some T =>
      have := act_len ha
      rw [ha] at h
      simp only at h
      split at h
      · cases h; simp; omega
      · split at h
        · cases h
        · cases h; simp; omega
theorem act_mem {l : List Record} : ∀ {i : Nat} {S : List Int}, act l i = some S → ∀ k ∈ S, 0 ≤ k ∧ k < i
  | 0, S, h, k, hk => by cases h; simp at hk
  | i + 1, S, h, k, hk => by
    unfold act at h
    cases ha : act l i with
    | none => rw [ha] at h; cases h
    | some T =>
      have ih := act_mem ha
      rw [ha] at h
      simp only at h
      split at h
      · cases h
        rcases List.mem_append.1 hk with g | g
        · have := ih k g; omega
        · simp at g; omega
      · split at h
        · cases h
        · cases h
          have := ih k (List.dropLast_subset _ hk)
          omega
theorem act_none {l : List Record} {i : Nat} (h : act l i = none) : act l (i + 1) = none := by unfold act; rw [h]
theorem act_some {l : List Record} {i : Nat} {S : List Int} (h : act l i = some S) : act l (i + 1) = if (recAt l i).kind ≠ 3 then some (S ++ [(i : Int)]) else if S = [] then none else some S.dropLast := by
  conv => lhs; unfold act
  rw [h]
theorem act_up {l : List Record} {i : Nat} (h : act l i = none) : ∀ j, i ≤ j → act l j = none := fun j hij => by
  induction j with
  | zero => have : i = 0 := by omega
            subst this; exact h
  | succ j ih =>
    by_cases e : i = j + 1
    · subst e; exact h
    · exact act_none (ih (by omega))
theorem act_take {l : List Record} {k : Nat} : ∀ {i : Nat}, i ≤ k → act (l.take k) i = act l i
  | 0, _ => rfl
  | i + 1, h => by
    have ih := act_take (l := l) (i := i) (k := k) (by omega)
    have e : recAt (l.take k) i = recAt l i := by
      unfold recAt
      rw [List.getD_eq_getElem?_getD, List.getD_eq_getElem?_getD, List.getElem?_take, if_pos (by omega)]
    unfold act
    rw [ih, e]
def actL (l : List Record) (i : Nat) : List Int := (act l i).getD []
theorem actL_some {l : List Record} {i : Nat} {S : List Int} (h : act l i = some S) : actL l i = S := by simp [actL, h]
theorem intRows_app (a b : List Int) : intRows (a ++ b) = intRows a ++ intRows b := by simp [intRows]
theorem intRows_take (a : List Int) (n : Nat) : intRows (a.take n) = (intRows a).take n := by simp [intRows]

end Go.Proofs.Ytnphmemhejhooaa
