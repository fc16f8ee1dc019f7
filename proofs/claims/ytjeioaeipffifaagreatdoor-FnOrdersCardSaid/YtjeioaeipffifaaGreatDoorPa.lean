/- Orders in the order of their due days have the least greatest delay: plain law. No condition. -/
import Derived.Test.YtjeioaeipffifaaGreatDoorGb
namespace Go.Proofs.YtjeioaeipffifaaGreatDoor
open Go Go.Ab
set_option maxRecDepth 100000

theorem posD_gt (f : Int → Int) (S : List Int) (x : Int) : ∀ a i, posD f S x a ≤ i → i < a → f x < f (S.getD i 0)
  | 0, i, _, h => by omega
  | a + 1, i, h1, h2 => by
    unfold posD at h1
    split at h1
    · rename_i h
      by_cases e : i < a
      · exact posD_gt f S x a i h1 e
      · obtain rfl : i = a := by omega
        exact h
    · omega
theorem mxD_floor (l : List Order) (order : List Int) (start : Int) : ∀ i, -20000 ≤ mxD l order start i
  | 0 => Int.le_refl _
  | i + 1 => by
    have := mxD_floor l order start i
    simp only [mxD]
    omega
theorem mxD_mem (l : List Order) (order : List Int) (start : Int) : ∀ i j, j < i → delAt l order start j ≤ mxD l order start i
  | 0, j, h => by omega
  | i + 1, j, h => by
    simp only [mxD]
    by_cases e : j < i
    · have := mxD_mem l order start i j e
      omega
    · obtain rfl : j = i := by omega
      omega
theorem mxD_top {l : List Order} {order : List Int} {start c : Int} (hc : -20000 ≤ c) : ∀ i, (∀ j, j < i → delAt l order start j ≤ c) → mxD l order start i ≤ c
  | 0, _ => hc
  | i + 1, h => by
    have h1 := mxD_top hc i fun j hj => h j (by omega)
    have h2 := h i (by omega)
    simp only [mxD]
    omega
theorem delAt_app {l : List Order} {S R : List Int} {start : Int} {j : Nat} (hj : j < S.length) : delAt l (S ++ R) start j = delAt l S start j := by
  have e1 : (S ++ R).take (j + 1) = S.take (j + 1) := List.take_append_of_le_length (by omega)
  have e2 : (S ++ R).getD j 0 = S.getD j 0 := by rw [List.getD_eq_getElem?_getD, List.getElem?_append_left hj, ← List.getD_eq_getElem?_getD]
  unfold delAt endAt sumI
  rw [e1, e2]
theorem delAt_last {l : List Order} {S : List Int} {x start : Int} : delAt l (S ++ [x]) start S.length = start + (S.map (dayOf l)).sum + dayOf l x - dueOf l x := by
  have e1 : (S ++ [x]).take (S.length + 1) = S ++ [x] := List.take_of_length_le (by simp)
  have e2 : (S ++ [x]).getD S.length 0 = x := by simp
  unfold delAt endAt sumI
  rw [e1, e2]
  simp
  omega
theorem mxD_app {l : List Order} {S R : List Int} {start : Int} : ∀ i, i ≤ S.length → mxD l (S ++ R) start i = mxD l S start i
  | 0, _ => rfl
  | i + 1, h => by
    simp only [mxD]
    rw [mxD_app i (by omega), delAt_app (by omega)]
theorem delayOf_snoc (l : List Order) (S : List Int) (x start : Int) : delayOf l (S ++ [x]) start = max (delayOf l S start) (start + (S.map (dayOf l)).sum + dayOf l x - dueOf l x) := by
  unfold delayOf
  rw [List.length_append, List.length_singleton]
  show max (mxD l (S ++ [x]) start S.length) (delAt l (S ++ [x]) start S.length) = _
  rw [mxD_app S.length (Nat.le_refl _), delAt_last]
theorem sum_take_le {f : Int → Int} (hf : ∀ k, 0 ≤ f k) : ∀ (S : List Int) (n : Nat), ((S.take n).map f).sum ≤ (S.map f).sum
  | [], n => by simp
  | a :: S, 0 => by
    have : ∀ T : List Int, 0 ≤ (T.map f).sum := fun T => by
      induction T with
      | nil => simp
      | cons b T ih => have := hf b; simp; omega
    simpa using this (a :: S)
  | a :: S, n + 1 => by
    have := sum_take_le hf S n
    simp only [List.take_succ_cons, List.map_cons, List.sum_cons]
    omega
theorem insR_delay {l : List Order} (hd : ∀ k, 0 ≤ dayOf l k) (S : List Int) (x start : Int) : delayOf l (insR (dueOf l) S x) start ≤ delayOf l (S ++ [x]) start := by
  have hp := posOf_le (dueOf l) S x
  have hgt := posD_gt (dueOf l) S x S.length
  have hlast : delAt l (S ++ [x]) start S.length ≤ delayOf l (S ++ [x]) start := mxD_mem _ _ _ _ _ (by simp)
  rw [delAt_last] at hlast
  have hfl : -20000 ≤ delayOf l (S ++ [x]) start := mxD_floor _ _ _ _
  have hin : ∀ j, j < S.length → delAt l S start j ≤ delayOf l (S ++ [x]) start := fun j hj => by
    rw [← delAt_app (R := [x]) hj]
    exact mxD_mem _ _ _ _ _ (by simp; omega)
  generalize delayOf l (S ++ [x]) start = c at *
  unfold delayOf
  refine mxD_top hfl _ fun j hj => ?_
  rw [insR_len] at hj
  change posOf (dueOf l) S x ≤ _ at hp
  have hS : insR (dueOf l) S x = S.take (posOf (dueOf l) S x) ++ x :: S.drop (posOf (dueOf l) S x) := rfl
  have hgt : ∀ i, posOf (dueOf l) S x ≤ i → i < S.length → dueOf l x < dueOf l (S.getD i 0) := hgt
  generalize posOf (dueOf l) S x = p at *
  rw [hS]
  have eT : (S.take p).length = p := by rw [List.length_take]; omega
  by_cases hjp : j < p
  · rw [delAt_app (by omega)]
    have := hin j (by omega)
    have e : delAt l (S.take p) start j = delAt l S start j := by
      conv => rhs; rw [← List.take_append_drop p S]
      exact (delAt_app (by omega)).symm
    rw [e]
    exact this
  · by_cases hje : j = p
    · subst hje
      have e1 : (S.take j ++ x :: S.drop j).take (j + 1) = S.take j ++ [x] := by
        rw [List.take_append, eT, List.take_of_length_le (by omega), show j + 1 - j = 1 by omega]
        rfl
      have e2 : (S.take j ++ x :: S.drop j).getD j 0 = x := by
        rw [List.getD_eq_getElem?_getD, List.getElem?_append_right (by omega), eT, Nat.sub_self]
        rfl
      have := sum_take_le (f := dayOf l) hd S j
      unfold delAt endAt sumI
      rw [e1, e2]
      simp only [List.map_append, List.map_cons, List.map_nil, List.sum_append, List.sum_cons, List.sum_nil]
      omega
    · obtain ⟨q, rfl⟩ : ∃ q, j = p + q + 1 := ⟨j - p - 1, by omega⟩
      have e1 : (S.take p ++ x :: S.drop p).take (p + q + 1 + 1) = S.take p ++ x :: (S.drop p).take (q + 1) := by
        rw [List.take_append, eT, List.take_of_length_le (by omega), show p + q + 1 + 1 - p = q + 1 + 1 by omega, List.take_succ_cons]
      have e2 : (S.take p ++ x :: S.drop p).getD (p + q + 1) 0 = S.getD (p + q) 0 := by
        rw [List.getD_eq_getElem?_getD, List.getElem?_append_right (by omega), eT, show p + q + 1 - p = q + 1 by omega, List.getElem?_cons_succ, List.getElem?_drop, ← List.getD_eq_getElem?_getD]
      have e3 : S.take (p + q + 1) = S.take p ++ (S.drop p).take (q + 1) := by rw [show p + q + 1 = p + (q + 1) by omega, List.take_add]
      have h1 := sum_take_le (f := dayOf l) hd S (p + q + 1)
      have h2 := hgt (p + q) (by omega) (by omega)
      rw [e3] at h1
      unfold delAt endAt sumI
      rw [e1, e2]
      simp only [List.map_append, List.map_cons, List.sum_append, List.sum_cons] at h1 ⊢
      omega
theorem sum_perm {f : Int → Int} {S T : List Int} (h : S.Perm T) : (S.map f).sum = (T.map f).sum := by
  induction h with
  | nil => rfl
  | cons a _ ih => simp [ih]
  | swap a b l => simp; omega
  | trans _ _ h1 h2 => exact h1.trans h2
/-- Orders by due days have the least greatest delay. -/
theorem sort_delay {l : List Order} (hd : ∀ k, 0 ≤ dayOf l k) (L : List Int) (start : Int) : ∀ n, n ≤ L.length → delayOf l (sortL (dueOf l) (L.take n)) start ≤ delayOf l (L.take n) start
  | 0, _ => by simp [sortL]
  | n + 1, h => by
    have ih := sort_delay hd L start n (by omega)
    have h1 := insR_delay hd (sortL (dueOf l) (L.take n)) L[n] start
    rw [delayOf_snoc] at h1
    rw [sortL_succ _ (by omega), ← List.take_append_getElem (show n < L.length by omega), delayOf_snoc]
    rw [sum_perm (f := dayOf l) (sortL_perm (dueOf l) (L.take n))] at h1
    omega
theorem byDue_delay {l : List Order} (hv : validOrders l = true) (start : Int) : delayOf l (byDue l) start ≤ delayOf l (upN l.length) start := by
  have := sort_delay (l := l) (fun k => (dayOf_le hv k).1) (upN l.length) start (upN l.length).length (Nat.le_refl _)
  rw [List.take_length] at this
  exact this
theorem mxD_shift {l : List Order} {order : List Int} (hk : SeqOk l order 0) (ho : order.length ≤ 1048576) {start : Int} (h0 : 0 ≤ start) : ∀ i, i + 1 ≤ order.length → mxD l order start (i + 1) = mxD l order 0 (i + 1) + start := fun i => by
  have hs : ∀ j, delAt l order start j = delAt l order 0 j + start := fun j => by unfold delAt endAt; omega
  induction i with
  | zero =>
    intro hi
    have h1 := delAt_le hk ho (i := 0) (by omega)
    have h2 := hs 0
    simp only [mxD]
    omega
  | succ i ih =>
    intro hi
    have h1 := ih (by omega)
    have h2 := hs (i + 1)
    have e1 : mxD l order start (i + 1 + 1) = max (mxD l order start (i + 1)) (delAt l order start (i + 1)) := rfl
    have e2 : mxD l order 0 (i + 1 + 1) = max (mxD l order 0 (i + 1)) (delAt l order 0 (i + 1)) := rfl
    rw [e1, e2, h1, h2]
    omega
theorem upN_nodup (n : Nat) : (upN n).Nodup := by
  refine List.pairwise_iff_getElem.2 fun i j hi hj hij => ?_
  simp [upN]
  omega
theorem byDue_seq {l : List Order} (hv : validOrders l = true) {start : Int} (h0 : 0 ≤ start) (h1 : start ≤ 10000) : seqCode l (byDue l) start = 0 := by
  unfold seqCode
  rw [if_pos hv, if_pos ⟨h0, h1⟩, if_pos]
  have hn : (byDue l).Nodup := (sortL_perm _ _).nodup_iff.2 (upN_nodup _)
  refine List.all_eq_true.2 fun i hi => ?_
  have hi := List.mem_range.1 hi
  refine (seqAt_iff hi).2 ?_
  have := byDue_in l _ (List.getElem_mem hi)
  refine ⟨this.1, by omega, fun x hx e => ?_⟩
  obtain ⟨j, hj, rfl⟩ := List.getElem_of_mem hx
  rw [List.length_take] at hj
  rw [List.getElem_take] at e
  exact List.pairwise_iff_getElem.1 hn j i (by omega) hi (by omega) e.symm
end Go.Proofs.YtjeioaeipffifaaGreatDoor
