/- Contracts: indices of orders, sorted by due days. -/
import Derived.Test.YtjeioaeipffifaaGreatDoorFb
import Derived.Test.YtjeioaeipffifaaGreatDoorFe
import Derived.Test.YtjeioaeipffifaaGreatDoorCk
namespace Go.Proofs.YtjeioaeipffifaaGreatDoor
open Go Go.Ab
set_option maxRecDepth 100000

/-! ### The plain law -/
/-- Where, from the end on, what is greater ends; of the first a elements. -/
def posD (f : Int → Int) (S : List Int) (x : Int) : Nat → Nat
  | 0 => 0
  | a + 1 => if f x < f (S.getD a 0) then posD f S x a else a + 1
def posOf (f : Int → Int) (S : List Int) (x : Int) : Nat := posD f S x S.length
def insR (f : Int → Int) (S : List Int) (x : Int) : List Int := S.take (posOf f S x) ++ x :: S.drop (posOf f S x)
def sortL (f : Int → Int) (l : List Int) : List Int := l.foldl (insR f) []
theorem posD_le (f : Int → Int) (S : List Int) (x : Int) : ∀ a, posD f S x a ≤ a
  | 0 => Nat.le_refl _
  | a + 1 => by
    have := posD_le f S x a
    unfold posD
    split <;> omega
theorem posOf_le (f : Int → Int) (S : List Int) (x : Int) : posOf f S x ≤ S.length := posD_le _ _ _ _
theorem insR_len (f : Int → Int) (S : List Int) (x : Int) : (insR f S x).length = S.length + 1 := by
  have := posOf_le f S x
  unfold insR
  rw [List.length_append, List.length_take, List.length_cons, List.length_drop]
  omega
theorem insR_perm (f : Int → Int) (S : List Int) (x : Int) : (insR f S x).Perm (x :: S) := by
  unfold insR
  refine List.perm_middle.trans ?_
  rw [List.take_append_drop]
theorem foldl_insR (f : Int → Int) : ∀ (l S : List Int), (l.foldl (insR f) S).Perm (l ++ S)
  | [], S => List.Perm.refl _
  | x :: l, S => by
    rw [List.foldl_cons]
    refine (foldl_insR f l _).trans ?_
    refine ((insR_perm f S x).append_left l).trans ?_
    rw [List.cons_append]
    exact List.perm_middle
theorem sortL_perm (f : Int → Int) (l : List Int) : (sortL f l).Perm l := by
  have := foldl_insR f l []
  rwa [List.append_nil] at this
theorem sortL_len (f : Int → Int) (l : List Int) : (sortL f l).length = l.length := (sortL_perm f l).length_eq
theorem sortL_mem {f : Int → Int} {l : List Int} {k : Int} (h : k ∈ sortL f l) : k ∈ l := (sortL_perm f l).mem_iff.1 h
theorem sortL_succ (f : Int → Int) {l : List Int} {i : Nat} (hi : i < l.length) : sortL f (l.take (i + 1)) = insR f (sortL f (l.take i)) l[i] := by
  rw [← List.take_append_getElem hi]
  unfold sortL
  rw [List.foldl_append]
  rfl
/-- Two neighbours change places. -/
theorem swap_next {S R : List Int} {x : Int} {j : Nat} (h0 : 0 < j) (hj : j ≤ S.length) : ((S.take j ++ x :: (S.drop j ++ R)).set j (S.getD (j - 1) 0)).set (j - 1) x = S.take (j - 1) ++ x :: (S.drop (j - 1) ++ R) := by
  obtain ⟨k, rfl⟩ : ∃ k, j = k + 1 := ⟨j - 1, by omega⟩
  have e1 : S.take (k + 1) = S.take k ++ [S[k]] := (List.take_append_getElem (by omega)).symm
  have e2 : S.drop k = S[k] :: S.drop (k + 1) := List.drop_eq_getElem_cons (by omega)
  have e3 : S.getD k 0 = S[k] := by simp [show k < S.length by omega]
  have e4 : (S.take k).length = k := by rw [List.length_take]; omega
  simp only [Nat.add_sub_cancel]
  rw [e3, e1, e2, List.append_assoc, List.set_append, e4, if_neg (by omega), Nat.add_sub_cancel_left, List.set_append, e4, if_neg (by omega), Nat.sub_self]
  rfl
theorem at_mid {S R : List Int} {x : Int} {j : Nat} (hj : j ≤ S.length) : (S.take j ++ x :: (S.drop j ++ R))[j]? = some x := by
  rw [List.getElem?_append_right (by rw [List.length_take]; omega)]
  simp [show min j S.length = j by omega]
theorem at_before {S R : List Int} {x : Int} {j : Nat} (h0 : 0 < j) (hj : j ≤ S.length) : (S.take j ++ x :: (S.drop j ++ R))[j - 1]? = some (S.getD (j - 1) 0) := by
  rw [List.getElem?_append_left (by rw [List.length_take]; omega), List.getElem?_take, if_pos (by omega)]
  simp [show j - 1 < S.length by omega]

/-- All indices are those of orders. -/
def InL (l : List Order) (ks : List Int) : Prop := ∀ k ∈ ks, 0 ≤ k ∧ k < l.length
theorem InL.get {l : List Order} {ks : List Int} (h : InL l ks) {i : Nat} (hi : i < ks.length) : 0 ≤ ks.getD i 0 ∧ ks.getD i 0 < l.length := by
  have := h ks[i] (List.getElem_mem hi)
  simpa [hi] using this

theorem c_dueCmp (l : List Order) (a b : Int) (ha : 0 ≤ a ∧ a < l.length) (hb : 0 ≤ b ∧ b < l.length) :
    HFn Tryz.prog 105 [.int .i64 a, .int .i64 b, .pe 1 [[.sl 5 (Order.rows l)]] 0 0] [] (.int .i64 (cmpI (dueOf l a) (dueOf l b))) [] := by
  obtain ⟨i, rfl⟩ : ∃ i : Nat, a = i := ⟨a.toNat, by omega⟩
  obtain ⟨j, rfl⟩ : ∃ j : Nat, b = j := ⟨b.toNat, by omega⟩
  have hi : i < l.length := by omega
  have hj : j < l.length := by omega
  refine hfn_intro hm Tryz.func105 (by kernel_rfl) rfl (by kernel_rfl) rfl ret0_ok ?_
  simp [Order.rows, Order.cells, hi, hj]
  refine CallZ.use0 (c_CompareInt _ _) rfl rfl ?_
  simp [dueOf, hi, hj]

theorem c_insSortDue (l : List Order) (ks : List Int) (_hl : l.length ≤ 1048576) (hk : InL l ks) (hn : ks.length ≤ 1048576) :
    MFn Tryz.prog 190 [.sf 0 1, .int .i64 0, .int .i64 ks.length, .fn 105 [.pb 1 0]] [some (.arr 1 (intRows ks)), some (.box [.sl 5 (Order.rows l)])] [0, 1] (.tup []) [some (.arr 1 (intRows (sortL (dueOf l) ks))), some (.box [.sl 5 (Order.rows l)])] := by
  refine mfn_intro [0, 1] hm Tryz.func190 (by kernel_rfl) rfl (by kernel_rfl) rfl (retM_ok (ρ := [0, 1]) (φ := [])) (by simp [sortL_len, intRows]) ?_
  simp
  refine loop_rule hm (ι := {i : Nat // 1 ≤ i ∧ (i ≤ ks.length ∨ i = 1)}) (fun s => ⟨[(0, .sf 0 1), (1, .int .i64 0), (2, .int .i64 ks.length), (3, .fn 105 [.pb 1 0]), (8, .int .i64 s.1), (53, .own 0), (54, .own 1)], [some (.arr 1 (intRows (sortL (dueOf l) (ks.take s.1) ++ ks.drop s.1))), some (.box [.sl 5 (Order.rows l)])]⟩) (fun s => ks.length + 1 - s.1) (by kernel_rfl) ⟨1, by omega⟩ ?_ ?_
  · refine Wk.weak (ρ := [0, 1]) (φ := []) ?_
    have e : sortL (dueOf l) (ks.take 1) ++ ks.tail = ks := by
      cases ks with
      | nil => rfl
      | cons k ks => rfl
    have w1 : IntKind.i64.wrap 1 = 1 := by decide
    simp [e, w1]
  · rintro ⟨i, hi1, hi2⟩
    simp only at hi1 hi2 ⊢
    simp
    refine ⟨fun hlt => ?_, fun hge => ?_⟩
    · have hi : i < ks.length := by omega
      generalize hS : sortL (dueOf l) (ks.take i) = S
      have hSl : S.length = i := by rw [← hS, sortL_len, List.length_take]; omega
      have hSk : InL l S := fun k h => hk k (List.mem_of_mem_take (sortL_mem (by rw [hS]; exact h)))
      have hd : ks.drop i = ks[i] :: ks.drop (i + 1) := List.drop_eq_getElem_cons hi
      have hx := hk ks[i] (List.getElem_mem hi)
      refine loop_rule hm (ι := {j : Nat // j ≤ i ∧ posD (dueOf l) S ks[i] j = posOf (dueOf l) S ks[i]}) (fun s => ⟨[(0, .sf 0 1), (1, .int .i64 0), (2, .int .i64 ks.length), (3, .fn 105 [.pb 1 0]), (8, .int .i64 i), (9, .int .i64 s.1), (53, .own 0), (54, .own 1)], [some (.arr 1 (intRows (S.take s.1 ++ ks[i] :: (S.drop s.1 ++ ks.drop (i + 1))))), some (.box [.sl 5 (Order.rows l)])]⟩) (fun s => s.1) (by kernel_rfl) ⟨i, Nat.le_refl _, by unfold posOf; rw [hSl]⟩ ?_ ?_
      · refine Wk.weak (ρ := [0, 1]) (φ := []) ?_
        have e : S.take i ++ ks[i] :: (S.drop i ++ ks.drop (i + 1)) = S ++ ks.drop i := by rw [hd, List.take_of_length_le (by omega), List.drop_of_length_le (by omega)]; rfl
        simp [e]
      · rintro ⟨j, hj, hp⟩
        simp only
        have hD1 := at_mid (S := S) (R := ks.drop (i + 1)) (x := ks[i]) (j := j) (by omega)
        have hDl : (S.take j ++ ks[i] :: (S.drop j ++ ks.drop (i + 1))).length = ks.length := by simp; omega
        by_cases h0 : 0 < j
        · have hD2 := at_before (S := S) (R := ks.drop (i + 1)) (x := ks[i]) (j := j) h0 (by omega)
          have hsw := swap_next (S := S) (R := ks.drop (i + 1)) (x := ks[i]) (j := j) h0 (by omega)
          have e1 : IntKind.i64.wrap ((j : Int) - 1) = ((j - 1 : Nat) : Int) := by rw [w64 (by omega) (by omega)]; omega
          have hy := hSk.get (i := j - 1) (by omega)
          generalize hDD : S.take j ++ ks[i] :: (S.drop j ++ ks.drop (i + 1)) = D at hD1 hDl hD2 hsw ⊢
          have hj1 : j < D.length := by omega
          have hj2 : j - 1 < D.length := by omega
          have hcy := c_dueCmp l ks[i] (S.getD (j - 1) 0) hx hy
          have hpj : posD (dueOf l) S ks[i] j = if dueOf l ks[i] < dueOf l (S.getD (j - 1) 0) then posD (dueOf l) S ks[i] (j - 1) else j := by
            obtain ⟨k, rfl⟩ : ∃ k, j = k + 1 := ⟨j - 1, by omega⟩
            rfl
          generalize hgy : S.getD (j - 1) 0 = y at *
          have hR1 : (intRows D)[j]? = some [.int .i64 ks[i]] := by unfold intRows; rw [List.getElem?_map, hD1]; rfl
          have hR2 : (intRows D)[j - 1]? = some [.int .i64 y] := by unfold intRows; rw [List.getElem?_map, hD2]; rfl
          have hset : ((intRows D).set j [.int .i64 y]).set (j - 1) [.int .i64 ks[i]] = intRows (S.take (j - 1) ++ ks[i] :: (S.drop (j - 1) ++ ks.drop (i + 1))) := by rw [← hsw]; unfold intRows; rw [List.map_set, List.map_set]
          have hG1 : ∀ h, (intRows D)[j]'h = [.int .i64 ks[i]] := fun h => by rw [List.getElem?_eq_getElem h] at hR1; exact Option.some.inj hR1
          have hG2 : ∀ h, (intRows D)[j - 1]'h = [.int .i64 y] := fun h => by rw [List.getElem?_eq_getElem h] at hR2; exact Option.some.inj hR2
          simp [h0, e1, intRows_len, hj1, hj2, hG1, hG2]
          refine CallY.use (fun _ => ⟨rfl, hcy⟩) rfl rfl ?_
          have hcl : cmpI (dueOf l ks[i]) (dueOf l y) < 0 ↔ dueOf l ks[i] < dueOf l y := by unfold cmpI; grind
          simp [e1, intRows_len, hj1, hj2, hG1, hG2, hcl]
          refine ⟨fun hlt2 => ?_, fun hge2 => ?_⟩
          · have hG3 : ∀ h, ((intRows D).set j [.int .i64 y])[j - 1]'h = [.int .i64 y] := fun h => by
              rw [List.getElem_set, if_neg (by omega)]
              exact hG2 _
            refine ⟨j - 1, Wk.weak (ρ := [0, 1]) (φ := []) ?_, ⟨by omega, by rw [← hp, hpj, if_pos hlt2]⟩, by omega⟩
            simp [hG3, hset]
          · have hpo : posOf (dueOf l) S ks[i] = j := by rw [← hp, hpj, if_neg (by omega)]
            refine ⟨i + 1, Wk.weak (ρ := [0, 1]) (φ := []) ?_, ⟨by omega, by omega⟩, by omega⟩
            have hDe : D = sortL (dueOf l) (ks.take (i + 1)) ++ ks.drop (i + 1) := by
              rw [sortL_succ _ hi, hS, insR, hpo, ← hDD]
              simp
            have w1 : IntKind.i64.wrap ((i : Int) + 1) = ((i + 1 : Nat) : Int) := by rw [w64 (by omega) (by omega)]; omega
            simp [← hDe, w1, -Int.natCast_add]
        · obtain rfl : j = 0 := by omega
          have hpo : posOf (dueOf l) S ks[i] = 0 := hp.symm
          have hDe : ks[i] :: (S ++ ks.drop (i + 1)) = sortL (dueOf l) (ks.take (i + 1)) ++ ks.drop (i + 1) := by
            rw [sortL_succ _ hi, hS, insR, hpo]
            simp
          have w1 : IntKind.i64.wrap ((i : Int) + 1) = ((i + 1 : Nat) : Int) := by rw [w64 (by omega) (by omega)]; omega
          simp [intRows_len]
          refine CallY.use (res := .int .i64 0) (fun h => absurd h (by simp)) rfl rfl ?_
          simp [intRows_len]
          refine ⟨i + 1, Wk.weak (ρ := [0, 1]) (φ := []) ?_, ⟨by omega, by omega⟩, by omega⟩
          simp [hDe, w1, -Int.natCast_add]
    · have ht : ks.take i = ks := List.take_of_length_le (by omega)
      have hdr : ks.drop i = [] := List.drop_of_length_le (by omega)
      simp [ht, hdr]

theorem c_stableDue (l : List Order) (ks : List Int) (hl : l.length ≤ 1048576) (hk : InL l ks) (hn : ks.length < 20) :
    MFn Tryz.prog 150 [.sf 0 1, .int .i64 ks.length, .fn 105 [.pb 1 0]] [some (.arr 1 (intRows ks)), some (.box [.sl 5 (Order.rows l)])] [0, 1] (.tup []) [some (.arr 1 (intRows (sortL (dueOf l) ks))), some (.box [.sl 5 (Order.rows l)])] := by
  refine mfn_intro [0, 1] hm Tryz.func150 (by kernel_rfl) rfl (by kernel_rfl) rfl (retM_ok (ρ := [0, 1]) (φ := [])) (by simp [sortL_len, intRows]) ?_
  simp
  refine loop_rule hm (ι := Unit) (fun _ => ⟨[(0, .sf 0 1), (1, .int .i64 ks.length), (2, .fn 105 [.pb 1 0]), (6, .int .i64 20), (7, .int .i64 0), (8, .int .i64 20), (63, .own 0), (64, .own 1)], [some (.arr 1 (intRows ks)), some (.box [.sl 5 (Order.rows l)])]⟩) (fun _ => 0) (by kernel_rfl) () (Wk.weak (ρ := [0, 1]) (φ := []) (by simp)) fun _ => ?_
  have h1 : ¬ ((20 : Int) ≤ ks.length) := by omega
  have h2 : ¬ ((20 : Int) < ks.length) := by omega
  simp [h1]
  refine CallZ.useM [0, 1] [] [] (c_insSortDue l ks hl hk (by omega)) (by simp) rfl rfl (by simp) rfl rfl rfl (.inl rfl) ?_
  simp
  refine loop_rule hm (ι := Unit) (fun _ => ⟨[(0, .sf 0 1), (1, .int .i64 ks.length), (6, .int .i64 20), (63, .own 0), (64, .own 1)], [some (.arr 1 (intRows (sortL (dueOf l) ks))), some (.box [.sl 5 (Order.rows l)])]⟩) (fun _ => 0) (by kernel_rfl) () (Wk.weak (ρ := [0, 1]) (φ := []) (by simp)) fun _ => ?_
  simp [h2]

theorem c_SortStableDue (l : List Order) (ks : List Int) (hl : l.length ≤ 1048576) (hk : InL l ks) (hn : ks.length < 20) :
    MFn Tryz.prog 104 [.sf 0 1, .fn 105 [.pb 1 0]] [some (.arr 1 (intRows ks)), some (.box [.sl 5 (Order.rows l)])] [0, 1] (.tup []) [some (.arr 1 (intRows (sortL (dueOf l) ks))), some (.box [.sl 5 (Order.rows l)])] := by
  refine mfn_intro [0, 1] hm Tryz.func104 (by kernel_rfl) rfl (by kernel_rfl) rfl (retM_ok (ρ := [0, 1]) (φ := [])) (by simp [sortL_len, intRows]) ?_
  simp [intRows_len]
  refine CallZ.useM [0, 1] [] [] (c_stableDue l ks hl hk hn) (by simp) rfl rfl (by simp) rfl rfl rfl (.inl rfl) ?_
  simp

theorem c_sortedByDue (l : List Order) (ks : List Int) (hl : l.length ≤ 1048576) (hk : InL l ks) (hn : ks.length < 20) :
    HFn Tryz.prog 53 [.sl 5 (Order.rows l), .sl 1 (intRows ks)] [] (.sf 0 1) [some (.arr 1 (intRows (sortL (dueOf l) ks)))] := by
  refine hfn_intro hm Tryz.func53 (by kernel_rfl) rfl (by kernel_rfl) rfl (retN_ok (ρ := [1]) (φ := [])) ?_
  simp
  refine CallZ.use (c_CloneInt64 (intRows ks) (intRowsOne _) (by rw [intRows_len]; omega)) rfl (.inr ⟨flat_intRows _, trivial⟩) rfl rfl ?_
  simp
  refine CallZ.useM [1, 0] [] [] (c_SortStableDue l ks hl hk hn) (by simp) rfl rfl (by simp) rfl rfl rfl (.inl rfl) ?_
  simp

/-- The first n numbers. -/
def upN (n : Nat) : List Int := (List.range n).map fun i : Nat => (i : Int)
theorem upN_len (n : Nat) : (upN n).length = n := by simp [upN]
theorem upN_succ (n : Nat) : upN (n + 1) = upN n ++ [(n : Int)] := by simp [upN, List.range_succ]
theorem upN_in (l : List Order) : InL l (upN l.length) := fun k hk => by
  simp [upN] at hk
  omega

theorem c_allOrders (l : List Order) (hl : l.length ≤ 1048576) : HFn Tryz.prog 54 [.sl 5 (Order.rows l)] [] (.sf 0 1) [some (.arr 1 (intRows (upN l.length)))] := by
  refine hfn_intro hm Tryz.func54 (by kernel_rfl) rfl (by kernel_rfl) rfl (retN_ok (ρ := [0]) (φ := [])) ?_
  simp
  refine CallZ.use0 (c_sizeOrder l) rfl rfl ?_
  simp
  refine loop_upto hm l.length (fun i => ⟨[(7, .int .i64 i), (6, .int .i64 l.length), (3, .sf 0 1)], [some (.arr 1 (intRows (upN i)))]⟩) (fun _ => True) (by kernel_rfl) ?_ trivial (fun i hi _ => ?_) (fun _ => ?_)
  · exact (weak_nil (t := 3) (z := 1) rfl).trans (Wk.weak (ρ := [0]) (φ := []) (by simp [intRows, upN]))
  · have w1 : IntKind.i64.wrap ((i : Int) + 1) = (i : Int) + 1 := w64 (by omega) (by omega)
    simp [hi, intRows_len, upN_len, w1]
    refine ⟨by simp [rowsOne], by omega, by omega, Wk.weak (ρ := [0]) (φ := []) ?_⟩
    simp [upN_succ, intRows]
  · simp

end Go.Proofs.YtjeioaeipffifaaGreatDoor
