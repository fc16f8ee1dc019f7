/- Orders in time: the search finds the best of all choices that can be done; choices as lists of their own; the latest beginning. No condition. -/
import Derived.Test.YteomgilojaibeaaNb
import Derived.Test.YteomgilojaibeaaMe
namespace Go.Proofs.Yteomgilojaibeaa
open Go Go.Ab
set_option maxRecDepth 100000

/-- Choice d is reached from choice c with the numbers from k on. -/
inductive Ext (ok : List Int → Bool) (n : Nat) : Nat → List Int → List Int → Prop
  | stop (k : Nat) (c : List Int) : Ext ok n k c c
  | step {k : Nat} {c d : List Int} (j : Nat) (h1 : k ≤ j) (h2 : j < n) (h3 : ok (c ++ [(j : Int)]) = true) (h4 : Ext ok n (j + 1) (c ++ [(j : Int)]) d) : Ext ok n k c d

theorem pickT_ge (V : List Int → Int) (c b : List Int) : V c ≤ V (pickT V c b).2 ∧ V b ≤ V (pickT V c b).2 := by
  unfold pickT
  split
  · exact ⟨Int.le_refl _, by simp only; omega⟩
  · exact ⟨by simp only; omega, Int.le_refl _⟩
theorem srT_ge {V : List Int → Int} {ok : List Int → Bool} {n : Nat} : ∀ (N : Nat) (c : List Int) (k : Nat) (b : List Int), n - k ≤ N →
    V b ≤ V (srT V ok n N c k b).2 ∧ ∀ d, Ext ok n k c d → V d ≤ V (srT V ok n N c k b).2
  | 0, c, k, b, hN => by
    refine ⟨(pickT_ge V c b).2, fun d hd => ?_⟩
    cases hd with
    | stop => exact (pickT_ge V c b).1
    | step j h1 h2 => omega
  | N + 1, c, k, b, hN => by
    have key : ∀ i, i ≤ n - k → ∀ a, a = rnds (fun j a => if ok (c ++ [(j : Int)]) = true then (if (srT V ok n N (c ++ [(j : Int)]) (j + 1) a.2).1 = 0 then a.1 else 2, (srT V ok n N (c ++ [(j : Int)]) (j + 1) a.2).2) else a) k (pickT V c b) i →
        V b ≤ V a.2 ∧ V c ≤ V a.2 ∧ ∀ j, k ≤ j → j < k + i → ok (c ++ [(j : Int)]) = true → ∀ d, Ext ok n (j + 1) (c ++ [(j : Int)]) d → V d ≤ V a.2 := fun i => by
      induction i with
      | zero =>
        rintro _ a rfl
        exact ⟨(pickT_ge V c b).2, (pickT_ge V c b).1, fun j h1 h2 => by omega⟩
      | succ i ih =>
        rintro hi a rfl
        obtain ⟨g1, g2, g3⟩ := ih (by omega) _ rfl
        show V b ≤ V (ite _ _ _ : Nat × List Int).2 ∧ V c ≤ V (ite _ _ _ : Nat × List Int).2 ∧ ∀ j, k ≤ j → j < k + (i + 1) → ok (c ++ [(j : Int)]) = true → ∀ d, Ext ok n (j + 1) (c ++ [(j : Int)]) d → V d ≤ V (ite _ _ _ : Nat × List Int).2
        split
        · rename_i hok
          have hs := srT_ge (V := V) (ok := ok) (n := n) N (c ++ [((k + i : Nat) : Int)]) (k + i + 1) (rnds (fun j a => if ok (c ++ [(j : Int)]) = true then (if (srT V ok n N (c ++ [(j : Int)]) (j + 1) a.2).1 = 0 then a.1 else 2, (srT V ok n N (c ++ [(j : Int)]) (j + 1) a.2).2) else a) k (pickT V c b) i).2 (by omega)
          refine ⟨Int.le_trans g1 hs.1, Int.le_trans g2 hs.1, fun j h1 h2 h3 d hd => ?_⟩
          by_cases hj : j < k + i
          · exact Int.le_trans (g3 j h1 hj h3 d hd) hs.1
          · obtain rfl : j = k + i := by omega
            exact hs.2 d hd
        · rename_i hok
          refine ⟨g1, g2, fun j h1 h2 h3 d hd => ?_⟩
          by_cases hj : j < k + i
          · exact g3 j h1 hj h3 d hd
          · obtain rfl : j = k + i := by omega
            exact absurd h3 hok
    obtain ⟨g1, g2, g3⟩ := key (n - k) (Nat.le_refl _) _ rfl
    refine ⟨g1, fun d hd => ?_⟩
    cases hd with
    | stop => exact g2
    | step j h1 h2 h3 h4 => exact g3 j h1 (by omega) h3 d h4
theorem srT_ext {V : List Int → Int} {ok : List Int → Bool} {n : Nat} : ∀ (N : Nat) (c : List Int) (k : Nat) (b : List Int), (srT V ok n N c k b).2 = b ∨ Ext ok n k c (srT V ok n N c k b).2
  | 0, c, k, b => by
    show (pickT V c b).2 = b ∨ Ext ok n k c (pickT V c b).2
    unfold pickT
    split
    · exact .inr (.stop _ _)
    · exact .inl rfl
  | N + 1, c, k, b => by
    have key : ∀ i, i ≤ n - k → ∀ a, a = rnds (fun j a => if ok (c ++ [(j : Int)]) = true then (if (srT V ok n N (c ++ [(j : Int)]) (j + 1) a.2).1 = 0 then a.1 else 2, (srT V ok n N (c ++ [(j : Int)]) (j + 1) a.2).2) else a) k (pickT V c b) i →
        a.2 = b ∨ Ext ok n k c a.2 := fun i => by
      induction i with
      | zero =>
        rintro _ a rfl
        show (pickT V c b).2 = b ∨ Ext ok n k c (pickT V c b).2
        unfold pickT
        split
        · exact .inr (.stop _ _)
        · exact .inl rfl
      | succ i ih =>
        rintro hi a rfl
        have g := ih (by omega) _ rfl
        show (ite _ _ _ : Nat × List Int).2 = b ∨ Ext ok n k c (ite _ _ _ : Nat × List Int).2
        split
        · rename_i hok
          rcases srT_ext (V := V) (ok := ok) (n := n) N (c ++ [((k + i : Nat) : Int)]) (k + i + 1) (rnds (fun j a => if ok (c ++ [(j : Int)]) = true then (if (srT V ok n N (c ++ [(j : Int)]) (j + 1) a.2).1 = 0 then a.1 else 2, (srT V ok n N (c ++ [(j : Int)]) (j + 1) a.2).2) else a) k (pickT V c b) i).2 with e | e
          · simp only [e]
            exact g
          · exact .inr (.step (k + i) (by omega) (by omega) hok e)
        · exact g
    exact key (n - k) (Nat.le_refl _) _ rfl

theorem bestL_ge (V : List Int → Int) (l : List Order) (start : Int) {d : List Int} (hd : Ext (fitsT l start) l.length 0 [] d) : V d ≤ V (bestL V l start) := (srT_ge l.length [] 0 [] (by omega)).2 d hd
theorem bestL_ext (V : List Int → Int) (l : List Order) (start : Int) : Ext (fitsT l start) l.length 0 [] (bestL V l start) := by
  rcases srT_ext (V := V) (ok := fitsT l start) (n := l.length) l.length [] 0 [] with e | e
  · show Ext (fitsT l start) l.length 0 [] (srT V (fitsT l start) l.length l.length [] 0 []).2
    rw [e]
    exact .stop _ _
  · exact e

/-- A choice: rising numbers below n. -/
def Rises (n : Nat) (c : List Int) : Prop := c.Pairwise (· < ·) ∧ ∀ x ∈ c, 0 ≤ x ∧ x < n
theorem Ext.rises {ok : List Int → Bool} {n k : Nat} {c d : List Int} (h : Ext ok n k c d) : Rises n c → (∀ x ∈ c, x < k) → Rises n d ∧ (d = c ∨ ok d = true) := by
  induction h with
  | stop => exact fun hr _ => ⟨hr, .inl rfl⟩
  | @step k c d j h1 h2 h3 h4 ih =>
    intro hr hk
    obtain ⟨g1, g2⟩ := ih ⟨List.pairwise_append.2 ⟨hr.1, List.pairwise_singleton _ _, fun a ha b hb => by have := hk a ha; rw [List.mem_singleton.1 hb]; omega⟩, fun x hx => by
        rcases List.mem_append.1 hx with hx | hx
        · exact hr.2 x hx
        · rw [List.mem_singleton.1 hx]; omega⟩ (fun x hx => by
        rcases List.mem_append.1 hx with hx | hx
        · have := hk x hx; omega
        · rw [List.mem_singleton.1 hx]; omega)
    refine ⟨g1, .inr ?_⟩
    rcases g2 with rfl | g2
    · exact h3
    · exact g2
theorem bestL_rises (V : List Int → Int) (l : List Order) (start : Int) : Rises l.length (bestL V l start) ∧ (bestL V l start = [] ∨ fitsT l start (bestL V l start) = true) :=
  (bestL_ext V l start).rises ⟨List.Pairwise.nil, by simp⟩ (by simp)
theorem rises_len {n : Nat} : ∀ {c : List Int}, Rises n c → ∀ i (h : i < c.length), (i : Int) ≤ c[i] ∧ c[i] + (c.length - i) ≤ n := fun {c} hr => by
  have hp := List.pairwise_iff_getElem.1 hr.1
  have lo : ∀ i (h : i < c.length), (i : Int) ≤ c[i] := fun i => by
    induction i with
    | zero => intro h; exact (hr.2 _ (List.getElem_mem h)).1
    | succ i ih =>
      intro h
      have h1 := ih (by omega)
      have h2 := hp i (i + 1) (by omega) h (by omega)
      omega
  have hi : ∀ j i (h : i < c.length), c.length = i + 1 + j → c[i] + (c.length - i) ≤ n := fun j => by
    induction j with
    | zero =>
      intro i h e
      have := (hr.2 _ (List.getElem_mem h)).2
      omega
    | succ j ih =>
      intro i h e
      have h1 := ih (i + 1) (by omega) (by omega)
      have h2 := hp i (i + 1) h (by omega) (by omega)
      omega
  exact fun i h => ⟨lo i h, hi (c.length - (i + 1)) i h (by omega)⟩
theorem rises_le {n : Nat} {c : List Int} (hr : Rises n c) : c.length ≤ n := by
  by_cases h : 0 < c.length
  · have := rises_len hr 0 h
    omega
  · omega
theorem rises_full {n : Nat} {c : List Int} (hr : Rises n c) (h : c.length = n) : c = upN n := by
  refine List.ext_getElem (by rw [upN_len, h]) fun i h1 h2 => ?_
  have := rises_len hr i h1
  simp [upN]
  omega

/-! ### The delay is not positive -/
theorem mxD_le_iff (l : List Order) (order : List Int) (start : Int) : ∀ i, mxD l order start i ≤ 0 ↔ ∀ j, j < i → delAt l order start j ≤ 0
  | 0 => by simp [mxD]
  | i + 1 => by
    have ih := mxD_le_iff l order start i
    simp only [mxD]
    constructor
    · intro h j hj
      by_cases e : j < i
      · exact ih.1 (by omega) j e
      · obtain rfl : j = i := by omega
        omega
    · intro h
      have h1 := ih.2 fun j hj => h j (by omega)
      have h2 := h i (by omega)
      omega
theorem insR_fits {l : List Order} {start x : Int} {S : List Int} (hd : 0 ≤ dayOf l x) (h : delayOf l (insR (dueOf l) S x) start ≤ 0) : delayOf l S start ≤ 0 := by
  have hp := posOf_le (dueOf l) S x
  unfold delayOf at h ⊢
  rw [mxD_le_iff] at h ⊢
  rw [insR_len] at h
  generalize hP : posOf (dueOf l) S x = p at hp
  have hS : insR (dueOf l) S x = S.take p ++ x :: S.drop p := by unfold insR; rw [hP]
  rw [hS] at h
  intro j hj
  have eT : (S.take p).length = p := by rw [List.length_take]; omega
  by_cases hjp : j < p
  · have h1 := h j (by omega)
    have e1 : (S.take p ++ x :: S.drop p).take (j + 1) = S.take (j + 1) := by
      rw [List.take_append_of_le_length (by omega), List.take_take, Nat.min_eq_left (by omega)]
    have e2 : (S.take p ++ x :: S.drop p).getD j 0 = S.getD j 0 := by
      rw [List.getD_eq_getElem?_getD, List.getElem?_append_left (by omega), List.getElem?_take, if_pos hjp, ← List.getD_eq_getElem?_getD]
    unfold delAt endAt sumI at h1 ⊢
    rw [e1, e2] at h1
    exact h1
  · have h1 := h (j + 1) (by omega)
    obtain ⟨q, rfl⟩ : ∃ q, j = p + q := ⟨j - p, by omega⟩
    have e1 : (S.take p ++ x :: S.drop p).take (p + q + 1 + 1) = S.take p ++ x :: (S.drop p).take (q + 1) := by
      rw [List.take_append, eT, List.take_of_length_le (by omega), show p + q + 1 + 1 - p = q + 1 + 1 by omega, List.take_succ_cons]
    have e2 : (S.take p ++ x :: S.drop p).getD (p + q + 1) 0 = S.getD (p + q) 0 := by
      rw [List.getD_eq_getElem?_getD, List.getElem?_append_right (by omega), eT, show p + q + 1 - p = q + 1 by omega, List.getElem?_cons_succ, List.getElem?_drop, ← List.getD_eq_getElem?_getD]
    have e3 : S.take (p + q + 1) = S.take p ++ (S.drop p).take (q + 1) := by rw [show p + q + 1 = p + (q + 1) by omega, List.take_add]
    unfold delAt endAt sumI at h1 ⊢
    rw [e1, e2] at h1
    rw [e3]
    simp only [List.map_append, List.map_cons, List.sum_append, List.sum_cons] at h1 ⊢
    omega
theorem upN_fits {l : List Order} (hv : validOrders l = true) {start : Int} : ∀ (d i : Nat), fitsT l start (upN (i + d)) = true → fitsT l start (upN i) = true
  | 0, i, h => h
  | d + 1, i, h => upN_fits hv d i (by
    unfold fitsT at h ⊢
    simp only [decide_eq_true_eq] at h ⊢
    have e : sortL (dueOf l) (upN (i + (d + 1))) = insR (dueOf l) (sortL (dueOf l) (upN (i + d))) ((i + d : Nat) : Int) := by
      rw [show i + (d + 1) = i + d + 1 from rfl, upN_succ]
      unfold sortL
      rw [List.foldl_append]
      rfl
    rw [e] at h
    exact insR_fits (dayOf_le hv _).1 h)
theorem upN_ext {l : List Order} (hv : validOrders l = true) {start : Int} (h : fitsT l start (upN l.length) = true) : Ext (fitsT l start) l.length 0 [] (upN l.length) := by
  have key : ∀ d i, i + d = l.length → Ext (fitsT l start) l.length i (upN i) (upN l.length) := fun d => by
    induction d with
    | zero =>
      intro i e
      obtain rfl : i = l.length := by omega
      exact .stop _ _
    | succ d ih =>
      intro i e
      have e1 : upN i ++ [(i : Int)] = upN (i + 1) := (upN_succ i).symm
      refine .step i (Nat.le_refl _) (by omega) ?_ ?_
      · rw [e1]
        exact upN_fits hv (l.length - (i + 1)) (i + 1) (by rw [show i + 1 + (l.length - (i + 1)) = l.length by omega]; exact h)
      · rw [e1]
        exact ih (i + 1) (by omega)
  exact key l.length 0 (by omega)

theorem mxD_shift {l : List Order} {order : List Int} (hk : SeqOk l order 0) (ho : order.length ≤ 1048576) {start : Int} (h0 : 0 ≤ start) : ∀ i, i + 1 ≤ order.length → mxD l order start (i + 1) = mxD l order 0 (i + 1) + start := fun i => by
  have hs : ∀ j, delAt l order start j = delAt l order 0 j + start := fun j => by unfold delAt endAt; omega
  induction i with
  | zero =>
    intro hi
    have h1 := delAt_le hk ho (i := 0) (by omega)
    have h2 := hs 0
    simp only [mxD]
    omega
  | succ i ih =>
    intro hi
    have h1 := ih (by omega)
    have h2 := hs (i + 1)
    have e1 : mxD l order start (i + 1 + 1) = max (mxD l order start (i + 1)) (delAt l order start (i + 1)) := rfl
    have e2 : mxD l order 0 (i + 1 + 1) = max (mxD l order 0 (i + 1)) (delAt l order 0 (i + 1)) := rfl
    rw [e1, e2, h1, h2]
    omega
theorem late_iff {l : List Order} (hv : validOrders l = true) (hne : l ≠ []) {start : Int} (h0 : 0 ≤ start) : (start ≤ lateN l) ↔ fitsT l start (upN l.length) = true := by
  have h12 := validOrders_le hv
  have hs : SeqOk l (byDue l) 0 := seqOk_of_in hv (byDue_in l) (by omega) (by omega)
  have hlen : 0 < l.length := List.length_pos_iff.2 hne
  have hb : (byDue l).length = l.length - 1 + 1 := by rw [byDue_len]; omega
  have := mxD_shift hs (by rw [byDue_len]; omega) h0 (l.length - 1) (by omega)
  rw [← hb] at this
  have e : fitsT l start (upN l.length) = decide (delayOf l (byDue l) start ≤ 0) := rfl
  rw [e, decide_eq_true_eq]
  unfold lateN
  unfold delayOf
  omega

/-- What the law says of the latest beginning. -/
theorem most_all {l : List Order} (hv : validOrders l = true) (hne : l ≠ []) {start : Int} (h0 : 0 ≤ start) : (start ≤ lateN l) ↔ (bestL cntV l start).length = l.length := by
  rw [late_iff hv hne h0]
  obtain ⟨hr, hf⟩ := bestL_rises cntV l start
  constructor
  · intro h
    have h1 := bestL_ge cntV l start (upN_ext hv h)
    have h2 := rises_le hr
    have h3 : ((upN l.length).length : Int) ≤ ((bestL cntV l start).length : Int) := h1
    rw [upN_len] at h3
    omega
  · intro h
    have e := rises_full hr h
    rcases hf with g | g
    · rw [g] at h
      exact absurd (List.eq_nil_of_length_eq_zero h.symm) hne
    · rwa [e] at g

/-! ### A choice as a list of its own -/
/-- The orders of a choice. -/
def selL (l : List Order) (c : List Int) : List Order := c.filterMap fun k => l[k.toNat]?
theorem selL_cons {l : List Order} {k : Int} {c : List Int} (h : 0 ≤ k ∧ k < l.length) : selL l (k :: c) = l[k.toNat]'(by omega) :: selL l c := by
  unfold selL
  rw [List.filterMap_cons, List.getElem?_eq_getElem (by omega)]
theorem selL_get {l : List Order} : ∀ {c : List Int}, InL l c → ∀ i (h : i < c.length), (selL l c)[i]? = l[c[i].toNat]?
  | k :: c, hc, i, h => by
    rw [selL_cons (hc k (by simp))]
    cases i with
    | zero => simp
    | succ i => simpa using selL_get (fun x hx => hc x (by simp [hx])) i (by simpa using h)
theorem selL_len {l : List Order} : ∀ {c : List Int}, InL l c → (selL l c).length = c.length
  | [], _ => rfl
  | k :: c, hc => by rw [selL_cons (hc k (by simp)), List.length_cons, List.length_cons, selL_len fun x hx => hc x (by simp [hx])]
theorem selL_snoc {l : List Order} {c : List Int} {k : Int} (h : 0 ≤ k ∧ k < l.length) : selL l (c ++ [k]) = selL l c ++ [l[k.toNat]'(by omega)] := by
  unfold selL
  rw [List.filterMap_append, List.filterMap_cons, List.getElem?_eq_getElem (by omega)]
  rfl
theorem selL_at {l : List Order} {c : List Int} (hc : InL l c) {i : Nat} (h : i < c.length) : ∃ (h1 : i < (selL l c).length) (h2 : c[i].toNat < l.length), (selL l c)[i] = l[c[i].toNat] := by
  have h1 : i < (selL l c).length := by rw [selL_len hc]; exact h
  have h3 := hc c[i] (List.getElem_mem h)
  have h2 : c[i].toNat < l.length := by omega
  refine ⟨h1, h2, ?_⟩
  have := selL_get hc i h
  rw [List.getElem?_eq_getElem h1, List.getElem?_eq_getElem h2] at this
  exact Option.some.inj this
theorem selL_valid {l : List Order} (hv : validOrders l = true) {c : List Int} (hr : Rises l.length c) : validOrders (selL l c) = true := by
  have hc : InL l c := hr.2
  obtain ⟨h1, h2, h3⟩ := orders_iff.1 hv
  refine orders_iff.2 ⟨fun x hx => ?_, List.pairwise_iff_getElem.2 fun i j hi hj hij => ?_, ?_⟩
  · obtain ⟨i, hi, rfl⟩ := List.getElem_of_mem hx
    rw [selL_len hc] at hi
    obtain ⟨_, g2, g3⟩ := selL_at hc hi
    rw [g3]
    exact h1 _ (List.getElem_mem _)
  · rw [selL_len hc] at hi hj
    obtain ⟨_, a2, a3⟩ := selL_at hc hi
    obtain ⟨_, b2, b3⟩ := selL_at hc hj
    rw [a3, b3]
    have hlt := List.pairwise_iff_getElem.1 hr.1 i j hi hj hij
    have := hc c[i] (List.getElem_mem hi)
    exact List.pairwise_iff_getElem.1 h2 _ _ a2 b2 (by omega)
  · rw [selL_len hc]
    have := rises_le hr
    omega

theorem posD_congr {f g : Int → Int} {S : List Int} {x : Int} (hx : f x = g x) (h : ∀ y ∈ S, f y = g y) : ∀ a, a ≤ S.length → posD f S x a = posD g S x a
  | 0, _ => rfl
  | a + 1, ha => by
    have e : S.getD a 0 ∈ S := by rw [List.getD_eq_getElem?_getD, List.getElem?_eq_getElem (by omega)]; exact List.getElem_mem _
    unfold posD
    rw [hx, h _ e, posD_congr hx h a (by omega)]
theorem posD_map {f : Int → Int} {g : Int → Int} {S : List Int} {x : Int} : ∀ a, a ≤ S.length → posD f (S.map g) (g x) a = posD (fun y => f (g y)) S x a
  | 0, _ => rfl
  | a + 1, ha => by
    have e : (S.map g).getD a 0 = g (S.getD a 0) := by
      rw [List.getD_eq_getElem?_getD, List.getD_eq_getElem?_getD, List.getElem?_map, List.getElem?_eq_getElem (by omega)]
      rfl
    unfold posD
    rw [e, posD_map a (by omega)]
theorem insR_map (f g : Int → Int) (S : List Int) (x : Int) : insR f (S.map g) (g x) = (insR (fun y => f (g y)) S x).map g := by
  unfold insR posOf
  rw [List.length_map, posD_map _ (Nat.le_refl _)]
  simp
theorem sortL_map (f g : Int → Int) (L : List Int) : sortL f (L.map g) = (sortL (fun y => f (g y)) L).map g := by
  have key : ∀ (L S : List Int), (L.map g).foldl (insR f) (S.map g) = (L.foldl (insR fun y => f (g y)) S).map g := fun L => by
    induction L with
    | nil => intro S; rfl
    | cons x L ih =>
      intro S
      rw [List.map_cons, List.foldl_cons, List.foldl_cons, insR_map, ih]
  exact key L []
theorem sortL_congr {f g : Int → Int} {L : List Int} (h : ∀ y ∈ L, f y = g y) : sortL f L = sortL g L := by
  have key : ∀ (L S : List Int), (∀ y ∈ L, f y = g y) → (∀ y ∈ S, f y = g y) → L.foldl (insR f) S = L.foldl (insR g) S := fun L => by
    induction L with
    | nil => intro S _ _; rfl
    | cons x L ih =>
      intro S hL hS
      have e : insR f S x = insR g S x := by
        unfold insR posOf
        rw [posD_congr (hL x (by simp)) hS _ (Nat.le_refl _)]
      rw [List.foldl_cons, List.foldl_cons, e]
      refine ih _ (fun y hy => hL y (by simp [hy])) fun y hy => ?_
      rcases List.mem_cons.1 ((insR_perm g S x).mem_iff.1 hy) with rfl | hy
      · exact hL _ (by simp)
      · exact hS y hy
  exact key L [] h (by simp)

theorem upN_map (c : List Int) : (upN c.length).map (fun k => c.getD k.toNat 0) = c := by
  refine List.ext_getElem (by simp [upN]) fun i h1 h2 => ?_
  simp [upN, h2]
theorem sel_due {l : List Order} {c : List Int} (hc : InL l c) {k : Int} (hk : 0 ≤ k ∧ k < c.length) : dueOf (selL l c) k = dueOf l (c.getD k.toNat 0) ∧ dayOf (selL l c) k = dayOf l (c.getD k.toNat 0) := by
  have hi : k.toNat < c.length := by omega
  have e := selL_get hc k.toNat hi
  have e2 : c.getD k.toNat 0 = c[k.toNat] := by simp [hi]
  unfold dueOf dayOf
  rw [e, e2]
  exact ⟨rfl, rfl⟩
/-- The delay of a choice is that of its list. -/
theorem sel_delay {l : List Order} {c : List Int} (hc : InL l c) (start : Int) : delayOf (selL l c) (byDue (selL l c)) start = delayOf l (sortL (dueOf l) c) start := by
  have hlen := selL_len hc
  have e1 : sortL (dueOf l) c = (byDue (selL l c)).map fun k => c.getD k.toNat 0 := by
    have : sortL (dueOf l) ((upN c.length).map fun k => c.getD k.toNat 0) = (sortL (fun k => dueOf l (c.getD k.toNat 0)) (upN c.length)).map fun k => c.getD k.toNat 0 := sortL_map _ _ _
    rw [upN_map] at this
    rw [this]
    unfold byDue
    rw [hlen]
    rw [sortL_congr (f := dueOf (selL l c)) (g := fun k => dueOf l (c.getD k.toNat 0)) fun y hy => ?_]
    simp [upN] at hy
    exact (sel_due hc (by omega)).1
  have hB : ∀ k ∈ byDue (selL l c), 0 ≤ k ∧ k < c.length := fun k hk => by
    have := byDue_in (selL l c) k hk
    omega
  rw [e1]
  generalize byDue (selL l c) = B at hB ⊢
  unfold delayOf
  rw [List.length_map]
  have key : ∀ i, i ≤ B.length → mxD (selL l c) B start i = mxD l (B.map fun k => c.getD k.toNat 0) start i := fun i => by
    induction i with
    | zero => intro _; rfl
    | succ i ih =>
      intro hi
      have hs : delAt (selL l c) B start i = delAt l (B.map fun k => c.getD k.toNat 0) start i := by
        have g1 : B.getD i 0 = B[i] := by simp [show i < B.length by omega]
        have g2 : (B.map fun k => c.getD k.toNat 0).getD i 0 = c.getD (B[i]'(by omega)).toNat 0 := by simp [show i < B.length by omega]
        unfold delAt endAt sumI
        rw [g1, g2, (sel_due hc (hB B[i] (List.getElem_mem _))).1, ← List.map_take, List.map_map]
        congr 3
        refine List.map_congr_left fun k hk => ?_
        exact (sel_due hc (hB k (List.mem_of_mem_take hk))).2
      rw [mxD, mxD, ih (by omega), hs]
  exact key B.length (Nat.le_refl _)
theorem upN_nodup (n : Nat) : (upN n).Nodup := by
  refine List.pairwise_iff_getElem.2 fun i j hi hj hij => ?_
  simp [upN]
  omega
theorem byDue_seq {l : List Order} (hv : validOrders l = true) {start : Int} (h0 : 0 ≤ start) (h1 : start ≤ 10000) : seqCode l (byDue l) start = 0 := by
  unfold seqCode
  rw [if_pos hv, if_pos ⟨h0, h1⟩, if_pos]
  have hn : (byDue l).Nodup := (sortL_perm _ _).nodup_iff.2 (upN_nodup _)
  refine List.all_eq_true.2 fun i hi => ?_
  have hi := List.mem_range.1 hi
  refine (seqAt_iff hi).2 ?_
  have := byDue_in l _ (List.getElem_mem hi)
  refine ⟨this.1, by omega, fun x hx e => ?_⟩
  obtain ⟨j, hj, rfl⟩ := List.getElem_of_mem hx
  rw [List.length_take] at hj
  rw [List.getElem_take] at e
  exact List.pairwise_iff_getElem.1 hn j i (by omega) hi (by omega) e.symm
end Go.Proofs.Yteomgilojaibeaa
