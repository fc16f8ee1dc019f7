/- The check value of bytes tells texts apart that are unlike at one byte. No condition.; The text of a ledger, and what is read back of it, of its beginnings, and of it with one byte changed: the plain law. No condition. -/
import Derived.Test.YtmdablalfmcgnaaGreatDoorYa
import Derived.Test.YtmdablalfmcgnaaGreatDoorOl
-- from Yb
namespace Go.Proofs.YtmdablalfmcgnaaGreatDoor
open Go Go.Ab
set_option maxRecDepth 100000

theorem name_free {s : List UInt8} (h : isName s = true) : (32 : UInt8) ∉ s ∧ (10 : UInt8) ∉ s := by
  refine ⟨fun h1 => ?_, fun h1 => ?_⟩
  · rw [isName_sp h1] at h
    cases h
  · simp only [isName, Bool.and_eq_true, List.all_eq_true] at h
    obtain ⟨i, hi, h10⟩ := List.getElem_of_mem h1
    have := h.2 i (List.mem_range.2 hi)
    simp [nameAt, hi, h10, isSmall, isDigit] at this
/-- A valid record's text is read back as the record. -/
theorem readV_text {r : Record} (h : validRecord r = true) : readV (recTx r) = r := by
  obtain ⟨k, key, text⟩ := r
  unfold validRecord at h
  simp only at h
  split at h
  · rename_i h1
    simp only [Bool.and_eq_true] at h
    have hk := (name_free h.1).1
    have e : recTx ⟨k, key, text⟩ = wSet ++ 32 :: (key ++ 32 :: text) := by simp [recTx, h1]
    have c1 := cut_free (c := 32) (x := wSet) (by decide) (key ++ 32 :: text)
    have c2 := cut_free (c := 32) (x := key) hk text
    unfold readV
    rw [e, c1]
    simp only
    rw [if_pos trivial, c2, h1]
  · rename_i h1
    split at h
    · rename_i h2
      simp only [Bool.and_eq_true, decide_eq_true_eq] at h
      have e : recTx ⟨k, key, text⟩ = wDrop ++ 32 :: key := by simp [recTx, h2]
      have c1 := cut_free (c := 32) (x := wDrop) (by decide) key
      unfold readV
      rw [e, c1]
      simp only
      rw [if_neg (by decide), if_pos trivial, h2, h.2]
    · rename_i h2
      simp only [Bool.and_eq_true, decide_eq_true_eq] at h
      have e : recTx ⟨k, key, text⟩ = wUndo := by simp [recTx, h1, h2]
      have c1 : Lib.cut wUndo [32] = (wUndo, [], false) := by decide
      unfold readV
      rw [e, c1]
      simp only
      rw [if_neg (by decide), if_neg (by decide), h.1.1, h.1.2, h.2]
theorem fine_text {r : Record} (h : validRecord r = true) : fineV (recTx r) = true := by
  unfold fineV
  rw [readV_text h, h]
  simp
/-- How a text of a record begins. -/
theorem text_head (r : Record) : ∃ b s, recTx r = b :: s ∧ (b = 115 ∨ b = 100 ∨ b = 117) := by
  unfold recTx
  split
  · exact ⟨115, _, rfl, .inl rfl⟩
  · split
    · exact ⟨100, _, rfl, .inr (.inl rfl)⟩
    · exact ⟨117, _, rfl, .inr (.inr rfl)⟩
theorem text_free {r : Record} (h : validRecord r = true) : (10 : UInt8) ∉ recTx r := by
  obtain ⟨k, key, text⟩ := r
  unfold validRecord at h
  simp only at h
  split at h
  · rename_i h1
    simp only [Bool.and_eq_true, isRemark, List.all_eq_true] at h
    have hk := (name_free h.1).2
    have ht : (10 : UInt8) ∉ text := fun hm => by
      have := h.2.2 _ hm
      simp [remarkB] at this
    have e : recTx ⟨k, key, text⟩ = wSet ++ 32 :: (key ++ 32 :: text) := by simp [recTx, h1]
    rw [e]
    simp [wSet, hk, ht]
  · rename_i h1
    split at h
    · rename_i h2
      simp only [Bool.and_eq_true, decide_eq_true_eq] at h
      have hk := (name_free h.1).2
      have e : recTx ⟨k, key, text⟩ = wDrop ++ 32 :: key := by simp [recTx, h2]
      rw [e]
      simp [wDrop, hk]
    · rename_i h2
      have e : recTx ⟨k, key, text⟩ = wUndo := by simp [recTx, h1, h2]
      rw [e]
      decide
theorem line_cut (v : Int) (t : List UInt8) : Lib.cut (Lib.itoa v ++ 32 :: t) [32] = (Lib.itoa v, t, true) := cut_free (itoa_free (by decide) (by decide)) t
theorem num_st {v : Int} (h : St16 v) : num (Lib.itoa v) = some v := num_itoa.2 ⟨rfl, by obtain ⟨h1, h2⟩ := h; omega⟩
theorem line_num {v : Int} (h : St16 v) (t : List UInt8) : numX (Lib.itoa v ++ 32 :: t) = v ∧ txtX (Lib.itoa v ++ 32 :: t) = t := by
  unfold numX txtX nv
  rw [line_cut, num_st h]
  exact ⟨rfl, rfl⟩
theorem line_fine {v : Int} (h : St16 v) {r : Record} (hr : validRecord r = true) : lineF (Lib.itoa v ++ 32 :: recTx r) = true := by
  unfold lineF
  obtain ⟨h1, h2⟩ := line_num h (recTx r)
  rw [h1, h2, line_cut, num_st h, fine_text hr]
  obtain ⟨h3, h4⟩ := h
  simp [h3, h4]
theorem line_free {v : Int} {r : Record} (hr : validRecord r = true) : (10 : UInt8) ∉ Lib.itoa v ++ 32 :: recTx r := by
  have h1 : (10 : UInt8) ∉ Lib.itoa v := itoa_free (by decide) (by decide)
  have h2 := text_free hr
  simp [h1, h2]

theorem fineTo_take {l : List Record} {k : Nat} (h : fineTo l l.length) (hk : k ≤ l.length) : fineTo (l.take k) (l.take k).length := fun i hi => by
  rw [List.length_take] at hi
  rw [recAt_take (by omega), nextOk_take (by omega)]
  exact h i (by omega)
theorem ledger_take {l : List Record} (h : ledgerOk l = true) (k : Nat) : ledgerOk (l.take k) = true := by
  obtain ⟨h1, h2⟩ := ledgerOk_iff.1 h
  by_cases hk : k ≤ l.length
  · exact ledgerOk_iff.2 ⟨by rw [List.length_take]; omega, fineTo_take h2 hk⟩
  · rw [List.take_of_length_le (by omega)]
    exact h
theorem ledger_app {l m : List Record} (h : ledgerOk (l ++ m) = true) : ledgerOk l = true := by
  have := ledger_take h l.length
  rwa [List.take_left] at this
/-- What is added to a ledger that stays one. -/
theorem ledger_add {l : List Record} {r : Record} (h : ledgerOk (l ++ [r]) = true) : arCode l r = 0 := by
  have h0 := ledger_app h
  obtain ⟨h1, h2⟩ := ledgerOk_iff.1 h
  have hi : l.length < (l ++ [r]).length := by simp
  have h3 := h2 l.length hi
  have hr : (l ++ [r])[l.length] = r := by simp
  have ht : (l ++ [r]).take l.length = l := by simp
  rw [recAt_eq hi, hr, ← nextOk_take (l := l ++ [r]) (Nat.le_refl _), ht] at h3
  unfold arCode
  rw [if_pos h0, if_pos h3.1, if_pos h3.2, if_neg (by simp at h1; omega)]

/-- The lines of a ledger are read back. -/
theorem run_led : ∀ (l p : List Record) (c : Int), ledgerOk (p ++ l) = true → runX (ledL l c) p c = (p ++ l, 0)
  | [], p, c, _ => by simp [ledL, runX]
  | r :: l, p, c, h => by
    have hr := ledger_mem h r (by simp)
    have hs := crc16_st (recTx r) c
    obtain ⟨n1, n2⟩ := line_num hs (recTx r)
    have hx : recX (Lib.itoa (crc16 (recTx r) c) ++ 32 :: recTx r) = r := by unfold recX; rw [n2, readV_text hr]
    have e : p ++ r :: l = (p ++ [r]) ++ l := by simp
    rw [e] at h ⊢
    have hc : codeX p c (Lib.itoa (crc16 (recTx r) c) ++ 32 :: recTx r) = 0 := by
      unfold codeX
      rw [if_pos (line_fine hs hr), n1, n2, if_pos rfl, hx]
      exact ledger_add (ledger_app h)
    unfold ledL runX
    rw [if_pos hc, n1, hx]
    exact run_led l (p ++ [r]) _ h
theorem ledL_free {l : List Record} (h : ∀ r ∈ l, validRecord r = true) : ∀ c, ∀ x ∈ ledL l c, (10 : UInt8) ∉ x := by
  induction l with
  | nil => intro c x hx; cases hx
  | cons r l ih =>
    intro c x hx
    unfold ledL at hx
    rcases List.mem_cons.1 hx with rfl | hx
    · exact line_free (h r (by simp))
    · exact ih (fun r hr => h r (by simp [hr])) _ x hx
theorem spl_lines : ∀ {xs : List (List UInt8)}, (∀ x ∈ xs, (10 : UInt8) ∉ x) → spl 10 (xs.flatMap fun x => x ++ [10]) = xs ++ [[]]
  | [], _ => rfl
  | x :: xs, h => by
    have e : (x :: xs).flatMap (fun x => x ++ [10]) = x ++ 10 :: xs.flatMap fun x => x ++ [10] := by simp
    rw [e, spl_free (h x (by simp)), spl_lines fun y hy => h y (by simp [hy])]
    rfl
theorem spl_led {l : List Record} (h : ledgerOk l = true) (c : Int) : spl 10 (ledT l c) = ledL l c ++ [[]] := spl_lines (ledL_free (ledger_mem h) c)
theorem salv_led {l : List Record} (h : ledgerOk l = true) : salvR (ledT l 65535) = (l, 0) := by
  unfold salvR
  rw [spl_led h, List.dropLast_concat]
  exact run_led l [] 65535 h

/-! ### A beginning of it -/
theorem spl_count (c : UInt8) : ∀ s : List UInt8, (spl c s).length = s.count c + 1
  | [] => rfl
  | b :: r => by
    rw [spl_cons]
    have ih := spl_count c r
    by_cases hb : b = c
    · rw [if_pos hb, List.length_cons, ih, hb, List.count_cons_self]
    · rw [if_neg hb, List.count_cons_of_ne hb]
      cases hs : spl c r with
      | nil => exact absurd hs (spl_ne _ _)
      | cons y t =>
        rw [hs] at ih
        exact ih
theorem spl_app (c : UInt8) : ∀ (a b : List UInt8) (D : List (List UInt8)) (p : List UInt8), spl c a = D ++ [p] → spl c (a ++ b) = D ++ spl c (p ++ b)
  | [], b, D, p, h => by
    have h : [[]] = D ++ [p] := h
    have hl := congrArg List.length h
    simp at hl
    subst hl
    simp at h
    subst h
    rfl
  | x :: a, b, D, p, h => by
    rw [spl_cons] at h
    rw [List.cons_append, spl_cons]
    by_cases hx : x = c
    · rw [if_pos hx] at h ⊢
      cases D with
      | nil =>
        simp at h
        exact absurd h.2 (spl_ne _ _)
      | cons d D =>
        simp only [List.cons_append, List.cons.injEq] at h ⊢
        exact ⟨h.1, spl_app c a b D p h.2⟩
    · rw [if_neg hx] at h ⊢
      cases hs : spl c a with
      | nil => exact absurd hs (spl_ne _ _)
      | cons y t =>
        rw [hs] at h
        simp only at h
        cases D with
        | nil =>
          simp only [List.nil_append, List.cons.injEq] at h
          obtain ⟨h1, h2⟩ := h
          subst h2
          have ih := spl_app c a b [] y hs
          rw [List.nil_append] at ih ⊢
          rw [ih, ← h1, List.cons_append, spl_cons, if_neg hx]
        | cons d D =>
          simp only [List.cons_append, List.cons.injEq] at h
          obtain ⟨h1, h2⟩ := h
          have ih := spl_app c a b (y :: D) p (by rw [hs, h2]; rfl)
          rw [ih, ← h1]
          rfl
theorem spl_append (c : UInt8) (a b : List UInt8) : spl c (a ++ b) = (spl c a).dropLast ++ spl c ((spl c a).getLast (spl_ne _ _) ++ b) := spl_app c a b _ _ (List.dropLast_concat_getLast _).symm
theorem salv_part {l : List Record} (h : ledgerOk l = true) (n : Nat) : salvR ((ledT l 65535).take n) = (l.take (((ledT l 65535).take n).count 10), 0) ∧ ((ledT l 65535).take n).count 10 ≤ l.length := by
  have hs := spl_led h 65535
  obtain ⟨a, ha⟩ : ∃ a, a = (ledT l 65535).take n := ⟨_, rfl⟩
  have hab : a ++ (ledT l 65535).drop n = ledT l 65535 := by rw [ha]; exact List.take_append_drop _ _
  rw [← ha]
  rw [← hab, spl_append] at hs
  have hc := spl_count 10 a
  have hD : (spl 10 a).dropLast.length = a.count 10 := by rw [List.length_dropLast, hc]; omega
  have hlen := congrArg List.length hs
  rw [List.length_append, List.length_append, hD, ledL_len, List.length_singleton] at hlen
  have h1 : 0 < (spl 10 ((spl 10 a).getLast (spl_ne _ _) ++ (ledT l 65535).drop n)).length := List.length_pos_iff.2 (spl_ne _ _)
  have hle : a.count 10 ≤ l.length := by omega
  have ht := congrArg (List.take (a.count 10)) hs
  rw [List.take_left' hD, List.take_append_of_le_length (by rw [ledL_len]; exact hle), ledL_take] at ht
  refine ⟨?_, hle⟩
  unfold salvR
  rw [ht]
  exact run_led _ [] 65535 (ledger_take h _)
theorem run_count : ∀ (xs : List (List UInt8)) (p : List Record) (c : Int), (runX xs p c).2 = 0 → (runX xs p c).1.length = p.length + xs.length
  | [], p, c, _ => rfl
  | x :: xs, p, c, h => by
    unfold runX at h ⊢
    split at h
    · rename_i hc
      rw [if_pos hc, run_count xs _ _ h]
      simp
      omega
    · rename_i hc
      exact (hc h).elim

/-! ### One byte of a line changed -/
theorem itoa_dig {v : Int} (h : St16 v) {b : UInt8} (hb : b ∈ Lib.itoa v) : isDig b = true := by
  have : numOk (Lib.itoa v) = true := by
    have := num_st h
    unfold num at this
    split at this
    · assumption
    · cases this
  cases hd : isDig b with
  | true => rfl
  | false =>
    have hm : b = 45 := Classical.byContradiction fun h45 => itoa_free h45 hd hb
    have e : (Lib.itoa v).head? ≠ some 45 := fun hh => by
      rcases Int.lt_or_le 0 v with g | g
      · rw [itoa_of_pos g] at hh hb
        have := List.all_eq_true.1 (dgs_spec v.natAbs).1 _ (hm ▸ hb)
        cases this
      · have : v = 0 := by obtain ⟨h1, _⟩ := h; omega
        subst this
        rw [itoa_zero] at hh
        cases hh
    rcases Int.lt_or_le 0 v with g | g
    · rw [itoa_of_pos g] at hb
      have := List.all_eq_true.1 (dgs_spec v.natAbs).1 _ hb
      rw [hd] at this
      exact this
    · have : v = 0 := by obtain ⟨h1, _⟩ := h; omega
      subst this
      rw [itoa_zero] at hb
      rw [List.mem_singleton] at hb
      subst hb
      cases hm
theorem cut_true {x : List UInt8} (h : (Lib.cut x [32]).2.2 = true) : x = (Lib.cut x [32]).1 ++ 32 :: (Lib.cut x [32]).2.1 ∧ (32 : UInt8) ∉ (Lib.cut x [32]).1 := by
  refine ⟨(cut_whole x).2 h, ?_⟩
  match hs : spl 32 x with
  | [] => exact absurd hs (spl_ne _ _)
  | [w] =>
    obtain ⟨rfl, hc⟩ := cut_one hs
    rw [hc] at h
    cases h
  | w :: y :: r =>
    obtain ⟨_, hc, _⟩ := cut_more hs
    rw [hc]
    exact spl_mem w (by rw [hs]; simp)
/-- Two ways to cut a list at its first separator. -/
theorem first_sep {c : UInt8} : ∀ {n n' t t' : List UInt8}, c ∉ n → c ∉ n' → n ++ c :: t = n' ++ c :: t' → n = n' ∧ t = t'
  | [], [], _, _, _, _, h => ⟨rfl, by simpa using h⟩
  | [], x :: n', _, _, _, h2, h => by
    simp only [List.nil_append, List.cons_append, List.cons.injEq] at h
    exact (h2 (by rw [h.1]; simp)).elim
  | x :: n, [], _, _, h1, _, h => by
    simp only [List.nil_append, List.cons_append, List.cons.injEq] at h
    exact (h1 (by rw [h.1]; simp)).elim
  | x :: n, y :: n', _, _, h1, h2, h => by
    simp only [List.cons_append, List.cons.injEq] at h
    obtain ⟨e1, e2⟩ := first_sep (fun g => h1 (by simp [g])) (fun g => h2 (by simp [g])) h.2
    exact ⟨by rw [h.1, e1], e2⟩
theorem lineF_spec {x : List UInt8} (h : lineF x = true) : ∃ v : Int, St16 v ∧ x = Lib.itoa v ++ 32 :: txtX x ∧ numX x = v ∧ fineV (txtX x) = true := by
  unfold lineF at h
  simp only [Bool.and_eq_true, decide_eq_true_eq] at h
  obtain ⟨⟨⟨h1, h2⟩, h3⟩, h4⟩ := h
  refine ⟨numX x, h3, ?_, rfl, h4⟩
  have e := (cut_true h1).1
  have e2 : Lib.itoa (numX x) = (Lib.cut x [32]).1 := num_iff.2 h2
  rw [e2]
  exact e
theorem sep_gone {b1 : UInt8} {s1 : List UInt8} (h1 : b1 ≠ 32) {z : UInt8} (hz : z ≠ 32) : ∀ {n n' t' : List UInt8}, (32 : UInt8) ∉ n → n ++ z :: b1 :: s1 = n' ++ 32 :: t' → b1 ∈ n'
  | [], [], _, _, h => by
    simp only [List.nil_append, List.cons.injEq] at h
    exact (hz h.1).elim
  | [], [y], _, _, h => by
    simp only [List.nil_append, List.cons_append, List.cons.injEq] at h
    exact (h1 h.2.1).elim
  | [], y :: x :: n', _, _, h => by
    simp only [List.nil_append, List.cons_append, List.cons.injEq] at h
    rw [h.2.1]
    simp
  | x :: n, [], _, hn, h => by
    simp only [List.nil_append, List.cons_append, List.cons.injEq] at h
    exact (hn (by rw [h.1]; simp)).elim
  | x :: n, y :: n', _, hn, h => by
    simp only [List.cons_append, List.cons.injEq] at h
    exact List.mem_cons_of_mem _ (sep_gone h1 hz (fun g => hn (by simp [g])) h.2)
/-- A line with one byte changed is not taken. -/
theorem line_tell {c : Int} (hc : St16 c) {t p q : List UInt8} {b b' : UInt8} (hb : b ≠ b') {r : Record} (ht : t = recTx r) (hx : Lib.itoa (crc16 t c) ++ 32 :: t = p ++ b :: q) (l : List Record) : codeX l c (p ++ b' :: q) ≠ 0 := by
  intro h0
  have hv := crc16_st t c
  have hl : lineF (p ++ b' :: q) = true ∧ numX (p ++ b' :: q) = crc16 (txtX (p ++ b' :: q)) c := by
    unfold codeX at h0
    split at h0
    · rename_i h1
      split at h0
      · rename_i h2
        exact ⟨h1, h2⟩
      · cases h0
    · cases h0
  obtain ⟨h1, h2⟩ := hl
  obtain ⟨v', hv', e', n', f'⟩ := lineF_spec h1
  generalize txtX (p ++ b' :: q) = t' at *
  rw [n'] at h2
  obtain ⟨hb1, hs1, e1, o1⟩ := text_head r
  have e3 : recTx (readV t') = t' := by
    unfold fineV at f'
    simp only [Bool.and_eq_true, decide_eq_true_eq] at f'
    exact f'.2
  obtain ⟨hb2, hs2, e4, o2⟩ := text_head (readV t')
  rw [e3] at e4
  rw [← ht] at e1
  have d1 : ∀ z ∈ Lib.itoa (crc16 t c), isDig z = true := fun z hz => itoa_dig hv hz
  have d2 : ∀ z ∈ Lib.itoa v', isDig z = true := fun z hz => itoa_dig hv' hz
  have sp1 : (32 : UInt8) ∉ Lib.itoa (crc16 t c) := itoa_free (by decide) (by decide)
  have sp2 : (32 : UInt8) ∉ Lib.itoa v' := itoa_free (by decide) (by decide)
  have lt1 : isDig hb1 = false := by rcases o1 with rfl | rfl | rfl <;> rfl
  have lt2 : isDig hb2 = false ∧ hb2 ≠ 32 := by rcases o2 with rfl | rfl | rfl <;> exact ⟨rfl, by decide⟩
  have hvi : v' = crc16 t c ∨ Lib.itoa v' ≠ Lib.itoa (crc16 t c) := by
    by_cases g : Lib.itoa v' = Lib.itoa (crc16 t c)
    · refine .inl ?_
      have a1 := num_st hv'
      rw [g, num_st hv] at a1
      exact (Option.some.inj a1).symm
    · exact .inr g
  have lt3 : hb1 ≠ 32 := by rcases o1 with rfl | rfl | rfl <;> decide
  have nilcase : p = Lib.itoa (crc16 t c) → b = 32 → q = t → False := fun e5 e6 e7 => by
    rw [e5, e7, e1] at e'
    have hm := sep_gone lt3 (fun g => hb (by rw [e6, g])) (by rw [← e1]; exact sp1) e'
    have := d2 _ hm
    rw [lt1] at this
    cases this
  rcases List.append_eq_append_iff.1 hx with ⟨a, ha, hb'⟩ | ⟨a, ha, hb'⟩
  · -- the byte stands behind the number
    cases a with
    | nil =>
      simp only [List.nil_append, List.cons.injEq] at hb'
      rw [List.append_nil] at ha
      exact nilcase ha hb'.1.symm hb'.2.symm
    | cons z a =>
      simp only [List.cons_append, List.cons.injEq] at hb'
      obtain ⟨rfl, hb'⟩ := hb'
      have e5 : p ++ b' :: q = Lib.itoa (crc16 t c) ++ 32 :: (a ++ b' :: q) := by rw [ha]; simp
      rw [e5] at e'
      obtain ⟨g1, g2⟩ := first_sep sp1 sp2 e'
      rcases hvi with g | g
      · rw [g, ← g2] at h2
        have hcr : ∀ s : List UInt8, crc16 s c = crcL s c := fun s => by unfold crc16; rw [if_pos (show 0 ≤ c ∧ c ≤ 65535 from hc)]
        rw [hb', hcr, hcr] at h2
        exact hb (crcL_tell hc h2)
      · exact g g1.symm
  · -- the byte stands in the number
    cases a with
    | nil =>
      simp only [List.nil_append, List.cons.injEq] at hb'
      rw [List.append_nil] at ha
      exact nilcase ha.symm hb'.1 hb'.2
    | cons z a =>
      simp only [List.cons_append, List.cons.injEq] at hb'
      obtain ⟨rfl, hb'⟩ := hb'
      have hp : (32 : UInt8) ∉ p := fun g => sp1 (by rw [ha]; exact List.mem_append_left _ g)
      have ha' : (32 : UInt8) ∉ a := fun g => sp1 (by rw [ha]; exact List.mem_append_right _ (List.mem_cons_of_mem _ g))
      by_cases h32 : b' = 32
      · subst h32
        obtain ⟨g1, g2⟩ := first_sep hp sp2 e'
        rw [e4, hb'] at g2
        cases a with
        | nil =>
          simp only [List.nil_append, List.cons.injEq] at g2
          exact lt2.2 g2.1.symm
        | cons y a =>
          simp only [List.cons_append, List.cons.injEq] at g2
          have := d1 y (by rw [ha]; simp)
          rw [g2.1, lt2.1] at this
          cases this
      · have e6 : p ++ b' :: q = (p ++ b' :: a) ++ 32 :: t := by rw [hb']; simp
        rw [e6] at e'
        obtain ⟨g1, g2⟩ := first_sep (by simp [hp, ha', Ne.symm h32]) sp2 e'
        rcases hvi with g | g
        · rw [g, ha] at g1
          have := List.append_cancel_left g1
          simp only [List.cons.injEq] at this
          exact hb this.1.symm
        · rw [← g2] at h2
          exact g (by rw [h2])

/-- A ledger's text with one byte changed: it is read as no ledger, or as one that is not like it; and where no line was ended or joined, as none. -/
theorem load_changed {l : List Record} (h : ledgerOk l = true) {A B : List UInt8} {b b' : UInt8} (hf : ledT l 65535 = A ++ b :: B) (hb : b ≠ b') (hr : (salvR (A ++ b' :: B)).2 = 0) :
    (salvR (A ++ b' :: B)).1.length ≠ l.length ∧ (b = 10 ∨ b' = 10) := by
  have hs := spl_led h 65535
  have hor : b = 10 ∨ b' = 10 := by
    refine Classical.byContradiction fun hno => ?_
    have h1 : b ≠ 10 := fun e => hno (.inl e)
    have h2 : b' ≠ 10 := fun e => hno (.inr e)
    obtain ⟨D, p, hD⟩ : ∃ D p, spl 10 A = D ++ [p] := ⟨_, _, (List.dropLast_concat_getLast (spl_ne 10 A)).symm⟩
    obtain ⟨q, Q, hQ⟩ : ∃ q Q, spl 10 B = q :: Q := by
      cases e : spl 10 B with
      | nil => exact absurd e (spl_ne _ _)
      | cons q Q => exact ⟨q, Q, rfl⟩
    have hpf : (10 : UInt8) ∉ p := spl_mem p (by rw [hD]; simp)
    have split : ∀ z : UInt8, z ≠ 10 → spl 10 (A ++ z :: B) = D ++ (p ++ z :: q) :: Q := fun z hz => by
      rw [spl_append]
      simp only [hD, List.dropLast_concat, List.getLast_concat]
      congr 1
      have key : ∀ p : List UInt8, (10 : UInt8) ∉ p → spl 10 (p ++ z :: B) = (p ++ z :: q) :: Q := by
        intro p
        induction p with
        | nil =>
          intro _
          rw [List.nil_append, spl_cons, if_neg hz, hQ]
          rfl
        | cons y p ih =>
          intro hp
          rw [List.cons_append, spl_cons, if_neg (fun e => hp (by simp [e])), ih fun g => hp (by simp [g])]
          rfl
      exact key p hpf
    rw [hf, split b h1] at hs
    have hQne : Q ≠ [] := fun e => by
      subst e
      have := congrArg List.getLast? hs
      simp at this
    obtain ⟨R, hR⟩ : ∃ R, Q = R ++ [[]] := by
      refine ⟨Q.dropLast, ?_⟩
      have := congrArg List.getLast? hs
      rw [List.getLast?_append] at this
      cases Q with
      | nil => exact absurd rfl hQne
      | cons y Q =>
        simp at this
        have e := List.dropLast_concat_getLast (l := y :: Q) (by simp)
        rw [List.getLast?_eq_some_getLast (by simp)] at this
        rw [Option.some.inj this] at e
        exact e.symm
    subst hR
    have hLL : D ++ (p ++ b :: q) :: R = ledL l 65535 := by
      have : (D ++ (p ++ b :: q) :: R) ++ [[]] = ledL l 65535 ++ [[]] := by rw [← hs]; simp
      exact List.append_cancel_right this
    have hdrop : (spl 10 (A ++ b' :: B)).dropLast = D ++ (p ++ b' :: q) :: R := by
      rw [split b' h2]
      have : D ++ (p ++ b' :: q) :: (R ++ [[]]) = (D ++ (p ++ b' :: q) :: R) ++ [[]] := by simp
      rw [this, List.dropLast_concat]
    unfold salvR at hr
    rw [hdrop] at hr
    -- along the lines before it
    have walk : ∀ (D : List (List UInt8)) (l p0 : List Record) (c : Int), St16 c → (∀ r ∈ l, validRecord r = true) → D ++ (p ++ b :: q) :: R = ledL l c → (runX (D ++ (p ++ b' :: q) :: R) p0 c).2 ≠ 0 := by
      intro D
      induction D with
      | nil =>
        intro l p0 c hc hv he
        cases l with
        | nil => cases he
        | cons r l =>
          simp only [List.nil_append, ledL, List.cons.injEq] at he ⊢
          have := line_tell hc hb rfl he.1.symm p0
          unfold runX
          rw [if_neg this]
          exact this
      | cons x D ih =>
        intro l p0 c hc hv he
        cases l with
        | nil => cases he
        | cons r l =>
          simp only [List.cons_append, ledL, List.cons.injEq] at he ⊢
          unfold runX
          split
          · have hn : numX x = crc16 (recTx r) c := by rw [he.1]; exact (line_num (crc16_st _ _) _).1
            rw [hn]
            exact ih l _ _ (crc16_st _ _) (fun r hr => hv r (by simp [hr])) he.2
          · assumption
    exact walk D l [] 65535 ⟨by omega, by omega⟩ (ledger_mem h) hLL hr
  refine ⟨fun hlen => ?_, hor⟩
  have h1 := run_count _ _ _ hr
  change (salvR (A ++ b' :: B)).1.length = _ at h1
  rw [hlen, List.length_dropLast, spl_count, List.count_append, List.count_cons] at h1
  have h2 := congrArg List.length hs
  rw [spl_count, hf, List.count_append, List.count_cons, List.length_append, ledL_len] at h2
  simp only [List.length_nil, List.length_singleton, beq_iff_eq] at h1 h2
  rcases hor with e | e
  · rw [if_pos e] at h2
    rw [if_neg fun g => hb (by rw [e, g])] at h1
    omega
  · rw [if_pos e] at h1
    rw [if_neg fun g => hb (by rw [e, g])] at h2
    omega
end Go.Proofs.YtmdablalfmcgnaaGreatDoor
