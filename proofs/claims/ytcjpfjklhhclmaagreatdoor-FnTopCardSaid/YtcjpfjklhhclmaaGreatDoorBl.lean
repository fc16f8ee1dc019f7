/- Contracts: keys, notes, troubles of the tower and of the tune. No condition. -/
import Derived.Test.YtcjpfjklhhclmaaGreatDoorBk
import Derived.Test.YtcjpfjklhhclmaaGreatDoorVk
import Derived.Test.YtcjpfjklhhclmaaGreatDoorJg
namespace Go.Proofs.YtcjpfjklhhclmaaGreatDoor
open Go Go.Ab
set_option maxRecDepth 100000

/-! ### Keys -/
def keyAt (l : List Action) (n : Int) : Int := findI (fun a => decide (a.note = n)) l
def keyP (l : List Action) (n : Int) : PV := .tup [.int .i64 (if 0 ≤ keyAt l n then keyAt l n else 0), .int .i64 (if 0 ≤ keyAt l n then 0 else 3)]
theorem keyAt_ge {l : List Action} {n : Int} : -1 ≤ keyAt l n := by unfold keyAt findI; split <;> omega
theorem clav_len {l : List Action} (h : clavierOk l = true) : l.length ≤ 48 ∧ ∀ x ∈ l, x.levers.length ≤ 6 := by
  simp only [clavierOk, Bool.and_eq_true, decide_eq_true_eq] at h
  refine ⟨by omega, fun x hx => ?_⟩
  have := upOk_mem h.1 x hx
  simp only [actionOk, Bool.and_eq_true, decide_eq_true_eq] at this
  omega
theorem c_KeyFor1 (a : Action) (n : Int) (rows : List (List PV)) (i0 : Nat) (hr : rows[i0]? = some [.int .i64 n]) : HFn Tryz.prog 211 [.agg a.cells, .pe 1 rows i0 0] [] (.bool (decide (a.note = n))) [] := by
  have hi : i0 < rows.length := (List.getElem?_eq_some_iff.1 hr).1
  have hx0 : rows[i0] = [.int .i64 n] := (List.getElem?_eq_some_iff.1 hr).2
  refine hfn_intro hm Tryz.func211 (by kernel_rfl) rfl (by kernel_rfl) rfl ret0_ok ?_
  simp [hi, hx0, Action.cells]
theorem c_impl_KeyFor (l : List Action) (n : Int) (hl : clavierOk l = true) : HFn Tryz.prog 122 [.sl 4 (Action.rows l), .int .i64 n] [] (keyP l n) [] := by
  obtain ⟨h1, h2⟩ := clav_len hl
  have kI : HFn Tryz.prog 210 [.sl 4 (Action.rows l), .fn 211 [.pe 1 [[.int .i64 n]] 0 0]] [] (.int .i64 (keyAt l n)) [] :=
    c_IndexFuncAction1 211 1 [[.int .i64 n]] 0 0 (fun a => decide (a.note = n)) l (fun a _ => c_KeyFor1 a n _ 0 rfl) (by omega)
  refine hfn_intro hm Tryz.func122 (by kernel_rfl) rfl (by kernel_rfl) rfl ret0_ok ?_
  simp
  refine CallZ.use0 (c_impl_ValidClavier l (by omega) (fun x hx => by have := h2 x hx; omega)) rfl rfl ?_
  simp [hl]
  refine CallZ.use0 kI rfl rfl ?_
  have hg := keyAt_ge (l := l) (n := n)
  generalize hk : keyAt l n = K at *
  simp [keyP, hk]
  refine ⟨fun h => ?_, fun h => ?_⟩
  · simp [show ¬ 0 ≤ K by omega]
    exact h
  · simp [h]
    omega
theorem c_spec_KeyFor (l : List Action) (n : Int) (hl : clavierOk l = true) : HFn Tryz.prog 15 [.sl 4 (Action.rows l), .int .i64 n] [] (keyP l n) [] := by
  obtain ⟨h1, h2⟩ := clav_len hl
  refine hfn_intro hm Tryz.func15 (by kernel_rfl) rfl (by kernel_rfl) rfl ret0_ok ?_
  simp
  refine CallZ.use0 (c_l24Ok l (by omega) (fun x hx => by have := h2 x hx; omega)) rfl rfl ?_
  simp [hl]
  refine loop_upto hm l.length (fun i => ⟨[(0, .sl 4 (Action.rows l)), (1, .int .i64 n), (6, .int .i64 i)], []⟩) (fun i => ∀ j (h : j < l.length), j < i → ¬ l[j].note = n) (by kernel_rfl) ?_ (by simp) (fun i hi hI => ?_) (fun hI => ?_)
  · exact Wk.weak (ρ := []) (φ := []) (by simp)
  · have w1 : IntKind.i64.wrap ((i : Int) + 1) = (i : Int) + 1 := w64 (by omega) (by omega)
    simp [Action.rows_len, Action.row_get, Action.cells, hi]
    refine ⟨fun h => ?_, fun h => ⟨upto_next hi hI h, Wk.weak (ρ := []) (φ := []) (by simp [w1])⟩⟩
    have : keyAt l n = i := findI_at hi (by simpa using h) fun j hj hji => by simpa using hI j hj hji
    simp [keyP, this]
  · simp [Action.rows_len]
    have : keyAt l n = -1 := findI_none fun j hj => by simpa using hI j hj hj
    simp [keyP, this]

/-! ### Notes put one by one -/
def putI (l : List Int) (n : Int) : List Int := l.filter (fun x => decide (x < n)) ++ [n] ++ l.filter fun x => decide (n < x)
def putTo (l : List Int) (n : Int) (i : Nat) : List Int := (l.take i).filter (fun x => decide (x < n)) ++ (if (l.take i).any (fun x => decide (n ≤ x)) = true then [n] else []) ++ (l.take i).filter fun x => decide (n < x)
theorem putTo_len (l : List Int) (n : Int) (i : Nat) : (putTo l n i).length ≤ 2 * l.length + 1 := by
  unfold putTo
  have h1 := List.length_filter_le (fun x => decide (x < n)) (l.take i)
  have h2 := List.length_filter_le (fun x => decide (n < x)) (l.take i)
  have h3 := List.length_take_le' i l
  rw [List.length_append, List.length_append]
  split <;> simp only [List.length_cons, List.length_nil] <;> omega
theorem not_any {l : List Int} {n : Int} (h : l.any (fun x => decide (n ≤ x)) = false) : l.filter (fun x => decide (n < x)) = [] := by
  rw [List.filter_eq_nil_iff]
  intro x hx
  have := List.any_eq_false.1 h x hx
  simp at this ⊢
  omega
theorem mem_putI (l : List Int) (n x : Int) : x ∈ putI l n ↔ x = n ∨ x ∈ l := by
  unfold putI
  simp only [List.mem_append, List.mem_filter, List.mem_singleton, decide_eq_true_eq]
  constructor
  · rintro ((⟨h, _⟩ | h) | ⟨h, _⟩)
    · exact .inr h
    · exact .inl h
    · exact .inr h
  · rintro (h | h)
    · exact .inl (.inr h)
    · rcases Int.lt_trichotomy x n with h1 | h1 | h1
      · exact .inl (.inl ⟨h, h1⟩)
      · exact .inl (.inr h1)
      · exact .inr ⟨h, h1⟩
theorem putI_strict {l : List Int} (h : StrictI l) (n : Int) : StrictI (putI l n) := by
  unfold putI StrictI
  rw [List.pairwise_append, List.pairwise_append]
  refine ⟨⟨h.filter _, List.pairwise_singleton _ _, fun a ha b hb => ?_⟩, h.filter _, fun a ha b hb => ?_⟩
  · simp only [List.mem_filter, decide_eq_true_eq] at ha
    rw [List.mem_singleton] at hb
    omega
  · simp only [List.mem_append, List.mem_filter, List.mem_singleton, decide_eq_true_eq] at ha hb
    rcases ha with ⟨_, h1⟩ | h1 <;> omega
set_option maxHeartbeats 4000000 in
theorem c_l00Put (l : List Int) (n : Int) (hl : l.length ≤ 1048576) (hs : StrictI l) : HFn Tryz.prog 53 [.sl 1 (intRows l), .int .i64 n] [] (.sf 0 1) [some (.arr 1 (intRows (putI l n)))] := by
  refine hfn_intro hm Tryz.func53 (by kernel_rfl) rfl (by kernel_rfl) rfl (fun _ _ h => h) ?_
  simp
  refine loop_upto hm l.length (fun i => ⟨[(0, .sl 1 (intRows l)), (1, .int .i64 n), (5, .sf 0 1), (6, .bool ((l.take i).any fun x => decide (n ≤ x))), (7, .int .i64 i)], [some (.arr 1 (intRows (putTo l n i)))]⟩) (fun _ => True) (by kernel_rfl) ?_ trivial (fun i hi _ => ?_) (fun _ => ?_)
  · exact (weak_nil (t := 5) (z := 1) rfl).trans (Wk.weak (ρ := [0]) (φ := []) (by simp [putTo, intRows]))
  · have w1 : IntKind.i64.wrap ((i : Int) + 1) = (i : Int) + 1 := w64 (by omega) (by omega)
    have hle := putTo_len l n i
    have ha : ((l.take (i + 1)).any fun x => decide (n ≤ x)) = (((l.take i).any fun x => decide (n ≤ x)) || decide (n ≤ l[i])) := by
      rw [← List.take_append_getElem hi, List.any_append]
      simp
    have e1 : (l.take (i + 1)).filter (fun x => decide (x < n)) = (l.take i).filter (fun x => decide (x < n)) ++ (if l[i] < n then [l[i]] else []) := by
      rw [← List.take_append_getElem hi, List.filter_append]
      by_cases h : l[i] < n <;> simp [h]
    have e2 : (l.take (i + 1)).filter (fun x => decide (n < x)) = (l.take i).filter (fun x => decide (n < x)) ++ (if n < l[i] then [l[i]] else []) := by
      rw [← List.take_append_getElem hi, List.filter_append]
      by_cases h : n < l[i] <;> simp [h]
    cases hd : (l.take i).any fun x => decide (n ≤ x) with
    | true =>
      -- what comes up now is greater
      obtain ⟨y, hy, hny⟩ := List.any_eq_true.1 hd
      obtain ⟨j, hj, rfl⟩ := List.mem_take_iff_getElem.1 hy
      have hlt := List.pairwise_iff_getElem.1 hs j i (by omega) hi (by omega)
      simp only [decide_eq_true_eq] at hny
      have hni : n < l[i] := by omega
      have hp : putTo l n (i + 1) = putTo l n i ++ [l[i]] := by
        unfold putTo
        rw [ha, hd, e1, e2]
        simp [hni, show ¬ l[i] < n by omega]
      rw [hp, ha, hd]
      generalize putTo l n i = T at hle ⊢
      simp [intRows_len, intRows_get, hi]
      refine ⟨by simp [rowsOne], by omega, by omega, Wk.weak (ρ := [0]) (φ := []) ?_⟩
      simp [w1, intRows_app]
      rfl
    | false =>
      have hn := not_any hd
      by_cases hge : n ≤ l[i]
      · by_cases hgt : n < l[i]
        · have hp : putTo l n (i + 1) = putTo l n i ++ [n] ++ [l[i]] := by
            unfold putTo
            rw [ha, hd, e1, e2, hn]
            simp [hge, hgt, show ¬ l[i] < n by omega]
          rw [hp, ha, hd]
          generalize putTo l n i = T at hle ⊢
          simp [intRows_len, intRows_get, hi, hge, hgt]
          refine ⟨by simp [rowsOne], by omega, by omega, by simp [rowsOne], by omega, by omega, Wk.weak (ρ := [0]) (φ := []) ?_⟩
          simp [w1, intRows_app]
          rfl
        · have he : l[i] = n := by omega
          have hp : putTo l n (i + 1) = putTo l n i ++ [l[i]] := by
            unfold putTo
            rw [ha, hd, e1, e2, hn]
            simp [he]
          rw [hp, ha, hd]
          generalize putTo l n i = T at hle ⊢
          simp [intRows_len, intRows_get, hi, hge, hgt]
          refine ⟨by simp [rowsOne], by omega, by omega, Wk.weak (ρ := [0]) (φ := []) ?_⟩
          simp [w1, intRows_app]
          rfl
      · have hp : putTo l n (i + 1) = putTo l n i ++ [l[i]] := by
          unfold putTo
          rw [ha, hd, e1, e2, hn]
          simp [hge, show l[i] < n by omega, show ¬ n < l[i] by omega]
        rw [hp, ha, hd]
        generalize putTo l n i = T at hle ⊢
        simp [intRows_len, intRows_get, hi, hge]
        refine ⟨by simp [rowsOne], by omega, by omega, Wk.weak (ρ := [0]) (φ := []) ?_⟩
        simp [w1, intRows_app]
        rfl
  · have hle := putTo_len l n l.length
    rw [List.take_length]
    cases hd : l.any fun x => decide (n ≤ x) with
    | true =>
      have hp : putTo l n l.length = putI l n := by
        unfold putTo putI
        rw [List.take_length, hd]
        simp
      rw [hp]
      simp [intRows_len]
      exact Wk.weak (ρ := [0]) (φ := []) (by simp)
    | false =>
      have hp : putI l n = putTo l n l.length ++ [n] := by
        unfold putTo putI
        rw [List.take_length, hd, not_any hd]
        simp
      rw [hp]
      generalize putTo l n l.length = T at hle ⊢
      simp [intRows_len]
      refine ⟨by simp [rowsOne], by omega, by omega, Wk.weak (ρ := [0]) (φ := []) ?_⟩
      simp [intRows_app]
      rfl
def putsI (t : List Tone) (i : Nat) : List Int := (t.take i).foldl (fun l x => putI l x.note) []
theorem putsI_succ (t : List Tone) {i : Nat} (hi : i < t.length) : putsI t (i + 1) = putI (putsI t i) t[i].note := by
  unfold putsI
  rw [← List.take_append_getElem hi, List.foldl_append]
  rfl
theorem putsI_spec (t : List Tone) : ∀ i, i ≤ t.length → StrictI (putsI t i) ∧ ∀ n, n ∈ putsI t i ↔ ∃ x ∈ t.take i, x.note = n := by
  intro i
  induction i with
  | zero => simp [putsI, StrictI]
  | succ i ih =>
    intro hi
    obtain ⟨h1, h2⟩ := ih (by omega)
    have hi' : i < t.length := by omega
    rw [putsI_succ t hi']
    refine ⟨putI_strict h1 _, fun n => ?_⟩
    rw [mem_putI, h2, ← List.take_append_getElem hi']
    constructor
    · rintro (h | ⟨x, hx, e⟩)
      · exact ⟨t[i], List.mem_append_right _ (List.mem_singleton.2 rfl), h.symm⟩
      · exact ⟨x, List.mem_append_left _ hx, e⟩
    · rintro ⟨x, hx, e⟩
      rcases List.mem_append.1 hx with h | h
      · exact .inr ⟨x, h, e⟩
      · rw [List.mem_singleton] at h
        subst h
        exact .inl e.symm
theorem putsI_all (t : Tune) : putsI t.tones t.tones.length = notesL t := by
  obtain ⟨h1, h2⟩ := putsI_spec t.tones _ (Nat.le_refl _)
  obtain ⟨h3, h4⟩ := notesL_strict t
  refine strictI_ext h1 h3 fun x => ?_
  rw [h2, h4, List.take_length]
/-- So many notes: no more than there are in all. -/
theorem strict_len {l : List Int} (h : StrictI l) (hb : ∀ x ∈ l, 0 ≤ x ∧ x ≤ 127) : l.length ≤ 128 := by
  have key : ∀ (l : List Int) (a : Int), StrictI l → (∀ x ∈ l, a ≤ x ∧ x ≤ 127) → (l.length : Int) ≤ max 0 (128 - a) := by
    intro l
    induction l with
    | nil => intro a _ _; simp; omega
    | cons y r ih =>
      intro a hs hb
      have h1 := hb y List.mem_cons_self
      have h2 := ih (y + 1) (List.Pairwise.tail hs) fun x hx => ⟨by have := (List.pairwise_cons.1 hs).1 x hx; omega, (hb x (List.mem_cons_of_mem _ hx)).2⟩
      rw [List.length_cons]
      omega
  have := key l 0 h hb
  omega
theorem tune_in {t : Tune} (h : tuneOk t = true) : t.tones.length ≤ 128 ∧ ∀ x ∈ t.tones, 0 ≤ x.note ∧ x.note ≤ 127 := by
  simp only [tuneOk, Bool.and_eq_true, decide_eq_true_eq, List.all_eq_true, List.mem_range] at h
  refine ⟨h.2.2, fun x hx => ?_⟩
  obtain ⟨i, hi, rfl⟩ := List.getElem_of_mem hx
  have := h.1 i hi
  rw [toneAt_eq hi] at this
  simp only [Bool.and_eq_true, toneOk, decide_eq_true_eq] at this
  omega
set_option maxHeartbeats 2000000 in
theorem c_NotesUsed (t : Tune) (ht : tuneOk t = true) : HFn Tryz.prog 14 [.agg t.cells] [] (.tup [.sf 0 1, .int .i64 0]) [some (.arr 1 (intRows (notesL t)))] := by
  obtain ⟨h1, h2⟩ := tune_in ht
  have kO := c_l25Ok t (by omega)
  simp only [Tune.ptr, Tune.cells] at kO
  refine hfn_intro hm Tryz.func14 (by kernel_rfl) rfl (by kernel_rfl) rfl (fun _ _ h => h) ?_
  simp [Tune.cells]
  refine CallZ.use0 kO rfl rfl ?_
  simp [ht]
  refine loop_upto hm t.tones.length (fun i => ⟨[(1, .pb 0 0), (4, .sf 1 1), (5, .int .i64 i)], [some (.box t.cells), some (.arr 1 (intRows (putsI t.tones i)))]⟩) (fun _ => True) (by kernel_rfl) ?_ trivial (fun i hi _ => ?_) (fun _ => ?_)
  · exact (weak_nil (t := 4) (z := 1) rfl).trans (Wk.weak (ρ := [0, 1]) (φ := []) (by simp [Tune.cells, putsI, intRows]))
  · have w1 : IntKind.i64.wrap ((i : Int) + 1) = (i : Int) + 1 := w64 (by omega) (by omega)
    obtain ⟨s1, s2⟩ := putsI_spec t.tones i (by omega)
    have sl := strict_len s1 fun x hx => by
      obtain ⟨y, hy, rfl⟩ := (s2 x).1 hx
      exact h2 y (List.mem_of_mem_take hy)
    rw [putsI_succ t.tones hi]
    generalize putsI t.tones i = T at *
    simp [Tune.cells, Tone.rows, Tone.cells, hi]
    refine CallZ.use (c_l00Put T t.tones[i].note (by omega) s1) rfl (.inr ⟨flat_intRows _, trivial⟩) rfl rfl ?_
    simp
    refine Wk.weak (ρ := [0, 2]) (φ := []) ?_
    simp [w1]
  · rw [putsI_all]
    simp [Tune.cells, Tone.rows_len]
    exact Wk.weak (ρ := [1]) (φ := []) (by simp)
theorem notesL_in {t : Tune} (ht : tuneOk t = true) : (notesL t).length ≤ 128 ∧ ∀ n ∈ notesL t, 0 ≤ n ∧ n ≤ 127 := by
  obtain ⟨h1, h2⟩ := tune_in ht
  obtain ⟨h3, h4⟩ := notesL_strict t
  have hb : ∀ n ∈ notesL t, 0 ≤ n ∧ n ≤ 127 := fun n hn => by
    obtain ⟨x, hx, rfl⟩ := (h4 n).1 hn
    exact h2 x hx
  exact ⟨strict_len h3 hb, hb⟩
end Go.Proofs.YtcjpfjklhhclmaaGreatDoor
