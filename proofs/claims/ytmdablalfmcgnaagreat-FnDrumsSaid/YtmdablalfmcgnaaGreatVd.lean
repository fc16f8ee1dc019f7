/- The plain law of drums of tunes: going through the notes of a tune is going through all notes. No condition. -/
import Derived.Test.YtmdablalfmcgnaaGreatVc
import Derived.Test.YtmdablalfmcgnaaGreatTb
import Derived.Lib.SlicesCompact
namespace Go.Proofs.YtmdablalfmcgnaaGreat
open Go Go.Ab
set_option maxRecDepth 100000

def StrictI (l : List Int) : Prop := l.Pairwise fun x y => x < y
theorem strictI_ext : ∀ {l m : List Int}, StrictI l → StrictI m → (∀ x, x ∈ l ↔ x ∈ m) → l = m
  | [], [], _, _, _ => rfl
  | [], y :: m, _, _, h => by have := (h y).2 (by simp); cases this
  | x :: l, [], _, _, h => by have := (h x).1 (by simp); cases this
  | x :: l, y :: m, hl, hm, h => by
    obtain ⟨h1, h2⟩ := List.pairwise_cons.1 hl
    obtain ⟨h3, h4⟩ := List.pairwise_cons.1 hm
    have e : x = y := by
      rcases List.mem_cons.1 ((h x).1 (by simp)) with e | e
      · exact e
      · rcases List.mem_cons.1 ((h y).2 (by simp)) with e' | e'
        · exact e'.symm
        · have := h1 y e'
          have := h3 x e
          omega
    subst e
    rw [strictI_ext h2 h4 fun z => ⟨fun hz => ?_, fun hz => ?_⟩]
    · rcases List.mem_cons.1 ((h z).1 (List.mem_cons_of_mem _ hz)) with e | e
      · subst e; have := h1 z hz; omega
      · exact e
    · rcases List.mem_cons.1 ((h z).2 (List.mem_cons_of_mem _ hz)) with e | e
      · subst e; have := h3 z hz; omega
      · exact e
/-- Doubles of a sorted list are left out. -/
theorem compactI_spec (zs : List Int) (hs : zs.Pairwise fun x y => x ≤ y) : StrictI (Lib.compact zs) ∧ ∀ x, x ∈ Lib.compact zs ↔ x ∈ zs := by
  have key : ∀ m, m ≤ zs.length → StrictI (Lib.compactUpTo zs.toArray m) ∧ (∀ x, x ∈ Lib.compactUpTo zs.toArray m ↔ x ∈ zs.take m) := fun m => by
    induction m with
    | zero => intro _; simp [Lib.compactUpTo, StrictI]
    | succ m ih =>
      intro hm
      obtain ⟨i1, i2⟩ := ih (by omega)
      have hml : m < zs.length := by omega
      have hg : zs.toArray[m]! = zs[m] := by simp [hml]
      have hc := Lib.compactUpTo_succ zs.toArray m
      rw [hg] at hc
      have ht : zs.take (m + 1) = zs.take m ++ [zs[m]] := (List.take_append_getElem hml).symm
      by_cases h0 : m = 0
      · subst h0
        have hk : Lib.keeps zs.toArray 0 = true := Lib.keeps_lt_one _ 0 (by omega)
        rw [hc, if_pos hk, ht]
        simp [Lib.compactUpTo, StrictI]
      · have hg1 : zs.toArray[m - 1]! = zs[m - 1] := by
          have : m - 1 < zs.length := by omega
          simp [this]
        have g2 : zs[m - 1] ≤ zs[m] := List.pairwise_iff_getElem.1 hs (m - 1) m (by omega) hml (by omega)
        by_cases he : zs[m] = zs[m - 1]
        · have hk : Lib.keeps zs.toArray m = false := Lib.keeps_neg (by omega) (by rw [hg, hg1, he])
          rw [hc, hk, ht]
          refine ⟨by simpa using i1, fun x => ?_⟩
          have hmem : zs[m] ∈ zs.take m := by
            rw [he]
            exact List.mem_iff_getElem.2 ⟨m - 1, by rw [List.length_take]; omega, by rw [List.getElem_take]⟩
          rw [if_neg (by simp), List.append_nil, i2 x, List.mem_append, List.mem_singleton]
          constructor
          · intro h; exact .inl h
          · rintro (h | h)
            · exact h
            · rw [h]; exact hmem
        · have hk : Lib.keeps zs.toArray m = true := Lib.keeps_pos (by rw [hg, hg1]; exact he)
          rw [hc, if_pos hk, ht]
          have hlt : ∀ x ∈ zs.take m, x < zs[m] := fun x hx => by
            obtain ⟨i, hi, rfl⟩ := List.getElem_of_mem hx
            rw [List.length_take] at hi
            rw [List.getElem_take]
            have g1 : zs[i] ≤ zs[m - 1] := by
              by_cases e : i = m - 1
              · subst e; omega
              · exact List.pairwise_iff_getElem.1 hs i (m - 1) (by omega) (by omega) (by omega)
            omega
          refine ⟨List.pairwise_append.2 ⟨i1, by simp, fun x hx y hy => ?_⟩, fun x => ?_⟩
          · rw [List.mem_singleton.1 hy]
            exact hlt x ((i2 x).1 hx)
          · rw [List.mem_append, List.mem_append, List.mem_singleton, i2 x]
  have := key zs.length (Nat.le_refl _)
  rw [List.take_length] at this
  exact this
theorem notesL_strict (t : Tune) : StrictI (notesL t) ∧ ∀ n, n ∈ notesL t ↔ ∃ x ∈ t.tones, x.note = n := by
  have hs : (sortN (t.tones.map Tone.note)).Pairwise fun x y => x ≤ y := by
    have := List.pairwise_mergeSort (le := fun x y : Int => decide (x ≤ y)) (fun x y z h k => by
      simp only [decide_eq_true_eq] at *
      omega) (fun x y => by
      simp only [Bool.or_eq_true, decide_eq_true_eq]
      omega) (t.tones.map Tone.note)
    exact this.imp fun h => by simpa using h
  obtain ⟨h1, h2⟩ := compactI_spec _ hs
  refine ⟨h1, fun n => ?_⟩
  unfold notesL
  rw [h2 n]
  unfold sortN
  rw [List.mem_mergeSort, List.mem_map]
theorem notesL_le (t : Tune) : (notesL t).length ≤ t.tones.length := by
  have h := compactI_le (sortN (t.tones.map Tone.note))
  have h2 : (sortN (t.tones.map Tone.note)).length = (t.tones.map Tone.note).length := List.length_mergeSort _
  rw [h2, List.length_map] at h
  exact h

/-- All numbers up to N, and those of them alone where something happens. -/
theorem fold_skip {α : Type} (f : α → Int → α) {L : List Int} (N : Nat) (hL : StrictI L) (hm : ∀ n ∈ L, 0 ≤ n ∧ n < N) (hf : ∀ a n, n ∉ L → f a n = a) (a : α) :
    ((List.range N).map Int.ofNat).foldl f a = L.foldl f a := by
  have hR : StrictI ((List.range N).map Int.ofNat) := by
    unfold StrictI
    rw [List.pairwise_map]
    exact List.pairwise_lt_range.imp fun h => Int.ofNat_lt.2 h
  have e : ((List.range N).map Int.ofNat).filter (fun n => decide (n ∈ L)) = L := by
    refine strictI_ext (hR.sublist List.filter_sublist) hL fun x => ?_
    rw [List.mem_filter, decide_eq_true_eq]
    refine ⟨fun h => h.2, fun h => ⟨?_, h⟩⟩
    obtain ⟨h1, h2⟩ := hm x h
    refine List.mem_map.2 ⟨x.toNat, List.mem_range.2 (by omega), ?_⟩
    show ((x.toNat : Nat) : Int) = x
    omega
  conv => rhs; rw [← e]
  rw [List.foldl_filter]
  congr 1
  funext b n
  by_cases h : n ∈ L
  · simp [h]
  · simp [h, hf b n h]

/-! ### Drums -/
structure DS where
  steps : Int
  notes : List Int
  pins : List Pin

def oneD (note per rest first : Int) (a : DS × List Int) (x : Tone) : DS × List Int :=
  if x.note = note then
    (⟨max a.1.steps (x.start.tdiv per + rest), if hamK rest a.2 (x.start.tdiv per) < a.2.length then a.1.notes else a.1.notes ++ [note], a.1.pins ++ [⟨x.start.tdiv per, first + hamK rest a.2 (x.start.tdiv per)⟩]⟩, hamS rest a.2 (x.start.tdiv per))
  else a
/-- The first i tones, at a note. -/
def partD (l : List Tone) (per rest : Int) (a : DS) (note : Int) (i : Nat) : DS × List Int := (l.take i).foldl (oneD note per rest a.notes.length) (a, [])
def noteD (l : List Tone) (per rest : Int) (a : DS) (note : Int) : DS := (partD l per rest a note l.length).1
def overD (l : List Tone) (per rest : Int) (ns : List Int) : DS := ns.foldl (noteD l per rest) ⟨rest, [], []⟩

theorem partD_zero (l : List Tone) (per rest : Int) (a : DS) (note : Int) : partD l per rest a note 0 = (a, []) := by simp [partD]
theorem partD_succ {l : List Tone} (per rest : Int) (a : DS) (note : Int) {i : Nat} (hi : i < l.length) : partD l per rest a note (i + 1) = oneD note per rest a.notes.length (partD l per rest a note i) l[i] := by
  unfold partD
  rw [← List.take_append_getElem hi, List.foldl_append]
  rfl
structure PartOk (l : List Tone) (per rest : Int) (a : DS) (note : Int) (i : Nat) (p : DS × List Int) : Prop where
  last : p.2 = (hamL note per rest (l.take i)).1
  notes : p.1.notes = a.notes ++ List.replicate p.2.length note
  lp : p.1.pins.length ≤ a.pins.length + i
  ln : p.2.length ≤ i
  small : ∀ s ∈ p.2, Small s
  st : a.steps ≤ p.1.steps ∧ p.1.steps ≤ max a.steps 40000
theorem partD_ok (l : List Tone) (per rest : Int) (a : DS) (note : Int) (hs : ∀ x ∈ l, 0 ≤ x.start.tdiv per ∧ x.start.tdiv per ≤ 20000) (hr : 1 ≤ rest ∧ rest ≤ 100) : ∀ i, i ≤ l.length → PartOk l per rest a note i (partD l per rest a note i)
  | 0, _ => by rw [partD_zero]; exact ⟨by simp [hamL], by simp, by simp, by simp, by simp, by simp; omega⟩
  | i + 1, hi => by
    have ih := partD_ok l per rest a note hs hr i (by omega)
    have hil : i < l.length := by omega
    rw [partD_succ per rest a note hil]
    have hh := hamL_succ note per rest l hil
    obtain ⟨g1, g2⟩ := hs _ (List.getElem_mem hil)
    generalize partD l per rest a note i = p at ih
    obtain ⟨⟨ps, pn, pp⟩, pl⟩ := p
    obtain ⟨h1, h2, h3, h4, h5, h6, h7⟩ := ih
    simp only at h1 h2 h3 h4 h5 h6 h7
    unfold oneD
    by_cases hx : l[i].note = note
    · rw [if_pos hx] at hh ⊢
      have hSl : (hamS rest pl (l[i].start.tdiv per)).length = if hamK rest pl (l[i].start.tdiv per) < pl.length then pl.length else pl.length + 1 := by
        unfold hamS
        split <;> simp
      refine ⟨by rw [hh, ← h1], ?_, ?_, ?_, ?_, ?_⟩
      · simp only
        rw [hSl]
        split
        · exact h2
        · rw [h2, List.append_assoc, List.replicate_succ']
      · simp only [List.length_append, List.length_cons, List.length_nil]
        omega
      · simp only
        rw [hSl]
        split <;> omega
      · intro s hm
        rcases hamS_mem hm with e | e
        · exact h5 s e
        · subst e; unfold Small; omega
      · simp only
        omega
    · rw [if_neg hx] at hh ⊢
      exact ⟨by rw [hh, ← h1], h2, by simp only; omega, by simp only; omega, h5, h6, h7⟩
theorem noteD_skip {l : List Tone} {note : Int} (h : ∀ x ∈ l, x.note ≠ note) (per rest : Int) (a : DS) : noteD l per rest a note = a := by
  unfold noteD
  have key : ∀ i, i ≤ l.length → partD l per rest a note i = (a, []) := fun i => by
    induction i with
    | zero => intro _; exact partD_zero ..
    | succ i ih =>
      intro hi
      rw [partD_succ per rest a note (by omega), ih (by omega)]
      unfold oneD
      rw [if_neg (h _ (List.getElem_mem _))]
  rw [key _ (Nat.le_refl _)]
/-- The drum, before its pins are sorted. -/
def drumS (t : Tune) (per rest : Int) : DS := overD t.tones per rest (notesL t)
theorem tune_ok {t : Tune} (h : tuneOk t = true) : t.tones.length ≤ 128 ∧ ∀ x ∈ t.tones, toneOk x = true := by
  unfold tuneOk at h
  simp only [Bool.and_eq_true, decide_eq_true_eq, List.all_eq_true, List.mem_range] at h
  refine ⟨h.2.2, fun x hx => ?_⟩
  obtain ⟨i, hi, rfl⟩ := List.getElem_of_mem hx
  have := h.1 i hi
  rw [toneAt_eq hi] at this
  simp only [Bool.and_eq_true] at this
  exact this.1
theorem tone_note {x : Tone} (h : toneOk x = true) : 0 ≤ x.note ∧ x.note ≤ 127 ∧ 0 ≤ x.start ∧ x.start ≤ 20000 := by
  unfold toneOk at h
  simp only [Bool.and_eq_true, decide_eq_true_eq] at h
  omega
theorem all_notes {t : Tune} (h : tuneOk t = true) (per rest : Int) : overD t.tones per rest ((List.range 128).map Int.ofNat) = drumS t per rest := by
  obtain ⟨h1, h2⟩ := notesL_strict t
  refine fold_skip _ 128 h1 (fun n hn => ?_) (fun a n hn => noteD_skip (fun x hx e => hn ((h2 n).2 ⟨x, hx, e⟩)) per rest a) _
  obtain ⟨x, hx, rfl⟩ := (h2 n).1 hn
  have := tone_note ((tune_ok h).2 x hx)
  omega
theorem tune_steps {t : Tune} (h : tuneOk t = true) {per : Int} (hp : 1 ≤ per) : ∀ x ∈ t.tones, 0 ≤ x.start.tdiv per ∧ x.start.tdiv per ≤ 20000 := fun x hx => by
  have hb := tone_note ((tune_ok h).2 x hx)
  have h1 := Int.tdiv_nonneg (a := x.start) (b := per) (by omega) (by omega)
  have h2 : x.start.tdiv per ≤ x.start := by
    have := Int.natAbs_tdiv_le_natAbs x.start per
    omega
  omega
/-- After the first j of some notes. -/
structure OverOk (n : Nat) (j : Nat) (a : DS) : Prop where
  lp : a.pins.length ≤ j * n
  ln : a.notes.length ≤ j * n
  st : 1 ≤ a.steps ∧ a.steps ≤ 40000
theorem over_succ (l : List Tone) (per rest : Int) (ns : List Int) {j : Nat} (hj : j < ns.length) : overD l per rest (ns.take (j + 1)) = noteD l per rest (overD l per rest (ns.take j)) ns[j] := by
  unfold overD
  rw [← List.take_append_getElem hj, List.foldl_append]
  rfl
theorem over_ok (l : List Tone) (per rest : Int) (ns : List Int) (hs : ∀ x ∈ l, 0 ≤ x.start.tdiv per ∧ x.start.tdiv per ≤ 20000) (hr : 1 ≤ rest ∧ rest ≤ 100) : ∀ j, j ≤ ns.length → OverOk l.length j (overD l per rest (ns.take j))
  | 0, _ => ⟨by simp [overD], by simp [overD], by simp [overD]; omega⟩
  | j + 1, hj => by
    have ih := over_ok l per rest ns hs hr j (by omega)
    rw [over_succ l per rest ns (by omega)]
    generalize overD l per rest (ns.take j) = a at ih
    have hp := partD_ok l per rest a ns[j] hs hr l.length (Nat.le_refl _)
    obtain ⟨h1, h2, h3⟩ := ih
    unfold noteD
    generalize partD l per rest a ns[j] l.length = p at hp
    obtain ⟨g1, g2, g3, g4, g5, g6⟩ := hp
    refine ⟨?_, ?_, by omega⟩
    · have : (j + 1) * l.length = j * l.length + l.length := Nat.succ_mul ..
      omega
    · have : (j + 1) * l.length = j * l.length + l.length := Nat.succ_mul ..
      rw [g2, List.length_append, List.length_replicate]
      omega

def drumCode (t : Tune) (per rest : Int) : Int := if askD t per rest = 0 then (if (drumS t per rest).steps ≤ 4096 ∧ (drumS t per rest).notes.length ≤ 32 then 0 else 5) else askD t per rest
def drumOf (t : Tune) (per rest : Int) : Drum := if drumCode t per rest = 0 then ⟨(drumS t per rest).steps, rest, (drumS t per rest).notes, sortP (drumS t per rest).pins⟩ else ⟨0, 0, [], []⟩
theorem askD_ok {t : Tune} {per rest : Int} (h : askD t per rest = 0) : tuneOk t = true ∧ 1 ≤ per ∧ per ≤ 1000 ∧ 1 ≤ rest ∧ rest ≤ 100 := by
  unfold askD at h
  split at h
  · rename_i h1
    split at h
    · rename_i h2
      exact ⟨h1, by omega⟩
    · cases h
  · cases h
theorem drumS_ok {t : Tune} {per rest : Int} (h : askD t per rest = 0) : OverOk t.tones.length (notesL t).length (drumS t per rest) := by
  obtain ⟨h1, h2, h3, h4, h5⟩ := askD_ok h
  have := over_ok t.tones per rest (notesL t) (tune_steps h1 h2) ⟨h4, h5⟩ _ (Nat.le_refl _)
  rw [List.take_length] at this
  exact this
theorem drumOf_le {t : Tune} {per rest : Int} : (drumOf t per rest).notes.length ≤ 16384 ∧ (drumOf t per rest).pins.length ≤ 16384 := by
  unfold drumOf
  split
  · rename_i h
    have ha : askD t per rest = 0 := by
      unfold drumCode at h
      split at h
      · assumption
      · assumption
    have hk := drumS_ok ha
    obtain ⟨h1, _⟩ := askD_ok ha
    have hl := (tune_ok h1).1
    have hn := notesL_le t
    have hm : (notesL t).length * t.tones.length ≤ 128 * 128 := Nat.mul_le_mul (by omega) hl
    have hS : (sortP (drumS t per rest).pins).length = (drumS t per rest).pins.length := List.length_mergeSort _
    have := hk.lp
    have := hk.ln
    simp only [hS]
    omega
  · simp
end Go.Proofs.YtmdablalfmcgnaaGreat
