/- The plain law of hammers: the first free hammer needs no more of them than tones fall into one rest. No condition. -/
import Derived.Test.YtmdablalfmcgnaaGreatVd
namespace Go.Proofs.YtmdablalfmcgnaaGreat
open Go Go.Ab
set_option maxRecDepth 100000

def inW (note per rest f : Int) (x : Tone) : Bool := decide (x.note = note) && (decide (f ≤ x.start.tdiv per) && decide (x.start.tdiv per < f + rest))
def winN (note per rest : Int) (l : List Tone) (f : Int) : Nat := l.countP (inW note per rest f)
theorem tune_sorted {t : Tune} (h : tuneOk t = true) : ∀ (j i : Nat) (hi : i < t.tones.length) (hj : j ≤ i), t.tones[j].start ≤ t.tones[i].start := fun j i => by
  induction i with
  | zero => intro hi hj; have : j = 0 := by omega
            subst this; exact Int.le_refl _
  | succ i ih =>
    intro hi hj
    by_cases e : j = i + 1
    · subst e; exact Int.le_refl _
    · have h1 := ih (by omega) (by omega)
      have h0 := h
      unfold tuneOk at h0
      simp only [Bool.and_eq_true, List.all_eq_true, List.mem_range] at h0
      have h2 := h0.1 (i + 1) hi
      rw [toneAt_eq hi] at h2
      unfold toneLt at h2
      simp at h2
      omega

theorem step_mono {a b per : Int} (hp : 1 ≤ per) (h : a ≤ b) : a.tdiv per ≤ b.tdiv per := Int.tdiv_le_tdiv (by omega) h
theorem countP_set_le {l : List Int} (p : Int → Bool) {k : Nat} (hk : k < l.length) (v : Int) : (l.set k v).countP p ≤ l.countP p + if p v = true then 1 else 0 := by
  rw [List.countP_set hk]
  split <;> split <;> omega
theorem countP_set_ge {l : List Int} (p : Int → Bool) {k : Nat} (hk : k < l.length) (v : Int) (h : p l[k] = true → p v = true) : l.countP p + (if p l[k] = false ∧ p v = true then 1 else 0) ≤ (l.set k v).countP p := by
  rw [List.countP_set hk]
  have hpos : p l[k] = true → 0 < l.countP p := fun g => List.countP_pos_iff.2 ⟨l[k], List.getElem_mem hk, g⟩
  cases h1 : p l[k] <;> cases h2 : p v
  · simp
  · simp
  · rw [h h1] at h2; cases h2
  · have := hpos h1
    simp
    omega
theorem least (l : List Int) (a : Int) : ∃ f, (f = a ∨ f ∈ l) ∧ f ≤ a ∧ ∀ s ∈ l, f ≤ s := by
  induction l with
  | nil => exact ⟨a, .inl rfl, Int.le_refl _, by simp⟩
  | cons x l ih =>
    obtain ⟨f, h1, h2, h3⟩ := ih
    by_cases hx : x ≤ f
    · exact ⟨x, .inr (by simp), by omega, fun s hs => by
        rcases List.mem_cons.1 hs with e | e
        · omega
        · have := h3 s e; omega⟩
    · exact ⟨f, h1.imp id fun h => by simp [h], h2, fun s hs => by
        rcases List.mem_cons.1 hs with e | e
        · omega
        · exact h3 s e⟩

structure HamMost (note per rest : Int) (l : List Tone) (last : List Int) : Prop where
  of : ∀ p : Int → Bool, last.countP p ≤ l.countP fun x => decide (x.note = note) && p (x.start.tdiv per)
  win : ∀ f, winN note per rest l f ≤ last.countP fun s => decide (f ≤ s)
  got : last = [] ∨ ∃ x ∈ l, x.note = note ∧ last.length ≤ winN note per rest l (x.start.tdiv per)
theorem winN_append (note per rest : Int) (l : List Tone) (x : Tone) (f : Int) : winN note per rest (l ++ [x]) f = winN note per rest l f + if inW note per rest f x = true then 1 else 0 := by
  unfold winN
  rw [List.countP_append, List.countP_singleton]
theorem ham_most {t : Tune} (h : tuneOk t = true) {per : Int} (hp : 1 ≤ per) (note rest : Int) (hr : 1 ≤ rest) : ∀ i, i ≤ t.tones.length → HamMost note per rest (t.tones.take i) (hamL note per rest (t.tones.take i)).1
  | 0, _ => ⟨by simp [hamL], by simp [winN], .inl (by simp [hamL])⟩
  | i + 1, hi => by
    have hil : i < t.tones.length := by omega
    obtain ⟨h1, h2, h3⟩ := ham_most h hp note rest hr i (by omega)
    have hh := hamL_succ note per rest t.tones hil
    have hle : ∀ y ∈ t.tones.take i, y.start.tdiv per ≤ t.tones[i].start.tdiv per := fun y hy => by
      obtain ⟨j, hj, rfl⟩ := List.getElem_of_mem hy
      rw [List.length_take] at hj
      rw [List.getElem_take]
      exact step_mono hp (tune_sorted h j i hil (by omega))
    have ht : t.tones.take (i + 1) = t.tones.take i ++ [t.tones[i]] := (List.take_append_getElem hil).symm
    generalize t.tones[i] = x at *
    generalize t.tones.take i = T at *
    generalize (hamL note per rest T) = a at *
    obtain ⟨last, ch⟩ := a
    simp only at h1 h2 h3 hh
    rw [ht] at hh ⊢
    by_cases hx : x.note = note
    · rw [if_pos hx] at hh
      rw [hh]
      simp only
      generalize hst : x.start.tdiv per = st at *
      -- all that struck last did so before
      have hlast : ∀ s ∈ last, s ≤ st := fun s hs => by
        have g := h1 fun s => decide (st < s)
        have g0 : (T.countP fun x => decide (x.note = note) && decide (st < x.start.tdiv per)) = 0 := by
          rw [List.countP_eq_zero]
          intro y hy
          have := hle y hy
          simp
          omega
        rw [g0] at g
        have g1 : (last.countP fun s => decide (st < s)) = 0 := by omega
        rw [List.countP_eq_zero] at g1
        have := g1 s hs
        simp at this
        omega
      have hof : ∀ p : Int → Bool, (hamS rest last st).countP p ≤ (T ++ [x]).countP fun x => decide (x.note = note) && p (x.start.tdiv per) := fun p => by
        rw [List.countP_append, List.countP_singleton]
        have g := h1 p
        simp only [hx, hst, decide_true, Bool.true_and]
        unfold hamS
        split
        · rename_i hk
          have := countP_set_le p hk st
          omega
        · rw [List.countP_append, List.countP_singleton]
          omega
      refine ⟨hof, fun f => ?_, ?_⟩
      · rw [winN_append]
        have g := h2 f
        have hin : inW note per rest f x = (decide (f ≤ st) && decide (st < f + rest)) := by simp [inW, hx, hst]
        rw [hin]
        by_cases hk : hamK rest last st < last.length
        · have hSe : hamS rest last st = last.set (hamK rest last st) st := by unfold hamS; rw [if_pos hk]
          have hfree : freeAt rest st last[hamK rest last st] = true := List.findIdx_getElem (w := hk)
          have hlk := hlast _ (List.getElem_mem hk)
          have hge := countP_set_ge (fun s => decide (f ≤ s)) hk st (by simp; omega)
          rw [hSe]
          unfold freeAt at hfree
          simp only [decide_eq_true_eq, decide_eq_false_iff_not, Bool.and_eq_true] at hfree hge ⊢
          split <;> split at hge <;> omega
        · have hSe : hamS rest last st = last ++ [st] := by unfold hamS; rw [if_neg hk]
          rw [hSe, List.countP_append, List.countP_singleton]
          simp only [decide_eq_true_eq, Bool.and_eq_true]
          split <;> split <;> omega
      · by_cases hk : hamK rest last st < last.length
        · have hS : (hamS rest last st).length = last.length := by unfold hamS; rw [if_pos hk, List.length_set]
          rcases h3 with e | ⟨y, hy, hy1, hy2⟩
          · rw [e] at hk; simp at hk
          · refine .inr ⟨y, by simp [hy], hy1, ?_⟩
            rw [hS, winN_append]
            omega
        · have hS : hamS rest last st = last ++ [st] := by unfold hamS; rw [if_neg hk]
          have hno : ∀ s ∈ last, st < s + rest := fun s hs => by
            have hkl : hamK rest last st = last.length := by have := hamK_le rest last st; omega
            unfold hamK at hkl
            have := (List.findIdx_eq_length.1 hkl) s hs
            unfold freeAt at this
            simp at this
            omega
          obtain ⟨f, f1, f2, f3⟩ := least last st
          have hfr : st < f + rest := by
            rcases f1 with e | e
            · omega
            · exact hno f e
          have g1 := hof fun s => decide (f ≤ s) && decide (s < f + rest)
          have g2 : (hamS rest last st).countP (fun s => decide (f ≤ s) && decide (s < f + rest)) = (hamS rest last st).length := by
            rw [List.countP_eq_length]
            intro s hs
            rcases hamS_mem hs with e | e
            · have := f3 s e
              have := hlast s e
              simp
              omega
            · simp
              omega
          rw [g2] at g1
          have g3 := hof fun s => decide (s = f)
          have g4 : 0 < (hamS rest last st).countP (fun s => decide (s = f)) := List.countP_pos_iff.2 ⟨f, by rw [hS]; simp; exact f1.symm, by simp⟩
          obtain ⟨y, hy, hy'⟩ := List.countP_pos_iff.1 (Nat.lt_of_lt_of_le g4 g3)
          simp at hy'
          refine .inr ⟨y, hy, hy'.1, ?_⟩
          rw [hy'.2]
          exact g1
    · rw [if_neg hx] at hh
      rw [hh]
      have hin : ∀ f, inW note per rest f x = false := fun f => by simp [inW, hx]
      refine ⟨fun p => ?_, fun f => ?_, ?_⟩
      · rw [List.countP_append]
        exact Nat.le_trans (h1 p) (Nat.le_add_right _ _)
      · rw [winN_append, hin]
        have := h2 f
        simpa using this
      · rcases h3 with e | ⟨y, hy, hy1, hy2⟩
        · exact .inl e
        · refine .inr ⟨y, by simp [hy], hy1, ?_⟩
          rw [winN_append]
          exact Nat.le_trans hy2 (Nat.le_add_right _ _)

/-- The most tones in one rest from the start of one of them. -/
def manyN (note per rest : Int) (l : List Tone) (x : Tone) : Nat := if x.note = note then winN note per rest l (x.start.tdiv per) else 0
def mostN (note per rest : Int) (l : List Tone) (i : Nat) : Nat := (l.take i).foldl (fun m x => max m (manyN note per rest l x)) 0
theorem mostN_succ (note per rest : Int) {l : List Tone} {i : Nat} (hi : i < l.length) : mostN note per rest l (i + 1) = max (mostN note per rest l i) (manyN note per rest l l[i]) := by
  unfold mostN
  rw [← List.take_append_getElem hi, List.foldl_append]
  rfl
theorem mostN_le (note per rest : Int) (l : List Tone) (M : Nat) (h : ∀ x ∈ l, manyN note per rest l x ≤ M) : ∀ i, i ≤ l.length → mostN note per rest l i ≤ M
  | 0, _ => by simp [mostN]
  | i + 1, hi => by
    rw [mostN_succ note per rest (show i < l.length by omega)]
    have h1 := mostN_le note per rest l M h i (by omega)
    have h2 := h _ (List.getElem_mem (show i < l.length by omega))
    omega
theorem mostN_ge (note per rest : Int) (l : List Tone) : ∀ i, i ≤ l.length → ∀ x ∈ l.take i, manyN note per rest l x ≤ mostN note per rest l i
  | 0, _, x, hx => by simp at hx
  | i + 1, hi, x, hx => by
    have hil : i < l.length := by omega
    rw [mostN_succ note per rest hil]
    rw [← List.take_append_getElem hil, List.mem_append, List.mem_singleton] at hx
    rcases hx with e | e
    · have := mostN_ge note per rest l i (by omega) x e
      omega
    · subst e; omega
theorem ham_eq_most {t : Tune} (h : tuneOk t = true) {per : Int} (hp : 1 ≤ per) (note rest : Int) (hr : 1 ≤ rest) : (hamL note per rest t.tones).1.length = mostN note per rest t.tones t.tones.length := by
  have hm := ham_most h hp note rest hr _ (Nat.le_refl _)
  rw [List.take_length] at hm
  obtain ⟨h1, h2, h3⟩ := hm
  refine Nat.le_antisymm ?_ (mostN_le _ _ _ _ _ (fun x hx => ?_) _ (Nat.le_refl _))
  · rcases h3 with e | ⟨y, hy, hy1, hy2⟩
    · rw [e]; simp
    · have := mostN_ge note per rest t.tones _ (Nat.le_refl _) y (by rw [List.take_length]; exact hy)
      unfold manyN at this
      rw [if_pos hy1] at this
      omega
  · unfold manyN
    split
    · have := h2 (x.start.tdiv per)
      have := List.countP_le_length (p := fun s : Int => decide (x.start.tdiv per ≤ s)) (l := (hamL note per rest t.tones).1)
      omega
    · omega
theorem ham_skip {l : List Tone} {note : Int} (h : ∀ x ∈ l, x.note ≠ note) (per rest : Int) : hamL note per rest l = ([], []) := by
  have key : ∀ i, i ≤ l.length → hamL note per rest (l.take i) = ([], []) := fun i => by
    induction i with
    | zero => intro _; simp [hamL]
    | succ i ih =>
      intro hi
      rw [hamL_succ note per rest l (show i < l.length by omega), if_neg (h _ (List.getElem_mem _)), ih (by omega)]
  have := key _ (Nat.le_refl _)
  rwa [List.take_length] at this

/-- The hammers of some notes. -/
def hamsN (l : List Tone) (per rest : Int) (ns : List Int) : Nat := ns.foldl (fun a n => a + (hamL n per rest l).1.length) 0
theorem hamsN_succ (l : List Tone) (per rest : Int) (ns : List Int) {j : Nat} (hj : j < ns.length) : hamsN l per rest (ns.take (j + 1)) = hamsN l per rest (ns.take j) + (hamL ns[j] per rest l).1.length := by
  unfold hamsN
  rw [← List.take_append_getElem hj, List.foldl_append]
  rfl
theorem hams_all {t : Tune} (h : tuneOk t = true) (per rest : Int) : hamsN t.tones per rest ((List.range 128).map Int.ofNat) = hamsN t.tones per rest (notesL t) := by
  obtain ⟨h1, h2⟩ := notesL_strict t
  refine fold_skip _ 128 h1 (fun n hn => ?_) (fun a n hn => ?_) _
  · obtain ⟨x, hx, rfl⟩ := (h2 n).1 hn
    have := tone_note ((tune_ok h).2 x hx)
    omega
  · rw [ham_skip (fun x hx e => hn ((h2 n).2 ⟨x, hx, e⟩))]
    rfl
theorem ham_le (note per rest : Int) (l : List Tone) : (hamL note per rest l).1.length ≤ l.length := by
  have key : ∀ i, i ≤ l.length → (hamL note per rest (l.take i)).1.length ≤ i := fun i => by
    induction i with
    | zero => intro _; simp [hamL]
    | succ i ih =>
      intro hi
      have := ih (by omega)
      rw [hamL_succ note per rest l (show i < l.length by omega)]
      split
      · simp only
        unfold hamS
        split
        · rw [List.length_set]; omega
        · simp; omega
      · omega
  have := key _ (Nat.le_refl _)
  rwa [List.take_length] at this
theorem hams_le (l : List Tone) (per rest : Int) (ns : List Int) : ∀ j, j ≤ ns.length → hamsN l per rest (ns.take j) ≤ j * l.length
  | 0, _ => by simp [hamsN]
  | j + 1, hj => by
    rw [hamsN_succ l per rest ns (show j < ns.length by omega)]
    have h1 := hams_le l per rest ns j (by omega)
    have h2 := ham_le (ns[j]'(by omega)) per rest l
    have h3 : (j + 1) * l.length = j * l.length + l.length := Nat.succ_mul ..
    omega
def hamsOf (t : Tune) (per rest : Int) : Int := if askD t per rest = 0 then (hamsN t.tones per rest (notesL t) : Int) else 0
end Go.Proofs.YtmdablalfmcgnaaGreat
