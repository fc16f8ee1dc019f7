/- The plain law of drums that are made: they are valid, have the hammers that are needed and a pin for each tone. No condition.; Contracts: the law on drums that are made of tunes. No condition. -/
import Derived.Test.YtmdablalfmcgnaaGreatVe
import Derived.Test.YtmdablalfmcgnaaGreatWe
import Derived.Test.YtmdablalfmcgnaaGreatQa
import Derived.Test.YtmdablalfmcgnaaGreatNa
import Derived.Test.YtmdablalfmcgnaaGreatVg
import Derived.Test.YtmdablalfmcgnaaGreatWf
-- from Qb
namespace Go.Proofs.YtmdablalfmcgnaaGreat
open Go Go.Ab
set_option maxRecDepth 100000

/-! ### What a drum that is made is like -/
/-- Two pins of one hammer, in order. -/
def Aft (rest : Int) (p q : Pin) : Prop := p.hammer = q.hammer → p.step + rest ≤ q.step
theorem hamK_free {rest : Int} {last : List Int} {step : Int} (h : hamK rest last step < last.length) : last[hamK rest last step] + rest ≤ step := by
  have := List.findIdx_getElem (p := freeAt rest step) (xs := last) (w := h)
  unfold freeAt at this
  rw [decide_eq_true_eq] at this
  exact this
/-- Within a note. -/
structure PartFine (l : List Tone) (per rest : Int) (a : DS) (note : Int) (i : Nat) (p : DS × List Int) : Prop where
  made : ∃ N, p.1.pins = a.pins ++ N ∧ N.Pairwise (Aft rest) ∧ N.length = (l.take i).countP (fun x => decide (x.note = note)) ∧
    (∀ q ∈ N, 0 ≤ q.step ∧ q.step + rest ≤ p.1.steps ∧ ∃ k, ∃ hk : k < p.2.length, q.hammer = a.notes.length + (k : Int) ∧ q.step ≤ p.2[k]) ∧
    ∀ x ∈ l.take i, x.note = note → ∃ q ∈ N, q.step = x.start.tdiv per
  st : a.steps ≤ p.1.steps
theorem part_fine {l : List Tone} {per rest : Int} (a : DS) (note : Int) (hs : ∀ x ∈ l, 0 ≤ x.start.tdiv per ∧ x.start.tdiv per ≤ 20000) (hr : 1 ≤ rest ∧ rest ≤ 100) :
    ∀ i, i ≤ l.length → PartFine l per rest a note i (partD l per rest a note i)
  | 0, _ => by
    rw [partD_zero]
    exact ⟨⟨[], by simp, .nil, by simp, by simp, by simp⟩, Int.le_refl _⟩
  | i + 1, hi => by
    have ih := part_fine a note hs hr i (by omega)
    have hil : i < l.length := by omega
    rw [partD_succ per rest a note hil]
    obtain ⟨g1, g2⟩ := hs _ (List.getElem_mem hil)
    generalize partD l per rest a note i = p at ih
    obtain ⟨⟨ps, pn, pp⟩, pl⟩ := p
    obtain ⟨⟨N, h1, h2, h3, h4, h5⟩, h6⟩ := ih
    simp only at h1 h4 h6
    have ht := List.take_append_getElem hil
    unfold oneD
    by_cases hx : l[i].note = note
    · rw [if_pos hx]
      refine ⟨⟨N ++ [⟨l[i].start.tdiv per, a.notes.length + (hamK rest pl (l[i].start.tdiv per) : Int)⟩], ?_, ?_, ?_, ?_, ?_⟩, ?_⟩
      · simp only
        rw [h1, List.append_assoc]
      · rw [List.pairwise_append]
        refine ⟨h2, List.pairwise_singleton .., fun q hq r hr' => ?_⟩
        rw [List.mem_singleton] at hr'
        subst hr'
        intro e
        simp only at e ⊢
        obtain ⟨_, _, k, hk, k1, k2⟩ := h4 q hq
        have : k = hamK rest pl (l[i].start.tdiv per) := by omega
        subst this
        have := hamK_free hk
        omega
      · rw [← ht, List.countP_append, List.length_append, h3]
        simp [hx]
      · intro q hq
        rcases List.mem_append.1 hq with hq | hq
        · obtain ⟨q1, q2, k, hk, k1, k2⟩ := h4 q hq
          refine ⟨q1, by simp only; omega, k, ?_, k1, ?_⟩
          · simp only
            unfold hamS
            split
            · simpa using hk
            · simp; omega
          · simp only [hamS]
            split
            · rename_i hh
              rw [List.getElem_set]
              split
              · rename_i e
                subst e
                have := hamK_free hk
                omega
              · exact k2
            · rw [List.getElem_append_left hk]
              exact k2
        · rw [List.mem_singleton] at hq
          subst hq
          refine ⟨g1, by simp only; omega, hamK rest pl (l[i].start.tdiv per), ?_, rfl, ?_⟩
          · simp only [hamS]
            split
            · simpa
            · have := hamK_le rest pl (l[i].start.tdiv per)
              simp
              omega
          · simp only [hamS]
            split
            · rename_i hh
              simp
            · rename_i hh
              have h7 := hamK_le rest pl (l[i].start.tdiv per)
              rw [List.getElem_append_right (by omega)]
              simp
      · intro x hxm hxn
        rw [← ht] at hxm
        rcases List.mem_append.1 hxm with hxm | hxm
        · obtain ⟨q, hq, e⟩ := h5 x hxm hxn
          exact ⟨q, List.mem_append_left _ hq, e⟩
        · rw [List.mem_singleton] at hxm
          subst hxm
          exact ⟨_, List.mem_append_right _ (List.mem_singleton.2 rfl), rfl⟩
      · simp only
        omega
    · rw [if_neg hx]
      refine ⟨⟨N, h1, h2, ?_, h4, fun x hxm hxn => ?_⟩, h6⟩
      · rw [← ht, List.countP_append, h3]
        simp [hx]
      · rw [← ht] at hxm
        rcases List.mem_append.1 hxm with hxm | hxm
        · exact h5 x hxm hxn
        · rw [List.mem_singleton] at hxm
          subst hxm
          exact (hx hxn).elim

theorem countP_two (p q r : Tone → Bool) (h : ∀ x, r x = (p x || q x)) (hno : ∀ x, ¬ (p x = true ∧ q x = true)) : ∀ l, List.countP p l + List.countP q l = List.countP r l
  | [] => rfl
  | x :: l => by
    have ih := countP_two p q r h hno l
    have h1 := h x
    have h2 := hno x
    simp only [List.countP_cons]
    cases hp : p x <;> cases hq : q x <;> simp_all
    all_goals omega
/-- After some notes. -/
structure OverFine (l : List Tone) (per rest : Int) (ns : List Int) (a : DS) : Prop where
  aft : a.pins.Pairwise (Aft rest)
  pins : ∀ q ∈ a.pins, 0 ≤ q.step ∧ q.step + rest ≤ a.steps ∧ 0 ≤ q.hammer ∧ q.hammer < a.notes.length
  inc : a.notes.Pairwise fun x y => x ≤ y
  mem : ∀ n ∈ a.notes, n ∈ ns
  num : a.notes.length = hamsN l per rest ns
  cnt : a.pins.length = l.countP fun x => decide (x.note ∈ ns)
  cov : ∀ x ∈ l, x.note ∈ ns → ∃ q ∈ a.pins, q.step = x.start.tdiv per ∧ a.notes.getD q.hammer.toNat 0 = x.note
  st : rest ≤ a.steps

theorem over_fine {l : List Tone} {per rest : Int} {ns : List Int} (hn : StrictI ns) (hs : ∀ x ∈ l, 0 ≤ x.start.tdiv per ∧ x.start.tdiv per ≤ 20000) (hr : 1 ≤ rest ∧ rest ≤ 100) :
    ∀ j, j ≤ ns.length → OverFine l per rest (ns.take j) (overD l per rest (ns.take j))
  | 0, _ => by
    simp only [List.take_zero, overD, List.foldl_nil]
    exact ⟨.nil, by simp, .nil, by simp, by simp [hamsN], by simp, by simp, Int.le_refl _⟩
  | j + 1, hj => by
    have ih := over_fine hn hs hr j (by omega)
    have hjl : j < ns.length := by omega
    have hN := hamsN_succ l per rest ns hjl
    rw [over_succ l per rest ns hjl]
    have ht := List.take_append_getElem hjl
    have hlast : ∀ n ∈ ns.take j, n < ns[j] := fun n hnm => by
      obtain ⟨i, hi, rfl⟩ := List.getElem_of_mem hnm
      have hij : i < j := by rw [List.length_take] at hi; omega
      rw [List.getElem_take]
      exact List.pairwise_iff_getElem.1 hn i j (by omega) hjl hij
    generalize overD l per rest (ns.take j) = a at ih
    have hp := partD_ok l per rest a ns[j] hs hr l.length (Nat.le_refl _)
    have hf := part_fine a ns[j] hs hr l.length (Nat.le_refl _)
    unfold noteD
    generalize partD l per rest a ns[j] l.length = p at hp hf
    obtain ⟨p1, p2, _, _, _, _⟩ := hp
    rw [List.take_length] at p1
    obtain ⟨⟨N, f1, f2, f3, f4, f5⟩, f6⟩ := hf
    rw [List.take_length] at f3 f5
    obtain ⟨a1, a2, a3, a4, a5, a6, a7, a8⟩ := ih
    have hlen : p.1.notes.length = a.notes.length + p.2.length := by rw [p2, List.length_append, List.length_replicate]
    refine ⟨?_, ?_, ?_, ?_, ?_, ?_, ?_, by omega⟩
    · rw [f1, List.pairwise_append]
      refine ⟨a1, f2, fun q hq r hr' e => ?_⟩
      have := (a2 q hq).2.2.2
      obtain ⟨_, _, k, hk, e2, _⟩ := f4 r hr'
      omega
    · intro q hq
      rw [f1] at hq
      rcases List.mem_append.1 hq with hq | hq
      · have := a2 q hq
        omega
      · obtain ⟨q1, q2, k, hk, q3, _⟩ := f4 q hq
        omega
    · rw [p2, List.pairwise_append]
      refine ⟨a3, List.pairwise_replicate.2 (.inr (Int.le_refl _)), fun x hx y hy => ?_⟩
      rw [List.eq_of_mem_replicate hy]
      have := hlast x (a4 x hx)
      omega
    · intro n hnm
      rw [← ht]
      rw [p2] at hnm
      rcases List.mem_append.1 hnm with h | h
      · exact List.mem_append_left _ (a4 n h)
      · exact List.mem_append_right _ (List.mem_singleton.2 (List.eq_of_mem_replicate h))
    · rw [hlen, hN, a5, p1]
    · rw [f1, List.length_append, a6, f3]
      refine countP_two _ _ _ (fun x => by rw [← ht, ← Bool.decide_or]; exact decide_eq_decide.2 (by rw [List.mem_append, List.mem_singleton])) (fun x h => ?_) l
      simp only [decide_eq_true_eq] at h
      have := hlast _ h.1
      omega
    · intro x hx hxn
      rw [← ht] at hxn
      rcases List.mem_append.1 hxn with h | h
      · obtain ⟨q, hq, e1, e2⟩ := a7 x hx h
        refine ⟨q, by rw [f1]; exact List.mem_append_left _ hq, e1, ?_⟩
        have := a2 q hq
        rw [p2, ← e2]
        simp only [List.getD_eq_getElem?_getD]
        rw [List.getElem?_append_left (by omega)]
      · rw [List.mem_singleton] at h
        obtain ⟨q, hq, e1⟩ := f5 x hx h
        refine ⟨q, by rw [f1]; exact List.mem_append_right _ hq, e1, ?_⟩
        obtain ⟨_, _, k, hk, e2, _⟩ := f4 q hq
        rw [p2]
        simp only [List.getD_eq_getElem?_getD]
        rw [List.getElem?_append_right (by omega), List.getElem?_replicate, if_pos (by omega)]
        exact h.symm

/-- A drum of such pins and notes, sorted, is valid. -/
theorem sorted_fine {l : List Tone} {per rest : Int} {ns : List Int} {a : DS} (hO : OverFine l per rest ns a) (hr : 1 ≤ rest ∧ rest ≤ 100) (hns : ∀ n ∈ ns, 0 ≤ n ∧ n ≤ 127) (hl : l.length ≤ 128) (h1 : a.steps ≤ 4096) (h2 : a.notes.length ≤ 32) :
    DrumOk ⟨a.steps, rest, a.notes, sortP a.pins⟩ := by
  obtain ⟨a1, a2, a3, a4, a5, a6, a7, a8⟩ := hO
  have hperm : (sortP a.pins).Perm a.pins := List.mergeSort_perm _ _
  have hlen := hperm.length_eq
  have hsym : (sortP a.pins).Pairwise fun p q => p.hammer = q.hammer → p.step + rest ≤ q.step ∨ q.step + rest ≤ p.step :=
    (List.Perm.pairwise_iff (fun {x y} h e => (h e.symm).symm) hperm).2 (a1.imp fun h e => .inl (h e))
  have haft : (sortP a.pins).Pairwise (Aft rest) := by
    refine (hsym.and (sortP_in a.pins)).imp fun {p q} h e => ?_
    have h3 := h.2
    unfold pinLt at h3
    simp at h3
    rcases h.1 e with h4 | h4
    · exact h4
    · omega
  have hlt : (sortP a.pins).Pairwise fun p q => pinLt p q = true := by
    refine (haft.and (sortP_in a.pins)).imp fun {p q} h => ?_
    have h3 := h.2
    have h4 := h.1
    unfold Aft at h4
    unfold pinLt at h3 ⊢
    simp at h3 ⊢
    omega
  have hpin : ∀ q ∈ sortP a.pins, 0 ≤ q.step ∧ q.step + rest ≤ a.steps ∧ 0 ≤ q.hammer ∧ q.hammer < a.notes.length := fun q hq => a2 q (hperm.mem_iff.1 hq)
  have hcl : a.pins.length ≤ l.length := by rw [a6]; exact List.countP_le_length
  generalize sortP a.pins = P at *
  refine ⟨by simp only; omega, h1, hr.1, hr.2, h2, by simp only; omega, ?_, fun i hi => ?_, fun i hi => ?_, fun h hh => ?_⟩
  · refine all_range_true fun i hi => ?_
    have hi : i < a.notes.length := hi
    simp only [sortedAt, Bool.or_eq_true, decide_eq_true_eq]
    rcases Nat.eq_zero_or_pos i with e | e
    · exact .inl e
    · refine .inr ?_
      simp only [List.getD_eq_getElem?_getD]
      rw [List.getElem?_eq_getElem (by omega), List.getElem?_eq_getElem hi]
      exact List.pairwise_iff_getElem.1 a3 (i - 1) i (by omega) hi (by omega)
  · simp only at hi
    have := hns _ (a4 _ (List.getElem_mem hi))
    simp only [noteOkAt, List.getD_eq_getElem?_getD, List.getElem?_eq_getElem hi, Option.getD_some, Bool.and_eq_true, decide_eq_true_eq]
    exact this
  · simp only at hi
    have := hpin _ (List.getElem_mem hi)
    simp only [pinAtOk, pinIn, Bool.and_eq_true, Bool.or_eq_true, decide_eq_true_eq]
    rw [pinAt_eq hi]
    refine ⟨by omega, ?_⟩
    rcases Nat.eq_zero_or_pos i with e | e
    · exact .inl e
    · refine .inr ?_
      rw [pinAt_eq (by omega)]
      exact List.pairwise_iff_getElem.1 hlt (i - 1) i (by omega) hi (by omega)
  · simp only
    have hline : (lineOf P h).Pairwise fun x y => x + rest ≤ y := by
      unfold lineOf
      rw [List.pairwise_map, List.pairwise_filter]
      refine haft.imp fun {p q} hpq e1 e2 => hpq ?_
      simp at e1 e2
      omega
    have hin : ∀ s ∈ lineOf P h, 0 ≤ s ∧ s + rest ≤ a.steps := fun s hs => by
      unfold lineOf at hs
      obtain ⟨q, hq, rfl⟩ := List.mem_map.1 hs
      have := hpin q (List.mem_filter.1 hq).1
      omega
    generalize lineOf P h = s at *
    refine all_range_true fun k hk => ?_
    rw [decide_eq_true_eq]
    unfold gapAt
    simp only [List.getD_eq_getElem?_getD]
    split
    · rename_i hk1
      rw [List.getElem?_eq_getElem hk1, List.getElem?_eq_getElem hk]
      have := List.pairwise_iff_getElem.1 hline k (k + 1) hk hk1 (by omega)
      simp only [Option.getD_some]
      omega
    · rw [List.getElem?_eq_getElem (show 0 < s.length by omega), List.getElem?_eq_getElem hk]
      have q1 := hin _ (List.getElem_mem hk)
      have q2 := hin _ (List.getElem_mem (show 0 < s.length by omega))
      simp only [Option.getD_some]
      omega

theorem compT_mem (T : List Tone) : ∀ i, i ≤ T.length → ∀ x ∈ T.take i, x ∈ compT T i
  | 0, _ => by simp
  | i + 1, hi => fun x hx => by
    have ih := compT_mem T i (by omega)
    have hil : i < T.length := by omega
    rw [← List.take_append_getElem hil] at hx
    rw [compT_succ T hil]
    split
    · rename_i h
      rcases List.mem_append.1 hx with hx | hx
      · exact ih x hx
      · rw [List.mem_singleton] at hx
        subst hx
        rw [← h.2]
        exact ih _ (List.mem_iff_getElem.2 ⟨i - 1, by rw [List.length_take]; omega, by rw [List.getElem_take]⟩)
    · rcases List.mem_append.1 hx with hx | hx
      · exact List.mem_append_left _ (ih x hx)
      · exact List.mem_append_right _ hx

/-- What the law says of a drum that is made. -/
theorem drum_made {t : Tune} {per rest : Int} (h : drumCode t per rest = 0) : validDrum (drumOf t per rest) = true ∧ (drumOf t per rest).notes.length = hamsN t.tones per rest (notesL t) ∧ (drumOf t per rest).pins.length = t.tones.length ∧
    ∀ x ∈ t.tones, ∃ y ∈ playL (drumOf t per rest) per, y.note = x.note ∧ y.start = x.start.tdiv per * per := by
  have ha : askD t per rest = 0 := by
    unfold drumCode at h
    split at h
    · assumption
    · exact h
  have hd : drumOf t per rest = ⟨(drumS t per rest).steps, rest, (drumS t per rest).notes, sortP (drumS t per rest).pins⟩ := by
    unfold drumOf
    rw [if_pos h]
  obtain ⟨h1, h2, h3, h4, h5⟩ := askD_ok ha
  have hb : (drumS t per rest).steps ≤ 4096 ∧ (drumS t per rest).notes.length ≤ 32 := by
    unfold drumCode at h
    rw [if_pos ha] at h
    split at h
    · assumption
    · cases h
  obtain ⟨n1, n2⟩ := notesL_strict t
  have hO := over_fine n1 (tune_steps h1 h2) ⟨h4, h5⟩ (notesL t).length (Nat.le_refl _)
  rw [List.take_length] at hO
  change OverFine t.tones per rest (notesL t) (drumS t per rest) at hO
  have hV := sorted_fine hO ⟨h4, h5⟩ (fun n hn => by
    obtain ⟨x, hx, rfl⟩ := (n2 n).1 hn
    have := tone_note ((tune_ok h1).2 x hx)
    omega) (tune_ok h1).1 hb.1 hb.2
  rw [hd]
  have hperm : (sortP (drumS t per rest).pins).Perm (drumS t per rest).pins := List.mergeSort_perm _ _
  refine ⟨(validDrum_iff _).2 hV, hO.num, ?_, fun x hx => ?_⟩
  · simp only
    rw [hperm.length_eq, hO.cnt, List.countP_eq_length.2 fun x hx => decide_eq_true ((n2 _).2 ⟨x, hx, rfl⟩)]
  · obtain ⟨q, hq, e1, e2⟩ := hO.cov x hx ((n2 _).2 ⟨x, hx, rfl⟩)
    refine ⟨⟨(drumS t per rest).notes.getD q.hammer.toNat 0, q.step * per, per⟩, ?_, e2, by simp only; rw [e1]⟩
    unfold playL
    refine compT_mem _ _ (by simp [playTones]) _ ?_
    rw [List.take_of_length_le (by simp [playTones])]
    unfold playTones
    exact List.mem_map.2 ⟨q, hperm.mem_iff.2 hq, rfl⟩
end Go.Proofs.YtmdablalfmcgnaaGreat
-- from Qc
namespace Go.Proofs.YtmdablalfmcgnaaGreat
open Go Go.Ab
set_option maxRecDepth 100000

def hitT (per : Int) (x y : Tone) : Bool := decide (y.note = x.note) && decide (y.start = x.start.tdiv per * per)
theorem any_succ (per : Int) (x : Tone) {X : List Tone} {j : Nat} (hj : j < X.length) : (X.take (j + 1)).any (hitT per x) = ((X.take j).any (hitT per x) || hitT per x X[j]) := by
  rw [← List.take_append_getElem hj, List.any_append]
  simp
set_option maxHeartbeats 4000000 in
theorem c_law_Drums (code : List Int) (hc : ∀ c ∈ code, 0 ≤ c ∧ c < 256) (hl : code.length ≤ 9223372036854775807) :
    HFn Tryz.prog 3 [.sl 1 (byteRows code)] [] (.bool true) [] := by
  refine hfn_intro hm Tryz.func3 (by kernel_rfl) rfl (by kernel_rfl) rfl ret0_ok ?_
  simp
  refine CallZ.use0 (c_b10Long code) rfl rfl ?_
  simp
  intro _
  refine CallZ.useG [] [] [] (c_DrawDrumOf code hc hl) (by simp) rfl (by simp) rfl (fun x _ => ⟨rfl, rfl, rfl, .inl rfl⟩) (fun x hx => ?_)
  obtain ⟨t, per, rest⟩ := x
  simp only at hx ⊢
  have kD := c_impl_DrumOf t per rest (by omega)
  have kH := c_impl_HammersNeeded t per rest (by omega)
  have hle := drumOf_le (t := t) (per := per) (rest := rest)
  have kV := c_spec_ValidDrum (drumOf t per rest) (by omega) (by omega)
  have kP := c_impl_PlayDrum (drumOf t per rest) per (by omega) (by omega)
  simp only [Tune.cells] at kD kH
  simp
  refine CallZ.use kD rfl (.inr ⟨flat_intRows _, Pin.flat _, trivial⟩) rfl rfl ?_
  simp
  refine CallZ.use0 kH rfl rfl ?_
  simp
  by_cases h0 : drumCode t per rest = 0
  · obtain ⟨m1, m2, m3, m4⟩ := drum_made h0
    have ha : askD t per rest = 0 := by
      unfold drumCode at h0
      split at h0
      · assumption
      · exact h0
    obtain ⟨a1, a2, a3, a4, a5⟩ := askD_ok ha
    have hts := tune_steps a1 a2
    have hH : hamsOf t per rest = (hamsN t.tones per rest (notesL t) : Int) := by unfold hamsOf; rw [if_pos ha]
    rw [← m2] at hH
    have hpc : playCode (drumOf t per rest) per = 0 ∨ playCode (drumOf t per rest) per = 6 := by
      have h1 := playL_le (drumOf t per rest) per
      have h2 := (tune_ok a1).1
      unfold playCode
      rw [if_pos m1, if_pos ⟨a2, a3⟩, if_pos (by omega)]
      split <;> simp
    have hpo : playCode (drumOf t per rest) per = 0 → playOf (drumOf t per rest) per = ⟨drumName, playL (drumOf t per rest) per⟩ := fun h => by unfold playOf; rw [if_pos h]
    have hpl := playL_le (drumOf t per rest) per
    rw [m1] at kV
    generalize drumOf t per rest = D at *
    simp only [Drum.cells] at kV kP
    simp [h0]
    refine CallZ.use0 kV rfl rfl ?_
    simp [ha, hH, m3, intRows_len, Pin.rows_len, Tone.rows_len]
    refine CallZ.use kP rfl (.inr ⟨Tone.flat _, trivial⟩) rfl rfl ?_
    simp
    rcases hpc with hp | hp
    · have hpo := hpo hp
      rw [hpo]
      generalize playL D per = X at *
      simp [hp]
      refine loop_upto hm t.tones.length (fun i => ⟨[(3, .pb 1 0), (4, .int .i64 per), (10, .pb 3 0), (12, .int .i64 i)], [some (.arr 3 (Tone.rows t.tones)), some (.box [.str t.name, .sf 0 3]), some (.arr 3 (Tone.rows X)), some (.box [.str drumName, .sf 2 3])]⟩) (fun _ => True) (by kernel_rfl) ?_ trivial (fun i hi _ => ?_) (fun _ => ?_)
      · refine Wk.weak (ρ := [0, 1, 5, 6]) (φ := []) ?_
        simp
      · have w1 : IntKind.i64.wrap ((i : Int) + 1) = (i : Int) + 1 := w64 (by omega) (by omega)
        simp [Tone.rows_len, hi]
        refine loop_upto hm X.length (fun j => ⟨[(3, .pb 1 0), (4, .int .i64 per), (10, .pb 3 0), (12, .int .i64 i), (13, .bool ((X.take j).any (hitT per t.tones[i]))), (14, .int .i64 j)], [some (.arr 3 (Tone.rows t.tones)), some (.box [.str t.name, .sf 0 3]), some (.arr 3 (Tone.rows X)), some (.box [.str drumName, .sf 2 3])]⟩) (fun _ => True) (by kernel_rfl) ?h0 trivial (fun j hj _ => ?st) (fun _ => ?fin)
        case h0 =>
          refine Wk.weak (ρ := [0, 1, 2, 3]) (φ := []) ?_
          simp
        case st =>
          have w2 : IntKind.i64.wrap ((j : Int) + 1) = (j : Int) + 1 := w64 (by omega) (by omega)
          have hb := hts _ (List.getElem_mem hi)
          have hm0 : 0 ≤ t.tones[i].start.tdiv per * per := Int.mul_nonneg hb.1 (by omega)
          have hm1 : t.tones[i].start.tdiv per * per ≤ 20000 * 1000 := Int.mul_le_mul hb.2 a3 (by omega) (by omega)
          have w3 : IntKind.i64.wrap (t.tones[i].start.tdiv per * per) = t.tones[i].start.tdiv per * per := w64 (by omega) (by omega)
          have w4 : IntKind.i64.wrap (t.tones[i].start.tdiv per) = t.tones[i].start.tdiv per := w64 (by omega) (by omega)
          have hs := any_succ per t.tones[i] hj
          have g1 : (Tone.rows X)[j]'(by rw [Tone.rows_len]; exact hj) = [.int .i64 X[j].note, .int .i64 X[j].start, .int .i64 X[j].length] := by simp [Tone.rows, Tone.cells]
          have g2 : (Tone.rows t.tones)[i]'(by rw [Tone.rows_len]; exact hi) = [.int .i64 t.tones[i].note, .int .i64 t.tones[i].start, .int .i64 t.tones[i].length] := by simp [Tone.rows, Tone.cells]
          rw [hs]
          generalize (X.take j).any (hitT per t.tones[i]) = f
          cases f
          · by_cases hn : X[j].note = t.tones[i].note
            · simp [Tone.rows_len, hi, hj, g1, g2, hn, w3, w4, show ¬ per = 0 by omega]
              refine Wk.weak (ρ := [0, 1, 2, 3]) (φ := []) ?_
              simp [w2, hitT, hn]
            · simp [Tone.rows_len, hi, hj, g1, g2, hn]
              refine Wk.weak (ρ := [0, 1, 2, 3]) (φ := []) ?_
              simp [w2, hitT, hn]
          · by_cases hn : X[j].note = t.tones[i].note
            · simp [Tone.rows_len, hi, hj, g1, g2, hn]
              refine Wk.weak (ρ := [0, 1, 2, 3]) (φ := []) ?_
              simp [w2]
            · simp [Tone.rows_len, hi, hj, g1, g2, hn]
              refine Wk.weak (ρ := [0, 1, 2, 3]) (φ := []) ?_
              simp [w2]
        case fin =>
          have hit : X.any (hitT per t.tones[i]) = true := by
            obtain ⟨y, hy, e1, e2⟩ := m4 _ (List.getElem_mem hi)
            exact List.any_eq_true.2 ⟨y, hy, by simp [hitT, e1, e2]⟩
          simp [Tone.rows_len, hit]
          refine Wk.weak (ρ := [0, 1, 2, 3]) (φ := []) ?_
          simp [w1]
      · simp [Tone.rows_len]
        omega
    · simp [hp]
  · have hd : drumOf t per rest = ⟨0, 0, [], []⟩ := by unfold drumOf; rw [if_neg h0]
    have ha : askD t per rest = drumCode t per rest ∨ drumCode t per rest = 5 := by
      unfold drumCode at h0 ⊢
      split
      · rename_i h1
        rw [if_pos h1] at h0
        split
        · rename_i h2
          rw [if_pos h2] at h0
          exact (h0 rfl).elim
        · exact .inr rfl
      · exact .inl rfl
    have hr : Pin.rows ([] : List Pin) = [] := rfl
    simp [h0, hd, hr]
    grind

theorem l_FnDrums (pargs : List PV) (h : fitsAll [.one (.slc [.int .u8])] pargs) : HFn Tryz.prog 3 pargs [] (.bool true) [] := by
  obtain ⟨p0, r0, rfl, f0, z0⟩ := fitsAll_cons h
  obtain rfl := fitsAll_nil z0
  obtain ⟨rows0, rfl, g0, y0⟩ := fits_slc f0
  obtain ⟨code, rfl, wc⟩ := fits_bytes y0
  exact c_law_Drums code wc (by simpa [byteRows] using g0)
end Go.Proofs.YtmdablalfmcgnaaGreat
