/- The plain law of played drums: the tones of a valid drum stand in order. No condition. -/
import Derived.Test.YtmdablalfmcgnaaGreatWa
import Derived.Test.YtmdablalfmcgnaaGreatWb
import Derived.Test.YtmdablalfmcgnaaGreatWd
import Derived.Test.YtmdablalfmcgnaaGreatFe
namespace Go.Proofs.YtmdablalfmcgnaaGreat
open Go Go.Ab
set_option maxRecDepth 100000

theorem pinRow {l : List Pin} {i : Nat} (hi : i < l.length) : (Pin.rows l)[i]'(by rw [Pin.rows_len]; exact hi) = [.int .i64 l[i].step, .int .i64 l[i].hammer] := by simp [Pin.rows, Pin.cells]
def noteAt (d : Drum) (h : Int) : Int := d.notes.getD h.toNat 0
def playPairs (d : Drum) (per : Int) : List (Int × Int) := d.pins.map fun p => (p.step * per, noteAt d p.hammer)
def playTones (d : Drum) (per : Int) : List Tone := d.pins.map fun p => ⟨noteAt d p.hammer, p.step * per, per⟩
theorem playRows (d : Drum) (per : Int) : nsRows per (playPairs d per) = Tone.rows (playTones d per) := by
  unfold nsRows playPairs playTones
  rw [List.map_map]
  rfl
theorem play_len (d : Drum) (per : Int) : (playTones d per).length = d.pins.length := List.length_map _
theorem notes_le {l : List Int} (h : sortedI l = true) : ∀ (j i : Nat), i ≤ j → j < l.length → l.getD i 0 ≤ l.getD j 0 := fun j i => by
  induction j with
  | zero => intro hi _; have : i = 0 := by omega
            subst this; exact Int.le_refl _
  | succ j ih =>
    intro hi hj
    by_cases e : i = j + 1
    · subst e; exact Int.le_refl _
    · have h1 := ih (by omega) (by omega)
      have h2 := h
      unfold sortedI at h2
      rw [List.all_eq_true] at h2
      have h3 := h2 (j + 1) (List.mem_range.2 hj)
      simp only [sortedAt, Bool.or_eq_true, decide_eq_true_eq, Nat.add_sub_cancel] at h3
      omega
theorem pin_in {d : Drum} (h : validDrum d = true) {i : Nat} (hi : i < d.pins.length) : 0 ≤ d.pins[i].step ∧ d.pins[i].step ≤ d.steps - 1 ∧ 0 ≤ d.pins[i].hammer ∧ d.pins[i].hammer ≤ (d.notes.length : Int) - 1 := by
  have := ((validDrum_iff d).1 h).pins i hi
  simp [pinAtOk, pinIn, pinAt_eq hi] at this
  omega
theorem play_sorted {d : Drum} (h : validDrum d = true) {per : Int} (hp : 1 ≤ per) : (playPairs d per).Pairwise fun x y => nsLt y x = false := by
  rw [List.pairwise_iff_getElem]
  intro i j hi hj hij
  have hi' : i < d.pins.length := by simpa [playPairs] using hi
  have hj' : j < d.pins.length := by simpa [playPairs] using hj
  have h1 := pins_lt h i j hi' hj' hij
  have h2 := pin_in h hi'
  have h3 := pin_in h hj'
  have h4 := notes_le ((validDrum_iff d).1 h).sorted
  simp only [playPairs, List.getElem_map]
  generalize d.pins[i] = p at *
  generalize d.pins[j] = q at *
  unfold pinLt at h1
  simp only [Bool.or_eq_true, Bool.and_eq_true, decide_eq_true_eq] at h1
  unfold nsLt
  simp only [Bool.or_eq_false_iff, Bool.and_eq_false_iff, decide_eq_false_iff_not]
  rcases h1 with h1 | ⟨h1, h5⟩
  · have h6 : p.step * per < q.step * per := Int.mul_lt_mul_of_pos_right h1 (by omega)
    exact ⟨by omega, .inl (by omega)⟩
  · rw [h1]
    have h7 := h4 q.hammer.toNat p.hammer.toNat (by omega) (by omega)
    unfold noteAt
    exact ⟨by omega, .inr (by omega)⟩
theorem play_sort {d : Drum} (h : validDrum d = true) {per : Int} (hp : 1 ≤ per) : sortNS (playPairs d per) = playPairs d per := by
  unfold sortNS
  exact List.mergeSort_of_pairwise ((play_sorted h hp).imp fun h => by simp [h])
theorem sortedT_of {T : List Tone} (h : T.Pairwise fun x y => 0 ≤ cmpTone y x) : SortedT T := fun i j hij hj => by
  by_cases e : i = j
  · subst e
    rw [cmpTone_lt]
    simp [toneLt]
  · exact List.pairwise_iff_getElem.1 h i j (by omega) hj (by omega)
theorem play_in {d : Drum} (h : validDrum d = true) {per : Int} (hp : 1 ≤ per) : (playTones d per).Pairwise fun x y => 0 ≤ cmpTone y x := by
  have e : playTones d per = (playPairs d per).map (nsTone per) := by
    unfold playTones playPairs
    rw [List.map_map]
    rfl
  rw [e, List.pairwise_map]
  refine (play_sorted h hp).imp fun {x y} hxy => ?_
  rw [cmpTone_lt]
  exact hxy
theorem compT_sub (T : List Tone) : ∀ i, i ≤ T.length → (compT T i).Sublist (T.take i)
  | 0, _ => by simp [compT]
  | i + 1, hi => by
    have ih := compT_sub T i (by omega)
    rw [compT_succ T (by omega), ← List.take_append_getElem (show i < T.length by omega)]
    split
    · exact ih.trans (List.sublist_append_left ..)
    · exact ih.append (List.Sublist.refl _)
/-- The tones that a drum plays. -/
def playL (d : Drum) (per : Int) : List Tone := compT (playTones d per) d.pins.length
theorem playL_sorted {d : Drum} (h : validDrum d = true) {per : Int} (hp : 1 ≤ per) : SortedT (playL d per) := by
  refine sortedT_of ((play_in h hp).sublist ?_)
  have := compT_sub (playTones d per) d.pins.length (by rw [play_len]; omega)
  exact this.trans (List.take_sublist _ _)
theorem playL_le (d : Drum) (per : Int) : (playL d per).length ≤ d.pins.length := compT_le _ _ (by rw [play_len]; omega)

def drumName : List UInt8 := [100, 114, 117, 109]
def playCode (d : Drum) (per : Int) : Int := if validDrum d = true then (if 1 ≤ per ∧ per ≤ 1000 then (if (playL d per).length ≤ 128 then (if tuneOk ⟨drumName, playL d per⟩ = true then 0 else 6) else 5) else 2) else 1
def playOf (d : Drum) (per : Int) : Tune := if playCode d per = 0 then ⟨drumName, playL d per⟩ else ⟨[], []⟩
theorem playOf_le (d : Drum) (per : Int) : (playOf d per).name.length ≤ 4 ∧ (playOf d per).tones.length ≤ d.pins.length := by
  unfold playOf
  split
  · exact ⟨by simp [drumName], playL_le d per⟩
  · simp

theorem weak_notune {H : Heap} {c : Int} : Weak ⟨[(0, .tup [.agg [.str [], .nils], .int .i64 c])], H⟩ ⟨[(0, .tup [.agg [.str [], .sf 0 3], .int .i64 c])], [some (.arr 3 [])]⟩ := by
  refine (weak_nilTA (t := 0) 0 1 3 rfl rfl rfl).trans (Wk.weak (ρ := [H.length]) (φ := []) ?_)
  simp
end Go.Proofs.YtmdablalfmcgnaaGreat
