/- Contracts: the hammers of a note. No condition. -/
import Derived.Test.YtmdablalfmcgnaaGreatVb
import Derived.Test.YtmdablalfmcgnaaGreatDb
namespace Go.Proofs.YtmdablalfmcgnaaGreat
open Go Go.Ab
set_option maxRecDepth 100000

/-- A hammer that struck at s may strike again at step. -/
def freeAt (rest step s : Int) : Bool := decide (s + rest ≤ step)
def Small (n : Int) : Prop := -1000000 ≤ n ∧ n ≤ 1000000

theorem c_free (rest step s : Int) (h1 : Small rest) (h2 : Small s) : HFn Tryz.prog 34 [.int .i64 s, .pe 1 [[.int .i64 rest]] 0 0, .pe 1 [[.int .i64 step]] 0 0] [] (.bool (freeAt rest step s)) [] := by
  unfold Small at h1 h2
  refine hfn_intro hm Tryz.func34 (by kernel_rfl) rfl (by kernel_rfl) rfl ret0_ok ?_
  simp [freeAt]
  rw [w64 (by omega) (by omega)]
theorem c_IndexFree (rest step : Int) (ks : List Int) (h1 : Small rest) (hk : ∀ s ∈ ks, Small s) (hn : ks.length ≤ 1048576) :
    HFn Tryz.prog 33 [.sl 1 (intRows ks), .fn 34 [.pe 1 [[.int .i64 rest]] 0 0, .pe 1 [[.int .i64 step]] 0 0]] [] (.int .i64 (findI (freeAt rest step) ks)) [] := by
  refine hfn_intro hm Tryz.func33 (by kernel_rfl) rfl (by kernel_rfl) rfl ret0_ok ?_
  simp [intRows]
  refine loop_upto hm ks.length (fun i => ⟨[(0, .sl 1 (intRows ks)), (1, .fn 34 [.pe 1 [[.int .i64 rest]] 0 0, .pe 1 [[.int .i64 step]] 0 0]), (7, .int .i64 ks.length), (8, .int .i64 i)], []⟩) (fun i => ∀ j (h : j < ks.length), j < i → freeAt rest step ks[j] = false) (by kernel_rfl) ?_ (by simp) (fun i hi hI => ?_) (fun hI => ?_)
  · exact Wk.weak (ρ := []) (φ := []) (by simp [intRows])
  · simp [intRows, hi]
    refine CallZ.use0 (c_free rest step ks[i] h1 (hk _ (List.getElem_mem hi))) rfl rfl ?_
    simp
    refine ⟨fun h => (findI_at hi h hI).symm, fun h => ⟨fun j hj hji => ?_, ?_⟩⟩
    · by_cases e : j = i
      · subst e; exact h
      · exact hI j hj (by omega)
    · refine Wk.weak (ρ := []) (φ := []) ?_
      simp
      exact w64 (by omega) (by omega)
  · simp [intRows]
    exact (findI_none fun j hj => hI j hj hj).symm

/-- The hammer that strikes at step, and when all have struck last. -/
def hamK (rest : Int) (last : List Int) (step : Int) : Nat := last.findIdx (freeAt rest step)
def hamS (rest : Int) (last : List Int) (step : Int) : List Int := if hamK rest last step < last.length then last.set (hamK rest last step) step else last ++ [step]
/-- .. of the first i tones. -/
def hamL (note per rest : Int) : List Tone → List Int × List Int
  | l => l.foldl (fun a x => if x.note = note then (hamS rest a.1 (x.start.tdiv per), a.2 ++ [(hamK rest a.1 (x.start.tdiv per) : Int)]) else a) ([], [])
theorem hamL_succ (note per rest : Int) (l : List Tone) {i : Nat} (hi : i < l.length) : hamL note per rest (l.take (i + 1)) =
    if l[i].note = note then (hamS rest (hamL note per rest (l.take i)).1 (l[i].start.tdiv per), (hamL note per rest (l.take i)).2 ++ [(hamK rest (hamL note per rest (l.take i)).1 (l[i].start.tdiv per) : Int)]) else hamL note per rest (l.take i) := by
  unfold hamL
  rw [← List.take_append_getElem hi, List.foldl_append]
  rfl
theorem hamK_le (rest : Int) (last : List Int) (step : Int) : hamK rest last step ≤ last.length := List.findIdx_le_length
theorem findI_ham (rest : Int) (last : List Int) (step : Int) : findI (freeAt rest step) last = if hamK rest last step < last.length then (hamK rest last step : Int) else -1 := by
  unfold findI hamK
  by_cases h : last.findIdx (freeAt rest step) < last.length
  · rw [if_pos h]
    have : last.findIdx? (freeAt rest step) = some (last.findIdx (freeAt rest step)) := List.findIdx?_eq_some_iff_findIdx_eq.2 ⟨h, rfl⟩
    rw [this]
  · rw [if_neg h]
    have : last.findIdx? (freeAt rest step) = none := List.findIdx?_eq_none_iff_findIdx_eq.2 (by have := List.findIdx_le_length (p := freeAt rest step) (xs := last); omega)
    rw [this]
theorem hamS_mem {rest : Int} {last : List Int} {step s : Int} (h : s ∈ hamS rest last step) : s ∈ last ∨ s = step := by
  unfold hamS at h
  split at h
  · exact List.mem_or_eq_of_mem_set h
  · simpa using h
structure HamOk (a : List Int × List Int) (i : Nat) : Prop where
  small : ∀ s ∈ a.1, Small s
  l1 : a.1.length ≤ i
  l2 : a.2.length ≤ i
theorem hamL_ok (note per rest : Int) (l : List Tone) (hs : ∀ x ∈ l, Small (x.start.tdiv per)) : ∀ i, i ≤ l.length → HamOk (hamL note per rest (l.take i)) i
  | 0, _ => ⟨by simp [hamL], by simp [hamL], by simp [hamL]⟩
  | i + 1, hi => by
    have h := hamL_ok note per rest l hs i (by omega)
    rw [hamL_succ note per rest l (show i < l.length by omega)]
    split
    · refine ⟨fun s hm => ?_, ?_, ?_⟩
      · rcases hamS_mem hm with h1 | h1
        · exact h.small s h1
        · rw [h1]
          exact hs _ (List.getElem_mem _)
      · have := h.l1
        simp only
        unfold hamS
        split
        · rw [List.length_set]; omega
        · rw [List.length_append]; simp; omega
      · have := h.l2
        simp only [List.length_append, List.length_cons, List.length_nil]
        omega
    · exact ⟨h.small, by have := h.l1; omega, by have := h.l2; omega⟩

set_option maxHeartbeats 4000000 in
theorem c_hammersFor (t : Tune) (note per rest : Int) (hl : t.tones.length ≤ 1048576) (hp : 1 ≤ per) (hr : Small rest) (hs : ∀ x ∈ t.tones, Small (x.start.tdiv per)) :
    HFn Tryz.prog 15 [.agg t.cells, .int .i64 note, .int .i64 per, .int .i64 rest] [] (.tup [.int .i64 (hamL note per rest t.tones).1.length, .sf 0 1]) [some (.arr 1 (intRows (hamL note per rest t.tones).2))] := by
  refine hfn_intro hm Tryz.func15 (by kernel_rfl) rfl (by kernel_rfl) rfl (fun _ _ h => h) ?_
  simp [Tune.cells, Tone.rows_len]
  refine loop_upto hm t.tones.length (fun i => ⟨[(1, .int .i64 note), (2, .int .i64 per), (4, .pb 0 0), (7, .pb 1 0), (10, .sf 2 1), (11, .sf 3 1), (17, .sl 3 (Tone.rows t.tones)), (18, .int .i64 t.tones.length), (19, .int .i64 i)], [some (.box [.str t.name, .sl 3 (Tone.rows t.tones)]), some (.box [.int .i64 rest]), some (.arr 1 (intRows (hamL note per rest (t.tones.take i)).1)), some (.arr 1 (intRows (hamL note per rest (t.tones.take i)).2))]⟩) (fun _ => True) (by kernel_rfl) ?_ trivial (fun i hi _ => ?_) (fun _ => ?_)
  · refine (weak_nil (t := 10) (z := 1) rfl).trans ((weak_nil (t := 11) (z := 1) rfl).trans (Wk.weak (ρ := [0, 1, 2, 3]) (φ := []) ?_))
    simp [hamL, intRows]
  · have w1 : IntKind.i64.wrap ((i : Int) + 1) = (i : Int) + 1 := w64 (by omega) (by omega)
    have hok := hamL_ok note per rest t.tones hs i (by omega)
    have hsucc := hamL_succ note per rest t.tones hi
    generalize hamL note per rest (t.tones.take i) = a at hok hsucc ⊢
    obtain ⟨last, chosen⟩ := a
    obtain ⟨k1, k2, k3⟩ := hok
    simp only at hsucc k1 k2 k3 ⊢
    rw [hsucc]
    have hsm := hs t.tones[i] (List.getElem_mem hi)
    generalize hst : t.tones[i].start.tdiv per = st at hsm ⊢
    have wst : IntKind.i64.wrap st = st := by unfold Small at hsm; exact w64 (by omega) (by omega)
    have hcl : (intRows chosen).length ≤ 1048576 := by rw [intRows_len]; omega
    have hll : (intRows last).length ≤ 1048576 := by rw [intRows_len]; omega
    by_cases hx : t.tones[i].note = note
    · simp (maxSteps := 2000000) [hi, Tone.rows_len, Tone.row_get, hx, hst, wst]
      refine ⟨by omega, CallZ.use0 (c_IndexFree rest st last hr k1 (by omega)) rfl rfl ?_⟩
      rw [findI_ham]
      have hS : hamS rest last st = if hamK rest last st < last.length then last.set (hamK rest last st) st else last ++ [st] := rfl
      rw [hS]
      generalize hK : hamK rest last st = k
      by_cases hk : k < last.length
      · rw [if_pos hk, if_pos hk]
        simp (maxSteps := 2000000) [intRows_len, hk]
        refine ⟨fun h => absurd h (by omega), by simp [Go.Ab.rowsOne], by omega, by omega, Wk.weak (ρ := [0, 1, 2, 3]) (φ := []) ?_⟩
        have hget : (intRows last)[k]'(by rw [intRows_len]; exact hk) = [.int .i64 last[k]] := by simp [intRows]
        have hset : (intRows last).set k [.int .i64 st] = intRows (last.set k st) := by unfold intRows; rw [List.map_set]
        simp (maxSteps := 2000000) [w1, hget, hset]
        simp [intRows]
      · rw [if_neg hk, if_neg hk]
        have hkk : k = last.length := by have := hamK_le rest last st; omega
        subst hkk
        simp (maxSteps := 2000000) [intRows_len]
        refine ⟨by simp [Go.Ab.rowsOne], by omega, by omega, by omega, by simp [Go.Ab.rowsOne], by omega, by omega, Wk.weak (ρ := [0, 1, 2, 3]) (φ := []) ?_⟩
        simp (maxSteps := 2000000) [w1]
        simp [intRows]
    · simp (maxSteps := 2000000) [hi, Tone.rows_len, Tone.row_get, hx]
      refine Wk.weak (ρ := [0, 1, 2, 3]) (φ := []) ?_
      simp [w1]
  · rw [List.take_length]
    simp
    refine CallZ.use0 (c_sizeInt _) rfl rfl ?_
    simp
    exact Wk.weak (ρ := [3]) (φ := []) (by simp)
end Go.Proofs.YtmdablalfmcgnaaGreat
