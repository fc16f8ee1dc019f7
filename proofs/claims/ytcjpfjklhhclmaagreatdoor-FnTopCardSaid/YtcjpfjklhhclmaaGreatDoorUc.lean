/- Tunes: what later texts need beside the type's own text. No condition. Contracts: valid tunes, and the numbers of a drum. No condition. Contracts: valid tunes. No condition. -/
import Derived.Test.YtcjpfjklhhclmaaGreatDoorCe
import Derived.Test.YtcjpfjklhhclmaaGreatDoorTNest
import Derived.Test.YtcjpfjklhhclmaaGreatDoorCk
import Derived.Test.YtcjpfjklhhclmaaGreatDoorTI
namespace Go.Proofs.YtcjpfjklhhclmaaGreatDoor
open Go Go.Ab
set_option maxRecDepth 100000

@[simp] def Tune.res (d : Tune) : PV := .agg [.str d.name, .sf 0 3]
@[simp] def Tune.objs (d : Tune) : Heap := [some (.arr 3 (Tone.rows d.tones))]
end Go.Proofs.YtcjpfjklhhclmaaGreatDoor

namespace Go.Proofs.YtcjpfjklhhclmaaGreatDoor
open Go Go.Ab
set_option maxRecDepth 100000

theorem Tone.row_get (T : List Tone) {i : Nat} (h : i < (Tone.rows T).length) : (Tone.rows T)[i] = [.int .i64 (T[i]'(by rw [Tone.rows_len] at h; exact h)).note, .int .i64 (T[i]'(by rw [Tone.rows_len] at h; exact h)).start, .int .i64 (T[i]'(by rw [Tone.rows_len] at h; exact h)).length] := by simp [Tone.rows, Tone.cells]
def toneLt (a b : Tone) : Bool := decide (a.start < b.start) || (decide (a.start = b.start) && decide (a.note < b.note))
def toneOk (x : Tone) : Bool := (decide (0 ≤ x.note) && decide (x.note ≤ 127)) && (decide (0 ≤ x.start) && decide (x.start ≤ 20000)) && (decide (1 ≤ x.length) && decide (x.length ≤ 20000 - x.start))
def cmpTone (a b : Tone) : Int := orL [cmpI a.start b.start, cmpI a.note b.note]
theorem cmpTone_lt (a b : Tone) : 0 ≤ cmpTone a b ↔ toneLt a b = false := by
  unfold cmpTone cmpI toneLt
  simp [orL]
  grind
def toneAt (l : List Tone) (i : Nat) : Bool := match l[i]? with
  | some x => toneOk x && (decide (i = 0) || match l[i - 1]? with
    | some y => toneLt y x
    | none => true)
  | none => true
def tuneOk (t : Tune) : Bool := (List.range t.tones.length).all (toneAt t.tones) && (isName t.name && decide (t.tones.length ≤ 128))
abbrev Tune.ptr (t : Tune) : PV := .pe 2 [t.cells] 0 0

theorem c_compareTones (a b : Tone) : HFn Tryz.prog 273 [.agg a.cells, .agg b.cells] [] (.int .i64 (cmpTone a b)) [] := by
  refine hfn_intro hm Tryz.func273 (by kernel_rfl) rfl (by kernel_rfl) rfl ret0_ok ?_
  simp [Tone.cells]
  refine CallZ.use0 (c_CompareInt _ _) rfl rfl ?_
  simp
  refine CallZ.use0 (c_CompareInt _ _) rfl rfl ?_
  simp
  refine CallZ.use0 (by simpa [intRows] using c_OrInt [cmpI a.start b.start, cmpI a.note b.note] (by simp)) rfl rfl ?_
  simp [cmpTone]

theorem c_validTone (x : Tone) : HFn Tryz.prog 272 [.agg x.cells] [] (.bool (toneOk x)) [] := by
  refine hfn_intro hm Tryz.func272 (by kernel_rfl) rfl (by kernel_rfl) rfl ret0_ok ?_
  simp [Tone.cells]
  refine CallZ.use0 (c_isNote _) rfl rfl ?_
  simp
  refine ⟨fun a b => ⟨a, b⟩, CallY.use (fun _ => ⟨rfl, c_within _ _ _⟩) rfl rfl ?_⟩
  simp
  refine ⟨by intros; simp [*], CallY.use (fun _ => ⟨rfl, c_within _ _ _⟩) rfl rfl ?_⟩
  have hw : 0 ≤ x.start → x.start ≤ 20000 → IntKind.i64.wrap (20000 - x.start) = 20000 - x.start := fun h1 h2 => w64 (by omega) (by omega)
  generalize IntKind.i64.wrap (20000 - x.start) = W at hw ⊢
  simp
  unfold toneOk
  grind
theorem c_l25Tone (x : Tone) (rows : List (List PV)) (i : Nat) (h : rows[i]? = some x.cells) : HFn Tryz.prog 143 [.pe 3 rows i 0] [] (.bool (toneOk x)) [] := by
  obtain ⟨hi, hr⟩ := List.getElem?_eq_some_iff.1 h
  rw [Tone.cells] at hr
  refine hfn_intro hm Tryz.func143 (by kernel_rfl) rfl (by kernel_rfl) rfl ret0_ok ?_
  simp [hi, hr]
  refine CallZ.use0 (c_l03Note _) rfl rfl ?_
  simp [hi, hr]
  refine ⟨fun a b => ⟨a, b⟩, CallY.use (fun _ => ⟨rfl, c_l00In _ _ _⟩) rfl rfl ?_⟩
  simp [hi, hr]
  refine ⟨by intros; simp [*], CallY.use (fun _ => ⟨rfl, c_l00In _ _ _⟩) rfl rfl ?_⟩
  have hw : 0 ≤ x.start → x.start ≤ 20000 → IntKind.i64.wrap (20000 - x.start) = 20000 - x.start := fun h1 h2 => w64 (by omega) (by omega)
  generalize IntKind.i64.wrap (20000 - x.start) = W at hw ⊢
  simp
  unfold toneOk
  grind
theorem c_l25Before (a b : Tone) (rows rows' : List (List PV)) (i j : Nat) (h : rows[i]? = some a.cells) (h' : rows'[j]? = some b.cells) : HFn Tryz.prog 144 [.pe 3 rows i 0, .pe 3 rows' j 0] [] (.bool (toneLt a b)) [] := by
  obtain ⟨hi, hx⟩ := List.getElem?_eq_some_iff.1 h
  obtain ⟨hj, hy⟩ := List.getElem?_eq_some_iff.1 h'
  rw [Tone.cells] at hx hy
  refine hfn_intro hm Tryz.func144 (by kernel_rfl) rfl (by kernel_rfl) rfl ret0_ok ?_
  simp [hi, hj, hx, hy]
  unfold toneLt
  grind
end Go.Proofs.YtcjpfjklhhclmaaGreatDoor

namespace Go.Proofs.YtcjpfjklhhclmaaGreatDoor
open Go Go.Ab
set_option maxRecDepth 100000

theorem toneAt_eq {l : List Tone} {i : Nat} (hi : i < l.length) : toneAt l i = (toneOk l[i] && (decide (i = 0) || toneLt (l[i - 1]'(by omega)) l[i])) := by
  have hx := List.getElem?_eq_getElem hi
  have hy : l[i - 1]? = some (l[i - 1]'(by omega)) := List.getElem?_eq_getElem (by omega)
  simp [toneAt, hx, hy]

theorem c_impl_ValidTune (t : Tune) (hl : t.tones.length ≤ 1048576) : HFn Tryz.prog 199 [.agg t.cells] [] (.bool (tuneOk t)) [] := by
  refine hfn_intro hm Tryz.func199 (by kernel_rfl) rfl (by kernel_rfl) rfl ret0_ok ?_
  simp [Tune.cells, Tone.rows_len]
  refine loop_upto hm t.tones.length (fun i => ⟨[(1, .pb 0 0), (6, .sl 3 (Tone.rows t.tones)), (7, .int .i64 t.tones.length), (8, .int .i64 i)], [some (.box [.str t.name, .sl 3 (Tone.rows t.tones)])]⟩) (fun i => ∀ j, j < i → toneAt t.tones j = true) (by kernel_rfl) ?_ (by simp) (fun i hi hI => ?_) (fun hI => ?_)
  · exact Wk.weak (ρ := [0]) (φ := []) (by simp)
  · have e1 : IntKind.i64.wrap ((i : Int) - 1) = i - 1 := w64 (by omega) (by omega)
    have hil : i - 1 < t.tones.length := by omega
    have ho := toneAt_eq hi
    have hlt := cmpTone_lt t.tones[i - 1] t.tones[i]
    simp [Tone.rows_len, Tone.row_get, hi]
    refine CallZ.use0 (c_validTone t.tones[i]) rfl rfl ?_
    simp [Tone.rows_len, Tone.row_get, e1, hil]
    refine ⟨fun a b => ⟨a, b⟩, fun a b => ⟨⟨a, b⟩, by omega, by omega⟩, fun a b => ⟨a, b⟩, CallY.use (res := .int .i64 (cmpTone t.tones[i - 1] t.tones[i])) (fun _ => ⟨rfl, c_compareTones t.tones[i - 1] t.tones[i]⟩) rfl rfl ?_⟩
    simp
    refine ⟨by grind, fun h => ?_, fun h1 h2 => ⟨upto_succ hI ?_, ?_⟩⟩
    · have : toneAt t.tones i = false := by
        rw [ho]
        rcases h with h | ⟨h, h'⟩
        · simp [h]
        · have h4 : ¬ i = 0 := by omega
          simp [hlt.1 h', h4]
      simp [tuneOk, all_range_false hi this]
    · rw [ho, h1]
      by_cases h4 : i = 0
      · simp [h4]
      · have h5 := h2 (by omega)
        have h6 : ¬ 0 ≤ cmpTone t.tones[i - 1] t.tones[i] := by omega
        rw [hlt] at h6
        simp [h6]
    · refine Wk.weak (ρ := [0]) (φ := []) ?_
      simp
      exact w64 (by omega) (by omega)
  · simp
    have hall : (List.range t.tones.length).all (toneAt t.tones) = true := all_range_true hI
    refine CallZ.use0 (c_impl_IsName t.name) rfl rfl ?_
    simp [tuneOk, hall, Tone.rows_len]
    have h128 : ((t.tones.length : Int) ≤ 128) ↔ t.tones.length ≤ 128 := by omega
    simp [h128]

theorem c_l25Ok (t : Tune) (hl : t.tones.length ≤ 1048576) : HFn Tryz.prog 52 [t.ptr] [] (.bool (tuneOk t)) [] := by
  refine hfn_intro hm Tryz.func52 (by kernel_rfl) rfl (by kernel_rfl) rfl ret0_ok ?_
  simp
  refine loop_upto hm t.tones.length (fun i => ⟨[(0, .pe 2 [[.str t.name, .sl 3 (Tone.rows t.tones)]] 0 0), (3, .int .i64 i)], []⟩) (fun i => ∀ j, j < i → toneAt t.tones j = true) (by kernel_rfl) ?_ (by simp) (fun i hi hI => ?_) (fun hI => ?_)
  · exact Wk.weak (ρ := []) (φ := []) (by simp [Tune.cells])
  · have e1 : IntKind.i64.wrap ((i : Int) - 1) = i - 1 := w64 (by omega) (by omega)
    have hil : i - 1 < t.tones.length := by omega
    have ho := toneAt_eq hi
    simp [Tone.rows_len, hi]
    refine CallZ.use0 (c_l25Tone t.tones[i] _ i (by simp [Tone.rows, hi])) rfl rfl ?_
    simp [Tone.rows_len, e1, hi]
    refine ⟨fun a b => ⟨a, b⟩, fun a b => ⟨⟨a, b⟩, by omega, by omega⟩, fun a b => ⟨a, b⟩, CallY.use (res := .bool (toneLt t.tones[i - 1] t.tones[i])) (fun _ => ⟨rfl, c_l25Before t.tones[i - 1] t.tones[i] _ _ (i - 1) i (by simp [Tone.rows, hil]) (by simp [Tone.rows, hi])⟩) rfl rfl ?_⟩
    simp
    refine ⟨by grind, fun h => ?_, fun h1 h2 => ⟨upto_succ hI ?_, ?_⟩⟩
    · have : toneAt t.tones i = false := by
        rw [ho]
        rcases h with h | ⟨h, h'⟩
        · simp [h]
        · have h4 : ¬ i = 0 := by omega
          simp [h', h4]
      simp [tuneOk, all_range_false hi this]
    · rw [ho, h1]
      by_cases h4 : i = 0
      · simp [h4]
      · simp [h2 (by omega)]
    · refine Wk.weak (ρ := []) (φ := []) ?_
      simp
      exact w64 (by omega) (by omega)
  · simp [Tone.rows_len]
    have hall : (List.range t.tones.length).all (toneAt t.tones) = true := all_range_true hI
    refine CallZ.use0 (c_spec_l01Name t.name) rfl rfl ?_
    simp [tuneOk, hall, Tone.rows_len]
    have h128 : ((t.tones.length : Int) ≤ 128) ↔ t.tones.length ≤ 128 := by omega
    simp [h128]

end Go.Proofs.YtcjpfjklhhclmaaGreatDoor
