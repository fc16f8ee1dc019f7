/- Contracts: valid tunes, and the numbers of a drum. No condition. -/
import Derived.Test.YtaidbadmhepccaaGreatUa
import Derived.Test.YtaidbadmhepccaaGreatCm
import Derived.Test.YtaidbadmhepccaaGreatCe
import Derived.Test.YtaidbadmhepccaaGreatCf
namespace Go.Proofs.YtaidbadmhepccaaGreat
open Go Go.Ab
set_option maxRecDepth 100000

theorem Tone.row_get (T : List Tone) {i : Nat} (h : i < (Tone.rows T).length) : (Tone.rows T)[i] = [.int .i64 (T[i]'(by rw [Tone.rows_len] at h; exact h)).note, .int .i64 (T[i]'(by rw [Tone.rows_len] at h; exact h)).start, .int .i64 (T[i]'(by rw [Tone.rows_len] at h; exact h)).length] := by simp [Tone.rows, Tone.cells]
def toneLt (a b : Tone) : Bool := decide (a.start < b.start) || (decide (a.start = b.start) && decide (a.note < b.note))
def toneOk (x : Tone) : Bool := (decide (0 ≤ x.note) && decide (x.note ≤ 127)) && (decide (0 ≤ x.start) && decide (x.start ≤ 20000)) && (decide (1 ≤ x.length) && decide (x.length ≤ 20000 - x.start))
def cmpTone (a b : Tone) : Int := orL [cmpI a.start b.start, cmpI a.note b.note]
theorem cmpTone_lt (a b : Tone) : 0 ≤ cmpTone a b ↔ toneLt a b = false := by
  unfold cmpTone cmpI toneLt
  simp [orL]
  grind
def toneAt (l : List Tone) (i : Nat) : Bool := match l[i]? with
  | some x => toneOk x && (decide (i = 0) || match l[i - 1]? with
    | some y => toneLt y x
    | none => true)
  | none => true
def tuneOk (t : Tune) : Bool := (List.range t.tones.length).all (toneAt t.tones) && (isName t.name && decide (t.tones.length ≤ 128))
abbrev Tune.ptr (t : Tune) : PV := .pe 2 [t.cells] 0 0

theorem c_compareTones (a b : Tone) : HFn Tryz.prog 203 [.agg a.cells, .agg b.cells] [] (.int .i64 (cmpTone a b)) [] := by
  refine hfn_intro hm Tryz.func203 (by kernel_rfl) rfl (by kernel_rfl) rfl ret0_ok ?_
  simp [Tone.cells]
  refine CallZ.use0 (c_CompareInt _ _) rfl rfl ?_
  simp
  refine CallZ.use0 (c_CompareInt _ _) rfl rfl ?_
  simp
  refine CallZ.use0 (by simpa [intRows] using c_OrInt [cmpI a.start b.start, cmpI a.note b.note] (by simp)) rfl rfl ?_
  simp [cmpTone]

theorem c_validTone (x : Tone) : HFn Tryz.prog 202 [.agg x.cells] [] (.bool (toneOk x)) [] := by
  refine hfn_intro hm Tryz.func202 (by kernel_rfl) rfl (by kernel_rfl) rfl ret0_ok ?_
  simp [Tone.cells]
  refine CallZ.use0 (c_isNote _) rfl rfl ?_
  simp
  refine ⟨fun a b => ⟨a, b⟩, CallY.use (fun _ => ⟨rfl, c_within _ _ _⟩) rfl rfl ?_⟩
  simp
  refine ⟨by intros; simp [*], CallY.use (fun _ => ⟨rfl, c_within _ _ _⟩) rfl rfl ?_⟩
  have hw : 0 ≤ x.start → x.start ≤ 20000 → IntKind.i64.wrap (20000 - x.start) = 20000 - x.start := fun h1 h2 => w64 (by omega) (by omega)
  generalize IntKind.i64.wrap (20000 - x.start) = W at hw ⊢
  simp
  unfold toneOk
  grind
theorem c_l25Tone (x : Tone) (rows : List (List PV)) (i : Nat) (h : rows[i]? = some x.cells) : HFn Tryz.prog 171 [.pe 3 rows i 0] [] (.bool (toneOk x)) [] := by
  obtain ⟨hi, hr⟩ := List.getElem?_eq_some_iff.1 h
  rw [Tone.cells] at hr
  refine hfn_intro hm Tryz.func171 (by kernel_rfl) rfl (by kernel_rfl) rfl ret0_ok ?_
  simp [hi, hr]
  refine CallZ.use0 (c_l03Note _) rfl rfl ?_
  simp [hi, hr]
  refine ⟨fun a b => ⟨a, b⟩, CallY.use (fun _ => ⟨rfl, c_l00In _ _ _⟩) rfl rfl ?_⟩
  simp [hi, hr]
  refine ⟨by intros; simp [*], CallY.use (fun _ => ⟨rfl, c_l00In _ _ _⟩) rfl rfl ?_⟩
  have hw : 0 ≤ x.start → x.start ≤ 20000 → IntKind.i64.wrap (20000 - x.start) = 20000 - x.start := fun h1 h2 => w64 (by omega) (by omega)
  generalize IntKind.i64.wrap (20000 - x.start) = W at hw ⊢
  simp
  unfold toneOk
  grind
theorem c_l25Before (a b : Tone) (rows rows' : List (List PV)) (i j : Nat) (h : rows[i]? = some a.cells) (h' : rows'[j]? = some b.cells) : HFn Tryz.prog 172 [.pe 3 rows i 0, .pe 3 rows' j 0] [] (.bool (toneLt a b)) [] := by
  obtain ⟨hi, hx⟩ := List.getElem?_eq_some_iff.1 h
  obtain ⟨hj, hy⟩ := List.getElem?_eq_some_iff.1 h'
  rw [Tone.cells] at hx hy
  refine hfn_intro hm Tryz.func172 (by kernel_rfl) rfl (by kernel_rfl) rfl ret0_ok ?_
  simp [hi, hj, hx, hy]
  unfold toneLt
  grind
end Go.Proofs.YtaidbadmhepccaaGreat
