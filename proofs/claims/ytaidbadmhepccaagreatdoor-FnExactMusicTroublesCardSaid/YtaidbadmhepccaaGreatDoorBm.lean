/- Contracts: troubles of the tower and of the tune. No condition. -/
import Derived.Test.YtaidbadmhepccaaGreatDoorBl
import Derived.Test.YtaidbadmhepccaaGreatDoorBi
import Derived.Test.YtaidbadmhepccaaGreatDoorKe
namespace Go.Proofs.YtaidbadmhepccaaGreatDoor
open Go Go.Ab
set_option maxRecDepth 100000

def txBell : List UInt8 := [98, 101, 108, 108]
def txKey : List UInt8 := [107, 101, 121]
/-! ### The tower -/
/-! ### The tune -/
def hasNote (bs : List Bell) (n : Int) : Bool := bs.any fun b => decide (b.note = n)
def musicAt (c : Carillon) (n : Int) : List Trouble := if hasNote c.bells n = true then (if 0 ≤ keyAt c.clavier n then [] else [⟨7, noteT n, txKey⟩]) else [⟨8, noteT n, txBell⟩]
theorem musicAt_le (c : Carillon) (n : Int) : (musicAt c n).length ≤ 1 := by
  unfold musicAt
  split
  · split <;> simp
  · simp
def musicL (c : Carillon) : List Trouble := upTo (musicAt c) (notesL c.tune) (notesL c.tune).length
theorem c_musicT1 (x : Tone) : HFn Tryz.prog 106 [.agg x.cells] [] (.bool true) [] := by
  refine hfn_intro hm Tryz.func106 (by kernel_rfl) rfl (by kernel_rfl) rfl ret0_ok ?_
  simp [Tone.cells]
theorem c_musicT2 (b : Bell) (n : Int) (rows : List (List PV)) (i0 : Nat) (hr : rows[i0]? = some [.int .i64 n]) : HFn Tryz.prog 109 [.agg b.cells, .pe 1 rows i0 0] [] (.bool (decide (b.note = n))) [] := by
  have hi : i0 < rows.length := (List.getElem?_eq_some_iff.1 hr).1
  have hx0 : rows[i0] = [.int .i64 n] := (List.getElem?_eq_some_iff.1 hr).2
  refine hfn_intro hm Tryz.func109 (by kernel_rfl) rfl (by kernel_rfl) rfl ret0_ok ?_
  simp [hi, hx0, Bell.cells]
set_option maxHeartbeats 8000000 in
theorem c_musicTroubles (c : Carillon) (hc : CarOk c) : HFn Tryz.prog 61 [.agg c.cells] [] (.sf 0 3) [trO (musicL c)] := by
  have hb := (belOk_of hc.bel).len
  obtain ⟨hn1, hn2⟩ := notesL_in hc.tune
  have kN := c_notesOf c.tune 106 c_musicT1 hc.small.tones
  have kK := fun n => c_impl_KeyFor c.clavier n hc.clav
  simp only [Tune.cells] at kN
  unfold musicL
  refine hfn_intro hm Tryz.func61 (by kernel_rfl) rfl (by kernel_rfl) rfl (fun _ _ h => h) ?_
  simp [Carillon.cells]
  refine CallZ.use kN rfl (.inr ⟨flat_intRows _, trivial⟩) rfl rfl ?_
  generalize notesL c.tune = L at *
  simp [intRows_len]
  refine loop_upto hm L.length (fun i => ⟨[(1, .pb 0 0), (3, .sf 2 3), (10, .sf 1 1), (11, .int .i64 L.length), (12, .int .i64 i)], [some (.box c.cells), some (.arr 1 (intRows L)), trO (upTo (musicAt c) L i)]⟩) (fun _ => True) (by kernel_rfl) ?_ trivial (fun i hi _ => ?_) (fun _ => ?_)
  · exact (weak_nil (t := 3) (z := 3) rfl).trans (Wk.weak (ρ := [0, 1, 2]) (φ := []) (by simp [Carillon.cells, upTo_zero, Trouble.rows]))
  · have w1 : IntKind.i64.wrap ((i : Int) + 1) = (i : Int) + 1 := w64 (by omega) (by omega)
    have hlen := upTo_le (musicAt_le c) L i
    obtain ⟨n0, n1⟩ := hn2 _ (List.getElem_mem hi)
    rw [upTo_succ _ _ hi]
    generalize upTo (musicAt c) L i = T at hlen ⊢
    have eg : (intRows L)[i]'(by rw [intRows_len]; exact hi) = [.int .i64 L[i]] := by rw [intRows_get]
    generalize L[i] = n at *
    have kI : HFn Tryz.prog 108 [.sl 5 (Bell.rows c.bells), .fn 109 [.pe 1 [[.int .i64 n]] 0 0]] [] (.bool (hasNote c.bells n)) [] :=
      c_ContainsFuncBell1 109 1 [[.int .i64 n]] 0 0 (fun b => decide (b.note = n)) c.bells (fun b _ => c_musicT2 b n _ 0 rfl) (by omega)
    simp [Carillon.cells, hi, intRows_len, eg]
    refine CallZ.use0 (kK n) rfl rfl ?_
    simp [keyP]
    refine CallZ.use0 kI rfl rfl ?_
    cases hh : hasNote c.bells n
    · simp
      refine CallZ.use0 (c_NoteName n n0 n1) rfl rfl ?_
      simp [Trouble.rows_len]
      refine ⟨by simp [rowsOne], by omega, by omega, Wk.weak (ρ := [0, 1, 2]) (φ := []) ?_⟩
      simp [w1, musicAt, hh, Trouble.rows, Trouble.cells, txBell]
    · by_cases hk : 0 ≤ keyAt c.clavier n
      · simp [hk]
        refine Wk.weak (ρ := [0, 1, 2]) (φ := []) ?_
        simp [w1, musicAt, hh, hk]
      · simp [hk]
        refine CallZ.use0 (c_NoteName n n0 n1) rfl rfl ?_
        simp [Trouble.rows_len]
        refine ⟨by simp [rowsOne], by omega, by omega, Wk.weak (ρ := [0, 1, 2]) (φ := []) ?_⟩
        simp [w1, musicAt, hh, hk, Trouble.rows, Trouble.cells, txKey]
  · simp
    exact Wk.weak (ρ := [2]) (φ := []) (by simp)
theorem c_l31Sounds (c : Carillon) (tl : List PV) (w : Nat) (rows : List (List PV)) (i0 : Nat) (hr : rows[i0]? = some (c.cells ++ tl)) (n : Int) (hb : c.bells.length ≤ 1048576) : HFn Tryz.prog 146 [.pe (w + 20) rows i0 0, .int .i64 n] [] (.bool (hasNote c.bells n)) [] := by
  have hi : i0 < rows.length := (List.getElem?_eq_some_iff.1 hr).1
  have hx : rows[i0] = c.cells ++ tl := (List.getElem?_eq_some_iff.1 hr).2
  rw [Carillon.cells] at hr hx
  simp only [List.cons_append, List.nil_append] at hr hx
  refine hfn_intro hm Tryz.func146 (by kernel_rfl) rfl (by kernel_rfl) rfl ret0_ok ?_
  simp
  refine loop_upto hm c.bells.length (fun i => ⟨[(0, .pe (w + 20) rows i0 0), (1, .int .i64 n), (5, .int .i64 i)], []⟩) (fun i => ∀ j (h : j < c.bells.length), j < i → ¬ c.bells[j].note = n) (by kernel_rfl) ?_ (by simp) (fun i hi' hI => ?_) (fun hI => ?_)
  · exact Wk.weak (ρ := []) (φ := []) (by simp)
  · have w1 : IntKind.i64.wrap ((i : Int) + 1) = (i : Int) + 1 := w64 (by omega) (by omega)
    simp [hi, hx, Bell.rows_len, Bell.row_get, Bell.cells, hi']
    refine ⟨fun h => List.any_eq_true.2 ⟨_, List.getElem_mem hi', by simpa using h⟩, fun h => ⟨upto_next hi' hI h, Wk.weak (ρ := []) (φ := []) ?_⟩⟩
    simp [w1]
  · simp [hi, hx, Bell.rows_len]
    rw [hasNote, List.any_eq_false]
    intro y hy
    obtain ⟨j, hj, rfl⟩ := List.getElem_of_mem hy
    simpa using hI j hj hj
set_option maxHeartbeats 8000000 in
theorem c_l31Music (c : Carillon) (tl : List PV) (w : Nat) (rows : List (List PV)) (i0 : Nat) (hr : rows[i0]? = some (c.cells ++ tl)) (hc : CarOk c) : HFn Tryz.prog 77 [.pe (w + 20) rows i0 0] [] (.sf 0 3) [trO (musicL c)] := by
  have hb := (belOk_of hc.bel).len
  obtain ⟨hn1, hn2⟩ := notesL_in hc.tune
  have kN := c_NotesUsed c.tune hc.tune
  have kK := fun n => c_spec_KeyFor c.clavier n hc.clav
  have kS := fun n => c_l31Sounds c tl w rows i0 hr n (by omega)
  simp only [Tune.cells] at kN
  have hi0 : i0 < rows.length := (List.getElem?_eq_some_iff.1 hr).1
  have hx : rows[i0] = c.cells ++ tl := (List.getElem?_eq_some_iff.1 hr).2
  rw [Carillon.cells] at hr hx
  simp only [List.cons_append, List.nil_append] at hr hx
  unfold musicL
  refine hfn_intro hm Tryz.func77 (by kernel_rfl) rfl (by kernel_rfl) rfl (fun _ _ h => h) ?_
  simp [hi0, hx]
  refine CallZ.use kN rfl (.inr ⟨flat_intRows _, trivial⟩) rfl rfl ?_
  generalize notesL c.tune = L at *
  simp
  refine loop_upto hm L.length (fun i => ⟨[(0, .pe (w + 20) rows i0 0), (3, .sf 1 3), (4, .sf 0 1), (6, .int .i64 i)], [some (.arr 1 (intRows L)), trO (upTo (musicAt c) L i)]⟩) (fun _ => True) (by kernel_rfl) ?_ trivial (fun i hi _ => ?_) (fun _ => ?_)
  · exact (weak_nil (t := 3) (z := 3) rfl).trans (Wk.weak (ρ := [0, 1]) (φ := []) (by simp [upTo_zero, Trouble.rows]))
  · have w1 : IntKind.i64.wrap ((i : Int) + 1) = (i : Int) + 1 := w64 (by omega) (by omega)
    have hlen := upTo_le (musicAt_le c) L i
    obtain ⟨n0, n1⟩ := hn2 _ (List.getElem_mem hi)
    rw [upTo_succ _ _ hi]
    generalize upTo (musicAt c) L i = T at hlen ⊢
    have eg : (intRows L)[i]'(by rw [intRows_len]; exact hi) = [.int .i64 L[i]] := by rw [intRows_get]
    generalize L[i] = n at *
    simp [hi0, hx, hi, intRows_len, eg]
    refine CallZ.use0 (kK n) rfl rfl ?_
    simp [keyP, hi, intRows_len, eg]
    refine CallZ.use0 (kS n) rfl rfl ?_
    cases hh : hasNote c.bells n
    · simp [hi, intRows_len, eg]
      refine CallZ.use0 (c_l03Text n n0 n1) rfl rfl ?_
      simp [Trouble.rows_len]
      refine ⟨by simp [rowsOne], by omega, by omega, Wk.weak (ρ := [0, 1]) (φ := []) ?_⟩
      simp [w1, musicAt, hh, Trouble.rows, Trouble.cells, txBell]
    · by_cases hk : 0 ≤ keyAt c.clavier n
      · simp [hk]
        refine Wk.weak (ρ := [0, 1]) (φ := []) ?_
        simp [w1, musicAt, hh, hk]
      · simp [hk, hi, intRows_len, eg]
        refine CallZ.use0 (c_l03Text n n0 n1) rfl rfl ?_
        simp [Trouble.rows_len]
        refine ⟨by simp [rowsOne], by omega, by omega, Wk.weak (ρ := [0, 1]) (φ := []) ?_⟩
        simp [w1, musicAt, hh, hk, Trouble.rows, Trouble.cells, txKey]
  · simp [intRows_len]
    exact Wk.weak (ρ := [1]) (φ := []) (by simp)
end Go.Proofs.YtaidbadmhepccaaGreatDoor
