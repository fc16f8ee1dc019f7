/- Contracts: drums. -/
import Derived.Test.YtnidojjahhhaaaaCg
import Derived.Test.YtnidojjahhhaaaaTPin
import Derived.Test.YtnidojjahhhaaaaTI
namespace Go.Proofs.Ytnidojjahhhaaaa
open Go Go.Ab
set_option maxRecDepth 100000

structure Drum where
  steps : Int
  rest : Int
  notes : List Int
  pins : List Pin
theorem Drum.eq_iff {a b : Drum} : a = b ↔ a.steps = b.steps ∧ a.rest = b.rest ∧ a.notes = b.notes ∧ a.pins = b.pins := by cases a; cases b; simp
instance : DecidableEq Drum := fun _ _ => decidable_of_iff _ Drum.eq_iff.symm
def Drum.cells (x : Drum) : List PV := [.int .i64 x.steps, .int .i64 x.rest, .sl 1 (intRows x.notes), .sl 2 (Pin.rows x.pins)]
def Drum.sz (x : Drum) : Nat := x.notes.length + Pin.szS x.pins
def Drum.wf (x : Drum) : Prop := I64 x.steps ∧ I64 x.rest ∧ x.notes.length ≤ 9223372036854775807 ∧ (∀ n ∈ x.notes, I64 n) ∧ x.pins.length ≤ 9223372036854775807 ∧ ∀ p ∈ x.pins, p.wf
theorem Drum.fits {cs : List PV} (h : fitsL [.int .i64, .int .i64, .slc [.int .i64], .slc [.int .i64, .int .i64]] cs) : ∃ x : Drum, cs = x.cells ∧ x.wf := by
  obtain ⟨_, _, rfl, h0, h⟩ := fitsL_cons h
  obtain ⟨_, _, rfl, h1, h⟩ := fitsL_cons h
  obtain ⟨_, _, rfl, h2, h⟩ := fitsL_cons h
  obtain ⟨_, _, rfl, h3, h⟩ := fitsL_cons h
  obtain rfl := fitsL_nil h
  obtain ⟨v0, rfl, w0⟩ := fits_int h0
  obtain ⟨v1, rfl, w1⟩ := fits_int h1
  obtain ⟨r2, rfl, l2, f2⟩ := fits_slc h2
  obtain ⟨v2, rfl, w2⟩ := fits_ints f2
  obtain ⟨r3, rfl, l3, f3⟩ := fits_slc h3
  obtain ⟨v3, rfl, w3⟩ := Pin.fitsS f3
  rw [intRows_len] at l2
  rw [Pin.rows_len] at l3
  exact ⟨⟨v0, v1, v2, v3⟩, rfl, lit64 w0, lit64 w1, l2, w2, l3, w3⟩

theorem c_szDrum (x : Drum) (left : Nat) (hl : left ≤ 1048576) (hx : x.wf) : HFn Try.prog 29 [.agg x.cells, .int .i64 left] [] (.int .i64 (szR x.sz left)) [] := by
  obtain ⟨_, _, h2, _, h3, h4⟩ := hx
  refine hfn_intro hm Try.func29 (by kernel_rfl) rfl (by kernel_rfl) rfl ret0_ok ?_
  simp [Drum.cells]
  refine CallZ.use0 (c_szInt64S x.notes left hl h2) rfl rfl ?_
  simp
  refine ⟨fun h => ?_, fun h => ?_⟩
  · have := szR_lt h
    rw [szR_neg (by unfold Drum.sz; omega)]
  · have hh := szR_ge h
    rw [szR_pos hh]
    have e1 : (left : Int) - x.notes.length = ((left - x.notes.length : Nat) : Int) := by omega
    rw [e1]
    refine CallZ.use0 (c_szPinS x.pins _ (by omega) h3 h4) rfl rfl ?_
    simp
    refine ⟨fun h => ?_, fun h => ?_⟩
    · have := szR_lt h
      rw [szR_neg (by unfold Drum.sz; omega)]
    · have hh := szR_ge h
      rw [szR_pos hh, szR_pos (by unfold Drum.sz; omega)]
      unfold Drum.sz
      omega

theorem c_toDrum (x : Drum) (h : x.sz ≤ 1048576) : HFn Try.prog 31 [.agg x.cells] [] (.agg [.int .i64 x.steps, .int .i64 x.rest, .sf 0 1, .sf 1 2]) [some (.arr 1 (intRows x.notes)), some (.arr 2 (Pin.rows x.pins))] := by
  refine hfn_intro hm Try.func31 (by kernel_rfl) rfl (by kernel_rfl) rfl (retN_ok (ρ := [3, 4]) (φ := [])) ?_
  simp [Drum.cells]
  unfold Drum.sz Pin.szS at h
  refine CallZ.use (c_toInt64S x.notes (by omega)) rfl (.inr ⟨flat_intRows _, trivial⟩) rfl rfl ?_
  simp
  refine CallZ.use (c_toPinS x.pins (by omega)) rfl (.inr ⟨Pin.flat _, trivial⟩) rfl rfl ?_
  simp

theorem c_eqDrum (a b : Drum) (ha : a.notes.length ≤ 9223372036854775807) (hb : a.pins.length ≤ 9223372036854775807) : HFn Try.prog 33 [.agg a.cells, .agg b.cells] [] (.bool (decide (a = b))) [] := by
  refine hfn_intro hm Try.func33 (by kernel_rfl) rfl (by kernel_rfl) rfl ret0_ok ?_
  simp [Drum.cells, Drum.eq_iff]
  refine ⟨fun h e => absurd e h, fun h1 => ⟨fun h _ e => absurd e h, fun h2 => ?_⟩⟩
  refine CallZ.use0 (c_eqInt64S a.notes b.notes ha) rfl rfl ?_
  simp
  refine ⟨fun h _ _ e => absurd e h, fun h3 => ?_⟩
  refine CallZ.use0 (c_eqPinS a.pins b.pins hb) rfl rfl ?_
  simp [h1, h2, h3]

theorem c_l00Same (a b : List Int) (ha : a.length ≤ 9223372036854775807) : HFn Try.prog 71 [.sl 1 (intRows a), .sl 1 (intRows b)] [] (.bool (decide (a = b))) [] := by
  refine hfn_intro hm Try.func71 (by kernel_rfl) rfl (by kernel_rfl) rfl ret0_ok ?_
  simp [intRows]
  refine ⟨fun h => ?_, fun h => ?_⟩
  · exact fun e => h (by rw [e])
  · refine loop_upto hm a.length (fun i => ⟨[(0, .sl 1 (intRows a)), (1, .sl 1 (intRows b)), (5, .int .i64 i)], []⟩) (fun i => a.take i = b.take i) (by kernel_rfl) ?_ (by simp) (fun i hi hI => ?_) (fun hI => ?_)
    · exact Wk.weak (ρ := []) (φ := []) (by simp [intRows])
    · have hl : a.length = b.length := by omega
      have ea := List.getElem?_eq_getElem hi
      have hi' : i < b.length := by omega
      have eb := List.getElem?_eq_getElem hi'
      simp [intRows, hi, hi']
      refine ⟨fun h e => h (by simp [e]), fun h => ⟨take_succ_eq hI ea eb h, ?_⟩⟩
      refine Wk.weak (ρ := []) (φ := []) ?_
      simp
      exact w64 (by omega) (by omega)
    · simp [intRows]
      exact eq_of_take hI (by omega)

theorem c_spec_SameDrum (a b : Drum) (ha : a.notes.length ≤ 9223372036854775807) (hb : a.pins.length ≤ 9223372036854775807) : HFn Try.prog 30 [.agg a.cells, .agg b.cells] [] (.bool (decide (a = b))) [] := by
  refine hfn_intro hm Try.func30 (by kernel_rfl) rfl (by kernel_rfl) rfl ret0_ok ?_
  simp [Drum.cells, Drum.eq_iff]
  refine ⟨fun h1 h2 => ⟨h1, h2⟩, ?_⟩
  refine CallY.use (fun _ => ⟨rfl, c_l00Same a.notes b.notes ha⟩) rfl rfl ?_
  simp [Pin.rows]
  refine ⟨fun h1 h2 => ⟨h1, h2⟩, fun h1 h2 h3 => ⟨⟨h1, h2⟩, h3⟩, ?_, fun h1 h2 h3 h4 => ?_⟩
  · rintro h h1 h2 h3 h4
    rw [h4] at h
    simp [h1, h2, h3] at h
  · refine loop_upto hm a.pins.length (fun i => ⟨[(2, .pb 0 0), (3, .pb 1 0), (5, .int .i64 i)], [some (.box a.cells), some (.box b.cells)]⟩) (fun i => a.pins.take i = b.pins.take i) (by kernel_rfl) ?_ (by simp) (fun i hi hI => ?_) (fun hI => ?_)
    · refine Wk.weak (ρ := [0, 1]) (φ := []) ?_
      simp [Drum.cells, Pin.rows]
    · have hl : a.pins.length = b.pins.length := by omega
      have ea := List.getElem?_eq_getElem hi
      have hi' : i < b.pins.length := by omega
      have eb := List.getElem?_eq_getElem hi'
      simp [Drum.cells, Pin.rows, Pin.cells, hi, hi']
      refine ⟨fun h _ => ?_, fun q0 q1 => ⟨take_succ_eq hI ea eb (Pin.eq_iff.2 ⟨q0, q1⟩), ?_⟩⟩
      · intro _ _ e2
        subst_vars; simp only [e2, not_true, or_self] at h

      refine Wk.weak (ρ := [0, 1]) (φ := []) ?_
      simp
      exact w64 (by omega) (by omega)
    · simp [Drum.cells, Pin.rows, h1, h2, h3]
      exact eq_of_take hI (by omega)

theorem c_impl_SameDrum (a b : Drum) (ha : a.notes.length ≤ 9223372036854775807) (hb : a.pins.length ≤ 9223372036854775807) : HFn Try.prog 32 [.agg a.cells, .agg b.cells] [] (.bool (decide (a = b))) [] := by
  refine hfn_intro hm Try.func32 (by kernel_rfl) rfl (by kernel_rfl) rfl ret0_ok ?_
  simp [Drum.cells, Drum.eq_iff]
  refine ⟨fun h1 h2 => ⟨h1, h2⟩, ?_⟩
  refine CallY.use (fun _ => ⟨rfl, c_EqualInt a.notes b.notes ha⟩) rfl rfl ?_
  simp
  refine ⟨fun h1 h2 h3 => ⟨⟨h1, h2⟩, h3⟩, ?_⟩
  refine CallY.use (fun _ => ⟨rfl, c_EqualPin a.pins b.pins hb⟩) rfl rfl ?_
  simp [Bool.and_assoc]

theorem c_law_SameDrum (a b : Drum) (ha : a.wf) (hb : b.wf) : HFn Try.prog 5 [.agg a.cells, .agg b.cells] [] (.bool true) [] := by
  refine hfn_intro hm Try.func5 (by kernel_rfl) rfl (by kernel_rfl) rfl ret0_ok ?_
  simp [Drum.cells]
  refine CallZ.use0 (c_szDrum a 1048576 (by omega) ha) rfl rfl ?_
  simp
  intro h1
  have h1' := szR_ge h1
  rw [szR_pos h1']
  have e1 : ((1048576 : Nat) : Int) - a.sz = ((1048576 - a.sz : Nat) : Int) := by omega
  rw [e1]
  refine CallZ.use0 (c_szDrum b _ (by omega) hb) rfl rfl ?_
  simp
  intro h2
  have h2' := szR_ge h2
  obtain ⟨_, _, a1, _, a2, _⟩ := ha
  obtain ⟨_, _, b1, _, b2, _⟩ := hb
  have hb' : b.sz ≤ 1048576 := by omega
  refine CallZ.use (c_toDrum a h1') rfl (.inl rfl) rfl rfl ?_
  simp
  refine CallZ.use (c_toDrum b hb') rfl (.inl rfl) rfl rfl ?_
  simp
  refine CallZ.use0 (c_spec_SameDrum a b a1 a2) rfl rfl ?_
  simp
  refine CallZ.use (c_toDrum a h1') rfl (.inl rfl) rfl rfl ?_
  simp
  refine CallZ.use (c_toDrum b hb') rfl (.inl rfl) rfl rfl ?_
  simp
  refine CallZ.use0 (c_impl_SameDrum a b a1 a2) rfl rfl ?_
  simp
  refine CallZ.use (c_toDrum a h1') rfl (.inl rfl) rfl rfl ?_
  simp
  refine CallZ.use0 (c_eqDrum a a a1 a2) rfl rfl ?_
  simp
  refine CallZ.use (c_toDrum b hb') rfl (.inl rfl) rfl rfl ?_
  simp
  refine CallZ.use0 (c_eqDrum b b b1 b2) rfl rfl ?_
  simp

theorem l_FnExactSameDrum (pargs : List PV) (h : fitsAll [.agg [.int .i64, .int .i64, .slc [.int .i64], .slc [.int .i64, .int .i64]], .agg [.int .i64, .int .i64, .slc [.int .i64], .slc [.int .i64, .int .i64]]] pargs) : HFn Try.prog 5 pargs [] (.bool true) [] := by
  obtain ⟨p, q, rfl, ⟨cs, rfl, h0⟩, hz⟩ := fitsAll_cons h
  obtain ⟨p2, q2, rfl, ⟨cs2, rfl, h1⟩, hz2⟩ := fitsAll_cons hz
  obtain rfl := fitsAll_nil hz2
  obtain ⟨x, rfl, hx⟩ := Drum.fits h0
  obtain ⟨y, rfl, hy⟩ := Drum.fits h1
  exact c_law_SameDrum x y hx hy
end Go.Proofs.Ytnidojjahhhaaaa
