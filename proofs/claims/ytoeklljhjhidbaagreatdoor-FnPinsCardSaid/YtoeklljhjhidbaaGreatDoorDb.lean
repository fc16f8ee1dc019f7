/- Contracts: valid drums. -/
import Derived.Test.YtoeklljhjhidbaaGreatDoorDa
import Derived.Test.YtoeklljhjhidbaaGreatDoorCm
import Derived.Test.YtoeklljhjhidbaaGreatDoorCj
namespace Go.Proofs.YtoeklljhjhidbaaGreatDoor
open Go Go.Ab
set_option maxRecDepth 100000


/-- The steps of a hammer. -/
def lineOf (l : List Pin) (h : Int) : List Int := (l.filter fun p => decide (p.hammer = h)).map Pin.step
theorem lineOf_nil (h : Int) : lineOf [] h = [] := rfl
theorem lineOf_succ {l : List Pin} {i : Nat} (hi : i < l.length) (h : Int) : lineOf (l.take (i + 1)) h = lineOf (l.take i) h ++ (if l[i].hammer = h then [l[i].step] else []) := by
  unfold lineOf
  rw [← List.take_append_getElem hi, List.filter_append, List.map_append]
  by_cases e : l[i].hammer = h <;> simp [e]
theorem lineOf_len (l : List Pin) (h : Int) : (lineOf l h).length ≤ l.length := by
  unfold lineOf
  rw [List.length_map]
  exact List.length_filter_le _ _
theorem lineOf_mem {l : List Pin} {h : Int} {s : Int} (hs : s ∈ lineOf l h) : ∃ p ∈ l, p.step = s := by
  unfold lineOf at hs
  obtain ⟨p, hp, rfl⟩ := List.mem_map.1 hs
  exact ⟨p, (List.mem_filter.1 hp).1, rfl⟩

/-- A drum, read through a pointer. -/
abbrev Drum.ptr (d : Drum) : PV := .pe 4 [d.cells] 0 0

theorem c_l28Line [Go.Ab.Drwn] (d : Drum) (h : Int) (hl : d.pins.length ≤ 1048576) : HFn Tryz.prog 94 [d.ptr, .int .i64 h] [] (.sf 0 1) [some (.arr 1 (intRows (lineOf d.pins h)))] := by
  refine hfn_intro hm Tryz.func94 (by kernel_rfl) rfl (by kernel_rfl) rfl (retN_ok (ρ := [0]) (φ := [])) ?_
  simp
  refine loop_upto hm d.pins.length (fun i => ⟨[(0, d.ptr), (1, .int .i64 h), (5, .sf 0 1), (6, .int .i64 i)], [some (.arr 1 (intRows (lineOf (d.pins.take i) h)))]⟩) (fun _ => True) (by kernel_rfl) ?_ trivial (fun i hi _ => ?_) (fun _ => ?_)
  · refine (weak_nil (t := 5) (z := 1) (by simp)).trans (Wk.weak (ρ := [0]) (φ := []) ?_)
    simp [lineOf_nil, intRows]
  · have hls := lineOf_succ hi h
    have hll := lineOf_len (d.pins.take i) h
    rw [List.length_take] at hll
    simp [Drum.cells, Pin.rows, Pin.cells, hi, rowsOne]
    refine ⟨fun e => ?_, fun e => ?_⟩
    · rw [if_pos e] at hls
      refine ⟨by rw [intRows_len]; omega, by rw [intRows_len]; omega, ?_⟩
      refine Wk.weak (ρ := [0]) (φ := []) ?_
      simp [hls, intRows, Drum.cells, Pin.rows]
      exact w64 (by omega) (by omega)
    · rw [if_neg e, List.append_nil] at hls
      refine Wk.weak (ρ := [0]) (φ := []) ?_
      simp [hls, intRows, Drum.cells, Pin.rows]
      exact w64 (by omega) (by omega)
  · simp [Drum.cells, Pin.rows]

theorem c_stepsOfHammer [Go.Ab.Drwn] (d : Drum) (h : Int) (hl : d.pins.length ≤ 1048576) : HFn Tryz.prog 43 [.agg d.cells, .int .i64 h] [] (.sf 0 1) [some (.arr 1 (intRows (lineOf d.pins h)))] := by
  refine hfn_intro hm Tryz.func43 (by kernel_rfl) rfl (by kernel_rfl) rfl (retN_ok (ρ := [1]) (φ := [])) ?_
  simp [Drum.cells]
  refine loop_upto hm d.pins.length (fun i => ⟨[(1, .int .i64 h), (2, .pb 0 0), (5, .sf 1 1), (9, .sl 2 (Pin.rows d.pins)), (10, .int .i64 d.pins.length), (11, .int .i64 i)], [some (.box d.cells), some (.arr 1 (intRows (lineOf (d.pins.take i) h)))]⟩) (fun _ => True) (by kernel_rfl) ?_ trivial (fun i hi _ => ?_) (fun _ => ?_)
  · refine (weak_nil (t := 5) (z := 1) (by simp)).trans (Wk.weak (ρ := [0, 1]) (φ := []) ?_)
    simp [lineOf_nil, intRows, Drum.cells, Pin.rows]
  · have hls := lineOf_succ hi h
    have hll := lineOf_len (d.pins.take i) h
    rw [List.length_take] at hll
    simp [Drum.cells, Pin.rows, Pin.cells, hi, rowsOne]
    refine ⟨fun e => ?_, fun e => ?_⟩
    · rw [if_pos e] at hls
      refine ⟨by rw [intRows_len]; omega, by rw [intRows_len]; omega, ?_⟩
      refine Wk.weak (ρ := [0, 1]) (φ := []) ?_
      simp [hls, intRows]
      exact w64 (by omega) (by omega)
    · rw [if_neg e, List.append_nil] at hls
      refine Wk.weak (ρ := [0, 1]) (φ := []) ?_
      simp [hls, intRows]
      exact w64 (by omega) (by omega)
  · simp [Drum.cells, Pin.rows]

/-- From step k of a hammer to its next, around the drum. -/
def gapAt (s : List Int) (steps : Int) (k : Nat) : Int := (if k + 1 < s.length then s.getD (k + 1) 0 else s.getD 0 0 + steps) - s.getD k 0
def restOk (s : List Int) (steps rest : Int) : Bool := (List.range s.length).all fun k => decide (rest ≤ gapAt s steps k)
def SmallL (s : List Int) : Prop := ∀ x ∈ s, -1000000 ≤ x ∧ x ≤ 1000000

theorem c_rests [Go.Ab.Drwn] (d : Drum) (h : Int) (hl : d.pins.length ≤ 1048576) (hs : SmallL (lineOf d.pins h)) (h0 : 0 ≤ d.steps) (h1 : d.steps ≤ 1000000) :
    HFn Tryz.prog 39 [.agg d.cells, .int .i64 h] [] (.bool (restOk (lineOf d.pins h) d.steps d.rest)) [] := by
  refine hfn_intro hm Tryz.func39 (by kernel_rfl) rfl (by kernel_rfl) rfl ret0_ok ?_
  have hlen := lineOf_len d.pins h
  simp [Drum.cells]
  refine CallZ.use (c_stepsOfHammer d h hl) rfl (.inl rfl) rfl rfl ?_
  generalize lineOf d.pins h = s at *
  simp
  refine loop_upto hm s.length (fun i => ⟨[(2, .pb 0 0), (5, .sf 1 1), (12, .sf 1 1), (13, .int .i64 s.length), (14, .int .i64 i)], [some (.box d.cells), some (.arr 1 (intRows s))]⟩) (fun i => ∀ j, j < i → decide (d.rest ≤ gapAt s d.steps j) = true) (by kernel_rfl) ?_ (by simp) (fun i hi hI => ?_) (fun hI => ?_)
  · refine Wk.weak (ρ := [0, 1]) (φ := []) ?_
    simp [Drum.cells, intRows]
  · have h00 : 0 < s.length := by omega
    have b0 := hs s[0] (List.getElem_mem _)
    have bi := hs s[i] (List.getElem_mem _)
    have hw : IntKind.i64.wrap ((i : Int) + 1) = ((i + 1 : Nat) : Int) := by rw [w64 (by omega) (by omega)]; omega
    have key : ∀ v : Int, v = gapAt s d.steps i → (v < d.rest → restOk s d.steps d.rest = false) ∧ (d.rest ≤ v → ∀ j, j < i + 1 → decide (d.rest ≤ gapAt s d.steps j) = true) := fun v hv => by
      subst hv
      exact ⟨fun h => all_range_false hi (by simpa using h), fun h => upto_succ hI (by simpa using h)⟩
    by_cases hn : i + 1 < s.length
    · have hn1 : (i : Int) + 1 < s.length := by omega
      have hn2 : (0 : Int) ≤ (i : Int) + 1 := by omega
      have bn := hs s[i + 1] (List.getElem_mem _)
      have hg : IntKind.i64.wrap (s[i + 1] - s[i]) = gapAt s d.steps i := by
        rw [w64 (by omega) (by omega)]
        simp [gapAt, hn, hi]
      obtain ⟨k1, k2⟩ := key _ hg
      simp [Drum.cells, intRows, hi, h00, hw, hn, hn1, hn2]
      refine ⟨k1, fun h => ⟨fun j hj => of_decide_eq_true (k2 h j hj), ?_⟩⟩
      refine Wk.weak (ρ := [0, 1]) (φ := []) ?_
      simp
    · have hn1 : ¬ ((i : Int) + 1 < s.length) := by omega
      have hg : IntKind.i64.wrap (IntKind.i64.wrap (s[0] + d.steps) - s[i]) = gapAt s d.steps i := by
        rw [w64 (n := s[0] + d.steps) (by omega) (by omega), w64 (by omega) (by omega)]
        simp [gapAt, hn, hi, h00]
      obtain ⟨k1, k2⟩ := key _ hg
      simp [Drum.cells, intRows, hi, h00, hw, hn1]
      refine ⟨k1, fun h => ⟨fun j hj => of_decide_eq_true (k2 h j hj), ?_⟩⟩
      refine Wk.weak (ρ := [0, 1]) (φ := []) ?_
      simp
  · simp [restOk, all_range_true hI]

theorem c_l28Rested [Go.Ab.Drwn] (d : Drum) (h : Int) (hl : d.pins.length ≤ 1048576) (hs : SmallL (lineOf d.pins h)) (h0 : 0 ≤ d.steps) (h1 : d.steps ≤ 1000000) :
    HFn Tryz.prog 67 [d.ptr, .int .i64 h] [] (.bool (restOk (lineOf d.pins h) d.steps d.rest)) [] := by
  refine hfn_intro hm Tryz.func67 (by kernel_rfl) rfl (by kernel_rfl) rfl ret0_ok ?_
  have hlen := lineOf_len d.pins h
  simp
  refine CallZ.use (c_l28Line d h hl) rfl (.inl rfl) rfl rfl ?_
  generalize lineOf d.pins h = s at *
  simp
  refine loop_upto hm (s.length - 1) (fun i => ⟨[(0, d.ptr), (5, .sf 0 1), (6, .int .i64 (i + 1 : Nat))], [some (.arr 1 (intRows s))]⟩) (fun i => ∀ j, j < i → decide (d.rest ≤ gapAt s d.steps j) = true) (by kernel_rfl) ?_ (by simp) (fun i hi hI => ?_) (fun hI => ?_)
  · refine Wk.weak (ρ := [0]) (φ := []) ?_
    simp
  · have hi1 : i < s.length := by omega
    have hi2 : i + 1 < s.length := by omega
    have hn1 : (i : Int) + 1 < s.length := by omega
    have hn2 : (0 : Int) ≤ (i : Int) + 1 := by omega
    have bi := hs s[i] (List.getElem_mem _)
    have bn := hs s[i + 1] (List.getElem_mem _)
    have hg : IntKind.i64.wrap (s[i + 1] - s[i]) = gapAt s d.steps i := by
      rw [w64 (by omega) (by omega)]
      simp [gapAt, hi1, hi2]
    have hw : IntKind.i64.wrap (i : Int) = (i : Int) := w64 (by omega) (by omega)
    have hw2 : IntKind.i64.wrap ((i : Int) + 1 + 1) = (i : Int) + 1 + 1 := by rw [w64 (by omega) (by omega)]
    simp [Drum.cells, intRows, hi1, hi2, hn1, hn2, hg, hw, hw2]
    refine ⟨fun h => all_range_false hi1 (by simpa using h), fun h => ⟨fun j hj => of_decide_eq_true (upto_succ hI (by simpa using h) j hj), ?_⟩⟩
    refine Wk.weak (ρ := [0]) (φ := []) ?_
    simp [Drum.cells, intRows]
  · by_cases hz : s = []
    · subst hz
      simp [intRows, restOk, pickV]
    · have hp : 0 < s.length := List.length_pos_iff.2 hz
      have b0 := hs s[0] (List.getElem_mem _)
      have bl := hs (s[s.length - 1]'(by omega)) (List.getElem_mem _)
      have hll : s.length - 1 < s.length := by omega
      have hw : IntKind.i64.wrap ((s.length : Int) - 1) = ((s.length - 1 : Nat) : Int) := by rw [w64 (by omega) (by omega)]; omega
      have hg : IntKind.i64.wrap (IntKind.i64.wrap (s[0] + d.steps) - s[s.length - 1]) = gapAt s d.steps (s.length - 1) := by
        rw [w64 (n := s[0] + d.steps) (by omega) (by omega), w64 (by omega) (by omega)]
        simp [gapAt, hp, hll, show ¬ (s.length - 1 + 1 < s.length) by omega]
      have hx : ¬ (((s.length - 1 : Nat) : Int) + 1 < s.length) := by omega
      have hr : restOk s d.steps d.rest = decide (d.rest ≤ gapAt s d.steps (s.length - 1)) := by
        by_cases e : d.rest ≤ gapAt s d.steps (s.length - 1)
        · simp only [e, decide_true]
          exact all_range_true fun j hj => by
            by_cases ej : j = s.length - 1
            · subst ej; simpa using e
            · exact hI j (by omega)
        · simp only [e, decide_false]
          exact all_range_false hll (by simpa using e)
      simp [Drum.cells, intRows, hx, hw, hz, hp, hll, hg, hr]

def pinLt (a b : Pin) : Bool := decide (a.step < b.step) || (decide (a.step = b.step) && decide (a.hammer < b.hammer))
def pinAt (l : List Pin) (i : Nat) : Pin := l.getD i ⟨0, 0⟩
def cmpPin (a b : Pin) : Int := orL [cmpI a.step b.step, cmpI a.hammer b.hammer]
theorem cmpPin_lt (a b : Pin) : 0 ≤ cmpPin a b ↔ pinLt a b = false := by
  unfold cmpPin cmpI pinLt
  simp [orL]
  grind
theorem c_comparePins [Go.Ab.Drwn] (a b : Pin) : HFn Tryz.prog 24 [.agg a.cells, .agg b.cells] [] (.int .i64 (cmpPin a b)) [] := by
  refine hfn_intro hm Tryz.func24 (by kernel_rfl) rfl (by kernel_rfl) rfl ret0_ok ?_
  simp [Pin.cells]
  refine CallZ.use0 (c_CompareInt _ _) rfl rfl ?_
  simp
  refine CallZ.use0 (c_CompareInt _ _) rfl rfl ?_
  simp
  refine CallZ.use0 (by simpa [intRows] using c_OrInt [cmpI a.step b.step, cmpI a.hammer b.hammer] (by simp)) rfl rfl ?_
  simp [cmpPin]

theorem c_sizeInt [Go.Ab.Drwn] (l : List Int) : HFn Tryz.prog 42 [.sl 1 (intRows l)] [] (.int .i64 l.length) [] := by
  refine hfn_intro hm Tryz.func42 (by kernel_rfl) rfl (by kernel_rfl) rfl ret0_ok ?_
  simp [intRows]
def pinIn (d : Drum) (p : Pin) : Bool := (decide (0 ≤ p.step) && decide (p.step ≤ d.steps - 1)) && (decide (0 ≤ p.hammer) && decide (p.hammer ≤ (d.notes.length : Int) - 1))
theorem c_isPin [Go.Ab.Drwn] (d : Drum) (p : Pin) (h0 : 0 ≤ d.steps) (h1 : d.steps ≤ 1000000) (hn : d.notes.length ≤ 1048576) : HFn Tryz.prog 37 [.agg d.cells, .agg p.cells] [] (.bool (pinIn d p)) [] := by
  refine hfn_intro hm Tryz.func37 (by kernel_rfl) rfl (by kernel_rfl) rfl ret0_ok ?_
  simp [Pin.cells, Drum.cells]
  rw [w64 (n := d.steps - 1) (by omega) (by omega)]
  refine CallZ.use0 (c_within _ _ _) rfl rfl ?_
  simp
  repeat refine ⟨by grind, ?_⟩
  refine CallY.use (fun _ => ⟨rfl, c_sizeInt d.notes⟩) rfl rfl ?_
  simp
  rw [w64 (n := (d.notes.length : Int) - 1) (by omega) (by omega)]
  repeat refine ⟨by grind, ?_⟩
  refine CallY.use (fun _ => ⟨rfl, c_within _ _ _⟩) rfl rfl ?_
  simp [pinIn]

/-- Pin i is one of the drum, and behind the one before. -/
def pinAtOk (d : Drum) (i : Nat) : Bool := pinIn d (pinAt d.pins i) && (decide (i = 0) || pinLt (pinAt d.pins (i - 1)) (pinAt d.pins i))
def noteOkAt (l : List Int) (i : Nat) : Bool := decide (0 ≤ l.getD i 0) && decide (l.getD i 0 ≤ 127)
def validDrum (d : Drum) : Bool := (decide (1 ≤ d.steps) && decide (d.steps ≤ 4096) && decide (1 ≤ d.rest) && decide (d.rest ≤ 100) && decide (d.notes.length ≤ 32) && decide (d.pins.length ≤ 256)) &&
  sortedI d.notes && (List.range d.notes.length).all (noteOkAt d.notes) && (List.range d.pins.length).all (pinAtOk d) && (List.range d.notes.length).all fun h : Nat => restOk (lineOf d.pins h) d.steps d.rest
structure DrumOk (d : Drum) : Prop where
  s0 : 1 ≤ d.steps
  s1 : d.steps ≤ 4096
  r0 : 1 ≤ d.rest
  r1 : d.rest ≤ 100
  nl : d.notes.length ≤ 32
  pl : d.pins.length ≤ 256
  sorted : sortedI d.notes = true
  notes : ∀ i, i < d.notes.length → noteOkAt d.notes i = true
  pins : ∀ i, i < d.pins.length → pinAtOk d i = true
  rests : ∀ h : Nat, h < d.notes.length → restOk (lineOf d.pins h) d.steps d.rest = true
theorem validDrum_iff (d : Drum) : validDrum d = true ↔ DrumOk d := by
  constructor
  · intro h
    simp [validDrum] at h
    obtain ⟨⟨⟨⟨⟨⟨⟨⟨⟨h1, h2⟩, h3⟩, h4⟩, h5⟩, h6⟩, h7⟩, h8⟩, h9⟩, h10⟩ := h
    exact ⟨h1, h2, h3, h4, h5, h6, h7, h8, h9, h10⟩
  · rintro ⟨h1, h2, h3, h4, h5, h6, h7, h8, h9, h10⟩
    simp [validDrum, h1, h2, h3, h4, h5, h6, h7, -List.all_eq_true]
    exact ⟨⟨all_range_true h8, all_range_true h9⟩, all_range_true h10⟩
theorem validDrum_not {d : Drum} (h : ¬ DrumOk d) : validDrum d = false := by
  rw [← Bool.not_eq_true, validDrum_iff]
  exact h

theorem pinAt_eq {l : List Pin} {i : Nat} (hi : i < l.length) : pinAt l i = l[i] := by simp [pinAt, hi]
theorem pins_small {d : Drum} (h1 : d.steps ≤ 4096) (hp : ∀ i, i < d.pins.length → pinAtOk d i = true) (h : Int) : SmallL (lineOf d.pins h) := fun x hx => by
  obtain ⟨p, hm, rfl⟩ := lineOf_mem hx
  obtain ⟨i, hi, rfl⟩ := List.getElem_of_mem hm
  have := hp i hi
  simp [pinAtOk, pinIn, pinAt_eq hi] at this
  omega

theorem c_impl_ValidDrum [Go.Ab.Drwn] (d : Drum) (hn : d.notes.length ≤ 1048576) (hp : d.pins.length ≤ 1048576) : HFn Tryz.prog 21 [.agg d.cells] [] (.bool (validDrum d)) [] := by
  refine hfn_intro hm Tryz.func21 (by kernel_rfl) rfl (by kernel_rfl) rfl ret0_ok ?_
  simp [Drum.cells]
  refine CallZ.use0 (c_within _ _ _) rfl rfl ?_
  simp
  repeat refine ⟨by grind, ?_⟩
  refine CallY.use (fun _ => ⟨rfl, c_within _ _ _⟩) rfl rfl ?_
  simp
  repeat refine ⟨by grind, ?_⟩
  refine CallY.use (fun _ => ⟨rfl, c_IsSortedInt d.notes hn⟩) rfl rfl ?_
  simp
  refine ⟨by grind, ?_⟩
  refine ⟨fun h => validDrum_not fun ⟨g1, g2, g3, g4, g5, g6, g7, _, _, _⟩ => ?_, fun s0 s1 r0 r1 nl pl so => ?_⟩
  · rw [intRows_len, Pin.rows_len] at h
    grind
  rw [intRows_len] at nl
  rw [Pin.rows_len] at pl
  refine loop_upto hm d.pins.length (fun i => ⟨[(1, .pb 0 0), (36, .sl 2 (Pin.rows d.pins)), (37, .int .i64 d.pins.length), (38, .int .i64 i)], [some (.box d.cells)]⟩) (fun i => ∀ j, j < i → pinAtOk d j = true) (by kernel_rfl) ?_ (by simp) (fun i hi hI => ?_) (fun hI => ?_)
  · refine Wk.weak (ρ := [0]) (φ := []) ?_
    simp [Drum.cells, Pin.rows]
  · have key : ∀ b : Bool, (b = false → pinAtOk d i = false) → (b = true → pinAtOk d i = true) → (b = false → validDrum d = false) ∧ (b = true → ∀ j, j < i + 1 → pinAtOk d j = true) := fun b h1 h2 =>
      ⟨fun h => validDrum_not fun hd => by simpa [h1 h] using hd.pins i hi, fun h => upto_succ hI (h2 h)⟩
    have hw : (IntKind.i64.wrap ((i : Int) - 1)).toNat = i - 1 := by rw [w64 (by omega) (by omega)]; omega
    have hw2 : 0 < i → 0 ≤ IntKind.i64.wrap ((i : Int) - 1) ∧ IntKind.i64.wrap ((i : Int) - 1) < d.pins.length := fun h => by rw [w64 (by omega) (by omega)]; omega
    have hi1 : i - 1 < d.pins.length := by omega
    simp [Drum.cells, Pin.rows, Pin.cells, hi]
    refine CallZ.use0 (c_isPin d d.pins[i] (by omega) (by omega) hn) rfl rfl ?_
    simp [Pin.cells, hw, hi1]
    repeat refine ⟨by grind, ?_⟩
    refine CallY.use (res := .int .i64 (cmpPin d.pins[i - 1] d.pins[i])) (fun _ => ⟨rfl, c_comparePins d.pins[i - 1] d.pins[i]⟩) rfl rfl ?_
    simp
    have e : pinAtOk d i = (pinIn d d.pins[i] && (decide (i = 0) || pinLt d.pins[i - 1] d.pins[i])) := by simp only [pinAtOk, pinAt_eq hi, pinAt_eq hi1]
    have e2 := cmpPin_lt d.pins[i - 1] d.pins[i]
    refine ⟨by grind, fun h => validDrum_not fun hd => ?_, fun h1 h2 => ⟨upto_succ hI ?_, ?_⟩⟩
    · have := hd.pins i hi
      rw [e] at this
      grind
    · rw [e]
      grind
    · refine Wk.weak (ρ := [0]) (φ := []) ?_
      simp
      exact w64 (by omega) (by omega)
  · simp [Drum.cells, Pin.rows]
    have hsm := pins_small s1 hI
    refine loop_upto hm d.notes.length (fun i => ⟨[(1, .pb 0 0), (64, .sl 1 (intRows d.notes)), (65, .int .i64 d.notes.length), (66, .int .i64 i)], [some (.box d.cells)]⟩) (fun i => ∀ j, j < i → noteOkAt d.notes j = true ∧ restOk (lineOf d.pins (j : Nat)) d.steps d.rest = true) (by kernel_rfl) ?_ (by simp) (fun i hi hJ => ?_) (fun hJ => ?_)
    · refine Wk.weak (ρ := [0]) (φ := []) ?_
      simp [Drum.cells, Pin.rows, intRows]
    · have e : noteOkAt d.notes i = (decide (0 ≤ d.notes[i]) && decide (d.notes[i] ≤ 127)) := by simp [noteOkAt, hi]
      simp [Drum.cells, Pin.rows, intRows, hi]
      refine CallZ.use0 (c_isNote _) rfl rfl ?_
      simp
      repeat refine ⟨by grind, ?_⟩
      refine CallY.use (res := .bool (restOk (lineOf d.pins (i : Nat)) d.steps d.rest)) (fun _ => ⟨rfl, c_rests d i hp (hsm i) (by omega) (by omega)⟩) rfl rfl ?_
      simp
      refine ⟨by grind, fun h => validDrum_not fun hd => ?_, fun h1 h2 h3 => ⟨upto_succ hJ ?_, ?_⟩⟩
      · have g1 := hd.notes i hi
        have g2 := hd.rests i hi
        rw [e] at g1
        grind
      · exact ⟨by rw [e]; grind, h3⟩
      · refine Wk.weak (ρ := [0]) (φ := []) ?_
        simp
        exact w64 (by omega) (by omega)
    · rw [(validDrum_iff d).2 ⟨s0, s1, r0, r1, by omega, by omega, so, fun i hi => (hJ i hi).1, hI, fun i hi => (hJ i hi).2⟩]
      simp

theorem c_l28Less [Go.Ab.Drwn] (l : List Pin) (i j : Nat) (hi : i < l.length) (hj : j < l.length) : HFn Tryz.prog 66 [.pe 2 (Pin.rows l) i 0, .pe 2 (Pin.rows l) j 0] [] (.bool (pinLt l[i] l[j])) [] := by
  refine hfn_intro hm Tryz.func66 (by kernel_rfl) rfl (by kernel_rfl) rfl ret0_ok ?_
  simp [Pin.rows, Pin.cells, hi, hj]
  unfold pinLt
  grind

theorem c_spec_l28Ok [Go.Ab.Drwn] (d : Drum) (hn : d.notes.length ≤ 1048576) (hp : d.pins.length ≤ 1048576) : HFn Tryz.prog 32 [d.ptr] [] (.bool (validDrum d)) [] := by
  refine hfn_intro hm Tryz.func32 (by kernel_rfl) rfl (by kernel_rfl) rfl ret0_ok ?_
  simp [Drum.cells]
  refine CallZ.use0 (c_l00In _ _ _) rfl rfl ?_
  simp
  repeat refine ⟨by grind, ?_⟩
  refine CallY.use (fun _ => ⟨rfl, c_l00In _ _ _⟩) rfl rfl ?_
  simp [Drum.cells, intRows_len, Pin.rows_len]
  repeat refine ⟨by grind, ?_⟩
  refine ⟨fun h => validDrum_not fun ⟨g1, g2, g3, g4, g5, g6, g7, _, _, _⟩ => ?_, fun s0 s1 r0 r1 nl pl => ?_⟩
  · grind
  refine loop_upto hm d.notes.length (fun i => ⟨[(0, d.ptr), (3, .int .i64 i)], []⟩) (fun i => ∀ j, j < i → noteOkAt d.notes j = true ∧ sortedAt d.notes j = true) (by kernel_rfl) ?_ (by simp) (fun i hi hJ => ?_) (fun hJ => ?_)
  · refine Wk.weak (ρ := []) (φ := []) ?_
    simp [Drum.cells]
  · have e : noteOkAt d.notes i = (decide (0 ≤ d.notes[i]) && decide (d.notes[i] ≤ 127)) := by simp [noteOkAt, hi]
    have hw : (IntKind.i64.wrap ((i : Int) - 1)).toNat = i - 1 := by rw [w64 (by omega) (by omega)]; omega
    have hw2 : 0 < i → 0 ≤ IntKind.i64.wrap ((i : Int) - 1) ∧ IntKind.i64.wrap ((i : Int) - 1) < d.notes.length := fun h => by rw [w64 (by omega) (by omega)]; omega
    have hi1 : i - 1 < d.notes.length := by omega
    have e2 : sortedAt d.notes i = (decide (i = 0) || decide (d.notes[i - 1] ≤ d.notes[i])) := by simp [sortedAt, hi, hi1]
    simp [Drum.cells, intRows, hi]
    refine CallZ.use0 (c_l00In _ _ _) rfl rfl ?_
    simp [Drum.cells, intRows, hi, hw, hi1]
    repeat refine ⟨by grind, ?_⟩
    refine ⟨fun h => validDrum_not fun hd => ?_, fun h1 h2 h3 => ⟨upto_succ hJ ?_, ?_⟩⟩
    · have g1 := hd.notes i hi
      have g2 := List.all_eq_true.1 hd.sorted i (List.mem_range.2 hi)
      rw [e] at g1
      rw [e2] at g2
      grind
    · rw [e, e2]
      grind
    · refine Wk.weak (ρ := []) (φ := []) ?_
      simp
      exact w64 (by omega) (by omega)
  have so : sortedI d.notes = true := all_range_true fun j hj => (hJ j hj).2
  simp [Drum.cells, intRows]
  refine loop_upto hm d.pins.length (fun i => ⟨[(0, d.ptr), (4, .int .i64 i)], []⟩) (fun i => ∀ j, j < i → pinAtOk d j = true) (by kernel_rfl) ?_ (by simp) (fun i hi hI => ?_) (fun hI => ?_)
  · refine Wk.weak (ρ := []) (φ := []) ?_
    simp [Drum.cells, intRows]
  · have hw : (IntKind.i64.wrap ((i : Int) - 1)).toNat = i - 1 := by rw [w64 (by omega) (by omega)]; omega
    have hw2 : 0 < i → 0 ≤ IntKind.i64.wrap ((i : Int) - 1) ∧ IntKind.i64.wrap ((i : Int) - 1) < d.pins.length := fun h => by rw [w64 (by omega) (by omega)]; omega
    have hi1 : i - 1 < d.pins.length := by omega
    have hs1 : IntKind.i64.wrap (d.steps - 1) = d.steps - 1 := w64 (by omega) (by omega)
    have hn1 : IntKind.i64.wrap ((d.notes.length : Int) - 1) = (d.notes.length : Int) - 1 := w64 (by omega) (by omega)
    simp [Drum.cells, intRows, Pin.rows, Pin.cells, hi, hs1]
    refine CallZ.use0 (c_l00In _ _ _) rfl rfl ?_
    simp [Drum.cells, intRows, Pin.rows, Pin.cells, hi, hn1]
    repeat refine ⟨by grind, ?_⟩
    refine CallY.use (fun _ => ⟨rfl, c_l00In _ _ _⟩) rfl rfl ?_
    simp [Drum.cells, intRows, Pin.rows, hi, hw]
    repeat refine ⟨by grind, ?_⟩
    refine CallY.use (res := .bool (pinLt d.pins[i - 1] d.pins[i])) (fun _ => ⟨rfl, c_l28Less d.pins (i - 1) i hi1 hi⟩) rfl rfl ?_
    simp
    have e : pinAtOk d i = (pinIn d d.pins[i] && (decide (i = 0) || pinLt d.pins[i - 1] d.pins[i])) := by simp only [pinAtOk, pinAt_eq hi, pinAt_eq hi1]
    unfold pinIn at e
    repeat refine ⟨by grind, ?_⟩
    refine ⟨fun h => validDrum_not fun hd => ?_, fun h1 h2 h3 h4 h5 => ⟨upto_succ hI ?_, ?_⟩⟩
    · have g1 := hd.pins i hi
      rw [e] at g1
      grind
    · rw [e]
      grind
    · refine Wk.weak (ρ := []) (φ := []) ?_
      simp
      exact w64 (by omega) (by omega)
  simp [Drum.cells, Pin.rows]
  have hsm := pins_small s1 hI
  refine loop_upto hm d.notes.length (fun i => ⟨[(0, d.ptr), (5, .int .i64 i)], []⟩) (fun i => ∀ j, j < i → restOk (lineOf d.pins (j : Nat)) d.steps d.rest = true) (by kernel_rfl) ?_ (by simp) (fun i hi hK => ?_) (fun hK => ?_)
  · refine Wk.weak (ρ := []) (φ := []) ?_
    simp [Drum.cells, Pin.rows]
  · simp [Drum.cells, Pin.rows, intRows, hi]
    refine CallZ.use0 (c_l28Rested d i hp (hsm i) (by omega) (by omega)) rfl rfl ?_
    simp
    refine ⟨fun h => validDrum_not fun hd => ?_, fun h => ⟨upto_succ hK h, ?_⟩⟩
    · have g2 := hd.rests i hi
      grind
    · refine Wk.weak (ρ := []) (φ := []) ?_
      simp
      exact w64 (by omega) (by omega)
  · rw [(validDrum_iff d).2 ⟨s0, s1, r0, r1, by omega, by omega, so, fun i hi => (hJ i hi).1, hI, hK⟩]
    simp [Drum.cells, intRows]

theorem c_spec_ValidDrum [Go.Ab.Drwn] (d : Drum) (hn : d.notes.length ≤ 1048576) (hp : d.pins.length ≤ 1048576) : HFn Tryz.prog 9 [.agg d.cells] [] (.bool (validDrum d)) [] := by
  refine hfn_intro hm Tryz.func9 (by kernel_rfl) rfl (by kernel_rfl) rfl ret0_ok ?_
  simp [Drum.cells]
  refine CallZ.use0 (c_spec_l28Ok d hn hp) rfl rfl ?_
  simp

theorem Drum.len_of_sz {d : Drum} (h : d.sz ≤ 1048576) : d.notes.length ≤ 1048576 ∧ d.pins.length ≤ 1048576 := by
  unfold Drum.sz Pin.szS at h
  omega

end Go.Proofs.YtoeklljhjhidbaaGreatDoor
