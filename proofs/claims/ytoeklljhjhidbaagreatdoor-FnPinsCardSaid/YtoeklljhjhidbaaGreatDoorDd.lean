/- Contracts: the busiest step of a drum.; Contracts: the steps of a hammer, in own memory. -/
import Derived.Test.YtoeklljhjhidbaaGreatDoorDb
-- from Dc
namespace Go.Proofs.YtoeklljhjhidbaaGreatDoor
open Go Go.Ab
set_option maxRecDepth 100000

/-! ### The plain law -/
def stepAt (l : List Pin) (i : Nat) : Int := (pinAt l i).step
/-- How many of the first i pins are at a step. -/
def cntP (l : List Pin) (i : Nat) (s : Int) : Nat := (l.take i).countP fun p => decide (p.step = s)
theorem cntP_zero (l : List Pin) (s : Int) : cntP l 0 s = 0 := rfl
theorem cntP_succ {l : List Pin} {i : Nat} (hi : i < l.length) (s : Int) : cntP l (i + 1) s = cntP l i s + if stepAt l i = s then 1 else 0 := by
  unfold cntP stepAt
  rw [← List.take_append_getElem hi, List.countP_append, pinAt_eq hi]
  simp [List.countP_cons]
theorem cntP_le (l : List Pin) (i : Nat) (s : Int) : cntP l i s ≤ l.length := by
  unfold cntP
  have h1 := List.countP_le_length (p := fun p : Pin => decide (p.step = s)) (l := l.take i)
  rw [List.length_take] at h1
  omega

/-- What a look over the first i pins has found, where c counts. -/
structure Best (l : List Pin) (c : Int → Nat) (i : Nat) (b : Int) (m : Nat) : Prop where
  mem : ∃ j, j < i ∧ stepAt l j = b
  val : m = c b
  max : ∀ j, j < i → c (stepAt l j) ≤ m
  first : ∀ j, j < i → stepAt l j < b → c (stepAt l j) < m
theorem Best.uniq {l : List Pin} {c : Int → Nat} {i : Nat} {b b' : Int} {m m' : Nat} (h : Best l c i b m) (h' : Best l c i b' m') : b = b' ∧ m = m' := by
  obtain ⟨j, hj, ej⟩ := h.mem
  obtain ⟨k, hk, ek⟩ := h'.mem
  have h1 := h'.max j hj
  have h2 := h.max k hk
  have h3 := h.val
  have h4 := h'.val
  have h5 := h'.first j hj
  have h6 := h.first k hk
  rw [ej] at h1 h5
  rw [ek] at h2 h6
  have : b = b' := by
    rcases Int.lt_trichotomy b b' with g | g | g
    · have := h5 g; omega
    · exact g
    · have := h6 g; omega
  subst this
  exact ⟨rfl, by omega⟩

def bestS (l : List Pin) : Nat → Int × Nat
  | 0 => (0, 0)
  | i + 1 => if (bestS l i).2 < cntP l l.length (stepAt l i) then (stepAt l i, cntP l l.length (stepAt l i)) else bestS l i
def bestI (l : List Pin) : Nat → Int × Nat × Nat
  | 0 => (0, 0, 0)
  | i + 1 =>
    let n := (if 0 < i ∧ stepAt l i ≠ stepAt l (i - 1) then 0 else (bestI l i).2.2) + 1
    if (bestI l i).2.1 < n then (stepAt l i, n, n) else ((bestI l i).1, (bestI l i).2.1, n)
def risingP (l : List Pin) : Prop := ∀ j k, j ≤ k → k < l.length → stepAt l j ≤ stepAt l k

theorem cntP_pos {l : List Pin} {i j : Nat} (hj : j < i) (hi : i ≤ l.length) : 0 < cntP l i (stepAt l j) := by
  induction i with
  | zero => omega
  | succ i ih =>
    rw [cntP_succ (by omega)]
    by_cases e : j = i
    · subst e; simp
    · have := ih (by omega) (by omega)
      omega

theorem bestS_ok {l : List Pin} (hr : risingP l) : ∀ i, i ≤ l.length → 0 < i → Best l (cntP l l.length) i (bestS l i).1 (bestS l i).2
  | 0, _, h => absurd h (by omega)
  | i + 1, hi, _ => by
    by_cases h0 : i = 0
    · subst h0
      have := cntP_pos (l := l) (i := l.length) (j := 0) (by omega) (by omega)
      simp only [bestS, this, if_true]
      exact ⟨⟨0, by omega, rfl⟩, rfl, fun j hj => Nat.le_of_eq (by rw [show j = 0 by omega]), fun j hj h => absurd h (by rw [show j = 0 by omega]; omega)⟩
    · have ih := bestS_ok hr i (by omega) (by omega)
      simp only [bestS]
      generalize bestS l i = p at *
      split
      · rename_i h
        refine ⟨⟨i, by omega, rfl⟩, rfl, fun j hj => ?_, fun j hj hlt => ?_⟩
        · by_cases e : j = i
          · subst e; exact Nat.le_refl _
          · have := ih.max j (by omega); simp only; omega
        · by_cases e : j = i
          · subst e; simp only at hlt; omega
          · have := ih.max j (by omega); simp only; omega
      · rename_i h
        obtain ⟨k, hk, ek⟩ := ih.mem
        refine ⟨⟨k, by omega, ek⟩, ih.val, fun j hj => ?_, fun j hj hlt => ?_⟩
        · by_cases e : j = i
          · subst e; omega
          · exact ih.max j (by omega)
        · by_cases e : j = i
          · subst e
            have := hr k j (by omega) (by omega)
            omega
          · exact ih.first j (by omega) hlt

theorem cntP_none {l : List Pin} {s : Int} : ∀ {i}, i ≤ l.length → (∀ j, j < i → stepAt l j ≠ s) → cntP l i s = 0
  | 0, _, _ => rfl
  | i + 1, hi, h => by
    rw [cntP_succ (by omega), cntP_none (by omega) fun j hj => h j (by omega), if_neg (h i (by omega))]

theorem bestI_ok {l : List Pin} (hr : risingP l) : ∀ i, i ≤ l.length → 0 < i → Best l (cntP l i) i (bestI l i).1 (bestI l i).2.1 ∧ (bestI l i).2.2 = cntP l i (stepAt l (i - 1))
  | 0, _, h => absurd h (by omega)
  | i + 1, hi, _ => by
    by_cases h0 : i = 0
    · subst h0
      simp [bestI]
      have e : cntP l 1 (stepAt l 0) = 1 := by rw [cntP_succ (by omega)]; simp [cntP_zero]
      exact ⟨⟨⟨0, by omega, rfl⟩, e.symm, fun j hj => by rw [show j = 0 by omega, e]; omega, fun j hj h => absurd h (by rw [show j = 0 by omega]; omega)⟩, e.symm⟩
    · obtain ⟨ih, ic⟩ := bestI_ok hr i (by omega) (by omega)
      have hn : (if 0 < i ∧ stepAt l i ≠ stepAt l (i - 1) then 0 else (bestI l i).2.2) + 1 = cntP l (i + 1) (stepAt l i) := by
        rw [cntP_succ (by omega), if_pos rfl]
        split
        · rename_i h
          rw [cntP_none (by omega)]
          intro j hj
          have h1 := hr j (i - 1) (by omega) (by omega)
          have h2 := hr (i - 1) i (by omega) (by omega)
          have h3 := h.2
          omega
        · rename_i h
          have : stepAt l i = stepAt l (i - 1) := by
            by_cases e : stepAt l i = stepAt l (i - 1)
            · exact e
            · exact absurd ⟨by omega, e⟩ h
          rw [ic, this]
      simp only [bestI, hn]
      generalize bestI l i = p at *
      have hc : ∀ s, cntP l (i + 1) s = cntP l i s + if stepAt l i = s then 1 else 0 := fun s => cntP_succ (by omega) s
      split
      · rename_i h
        refine ⟨⟨⟨i, by omega, rfl⟩, rfl, fun j hj => ?_, fun j hj hlt => ?_⟩, rfl⟩
        · by_cases e : stepAt l i = stepAt l j
          · rw [e]; exact Nat.le_refl _
          · have h1 : j ≠ i := fun e' => e (by rw [e'])
            have := ih.max j (by omega)
            have h2 := hc (stepAt l j)
            rw [if_neg e] at h2
            simp only; omega
        · simp only at hlt
          have h1 : j ≠ i := fun e' => by rw [e'] at hlt; omega
          have := ih.max j (by omega)
          have h2 := hc (stepAt l j)
          rw [if_neg (by omega)] at h2
          simp only; omega
      · rename_i h
        obtain ⟨k, hk, ek⟩ := ih.mem
        have hv := ih.val
        have hb : stepAt l i ≠ p.1 := fun e => by
          have h2 := hc p.1
          rw [if_pos e] at h2
          rw [e] at h
          omega
        refine ⟨⟨⟨k, by omega, ek⟩, by simp only; rw [hc p.1, if_neg hb]; exact hv, fun j hj => ?_, fun j hj hlt => ?_⟩, rfl⟩
        · have h2 := hc (stepAt l j)
          by_cases e : stepAt l i = stepAt l j
          · rw [← e]; simp only; omega
          · have h1 : j ≠ i := fun e' => e (by rw [e'])
            have := ih.max j (by omega)
            rw [if_neg e] at h2
            simp only; omega
        · simp only at hlt
          have h3 := hr k i (by omega) (by omega)
          have h1 : j ≠ i := fun e' => by rw [e'] at hlt; omega
          have := ih.first j (by omega) hlt
          have h2 := hc (stepAt l j)
          rw [if_neg (by omega)] at h2
          simp only; omega

theorem best_eq {l : List Pin} (hr : risingP l) (h : l ≠ []) : (bestI l l.length).1 = (bestS l l.length).1 ∧ (bestI l l.length).2.1 = (bestS l l.length).2 := by
  have hp := List.length_pos_iff.2 h
  exact (bestI_ok hr _ (Nat.le_refl _) hp).1.uniq (bestS_ok hr _ (Nat.le_refl _) hp)

theorem rising_of {d : Drum} (h : ∀ i, i < d.pins.length → pinAtOk d i = true) : risingP d.pins := by
  intro j k
  induction k with
  | zero => intro h1 h2; rw [show j = 0 by omega]; omega
  | succ k ih =>
    intro h1 h2
    by_cases e : j = k + 1
    · subst e; omega
    · have h3 := ih (by omega) (by omega)
      have h4 := h (k + 1) h2
      simp [pinAtOk, pinLt] at h4
      unfold stepAt at *
      omega

/-- What BusiestStep hands back. -/
def busyR (d : Drum) : PV := if validDrum d = true then (if d.pins = [] then .tup [.int .i64 0, .int .i64 0, .int .i64 6] else .tup [.int .i64 (bestS d.pins d.pins.length).1, .int .i64 (bestS d.pins d.pins.length).2, .int .i64 0]) else .tup [.int .i64 0, .int .i64 0, .int .i64 1]

theorem bestI_le (l : List Pin) : ∀ i, (bestI l i).2.2 ≤ i
  | 0 => by simp [bestI]
  | i + 1 => by
    have := bestI_le l i
    simp only [bestI]
    split <;> split <;> (try simp only) <;> omega

theorem c_impl_BusiestStep [Go.Ab.Drwn] (d : Drum) (hn : d.notes.length ≤ 1048576) (hp : d.pins.length ≤ 1048576) : HFn Tryz.prog 15 [.agg d.cells] [] (busyR d) [] := by
  refine hfn_intro hm Tryz.func15 (by kernel_rfl) rfl (by kernel_rfl) rfl ret0_ok ?_
  simp [Drum.cells]
  refine CallZ.use0 (c_impl_ValidDrum d hn hp) rfl rfl ?_
  simp [Pin.rows_len]
  refine ⟨fun h => by simp [busyR, h], fun h => ⟨fun h0 => by simp [busyR, h, h0], fun h0 => ?_⟩⟩
  have hres : busyR d = .tup [.int .i64 (bestI d.pins d.pins.length).1, .int .i64 (bestI d.pins d.pins.length).2.1, .int .i64 0] := by
    obtain ⟨e1, e2⟩ := best_eq (rising_of ((validDrum_iff d).1 h).pins) h0
    rw [e1, e2]
    simp [busyR, h, h0]
  rw [hres]
  refine loop_upto hm d.pins.length (fun i => ⟨[(1, .pb 0 0), (5, .int .i64 (bestI d.pins i).1), (6, .int .i64 (bestI d.pins i).2.1), (7, .int .i64 (bestI d.pins i).2.2), (18, .sl 2 (Pin.rows d.pins)), (19, .int .i64 d.pins.length), (20, .int .i64 i)], [some (.box d.cells)]⟩) (fun _ => True) (by kernel_rfl) ?_ trivial (fun i hi _ => ?_) (fun _ => ?_)
  · refine Wk.weak (ρ := [0]) (φ := []) ?_
    simp [Drum.cells, Pin.rows, bestI]
  · have hw : (IntKind.i64.wrap ((i : Int) - 1)).toNat = i - 1 := by rw [w64 (by omega) (by omega)]; omega
    have hw2 : 0 < i → 0 ≤ IntKind.i64.wrap ((i : Int) - 1) ∧ IntKind.i64.wrap ((i : Int) - 1) < d.pins.length := fun h => by rw [w64 (by omega) (by omega)]; omega
    have hi1 : i - 1 < d.pins.length := by omega
    have e1 : d.pins[i].step = stepAt d.pins i := by rw [stepAt, pinAt_eq hi]
    have e2 : d.pins[i - 1].step = stepAt d.pins (i - 1) := by rw [stepAt, pinAt_eq hi1]
    have hle := bestI_le d.pins i
    have hb : bestI d.pins (i + 1) = let n := (if 0 < i ∧ stepAt d.pins i ≠ stepAt d.pins (i - 1) then 0 else (bestI d.pins i).2.2) + 1
      if (bestI d.pins i).2.1 < n then (stepAt d.pins i, n, n) else ((bestI d.pins i).1, (bestI d.pins i).2.1, n) := rfl
    generalize bestI d.pins i = p at *
    generalize bestI d.pins (i + 1) = p' at *
    obtain ⟨p1, p2, p3⟩ := p
    simp only at hle hb
    have w1 : IntKind.i64.wrap 1 = 1 := by decide
    have w3 : IntKind.i64.wrap ((p3 : Int) + 1) = (p3 : Int) + 1 := w64 (by omega) (by omega)
    have wi : IntKind.i64.wrap ((i : Int) + 1) = (i : Int) + 1 := w64 (by omega) (by omega)
    simp [Drum.cells, Pin.rows, Pin.cells, hi, hw, hi1, e1, e2, w1, w3, wi]
    refine ⟨by grind, fun a b => ⟨fun c => ?_, fun c => ?_⟩, fun a => ⟨fun c => ?_, fun c => ?_⟩⟩
    · rw [if_pos (⟨a, b⟩ : 0 < i ∧ stepAt d.pins i ≠ stepAt d.pins (i - 1)), if_pos (by omega)] at hb
      subst hb
      refine Wk.weak (ρ := [0]) (φ := []) ?_
      simp
    · rw [if_pos (⟨a, b⟩ : 0 < i ∧ stepAt d.pins i ≠ stepAt d.pins (i - 1)), if_neg (by omega)] at hb
      subst hb
      refine Wk.weak (ρ := [0]) (φ := []) ?_
      simp
    · rw [if_neg (fun q : 0 < i ∧ stepAt d.pins i ≠ stepAt d.pins (i - 1) => q.2 (a q.1)), if_pos (by omega)] at hb
      subst hb
      refine Wk.weak (ρ := [0]) (φ := []) ?_
      simp
    · rw [if_neg (fun q : 0 < i ∧ stepAt d.pins i ≠ stepAt d.pins (i - 1) => q.2 (a q.1)), if_neg (by omega)] at hb
      subst hb
      refine Wk.weak (ρ := [0]) (φ := []) ?_
      simp
  · simp [Drum.cells, Pin.rows]

theorem busyR_tup (d : Drum) : ∃ a b c : Int, busyR d = .tup [.int .i64 a, .int .i64 b, .int .i64 c] := by
  unfold busyR
  split
  · split <;> exact ⟨_, _, _, rfl⟩
  · exact ⟨_, _, _, rfl⟩

end Go.Proofs.YtoeklljhjhidbaaGreatDoor
-- from Dd
namespace Go.Proofs.YtoeklljhjhidbaaGreatDoor
open Go Go.Ab
set_option maxRecDepth 100000


def lineCode (d : Drum) (h : Int) : Int := if validDrum d = true then (if 0 ≤ h ∧ h ≤ (d.notes.length : Int) - 1 then 0 else 2) else 1
def lineL (d : Drum) (h : Int) : List Int := if lineCode d h = 0 then lineOf d.pins h else []
theorem lineL_le (d : Drum) (h : Int) : (lineL d h).length ≤ d.pins.length := by
  unfold lineL
  split
  · exact lineOf_len _ _
  · simp

theorem c_impl_LineOf [Go.Ab.Drwn] (d : Drum) (h : Int) (hn : d.notes.length ≤ 1048576) (hp : d.pins.length ≤ 1048576) :
    HFn Tryz.prog 14 [.agg d.cells, .int .i64 h] [] (.tup [.sf 0 1, .int .i64 (lineCode d h)]) [some (.arr 1 (intRows (lineL d h)))] := by
  refine hfn_intro hm Tryz.func14 (by kernel_rfl) rfl (by kernel_rfl) rfl (fun _ _ h => h) ?_
  simp [Drum.cells]
  refine CallZ.use0 (c_impl_ValidDrum d hn hp) rfl rfl ?_
  simp
  refine ⟨fun e => ?_, fun e => ?_⟩
  · refine (weak_nilT (t := 0) 0 1 rfl rfl).trans (Wk.weak (ρ := [1]) (φ := []) ?_)
    simp [lineL, lineCode, e, intRows]
  · refine CallZ.use0 (c_sizeInt d.notes) rfl rfl ?_
    simp
    rw [w64 (n := (d.notes.length : Int) - 1) (by omega) (by omega)]
    refine CallZ.use0 (c_within _ _ _) rfl rfl ?_
    simp
    refine ⟨fun g => ?_, fun g1 g2 => ?_⟩
    · refine (weak_nilT (t := 0) 0 1 rfl rfl).trans (Wk.weak (ρ := [1]) (φ := []) ?_)
      have : lineCode d h = 2 := by simp [lineCode, e]; omega
      simp [lineL, this, intRows]
    · refine CallZ.use (c_stepsOfHammer d h hp) rfl (by first | exact .inl rfl | exact .inr ⟨flat_intRows _, trivial⟩ | exact .inr ⟨Pin.flat _, trivial⟩ | exact .inr ⟨flat_intRows _, Pin.flat _, trivial⟩) rfl rfl ?_
      simp
      refine Wk.weak (ρ := [1]) (φ := []) ?_
      have : lineCode d h = 0 := by simp [lineCode, e]; omega
      simp [lineL, this]

end Go.Proofs.YtoeklljhjhidbaaGreatDoor
