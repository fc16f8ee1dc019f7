/- Contracts: pins that are searched, drums that are copied.; Lists in order, searched by comparing; pins that are removed.; Contracts: a pin is removed. -/
import Derived.Test.YtoeklljhjhidbaaGreatDoorEd
import Derived.Test.YtoeklljhjhidbaaGreatDoorLPin
-- from Fc
namespace Go.Proofs.YtoeklljhjhidbaaGreatDoor
open Go Go.Ab
set_option maxRecDepth 100000

theorem c_BSearchPin [Go.Ab.Drwn] (l : List Pin) (s : Pin) (c : Nat → Int) (p : Nat) (hl : l.length ≤ 1048576) (hp : Cut l.length c p) (hc : ∀ i (h : i < l.length), c i = cmpPin l[i] s) :
    HFn Tryz.prog 36 [.sl 2 (Pin.rows l), .agg s.cells, .fn 24 []] [] (.tup [.int .i64 p, .bool (decide (p < l.length) && decide (c p = 0))]) [] := by
  refine hfn_intro hm Tryz.func36 (by kernel_rfl) rfl (by kernel_rfl) rfl ret0_ok ?_
  simp [Pin.cells]
  refine loop_rule hm (ι := {x : Nat × Nat // x.1 ≤ p ∧ p ≤ x.2 ∧ x.2 ≤ l.length}) (fun x => ⟨[(0, .sl 2 (Pin.rows l)), (2, .fn 24 []), (4, .pb 0 0), (8, .int .i64 l.length), (9, .int .i64 x.1.1), (10, .int .i64 x.1.2)], [some (.box s.cells)]⟩) (fun x => x.1.2 - x.1.1) (by kernel_rfl) ⟨(0, l.length), by have := hp.le; omega⟩ ?_ ?_
  · refine Wk.weak (ρ := [0]) (φ := []) ?_
    simp [Pin.rows, Pin.cells]
  · rintro ⟨⟨i, j⟩, h1, h2, h3⟩
    simp only at h1 h2 h3 ⊢
    by_cases hij : i < j
    · obtain ⟨k, hk⟩ : ∃ k, k = (i + j) / 2 := ⟨_, rfl⟩
      have hmid := mid_eq i j (by omega)
      rw [← hk] at hmid
      have hm1 : k < l.length := by omega
      have hw1 : IntKind.i64.wrap ((k : Int) + 1) = ((k + 1 : Nat) : Int) := by rw [w64 (by omega) (by omega)]; omega
      simp [hmid, hij, Pin.rows, Pin.cells, hm1]
      refine CallZ.use0 (c_comparePins l[k] s) rfl rfl ?_
      have c1 := hp.lo k
      have c2 := hp.hi k
      rw [hc k hm1] at c1 c2
      simp
      refine ⟨fun h => ?_, fun h => ?_⟩
      · refine ⟨k + 1, j, Wk.weak (ρ := [0]) (φ := []) ?_, by omega, by omega⟩
        simp [hw1]
      · refine ⟨i, k, Wk.weak (ρ := [0]) (φ := []) ?_, by omega, by omega⟩
        simp
    · obtain rfl : i = p := by omega
      obtain rfl : i = j := by omega
      simp
      by_cases hip : i < l.length
      · simp [Pin.rows, Pin.cells, hip]
        refine CallY.use (res := .int .i64 (cmpPin l[i] s)) (fun _ => ⟨rfl, c_comparePins l[i] s⟩) rfl rfl ?_
        simp [hc i hip]
      · simp [Pin.rows, Pin.cells, hip]
        refine CallY.use (res := .int .i64 0) (fun h => absurd h (by simp)) rfl rfl ?_
        simp

theorem Pin.rowsOne (l : List Pin) : rowsOne (Pin.rows l) := fun r hr => by
  obtain ⟨x, _, rfl⟩ := List.mem_map.1 hr
  simp [Pin.cells]
theorem intRowsOne (l : List Int) : rowsOne (intRows l) := fun r hr => by
  obtain ⟨x, _, rfl⟩ := List.mem_map.1 hr
  simp

theorem c_CloneInt64 [Go.Ab.Drwn] (rows : List (List PV)) (hone : Go.Ab.rowsOne rows) (hl : rows.length ≤ 1048576) : HFn Tryz.prog 48 [.sl 1 rows] [] (.sf 0 1) [some (.arr 1 rows)] := by
  refine hfn_intro hm Tryz.func48 (by kernel_rfl) rfl (by kernel_rfl) rfl (fun _ _ h => h) ?_
  simp
  refine ⟨fun h => ?_, hone, by omega, by omega, Wk.weak (ρ := [0]) (φ := []) (by simp)⟩
  rw [h]
  exact (weak_nil (t := 0) (z := 1) rfl).trans (Wk.weak (ρ := [0]) (φ := []) (by simp))

theorem c_copyDrum [Go.Ab.Drwn] (d : Drum) (hn : d.notes.length ≤ 1048576) (hp : d.pins.length ≤ 1048576) :
    HFn Tryz.prog 22 [.agg d.cells] [] (.agg [.int .i64 d.steps, .int .i64 d.rest, .sf 0 1, .sf 1 2]) [some (.arr 1 (intRows d.notes)), some (.arr 2 (Pin.rows d.pins))] := by
  refine hfn_intro hm Tryz.func22 (by kernel_rfl) rfl (by kernel_rfl) rfl (retN_ok (ρ := [2, 3]) (φ := [])) ?_
  simp [Drum.cells]
  refine CallZ.use (c_CloneInt64 (intRows d.notes) (intRowsOne _) (by rw [intRows_len]; exact hn)) rfl (.inr ⟨flat_intRows _, trivial⟩) rfl rfl ?_
  simp
  refine CallZ.use (c_ClonePin (Pin.rows d.pins) (Pin.rowsOne _) (by rw [Pin.rows_len]; exact hp)) rfl (.inr ⟨Pin.flat _, trivial⟩) rfl rfl ?_
  simp
end Go.Proofs.YtoeklljhjhidbaaGreatDoor
-- from Fd
namespace Go.Proofs.YtoeklljhjhidbaaGreatDoor
open Go Go.Ab
set_option maxRecDepth 100000

/-! ### The plain law -/
/-- A list in order, where c compares with what is looked for. -/
def InOrder {α : Type} (l : List α) (c : α → Int) : Prop := ∀ i j (hi : i < l.length) (hj : j < l.length), i < j → c l[j] ≤ 0 → c l[i] < 0
def cutG {α : Type} (l : List α) (c : α → Int) : Nat := l.findIdx fun x => decide (0 ≤ c x)
def foundG {α : Type} (l : List α) (c : α → Int) : Bool := match l[cutG l c]? with
  | some x => decide (c x = 0)
  | none => false
def findG {α : Type} (l : List α) (c : α → Int) : Int := findI (fun x => decide (c x = 0)) l
def cAt {α : Type} (l : List α) (c : α → Int) (i : Nat) : Int := match l[i]? with
  | some x => c x
  | none => 1
theorem cAt_eq {α : Type} {l : List α} {c : α → Int} {i : Nat} (hi : i < l.length) : cAt l c i = c l[i] := by simp [cAt, hi]
theorem cutG_cut {α : Type} {l : List α} {c : α → Int} (h : InOrder l c) : Cut l.length (cAt l c) (cutG l c) := by
  refine ⟨List.findIdx_le_length, fun i hi => ?_, fun i h1 h2 => ?_⟩
  · have hl : i < l.length := Nat.lt_of_lt_of_le hi List.findIdx_le_length
    rw [cAt_eq hl]
    have := List.not_of_lt_findIdx hi
    simpa using this
  · rw [cAt_eq h2]
    have hp : cutG l c < l.length := by omega
    have hg : decide (0 ≤ c l[cutG l c]) = true := List.findIdx_getElem (w := hp)
    have hg : 0 ≤ c l[cutG l c] := by simpa using hg
    by_cases e : i = cutG l c
    · subst e; exact hg
    · by_cases h3 : 0 ≤ c l[i]
      · exact h3
      · have := h (cutG l c) i hp h2 (by omega) (by omega)
        omega
theorem foundG_at {α : Type} (l : List α) (c : α → Int) : foundG l c = (decide (cutG l c < l.length) && decide (cAt l c (cutG l c) = 0)) := by
  unfold foundG cAt
  by_cases h : cutG l c < l.length
  · simp [h]
  · rw [List.getElem?_eq_none (by omega)]; simp [h]
theorem findG_eq {α : Type} {l : List α} {c : α → Int} (h : InOrder l c) : findG l c = if foundG l c = true then (cutG l c : Int) else -1 := by
  have hc := cutG_cut h
  rw [foundG_at]
  split
  · rename_i hf
    simp only [Bool.and_eq_true, decide_eq_true_eq] at hf
    obtain ⟨h1, h2⟩ := hf
    rw [cAt_eq h1] at h2
    refine findI_at h1 (by simpa using h2) fun j hj hlt => ?_
    have := hc.lo j hlt
    rw [cAt_eq hj] at this
    simp only [decide_eq_false_iff_not]
    omega
  · rename_i hf
    refine findI_none fun j hj => ?_
    simp only [decide_eq_false_iff_not]
    intro e
    apply hf
    have hle : cutG l c ≤ j := by
      by_cases g : j < cutG l c
      · have := hc.lo j g
        rw [cAt_eq hj] at this
        omega
      · omega
    by_cases g : j = cutG l c
    · subst g
      simp [hj, cAt_eq hj, e]
    · exfalso
      have hp : cutG l c < l.length := by omega
      have h1 := hc.hi (cutG l c) (Nat.le_refl _) hp
      rw [cAt_eq hp] at h1
      have := h (cutG l c) j hp hj (by omega) (by omega)
      omega
theorem foundG_lt {α : Type} {l : List α} {c : α → Int} (h : foundG l c = true) : cutG l c < l.length := by
  rw [foundG_at] at h
  simp only [Bool.and_eq_true, decide_eq_true_eq] at h
  exact h.1

theorem cmpPin_neg (a b : Pin) : cmpPin a b < 0 ↔ pinLt a b = true := by
  have := cmpPin_lt a b
  cases h : pinLt a b <;> simp [h] at this ⊢ <;> omega
theorem cmpPin_zero (a b : Pin) : cmpPin a b = 0 ↔ a = b := by
  rw [Pin.eq_iff]
  unfold cmpPin cmpI
  simp [orL]
  grind
theorem pinLt_trans {a b c : Pin} (h1 : pinLt a b = true) (h2 : pinLt b c = true ∨ b = c) : pinLt a c = true := by
  rw [Pin.eq_iff] at h2
  unfold pinLt at *
  simp at *
  omega
theorem pins_lt {d : Drum} (h : validDrum d = true) (i j : Nat) (hi : i < d.pins.length) (hj : j < d.pins.length) (hij : i < j) : pinLt d.pins[i] d.pins[j] = true := by
  have hp := ((validDrum_iff d).1 h).pins
  induction j with
  | zero => omega
  | succ j ih =>
    have h1 := hp (j + 1) hj
    simp [pinAtOk, pinAt_eq hj, pinAt_eq (show j < d.pins.length by omega)] at h1
    by_cases e : i = j
    · subst e; exact h1.2
    · exact pinLt_trans (ih (by omega) (by omega)) (.inl h1.2)
theorem pins_order {d : Drum} (h : validDrum d = true) (p : Pin) : InOrder d.pins fun x => cmpPin x p := fun i j hi hj hij hle => by
  have h1 := pins_lt h i j hi hj hij
  rw [cmpPin_neg]
  refine pinLt_trans h1 ?_
  by_cases e : cmpPin d.pins[j] p = 0
  · exact .inr ((cmpPin_zero _ _).1 e)
  · exact .inl ((cmpPin_neg _ _).1 (by simp only at hle; omega))
end Go.Proofs.YtoeklljhjhidbaaGreatDoor
-- from Fe
namespace Go.Proofs.YtoeklljhjhidbaaGreatDoor
open Go Go.Ab
set_option maxRecDepth 100000

theorem c_l00Own [Go.Ab.Drwn] (rows : List (List PV)) (hone : Go.Ab.rowsOne rows) (hl : rows.length ≤ 1048576) : HFn Tryz.prog 124 [.sl 1 rows] [] (.sf 0 1) [some (.arr 1 rows)] := by
  refine hfn_intro hm Tryz.func124 (by kernel_rfl) rfl (by kernel_rfl) rfl (retN_ok (ρ := [0]) (φ := [])) ?_
  simp
  exact ⟨hone, by omega, by omega⟩

theorem c_l28Own [Go.Ab.Drwn] (d : Drum) (hn : d.notes.length ≤ 1048576) (hp : d.pins.length ≤ 1048576) :
    HFn Tryz.prog 97 [d.ptr] [] (.agg [.int .i64 d.steps, .int .i64 d.rest, .sf 0 1, .sf 1 2]) [some (.arr 1 (intRows d.notes)), some (.arr 2 (Pin.rows d.pins))] := by
  refine hfn_intro hm Tryz.func97 (by kernel_rfl) rfl (by kernel_rfl) rfl (retN_ok (ρ := [1, 2]) (φ := [])) ?_
  simp [Drum.cells]
  refine CallZ.use (c_l00Own (intRows d.notes) (intRowsOne _) (by rw [intRows_len]; exact hn)) rfl (.inr ⟨flat_intRows _, trivial⟩) rfl rfl ?_
  have := Pin.rowsOne d.pins
  have hl := Pin.rows_len d.pins
  simp [Drum.cells]
  exact ⟨this, by omega, by omega⟩

/-- A pin's index, or -1. -/
def findP (l : List Pin) (p : Pin) : Int := findI (fun q => decide (q = p)) l
theorem findP_eq (l : List Pin) (p : Pin) : findP l p = findG l fun x => cmpPin x p := by
  unfold findP findG
  congr 1
  funext q
  exact Bool.eq_iff_iff.2 (by simp [cmpPin_zero])

theorem c_l28Find [Go.Ab.Drwn] (d : Drum) (p : Pin) (hl : d.pins.length ≤ 1048576) : HFn Tryz.prog 96 [d.ptr, .agg p.cells] [] (.int .i64 (findP d.pins p)) [] := by
  refine hfn_intro hm Tryz.func96 (by kernel_rfl) rfl (by kernel_rfl) rfl ret0_ok ?_
  simp [Pin.cells]
  refine loop_upto hm d.pins.length (fun i => ⟨[(0, d.ptr), (3, .pb 0 0), (5, .int .i64 i)], [some (.box p.cells)]⟩) (fun i => ∀ j (hj : j < d.pins.length), j < i → decide (d.pins[j] = p) = false) (by kernel_rfl) ?_ (fun j _ h => by omega) (fun i hi hI => ?_) (fun hI => ?_)
  · refine Wk.weak (ρ := [0]) (φ := []) ?_
    simp [Drum.cells, Pin.cells]
  · have hpe := Pin.eq_iff (a := d.pins[i]) (b := p)
    simp [Drum.cells, Pin.rows, Pin.cells, hi]
    refine ⟨fun h h' => ?_, fun h => ⟨fun j hj hji => ?_, ?_⟩⟩
    · exact (findI_at (p := fun q => decide (q = p)) hi (by simpa [hpe] using ⟨h, h'⟩) fun j hj hji => hI j hj hji).symm
    · by_cases e : j = i
      · subst e
        rw [hpe]
        grind
      · simpa using hI j hj (by omega)
    · refine Wk.weak (ρ := [0]) (φ := []) ?_
      simp [Drum.cells, Pin.rows]
      exact w64 (by omega) (by omega)
  · simp [Drum.cells, Pin.rows, findP]
    exact (findI_none fun j hj => hI j hj hj).symm
end Go.Proofs.YtoeklljhjhidbaaGreatDoor
