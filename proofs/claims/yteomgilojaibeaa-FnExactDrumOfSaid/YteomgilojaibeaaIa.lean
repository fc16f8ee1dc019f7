/- Contracts: a pin is added. -/
import Derived.Test.YteomgilojaibeaaFf
import Derived.Test.YteomgilojaibeaaDd
namespace Go.Proofs.Yteomgilojaibeaa
open Go Go.Ab
set_option maxRecDepth 100000

def cutPin (d : Drum) (p : Pin) : Nat := cutG d.pins fun x => cmpPin x p
/-- The drum with a pin at its place. -/
def putD (d : Drum) (p : Pin) : Drum := ⟨d.steps, d.rest, d.notes, d.pins.take (cutPin d p) ++ p :: d.pins.drop (cutPin d p)⟩
def addCodeP (d : Drum) (p : Pin) : Int :=
  if validDrum d = true then (if pinIn d p = true then (if findP d.pins p < 0 then (if d.pins.length = 256 then 5 else (if restOk (lineOf (putD d p).pins p.hammer) d.steps d.rest = true then 0 else 6)) else 4) else 2) else 1
def addD (d : Drum) (p : Pin) : Drum := if addCodeP d p = 0 then putD d p else ⟨0, 0, [], []⟩
theorem addD_le (d : Drum) (p : Pin) : (addD d p).notes.length ≤ d.notes.length ∧ (addD d p).pins.length ≤ d.pins.length + 1 := by
  unfold addD putD
  split
  · simp only
    rw [List.length_append, List.length_take, List.length_cons, List.length_drop]
    omega
  · simp
theorem cutPin_le (d : Drum) (p : Pin) : cutPin d p ≤ d.pins.length := List.findIdx_le_length
theorem putD_small {d : Drum} {p : Pin} (h : validDrum d = true) (hp : pinIn d p = true) (a : Int) : SmallL (lineOf (putD d p).pins a) := fun x hx => by
  obtain ⟨q, hm, rfl⟩ := lineOf_mem hx
  have hd := (validDrum_iff d).1 h
  have hs := hd.s1
  unfold putD at hm
  simp only [List.mem_append, List.mem_cons] at hm
  have hin : ∀ q ∈ d.pins, -1000000 ≤ q.step ∧ q.step ≤ 1000000 := fun q hq => by
    obtain ⟨i, hi, rfl⟩ := List.getElem_of_mem hq
    have := hd.pins i hi
    simp [pinAtOk, pinIn, pinAt_eq hi] at this
    omega
  rcases hm with g | rfl | g
  · exact hin q (List.mem_of_mem_take g)
  · simp [pinIn] at hp
    omega
  · exact hin q (List.mem_of_mem_drop g)
theorem addD_bad {d : Drum} {p : Pin} {c : Int} (hc : addCodeP d p = c) (h : c ≠ 0) : addD d p = ⟨0, 0, [], []⟩ := by unfold addD; rw [hc, if_neg h]

theorem c_l28Less2 (a b : Pin) (rows rows' : List (List PV)) (i j : Nat) (h : rows[i]? = some a.cells) (h' : rows'[j]? = some b.cells) : HFn Try.prog 107 [.pe 2 rows i 0, .pe 2 rows' j 0] [] (.bool (pinLt a b)) [] := by
  have hi : i < rows.length := (List.getElem?_eq_some_iff.1 h).1
  have hj : j < rows'.length := (List.getElem?_eq_some_iff.1 h').1
  have hx : rows[i] = a.cells := by rw [List.getElem?_eq_getElem hi] at h; exact Option.some.inj h
  have hy : rows'[j] = b.cells := by rw [List.getElem?_eq_getElem hj] at h'; exact Option.some.inj h'
  rw [Pin.cells] at hx hy
  refine hfn_intro hm Try.func107 (by kernel_rfl) rfl (by kernel_rfl) rfl ret0_ok ?_
  simp [hi, hj, hx, hy]
  unfold pinLt
  grind
theorem Pin.row_get (T : List Pin) {i : Nat} (h : i < (Pin.rows T).length) : (Pin.rows T)[i] = [.int .i64 (T[i]'(by rw [Pin.rows_len] at h; exact h)).step, .int .i64 (T[i]'(by rw [Pin.rows_len] at h; exact h)).hammer] := by simp [Pin.rows, Pin.cells]

theorem c_l28Put (l : List Pin) (p : Pin) (hl : l.length ≤ 1048575) :
    HFn Try.prog 50 [.sl 2 (Pin.rows l), .agg p.cells] [] (.sf 0 2) [some (.arr 2 (Pin.rows (l.take (cutG l fun x => cmpPin x p) ++ p :: l.drop (cutG l fun x => cmpPin x p))))] := by
  refine hfn_intro hm Try.func50 (by kernel_rfl) rfl (by kernel_rfl) rfl (fun _ _ h => h) ?_
  simp [Pin.cells]
  obtain ⟨k, hk⟩ : ∃ k, k = cutG l fun x => cmpPin x p := ⟨_, rfl⟩
  have hkl : k ≤ l.length := by rw [hk]; exact List.findIdx_le_length
  have hlo : ∀ i (hi : i < l.length), i < k → pinLt l[i] p = true := fun i hi hik => by
    have := List.not_of_lt_findIdx (p := fun x => decide (0 ≤ cmpPin x p)) (xs := l) (i := i) (by rw [hk] at hik; exact hik)
    simp only [decide_eq_false_iff_not] at this
    rw [← cmpPin_neg]
    omega
  have hhi : ∀ (h : k < l.length), pinLt l[k] p = false := fun h => by
    have h' : (l.findIdx fun x => decide (0 ≤ cmpPin x p)) < l.length := by rw [hk] at h; exact h
    have := List.findIdx_getElem (p := fun x => decide (0 ≤ cmpPin x p)) (xs := l) (w := h')
    subst hk
    rw [← Bool.not_eq_true, ← cmpPin_neg]
    have h2 : 0 ≤ cmpPin l[cutG l fun x => cmpPin x p] p := of_decide_eq_true this
    omega
  rw [← hk]
  refine loop_rule hm (ι := {a : Nat // a ≤ k}) (fun s => ⟨[(0, .sl 2 (Pin.rows l)), (3, .pb 0 0), (5, .int .i64 s.1)], [some (.box [.int .i64 p.step, .int .i64 p.hammer])]⟩) (fun s => k - s.1) (by kernel_rfl) ⟨0, by omega⟩ ?_ ?_
  · refine Wk.weak (ρ := [0]) (φ := []) ?_
    simp
  · rintro ⟨a, ha⟩
    simp only
    have w1 : IntKind.i64.wrap ((a : Int) + 1) = ((a + 1 : Nat) : Int) := by rw [w64 (by omega) (by omega)]; omega
    by_cases hal : a < l.length
    · simp [hal, Pin.rows_len]
      refine CallY.use (res := .bool (pinLt l[a] p)) (fun _ => ⟨rfl, c_l28Less2 l[a] p _ _ a 0 (by simp [Pin.rows, hal]) rfl⟩) rfl rfl ?_
      simp [Pin.rows_len]
      have hone : ∀ m : List (List PV), (∀ r ∈ m, r ∈ Pin.rows l) → Go.Ab.rowsOne m := fun m h r hr => Pin.rowsOne l r (h r hr)
      refine ⟨fun g => ?_, fun g => ?_⟩
      · have hak : a < k := by
          rcases Nat.lt_or_ge a k with h | h
          · exact h
          · obtain rfl : a = k := by omega
            rw [hhi hal] at g
            cases g
        exact ⟨a + 1, Wk.weak (ρ := [0]) (φ := []) (by simp [w1]), by omega, by omega⟩
      · have hak : a = k := by
          rcases Nat.lt_or_ge a k with h | h
          · rw [hlo a hal h] at g
            cases g
          · omega
        rw [← hak]
        refine ⟨by omega, hone _ fun r hr => List.mem_of_mem_take hr, by omega, by omega, by simp [Go.Ab.rowsOne], by omega, by omega, by omega, hone _ fun r hr => List.mem_of_mem_drop (List.mem_of_mem_take hr), by omega, by omega, Wk.weak (ρ := [1]) (φ := []) ?_⟩
        have htk : ((Pin.rows l).drop a).take (l.length - a) = (Pin.rows l).drop a := List.take_of_length_le (by rw [List.length_drop, Pin.rows_len]; omega)
        rw [htk]
        simp [Pin.rows, Pin.cells]
    · have hak : a = l.length := by omega
      simp [hak, Pin.rows_len]
      have hkk : k = l.length := by omega
      have hone : Go.Ab.rowsOne (Pin.rows l) := Pin.rowsOne l
      have htk : (Pin.rows l).take l.length = Pin.rows l := List.take_of_length_le (by rw [Pin.rows_len]; omega)
      refine CallY.use (res := .bool false) (fun h => absurd h (by simp)) rfl rfl ?_
      simp [Pin.rows_len, hkk, htk]
      refine ⟨hone, by omega, by omega, by simp [Go.Ab.rowsOne], by omega, by omega, by simp [Go.Ab.rowsOne], by omega, by omega, Wk.weak (ρ := [1]) (φ := []) ?_⟩
      simp [Pin.rows, Pin.cells]

end Go.Proofs.Yteomgilojaibeaa
