/- Contracts: a pin is added. -/
import Derived.Test.YtmdablalfmcgnaaGreatFf
import Derived.Test.YtmdablalfmcgnaaGreatDd
namespace Go.Proofs.YtmdablalfmcgnaaGreat
open Go Go.Ab
set_option maxRecDepth 100000

def cutPin (d : Drum) (p : Pin) : Nat := cutG d.pins fun x => cmpPin x p
/-- The drum with a pin at its place. -/
def putD (d : Drum) (p : Pin) : Drum := ⟨d.steps, d.rest, d.notes, d.pins.take (cutPin d p) ++ p :: d.pins.drop (cutPin d p)⟩
def addCodeP (d : Drum) (p : Pin) : Int :=
  if validDrum d = true then (if pinIn d p = true then (if findP d.pins p < 0 then (if d.pins.length = 256 then 5 else (if restOk (lineOf (putD d p).pins p.hammer) d.steps d.rest = true then 0 else 6)) else 4) else 2) else 1
def addD (d : Drum) (p : Pin) : Drum := if addCodeP d p = 0 then putD d p else ⟨0, 0, [], []⟩
theorem addD_le (d : Drum) (p : Pin) : (addD d p).notes.length ≤ d.notes.length ∧ (addD d p).pins.length ≤ d.pins.length + 1 := by
  unfold addD putD
  split
  · simp only
    rw [List.length_append, List.length_take, List.length_cons, List.length_drop]
    omega
  · simp
theorem cutPin_le (d : Drum) (p : Pin) : cutPin d p ≤ d.pins.length := List.findIdx_le_length
theorem putD_small {d : Drum} {p : Pin} (h : validDrum d = true) (hp : pinIn d p = true) (a : Int) : SmallL (lineOf (putD d p).pins a) := fun x hx => by
  obtain ⟨q, hm, rfl⟩ := lineOf_mem hx
  have hd := (validDrum_iff d).1 h
  have hs := hd.s1
  unfold putD at hm
  simp only [List.mem_append, List.mem_cons] at hm
  have hin : ∀ q ∈ d.pins, -1000000 ≤ q.step ∧ q.step ≤ 1000000 := fun q hq => by
    obtain ⟨i, hi, rfl⟩ := List.getElem_of_mem hq
    have := hd.pins i hi
    simp [pinAtOk, pinIn, pinAt_eq hi] at this
    omega
  rcases hm with g | rfl | g
  · exact hin q (List.mem_of_mem_take g)
  · simp [pinIn] at hp
    omega
  · exact hin q (List.mem_of_mem_drop g)
theorem addD_bad {d : Drum} {p : Pin} {c : Int} (hc : addCodeP d p = c) (h : c ≠ 0) : addD d p = ⟨0, 0, [], []⟩ := by unfold addD; rw [hc, if_neg h]

theorem c_l28Less2 (a b : Pin) (rows rows' : List (List PV)) (i j : Nat) (h : rows[i]? = some a.cells) (h' : rows'[j]? = some b.cells) : HFn Tryz.prog 40 [.pe 2 rows i 0, .pe 2 rows' j 0] [] (.bool (pinLt a b)) [] := by
  have hi : i < rows.length := (List.getElem?_eq_some_iff.1 h).1
  have hj : j < rows'.length := (List.getElem?_eq_some_iff.1 h').1
  have hx : rows[i] = a.cells := by rw [List.getElem?_eq_getElem hi] at h; exact Option.some.inj h
  have hy : rows'[j] = b.cells := by rw [List.getElem?_eq_getElem hj] at h'; exact Option.some.inj h'
  rw [Pin.cells] at hx hy
  refine hfn_intro hm Tryz.func40 (by kernel_rfl) rfl (by kernel_rfl) rfl ret0_ok ?_
  simp [hi, hj, hx, hy]
  unfold pinLt
  grind
theorem Pin.row_get (T : List Pin) {i : Nat} (h : i < (Pin.rows T).length) : (Pin.rows T)[i] = [.int .i64 (T[i]'(by rw [Pin.rows_len] at h; exact h)).step, .int .i64 (T[i]'(by rw [Pin.rows_len] at h; exact h)).hammer] := by simp [Pin.rows, Pin.cells]

end Go.Proofs.YtmdablalfmcgnaaGreat
