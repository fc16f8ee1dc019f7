/- Contracts: a pin is added. -/
import Derived.Test.YtoeklljhjhidbaaGreatDoorFf
import Derived.Test.YtoeklljhjhidbaaGreatDoorDd
namespace Go.Proofs.YtoeklljhjhidbaaGreatDoor
open Go Go.Ab
set_option maxRecDepth 100000

def cutPin (d : Drum) (p : Pin) : Nat := cutG d.pins fun x => cmpPin x p
/-- The drum with a pin at its place. -/
def putD (d : Drum) (p : Pin) : Drum := ⟨d.steps, d.rest, d.notes, d.pins.take (cutPin d p) ++ p :: d.pins.drop (cutPin d p)⟩
def addCodeP (d : Drum) (p : Pin) : Int :=
  if validDrum d = true then (if pinIn d p = true then (if findP d.pins p < 0 then (if d.pins.length = 256 then 5 else (if restOk (lineOf (putD d p).pins p.hammer) d.steps d.rest = true then 0 else 6)) else 4) else 2) else 1
def addD (d : Drum) (p : Pin) : Drum := if addCodeP d p = 0 then putD d p else ⟨0, 0, [], []⟩
theorem addD_le (d : Drum) (p : Pin) : (addD d p).notes.length ≤ d.notes.length ∧ (addD d p).pins.length ≤ d.pins.length + 1 := by
  unfold addD putD
  split
  · simp only
    rw [List.length_append, List.length_take, List.length_cons, List.length_drop]
    omega
  · simp
theorem cutPin_le (d : Drum) (p : Pin) : cutPin d p ≤ d.pins.length := List.findIdx_le_length
theorem putD_small {d : Drum} {p : Pin} (h : validDrum d = true) (hp : pinIn d p = true) (a : Int) : SmallL (lineOf (putD d p).pins a) := fun x hx => by
  obtain ⟨q, hm, rfl⟩ := lineOf_mem hx
  have hd := (validDrum_iff d).1 h
  have hs := hd.s1
  unfold putD at hm
  simp only [List.mem_append, List.mem_cons] at hm
  have hin : ∀ q ∈ d.pins, -1000000 ≤ q.step ∧ q.step ≤ 1000000 := fun q hq => by
    obtain ⟨i, hi, rfl⟩ := List.getElem_of_mem hq
    have := hd.pins i hi
    simp [pinAtOk, pinIn, pinAt_eq hi] at this
    omega
  rcases hm with g | rfl | g
  · exact hin q (List.mem_of_mem_take g)
  · simp [pinIn] at hp
    omega
  · exact hin q (List.mem_of_mem_drop g)
theorem addD_bad {d : Drum} {p : Pin} {c : Int} (hc : addCodeP d p = c) (h : c ≠ 0) : addD d p = ⟨0, 0, [], []⟩ := by unfold addD; rw [hc, if_neg h]

theorem c_impl_AddPin [Go.Ab.Drwn] (d : Drum) (p : Pin) (hn : d.notes.length ≤ 1048576) (hp : d.pins.length ≤ 1048576) :
    HFn Tryz.prog 12 [.agg d.cells, .agg p.cells] [] (.tup [(addD d p).res, .int .i64 (addCodeP d p)]) (addD d p).objs := by
  refine hfn_intro hm Tryz.func12 (by kernel_rfl) rfl (by kernel_rfl) rfl (fun _ _ h => h) ?_
  simp [Drum.cells, Pin.cells]
  refine CallZ.use0 (c_impl_ValidDrum d hn hp) rfl rfl ?_
  simp
  refine ⟨fun h => ?_, fun h => ?_⟩
  · have hb : addCodeP d p = 1 := by simp [addCodeP, h]
    rw [addD_bad hb (by decide), hb]
    exact weak_nodrum
  have hd := (validDrum_iff d).1 h
  have hs0 := hd.s0
  have hs1 := hd.s1
  have hpl := hd.pl
  have hc := cutG_cut (pins_order h p)
  refine CallZ.use0 (c_BSearchPin d.pins p (cAt d.pins fun x => cmpPin x p) (cutPin d p) hp hc (fun i hi => cAt_eq hi)) rfl rfl ?_
  unfold cutPin
  rw [← foundG_at]
  simp
  refine CallZ.use0 (c_isPin d p (by omega) (by omega) hn) rfl rfl ?_
  simp [Pin.rows_len]
  have hf := findG_eq (pins_order h p)
  rw [← findP_eq] at hf
  obtain ⟨k, hk⟩ : ∃ k, k = cutG d.pins fun x => cmpPin x p := ⟨_, rfl⟩
  have hcut : cutPin d p = k := hk.symm
  have hkl : k ≤ d.pins.length := by rw [← hcut]; exact cutPin_le d p
  rw [← hk] at hf ⊢
  refine ⟨fun h1 => ?_, fun h1 => ⟨fun h2 => ?_, fun h2 => ⟨fun h3 => ?_, fun h3 => ?_⟩⟩⟩
  · have hb : addCodeP d p = 2 := by simp [addCodeP, h, h1]
    rw [addD_bad hb (by decide), hb]
    exact weak_nodrum
  · rw [h2, if_pos rfl] at hf
    have hb : addCodeP d p = 4 := by unfold addCodeP; rw [if_pos h, if_pos h1, if_neg (by omega)]
    rw [addD_bad hb (by decide), hb]
    exact weak_nodrum
  · rw [h2, if_neg (by simp)] at hf
    have hb : addCodeP d p = 5 := by unfold addCodeP; rw [if_pos h, if_pos h1, if_pos (by omega), if_pos (by omega)]
    rw [addD_bad hb (by decide), hb]
    exact weak_nodrum
  rw [h2, if_neg (by simp)] at hf
  have hbc : addCodeP d p = if restOk (lineOf (putD d p).pins p.hammer) d.steps d.rest = true then 0 else 6 := by unfold addCodeP; rw [if_pos h, if_pos h1, if_pos (by omega), if_neg (by omega)]
  refine CallZ.use (c_copyDrum d hn hp) rfl (.inl rfl) rfl rfl ?_
  simp
  have hsp : Pin.rows d.pins = Pin.rows (d.pins.take k) ++ Pin.rows (d.pins.drop k) := by unfold Pin.rows; rw [← List.map_append, List.take_append_drop]
  have hlen : (Pin.rows (d.pins.take k)).length = k := by rw [Pin.rows_len, List.length_take]; omega
  have hci := c_InsertPin (Pin.rows (d.pins.take k)) (Pin.rows (d.pins.drop k)) [[.int .i64 p.step, .int .i64 p.hammer]] (by rw [← hsp]; exact Pin.rowsOne _) (by simp [Go.Ab.rowsOne]) (by simp) (by rw [Pin.rows_len, Pin.rows_len, List.length_take, List.length_drop]; simp; omega)
  rw [← hsp, hlen] at hci
  refine CallZ.useM [4, 6] [] [4, 6] hci (by simp) rfl rfl (by simp) rfl rfl rfl (.inl rfl) ?_
  simp
  have hrows : Pin.rows (d.pins.take k) ++ [.int .i64 p.step, .int .i64 p.hammer] :: Pin.rows (d.pins.drop k) = Pin.rows (putD d p).pins := by simp [putD, hcut, Pin.rows, Pin.cells]
  rw [hrows]
  have hpl2 : (putD d p).pins.length ≤ 1048576 := by
    unfold putD
    simp only
    rw [List.length_append, List.length_take, List.length_cons, List.length_drop]
    omega
  have hr := c_rests (putD d p) p.hammer hpl2 (putD_small h h1 _) (show 0 ≤ d.steps by omega) (show d.steps ≤ 1000000 by omega)
  rw [Drum.cells] at hr
  refine CallZ.use0 hr rfl rfl ?_
  simp
  refine ⟨fun h4 => ?_, fun h4 => ?_⟩
  · have hb : addCodeP d p = 6 := by rw [hbc]; exact if_neg (by rw [show restOk (lineOf (putD d p).pins p.hammer) d.steps d.rest = false from h4]; simp)
    rw [addD_bad hb (by decide), hb]
    exact weak_nodrum
  · have hb : addCodeP d p = 0 := by rw [hbc]; exact if_pos h4
    have hD : addD d p = putD d p := by unfold addD; rw [if_pos hb]
    refine Wk.weak (ρ := [3, 4]) (φ := []) ?_
    simp [hb, hD]
    simp [putD]

theorem c_l28Less2 [Go.Ab.Drwn] (a b : Pin) (rows rows' : List (List PV)) (i j : Nat) (h : rows[i]? = some a.cells) (h' : rows'[j]? = some b.cells) : HFn Tryz.prog 66 [.pe 2 rows i 0, .pe 2 rows' j 0] [] (.bool (pinLt a b)) [] := by
  have hi : i < rows.length := (List.getElem?_eq_some_iff.1 h).1
  have hj : j < rows'.length := (List.getElem?_eq_some_iff.1 h').1
  have hx : rows[i] = a.cells := by rw [List.getElem?_eq_getElem hi] at h; exact Option.some.inj h
  have hy : rows'[j] = b.cells := by rw [List.getElem?_eq_getElem hj] at h'; exact Option.some.inj h'
  rw [Pin.cells] at hx hy
  refine hfn_intro hm Tryz.func66 (by kernel_rfl) rfl (by kernel_rfl) rfl ret0_ok ?_
  simp [hi, hj, hx, hy]
  unfold pinLt
  grind
theorem Pin.row_getE (T : List Pin) {i : Nat} (h : i < (Pin.rows T).length) : (Pin.rows T)[i] = [.int .i64 (T[i]'(by rw [Pin.rows_len] at h; exact h)).step, .int .i64 (T[i]'(by rw [Pin.rows_len] at h; exact h)).hammer] := by simp [Pin.rows, Pin.cells]

theorem c_l28Put [Go.Ab.Drwn] (l : List Pin) (p : Pin) (hl : l.length ≤ 1048575) :
    HFn Tryz.prog 98 [.sl 2 (Pin.rows l), .agg p.cells] [] (.sf 0 2) [some (.arr 2 (Pin.rows (l.take (cutG l fun x => cmpPin x p) ++ p :: l.drop (cutG l fun x => cmpPin x p))))] := by
  refine hfn_intro hm Tryz.func98 (by kernel_rfl) rfl (by kernel_rfl) rfl (fun _ _ h => h) ?_
  simp [Pin.cells]
  obtain ⟨k, hk⟩ : ∃ k, k = cutG l fun x => cmpPin x p := ⟨_, rfl⟩
  have hkl : k ≤ l.length := by rw [hk]; exact List.findIdx_le_length
  have hlo : ∀ i (hi : i < l.length), i < k → pinLt l[i] p = true := fun i hi hik => by
    have := List.not_of_lt_findIdx (p := fun x => decide (0 ≤ cmpPin x p)) (xs := l) (i := i) (by rw [hk] at hik; exact hik)
    simp only [decide_eq_false_iff_not] at this
    rw [← cmpPin_neg]
    omega
  have hhi : ∀ (h : k < l.length), pinLt l[k] p = false := fun h => by
    have h' : (l.findIdx fun x => decide (0 ≤ cmpPin x p)) < l.length := by rw [hk] at h; exact h
    have := List.findIdx_getElem (p := fun x => decide (0 ≤ cmpPin x p)) (xs := l) (w := h')
    subst hk
    rw [← Bool.not_eq_true, ← cmpPin_neg]
    have h2 : 0 ≤ cmpPin l[cutG l fun x => cmpPin x p] p := of_decide_eq_true this
    omega
  rw [← hk]
  refine loop_rule hm (ι := {a : Nat // a ≤ k}) (fun s => ⟨[(0, .sl 2 (Pin.rows l)), (3, .pb 0 0), (5, .int .i64 s.1)], [some (.box [.int .i64 p.step, .int .i64 p.hammer])]⟩) (fun s => k - s.1) (by kernel_rfl) ⟨0, by omega⟩ ?_ ?_
  · refine Wk.weak (ρ := [0]) (φ := []) ?_
    simp
  · rintro ⟨a, ha⟩
    simp only
    have w1 : IntKind.i64.wrap ((a : Int) + 1) = ((a + 1 : Nat) : Int) := by rw [w64 (by omega) (by omega)]; omega
    by_cases hal : a < l.length
    · simp [hal, Pin.rows_len]
      refine CallY.use (res := .bool (pinLt l[a] p)) (fun _ => ⟨rfl, c_l28Less2 l[a] p _ _ a 0 (by simp [Pin.rows, hal]) rfl⟩) rfl rfl ?_
      simp [Pin.rows_len]
      have hone : ∀ m : List (List PV), (∀ r ∈ m, r ∈ Pin.rows l) → Go.Ab.rowsOne m := fun m h r hr => Pin.rowsOne l r (h r hr)
      refine ⟨fun g => ?_, fun g => ?_⟩
      · have hak : a < k := by
          rcases Nat.lt_or_ge a k with h | h
          · exact h
          · obtain rfl : a = k := by omega
            rw [hhi hal] at g
            cases g
        exact ⟨a + 1, Wk.weak (ρ := [0]) (φ := []) (by simp [w1]), by omega, by omega⟩
      · have hak : a = k := by
          rcases Nat.lt_or_ge a k with h | h
          · rw [hlo a hal h] at g
            cases g
          · omega
        rw [← hak]
        refine ⟨by omega, hone _ fun r hr => List.mem_of_mem_take hr, by omega, by omega, by simp [Go.Ab.rowsOne], by omega, by omega, by omega, hone _ fun r hr => List.mem_of_mem_drop (List.mem_of_mem_take hr), by omega, by omega, Wk.weak (ρ := [1]) (φ := []) ?_⟩
        have htk : ((Pin.rows l).drop a).take (l.length - a) = (Pin.rows l).drop a := List.take_of_length_le (by rw [List.length_drop, Pin.rows_len]; omega)
        rw [htk]
        simp [Pin.rows, Pin.cells]
    · have hak : a = l.length := by omega
      simp [hak, Pin.rows_len]
      have hkk : k = l.length := by omega
      have hone : Go.Ab.rowsOne (Pin.rows l) := Pin.rowsOne l
      have htk : (Pin.rows l).take l.length = Pin.rows l := List.take_of_length_le (by rw [Pin.rows_len]; omega)
      refine CallY.use (res := .bool false) (fun h => absurd h (by simp)) rfl rfl ?_
      simp [Pin.rows_len, hkk, htk]
      refine ⟨hone, by omega, by omega, by simp [Go.Ab.rowsOne], by omega, by omega, by simp [Go.Ab.rowsOne], by omega, by omega, Wk.weak (ρ := [1]) (φ := []) ?_⟩
      simp [Pin.rows, Pin.cells]

theorem c_spec_AddPin [Go.Ab.Drwn] (d : Drum) (p : Pin) (hn : d.notes.length ≤ 1048576) (hp : d.pins.length ≤ 1048576) :
    HFn Tryz.prog 70 [.agg d.cells, .agg p.cells] [] (.tup [(addD d p).res, .int .i64 (addCodeP d p)]) (addD d p).objs := by
  refine hfn_intro hm Tryz.func70 (by kernel_rfl) rfl (by kernel_rfl) rfl (fun _ _ h => h) ?_
  simp [Drum.cells, Pin.cells]
  refine CallZ.use0 (c_spec_l28Ok d hn hp) rfl rfl ?_
  simp
  refine ⟨fun h => ?_, fun h => ?_⟩
  · have hb : addCodeP d p = 1 := by simp [addCodeP, h]
    rw [addD_bad hb (by decide), hb]
    exact weak_nodrum
  have hd := (validDrum_iff d).1 h
  have hs0 := hd.s0
  have hs1 := hd.s1
  have hpl := hd.pl
  have hnl := hd.nl
  rw [w64 (n := d.steps - 1) (by omega) (by omega)]
  refine CallZ.use0 (c_l00In _ _ _) rfl rfl ?_
  simp [intRows_len]
  rw [w64 (n := (d.notes.length : Int) - 1) (by omega) (by omega)]
  refine ⟨fun a b => ⟨a, b⟩, CallY.use (fun _ => ⟨rfl, c_l00In _ _ _⟩) rfl rfl ?_⟩
  simp
  refine ⟨fun a b => ⟨a, b⟩, fun hbad => ?_, fun q1 q2 q3 q4 => ?_⟩
  · have h1 : pinIn d p = false := by
      unfold pinIn
      simp only [Bool.and_eq_false_iff, decide_eq_false_iff_not]
      omega
    have hb : addCodeP d p = 2 := by simp [addCodeP, h, h1]
    rw [addD_bad hb (by decide), hb]
    exact weak_nodrum
  have h1 : pinIn d p = true := by
    unfold pinIn
    simp only [Bool.and_eq_true, decide_eq_true_eq]
    omega
  refine CallZ.use0 (c_l28Find d p hp) rfl rfl ?_
  simp [Pin.rows_len]
  refine ⟨fun h2 => ?_, fun h2 => ⟨fun h3 => ?_, fun h3 => ?_⟩⟩
  · have hb : addCodeP d p = 4 := by unfold addCodeP; rw [if_pos h, if_pos h1, if_neg (by omega)]
    rw [addD_bad hb (by decide), hb]
    exact weak_nodrum
  · have hb : addCodeP d p = 5 := by unfold addCodeP; rw [if_pos h, if_pos h1, if_pos (by omega), if_pos (by omega)]
    rw [addD_bad hb (by decide), hb]
    exact weak_nodrum
  have hbc : addCodeP d p = if restOk (lineOf (putD d p).pins p.hammer) d.steps d.rest = true then 0 else 6 := by unfold addCodeP; rw [if_pos h, if_pos h1, if_pos (by omega), if_neg (by omega)]
  refine CallZ.use (c_l28Own d hn hp) rfl (.inr ⟨flat_intRows _, Pin.flat _, trivial⟩) rfl rfl ?_
  simp
  refine CallZ.use (c_l28Put d.pins p (by omega)) rfl (.inr ⟨Pin.flat _, trivial⟩) rfl rfl ?_
  simp
  have hpl2 : (putD d p).pins.length ≤ 1048576 := by
    unfold putD
    simp only
    have := cutPin_le d p
    rw [List.length_append, List.length_take, List.length_cons, List.length_drop]
    omega
  have hr := c_l28Rested (putD d p) p.hammer hpl2 (putD_small h h1 _) (show 0 ≤ d.steps by omega) (show d.steps ≤ 1000000 by omega)
  refine CallZ.use0 hr rfl rfl ?_
  simp
  refine ⟨fun h4 => ?_, fun h4 => ?_⟩
  · have hb : addCodeP d p = 6 := by rw [hbc]; exact if_neg (by rw [show restOk (lineOf (putD d p).pins p.hammer) d.steps d.rest = false from h4]; simp)
    rw [addD_bad hb (by decide), hb]
    exact weak_nodrum
  · have hb : addCodeP d p = 0 := by rw [hbc]; exact if_pos h4
    have hD : addD d p = putD d p := by unfold addD; rw [if_pos hb]
    refine Wk.weak (ρ := [3, 6]) (φ := []) ?_
    simp [hb, hD]
    simp [putD, cutPin]
end Go.Proofs.YtoeklljhjhidbaaGreatDoor
