/- Contracts: drums as text. -/
import Derived.Test.YtmdablalfmcgnaaGreatDoorJd
import Derived.Test.YtmdablalfmcgnaaGreatDoorDb
namespace Go.Proofs.YtmdablalfmcgnaaGreatDoor
open Go Go.Ab
set_option maxRecDepth 100000

def pinW (p : Pin) : List UInt8 := Lib.itoa p.step ++ [58] ++ Lib.itoa p.hammer
def drumW (d : Drum) : List (List UInt8) := [Lib.itoa d.steps, Lib.itoa d.rest, listT d.notes] ++ d.pins.map pinW
def drumT (d : Drum) : List UInt8 := Lib.join (drumW d) [32]
/-- The text of a drum. -/
def drumTx (d : Drum) : List UInt8 := if validDrum d = true then drumT d else []
theorem drumW_take (d : Drum) {i : Nat} (hi : i < d.pins.length) : (drumW d).take (3 + (i + 1)) = (drumW d).take (3 + i) ++ [pinW d.pins[i]] := by
  have h : 3 + i < (drumW d).length := by simp [drumW]; omega
  rw [← Nat.add_assoc, ← List.take_append_getElem h]
  congr 2
  have : (drumW d)[3 + i]? = some (pinW d.pins[i]) := by
    unfold drumW
    rw [List.getElem?_append_right (by simp)]
    simp [hi]
  rw [List.getElem?_eq_getElem h] at this
  exact Option.some.inj this
structure DrumIn (d : Drum) : Prop where
  steps : I64 d.steps
  rest : I64 d.rest
  notes : listOk d.notes = true
  pins : ∀ p ∈ d.pins, I64 p.step ∧ I64 p.hammer
  many : d.pins.length ≤ 256
theorem drum_in {d : Drum} (h : validDrum d = true) : DrumIn d := by
  have hd := (validDrum_iff d).1 h
  have b := hd.s0; have b1 := hd.s1; have b2 := hd.r0; have b3 := hd.r1; have b4 := hd.nl; have b5 := hd.pl
  refine ⟨⟨by omega, by omega⟩, ⟨by omega, by omega⟩, ?_, fun p hp => ?_, b5⟩
  · simp [listOk]
    refine ⟨by omega, fun n hn => ?_⟩
    obtain ⟨i, hi, rfl⟩ := List.getElem_of_mem hn
    have := hd.notes i hi
    simp [noteOkAt, hi] at this
    simp [valB]
    omega
  · obtain ⟨i, hi, rfl⟩ := List.getElem_of_mem hp
    have := hd.pins i hi
    simp [pinAtOk, pinIn, pinAt_eq hi] at this
    exact ⟨⟨by omega, by omega⟩, ⟨by omega, by omega⟩⟩
theorem drumW_len {d : Drum} (h : DrumIn d) : ∀ x ∈ drumW d, x.length ≤ 1410 := fun x hx => by
  have h1 := itoa_len h.steps
  have h2 := itoa_len h.rest
  have h3 := listT_len d.notes (listOk_I64 h.notes)
  have h4 : d.notes.length ≤ 64 := by have := h.notes; simp [listOk] at this; exact this.1
  rcases List.mem_append.1 hx with hx | hx
  · simp at hx
    rcases hx with rfl | rfl | rfl <;> omega
  · obtain ⟨p, hp, rfl⟩ := List.mem_map.1 hx
    have := h.pins p hp
    have g1 := itoa_len this.1
    have g2 := itoa_len this.2
    simp [pinW]
    omega
theorem join_take_len {W : List (List UInt8)} {k : Nat} (h : ∀ x ∈ W, x.length ≤ k) (n : Nat) : (Lib.join (W.take n) [32]).length ≤ (k + 1) * n := by
  have h1 := join_len [32] k (by simp) (W.take n) fun x hx => h x (List.mem_of_mem_take hx)
  have h2 : (W.take n).length ≤ n := by simp; omega
  exact Nat.le_trans h1 (Nat.mul_le_mul_left _ h2)

theorem Pin.row_get (l : List Pin) {i : Nat} (h : i < (Pin.rows l).length) : (Pin.rows l)[i] = [.int .i64 (l[i]'(by rw [Pin.rows_len] at h; exact h)).step, .int .i64 (l[i]'(by rw [Pin.rows_len] at h; exact h)).hammer] := by simp [Pin.rows, Pin.cells]

theorem c_impl_DrumText (d : Drum) (hn : d.notes.length ≤ 1048576) (hp : d.pins.length ≤ 1048576) : HFn Tryz.prog 24 [.agg d.cells] [] (.str (drumTx d)) [] := by
  refine hfn_intro hm Tryz.func24 (by kernel_rfl) rfl (by kernel_rfl) rfl ret0_ok ?_
  simp [Drum.cells]
  refine CallZ.use0 (c_impl_ValidDrum d hn hp) rfl rfl ?_
  simp
  refine ⟨fun h => by simp [drumTx, h], fun h => ?_⟩
  have hd := drum_in h
  have h1 := itoa_len hd.steps
  have h2 := itoa_len hd.rest
  have hT : listTx d.notes = listT d.notes := if_pos hd.notes
  have hm' := hd.many
  have hW := drumW_len hd
  refine CallZ.use0 (c_Decimal _ hd.steps) rfl rfl ?_
  simp
  refine CallZ.use0 (c_Decimal _ hd.rest) rfl rfl ?_
  simp
  refine CallZ.use0 (c_ListText _ (by omega)) rfl rfl ?_
  rw [hT]
  simp
  refine loop_upto hm d.pins.length (fun i => ⟨[(3, .sf 0 1), (20, .sl 2 (Pin.rows d.pins)), (21, .int .i64 d.pins.length), (22, .int .i64 i)], [some (.arr 1 (strRows ((drumW d).take (3 + i))))]⟩) (fun _ => True) (by kernel_rfl) ?_ trivial (fun i hi _ => ?_) (fun _ => ?_)
  · refine Wk.weak (ρ := [1]) (φ := []) ?_
    simp [Pin.rows_len, drumW, strRows]
  · have w1 : IntKind.i64.wrap ((i : Int) + 1) = (i : Int) + 1 := w64 (by omega) (by omega)
    have hp := hd.pins d.pins[i] (List.getElem_mem hi)
    have g1 := itoa_len hp.1
    have g2 := itoa_len hp.2
    have hs := drumW_take d hi
    have hl : (strRows ((drumW d).take (3 + i))).length ≤ 259 := by simp [strRows]; omega
    simp [Pin.rows_len, hi, Pin.row_get]
    refine CallZ.use0 (c_Decimal _ hp.1) rfl rfl ?_
    simp
    refine ⟨by omega, ?_⟩
    refine CallZ.use0 (c_Decimal _ hp.2) rfl rfl ?_
    simp
    refine ⟨by omega, by simp [rowsOne], rfl, by omega, by omega, Wk.weak (ρ := [0]) (φ := []) ?_⟩
    simp only [hs]
    simp [w1, strRows, pinW]
  · have hall : (drumW d).take (3 + d.pins.length) = drumW d := List.take_of_length_le (by simp [drumW]; omega)
    have hjl := join_take_len hW (3 + d.pins.length)
    rw [hall] at hjl ⊢
    simp
    refine CallZ.use0 (c_Join (drumW d) [32] (by simp [drumW]; omega) (by omega)) rfl rfl ?_
    simp [drumTx, h, drumT]
end Go.Proofs.YtmdablalfmcgnaaGreatDoor
