/- Contracts: lists, notes and orders as text.; Contracts: OrderText.; Contracts: drums as text. -/
import Derived.Test.YtoeklljhjhidbaaGreatDoorJc
import Derived.Test.YtoeklljhjhidbaaGreatDoorCf
import Derived.Test.YtoeklljhjhidbaaGreatDoorDb
-- from Jd
namespace Go.Proofs.YtoeklljhjhidbaaGreatDoor
open Go Go.Ab
set_option maxRecDepth 100000

def valB (n : Int) : Bool := decide (-1000000000000 ≤ n) && decide (n ≤ 1000000000000)
theorem c_isValue [Go.Ab.Drwn] (n : Int) : HFn Tryz.prog 57 [.int .i64 n] [] (.bool (valB n)) [] := by
  refine hfn_intro hm Tryz.func57 (by kernel_rfl) rfl (by kernel_rfl) rfl ret0_ok ?_
  simp
  refine CallZ.use0 (c_within _ _ _) rfl rfl ?_
  simp [valB]
theorem c_ListText1 [Go.Ab.Drwn] (n : Int) : HFn Tryz.prog 56 [.int .i64 n] [] (.bool (!valB n)) [] := by
  refine hfn_intro hm Tryz.func56 (by kernel_rfl) rfl (by kernel_rfl) rfl ret0_ok ?_
  simp
  refine CallZ.use0 (c_isValue _) rfl rfl ?_
  simp

theorem c_IndexFuncI [Go.Ab.Drwn] (f : Nat) (p : Int → Bool) (hf : ∀ b : Int, HFn Tryz.prog f [.int .i64 b] [] (.bool (p b)) []) (s : List Int) (hs : s.length ≤ 9223372036854775807) :
    HFn Tryz.prog 84 [.sl 1 (intRows s), .fn f []] [] (.int .i64 (findI p s)) [] := by
  refine hfn_intro hm Tryz.func84 (by kernel_rfl) rfl (by kernel_rfl) rfl ret0_ok ?_
  simp [intRows]
  refine loop_upto hm s.length (fun i => ⟨[(0, .sl 1 (intRows s)), (1, .fn f []), (7, .int .i64 s.length), (8, .int .i64 i)], []⟩) (fun i => ∀ j (h : j < s.length), j < i → p s[j] = false) (by kernel_rfl) ?_ (by simp) (fun i hi hI => ?_) (fun hI => ?_)
  · exact Wk.weak (ρ := []) (φ := []) (by simp [intRows])
  · simp [intRows, hi]
    refine CallZ.use0 (hf _) rfl rfl ?_
    simp
    refine ⟨fun h => (findI_at hi h hI).symm, fun h => ⟨fun j hj hji => ?_, ?_⟩⟩
    · by_cases e : j = i
      · subst e; exact h
      · exact hI j hj (by omega)
    · refine Wk.weak (ρ := []) (φ := []) ?_
      simp
      exact w64 (by omega) (by omega)
  · simp [intRows]
    exact (findI_none fun j hj => hI j hj hj).symm

theorem c_ContainsFuncI [Go.Ab.Drwn] (f : Nat) (p : Int → Bool) (hf : ∀ b : Int, HFn Tryz.prog f [.int .i64 b] [] (.bool (p b)) []) (s : List Int) (hs : s.length ≤ 9223372036854775807) :
    HFn Tryz.prog 55 [.sl 1 (intRows s), .fn f []] [] (.bool (s.any p)) [] := by
  refine hfn_intro hm Tryz.func55 (by kernel_rfl) rfl (by kernel_rfl) rfl ret0_ok ?_
  simp
  refine CallZ.use0 (c_IndexFuncI f p hf s hs) rfl rfl ?_
  simp
  exact findI_any

/-- Whether a list of numbers has a text. -/
def listOk (l : List Int) : Bool := decide (l.length ≤ 64) && l.all valB
def listTx (l : List Int) : List UInt8 := if listOk l = true then listT l else []
theorem valB_I64 {n : Int} (h : valB n = true) : I64 n := by
  simp [valB] at h
  exact ⟨by omega, by omega⟩
theorem listOk_I64 {l : List Int} (h : listOk l = true) : ∀ x ∈ l, I64 x := fun x hx => by
  simp [listOk] at h
  exact valB_I64 (h.2 x hx)

theorem c_ListText [Go.Ab.Drwn] [Go.Ab.DrwOff] (l : List Int) (hn : l.length ≤ 9223372036854775807) : HFn Tryz.prog 26 [.sl 1 (intRows l)] [] (.str (listTx l)) [] := by
  refine hfn_intro hm Tryz.func26 (by kernel_rfl) rfl (by kernel_rfl) rfl ret0_ok ?_
  simp [intRows_len]
  refine CallY.use (fun _ => ⟨rfl, c_ContainsFuncI _ _ c_ListText1 l (by omega)⟩) rfl rfl ?_
  simp [intRows_len]
  refine ⟨fun h => ?_, fun h1 h2 => ⟨fun h => by subst h; rfl, fun h0 => ?_⟩⟩
  · unfold listTx
    rw [if_neg]
    simp [listOk]
    intro hle
    rcases h with h | h
    · omega
    · exact h
  have hok : listOk l = true := by simp [listOk]; exact ⟨by omega, h2⟩
  have hI := listOk_I64 hok
  have hT : listTx l = Lib.join (l.map Lib.itoa) [44] := by unfold listTx listT; rw [if_pos hok, if_neg h0]
  refine loop_upto hm l.length (fun i => ⟨[(3, .sf 0 1), (16, .sl 1 (intRows l)), (17, .int .i64 l.length), (18, .int .i64 i)], [some (.arr 1 (strRows ((l.map Lib.itoa).take i)))]⟩) (fun _ => True) (by kernel_rfl) ?_ trivial (fun i hi _ => ?_) (fun _ => ?_)
  · refine (weak_nil (t := 3) (z := 1) rfl).trans (Wk.weak (ρ := [0]) (φ := []) ?_)
    simp [strRows]
  · have w1 : IntKind.i64.wrap ((i : Int) + 1) = (i : Int) + 1 := w64 (by omega) (by omega)
    have hs : (l.map Lib.itoa).take (i + 1) = (l.map Lib.itoa).take i ++ [Lib.itoa l[i]] := by rw [← List.take_append_getElem (by simpa using hi)]; simp
    have hsl : (strRows ((l.map Lib.itoa).take i)).length ≤ 64 := by simp [strRows]; omega
    simp [hi, intRows_len, intRows_getE]
    refine CallZ.use0 (c_Decimal l[i] (hI _ (List.getElem_mem hi))) rfl rfl ?_
    simp
    refine ⟨by simp [rowsOne], by omega, by omega, Wk.weak (ρ := [0]) (φ := []) ?_⟩
    simp only [hs]
    simp [w1, strRows]
  · have htk : (l.map Lib.itoa).take l.length = l.map Lib.itoa := List.take_of_length_le (by simp)
    rw [htk]
    simp
    refine CallZ.use0 (c_Join (l.map Lib.itoa) [44] (by simp; omega) ?_) rfl rfl ?_
    · have := listT_len l hI
      unfold listT at this
      rw [if_neg h0] at this
      omega
    · simp [hT]

def noteNames : List (List UInt8) := [[99], [99, 115], [100], [100, 115], [101], [102], [102, 115], [103], [103, 115], [97], [97, 115], [98]]
/-- The name of a note. -/
def noteT (n : Int) : List UInt8 := noteNames.getD (n.toNat % 12) [] ++ Lib.itoa (n / 12 - 1)
theorem note_row (k : Nat) (hk : k < 12) : (strRows noteNames)[k]? = some [.str (noteNames.getD k [])] := by
  have : k < noteNames.length := hk
  simp [strRows, List.getD, this]
end Go.Proofs.YtoeklljhjhidbaaGreatDoor
-- from Je
namespace Go.Proofs.YtoeklljhjhidbaaGreatDoor
open Go Go.Ab
set_option maxRecDepth 100000

theorem noteT_len {n : Int} (h0 : 0 ≤ n) (h1 : n ≤ 127) : (noteT n).length ≤ 23 := by
  unfold noteT
  have : ∀ j, j < 12 → (noteNames.getD j []).length ≤ 2 := by decide
  have h2 := this (n.toNat % 12) (Nat.mod_lt _ (by omega))
  have h3 := itoa_len (n := n / 12 - 1) ⟨by omega, by omega⟩
  simp only [List.length_append]
  omega

end Go.Proofs.YtoeklljhjhidbaaGreatDoor
-- from Jg
namespace Go.Proofs.YtoeklljhjhidbaaGreatDoor
open Go Go.Ab
set_option maxRecDepth 100000

def pinW (p : Pin) : List UInt8 := Lib.itoa p.step ++ [58] ++ Lib.itoa p.hammer
def drumW (d : Drum) : List (List UInt8) := [Lib.itoa d.steps, Lib.itoa d.rest, listT d.notes] ++ d.pins.map pinW
def drumT (d : Drum) : List UInt8 := Lib.join (drumW d) [32]
/-- The text of a drum. -/
def drumTx (d : Drum) : List UInt8 := if validDrum d = true then drumT d else []
theorem drumW_take (d : Drum) {i : Nat} (hi : i < d.pins.length) : (drumW d).take (3 + (i + 1)) = (drumW d).take (3 + i) ++ [pinW d.pins[i]] := by
  have h : 3 + i < (drumW d).length := by simp [drumW]; omega
  rw [← Nat.add_assoc, ← List.take_append_getElem h]
  congr 2
  have : (drumW d)[3 + i]? = some (pinW d.pins[i]) := by
    unfold drumW
    rw [List.getElem?_append_right (by simp)]
    simp [hi]
  rw [List.getElem?_eq_getElem h] at this
  exact Option.some.inj this
structure DrumIn (d : Drum) : Prop where
  steps : I64 d.steps
  rest : I64 d.rest
  notes : listOk d.notes = true
  pins : ∀ p ∈ d.pins, I64 p.step ∧ I64 p.hammer
  many : d.pins.length ≤ 256
theorem drum_in {d : Drum} (h : validDrum d = true) : DrumIn d := by
  have hd := (validDrum_iff d).1 h
  have b := hd.s0; have b1 := hd.s1; have b2 := hd.r0; have b3 := hd.r1; have b4 := hd.nl; have b5 := hd.pl
  refine ⟨⟨by omega, by omega⟩, ⟨by omega, by omega⟩, ?_, fun p hp => ?_, b5⟩
  · simp [listOk]
    refine ⟨by omega, fun n hn => ?_⟩
    obtain ⟨i, hi, rfl⟩ := List.getElem_of_mem hn
    have := hd.notes i hi
    simp [noteOkAt, hi] at this
    simp [valB]
    omega
  · obtain ⟨i, hi, rfl⟩ := List.getElem_of_mem hp
    have := hd.pins i hi
    simp [pinAtOk, pinIn, pinAt_eq hi] at this
    exact ⟨⟨by omega, by omega⟩, ⟨by omega, by omega⟩⟩
theorem drumW_len {d : Drum} (h : DrumIn d) : ∀ x ∈ drumW d, x.length ≤ 1410 := fun x hx => by
  have h1 := itoa_len h.steps
  have h2 := itoa_len h.rest
  have h3 := listT_len d.notes (listOk_I64 h.notes)
  have h4 : d.notes.length ≤ 64 := by have := h.notes; simp [listOk] at this; exact this.1
  rcases List.mem_append.1 hx with hx | hx
  · simp at hx
    rcases hx with rfl | rfl | rfl <;> omega
  · obtain ⟨p, hp, rfl⟩ := List.mem_map.1 hx
    have := h.pins p hp
    have g1 := itoa_len this.1
    have g2 := itoa_len this.2
    simp [pinW]
    omega
theorem join_take_len {W : List (List UInt8)} {k : Nat} (h : ∀ x ∈ W, x.length ≤ k) (n : Nat) : (Lib.join (W.take n) [32]).length ≤ (k + 1) * n := by
  have h1 := join_len [32] k (by simp) (W.take n) fun x hx => h x (List.mem_of_mem_take hx)
  have h2 : (W.take n).length ≤ n := by simp; omega
  exact Nat.le_trans h1 (Nat.mul_le_mul_left _ h2)

theorem Pin.row_get (l : List Pin) {i : Nat} (h : i < (Pin.rows l).length) : (Pin.rows l)[i] = [.int .i64 (l[i]'(by rw [Pin.rows_len] at h; exact h)).step, .int .i64 (l[i]'(by rw [Pin.rows_len] at h; exact h)).hammer] := by simp [Pin.rows, Pin.cells]

theorem c_impl_DrumText [Go.Ab.Drwn] [Go.Ab.DrwOff] (d : Drum) (hn : d.notes.length ≤ 1048576) (hp : d.pins.length ≤ 1048576) : HFn Tryz.prog 7 [.agg d.cells] [] (.str (drumTx d)) [] := by
  refine hfn_intro hm Tryz.func7 (by kernel_rfl) rfl (by kernel_rfl) rfl ret0_ok ?_
  simp [Drum.cells]
  refine CallZ.use0 (c_impl_ValidDrum d hn hp) rfl rfl ?_
  simp
  refine ⟨fun h => by simp [drumTx, h], fun h => ?_⟩
  have hd := drum_in h
  have h1 := itoa_len hd.steps
  have h2 := itoa_len hd.rest
  have hT : listTx d.notes = listT d.notes := if_pos hd.notes
  have hm' := hd.many
  have hW := drumW_len hd
  refine CallZ.use0 (c_Decimal _ hd.steps) rfl rfl ?_
  simp
  refine CallZ.use0 (c_Decimal _ hd.rest) rfl rfl ?_
  simp
  refine CallZ.use0 (c_ListText _ (by omega)) rfl rfl ?_
  rw [hT]
  simp
  refine loop_upto hm d.pins.length (fun i => ⟨[(3, .sf 0 1), (20, .sl 2 (Pin.rows d.pins)), (21, .int .i64 d.pins.length), (22, .int .i64 i)], [some (.arr 1 (strRows ((drumW d).take (3 + i))))]⟩) (fun _ => True) (by kernel_rfl) ?_ trivial (fun i hi _ => ?_) (fun _ => ?_)
  · refine Wk.weak (ρ := [1]) (φ := []) ?_
    simp [Pin.rows_len, drumW, strRows]
  · have w1 : IntKind.i64.wrap ((i : Int) + 1) = (i : Int) + 1 := w64 (by omega) (by omega)
    have hp := hd.pins d.pins[i] (List.getElem_mem hi)
    have g1 := itoa_len hp.1
    have g2 := itoa_len hp.2
    have hs := drumW_take d hi
    have hl : (strRows ((drumW d).take (3 + i))).length ≤ 259 := by simp [strRows]; omega
    simp [Pin.rows_len, hi, Pin.row_get]
    refine CallZ.use0 (c_Decimal _ hp.1) rfl rfl ?_
    simp
    refine ⟨by omega, ?_⟩
    refine CallZ.use0 (c_Decimal _ hp.2) rfl rfl ?_
    simp
    refine ⟨by omega, by simp [rowsOne], rfl, by omega, by omega, Wk.weak (ρ := [0]) (φ := []) ?_⟩
    simp only [hs]
    simp [w1, strRows, pinW]
  · have hall : (drumW d).take (3 + d.pins.length) = drumW d := List.take_of_length_le (by simp [drumW]; omega)
    have hjl := join_take_len hW (3 + d.pins.length)
    rw [hall] at hjl ⊢
    simp
    refine CallZ.use0 (c_Join (drumW d) [32] (by simp [drumW]; omega) (by omega)) rfl rfl ?_
    simp [drumTx, h, drumT]
end Go.Proofs.YtoeklljhjhidbaaGreatDoor
