/- Contracts: the source of choices that the drawing functions read. No condition.; Contracts: numbers that an input chooses. No condition.; Contracts: numbers that an input chooses, for the laws of the second kind. No condition. -/
import Derived.Test.YtcjpfjklhhclmaaGreatDoorTI
-- from Na
namespace Go.Proofs.YtcjpfjklhhclmaaGreatDoor
open Go Go.Ab
set_option maxRecDepth 100000

/-- A source: its bytes, how far it is read, its state. -/
structure Src where
  code : List Int
  pos : Int
  seed : Int
def byteRows (l : List Int) : List (List PV) := l.map fun n => [.int .u8 n]
theorem byteRows_len (l : List Int) : (byteRows l).length = l.length := by simp [byteRows]
@[simp] def Src.cells (s : Src) : List PV := [.sl 1 (byteRows s.code), .int .i64 s.pos, .int .u64 s.seed]
@[simp] def Src.box (s : Src) : Option Ab.Obj := some (.box s.cells)
/-- A source that is read n times at most. -/
structure Src.ok (n : Nat) (s : Src) : Prop where
  bytes : ∀ c ∈ s.code, 0 ≤ c ∧ c < 256
  len : s.code.length ≤ 9223372036854775807
  p0 : 0 ≤ s.pos
  p1 : s.pos ≤ n
  bound : n ≤ 4611686018427387904

def Src.byte (s : Src) : Int := if s.pos < s.code.length then s.code.getD s.pos.toNat 0 else 0
def Src.mix (s : Src) : Int := IntKind.u64.wrap (IntKind.u64.wrap (IntKind.u64.wrap (s.seed * 6364136223846793005) + IntKind.u64.wrap s.byte) + 1442695040888963407)
def Src.lateN (m : Int) : Nat := (m.fdiv (2 ^ min 40 IntKind.u64.bits) % 2 ^ IntKind.u64.bits).toNat &&& ((255 : Int) % 2 ^ IntKind.u64.bits).toNat
def Src.late (s : Src) : Int := IntKind.i64.wrap (IntKind.u64.wrap (Src.lateN s.mix : Nat))
def Src.draw (s : Src) : Int := if s.pos < s.code.length then s.byte else s.late
def Src.next (s : Src) : Src := ⟨s.code, s.pos + 1, s.mix⟩

theorem Src.late_le (s : Src) : 0 ≤ s.late ∧ s.late < 256 := by
  have h : Src.lateN s.mix ≤ 255 := Nat.le_trans Nat.and_le_right (by decide)
  unfold Src.late
  generalize Src.lateN s.mix = v at h
  have e : IntKind.u64.wrap (v : Int) = v := by
    show ((v : Int) % 2 ^ 64) = v
    omega
  rw [e, w64 (by omega) (by omega)]
  omega
theorem Src.ok.byte {n : Nat} {s : Src} (h : s.ok n) : 0 ≤ s.byte ∧ s.byte < 256 := by
  unfold Src.byte
  split
  · rename_i hp
    have := h.p0
    have hl : s.pos.toNat < s.code.length := by omega
    rw [List.getD_eq_getElem?_getD, List.getElem?_eq_getElem hl]
    exact h.bytes _ (List.getElem_mem hl)
  · omega
theorem Src.ok.draw {n : Nat} {s : Src} (h : s.ok n) : 0 ≤ s.draw ∧ s.draw < 256 := by
  unfold Src.draw
  split
  · exact h.byte
  · exact s.late_le
theorem Src.ok.mono {n m : Nat} {s : Src} (h : s.ok n) (hm : n ≤ m) (hb : m ≤ 4611686018427387904) : s.ok m := ⟨h.bytes, h.len, h.p0, by have := h.p1; omega, hb⟩
theorem Src.ok.next {n : Nat} {s : Src} (h : s.ok n) (hb : n + 1 ≤ 4611686018427387904) : s.next.ok (n + 1) := ⟨h.bytes, h.len, by have := h.p0; simp only [Src.next]; omega, by have := h.p1; simp only [Src.next]; omega, hb⟩

theorem c_l00From (code : List Int) : MFn Tryz.prog 31 [.sl 1 (byteRows code)] [] [] (.pb 0 0) [(Src.mk code 0 0).box] := by
  refine mfn_intro [] hm Tryz.func31 (by kernel_rfl) rfl (by kernel_rfl) rfl (retM_ok (ρ := [0]) (φ := [])) (by simp) ?_
  simp

set_option maxHeartbeats 4000000 in
theorem c_next {n : Nat} {s : Src} (h : s.ok n) : MFn Tryz.prog 183 [.pb 0 0] [s.box] [0] (.int .i64 s.draw) [s.next.box] := by
  have h0 := h.p0
  have h1 := h.p1
  have h2 := h.bound
  have h3 := h.len
  have hb := h.byte
  refine mfn_intro [0] hm Tryz.func183 (by kernel_rfl) rfl (by kernel_rfl) rfl (retM_ok (ρ := [0]) (φ := [])) (by simp) ?_
  have w1 : IntKind.i64.wrap (s.pos + 1) = s.pos + 1 := w64 (by omega) (by omega)
  by_cases hp : s.pos < s.code.length
  · have hl : s.pos.toNat < s.code.length := by omega
    have e : s.byte = s.code[s.pos.toNat] := by simp [Src.byte, hp, hl]
    have w2 : IntKind.i64.wrap s.code[s.pos.toNat] = s.byte := by rw [e, w64 (by omega) (by omega)]
    simp (maxSteps := 2000000) [byteRows, hp, hl, h0, w1, w2, Src.next, Src.draw, Src.mix, show s.pos + 1 ≤ (s.code.length : Int) by omega]
  · have e : s.byte = 0 := by simp [Src.byte, hp]
    have e2 : s.draw = s.late := by unfold Src.draw; rw [if_neg hp]
    rw [e2]
    have e3 : s.mix = IntKind.u64.wrap (IntKind.u64.wrap (IntKind.u64.wrap (s.seed * 6364136223846793005) + IntKind.u64.wrap 0) + 1442695040888963407) := by unfold Src.mix; rw [e]
    simp (maxSteps := 2000000) [byteRows, hp, w1, Src.next, show ¬ s.pos + 1 ≤ (s.code.length : Int) by omega]
    rw [← e3]
    exact ⟨rfl, rfl⟩

/-- A number below n. -/
def Src.pick (s : Src) (n : Int) : Int × Src := if n ≤ 1 then (0, s) else if 200 < n then ((s.draw * 256 + s.next.draw).tmod n, s.next.next) else (s.draw.tmod n, s.next)
theorem Src.ok.pick {m : Nat} {s : Src} (h : s.ok m) (hb : m + 2 ≤ 4611686018427387904) (n : Int) : 0 ≤ (s.pick n).1 ∧ (0 < n → (s.pick n).1 < n) ∧ (s.pick n).2.ok (m + 2) := by
  have h1 := h.draw
  have h2 := (h.next (by omega)).draw
  unfold Src.pick
  split
  · exact ⟨by simp, fun _ => by simp; omega, h.mono (by omega) hb⟩
  · split
    · rw [Int.tmod_eq_emod_of_nonneg (by omega)]
      exact ⟨Int.emod_nonneg _ (by omega), fun _ => Int.emod_lt_of_pos _ (by omega), (h.next (by omega)).next (by omega)⟩
    · rw [Int.tmod_eq_emod_of_nonneg (by omega)]
      exact ⟨Int.emod_nonneg _ (by omega), fun _ => Int.emod_lt_of_pos _ (by omega), (h.next (by omega)).mono (by omega) hb⟩

theorem c_pick {m : Nat} {s : Src} (h : s.ok m) (hb : m + 2 ≤ 4611686018427387904) (n : Int) : MFn Tryz.prog 97 [.pb 0 0, .int .i64 n] [s.box] [0] (.int .i64 (s.pick n).1) [(s.pick n).2.box] := by
  have h1 := h.draw
  have hn := h.next (by omega)
  have h2 := hn.draw
  refine mfn_intro [0] hm Tryz.func97 (by kernel_rfl) rfl (by kernel_rfl) rfl (retM_ok (ρ := [0]) (φ := [])) (by simp) ?_
  simp
  refine ⟨fun g => by simp [Src.pick, g], fun g => ?_⟩
  refine CallZ.useM [0] [] [] (c_next h) (by simp) rfl rfl (by simp) rfl rfl rfl (.inl rfl) ?_
  simp
  refine ⟨fun g2 => ?_, fun g2 => ?_⟩
  · refine CallZ.useM [0] [] [] (c_next hn) (by simp) rfl rfl (by simp) rfl rfl rfl (.inl rfl) ?_
    have w1 : IntKind.i64.wrap (s.draw * 256) = s.draw * 256 := w64 (by omega) (by omega)
    have w2 : IntKind.i64.wrap (s.draw * 256 + s.next.draw) = s.draw * 256 + s.next.draw := w64 (by omega) (by omega)
    simp [Src.pick, g2, show ¬ n ≤ 1 by omega, show ¬ n = 0 by omega, w1, w2]
  · simp [Src.pick, show ¬ 200 < n by omega, show ¬ n ≤ 1 by omega, show ¬ n = 0 by omega]

theorem c_one {m : Nat} {s : Src} (h : s.ok m) (hb : m + 2 ≤ 4611686018427387904) (n : Int) : MFn Tryz.prog 260 [.pb 0 0, .int .i64 n] [s.box] [0] (.bool (decide ((s.pick n).1 = 0))) [(s.pick n).2.box] := by
  refine mfn_intro [0] hm Tryz.func260 (by kernel_rfl) rfl (by kernel_rfl) rfl (retM_ok (ρ := [0]) (φ := [])) (by simp) ?_
  simp
  refine CallZ.useM [0] [] [] (c_pick h hb n) (by simp) rfl rfl (by simp) rfl rfl rfl (.inl rfl) ?_
  simp

/-- One of some numbers, of some texts. -/
def Src.among (s : Src) (l : List Int) : Int × Src := (l.getD (s.pick l.length).1.toNat 0, (s.pick l.length).2)
def Src.text (s : Src) (l : List (List UInt8)) : List UInt8 × Src := (l.getD (s.pick l.length).1.toNat [], (s.pick l.length).2)
theorem Src.ok.among {m : Nat} {s : Src} (h : s.ok m) (hb : m + 2 ≤ 4611686018427387904) (l : List Int) : (s.among l).2.ok (m + 2) := (h.pick hb _).2.2
theorem Src.ok.text {m : Nat} {s : Src} (h : s.ok m) (hb : m + 2 ≤ 4611686018427387904) (l : List (List UInt8)) : (s.text l).2.ok (m + 2) := (h.pick hb _).2.2

theorem c_among {m : Nat} {s : Src} (h : s.ok m) (hb : m + 2 ≤ 4611686018427387904) (l : List Int) (hl : 0 < l.length) (hl' : l.length ≤ 1048576) : MFn Tryz.prog 100 [.pb 0 0, .sf 1 1] [s.box, some (.arr 1 (intRows l))] [0, 1] (.int .i64 (s.among l).1) [(s.among l).2.box, some (.arr 1 (intRows l))] := by
  obtain ⟨h1, h2, h3⟩ := h.pick hb (l.length : Int)
  have h2 := h2 (by omega)
  refine mfn_intro [0, 1] hm Tryz.func100 (by kernel_rfl) rfl (by kernel_rfl) rfl (retM_ok (ρ := [0, 1]) (φ := [])) (by simp) ?_
  simp [intRows_len]
  refine CallZ.useM [0] [] [] (c_pick h hb _) (by simp) rfl rfl (by simp) rfl rfl rfl (.inl rfl) ?_
  have hi : (s.pick l.length).1.toNat < l.length := by omega
  simp [intRows, h1, h2, hi, Src.among]
theorem c_textS {m : Nat} {s : Src} (h : s.ok m) (hb : m + 2 ≤ 4611686018427387904) (l : List (List UInt8)) (hl : 0 < l.length) (hl' : l.length ≤ 1048576) : MFn Tryz.prog 184 [.pb 0 0, .sf 1 1] [s.box, some (.arr 1 (strRows l))] [0, 1] (.str (s.text l).1) [(s.text l).2.box, some (.arr 1 (strRows l))] := by
  obtain ⟨h1, h2, h3⟩ := h.pick hb (l.length : Int)
  have h2 := h2 (by omega)
  refine mfn_intro [0, 1] hm Tryz.func184 (by kernel_rfl) rfl (by kernel_rfl) rfl (retM_ok (ρ := [0, 1]) (φ := [])) (by simp) ?_
  simp [strRows]
  refine CallZ.useM [0] [] [] (c_pick h hb _) (by simp) rfl rfl (by simp) rfl rfl rfl (.inl rfl) ?_
  have hi : (s.pick l.length).1.toNat < l.length := by omega
  simp [h1, h2, hi, Src.text]
end Go.Proofs.YtcjpfjklhhclmaaGreatDoor
-- from Nr
namespace Go.Proofs.YtcjpfjklhhclmaaGreatDoor
open Go Go.Ab
set_option maxRecDepth 100000

theorem fits_bytes {rows : List (List PV)} (h : ∀ r ∈ rows, fitsL [.int .u8] r) : ∃ l : List Int, rows = byteRows l ∧ ∀ x ∈ l, 0 ≤ x ∧ x < 256 := list_of fun r hr => by
  have h := h r hr
  obtain ⟨_, _, rfl, h0, h⟩ := fitsL_cons h
  obtain rfl := fitsL_nil h
  obtain ⟨n, rfl, w⟩ := fits_int h0
  refine ⟨n, rfl, ?_⟩
  have h1 : IntKind.u8.min = 0 := rfl
  have h2 : IntKind.u8.max = 255 := rfl
  simp only [Lit.wf, Bool.and_eq_true, decide_eq_true_eq, h1, h2] at w
  omega

end Go.Proofs.YtcjpfjklhhclmaaGreatDoor
-- from Nq
namespace Go.Proofs.YtcjpfjklhhclmaaGreatDoor
open Go Go.Ab
set_option maxRecDepth 100000

end Go.Proofs.YtcjpfjklhhclmaaGreatDoor
