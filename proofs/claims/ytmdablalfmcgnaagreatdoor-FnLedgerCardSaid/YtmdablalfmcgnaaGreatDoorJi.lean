/- Contracts: the check value of bytes. -/
import Derived.Test.YtmdablalfmcgnaaGreatDoorJa
import Derived.Test.YtmdablalfmcgnaaGreatDoorCa
namespace Go.Proofs.YtmdablalfmcgnaaGreatDoor
open Go Go.Ab
set_option maxRecDepth 100000

/-- One bit of the check value. -/
def crcA (x : Int) : Int := intV (bv .shl (.int .i64 x) (.int .u64 1))
def crcX (y : Int) : Int := intV (bv .xor (bv .and (.int .i64 y) (.int .i64 65535)) (.int .i64 4129))
def crcBit (x : Int) : Int := if 65535 < crcA x then crcX (crcA x) else crcA x
def crcBits : Nat → Int → Int
  | 0, x => x
  | n + 1, x => crcBits n (crcBit x)
theorem crcBits_succ (n : Nat) (x : Int) : crcBits (n + 1) x = crcBit (crcBits n x) := by
  induction n generalizing x with
  | zero => rfl
  | succ n ih => rw [crcBits, ih]; rfl
def crcIn (x : Int) (b : UInt8) : Int := intV (bv .xor (.int .i64 x) (bv .shl (.int .i64 (IntKind.i64.wrap b.toNat)) (.int .u64 8)))
def crcByte (x : Int) (b : UInt8) : Int := crcBits 8 (crcIn x b)
def crcL (l : List UInt8) (x : Int) : Int := l.foldl crcByte x
/-- The check value of bytes. -/
def crc16 (l : List UInt8) (x : Int) : Int := if 0 ≤ x ∧ x ≤ 65535 then crcL l x else 0
theorem crcL_succ (l : List UInt8) {i : Nat} (h : i < l.length) (x : Int) : crcL (l.take (i + 1)) x = crcByte (crcL (l.take i) x) l[i] := by
  unfold crcL
  rw [← List.take_append_getElem h, List.foldl_append]
  rfl

theorem c_l01Crc (s : List UInt8) (x : Int) (hs : s.length ≤ 9223372036854775806) : HFn Tryz.prog 150 [.str s, .int .i64 x] [] (.int .i64 (crcL s x)) [] := by
  refine hfn_intro hm Tryz.func150 (by kernel_rfl) rfl (by kernel_rfl) rfl ret0_ok ?_
  simp
  refine loop_upto hm s.length (fun i => ⟨[(0, .str s), (1, .int .i64 (crcL (s.take i) x)), (5, .int .i64 i)], []⟩) (fun _ => True) (by kernel_rfl) ?_ trivial (fun i hi _ => ?_) (fun _ => ?_)
  · exact Wk.weak (ρ := []) (φ := []) (by simp [crcL])
  · have hs := crcL_succ s hi x
    have w1 : IntKind.i64.wrap ((i : Int) + 1) = (i : Int) + 1 := w64 (by omega) (by omega)
    simp [hi]
    refine loop_upto hm 8 (fun k => ⟨[(0, .str s), (1, .int .i64 (crcBits k (crcIn (crcL (s.take i) x) s[i]))), (5, .int .i64 i), (6, .int .i64 k)], []⟩) (fun _ => True) (by kernel_rfl) ?h0 trivial (fun k hk _ => ?st) (fun _ => ?fin)
    case h0 => exact Wk.weak (ρ := []) (φ := []) (by simp [crcBits, crcIn])
    case st =>
      have hb := crcBits_succ k (crcIn (crcL (s.take i) x) s[i])
      generalize crcBits k (crcIn (crcL (s.take i) x) s[i]) = y at hb ⊢
      have w2 : IntKind.i64.wrap ((k : Int) + 1) = (k : Int) + 1 := w64 (by omega) (by omega)
      have ha : crcA y = intV (bv .shl (.int .i64 y) (.int .u64 1)) := rfl
      have hx : crcX (crcA y) = intV (bv .xor (bv .and (.int .i64 (crcA y)) (.int .i64 65535)) (.int .i64 4129)) := rfl
      simp at ha hx
      have hk' : (k : Int) < 8 := by omega
      simp [hk', ← ha, ← hx]
      refine ⟨fun h => ?_, fun h => ?_⟩
      · refine Wk.weak (ρ := []) (φ := []) ?_
        rw [hb, crcBit, if_pos h]
        simp [w2]
      · refine Wk.weak (ρ := []) (φ := []) ?_
        rw [hb, crcBit, if_neg (by omega)]
        simp [w2]
    case fin =>
      simp
      refine Wk.weak (ρ := []) (φ := []) ?_
      simp [hs, w1, crcByte]
  · simp

theorem c_spec_Crc16 (s : List UInt8) (x : Int) (hs : s.length ≤ 9223372036854775806) : HFn Tryz.prog 107 [.str s, .int .i64 x] [] (.int .i64 (crc16 s x)) [] := by
  refine hfn_intro hm Tryz.func107 (by kernel_rfl) rfl (by kernel_rfl) rfl ret0_ok ?_
  simp
  refine CallZ.use0 (c_l00In _ _ _) rfl rfl ?_
  simp
  refine ⟨fun h => ?_, fun h0 h1 => ?_⟩
  · unfold crc16
    rw [if_neg (by omega)]
  · refine CallZ.use0 (c_l01Crc s x hs) rfl rfl ?_
    simp [crc16, h0, h1]

theorem c_impl_Crc16 (s : List UInt8) (x : Int) (hs : s.length ≤ 9223372036854775806) : HFn Tryz.prog 44 [.str s, .int .i64 x] [] (.int .i64 (crc16 s x)) [] := by
  refine hfn_intro hm Tryz.func44 (by kernel_rfl) rfl (by kernel_rfl) rfl ret0_ok ?_
  simp
  refine CallZ.use0 (c_within _ _ _) rfl rfl ?_
  simp
  refine ⟨fun h => ?_, fun h0 h1 => ?_⟩
  · unfold crc16
    rw [if_neg (by omega)]
  refine loop_upto hm s.length (fun i => ⟨[(5, .int .i64 (crcL (s.take i) x)), (13, .sl 1 (bytesV s)), (14, .int .i64 s.length), (15, .int .i64 i)], []⟩) (fun _ => True) (by kernel_rfl) ?_ trivial (fun i hi _ => ?_) (fun _ => ?_)
  · exact Wk.weak (ρ := []) (φ := []) (by simp [crcL, bytesV_len])
  · have hs := crcL_succ s hi x
    have w1 : IntKind.i64.wrap ((i : Int) + 1) = (i : Int) + 1 := w64 (by omega) (by omega)
    simp [hi, bytesV_len, bytesV_getE]
    refine loop_upto hm 8 (fun k => ⟨[(5, .int .i64 (crcBits k (crcIn (crcL (s.take i) x) s[i]))), (13, .sl 1 (bytesV s)), (14, .int .i64 s.length), (15, .int .i64 i), (24, .int .i64 k)], []⟩) (fun _ => True) (by kernel_rfl) ?h0 trivial (fun k hk _ => ?st) (fun _ => ?fin)
    case h0 => exact Wk.weak (ρ := []) (φ := []) (by simp [crcBits, crcIn])
    case st =>
      have hb := crcBits_succ k (crcIn (crcL (s.take i) x) s[i])
      generalize crcBits k (crcIn (crcL (s.take i) x) s[i]) = y at hb ⊢
      have w2 : IntKind.i64.wrap ((k : Int) + 1) = (k : Int) + 1 := w64 (by omega) (by omega)
      have ha : crcA y = intV (bv .shl (.int .i64 y) (.int .u64 1)) := rfl
      have hx : crcX (crcA y) = intV (bv .xor (bv .and (.int .i64 (crcA y)) (.int .i64 65535)) (.int .i64 4129)) := rfl
      simp at ha hx
      have hk' : (k : Int) < 8 := by omega
      simp [hk', ← ha, ← hx]
      refine ⟨fun h => ?_, fun h => ?_⟩
      · refine Wk.weak (ρ := []) (φ := []) ?_
        rw [hb, crcBit, if_pos h]
        simp [w2]
      · refine Wk.weak (ρ := []) (φ := []) ?_
        rw [hb, crcBit, if_neg (by omega)]
        simp [w2]
    case fin =>
      simp
      refine Wk.weak (ρ := []) (φ := []) ?_
      simp [hs, w1, crcByte]
  · simp [crc16, h0, h1]
theorem wrap_I64 (n : Int) : I64 (IntKind.i64.wrap n) := by
  unfold IntKind.wrap I64
  simp only [IntKind.bits, IntKind.signed]
  have h1 := Int.emod_nonneg n (b := 2 ^ 64) (by decide)
  have h2 := Int.emod_lt_of_pos n (b := 2 ^ 64) (by decide)
  simp
  split <;> omega
theorem crc16_I64 (s : List UInt8) (x : Int) : I64 (crc16 s x) := by
  unfold crc16
  split
  · rename_i h
    rcases List.eq_nil_or_concat s with rfl | ⟨L, b, rfl⟩
    · exact ⟨by simp [crcL]; omega, by simp [crcL]; omega⟩
    · have : crcL (L.concat b) x = crcBit (crcBits 7 (crcIn (crcL L x) b)) := by
        unfold crcL
        rw [List.concat_eq_append, List.foldl_append]
        exact crcBits_succ 7 _
      rw [this]
      generalize crcBits 7 (crcIn (crcL L x) b) = y
      unfold crcBit
      split
      · exact wrap_I64 _
      · exact wrap_I64 _
  · exact ⟨by omega, by omega⟩
end Go.Proofs.YtmdablalfmcgnaaGreatDoor
