/- Contracts: the check value of bytes. -/
import Derived.Test.YtoeklljhjhidbaaGreatDoorJa
import Derived.Test.YtoeklljhjhidbaaGreatDoorCa
namespace Go.Proofs.YtoeklljhjhidbaaGreatDoor
open Go Go.Ab
set_option maxRecDepth 100000

/-- One bit of the check value. -/
def crcA (x : Int) : Int := intV (bv .shl (.int .i64 x) (.int .u64 1))
def crcX (y : Int) : Int := intV (bv .xor (bv .and (.int .i64 y) (.int .i64 65535)) (.int .i64 4129))
def crcBit (x : Int) : Int := if 65535 < crcA x then crcX (crcA x) else crcA x
def crcBits : Nat → Int → Int
  | 0, x => x
  | n + 1, x => crcBits n (crcBit x)
theorem crcBits_succ (n : Nat) (x : Int) : crcBits (n + 1) x = crcBit (crcBits n x) := by
  induction n generalizing x with
  | zero => rfl
  | succ n ih => rw [crcBits, ih]; rfl
def crcIn (x : Int) (b : UInt8) : Int := intV (bv .xor (.int .i64 x) (bv .shl (.int .i64 (IntKind.i64.wrap b.toNat)) (.int .u64 8)))
def crcByte (x : Int) (b : UInt8) : Int := crcBits 8 (crcIn x b)
def crcL (l : List UInt8) (x : Int) : Int := l.foldl crcByte x
/-- The check value of bytes. -/
def crc16 (l : List UInt8) (x : Int) : Int := if 0 ≤ x ∧ x ≤ 65535 then crcL l x else 0
theorem crcL_succ (l : List UInt8) {i : Nat} (h : i < l.length) (x : Int) : crcL (l.take (i + 1)) x = crcByte (crcL (l.take i) x) l[i] := by
  unfold crcL
  rw [← List.take_append_getElem h, List.foldl_append]
  rfl

theorem wrap_I64 (n : Int) : I64 (IntKind.i64.wrap n) := by
  unfold IntKind.wrap I64
  simp only [IntKind.bits, IntKind.signed]
  have h1 := Int.emod_nonneg n (b := 2 ^ 64) (by decide)
  have h2 := Int.emod_lt_of_pos n (b := 2 ^ 64) (by decide)
  simp
  split <;> omega
theorem crc16_I64 (s : List UInt8) (x : Int) : I64 (crc16 s x) := by
  unfold crc16
  split
  · rename_i h
    rcases List.eq_nil_or_concat s with rfl | ⟨L, b, rfl⟩
    · exact ⟨by simp [crcL]; omega, by simp [crcL]; omega⟩
    · have : crcL (L.concat b) x = crcBit (crcBits 7 (crcIn (crcL L x) b)) := by
        unfold crcL
        rw [List.concat_eq_append, List.foldl_append]
        exact crcBits_succ 7 _
      rw [this]
      generalize crcBits 7 (crcIn (crcL L x) b) = y
      unfold crcBit
      split
      · exact wrap_I64 _
      · exact wrap_I64 _
  · exact ⟨by omega, by omega⟩
end Go.Proofs.YtoeklljhjhidbaaGreatDoor
