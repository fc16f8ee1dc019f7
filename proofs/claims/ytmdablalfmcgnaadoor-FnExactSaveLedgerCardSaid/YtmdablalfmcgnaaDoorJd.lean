/- Contracts: lists, notes and orders as text. -/
import Derived.Test.YtmdablalfmcgnaaDoorJc
import Derived.Test.YtmdablalfmcgnaaDoorCf
namespace Go.Proofs.YtmdablalfmcgnaaDoor
open Go Go.Ab
set_option maxRecDepth 100000

def valB (n : Int) : Bool := decide (-1000000000000 ≤ n) && decide (n ≤ 1000000000000)
/-- Whether a list of numbers has a text. -/
def listOk (l : List Int) : Bool := decide (l.length ≤ 64) && l.all valB
def listTx (l : List Int) : List UInt8 := if listOk l = true then listT l else []
theorem valB_I64 {n : Int} (h : valB n = true) : I64 n := by
  simp [valB] at h
  exact ⟨by omega, by omega⟩
theorem listOk_I64 {l : List Int} (h : listOk l = true) : ∀ x ∈ l, I64 x := fun x hx => by
  simp [listOk] at h
  exact valB_I64 (h.2 x hx)

def noteNames : List (List UInt8) := [[99], [99, 115], [100], [100, 115], [101], [102], [102, 115], [103], [103, 115], [97], [97, 115], [98]]
/-- The name of a note. -/
def noteT (n : Int) : List UInt8 := noteNames.getD (n.toNat % 12) [] ++ Lib.itoa (n / 12 - 1)
theorem note_row (k : Nat) (hk : k < 12) : (strRows noteNames)[k]? = some [.str (noteNames.getD k [])] := by
  have : k < noteNames.length := hk
  simp [strRows, List.getD, this]
end Go.Proofs.YtmdablalfmcgnaaDoor
