/- Contracts: the steps of a hammer, in own memory. -/
import Derived.Test.YtjmoilnklaeacaaGreatDoorDc
namespace Go.Proofs.YtjmoilnklaeacaaGreatDoor
open Go Go.Ab
set_option maxRecDepth 100000


def lineCode (d : Drum) (h : Int) : Int := if validDrum d = true then (if 0 ≤ h ∧ h ≤ (d.notes.length : Int) - 1 then 0 else 2) else 1
def lineL (d : Drum) (h : Int) : List Int := if lineCode d h = 0 then lineOf d.pins h else []
theorem lineL_le (d : Drum) (h : Int) : (lineL d h).length ≤ d.pins.length := by
  unfold lineL
  split
  · exact lineOf_len _ _
  · simp

theorem c_markDrum (n : List Int) (p : List Pin) (s r k : Int) (hk : 0 ≤ k) (ha : n.length + 2 * p.length + k ≤ 1000000000) : MFn Tryz.prog 11 [.agg [.int .i64 s, .int .i64 r, .sf 0 1, .sf 1 2], .int .i64 k] [some (.arr 1 (intRows n)), some (.arr 2 (Pin.rows p))] [0, 1]
    (.int .i64 (k + n.length + 2 * p.length)) [some (.arr 1 (intRows (marksI k n.length))), some (.arr 2 (Pin.rows (Pin.marks (k + n.length) p.length)))] := by
  refine mfn_intro [0, 1] hm Tryz.func11 (by kernel_rfl) rfl (by kernel_rfl) rfl (retM_ok (ρ := [0, 1]) (φ := [])) (by simp [intRows, marksI, Pin.rows, Pin.marks]) ?_
  simp
  refine CallZ.useK 0 (c_markInt64S n k hk (by omega)) rfl (by simp) rfl (by simp) rfl rfl ?_
  simp
  refine CallZ.useK 1 (c_markPinS p (k + n.length) (by omega) (by omega)) rfl (by simp) rfl (by simp) rfl rfl ?_
  simp

theorem c_heldDrum (a : Drum) (k : Int) (hk : 0 ≤ k) (ha : a.notes.length + 2 * a.pins.length + k ≤ 1000000000) (h1 : a.notes = marksI k a.notes.length) (h2 : a.pins = Pin.marks (k + a.notes.length) a.pins.length) :
    HFn Tryz.prog 12 [.agg a.cells, .int .i64 k] [] (.int .i64 (k + a.notes.length + 2 * a.pins.length)) [] := by
  refine hfn_intro hm Tryz.func12 (by kernel_rfl) rfl (by kernel_rfl) rfl ret0_ok ?_
  simp [Drum.cells]
  refine CallZ.use0 (c_heldInt64S a.notes k hk (by omega) h1) rfl rfl ?_
  simp
  refine ⟨fun h => absurd h (by omega), fun _ => ?_⟩
  refine CallZ.use0 (c_heldPinS a.pins (k + a.notes.length) (by omega) (by omega) h2) rfl rfl ?_
  simp
  omega

end Go.Proofs.YtjmoilnklaeacaaGreatDoor
