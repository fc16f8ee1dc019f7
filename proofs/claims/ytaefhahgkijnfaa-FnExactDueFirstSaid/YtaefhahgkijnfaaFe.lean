/- Contracts: a pin is removed. -/
import Derived.Test.YtaefhahgkijnfaaFd
namespace Go.Proofs.Ytaefhahgkijnfaa
open Go Go.Ab
set_option maxRecDepth 100000

theorem c_l00Own (rows : List (List PV)) (hone : Go.Ab.rowsOne rows) (hl : rows.length ≤ 1048576) : HFn Try.prog 108 [.sl 1 rows] [] (.sf 0 1) [some (.arr 1 rows)] := by
  refine hfn_intro hm Try.func108 (by kernel_rfl) rfl (by kernel_rfl) rfl (retN_ok (ρ := [0]) (φ := [])) ?_
  simp
  exact ⟨hone, by omega, by omega⟩

theorem c_l28Own (d : Drum) (hn : d.notes.length ≤ 1048576) (hp : d.pins.length ≤ 1048576) :
    HFn Try.prog 90 [d.ptr] [] (.agg [.int .i64 d.steps, .int .i64 d.rest, .sf 0 1, .sf 1 2]) [some (.arr 1 (intRows d.notes)), some (.arr 2 (Pin.rows d.pins))] := by
  refine hfn_intro hm Try.func90 (by kernel_rfl) rfl (by kernel_rfl) rfl (retN_ok (ρ := [1, 2]) (φ := [])) ?_
  simp [Drum.cells]
  refine CallZ.use (c_l00Own (intRows d.notes) (intRowsOne _) (by rw [intRows_len]; exact hn)) rfl (.inr ⟨flat_intRows _, trivial⟩) rfl rfl ?_
  have := Pin.rowsOne d.pins
  have hl := Pin.rows_len d.pins
  simp [Drum.cells]
  exact ⟨this, by omega, by omega⟩

/-- A pin's index, or -1. -/
def findP (l : List Pin) (p : Pin) : Int := findI (fun q => decide (q = p)) l
theorem findP_eq (l : List Pin) (p : Pin) : findP l p = findG l fun x => cmpPin x p := by
  unfold findP findG
  congr 1
  funext q
  exact Bool.eq_iff_iff.2 (by simp [cmpPin_zero])

theorem c_l28Find (d : Drum) (p : Pin) (hl : d.pins.length ≤ 1048576) : HFn Try.prog 89 [d.ptr, .agg p.cells] [] (.int .i64 (findP d.pins p)) [] := by
  refine hfn_intro hm Try.func89 (by kernel_rfl) rfl (by kernel_rfl) rfl ret0_ok ?_
  simp [Pin.cells]
  refine loop_upto hm d.pins.length (fun i => ⟨[(0, d.ptr), (3, .pb 0 0), (5, .int .i64 i)], [some (.box p.cells)]⟩) (fun i => ∀ j (hj : j < d.pins.length), j < i → decide (d.pins[j] = p) = false) (by kernel_rfl) ?_ (fun j _ h => by omega) (fun i hi hI => ?_) (fun hI => ?_)
  · refine Wk.weak (ρ := [0]) (φ := []) ?_
    simp [Drum.cells, Pin.cells]
  · have hpe := Pin.eq_iff (a := d.pins[i]) (b := p)
    simp [Drum.cells, Pin.rows, Pin.cells, hi]
    refine ⟨fun h h' => ?_, fun h => ⟨fun j hj hji => ?_, ?_⟩⟩
    · exact (findI_at (p := fun q => decide (q = p)) hi (by simpa [hpe] using ⟨h, h'⟩) fun j hj hji => hI j hj hji).symm
    · by_cases e : j = i
      · subst e
        rw [hpe]
        grind
      · simpa using hI j hj (by omega)
    · refine Wk.weak (ρ := [0]) (φ := []) ?_
      simp [Drum.cells, Pin.rows]
      exact w64 (by omega) (by omega)
  · simp [Drum.cells, Pin.rows, findP]
    exact (findI_none fun j hj => hI j hj hj).symm
end Go.Proofs.Ytaefhahgkijnfaa
