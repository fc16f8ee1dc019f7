/- Contracts: pins that are searched, drums that are copied. -/
import Derived.Test.YtaefhahgkijnfaaEd
import Derived.Test.YtaefhahgkijnfaaLPin
namespace Go.Proofs.Ytaefhahgkijnfaa
open Go Go.Ab
set_option maxRecDepth 100000

theorem c_BSearchPin (l : List Pin) (s : Pin) (c : Nat → Int) (p : Nat) (hl : l.length ≤ 1048576) (hp : Cut l.length c p) (hc : ∀ i (h : i < l.length), c i = cmpPin l[i] s) :
    HFn Try.prog 96 [.sl 2 (Pin.rows l), .agg s.cells, .fn 97 []] [] (.tup [.int .i64 p, .bool (decide (p < l.length) && decide (c p = 0))]) [] := by
  refine hfn_intro hm Try.func96 (by kernel_rfl) rfl (by kernel_rfl) rfl ret0_ok ?_
  simp [Pin.cells]
  refine loop_rule hm (ι := {x : Nat × Nat // x.1 ≤ p ∧ p ≤ x.2 ∧ x.2 ≤ l.length}) (fun x => ⟨[(0, .sl 2 (Pin.rows l)), (2, .fn 97 []), (4, .pb 0 0), (8, .int .i64 l.length), (9, .int .i64 x.1.1), (10, .int .i64 x.1.2)], [some (.box s.cells)]⟩) (fun x => x.1.2 - x.1.1) (by kernel_rfl) ⟨(0, l.length), by have := hp.le; omega⟩ ?_ ?_
  · refine Wk.weak (ρ := [0]) (φ := []) ?_
    simp [Pin.rows, Pin.cells]
  · rintro ⟨⟨i, j⟩, h1, h2, h3⟩
    simp only at h1 h2 h3 ⊢
    by_cases hij : i < j
    · obtain ⟨k, hk⟩ : ∃ k, k = (i + j) / 2 := ⟨_, rfl⟩
      have hmid := mid_eq i j (by omega)
      rw [← hk] at hmid
      have hm1 : k < l.length := by omega
      have hw1 : IntKind.i64.wrap ((k : Int) + 1) = ((k + 1 : Nat) : Int) := by rw [w64 (by omega) (by omega)]; omega
      simp [hmid, hij, Pin.rows, Pin.cells, hm1]
      refine CallZ.use0 (c_comparePins l[k] s) rfl rfl ?_
      have c1 := hp.lo k
      have c2 := hp.hi k
      rw [hc k hm1] at c1 c2
      simp
      refine ⟨fun h => ?_, fun h => ?_⟩
      · refine ⟨k + 1, j, Wk.weak (ρ := [0]) (φ := []) ?_, by omega, by omega⟩
        simp [hw1]
      · refine ⟨i, k, Wk.weak (ρ := [0]) (φ := []) ?_, by omega, by omega⟩
        simp
    · obtain rfl : i = p := by omega
      obtain rfl : i = j := by omega
      simp
      by_cases hip : i < l.length
      · simp [Pin.rows, Pin.cells, hip]
        refine CallY.use (res := .int .i64 (cmpPin l[i] s)) (fun _ => ⟨rfl, c_comparePins l[i] s⟩) rfl rfl ?_
        simp [hc i hip]
      · simp [Pin.rows, Pin.cells, hip]
        refine CallY.use (res := .int .i64 0) (fun h => absurd h (by simp)) rfl rfl ?_
        simp

theorem Pin.rowsOne (l : List Pin) : rowsOne (Pin.rows l) := fun r hr => by
  obtain ⟨x, _, rfl⟩ := List.mem_map.1 hr
  simp [Pin.cells]
theorem intRowsOne (l : List Int) : rowsOne (intRows l) := fun r hr => by
  obtain ⟨x, _, rfl⟩ := List.mem_map.1 hr
  simp

theorem c_CloneInt64 (rows : List (List PV)) (hone : Go.Ab.rowsOne rows) (hl : rows.length ≤ 1048576) : HFn Try.prog 126 [.sl 1 rows] [] (.sf 0 1) [some (.arr 1 rows)] := by
  refine hfn_intro hm Try.func126 (by kernel_rfl) rfl (by kernel_rfl) rfl (fun _ _ h => h) ?_
  simp
  refine ⟨fun h => ?_, hone, by omega, by omega, Wk.weak (ρ := [0]) (φ := []) (by simp)⟩
  rw [h]
  exact (weak_nil (t := 0) (z := 1) rfl).trans (Wk.weak (ρ := [0]) (φ := []) (by simp))

theorem c_copyDrum (d : Drum) (hn : d.notes.length ≤ 1048576) (hp : d.pins.length ≤ 1048576) :
    HFn Try.prog 99 [.agg d.cells] [] (.agg [.int .i64 d.steps, .int .i64 d.rest, .sf 0 1, .sf 1 2]) [some (.arr 1 (intRows d.notes)), some (.arr 2 (Pin.rows d.pins))] := by
  refine hfn_intro hm Try.func99 (by kernel_rfl) rfl (by kernel_rfl) rfl (retN_ok (ρ := [2, 3]) (φ := [])) ?_
  simp [Drum.cells]
  refine CallZ.use (c_CloneInt64 (intRows d.notes) (intRowsOne _) (by rw [intRows_len]; exact hn)) rfl (.inr ⟨flat_intRows _, trivial⟩) rfl rfl ?_
  simp
  refine CallZ.use (c_ClonePin (Pin.rows d.pins) (Pin.rowsOne _) (by rw [Pin.rows_len]; exact hp)) rfl (.inr ⟨Pin.flat _, trivial⟩) rfl rfl ?_
  simp
end Go.Proofs.Ytaefhahgkijnfaa
