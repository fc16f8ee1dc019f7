/- Contracts: a row after a change, the program's side. No condition. -/
import Derived.Test.YtndbhcnedfbcoaaDoorZg
import Derived.Test.YtndbhcnedfbcoaaDoorKd
namespace Go.Proofs.YtndbhcnedfbcoaaDoor
open Go Go.Ab
set_option maxRecDepth 100000

theorem ir_get (l : List Int) {i : Nat} (h : i < (intRows l).length) : (intRows l)[i] = [PV.int .i64 (l[i]'(by rw [intRows_len] at h; exact h))] := by simp [intRows]
set_option maxHeartbeats 1000000 in
theorem c_applyChange (row : List Int) (s : List UInt8) (hr : row.length ≤ 12) (hs : s.length ≤ 1048576) (hv : stayB s row.length = true) : HFn Tryd.prog 20 [.sl 1 (intRows row), .str s] [] (.sf 0 1) [some (.arr 1 (intRows (appL (stayL s row.length) 0 row)))] := by
  refine hfn_intro hm Tryd.func20 (by kernel_rfl) rfl (by kernel_rfl) rfl (fun _ _ h => h) ?_
  simp
  refine CallZ.use0 (c_sizeInt row) rfl rfl ?_
  simp
  refine CallZ.use (c_staying s row.length hr hs) rfl (.inl rfl) rfl rfl ?_
  simp
  refine CallZ.use (c_CloneInt64 (intRows row) (intRowsOne row) (by rw [intRows_len]; omega)) rfl (.inl rfl) rfl rfl ?_
  simp
  have hsafe := safe_chg hv
  have hpl : (stayL s row.length).length ≤ 1048576 := by unfold stayL; split <;> (try split) <;> (try split) <;> simp <;> omega
  generalize stayL s row.length = ps at *
  refine loop_rule hm (ι := {x : Nat × List Int // Mid ps row x}) (fun x => ⟨[(5, .sf 0 1), (7, .sf 1 1), (8, .int .i64 x.1.1)], [some (.arr 1 (intRows ps)), some (.arr 1 (intRows x.1.2))]⟩) (fun x => row.length - x.1.1) (by kernel_rfl) ⟨(0, row), rfl, Nat.zero_le _, by simp, hsafe⟩ ?_ ?_
  · refine Wk.weak (ρ := [0, 1]) (φ := []) ?_
    simp
  · rintro ⟨⟨i, out⟩, h1, h2, h3, h4⟩
    simp only at h1 h2 h3 h4 ⊢
    have w1 : IntKind.i64.wrap ((i : Int) + 1) = (i : Int) + 1 := w64 (by omega) (by omega)
    have w2 : IntKind.i64.wrap ((i : Int) + 1 + 1) = (i : Int) + 2 := by rw [w64 (by omega) (by omega)]; omega
    have hM : Mid ps row (i, out) := ⟨h1, h2, h3, h4⟩
    by_cases hi : i < row.length
    rotate_left
    · simp [intRows_len, h1, hi]
      rw [mid_end hM (by omega)]
      exact Wk.weak (ρ := [1]) (φ := []) (by simp)
    simp [intRows_len, h1, hi, w1]
    by_cases hm1 : ((i : Int) + 1) ∈ ps
    · have ha : (ps.any fun x => decide ((i : Int) + 1 = x)) = true := List.any_eq_true.2 ⟨_, hm1, by simp⟩
      have kC := c_ContainsInt ps ((i : Int) + 1) (by omega)
      rw [ha] at kC
      refine CallZ.use0 kC rfl rfl ?_
      simp [w1]
      exact ⟨i + 1, out, Wk.weak (ρ := [0, 1]) (φ := []) (by simp), mid_stay hM hi hm1, by omega⟩
    · have ha : (ps.any fun x => decide ((i : Int) + 1 = x)) = false := List.any_eq_false.2 fun x hx => by simp; intro e; exact hm1 (e ▸ hx)
      have kC := c_ContainsInt ps ((i : Int) + 1) (by omega)
      rw [ha] at kC
      obtain ⟨g2, gM⟩ := mid_swap hM hi hm1
      refine CallZ.use0 kC rfl rfl ?_
      simp [w1, w2, intRows_len, ir_get, g2, show i < out.length by omega]
      have e : ((intRows out).set i [PV.int .i64 out[i + 1]]).set (i + 1) [PV.int .i64 out[i]] = intRows ((out.set i out[i + 1]).set (i + 1) out[i]) := by simp [intRows, List.map_set]
      rw [e]
      exact ⟨⟨by omega, by omega⟩, i + 2, _, Wk.weak (ρ := [0, 1]) (φ := []) (by simp), gM, by omega⟩

theorem c_roundsF (n : Nat) (hn : n ≤ 1000) : HFn Tryd.prog 24 [.int .i64 n] [] (.sl 1 (intRows (roundsL n))) [] :=
  (c_rounds n hn).less (Wk.weak (ρ := []) (φ := [0]) (by simp))
theorem c_applyChangeF (row : List Int) (s : List UInt8) (hr : row.length ≤ 12) (hs : s.length ≤ 1048576) (hv : stayB s row.length = true) : HFn Tryd.prog 20 [.sl 1 (intRows row), .str s] [] (.sl 1 (intRows (appL (stayL s row.length) 0 row))) [] :=
  (c_applyChange row s hr hs hv).less (Wk.weak (ρ := []) (φ := [0]) (by simp))

/-- The rows of a method of one change. -/
theorem c_MethodRows1 (s : List UInt8) (n : Nat) (hn : n ≤ 12) (hs : s.length ≤ 1048576) (hv : stayB s n = true) (kS : HFn Tryd.prog 12 [.str s, .int .i64 n] [] (.tup [.sf 0 1, .int .i64 0]) [some (.arr 1 (strRows [s]))]) :
    HFn Tryd.prog 11 [.str s, .int .i64 n] [] (.tup [.sf 0 1, .int .i64 0]) [some (.arr 1 [[.sl 1 (intRows (roundsL n))], [.sl 1 (intRows (appL (stayL s n) 0 (roundsL n)))]])] := by
  refine hfn_intro hm Tryd.func11 (by kernel_rfl) rfl (by kernel_rfl) rfl (fun _ _ h => h) ?_
  simp
  refine CallZ.use kS rfl (.inl rfl) rfl rfl ?_
  simp
  refine CallZ.use0 (c_roundsF n (by omega)) rfl rfl ?_
  simp
  have hL : (roundsL n).length = n := roundsL_len n
  have kA := c_applyChangeF (roundsL n) s (by omega) hs (by rw [hL]; exact hv)
  rw [hL] at kA
  refine loop_upto hm 1 (fun i => ⟨[(8, .sf 1 1), (23, .sf 0 1), (24, .int .i64 1), (25, .int .i64 i)], [some (.arr 1 (strRows [s])), some (.arr 1 (if i = 0 then [[.sl 1 (intRows (roundsL n))]] else [[.sl 1 (intRows (roundsL n))], [.sl 1 (intRows (appL (stayL s n) 0 (roundsL n)))]]))]⟩) (fun _ => True) (by kernel_rfl) ?_ trivial (fun i hi _ => ?_) (fun _ => ?_)
  · exact Wk.weak (ρ := [0, 1]) (φ := []) (by simp [strRows])
  · obtain rfl : i = 0 := by omega
    simp [strRows]
    refine CallZ.use0 kA rfl rfl ?_
    simp
    refine ⟨by simp [rowsOne], Wk.weak (ρ := [0, 1]) (φ := []) ?_⟩
    have w1 : IntKind.i64.wrap 1 = 1 := rfl
    simp [w1]
  · simp
    exact Wk.weak (ρ := [1]) (φ := []) (by simp)

theorem c_impl_RoundsOf (n : Nat) (h : 3 ≤ n ∧ n ≤ 12) : HFn Tryd.prog 13 [.int .i64 n] [] (.tup [.sl 1 (intRows (roundsL n)), .int .i64 0]) [] := by
  refine hfn_intro hm Tryd.func13 (by kernel_rfl) rfl (by kernel_rfl) rfl ret0_ok ?_
  simp
  refine CallZ.use0 (c_isStage n) rfl rfl ?_
  have h1 : (3 : Int) ≤ n := by omega
  have h2 : (n : Int) ≤ 12 := by omega
  simp [h1, h2]
  refine CallZ.use0 (c_roundsF n (by omega)) rfl rfl ?_
  simp
/-- A row of n bells. -/
def rowP (r : List Int) : Prop := 3 ≤ r.length ∧ r.length ≤ 12 ∧ r.Perm (roundsL r.length)
theorem c_r8Same (a : List Int) (h : a.length ≤ 1048576) : HFn Tryd.prog 9 [.sl 1 (intRows a), .sl 1 (intRows a)] [] (.bool true) [] := by
  refine hfn_intro hm Tryd.func9 (by kernel_rfl) rfl (by kernel_rfl) rfl ret0_ok ?_
  simp
  refine loop_upto hm a.length (fun i => ⟨[(0, .sl 1 (intRows a)), (1, .sl 1 (intRows a)), (5, .int .i64 i)], []⟩) (fun _ => True) (by kernel_rfl) ?_ trivial (fun i hi _ => ?_) (fun _ => ?_)
  · exact Wk.weak (ρ := []) (φ := []) (by simp)
  · have w1 : IntKind.i64.wrap ((i : Int) + 1) = (i : Int) + 1 := w64 (by omega) (by omega)
    simp [hi, intRows_len, ir_get]
    exact Wk.weak (ρ := []) (φ := []) (by simp [w1])
  · simp [intRows_len]
theorem c_l27Stage (n : Int) : HFn Tryd.prog 32 [.int .i64 n] [] (.bool (decide (3 ≤ n) && decide (n ≤ 12))) [] := by
  refine hfn_intro hm Tryd.func32 (by kernel_rfl) rfl (by kernel_rfl) rfl ret0_ok ?_
  simp
  refine CallZ.use0 (c_l00In n 3 12) rfl rfl ?_
  simp
end Go.Proofs.YtndbhcnedfbcoaaDoor
