/- Contracts: valid rows, rows after changes, the program's side. No condition. -/
import Derived.Test.YtndbhcnedfbcoaaDoorZh
import Derived.Test.YtndbhcnedfbcoaaDoorVa
namespace Go.Proofs.YtndbhcnedfbcoaaDoor
open Go Go.Ab
set_option maxRecDepth 100000

theorem rounds_sorted (n : Nat) : (roundsL n).Pairwise fun x y => x ≤ y := by
  unfold roundsL
  rw [List.pairwise_map]
  exact List.pairwise_lt_range.imp fun h => by omega
theorem sort_rounds {r : List Int} (h : r.Perm (roundsL r.length)) : sortN r = roundsL r.length := by
  have h1 : (sortN r).Perm (roundsL r.length) := (List.mergeSort_perm _ _).trans h
  have h2 : (sortN r).Pairwise fun x y => x ≤ y := by
    have := List.pairwise_mergeSort (le := fun x y : Int => decide (x ≤ y)) (fun a b c g1 g2 => by simp at *; omega) (fun a b => by simp; omega) r
    exact this.imp fun g => by simpa using g
  exact h1.eq_of_pairwise (fun a b _ _ g1 g2 => by omega) h2 (rounds_sorted _)
theorem c_impl_ValidRow (r : List Int) (h : rowP r) : HFn Tryd.prog 18 [.sl 1 (intRows r)] [] (.bool true) [] := by
  obtain ⟨h1, h2, h3⟩ := h
  refine hfn_intro hm Tryd.func18 (by kernel_rfl) rfl (by kernel_rfl) rfl ret0_ok ?_
  simp
  refine CallZ.use (c_CloneInt64 (intRows r) (intRowsOne r) (by rw [intRows_len]; omega)) rfl (.inl rfl) rfl rfl ?_
  simp
  refine CallZ.useM [0] [] [] (c_SortInt r (by omega)) (by simp) rfl rfl (by simp) rfl rfl rfl (.inl rfl) ?_
  rw [sort_rounds h3]
  simp
  refine CallZ.use0 (c_sizeInt r) rfl rfl ?_
  simp
  refine CallZ.use0 (c_isStage r.length) rfl rfl ?_
  have e1 : (3 : Int) ≤ r.length := by omega
  have e2 : (r.length : Int) ≤ 12 := by omega
  simp [e1, e2]
  refine CallY.use (fun _ => ⟨rfl, c_sizeInt r⟩) rfl rfl ?_
  simp
  refine CallY.use (fun _ => ⟨rfl, c_roundsF r.length (by omega)⟩) rfl rfl ?_
  simp
  refine CallY.use (fun _ => ⟨rfl, c_EqualInt (roundsL r.length) (roundsL r.length) (by rw [roundsL_len]; omega)⟩) rfl rfl ?_
  simp
theorem appL_row {r ps : List Int} (h : rowP r) : rowP (appL ps 0 r) := by
  obtain ⟨h1, h2, h3⟩ := h
  have hl := appL_len ps _ 0 r (Nat.le_refl _)
  refine ⟨by omega, by omega, ?_⟩
  rw [hl]
  exact (appL_perm ps _ 0 r (Nat.le_refl _)).trans h3
theorem c_impl_ApplyChange (r : List Int) (s : List UInt8) (h : rowP r) (hs : s.length ≤ 1048576) (hv : stayB s r.length = true) : HFn Tryd.prog 7 [.sl 1 (intRows r), .str s] [] (.tup [.sf 0 1, .int .i64 0]) [some (.arr 1 (intRows (appL (stayL s r.length) 0 r)))] := by
  have hr := h
  obtain ⟨h1, h2, h3⟩ := h
  refine hfn_intro hm Tryd.func7 (by kernel_rfl) rfl (by kernel_rfl) rfl (fun _ _ h => h) ?_
  simp
  refine CallZ.use0 (c_impl_ValidRow r hr) rfl rfl ?_
  simp
  refine CallZ.use0 (c_sizeInt r) rfl rfl ?_
  simp
  have hc : chgOk s r.length = true := by simp [chgOk, hv]; omega
  have kV := c_impl_ValidChange s r.length h2 hs
  rw [hc] at kV
  refine CallZ.use0 kV rfl rfl ?_
  simp
  refine CallZ.use (c_applyChange r s h2 hs hv) rfl (.inl rfl) rfl rfl ?_
  simp
  exact Wk.weak (ρ := [0]) (φ := []) (by simp)
theorem row_at {r : List Int} (h : rowP r) {i : Nat} (hi : i < r.length) : 1 ≤ r[i] ∧ r[i] ≤ r.length ∧ r[i] ∉ r.take i := by
  obtain ⟨_, _, h3⟩ := h
  have hm : r[i] ∈ roundsL r.length := h3.mem_iff.1 (List.getElem_mem hi)
  simp only [roundsL, List.mem_map, List.mem_range] at hm
  obtain ⟨k, hk, he⟩ := hm
  have hn : r.Nodup := by
    refine h3.nodup_iff.2 ?_
    unfold roundsL
    rw [List.nodup_iff_pairwise_ne, List.pairwise_map]
    exact List.pairwise_lt_range.imp fun h => by omega
  refine ⟨by omega, by omega, fun hc => ?_⟩
  obtain ⟨j, hj, hje⟩ := List.getElem_of_mem hc
  rw [List.getElem_take] at hje
  have hji : j < i := by simp at hj; omega
  exact (List.pairwise_iff_getElem.1 (List.nodup_iff_pairwise_ne.1 hn) j i (by omega) hi hji) hje
theorem c_l27Row (r : List Int) (h : rowP r) : HFn Tryd.prog 23 [.sl 1 (intRows r)] [] (.bool true) [] := by
  have hr := h
  obtain ⟨h1, h2, h3⟩ := h
  refine hfn_intro hm Tryd.func23 (by kernel_rfl) rfl (by kernel_rfl) rfl ret0_ok ?_
  simp
  refine loop_upto hm r.length (fun i => ⟨[(0, .sl 1 (intRows r)), (3, .int .i64 r.length), (4, .int .i64 i)], []⟩) (fun _ => True) (by kernel_rfl) ?_ trivial (fun i hi _ => ?_) (fun _ => ?_)
  · exact Wk.weak (ρ := []) (φ := []) (by simp [intRows_len])
  · have w1 : IntKind.i64.wrap ((i : Int) + 1) = (i : Int) + 1 := w64 (by omega) (by omega)
    obtain ⟨g1, g2, g3⟩ := row_at hr hi
    have kI := c_l00In r[i] 1 r.length
    rw [show (decide (1 ≤ r[i]) && decide (r[i] ≤ (r.length : Int))) = true by simp [g1, g2]] at kI
    have kH := c_l00Has (r.take i) r[i] (by simp; omega)
    rw [show ((r.take i).any fun x => decide (r[i] = x)) = false from List.any_eq_false.2 fun x hx => by simp; intro e; exact g3 (e ▸ hx)] at kH
    rw [show intRows (r.take i) = (intRows r).take i by simp [intRows]] at kH
    simp [hi, intRows_len, ir_get]
    refine CallZ.use0 kI rfl rfl ?_
    simp [intRows_len, hi, ir_get]
    refine ⟨by omega, CallY.use (fun _ => ⟨rfl, kH⟩) rfl rfl ?_⟩
    simp [w1]
    exact Wk.weak (ρ := []) (φ := []) (by simp)
  · have e1 : (3 : Int) ≤ r.length := by omega
    have e2 : (r.length : Int) ≤ 12 := by omega
    simp [intRows_len]
    refine CallZ.use0 (c_l27Stage r.length) rfl rfl ?_
    simp [e1, e2]
theorem c_spec_ValidRow (r : List Int) (h : rowP r) : HFn Tryd.prog 10 [.sl 1 (intRows r)] [] (.bool true) [] := by
  refine hfn_intro hm Tryd.func10 (by kernel_rfl) rfl (by kernel_rfl) rfl ret0_ok ?_
  simp
  refine CallZ.use0 (c_l27Row r h) rfl rfl ?_
  simp
end Go.Proofs.YtndbhcnedfbcoaaDoor
