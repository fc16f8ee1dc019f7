/- Contracts: as many orders as possible, and the dearest ones, by the reference. No condition. -/
import Derived.Test.YteomgilojaibeaaMc
import Derived.Test.YteomgilojaibeaaMd
namespace Go.Proofs.Yteomgilojaibeaa
open Go Go.Ab
set_option maxRecDepth 100000

theorem worth_nil (pr : Bool) (l : List Order) : worthV pr l [] = 0 := by cases pr <;> simp [worthV, prcV, cntV]
theorem worthV_true (l : List Order) : worthV true l = prcV l := by funext c; simp [worthV]
theorem worthV_false (l : List Order) : worthV false l = cntV := by funext c; simp [worthV]

theorem c_visit0 {pr : Bool} {l : List Order} {start : Int} (hv : validOrders l = true) (h0 : 0 ≤ start) (h1 : start ≤ 10000) :
    MFn Try.prog 134 [.pb 0 0, .int .i64 0] [some (.box [.sl 5 (Order.rows l), .int .i64 start, .bool pr, .nils, .nils, .int .i64 0])] [0] (.tup [])
      [visBox pr l start (bestL (worthV pr l) l start), some (.arr 1 (intRows [])), some (.arr 1 (intRows (bestL (worthV pr l) l start)))] := by
  refine MFn.weakIn (c_visit (pr := pr) hv h0 h1 l.length [] [] 0 (by omega) (Frm.nil _) ⟨0, Frm.nil _⟩) rfl (by simp) ?_
  refine (weak_nilB 0 3 1 rfl rfl).trans ((weak_nilB 0 4 1 rfl rfl).trans (Wk.weak (ρ := [0, 1, 2]) (φ := []) ?_))
  simp [worth_nil, intRows]

theorem c_ask0 (l : List Order) (start : Int) (hl : l.length ≤ 1048576) : HFn Try.prog 133 [.sl 5 (Order.rows l), .nils, .int .i64 start] [] (.int .i64 (beginCode l start)) [] := by
  have h := (c_l29Ask l [] start hl (by simp)).leq (args := [.sl 5 (Order.rows l), .nils, .int .i64 start]) ⟨Leq.refl _, Leq.nils 1, Leq.refl _, trivial⟩
  rwa [seqCode_nil] at h

theorem c_run_no (pr : Bool) (l : List Order) (start : Int) (hl : l.length ≤ 1048576) (h : ¬ beginCode l start = 0) :
    MFn Try.prog 80 [.sl 5 (Order.rows l), .int .i64 start, .bool pr] [] [] (.tup [.raw (.pointer none), .int .i64 (beginCode l start)]) [] := by
  refine mfn_intro [] hm Try.func80 (by kernel_rfl) rfl (by kernel_rfl) rfl (fun _ _ h => h) trivial ?_
  simp
  refine CallZ.use0 (c_ask0 l start hl) rfl rfl ?_
  simp [h]
  exact Wk.weak (ρ := []) (φ := []) (by simp)
theorem c_run (pr : Bool) (l : List Order) (start : Int) (hl : l.length ≤ 1048576) (h : beginCode l start = 0) :
    MFn Try.prog 80 [.sl 5 (Order.rows l), .int .i64 start, .bool pr] [] [] (.tup [.pb 0 0, .int .i64 0])
      [visBox pr l start (bestL (worthV pr l) l start), some (.arr 1 (intRows [])), some (.arr 1 (intRows (bestL (worthV pr l) l start)))] := by
  obtain ⟨h1, h2, h3⟩ := begin_ok h
  refine mfn_intro [] hm Try.func80 (by kernel_rfl) rfl (by kernel_rfl) rfl (fun _ _ h => h) trivial ?_
  simp
  refine CallZ.use0 (c_ask0 l start hl) rfl rfl ?_
  simp [h]
  refine CallZ.useM [0] [] [] (c_visit0 (pr := pr) h1 h2 h3) (by simp) rfl rfl (by simp) rfl rfl rfl (.inl rfl) ?_
  simp
  refine Wk.weak (ρ := [0, 1, 2]) (φ := []) ?_
  simp

theorem c_spec_MostInTime (l : List Order) (start : Int) (hl : l.length ≤ 1048576) : HFn Try.prog 27 [.sl 5 (Order.rows l), .int .i64 start] [] (.tup [.sf 0 1, .int .i64 (beginCode l start)]) [some (.arr 1 (intRows (mostR l start)))] := by
  refine hfn_intro hm Try.func27 (by kernel_rfl) rfl (by kernel_rfl) rfl (fun _ _ h => h) ?_
  simp
  by_cases h : beginCode l start = 0
  · have hm0 : mostR l start = bestL (worthV false l) l start := by unfold mostR; rw [if_pos h, worthV_false]
    have hle := bestL_le (worthV false l) (l := l) start (valid_len (begin_ok h).1)
    rw [hm0, h]
    refine CallZ.useM [] [] [] (c_run false l start hl h) (by simp) rfl rfl (by simp) rfl rfl rfl (.inl rfl) ?_
    generalize bestL (worthV false l) l start = B at hle ⊢
    simp
    refine CallZ.use (c_l00Own (intRows B) (intRowsOne _) (by rw [intRows_len]; omega)) rfl (.inr ⟨flat_intRows _, trivial⟩) rfl rfl ?_
    simp
    refine Wk.weak (ρ := [3]) (φ := []) ?_
    simp
  · have hm0 : mostR l start = [] := by unfold mostR; rw [if_neg h]
    rw [hm0]
    refine CallZ.useM [] [] [] (c_run_no false l start hl h) (by simp) rfl rfl (by simp) rfl rfl rfl (.inl rfl) ?_
    simp [h]
    exact (weak_nilT (t := 0) 0 1 rfl rfl).trans (Wk.weak (ρ := [0]) (φ := []) (by simp [intRows]))
theorem c_spec_BestInTime (l : List Order) (start : Int) (hl : l.length ≤ 1048576) : HFn Try.prog 35 [.sl 5 (Order.rows l), .int .i64 start] [] (.tup [.sf 0 1, .int .i64 (dearP l start), .int .i64 (beginCode l start)]) [some (.arr 1 (intRows (dearR l start)))] := by
  refine hfn_intro hm Try.func35 (by kernel_rfl) rfl (by kernel_rfl) rfl (fun _ _ h => h) ?_
  simp
  by_cases h : beginCode l start = 0
  · have hm0 : dearR l start = bestL (worthV true l) l start := by unfold dearR; rw [if_pos h, worthV_true]
    have hm1 : dearP l start = worthV true l (bestL (worthV true l) l start) := by unfold dearP; rw [if_pos h, worthV_true]
    have hle := bestL_le (worthV true l) (l := l) start (valid_len (begin_ok h).1)
    rw [hm0, hm1, h]
    refine CallZ.useM [] [] [] (c_run true l start hl h) (by simp) rfl rfl (by simp) rfl rfl rfl (.inl rfl) ?_
    generalize bestL (worthV true l) l start = B at hle ⊢
    simp
    refine CallZ.use (c_l00Own (intRows B) (intRowsOne _) (by rw [intRows_len]; omega)) rfl (.inr ⟨flat_intRows _, trivial⟩) rfl rfl ?_
    simp
    refine Wk.weak (ρ := [3]) (φ := []) ?_
    simp
  · have hm0 : dearR l start = [] := by unfold dearR; rw [if_neg h]
    have hm1 : dearP l start = 0 := by unfold dearP; rw [if_neg h]
    rw [hm0, hm1]
    refine CallZ.useM [] [] [] (c_run_no true l start hl h) (by simp) rfl rfl (by simp) rfl rfl rfl (.inl rfl) ?_
    simp [h]
    exact (weak_nilT (t := 0) 0 1 rfl rfl).trans (Wk.weak (ρ := [0]) (φ := []) (by simp [intRows]))
end Go.Proofs.Yteomgilojaibeaa
