/- Contracts: as many orders as possible, and the dearest ones, by the program. No condition. -/
import Derived.Test.YteomgilojaibeaaMb
import Derived.Test.YteomgilojaibeaaAcn
namespace Go.Proofs.Yteomgilojaibeaa
open Go Go.Ab
set_option maxRecDepth 100000

def bestL (V : List Int → Int) (l : List Order) (start : Int) : List Int := (srT V (fitsT l start) l.length l.length [] 0 []).2
theorem bestL_frm (V : List Int → Int) (l : List Order) (start : Int) : ∃ j, Frm l.length (bestL V l start) j :=
  srT_mem (Q := fun c => ∃ j, Frm l.length c j) _ _ _ _ (Frm.nil _) (fun _c k h => ⟨k, h⟩) ⟨0, Frm.nil _⟩
theorem bestL_le (V : List Int → Int) {l : List Order} (start : Int) (hl : l.length ≤ 12) : (bestL V l start).length ≤ 12 := by
  obtain ⟨j, h1, h2, _⟩ := bestL_frm V l start
  omega

theorem c_search0 {fv : Nat} {cv : List PV} {V : List Int → Int} {l : List Order} {start : Int} (hcv : CapOk cv) (hv : validOrders l = true) (h0 : 0 ≤ start) (h1 : start ≤ 10000)
    (hV : ∀ c k, Frm l.length c k → HFn Try.prog fv (.sl 1 (intRows c) :: cv) [] (.int .i64 (V c)) []) :
    MFn Try.prog 136 [.nils, .pb 0 0, .pb 1 0, .pb 2 0, .pb 3 0, .pb 4 0]
      [some (.box [.fn fv cv]), some (.box [.nils]), some (.box [.sl 5 (Order.rows l)]), some (.box [.int .i64 start]), some (.box [.fn 136 [.pb 0 0, .pb 1 0, .pb 2 0, .pb 3 0, .pb 4 0]])]
      [0, 1, 2, 3, 4] (.tup []) (seaH fv cv l start (srT V (fitsT l start) l.length l.length [] 0 []).1 [] [] (bestL V l start)) := by
  refine MFn.weakIn ((c_search hcv hv h0 h1 hV l.length [] [] 0 (by omega) (Frm.nil _) ⟨0, Frm.nil _⟩).keep (kp' := [0, 1, 2, 3, 4]) (by simp)) rfl (by simp) ?_
  refine (weak_nilB 1 0 1 rfl rfl).trans ((weak_nil (t := 0) (z := 1) rfl).trans (Wk.weak (ρ := [0, 1, 2, 3, 4, 5, 6]) (φ := []) ?_))
  simp [hcv.wk, intRows]

set_option maxHeartbeats 8000000 in
theorem c_bestChoice {fv : Nat} {cv : List PV} {V : List Int → Int} {l : List Order} {start : Int} (hcv : CapOk cv) (hv : validOrders l = true) (h0 : 0 ≤ start) (h1 : start ≤ 10000)
    (hV : ∀ c k, Frm l.length c k → HFn Try.prog fv (.sl 1 (intRows c) :: cv) [] (.int .i64 (V c)) []) :
    HFn Try.prog 84 [.sl 5 (Order.rows l), .int .i64 start, .fn fv cv] [] (.sf 0 1) [some (.arr 1 (intRows (bestL V l start)))] := by
  refine hfn_intro hm Try.func84 (by kernel_rfl) rfl (by kernel_rfl) rfl (fun _ _ h => h) ?_
  have hs := c_search0 hcv hv h0 h1 hV
  have htag := srT_tag V (fitsT l start) l.length l.length [] 0 []
  have hsrc := srT_src (V := V) (ok := fitsT l start) (n := l.length) l.length [] 0 []
  have hdef : bestL V l start = (srT V (fitsT l start) l.length l.length [] 0 []).2 := rfl
  rw [hdef] at hs ⊢
  generalize srT V (fitsT l start) l.length l.length [] 0 [] = T at hs htag hsrc ⊢
  obtain ⟨tg, res⟩ := T
  simp only at hs htag hsrc ⊢
  have htc : tg = 0 ∨ tg = 1 ∨ tg = 2 := by omega
  simp
  refine ⟨rfl, ?_⟩
  rcases htc with rfl | rfl | rfl
  · have hr := hsrc.1 rfl
    subst hr
    refine CallZ.useM [2, 3, 0, 1, 4] [] [] hs (by simp [hcv.wk]) rfl rfl (by simp) rfl rfl (by simp [hcv.cp]) (.inl rfl) ?_
    simp [hcv.rn]
    refine Wk.weak (ρ := [5]) (φ := []) ?_
    simp
  · have hr := hsrc.2 rfl
    subst hr
    refine CallZ.useM [2, 3, 0, 1, 4] [] [] hs (by simp [hcv.wk]) rfl rfl (by simp) rfl rfl (by simp [hcv.cp]) (.inl rfl) ?_
    simp [hcv.rn]
    refine Wk.weak (ρ := [6]) (φ := []) ?_
    simp
  · refine CallZ.useM [2, 3, 0, 1, 4] [] [] hs (by simp [hcv.wk]) rfl rfl (by simp) rfl rfl (by simp [hcv.cp]) (.inl rfl) ?_
    simp [hcv.rn]
    refine Wk.weak (ρ := [7]) (φ := []) ?_
    simp

theorem capOk_nil : CapOk [] := ⟨rfl, fun _ => rfl, rfl, fun _ => rfl, rfl, fun _ => rfl, fun _ => rfl, fun _ _ => trivial⟩
theorem capOk_pe (z : Nat) (rows : List (List PV)) : CapOk [.pe z rows 0 0] := ⟨rfl, fun _ => rfl, rfl, fun _ => rfl, rfl, fun _ => rfl, fun _ => rfl, fun _ _ => by simp⟩

def beginCode (l : List Order) (start : Int) : Int := if validOrders l = true then (if 0 ≤ start ∧ start ≤ 10000 then 0 else 2) else 1
theorem seqCode_nil (l : List Order) (start : Int) : seqCode l [] start = beginCode l start := by
  unfold seqCode beginCode
  simp [seqOk]
theorem begin_ok {l : List Order} {start : Int} (h : beginCode l start = 0) : validOrders l = true ∧ 0 ≤ start ∧ start ≤ 10000 := by
  unfold beginCode at h
  split at h
  · split at h
    · rename_i h1 h2
      exact ⟨h1, h2⟩
    · cases h
  · cases h
theorem c_started (l : List Order) (start : Int) (hl : l.length ≤ 1048576) : HFn Try.prog 83 [.sl 5 (Order.rows l), .int .i64 start] [] (.int .i64 (beginCode l start)) [] := by
  refine hfn_intro hm Try.func83 (by kernel_rfl) rfl (by kernel_rfl) rfl ret0_ok ?_
  simp
  have h := (c_sequenced l [] start hl (by simp)).leq (args := [.sl 5 (Order.rows l), .nils, .int .i64 start]) ⟨Leq.refl _, Leq.nils 1, Leq.refl _, trivial⟩
  rw [seqCode_nil] at h
  refine CallZ.use0 h rfl rfl ?_
  simp

def mostR (l : List Order) (start : Int) : List Int := if beginCode l start = 0 then bestL cntV l start else []
def dearR (l : List Order) (start : Int) : List Int := if beginCode l start = 0 then bestL (prcV l) l start else []
def dearP (l : List Order) (start : Int) : Int := if beginCode l start = 0 then prcV l (bestL (prcV l) l start) else 0
theorem mostR_le (l : List Order) (start : Int) : (mostR l start).length ≤ 12 := by
  unfold mostR
  split
  · rename_i h
    exact bestL_le _ _ (valid_len (begin_ok h).1)
  · simp
theorem dearR_le (l : List Order) (start : Int) : (dearR l start).length ≤ 12 := by
  unfold dearR
  split
  · rename_i h
    exact bestL_le _ _ (valid_len (begin_ok h).1)
  · simp

theorem c_impl_MostInTime (l : List Order) (start : Int) (hl : l.length ≤ 1048576) : HFn Try.prog 29 [.sl 5 (Order.rows l), .int .i64 start] [] (.tup [.sf 0 1, .int .i64 (beginCode l start)]) [some (.arr 1 (intRows (mostR l start)))] := by
  refine hfn_intro hm Try.func29 (by kernel_rfl) rfl (by kernel_rfl) rfl (fun _ _ h => h) ?_
  simp
  refine CallZ.use0 (c_started l start hl) rfl rfl ?_
  simp
  refine ⟨fun h => ?_, fun h => ?_⟩
  · have hm0 : mostR l start = [] := by unfold mostR; rw [if_neg h]
    rw [hm0]
    exact (weak_nilT (t := 0) 0 1 rfl rfl).trans (Wk.weak (ρ := [0]) (φ := []) (by simp [intRows]))
  · obtain ⟨h1, h2, h3⟩ := begin_ok h
    have hm0 : mostR l start = bestL cntV l start := by unfold mostR; rw [if_pos h]
    rw [hm0]
    refine CallZ.use (c_bestChoice capOk_nil h1 h2 h3 fun c k hc => c_sizeV c) rfl (.inr ⟨flat_intRows _, trivial⟩) rfl rfl ?_
    simp [h]
    exact Wk.weak (ρ := [0]) (φ := []) (by simp)
theorem c_impl_BestInTime (l : List Order) (start : Int) (hl : l.length ≤ 1048576) : HFn Try.prog 36 [.sl 5 (Order.rows l), .int .i64 start] [] (.tup [.sf 0 1, .int .i64 (dearP l start), .int .i64 (beginCode l start)]) [some (.arr 1 (intRows (dearR l start)))] := by
  refine hfn_intro hm Try.func36 (by kernel_rfl) rfl (by kernel_rfl) rfl (fun _ _ h => h) ?_
  simp
  refine CallZ.use0 (c_started l start hl) rfl rfl ?_
  simp
  refine ⟨fun h => ?_, fun h => ?_⟩
  · have hm0 : dearR l start = [] := by unfold dearR; rw [if_neg h]
    have hm1 : dearP l start = 0 := by unfold dearP; rw [if_neg h]
    rw [hm0, hm1]
    exact (weak_nilT (t := 0) 0 1 rfl rfl).trans (Wk.weak (ρ := [1]) (φ := []) (by simp [intRows]))
  · obtain ⟨h1, h2, h3⟩ := begin_ok h
    have hm0 : dearR l start = bestL (prcV l) l start := by unfold dearR; rw [if_pos h]
    have hm1 : dearP l start = prcV l (bestL (prcV l) l start) := by unfold dearP; rw [if_pos h]
    rw [hm0, hm1]
    have hll := valid_len h1
    refine CallZ.use (c_bestChoice (capOk_pe 1 [[.sl 5 (Order.rows l)]]) h1 h2 h3 fun c k hc => c_prcV h1 (inL_of hc) (by have := hc.2.1; have := hc.1; omega)) rfl (.inr ⟨flat_intRows _, trivial⟩) rfl rfl ?_
    obtain ⟨j, hj⟩ := bestL_frm (prcV l) l start
    have hjl := hj.2.1
    have hjn := hj.1
    have hin := inL_of hj
    generalize bestL (prcV l) l start = B at hj hjl hin ⊢
    simp [h]
    refine CallZ.use0 (c_prices h1 hin (by omega)) rfl rfl ?_
    simp
    exact Wk.weak (ρ := [1]) (φ := []) (by simp)
end Go.Proofs.Yteomgilojaibeaa
