/- Contracts: what is due first; the latest beginning. -/
import Derived.Test.YtjeioaeipffifaaGreatDoorGa
namespace Go.Proofs.YtjeioaeipffifaaGreatDoor
open Go Go.Ab
set_option maxRecDepth 100000

def byDue (l : List Order) : List Int := sortL (dueOf l) (upN l.length)
theorem byDue_len (l : List Order) : (byDue l).length = l.length := by rw [byDue, sortL_len, upN_len]
def dueR (l : List Order) : List Int := if validOrders l = true then byDue l else []
theorem dueR_le (l : List Order) : (dueR l).length ≤ l.length := by
  unfold dueR
  split
  · rw [byDue_len]; exact Nat.le_refl _
  · simp

theorem c_impl_DueFirst (l : List Order) (hl : l.length ≤ 1048576) :
    HFn Tryz.prog 16 [.sl 5 (Order.rows l)] [] (.tup [.sf 0 1, .int .i64 (if validOrders l = true then 0 else 1)]) [some (.arr 1 (intRows (dueR l)))] := by
  refine hfn_intro hm Tryz.func16 (by kernel_rfl) rfl (by kernel_rfl) rfl (fun _ _ h => h) ?_
  simp
  refine CallZ.use0 (c_impl_ValidOrders l hl) rfl rfl ?_
  simp
  refine ⟨fun h => ?_, fun h => ?_⟩
  · refine (weak_nilT (t := 0) 0 1 rfl rfl).trans (Wk.weak (ρ := [0]) (φ := []) ?_)
    simp [dueR, h, intRows]
  have h12 := validOrders_le h
  refine CallZ.use (c_allOrders l hl) rfl (.inr ⟨flat_intRows _, trivial⟩) rfl rfl ?_
  simp
  refine CallZ.use (c_sortedByDue l (upN l.length) hl (upN_in l) (by rw [upN_len]; omega)) rfl (.inr ⟨flat_intRows _, trivial⟩) rfl rfl ?_
  simp
  refine Wk.weak (ρ := [1]) (φ := []) ?_
  simp [dueR, h, byDue]

/-- The greatest start without a delay. -/
def lateN (l : List Order) : Int := 0 - delayOf l (byDue l) 0
def lateCode (l : List Order) : Int := if validOrders l = true then (if l = [] then 6 else if lateN l < 0 then 3 else 0) else 1
@[simp] def lateR (l : List Order) : PV := .tup [.int .i64 (if lateCode l = 0 then lateN l else 0), .int .i64 (lateCode l)]

theorem seqOk_of_in {l : List Order} {ks : List Int} {start : Int} (h : validOrders l = true) (hk : InL l ks) (h0 : 0 ≤ start) (h1 : start ≤ 10000) : SeqOk l ks start := ⟨h, h0, h1, fun i hi => by have := hk ks[i] (List.getElem_mem hi); omega⟩
theorem byDue_in (l : List Order) : InL l (byDue l) := fun k hk => upN_in l k (sortL_mem hk)

theorem c_impl_LatestBegin (l : List Order) (hl : l.length ≤ 1048576) : HFn Tryz.prog 19 [.sl 5 (Order.rows l)] [] (lateR l) [] := by
  refine hfn_intro hm Tryz.func19 (by kernel_rfl) rfl (by kernel_rfl) rfl ret0_ok ?_
  simp
  refine CallZ.use0 (c_impl_ValidOrders l hl) rfl rfl ?_
  simp [Order.rows_len]
  refine ⟨fun h => by simp [lateCode, h], fun h => ⟨fun h0 => by have hc : lateCode l = 6 := by { unfold lateCode; rw [if_pos h, if_pos h0] }; simp [hc], fun h0 => ?_⟩⟩
  have h12 := validOrders_le h
  have hs : SeqOk l (byDue l) 0 := seqOk_of_in h (byDue_in l) (by omega) (by omega)
  have hb := mxD_le hs (by rw [byDue_len]; omega) (byDue l).length (Nat.le_refl _)
  have hw : IntKind.i64.wrap (0 - delayOf l (byDue l) 0) = lateN l := w64 (by unfold delayOf; omega) (by unfold delayOf; omega)
  refine CallZ.use (c_allOrders l hl) rfl (.inr ⟨flat_intRows _, trivial⟩) rfl rfl ?_
  simp
  refine CallZ.use (c_sortedByDue l (upN l.length) hl (upN_in l) (by rw [upN_len]; omega)) rfl (.inr ⟨flat_intRows _, trivial⟩) rfl rfl ?_
  simp
  refine CallZ.use0 (c_impl_delay l (byDue l) 0 (by rw [byDue_len]; omega) hl hs) rfl rfl ?_
  simp
  simp only [Int.zero_sub] at hw
  simp [hw]
  refine ⟨fun g => ?_, fun g => ?_⟩
  · simp [lateCode, h, h0, g]
  · simp [lateCode, h, h0, show ¬ lateN l < 0 by omega]

end Go.Proofs.YtjeioaeipffifaaGreatDoor
