/- Contracts: the law on orders. No condition. -/
import Derived.Test.YtjeioaeipffifaaGreatDoorPb
import Derived.Test.YtjeioaeipffifaaGreatDoorJe
import Derived.Test.YtjeioaeipffifaaGreatDoorEd
import Derived.Test.YtjeioaeipffifaaGreatDoorFa
import Derived.Test.YtjeioaeipffifaaGreatDoorOe
import Derived.Test.YtjeioaeipffifaaGreatDoorNr
namespace Go.Proofs.YtjeioaeipffifaaGreatDoor
open Go Go.Ab
set_option maxRecDepth 100000

theorem upN_seq {l : List Order} (hv : validOrders l = true) {start : Int} (h0 : 0 ≤ start) (h1 : start ≤ 10000) : seqCode l (upN l.length) start = 0 := by
  unfold seqCode
  rw [if_pos hv, if_pos ⟨h0, h1⟩, if_pos]
  have hn := upN_nodup l.length
  refine List.all_eq_true.2 fun i hi => ?_
  have hi := List.mem_range.1 hi
  refine (seqAt_iff hi).2 ?_
  have := upN_in l _ (List.getElem_mem hi)
  refine ⟨this.1, by omega, fun x hx e => ?_⟩
  obtain ⟨j, hj, rfl⟩ := List.getElem_of_mem hx
  rw [List.length_take] at hj
  rw [List.getElem_take] at e
  exact List.pairwise_iff_getElem.1 hn j i (by omega) hi (by omega) e.symm
theorem late_zero {l : List Order} (hv : validOrders l = true) (hne : l ≠ []) (h0 : 0 ≤ lateN l) : delayOf l (byDue l) (lateN l) = 0 ∧ lateN l ≤ 10000 := by
  have h12 := validOrders_le hv
  have hs : SeqOk l (byDue l) 0 := seqOk_of_in hv (byDue_in l) (by omega) (by omega)
  have hlen : 0 < l.length := List.length_pos_iff.2 hne
  have hb : (byDue l).length = l.length - 1 + 1 := by rw [byDue_len]; omega
  have := mxD_shift hs (by rw [byDue_len]; omega) h0 (l.length - 1) (by omega)
  rw [← hb] at this
  have h1 := delAt_le hs (by rw [byDue_len]; omega) (i := 0) (by omega)
  have h2 := mxD_mem l (byDue l) 0 (byDue l).length 0 (by omega)
  have e : lateN l = 0 - mxD l (byDue l) 0 (byDue l).length := rfl
  unfold delayOf
  omega

set_option maxHeartbeats 2000000 in
theorem c_law_Orders (code more : List Int) (hc : ∀ c ∈ code, 0 ≤ c ∧ c < 256) (hm' : ∀ c ∈ more, 0 ≤ c ∧ c < 256) (hl : code.length ≤ 9223372036854775807) :
    HFn Tryz.prog 3 [.sl 1 (byteRows code), .sl 1 (byteRows more)] [] (.bool true) [] := by
  refine hfn_intro hm Tryz.func3 (by kernel_rfl) rfl (by kernel_rfl) rfl ret0_ok ?_
  simp
  refine CallZ.use0 (c_r8Long code more) rfl rfl ?_
  simp
  intro _ _
  have h0 : (Src.mk code 0 0).ok 0 := ⟨hc, hl, by simp, by simp, by simp⟩
  obtain ⟨hl6, hid, hv⟩ := orders_facts h0 (by omega)
  refine CallZ.use (c_R8Orders code hc hl) rfl (.inr ⟨Order.flat _, trivial⟩) rfl rfl ?_
  generalize (Src.mk code 0 0).orders.1 = l at hv hl6 hid ⊢
  simp
  have k1 := c_r8Wide more hm' 0 (by omega) 9000 (by omega)
  have g1 := r8WideV_le more hm' 0 9000 (by omega)
  have k2 := c_r8At more hm' 2 20
  have g2 := r8AtV_le more hm' 2 20 (by omega)
  have k3 := c_r8At more hm' 3 90
  have g3 := r8AtV_le more hm' 3 90 (by omega)
  have k4 := c_r8At more hm' 4 30
  have g4 := r8AtV_le more hm' 4 30 (by omega)
  generalize r8WideV more 0 9000 = m at k1 g1
  generalize r8AtV more 2 20 = d at k2 g2
  generalize r8AtV more 3 90 = u at k3 g3
  generalize r8AtV more 4 30 = start at k4 g4
  have w1 : IntKind.i64.wrap (1 + m) = 1 + m := w64 (by omega) (by omega)
  have w2 : IntKind.i64.wrap (1 + d) = 1 + d := w64 (by omega) (by omega)
  refine CallZ.use0 k1 rfl rfl ?_
  simp [w1]
  refine CallZ.use0 k2 rfl rfl ?_
  simp [w2]
  refine CallZ.use0 k3 rfl rfl ?_
  simp
  have kx : (newOrder m d u).cells = [.str [110, 101, 119], .int .i64 (1 + m), .int .i64 60, .int .i64 (1 + d), .int .i64 u] := rfl
  have hx := newOrder_valid (m := m) (d := d) (u := u) (by omega) (by omega) (by omega)
  have hr := newOrder_read (m := m) (d := d) (u := u) (by omega) (by omega) (by omega)
  have hp := newOrder_price (m := m) (d := d) (u := u) (by omega) (by omega)
  have hxid : (newOrder m d u).id = idNew := rfl
  have hxw : orderTx (newOrder m d u) = orderT (newOrder m d u) := if_pos hx
  have kT := c_impl_OrderText (newOrder m d u)
  have kA := c_impl_AddOrder l (newOrder m d u) (by omega)
  have kP := c_impl_PriceOf (newOrder m d u)
  have hpr : priceR (newOrder m d u) = .tup [.int .i64 (priceOf (newOrder m d u)), .int .i64 0] := by simp [priceR, hx]
  have hidx : ∀ y ∈ l, y.id ≠ (newOrder m d u).id := hid
  have hadd := add_ok hv hx hl6 hidx
  obtain ⟨hd1, hd2⟩ := drop_add hadd hidx
  have hvn := addL_valid hadd
  have hln := addL_le l (newOrder m d u)
  rw [hxw] at kT
  rw [hpr] at kP
  rw [hadd] at kA
  rw [hxid] at hd1 hd2
  have hne : addL l (newOrder m d u) ≠ [] := fun e => by
    have := congrArg List.length e
    unfold addL at this
    rw [if_pos hadd] at this
    simp at this
  have hcell := hr
  have hlx : (orderT (newOrder m d u)).length < 4294967281 := by
    have h1 := noteT_len (n := 60) (by omega) (by omega)
    have h2 := listT_len [1 + m, 1 + d, u] (listOk_I64 (by simp [listOk, valB]; omega))
    simp only [List.length_cons, List.length_nil] at h2
    have e : orderT (newOrder m d u) = idNew ++ [32] ++ noteT 60 ++ [32] ++ listT [1 + m, 1 + d, u] := rfl
    have h3 : idNew.length = 3 := rfl
    rw [e]
    simp only [List.length_append, List.length_cons, List.length_nil]
    omega
  have kR := c_impl_ReadOrder (orderT (newOrder m d u)) hlx
  simp only [orderRP, hr, Option.getD_some, Option.isSome_some] at kR
  rw [kx] at kT kA kP kR
  generalize addL l (newOrder m d u) = nx at *
  generalize priceOf (newOrder m d u) = pr at *
  generalize orderT (newOrder m d u) = tx at *
  refine CallZ.use0 kT rfl rfl ?_
  simp
  refine CallZ.use0 kR rfl rfl ?_
  simp
  refine CallZ.use kA rfl (.inr ⟨Order.flat _, trivial⟩) rfl rfl ?_
  simp
  have kD := c_impl_DropOrder nx idNew (by omega)
  rw [hd1, hd2] at kD
  refine CallZ.use kD rfl (.inr ⟨Order.flat _, trivial⟩) rfl rfl ?_
  simp
  refine CallZ.use0 kP rfl rfl ?_
  simp
  have kS := c_spec_SameOrders l l (by omega)
  have kF := c_impl_DueFirst nx (by omega)
  have hdr : dueR nx = byDue nx := by unfold dueR; rw [if_pos hvn]
  rw [hdr, if_pos hvn] at kF
  have hbl := byDue_len nx
  have hbs := byDue_seq hvn (start := start) (by omega) (by omega)
  have hus := upN_seq hvn (start := start) (by omega) (by omega)
  have hul := upN_len nx.length
  have hdel := byDue_delay hvn start
  have kU := c_impl_DelayOf nx (byDue nx) start (by omega) (by omega)
  have kV := c_impl_DelayOf nx (upN nx.length) start (by omega) (by omega)
  have kE := c_impl_EndsOf nx (byDue nx) start (by omega) (by omega)
  have kL := c_impl_LatestBegin nx (by omega)
  refine CallY.use (fun _ => ⟨rfl, kS⟩) rfl rfl ?_
  simp [show ¬ pr < 740 by omega]
  refine CallZ.use kF rfl (.inr ⟨flat_intRows _, trivial⟩) rfl rfl ?_
  simp
  refine loop_upto hm nx.length (fun i => ⟨[(1, .sl 1 (byteRows more)), (9, .sf 0 5), (15, .sf 1 1), (16, .int .i64 0), (17, .sf 2 1), (18, .int .i64 i)], [some (.arr 5 (Order.rows nx)), some (.arr 1 (intRows (byDue nx))), some (.arr 1 (intRows (upN i)))]⟩) (fun _ => True) (by kernel_rfl) ?_ trivial (fun i hi _ => ?_) (fun _ => ?_)
  · refine (weak_nil (t := 17) (z := 1) rfl).trans (Wk.weak (ρ := [3, 5, 6]) (φ := []) ?_)
    simp [upN, intRows]
  · have hu : (intRows (upN i)).length = i := by rw [intRows_len, upN_len]
    have hs : intRows (upN (i + 1)) = intRows (upN i) ++ [[.int .i64 i]] := by rw [upN_succ]; simp [intRows]
    have w3 : IntKind.i64.wrap ((i : Int) + 1) = (i : Int) + 1 := w64 (by omega) (by omega)
    simp [Order.rows_len, hi, hu]
    refine ⟨by simp [rowsOne], by omega, by omega, Wk.weak (ρ := [0, 1, 2]) (φ := []) ?_⟩
    simp [hs, w3]
  · simp [Order.rows_len]
    refine CallZ.use0 k4 rfl rfl ?_
    simp
    have hnl : ¬ nx.length = 0 := fun e => hne (List.eq_nil_of_length_eq_zero e)
    have hbl' : ¬ (byDue nx).length = 0 := by omega
    have hul' : ¬ (upN nx.length).length = 0 := by omega
    have rU : delayR nx (byDue nx) start = .tup [.int .i64 (delayOf nx (byDue nx) start), .int .i64 0] := by
      unfold delayR delayCode
      rw [hbs, if_pos rfl, if_neg hbl', if_pos rfl, if_neg hbl']
    have rV : delayR nx (upN nx.length) start = .tup [.int .i64 (delayOf nx (upN nx.length) start), .int .i64 0] := by
      unfold delayR delayCode
      rw [hus, if_pos rfl, if_neg hul', if_pos rfl, if_neg hul']
    have rE : endsR nx (byDue nx) start = endsOf nx (byDue nx) start := by unfold endsR; rw [if_pos hbs]
    rw [rU] at kU
    rw [rV] at kV
    rw [rE, hbs] at kE
    have hel := endsOf_len nx (byDue nx) start
    generalize endsOf nx (byDue nx) start = en at kE hel
    refine CallZ.use0 kU rfl rfl ?_
    simp
    refine CallZ.use0 kV rfl rfl ?_
    simp
    refine CallZ.use kE rfl (.inr ⟨flat_intRows _, trivial⟩) rfl rfl ?_
    simp [intRows_len, Order.rows_len, hbl, hel, show ¬ delayOf nx (upN nx.length) start < delayOf nx (byDue nx) start by omega]
    refine CallZ.use0 kL rfl rfl ?_
    simp
    have hlc : lateCode nx = if lateN nx < 0 then 3 else 0 := by unfold lateCode; rw [if_pos hvn, if_neg hne]
    have rW : ∀ s : Int, 0 ≤ s → s ≤ 10000 → delayR nx (byDue nx) s = .tup [.int .i64 (delayOf nx (byDue nx) s), .int .i64 0] := fun s h1 h2 => by
      have := byDue_seq hvn (start := s) h1 h2
      unfold delayR delayCode
      rw [this, if_pos rfl, if_neg hbl', if_pos rfl, if_neg hbl']
    have hlate : lateN nx = 0 - delayOf nx (byDue nx) 0 := rfl
    rw [hlc]
    by_cases hlt : lateN nx < 0
    · have kW := c_impl_DelayOf nx (byDue nx) 0 (by omega) (by omega)
      rw [rW 0 (by omega) (by omega)] at kW
      simp [hlt]
      refine CallZ.use0 kW rfl rfl ?_
      simp
      omega
    · obtain ⟨z1, z2⟩ := late_zero hvn hne (by omega)
      have kW := c_impl_DelayOf nx (byDue nx) (lateN nx) (by omega) (by omega)
      rw [rW (lateN nx) (by omega) (by omega), z1] at kW
      simp [hlt]
      refine CallZ.use0 kW rfl rfl ?_
      simp
      omega

theorem l_FnOrders (pargs : List PV) (h : fitsAll [.one (.slc [.int .u8]), .one (.slc [.int .u8])] pargs) : HFn Tryz.prog 3 pargs [] (.bool true) [] := by
  obtain ⟨p0, r0, rfl, f0, z0⟩ := fitsAll_cons h
  obtain ⟨p1, r1, rfl, f1, z1⟩ := fitsAll_cons z0
  obtain rfl := fitsAll_nil z1
  obtain ⟨rows0, rfl, g0, y0⟩ := fits_slc f0
  obtain ⟨code, rfl, wc⟩ := fits_bytes y0
  obtain ⟨rows1, rfl, g1, y1⟩ := fits_slc f1
  obtain ⟨more, rfl, wm⟩ := fits_bytes y1
  exact c_law_Orders code more wc wm (by simpa [byteRows] using g0)
end Go.Proofs.YtjeioaeipffifaaGreatDoor
