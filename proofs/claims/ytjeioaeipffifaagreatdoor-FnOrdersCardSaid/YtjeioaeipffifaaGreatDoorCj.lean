/- Contracts: sequences of orders, the days on which they end. -/
import Derived.Test.YtjeioaeipffifaaGreatDoorCh
import Derived.Test.YtjeioaeipffifaaGreatDoorTI
namespace Go.Proofs.YtjeioaeipffifaaGreatDoor
open Go Go.Ab
set_option maxRecDepth 100000

theorem c_isStart (n : Int) : HFn Tryz.prog 108 [.int .i64 n] [] (.bool (decide (0 ≤ n) && decide (n ≤ 10000))) [] := by
  refine hfn_intro hm Tryz.func108 (by kernel_rfl) rfl (by kernel_rfl) rfl ret0_ok ?_
  simp
  refine CallZ.use0 (c_within _ _ _) rfl rfl ?_
  simp

theorem c_sizeOrder (l : List Order) : HFn Tryz.prog 107 [.sl 5 (Order.rows l)] [] (.int .i64 l.length) [] := by
  refine hfn_intro hm Tryz.func107 (by kernel_rfl) rfl (by kernel_rfl) rfl ret0_ok ?_
  simp [Order.rows]

theorem c_IndexInt (l : List Int) (v : Int) (hl : l.length ≤ 9223372036854775807) : HFn Tryz.prog 152 [.sl 1 (intRows l), .int .i64 v] [] (.int .i64 (findI (fun x => decide (v = x)) l)) [] := by
  refine hfn_intro hm Tryz.func152 (by kernel_rfl) rfl (by kernel_rfl) rfl ret0_ok ?_
  simp [intRows]
  refine loop_upto hm l.length (fun i => ⟨[(0, .sl 1 (intRows l)), (1, .int .i64 v), (7, .int .i64 l.length), (8, .int .i64 i)], []⟩) (fun i => ∀ j (h : j < l.length), j < i → decide (v = l[j]) = false) (by kernel_rfl) ?_ (by simp) (fun i hi hI => ?_) (fun hI => ?_)
  · exact Wk.weak (ρ := []) (φ := []) (by simp [intRows])
  · simp [intRows, hi]
    refine ⟨fun h => (findI_at hi (by simpa using h) hI).symm, fun h => ⟨fun j hj hji => ?_, ?_⟩⟩
    · by_cases e : j = i
      · subst e; exact h
      · simpa using hI j hj (by omega)
    · refine Wk.weak (ρ := []) (φ := []) ?_
      simp
      exact w64 (by omega) (by omega)
  · simp [intRows]
    exact (findI_none fun j hj => hI j hj hj).symm

theorem c_ContainsInt (l : List Int) (v : Int) (hl : l.length ≤ 9223372036854775807) : HFn Tryz.prog 109 [.sl 1 (intRows l), .int .i64 v] [] (.bool (l.any fun x => decide (v = x))) [] := by
  refine hfn_intro hm Tryz.func109 (by kernel_rfl) rfl (by kernel_rfl) rfl ret0_ok ?_
  simp
  refine CallZ.use0 (c_IndexInt l v hl) rfl rfl ?_
  simp
  exact findI_any

/-! ### Sequences -/

/-- Index i of a sequence is one of an order, and new. -/
def seqAt (n : Nat) (order : List Int) (i : Nat) : Bool := match order[i]? with
  | some k => (decide (0 ≤ k) && decide (k ≤ (n : Int) - 1)) && !((order.take i).any fun x => decide (k = x))
  | none => true
theorem seqAt_iff {n : Nat} {order : List Int} {i : Nat} (hi : i < order.length) : seqAt n order i = true ↔ 0 ≤ order[i] ∧ order[i] ≤ (n : Int) - 1 ∧ ∀ x, x ∈ order.take i → ¬ order[i] = x := by
  simp only [seqAt, List.getElem?_eq_getElem hi]
  simp
  constructor
  · rintro ⟨⟨h1, h2⟩, h3⟩
    exact ⟨h1, h2, h3⟩
  · rintro ⟨h1, h2, h3⟩
    exact ⟨⟨h1, h2⟩, h3⟩
def seqOk (n : Nat) (order : List Int) : Bool := (List.range order.length).all (seqAt n order)
def seqCode (l : List Order) (order : List Int) (start : Int) : Int :=
  if validOrders l = true then (if 0 ≤ start ∧ start ≤ 10000 then (if seqOk l.length order = true then 0 else 7) else 2) else 1

theorem c_sequenced (l : List Order) (order : List Int) (start : Int) (hl : l.length ≤ 1048576) (ho : order.length ≤ 1048576) :
    HFn Tryz.prog 55 [.sl 5 (Order.rows l), .sl 1 (intRows order), .int .i64 start] [] (.int .i64 (seqCode l order start)) [] := by
  refine hfn_intro hm Tryz.func55 (by kernel_rfl) rfl (by kernel_rfl) rfl ret0_ok ?_
  simp
  refine CallZ.use0 (c_impl_ValidOrders l hl) rfl rfl ?_
  simp
  refine ⟨fun h => by simp [seqCode, h], fun h => ?_⟩
  refine CallZ.use0 (c_isStart start) rfl rfl ?_
  simp
  refine ⟨fun h' => by simp [seqCode, h]; omega, fun h1 h2 => ?_⟩
  have hc : seqCode l order start = if seqOk l.length order = true then 0 else 7 := by simp [seqCode, h, h1, h2]
  rw [hc]
  simp [intRows]
  refine loop_upto hm order.length (fun i => ⟨[(0, .sl 5 (Order.rows l)), (1, .sl 1 (intRows order)), (17, .sl 1 (intRows order)), (18, .int .i64 order.length), (19, .int .i64 i)], []⟩) (fun i => ∀ j, j < i → seqAt l.length order j = true) (by kernel_rfl) ?_ (by simp) (fun i hi hI => ?_) (fun hI => ?_)
  · exact Wk.weak (ρ := []) (φ := []) (by simp [intRows])
  · have hs := seqAt_iff (n := l.length) hi
    simp [intRows, hi]
    refine CallZ.use0 (c_sizeOrder l) rfl rfl ?_
    simp
    rw [w64 (by omega) (by omega)]
    refine CallZ.use0 (c_within _ _ _) rfl rfl ?_
    simp
    iterate 2 refine ⟨by grind, ?_⟩
    refine CallY.use (res := .bool ((order.take i).any fun x => decide (order[i] = x))) (fun _ => ⟨rfl, by simpa [intRows] using c_ContainsInt (order.take i) order[i] (by simp; omega)⟩) rfl rfl ?_
    simp
    refine ⟨fun h => ?_, fun h3 h4 h5 => ⟨upto_succ hI (hs.2 ⟨h3, h4, h5⟩), ?_⟩⟩
    · refine all_range_false hi ?_
      rw [← Bool.not_eq_true, hs]
      rintro ⟨g1, g2, g3⟩
      rcases h with (h | h) | h
      · omega
      · omega
      · exact g3 _ h rfl
    · refine Wk.weak (ρ := []) (φ := []) ?_
      simp
      exact w64 (by omega) (by omega)
  · simp [seqOk, all_range_true hI]

/-! ### The days on which orders are done -/

def dayOf (l : List Order) (k : Int) : Int := match l[k.toNat]? with
  | some x => x.days
  | none => 0
def sumI (f : Int → Int) (l : List Int) (i : Nat) : Int := ((l.take i).map f).sum
theorem sumI_zero (f : Int → Int) (l : List Int) : sumI f l 0 = 0 := rfl
theorem sumI_succ (f : Int → Int) {l : List Int} {i : Nat} (h : i < l.length) : sumI f l (i + 1) = sumI f l i + f l[i] := by
  unfold sumI
  rw [List.take_add_one, List.getElem?_eq_getElem h, List.map_append, List.sum_append]
  simp
def endAt (l : List Order) (order : List Int) (start : Int) (i : Nat) : Int := start + sumI (dayOf l) order (i + 1)
def endsOf (l : List Order) (order : List Int) (start : Int) : List Int := (List.range order.length).map (endAt l order start)
theorem endsOf_len (l : List Order) (order : List Int) (start : Int) : (endsOf l order start).length = order.length := by simp [endsOf]

theorem valid_mem {l : List Order} (hv : validOrders l = true) {x : Order} (hx : x ∈ l) : validOrder x = true := by
  simp only [validOrders, Bool.and_eq_true, List.all_eq_true, List.mem_range] at hv
  obtain ⟨i, hi, rfl⟩ := List.getElem_of_mem hx
  have := hv.1 i hi
  simp only [orderAt, List.getElem?_eq_getElem hi, Bool.and_eq_true] at this
  exact this.1
theorem valid_days {x : Order} (hv : validOrder x = true) : 1 ≤ x.days ∧ x.days ≤ 100 ∧ 0 ≤ x.due ∧ x.due ≤ 10000 := by
  simp [validOrder] at hv
  omega
theorem dayOf_le {l : List Order} (hv : validOrders l = true) (k : Int) : 0 ≤ dayOf l k ∧ dayOf l k ≤ 100 := by
  unfold dayOf
  split
  · rename_i x hx
    have := valid_days (valid_mem hv (List.mem_of_getElem? hx))
    omega
  · omega
theorem sum_le {l : List Order} (hv : validOrders l = true) (order : List Int) : ∀ i, i ≤ order.length → 0 ≤ sumI (dayOf l) order i ∧ sumI (dayOf l) order i ≤ 100 * i
  | 0, _ => by simp [sumI_zero]
  | i + 1, h => by
    have h1 := sum_le hv order i (by omega)
    rw [sumI_succ _ (by omega)]
    have h2 := dayOf_le hv order[i]
    omega

/-- What is known once a sequence is one of orders. -/
structure SeqOk (l : List Order) (order : List Int) (start : Int) : Prop where
  valid : validOrders l = true
  s0 : 0 ≤ start
  s1 : start ≤ 10000
  at_ : ∀ i (h : i < order.length), 0 ≤ order[i] ∧ order[i] ≤ (l.length : Int) - 1

theorem seqOk_of {l : List Order} {order : List Int} {start : Int} (h : seqCode l order start = 0) : SeqOk l order start := by
  unfold seqCode at h
  split at h
  · rename_i hv
    split at h
    · rename_i hs
      split at h
      · rename_i ho
        refine ⟨hv, hs.1, hs.2, fun i hi => ?_⟩
        have := List.all_eq_true.1 ho i (List.mem_range.2 hi)
        have := (seqAt_iff hi).1 this
        exact ⟨this.1, this.2.1⟩
      · omega
    · omega
  · omega

theorem c_impl_ends (l : List Order) (order : List Int) (start : Int) (ho : order.length ≤ 1048576) (_hl : l.length ≤ 1048576) (hk : SeqOk l order start) :
    HFn Tryz.prog 57 [.sl 5 (Order.rows l), .sl 1 (intRows order), .int .i64 start] [] (.sf 0 1) [some (.arr 1 (intRows (endsOf l order start)))] := by
  refine hfn_intro hm Tryz.func57 (by kernel_rfl) rfl (by kernel_rfl) rfl (retN_ok (ρ := [0]) (φ := [])) ?_
  simp [intRows]
  refine loop_upto hm order.length (fun i => ⟨[(0, .sl 5 (Order.rows l)), (2, .int .i64 (start + sumI (dayOf l) order i)), (7, .sf 0 1), (10, .sl 1 (intRows order)), (11, .int .i64 order.length), (12, .int .i64 i)], [some (.arr 1 (intRows ((List.range i).map (endAt l order start))))]⟩) (fun _ => True) (by kernel_rfl) ?_ trivial (fun i hi _ => ?_) (fun _ => ?_)
  · refine (weak_nil (t := 7) (z := 1) (by simp)).trans (Wk.weak (ρ := [0]) (φ := []) ?_)
    simp [intRows, sumI_zero]
  · obtain ⟨g1, g2⟩ := hk.at_ i hi
    have hkl : order[i].toNat < l.length := by omega
    have hd : dayOf l order[i] = l[order[i].toNat].days := by simp [dayOf, hkl]
    have hs := sum_le hk.valid order i (by omega)
    have hs' := sum_le hk.valid order (i + 1) (by omega)
    have hsc := sumI_succ (dayOf l) hi
    have h0 := hk.s0
    have h1 := hk.s1
    have hw : IntKind.i64.wrap (start + sumI (dayOf l) order i + l[order[i].toNat].days) = start + sumI (dayOf l) order (i + 1) := by
      rw [← hd, hsc, w64 (by omega) (by omega)]
      omega
    simp [intRows, hi, Order.rows, Order.cells, hkl, hw, rowsOne]
    refine ⟨⟨g1, by omega⟩, by omega, by omega, ?_⟩
    refine Wk.weak (ρ := [0]) (φ := []) ?_
    simp
    rw [w64 (by omega) (by omega)]
    refine ⟨rfl, ?_⟩
    rw [List.range_succ, List.map_append]
    rfl
  · simp [intRows, endsOf]

/-- What EndsOf hands back: nothing where there is an error. -/
def endsR (l : List Order) (order : List Int) (start : Int) : List Int := if seqCode l order start = 0 then endsOf l order start else []

theorem c_impl_EndsOf (l : List Order) (order : List Int) (start : Int) (ho : order.length ≤ 1048576) (hl : l.length ≤ 1048576) :
    HFn Tryz.prog 18 [.sl 5 (Order.rows l), .sl 1 (intRows order), .int .i64 start] [] (.tup [.sf 0 1, .int .i64 (seqCode l order start)]) [some (.arr 1 (intRows (endsR l order start)))] := by
  refine hfn_intro hm Tryz.func18 (by kernel_rfl) rfl (by kernel_rfl) rfl (fun _ _ h => h) ?_
  simp
  refine CallZ.use0 (c_sequenced l order start hl ho) rfl rfl ?_
  simp
  refine ⟨fun h => ?_, fun h => ?_⟩
  · refine (weak_nilT (t := 0) 0 1 rfl rfl).trans (Wk.weak (ρ := [0]) (φ := []) ?_)
    simp [endsR, h, intRows]
  · refine CallZ.use (c_impl_ends l order start ho hl (seqOk_of h)) rfl (.inr ⟨flat_intRows _, trivial⟩) rfl rfl ?_
    simp
    refine Wk.weak (ρ := [0]) (φ := []) ?_
    simp [endsR, h]

theorem endsR_le (l : List Order) (order : List Int) (start : Int) : (endsR l order start).length ≤ order.length := by
  unfold endsR
  split
  · simp [endsOf]
  · simp

end Go.Proofs.YtjeioaeipffifaaGreatDoor
