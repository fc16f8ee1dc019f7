/- Contracts: an order is added. -/
import Derived.Test.YtjeioaeipffifaaGreatDoorEd
namespace Go.Proofs.YtjeioaeipffifaaGreatDoor
open Go Go.Ab
set_option maxRecDepth 100000

/-- What AddOrder hands back. -/
def addCode (l : List Order) (x : Order) : Int := if validOrders l = true ∧ validOrder x = true then (if 0 ≤ findO l x.id then 4 else if l.length = 12 then 5 else 0) else 1
def addL (l : List Order) (x : Order) : List Order := if addCode l x = 0 then l.take (cutO l x.id) ++ x :: l.drop (cutO l x.id) else []
theorem addL_le (l : List Order) (x : Order) : (addL l x).length ≤ l.length + 1 := by
  unfold addL
  split
  · rw [List.length_append, List.length_take, List.length_cons, List.length_drop]
    omega
  · simp

theorem validOrders_le {l : List Order} (h : validOrders l = true) : l.length ≤ 12 := by
  simp only [validOrders, Bool.and_eq_true, decide_eq_true_eq] at h
  exact_mod_cast h.2

theorem findO_no {l : List Order} {s : List UInt8} (h : findO l s < 0) (i : Nat) (hi : i < l.length) : l[i].id ≠ s := fun e => by
  have h1 : decide (0 ≤ findI (fun x : Order => decide (x.id = s)) l) = l.any fun x => decide (x.id = s) := findI_any
  have h2 : l.any (fun x => decide (x.id = s)) = true := List.any_eq_true.2 ⟨l[i], List.getElem_mem hi, by simpa using e⟩
  rw [h2] at h1
  have h3 : 0 ≤ findO l s := by simpa [findO] using h1
  omega
theorem foundO_no {l : List Order} {s : List UInt8} (hv : validOrders l = true) (h : findO l s < 0) : foundO l s = false := by
  have := findO_eq hv s
  cases hf : foundO l s with
  | false => rfl
  | true => rw [hf, if_pos rfl] at this; omega
theorem foundO_yes {l : List Order} {s : List UInt8} (hv : validOrders l = true) (h : 0 ≤ findO l s) : foundO l s = true := by
  have := findO_eq hv s
  cases hf : foundO l s with
  | true => rfl
  | false => rw [hf, if_neg (by simp)] at this; omega

/-- Of an order that is not there: what is greater lies from its place on. -/
theorem cut_gt {l : List Order} {s : List UInt8} (hv : validOrders l = true) (h : findO l s < 0) (i : Nat) (hi : i < l.length) : (Op.bytesLess l[i].id s || decide (l[i].id = s)) = decide (i < cutO l s) := by
  have hc := cutO_cut hv s
  have hne := findO_no h i hi
  by_cases g : i < cutO l s
  · have h1 := hc.lo i g
    rw [cmpO_at hi, cmpS_neg] at h1
    simp [h1, g]
  · have h1 := hc.hi i (by omega) hi
    rw [cmpO_at hi] at h1
    have h2 : Op.bytesLess l[i].id s = false := by
      cases hb : Op.bytesLess l[i].id s with
      | false => rfl
      | true => rw [← cmpS_neg] at hb; omega
    simp [h2, hne, g]

theorem c_impl_AddOrder (l : List Order) (x : Order) (hl : l.length ≤ 1048576) :
    HFn Tryz.prog 12 [.sl 5 (Order.rows l), .agg x.cells] [] (.tup [.sf 0 5, .int .i64 (addCode l x)]) [some (.arr 5 (Order.rows (addL l x)))] := by
  refine hfn_intro_ef 49 hm Tryz.func12 (by kernel_rfl) rfl (by kernel_rfl) rfl (fun _ _ h => h) ?_
  simp [Order.cells]
  refine CallZ.use0 (c_impl_ValidOrders l hl) rfl rfl ?_
  simp
  refine CallY.use (fun _ => ⟨rfl, c_validOrder x⟩) rfl rfl ?_
  simp
  have bad : ¬ (validOrders l = true ∧ validOrder x = true) → addCode l x = 1 ∧ addL l x = [] := fun h => by
    have : addCode l x = 1 := by unfold addCode; rw [if_neg h]
    exact ⟨this, by unfold addL; rw [this]; simp⟩
  refine ⟨fun h => ?_, fun h1 h2 => ?_⟩
  · obtain ⟨b1, b2⟩ := bad (by grind)
    refine (weak_nilT (t := 0) 0 5 rfl rfl).trans (Wk.weak (ρ := [1]) (φ := []) ?_)
    simp [b1, b2, Order.rows]
  refine CallZ.use0 (c_orderAt l x.id hl h1) rfl rfl ?_
  simp [Order.rows_len]
  have h12 := validOrders_le h1
  refine ⟨fun hk => ?_, fun hk => ?_⟩
  · have hf : 0 ≤ findO l x.id := by
      have := findO_eq h1 x.id
      rw [hk, if_pos rfl] at this
      omega
    refine (weak_nilT (t := 0) 0 5 rfl rfl).trans (Wk.weak (ρ := [1]) (φ := []) ?_)
    simp [addCode, addL, h1, h2, hf, Order.rows]
  have hf : ¬ 0 ≤ findO l x.id := fun g => by rw [foundO_yes h1 g] at hk; cases hk
  refine ⟨fun hn => ?_, fun hn => ?_⟩
  · have hn' : l.length = 12 := by omega
    refine (weak_nilT (t := 0) 0 5 rfl rfl).trans (Wk.weak (ρ := [1]) (φ := []) ?_)
    simp [addCode, addL, h1, h2, hf, hn', Order.rows]
  have hn' : ¬ l.length = 12 := by omega
  have hle : cutO l x.id ≤ l.length := (cutO_cut h1 x.id).le
  refine CallZ.use (c_CloneOrder (Order.rows l) (Order.rowsOne l) (by rw [Order.rows_len]; exact hl)) rfl (.inr ⟨Order.flat _, trivial⟩) rfl rfl ?_
  simp
  refine ⟨by kernel_rfl, ?_⟩
  have hsp : Order.rows l = Order.rows (l.take (cutO l x.id)) ++ Order.rows (l.drop (cutO l x.id)) := by unfold Order.rows; rw [← List.map_append, List.take_append_drop]
  have hlen : (Order.rows (l.take (cutO l x.id))).length = cutO l x.id := by rw [Order.rows_len, List.length_take]; omega
  have hc := c_InsertOrder (Order.rows (l.take (cutO l x.id))) (Order.rows (l.drop (cutO l x.id))) [x.cells] (by rw [← hsp]; exact Order.rowsOne l) (by simp [rowsOne, Order.cells]) (by simp) (by rw [Order.rows_len, Order.rows_len, List.length_take, List.length_drop]; simp; omega)
  rw [← hsp, hlen] at hc
  refine CallZ.useM [1, 2] [] [1, 2] hc (by simp [Order.cells]) rfl rfl (by simp) rfl rfl rfl (.inl rfl) ?_
  simp
  refine Wk.weak (ρ := [1]) (φ := []) ?_
  have hL : addL l x = l.take (cutO l x.id) ++ x :: l.drop (cutO l x.id) := by simp [addL, addCode, h1, h2, hf, hn']
  simp [hL, Order.rows, addCode, h1, h2, hf, hn']

theorem c_spec_AddOrder (l : List Order) (x : Order) (hl : l.length ≤ 1048576) :
    HFn Tryz.prog 88 [.sl 5 (Order.rows l), .agg x.cells] [] (.tup [.sf 0 5, .int .i64 (addCode l x)]) [some (.arr 5 (Order.rows (addL l x)))] := by
  refine hfn_intro hm Tryz.func88 (by kernel_rfl) rfl (by kernel_rfl) rfl (fun _ _ h => h) ?_
  simp [Order.cells]
  refine CallZ.use0 (c_l29Ok l hl) rfl rfl ?_
  simp
  refine CallY.use (fun _ => ⟨rfl, c_l29One x _ _ rfl⟩) rfl rfl ?_
  simp
  have bad : ¬ (validOrders l = true ∧ validOrder x = true) → addCode l x = 1 ∧ addL l x = [] := fun h => by
    have : addCode l x = 1 := by unfold addCode; rw [if_neg h]
    exact ⟨this, by unfold addL; rw [this]; simp⟩
  refine ⟨fun h => ?_, fun h1 h2 => ?_⟩
  · obtain ⟨b1, b2⟩ := bad (by grind)
    refine (weak_nilT (t := 0) 0 5 rfl rfl).trans (Wk.weak (ρ := [1]) (φ := []) ?_)
    simp [b1, b2, Order.rows]
  refine CallZ.use0 (c_l29Find l x.id hl) rfl rfl ?_
  simp [Order.rows_len]
  refine ⟨fun hf => ?_, fun hf => ?_⟩
  · refine (weak_nilT (t := 0) 0 5 rfl rfl).trans (Wk.weak (ρ := [1]) (φ := []) ?_)
    simp [addCode, addL, h1, h2, hf, Order.rows]
  have hf' : ¬ 0 ≤ findO l x.id := by omega
  refine ⟨fun hn => ?_, fun hn => ?_⟩
  · have hn' : l.length = 12 := by omega
    refine (weak_nilT (t := 0) 0 5 rfl rfl).trans (Wk.weak (ρ := [1]) (φ := []) ?_)
    simp [addCode, addL, h1, h2, hf', hn', Order.rows]
  have hn' : ¬ l.length = 12 := by omega
  have h12 := validOrders_le h1
  have hle : cutO l x.id ≤ l.length := (cutO_cut h1 x.id).le
  have hL : addL l x = l.take (cutO l x.id) ++ x :: l.drop (cutO l x.id) := by simp [addL, addCode, h1, h2, hf', hn']
  refine loop_rule hm (ι := {a : Nat // cutO l x.id ≤ a ∧ a ≤ l.length}) (fun s => ⟨[(0, .sl 5 (Order.rows l)), (3, .pb 0 0), (6, .int .i64 s.1)], [some (.box x.cells)]⟩) (fun s => s.1) (by kernel_rfl) ⟨l.length, by omega⟩ ?_ ?_
  · refine Wk.weak (ρ := [0]) (φ := []) ?_
    simp [Order.cells]
  · rintro ⟨a, ha1, ha2⟩
    simp only
    have e1 : 0 < a → IntKind.i64.wrap ((a : Int) - 1) = ((a - 1 : Nat) : Int) := fun h => by rw [w64 (by omega) (by omega)]; omega
    by_cases h0 : 0 < a
    · have ha3 : a - 1 < l.length := by omega
      have hg := cut_gt h1 (by omega) (a - 1) ha3
      have hone : ∀ m : List (List PV), (∀ r ∈ m, r ∈ l.map Order.cells) → rowsOne m := fun m h r hr => by
        obtain ⟨x, _, rfl⟩ := List.mem_map.1 (h r hr)
        simp [Order.cells]
      simp [e1 h0, h0, Order.rows, Order.cells, ha3, hg]
      refine ⟨fun g => ⟨a - 1, Wk.weak (ρ := [0]) (φ := []) (by simp), ⟨g, by omega⟩, by omega⟩, fun g => ⟨ha2, hone _ fun r hr => List.mem_of_mem_take hr, by omega, by omega, by simp [rowsOne], by omega, by omega, ha2, hone _ fun r hr => List.mem_of_mem_drop (List.mem_of_mem_take hr), by omega, by omega, Wk.weak (ρ := [1]) (φ := []) ?_⟩⟩
      obtain rfl : a = cutO l x.id := by omega
      simp [hL, addCode, h1, h2, hf', hn', Order.cells]
      rw [List.take_of_length_le (by simp)]
    · have h00 : a = 0 := by omega
      subst h00
      have hc : cutO l x.id = 0 := by omega
      have hone : rowsOne (l.map Order.cells) := Order.rowsOne l
      have htk : (l.map Order.cells).take l.length = l.map Order.cells := List.take_of_length_le (by simp)
      simp [Order.rows, Order.cells, htk, hone]
      refine ⟨by first | exact hone | omega | simp [rowsOne], by first | exact hone | omega | simp [rowsOne], by first | exact hone | omega | simp [rowsOne], by first | exact hone | omega | simp [rowsOne], Wk.weak (ρ := [1]) (φ := []) ?_⟩
      simp [hL, hc, addCode, h1, h2, hf', hn', Order.cells]
end Go.Proofs.YtjeioaeipffifaaGreatDoor
