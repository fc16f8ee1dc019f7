/- Contracts: slices.BinarySearchFunc.; Contracts: an order's place in a list.; Contracts: an order is removed. -/
import Derived.Test.YtjeioaeipffifaaGreatDoorDd
import Derived.Test.YtjeioaeipffifaaGreatDoorLOrder
-- from Eb
namespace Go.Proofs.YtjeioaeipffifaaGreatDoor
open Go Go.Ab
set_option maxRecDepth 100000

/-- Where what is less ends, if all that is less lies ahead. -/
structure Cut (n : Nat) (c : Nat → Int) (p : Nat) : Prop where
  le : p ≤ n
  lo : ∀ i, i < p → c i < 0
  hi : ∀ i, p ≤ i → i < n → 0 ≤ c i

theorem mid_eq (i j : Nat) (h : i + j ≤ 9223372036854775807) : IntKind.i64.wrap ((IntKind.u64.wrap (IntKind.i64.wrap ((i : Int) + j))).fdiv (2 ^ min 1 IntKind.u64.bits)) = (((i + j) / 2 : Nat) : Int) := by
  rw [w64 (n := (i : Int) + j) (by omega) (by omega)]
  have e : IntKind.u64.wrap ((i : Int) + j) = ((i : Int) + j) % 18446744073709551616 := rfl
  have e2 : (2 : Int) ^ min 1 IntKind.u64.bits = 2 := rfl
  rw [e, e2, Int.fdiv_eq_ediv_of_nonneg _ (by omega)]
  rw [w64 (by omega) (by omega)]
  omega

theorem c_BSearchOrder (l : List Order) (s : List UInt8) (c : Nat → Int) (p : Nat) (hl : l.length ≤ 1048576) (hp : Cut l.length c p)
    (hc : ∀ i (h : i < l.length), HFn Tryz.prog 98 [.agg l[i].cells, .str s] [] (.int .i64 (c i)) []) :
    HFn Tryz.prog 97 [.sl 5 (Order.rows l), .str s, .fn 98 []] [] (.tup [.int .i64 p, .bool (decide (p < l.length) && decide (c p = 0))]) [] := by
  refine hfn_intro hm Tryz.func97 (by kernel_rfl) rfl (by kernel_rfl) rfl ret0_ok ?_
  simp
  refine loop_rule hm (ι := {x : Nat × Nat // x.1 ≤ p ∧ p ≤ x.2 ∧ x.2 ≤ l.length}) (fun x => ⟨[(0, .sl 5 (Order.rows l)), (1, .str s), (2, .fn 98 []), (8, .int .i64 l.length), (9, .int .i64 x.1.1), (10, .int .i64 x.1.2)], []⟩) (fun x => x.1.2 - x.1.1) (by kernel_rfl) ⟨(0, l.length), by have := hp.le; omega⟩ ?_ ?_
  · refine Wk.weak (ρ := []) (φ := []) ?_
    simp [Order.rows]
  · rintro ⟨⟨i, j⟩, h1, h2, h3⟩
    simp only at h1 h2 h3 ⊢
    by_cases hij : i < j
    · obtain ⟨k, hk⟩ : ∃ k, k = (i + j) / 2 := ⟨_, rfl⟩
      have hmid := mid_eq i j (by omega)
      rw [← hk] at hmid
      have hm1 : k < l.length := by omega
      have hw1 : IntKind.i64.wrap ((k : Int) + 1) = ((k + 1 : Nat) : Int) := by rw [w64 (by omega) (by omega)]; omega
      simp [hmid, hij, Order.rows, Order.cells, hm1]
      refine CallZ.use0 (hc _ hm1) rfl rfl ?_
      have c1 := hp.lo k
      have c2 := hp.hi k
      simp
      refine ⟨fun h => ?_, fun h => ?_⟩
      · refine ⟨k + 1, j, Wk.weak (ρ := []) (φ := []) ?_, by omega, by omega⟩
        simp [hw1]
      · refine ⟨i, k, Wk.weak (ρ := []) (φ := []) ?_, by omega, by omega⟩
        simp
    · obtain rfl : i = p := by omega
      obtain rfl : i = j := by omega
      simp
      by_cases hip : i < l.length
      · simp [Order.rows, Order.cells, hip]
        refine CallY.use (fun _ => ⟨rfl, hc _ hip⟩) rfl rfl ?_
        simp
      · simp [Order.rows, hip]
        refine CallY.use (res := .int .i64 0) (fun h => absurd h (by simp)) rfl rfl ?_
        simp
end Go.Proofs.YtjeioaeipffifaaGreatDoor
-- from Ec
namespace Go.Proofs.YtjeioaeipffifaaGreatDoor
open Go Go.Ab
set_option maxRecDepth 100000

theorem c_isNaNStr (a : List UInt8) : HFn Tryz.prog 148 [.str a] [] (.bool false) [] := by
  refine hfn_intro hm Tryz.func148 (by kernel_rfl) rfl (by kernel_rfl) rfl ret0_ok ?_
  simp

/-- What cmp.Compare says of strings. -/
def cmpS (a b : List UInt8) : Int := if Op.bytesLess a b = true then -1 else if a = b then 0 else 1
theorem c_CompareStr (a b : List UInt8) : HFn Tryz.prog 99 [.str a, .str b] [] (.int .i64 (cmpS a b)) [] := by
  refine hfn_intro hm Tryz.func99 (by kernel_rfl) rfl (by kernel_rfl) rfl ret0_ok ?_
  simp
  refine CallZ.use0 (c_isNaNStr _) rfl rfl ?_
  simp
  refine CallZ.use0 (c_isNaNStr _) rfl rfl ?_
  simp [cmpS]
  grind
theorem cmpS_neg {a b : List UInt8} : cmpS a b < 0 ↔ Op.bytesLess a b = true := by unfold cmpS; grind
theorem bytesLess_irr (a : List UInt8) : Op.bytesLess a a = false := by rw [bytesLess_lt]; simp [List.lt_irrefl]
theorem cmpS_zero {a b : List UInt8} : cmpS a b = 0 ↔ a = b := by
  unfold cmpS
  by_cases e : a = b
  · subst e; simp [bytesLess_irr]
  · grind
theorem cmpS_nn {a b : List UInt8} (h : Op.bytesLess a b = false) : 0 ≤ cmpS a b := by unfold cmpS; grind

theorem c_orderAt1 (x : Order) (s : List UInt8) : HFn Tryz.prog 98 [.agg x.cells, .str s] [] (.int .i64 (cmpS x.id s)) [] := by
  refine hfn_intro hm Tryz.func98 (by kernel_rfl) rfl (by kernel_rfl) rfl ret0_ok ?_
  simp [Order.cells]
  refine CallZ.use0 (c_CompareStr _ _) rfl rfl ?_
  simp

/-- The place of the first order that is not less than an id. -/
def cutO (l : List Order) (s : List UInt8) : Nat := l.findIdx fun x => !Op.bytesLess x.id s
def cmpO (l : List Order) (s : List UInt8) (i : Nat) : Int := match l[i]? with
  | some x => cmpS x.id s
  | none => 1
theorem cmpO_at {l : List Order} {i : Nat} (hi : i < l.length) (s : List UInt8) : cmpO l s i = cmpS l[i].id s := by simp [cmpO, hi]

theorem valid_lt {l : List Order} (h : validOrders l = true) {i j : Nat} (hij : i < j) (hj : j < l.length) : l[i].id < l[j].id := by
  have step : ∀ k, (hk : k + 1 < l.length) → l[k].id < l[k + 1].id := fun k hk => by
    unfold validOrders at h
    simp only [Bool.and_eq_true] at h
    have h1 := List.all_eq_true.1 h.1 (k + 1) (List.mem_range.2 hk)
    have e1 := List.getElem?_eq_getElem hk
    have e2 := List.getElem?_eq_getElem (show k < l.length by omega)
    simp [orderAt, e1, e2] at h1
    have h2 := h1.2
    rw [bytesLess_lt] at h2
    simpa using h2
  induction j with
  | zero => omega
  | succ j ih =>
    by_cases e : i = j
    · subst e; exact step i hj
    · exact List.lt_trans (ih (by omega) (by omega) (fun k hk => step k hk)) (step j hj)

theorem cutO_cut {l : List Order} (h : validOrders l = true) (s : List UInt8) : Cut l.length (cmpO l s) (cutO l s) := by
  refine ⟨List.findIdx_le_length, fun i hi => ?_, fun i h1 h2 => ?_⟩
  · have hl : i < l.length := Nat.lt_of_lt_of_le hi List.findIdx_le_length
    rw [cmpO_at hl, cmpS_neg]
    have := List.not_of_lt_findIdx hi
    simpa using this
  · rw [cmpO_at h2]
    refine cmpS_nn ?_
    have hp : cutO l s < l.length := by omega
    have hg : (!Op.bytesLess l[cutO l s].id s) = true := List.findIdx_getElem (w := hp)
    by_cases e : i = cutO l s
    · subst e; simpa using hg
    · have h3 := valid_lt h (i := cutO l s) (j := i) (by omega) h2
      rw [bytesLess_lt] at hg ⊢
      simp only [Bool.not_eq_true', decide_eq_false_iff_not] at hg ⊢
      exact fun h4 => hg (List.lt_trans h3 h4)

/-- An order's index, or -1. -/
def findO (l : List Order) (s : List UInt8) : Int := findI (fun x => decide (x.id = s)) l
def foundO (l : List Order) (s : List UInt8) : Bool := decide (cutO l s < l.length) && decide (cmpO l s (cutO l s) = 0)

theorem findO_eq {l : List Order} (h : validOrders l = true) (s : List UInt8) : findO l s = if foundO l s = true then (cutO l s : Int) else -1 := by
  have hc := cutO_cut h s
  unfold foundO
  split
  · rename_i hf
    simp only [Bool.and_eq_true, decide_eq_true_eq] at hf
    obtain ⟨h1, h2⟩ := hf
    rw [cmpO_at h1, cmpS_zero] at h2
    refine findI_at h1 (by simpa using h2) fun j hj hlt => ?_
    have := hc.lo j hlt
    rw [cmpO_at hj] at this
    simp only [decide_eq_false_iff_not]
    intro e
    rw [cmpS_zero.2 e] at this
    omega
  · rename_i hf
    refine findI_none fun j hj => ?_
    simp only [decide_eq_false_iff_not]
    intro e
    apply hf
    have e0 := cmpS_zero.2 e
    have hle : cutO l s ≤ j := by
      by_cases g : j < cutO l s
      · have := hc.lo j g
        rw [cmpO_at hj] at this
        omega
      · omega
    by_cases g : j = cutO l s
    · subst g
      simp [hj, cmpO_at hj, e0]
    · exfalso
      have hp : cutO l s < l.length := by omega
      have h1 := hc.hi (cutO l s) (Nat.le_refl _) hp
      rw [cmpO_at hp] at h1
      have h2 := valid_lt h (i := cutO l s) (j := j) (by omega) hj
      rw [e, ← decide_eq_true_iff (p := _ < s), ← bytesLess_lt, ← cmpS_neg] at h2
      omega

theorem c_orderAt (l : List Order) (s : List UInt8) (hl : l.length ≤ 1048576) (h : validOrders l = true) :
    HFn Tryz.prog 48 [.sl 5 (Order.rows l), .str s] [] (.tup [.int .i64 (cutO l s), .bool (foundO l s)]) [] := by
  refine hfn_intro hm Tryz.func48 (by kernel_rfl) rfl (by kernel_rfl) rfl ret0_ok ?_
  simp
  refine CallZ.use0 (c_BSearchOrder l s (cmpO l s) (cutO l s) hl (cutO_cut h s) (fun i hi => by rw [cmpO_at hi]; exact c_orderAt1 _ _)) rfl rfl ?_
  simp [foundO]

theorem c_l29Find (l : List Order) (s : List UInt8) (hl : l.length ≤ 1048576) : HFn Tryz.prog 142 [.sl 5 (Order.rows l), .str s] [] (.int .i64 (findO l s)) [] := by
  refine hfn_intro hm Tryz.func142 (by kernel_rfl) rfl (by kernel_rfl) rfl ret0_ok ?_
  simp
  refine loop_upto hm l.length (fun i => ⟨[(0, .sl 5 (Order.rows l)), (1, .str s), (5, .int .i64 i)], []⟩) (fun i => ∀ j (hj : j < l.length), j < i → decide (l[j].id = s) = false) (by kernel_rfl) ?_ (fun j _ h => by omega) (fun i hi hI => ?_) (fun hI => ?_)
  · refine Wk.weak (ρ := []) (φ := []) ?_
    simp
  · simp [Order.rows, Order.cells, hi]
    refine ⟨fun h => ?_, fun h => ⟨fun j hj hji => ?_, ?_⟩⟩
    · exact (findI_at hi (by simpa using h) fun j hj hji => hI j hj hji).symm
    · by_cases e : j = i
      · subst e; exact h
      · simpa using hI j hj (by omega)
    · refine Wk.weak (ρ := []) (φ := []) ?_
      simp
      exact w64 (by omega) (by omega)
  · simp [Order.rows, findO]
    exact (findI_none fun j hj => hI j hj hj).symm
end Go.Proofs.YtjeioaeipffifaaGreatDoor
-- from Ed
namespace Go.Proofs.YtjeioaeipffifaaGreatDoor
open Go Go.Ab
set_option maxRecDepth 100000

/-- What DropOrder hands back. -/
def dropCode (l : List Order) (s : List UInt8) : Int := if validOrders l = true then (if findO l s < 0 then 3 else 0) else 1
def dropL (l : List Order) (s : List UInt8) : List Order := if dropCode l s = 0 then l.take (findO l s).toNat ++ l.drop ((findO l s).toNat + 1) else []

theorem findI_lt {α : Type} {p : α → Bool} {l : List α} : findI p l < l.length := by
  unfold findI
  cases h : l.findIdx? p with
  | none => simp only; omega
  | some k =>
    obtain ⟨h1, _⟩ := List.findIdx?_eq_some_iff_getElem.1 h
    simp only
    omega
theorem dropL_le (l : List Order) (s : List UInt8) : (dropL l s).length ≤ l.length := by
  unfold dropL
  split
  · rw [List.length_append, List.length_take, List.length_drop]
    omega
  · simp

theorem Order.rowsOne (l : List Order) : rowsOne (Order.rows l) := fun r hr => by
  obtain ⟨x, _, rfl⟩ := List.mem_map.1 hr
  simp [Order.cells]

theorem c_impl_DropOrder (l : List Order) (s : List UInt8) (hl : l.length ≤ 1048576) :
    HFn Tryz.prog 13 [.sl 5 (Order.rows l), .str s] [] (.tup [.sf 0 5, .int .i64 (dropCode l s)]) [some (.arr 5 (Order.rows (dropL l s)))] := by
  refine hfn_intro hm Tryz.func13 (by kernel_rfl) rfl (by kernel_rfl) rfl (fun _ _ h => h) ?_
  simp
  refine CallZ.use0 (c_impl_ValidOrders l hl) rfl rfl ?_
  simp
  refine ⟨fun h => ?_, fun h => ?_⟩
  · refine (weak_nilT (t := 0) 0 5 rfl rfl).trans (Wk.weak (ρ := [0]) (φ := []) ?_)
    simp [dropL, dropCode, h, Order.rows]
  refine CallZ.use0 (c_orderAt l s hl h) rfl rfl ?_
  simp
  have hf := findO_eq h s
  refine ⟨fun hk => ?_, fun hk => ?_⟩
  · rw [hk] at hf
    refine (weak_nilT (t := 0) 0 5 rfl rfl).trans (Wk.weak (ρ := [0]) (φ := []) ?_)
    simp [dropL, dropCode, h, hf, Order.rows]
  rw [hk, if_pos rfl] at hf
  have hlt : cutO l s < l.length := by
    unfold foundO at hk
    simp only [Bool.and_eq_true, decide_eq_true_eq] at hk
    exact hk.1
  have hw : IntKind.i64.wrap ((cutO l s : Int) + 1) = ((cutO l s + 1 : Nat) : Int) := by rw [w64 (by omega) (by omega)]; omega
  refine CallZ.use (c_CloneOrder (Order.rows l) (Order.rowsOne l) (by rw [Order.rows_len]; exact hl)) rfl (.inr ⟨Order.flat _, trivial⟩) rfl rfl ?_
  simp [hw, -Int.natCast_add]
  refine CallZ.useM [0] [] [0] (c_DeleteOrder (Order.rows l) (cutO l s) (cutO l s + 1) (Order.rowsOne l) (by omega) (by rw [Order.rows_len]; exact hlt) (by rw [Order.rows_len]; exact hl)) (by simp) rfl rfl (by simp) rfl rfl rfl (.inl rfl) ?_
  simp
  have hL : dropL l s = l.take (cutO l s) ++ l.drop (cutO l s + 1) := by
    have hd : dropCode l s = 0 := by simp [dropCode, h, hf]
    unfold dropL
    rw [if_pos hd, hf]
    rfl
  refine Wk.weak (ρ := [0]) (φ := []) ?_
  simp [hL, Order.rows, dropCode, h, hf]
end Go.Proofs.YtjeioaeipffifaaGreatDoor
