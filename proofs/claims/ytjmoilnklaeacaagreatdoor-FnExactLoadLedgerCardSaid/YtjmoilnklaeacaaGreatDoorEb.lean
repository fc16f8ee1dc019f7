/- Contracts: slices.BinarySearchFunc. -/
import Derived.Test.YtjmoilnklaeacaaGreatDoorDd
import Derived.Test.YtjmoilnklaeacaaGreatDoorLOrder
namespace Go.Proofs.YtjmoilnklaeacaaGreatDoor
open Go Go.Ab
set_option maxRecDepth 100000

/-- Where what is less ends, if all that is less lies ahead. -/
structure Cut (n : Nat) (c : Nat → Int) (p : Nat) : Prop where
  le : p ≤ n
  lo : ∀ i, i < p → c i < 0
  hi : ∀ i, p ≤ i → i < n → 0 ≤ c i

theorem mid_eq (i j : Nat) (h : i + j ≤ 9223372036854775807) : IntKind.i64.wrap ((IntKind.u64.wrap (IntKind.i64.wrap ((i : Int) + j))).fdiv (2 ^ min 1 IntKind.u64.bits)) = (((i + j) / 2 : Nat) : Int) := by
  rw [w64 (n := (i : Int) + j) (by omega) (by omega)]
  have e : IntKind.u64.wrap ((i : Int) + j) = ((i : Int) + j) % 18446744073709551616 := rfl
  have e2 : (2 : Int) ^ min 1 IntKind.u64.bits = 2 := rfl
  rw [e, e2, Int.fdiv_eq_ediv_of_nonneg _ (by omega)]
  rw [w64 (by omega) (by omega)]
  omega

theorem c_BSearchOrder (l : List Order) (s : List UInt8) (c : Nat → Int) (p : Nat) (hl : l.length ≤ 1048576) (hp : Cut l.length c p)
    (hc : ∀ i (h : i < l.length), HFn Tryz.prog 123 [.agg l[i].cells, .str s] [] (.int .i64 (c i)) []) :
    HFn Tryz.prog 122 [.sl 5 (Order.rows l), .str s, .fn 123 []] [] (.tup [.int .i64 p, .bool (decide (p < l.length) && decide (c p = 0))]) [] := by
  refine hfn_intro hm Tryz.func122 (by kernel_rfl) rfl (by kernel_rfl) rfl ret0_ok ?_
  simp
  refine loop_rule hm (ι := {x : Nat × Nat // x.1 ≤ p ∧ p ≤ x.2 ∧ x.2 ≤ l.length}) (fun x => ⟨[(0, .sl 5 (Order.rows l)), (1, .str s), (2, .fn 123 []), (8, .int .i64 l.length), (9, .int .i64 x.1.1), (10, .int .i64 x.1.2)], []⟩) (fun x => x.1.2 - x.1.1) (by kernel_rfl) ⟨(0, l.length), by have := hp.le; omega⟩ ?_ ?_
  · refine Wk.weak (ρ := []) (φ := []) ?_
    simp [Order.rows]
  · rintro ⟨⟨i, j⟩, h1, h2, h3⟩
    simp only at h1 h2 h3 ⊢
    by_cases hij : i < j
    · obtain ⟨k, hk⟩ : ∃ k, k = (i + j) / 2 := ⟨_, rfl⟩
      have hmid := mid_eq i j (by omega)
      rw [← hk] at hmid
      have hm1 : k < l.length := by omega
      have hw1 : IntKind.i64.wrap ((k : Int) + 1) = ((k + 1 : Nat) : Int) := by rw [w64 (by omega) (by omega)]; omega
      simp [hmid, hij, Order.rows, Order.cells, hm1]
      refine CallZ.use0 (hc _ hm1) rfl rfl ?_
      have c1 := hp.lo k
      have c2 := hp.hi k
      simp
      refine ⟨fun h => ?_, fun h => ?_⟩
      · refine ⟨k + 1, j, Wk.weak (ρ := []) (φ := []) ?_, by omega, by omega⟩
        simp [hw1]
      · refine ⟨i, k, Wk.weak (ρ := []) (φ := []) ?_, by omega, by omega⟩
        simp
    · obtain rfl : i = p := by omega
      obtain rfl : i = j := by omega
      simp
      by_cases hip : i < l.length
      · simp [Order.rows, Order.cells, hip]
        refine CallY.use (fun _ => ⟨rfl, hc _ hip⟩) rfl rfl ?_
        simp
      · simp [Order.rows, hip]
        refine CallY.use (res := .int .i64 0) (fun h => absurd h (by simp)) rfl rfl ?_
        simp
end Go.Proofs.YtjmoilnklaeacaaGreatDoor
