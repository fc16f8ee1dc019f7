/- Contracts: slices.BinarySearchFunc.; Contracts: an order's place in a list.; Contracts: an order is removed. -/
import Derived.Test.YtaidbadmhepccaaGreatCf
import Derived.Test.YtaidbadmhepccaaGreatTI
import Derived.Test.YtaidbadmhepccaaGreatCm
import Derived.Test.YtaidbadmhepccaaGreatTy
import Derived.Test.YtaidbadmhepccaaGreatKc
import Derived.Lib.Overlaps
import Derived.Laws.Externs
-- from Eb
namespace Go.Proofs.YtaidbadmhepccaaGreat
open Go Go.Ab
set_option maxRecDepth 100000

/-- Where what is less ends, if all that is less lies ahead. -/
structure Cut (n : Nat) (c : Nat → Int) (p : Nat) : Prop where
  le : p ≤ n
  lo : ∀ i, i < p → c i < 0
  hi : ∀ i, p ≤ i → i < n → 0 ≤ c i

theorem mid_eq (i j : Nat) (h : i + j ≤ 9223372036854775807) : IntKind.i64.wrap ((IntKind.u64.wrap (IntKind.i64.wrap ((i : Int) + j))).fdiv (2 ^ min 1 IntKind.u64.bits)) = (((i + j) / 2 : Nat) : Int) := by
  rw [w64 (n := (i : Int) + j) (by omega) (by omega)]
  have e : IntKind.u64.wrap ((i : Int) + j) = ((i : Int) + j) % 18446744073709551616 := rfl
  have e2 : (2 : Int) ^ min 1 IntKind.u64.bits = 2 := rfl
  rw [e, e2, Int.fdiv_eq_ediv_of_nonneg _ (by omega)]
  rw [w64 (by omega) (by omega)]
  omega

end Go.Proofs.YtaidbadmhepccaaGreat
-- from Ec
namespace Go.Proofs.YtaidbadmhepccaaGreat
open Go Go.Ab
set_option maxRecDepth 100000

theorem c_isNaNStr (a : List UInt8) : HFn Tryz.prog 272 [.str a] [] (.bool false) [] := by
  refine hfn_intro hm Tryz.func272 (by kernel_rfl) rfl (by kernel_rfl) rfl ret0_ok ?_
  simp

/-- What cmp.Compare says of strings. -/
def cmpS (a b : List UInt8) : Int := if Op.bytesLess a b = true then -1 else if a = b then 0 else 1
theorem c_CompareStr (a b : List UInt8) : HFn Tryz.prog 266 [.str a, .str b] [] (.int .i64 (cmpS a b)) [] := by
  refine hfn_intro hm Tryz.func266 (by kernel_rfl) rfl (by kernel_rfl) rfl ret0_ok ?_
  simp
  refine CallZ.use0 (c_isNaNStr _) rfl rfl ?_
  simp
  refine CallZ.use0 (c_isNaNStr _) rfl rfl ?_
  simp [cmpS]
  grind
theorem cmpS_neg {a b : List UInt8} : cmpS a b < 0 ↔ Op.bytesLess a b = true := by unfold cmpS; grind
theorem bytesLess_irr (a : List UInt8) : Op.bytesLess a a = false := by rw [bytesLess_lt]; simp [List.lt_irrefl]
theorem cmpS_zero {a b : List UInt8} : cmpS a b = 0 ↔ a = b := by
  unfold cmpS
  by_cases e : a = b
  · subst e; simp [bytesLess_irr]
  · grind
end Go.Proofs.YtaidbadmhepccaaGreat
-- from Ed
namespace Go.Proofs.YtaidbadmhepccaaGreat
open Go Go.Ab
set_option maxRecDepth 100000

end Go.Proofs.YtaidbadmhepccaaGreat
