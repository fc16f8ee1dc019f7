/- Contracts: slices.BinarySearchFunc.; Contracts: an order's place in a list.; Contracts: an order is removed. Contracts: pins that are searched, drums that are copied.; Lists in order, searched by comparing; pins that are removed.; Contracts: a pin is removed. Contracts: the active ones of records.; Contracts: keys of a state.; Contracts: the state after records: one step.; Contracts: the state after records, and whether a record can follow.; Contracts: the state after records, as the other side computes it.; Contracts: whether a record can follow others, and whether records are a ledger.; Contracts: a ledger's active records, its states, and what is added to it. -/
import Derived.Test.YtcjpfjklhhclmaaGreatDoorCe
import Derived.Test.YtcjpfjklhhclmaaGreatDoorTI
import Derived.Test.YtcjpfjklhhclmaaGreatDoorCk
import Derived.Test.YtcjpfjklhhclmaaGreatDoorTy
import Derived.Test.YtcjpfjklhhclmaaGreatDoorKc
import Derived.Lib.Overlaps
import Derived.Laws.Externs
import Derived.Test.YtcjpfjklhhclmaaGreatDoorAcj
-- from Eb
namespace Go.Proofs.YtcjpfjklhhclmaaGreatDoor
open Go Go.Ab
set_option maxRecDepth 100000

/-- Where what is less ends, if all that is less lies ahead. -/
structure Cut (n : Nat) (c : Nat → Int) (p : Nat) : Prop where
  le : p ≤ n
  lo : ∀ i, i < p → c i < 0
  hi : ∀ i, p ≤ i → i < n → 0 ≤ c i

theorem mid_eq (i j : Nat) (h : i + j ≤ 9223372036854775807) : IntKind.i64.wrap ((IntKind.u64.wrap (IntKind.i64.wrap ((i : Int) + j))).fdiv (2 ^ min 1 IntKind.u64.bits)) = (((i + j) / 2 : Nat) : Int) := by
  rw [w64 (n := (i : Int) + j) (by omega) (by omega)]
  have e : IntKind.u64.wrap ((i : Int) + j) = ((i : Int) + j) % 18446744073709551616 := rfl
  have e2 : (2 : Int) ^ min 1 IntKind.u64.bits = 2 := rfl
  rw [e, e2, Int.fdiv_eq_ediv_of_nonneg _ (by omega)]
  rw [w64 (by omega) (by omega)]
  omega

end Go.Proofs.YtcjpfjklhhclmaaGreatDoor
-- from Ec
namespace Go.Proofs.YtcjpfjklhhclmaaGreatDoor
open Go Go.Ab
set_option maxRecDepth 100000

theorem c_isNaNStr (a : List UInt8) : HFn Tryz.prog 365 [.str a] [] (.bool false) [] := by
  refine hfn_intro hm Tryz.func365 (by kernel_rfl) rfl (by kernel_rfl) rfl ret0_ok ?_
  simp

/-- What cmp.Compare says of strings. -/
def cmpS (a b : List UInt8) : Int := if Op.bytesLess a b = true then -1 else if a = b then 0 else 1
theorem c_CompareStr (a b : List UInt8) : HFn Tryz.prog 349 [.str a, .str b] [] (.int .i64 (cmpS a b)) [] := by
  refine hfn_intro hm Tryz.func349 (by kernel_rfl) rfl (by kernel_rfl) rfl ret0_ok ?_
  simp
  refine CallZ.use0 (c_isNaNStr _) rfl rfl ?_
  simp
  refine CallZ.use0 (c_isNaNStr _) rfl rfl ?_
  simp [cmpS]
  grind
theorem cmpS_neg {a b : List UInt8} : cmpS a b < 0 ↔ Op.bytesLess a b = true := by unfold cmpS; grind
theorem bytesLess_irr (a : List UInt8) : Op.bytesLess a a = false := by rw [bytesLess_lt]; simp [List.lt_irrefl]
theorem cmpS_zero {a b : List UInt8} : cmpS a b = 0 ↔ a = b := by
  unfold cmpS
  by_cases e : a = b
  · subst e; simp [bytesLess_irr]
  · grind
end Go.Proofs.YtcjpfjklhhclmaaGreatDoor
-- from Ed
namespace Go.Proofs.YtcjpfjklhhclmaaGreatDoor
open Go Go.Ab
set_option maxRecDepth 100000

end Go.Proofs.YtcjpfjklhhclmaaGreatDoor

-- from Fc
namespace Go.Proofs.YtcjpfjklhhclmaaGreatDoor
open Go Go.Ab
set_option maxRecDepth 100000

end Go.Proofs.YtcjpfjklhhclmaaGreatDoor
-- from Fd
namespace Go.Proofs.YtcjpfjklhhclmaaGreatDoor
open Go Go.Ab
set_option maxRecDepth 100000

/-! ### The plain law -/
/-- A list in order, where c compares with what is looked for. -/
def InOrder {α : Type} (l : List α) (c : α → Int) : Prop := ∀ i j (hi : i < l.length) (hj : j < l.length), i < j → c l[j] ≤ 0 → c l[i] < 0
def cutG {α : Type} (l : List α) (c : α → Int) : Nat := l.findIdx fun x => decide (0 ≤ c x)
def foundG {α : Type} (l : List α) (c : α → Int) : Bool := match l[cutG l c]? with
  | some x => decide (c x = 0)
  | none => false
def findG {α : Type} (l : List α) (c : α → Int) : Int := findI (fun x => decide (c x = 0)) l
def cAt {α : Type} (l : List α) (c : α → Int) (i : Nat) : Int := match l[i]? with
  | some x => c x
  | none => 1
theorem cAt_eq {α : Type} {l : List α} {c : α → Int} {i : Nat} (hi : i < l.length) : cAt l c i = c l[i] := by simp [cAt, hi]
theorem cutG_cut {α : Type} {l : List α} {c : α → Int} (h : InOrder l c) : Cut l.length (cAt l c) (cutG l c) := by
  refine ⟨List.findIdx_le_length, fun i hi => ?_, fun i h1 h2 => ?_⟩
  · have hl : i < l.length := Nat.lt_of_lt_of_le hi List.findIdx_le_length
    rw [cAt_eq hl]
    have := List.not_of_lt_findIdx hi
    simpa using this
  · rw [cAt_eq h2]
    have hp : cutG l c < l.length := by omega
    have hg : decide (0 ≤ c l[cutG l c]) = true := List.findIdx_getElem (w := hp)
    have hg : 0 ≤ c l[cutG l c] := by simpa using hg
    by_cases e : i = cutG l c
    · subst e; exact hg
    · by_cases h3 : 0 ≤ c l[i]
      · exact h3
      · have := h (cutG l c) i hp h2 (by omega) (by omega)
        omega
theorem foundG_at {α : Type} (l : List α) (c : α → Int) : foundG l c = (decide (cutG l c < l.length) && decide (cAt l c (cutG l c) = 0)) := by
  unfold foundG cAt
  by_cases h : cutG l c < l.length
  · simp [h]
  · rw [List.getElem?_eq_none (by omega)]; simp [h]
theorem findG_eq {α : Type} {l : List α} {c : α → Int} (h : InOrder l c) : findG l c = if foundG l c = true then (cutG l c : Int) else -1 := by
  have hc := cutG_cut h
  rw [foundG_at]
  split
  · rename_i hf
    simp only [Bool.and_eq_true, decide_eq_true_eq] at hf
    obtain ⟨h1, h2⟩ := hf
    rw [cAt_eq h1] at h2
    refine findI_at h1 (by simpa using h2) fun j hj hlt => ?_
    have := hc.lo j hlt
    rw [cAt_eq hj] at this
    simp only [decide_eq_false_iff_not]
    omega
  · rename_i hf
    refine findI_none fun j hj => ?_
    simp only [decide_eq_false_iff_not]
    intro e
    apply hf
    have hle : cutG l c ≤ j := by
      by_cases g : j < cutG l c
      · have := hc.lo j g
        rw [cAt_eq hj] at this
        omega
      · omega
    by_cases g : j = cutG l c
    · subst g
      simp [hj, cAt_eq hj, e]
    · exfalso
      have hp : cutG l c < l.length := by omega
      have h1 := hc.hi (cutG l c) (Nat.le_refl _) hp
      rw [cAt_eq hp] at h1
      have := h (cutG l c) j hp hj (by omega) (by omega)
      omega
end Go.Proofs.YtcjpfjklhhclmaaGreatDoor
-- from Fe
namespace Go.Proofs.YtcjpfjklhhclmaaGreatDoor
open Go Go.Ab
set_option maxRecDepth 100000

end Go.Proofs.YtcjpfjklhhclmaaGreatDoor

-- from Ha
namespace Go.Proofs.YtcjpfjklhhclmaaGreatDoor
open Go Go.Ab
set_option maxRecDepth 100000

theorem intRows_app (a b : List Int) : intRows (a ++ b) = intRows a ++ intRows b := by simp [intRows]
end Go.Proofs.YtcjpfjklhhclmaaGreatDoor
-- from Hb
namespace Go.Proofs.YtcjpfjklhhclmaaGreatDoor
open Go Go.Ab
set_option maxRecDepth 100000

/-! ### States: keys in order -/
end Go.Proofs.YtcjpfjklhhclmaaGreatDoor
-- from Hc
namespace Go.Proofs.YtcjpfjklhhclmaaGreatDoor
open Go Go.Ab
set_option maxRecDepth 100000

end Go.Proofs.YtcjpfjklhhclmaaGreatDoor
-- from Hd
namespace Go.Proofs.YtcjpfjklhhclmaaGreatDoor
open Go Go.Ab
set_option maxRecDepth 100000

end Go.Proofs.YtcjpfjklhhclmaaGreatDoor
-- from He
namespace Go.Proofs.YtcjpfjklhhclmaaGreatDoor
open Go Go.Ab
set_option maxRecDepth 100000

theorem intRows_get (S : List Int) {i : Nat} (h : i < (intRows S).length) : (intRows S)[i] = [.int .i64 (S[i]'(by rw [intRows_len] at h; exact h))] := by simp [intRows]

end Go.Proofs.YtcjpfjklhhclmaaGreatDoor
-- from Hf
namespace Go.Proofs.YtcjpfjklhhclmaaGreatDoor
open Go Go.Ab
set_option maxRecDepth 100000

end Go.Proofs.YtcjpfjklhhclmaaGreatDoor
-- from Hg
namespace Go.Proofs.YtcjpfjklhhclmaaGreatDoor
open Go Go.Ab
set_option maxRecDepth 100000

end Go.Proofs.YtcjpfjklhhclmaaGreatDoor
