/- From what a row lists of package-level variables to what the walks lean on. No condition. -/
import Derived.Test.YtnphmemhejhooaaDoorAby
import Derived.Lib.LaidTab
import Derived.MakeChecks
import Derived.LaidMore
import Derived.LaidHandle
namespace Go.Ab
variable {P : Program} {W : World}

theorem tab_of_var {name : String} {g : Nat} {cs : Array Value} {zs : List Int} {k : IntKind} (A : Nat → Prop) (hg : P.globalNamed name = some g) (hv : W.var? P name = some cs) (hc : cs.toList = zs.map fun z => Value.int k z) :
    g < W.heap.size ∧ ∃ us e fz, W.heap[g]? = some (.cells us e fz) ∧ us.size = (zs.map fun z => PV.int k z).length ∧ ∀ (i : Nat) (c : PV), (zs.map fun z => PV.int k z)[i]? = some c → RepI A W c (us.getD i undef) := by
  unfold World.var? at hv
  rw [hg, Option.bind_some] at hv
  split at hv
  · rename_i us e fz hw
    obtain rfl : us = cs := Option.some.inj hv
    refine ⟨(Array.getElem?_eq_some_iff.1 hw).1, us, e, fz, hw, ?_, fun i c hi => ?_⟩
    · rw [List.length_map, ← Array.length_toList, hc, List.length_map]
    · rw [List.getElem?_map] at hi
      cases hz : zs[i]? with
      | none => rw [hz] at hi; cases hi
      | some z =>
        rw [hz] at hi
        cases hi
        have : us.toList[i]? = some (.int k z) := by rw [hc, List.getElem?_map, hz]; rfl
        rw [Array.getElem?_toList] at this
        rw [Array.getD_eq_getD_getElem?, this]
        exact .int k z
  · cases hv
end Go.Ab
