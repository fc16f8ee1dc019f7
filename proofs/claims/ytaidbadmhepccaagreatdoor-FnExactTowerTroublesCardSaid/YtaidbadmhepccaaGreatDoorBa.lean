/- From contracts over memory to contracts over plain values. No condition. -/
import Derived.Test.YtaidbadmhepccaaGreatDoorKc
import Derived.Sort.Grow
import Derived.Deep.Draws
import Derived.Below
namespace Go.Ab
variable {P : Program} {A A' : Nat → Prop} {m m' : OMap} {h h' : OFun} {w w' : World}

/-- A contract's result may be taken for less. -/
theorem HFn.weak {f : FuncId} {args : List PV} {Hin Hout Hout' : Heap} {res res' : PV} (hf : HFn P f args Hin res Hout) (hw : Weak ⟨[(0, res)], Hout⟩ ⟨[(0, res')], Hout'⟩) : HFn P f args Hin res' Hout' := fun A m w vs hA hC hsz hargs => by
  have hmono : ∀ {R R' : Ending → World → Prop}, CallS P f vs w R → (∀ e w', R e w' → R' e w') → CallS P f vs w R' := fun h hR => h.mono hR
  refine hmono (hf A m w vs hA hC hsz hargs) fun e w' ⟨v, A1, m1, he, hc⟩ => ?_
  have hI : Inv ⟨w, A, OwnB m (getO Hin), fun _ => undef⟩ 1 ⟨[(0, res)], Hout⟩ { tmps := #[v], defers := [] } w' A1 m1 := by
    refine ⟨hc.moved, hc.sub, hc.aok, hc.conc, hc.own, fun t => ?_, rfl, rfl⟩
    by_cases ht : t = 0
    · subst ht
      exact hc.rep
    · have : slot [(0, res)] t = .top := by
        have e : (0 == t) = false := by simpa using fun h => ht h.symm
        simp [slot, e]
      rw [this]
      exact .topI _
  obtain ⟨A2, m2, hI2⟩ := hw _ _ _ _ _ _ hI
  exact ⟨v, A2, m2, he, ⟨hI2.moved, hI2.sub, hI2.aok, hI2.conc, hI2.own, hI2.fr 0⟩⟩

end Go.Ab
