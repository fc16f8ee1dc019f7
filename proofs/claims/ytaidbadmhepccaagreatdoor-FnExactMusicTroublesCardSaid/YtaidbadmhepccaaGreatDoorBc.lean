/- From what a row lists of package-level variables to what the walks lean on. No condition. -/
import Derived.Test.YtaidbadmhepccaaGreatDoorAby
import Derived.Lib.LaidTab
import Derived.MakeChecks
import Derived.LaidMore
import Derived.LaidHandle
import Derived.HandedShaped
import Derived.Lay
import Derived.Shelf.Vars
namespace Go.Ab
variable {P : Program} {W : World}

theorem tab_of_var {name : String} {g : Nat} {cs : Array Value} {zs : List Int} {k : IntKind} (A : Nat → Prop) (hg : P.globalNamed name = some g) (hv : W.var? P name = some cs) (hc : cs.toList = zs.map fun z => Value.int k z) :
    g < W.heap.size ∧ ∃ us e fz, W.heap[g]? = some (.cells us e fz) ∧ us.size = (zs.map fun z => PV.int k z).length ∧ ∀ (i : Nat) (c : PV), (zs.map fun z => PV.int k z)[i]? = some c → RepI A W c (us.getD i undef) := by
  unfold World.var? at hv
  rw [hg, Option.bind_some] at hv
  split at hv
  · rename_i us e fz hw
    obtain rfl : us = cs := Option.some.inj hv
    refine ⟨(Array.getElem?_eq_some_iff.1 hw).1, us, e, fz, hw, ?_, fun i c hi => ?_⟩
    · rw [List.length_map, ← Array.length_toList, hc, List.length_map]
    · rw [List.getElem?_map] at hi
      cases hz : zs[i]? with
      | none => rw [hz] at hi; cases hi
      | some z =>
        rw [hz] at hi
        cases hi
        have : us.toList[i]? = some (.int k z) := by rw [hc, List.getElem?_map, hz]; rfl
        rw [Array.getElem?_toList] at this
        rw [Array.getD_eq_getD_getElem?, this]
        exact .int k z
  · cases hv

theorem returnsInHanded_andS {H : Type} {enc : TypeId × Value → H} {a : Assume} {C : Checked} {os : Os} {f : FuncId} {fn : Func} {s : ChangeSpec} {conds : List PathCond} {apart fresh handsOn again : Bool} {X : World → Array Value → Prop}
    (hX : ∀ (w w' : World) (args : Array Value), w.heap = w'.heap → X w args → X w' args)
    (own : ownKnob C.prog.godebug = none) (started : os.Started) (noInit : C.prog.inits.idxOf? f = none) (hfn : C.prog.funcs[f]? = some fn)
    (witness : ∃ (w : World) (tape : Tape) (i : Input), w.os = os ∧ (w.forCall tape i).Shaped C.prog ∧ i.vars = [] ∧ Input.okWide C.prog (w.forCall tape i) .any w.heap.size f i ∧
      ((s.pre enc C.prog fn conds apart (w.forCall tape i).memory i.args ∧ X (w.forCall tape i).memory i.args) ∧ sizedMet enc C.prog fn (OpenSpec.ofChange s) apart (w.forCall tape i).memory i.args) ∧ a.holds C.prog (lone (Frame.enter C.prog f i.args .normal) [] (w.forCall tape i)))
    (contract : ∀ (W : World) (base : Nat) (args : Array Value) (ds gs : List (DataW H)) (before : List MemPlace),
      (∀ (j : Nat) t v, fn.params[j]? = some t → args[j]? = some v → Value.okWide C.prog W .any base t v) →
      DataW.Whole enc C.prog fn.params.toList s.vars apart W args.toList ds gs before → X W args → W.ShapedOpen C.prog →
      Calls C.prog f args W fun e W' => ∃ v, e = .returned v ∧ s.post enc C.prog fn apart fresh handsOn again W args v W') :
    ReturnsInHanded a C os f .any (fun w args => (s.pre enc C.prog fn conds apart w args ∧ X w args) ∧ sizedMet enc C.prog fn (OpenSpec.ofChange s) apart w args) (s.post enc C.prog fn apart fresh handsOn again) := by
  refine returnsInHanded_of_calls own started noInit witness ?_
  intro w tape i _ hsh _ hok hpre _
  obtain ⟨_, _, _, fn', hfn', _, _, _, _, hval⟩ := hok
  have e : fn' = fn := Option.some.inj (hfn'.symm.trans hfn)
  subst e
  obtain ⟨⟨⟨ds, gs, before, hw, _⟩, hx⟩, _⟩ := hpre
  have hw' := DataW.Whole.of_heap (w' := w.forCall tape i) (by rfl) hw
  refine (contract (w.forCall tape i) w.heap.size i.args ds gs before hval hw' (hX _ _ _ (by rfl) hx) hsh).mono fun e W' ⟨v, he, hp⟩ => ?_
  subst he
  exact ChangeSpec.post_blind hp
end Go.Ab
