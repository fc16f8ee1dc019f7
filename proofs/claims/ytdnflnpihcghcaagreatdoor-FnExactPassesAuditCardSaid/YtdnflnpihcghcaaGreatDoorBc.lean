/- From what a row lists of package-level variables to what the walks lean on. No condition. -/
import Derived.Test.YtdnflnpihcghcaaGreatDoorAby
import Derived.Lib.LaidTab
import Derived.MakeChecks
import Derived.LaidMore
import Derived.LaidHandle
import Derived.HandedShaped
import Derived.Lay
import Derived.Shelf.Vars
namespace Go.Ab
variable {P : Program} {W : World}

theorem tab_of_var {name : String} {g : Nat} {cs : Array Value} {zs : List Int} {k : IntKind} (A : Nat → Prop) (hg : P.globalNamed name = some g) (hv : W.var? P name = some cs) (hc : cs.toList = zs.map fun z => Value.int k z) :
    g < W.heap.size ∧ ∃ us e fz, W.heap[g]? = some (.cells us e fz) ∧ us.size = (zs.map fun z => PV.int k z).length ∧ ∀ (i : Nat) (c : PV), (zs.map fun z => PV.int k z)[i]? = some c → RepI A W c (us.getD i undef) := by
  unfold World.var? at hv
  rw [hg, Option.bind_some] at hv
  split at hv
  · rename_i us e fz hw
    obtain rfl : us = cs := Option.some.inj hv
    refine ⟨(Array.getElem?_eq_some_iff.1 hw).1, us, e, fz, hw, ?_, fun i c hi => ?_⟩
    · rw [List.length_map, ← Array.length_toList, hc, List.length_map]
    · rw [List.getElem?_map] at hi
      cases hz : zs[i]? with
      | none => rw [hz] at hi; cases hi
      | some z =>
        rw [hz] at hi
        cases hi
        have : us.toList[i]? = some (.int k z) := by rw [hc, List.getElem?_map, hz]; rfl
        rw [Array.getElem?_toList] at this
        rw [Array.getD_eq_getD_getElem?, this]
        exact .int k z
  · cases hv

theorem cell_inv {g : Nat} {v : Value} (h : W.cell? ⟨g, 0, none⟩ = some v) : g < W.heap.size ∧ ∃ us e fz, W.heap[g]? = some (.cells us e fz) ∧ us[0]? = some v := by
  unfold World.cell? at h
  cases hh : W.heap[g]? with
  | none => rw [hh] at h; cases h
  | some o =>
    rw [hh] at h
    cases o with
    | cells us e fz => exact ⟨(Array.getElem?_eq_some_iff.1 hh).1, us, e, fz, rfl, by simpa using h⟩
    | _ => cases h
theorem one_of_trod {H : Type} {enc : TypeId × Value → H} {w : World} {b : Nat} {sp : Nat → Bool} {held : Bool} {t : TypeId} {ms : Array (String × TypeId)} (hu : P.underlying t = some (.interface ms)) {nm : String} {d : DataW H} {p : List MemPlace} :
    ∀ {fuel : Nat} {cs : List Value}, DataW.trod enc P w b sp held fuel t cs = some (.iface nm d, p) → ∃ te pe, cs = [.iface te pe]
  | 0, _, h => by cases h
  | fuel + 1, cs, h => by
    unfold DataW.trod at h
    rw [hu] at h
    rcases cs with _ | ⟨v, _ | ⟨u, r⟩⟩
    · cases h
    · cases v <;> first | exact ⟨_, _, rfl⟩ | cases h
    · cases v <;> cases h
theorem err_of_var {name : String} {g : Nat} {cs : Array Value} (hg : P.globalNamed name = some g) (hv : W.var? P name = some cs) (hc : ∃ te pe, cs.toList = [.iface te pe]) :
    g < W.heap.size ∧ ∃ us e fz v, W.heap[g]? = some (.cells us e fz) ∧ us[0]? = some v ∧ (1 = 0 → ∃ m, v = .int .i64 m) ∧ (1 = 1 → ∃ t p, v = .iface t p) := by
  unfold World.var? at hv
  rw [hg, Option.bind_some] at hv
  split at hv
  · rename_i us e fz hw
    obtain rfl : us = cs := Option.some.inj hv
    obtain ⟨te, pe, hc⟩ := hc
    refine ⟨(Array.getElem?_eq_some_iff.1 hw).1, us, e, fz, .iface te pe, hw, ?_, fun h => absurd h (by decide), fun _ => ⟨_, _, rfl⟩⟩
    rw [← Array.getElem?_toList, hc]
    rfl
  · cases hv
theorem int_of_cell {g : Nat} (h : ∃ m, W.cell? ⟨g, 0, none⟩ = some (.int .i64 m)) :
    g < W.heap.size ∧ ∃ us e fz v, W.heap[g]? = some (.cells us e fz) ∧ us[0]? = some v ∧ (0 = 0 → ∃ m, v = .int .i64 m) ∧ (0 = 1 → ∃ t p, v = .iface t p) := by
  obtain ⟨m, h⟩ := h
  obtain ⟨h1, us, e, fz, h2, h3⟩ := cell_inv h
  exact ⟨h1, us, e, fz, _, h2, h3, fun _ => ⟨m, rfl⟩, fun h => absurd h (by decide)⟩

theorem returnsInHanded_andS {H : Type} {enc : TypeId × Value → H} {a : Assume} {C : Checked} {os : Os} {f : FuncId} {fn : Func} {s : ChangeSpec} {conds : List PathCond} {apart fresh handsOn again : Bool} {X : World → Array Value → Prop}
    (hX : ∀ (w w' : World) (args : Array Value), w.heap = w'.heap → X w args → X w' args)
    (own : ownKnob C.prog.godebug = none) (started : os.Started) (noInit : C.prog.inits.idxOf? f = none) (hfn : C.prog.funcs[f]? = some fn)
    (witness : ∃ (w : World) (tape : Tape) (i : Input), w.os = os ∧ (w.forCall tape i).Shaped C.prog ∧ i.vars = [] ∧ Input.okWide C.prog (w.forCall tape i) .any w.heap.size f i ∧
      ((s.pre enc C.prog fn conds apart (w.forCall tape i).memory i.args ∧ X (w.forCall tape i).memory i.args) ∧ sizedMet enc C.prog fn (OpenSpec.ofChange s) apart (w.forCall tape i).memory i.args) ∧ a.holds C.prog (lone (Frame.enter C.prog f i.args .normal) [] (w.forCall tape i)))
    (contract : ∀ (W : World) (base : Nat) (args : Array Value) (ds gs : List (DataW H)) (before : List MemPlace),
      (∀ (j : Nat) t v, fn.params[j]? = some t → args[j]? = some v → Value.okWide C.prog W .any base t v) →
      DataW.Whole enc C.prog fn.params.toList s.vars apart W args.toList ds gs before → X W args → W.ShapedOpen C.prog →
      Calls C.prog f args W fun e W' => ∃ v, e = .returned v ∧ s.post enc C.prog fn apart fresh handsOn again W args v W') :
    ReturnsInHanded a C os f .any (fun w args => (s.pre enc C.prog fn conds apart w args ∧ X w args) ∧ sizedMet enc C.prog fn (OpenSpec.ofChange s) apart w args) (s.post enc C.prog fn apart fresh handsOn again) := by
  refine returnsInHanded_of_calls own started noInit witness ?_
  intro w tape i _ hsh _ hok hpre _
  obtain ⟨_, _, _, fn', hfn', _, _, _, _, hval⟩ := hok
  have e : fn' = fn := Option.some.inj (hfn'.symm.trans hfn)
  subst e
  obtain ⟨⟨⟨ds, gs, before, hw, _⟩, hx⟩, _⟩ := hpre
  have hw' := DataW.Whole.of_heap (w' := w.forCall tape i) (by rfl) hw
  refine (contract (w.forCall tape i) w.heap.size i.args ds gs before hval hw' (hX _ _ _ (by rfl) hx) hsh).mono fun e W' ⟨v, he, hp⟩ => ?_
  subst he
  exact ChangeSpec.post_blind hp
end Go.Ab
