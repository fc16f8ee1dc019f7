/- A region with a call that is answered by hand. No condition. -/
import Derived.Test.YtaidbadmhepccaaGreatDoorBr
namespace Go.Ab
variable {P : Program} {A A' : Nat → Prop} {m m' : OMap} {w w' : World} {H : Heap} {fr : Fr} {a : Act} {x : Ctx} {n : Nat}

/-- A function that is handed no own memory of the engine's, its body by hand. -/
theorem body_raw {M : Nat → Prop} {gh : Nat → Value} {f : FuncId} {fn : Func} {c : Code} {args : List PV} (hf : P.funcs[f]? = some fn) (hname : (fn.name == "runtime.NumGoroutine") = false) (hb : fn.body = some c) (hok : fn.results.toList.all (resLt fn.ntmps) = true) (hn0 : Nat.ble args.length fn.ntmps = true)
    {vs : Array Value} (hA : AOk A w) (hvs : vs.size = args.length) (hargs : ∀ i p, args[i]? = some p → RepI A w p (vs.getD i undef)) {R : Value → World → Prop}
    (h : ∀ a, Inv ⟨w, A, M, gh⟩ fn.ntmps ⟨argFr 0 args, []⟩ a w A noM → c.wp P (fun e a' w' => (e = .normal ∨ e = .ret) ∧ ∃ S' A' m', Inv ⟨w, A, M, gh⟩ fn.ntmps S' a' w' A' m' ∧ retOks P S' fn.results.toList ∧ ∀ v, RepO A' m' (getO S'.H) w' (retV P S' fn.results.toList) v → R v w') a w) :
    CallS P f vs w fun e w' => ∃ v, e = .returned v ∧ R v w' := by
  have hn := Nat.le_of_ble_eq_true hn0
  have hname' : fn.name ≠ "runtime.NumGoroutine" := by simpa using hname
  have hcall : (callFunc f vs).run P w = .ok (.enter f vs) w := by simp [callFunc, hf, hname', hb]
  unfold CallS
  rw [hcall]
  refine ⟨rfl, calls_of_wp hf hb ?_⟩
  have hI : Inv ⟨w, A, M, gh⟩ fn.ntmps ⟨argFr 0 args, []⟩ { tmps := vs ++ Array.replicate (fn.ntmps - vs.size) undef, defers := [] } w A noM := by
    refine ⟨.refl _ _, fun b hb => .inl hb, hA, ⟨fun k o hk => by simp [getO] at hk, fun k k' o o' b C C' hk => by simp [getO] at hk⟩, fun b ⟨k, o, C, hk, _⟩ => by simp [getO] at hk, fun t => ?_, by simp; omega, rfl⟩
    rw [slot_argFr, if_pos (Nat.zero_le _), Nat.sub_zero]
    cases ht : args[t]? with
    | none =>
      rw [List.getD_eq_getElem?_getD, ht]
      exact .topI _
    | some p =>
      have hlt : t < vs.size := by rw [hvs]; exact (List.getElem?_eq_some_iff.1 ht).1
      have := hargs t p ht
      rw [List.getD_eq_getElem?_getD, ht, look_lt (by omega)]
      refine .imm ?_
      simpa [Array.getD_eq_getD_getElem?, Array.getElem?_append, hlt] using this
  refine wp_mono (h _ hI) fun e a' w' ⟨he, S', A', m', hI', hr, hR⟩ => ?_
  have fin : a'.defers = [] ∧ ∃ v, (results fn a'.tmps).run P w' = .ok v w' ∧ ∃ v', Ending.returned v = Ending.returned v' ∧ R v' w' := by
    obtain ⟨v, hv, hrep⟩ := ret_run (P := P) hI'.conc rfl hI'.opnd rfl hok hr
    exact ⟨hI'.df, v, hv, v, rfl, hR v hrep⟩
  rcases he with rfl | rfl <;> exact fin
end Go.Ab
