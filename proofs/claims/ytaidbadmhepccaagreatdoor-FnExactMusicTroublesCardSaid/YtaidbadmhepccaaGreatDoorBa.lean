/- From contracts over memory to contracts over plain values. No condition. -/
import Derived.Test.YtaidbadmhepccaaGreatDoorKc
import Derived.Sort.Grow
import Derived.Deep.Draws
import Derived.Below
namespace Go.Ab
variable {P : Program} {A A' : Nat → Prop} {m m' : OMap} {h h' : OFun} {w w' : World}

theorem moved_grow (w : World) (n : Nat) (os : Array Go.Obj) : Moved (fun _ => False) w (Sort.grow (w.drewN n) os) :=
  ⟨rfl, rfl, rfl, by simp [Sort.grow, World.drewN], fun b hb _ => by simp [Sort.grow, World.drewN, Array.getElem?_append, hb], fun _ => Nat.le_add_right _ _⟩
theorem enters {f : FuncId} {fn : Func} {c : Code} (hf : P.funcs[f]? = some fn) (hname : (fn.name == "runtime.NumGoroutine") = false) (hb : fn.body = some c) (vs : Array Value) (w : World) : (callFunc f vs).run P w = .ok (.enter f vs) w := by
  have hname' : fn.name ≠ "runtime.NumGoroutine" := by simpa using hname
  simp [callFunc, hf, hname', hb]

/-- What a function answers that makes no own object. -/
def PlainPost (A : Nat → Prop) (w : World) (res : PV) (e : Ending) (w' : World) : Prop := ∃ v, e = .returned v ∧ Moved (fun _ => False) w w' ∧ RepI A w' res v

/-- Out of a contract over memory: nothing own comes in or goes out. -/
theorem hfn_of_calls {f : FuncId} {fn : Func} {c : Code} {args : List PV} {res : PV} (hf : P.funcs[f]? = some fn) (hname : (fn.name == "runtime.NumGoroutine") = false) (hb : fn.body = some c) (hplain : args.all noOwn = true)
    (h : ∀ (A : Nat → Prop) (w : World) (vs : Array Value), AOk A w → vs.size = args.length → (∀ i p, args[i]? = some p → RepI A w p (vs.getD i undef)) → Calls P f vs w (PlainPost A w res)) : HFn P f args [] res [] := fun A m w vs hA hC hsz hargs => by
  unfold CallS
  rw [enters hf hname hb]
  refine ⟨rfl, (h A w vs hA hsz fun i p hp => ?_).mono fun e w' ⟨v, he, hm, hr⟩ => ⟨v, A, m, he, ?_⟩⟩
  · exact (noOwn_rep (H := []) (List.all_eq_true.1 hplain p (List.mem_of_getElem? hp)) (hargs i p hp)).1
  · have hk : ∀ b, A b → w'.heap[b]? = w.heap[b]? := fun b hb => hm.block b (hA b hb) fun h => h
    have hno : ∀ b, ¬ OwnB m (getO []) b := fun b ⟨k, o, C, hk, _⟩ => by simp [getO] at hk
    exact ⟨hm.mono fun _ _ h => h.elim, fun b hb => .inl hb, hA.mono (fun b hb => Nat.lt_of_lt_of_le (hA b hb) hm.size) (fun _ h => h) hk, ⟨fun k o hk => by simp [getO] at hk, fun k _ o _ _ _ _ hk => by simp [getO] at hk⟩, fun b hb => (hno b hb).elim, .imm hr⟩

/-- A table of numbers among the variables that are known. -/
theorem AOk.ints (h : AOk A w) {g : Nat} {k : IntKind} {zs : List Int} (hm : (g, zs.map fun z => PV.int k z) ∈ tabs) : ∃ e fz, w.heap[g]? = some (.cells (zs.map fun z => Value.int k z).toArray e fz) := by
  obtain ⟨_, us, e, fz, h2, h3, h4⟩ := h.tab g _ hm
  refine ⟨e, fz, ?_⟩
  rw [h2]
  congr 2
  rw [List.length_map] at h3
  apply Array.ext
  · simpa using h3
  · intro i h1' h2'
    have hi : i < zs.length := by omega
    have := h4 i (.int k zs[i]) (by simp [hi])
    rw [Array.getD_eq_getD_getElem?, Array.getElem?_eq_getElem h1'] at this
    have hv : us[i] = .int k zs[i] := by
      change RepI A w _ us[i] at this
      generalize us[i] = x at this
      cases this
      rfl
    rw [hv]
    simp

/-- A contract's result may be taken for less. -/
theorem HFn.weak {f : FuncId} {args : List PV} {Hin Hout Hout' : Heap} {res res' : PV} (hf : HFn P f args Hin res Hout) (hw : Weak ⟨[(0, res)], Hout⟩ ⟨[(0, res')], Hout'⟩) : HFn P f args Hin res' Hout' := fun A m w vs hA hC hsz hargs => by
  have hmono : ∀ {R R' : Ending → World → Prop}, CallS P f vs w R → (∀ e w', R e w' → R' e w') → CallS P f vs w R' := fun h hR => h.mono hR
  refine hmono (hf A m w vs hA hC hsz hargs) fun e w' ⟨v, A1, m1, he, hc⟩ => ?_
  have hI : Inv ⟨w, A, OwnB m (getO Hin), fun _ => undef⟩ 1 ⟨[(0, res)], Hout⟩ { tmps := #[v], defers := [] } w' A1 m1 := by
    refine ⟨hc.moved, hc.sub, hc.aok, hc.conc, hc.own, fun t => ?_, rfl, rfl⟩
    by_cases ht : t = 0
    · subst ht
      exact hc.rep
    · have : slot [(0, res)] t = .top := by
        have e : (0 == t) = false := by simpa using fun h => ht h.symm
        simp [slot, e]
      rw [this]
      exact .topI _
  obtain ⟨A2, m2, hI2⟩ := hw _ _ _ _ _ _ hI
  exact ⟨v, A2, m2, he, ⟨hI2.moved, hI2.sub, hI2.aok, hI2.conc, hI2.own, hI2.fr 0⟩⟩

end Go.Ab
