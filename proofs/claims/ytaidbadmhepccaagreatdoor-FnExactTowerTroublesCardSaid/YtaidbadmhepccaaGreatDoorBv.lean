/- A law whose statement names package-level variables: they read behind the call as before. No condition. -/
import Derived.Test.YtaidbadmhepccaaGreatDoorBc
import Derived.OpenVars
namespace Go.Ab
open Go.ChangeShapes Go.WideShapes Go.ChangeAt Go.RowKit

theorem trodVars_len {H : Type} {enc : TypeId × Value → H} {P : Program} {w : World} {sp : Nat → Bool} : ∀ {ns : List String} {gs : List (DataW H)} {ps : List MemPlace}, DataW.TrodVars enc P w sp ns gs ps → gs.length = ns.length
  | [], [], _, _ => rfl
  | [], _ :: _, _, h => h.elim
  | _ :: _, [], _, h => h.elim
  | n :: ns, d :: ds, ps, h => by
    obtain ⟨_, _, _, _, _, _, _, _, _, _, hs, _⟩ := h
    simp [trodVars_len hs]
theorem law_postV {H : Type} {enc : TypeId × Value → H} {P : Program} {f : Func} {s : ChangeSpec} {W W' : World} {args : Array Value} {ds gs : List (DataW H)} {before : List MemPlace} {tb : TypeId} (hW : DataW.Whole enc P f.params.toList s.vars false W args.toList ds gs before) (hrow : varsRowed P s.vars = true)
    (hs : s.fn H (ds ++ gs) = { results := [.lit (.bool true)], args := ds, vars := gs }) (hl : laidOutB P = true) (hread : (f.params.toList.all fun t => P.readableRec t && decide (t < P.types.size)) = true) (hres : f.resultTypes = #[tb]) (hbool : P.underlying tb = some .bool)
    (hb : Below W.heap.size W W') : s.post enc P f false true false false W args (.bool true) W' := by
  have hW' := hW
  obtain ⟨p, q, hA, hV, hpq, hfz, hnd⟩ := hW
  have hlt : ∀ x ∈ p, x.block < W.heap.size := fun x hx => hW'.lt x (by rw [hpq]; simp [hx])
  refine ⟨ds, gs, before, [], p, q, hW', ?_, ?_, ?_, hb.frame _, fun h => by cases h⟩
  · rw [hs, hres]
    exact trodAll_mk1 (shut_bool hbool true)
  · rw [hs]
    refine trodAll_below hl hb (fun t ht => ?_) hA hlt
    have := List.all_eq_true.1 hread t ht
    simpa using this
  · rw [hs]
    exact Below.trodVars hl hb hrow hV
theorem law_contractV {H : Type} {enc : TypeId × Value → H} {P : Program} {f : FuncId} {fn : Func} {c : Code} (hf : P.funcs[f]? = some fn) (hname : (fn.name == "runtime.NumGoroutine") = false) (hb : fn.body = some c) {s : ChangeSpec} (hrow : varsRowed P s.vars = true)
    (hspec : ∀ ds gs : List (DataW H), ds.length = fn.params.toList.length → gs.length = s.vars.length → s.fn H (ds ++ gs) = { results := [.lit (.bool true)], args := ds, vars := gs }) (hl : laidOutB P = true) (hread : (fn.params.toList.all fun t => P.readableRec t && decide (t < P.types.size)) = true) {tb : TypeId}
    (hres : fn.resultTypes = #[tb]) (hbool : P.underlying tb = some .bool) {xs : List ASh} (hsh : fn.params.toList.map (shA P) = xs.map some) (hlaw : ∀ pargs, fitsAll xs pargs → HFn P f pargs [] (.bool true) [])
    (W : World) (hT : AOk (fun b => b < W.heap.size) W) (base : Nat) (args : Array Value) (ds gs : List (DataW H)) (before : List MemPlace) (hval : ∀ (j : Nat) t v, fn.params[j]? = some t → args[j]? = some v → Value.okWide P W .any base t v) (hW : DataW.Whole enc P fn.params.toList s.vars false W args.toList ds gs before) :
    Calls P f args W fun e W' => ∃ v, e = .returned v ∧ s.post enc P fn false true false false W args v W' := by
  have hW' := hW
  obtain ⟨p, q, hA, hV, _, _, _⟩ := hW
  have hg := trodVars_len hV
  obtain ⟨pargs, h1, h2, h3, h4⟩ := open_all hsh hA fun j t v ht hv => hval j t v (by simpa using ht) (by simpa using hv)
  refine (law_run hf hname hb (hlaw pargs h3) hT (by simpa using h1.symm) fun i p hp => ?_).mono fun e W' ⟨he, hb⟩ => ⟨_, he, law_postV hW' hrow (hspec ds gs h2 hg) hl hread hres hbool hb⟩
  obtain ⟨v, hv, hr⟩ := h4 i p hp
  have hv' : args[i]? = some v := by simpa using hv
  rw [Array.getD_eq_getD_getElem?, hv']
  exact hr
end Go.Ab
