/- From a law's contract to its row: what lies behind the call. No condition. -/
import Derived.Test.YtnidojjahhhaaaaAbw
import Derived.ProofKit
namespace Go.Ab
open Go.ChangeShapes Go.WideShapes Go.ChangeAt Go.RowKit

theorem trodAll_below {H : Type} {enc : TypeId × Value → H} {P : Program} (hl : laidOutB P = true) {W W' : World} (hb : Below W.heap.size W W') : ∀ {ts : List TypeId} {vs : List Value} {ds : List (DataW H)} {ps : List MemPlace},
    (∀ t ∈ ts, P.readableRec t = true ∧ t < P.types.size) → DataW.TrodAll enc P W 0 (fun _ => true) true ts vs ds ps → (∀ x ∈ ps, x.block < W.heap.size) → DataW.TrodAll enc P W' 0 (fun b => decide (b < W.heap.size)) true ts vs ds ps
  | [], [], [], _, _, h, _ => h
  | t :: ts, v :: vs, d :: ds, ps, hr, h, hlt => by
    obtain ⟨p, q, h1, h2, rfl⟩ := h
    exact ⟨p, q, Below.trod hl (hr t (by simp)).1 (hr t (by simp)).2 h1 hb (fun x hx => hlt x (by simp [hx])), trodAll_below hl hb (fun t ht => hr t (by simp [ht])) h2 (fun x hx => hlt x (by simp [hx])), rfl⟩
  | [], [], _ :: _, _, _, h, _ => h.elim
  | [], _ :: _, _, _, _, h, _ => h.elim
  | _ :: _, [], _, _, _, h, _ => h.elim
  | _ :: _, _ :: _, [], _, _, h, _ => h.elim

/-- The law's run. -/
theorem law_run {P : Program} {f : FuncId} {fn : Func} {c : Code} (hf : P.funcs[f]? = some fn) (hname : (fn.name == "runtime.NumGoroutine") = false) (hb : fn.body = some c) {pargs : List PV} (h : HFn P f pargs [] (.bool true) []) {W : World} {args : Array Value}
    (hsz : args.size = pargs.length) (hrep : ∀ i p, pargs[i]? = some p → RepI (fun b => b < W.heap.size) W p (args.getD i undef)) : Calls P f args W fun e W' => e = .returned (.bool true) ∧ Below W.heap.size W W' := by
  have hname' : fn.name ≠ "runtime.NumGoroutine" := by simpa using hname
  have hcall : (callFunc f args).run P W = .ok (.enter f args) W := by simp [callFunc, hf, hname', hb]
  have hnone : ∀ b, ¬ OwnB (fun _ => none) (getO []) b := fun b ⟨k, o, C, hk, _⟩ => by simp [getO] at hk
  have := h (fun b => b < W.heap.size) (fun _ => none) W args (fun _ hb => hb) ⟨fun k o hk => by simp [getO] at hk, fun k _ o _ _ _ _ hk => by simp [getO] at hk⟩ hsz fun i p hp => .imm (hrep i p hp)
  unfold CallS at this
  rw [hcall] at this
  refine this.2.mono fun e W' ⟨v, A', m', he, hc⟩ => ?_
  have hv : v = .bool true := hc.rep.bool
  subst hv
  exact ⟨he, hc.moved.os, hc.moved.tape, hc.moved.output, hc.moved.size, fun k hk => hc.moved.block k hk (hnone k)⟩

theorem law_post {H : Type} {enc : TypeId × Value → H} {P : Program} {f : Func} {s : ChangeSpec} {W W' : World} {args : Array Value} {ds : List (DataW H)} {before : List MemPlace} {tb : TypeId} (hW : DataW.Whole enc P f.params.toList s.vars false W args.toList ds [] before) (hvars : s.vars = [])
    (hs : s.fn H (ds ++ []) = { results := [.lit (.bool true)], args := ds }) (hl : laidOutB P = true) (hread : (f.params.toList.all fun t => P.readableRec t && decide (t < P.types.size)) = true) (hres : f.resultTypes = #[tb]) (hbool : P.underlying tb = some .bool)
    (hb : Below W.heap.size W W') : s.post enc P f false true false false W args (.bool true) W' := by
  have hW' := hW
  obtain ⟨p, q, hA, hV, hpq, hfz, hnd⟩ := hW
  rw [hvars] at hV
  obtain ⟨_, hq⟩ := trodVars_none hV
  have hlt : ∀ x ∈ p, x.block < W.heap.size := fun x hx => hW'.lt x (by rw [hpq]; simp [hx])
  refine ⟨ds, [], before, [], p, [], hW', ?_, ?_, ?_, hb.frame _, fun h => by cases h⟩
  · rw [hs, hres]
    exact trodAll_mk1 (shut_bool hbool true)
  · rw [hs]
    refine trodAll_below hl hb (fun t ht => ?_) hA hlt
    have := List.all_eq_true.1 hread t ht
    simpa using this
  · rw [hs, hvars]
    exact rfl

end Go.Ab
