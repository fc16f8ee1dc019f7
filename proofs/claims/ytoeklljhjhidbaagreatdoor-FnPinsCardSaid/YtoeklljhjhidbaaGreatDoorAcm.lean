/- A function that turns the rows of one own object in place, and is handed a function to compare them by. No condition. -/
import Derived.Test.YtoeklljhjhidbaaGreatDoorAcl
import Derived.Sort.Grow
import Derived.Sort.Row
import Derived.Deep.Draws
namespace Go.Ab
variable {P : Program}

theorem mfn_inplace_f [Go.Ab.Drwn] {f g z : Nat} {rows rows' : List (List PV)} (hlen : rows'.length = rows.length) (hz' : ∀ (i : Nat) (r : List PV), rows'[i]? = some r → r.length = z)
    (hnil : rows = [] → ∀ (ao : Option Addr) (cap : Nat) (w : World), CallS P f #[.slice ao 0 cap, .func (.func g) #[] #[]] w fun e w' => e = .returned (.tuple #[]) ∧ w' = w)
    (hrun : ∀ (A : Nat → Prop) (w : World) (b C : Nat) (cur : Array Value) (e : TypeId), AOk A w → ¬ A b → w.heap[b]? = some (.cells cur e (0, 0)) → cur.size = C * z → rows.length ≤ C → C ≤ maxLen → rows ≠ [] → CellsOf A w z rows cur →
      CallS P f #[.slice (some ⟨b, 0, none⟩) rows.length C, .func (.func g) #[] #[]] w fun e' w' => e' = .returned (.tuple #[]) ∧ w'.os = w.os ∧ w'.tape = w.tape ∧ w'.output = w.output ∧ w.drawn ≤ w'.drawn ∧ w.heap.size ≤ w'.heap.size ∧ (∀ j, j < w.heap.size → j ≠ b → w'.heap[j]? = w.heap[j]?) ∧
        ∃ cur', w'.heap[b]? = some (.cells cur' e (0, 0)) ∧ cur'.size = cur.size ∧ CellsOf A w z rows' cur') :
    MFn P f [.sf 0 z, .fn g []] [some (.arr z rows)] [0] (.tup []) [some (.arr z rows')] := by
  intro A m w vs hA hC hsz hargs
  have h0 : getO [some (Obj.arr z rows)] 0 = some (.arr z rows) := rfl
  have r0 := hargs 0 _ rfl
  obtain ⟨us, e1, hus, _⟩ := (hargs 1 _ rfl).fnI
  obtain rfl : us = #[] := Array.eq_empty_of_size_eq_zero hus
  have hvs : vs = #[vs.getD 0 undef, .func (.func g) #[] #[]] := by
    have hs : vs.size = 2 := hsz
    apply Array.ext
    · simp [hs]
    · intro i h1 h2
      have : i = 0 ∨ i = 1 := by omega
      rcases this with rfl | rfl
      · simp [Array.getD_eq_getD_getElem?, hs]
      · rw [← e1]
        simp [Array.getD_eq_getD_getElem?, hs]
  rw [hvs]
  generalize vs.getD 0 undef = v0 at r0 ⊢
  have hrep : ∀ (A : Nat → Prop) (m : OMap) (w : World), RepO A m (getO [some (.arr z rows')]) w (.tup []) (.tuple #[]) := fun _ _ _ => .imm (.tup [] #[] rfl (by simp))
  have same : rows = [] → ∀ (ao : Option Addr) (cap : Nat), CallS P f #[.slice ao 0 cap, .func (.func g) #[] #[]] w fun e w' => ∃ v A' m', e = .returned v ∧ Came A m (getO [some (.arr z rows)]) w (.tup []) (getO [some (.arr z rows')]) v w' A' m' ∧
      ∀ k, k ∈ [0] → m' k = m k ∧ ∃ o o', getO [some (.arr z rows)] k = some o ∧ getO [some (.arr z rows')] k = some o' ∧ SameShape o o' := fun he ao cap => by
    have hr' : rows' = rows := by
      rw [he] at hlen ⊢
      exact List.eq_nil_of_length_eq_zero hlen
    rw [hr'] at hrep ⊢
    refine (hnil he ao cap w).mono fun e w' ⟨g1, g2⟩ => ?_
    subst g2
    refine ⟨_, A, m, g1, ⟨.refl _ _, fun b hb => .inl hb, hA, hC, fun b hb => .inl hb, hrep _ _ _⟩, fun k hk => ⟨rfl, ?_⟩⟩
    simp at hk
    subst hk
    exact ⟨_, _, h0, h0, .refl _⟩
  cases r0 with
  | imm hi => cases hi
  | sfN _ _ C ao hk hm =>
    rw [h0] at hk
    cases hk
    exact same rfl ao 0
  | sf _ _ C b rws hk hm =>
    rw [h0] at hk
    cases hk
    by_cases he : rows = []
    · have hl : rows.length = 0 := by rw [he]; rfl
      rw [hl]
      exact same he _ _
    · obtain ⟨p1, p2, p3, p4, p5, cur, ty, q1, q2, q3⟩ := hC.at_arr h0 hm
      refine (hrun A w b C cur ty hA p1 q1 q2 p3 p4 he q3).mono fun e w' ⟨g1, g2, g3, g4, gd, g5, g6, cur', g7, g8, g9⟩ => ?_
      have hkeep : ∀ b', A b' → w'.heap[b']? = w.heap[b']? := fun b' hb' => g6 b' (hA b' hb') fun e => p1 (e ▸ hb')
      have T := turned_of (P := P) (w' := w') (o' := .arr z rows') (ob := some b) (ob' := some b) (C := C) (C' := C) hA hC h0 hm g2 g3 g4 g5 (fun j hj hne => g6 j hj fun e => hne (by rw [e])) (fun b' e' => .inl e')
        ⟨p1, by omega, by omega, p4, hz', cur', ty, g7, by rw [g8, q2], fun i j r c hr hc => by
          obtain ⟨u, hu, hru⟩ := g9 i j r c hr hc
          exact ⟨u, hu, hru.mono (fun _ h => h) hkeep⟩⟩
      rw [updM_same hm, getO_turn1] at T
      refine ⟨_, A, m, g1, ⟨T.moved, fun b hb => .inl hb, T.aok, T.conc, fun b hb => (T.own b hb), hrep _ _ _⟩, fun k hk => ⟨rfl, ?_⟩⟩
      simp at hk
      subst hk
      exact ⟨_, _, h0, rfl, ⟨rfl, hlen.symm⟩⟩

/-- What turns no block that was there: blocks behind, and draws. -/
theorem grown_of_moved [Go.Ab.Drwn] {w w' : World} (hon : drwOn = true) (h : Moved (fun _ => False) w w') : ∃ q os, w' = Go.Sort.grow (w.drewN q) os := by
  refine ⟨w'.drawn - w.drawn, w'.heap.extract w.heap.size w'.heap.size, ?_⟩
  have hd : w.drawn + (w'.drawn - w.drawn) = w'.drawn := by have := h.drawn hon; omega
  have hh : w.heap ++ w'.heap.extract w.heap.size w'.heap.size = w'.heap := by
    apply Array.ext_getElem?
    intro i
    by_cases hi : i < w.heap.size
    · rw [Array.getElem?_append_left hi]
      exact (h.block i hi fun f => f).symm
    · rw [Array.getElem?_append_right (by omega), Array.getElem?_extract]
      by_cases hj : i < w'.heap.size
      · rw [if_pos (by omega)]
        congr 1
        omega
      · rw [if_neg (by omega), Array.getElem?_eq_none (by omega)]
  have h1 := h.os
  have h2 := h.tape
  have h3 := h.output
  unfold Go.Sort.grow World.drewN
  rw [hd, hh]
  cases w'
  cases h1
  cases h2
  cases h3
  rfl

/-- A contract over plain values that answers a machine number, in memory. -/
theorem calls_of_hfn [dw : Go.Ab.Drwn] {f : FuncId} {fn : Func} {c : Code} {args : List PV} {k : IntKind} {n : Int} (hon : dw.on = true) (hf : HFn P f args [] (.int k n) []) (h1 : P.funcs[f]? = some fn) (h2 : (fn.name == "runtime.NumGoroutine") = false) (h3 : fn.body = some c)
    {A : Nat → Prop} {w : World} {vs : Array Value} (hA : AOk A w) (hs : vs.size = args.length) (hr : ∀ i p, args[i]? = some p → RepI A w p (vs.getD i undef)) :
    Calls P f vs w fun e w' => e = .returned (.int k n) ∧ ∃ q os, w' = Go.Sort.grow (w.drewN q) os := by
  have hc := hf A (fun _ => none) w vs hA ⟨fun k o hk => by simp [getO] at hk, fun k k' o o' b C C' hk => by simp [getO] at hk⟩ hs fun i p hp => .imm (hr i p hp)
  unfold CallS at hc
  have hname' : fn.name ≠ "runtime.NumGoroutine" := by simpa using h2
  rw [show (callFunc f vs).run P w = .ok (.enter f vs) w by simp [callFunc, h1, hname', h3]] at hc
  refine hc.2.mono fun e w' ⟨v, A', m', he, hcame⟩ => ?_
  have hm : Moved (fun _ => False) w w' := hcame.moved.mono fun b _ ⟨k, o, C, hk, _⟩ => by simp [getO] at hk
  refine ⟨?_, grown_of_moved hon hm⟩
  have hrep := hcame.rep
  cases hrep with
  | imm hi => cases hi; exact he
end Go.Ab
