/- Calls by contract that leave own objects alone: the whole step. No condition. -/
import Derived.Test.YtnidojjahhhaaaaAbk
namespace Go.Ab
variable {P : Program} {A A' : Nat → Prop} {m m' : OMap} {h h' : OFun} {w w' : World} {H : Heap} {fr : Fr} {a : Act}

theorem shiftA_rep {A'' : Nat → Prop} {Hout : Heap} {k0 : Nat} {c : PV} {v : Value} (hw : wholeA Hout.length c = true) (hr : RepO A' m' (getO Hout) w' c v) (hA : noOwnA c = true → RepI A' w' c v → RepI A'' w' c v) :
    RepO A'' (addM m k0 Hout.length m') (addO h k0 Hout) w' (shiftA k0 c) v := by
  cases hr with
  | imm hi =>
    have hno : noOwnA c = true := by cases c <;> first | exact hw | (cases hi)
    have e : shiftA k0 c = c := by cases c <;> first | rfl | (cases hi)
    rw [e]
    exact .imm (hA hno hi)
  | sfN k z C ao hk hm =>
    have hlt := getO_lt hk
    exact .sfN (k0 + k) z C ao (by rw [addO_in hlt, hk]) (by rw [addM_in hlt, hm])
  | sf k z C b rows hk hm =>
    have hlt := getO_lt hk
    exact .sf (k0 + k) z C b rows (by rw [addO_in hlt, hk]) (by rw [addM_in hlt, hm])
  | _ => simp [wholeA, noOwnA] at hw

theorem getElem?_map_of {α β : Type} {f : α → β} {cs : List α} {i : Nat} {c : β} (hc : (cs.map f)[i]? = some c) : ∃ c', cs[i]? = some c' ∧ c = f c' := by
  rw [List.getElem?_map] at hc
  cases hcj : cs[i]? with
  | none => rw [hcj] at hc; cases hc
  | some c' => rw [hcj] at hc; cases hc; exact ⟨c', rfl, rfl⟩

/-- What a result that is read in A' is read in, too. -/
def Widen (A' A'' : Nat → Prop) (w' : World) (c : PV) : Prop := ∀ v, RepI A' w' c v → RepI A'' w' c v

theorem shift_rep {A'' : Nat → Prop} {Hout : Heap} {k0 : Nat} {p : PV} {v : Value} (hw : whole Hout.length p = true) (hr : RepO A' m' (getO Hout) w' p v) (hA : (∀ c, Widen A' A'' w' c) ∨ flatP p = true) :
    RepO A'' (addM m k0 Hout.length m') (addO h k0 Hout) w' (shift k0 p) v := by
  have flat1 : ∀ {c : PV}, flatA c = true → noOwnA c = true → ∀ v, RepI A' w' c v → RepI A'' w' c v := fun {c} hf hn v hi => by
    cases hi <;> first | (simp [flatA] at hf; done) | (simp [noOwnA] at hn; done) | constructor
    assumption
  have one : ∀ {c : PV} {v : Value}, wholeA Hout.length c = true → RepO A' m' (getO Hout) w' c v → ((∀ c, Widen A' A'' w' c) ∨ flatA c = true) → RepO A'' (addM m k0 Hout.length m') (addO h k0 Hout) w' (shiftA k0 c) v := fun {c v} h1 h2 h3 => by
    refine shiftA_rep h1 h2 fun hn hi => ?_
    rcases h3 with h3 | h3
    · exact h3 c v hi
    · exact flat1 h3 hn v hi
  have aggr : ∀ {cs : List PV} {us : Array Value}, cs.all (wholeA Hout.length) = true → us.size = cs.length → (∀ i c, cs[i]? = some c → RepO A' m' (getO Hout) w' c (us.getD i undef)) → ((∀ c, Widen A' A'' w' c) ∨ cs.all flatA = true) →
      RepO A'' (addM m k0 Hout.length m') (addO h k0 Hout) w' (.agg (cs.map (shiftA k0))) (.agg us) := fun {cs us} h1 h2 h3 h4 => by
    refine .agg _ us (by simpa using h2) fun i c hc => ?_
    obtain ⟨c', g1, rfl⟩ := getElem?_map_of hc
    exact one (List.all_eq_true.1 h1 c' (List.mem_of_getElem? g1)) (h3 i c' g1) (h4.imp id fun h4 => List.all_eq_true.1 h4 c' (List.mem_of_getElem? g1))
  have two : ∀ {c : PV} {v : Value}, wholeB Hout.length c = true → RepO A' m' (getO Hout) w' c v → ((∀ c, Widen A' A'' w' c) ∨ flatB c = true) → RepO A'' (addM m k0 Hout.length m') (addO h k0 Hout) w' (shiftB k0 c) v := fun {c v} h1 h2 h3 => by
    cases c with
    | agg ds =>
      obtain ⟨us, rfl, hl, hh⟩ := h2.aggI
      exact aggr h1 hl hh h3
    | _ =>
      simp only [wholeB, flatB, shiftB] at h1 h3 ⊢
      exact one h1 h2 h3
  cases p with
  | tup cs =>
    obtain ⟨us, rfl, hl, hh⟩ := hr.tupI
    simp only [shift, whole, flatP] at hw hA ⊢
    refine .tup _ us (by simpa using hl) fun i c hc => ?_
    obtain ⟨c', g1, rfl⟩ := getElem?_map_of hc
    exact two (List.all_eq_true.1 hw c' (List.mem_of_getElem? g1)) (hh i c' g1) (hA.imp id fun hf => List.all_eq_true.1 hf c' (List.mem_of_getElem? g1))
  | _ =>
    simp only [whole, flatP, shift] at hw hA ⊢
    exact two hw hr hA

/-- THE CALL. -/
theorem qsem_call {o : Oper} {y : Operand} {xs : List Operand} {ts : Array TypeId} {f : FuncId} {caps : List PV} {k0 : Nat} {res : PV} {Hout : Heap}
    (ho : o.op = .call { callee := .value y, args := xs.toArray, argTypes := ts }) (hy : okv fr y) (hxs : okvs fr xs) (hev : ev fr y = .fn f caps) {args : List PV} (hargs : args = xs.map (ev fr) ++ caps)
    (hf : HFn P f (args.map (imm H)) [] res Hout) (hno : (args.map (imm H)).all noOwn = true) (hbox : args.all (boxOk H) = true) (hfl : args.all noOwn = true ∨ flatP res = true ∧ flatO Hout)
    (hwh : whole Hout.length res = true) (harr : arrO Hout = true) : QSem P o fr H k0 (shift k0 res) Hout := fun A m h w a hA hC hs hO hk0 => by
  have hry := hO.ev hy
  rw [hev] at hry
  obtain ⟨us, hus, hul, huh⟩ := hry.fnI
  -- the arguments
  generalize hvs : (xs.map a.eval).toArray ++ us = vs
  have hlen : vs.size = args.length := by rw [← hvs, hargs]; simp [hul]
  have hrep : ∀ i p, args[i]? = some p → RepO A m h w p (vs.getD i undef) := fun i p hp => by
    rw [hargs, List.getElem?_append] at hp
    rw [← hvs]
    simp only [List.length_map] at hp
    split at hp
    · rename_i hlt
      have := eval_list hO xs hxs i p hp
      simpa [Array.getD_eq_getD_getElem?, Array.getElem?_append, hlt] using this
    · rename_i hge
      have := huh _ p hp
      simpa [Array.getD_eq_getD_getElem?, Array.getElem?_append, hge] using this
  have conc0 : ∀ Ac : Nat → Prop, ConcO Ac (fun _ => none) (getO []) w := fun Ac => ⟨fun k o hk => by simp [getO] at hk, fun k k' o o' b C C' hk => by simp [getO] at hk⟩
  have own0 : ∀ b, ¬ OwnB (fun _ => none) (getO []) b := fun b ⟨k, o, C, hk, _⟩ => by simp [getO] at hk
  have get_imm : ∀ {i : Nat} {p : PV}, (args.map (imm H))[i]? = some p → ∃ q, args[i]? = some q ∧ p = imm H q := fun hp => getElem?_map_of hp
  rcases hfl with hfl | ⟨hfl1, hfl2⟩
  · -- nothing of our own is handed over
    have hcall := hf A (fun _ => none) w vs hA (conc0 A) (by simpa using hlen) (fun i p hp => by
      obtain ⟨q, hq, rfl⟩ := get_imm hp
      obtain ⟨g1, g2⟩ := noOwn_rep (H := H) (List.all_eq_true.1 hfl q (List.mem_of_getElem? hq)) (hrep i q hq)
      rw [g2]
      exact .imm g1)
    refine yields_call ho hus ?_
    rw [hvs]
    refine hcall.mono fun e w' ⟨v, A', m', he, hcame⟩ => ⟨v, he, fun b => A b ∨ A' b, addM m k0 Hout.length m', ?_, ?_⟩
    · refine newW_came hA hC hk0 hcame harr (fun _ h => .inl h) (fun b hb => hb.elim .inl fun h => (hcame.sub b h).imp id fun g => g.elim (fun ⟨_, _, _, hk, _⟩ => by simp [getO] at hk) id) (fun b hb => hb.elim (fun h => Nat.lt_of_lt_of_le (hA b h) hcame.moved.size) fun h => hcame.aok b h)
        (fun k z rows hk r hr c hc u hru => hru.mono (fun _ h => .inr h) fun _ _ => rfl) fun b hb hb' => ?_
      rcases hb' with h1 | h1
      · rcases hcame.own b hb with h2 | h2
        · exact own0 b h2
        · have := hA b h1; omega
      · exact (hcame.conc.lt hb).2 h1
    · exact shift_rep hwh hcame.rep (.inl fun c v hv => hv.mono (fun _ h => .inr h) fun _ _ => rfl)
  · -- own objects are lent
    have hlent : AOk (Lent A m h) w := fun b hb => hb.elim (hA b) fun hb => (hC.lt hb).1
    have hcall := hf (Lent A m h) (fun _ => none) w vs hlent (conc0 _) (by simpa using hlen) (fun i p hp => by
      obtain ⟨q, hq, rfl⟩ := get_imm hp
      exact .imm (imm_rep hs hC (hrep i q hq) (List.all_eq_true.1 hno _ (List.mem_of_getElem? hp)) (List.all_eq_true.1 hbox q (List.mem_of_getElem? hq))))
    refine yields_call ho hus ?_
    rw [hvs]
    refine hcall.mono fun e w' ⟨v, A', m', he, hcame⟩ => ⟨v, he, A, addM m k0 Hout.length m', ?_, ?_⟩
    · refine newW_came hA hC hk0 hcame harr (fun _ h => h) (fun b hb => .inl hb) (fun b hb => Nat.lt_of_lt_of_le (hA b hb) hcame.moved.size) (fun k z rows hk r hr c hc u hru => ?_) fun b hb hb' => ?_
      · have := flatO_spec hfl2 hk r hr c hc
        cases hru <;> first | (simp [flatC] at this; done) | constructor
        assumption
      · rcases hcame.own b hb with h2 | h2
        · exact own0 b h2
        · have := hA b hb'; omega
    · exact shift_rep hwh hcame.rep (.inr hfl1)

end Go.Ab
