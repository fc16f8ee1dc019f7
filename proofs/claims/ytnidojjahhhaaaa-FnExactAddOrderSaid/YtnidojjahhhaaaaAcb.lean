/- The call of a function that turns own objects, whole. No condition. -/
import Derived.Test.YtnidojjahhhaaaaAca
namespace Go.Ab
variable {P : Program} {A A' : Nat → Prop} {m m' : OMap} {h h' : OFun} {w w' : World} {H : Heap} {fr fr' : Fr} {a : Act}

theorem thin_cell {c : PV} (h : thinA c = true) : cellA c = true := by cases c <;> first | rfl | exact h | cases h

theorem thin_wide {A2 A3 : Nat → Prop} {c : PV} {u : Value} (ht : thinA c = true) (hr : RepI A2 w c u) : RepI A3 w c u := by
  cases hr <;> first | (cases ht; done) | constructor
  assumption

theorem nodup_left : ∀ {a b : List Nat}, nodupB (a ++ b) = true → nodupB a = true
  | [], _, _ => rfl
  | x :: a, b, h => by
    simp only [List.cons_append, nodupB, Bool.and_eq_true, Bool.not_eq_true', List.contains_eq_mem, decide_eq_false_iff_not, List.mem_append, not_or] at h ⊢
    exact ⟨h.1.1, nodup_left h.2⟩

/-- Where an own object stands that the call has left. -/
noncomputable def newM (ρ : List Nat) (base : Nat) (m m2 : OMap) : OMap := fun k => if k ∈ ρ then m2 (ρ.idxOf k) else if k < base then m k else m2 (ρ.length + (k - base))

theorem rn_at {ρ : List Nat} {base i k : Nat} (h : ρ[i]? = some k) : rn ρ base i = k := by
  unfold rn
  rw [if_pos (List.getElem?_eq_some_iff.1 h).1, List.getD_eq_getElem?_getD, h]
  rfl

theorem newM_rn {ρ : List Nat} {base : Nat} {m2 : OMap} (hk : ∀ k ∈ ρ, k < base) (hn : nodupB ρ = true) (i : Nat) : newM ρ base m m2 (rn ρ base i) = m2 i := by
  unfold newM rn
  by_cases hi : i < ρ.length
  · rw [if_pos hi]
    have e : ρ.getD i 0 = ρ[i] := by simp [List.getD, List.getElem?_eq_getElem hi]
    rw [e, if_pos (List.getElem_mem _)]
    congr 1
    have h1 : ρ.idxOf ρ[i] < ρ.length := List.idxOf_lt_length_of_mem (List.getElem_mem _)
    have h2 : ρ[ρ.idxOf ρ[i]]? = some ρ[i] := by rw [List.getElem?_eq_getElem h1, List.getElem_idxOf h1]
    exact nodupB_spec hn _ _ _ h2 (List.getElem?_eq_getElem hi)
  · rw [if_neg hi]
    have : base + (i - ρ.length) ∉ ρ := fun h => by have := hk _ h; omega
    rw [if_neg this, if_neg (by omega)]
    congr 1
    omega

theorem cstep_of_mfn {f : FuncId} {args cargs : List PV} {Hin Hout : Heap} {ρ φ kp ns : List Nat} {res : PV} (hf : MFn P f cargs Hin kp res Hout) (hwk : Wk ρ φ ⟨argFr 0 args, H⟩ ⟨argFr 0 cargs, Hin⟩) (hlen : cargs.length = args.length)
    (hLo : ρ.length ≤ Hout.length) (hk : ∀ k ∈ ρ, k < H.length) (hns : ∀ i k, ρ[i]? = some k → i ∈ kp ∨ k ∈ ns) (hcell : cellP res = true) (hcO : cellO Hout = true) (hfl : φ = [] ∨ thinP res = true ∧ thinO Hout) :
    CStep P f args fr H (ren (rn ρ H.length) res) (scrubsF ns fr) (setAll (rn ρ H.length) (scrubsH ns H) ρ Hout) := by
  intro A m w vs hA hC hsz hargs
  have hnd : nodupB ρ = true := nodup_left hwk.1
  -- what the callee sees
  have hI : Inv ⟨w, A, OwnB m (getO H), fun _ => undef⟩ args.length ⟨argFr 0 args, H⟩ { tmps := vs, defers := [] } w A m := by
    refine ⟨.refl _ _, fun b hb => .inl hb, hA, hC, fun b hb => .inl hb, fun t => ?_, hsz, rfl⟩
    rw [slot_argFr, if_pos (Nat.zero_le _), Nat.sub_zero]
    cases ht : args[t]? with
    | none => rw [List.getD_eq_getElem?_getD, ht]; exact .topI _
    | some p =>
      rw [List.getD_eq_getElem?_getD, ht, look_lt (List.getElem?_eq_some_iff.1 ht).1]
      exact hargs t p ht
  have hI1 := hwk.inv hI
  generalize hA1 : withA A m (⟨argFr 0 args, H⟩ : St).H φ = A1 at hI1
  generalize hm1 : mapM' ρ m = m1 at hI1
  have hcall := hf A1 m1 w vs hI1.aok hI1.conc (by rw [hsz, hlen]) (fun i p hp => by
    have := hI1.fr i
    have hil : i < args.length := by rw [← hlen]; exact (List.getElem?_eq_some_iff.1 hp).1
    rw [slot_argFr, if_pos (Nat.zero_le _), Nat.sub_zero, List.getD_eq_getElem?_getD, hp, look_lt hil] at this
    exact this)
  have hA01 : ∀ b, A b → A1 b := fun b hb => by rw [← hA1]; exact .inl hb
  -- an object that was handed over, its own number
  have inObj : ∀ i o, getO Hin i = some o → ∃ k o', ρ[i]? = some k ∧ getO H k = some o' ∧ SameShape o' o ∧ m1 i = m k := fun i o hi => by
    obtain ⟨k, h1, h2⟩ := wkH_spec hwk.2.2 i o (getO_get hi)
    refine ⟨k, ?_⟩
    have e : m1 i = m k := by rw [← hm1]; simp [mapM', h1]
    unfold wkO at h2
    split at h2
    · rename_i e1; cases e1
    · rename_i z rows z' rows' e1 e2
      cases e2
      obtain ⟨rfl, rfl⟩ := h2
      exact ⟨_, h1, getO_of e1, ⟨rfl, rfl⟩, e⟩
    · rename_i cs ds e1 e2
      cases e2
      exact ⟨_, h1, getO_of e1, trivial, e⟩
    · exact h2.elim
  have ownIn : ∀ b, OwnB m1 (getO Hin) b → ∃ k o C, k ∈ ρ ∧ getO H k = some o ∧ m k = some (some b, C) := fun b ⟨i, o, C, hi, hmi⟩ => by
    obtain ⟨k, o', h1, h2, _, h4⟩ := inObj i o hi
    exact ⟨k, o', C, List.mem_of_getElem? h1, h2, by rw [← h4]; exact hmi⟩
  refine hcall.mono fun e w' ⟨v, A2, m2, he, hcame, hkeep⟩ => ?_
  obtain ⟨g1, g2, g3⟩ := setAll_get (r := rn ρ H.length) (ρ := ρ) (H := scrubsH ns H) (s := Hout) hLo (fun k h => by rw [scrubsH_len]; exact hk k h) hnd
  rw [scrubsH_len] at g2 g3
  generalize hH3 : setAll (rn ρ H.length) (scrubsH ns H) ρ Hout = H3 at g1 g2 g3
  generalize hm3 : newM ρ H.length m m2 = m3
  let A3 : Nat → Prop := fun b => A b ∨ (A2 b ∧ (OwnB m1 (getO Hin) b ∨ w.heap.size ≤ b))
  -- an object behind the call
  have src : ∀ k o, getO H3 k = some o → (∃ i o0, k = rn ρ H.length i ∧ getO Hout i = some o0 ∧ o = renOb (rn ρ H.length) o0) ∨ (k ∉ ρ ∧ k < H.length ∧ ∃ o0, getO H k = some o0 ∧ o = scrubsO ns o0) := fun k o ho => by
    by_cases h1 : k ∈ ρ
    · obtain ⟨i, hi⟩ := List.mem_iff_getElem?.1 h1
      rw [g1 i k hi] at ho
      cases ho0 : getO Hout i with
      | none => rw [ho0] at ho; cases ho
      | some o0 =>
        rw [ho0] at ho
        cases ho
        refine .inl ⟨i, o0, ?_, ho0, rfl⟩
        exact (rn_at hi).symm
    · by_cases h2 : k < H.length
      · rw [g2 k h1 h2, scrubsH_get] at ho
        cases ho0 : getO H k with
        | none => rw [ho0] at ho; cases ho
        | some o0 => rw [ho0] at ho; cases ho; exact .inr ⟨h1, h2, o0, rfl, rfl⟩
      · have e := g3 (k - H.length)
        rw [show H.length + (k - H.length) = k by omega] at e
        rw [e] at ho
        cases ho0 : getO Hout (ρ.length + (k - H.length)) with
        | none => rw [ho0] at ho; cases ho
        | some o0 =>
          rw [ho0] at ho
          cases ho
          refine .inl ⟨_, o0, ?_, ho0, rfl⟩
          unfold rn
          rw [if_neg (by omega)]
          omega
  have fwd : ∀ i o, getO Hout i = some o → m3 (rn ρ H.length i) = m2 i ∧ getO H3 (rn ρ H.length i) = some (renOb (rn ρ H.length) o) := fun i o hi => by
    refine ⟨by rw [← hm3]; exact newM_rn hk hnd i, ?_⟩
    by_cases hil : i < ρ.length
    · have e : rn ρ H.length i = ρ[i] := by simp [rn, hil, List.getD]
      rw [e, g1 i ρ[i] (List.getElem?_eq_getElem hil), hi]
      rfl
    · have e : rn ρ H.length i = H.length + (i - ρ.length) := by simp [rn, hil]
      rw [e, g3, show ρ.length + (i - ρ.length) = i by omega, hi]
      rfl
  have stay : ∀ k, k ∉ ρ → k < H.length → m3 k = m k := fun k h1 h2 => by rw [← hm3]; simp [newM, h1, h2]
  -- blocks
  have blockB : ∀ k o b C, k ∉ ρ → getO H k = some o → m k = some (some b, C) → ¬ OwnB m1 (getO Hin) b := fun k o b C h1 h2 h3 h4 => by
    obtain ⟨k', o', C', h5, h6, h7⟩ := ownIn b h4
    have := hC.inj k k' o o' b C C' h2 h6 h3 h7
    subst this
    exact h1 h5
  have blockA : ∀ b, A b → w'.heap[b]? = w.heap[b]? := fun b hb => hcame.moved.block b (hA b hb) fun hb' => (hI1.conc.lt hb').2 (hA01 b hb)
  have hA3 : ∀ b, A b → A3 b := fun b hb => .inl hb
  have ownOut : ∀ b, OwnB m2 (getO Hout) b → ¬ A3 b := fun b hb h3 => by
    rcases h3 with h3 | ⟨h3, _⟩
    · rcases hcame.own b hb with h4 | h4
      · exact (hI1.conc.lt h4).2 (hA01 b h3)
      · have := hA b h3; omega
    · exact (hcame.conc.lt hb).2 h3
  -- what is read
  have wide : ∀ c u, (φ = [] ∨ thinA c = true) → RepI A2 w' c u → RepI A3 w' c u := fun c u hc hr => by
    rcases hc with hc | hc
    · refine hr.mono (fun b hb => ?_) fun _ _ => rfl
      rcases hcame.sub b hb with h1 | h1 | h1
      · refine .inl ?_
        rw [← hA1, hc] at h1
        rcases h1 with h1 | ⟨_, _, _, h2, _⟩
        · exact h1
        · cases h2
      · exact .inr ⟨hb, .inl h1⟩
      · exact .inr ⟨hb, .inr h1⟩
    · exact thin_wide hc hr
  have shp : Shaped none m (rem (getO H) ns) m3 (getO H3) := fun k o _ ho => by
    unfold rem at ho
    split at ho
    · cases ho
    · rename_i hkn
      by_cases hkρ : k ∈ ρ
      · obtain ⟨i, hi⟩ := List.mem_iff_getElem?.1 hkρ
        have hkp : i ∈ kp := (hns i k hi).resolve_right hkn
        obtain ⟨e1, o1, o2, h1, h2, h3⟩ := hkeep i hkp
        obtain ⟨f1, f2⟩ := fwd i o2 h2
        have hrk : rn ρ H.length i = k := rn_at hi
        rw [hrk] at f1 f2
        obtain ⟨k', o', h4, h5, h6, h7⟩ := inObj i o1 h1
        rw [hi] at h4
        cases h4
        rw [ho] at h5
        cases h5
        refine ⟨by rw [f1, e1, h7], _, f2, ?_⟩
        cases o <;> cases o1 <;> cases o2 <;> simp_all [SameShape, renOb]
      · have hlt := getO_lt ho
        refine ⟨stay k hkρ hlt, scrubsO ns o, by rw [g2 k hkρ hlt, scrubsH_get, ho]; rfl, ?_⟩
        cases o <;> simp [SameShape, scrubsO]
  have oldA : ∀ {p : PV} {u : Value}, RepO A m (getO H) w p u → RepO A3 m3 (getO H3) w' (scrubsA ns p) u := fun hr => (scrubsA_rep hr).mono hA3 blockA shp
  have oldV : ∀ {p : PV} {u : Value}, RepO A m (getO H) w p u → RepO A3 m3 (getO H3) w' (scrubsV ns p) u := fun hr => (scrubsV_rep hr).mono hA3 blockA shp
  have newA : ∀ {c : PV} {u : Value}, cellA c = true → (φ = [] ∨ thinA c = true) → RepO A2 m2 (getO Hout) w' c u → RepO A3 m3 (getO H3) w' (renA (rn ρ H.length) c) u := fun {c u} h1 h2 hr => renA_rep fwd h1 hr (wide c u h2)
  -- the result
  have newB : ∀ {c : PV} {u : Value}, cellB c = true → (φ = [] ∨ thinB c = true) → RepO A2 m2 (getO Hout) w' c u → RepO A3 m3 (getO H3) w' (renB (rn ρ H.length) c) u := fun {c u} h1 h2 hr => by
    cases c with
    | agg cs =>
      obtain ⟨us, rfl, hl, hh⟩ := hr.aggI
      refine .agg _ us (by simpa using hl) fun i c hc => ?_
      obtain ⟨c', q1, rfl⟩ := getElem?_map_of hc
      exact newA (List.all_eq_true.1 h1 c' (List.mem_of_getElem? q1)) (h2.imp id fun h2 => List.all_eq_true.1 h2 c' (List.mem_of_getElem? q1)) (hh i c' q1)
    | _ =>
      simp only [cellB, thinB, renB] at h1 h2 ⊢
      exact newA h1 h2 hr
  have newP : RepO A3 m3 (getO H3) w' (ren (rn ρ H.length) res) v := by
    have hr := hcame.rep
    have hfl' : φ = [] ∨ thinP res = true := hfl.imp id And.left
    cases res with
    | tup cs =>
      obtain ⟨us, rfl, hl, hh⟩ := hr.tupI
      refine .tup _ us (by simpa using hl) fun i c hc => ?_
      obtain ⟨c', q1, rfl⟩ := getElem?_map_of hc
      exact newB (List.all_eq_true.1 hcell c' (List.mem_of_getElem? q1)) (hfl'.imp id fun h2 => List.all_eq_true.1 h2 c' (List.mem_of_getElem? q1)) (hh i c' q1)
    | _ =>
      simp only [cellP, thinP, ren] at hcell hfl' ⊢
      exact newB hcell hfl' hr
  refine ⟨v, A3, m3, he, ⟨hcame.moved.mono fun b hb h1 => ?_, fun b hb => ?_, fun b hb => ?_, ⟨fun k o ho => ?_, fun k k' o o' b C C' ho ho' hmk hmk' => ?_⟩, fun b ⟨k, o, C, ho, hmk⟩ => ?_, newP⟩, fun t u hr => by rw [scrubs_slot]; exact oldV hr⟩
  · obtain ⟨k, o, C, _, h3, h4⟩ := ownIn b h1
    exact ⟨k, o, C, h3, h4⟩
  · rcases hb with hb | ⟨_, hb | hb⟩
    · exact .inl hb
    · obtain ⟨k, o, C, _, h3, h4⟩ := ownIn b hb
      exact .inr (.inl ⟨k, o, C, h3, h4⟩)
    · exact .inr (.inr hb)
  · rcases hb with hb | ⟨hb, _⟩
    · exact Nat.lt_of_lt_of_le (hA b hb) hcame.moved.size
    · exact hcame.aok b hb
  · rcases src k o ho with ⟨i, o0, rfl, hi, rfl⟩ | ⟨hkρ, hkl, o0, hk0, rfl⟩
    · obtain ⟨f1, _⟩ := fwd i o0 hi
      obtain ⟨ob, C, hm2, hob⟩ := hcame.conc.at_ i o0 hi
      refine ⟨ob, C, by rw [f1]; exact hm2, ?_⟩
      cases o0 with
      | arr z rows =>
        cases ob with
        | none => exact hob
        | some b =>
          obtain ⟨_, q2, q3, q4, q5, cur, ty, q6, q7, q8⟩ := hob
          refine ⟨ownOut b ⟨i, _, C, hi, hm2⟩, q2, q3, q4, q5, cur, ty, q6, q7, fun i' j r c hr hc => ?_⟩
          obtain ⟨u, hu, hru⟩ := q8 i' j r c hr hc
          exact ⟨u, hu, wide c u (hfl.imp id fun h => thinO_arr h.2 hi r (List.mem_of_getElem? hr) c (List.mem_of_getElem? hc)) hru⟩
      | box cs =>
        cases ob with
        | none => exact hob.elim
        | some b =>
          obtain ⟨_, q2, cur, ty, q6, q7, q8⟩ := hob
          refine ⟨ownOut b ⟨i, _, C, hi, hm2⟩, q2, cur, ty, q6, by simpa using q7, fun j c hc => ?_⟩
          obtain ⟨c', q1, rfl⟩ := getElem?_map_of hc
          obtain ⟨u, hu, hru⟩ := q8 j c' q1
          exact ⟨u, hu, newA (List.all_eq_true.1 (cellO_spec hcO hi) c' (List.mem_of_getElem? q1)) (hfl.imp id fun h => List.all_eq_true.1 (thinO_box h.2 hi) c' (List.mem_of_getElem? q1)) hru⟩
    · obtain ⟨ob, C, hmk, hob⟩ := hC.at_ k o0 hk0
      refine ⟨ob, C, by rw [stay k hkρ hkl]; exact hmk, ?_⟩
      have hb : ∀ b, ob = some b → ¬ A3 b ∧ w'.heap[b]? = w.heap[b]? ∧ b < w.heap.size := fun b hb => by
        subst hb
        have hlt := hC.lt ⟨k, o0, C, hk0, hmk⟩
        have hno := blockB k o0 b C hkρ hk0 hmk
        refine ⟨fun h3 => ?_, hcame.moved.block b hlt.1 hno, hlt.1⟩
        rcases h3 with h3 | ⟨_, h3 | h3⟩
        · exact hlt.2 h3
        · exact hno h3
        · omega
      cases o0 with
      | arr z rows =>
        cases ob with
        | none => exact hob
        | some b =>
          obtain ⟨_, q2, q3, q4, q5, cur, ty, q6, q7, q8⟩ := hob
          obtain ⟨e1, e2, e3⟩ := hb b rfl
          refine ⟨e1, Nat.lt_of_lt_of_le e3 hcame.moved.size, q3, q4, q5, cur, ty, by rw [e2]; exact q6, q7, fun i' j r c hr hc => ?_⟩
          obtain ⟨u, hu, hru⟩ := q8 i' j r c hr hc
          exact ⟨u, hu, hru.mono hA3 blockA⟩
      | box cs =>
        cases ob with
        | none => exact hob.elim
        | some b =>
          obtain ⟨_, q2, cur, ty, q6, q7, q8⟩ := hob
          obtain ⟨e1, e2, e3⟩ := hb b rfl
          refine ⟨e1, Nat.lt_of_lt_of_le e3 hcame.moved.size, cur, ty, by rw [e2]; exact q6, by simpa using q7, fun j c hc => ?_⟩
          obtain ⟨c', q1, rfl⟩ := getElem?_map_of hc
          obtain ⟨u, hu, hru⟩ := q8 j c' q1
          exact ⟨u, hu, oldA hru⟩
  · have newOld : ∀ i o0 b C, getO Hout i = some o0 → m2 i = some (some b, C) → ∀ k o1 C1, k ∉ ρ → getO H k = some o1 → m k = some (some b, C1) → False := fun i o0 b C h1 h2 k o1 C1 h3 h4 h5 => by
      rcases hcame.own b ⟨i, o0, C, h1, h2⟩ with q | q
      · exact blockB k o1 b C1 h3 h4 h5 q
      · have := (hC.lt ⟨k, o1, C1, h4, h5⟩).1
        omega
    rcases src k o ho with ⟨i, o0, rfl, hi, rfl⟩ | ⟨hkρ, hkl, o0, hk0, rfl⟩ <;> rcases src k' o' ho' with ⟨i', o0', rfl, hi', rfl⟩ | ⟨hkρ', hkl', o0', hk0', rfl⟩
    · rw [(fwd i o0 hi).1] at hmk
      rw [(fwd i' o0' hi').1] at hmk'
      rw [hcame.conc.inj i i' o0 o0' b C C' hi hi' hmk hmk']
    · rw [(fwd i o0 hi).1] at hmk
      rw [stay k' hkρ' hkl'] at hmk'
      exact (newOld i o0 b C hi hmk k' o0' C' hkρ' hk0' hmk').elim
    · rw [(fwd i' o0' hi').1] at hmk'
      rw [stay k hkρ hkl] at hmk
      exact (newOld i' o0' b C' hi' hmk' k o0 C hkρ hk0 hmk).elim
    · rw [stay k hkρ hkl] at hmk
      rw [stay k' hkρ' hkl'] at hmk'
      exact hC.inj k k' o0 o0' b C C' hk0 hk0' hmk hmk'
  · rcases src k o ho with ⟨i, o0, rfl, hi, rfl⟩ | ⟨hkρ, hkl, o0, hk0, rfl⟩
    · rw [(fwd i o0 hi).1] at hmk
      rcases hcame.own b ⟨i, o0, C, hi, hmk⟩ with q | q
      · obtain ⟨k, o, C, _, h3, h4⟩ := ownIn b q
        exact .inl ⟨k, o, C, h3, h4⟩
      · exact .inr q
    · rw [stay k hkρ hkl] at hmk
      exact .inl ⟨k, o0, C, hk0, hmk⟩

/-- The use of the contract, in a plain run. ρ: the callee's numbers to ours; φ: what it only reads; kp: what stays; ns: the numbers whose names are forgotten. -/
theorem CallZ.useM {f : FuncId} {args args' cargs : List PV} {Hin Hout : Heap} (ρ φ ns : List Nat) {kp : List Nat} {res : PV} {d : Option Nat} {K : St → Prop} {ok own : Bool} (hf : MFn P f cargs Hin kp res Hout) (hwk : Wk ρ φ ⟨argFr 0 args, H⟩ ⟨argFr 0 cargs, Hin⟩)
    (hlen : cargs.length = args.length) (hLo : Nat.ble ρ.length Hout.length = true) (hk : ∀ k ∈ ρ, k < H.length) (hns : (ρ.zipIdx.all fun x => kp.contains x.2 || ns.contains x.1) = true) (hcell : cellP res = true) (hcO : cellO Hout = true) (hfl : φ = [] ∨ thinP res = true ∧ thinO Hout)
    (hK : K ⟨put (scrubsF ns fr) d (ren (rn ρ H.length) res), setAll (rn ρ H.length) (scrubsH ns H) ρ Hout⟩) : CallZ P false f args' ok own args d ⟨fr, H⟩ K :=
  .inr ⟨rfl, _, _, _, cstep_of_mfn hf hwk hlen (Nat.le_of_ble_eq_true hLo) hk (fun i k hi => by
    have := List.all_eq_true.1 hns (k, i) (List.mem_zipIdx_iff_getElem?.2 hi)
    simpa using this) hcell hcO hfl, hK⟩

attribute [simp] scrubsF scrubsH scrubsV rn renA renB ren renO setAll cellA cellB cellP cellO thinA thinB thinP thinO

end Go.Ab
