/- More of the plain run: a contract from less; a part of an own slice in a variable becomes the whole. No condition. -/
import Derived.Test.YtoeklljhjhidbaaGreatDoorKc
namespace Go.Ab
variable {P : Program} {A A' : Nat → Prop} {m m' : OMap} {h h' : OFun} {w w' : World} {H : Heap} {fr : Fr} {a : Act}

theorem slot_argApp {args : List PV} {G : Fr} : ∀ {i t : Nat}, i ≤ t → t < i + args.length → slot (argFr i args ++ G) t = args.getD (t - i) .top := by
  induction args with
  | nil => intro i t h1 h2; simp at h2; omega
  | cons p r ih =>
    intro i t h1 h2
    simp only [argFr, List.cons_append, slot]
    by_cases e : i = t
    · subst e; simp
    · have : (i == t) = false := by simpa using e
      rw [this, cond_false, ih (by omega) (by simp at h2; omega), show t - i = (t - (i + 1)) + 1 by omega]
      rfl
theorem slot_argAppG {args : List PV} {G : Fr} : ∀ {i t : Nat}, i + args.length ≤ t → slot (argFr i args ++ G) t = slot G t := by
  induction args with
  | nil => intro i t _; rfl
  | cons p r ih =>
    intro i t h1
    simp only [argFr, List.cons_append, slot]
    simp only [List.length_cons] at h1
    have : (i == t) = false := by simp; omega
    rw [this, cond_false, ih (by omega)]

/-- A contract at less: own objects laid anew, say. -/
theorem MFn.weakIn [Go.Ab.Drwn] {f : FuncId} {args args' : List PV} {Hin Hin' Hout : Heap} {kp : List Nat} {res : PV} (hf : MFn P f args' Hin' kp res Hout) (hlen : args'.length = args.length) (hsh : shK Hin Hout kp)
    (hw : Weak ⟨argFr 0 args ++ ghF args.length kp, Hin⟩ ⟨argFr 0 args' ++ ghF args.length kp, Hin'⟩) : MFn P f args Hin kp res Hout := by
  intro A m w vs hA hC hvs hargs
  let x : Ctx := ⟨w, A, OwnB m (getO Hin), fun t => ghV m (kp.getD (t - args.length) 0)⟩
  have ghl : ∀ t, args.length ≤ t → look x args.length { tmps := vs, defers := [] } t = ghV m (kp.getD (t - args.length) 0) := fun t ht => by
    unfold look
    rw [if_neg (by omega)]
  have hI : Inv x args.length ⟨argFr 0 args ++ ghF args.length kp, Hin⟩ { tmps := vs, defers := [] } w A m := by
    refine ⟨.refl _ _, fun b hb => .inl hb, hA, hC, fun b hb => .inl hb, fun t => ?_, hvs, rfl⟩
    by_cases ht : t < args.length
    · rw [slot_argApp (Nat.zero_le _) (by omega), Nat.sub_zero, look_lt ht, List.getD_eq_getElem?_getD, List.getElem?_eq_getElem ht]
      exact hargs t _ (List.getElem?_eq_getElem ht)
    · rw [slot_argAppG (by omega), ghF_slot]
      split
      · rename_i h2
        rw [ghl t (by omega)]
        have hmem : kp.getD (t - args.length) 0 ∈ kp := by
          rw [List.getD_eq_getElem?_getD, List.getElem?_eq_getElem (by omega)]
          exact List.getElem_mem _
        obtain ⟨o, _, h1, _, _⟩ := shK_mem hsh _ hmem
        obtain ⟨ob, C, hm', _⟩ := hC.at_ _ o h1
        unfold ghV
        rw [hm']
        exact .own _ C ob o h1 hm'
      · exact .topI _
  obtain ⟨A1, m1, hI1⟩ := hw _ _ _ _ _ _ hI
  have hcall := hf A1 m1 w vs hI1.aok hI1.conc (by rw [hvs, hlen]) (fun i p hp => by
    have hil : i < args'.length := (List.getElem?_eq_some_iff.1 hp).1
    have := hI1.fr i
    rw [slot_argApp (Nat.zero_le _) (by omega), Nat.sub_zero, look_lt (by omega), List.getD_eq_getElem?_getD, hp] at this
    exact this)
  have hown : ∀ b, OwnB m1 (getO Hin') b → OwnB m (getO Hin) b ∨ w.heap.size ≤ b := hI1.own
  have hsub : ∀ b, A1 b → A b ∨ OwnB m (getO Hin) b ∨ w.heap.size ≤ b := hI1.sub
  refine hcall.mono fun e w' ⟨v, A2, m2, he, hc, hkeep⟩ => ⟨v, A2, m2, he, ⟨hc.moved.mono fun b hb h1 => ?_, fun b hb => ?_, hc.aok, hc.conc, fun b hb => ?_, hc.rep⟩, fun k hk => ⟨?_, shK_mem hsh k hk⟩⟩
  · rcases hown b h1 with h2 | h2
    · exact h2
    · omega
  · rcases hc.sub b hb with h1 | h1 | h1
    · exact hsub b h1
    · exact .inr (hown b h1)
    · exact .inr (.inr h1)
  · rcases hc.own b hb with h1 | h1
    · exact hown b h1
    · exact .inr h1
  · obtain ⟨g1, _⟩ := hkeep k hk
    rw [g1]
    obtain ⟨i, hi⟩ := List.mem_iff_getElem?.1 hk
    have hil : i < kp.length := (List.getElem?_eq_some_iff.1 hi).1
    have h3 := hI1.fr (args.length + i)
    rw [slot_argAppG (by omega), ghF_slot, if_pos (by omega), ghl _ (by omega)] at h3
    have hkk : kp.getD (args.length + i - args.length) 0 = k := by
      rw [Nat.add_sub_cancel_left, List.getD_eq_getElem?_getD, hi]
      rfl
    rw [hkk] at h3
    obtain ⟨o, _, h1, _, _⟩ := shK_mem hsh k hk
    obtain ⟨ob, C, hm', _⟩ := hC.at_ _ o h1
    unfold ghV at h3
    rw [hm'] at h3
    rw [h3.ownI, hm']

theorem MFn.keep [Go.Ab.Drwn] {f : FuncId} {args : List PV} {Hin Hout : Heap} {kp kp' : List Nat} {res : PV} (hf : MFn P f args Hin kp res Hout) (hk : ∀ k ∈ kp', k ∈ kp) : MFn P f args Hin kp' res Hout := fun A m w vs hA hC hvs hargs =>
  (hf A m w vs hA hC hvs hargs).mono fun _e _w' ⟨v, A', m', h1, h2, h3⟩ => ⟨v, A', m', h1, h2, fun k hk' => h3 k (hk k hk')⟩

/-- A variable's part that begins with its object becomes the whole of it. -/
theorem weak_cutB [Go.Ab.Drwn] {S : St} {kb j k z len : Nat} {cs : List PV} {rows : List (List PV)} (hkb : S.H[kb]? = some (some (.box cs))) (hj : cs[j]? = some (.so k z 0 len)) (hk : S.H[k]? = some (some (.arr z rows))) (hl : len ≤ rows.length) :
    Weak S ⟨scrubF k S.fr, ((S.H.map (scrubO k)).set k (some (.arr z (rows.take len)))).set kb (some (.box ((cs.map (scrubA k)).set j (.sf k z))))⟩ := fun x n a w A m hI => by
  have hk' : getO S.H k = some (.arr z rows) := by simp [getO, hk]
  have hkb' : getO S.H kb = some (.box cs) := by simp [getO, hkb]
  have hne : kb ≠ k := fun e => by rw [e, hk'] at hkb'; cases hkb'
  have hkl : k < S.H.length := (List.getElem?_eq_some_iff.1 hk).1
  have hkbl : kb < S.H.length := (List.getElem?_eq_some_iff.1 hkb).1
  obtain ⟨obb, Cb, hmb, hob⟩ := hI.conc.at_ kb _ hkb'
  cases obb with
  | none => exact hob.elim
  | some bb =>
    obtain ⟨u, hu, hr⟩ : ∃ u, (∃ cur e fz, w.heap[bb]? = some (.cells cur e fz) ∧ cur[j]? = some u) ∧ RepO A m (getO S.H) w (.so k z 0 len) u := by
      obtain ⟨_, _, cur, e, fz, q1, _, _, q3⟩ := hob
      obtain ⟨u, hu, hr⟩ := q3 j _ hj
      exact ⟨u, ⟨cur, e, fz, q1, hu⟩, hr⟩
    obtain ⟨rows', ob, C, cap, hk2, hm, hv⟩ := hr.soI
    obtain rfl : rows' = rows := by rw [hk'] at hk2; cases hk2; rfl
    have hlt : (rows'.take len).length = len := by rw [List.length_take]; omega
    have hI' : Inv x n ⟨scrubF k S.fr, (S.H.map (scrubO k)).set k (some (.arr z (rows'.take len)))⟩ a w A m := by
      refine inv_look hI hk' hm (fun h' => ?_) fun t' => ?_
      · obtain ⟨ob', C', hm', ho⟩ := hI.conc.at_ k _ hk'
        rw [hm] at hm'
        cases hm'
        cases ob with
        | none => obtain ⟨rfl, rfl⟩ := ho; exact ⟨by simp, rfl⟩
        | some b =>
          obtain ⟨g1, g2, g3, g4, g5, cur, e, q1, q2, q3⟩ := ho
          have key : ∀ (i : Nat) (r : List PV), (rows'.take len)[i]? = some r → rows'[i]? = some r := fun i r hr => by
            rw [List.getElem?_take] at hr
            split at hr
            · exact hr
            · cases hr
          exact ⟨g1, g2, by omega, g4, fun i r hr => g5 i r (key i r hr), cur, e, q1, q2, fun i j r c hr hc => q3 i j r c (key i r hr) hc⟩
      · rw [slot_scrub]
        exact scrub_keep hm (hI.fr t')
    have eT : getO ((S.H.map (scrubO k)).set k (some (.arr z (rows'.take len)))) = turnO (getO S.H) k (.arr z (rows'.take len)) := getO_turn hkl
    have eK : getO ((S.H.map (scrubO k)).set k (some (.arr z (rows'.take len)))) kb = some (.box (cs.map (scrubA k))) := by
      rw [eT]
      simp [turnO, hne, hkb', scrubO]
    have hC := hI'.conc
    obtain ⟨ob2, C2, hm2, ho2⟩ := hC.at_ kb _ eK
    rw [hmb] at hm2
    cases hm2
    obtain ⟨g1, g2, cur, e, fz, q1, q2, qz, q3⟩ := ho2
    obtain ⟨cur', e', fz', q1', hu'⟩ := hu
    rw [q1] at q1'
    cases q1'
    have hshb : SameShape (Obj.box (cs.map (scrubA k))) (Obj.box ((cs.map (scrubA k)).set j (.sf k z))) := trivial
    have hS : Shaped none m (getO ((S.H.map (scrubO k)).set k (some (.arr z (rows'.take len))))) m (updO (getO ((S.H.map (scrubO k)).set k (some (.arr z (rows'.take len))))) kb (.box ((cs.map (scrubA k)).set j (.sf k z)))) := fun i oi _ hi => by
      refine ⟨rfl, ?_⟩
      by_cases e : i = kb
      · subst e; rw [eK] at hi; cases hi; exact ⟨_, by simp [updO], hshb⟩
      · exact ⟨oi, by simp [updO, e, hi], SameShape.refl oi⟩
    have hkN : updO (getO ((S.H.map (scrubO k)).set k (some (.arr z (rows'.take len))))) kb (.box ((cs.map (scrubA k)).set j (.sf k z))) k = some (.arr z (rows'.take len)) := by
      rw [eT]
      simp [updO, turnO, Ne.symm hne]
    have hset := conc_set (w' := w) hC eK hmb hshb rfl (fun _ _ => rfl) (o' := .box ((cs.map (scrubA k)).set j (.sf k z))) ⟨g1, g2, cur, e, fz, q1, by simpa using q2, qz, fun i c hc => by
      rw [List.getElem?_set] at hc
      by_cases ei : j = i
      · subst ei
        have hlt' : j < cs.length := (List.getElem?_eq_some_iff.1 hj).1
        simp [hlt'] at hc
        subst hc
        refine ⟨u, hu', ?_⟩
        rcases hv with ⟨rfl, ao, hao, h0⟩ | ⟨b, rfl, hao, _, hcap⟩
        · obtain ⟨rfl, rfl, rfl⟩ := h0 rfl
          rw [hao]
          exact .sfN k z C ao hkN hm
        · rw [hao, Nat.zero_mul]
          obtain rfl : cap = C := by omega
          have := RepO.sf (A := A) (m := m) (w := w) (h := updO (getO ((S.H.map (scrubO k)).set k (some (.arr z (rows'.take len))))) kb (.box ((cs.map (scrubA k)).set j (.sf k z)))) k z cap b (rows'.take len) hkN hm
          rw [hlt] at this
          exact this
      · rw [if_neg ei] at hc
        obtain ⟨u', hu2, hr2⟩ := q3 i c hc
        exact ⟨u', hu2, hr2.mono (fun _ h => h) (fun _ _ => rfl) hS⟩⟩
    have eG : getO (((S.H.map (scrubO k)).set k (some (.arr z (rows'.take len)))).set kb (some (.box ((cs.map (scrubA k)).set j (.sf k z))))) = updO (getO ((S.H.map (scrubO k)).set k (some (.arr z (rows'.take len))))) kb (.box ((cs.map (scrubA k)).set j (.sf k z))) := getO_set (by simp; exact hkbl)
    refine ⟨A, m, hI'.moved, hI'.sub, hI'.aok, by show ConcO A _ (getO _) w; rw [eG]; exact hset.1, fun b' hb' => ?_, fun t => ?_, hI'.sz, hI'.df⟩
    · obtain ⟨i, o, C', hi, hmi⟩ := hb'
      have hi : getO (((S.H.map (scrubO k)).set k (some (.arr z (rows'.take len)))).set kb (some (.box ((cs.map (scrubA k)).set j (.sf k z))))) i = some o := hi
      rw [eG] at hi
      by_cases ei : i = kb
      · subst ei; exact hI'.own b' ⟨i, _, C', eK, hmi⟩
      · simp only [updO, if_neg ei] at hi
        exact hI'.own b' ⟨i, o, C', hi, hmi⟩
    · show RepO A m (getO _) w _ _
      rw [eG]
      exact (hI'.fr t).mono (fun _ h => h) (fun _ _ => rfl) hS
end Go.Ab
