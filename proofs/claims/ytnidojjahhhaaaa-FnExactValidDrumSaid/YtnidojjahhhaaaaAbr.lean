/- Operations in their places, one behind the other. No condition. -/
import Derived.Test.YtnidojjahhhaaaaAbq
namespace Go.Ab
variable {P : Program} {A A' : Nat → Prop} {m m' : OMap} {h h' : OFun} {w w' : World} {H : Heap} {fr fr' : Fr} {a : Act}

theorem goes_append {x : Ctx} {n : Nat} {S : St} {o : Oper} {K : St → Prop} {s y : Operand} {t t' : TypeId} (ho : o.op = .call { callee := .builtin .append, args := #[s, y], argTypes := #[t, t'] }) (hd : ∀ d, o.dst = some d → d < n) (hx : o.op.operands.toList.all (opdLt n) = true)
    (hI : Inv x n S a w A m) (ht : (elemT P t').isSome = true ∨ strT P t' = true) (hs : okv S.fr s) (hy : okv S.fr y) {q : Bool} (hX : appendX P q t o.dst (ev S.fr s) (ev S.fr y) S K) : Yields P o a w (Goes x n o.dst a K) := by
  obtain ⟨e, he, hz, hzok, hsrc, hone, hX⟩ := hX
  have hO := hI.opnd
  have hg : Agree S.fr (cutF n S.fr) [s, y] := by
    refine (agree_cut hx).sub fun z hz => ?_
    rw [ho]
    simpa [Op.operands, Call.operands] using hz
  have hrs := hO.ev (x := s) (by rw [hg.ok (by simp)]; exact hs)
  have hry := hO.ev (x := y) (by rw [hg.ok (by simp)]; exact hy)
  rw [hg.ev (by simp)] at hrs hry
  obtain ⟨news, hsr⟩ := src_rep (P := P) getO_sub hI.conc hz (elemT_isSome ht) hry hsrc hone
  cases hes : ev S.fr s <;> simp only [hes] at hX
  case nils =>
    obtain ⟨hb, h63, hK⟩ := hX
    rw [hes] at hrs
    obtain ⟨ao, hao⟩ := hrs.nilsI
    obtain ⟨v, w', m', hrun, hN, hr⟩ := append_new (ty := o.type) hI.aok hI.conc (getO_len (H := S.H)) he hzok hsr ao hb h63
    refine yields_value (exec_append ho (by rw [hao]; exact hrun)) ⟨_, A, m', hK, ?_⟩
    rw [← addO_one] at hN hr
    refine (hI.newW hN).val (S := ⟨S.fr, S.H ++ _⟩) hd ?_
    show RepO A m' (getO (S.H ++ _)) w' _ v
    rw [getO_add]
    exact hr
  case sf k z =>
    obtain ⟨_, rfl, ⟨rows0, hk⟩, hb, h63, hK⟩ := hX
    have hk' : getO S.H k = some (.arr (sizeT P e) rows0) := by simp [getO, hk]
    rw [rowsO_of hk'] at hb h63 hK
    rw [hes] at hrs
    obtain ⟨v, w', m', hrun, hT, hsh, hr⟩ := append_own (ty := o.type) hI.aok hI.conc he hzok hk' hrs hsr hb h63
    refine yields_value (exec_append ho hrun) ⟨_, A, m', hK, ?_⟩
    rw [← getO_turn (getO_lt hk')] at hT hsh hr
    refine (hI.turned (fr' := scrubF k S.fr) hT fun t => ?_).val (S := ⟨scrubF k S.fr, _⟩) hd hr
    rw [slot_scrub]
    exact (hI.fr t).scrubV hT.subA (fun b hb => hT.keepA b hb) hsh

/-- What is asked of an operation's own text. -/
def opOk (n : Nat) (o : Oper) : Bool :=
  (match o.dst with
   | some d => decide (d < n)
   | none => true) && o.op.operands.toList.all (opdLt n) &&
  (match o.op with
   | .store _ _ _ => o.dst == none
   | .select _ _ => false
   | _ => true)

theorem opOk_dst {n : Nat} {o : Oper} (h : opOk n o = true) (d : Nat) (hd : o.dst = some d) : d < n := by
  simp only [opOk, hd, Bool.and_eq_true, decide_eq_true_eq] at h
  exact h.1.1
theorem opOk_opd {n : Nat} {o : Oper} (h : opOk n o = true) : o.op.operands.toList.all (opdLt n) = true := by
  simp only [opOk, Bool.and_eq_true] at h
  exact h.1.2
theorem opOk_store {n : Nat} {o : Oper} (h : opOk n o = true) {t : TypeId} {p x : Operand} (ho : o.op = .store t p x) : o.dst = none := by
  simp only [opOk, ho, Bool.and_eq_true, beq_iff_eq] at h
  exact h.2

theorem goes_ex {x : Ctx} {n : Nat} {S : St} {o : Oper} {K : St → Prop} {q : Bool} (hok : opOk n o = true) (hI : Inv x n S a w A m) (hX : aEx P q o.op o.dst S K) : Yields P o a w (Goes x n o.dst a K) := by
  have hd := opOk_dst hok
  cases he : isTurn o.op with
  | false =>
    rcases aEx_split he hX with ⟨pv, new, hp, hK⟩ | ⟨_, hc⟩
    · exact goes_pre hd (opOk_opd hok) hI hp hK
    · exact goes_call hd (opOk_opd hok) hI hc
  | true =>
    cases ho : o.op <;> rw [ho] at he <;> try (cases he; done)
    case store t p y =>
      rw [ho] at hX
      exact goes_store ho (opOk_store hok ho) (opOk_opd hok) hI hX.1 hX.2.1 hX.2.2
    case call c =>
      obtain ⟨callee, as, ts⟩ := c
      cases callee with
      | builtin b =>
        cases b <;> try (cases he; done)
        case append =>
          rw [ho] at hX
          simp only [aEx] at hX
          split at hX
          · rename_i e1; cases e1
          · rename_i s y t t' e1 e2 e3
            have e2' : as = #[s, y] := by rw [← Array.toList_inj]; exact e2
            have e3' : ts = #[t, t'] := by rw [← Array.toList_inj]; exact e3
            subst e2'
            subst e3'
            exact goes_append ho hd (opOk_opd hok) hI hX.1 hX.2.1 hX.2.2.1 hX.2.2.2
          · exact hX.1.elim
        all_goals (rw [ho] at hX; exact hX.1.elim)
      | _ => cases he

theorem shift_id {k : Nat} {p : PV} (hw : whole 0 p = true) : shift k p = p := by
  have A : ∀ c, wholeA 0 c = true → shiftA k c = c := fun c hc => by
    cases c with
    | sf k z => simp [wholeA] at hc
    | _ => rfl
  have B : ∀ c, wholeB 0 c = true → shiftB k c = c := fun c hc => by
    cases c with
    | agg ds =>
      simp only [wholeB, List.all_eq_true] at hc
      simp only [shiftB]
      congr 1
      exact (List.map_congr_left fun c h => A c (hc c h)).trans (List.map_id _)
    | sf k z => simp [wholeB, wholeA] at hc
    | _ => rfl
  cases p with
  | tup cs =>
    simp only [whole, List.all_eq_true] at hw
    simp only [shift]
    congr 1
    exact (List.map_congr_left fun c h => B c (hw c h)).trans (List.map_id _)
  | agg ds => exact B (.agg ds) hw
  | sf k z => simp [whole, wholeB, wholeA] at hw
  | _ => rfl

theorem aGd_split {c : Bool} {op : Op} {d : Option Nat} {S : St} {K : St → Prop} (h : aGd P c op d S K) : ∃ pv, (c = true → PreStep P S.fr S.H S.H.length op pv []) ∧ K ⟨put S.fr d (.opt c pv), S.H⟩ := by
  have quiet : ∀ {op : Op}, (c = true → vok P S.fr S.H op) ∧ K ⟨put S.fr d (.opt c (vop P S.fr S.H op)), S.H⟩ → ∃ pv, (c = true → PreStep P S.fr S.H S.H.length op pv []) ∧ K ⟨put S.fr d (.opt c pv), S.H⟩ := fun {op} h => ⟨_, fun hc => .quiet (h.1 hc), h.2⟩
  cases op <;> first | exact quiet h | skip
  case convert s t x =>
    simp only [aGd] at h
    unfold convG at h
    split at h
    · rename_i l e hev he
      obtain ⟨h1, hK⟩ := h
      exact ⟨_, fun hc => .bytes (h1 hc).1 hev (h1 hc).2.1 he (h1 hc).2.2, hK⟩
    · exact quiet h
  case call cl =>
    obtain ⟨callee, as, ts⟩ := cl
    cases callee <;> first | exact quiet h | skip
    case value y =>
      simp only [aGd] at h
      obtain ⟨hok, h⟩ := h
      cases hev : ev S.fr y <;> simp only [hev] at h
      case fn f caps =>
        obtain ⟨res, h1, h2, h3, hK⟩ := h
        refine ⟨res, fun hc => ?_, hK⟩
        obtain ⟨q0, q1⟩ := h1 hc
        simp only [Bool.and_eq_true] at q0
        obtain ⟨q2, q3⟩ := q0
        have := PreStep.call (P := P) (fr := S.fr) (H := S.H) (k0 := S.H.length) (ts := ts) (hok hc).1 (hok hc).2 hev rfl q1 q2 q3 (h2.imp id fun h => ⟨h, trivial⟩) h3 rfl
        rw [shift_id h3] at this
        simpa using this

/-- The guard says the same in the run. -/
theorem guard_run {x : Ctx} {n : Nat} {S : St} {all : List Oper} (hI : Inv x n S a w A m) (hall : all.all (opOk n) = true) {o : Oper} {j : Nat} {want : Bool} (ho : o.guard = some (j, want)) {K : Bool → Prop} (hg : guardV all S.fr j want K) :
    ∃ c, Region.wanted o (yielded all.toArray a.tmps) = c ∧ K c := by
  have dst : ∀ (l : List Oper) (j : Nat), dstAt l j = (l[j]?).bind (·.dst) := by
    intro l
    induction l with
    | nil => intro j; rfl
    | cons o r ih =>
      intro j
      cases j with
      | zero => rfl
      | succ j => simpa [dstAt] using ih j
  unfold guardV at hg
  cases hd : dstAt all j with
  | none => rw [hd] at hg; exact hg.elim
  | some d =>
    rw [hd] at hg
    simp only [gD] at hg
    rw [dst] at hd
    have hdn : d < n := by
      cases hoj : all[j]? with
      | none => rw [hoj] at hd; cases hd
      | some oj =>
        rw [hoj] at hd
        exact opOk_dst (List.all_eq_true.1 hall oj (List.mem_of_getElem? hoj)) d hd
    have hy : yielded all.toArray a.tmps j = match a.tmps.getD d undef with
        | .bool b => some b
        | _ => none := by
      unfold yielded
      have hlt : d < a.tmps.size := by rw [hI.sz]; exact hdn
      simp only [List.getElem?_toArray, hd, Option.bind_some, Array.getElem?_eq_getElem hlt, Array.getD_eq_getD_getElem?, Option.getD_some]
      split <;> simp_all
    have hr := hI.fr d
    rw [look_lt hdn] at hr
    simp only [Region.wanted, ho, hy]
    generalize a.tmps.getD d undef = gv at hr
    unfold gK at hg
    split at hg
    · rename_i b hs
      rw [hs] at hr
      rw [hr.bool]
      refine ⟨b == want, ?_, hg⟩
      cases b <;> cases want <;> rfl
    · rename_i c b hs
      rw [hs] at hr
      cases hr with
      | imm hi => cases hi
      | optT _ _ hh =>
        rw [hh.bool]
        refine ⟨b == want, ?_, hg⟩
        cases b <;> cases want <;> rfl
      | optF _ => exact ⟨false, rfl, hg⟩
    · exact hg.elim

theorem ops_sound {x : Ctx} {n : Nat} {all : List Oper} {Q : Exit → Act → World → Prop} {K : St → Prop} (hall : all.all (opOk n) = true) (hQ : ∀ S' a' w' A' m', K S' → Inv x n S' a' w' A' m' → Q .normal a' w') :
    ∀ (ops : List Oper) (q : Bool) (S : St) (a : Act) (w : World) (A : Nat → Prop) (m : OMap), ops.all (opOk n) = true → Inv x n S a w A m → aOps P q all ops S K → wpList P all.toArray Q ops a w
  | [], _, S, a, w, A, m, _, hI, h => hQ S a w A m h hI
  | o :: r, q, S, a, w, A, m, hok, hI, h => by
    simp only [List.all_cons, Bool.and_eq_true] at hok
    unfold wpList
    cases hg : o.guard with
    | none =>
      simp only [aOps, hg] at h
      rw [if_pos (by simp [Region.wanted, hg])]
      refine .inl (goes_ex hok.1 hI h _ _ fun v w' ⟨S', A', m', hK, hI'⟩ => ?_)
      exact ops_sound hall hQ r _ S' _ w' A' m' hok.2 hI' hK
    | some g =>
      obtain ⟨j, want⟩ := g
      simp only [aOps, hg] at h
      obtain ⟨c, hw, hc⟩ := guard_run hI hall hg h
      obtain ⟨pv, hp, hK⟩ := aGd_split hc
      cases c with
      | true =>
        rw [if_pos hw]
        refine .inl (yields_mono (pre_sem (pre_congr (agree_cut (opOk_opd hok.1)) (hp rfl)) A m (getO S.H) w a hI.aok hI.conc getO_sub hI.opnd fun i hi => absurd hi (by simp)) (fun v w' hR => hR) _ _ fun v w' ⟨A', m', hN, hr⟩ => ?_)
        have := hI.newW hN
        rw [List.append_nil] at this
        rw [addO_nil] at hr
        exact ops_sound hall hQ r _ _ _ w' A' m' hok.2 (this.val (S := S) (opOk_dst hok.1) (.optT _ _ hr)) hK
      | false =>
        rw [if_neg (by rw [hw]; decide)]
        exact ops_sound hall hQ r _ _ _ w A m hok.2 (hI.val (opOk_dst hok.1) (.optF _)) hK

end Go.Ab
