/- One operation in its place: what the plain run says, the run does. No condition. -/
import Derived.Test.YtnidojjahhhaaaaAbm
namespace Go.Ab
variable {P : Program} {A A' : Nat → Prop} {m m' : OMap} {h h' : OFun} {w w' : World} {H : Heap} {fr fr' : Fr} {a : Act}

/-- What is known behind an operation, in the middle of a run. -/
def Goes (x : Ctx) (n : Nat) (d : Option Nat) (a : Act) (K : St → Prop) (v : Value) (w' : World) : Prop := ∃ S' A' m', K S' ∧ Inv x n S' (a.put d v) w' A' m'

theorem getO_sub : Sub (getO H) H := fun _ _ hk => hk

theorem Inv.newW {x : Ctx} {n : Nat} {S : St} (hI : Inv x n S a w A m) {new : List (Option Obj)} (hN : NewW A m (getO S.H) w A' m' (addO (getO S.H) S.H.length new) w') : Inv x n ⟨S.fr, S.H ++ new⟩ a w' A' m' := by
  rw [← getO_add] at hN
  refine ⟨hI.moved.trans (hN.moved.mono fun _ _ h => h.elim), fun b hb => ?_, hN.aok, hN.conc, fun b hb => ?_, fun t => hN.rep hI.aok (hI.fr t), hI.sz, hI.df⟩
  · rcases hN.sub b hb with g | g
    · exact hI.sub b g
    · exact .inr (.inr (Nat.le_trans hI.moved.size g))
  · rcases hN.own b hb with g | g
    · exact hI.own b g
    · exact .inr (Nat.le_trans hI.moved.size g)

theorem Moved.cut {M M0 : Nat → Prop} {w0 w1 w2 : World} (h1 : Moved M0 w0 w1) (h2 : Moved M w1 w2) (hM : ∀ b, M b → M0 b ∨ w0.heap.size ≤ b) : Moved M0 w0 w2 :=
  ⟨h2.os.trans h1.os, h2.tape.trans h1.tape, h2.output.trans h1.output, Nat.le_trans h1.size h2.size, fun b hb hn =>
    (h2.block b (Nat.lt_of_lt_of_le hb h1.size) fun hm => by
      rcases hM b hm with g | g
      · exact hn g
      · omega).trans (h1.block b hb hn)⟩

theorem Inv.turned {x : Ctx} {n : Nat} {S : St} (hI : Inv x n S a w A m) {H' : Heap} {fr' : Fr} (hT : Turned P A m (getO S.H) w A' m' (getO H') w') (hfr : ∀ t, RepO A' m' (getO H') w' (slot fr' t) (look x n a t)) : Inv x n ⟨fr', H'⟩ a w' A' m' :=
  ⟨hI.moved.cut hT.moved hI.own, fun b hb => by
    rcases hT.sub b hb with g | g
    · exact hI.sub b g
    · exact .inr (.inr (Nat.le_trans hI.moved.size g)), hT.aok, hT.conc, fun b hb => by
    rcases hT.own b hb with g | g
    · exact hI.own b g
    · exact .inr (Nat.le_trans hI.moved.size g), hfr, hI.sz, hI.df⟩

theorem getO_oob {k : Nat} (hk : H.length ≤ k) : getO H k = none := by
  unfold getO
  rw [List.getElem?_eq_none hk]
  rfl

theorem goes_pre {x : Ctx} {n : Nat} {S : St} {o : Oper} {K : St → Prop} {pv : PV} {new : List (Option Obj)} (hd : ∀ t, o.dst = some t → t < n) (hx : o.op.operands.toList.all (opdLt n) = true) (hI : Inv x n S a w A m) (hp : PreStep P S.fr S.H S.H.length o.op pv new) (hK : K ⟨put S.fr o.dst pv, S.H ++ new⟩) :
    Yields P o a w (Goes x n o.dst a K) := by
  refine yields_mono (pre_sem (pre_congr (agree_cut hx) hp) A m (getO S.H) w a hI.aok hI.conc getO_sub hI.opnd fun i _ => getO_oob (by omega)) fun v w' ⟨A', m', hN, hr⟩ => ?_
  refine ⟨_, A', m', hK, ?_⟩
  have := hI.newW hN
  refine this.val (S := ⟨S.fr, S.H ++ new⟩) hd ?_
  show RepO A' m' (getO (S.H ++ new)) w' pv v
  rw [getO_add]
  exact hr

/-! ### The split of an operation -/

/-- A call in full, in its place. -/
def CallFull (P : Program) (op : Op) (d : Option Nat) (S : St) (K : St → Prop) : Prop :=
  ∃ y xs ts f caps, op = .call { callee := .value y, args := xs, argTypes := ts } ∧ okv S.fr y ∧ okvs S.fr xs.toList ∧ ev S.fr y = .fn f caps ∧
    ∃ pv fr' H', CStep P f (xs.toList.map (ev S.fr) ++ caps) S.fr S.H pv fr' H' ∧ K ⟨put fr' d pv, H'⟩

theorem callX_split {q : Bool} {y : Operand} {ts : Array TypeId} {as : Array Operand} {d : Option Nat} {S : St} {K : St → Prop} {f : FuncId} {caps : List PV} (hy : okv S.fr y) (hxs : okvs S.fr as.toList) (hev : ev S.fr y = .fn f caps)
    (h : CallX P q f (as.toList.map (ev S.fr) ++ caps) d S K) :
    (∃ pv new, PreStep P S.fr S.H S.H.length (.call { callee := .value y, args := as, argTypes := ts }) pv new ∧ K ⟨put S.fr d pv, S.H ++ new⟩) ∨
      (q = false ∧ CallFull P (.call { callee := .value y, args := as, argTypes := ts }) d S K) := by
  rcases h with ⟨hok, res, Hout, hf, hfl, hwh, harr, hK⟩ | ⟨hq, pv, fr', H', hc, hK⟩
  · simp only [Bool.and_eq_true] at hok
    obtain ⟨hno, hbox⟩ := hok
    refine .inl ⟨_, _, ?_, hK⟩
    have := PreStep.call (P := P) (fr := S.fr) (H := S.H) (k0 := S.H.length) (ts := ts) hy hxs hev rfl hf hno hbox hfl hwh harr
    simpa using this
  · exact .inr ⟨hq, y, as, ts, f, caps, rfl, hy, hxs, hev, pv, fr', H', hc, hK⟩

/-- A store or an append. -/
def isTurn : Op → Bool
  | .store _ _ _ => true
  | .call c => match c.callee with
    | .builtin .append | .builtin .copy | .builtin .clear | .builtin .cap => true
    | _ => false
  | _ => false

/-- A test against nil, in its place. -/
def NilFull (P : Program) (op : Op) (d : Option Nat) (S : St) (K : St → Prop) : Prop :=
  ∃ b t x y u, op = .binOp b t x y u ∧ nilOp b y = true ∧ okv S.fr x ∧ (elemT P t).isSome = true ∧ nilX S.H (ev S.fr x) fun b => K ⟨put S.fr d (.bool b), S.H⟩

theorem aEx_split {q : Bool} {op : Op} {d : Option Nat} {S : St} {K : St → Prop} (he : isTurn op = false) (h : aEx P q op d S K) :
    (∃ pv new, PreStep P S.fr S.H S.H.length op pv new ∧ K ⟨put S.fr d pv, S.H ++ new⟩) ∨ (q = false ∧ (CallFull P op d S K ∨ NilFull P op d S K)) := by
  have quiet : ∀ {op : Op}, vok P S.fr S.H op ∧ K ⟨put S.fr d (vop P S.fr S.H op), S.H⟩ → (∃ pv new, PreStep P S.fr S.H S.H.length op pv new ∧ K ⟨put S.fr d pv, S.H ++ new⟩) ∨ (q = false ∧ (CallFull P op d S K ∨ NilFull P op d S K)) := fun {op} h =>
    .inl ⟨_, [], .quiet h.1, by rw [List.append_nil]; exact h.2⟩
  cases op <;> first | exact quiet h | skip
  case convert s t x =>
    obtain ⟨hx, h⟩ := h
    unfold convX at h
    split at h
    · rename_i k n hev
      obtain ⟨h1, h2⟩ := h
      cases hk : kindT P t with
      | none => rw [hk] at h2; exact h2.elim
      | some k' =>
        rw [hk] at h2
        have hq : vok P S.fr S.H (.convert s t x) := by simp only [vok, hev, hk]; exact ⟨hx, h1, rfl⟩
        have hp := PreStep.quiet (k0 := S.H.length) hq
        simp only [vop, hev, hk] at hp
        exact .inl ⟨_, _, hp, by rw [List.append_nil]; exact h2⟩
    · rename_i l hev
      obtain ⟨h1, h2⟩ := h
      cases he : elemT P t with
      | none =>
        rw [he] at h2
        have hq : vok P S.fr S.H (.convert s t x) := by simp only [vok, hev]; exact ⟨hx, h1, h2.1⟩
        have hp := PreStep.quiet (k0 := S.H.length) hq
        simp only [vop, hev] at hp
        exact .inl ⟨_, _, hp, by rw [List.append_nil]; exact h2.2⟩
      | some e =>
        rw [he] at h2
        exact .inl ⟨_, _, .bytes hx hev h1 he h2.1, by rw [List.append_nil]; exact h2.2⟩
    · rename_i hn1 hn2
      obtain ⟨⟨e, h1, h2⟩, h3, h4, h5, h6⟩ := h
      exact .inl ⟨_, _, .text hx (fun l hl => hn2 l hl) h1 h2 h3 h4 h5, by rw [List.append_nil]; exact h6⟩
  case binOp b t x y u =>
    simp only [aEx] at h
    cases hn : nilOp b y with
    | false =>
      rw [hn] at h
      exact quiet h
    | true =>
      rw [hn] at h
      exact .inr ⟨h.1, .inr ⟨b, t, x, y, u, rfl, hn, h.2.1, h.2.2.1, h.2.2.2⟩⟩
  case alloc t => obtain ⟨cs, h1, h2, h3⟩ := h; exact .inl ⟨_, _, .alloc h1 h2, h3⟩
  case box t x => obtain ⟨h1, h2, h3⟩ := h; exact .inl ⟨_, _, .box h1 h2, h3⟩
  case store => cases he
  case buildSlice t n ps =>
    obtain ⟨e, h1, h2, h3, h4, h5, h6, h7⟩ := h
    have hp := PreStep.buildSlice (P := P) (fr := S.fr) (H := S.H) (k0 := S.H.length) (t := t) (n := n) (ps := ps.toList) h1 h2 (by simpa using h3) h4 h5 h6
    rw [Array.toArray_toList] at hp
    refine .inl ⟨_, _, hp, ?_⟩
    cases hn : n == 0 with
    | true => rw [hn] at h7; simpa using h7
    | false => rw [hn] at h7; exact h7
  case makeSlice t l c =>
    obtain ⟨e, zs, h1, h2, h3, h4, h5, h6, h7, h8, h9, h10, h11, h12, h13, h14, h15⟩ := h
    exact .inl ⟨_, _, .makeSlice h1 h3 h4 h5 h6 h7 h8 h9 h10 h11 h12 h13 h14, h15⟩
  case call c =>
    obtain ⟨callee, as, ts⟩ := c
    cases callee with
    | value y =>
      simp only [aEx] at h
      obtain ⟨hy, hxs, h⟩ := h
      cases hev : ev S.fr y <;> simp only [hev] at h
      case fn f caps => exact (callX_split hy hxs hev h).imp id fun h => ⟨h.1, .inl h.2⟩
    | builtin b =>
      cases b <;> first | exact quiet h | (cases he)
    | _ => exact quiet h

/-- Where own objects that are there must not turn. -/
theorem aEx_pre {op : Op} {d : Option Nat} {S : St} {K : St → Prop} (he : ∀ t p x, op ≠ .store t p x) (h : aEx P true op d S K) : ∃ pv new, PreStep P S.fr S.H S.H.length op pv new ∧ K ⟨put S.fr d pv, S.H ++ new⟩ := by
  cases ht : isTurn op with
  | false =>
    rcases aEx_split ht h with h | ⟨hq, _⟩
    · exact h
    · cases hq
  | true =>
    cases op <;> try (cases ht; done)
    case store t p x => exact absurd rfl (he t p x)
    case call c =>
      obtain ⟨callee, as, ts⟩ := c
      cases callee with
      | builtin b =>
        cases b <;> try (cases ht; done)
        case append =>
          simp only [aEx] at h
          split at h
          · rename_i e1; cases e1
          · rename_i s y t t' e1 e2 e3
            have e2' : as = #[s, y] := by rw [← Array.toList_inj]; exact e2
            have e3' : ts = #[t, t'] := by rw [← Array.toList_inj]; exact e3
            subst e2'
            subst e3'
            obtain ⟨h2, h3, hk⟩ := h
            unfold appendK at hk
            split at hk
            · obtain ⟨h1, e, h4, h5, h6, h7, h8, hX⟩ := hk
              cases hes : ev S.fr s <;> simp only [hes] at hX
              case nils => exact ⟨_, _, .append h1 h2 h3 hes h4 h5 h6 h7 h8 hX.1 hX.2.1, hX.2.2⟩
              case sf k z => cases hX.1
              case so k z lo len => cases hX.1
            · split at hk
              · cases hk.1
              · exact hk.elim
          · rename_i e1 _ _; cases e1
          · rename_i e1 _ _; cases e1
          · rename_i e1 _ _; cases e1
          · exact h.1.elim
        case copy =>
          simp only [aEx] at h
          split at h
          · rename_i e1; cases e1
          · rename_i e1 _ _; cases e1
          · cases h.2.2.1
          · rename_i e1 _ _; cases e1
          · rename_i e1 _ _; cases e1
          · exact h.1.elim
        case clear =>
          simp only [aEx] at h
          split at h
          · rename_i e1; cases e1
          · rename_i e1 _ _; cases e1
          · rename_i e1 _ _; cases e1
          · cases h.2.1
          · rename_i e1 _ _; cases e1
          · exact h.1.elim
        case cap =>
          simp only [aEx] at h
          split at h
          · rename_i e1; cases e1
          · rename_i e1 _ _; cases e1
          · rename_i e1 _ _; cases e1
          · rename_i e1 _ _; cases e1
          · cases h.1
          · exact h.1.elim
      | _ => cases ht

/-! ### Each of them runs -/

theorem goes_call {x : Ctx} {n : Nat} {S : St} {o : Oper} {K : St → Prop} (hd : ∀ t, o.dst = some t → t < n) (hx : o.op.operands.toList.all (opdLt n) = true) (hI : Inv x n S a w A m) (hc : CallFull P o.op o.dst S K) : Yields P o a w (Goes x n o.dst a K) := by
  obtain ⟨y, as, ts, f, caps, ho, hy, hxs, hev, pv, fr', H', hc, hK⟩ := hc
  have hO := hI.opnd
  have hg : Agree S.fr (cutF n S.fr) (y :: as.toList) := by
    refine (agree_cut hx).sub fun z hz => ?_
    rw [ho]
    simpa [Op.operands, Call.operands] using hz
  have hry := hO.ev (x := y) (by rw [hg.ok (by simp)]; exact hy)
  rw [hg.ev (by simp), hev] at hry
  obtain ⟨us, hus, hul, hrep⟩ := hry.fnI
  have hargs := eval_list hO as.toList (hg.oks (fun z hz => by simp [hz]) hxs)
  rw [hg.evs (fun z hz => by simp [hz])] at hargs
  refine yields_call (xs := as.toList) (ts := ts) (by rw [ho, Array.toArray_toList]) hus ?_
  refine (hc A m w ((as.toList.map a.eval).toArray ++ us) hI.aok hI.conc (by simp [hul]) fun i p hp => ?_).mono fun e w' ⟨v, A', m', he, hcame, hslots⟩ => ⟨v, he, ?_⟩
  · rw [List.getElem?_append] at hp
    split at hp
    · rename_i hlt
      have := hargs i p hp
      rw [List.length_map] at hlt
      have hlt' : i < (as.toList.map a.eval).toArray.size := by simpa using hlt
      rw [Array.getD_eq_getD_getElem?, Array.getElem?_append, if_pos hlt', ← Array.getD_eq_getD_getElem?]
      exact this
    · rename_i hlt
      have := hrep _ p hp
      rw [List.length_map] at hlt this
      have hlt' : ¬ i < (as.toList.map a.eval).toArray.size := by simpa using hlt
      have hsz : (as.toList.map a.eval).toArray.size = as.toList.length := by simp
      rw [Array.getD_eq_getD_getElem?, Array.getElem?_append, if_neg hlt', hsz, ← Array.getD_eq_getD_getElem?]
      exact this
  · refine ⟨_, A', m', hK, ?_⟩
    have hI' : Inv x n ⟨fr', H'⟩ a w' A' m' := ⟨hI.moved.cut hcame.moved hI.own, fun b hb => by
      rcases hcame.sub b hb with g | g | g
      · exact hI.sub b g
      · exact .inr (hI.own b g)
      · exact .inr (.inr (Nat.le_trans hI.moved.size g)), hcame.aok, hcame.conc, fun b hb => by
      rcases hcame.own b hb with g | g
      · exact hI.own b g
      · exact .inr (Nat.le_trans hI.moved.size g), fun t => hslots t _ (hI.fr t), hI.sz, hI.df⟩
    exact hI'.val (S := ⟨fr', H'⟩) hd hcame.rep

theorem yields_skip {o : Oper} {R : Value → World → Prop} {w' : World} (hr : (execOp a.eval o).run P w = .ok .skip w') (h : R undef w') : Yields P o a w R := fun K Q hK => by
  unfold Oper.wp
  rw [hr]
  exact hK undef w' h

theorem goes_store {x : Ctx} {n : Nat} {S : St} {o : Oper} {K : St → Prop} {t : TypeId} {p y : Operand} (ho : o.op = .store t p y) (hd : o.dst = none) (hx : o.op.operands.toList.all (opdLt n) = true) (hI : Inv x n S a w A m) (hp : okv S.fr p) (hy : okv S.fr y) (hX : storeX P t (ev S.fr p) (ev S.fr y) S K) :
    Yields P o a w (Goes x n o.dst a K) := by
  have hO := hI.opnd
  have hg : Agree S.fr (cutF n S.fr) [p, y] := by
    refine (agree_cut hx).sub fun z hz => ?_
    rw [ho]
    simpa [Op.operands] using hz
  have h1 := hO.ev (x := p) (by rw [hg.ok (by simp)]; exact hp)
  have h2 := hO.ev (x := y) (by rw [hg.ok (by simp)]; exact hy)
  rw [hg.ev (by simp)] at h1 h2
  obtain ⟨w', h', H', hrun, hK, hg, hT, hsh⟩ := store_eff (P := P) hI.conc hI.aok (fun _ => rfl) h1 h2 rfl hX
  obtain rfl : getO H' = h' := funext hg
  refine yields_skip (w' := w') ?_ ⟨_, A, m, hK, ?_⟩
  · simp only [execOp, ho, Sem.run_bind, hrun, Result.andThen_ok]
    rfl
  · rw [hd]
    exact hI.turned hT fun t => (hI.fr t).mono hT.subA (fun b hb => hT.keepA b hb) hsh

theorem slot_scrub {k t : Nat} : ∀ {fr : Fr}, slot (scrubF k fr) t = scrubV k (slot fr t)
  | [] => rfl
  | (i, p) :: r => by
    simp only [scrubF, slot]
    cases i == t with
    | true => rfl
    | false => exact slot_scrub (fr := r)

end Go.Ab
