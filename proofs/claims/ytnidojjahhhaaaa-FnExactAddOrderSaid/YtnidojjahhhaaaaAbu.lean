/- Operations whose order is drawn: they come out as in the order of the text. No condition. -/
import Derived.Test.YtnidojjahhhaaaaAbt
import Derived.StillTail
namespace Go.Ab
variable {P : Program} {A A' : Nat → Prop} {m m' : OMap} {h h' : OFun} {w w' : World} {H : Heap} {fr fr' : Fr} {a : Act}

/-! ### What is asked of the text -/

/-- Operation j waits for operation i, in the run. -/
inductive Waits (ops : List Oper) : Nat → Nat → Prop
  | one {j : Nat} {o : Oper} {e : Edge} (ho : ops[j]? = some o) (he : e ∈ o.after) (hb : Region.binds .any e = true) : Waits ops j e.on
  | more {j i : Nat} {o : Oper} {e : Edge} (ho : ops[j]? = some o) (he : e ∈ o.after) (hb : Region.binds .any e = true) (hw : Waits ops e.on i) : Waits ops j i

theorem fold_bits {ops : List Oper} {acc : List Nat} {o : Oper} {j : Nat} (ho : ops[j]? = some o) (hacc : ∀ j' i, waits acc j' i = true → Waits ops j' i) : ∀ (es : List Edge) (s : Nat), (∀ e ∈ es, e ∈ o.after) → (∀ i, s.testBit i = true → Waits ops j i) →
    ∀ i, (es.foldl (fun s e => if Region.binds .any e then s ||| (1 <<< e.on) ||| acc.getD e.on 0 else s) s).testBit i = true → Waits ops j i
  | [], s, _, hs, i, h => hs i h
  | e :: es, s, hes, hs, i, h => by
    refine fold_bits ho hacc es _ (fun e' he' => hes e' (by simp [he'])) (fun i hi => ?_) i h
    simp only [] at hi
    split at hi
    · rename_i hb
      rw [Nat.testBit_or, Nat.testBit_or, Bool.or_eq_true, Bool.or_eq_true] at hi
      rcases hi with (hi | hi) | hi
      · exact hs i hi
      · rw [Nat.one_shiftLeft, Nat.testBit_two_pow, decide_eq_true_eq] at hi
        rw [← hi]
        exact .one ho (hes e (by simp)) hb
      · exact .more ho (hes e (by simp)) hb (hacc _ _ hi)
    · exact hs i hi

theorem ancM_spec {ops : List Oper} : ∀ (r : List Oper) (acc : List Nat), (∀ j, r[j]? = ops[acc.length + j]?) → (∀ j i, waits acc j i = true → Waits ops j i) → ∀ j i, waits (ancM r acc) j i = true → Waits ops j i
  | [], _, _, hacc, j, i, h => hacc j i h
  | o :: r, acc, hr, hacc, j, i, h => by
    have ho : ops[acc.length]? = some o := by simpa using (hr 0).symm
    refine ancM_spec r _ (fun j => ?_) (fun j i hj => ?_) j i h
    · have := hr (j + 1)
      simp only [List.getElem?_cons_succ] at this
      rw [this, List.length_append, List.length_singleton]
      congr 1
      omega
    · unfold waits at hj
      by_cases h1 : j < acc.length
      · rw [List.getD_eq_getElem?_getD, List.getElem?_append_left h1, ← List.getD_eq_getElem?_getD] at hj
        exact hacc j i hj
      · by_cases h2 : j = acc.length
        · subst h2
          rw [List.getD_eq_getElem?_getD, List.getElem?_append_right (Nat.le_refl _)] at hj
          simp only [Nat.sub_self, List.getElem?_cons_zero, Option.getD_some] at hj
          exact fold_bits ho hacc _ _ (fun e he => by simpa using he) (fun i hi => by simp at hi) i hj
        · rw [List.getD_eq_getElem?_getD, List.getElem?_eq_none (by simp; omega)] at hj
          simp at hj

theorem waits_spec {ops : List Oper} {j i : Nat} (h : waits (ancM ops []) j i = true) : Waits ops j i :=
  ancM_spec ops [] (by simp) (fun j i h => by simp [waits] at h) j i h

/-- With each operation its forerunners have run. -/
def Closed (ops : List Oper) (E : Nat → Prop) : Prop := ∀ j o, ops[j]? = some o → E j → ∀ e ∈ o.after, Region.binds .any e = true → E e.on

theorem Waits.closed {ops : List Oper} {E : Nat → Prop} (hc : Closed ops E) {j i : Nat} (hw : Waits ops j i) (hj : ∀ o, ops[j]? = some o → ∀ e ∈ o.after, Region.binds .any e = true → E e.on) : E i := by
  induction hw with
  | one ho he hb => exact hj _ ho _ he hb
  | more ho he hb _ ih => exact ih fun o' ho' e' he' hb' => hc _ _ ho' (hj _ ho _ he hb) e' he' hb'

structure DrawOk (ops : List Oper) (T : Nat) : Prop where
  low : ∀ j o, ops[j]? = some o → ∀ e ∈ o.after, Region.binds .any e = true → e.on < j
  tail : ∀ j i, j < ops.length → T ≤ j → i < j → Waits ops j i ∨ (i < T ∧ hoistB ops i = true)
  uniq : ∀ i j d, i < T → j < T → i ≠ j → dstI ops i = some d → dstI ops j ≠ some d
  reads : ∀ i j o d, i < T → j < T → i ≠ j → ops[j]? = some o → dstI ops i = some d → d ∈ Oper.looksAt ops.toArray o → if i < j then Waits ops j i else Waits ops i j

theorem drawOkT_spec {ops : List Oper} {T : Nat} (hTle : T ≤ ops.length) (h : drawOkT ops T = true) : DrawOk ops T := by
  unfold drawOkT at h
  simp only at h
  have key : ∀ j o, ops[j]? = some o → _ := fun j o ho => by
    have := List.all_eq_true.1 h j (List.mem_range.2 (List.getElem?_eq_some_iff.1 ho).1)
    simp only [ho, Bool.and_eq_true] at this
    exact this
  refine ⟨fun j o ho e he hb => ?_, fun j i hj hTj hij => ?_, fun i j d hi hj hij hd hd' => ?_, fun i j o d hi hj hij ho hd hl => ?_⟩
  · have := Array.all_eq_true_iff_forall_mem.1 (key j o ho).1.1 e he
    rw [hb] at this
    simpa using this
  · have ho : ops[j]? = some ops[j] := List.getElem?_eq_getElem hj
    have := (key j _ ho).1.2
    simp only [decide_eq_true_eq, Bool.or_eq_true] at this
    rcases this with h1 | h1
    · omega
    · have h2 := List.all_eq_true.1 h1 i (List.mem_range.2 hij)
      simp only [Bool.or_eq_true, Bool.and_eq_true, decide_eq_true_eq] at h2
      exact h2.imp waits_spec id
  · have ho : ops[j]? = some ops[j] := List.getElem?_eq_getElem (by omega)
    have := (key j _ ho).2
    simp only [Bool.or_eq_true, decide_eq_true_eq] at this
    rcases this with h1 | h1
    · omega
    · have h2 := List.all_eq_true.1 h1 i (List.mem_range.2 hi)
      simp [hij, hd, hd'] at h2
  · have := (key j _ ho).2
    simp only [Bool.or_eq_true, decide_eq_true_eq] at this
    rcases this with h1 | h1
    · omega
    · have h2 := List.all_eq_true.1 h1 i (List.mem_range.2 hi)
      simp only [hij, decide_false, Bool.false_or, hd, Bool.and_eq_true, Bool.or_eq_true, Bool.not_eq_true'] at h2
      have h3 := h2.2.resolve_left (by simpa using hl)
      split at h3
      · rename_i hlt; rw [if_pos hlt]; exact waits_spec h3
      · rename_i hlt; rw [if_neg hlt]; exact waits_spec h3

/-! ### The run -/

def restr (fr : Fr) (ts : List Nat) : Fr := ts.map fun t => (t, slot fr t)

theorem slot_restr {ts : List Nat} {t : Nat} : slot (restr fr ts) t = if t ∈ ts then slot fr t else .top := by
  induction ts with
  | nil => rfl
  | cons s r ih =>
    simp only [restr, List.map_cons, slot]
    by_cases e : s = t
    · subst e; simp
    · have : (s == t) = false := by simpa using e
      rw [this, cond_false]
      have ih' : slot (List.map (fun t => (t, slot fr t)) r) t = _ := ih
      rw [ih']
      have e' : t ≠ s := fun h => e h.symm
      simp [e']

section lex
variable {ops : List Oper} {S : St} {σ : Nat → St} {pv : Nat → PV} {new : Nat → List (Option Obj)}

theorem take_get {T j : Nat} (hj : j < T) : (ops.take T)[j]? = ops[j]? := by rw [List.getElem?_take, if_pos hj]
theorem dstI_take {T j : Nat} (hj : j < T) : dstI (ops.take T) j = dstI ops j := by simp only [dstI, take_get hj]

theorem guard_val {p : PV} {v : Value} {want : Bool} {K : Bool → Prop} (hr : RepO A m h w p v) (hg : gK p want K) : ∃ c, ((match v with | .bool b => some b | _ => none : Option Bool) == some want) = c ∧ K c := by
  unfold gK at hg
  split at hg
  · rename_i b
    rw [hr.bool]
    refine ⟨b == want, ?_, hg⟩
    cases b <;> cases want <;> rfl
  · rename_i c b
    cases hr with
    | imm hi => cases hi
    | optT _ _ hh =>
      rw [hh.bool]
      refine ⟨b == want, ?_, hg⟩
      cases b <;> cases want <;> rfl
    | optF _ => exact ⟨false, rfl, hg⟩
  · exact hg.elim

theorem looks_lt {n : Nat} (hall : ops.all (opOk n) = true) {j : Nat} {o : Oper} (ho : ops[j]? = some o) : ∀ t ∈ Oper.looksAt ops.toArray o, t < n := fun t ht => by
  unfold Oper.looksAt at ht
  rcases List.mem_append.1 ht with h | h
  · obtain ⟨x, hx, e⟩ := List.mem_filterMap.1 h
    have := List.all_eq_true.1 (opOk_opd (List.all_eq_true.1 hall o (List.mem_of_getElem? ho))) x hx
    cases x <;> simp only [reduceCtorEq, Option.some.injEq] at e
    subst e
    simpa [opdLt] using this
  · cases hg : o.guard with
    | none => rw [hg] at h; simp at h
    | some g =>
      obtain ⟨g, want⟩ := g
      rw [hg] at h
      simp only [List.getElem?_toArray, Option.mem_toList] at h
      cases hog : ops[g]? with
      | none => rw [hog] at h; cases h
      | some og =>
        rw [hog] at h
        exact opOk_dst (List.all_eq_true.1 hall og (List.mem_of_getElem? hog)) t h

/-- One operation that is ready runs. -/
theorem draw_one {x : Ctx} {n T : Nat} (hall : ops.all (opOk n) = true) (hT : T ≤ ops.length) (hok : DrawOk ops T) (hL : Lex P ops (ops.take T) S σ pv new) {E : Nat → Prop} (hD : DInv x n (ops.take T) S σ pv E a w A m) (hc : Closed ops E) {j : Nat} (hj : j < T) (hjE : ¬ E j)
    {o : Oper} (ho : ops[j]? = some o) (hready : ∀ e ∈ o.after, Region.binds .any e = true → E e.on) {K : Act → World → Prop} {Q : Exit → Act → World → Prop}
    (hK : ∀ a' w' A' m', DInv x n (ops.take T) S σ pv (fun i => E i ∨ i = j) a' w' A' m' → K a' w') : wpOp P ops.toArray Q j K a w := by
  have hlen : (ops.take T).length = T := by rw [List.length_take]; omega
  have hjt : j < (ops.take T).length := by omega
  have hot : (ops.take T)[j]? = some o := by rw [take_get hj]; exact ho
  have hwait : ∀ i, Waits ops j i → E i := fun i hw => hw.closed hc fun o' ho' e he hb => by rw [ho] at ho'; cases ho'; exact hready e he hb
  have hdI : dstI (ops.take T) j = o.dst := by simp only [dstI, hot, Option.bind_some]
  have hokj : opOk n o = true := List.all_eq_true.1 hall o (List.mem_of_getElem? ho)
  -- what the operation reads
  have hlookn : ∀ t ∈ Oper.looksAt ops.toArray o, t < n := looks_lt hall ho
  have hread : ∀ t ∈ Oper.looksAt ops.toArray o, RepO A m (hE (ops.take T) σ E (σ j).H.length) w (slot (σ j).fr t) (a.tmps.getD t undef) := fun t ht => by
    rw [← look_lt (x := x) (hlookn t ht)]
    rcases hL.slot t j (by omega) with ⟨i, h1, h2, h3, _⟩ | ⟨h1, h2⟩
    · rw [h3]
      have h2' : dstI ops i = some t := by rw [← dstI_take (T := T) (by omega)]; exact h2
      have hw := hok.reads i j o t (by omega) hj (by omega) ho h2' ht
      rw [if_pos h1] at hw
      exact (hD.val i t (by omega) (hwait i hw) h2).mono (fun _ h => h) (fun _ _ => rfl) (hE_shaped (hL.len_mono _ (by omega) (by omega)))
    · rw [h2]
      refine (hD.old t fun i hi hEi hdi => ?_).mono (fun _ h => h) (fun _ _ => rfl) (hE_shaped (hL.len_mono _ (Nat.zero_le _) (by omega)))
      rcases Nat.lt_trichotomy i j with h | h | h
      · exact h1 i h hdi
      · subst h; exact hjE hEi
      · have hw := hok.reads i j o t (by omega) hj (by omega) ho (by rw [← dstI_take (T := T) (by omega)]; exact hdi) ht
        rw [if_neg (by omega)] at hw
        exact hjE (hw.closed hc fun o' ho' e he hb => hc i o' ho' hEi e he hb)
  have hsub : Sub (hE (ops.take T) σ E (σ j).H.length) (σ j).H := fun k o hk => by
    obtain ⟨⟨h1, _⟩, h3⟩ := hE_some.1 hk
    rw [← hL.obj h1 _ (by omega) (Nat.le_refl _)]
    exact h3
  have hopnd : Opnd A m (hE (ops.take T) σ E (σ j).H.length) w (restr (σ j).fr (Oper.looksAt ops.toArray o)) a := ⟨fun t => by
    rw [slot_restr]
    split
    · rename_i ht; exact hread t ht
    · exact .topI _⟩
  have hagree : Agree (σ j).fr (restr (σ j).fr (Oper.looksAt ops.toArray o)) o.op.operands.toList := fun t ht => by
    rw [slot_restr, if_pos]
    unfold Oper.looksAt
    exact List.mem_append_left _ (List.mem_filterMap.2 ⟨.tmp t, ht, rfl⟩)
  have hnone : ∀ i, hE (ops.take T) σ E (σ j).H.length ((σ j).H.length + i) = none := fun i => by
    cases hq : hE (ops.take T) σ E (σ j).H.length ((σ j).H.length + i) with
    | none => rfl
    | some o => have := (hE_some.1 hq).1.1; omega
  have hdst : ∀ d, dstI (ops.take T) j = some d → d < n := fun d hd => opOk_dst hokj d (by rw [← hdI]; exact hd)
  have huniq : ∀ i d, i < (ops.take T).length → i ≠ j → dstI (ops.take T) i = some d → dstI (ops.take T) j ≠ some d := fun i d hi hij hd => by
    rw [dstI_take (by omega)] at hd
    rw [dstI_take hj]
    exact hok.uniq i j d (by omega) hj hij hd
  have hst := hL.step j o hot
  have run : ∀ pv' new', PreStep P (σ j).fr (σ j).H (σ j).H.length o.op pv' new' → Yields P o a w fun v w' => ∃ A' m', NewW A m (hE (ops.take T) σ E (σ j).H.length) w A' m' (addO (hE (ops.take T) σ E (σ j).H.length) (σ j).H.length new') w' ∧
      RepO A' m' (addO (hE (ops.take T) σ E (σ j).H.length) (σ j).H.length new') w' pv' v := fun pv' new' hp =>
    pre_sem (pre_congr hagree hp) A m _ w a hD.aok (hD.conc j (by omega)) hsub hopnd fun i _ => hnone i
  unfold wpOp
  simp only [List.getElem?_toArray, ho]
  unfold StepAt at hst
  cases hg : o.guard with
  | none =>
    rw [hg] at hst
    rw [if_pos (by simp [Region.wanted, hg])]
    refine .inl (run _ _ hst _ _ fun v w' ⟨A', m', hN, hr⟩ => ?_)
    obtain ⟨m'', hD'⟩ := dinv_step hL hD hjt hjE hdst huniq hN hr
    rw [hdI] at hD'
    exact hK _ _ _ _ hD'
  | some g =>
    obtain ⟨g, want⟩ := g
    rw [hg] at hst
    obtain ⟨c, pv', hgv, hpv, hnew, hp⟩ := hst
    -- the guard
    have hw : Region.wanted o (yielded ops.toArray a.tmps) = c := by
      unfold guardV gD at hgv
      have dst : ∀ (l : List Oper) (j : Nat), dstAt l j = (l[j]?).bind (·.dst) := by
        intro l
        induction l with
        | nil => intro j; rfl
        | cons o r ih =>
          intro j
          cases j with
          | zero => rfl
          | succ j => simpa [dstAt] using ih j
      cases hd : dstAt ops g with
      | none => rw [hd] at hgv; exact hgv.elim
      | some d =>
        rw [hd] at hgv
        simp only at hgv
        rw [dst] at hd
        have hdn : d < n := by
          cases hoj : ops[g]? with
          | none => rw [hoj] at hd; cases hd
          | some oj =>
            rw [hoj] at hd
            exact opOk_dst (List.all_eq_true.1 hall oj (List.mem_of_getElem? hoj)) d hd
        have hlook : d ∈ Oper.looksAt ops.toArray o := by
          unfold Oper.looksAt
          refine List.mem_append_right _ ?_
          simp [hg, hd]
        obtain ⟨c', hc', e⟩ := guard_val (hread d hlook) hgv
        rw [← e, ← hc']
        have hlt : d < a.tmps.size := by rw [hD.sz]; exact hdn
        simp only [Region.wanted, hg, yielded, List.getElem?_toArray, hd, Option.bind_some, Array.getElem?_eq_getElem hlt, Array.getD_eq_getD_getElem?, Option.getD_some]
        generalize a.tmps[d] = gv
        cases gv <;> rfl
    cases c with
    | true =>
      rw [if_pos hw]
      refine .inl (run _ _ (hp rfl) _ _ fun v w' ⟨A', m', hN, hr⟩ => ?_)
      rw [← hnew] at hN hr
      obtain ⟨m'', hD'⟩ := dinv_step hL hD hjt hjE hdst huniq hN (by rw [hpv]; exact .optT _ _ hr)
      rw [hdI] at hD'
      exact hK _ _ _ _ hD'
    | false =>
      rw [if_neg (by rw [hw]; decide)]
      have hN : NewW A m (hE (ops.take T) σ E (σ j).H.length) w A m (addO (hE (ops.take T) σ E (σ j).H.length) (σ j).H.length (new j)) w := by
        rw [hnew, addO_nil]
        exact .refl hD.aok (hD.conc j (by omega))
      obtain ⟨m'', hD'⟩ := dinv_step hL hD hjt hjE hdst huniq hN (v := undef) (by rw [hpv]; exact .optF _)
      rw [hdI] at hD'
      exact hK _ _ _ _ hD'

theorem hoist_run {o : Oper} (hk : hoistK o.op = true) (hv : vok P fr H o.op) (hO : Opnd A m h w fr a) : ∃ v, (∀ w2, (execOp a.eval o).run P w2 = .ok (.value v) w2) ∧ RepO A m h w (vop P fr H o.op) v := by
  obtain ⟨dst, op, ty, pos, after, guard⟩ := o
  simp only at hv hk ⊢
  cases op <;> try (cases hk; done)
  case move x => exact ⟨_, fun _ => rfl, hO.ev hv⟩
  case binOp op t x y u =>
    obtain ⟨h1, h2, h3⟩ := hv
    have hp := hO.ev h1
    have hq := hO.ev h2
    simp only [vop]
    cases hx : ev fr x <;> rw [hx] at h3 hp <;> cases hy : ev fr y <;> rw [hy] at h3 hq <;> first | (cases op <;> exact h3.elim) | skip
    case int.int k n k' n' =>
      have e1 := hp.int
      have e2 := hq.int
      cases op <;> simp only [hoistK, Bool.false_eq_true] at hk <;> simp only [bk] at h3 <;> subst h3
      case add => exact ⟨.int k (k.wrap (n + n')), fun w2 => by simp [execOp, e1, e2, eqGuard, binOp, Op.intArith], .imm (.int _ _)⟩
      case sub => exact ⟨.int k (k.wrap (n - n')), fun w2 => by simp [execOp, e1, e2, eqGuard, binOp, Op.intArith], .imm (.int _ _)⟩
      case mul => exact ⟨.int k (k.wrap (n * n')), fun w2 => by simp [execOp, e1, e2, eqGuard, binOp, Op.intArith], .imm (.int _ _)⟩
    case str.str s s' =>
      obtain ⟨b, e1, rfl⟩ := hp.str
      obtain ⟨c, e2, rfl⟩ := hq.str
      cases op <;> simp only [hoistK, Bool.false_eq_true] at hk <;> simp only [bk] at h3
      case add =>
        refine ⟨.string (b ++ c), fun w2 => ?_, .imm (.str _ _ (by simp))⟩
        have : ¬ ((b.size + c.size : Nat) : Int) > IntKind.i64.max := by
          have e : IntKind.i64.max = 9223372036854775807 := rfl
          have e1 : b.size = b.data.toList.length := by simp
          have e2 : c.size = c.data.toList.length := by simp
          omega
        simp only [execOp, e1, e2, eqGuard, binOp, Op.stringOp]
        rw [if_neg this]
        rfl
    all_goals (cases op <;> first | exact h3.elim | (cases hk))
  case index t x i =>
    obtain ⟨h1, h2, h3, h4, h5⟩ := hv
    have hr := hO.ev h2
    have hr1 := hO.ev h1
    cases hc : ev fr i <;> simp only [hc, isInt] at h3
    rename_i k n
    cases hd : ev fr x <;> simp only [hd] at h5
    rename_i s
    rw [hc] at hr h5
    rw [hd] at hr1
    obtain h0 := hr.int
    obtain ⟨b, h0', rfl⟩ := hr1.str
    simp only [intV] at h5
    have hlt : n.toNat < b.size := by
      have e1 : b.size = b.data.toList.length := by simp
      omega
    refine ⟨.int .u8 (b[n.toNat].toNat), fun w2 => ?_, ?_⟩
    · simp [execOp, Instr.index, asIntOf, h0, h0', run_underlying (strT_spec h4), h5.1, hlt]
    · simp only [vop, hd, hc, intV]
      have : (b.data.toList.getD n.toNat 0) = b[n.toNat] := by
        have : n.toNat < b.data.toList.length := by simpa using hlt
        simp [List.getD, List.getElem?_eq_getElem this]
        rfl
      rw [this]
      exact .imm (.int _ _)
  case extract x i =>
    obtain ⟨h1, h2⟩ := hv
    have hr := hO.ev h1
    cases hc : ev fr x <;> simp only [hc] at h2
    rename_i cs
    rw [hc] at hr
    obtain ⟨us, h0, hl, hh⟩ := hr.tupI
    have hlt : i < us.size := by omega
    refine ⟨us[i], fun w2 => ?_, ?_⟩
    · simp [execOp, Instr.extract, h0, hlt]
    · simp only [vop, hc, List.getD]
      rw [List.getElem?_eq_getElem h2]
      have := hh i _ (List.getElem?_eq_getElem h2)
      simpa [Array.getD_eq_getD_getElem?, hlt] using this

theorem preStep_hoist {op : Op} {k0 : Nat} {pv : PV} {new : List (Option Obj)} (hk : hoistK op = true) (hp : PreStep P fr H k0 op pv new) : vok P fr H op ∧ pv = vop P fr H op ∧ new = [] := by
  cases hp with
  | quiet h => exact ⟨h, rfl, rfl⟩
  | _ => cases hk

/-- One operation that asks nothing of memory is taken. -/
theorem draw_hoist {x : Ctx} {n T : Nat} (hall : ops.all (opOk n) = true) (hT : T ≤ ops.length) (hok : DrawOk ops T) (hL : Lex P ops (ops.take T) S σ pv new) {E : Nat → Prop} (hD : DInv x n (ops.take T) S σ pv E a w A m) (hc : Closed ops E) {j : Nat} (hj : j < T) (hjE : ¬ E j)
    {o : Oper} (ho : ops[j]? = some o) (hready : ∀ e ∈ o.after, Region.binds .any e = true → E e.on) (hg : o.guard = none) (hk : hoistK o.op = true) :
    ∃ v m', (∀ w2, (execOp a.eval o).run P w2 = .ok (.value v) w2) ∧ DInv x n (ops.take T) S σ pv (fun i => E i ∨ i = j) (a.put o.dst v) w A m' := by
  have hlen : (ops.take T).length = T := by rw [List.length_take]; omega
  have hjt : j < (ops.take T).length := by omega
  have hot : (ops.take T)[j]? = some o := by rw [take_get hj]; exact ho
  have hwait : ∀ i, Waits ops j i → E i := fun i hw => hw.closed hc fun o' ho' e he hb => by rw [ho] at ho'; cases ho'; exact hready e he hb
  have hdI : dstI (ops.take T) j = o.dst := by simp only [dstI, hot, Option.bind_some]
  have hokj : opOk n o = true := List.all_eq_true.1 hall o (List.mem_of_getElem? ho)
  have hlookn : ∀ t ∈ Oper.looksAt ops.toArray o, t < n := looks_lt hall ho
  have hread : ∀ t ∈ Oper.looksAt ops.toArray o, RepO A m (hE (ops.take T) σ E (σ j).H.length) w (slot (σ j).fr t) (a.tmps.getD t undef) := fun t ht => by
    rw [← look_lt (x := x) (hlookn t ht)]
    rcases hL.slot t j (by omega) with ⟨i, h1, h2, h3, _⟩ | ⟨h1, h2⟩
    · rw [h3]
      have h2' : dstI ops i = some t := by rw [← dstI_take (T := T) (by omega)]; exact h2
      have hw := hok.reads i j o t (by omega) hj (by omega) ho h2' ht
      rw [if_pos h1] at hw
      exact (hD.val i t (by omega) (hwait i hw) h2).mono (fun _ h => h) (fun _ _ => rfl) (hE_shaped (hL.len_mono _ (by omega) (by omega)))
    · rw [h2]
      refine (hD.old t fun i hi hEi hdi => ?_).mono (fun _ h => h) (fun _ _ => rfl) (hE_shaped (hL.len_mono _ (Nat.zero_le _) (by omega)))
      rcases Nat.lt_trichotomy i j with h | h | h
      · exact h1 i h hdi
      · subst h; exact hjE hEi
      · have hw := hok.reads i j o t (by omega) hj (by omega) ho (by rw [← dstI_take (T := T) (by omega)]; exact hdi) ht
        rw [if_neg (by omega)] at hw
        exact hjE (hw.closed hc fun o' ho' e he hb => hc i o' ho' hEi e he hb)
  have hopnd : Opnd A m (hE (ops.take T) σ E (σ j).H.length) w (restr (σ j).fr (Oper.looksAt ops.toArray o)) a := ⟨fun t => by
    rw [slot_restr]
    split
    · rename_i ht; exact hread t ht
    · exact .topI _⟩
  have hagree : Agree (σ j).fr (restr (σ j).fr (Oper.looksAt ops.toArray o)) o.op.operands.toList := fun t ht => by
    rw [slot_restr, if_pos]
    unfold Oper.looksAt
    exact List.mem_append_left _ (List.mem_filterMap.2 ⟨.tmp t, ht, rfl⟩)
  have hdst : ∀ d, dstI (ops.take T) j = some d → d < n := fun d hd => opOk_dst hokj d (by rw [← hdI]; exact hd)
  have huniq : ∀ i d, i < (ops.take T).length → i ≠ j → dstI (ops.take T) i = some d → dstI (ops.take T) j ≠ some d := fun i d hi hij hd => by
    rw [dstI_take (by omega)] at hd
    rw [dstI_take hj]
    exact hok.uniq i j d (by omega) hj hij hd
  have hst := hL.step j o hot
  unfold StepAt at hst
  rw [hg] at hst
  obtain ⟨hv, hpv, hnew⟩ := preStep_hoist hk (pre_congr hagree hst)
  obtain ⟨v, hrun, hr⟩ := hoist_run hk hv hopnd
  have hN : NewW A m (hE (ops.take T) σ E (σ j).H.length) w A m (addO (hE (ops.take T) σ E (σ j).H.length) (σ j).H.length (new j)) w := by
    rw [hnew, addO_nil]
    exact .refl hD.aok (hD.conc j (by omega))
  obtain ⟨m'', hD'⟩ := dinv_step hL hD hjt hjE hdst huniq hN (v := v) (by rw [hpv, hnew, addO_nil]; exact hr)
  rw [hdI] at hD'
  exact ⟨v, m'', hrun, hD'⟩

/-- The list of what is left. -/
def Left (n : Nat) (listed : Array Bool) (fuel : Nat) : Prop := ∃ l : List Nat, l.length ≤ fuel ∧ ∀ i, i < n → listed.getD i true = false → i ∈ l

theorem Left.set {n fuel i : Nat} {listed : Array Bool} (h : Left n listed (fuel + 1)) (hi : i < n) (hf : listed.getD i true = false) : Left n (listed.setIfInBounds i true) fuel := by
  obtain ⟨l, h1, h2⟩ := h
  refine ⟨l.erase i, ?_, fun k hk hkf => ?_⟩
  · rw [List.length_erase_of_mem (h2 i hi hf)]
    omega
  · by_cases e : i = k
    · subst e
      have hlt : i < listed.size := by
        rcases Nat.lt_or_ge i listed.size with h | h
        · exact h
        · simp [h] at hf
      simp [hlt] at hkf
    · rw [getD_set_ne true e] at hkf
      exact (List.mem_erase_of_ne (fun h => e h.symm)).2 (h2 k hk hkf)

theorem set_listed {n i k : Nat} {listed : Array Bool} (hsz : listed.size = n) (hi : i < n) : (listed.setIfInBounds i true).getD k false = true ↔ listed.getD k false = true ∨ k = i := by
  by_cases e : i = k
  · subst e
    have : i < listed.size := by omega
    simp [this]
  · rw [getD_set_ne false e]
    exact ⟨.inl, fun h => h.resolve_right fun e' => e e'.symm⟩

/-- The tail: one behind the other. -/
theorem draw_tail {T : Nat} (hok : DrawOk ops T) {Q : Exit → Act → World → Prop} : ∀ (fuel p : Nat) (listed : Array Bool) (a : Act) (w : World), listed.size = ops.length → T ≤ p → p ≤ ops.length → (∀ i, i < ops.length → (listed.getD i false = true ↔ i < p)) →
    Left ops.length listed fuel → wpList P ops.toArray Q (ops.drop p) a w → wpAny P .any ops.toArray Q fuel listed a w := by
  intro fuel
  have ready : ∀ (p : Nat) (listed : Array Bool), listed.size = ops.length → T ≤ p → p ≤ ops.length → (∀ i, i < ops.length → (listed.getD i false = true ↔ i < p)) → ∀ j, j ∈ Region.ready .any ops.toArray listed ↔ j = p ∧ p < ops.length := fun p listed hsz hTp hp hl j => by
    have hcl : Closed ops (fun i => listed.getD i false = true) := fun j o ho hj e he hb => by
      have hjl : j < ops.length := (List.getElem?_eq_some_iff.1 ho).1
      have := hok.low j o ho e he hb
      have := (hl j hjl).1 hj
      exact (hl e.on (by omega)).2 (by omega)
    rw [mem_ready]
    constructor
    · rintro ⟨h1, o, ho, hall⟩
      simp only [List.getElem?_toArray] at ho
      have hjl : j < ops.length := (List.getElem?_eq_some_iff.1 ho).1
      have hjp : ¬ j < p := fun h => by
        have := (hl j hjl).2 h
        rw [getD_both h1] at this
        cases this
      refine ⟨?_, by omega⟩
      rcases Nat.lt_or_ge p j with h | h
      · have := ((hok.tail j p hjl (by omega) h).resolve_right fun h => by omega).closed hcl fun o' ho' e he hb => by rw [ho] at ho'; cases ho'; exact hall e he hb
        have := (hl p (by omega)).1 this
        omega
      · omega
    · rintro ⟨rfl, hlt⟩
      have hf : listed.getD j false = false := by
        cases hq : listed.getD j false with
        | false => rfl
        | true => have := (hl j hlt).1 hq; omega
      refine ⟨getD_in (by omega) hf, ops[j], by simp [hlt], fun e he hb => ?_⟩
      have := hok.low j _ (List.getElem?_eq_getElem hlt) e he hb
      exact (hl e.on (by omega)).2 (by omega)
  induction fuel with
  | zero =>
    intro p listed a w hsz hTp hp hl hleft hw
    have hpe : p = ops.length := by
      rcases Nat.lt_or_ge p ops.length with h | h
      · obtain ⟨l, h1, h2⟩ := hleft
        have hf : listed.getD p false = false := by
          cases hq : listed.getD p false with
          | false => rfl
          | true => have := (hl p h).1 hq; omega
        have := h2 p h (getD_in (by omega) hf)
        have : l = [] := List.eq_nil_of_length_eq_zero (by omega)
        simp_all
      · omega
    subst hpe
    refine ⟨?_, ?_⟩
    · refine List.eq_nil_iff_forall_not_mem.2 fun j hj => ?_
      have := (ready _ listed hsz hTp hp hl j).1 hj
      omega
    · rw [List.drop_length] at hw
      exact hw
  | succ fuel ih =>
    intro p listed a w hsz hTp hp hl hleft hw
    refine ⟨fun hnil => ?_, fun j hj => ?_⟩
    · rcases Nat.lt_or_ge p ops.length with h | h
      · have := (ready p listed hsz hTp hp hl p).2 ⟨rfl, h⟩
        rw [hnil] at this
        cases this
      · have : p = ops.length := by omega
        subst this
        rw [List.drop_length] at hw
        exact hw
    · obtain ⟨rfl, hlt⟩ := (ready p listed hsz hTp hp hl j).1 hj
      have hf : listed.getD j true = false := (mem_ready.1 hj).1
      rw [List.drop_eq_getElem_cons hlt] at hw
      have hw' : wpOp P ops.toArray Q j (wpList P ops.toArray Q (ops.drop (j + 1))) a w := by
        unfold wpOp
        simp only [List.getElem?_toArray, List.getElem?_eq_getElem hlt]
        exact hw
      refine wpOp_mono (fun a' w' h' => ih (j + 1) _ a' w' (by simpa using hsz) (by omega) hlt (fun i hi => ?_) (hleft.set hlt hf) h') hw'
      rw [set_listed hsz hlt, hl i hi]
      omega

/-- The whole of a region whose order is drawn. -/
theorem draw_sound {x : Ctx} {n T : Nat} {K : St → Prop} {Q : Exit → Act → World → Prop} (hall : ops.all (opOk n) = true) (hT : T ≤ ops.length) (hok : DrawOk ops T) (hL : Lex P ops (ops.take T) S σ pv new)
    (hrest : aOps P true ops (ops.drop T) (σ T) K) (hP : ∀ c a w, ¬ Q (.panic c) a w) (hQ : ∀ S' a' w' A' m', K S' → Inv x n S' a' w' A' m' → Q .normal a' w') :
    ∀ (fuel : Nat) (listed : Array Bool) (a : Act) (w : World) (A : Nat → Prop) (m : OMap), listed.size = ops.length → DInv x n (ops.take T) S σ pv (fun i => listed.getD i false = true) a w A m →
      Closed ops (fun i => listed.getD i false = true) → (∀ j, T ≤ j → listed.getD j false = false) → Left ops.length listed fuel → wpAny P .any ops.toArray Q fuel listed a w := by
  have hlen : (ops.take T).length = T := by rw [List.length_take]; omega
  intro fuel
  have full : ∀ (fuel : Nat) (listed : Array Bool) (a : Act) (w : World) (A : Nat → Prop) (m : OMap), listed.size = ops.length → DInv x n (ops.take T) S σ pv (fun i => listed.getD i false = true) a w A m →
      (∀ j, T ≤ j → listed.getD j false = false) → Left ops.length listed fuel → (∀ i, i < T → listed.getD i false = true) → wpAny P .any ops.toArray Q fuel listed a w := fun fuel listed a w A m hsz hD htail hleft hfull => by
    refine draw_tail hok fuel T listed a w hsz (Nat.le_refl _) hT (fun i hi => ⟨fun h => ?_, hfull i⟩) hleft ?_
    · rcases Nat.lt_or_ge i T with h' | h'
      · exact h'
      · rw [htail i h'] at h; cases h
    · have hI := dinv_end hL (fun i hi => hfull i (by omega)) hD
      rw [hlen] at hI
      exact ops_sound hall hQ (ops.drop T) true (σ T) a w A m (List.all_eq_true.2 fun o ho => List.all_eq_true.1 hall o (List.mem_of_mem_drop ho)) hI hrest
  -- an operation that has not run
  have least : ∀ (listed : Array Bool), ¬ (∀ i, i < T → listed.getD i false = true) → ∃ i, i < T ∧ listed.getD i false = false ∧ ∀ k, k < i → listed.getD k false = true := fun listed hn => by
    have : ∃ i, i < T ∧ listed.getD i false = false := by
      refine Classical.byContradiction fun hc => hn fun i hi => ?_
      cases hq : listed.getD i false with
      | true => rfl
      | false => exact absurd ⟨i, hi, hq⟩ hc
    obtain ⟨i, hi, hf⟩ := this
    induction i using Nat.strongRecOn with
    | _ i ih =>
      by_cases h : ∀ k, k < i → listed.getD k false = true
      · exact ⟨i, hi, hf, h⟩
      · have : ∃ k, k < i ∧ listed.getD k false = false := by
          refine Classical.byContradiction fun hc => h fun k hk => ?_
          cases hq : listed.getD k false with
          | true => rfl
          | false => exact absurd ⟨k, hk, hq⟩ hc
        obtain ⟨k, hk, hkf⟩ := this
        exact ih k hk (by omega) hkf
  have isready : ∀ (listed : Array Bool) (i : Nat), listed.size = ops.length → i < T → listed.getD i false = false → (∀ k, k < i → listed.getD k false = true) → i ∈ Region.ready .any ops.toArray listed := fun listed i hsz hi hf hk => by
    have hlt : i < ops.length := by omega
    refine mem_ready.2 ⟨getD_in (by omega) hf, ops[i], by simp [hlt], fun e he hb => ?_⟩
    exact hk _ (hok.low i _ (List.getElem?_eq_getElem hlt) e he hb)
  induction fuel with
  | zero =>
    intro listed a w A m hsz hD hc htail hleft
    by_cases hf : ∀ i, i < T → listed.getD i false = true
    · exact full 0 listed a w A m hsz hD htail hleft hf
    · obtain ⟨i, hi, hif, _⟩ := least listed hf
      obtain ⟨l, h1, h2⟩ := hleft
      have := h2 i (by omega) (getD_in (by omega) hif)
      have : l = [] := List.eq_nil_of_length_eq_zero (by omega)
      simp_all
  | succ fuel ih =>
    intro listed a w A m hsz hD hc htail hleft
    by_cases hf : ∀ i, i < T → listed.getD i false = true
    · exact full _ listed a w A m hsz hD htail hleft hf
    · obtain ⟨i0, hi0, hif0, hlow0⟩ := least listed hf
      -- the state behind one more
      have next : ∀ (j : Nat) (o : Oper), j ∈ Region.ready .any ops.toArray listed → ops[j]? = some o → j < T → ∀ a' w' A' m', DInv x n (ops.take T) S σ pv (fun i => listed.getD i false = true ∨ i = j) a' w' A' m' →
          wpAny P .any ops.toArray Q fuel (listed.setIfInBounds j true) a' w' := fun j o hj ho hjT a' w' A' m' hD' => by
        obtain ⟨h1, o', ho', hall'⟩ := mem_ready.1 hj
        simp only [List.getElem?_toArray] at ho'
        rw [ho] at ho'
        cases ho'
        have hjl : j < ops.length := (List.getElem?_eq_some_iff.1 ho).1
        have hE' : (fun i => (listed.setIfInBounds j true).getD i false = true) = fun i => listed.getD i false = true ∨ i = j := by
          funext i
          exact propext (set_listed hsz hjl)
        refine ih _ a' w' A' m' (by simpa using hsz) (by rw [hE']; exact hD') ?_ (fun k hk => ?_) (hleft.set hjl h1)
        · rw [hE']
          intro k ok hok' hk e he hb
          rcases hk with hk | rfl
          · exact .inl (hc k ok hok' hk e he hb)
          · rw [ho] at hok'
            cases hok'
            exact .inl (hall' e he hb)
        · rw [getD_set_ne false (by omega)]
          exact htail k hk
      by_cases hh : ∀ i, i < T → listed.getD i false = false → hoistB ops i = true
      · have hr := isready listed i0 hsz hi0 hif0 hlow0
        have hlt : i0 < ops.length := by omega
        have ho : ops[i0]? = some ops[i0] := List.getElem?_eq_getElem hlt
        obtain ⟨h1, o', ho', hall'⟩ := mem_ready.1 hr
        simp only [List.getElem?_toArray] at ho'
        rw [ho] at ho'
        cases ho'
        have hB := hh i0 hi0 hif0
        unfold hoistB at hB
        simp only [ho, Bool.and_eq_true, Option.isNone_iff_eq_none] at hB
        obtain ⟨⟨hg, hk⟩, hap⟩ := hB
        obtain ⟨v, m', hrun, hD'⟩ := draw_hoist hall hT hok hL hD hc hi0 (by simp [hif0]) ho hall' hg hk
        refine wpAny_first (i := i0) (oi := ops[i0]) (v := v) (by simp) (fun j oj cs b hoj hs => ?_) (fun c a w h => (hP _ _ _ h).elim) fuel listed a w (fun j oj hoj hji hun hno => ?_) hr (.inl ⟨by simp [Region.wanted, hg], hrun⟩) (next i0 _ hr ho hi0 _ _ _ _ hD')
        · have := List.all_eq_true.1 hall oj (List.mem_of_getElem? (by simpa using hoj))
          simp [opOk, hs] at this
        · simp only [List.getElem?_toArray] at hoj
          have hjl : j < ops.length := (List.getElem?_eq_some_iff.1 hoj).1
          have h2 := List.all_eq_true.1 hap j (List.mem_range.2 hjl)
          simp only [hoj, Bool.or_eq_true, decide_eq_true_eq] at h2
          rcases h2 with h2 | h2 | h2
          · have : j < i0 := by omega
            have h3 := hlow0 j this
            rw [getD_both hun] at h3
            cases h3
          · obtain ⟨e, he, hb⟩ := Array.any_eq_true'.1 h2
            simp only [Bool.and_eq_true, beq_iff_eq] at hb
            exact absurd hb.2 (hno e he hb.1)
          · exact h2
      obtain ⟨i1, hi1, hif1, hnh⟩ : ∃ i, i < T ∧ listed.getD i false = false ∧ ¬ hoistB ops i = true := by
        refine Classical.byContradiction fun hc' => hh fun i hi hif => Classical.byContradiction fun hb => hc' ⟨i, hi, hif, hb⟩
      refine ⟨fun hnil => ?_, fun j hj => ?_⟩
      · have := isready listed i0 hsz hi0 hif0 hlow0
        rw [hnil] at this
        cases this
      · obtain ⟨h1, o, ho, hall'⟩ := mem_ready.1 hj
        simp only [List.getElem?_toArray] at ho
        have hjl : j < ops.length := (List.getElem?_eq_some_iff.1 ho).1
        have hjT : j < T := by
          rcases Nat.lt_or_ge j T with h | h
          · exact h
          · have := ((hok.tail j i1 hjl h (by omega)).resolve_right fun h => hnh h.2).closed hc fun o' ho' e he hb => by rw [ho] at ho'; cases ho'; exact hall' e he hb
            rw [hif1] at this
            cases this
        exact draw_one hall hT hok hL hD hc hjT (by simp [getD_both h1]) ho hall' fun a' w' A' m' hD' => next j o hj ho hjT a' w' A' m' hD'

end lex

theorem mem_takeWhile {α : Type} {p : α → Bool} {x : α} : ∀ {l : List α}, x ∈ l.takeWhile p → p x = true
  | [], h => by simp at h
  | y :: l, h => by
    rw [List.takeWhile_cons] at h
    split at h
    · rename_i hp
      rcases List.mem_cons.1 h with rfl | h
      · exact hp
      · exact mem_takeWhile h
    · simp at h

theorem region_drawn {x : Ctx} {n : Nat} {ops : Array Oper} {id : Nat} {S : St} {K : St → Prop} {Q : Exit → Act → World → Prop} (hm : P.follows .mixedOrders = true) (hall : ops.toList.all (opOk n) = true) (hd : drawOk ops.toList = true) (hI : Inv x n S a w A m)
    (h : aOps P true ops.toList ops.toList S K) (hQ : ∀ S' a' w' A' m', K S' → Inv x n S' a' w' A' m' → Q .normal a' w') : (Code.region id ops true).wp P Q a w := by
  have htw : ops.toList = (ops.toList.takeWhile fun o => !isEff ops.toList o.op) ++ (ops.toList.dropWhile fun o => !isEff ops.toList o.op) := (List.takeWhile_append_dropWhile ..).symm
  have h' : aOps P true ops.toList ((ops.toList.takeWhile fun o => !isEff ops.toList o.op) ++ (ops.toList.dropWhile fun o => !isEff ops.toList o.op)) S K := by rw [← htw]; exact h
  obtain ⟨pre, post, σ, pv, new, hsp, hL, hrest, hdr⟩ := lex_of _ _ S (fun o ho => by simpa using mem_takeWhile ho) h'
  have hops : ops.toList = pre ++ (post ++ ops.toList.dropWhile fun o => !isEff ops.toList o.op) := by rw [← List.append_assoc, ← hsp]; exact htw
  generalize (ops.toList.dropWhile fun o => !isEff ops.toList o.op) = R at hops hrest hdr
  have hlen := congrArg List.length hops
  rw [List.length_append] at hlen
  obtain ⟨T, hTe⟩ : ∃ T, T = pre.length := ⟨_, rfl⟩
  have hTle : T ≤ ops.toList.length := by omega
  have hok : DrawOk ops.toList T := by
    refine drawOkT_spec hTle ?_
    rcases hdr with rfl | hdr
    · rw [List.append_nil] at hsp
      rw [hTe, ← hsp]
      exact hd
    · rw [show T = ops.toList.length - (post ++ R).length by omega]
      exact hdr
  have htk : ops.toList.take T = pre := by rw [hTe, hops]; exact List.take_left' rfl
  have hdp : ops.toList.drop T = post ++ R := by rw [hTe, hops]; exact List.drop_left' rfl
  rw [← htk] at hL
  rw [← hdp, ← hTe] at hrest
  have hI' : Inv x n S a { w with drawn := w.drawn + 1 } A m := by
    refine ⟨⟨hI.moved.os, hI.moved.tape, hI.moved.output, hI.moved.size, hI.moved.block⟩, hI.sub, hI.aok, hI.conc.same rfl, hI.own, fun t => RepO.mono (w := w) (w' := { w with drawn := w.drawn + 1 }) (fun _ h => h) (fun _ _ => rfl) (Shaped.refl _ _ _) (hI.fr t), hI.sz, hI.df⟩
  refine wp_mono (Q := fun e a w => e = .normal ∧ Q e a w) ?_ fun _ _ _ h => h.2
  refine wp_region_any hm ?_
  have hE' : (fun i => (Array.replicate ops.size false).getD i false = true) = fun _ => False := by
    funext i
    rw [getD_replicate_false]
    simp
  have := draw_sound (P := P) (x := x) (Q := fun e a w => e = .normal ∧ Q e a w) hall hTle hok hL hrest (fun c a w h => by cases h.1) (fun S' a' w' A' m' h1 h2 => ⟨rfl, hQ S' a' w' A' m' h1 h2⟩) ops.size (Array.replicate ops.size false) a { w with drawn := w.drawn + 1 } A m (by simp) (by rw [hE']; exact dinv_start hL hI') (by rw [hE']; exact fun _ _ _ h => h.elim) (fun j _ => getD_replicate_false _ _)
    ⟨List.range ops.size, by simp, fun i hi _ => by simpa using hi⟩
  simpa using this

end Go.Ab
