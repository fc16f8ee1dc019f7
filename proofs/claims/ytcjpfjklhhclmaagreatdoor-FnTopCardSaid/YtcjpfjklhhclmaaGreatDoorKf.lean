/- A region that is cut in two, with less known between; loops of which a region is left. No condition. A region whose order is drawn, in which operations with effects and quiet ones come as they like: each is shown to keep to what is known whenever it comes up. No condition. -/
import Derived.Test.YtcjpfjklhhclmaaGreatDoorKc
namespace Go.Ab
variable {P : Program} {A A' : Nat → Prop} {m m' : OMap} {h h' : OFun} {w w' : World} {H : Heap} {fr fr' : Fr} {a : Act}

theorem list_pre {x : Ctx} {n : Nat} {all : List Oper} {Q : Exit → Act → World → Prop} {K : St → Prop} (hall : all.all (opOk n) = true) (post : List Oper)
    (hQ : ∀ S' a' w' A' m', K S' → Inv x n S' a' w' A' m' → wpList P all.toArray Q post a' w') :
    ∀ (ops : List Oper) (q : Bool) (S : St) (a : Act) (w : World) (A : Nat → Prop) (m : OMap), ops.all (opOk n) = true → Inv x n S a w A m → aOps P q all ops S K → wpList P all.toArray Q (ops ++ post) a w
  | [], _, S, a, w, A, m, _, hI, h => hQ S a w A m h hI
  | o :: r, q, S, a, w, A, m, hok, hI, h => by
    simp only [List.all_cons, Bool.and_eq_true] at hok
    rw [List.cons_append]
    unfold wpList
    cases hg : o.guard with
    | none =>
      simp only [aOps, hg] at h
      rw [if_pos (by simp [Region.wanted, hg])]
      cases hmk : q && markB S.fr o.op with
      | true =>
        rw [hmk, cond_true] at h
        refine .inl (goes_ex hok.1 hI h.2 _ _ fun v w' ⟨S', A', m', hK, hI'⟩ => ?_)
        exact list_pre hall post hQ r _ S' _ w' A' m' hok.2 hI' hK
      | false =>
        rw [hmk, cond_false] at h
        refine .inl (goes_ex hok.1 hI h _ _ fun v w' ⟨S', A', m', hK, hI'⟩ => ?_)
        exact list_pre hall post hQ r _ S' _ w' A' m' hok.2 hI' hK
    | some g =>
      obtain ⟨j, want⟩ := g
      simp only [aOps, hg] at h
      obtain ⟨c, hw, hc⟩ := guard_run hI hall hg h
      rcases aGd_case hc with ⟨pv, hp, hK⟩ | ⟨hc1, hq, hE⟩
      rotate_left
      · subst hc1
        rw [if_pos hw]
        refine .inl (goes_ex hok.1 hI hE _ _ fun v w' ⟨S', A', m', hK, hI'⟩ => ?_)
        exact list_pre hall post hQ r _ S' _ w' A' m' hok.2 hI' hK
      cases c with
      | true =>
        rw [if_pos hw]
        refine .inl (yields_mono (pre_sem (pre_congr (agree_cut (opOk_opd hok.1)) (hp rfl)) A m (getO S.H) w a hI.aok hI.conc getO_sub hI.opnd fun i hi => absurd hi (by simp)) (fun v w' hR => hR) _ _ fun v w' ⟨A', m', hN, hr⟩ => ?_)
        have := hI.newW hN
        rw [List.append_nil] at this
        rw [addO_nil] at hr
        exact list_pre hall post hQ r _ _ _ w' A' m' hok.2 (this.val (S := S) (opOk_dst hok.1) (.optT _ _ hr)) hK
      | false =>
        rw [if_neg (by rw [hw]; decide)]
        exact list_pre hall post hQ r _ _ _ w A m hok.2 (hI.val (opOk_dst hok.1) (.optF _)) hK

/-- A region in its order: between its first T operations and the rest less may be known of the state. -/
theorem ends_cut {n id : Nat} {ops : List Oper} {S : St} {Q : Exit → St → Prop} (T : Nat) (hok : ops.all (opOk n) = true)
    (h : aOps P false ops (ops.take T) S fun S1 => ∃ S2, Weak S1 S2 ∧ aOps P false ops (ops.drop T) S2 (Q .normal)) : Ends P n (.region id ops.toArray false) S Q := fun x a w A m hI => by
  refine wp_region_list ?_
  have hl : ops.toArray.toList = ops.take T ++ ops.drop T := by simp
  rw [hl]
  have hall1 : (ops.take T).all (opOk n) = true := by
    rw [List.all_eq_true] at hok ⊢
    exact fun o ho => hok o (List.mem_of_mem_take ho)
  have hall2 : (ops.drop T).all (opOk n) = true := by
    rw [List.all_eq_true] at hok ⊢
    exact fun o ho => hok o (List.mem_of_mem_drop ho)
  refine list_pre hok (ops.drop T) (fun S' a' w' A' m' ⟨S2, hw, h2⟩ hI' => ?_) (ops.take T) false S a w A m hall1 hI h
  obtain ⟨A'', m'', hI''⟩ := hw x n a' w' A' m' hI'
  exact ops_sound hok (fun S3 a3 w3 A3 m3 h3 hI3 => ⟨S3, A3, m3, h3, hI3⟩) (ops.drop T) false S2 a' w' A'' m'' hall2 hI'' h2

/-- A loop that counts, of whose body some regions are left to be answered apart. -/
theorem loop_uptoL (hm : P.follows .mixedOrders = true) {n : Nat} (L : List Nat) (N : Nat) (σ : Nat → St) (I : Nat → Prop) {c : Code} (hok : codeOkL n L c = true) {S : St} {Q : Exit → St → Prop} (h0 : Weak S (σ 0)) (i0 : I 0)
    (round : ∀ i, i < N → I i → awpL P n L c (σ i) (thenQ (fun S' => I (i + 1) ∧ Weak S' (σ (i + 1))) Q)) (fin : I N → awpL P n L c (σ N) (thenQ (fun _ => False) Q)) : Ends P n (.loop c) S Q := fun x a w A m hI => by
  have key : ∀ (k i : Nat) (a : Act) (w : World) (A : Nat → Prop) (m : OMap), i ≤ N → N - i < k → I i → Inv x n (σ i) a w A m → Code.rounds P c (fun e a' w' => ∃ S' A' m', Q e S' ∧ Inv x n S' a' w' A' m') k a w := by
    intro k
    induction k with
    | zero => intro i a w A m _ h; exact absurd h (Nat.not_lt_zero _)
    | succ k ih =>
      intro i a w A m hle hlt hi hI
      rw [rounds_succ]
      by_cases h : i < N
      · refine wp_mono (awpL_sound hm c (σ i) _ hok (round i h hi) x a w A m hI) fun e a' w' ⟨S', A', m', hq, hI'⟩ => ?_
        cases e with
        | normal =>
          obtain ⟨hi', hw⟩ := hq
          obtain ⟨A'', m'', hI''⟩ := hw x n a' w' A' m' hI'
          exact ih (i + 1) a' w' A'' m'' h (by omega) hi' hI''
        | _ => exact ⟨S', A', m', hq, hI'⟩
      · obtain rfl : i = N := by omega
        refine wp_mono (awpL_sound hm c (σ i) _ hok (fin hi) x a w A m hI) fun e a' w' ⟨S', A', m', hq, hI'⟩ => ?_
        cases e with
        | normal => exact hq.elim
        | _ => exact ⟨S', A', m', hq, hI'⟩
  obtain ⟨A', m', hI'⟩ := h0 x n a w A m hI
  exact wp_loop_rounds (N + 1) (key _ 0 a w A' m' (Nat.zero_le _) (by omega) i0 hI')
end Go.Ab
namespace Go.Ab
variable {P : Program} {A A' B : Nat → Prop} {m m' : OMap} {h h' : OFun} {w w' : World} {fr : Fr} {a : Act} {x y : Ctx} {n : Nat} {S S1 : St}

end Go.Ab

namespace Go.Ab
variable {P : Program} {A A' : Nat → Prop} {m m' : OMap} {h h' : OFun} {w w' : World} {H : Heap} {fr fr' : Fr} {a : Act}

/-- A loop whose rounds are counted; its states are known but for a choice; some regions of its body are left. -/
theorem loop_uptoGL (hm : P.follows .mixedOrders = true) {n : Nat} (L : List Nat) {δ : Type} (N : Nat) (σ : Nat → δ → St) (I : Nat → δ → Prop) {c : Code} (hok : codeOkL n L c = true) {S : St} {Q : Exit → St → Prop} (h0 : ExL (I 0) (σ 0) S)
    (round : ∀ i y, i < N → I i y → awpL P n L c (σ i y) (thenQ (fun S' => ExL (I (i + 1)) (σ (i + 1)) S') Q)) (fin : ∀ y, I N y → awpL P n L c (σ N y) (thenQ (fun _ => False) Q)) : Ends P n (.loop c) S Q := fun x a w A m hI => by
  have key : ∀ (k i : Nat) (y : δ) (a : Act) (w : World) (A : Nat → Prop) (m : OMap), i ≤ N → N - i < k → I i y → Inv x n (σ i y) a w A m → Code.rounds P c (fun e a' w' => ∃ S' A' m', Q e S' ∧ Inv x n S' a' w' A' m') k a w := by
    intro k
    induction k with
    | zero => intro i y a w A m _ h; exact absurd h (Nat.not_lt_zero _)
    | succ k ih =>
      intro i y a w A m hle hlt hi hI
      rw [rounds_succ]
      by_cases h : i < N
      · refine wp_mono (awpL_sound hm c (σ i y) _ hok (round i y h hi) x a w A m hI) fun e a' w' ⟨S', A', m', hq, hI'⟩ => ?_
        cases e with
        | normal =>
          obtain ⟨y', hi', hw⟩ := hq
          obtain ⟨A'', m'', hI''⟩ := hw x n a' w' A' m' hI'
          exact ih (i + 1) y' a' w' A'' m'' h (by omega) hi' hI''
        | _ => exact ⟨S', A', m', hq, hI'⟩
      · obtain rfl : i = N := by omega
        refine wp_mono (awpL_sound hm c (σ i y) _ hok (fin y hi) x a w A m hI) fun e a' w' ⟨S', A', m', hq, hI'⟩ => ?_
        cases e with
        | normal => exact hq.elim
        | _ => exact ⟨S', A', m', hq, hI'⟩
  obtain ⟨y0, i0, h0⟩ := h0
  obtain ⟨A', m', hI'⟩ := h0 x n a w A m hI
  exact wp_loop_rounds (N + 1) (key _ 0 y0 a w A' m' (Nat.zero_le _) (by omega) i0 hI')

/-- A loop that is left in the middle, some regions of its body left. -/
theorem loop_exitGL (hm : P.follows .mixedOrders = true) {n : Nat} (L : List Nat) {δ ε : Type} (N : Nat) (σ : Nat → δ → St) (I : Nat → δ → Prop) (id : Nat) (τ : ε → St) (J : ε → Prop) {c : Code} (hok : codeOkL n L c = true) {S : St} {Q : Exit → St → Prop} (h0 : ExL (I 0) (σ 0) S)
    (round : ∀ i y, i < N → I i y → awpL P n L c (σ i y) (exQ id (fun S' => ExL (I (i + 1)) (σ (i + 1)) S') (fun S' => ExL J τ S'))) (fin : ∀ y, I N y → awpL P n L c (σ N y) (exQ id (fun _ => False) (fun S' => ExL J τ S'))) (after : ∀ z, J z → Q (.exit id) (τ z)) : Ends P n (.loop c) S Q := fun x a w A m hI => by
  have key : ∀ (k i : Nat) (y : δ) (a : Act) (w : World) (A : Nat → Prop) (m : OMap), i ≤ N → N - i < k → I i y → Inv x n (σ i y) a w A m → Code.rounds P c (fun e a' w' => ∃ S' A' m', Q e S' ∧ Inv x n S' a' w' A' m') k a w := by
    intro k
    induction k with
    | zero => intro i y a w A m _ h; exact absurd h (Nat.not_lt_zero _)
    | succ k ih =>
      intro i y a w A m hle hlt hi hI
      rw [rounds_succ]
      by_cases h : i < N
      · refine wp_mono (awpL_sound hm c (σ i y) _ hok (round i y h hi) x a w A m hI) fun e a' w' ⟨S', A', m', hq, hI'⟩ => ?_
        cases e with
        | normal =>
          obtain ⟨y', hi', hw⟩ := hq
          obtain ⟨A'', m'', hI''⟩ := hw x n a' w' A' m' hI'
          exact ih (i + 1) y' a' w' A'' m'' h (by omega) hi' hI''
        | exit id' =>
          obtain ⟨rfl, z, hz, hw⟩ := hq
          obtain ⟨A'', m'', hI''⟩ := hw x n a' w' A' m' hI'
          exact ⟨τ z, A'', m'', after z hz, hI''⟩
        | _ => exact hq.elim
      · obtain rfl : i = N := by omega
        refine wp_mono (awpL_sound hm c (σ i y) _ hok (fin y hi) x a w A m hI) fun e a' w' ⟨S', A', m', hq, hI'⟩ => ?_
        cases e with
        | normal => exact hq.elim
        | exit id' =>
          obtain ⟨rfl, z, hz, hw⟩ := hq
          obtain ⟨A'', m'', hI''⟩ := hw x n a' w' A' m' hI'
          exact ⟨τ z, A'', m'', after z hz, hI''⟩
        | _ => exact hq.elim
  obtain ⟨y0, i0, h0⟩ := h0
  obtain ⟨A', m', hI'⟩ := h0 x n a w A m hI
  exact wp_loop_rounds (N - 0 + 1) (key _ 0 y0 a w A' m' (Nat.zero_le _) (Nat.lt_succ_self _) i0 hI')

/-- What is asked of the text: the first T operations have no guards and name their slots once, each waits for those of D; all others wait for all in front of them. -/
def looseB (n : Nat) (ops : List Oper) (T : Nat) (D : List (List Nat)) (ds : List Nat) : Bool :=
  let an := ancM ops []
  decide (T ≤ ops.length) && (ops.all (opOk n) && (List.range ops.length).all fun j => match ops[j]? with
    | some o => o.after.all (fun e => !Region.binds .any e || decide (e.on < j)) && ((decide (j < T) || (List.range j).all fun i => waits an j i) && (decide (T ≤ j) || (o.guard.isNone && (decide (o.dst = ds[j]? ∧ j < ds.length ∧ ∀ i, i < T → i ≠ j → ds[i]? ≠ ds[j]?) && (D.getD j []).all fun i => decide (i < T) && waits an j i))))
    | none => false)
/-- What an operation hands on: its value beside all that is known; or else less is known of the frame. -/
def LooseK {ι : Type} (T : Nat) (ds : List Nat) (fr0 : Fr) (Hf : ι → Heap) (J : (Nat → Prop) → ι → Prop) (I : Nat → PV → Prop) (E : Nat → Prop) (j : Nat) (fr : Fr) (d : Option Nat) (S' : St) : Prop :=
  (∃ v y', S' = ⟨put fr d v, Hf y'⟩ ∧ I j v ∧ J (fun i => E i ∨ i = j) y') ∨
  ∃ fr' y', Weak S' ⟨fr', Hf y'⟩ ∧ (∀ t, ds.contains t = false → slot fr' t = slot fr0 t) ∧ (∀ i, i < T → E i ∨ i = j → I i (slot fr' (ds.getD i 0))) ∧ J (fun i => E i ∨ i = j) y'
@[congr] theorem LooseK_congr {ι : Type} {T : Nat} {ds : List Nat} {fr0 : Fr} {Hf : ι → Heap} {J : (Nat → Prop) → ι → Prop} {I : Nat → PV → Prop} {E : Nat → Prop} {j : Nat} {fr : Fr} {d : Option Nat} {S S' : St} (h : S = S') : LooseK T ds fr0 Hf J I E j fr d S = LooseK T ds fr0 Hf J I E j fr d S' := by rw [h]
/-- Each of the first operations, whenever it comes up. -/
def looseL {ι : Type} (P : Program) (T : Nat) (D : List (List Nat)) (ds : List Nat) (fr0 : Fr) (Hf : ι → Heap) (J : (Nat → Prop) → ι → Prop) (I : Nat → PV → Prop) : List Oper → Nat → Prop
  | [], _ => True
  | o :: r, j => (∀ (E : Nat → Prop) (fr : Fr) (y : ι), ¬ E j → J E y → (∀ t, ds.contains t = false → slot fr t = slot fr0 t) → (∀ i ∈ D.getD j [], I i (slot fr (ds.getD i 0))) → (∀ i, i < T → E i → I i (slot fr (ds.getD i 0))) → (∀ i, i < T → E i → ∀ k ∈ D.getD i [], E k) → aEx P false o.op o.dst ⟨fr, Hf y⟩ (LooseK T ds fr0 Hf J I E j fr o.dst)) ∧ looseL P T D ds fr0 Hf J I r (j + 1)
theorem looseL_get {ι : Type} {T : Nat} {D : List (List Nat)} {ds : List Nat} {fr0 : Fr} {Hf : ι → Heap} {J : (Nat → Prop) → ι → Prop} {I : Nat → PV → Prop} : ∀ {r : List Oper} {k : Nat}, looseL P T D ds fr0 Hf J I r k → ∀ j o, r[j]? = some o →
    ∀ (E : Nat → Prop) (fr : Fr) (y : ι), ¬ E (k + j) → J E y → (∀ t, ds.contains t = false → slot fr t = slot fr0 t) → (∀ i ∈ D.getD (k + j) [], I i (slot fr (ds.getD i 0))) → (∀ i, i < T → E i → I i (slot fr (ds.getD i 0))) → (∀ i, i < T → E i → ∀ k ∈ D.getD i [], E k) → aEx P false o.op o.dst ⟨fr, Hf y⟩ (LooseK T ds fr0 Hf J I E (k + j) fr o.dst)
  | [], _, _, j, o, ho => by simp at ho
  | o' :: r, k, h, j, o, ho => by
    cases j with
    | zero =>
      cases ho
      exact h.1
    | succ j =>
      have := looseL_get h.2 j o (by simpa using ho)
      rw [show k + 1 + j = k + (j + 1) by omega] at this
      exact this

theorem slot_over {fr0 : Fr} {t : Nat} : ∀ {es : Fr}, (∀ p ∈ es, p.1 ≠ t) → slot (es ++ fr0) t = slot fr0 t
  | [], _ => rfl
  | (a, p) :: r, h => by
    have ha : (a == t) = false := by simpa using h (a, p) (by simp)
    simp only [List.cons_append, slot, ha, cond_false]
    exact slot_over fun q hq => h q (by simp [hq])
theorem wkV_ite {H' : Heap} {ρ φ : List Nat} {p q : PV} {c : Prop} [Decidable c] : wkV H ρ φ H' (if c then p else .top) (if c then q else .top) = (c → wkV H ρ φ H' p q) := by
  by_cases h : c
  · simp [h]
  · simp [h, wkV]
theorem weak_frame (hf : ∀ t, slot fr' t = .top ∨ slot fr' t = slot fr t) : Weak ⟨fr, H⟩ ⟨fr', H⟩ := fun _ _ _ _ _ _ hI => ⟨_, _, hI.frame hf⟩
theorem slot_kept {fr fr0 : Fr} {g : Nat → Nat} {t : Nat} : ∀ {kp : List Nat}, slot (kp.map (fun i => (g i, slot fr (g i))) ++ fr0) t = if t ∈ kp.map g then slot fr t else slot fr0 t
  | [] => by simp
  | i :: r => by
    have ih := slot_kept (fr := fr) (fr0 := fr0) (g := g) (t := t) (kp := r)
    simp only [List.map_cons, List.cons_append, slot, ih]
    by_cases e : g i = t
    · subst e; simp
    · have e' : ¬ t = g i := fun h => e h.symm
      simp [e, e']
theorem ends_loose (hm : P.follows .mixedOrders = true) {ι : Type} {n id : Nat} {ops : List Oper} {fr0 : Fr} {Q : Exit → St → Prop} (T : Nat) (kp : List Nat) (D : List (List Nat)) (ds : List Nat) (Hf : ι → Heap) (J : (Nat → Prop) → ι → Prop) (I : Nat → PV → Prop)
    (hb : looseB n ops T D ds = true) (y0 : ι) (h0 : J (fun _ => False) y0) (hstep : looseL P T D ds fr0 Hf J I (ops.take T) 0)
    (hfree : ∀ t ∈ ds, slot fr0 t = .top) (hend : ∀ (vs : Nat → PV) (y : ι), J (fun i => i < T) y → (∀ i, i < T → I i (vs i)) → aOps P false ops (ops.drop T) ⟨kp.map (fun i => (ds.getD i 0, vs i)) ++ fr0, Hf y⟩ (Q .normal)) : Ends P n (.region id ops.toArray true) ⟨fr0, Hf y0⟩ Q := fun x a w A m hI => by
  simp only [looseB, Bool.and_eq_true, decide_eq_true_eq] at hb
  obtain ⟨hT, hall, hb⟩ := hb
  have key : ∀ j o, ops[j]? = some o → _ := fun j o ho => by
    have := List.all_eq_true.1 hb j (List.mem_range.2 (List.getElem?_eq_some_iff.1 ho).1)
    simp only [ho, Bool.and_eq_true] at this
    exact this
  have hlow : ∀ j o, ops[j]? = some o → ∀ e ∈ o.after, Region.binds .any e = true → e.on < j := fun j o ho e he hb => by
    have := Array.all_eq_true_iff_forall_mem.1 (key j o ho).1 e he
    rw [hb] at this
    simpa using this
  have htail : ∀ j i, j < ops.length → T ≤ j → i < j → Waits ops j i := fun j i hj hTj hij => by
    have := (key j _ (List.getElem?_eq_getElem hj)).2.1
    simp only [Bool.or_eq_true, decide_eq_true_eq] at this
    exact waits_spec (List.all_eq_true.1 (this.resolve_left (by omega)) i (List.mem_range.2 hij))
  have hpre : ∀ j o, j < T → ops[j]? = some o → o.guard = none ∧ o.dst = ds[j]? ∧ j < ds.length ∧ (∀ i, i < T → i ≠ j → ds[i]? ≠ ds[j]?) ∧ ∀ i ∈ D.getD j [], i < T ∧ Waits ops j i := fun j o hj ho => by
    have := (key j o ho).2.2
    simp only [Bool.or_eq_true, decide_eq_true_eq, Bool.and_eq_true] at this
    obtain ⟨h1, ⟨h2, h3, h4⟩, h5⟩ := this.resolve_left (by omega)
    refine ⟨by simpa using h1, h2, h3, h4, fun i hi => ?_⟩
    have := List.all_eq_true.1 h5 i hi
    simp only [Bool.and_eq_true, decide_eq_true_eq] at this
    exact ⟨this.1, waits_spec this.2⟩
  refine wp_region_any hm ?_
  have hI' : Inv x n ⟨fr0, Hf y0⟩ a { w with drawn := w.drawn + 1 } A m := by
    refine ⟨⟨hI.moved.os, hI.moved.tape, hI.moved.output, hI.moved.size, hI.moved.block, fun hd => Nat.le_trans (hI.moved.drawn hd) (Nat.le_succ _)⟩, hI.sub, hI.aok.mono hI.aok.lt (fun _ h => h) (fun _ _ => rfl), hI.conc.same rfl, hI.own, fun t => RepO.mono (w := w) (w' := { w with drawn := w.drawn + 1 }) (fun _ h => h) (fun _ _ => rfl) (Shaped.refl _ _ _) (hI.fr t), hI.sz, hI.df⟩
  generalize { w with drawn := w.drawn + 1 } = w0 at hI'
  have main : ∀ (fuel : Nat) (listed : Array Bool) (fr : Fr) (y : ι) (a : Act) (w : World) (A : Nat → Prop) (m : OMap), listed.size = ops.length → Closed ops (fun i => listed.getD i false = true) → (∀ j, T ≤ j → listed.getD j false = false) → Left ops.length listed fuel →
      J (fun i => listed.getD i false = true) y → (∀ t, ds.contains t = false → slot fr t = slot fr0 t) → (∀ i, i < T → listed.getD i false = true → I i (slot fr (ds.getD i 0))) → Inv x n ⟨fr, Hf y⟩ a w A m → wpAny P .any ops.toArray (fun e a' w' => ∃ S' A' m', Q e S' ∧ Inv x n S' a' w' A' m') fuel listed a w := by
    have full : ∀ (fuel : Nat) (listed : Array Bool) (fr : Fr) (y : ι) (a : Act) (w : World) (A : Nat → Prop) (m : OMap), listed.size = ops.length → (∀ j, T ≤ j → listed.getD j false = false) → Left ops.length listed fuel →
        J (fun i => listed.getD i false = true) y → (∀ t, ds.contains t = false → slot fr t = slot fr0 t) → (∀ i, i < T → listed.getD i false = true → I i (slot fr (ds.getD i 0))) → Inv x n ⟨fr, Hf y⟩ a w A m → (∀ i, i < T → listed.getD i false = true) → wpAny P .any ops.toArray (fun e a' w' => ∃ S' A' m', Q e S' ∧ Inv x n S' a' w' A' m') fuel listed a w := fun fuel listed fr y a w A m hsz hgt hleft hJ hbase hslot hI hf => by
      have hE : (fun i => listed.getD i false = true) = fun i => i < T := by
        funext i
        refine propext ⟨fun h => ?_, hf i⟩
        rcases Nat.lt_or_ge i T with g | g
        · exact g
        · rw [hgt i g] at h; cases h
      rw [hE] at hJ
      have hseq := hend (fun i => slot fr (ds.getD i 0)) y hJ fun i hi => hslot i hi (hf i hi)
      have hI := Inv.frame (fr' := kp.map (fun i => (ds.getD i 0, slot fr (ds.getD i 0))) ++ fr0) hI fun t => by
        rw [slot_kept]
        by_cases ht : t ∈ kp.map fun i => ds.getD i 0
        · rw [if_pos ht]; exact .inr rfl
        · rw [if_neg ht]
          cases hd : ds.contains t with
          | false => exact .inr (hbase t hd).symm
          | true => exact .inl (hfree t (by simpa using hd))
      refine draw_tail hlow (fun j i hj hi hij => htail j i hj (by omega) hij) fuel T listed a w hsz (Nat.le_refl _) hT (fun i _ => ⟨fun h => ?_, hf i⟩) hleft ?_
      · rcases Nat.lt_or_ge i T with g | g
        · exact g
        · rw [hgt i g] at h; cases h
      · exact ops_sound hall (fun S' a' w' A' m' h1 h2 => ⟨S', A', m', h1, h2⟩) (ops.drop T) false _ a w A m (List.all_eq_true.2 fun o ho => List.all_eq_true.1 hall o (List.mem_of_mem_drop ho)) hI hseq
    intro fuel
    induction fuel with
    | zero =>
      intro listed fr y a w A m hsz hc hgt hleft hJ hbase hslot hI
      by_cases hf : ∀ i, i < T → listed.getD i false = true
      · exact full 0 listed fr y a w A m hsz hgt hleft hJ hbase hslot hI hf
      · obtain ⟨i, hi, hif, _⟩ := least_off hf
        obtain ⟨l, h1, h2⟩ := hleft
        have := h2 i (by omega) (getD_in (by omega) hif)
        have : l = [] := List.eq_nil_of_length_eq_zero (by omega)
        simp_all
    | succ fuel ih =>
      intro listed fr y a w A m hsz hc hgt hleft hJ hbase hslot hI
      by_cases hf : ∀ i, i < T → listed.getD i false = true
      · exact full _ listed fr y a w A m hsz hgt hleft hJ hbase hslot hI hf
      obtain ⟨i0, hi0, hif0, hlow0⟩ := least_off hf
      refine ⟨fun hnil => ?_, fun j hj => ?_⟩
      · have : i0 ∈ Region.ready .any ops.toArray listed := mem_ready.2 ⟨getD_in (by omega) hif0, ops[i0]'(by omega), by simp, fun e he hb => hlow0 _ (hlow i0 _ (List.getElem?_eq_getElem (by omega)) e he hb)⟩
        rw [hnil] at this
        cases this
      · obtain ⟨h1, o, ho, hready⟩ := mem_ready.1 hj
        simp only [List.getElem?_toArray] at ho
        have hjl : j < ops.length := (List.getElem?_eq_some_iff.1 ho).1
        have hwait : ∀ i, Waits ops j i → listed.getD i false = true := fun i hw => hw.closed hc fun o' ho' e he hb => by rw [ho] at ho'; cases ho'; exact hready e he hb
        have hjf := getD_both h1
        have hjT : j < T := by
          rcases Nat.lt_or_ge j T with g | g
          · exact g
          · have := hwait i0 (htail j i0 hjl g (by omega))
            rw [hif0] at this
            cases this
        obtain ⟨hg, hd, hdl, huni, hD⟩ := hpre j o hjT ho
        have hokj : opOk n o = true := List.all_eq_true.1 hall o (List.mem_of_getElem? ho)
        have hlistj : ∀ i, (listed.setIfInBounds j true).getD i false = true ↔ listed.getD i false = true ∨ i = j := fun i => set_listed hsz hjl
        have hE' : (fun i => (listed.setIfInBounds j true).getD i false = true) = fun i => listed.getD i false = true ∨ i = j := funext fun i => propext (hlistj i)
        have hst := looseL_get hstep j o (by rw [List.getElem?_take, if_pos hjT]; exact ho)
        rw [Nat.zero_add] at hst
        have hX := hst (fun i => listed.getD i false = true) fr y (by rw [hjf]; exact Bool.noConfusion) hJ hbase (fun i hi => hslot i (hD i hi).1 (hwait i (hD i hi).2)) hslot fun i hi hil k hk => (((hpre i _ hi (List.getElem?_eq_getElem (by omega))).2.2.2.2 k hk).2).closed hc fun o' ho' e he hb => hc i o' ho' hil e he hb
        have hY := goes_ex hokj hI hX
        have hdj : o.dst = some ds[j] := by rw [hd, List.getElem?_eq_getElem hdl]
        unfold wpOp
        simp only [List.getElem?_toArray, ho]
        rw [if_pos (by simp [Region.wanted, hg])]
        have hcl : Closed ops (fun i => (listed.setIfInBounds j true).getD i false = true) := by
          rw [hE']
          intro k ok hok' hk e he hb
          rcases hk with hk | rfl
          · exact .inl (hc k ok hok' hk e he hb)
          · rw [ho] at hok'
            cases hok'
            exact .inl (hready e he hb)
        refine .inl (hY _ _ fun v w' ⟨S', A', m', hK, hI'⟩ => ?_)
        rcases hK with ⟨pv, y', hS, hIj, hJ'⟩ | ⟨fr', y', hw, hb', hs', hJ'⟩
        · subst hS
          refine ih _ _ y' _ w' A' m' (by simpa using hsz) hcl (fun k hk => by rw [getD_set_ne false (by omega)]; exact hgt k hk) (hleft.set hjl h1) (by rw [hE']; exact hJ') (fun t ht => ?_) (fun i hi hil => ?_) hI'
          · rw [hdj, slot_put, if_neg (fun e => by subst e; simp at ht), hbase t ht]
          · rw [hdj, slot_put]
            by_cases e : i = j
            · subst e
              rw [if_pos (by simp [List.getD, hdl])]
              exact hIj
            · have hdi : i < ds.length := (hpre i _ hi (List.getElem?_eq_getElem (by omega))).2.2.1
              have hne := huni i hi e
              rw [List.getElem?_eq_getElem hdi, List.getElem?_eq_getElem hdl] at hne
              rw [if_neg (by simp only [List.getD, List.getElem?_eq_getElem hdi, Option.getD_some]; exact fun h => hne (by rw [h]))]
              exact hslot i hi (((hlistj i).1 hil).resolve_right e)
        · obtain ⟨A2, m2, hI2⟩ := hw x n _ w' A' m' hI'
          exact ih _ fr' y' _ w' A2 m2 (by simpa using hsz) hcl (fun k hk => by rw [getD_set_ne false (by omega)]; exact hgt k hk) (hleft.set hjl h1) (by rw [hE']; exact hJ') hb' (fun i hi hil => hs' i hi ((hlistj i).1 hil)) hI2
  exact main ops.toArray.size (Array.replicate ops.toArray.size false) fr0 y0 a w0 A m (by simp) (fun j o _ h => by simp only [getD_replicate_false] at h; cases h) (fun j _ => getD_replicate_false _ _) ⟨List.range ops.length, by simp, fun i hi _ => by simpa using hi⟩ (by
    have : (fun i => (Array.replicate ops.toArray.size false).getD i false = true) = fun _ => False := by
      funext i
      rw [getD_replicate_false]
      simp
    rw [this]
    exact h0) (fun _ _ => rfl) (fun i _ h => by simp only [getD_replicate_false] at h; cases h) hI'
end Go.Ab
