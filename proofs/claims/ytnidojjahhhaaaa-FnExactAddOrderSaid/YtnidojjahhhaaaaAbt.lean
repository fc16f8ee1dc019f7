/- Operations whose order is drawn: they come out as in the order of the text. First part: what is known while some of them have run. No condition. -/
import Derived.Test.YtnidojjahhhaaaaAbr
import Derived.Orders
namespace Go.Ab
variable {P : Program} {A A' : Nat → Prop} {m m' : OMap} {h h' : OFun} {w w' : World} {H : Heap} {fr fr' : Fr} {a : Act}

/-- One operation, in its place, of those that come up in whatever order. -/
def StepAt (P : Program) (all : List Oper) (o : Oper) (S : St) (pv : PV) (new : List (Option Obj)) : Prop :=
  match o.guard with
  | none => PreStep P S.fr S.H S.H.length o.op pv new
  | some (j, want) => ∃ c pv', guardV all S.fr j want (fun b => b = c) ∧ pv = .opt c pv' ∧ new = [] ∧ (c = true → PreStep P S.fr S.H S.H.length o.op pv' [])

/-- The plain run of the first operations, in the order of the text. -/
structure Lex (P : Program) (all pre : List Oper) (S : St) (σ : Nat → St) (pv : Nat → PV) (new : Nat → List (Option Obj)) : Prop where
  zero : σ 0 = S
  succ : ∀ i o, pre[i]? = some o → σ (i + 1) = ⟨put (σ i).fr o.dst (pv i), (σ i).H ++ new i⟩
  step : ∀ i o, pre[i]? = some o → StepAt P all o (σ i) (pv i) (new i)

theorem guardV_some {all : List Oper} {j : Nat} {want : Bool} {K : Bool → Prop} (h : guardV all fr j want K) : ∃ c, guardV all fr j want (fun b => b = c) ∧ K c := by
  unfold guardV gD at *
  cases hd : dstAt all j with
  | none => rw [hd] at h; exact h.elim
  | some d =>
    rw [hd] at h
    simp only at h ⊢
    unfold gK at *
    split at h
    · exact ⟨_, rfl, h⟩
    · exact ⟨_, rfl, h⟩
    · exact h.elim

theorem lex_of {all : List Oper} {K : St → Prop} : ∀ (pre tail : List Oper) (S : St), (∀ o ∈ pre, isEff all o.op = false) → aOps P true all (pre ++ tail) S K →
    ∃ pre' post σ pv new, pre = pre' ++ post ∧ Lex P all pre' S σ pv new ∧ aOps P true all (post ++ tail) (σ pre'.length) K ∧ (post = [] ∨ drawOkT all (all.length - (post ++ tail).length) = true)
  | [], tail, S, _, h => ⟨[], [], fun _ => S, fun _ => .top, fun _ => [], rfl, ⟨rfl, fun i o hi => by simp at hi, fun i o hi => by simp at hi⟩, h, .inl rfl⟩
  | o :: r, tail, S, he, h => by
    by_cases hmk : o.guard = none ∧ markB S.fr o.op = true
    · refine ⟨[], o :: r, fun _ => S, fun _ => .top, fun _ => [], rfl, ⟨rfl, fun i o hi => by simp at hi, fun i o hi => by simp at hi⟩, h, .inr ?_⟩
      simp only [List.cons_append, aOps, hmk.1, hmk.2, Bool.and_true, cond_true] at h
      have := h.1
      rwa [show (o :: r ++ tail).length = (r ++ tail).length + 1 by simp]
    have one : ∃ pv new, StepAt P all o S pv new ∧ aOps P true all (r ++ tail) ⟨put S.fr o.dst pv, S.H ++ new⟩ K := by
      simp only [List.cons_append, aOps] at h
      cases hg : o.guard with
      | none =>
        have hm : markB S.fr o.op = false := by simpa [hg] using hmk
        simp only [hg, hm, he o (by simp), Bool.not_false, Bool.and_true, Bool.and_false, cond_false] at h
        obtain ⟨pv, new, hp, hK⟩ := aEx_pre (fun t p x e => by
          have := he o (by simp)
          rw [e] at this
          cases this) h
        exact ⟨pv, new, by simp only [StepAt, hg]; exact hp, hK⟩
      | some g =>
        obtain ⟨j, want⟩ := g
        simp only [hg] at h
        obtain ⟨c, hc, hK⟩ := guardV_some h
        obtain ⟨pv, hp, hK⟩ := aGd_split hK
        exact ⟨.opt c pv, [], by unfold StepAt; rw [hg]; exact ⟨c, pv, hc, rfl, rfl, hp⟩, by rw [List.append_nil]; exact hK⟩
    obtain ⟨pv0, new0, hst, hrest⟩ := one
    obtain ⟨pre', post, σ, pv, new, hsp, hL, hK, hd⟩ := lex_of r tail _ (fun o ho => he o (by simp [ho])) hrest
    refine ⟨o :: pre', post, fun i => match i with | 0 => S | i + 1 => σ i, fun i => match i with | 0 => pv0 | i + 1 => pv i, fun i => match i with | 0 => new0 | i + 1 => new i, by rw [hsp]; rfl, ⟨rfl, fun i o' hi => ?_, fun i o' hi => ?_⟩, hK, hd⟩
    · cases i with
      | zero => cases hi; exact hL.zero
      | succ i => exact hL.succ i o' (by simpa using hi)
    · cases i with
      | zero => cases hi; exact hst
      | succ i => exact hL.step i o' (by simpa using hi)

section lex
variable {all pre : List Oper} {S : St} {σ : Nat → St} {pv : Nat → PV} {new : Nat → List (Option Obj)}


theorem Lex.len_succ (hL : Lex P all pre S σ pv new) {i : Nat} (hi : i < pre.length) : (σ (i + 1)).H.length = (σ i).H.length + (new i).length := by
  rw [hL.succ i _ (List.getElem?_eq_getElem hi)]
  simp

theorem Lex.len_mono (hL : Lex P all pre S σ pv new) {i : Nat} : ∀ (j : Nat), i ≤ j → j ≤ pre.length → (σ i).H.length ≤ (σ j).H.length
  | 0, h, _ => by have : i = 0 := by omega
                  subst this; exact Nat.le_refl _
  | j + 1, h, hj => by
    by_cases e : i = j + 1
    · subst e; exact Nat.le_refl _
    · have h1 := Lex.len_mono hL (i := i) j (by omega) (by omega)
      have h2 := hL.len_succ (i := j) (by omega)
      omega

theorem getO_append_lt {new : List (Option Obj)} {k : Nat} (hk : k < H.length) : getO (H ++ new) k = getO H k := by
  unfold getO
  rw [List.getElem?_append_left hk]

theorem Lex.obj (hL : Lex P all pre S σ pv new) {i k : Nat} (hk : k < (σ i).H.length) : ∀ (j : Nat), i ≤ j → j ≤ pre.length → getO (σ j).H k = getO (σ i).H k
  | 0, h, _ => by have : i = 0 := by omega
                  subst this; rfl
  | j + 1, h, hj => by
    by_cases e : i = j + 1
    · subst e; rfl
    · have h1 := Lex.obj hL hk j (by omega) (by omega)
      have h2 := hL.len_mono (i := i) j (by omega) (by omega)
      rw [hL.succ j _ (List.getElem?_eq_getElem (by omega))]
      exact (getO_append_lt (by omega)).trans h1

/-- Who wrote a slot last. -/
theorem Lex.slot (hL : Lex P all pre S σ pv new) (t : Nat) : ∀ (j : Nat), j ≤ pre.length → (∃ i, i < j ∧ dstI pre i = some t ∧ slot (σ j).fr t = pv i ∧ ∀ i', i < i' → i' < j → dstI pre i' ≠ some t) ∨ ((∀ i, i < j → dstI pre i ≠ some t) ∧ slot (σ j).fr t = slot S.fr t)
  | 0, _ => .inr ⟨by omega, by rw [hL.zero]⟩
  | j + 1, hj => by
    have ho : pre[j]? = some pre[j] := List.getElem?_eq_getElem (by omega)
    rw [hL.succ j _ ho]
    cases hd : pre[j].dst with
    | none =>
      have hdj : dstI pre j = none := by simp [dstI, ho, hd]
      simp only [put]
      rcases hL.slot t j (by omega) with ⟨i, h1, h2, h3, h4⟩ | ⟨h1, h2⟩
      · refine .inl ⟨i, by omega, h2, h3, fun i' g1 g2 => ?_⟩
        by_cases e : i' = j
        · subst e; rw [hdj]; simp
        · exact h4 i' g1 (by omega)
      · refine .inr ⟨fun i hi => ?_, h2⟩
        by_cases e : i = j
        · subst e; rw [hdj]; simp
        · exact h1 i (by omega)
    | some d =>
      have hdj : dstI pre j = some d := by simp [dstI, ho, hd]
      rw [slot_put]
      by_cases e : t = d
      · subst e
        rw [if_pos rfl]
        exact .inl ⟨j, by omega, hdj, rfl, fun i' g1 g2 => by omega⟩
      · rw [if_neg e]
        have hne : dstI pre j ≠ some t := fun h => e (by rw [hdj] at h; exact (Option.some.inj h).symm)
        rcases hL.slot t j (by omega) with ⟨i, h1, h2, h3, h4⟩ | ⟨h1, h2⟩
        · refine .inl ⟨i, by omega, h2, h3, fun i' g1 g2 => ?_⟩
          by_cases e : i' = j
          · subst e; exact hne
          · exact h4 i' g1 (by omega)
        · refine .inr ⟨fun i hi => ?_, h2⟩
          by_cases e : i = j
          · subst e; exact hne
          · exact h1 i (by omega)

/-- The own objects below b that are there once the operations of E have run. -/
noncomputable def hE (pre : List Oper) (σ : Nat → St) (E : Nat → Prop) (b : Nat) : OFun := fun k =>
  haveI := Classical.propDecidable (k < b ∧ (k < (σ 0).H.length ∨ ∃ i, i < pre.length ∧ E i ∧ (σ i).H.length ≤ k ∧ k < (σ (i + 1)).H.length))
  if k < b ∧ (k < (σ 0).H.length ∨ ∃ i, i < pre.length ∧ E i ∧ (σ i).H.length ≤ k ∧ k < (σ (i + 1)).H.length) then getO (σ pre.length).H k else none

theorem hE_some {E : Nat → Prop} {b k : Nat} {o : Obj} : hE pre σ E b k = some o ↔ (k < b ∧ (k < (σ 0).H.length ∨ ∃ i, i < pre.length ∧ E i ∧ (σ i).H.length ≤ k ∧ k < (σ (i + 1)).H.length)) ∧ getO (σ pre.length).H k = some o := by
  unfold hE
  split
  · rename_i hc; exact ⟨fun h => ⟨hc, h⟩, fun h => h.2⟩
  · rename_i hc; exact ⟨fun h => (by cases h), fun h => absurd h.1 hc⟩

theorem hE_shaped {E : Nat → Prop} {b b' : Nat} (hb : b ≤ b') : Shaped none m (hE pre σ E b) m (hE pre σ E b') := fun k o _ hk => by
  obtain ⟨⟨h1, h2⟩, h3⟩ := hE_some.1 hk
  exact ⟨rfl, o, hE_some.2 ⟨⟨by omega, h2⟩, h3⟩, SameShape.refl o⟩

/-- What is known while the operations of E have run. -/
structure DInv (x : Ctx) (n : Nat) (pre : List Oper) (S : St) (σ : Nat → St) (pv : Nat → PV) (E : Nat → Prop) (a : Act) (w : World) (A : Nat → Prop) (m : OMap) : Prop where
  moved : Moved x.M0 x.w0 w
  sub : ∀ b, A b → x.A0 b ∨ x.M0 b ∨ x.w0.heap.size ≤ b
  aok : AOk A w
  conc : ∀ i, i ≤ pre.length → ConcO A m (hE pre σ E (σ i).H.length) w
  own : ∀ b, OwnB m (hE pre σ E (σ pre.length).H.length) b → x.M0 b ∨ x.w0.heap.size ≤ b
  val : ∀ i d, i < pre.length → E i → dstI pre i = some d → RepO A m (hE pre σ E (σ (i + 1)).H.length) w (pv i) (look x n a d)
  old : ∀ t, (∀ i, i < pre.length → E i → dstI pre i ≠ some t) → RepO A m (hE pre σ E (σ 0).H.length) w (slot S.fr t) (look x n a t)
  sz : a.tmps.size = n
  df : a.defers = []

theorem hE_none (hL : Lex P all pre S σ pv new) {i : Nat} (hi : i ≤ pre.length) : hE pre σ (fun _ => False) (σ i).H.length = getO S.H := by
  funext k
  cases hk : getO S.H k with
  | none =>
    cases hk' : hE pre σ (fun _ => False) (σ i).H.length k with
    | none => rfl
    | some o =>
      obtain ⟨⟨h1, h2⟩, h3⟩ := hE_some.1 hk'
      have h2 : k < (σ 0).H.length := h2.elim id fun ⟨_, _, h, _⟩ => h.elim
      rw [hL.obj h2 pre.length (Nat.zero_le _) (Nat.le_refl _), hL.zero, hk] at h3
      cases h3
  | some o =>
    have hlt := getO_lt hk
    have h0 : k < (σ 0).H.length := by rw [hL.zero]; exact hlt
    have hle := hL.len_mono i (Nat.zero_le _) hi
    refine hE_some.2 ⟨⟨by omega, .inl h0⟩, ?_⟩
    rw [hL.obj h0 pre.length (Nat.zero_le _) (Nat.le_refl _), hL.zero, hk]

theorem dinv_start (hL : Lex P all pre S σ pv new) {x : Ctx} {n : Nat} (hI : Inv x n S a w A m) : DInv x n pre S σ pv (fun _ => False) a w A m := by
  refine ⟨hI.moved, hI.sub, hI.aok, fun i hi => by rw [hE_none hL hi]; exact hI.conc, by rw [hE_none hL (Nat.le_refl _)]; exact hI.own, fun _ _ _ h => h.elim, fun t _ => by rw [hE_none hL (Nat.zero_le _)]; exact hI.fr t, hI.sz, hI.df⟩

theorem hE_all (hL : Lex P all pre S σ pv new) {E : Nat → Prop} (hE' : ∀ i, i < pre.length → E i) {j : Nat} (hj : j ≤ pre.length) : hE pre σ E (σ j).H.length = getO (σ j).H := by
  have cover : ∀ (j : Nat), j ≤ pre.length → ∀ k, k < (σ j).H.length → k < (σ 0).H.length ∨ ∃ i, i < pre.length ∧ E i ∧ (σ i).H.length ≤ k ∧ k < (σ (i + 1)).H.length := by
    intro j
    induction j with
    | zero => exact fun _ k hk => .inl hk
    | succ j ih =>
      intro hj k hk
      by_cases h : k < (σ j).H.length
      · exact ih (by omega) k h
      · exact .inr ⟨j, by omega, hE' j (by omega), by omega, hk⟩
  funext k
  cases hk : getO (σ j).H k with
  | none =>
    cases hk' : hE pre σ E (σ j).H.length k with
    | none => rfl
    | some o =>
      obtain ⟨⟨h1, _⟩, h3⟩ := hE_some.1 hk'
      rw [hL.obj h1 pre.length hj (Nat.le_refl _), hk] at h3
      cases h3
  | some o =>
    have hlt := getO_lt hk
    refine hE_some.2 ⟨⟨hlt, cover j hj k hlt⟩, ?_⟩
    rw [hL.obj hlt pre.length hj (Nat.le_refl _), hk]

theorem dinv_end (hL : Lex P all pre S σ pv new) {x : Ctx} {n : Nat} {E : Nat → Prop} (hE' : ∀ i, i < pre.length → E i) (hD : DInv x n pre S σ pv E a w A m) : Inv x n (σ pre.length) a w A m := by
  have e := hE_all hL hE' (Nat.le_refl _)
  refine ⟨hD.moved, hD.sub, hD.aok, by rw [← e]; exact hD.conc _ (Nat.le_refl _), by rw [← e]; exact hD.own, fun t => ?_, hD.sz, hD.df⟩
  rw [← e]
  rcases hL.slot t pre.length (Nat.le_refl _) with ⟨i, h1, h2, h3, _⟩ | ⟨h1, h2⟩
  · rw [h3]
    exact (hD.val i t h1 (hE' i h1) h2).mono (fun _ h => h) (fun _ _ => rfl) (hE_shaped (hL.len_mono _ (by omega) (Nat.le_refl _)))
  · rw [h2]
    exact (hD.old t fun i hi _ => h1 i hi).mono (fun _ h => h) (fun _ _ => rfl) (hE_shaped (hL.len_mono _ (by omega) (Nat.le_refl _)))

/-- One more has run. -/
theorem dinv_step (hL : Lex P all pre S σ pv new) {x : Ctx} {n : Nat} {E : Nat → Prop} (hD : DInv x n pre S σ pv E a w A m) {j : Nat} (hj : j < pre.length) (hjE : ¬ E j) (hdst : ∀ d, dstI pre j = some d → d < n)
    (huniq : ∀ i d, i < pre.length → i ≠ j → dstI pre i = some d → dstI pre j ≠ some d) {v : Value}
    (hN : NewW A m (hE pre σ E (σ j).H.length) w A' m' (addO (hE pre σ E (σ j).H.length) (σ j).H.length (new j)) w') (hr : RepO A' m' (addO (hE pre σ E (σ j).H.length) (σ j).H.length (new j)) w' (pv j) v) :
    ∃ m'', DInv x n pre S σ pv (fun i => E i ∨ i = j) (a.put (dstI pre j) v) w' A' m'' := by
  have hlen := hL.len_succ hj
  have ho : pre[j]? = some pre[j] := List.getElem?_eq_getElem hj
  have hmono := fun {i j : Nat} (h : i ≤ j) (h' : j ≤ pre.length) => hL.len_mono (i := i) j h h'
  -- the objects afterwards
  have hadd : addO (hE pre σ E (σ j).H.length) (σ j).H.length (new j) = hE pre σ (fun i => E i ∨ i = j) (σ (j + 1)).H.length := by
    funext k
    simp only [addO]
    by_cases hk : (σ j).H.length ≤ k ∧ k < (σ j).H.length + (new j).length
    · rw [if_pos hk]
      have h1 : getO (σ pre.length).H k = ((new j)[k - (σ j).H.length]?).getD none := by
        rw [hL.obj (i := j + 1) (by omega) pre.length (by omega) (Nat.le_refl _), hL.succ j _ ho, getO_add]
        simp only [addO]
        rw [if_pos hk]
      cases hq : ((new j)[k - (σ j).H.length]?).getD none with
      | none =>
        cases hk' : hE pre σ (fun i => E i ∨ i = j) (σ (j + 1)).H.length k with
        | none => rfl
        | some o =>
          have := (hE_some.1 hk').2
          rw [h1, hq] at this
          cases this
      | some o => exact (hE_some.2 ⟨⟨by omega, .inr ⟨j, hj, .inr rfl, by omega, by omega⟩⟩, by rw [h1, hq]⟩).symm
    · rw [if_neg hk]
      cases hq : hE pre σ E (σ j).H.length k with
      | none =>
        cases hk' : hE pre σ (fun i => E i ∨ i = j) (σ (j + 1)).H.length k with
        | none => rfl
        | some o =>
          obtain ⟨⟨h1, h2⟩, h3⟩ := hE_some.1 hk'
          have : hE pre σ E (σ j).H.length k = some o := hE_some.2 ⟨⟨by omega, h2.imp id fun ⟨i, g1, g2, g3, g4⟩ => ⟨i, g1, g2.resolve_right fun e => by subst e; omega, g3, g4⟩⟩, h3⟩
          rw [hq] at this
          cases this
      | some o =>
        obtain ⟨⟨h1, h2⟩, h3⟩ := hE_some.1 hq
        exact (hE_some.2 ⟨⟨by omega, h2.imp id fun ⟨i, g1, g2, g3, g4⟩ => ⟨i, g1, .inl g2, g3, g4⟩⟩, h3⟩).symm
  rw [hadd] at hN hr
  -- an object of E lies elsewhere
  have apart : ∀ b k o, hE pre σ E b k = some o → ¬ ((σ j).H.length ≤ k ∧ k < (σ (j + 1)).H.length) := fun b k o hk ⟨g1, g2⟩ => by
    obtain ⟨⟨_, h2⟩, _⟩ := hE_some.1 hk
    rcases h2 with h2 | ⟨i, q1, q2, q3, q4⟩
    · have := hmono (Nat.zero_le j) (by omega)
      omega
    · rcases Nat.lt_trichotomy i j with h | h | h
      · have := hmono (show i + 1 ≤ j by omega) (by omega)
        omega
      · subst h; exact hjE q2
      · have := hmono (show j + 1 ≤ i by omega) (by omega)
        omega
  have back : ∀ b k o, hE pre σ (fun i => E i ∨ i = j) b k = some o → (((σ j).H.length ≤ k ∧ k < (σ (j + 1)).H.length) ∧ hE pre σ (fun i => E i ∨ i = j) (σ (j + 1)).H.length k = some o) ∨ (¬ ((σ j).H.length ≤ k ∧ k < (σ (j + 1)).H.length) ∧ hE pre σ E b k = some o) := fun b k o hk => by
    obtain ⟨⟨h1, h2⟩, h3⟩ := hE_some.1 hk
    by_cases hin : (σ j).H.length ≤ k ∧ k < (σ (j + 1)).H.length
    · exact .inl ⟨hin, hE_some.2 ⟨⟨hin.2, h2⟩, h3⟩⟩
    · refine .inr ⟨hin, hE_some.2 ⟨⟨h1, h2.imp id fun ⟨i, g1, g2, g3, g4⟩ => ⟨i, g1, g2.resolve_right fun e => ?_, g3, g4⟩⟩, h3⟩⟩
      subst e
      exact hin ⟨g3, g4⟩
  have keep : ∀ b k o, hE pre σ E b k = some o → hE pre σ (fun i => E i ∨ i = j) b k = some o := fun b k o hk => by
    obtain ⟨⟨h1, h2⟩, h3⟩ := hE_some.1 hk
    exact hE_some.2 ⟨⟨h1, h2.imp id fun ⟨i, g1, g2, g3, g4⟩ => ⟨i, g1, .inl g2, g3, g4⟩⟩, h3⟩
  let m'' : OMap := fun k => if (σ j).H.length ≤ k ∧ k < (σ (j + 1)).H.length then m' k else m k
  have min : ∀ {k}, ((σ j).H.length ≤ k ∧ k < (σ (j + 1)).H.length) → m'' k = m' k := fun {k} hk => if_pos hk
  have mout : ∀ {k}, ¬ ((σ j).H.length ≤ k ∧ k < (σ (j + 1)).H.length) → m'' k = m k := fun {k} hk => if_neg hk
  -- from the old to the new, from the operation's own to the new
  have sh1 : ∀ b, Shaped none m (hE pre σ E b) m'' (hE pre σ (fun i => E i ∨ i = j) b) := fun b k o _ hk => ⟨mout (apart b k o hk), o, keep b k o hk, SameShape.refl o⟩
  have sh2 : ∀ b, (σ (j + 1)).H.length ≤ b → Shaped none m' (hE pre σ (fun i => E i ∨ i = j) (σ (j + 1)).H.length) m'' (hE pre σ (fun i => E i ∨ i = j) b) := fun b hb k o _ hk => by
    refine ⟨?_, o, ?_, SameShape.refl o⟩
    · rcases back _ k o hk with ⟨g, _⟩ | ⟨g, hk'⟩
      · exact min g
      · have hk2 : hE pre σ E (σ j).H.length k = some o := by
          obtain ⟨⟨h1, h2⟩, h3⟩ := hE_some.1 hk'
          exact hE_some.2 ⟨⟨by omega, h2⟩, h3⟩
        rw [mout g, (hN.shaped k o (by simp) hk2).1]
    · obtain ⟨⟨h1, h2⟩, h3⟩ := hE_some.1 hk
      exact hE_some.2 ⟨⟨by omega, h2⟩, h3⟩
  have hkeepA : ∀ b, A b → w'.heap[b]? = w.heap[b]? := fun b hb => hN.block (hD.aok b hb)
  have hfresh : ∀ k o b C, ((σ j).H.length ≤ k ∧ k < (σ (j + 1)).H.length) → hE pre σ (fun i => E i ∨ i = j) (σ (j + 1)).H.length k = some o → m' k = some (some b, C) → w.heap.size ≤ b := fun k o b C hin hk hm => by
    rcases hN.own b ⟨k, o, C, hk, hm⟩ with ⟨k2, o2, C2, hk2, hm2⟩ | h
    · obtain ⟨e1, o2', hk2', _⟩ := hN.shaped k2 o2 (by simp) hk2
      have := hN.conc.inj k k2 o o2' b C C2 hk hk2' hm (e1.trans hm2)
      subst this
      have := (hE_some.1 hk2).1.1
      omega
    · exact h
  refine ⟨m'', ⟨?_, fun b hb => ?_, hN.aok, fun i hi => ⟨fun k o hk => ?_, fun k k' o o' b C C' hk hk' hm hm' => ?_⟩, fun b ⟨k, o, C, hk, hm⟩ => ?_, fun i d hi hEi hdi => ?_, fun t ht => ?_, by rw [put_size]; exact hD.sz, by rw [put_defers]; exact hD.df⟩⟩
  · exact hD.moved.trans (hN.moved.mono fun _ _ h => h.elim)
  · rcases hN.sub b hb with g | g
    · exact hD.sub b g
    · exact .inr (.inr (Nat.le_trans hD.moved.size g))
  · rcases back _ k o hk with ⟨hin, hk'⟩ | ⟨hout, hk'⟩
    · obtain ⟨ob, C, hm, hob⟩ := hN.conc.at_ k o hk'
      have hle : (σ (j + 1)).H.length ≤ (σ i).H.length := by
        rcases Nat.lt_or_ge j i with h | h
        · exact hmono h hi
        · have := hmono h (by omega)
          have := (hE_some.1 hk).1.1
          omega
      refine ⟨ob, C, by rw [min hin]; exact hm, hob.mono (fun _ h => h) (fun _ _ => rfl) (sh2 _ hle) (Nat.le_refl _) fun b hb => ⟨(hN.conc.lt ⟨k, o, C, hk', by rw [hm, hb]⟩).2, rfl⟩⟩
    · obtain ⟨ob, C, hm, hob⟩ := (hD.conc i hi).at_ k o hk'
      refine ⟨ob, C, by rw [mout hout]; exact hm, hob.mono hN.subA hkeepA (sh1 _) hN.moved.size fun b hb => ?_⟩
      have hl := (hD.conc i hi).lt ⟨k, o, C, hk', by rw [hm, hb]⟩
      refine ⟨fun hb' => ?_, hN.block hl.1⟩
      rcases hN.sub b hb' with g | g
      · exact hl.2 g
      · omega
  · rcases back _ k o hk with ⟨g, q⟩ | ⟨g, q⟩ <;> rcases back _ k' o' hk' with ⟨g', q'⟩ | ⟨g', q'⟩
    · rw [min g] at hm
      rw [min g'] at hm'
      exact hN.conc.inj k k' o o' b C C' q q' hm hm'
    · rw [min g] at hm
      rw [mout g'] at hm'
      have h1 := hfresh k o b C g q hm
      have h2 := ((hD.conc i hi).lt ⟨k', o', C', q', hm'⟩).1
      omega
    · rw [mout g] at hm
      rw [min g'] at hm'
      have h1 := hfresh k' o' b C' g' q' hm'
      have h2 := ((hD.conc i hi).lt ⟨k, o, C, q, hm⟩).1
      omega
    · rw [mout g] at hm
      rw [mout g'] at hm'
      exact (hD.conc i hi).inj k k' o o' b C C' q q' hm hm'
  · rcases back _ k o hk with ⟨g, q⟩ | ⟨g, q⟩
    · rw [min g] at hm
      exact .inr (Nat.le_trans hD.moved.size (hfresh k o b C g q hm))
    · rw [mout g] at hm
      exact hD.own b ⟨k, o, C, q, hm⟩
  · by_cases e : i = j
    · subst e
      rw [hdi, look_put (fun t ht => by cases ht; exact hdst d hdi) hD.sz, if_pos rfl]
      exact hr.mono (fun _ h => h) (fun _ _ => rfl) (sh2 _ (Nat.le_refl _))
    · have hEi := hEi.resolve_right e
      have := (hD.val i d hi hEi hdi).mono hN.subA hkeepA (sh1 _)
      rw [look_put hdst hD.sz, if_neg (huniq i d hi e hdi)]
      exact this
  · have := (hD.old t fun i hi hEi => ht i hi (.inl hEi)).mono hN.subA hkeepA (sh1 _)
    rw [look_put hdst hD.sz, if_neg (ht j hj (.inr rfl))]
    exact this

end lex
end Go.Ab
