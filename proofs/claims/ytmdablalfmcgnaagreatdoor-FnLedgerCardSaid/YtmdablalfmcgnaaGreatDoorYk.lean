/- What is undone leaves the state before it; changes lead from one state to another: the plain law. No condition.; Contracts: ledgers, records and states that are drawn for FnLedger.; The law FnLedger. -/
import Derived.Test.YtmdablalfmcgnaaGreatDoorHg
import Derived.Test.YtmdablalfmcgnaaGreatDoorSg
import Derived.Test.YtmdablalfmcgnaaGreatDoorYd
import Derived.Test.YtmdablalfmcgnaaGreatDoorYf
-- from Yi
namespace Go.Proofs.YtmdablalfmcgnaaGreatDoor
open Go Go.Ab
set_option maxRecDepth 100000

theorem keysOk_app {P Q : List Pair} (h : keysOk (P ++ Q)) : ∀ x ∈ P, ∀ y ∈ Q, x.key < y.key := fun x hx y hy => (List.pairwise_append.1 (keysOk_pw.1 h)).2.2 x hx y hy
theorem cut_at {P Q : List Pair} {k : List UInt8} (h : keysOk (P ++ Q)) (hP : ∀ x ∈ P, x.key < k) (hQ : ∀ x ∈ Q, ¬ x.key < k) : keyCut (P ++ Q) k = P.length := by
  have hle := keyCut_le (P ++ Q) k
  rcases Nat.lt_trichotomy (keyCut (P ++ Q) k) P.length with hlt | e | hlt
  · exfalso
    have hl : keyCut (P ++ Q) k < (P ++ Q).length := by rw [List.length_append]; omega
    have hk : (P ++ Q)[keyCut (P ++ Q) k].key < k := by
      rw [List.getElem_append_left hlt]
      exact hP _ (List.getElem_mem hlt)
    cases hf : keyIn (P ++ Q) k with
    | true =>
      obtain ⟨_, he⟩ := keyIn_at hf
      rw [he] at hk
      exact lt_irr _ hk
    | false =>
      have := cut_after h k hl (by unfold keyEnd; rw [hf]; simp)
      exact lt_irr _ (lt_tr hk this)
  · exact e
  · exfalso
    have hl : P.length < (P ++ Q).length := by omega
    have h1 := cut_before h k hl hlt
    have h2 : 0 < Q.length := by rw [List.length_append] at hl; omega
    rw [List.getElem_append_right (Nat.le_refl _)] at h1
    exact hQ _ (List.getElem_mem _) h1
theorem step_new {P Q : List Pair} {r : Record} (h : keysOk (P ++ Q)) (hP : ∀ x ∈ P, x.key < r.key) (hQ : ∀ x ∈ Q, r.key < x.key) : stepK (P ++ Q) r = P ++ (insK r ++ Q) := by
  have hc := cut_at h hP fun x hx hlt => lt_irr _ (lt_tr hlt (hQ x hx))
  have hf : keyIn (P ++ Q) r.key = false := by
    cases hf : keyIn (P ++ Q) r.key with
    | false => rfl
    | true =>
      obtain ⟨hl, he⟩ := keyIn_at hf
      exfalso
      have : (P ++ Q)[keyCut (P ++ Q) r.key] ∈ P ++ Q := List.getElem_mem hl
      rcases List.mem_append.1 this with g | g
      · have := hP _ g; rw [he] at this; exact lt_irr _ this
      · have := hQ _ g; rw [he] at this; exact lt_irr _ this
  unfold stepK keyEnd
  rw [hf, hc]
  simp [insK]
theorem step_old {P Q : List Pair} {x : Pair} {r : Record} (h : keysOk (P ++ x :: Q)) (hx : x.key = r.key) : stepK (P ++ x :: Q) r = P ++ (insK r ++ Q) := by
  have h1 := keysOk_app h
  have hP : ∀ y ∈ P, y.key < r.key := fun y hy => by rw [← hx]; exact h1 y hy x (by simp)
  have h2 := (List.pairwise_cons.1 (List.pairwise_append.1 (keysOk_pw.1 h)).2.1).1
  have hc := cut_at h hP fun y hy hlt => by
    rcases List.mem_cons.1 hy with rfl | hy
    · rw [hx] at hlt; exact lt_irr _ hlt
    · have := h2 y hy; rw [hx] at this; exact lt_irr _ (lt_tr hlt this)
  have hf : keyIn (P ++ x :: Q) r.key = true := by
    cases hf : keyIn (P ++ x :: Q) r.key with
    | true => rfl
    | false =>
      have hl : P.length < (P ++ x :: Q).length := by simp
      have := keyIn_not h hf hl
      exact absurd (by rw [List.getElem_append_right (Nat.le_refl _)]; simpa using hx) this
  unfold stepK keyEnd
  rw [hf, hc]
  have e : P ++ x :: Q = (P ++ [x]) ++ Q := by simp
  rw [if_pos rfl, List.take_left' rfl, e, show P.length + 1 = (P ++ [x]).length by simp, List.drop_left' rfl]
  simp [insK]

/-- Records that may follow one on another from a state, none of them taking back. -/
def okL : List Pair → List Record → Prop
  | _, [] => True
  | S, r :: L => validRecord r = true ∧ (r.kind = 1 ∨ r.kind = 2 ∧ ∃ x ∈ S, x.key = r.key) ∧ okL (stepK S r) L
theorem okL_app : ∀ {L M : List Record} {S : List Pair}, okL S (L ++ M) ↔ okL S L ∧ okL (L.foldl stepK S) M
  | [], _, _ => by simp [okL]
  | r :: L, M, S => by simp [okL, okL_app (L := L), and_assoc]
def stFine (S : List Pair) : Prop := keysOk S ∧ ∀ x ∈ S, isName x.key = true ∧ isRemark x.text = true
theorem chg_runs : ∀ (n : Nat) (P a b : List Pair), a.length + b.length ≤ n → keysOk (P ++ a) → keysOk (P ++ b) → (∀ x ∈ a, isName x.key = true ∧ isRemark x.text = true) → (∀ x ∈ b, isName x.key = true ∧ isRemark x.text = true) →
    okL (P ++ a) (chg a b) ∧ (chg a b).foldl stepK (P ++ a) = P ++ b
  | _, P, [], [], _, _, _, _, _ => by simp [chg, okL]
  | 0, _, _ :: _, _, h, _, _, _, _ => by simp at h
  | 0, _, _, _ :: _, h, _, _, _, _ => by simp at h
  | n + 1, P, x :: a, [], hn, ha, hb, fa, fb => by
    have e : stepK (P ++ x :: a) (recDrop x.key) = P ++ a := by rw [step_old ha rfl]; simp [insK, recDrop]
    have ha' : keysOk (P ++ a) := keysOk_pw.2 ((keysOk_pw.1 ha).sublist (by simp))
    obtain ⟨h1, h2⟩ := chg_runs n P a [] (by simp at hn ⊢; omega) ha' hb (fun y hy => fa y (by simp [hy])) fb
    simp only [chg, okL, List.foldl_cons, e]
    exact ⟨⟨by simp [validRecord, recDrop, (fa x (by simp)).1], .inr ⟨rfl, x, by simp, rfl⟩, h1⟩, h2⟩
  | n + 1, P, [], y :: b, hn, ha, hb, fa, fb => by
    have hP := fun z hz => keysOk_app hb z hz y (by simp)
    have e : stepK (P ++ []) (recSet y.key y.text) = (P ++ [y]) ++ [] := by rw [step_new ha hP (by simp)]; simp [insK, recSet]
    have hb' : keysOk ((P ++ [y]) ++ b) := by simpa using hb
    have ha' : keysOk ((P ++ [y]) ++ []) := keysOk_pw.2 ((keysOk_pw.1 hb).sublist (by simp))
    obtain ⟨h1, h2⟩ := chg_runs n (P ++ [y]) [] b (by simp at hn ⊢; omega) ha' hb' fa (fun z hz => fb z (by simp [hz]))
    simp only [chg, okL, List.foldl_cons, e]
    refine ⟨⟨by simp [validRecord, recSet, fb y (by simp)], .inl rfl, h1⟩, by rw [h2]; simp⟩
  | n + 1, P, x :: a, y :: b, hn, ha, hb, fa, fb => by
    have hPx := fun z hz => keysOk_app ha z hz x (by simp)
    have hPy := fun z hz => keysOk_app hb z hz y (by simp)
    have hax := (List.pairwise_cons.1 (List.pairwise_append.1 (keysOk_pw.1 ha)).2.1).1
    have hby := (List.pairwise_cons.1 (List.pairwise_append.1 (keysOk_pw.1 hb)).2.1).1
    have ha' : keysOk (P ++ a) := keysOk_pw.2 ((keysOk_pw.1 ha).sublist (by simp))
    have hb' : keysOk ((P ++ [y]) ++ b) := by simpa using hb
    rw [chg]
    by_cases h1 : x.key < y.key
    · rw [if_pos h1]
      have e : stepK (P ++ x :: a) (recDrop x.key) = P ++ a := by rw [step_old ha rfl]; simp [insK, recDrop]
      obtain ⟨g1, g2⟩ := chg_runs n P a (y :: b) (by simp at hn ⊢; omega) ha' hb (fun z hz => fa z (by simp [hz])) fb
      simp only [okL, List.foldl_cons, e]
      exact ⟨⟨by simp [validRecord, recDrop, (fa x (by simp)).1], .inr ⟨rfl, x, by simp, rfl⟩, g1⟩, g2⟩
    rw [if_neg h1]
    by_cases h2 : y.key < x.key
    · rw [if_pos h2]
      have hQ : ∀ z ∈ x :: a, y.key < z.key := fun z hz => by
        rcases List.mem_cons.1 hz with rfl | hz
        · exact h2
        · exact lt_tr h2 (hax z hz)
      have e : stepK (P ++ x :: a) (recSet y.key y.text) = (P ++ [y]) ++ x :: a := by rw [step_new ha hPy hQ]; simp [insK, recSet]
      have hk : keysOk ((P ++ [y]) ++ x :: a) := by
        rw [keysOk_pw, List.append_assoc, List.pairwise_append]
        refine ⟨(List.pairwise_append.1 (keysOk_pw.1 ha)).1, ?_, fun u hu v hv => ?_⟩
        · rw [List.singleton_append, List.pairwise_cons]
          exact ⟨hQ, (List.pairwise_append.1 (keysOk_pw.1 ha)).2.1⟩
        · rcases List.mem_append.1 hv with hv | hv
          · rw [List.mem_singleton] at hv; subst hv; exact hPy u hu
          · exact keysOk_app ha u hu v hv
      obtain ⟨g1, g2⟩ := chg_runs n (P ++ [y]) (x :: a) b (by simp at hn ⊢; omega) hk hb' fa (fun z hz => fb z (by simp [hz]))
      simp only [okL, List.foldl_cons, e]
      exact ⟨⟨by simp [validRecord, recSet, fb y (by simp)], .inl rfl, g1⟩, by rw [g2]; simp⟩
    rw [if_neg h2]
    have hxy : x.key = y.key := by
      rcases lt_tri x.key y.key with h | h | h
      · exact absurd h h1
      · exact h
      · exact absurd h h2
    have hk : keysOk ((P ++ [y]) ++ a) := by
      rw [keysOk_pw, List.append_assoc, List.pairwise_append]
      refine ⟨(List.pairwise_append.1 (keysOk_pw.1 ha)).1, ?_, fun u hu v hv => ?_⟩
      · rw [List.singleton_append, List.pairwise_cons]
        exact ⟨fun z hz => by rw [← hxy]; exact hax z hz, (List.pairwise_cons.1 (List.pairwise_append.1 (keysOk_pw.1 ha)).2.1).2⟩
      · rcases List.mem_append.1 hv with hv | hv
        · rw [List.mem_singleton] at hv; subst hv; exact hPy u hu
        · exact keysOk_app ha u hu v (by simp [hv])
    obtain ⟨g1, g2⟩ := chg_runs n (P ++ [y]) a b (by simp at hn ⊢; omega) hk hb' (fun z hz => fa z (by simp [hz])) (fun z hz => fb z (by simp [hz]))
    by_cases h3 : x.text = y.text
    · rw [if_pos h3, List.nil_append]
      have e : x = y := by cases x; cases y; simp_all
      subst e
      rw [show P ++ x :: a = (P ++ [x]) ++ a by simp]
      exact ⟨g1, by rw [g2]; simp⟩
    · rw [if_neg h3]
      have e : stepK (P ++ x :: a) (recSet y.key y.text) = (P ++ [y]) ++ a := by rw [step_old ha hxy]; simp [insK, recSet]
      simp only [List.singleton_append, okL, List.foldl_cons, e]
      exact ⟨⟨by simp [validRecord, recSet, fb y (by simp)], .inl rfl, g1⟩, by rw [g2]; simp⟩

theorem act_all {L : List Record} (h : ∀ r ∈ L, r.kind ≠ 3) : ∀ i, i ≤ L.length → act L i = some ((List.range i).map Int.ofNat)
  | 0, _ => rfl
  | i + 1, hi => by
    have hk : (recAt L i).kind ≠ 3 := by rw [recAt_eq (by omega)]; exact h _ (List.getElem_mem _)
    rw [act_some (act_all h i (by omega)), if_pos hk, List.range_succ, List.map_append]
    rfl
theorem stateF_all {L : List Record} : ∀ i, i ≤ L.length → stateF L ((List.range i).map Int.ofNat) = (L.take i).foldl stepK []
  | 0, _ => rfl
  | i + 1, hi => by
    have ih := stateF_all (L := L) i (by omega)
    unfold stateF at ih ⊢
    rw [List.range_succ, List.map_append, List.foldl_append, ih, ← List.take_append_getElem (show i < L.length by omega), List.foldl_append]
    simp [recAt_eq (show i < L.length by omega)]
theorem okL_kind : ∀ {L : List Record} {S : List Pair}, okL S L → ∀ r ∈ L, r.kind ≠ 3
  | r :: L, S, h, q, hq => by
    obtain ⟨_, h2, h3⟩ := h
    rcases List.mem_cons.1 hq with rfl | hq
    · rcases h2 with h2 | h2
      · omega
      · have := h2.1; omega
    · exact okL_kind h3 q hq
theorem okL_at : ∀ {L : List Record} {S : List Pair}, okL S L → ∀ i (hi : i < L.length), validRecord L[i] = true ∧ (L[i].kind = 1 ∨ L[i].kind = 2 ∧ ∃ x ∈ (L.take i).foldl stepK S, x.key = L[i].key)
  | r :: L, S, h, 0, hi => ⟨h.1, by simpa using h.2.1⟩
  | r :: L, S, h, i + 1, hi => by simpa using okL_at h.2.2 i (by simpa using hi)
theorem okL_ledger {L : List Record} (h : okL [] L) (hl : L.length ≤ 32) : ledgerOk L = true := by
  refine ledgerOk_iff.2 ⟨hl, fun i hi => ?_⟩
  obtain ⟨h1, h2⟩ := okL_at h i hi
  rw [recAt_eq hi]
  refine ⟨h1, ?_⟩
  unfold nextOk
  rw [act_all (okL_kind h) i (by omega)]
  have h3 := okL_kind h _ (List.getElem_mem hi)
  simp only [if_neg h3]
  rw [stateF_all i (by omega)]
  rcases h2 with h2 | ⟨h2, x, hx, he⟩
  · rw [if_pos h2]
  · rw [if_neg (by omega), List.any_eq_true]
    exact ⟨x, hx, by simpa using he⟩
theorem okL_state {L : List Record} (h : okL [] L) (hl : L.length ≤ 32) : stCode L L.length = 0 ∧ stL L L.length = L.foldl stepK [] := by
  have hc : stCode L L.length = 0 := by
    unfold stCode
    rw [if_pos (okL_ledger h hl), if_pos ⟨by omega, by omega⟩]
  refine ⟨hc, ?_⟩
  unfold stL
  rw [if_pos hc, Int.toNat_natCast, actL_some (act_all (okL_kind h) _ (Nat.le_refl _)), stateF_all _ (Nat.le_refl _), List.take_length]

theorem chg_lenL : ∀ (n : Nat) (a b : List Pair), a.length + b.length ≤ n → (chg a b).length ≤ a.length + b.length
  | _, [], [], _ => by simp [chg]
  | 0, _ :: _, _, h => by simp at h
  | 0, _, _ :: _, h => by simp at h
  | n + 1, x :: a, [], h => by
    have := chg_lenL n a [] (by simp at h ⊢; omega)
    simp [chg] at this ⊢
    omega
  | n + 1, [], y :: b, h => by
    have := chg_lenL n [] b (by simp at h ⊢; omega)
    simp [chg] at this ⊢
    omega
  | n + 1, x :: a, y :: b, h => by
    simp only [List.length_cons] at h
    have h1 := chg_lenL n a (y :: b) (by simp; omega)
    have h2 := chg_lenL n (x :: a) b (by simp; omega)
    have h3 := chg_lenL n a b (by omega)
    rw [chg]
    simp only [List.length_cons] at h1 h2 ⊢
    split
    · simp; omega
    · split
      · simp; omega
      · split <;> simp <;> omega
/-- From nothing to a, from a to b: the whole leads to b. -/
theorem chg_leads {a b : List Pair} (ha : stFine a) (hb : stFine b) (hl : 2 * a.length + b.length ≤ 32) :
    ledgerOk (chg [] a ++ chg a b) = true ∧ stCode (chg [] a ++ chg a b) (chg [] a ++ chg a b).length = 0 ∧ stL (chg [] a ++ chg a b) (chg [] a ++ chg a b).length = b := by
  obtain ⟨h1, h2⟩ := chg_runs a.length [] [] a (by simp) (keysOk_pw.2 (by simp)) ha.1 (by simp) ha.2
  obtain ⟨h3, h4⟩ := chg_runs (a.length + b.length) [] a b (Nat.le_refl _) ha.1 hb.1 ha.2 hb.2
  simp only [List.nil_append] at h1 h2 h3 h4
  have l1 := chg_lenL a.length [] a (by simp)
  have l2 := chg_lenL (a.length + b.length) a b (Nat.le_refl _)
  have hle : (chg [] a ++ chg a b).length ≤ 32 := by rw [List.length_append]; simp at l1; omega
  have hok : okL [] (chg [] a ++ chg a b) := okL_app.2 ⟨h1, by rw [h2]; exact h3⟩
  obtain ⟨g1, g2⟩ := okL_state hok hle
  exact ⟨okL_ledger hok hle, g1, by rw [g2, List.foldl_append, h2, h4]⟩

/-! ### A record that is undone -/
theorem act_left {l m : List Record} {i : Nat} (h : i ≤ l.length) : act (l ++ m) i = act l i := by
  have := act_take (l := l ++ m) (i := i) (k := l.length) h
  rwa [List.take_left' rfl, eq_comm] at this
theorem stateF_left {l m : List Record} {S : List Int} (h : ∀ k ∈ S, 0 ≤ k ∧ k < l.length) : stateF (l ++ m) S = stateF l S := by
  unfold stateF
  suffices ∀ (S : List Int) (T : List Pair), (∀ k ∈ S, 0 ≤ k ∧ k < l.length) → S.foldl (fun st k => stepK st (recAt (l ++ m) k.toNat)) T = S.foldl (fun st k => stepK st (recAt l k.toNat)) T from this S [] h
  intro S
  induction S with
  | nil => intro T _; rfl
  | cons k S ih =>
    intro T h
    have hk := h k (by simp)
    rw [List.foldl_cons, List.foldl_cons, ih _ fun q hq => h q (by simp [hq])]
    congr 2
    unfold recAt
    rw [List.getD_eq_getElem?_getD, List.getD_eq_getElem?_getD, List.getElem?_append_left (by omega)]
theorem recAt_new (l : List Record) (r : Record) (m : List Record) : recAt (l ++ r :: m) l.length = r := by simp [recAt]
theorem nextOk_left {l m : List Record} {i : Nat} {r : Record} (h : i ≤ l.length) : nextOk (l ++ m) i r = nextOk l i r := by
  unfold nextOk
  rw [act_left h]
  cases ha : act l i with
  | none => rfl
  | some S =>
    simp only
    rw [stateF_left fun k hk => by have := act_mem ha k hk; omega]
theorem add_facts {l : List Record} {r : Record} (h : arCode l r = 0) : ledgerOk l = true ∧ validRecord r = true ∧ nextOk l l.length r = true ∧ l.length ≠ 32 := by
  unfold arCode at h
  split at h
  · split at h
    · split at h
      · split at h
        · cases h
        · exact ⟨by assumption, by assumption, by assumption, by assumption⟩
      · cases h
    · cases h
  · cases h
theorem add_good {l : List Record} {r : Record} (h : arCode l r = 0) : ledgerOk (l ++ [r]) = true ∧ arL l r = l ++ [r] := by
  obtain ⟨h1, h2, h3, h4⟩ := add_facts h
  obtain ⟨g1, g2⟩ := ledgerOk_iff.1 h1
  refine ⟨ledgerOk_iff.2 ⟨by simp; omega, fun i hi => ?_⟩, by unfold arL; rw [if_pos h]⟩
  rw [List.length_append, List.length_singleton] at hi
  rw [nextOk_left (by omega)]
  by_cases e : i = l.length
  · subst e
    rw [recAt_new]
    exact ⟨h2, h3⟩
  · have hil : i < l.length := by omega
    have := g2 i hil
    rw [show recAt (l ++ [r]) i = recAt l i by simp [recAt, List.getElem?_append_left hil, hil]]
    exact this
def recUndo : Record := ⟨3, [], []⟩
/-- What is undone leaves the state before it. -/
theorem undo_back {l : List Record} {r : Record} (h : arCode l r = 0) (hk : r.kind ≠ 3) (hl : l.length < 31) :
    arCode (l ++ [r]) recUndo = 0 ∧ stCode l l.length = 0 ∧ stCode (l ++ [r] ++ [recUndo]) (l.length + 2) = 0 ∧ stL (l ++ [r] ++ [recUndo]) (l.length + 2) = stL l l.length := by
  obtain ⟨h1, h2, h3, h4⟩ := add_facts h
  obtain ⟨g1, _⟩ := add_good h
  obtain ⟨S, hS⟩ : ∃ S, act l l.length = some S := by
    cases ha : act l l.length with
    | some S => exact ⟨S, rfl⟩
    | none => unfold nextOk at h3; rw [ha] at h3; cases h3
  have a1 : act (l ++ [r]) (l.length + 1) = some (S ++ [(l.length : Int)]) := by
    rw [act_some (by rw [act_left (Nat.le_refl _)]; exact hS), if_pos (by rw [recAt_new]; exact hk)]
  have hn : nextOk (l ++ [r]) (l ++ [r]).length recUndo = true := by
    unfold nextOk
    rw [show (l ++ [r]).length = l.length + 1 by simp, a1]
    simp [recUndo]
  have hA : arCode (l ++ [r]) recUndo = 0 := by
    unfold arCode
    rw [if_pos g1, if_pos (by decide), if_pos hn, if_neg (by simp; omega)]
  obtain ⟨g2, _⟩ := add_good hA
  have hC : stCode (l ++ [r] ++ [recUndo]) (l.length + 2) = 0 := by
    unfold stCode
    rw [if_pos g2, if_pos ⟨by omega, by simp⟩]
  have hC0 : stCode l l.length = 0 := by
    unfold stCode
    rw [if_pos h1, if_pos ⟨by omega, by omega⟩]
  refine ⟨hA, hC0, hC, ?_⟩
  have a2 : act (l ++ [r] ++ [recUndo]) (l.length + 1 + 1) = some S := by
    rw [act_some (S := S ++ [(l.length : Int)]) (by rw [act_left (by simp)]; exact a1)]
    have e := recAt_new (l ++ [r]) recUndo []
    rw [show (l ++ [r]).length = l.length + 1 by simp] at e
    rw [e]
    simp [recUndo]
  have e2 : ((l.length : Int) + 2).toNat = l.length + 1 + 1 := by omega
  unfold stL
  rw [if_pos hC, if_pos hC0, e2, actL_some a2, Int.toNat_natCast, actL_some hS, List.append_assoc]
  exact stateF_left fun k hk => by have := act_mem hS k hk; omega
end Go.Proofs.YtmdablalfmcgnaaGreatDoor
-- from Yj
namespace Go.Proofs.YtmdablalfmcgnaaGreatDoor
open Go Go.Ab
set_option maxRecDepth 100000

def recShort (r : Record) : Prop := r.key.length ≤ 70 ∧ r.text.length ≤ 70 ∧ 0 ≤ r.kind ∧ r.kind ≤ 9
theorem c_DrawAddRecord (code : List Int) (hc : ∀ c ∈ code, 0 ≤ c ∧ c < 256) (hl : code.length ≤ 9223372036854775807) : GFn Tryz.prog 7 [.sl 1 (byteRows code)] [] [] (fun x : List Record × Record => x.1.length ≤ 33 ∧ (∀ r ∈ x.1, recShort r) ∧ recShort x.2) (fun x => .tup [.sf 0 3, .agg x.2.cells]) (fun x => [some (.arr 3 (Record.rows x.1))]) := by
  have h0 : (Src.mk code 0 0).ok 0 := ⟨hc, hl, by simp, by simp, by simp⟩
  refine gfn_intro [] hm Tryz.func7 (by kernel_rfl) rfl (by kernel_rfl) rfl (by simp) (by simp) ?_
  simp
  refine CallZ.useM [] [] [] (c_l00From code) (by simp) rfl rfl (by simp) rfl rfl rfl (.inl rfl) ?_
  simp
  refine CallZ.useG [1] [] [] (c_l30Draw h0 (by omega)) (by simp) rfl (by simp) rfl (fun x _ => ⟨rfl, rfl, rfl, .inl rfl⟩) (fun x hx => ?_)
  obtain ⟨L, s1⟩ := x
  obtain ⟨i1, i2, i3⟩ := hx
  simp only at i1 i2 i3 ⊢
  simp
  refine CallZ.useG [1] [] [] (c_l30DrawOne i1 (by omega)) (by simp) rfl (by simp) rfl (fun x _ => ⟨rfl, rfl, rfl, .inl rfl⟩) (fun x hx => ?_)
  obtain ⟨r, s2⟩ := x
  obtain ⟨⟨x1, x2⟩, _⟩ := hx
  simp only at x1 x2 ⊢
  simp [Record.cells]
  have kB := c_l30Bend x1 (by omega) r x2
  simp only [Record.cells] at kB
  refine CallZ.useG [1] [] [] kB (by simp) rfl (by simp) rfl (fun x _ => ⟨rfl, rfl, rfl, .inl rfl⟩) (fun x hx => ?_)
  obtain ⟨r', s3⟩ := x
  obtain ⟨y1, y2⟩ := hx
  simp only at y1 y2 ⊢
  simp
  refine ⟨(L, r'), ⟨i2, i3, y2⟩, Wk.weak (ρ := [2]) (φ := []) ?_⟩
  simp

def pairShort (x : Pair) : Prop := x.key.length ≤ 70 ∧ x.text.length ≤ 70
theorem stepK_short {S : List Pair} {r : Record} (hS : ∀ x ∈ S, pairShort x) (hr : r.key.length ≤ 70 ∧ r.text.length ≤ 70) : ∀ x ∈ stepK S r, pairShort x := fun x hx => by
  unfold stepK at hx
  rcases List.mem_append.1 hx with h | h
  · exact hS x (List.mem_of_mem_take h)
  rcases List.mem_append.1 h with h | h
  · split at h
    · cases h
    · rw [List.mem_singleton] at h
      subst h
      exact hr
  · exact hS x (List.mem_of_mem_drop h)
theorem stateF_short {l : List Record} (hl : ∀ r ∈ l, recShort r) (S : List Int) : ∀ x ∈ stateF l S, pairShort x := by
  unfold stateF
  suffices ∀ (S : List Int) (T : List Pair), (∀ x ∈ T, pairShort x) → ∀ x ∈ S.foldl (fun st k => stepK st (recAt l k.toNat)) T, pairShort x from this S [] (by simp)
  intro S
  induction S with
  | nil => intro T h; exact h
  | cons k S ih =>
    intro T h
    refine ih _ (stepK_short h ?_)
    unfold recAt
    rw [List.getD_eq_getElem?_getD]
    cases hg : l[k.toNat]? with
    | none => simp
    | some r => have := hl r (List.mem_of_getElem? hg); exact ⟨this.1, this.2.1⟩
theorem stateF_small (l : List Record) (n : Nat) : (stateF l (actL l n)).length ≤ n := by
  refine Nat.le_trans (stateF_ok l _).2 ?_
  unfold actL
  cases h : act l n with
  | none => simp
  | some S => exact act_len h

set_option maxHeartbeats 4000000 in
theorem c_DrawChangesBetween (code : List Int) (hc : ∀ c ∈ code, 0 ≤ c ∧ c < 256) (hl : code.length ≤ 9223372036854775807) : GFn Tryz.prog 16 [.sl 1 (byteRows code)] [] [] (fun x : List Pair × List Pair => x.1.length ≤ 10 ∧ x.2.length ≤ 10 ∧ (∀ y ∈ x.1, pairShort y) ∧ ∀ y ∈ x.2, pairShort y) (fun _x => .tup [.sf 0 2, .sf 1 2]) (fun x => [some (.arr 2 (Pair.rows x.1)), some (.arr 2 (Pair.rows x.2))]) := by
  have h0 : (Src.mk code 0 0).ok 0 := ⟨hc, hl, by simp, by simp, by simp⟩
  refine gfn_intro [] hm Tryz.func16 (by kernel_rfl) rfl (by kernel_rfl) rfl (by simp) (by simp) ?_
  simp
  refine CallZ.useM [] [] [] (c_l00From code) (by simp) rfl rfl (by simp) rfl rfl rfl (.inl rfl) ?_
  simp
  refine CallZ.useG [0] [] [] (c_l30DrawOk h0 (by omega)) (by simp) rfl (by simp) rfl (fun x _ => ⟨rfl, rfl, rfl, .inl rfl⟩) (fun x hx => ?_)
  obtain ⟨X, s1⟩ := x
  obtain ⟨⟨i1, i2, i3⟩, _⟩ := hx
  simp only at i1 i2 i3 ⊢
  simp
  refine CallZ.useG [0] [] [] (c_l30DrawOk i1 (by omega)) (by simp) rfl (by simp) rfl (fun x _ => ⟨rfl, rfl, rfl, .inl rfl⟩) (fun x hx => ?_)
  obtain ⟨Y, s2⟩ := x
  obtain ⟨⟨j1, j2, j3⟩, _⟩ := hx
  simp only at j1 j2 j3 ⊢
  simp [Record.rows_len]
  refine CallZ.use (c_l30State X X.length (Nat.le_refl _) (by omega)) rfl (.inr ⟨Pair.flat _, trivial⟩) rfl rfl ?_
  simp [Record.rows_len]
  refine CallZ.use (c_l30State Y Y.length (Nat.le_refl _) (by omega)) rfl (.inr ⟨Pair.flat _, trivial⟩) rfl rfl ?_
  have sa := stateF_short (fun r hr => i3 r hr) (actL X X.length)
  have sb := stateF_short (fun r hr => j3 r hr) (actL Y Y.length)
  have la := stateF_small X X.length
  have lb := stateF_small Y Y.length
  generalize stateF X (actL X X.length) = a at *
  generalize stateF Y (actL Y Y.length) = b at *
  have k1 := c_pick j1 (by omega) 10
  obtain ⟨p1, q1, h1⟩ := j1.pick (by omega) 10
  generalize s2.pick 10 = u at k1 p1 q1 h1
  simp
  refine CallZ.useM [0] [] [] k1 (by simp) rfl rfl (by simp) rfl rfl rfl (.inl rfl) ?_
  simp
  refine ⟨fun g0 => ?_, fun g0 => ⟨fun g1 => ?_, fun g1 => ?_⟩⟩
  · have k2 := c_textS h1 (by omega) [[97], [65], [122, 122]] (by simp) (by simp)
    have m2 := Src.text_mem h1 (by omega) (l := [[97], [65], [122, 122]]) (by simp)
    generalize u.2.text [[97], [65], [122, 122]] = v at k2 m2
    refine CallZ.useM [0, 5] [] [] k2 (by simp [strRows]) rfl rfl (by simp) rfl rfl rfl (.inl rfl) ?_
    have m3 : v.1.length ≤ 2 := by
      simp at m2
      rcases m2 with e | e | e <;> simp [e]
    simp [Pair.rows_len]
    have hR : Pair.rows a ++ [[.str v.1, .str []]] = Pair.rows (a ++ [⟨v.1, []⟩]) := by simp [Pair.rows, Pair.cells]
    rw [hR]
    refine ⟨by simp [rowsOne], by omega, by omega, (a ++ [⟨v.1, []⟩], b), ⟨by simp; omega, by simp only; omega, fun y hy => ?_, sb⟩, Wk.weak (ρ := [3, 4]) (φ := []) ?_⟩
    · rcases List.mem_append.1 hy with hy | hy
      · exact sa y hy
      · rw [List.mem_singleton] at hy
        subst hy
        exact ⟨by simp only; omega, by simp⟩
    · simp
  · have k2 := c_textS h1 (by omega) [[10], [111, 107]] (by simp) (by simp)
    have m2 := Src.text_mem h1 (by omega) (l := [[10], [111, 107]]) (by simp)
    generalize u.2.text [[10], [111, 107]] = v at k2 m2
    refine CallZ.useM [0, 5] [] [] k2 (by simp [strRows]) rfl rfl (by simp) rfl rfl rfl (.inl rfl) ?_
    have m3 : v.1.length ≤ 2 := by
      simp at m2
      rcases m2 with e | e <;> simp [e]
    simp [Pair.rows_len]
    have hR : Pair.rows b ++ [[.str [122, 122], .str v.1]] = Pair.rows (b ++ [⟨[122, 122], v.1⟩]) := by simp [Pair.rows, Pair.cells]
    rw [hR]
    refine ⟨by simp [rowsOne], by omega, by omega, (a, b ++ [⟨[122, 122], v.1⟩]), ⟨by simp only; omega, by simp; omega, sa, fun y hy => ?_⟩, Wk.weak (ρ := [3, 4]) (φ := []) ?_⟩
    · rcases List.mem_append.1 hy with hy | hy
      · exact sb y hy
      · rw [List.mem_singleton] at hy
        subst hy
        exact ⟨by simp, by simp only; omega⟩
    · simp
  · refine ⟨(a, b), ⟨by simp only; omega, by simp only; omega, sa, sb⟩, Wk.weak (ρ := [3, 4]) (φ := []) ?_⟩
    simp
end Go.Proofs.YtmdablalfmcgnaaGreatDoor
-- from Yk
namespace Go.Ab
theorem HFn.less {P : Program} {f : FuncId} {args : List PV} {Hin Hout Hout' : Heap} {res res' : PV} (hf : HFn P f args Hin res Hout) (hw : Weak ⟨[(0, res)], Hout⟩ ⟨[(0, res')], Hout'⟩) : HFn P f args Hin res' Hout' := fun A m w vs hA hC hs ha => by
  refine (hf A m w vs hA hC hs ha).mono fun e w' ⟨v, A', m', he, hc⟩ => ?_
  have hI : Inv ⟨w, A, OwnB m (getO Hin), fun _ => undef⟩ 1 ⟨[(0, res)], Hout⟩ { tmps := #[v], defers := [] } w' A' m' := ⟨hc.moved, hc.sub, hc.aok, hc.conc, hc.own, fun t => by
    cases t with
    | zero => exact hc.rep
    | succ t => exact .imm (.top _), rfl, rfl⟩
  obtain ⟨A'', m'', hI2⟩ := hw _ _ _ _ _ _ hI
  exact ⟨v, A'', m'', he, ⟨hI2.moved, hI2.sub, hI2.aok, hI2.conc, hI2.own, hI2.fr 0⟩⟩
theorem HFn.nilArg {P : Program} {f : FuncId} {r : List PV} {Hout : Heap} {res : PV} {z : Nat} (hf : HFn P f (.sl z [] :: r) [] res Hout) : HFn P f (.nils :: r) [] res Hout := fun A m w vs hA hC hs ha => by
  refine hf A m w vs hA hC hs fun i p hp => ?_
  cases i with
  | zero =>
    cases hp
    have := ha 0 .nils rfl
    generalize vs.getD 0 undef = v at *
    cases this with
    | imm hi => cases hi with | nils ao => exact .imm (.slE z ao 0)
  | succ i => exact ha (i + 1) p hp
end Go.Ab
namespace Go.Proofs.YtmdablalfmcgnaaGreatDoor
open Go Go.Ab
set_option maxRecDepth 100000

theorem c_SalvageFrozen (s : List UInt8) (hs : s.length ≤ 1048576) : HFn Tryz.prog 14 [.str s] [] (.sl 3 (Record.rows (salvR s).1)) [] :=
  (c_impl_SalvageLedger s hs).less (Wk.weak (ρ := []) (φ := [0]) (by simp))
theorem c_b10Same (a : List Pair) (h : a.length ≤ 1048576) : HFn Tryz.prog 15 [.sl 2 (Pair.rows a), .sl 2 (Pair.rows a)] [] (.bool true) [] := by
  refine hfn_intro hm Tryz.func15 (by kernel_rfl) rfl (by kernel_rfl) rfl ret0_ok ?_
  simp
  refine loop_upto hm a.length (fun i => ⟨[(0, .sl 2 (Pair.rows a)), (1, .sl 2 (Pair.rows a)), (5, .int .i64 i)], []⟩) (fun _ => True) (by kernel_rfl) ?_ trivial (fun i hi _ => ?_) (fun _ => ?_)
  · exact Wk.weak (ρ := []) (φ := []) (by simp)
  · have w1 : IntKind.i64.wrap ((i : Int) + 1) = (i : Int) + 1 := w64 (by omega) (by omega)
    simp [hi, Pair.rows_len, Pair.row_get]
    exact Wk.weak (ρ := []) (φ := []) (by simp [w1])
  · simp [Pair.rows_len]

theorem short_wf {r : Record} (h : recShort r) : r.wf := by
  obtain ⟨h1, h2, h3, h4⟩ := h
  unfold Record.wf
  omega
theorem pair_wf {x : Pair} (h : pairShort x) : x.wf := by
  obtain ⟨h1, h2⟩ := h
  unfold Pair.wf
  omega
theorem load_led {l : List Record} (h : ledgerOk l = true) : loadR (ledT l 65535) = (l, 0) := by
  unfold loadR
  have hs := spl_led h 65535
  have hl : (spl 10 (ledT l 65535)).getLast (spl_ne _ _) = [] := by
    simp only [hs, List.getLast_append_of_ne_nil, List.getLast_singleton, ne_eq, List.cons_ne_nil, not_false_eq_true]
  rw [if_pos hl, salv_led h, if_pos rfl]
theorem state_fine {S : List Pair} (h : stateOk S = true) : stFine S := by
  refine ⟨state_keys h, fun x hx => ?_⟩
  obtain ⟨i, hi, rfl⟩ := List.getElem_of_mem hx
  have := List.all_eq_true.1 h i (List.mem_range.2 hi)
  unfold stAt at this
  rw [List.getElem?_eq_getElem hi] at this
  simp only [Bool.and_eq_true] at this
  exact this.1

set_option maxHeartbeats 4000000 in
theorem c_law_FnLedger (code more : List Int) (hc : ∀ c ∈ code, 0 ≤ c ∧ c < 256) (hm' : ∀ c ∈ more, 0 ≤ c ∧ c < 256) (lc : code.length ≤ 9223372036854775807) (lm : more.length ≤ 9223372036854775807) :
    HFn Tryz.prog 3 [.sl 1 (byteRows code), .sl 1 (byteRows more)] [] (.bool true) [] := by
  refine hfn_intro hm Tryz.func3 (by kernel_rfl) rfl (by kernel_rfl) rfl ret0_ok ?_
  simp
  refine CallZ.use0 (c_b10Long code) rfl rfl ?_
  simp
  refine CallY.use (fun _ => ⟨rfl, c_b10Long more⟩) rfl rfl ?_
  simp
  intro g1 g2
  refine CallZ.useG [] [] [] (c_DrawAddRecord code hc lc) (by simp) rfl (by simp) rfl (fun x _ => ⟨rfl, rfl, rfl, .inl rfl⟩) (fun x hx => ?_)
  obtain ⟨l, r⟩ := x
  obtain ⟨x1, x2, x3⟩ := hx
  simp only at x1 x2 x3 ⊢
  have wl : ∀ x ∈ l, x.wf := fun x hx => short_wf (x2 x hx)
  have wr := short_wf x3
  have kA := c_impl_AddRecord l r (by omega) wl wr
  simp only [Record.cells] at kA
  simp [Record.cells]
  by_cases hA : arCode l r = 0
  rotate_left
  · have hE : arL l r = [] := by unfold arL; rw [if_neg hA]
    rw [hE] at kA
    refine CallZ.use kA rfl (.inr ⟨Record.flat _, trivial⟩) rfl rfl ?_
    simp [hA, Record.rows]
  obtain ⟨hok, hN⟩ := add_good hA
  rw [hN, hA] at kA
  obtain ⟨f1, f2, f3, f4⟩ := add_facts hA
  have l32 := (ledgerOk_iff.1 f1).1
  have xs : ∀ x ∈ l ++ [r], recShort x := fun x hx => by
    rcases List.mem_append.1 hx with hx | hx
    · exact x2 x hx
    · rw [List.mem_singleton] at hx
      subst hx
      exact x3
  have wN : ∀ x ∈ l ++ [r], x.wf := fun x hx => short_wf (xs x hx)
  have lN : (l ++ [r]).length ≤ 33 := by simp; omega
  have hSh : Short (l ++ [r]) := xs
  have s0 : stCode l l.length = 0 := by
    unfold stCode
    rw [if_pos f1, if_pos ⟨by omega, by omega⟩]
  have kS := c_impl_StateAt l l.length (by omega) wl
  rw [s0] at kS
  have kV := c_impl_SaveLedger (l ++ [r]) (by omega) wN
  rw [show saveT (l ++ [r]) = ledT (l ++ [r]) 65535 from if_pos hok, show saveC (l ++ [r]) = 0 from if_pos hok] at kV
  have hlen := ledT_len hSh 65535 (l ++ [r]).length (Nat.le_refl _)
  rw [List.take_length] at hlen
  have kL := c_impl_LoadLedger (ledT (l ++ [r]) 65535) (by omega)
  rw [load_led hok] at kL
  have kG := c_SalvageFrozen (ledT (l ++ [r]) 65535) (by omega)
  rw [salv_led hok] at kG
  have kE := c_impl_SameRecords (l ++ [r]) (l ++ [r]) (by omega)
  have kW := c_spec_ValidLedger (l ++ [r]) (by omega) wN
  rw [hok] at kW
  refine CallZ.use kA rfl (.inr ⟨Record.flat _, trivial⟩) rfl rfl ?_
  simp [Record.rows_len]
  refine CallZ.use kS rfl (.inr ⟨Pair.flat _, trivial⟩) rfl rfl ?_
  simp
  refine CallZ.use0 kV rfl rfl ?_
  simp
  refine CallZ.use kL rfl (.inr ⟨Record.flat _, trivial⟩) rfl rfl ?_
  simp
  refine CallY.use (fun _ => ⟨rfl, kE⟩) rfl rfl ?_
  simp
  refine CallY.use (fun _ => ⟨rfl, kW⟩) rfl rfl ?_
  simp
  refine CallY.use (fun _ => ⟨rfl, kG⟩) rfl rfl ?_
  simp
  refine CallY.use (fun _ => ⟨rfl, kE⟩) rfl rfl ?_
  simp
  refine ⟨fun k3 h31 => ?_, fun _ => ?_⟩
  · obtain ⟨u1, u2, u3, u4⟩ := undo_back hA k3 (by omega)
    have wU : recUndo.wf := short_wf ⟨by simp [recUndo], by simp [recUndo], by simp [recUndo], by simp [recUndo]⟩
    have kU := c_impl_AddRecord (l ++ [r]) recUndo (by omega) wN wU
    rw [(add_good u1).2, u1] at kU
    have wB : ∀ x ∈ l ++ [r] ++ [recUndo], x.wf := fun x hx => by
      rcases List.mem_append.1 hx with hx | hx
      · exact wN x hx
      · rw [List.mem_singleton] at hx
        subst hx
        exact wU
    have kT := c_impl_StateAt (l ++ [r] ++ [recUndo]) (l.length + 2) (by simp; omega) wB
    rw [u3, u4] at kT
    have w2 : IntKind.i64.wrap ((l.length : Int) + 2) = (l.length : Int) + 2 := w64 (by omega) (by omega)
    have hs := stL_le l l.length
    generalize l ++ [r] ++ [recUndo] = back at kU kT
    simp only [Record.cells, recUndo] at kU
    refine CallZ.use kU rfl (.inr ⟨Record.flat _, trivial⟩) rfl rfl ?_
    simp [w2]
    refine CallZ.use kT rfl (.inr ⟨Pair.flat _, trivial⟩) rfl rfl ?_
    simp
    refine CallY.use (fun _ => ⟨rfl, c_b10Same (stL l l.length) (by omega)⟩) rfl rfl ?_
    simp
    refine CallZ.useG [] [] [] (c_DrawChangesBetween more hm' lm) (by simp) rfl (by simp) rfl (fun x _ => ⟨rfl, rfl, rfl, .inl rfl⟩) (fun x hx => ?_)
    obtain ⟨a, b⟩ := x
    obtain ⟨y1, y2, y3, y4⟩ := hx
    simp only at y1 y2 y3 y4 ⊢
    have wa : ∀ x ∈ a, x.wf := fun x hx => pair_wf (y3 x hx)
    have wb : ∀ x ∈ b, x.wf := fun x hx => pair_wf (y4 x hx)
    have kC := c_impl_ChangesBetween a b (by omega) (by omega) wa wb
    simp
    by_cases hst : stateOk a = true ∧ stateOk b = true
    rotate_left
    · rw [show chgL a b = [] from if_neg hst, show chgCode a b = 1 from if_neg hst] at kC
      refine CallZ.use kC rfl (.inr ⟨Record.flat _, trivial⟩) rfl rfl ?_
      simp [Record.rows]
    obtain ⟨z1, z2, z3⟩ := chg_leads (state_fine hst.1) (state_fine hst.2) (by omega)
    rw [show chgL a b = chg a b from if_pos hst, show chgCode a b = 0 from if_pos hst] at kC
    have kC0 := (c_impl_ChangesBetween [] a (by simp) (by omega) (by simp) wa).nilArg
    have hst0 : stateOk [] = true ∧ stateOk a = true := ⟨by decide, hst.1⟩
    rw [show chgL [] a = chg [] a from if_pos hst0, show chgCode [] a = 0 from if_pos hst0] at kC0
    refine CallZ.use kC rfl (.inr ⟨Record.flat _, trivial⟩) rfl rfl ?_
    simp
    refine CallZ.use kC0 rfl (.inr ⟨Record.flat _, trivial⟩) rfl rfl ?_
    simp
    obtain ⟨n1, n2⟩ := short_of z1
    have n3 := n1
    rw [List.length_append] at n3
    have kF := c_impl_StateAt (chg [] a ++ chg a b) (chg [] a ++ chg a b).length (by omega) n2.wf
    rw [z2, z3] at kF
    have hR : Record.rows (chg [] a) ++ Record.rows (chg a b) = Record.rows (chg [] a ++ chg a b) := by simp [Record.rows]
    have hL : (((Record.rows (chg [] a)).length : Int) + ((Record.rows (chg a b)).length : Int)) = ((chg [] a ++ chg a b).length : Int) := by rw [Record.rows_len, Record.rows_len, List.length_append]; omega
    rw [hR, hL]
    refine ⟨Record.rowsOne _, by rw [Record.rows_len]; omega, by rw [Record.rows_len]; omega, Record.rowsOne _, by rw [Record.rows_len, Record.rows_len]; omega, by rw [Record.rows_len, Record.rows_len]; omega, ?_⟩
    refine CallZ.use kF rfl (.inr ⟨Pair.flat _, trivial⟩) rfl rfl ?_
    simp
    refine CallY.use (fun _ => ⟨rfl, c_b10Same b (by omega)⟩) rfl rfl ?_
    simp
  · refine CallZ.useG [] [] [] (c_DrawChangesBetween more hm' lm) (by simp) rfl (by simp) rfl (fun x _ => ⟨rfl, rfl, rfl, .inl rfl⟩) (fun x hx => ?_)
    obtain ⟨a, b⟩ := x
    obtain ⟨y1, y2, y3, y4⟩ := hx
    simp only at y1 y2 y3 y4 ⊢
    have wa : ∀ x ∈ a, x.wf := fun x hx => pair_wf (y3 x hx)
    have wb : ∀ x ∈ b, x.wf := fun x hx => pair_wf (y4 x hx)
    have kC := c_impl_ChangesBetween a b (by omega) (by omega) wa wb
    simp
    by_cases hst : stateOk a = true ∧ stateOk b = true
    rotate_left
    · rw [show chgL a b = [] from if_neg hst, show chgCode a b = 1 from if_neg hst] at kC
      refine CallZ.use kC rfl (.inr ⟨Record.flat _, trivial⟩) rfl rfl ?_
      simp [Record.rows]
    obtain ⟨z1, z2, z3⟩ := chg_leads (state_fine hst.1) (state_fine hst.2) (by omega)
    rw [show chgL a b = chg a b from if_pos hst, show chgCode a b = 0 from if_pos hst] at kC
    have kC0 := (c_impl_ChangesBetween [] a (by simp) (by omega) (by simp) wa).nilArg
    have hst0 : stateOk [] = true ∧ stateOk a = true := ⟨by decide, hst.1⟩
    rw [show chgL [] a = chg [] a from if_pos hst0, show chgCode [] a = 0 from if_pos hst0] at kC0
    refine CallZ.use kC rfl (.inr ⟨Record.flat _, trivial⟩) rfl rfl ?_
    simp
    refine CallZ.use kC0 rfl (.inr ⟨Record.flat _, trivial⟩) rfl rfl ?_
    simp
    obtain ⟨n1, n2⟩ := short_of z1
    have n3 := n1
    rw [List.length_append] at n3
    have kF := c_impl_StateAt (chg [] a ++ chg a b) (chg [] a ++ chg a b).length (by omega) n2.wf
    rw [z2, z3] at kF
    have hR : Record.rows (chg [] a) ++ Record.rows (chg a b) = Record.rows (chg [] a ++ chg a b) := by simp [Record.rows]
    have hL : (((Record.rows (chg [] a)).length : Int) + ((Record.rows (chg a b)).length : Int)) = ((chg [] a ++ chg a b).length : Int) := by rw [Record.rows_len, Record.rows_len, List.length_append]; omega
    rw [hR, hL]
    refine ⟨Record.rowsOne _, by rw [Record.rows_len]; omega, by rw [Record.rows_len]; omega, Record.rowsOne _, by rw [Record.rows_len, Record.rows_len]; omega, by rw [Record.rows_len, Record.rows_len]; omega, ?_⟩
    refine CallZ.use kF rfl (.inr ⟨Pair.flat _, trivial⟩) rfl rfl ?_
    simp
    refine CallY.use (fun _ => ⟨rfl, c_b10Same b (by omega)⟩) rfl rfl ?_
    simp

theorem l_FnLedger (pargs : List PV) (h : fitsAll [.one (.slc [.int .u8]), .one (.slc [.int .u8])] pargs) : HFn Tryz.prog 3 pargs [] (.bool true) [] := by
  obtain ⟨p0, r0, rfl, f0, z0⟩ := fitsAll_cons h
  obtain ⟨p1, r1, rfl, f1, z1⟩ := fitsAll_cons z0
  obtain rfl := fitsAll_nil z1
  obtain ⟨rows0, rfl, g0, y0⟩ := fits_slc f0
  obtain ⟨code, rfl, wc⟩ := fits_bytes y0
  obtain ⟨rows1, rfl, g1, y1⟩ := fits_slc f1
  obtain ⟨more, rfl, wm⟩ := fits_bytes y1
  exact c_law_FnLedger code more wc wm (by simpa [byteRows] using g0) (by simpa [byteRows] using g1)
end Go.Proofs.YtmdablalfmcgnaaGreatDoor
