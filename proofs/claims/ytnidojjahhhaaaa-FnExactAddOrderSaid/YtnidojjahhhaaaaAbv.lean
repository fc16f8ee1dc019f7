/- The plain run is right: code, loops, whole functions. No condition. -/
import Derived.Test.YtnidojjahhhaaaaAbu
import Derived.LoopN
namespace Go.Ab
variable {P : Program} {A A' : Nat → Prop} {m m' : OMap} {h h' : OFun} {w w' : World} {H : Heap} {fr fr' : Fr} {a : Act}

/-- What is asked of a function's text. -/
def codeOk (n : Nat) : Code → Bool
  | .region _ ops d => ops.toList.all (opOk n) && (!d || drawOk ops.toList)
  | .seq x y => codeOk n x && codeOk n y
  | .cond c x y => opdLt n c && codeOk n x && codeOk n y
  | .block _ b => codeOk n b
  | .loop b => codeOk n b
  | _ => true

theorem awp_sound (hm : P.follows .mixedOrders = true) {n : Nat} : ∀ (c : Code) (S : St) (Q : Exit → St → Prop), codeOk n c = true → awp P n c S Q → AWP P n c S Q
  | .skip, S, Q, _, h => fun x a w A m hI => wp_skip ⟨S, A, m, h, hI⟩
  | .region id ops d, S, Q, hok, h => fun x a w A m hI => by
    simp only [codeOk, Bool.and_eq_true] at hok
    have hQ : ∀ S' a' w' A' m', Q .normal S' → Inv x n S' a' w' A' m' → (fun e a' w' => ∃ S' A' m', Q e S' ∧ Inv x n S' a' w' A' m') Exit.normal a' w' := fun S' a' w' A' m' h1 h2 => ⟨S', A', m', h1, h2⟩
    cases d with
    | true => exact region_drawn hm hok.1 (by simpa using hok.2) hI h hQ
    | false =>
      refine wp_region_list ?_
      have := ops_sound (Q := fun e a' w' => ∃ S' A' m', Q e S' ∧ Inv x n S' a' w' A' m') (all := ops.toList) hok.1 hQ ops.toList false S a w A m hok.1 hI h
      simpa using this
  | .seq c d, S, Q, hok, h => fun x a w A m hI => by
    simp only [codeOk, Bool.and_eq_true] at hok
    refine wp_seq (wp_mono (awp_sound hm c S _ hok.1 h x a w A m hI) fun e a' w' ⟨S', A', m', hq, hI'⟩ => ?_)
    cases e with
    | normal => exact awp_sound hm d S' Q hok.2 hq x a' w' A' m' hI'
    | _ => exact ⟨S', A', m', hq, hI'⟩
  | .cond c t e, S, Q, hok, h => fun x a w A m hI => by
    simp only [codeOk, Bool.and_eq_true] at hok
    obtain ⟨hc, h⟩ := h
    have hg : Agree S.fr (cutF n S.fr) [c] := agree_cut (by simpa using hok.1.1)
    have hr := hI.opnd.ev (x := c) (by rw [hg.ok (by simp)]; exact hc)
    rw [hg.ev (by simp)] at hr
    cases hev : ev S.fr c <;> simp only [hev] at h
    case bool b =>
      rw [hev] at hr
      refine wp_cond_split hr.bool (fun hb => ?_) (fun hb => ?_)
      · exact awp_sound hm t S Q hok.1.2 (h.1 hb) x a w A m hI
      · exact awp_sound hm e S Q hok.2 (h.2 hb) x a w A m hI
  | .block id b, S, Q, hok, h => fun x a w A m hI => by
    refine wp_block (wp_mono (awp_sound hm b S _ hok h x a w A m hI) fun e a' w' ⟨S', A', m', hq, hI'⟩ => ?_)
    cases e with
    | exit id' =>
      simp only [blockQ, Exit.inBlock] at hq ⊢
      by_cases hid : id' = id
      · rw [if_pos hid]
        have : (id' == id) = true := by simpa using hid
        rw [this] at hq
        exact ⟨S', A', m', hq, hI'⟩
      · rw [if_neg hid]
        have : (id' == id) = false := by simpa using hid
        rw [this] at hq
        exact ⟨S', A', m', hq, hI'⟩
    | _ => exact ⟨S', A', m', hq, hI'⟩
  | .loop b, S, Q, _, h => h
  | .exit id, S, Q, _, h => fun x a w A m hI => wp_exit ⟨S, A, m, h, hI⟩
  | .ret, S, Q, _, h => fun x a w A m hI => wp_ret ⟨S, A, m, h, hI⟩
  | .rangeFunc _ _ _ _, _, _, _, h => h.elim
  | .scope _, _, _, _, h => h.elim
  | .label _, _, _, _, h => h.elim
  | .goto _, _, _, _, h => h.elim
  | .refuse _, _, _, _, h => h.elim

/-! ### Less is known -/

/-- Wherever S holds, S' holds. -/
def Weak (S S' : St) : Prop := ∀ (x : Ctx) (n : Nat) (a : Act) (w : World) (A : Nat → Prop) (m : OMap), Inv x n S a w A m → ∃ A' m', Inv x n S' a w A' m'

theorem Weak.refl (S : St) : Weak S S := fun _ _ _ _ A m h => ⟨A, m, h⟩
theorem Weak.trans {S S' S'' : St} (h1 : Weak S S') (h2 : Weak S' S'') : Weak S S'' := fun x n a w A m h => by
  obtain ⟨A', m', h'⟩ := h1 x n a w A m h
  exact h2 x n a w A' m' h'

/-- A loop: a family of states, a measure. -/
theorem loop_rule (hm : P.follows .mixedOrders = true) {n : Nat} {ι : Type} (σ : ι → St) (μ : ι → Nat) {c : Code} (hok : codeOk n c = true) {S : St} {Q : Exit → St → Prop} (i0 : ι) (h0 : Weak S (σ i0))
    (round : ∀ i, awp P n c (σ i) (thenQ (fun S' => ∃ j, Weak S' (σ j) ∧ μ j < μ i) Q)) : Ends P n (.loop c) S Q := fun x a w A m hI => by
  have key : ∀ (k : Nat) (i : ι) (a : Act) (w : World) (A : Nat → Prop) (m : OMap), μ i < k → Inv x n (σ i) a w A m → Code.rounds P c (fun e a' w' => ∃ S' A' m', Q e S' ∧ Inv x n S' a' w' A' m') k a w := by
    intro k
    induction k with
    | zero => intro i a w A m h; exact absurd h (Nat.not_lt_zero _)
    | succ k ih =>
      intro i a w A m hlt hI
      rw [rounds_succ]
      refine wp_mono (awp_sound hm c (σ i) _ hok (round i) x a w A m hI) fun e a' w' ⟨S', A', m', hq, hI'⟩ => ?_
      cases e with
      | normal =>
        obtain ⟨j, hw, hj⟩ := hq
        obtain ⟨A'', m'', hI''⟩ := hw x n a' w' A' m' hI'
        exact ih j a' w' A'' m'' (by omega) hI''
      | _ => exact ⟨S', A', m', hq, hI'⟩
  obtain ⟨A', m', hI'⟩ := h0 x n a w A m hI
  exact wp_loop_rounds (μ i0 + 1) (key _ i0 a w A' m' (Nat.lt_succ_self _) hI')

/-! ### Less is known, computed -/

/-- One cell: own objects go by new numbers (ρ: new to old), those of φ are no longer turned. -/
def wkA (H : Heap) (ρ φ : List Nat) (H' : Heap) : PV → PV → Prop
  | _, .top => True
  | .sf k z, .sf k' z' => ρ[k']? = some k ∧ z = z' ∧ isArr H' k' z
  | .so k z lo len, .so k' z' lo' len' => ρ[k']? = some k ∧ z = z' ∧ lo = lo' ∧ len = len' ∧ isArr H' k' z
  | .pa k z i o, .pa k' z' i' o' => ρ[k']? = some k ∧ z = z' ∧ i = i' ∧ o = o' ∧ isArr H' k' z
  | .pb k o, .pb k' o' => ρ[k']? = some k ∧ o = o' ∧ isBox H' k'
  | .own k, .own k' => ρ[k']? = some k ∧ ∃ o, H'[k']? = some (some o)
  | .cp k C, .cp k' C' => ρ[k']? = some k ∧ C = C' ∧ ∃ o, H'[k']? = some (some o)
  | .sf k z, .sl z' rows => k ∈ φ ∧ H[k]? = some (some (.arr z rows)) ∧ z = z'
  | p, q => p = q ∧ noOwnA p = true
def wkL (H : Heap) (ρ φ : List Nat) (H' : Heap) : List PV → List PV → Prop
  | [], [] => True
  | p :: r, q :: s => wkA H ρ φ H' p q ∧ wkL H ρ φ H' r s
  | _, _ => False
/-- The parts of a tuple. -/
def wkB (H : Heap) (ρ φ : List Nat) (H' : Heap) : PV → PV → Prop
  | .agg cs, .agg ds => wkL H ρ φ H' cs ds
  | p, q => wkA H ρ φ H' p q
def wkT (H : Heap) (ρ φ : List Nat) (H' : Heap) : List PV → List PV → Prop
  | [], [] => True
  | p :: r, q :: s => wkB H ρ φ H' p q ∧ wkT H ρ φ H' r s
  | _, _ => False
def wkV (H : Heap) (ρ φ : List Nat) (H' : Heap) : PV → PV → Prop
  | .agg cs, .agg ds => wkL H ρ φ H' cs ds
  | .tup cs, .tup ds => wkT H ρ φ H' cs ds
  | .fn f cs, .fn g ds => f = g ∧ wkL H ρ φ H' cs ds
  | .opt c p, q => c = true ∧ wkA H ρ φ H' p q
  | p, q => wkA H ρ φ H' p q
def wkF (H : Heap) (ρ φ : List Nat) (H' : Heap) (fr : Fr) : Fr → Prop
  | [] => True
  | (t, q) :: r => wkV H ρ φ H' (slot fr t) q ∧ wkF H ρ φ H' fr r
def wkO (H : Heap) (ρ φ : List Nat) (H' : Heap) : Option (Option Obj) → Option Obj → Prop
  | _, none => True
  | some (some (.arr z rows)), some (.arr z' rows') => z = z' ∧ rows = rows'
  | some (some (.box cs)), some (.box ds) => wkL H ρ φ H' cs ds
  | _, _ => False
def wkH (H : Heap) (ρ φ : List Nat) (H' : Heap) : List Nat → Heap → Prop
  | _, [] => True
  | k :: r, o :: s => wkO H ρ φ H' H[k]? o ∧ wkH H ρ φ H' r s
  | [], _ :: _ => False

def nodupB : List Nat → Bool
  | [] => true
  | k :: r => !r.contains k && nodupB r

/-- S' is less than S. -/
def Wk (ρ φ : List Nat) (S S' : St) : Prop := nodupB (ρ ++ φ) = true ∧ wkF S.H ρ φ S'.H S.fr S'.fr ∧ wkH S.H ρ φ S'.H ρ S'.H

theorem nodupB_spec : ∀ {l : List Nat}, nodupB l = true → ∀ (i j : Nat) (k : Nat), l[i]? = some k → l[j]? = some k → i = j
  | [], _, i, j, k, hi, _ => by simp at hi
  | x :: r, h, i, j, k, hi, hj => by
    simp only [nodupB, Bool.and_eq_true, Bool.not_eq_true', List.contains_eq_mem, decide_eq_false_iff_not] at h
    cases i with
    | zero =>
      cases j with
      | zero => rfl
      | succ j =>
        cases hi
        exact absurd (List.mem_of_getElem? (by simpa using hj)) h.1
    | succ i =>
      cases j with
      | zero =>
        cases hj
        exact absurd (List.mem_of_getElem? (by simpa using hi)) h.1
      | succ j => rw [nodupB_spec h.2 i j k (by simpa using hi) (by simpa using hj)]

theorem wkH_spec {ρ φ : List Nat} {H H1 : Heap} : ∀ {r : List Nat} {s : Heap}, wkH H ρ φ H1 r s → ∀ (k' : Nat) (o' : Obj), s[k']? = some (some o') → ∃ k, r[k']? = some k ∧ wkO H ρ φ H1 H[k]? (some o')
  | _, [], _, k', o', h => by simp at h
  | [], _ :: _, h, _, _, _ => h.elim
  | k :: r, o :: s, h, k', o', hk => by
    cases k' with
    | zero => cases hk; exact ⟨k, rfl, h.1⟩
    | succ k' =>
      obtain ⟨j, h1, h2⟩ := wkH_spec h.2 k' o' (by simpa using hk)
      exact ⟨j, by simpa using h1, h2⟩

/-- The numbers of own objects, new to old. -/
def mapM' (ρ : List Nat) (m : OMap) : OMap := fun k' => (ρ[k']?).bind m
/-- The memory that may be read, with what is no longer turned. -/
def withA (A : Nat → Prop) (m : OMap) (H : Heap) (φ : List Nat) : Nat → Prop := fun b => A b ∨ ∃ k C o, k ∈ φ ∧ getO H k = some o ∧ m k = some (some b, C)

section wk
variable {ρ φ : List Nat} {H' : Heap}

theorem getO_of {k : Nat} {o : Obj} (hk : H[k]? = some (some o)) : getO H k = some o := by simp [getO, hk]

theorem wk_arr (hw : wkH H ρ φ H' ρ H') {k k' z : Nat} (hr : ρ[k']? = some k) (ha : isArr H' k' z) : ∃ rows, getO H' k' = some (.arr z rows) ∧ getO H k = some (.arr z rows) := by
  obtain ⟨rows, hk⟩ := ha
  obtain ⟨j, h1, h2⟩ := wkH_spec hw k' _ hk
  rw [hr] at h1
  cases h1
  unfold wkO at h2
  split at h2
  · rename_i e; cases e
  · rename_i z0 r0 z1 r1 e1 e2
    cases e2
    obtain ⟨rfl, rfl⟩ := h2
    exact ⟨_, getO_of hk, getO_of e1⟩
  · rename_i e2; cases e2
  · exact h2.elim

theorem wk_box (hw : wkH H ρ φ H' ρ H') {k k' : Nat} (hr : ρ[k']? = some k) (ha : isBox H' k') : ∃ cs ds, getO H' k' = some (.box ds) ∧ getO H k = some (.box cs) ∧ wkL H ρ φ H' cs ds := by
  obtain ⟨ds, hk⟩ := ha
  obtain ⟨j, h1, h2⟩ := wkH_spec hw k' _ hk
  rw [hr] at h1
  cases h1
  unfold wkO at h2
  split at h2
  · rename_i e; cases e
  · rename_i e2; cases e2
  · rename_i cs ds' e1 e2
    cases e2
    exact ⟨cs, ds, getO_of hk, getO_of e1, h2⟩
  · exact h2.elim

theorem wkA_rep (hC : ConcO A m (getO H) w) (hw : wkH H ρ φ H' ρ H') {p q : PV} {v : Value} (hr : RepO A m (getO H) w p v) (hp : wkA H ρ φ H' p q) : RepO (withA A m H φ) (mapM' ρ m) (getO H') w q v := by
  have hA : ∀ b, A b → withA A m H φ b := fun b hb => .inl hb
  have mm : ∀ {k k' : Nat} {x}, ρ[k']? = some k → m k = x → mapM' ρ m k' = x := fun h1 h2 => by simp [mapM', h1, h2]
  unfold wkA at hp
  split at hp
  · exact .topI _
  · rename_i k z k' z'
    obtain ⟨h1, rfl, h2⟩ := hp
    obtain ⟨rows, e1, e2⟩ := wk_arr hw h1 h2
    cases hr with
    | imm hi => cases hi
    | sfN _ _ C ao hk hm => rw [e2] at hk; cases hk; exact .sfN k' _ C ao e1 (mm h1 hm)
    | sf _ _ C b rows' hk hm => rw [e2] at hk; cases hk; exact .sf k' _ C b _ e1 (mm h1 hm)
  · rename_i k z lo len k' z' lo' len'
    obtain ⟨h1, rfl, rfl, rfl, h2⟩ := hp
    obtain ⟨rows, e1, e2⟩ := wk_arr hw h1 h2
    cases hr with
    | imm hi => cases hi
    | so0 _ _ C cap ao hk hm hc => rw [e2] at hk; cases hk; exact .so0 k' _ C cap ao e1 (mm h1 hm) hc
    | soE _ _ _ C cap ao rows' b hk hm hlo => rw [e2] at hk; cases hk; exact .soE k' _ _ C cap ao _ b e1 (mm h1 hm) hlo
    | so _ _ _ _ C cap b rows' hk hm hl hc => rw [e2] at hk; cases hk; exact .so k' _ _ _ C cap b _ e1 (mm h1 hm) hl hc
  · rename_i k z i o k' z' i' o'
    obtain ⟨h1, rfl, rfl, rfl, h2⟩ := hp
    obtain ⟨rows, e1, e2⟩ := wk_arr hw h1 h2
    cases hr with
    | imm hi => cases hi
    | pa _ _ _ _ C b rows' hk hm => rw [e2] at hk; cases hk; exact .pa k' _ _ _ C b _ e1 (mm h1 hm)
  · rename_i k o k' o'
    obtain ⟨h1, rfl, h2⟩ := hp
    obtain ⟨cs, ds, e1, e2, _⟩ := wk_box hw h1 h2
    cases hr with
    | imm hi => cases hi
    | pb _ _ C b cs' hk hm => exact .pb k' _ C b ds e1 (mm h1 hm)
  · rename_i k k'
    obtain ⟨h1, o, h2⟩ := hp
    cases hr with
    | imm hi => cases hi
    | own _ C ob o' hk hm => exact .own k' C ob o (getO_of h2) (mm h1 hm)
  · rename_i k C k' C'
    obtain ⟨h1, rfl, o, h2⟩ := hp
    cases hr with
    | imm hi => cases hi
    | cp _ _ ob o' _ hk hm => exact .cp k' _ ob o _ (getO_of h2) (mm h1 hm)
  · rename_i k z z' rows
    obtain ⟨h1, h2, rfl⟩ := hp
    have hk' := getO_of h2
    cases hr with
    | imm hi => cases hi
    | sfN _ _ C ao hk hm => rw [hk'] at hk; cases hk; exact .imm (.slE _ _ _)
    | sf _ _ C b rows' hk hm =>
      rw [hk'] at hk
      cases hk
      obtain ⟨u, g1, g2, g3⟩ := hC.rowI hk' hm
      exact .imm (.sl z rows b 0 C u (.inr ⟨k, C, _, h1, hk', hm⟩) (hC.room hk' hm).1 g1 g2 fun i j r c hr hc => (g3 i j r c hr hc).mono hA (fun _ _ => rfl))
  · obtain ⟨rfl, hn⟩ := hp
    exact .imm ((hr.toI hn).mono hA (fun _ _ => rfl))

theorem wkL_get : ∀ {cs ds : List PV}, wkL H ρ φ H' cs ds → cs.length = ds.length ∧ ∀ (i : Nat) (q : PV), ds[i]? = some q → ∃ p, cs[i]? = some p ∧ wkA H ρ φ H' p q
  | [], [], _ => ⟨rfl, by simp⟩
  | p :: r, q :: s, h => by
    obtain ⟨h1, h2⟩ := wkL_get h.2
    refine ⟨by simp [h1], fun i q' hi => ?_⟩
    cases i with
    | zero => cases hi; exact ⟨p, rfl, h.1⟩
    | succ i =>
      obtain ⟨p', hp', hw⟩ := h2 i q' (by simpa using hi)
      exact ⟨p', by simpa using hp', hw⟩
  | [], _ :: _, h => h.elim
  | _ :: _, [], h => h.elim

theorem wkT_get : ∀ {cs ds : List PV}, wkT H ρ φ H' cs ds → cs.length = ds.length ∧ ∀ (i : Nat) (q : PV), ds[i]? = some q → ∃ p, cs[i]? = some p ∧ wkB H ρ φ H' p q
  | [], [], _ => ⟨rfl, by simp⟩
  | p :: r, q :: s, h => by
    obtain ⟨h1, h2⟩ := wkT_get h.2
    refine ⟨by simp [h1], fun i q' hi => ?_⟩
    cases i with
    | zero => cases hi; exact ⟨p, rfl, h.1⟩
    | succ i =>
      obtain ⟨p', hp', hw⟩ := h2 i q' (by simpa using hi)
      exact ⟨p', by simpa using hp', hw⟩
  | [], _ :: _, h => h.elim
  | _ :: _, [], h => h.elim

theorem wkB_rep (hC : ConcO A m (getO H) w) (hw : wkH H ρ φ H' ρ H') {p q : PV} {v : Value} (hr : RepO A m (getO H) w p v) (hp : wkB H ρ φ H' p q) : RepO (withA A m H φ) (mapM' ρ m) (getO H') w q v := by
  unfold wkB at hp
  split at hp
  · obtain ⟨us, rfl, hl, hh⟩ := hr.aggI
    obtain ⟨h1, h2⟩ := wkL_get hp
    exact .agg _ us (hl.trans h1) fun i c hc => by
      obtain ⟨p', hp', hw'⟩ := h2 i c hc
      exact wkA_rep hC hw (hh i p' hp') hw'
  · exact wkA_rep hC hw hr hp

theorem wkV_rep (hC : ConcO A m (getO H) w) (hw : wkH H ρ φ H' ρ H') {p q : PV} {v : Value} (hr : RepO A m (getO H) w p v) (hp : wkV H ρ φ H' p q) : RepO (withA A m H φ) (mapM' ρ m) (getO H') w q v := by
  unfold wkV at hp
  split at hp
  · obtain ⟨us, rfl, hl, hh⟩ := hr.aggI
    obtain ⟨h1, h2⟩ := wkL_get hp
    exact .agg _ us (hl.trans h1) fun i c hc => by
      obtain ⟨p', hp', hw'⟩ := h2 i c hc
      exact wkA_rep hC hw (hh i p' hp') hw'
  · obtain ⟨us, rfl, hl, hh⟩ := hr.tupI
    obtain ⟨h1, h2⟩ := wkT_get hp
    exact .tup _ us (hl.trans h1) fun i c hc => by
      obtain ⟨p', hp', hw'⟩ := h2 i c hc
      exact wkB_rep hC hw (hh i p' hp') hw'
  · obtain ⟨rfl, hp⟩ := hp
    obtain ⟨us, rfl, hl, hh⟩ := hr.fnI
    obtain ⟨h1, h2⟩ := wkL_get hp
    exact .fn _ _ us (hl.trans h1) fun i c hc => by
      obtain ⟨p', hp', hw'⟩ := h2 i c hc
      exact wkA_rep hC hw (hh i p' hp') hw'
  · obtain ⟨rfl, hp⟩ := hp
    cases hr with
    | imm hi => cases hi
    | optT _ _ hh => exact wkA_rep hC hw hh hp
  · exact wkA_rep hC hw hr hp

theorem wkF_get {fr : Fr} : ∀ {fr' : Fr}, wkF H ρ φ H' fr fr' → ∀ t, slot fr' t = .top ∨ wkV H ρ φ H' (slot fr t) (slot fr' t)
  | [], _, t => .inl rfl
  | (t', q) :: r, h, t => by
    simp only [slot]
    cases e : t' == t with
    | true =>
      have : t' = t := by simpa using e
      subst this
      exact .inr h.1
    | false => exact wkF_get h.2 t

theorem Wk.inv {S S' : St} (h : Wk ρ φ S S') {x : Ctx} {n : Nat} (hI : Inv x n S a w A m) : Inv x n S' a w (withA A m S.H φ) (mapM' ρ m) := by
  obtain ⟨hnd, hf, hh⟩ := h
  have hC := hI.conc
  have inρφ : ∀ k, k ∈ ρ → k ∈ φ → False := fun k h1 h2 => by
    obtain ⟨i, hi⟩ := List.mem_iff_getElem?.1 h1
    obtain ⟨j, hj⟩ := List.mem_iff_getElem?.1 h2
    have hil : i < ρ.length := (List.getElem?_eq_some_iff.1 hi).1
    have := nodupB_spec hnd i (ρ.length + j) k (by rw [List.getElem?_append_left hil]; exact hi) (by rw [List.getElem?_append_right (by omega), Nat.add_sub_cancel_left]; exact hj)
    omega
  have injρ : ∀ i j k, ρ[i]? = some k → ρ[j]? = some k → i = j := fun i j k hi hj => by
    have hil : i < ρ.length := (List.getElem?_eq_some_iff.1 hi).1
    have hjl : j < ρ.length := (List.getElem?_eq_some_iff.1 hj).1
    exact nodupB_spec hnd i j k (by rw [List.getElem?_append_left hil]; exact hi) (by rw [List.getElem?_append_left hjl]; exact hj)
  have hA : ∀ b, A b → withA A m S.H φ b := fun b hb => .inl hb
  -- a new object, its old one
  have old : ∀ k' o', getO S'.H k' = some o' → ∃ k o, ρ[k']? = some k ∧ getO S.H k = some o ∧ ((∃ z rows, o = .arr z rows ∧ o' = .arr z rows) ∨ ∃ cs ds, o = .box cs ∧ o' = .box ds ∧ wkL S.H ρ φ S'.H cs ds) := fun k' o' hk => by
    have hk' : S'.H[k']? = some (some o') := by
      unfold getO at hk
      cases e : S'.H[k']? with
      | none => rw [e] at hk; cases hk
      | some y => rw [e] at hk; simp only [Option.getD_some] at hk; rw [hk]
    obtain ⟨k, h1, h2⟩ := wkH_spec hh k' o' hk'
    unfold wkO at h2
    split at h2
    · rename_i e; cases e
    · rename_i z rows z' rows' e1 e2
      cases e2
      obtain ⟨rfl, rfl⟩ := h2
      exact ⟨k, _, h1, getO_of e1, .inl ⟨_, _, rfl, rfl⟩⟩
    · rename_i cs ds e1 e2
      cases e2
      exact ⟨k, _, h1, getO_of e1, .inr ⟨_, _, rfl, rfl, h2⟩⟩
    · exact h2.elim
  have notA : ∀ k o b C, k ∈ ρ → getO S.H k = some o → m k = some (some b, C) → ¬ withA A m S.H φ b := fun k o b C hk ho hm hb => by
    rcases hb with hb | ⟨k2, C2, o2, h1, h2, h3⟩
    · exact (hC.lt ⟨k, o, C, ho, hm⟩).2 hb
    · have := hC.inj k k2 o o2 b C C2 ho h2 hm h3
      subst this
      exact inρφ k hk h1
  have mem : ∀ {k' k : Nat}, ρ[k']? = some k → k ∈ ρ := fun h => List.mem_of_getElem? h
  refine ⟨hI.moved, fun b hb => ?_, fun b hb => ?_, ⟨fun k' o' hk => ?_, fun k1 k2 o1 o2 b C1 C2 hk1 hk2 hm1 hm2 => ?_⟩, fun b ⟨k', o', C, hk, hm⟩ => ?_, fun t => ?_, hI.sz, hI.df⟩
  · rcases hb with hb | ⟨k, C, o, _, h2, h3⟩
    · exact hI.sub b hb
    · exact .inr (hI.own b ⟨k, o, C, h2, h3⟩)
  · rcases hb with hb | ⟨k, C, o, _, h2, h3⟩
    · exact hI.aok b hb
    · exact (hC.lt ⟨k, o, C, h2, h3⟩).1
  · obtain ⟨k, o, h1, h2, h3⟩ := old k' o' hk
    obtain ⟨ob, C, hm, ho⟩ := hC.at_ k o h2
    refine ⟨ob, C, by simp [mapM', h1, hm], ?_⟩
    rcases h3 with ⟨z, rows, rfl, rfl⟩ | ⟨cs, ds, rfl, rfl, hl⟩
    · cases ob with
      | none => exact ho
      | some b =>
        obtain ⟨_, g2, g3, g4, g5, cur, e, g6, g7, g8⟩ := ho
        refine ⟨notA k _ b C (mem h1) h2 hm, g2, g3, g4, g5, cur, e, g6, g7, fun i j r c hr hc => ?_⟩
        obtain ⟨u, hu, hru⟩ := g8 i j r c hr hc
        exact ⟨u, hu, hru.mono hA (fun _ _ => rfl)⟩
    · cases ob with
      | none => exact ho.elim
      | some b =>
        obtain ⟨_, g2, cur, e, g6, g7, g8⟩ := ho
        obtain ⟨l1, l2⟩ := wkL_get hl
        refine ⟨notA k _ b C (mem h1) h2 hm, g2, cur, e, g6, g7.trans l1, fun j c hc => ?_⟩
        obtain ⟨p, hp, hw'⟩ := l2 j c hc
        obtain ⟨u, hu, hru⟩ := g8 j p hp
        exact ⟨u, hu, wkA_rep hC hh hru hw'⟩
  · obtain ⟨j1, p1, e1, q1, _⟩ := old k1 o1 hk1
    obtain ⟨j2, p2, e2, q2, _⟩ := old k2 o2 hk2
    simp only [mapM', e1, e2, Option.bind_some] at hm1 hm2
    have := hC.inj j1 j2 p1 p2 b C1 C2 q1 q2 hm1 hm2
    subst this
    exact injρ k1 k2 j1 e1 e2
  · obtain ⟨k, o, h1, h2, _⟩ := old k' o' hk
    simp only [mapM', h1, Option.bind_some] at hm
    exact hI.own b ⟨k, o, C, h2, hm⟩
  · rcases wkF_get hf t with e | e
    · rw [e]; exact .topI _
    · exact wkV_rep hC hh (hI.fr t) e

theorem Wk.weak {S S' : St} (h : Wk ρ φ S S') : Weak S S' := fun _ _ _ _ _ _ hI => ⟨_, _, h.inv hI⟩

/-- A nil slice may be taken for an own one without rows. -/
theorem weak_nil {S : St} {t z : Nat} (h : slot S.fr t = .nils) : Weak S ⟨(t, .sf S.H.length z) :: S.fr, S.H ++ [some (.arr z [])]⟩ := fun x n a w A m hI => by
  have hN := newW_none (z := z) hI.aok hI.conc (getO_len (H := S.H))
  rw [← addO_one] at hN
  have hI' := hI.newW hN
  refine ⟨A, _, hI'.moved, hI'.sub, hI'.aok, hI'.conc, hI'.own, fun t' => ?_, hI'.sz, hI'.df⟩
  simp only [slot]
  cases e : t == t' with
  | false => exact hI'.fr t'
  | true =>
    have : t = t' := by simpa using e
    subst this
    have hr := hI.fr t
    rw [h] at hr
    obtain ⟨ao, hao⟩ := hr.nilsI
    rw [hao]
    simp only [cond_true]
    refine .sfN _ z 0 ao ?_ (by simp [updM])
    rw [getO_push]
    simp [updO]

end wk
end Go.Ab
