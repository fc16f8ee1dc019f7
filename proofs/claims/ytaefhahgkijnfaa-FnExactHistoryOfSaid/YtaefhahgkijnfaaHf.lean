/- Contracts: whether a record can follow others, and whether records are a ledger. -/
import Derived.Test.YtaefhahgkijnfaaHe
namespace Go.Proofs.Ytaefhahgkijnfaa
open Go Go.Ab
set_option maxRecDepth 100000

/-- Whether a record may follow the first n. -/
def nextOk (l : List Record) (n : Nat) (r : Record) : Bool :=
  match act l n with
  | none => false
  | some S => if r.kind = 3 then decide (0 < S.length) else if r.kind = 1 then true else (stateF l S).any fun x => decide (x.key = r.key)
def ledgerOk (l : List Record) : Bool := decide (l.length ≤ 32) && (List.range l.length).all fun i => validRecord (recAt l i) && nextOk l i (recAt l i)
theorem any_keyIn {T : List Pair} (h : keysOk T) (s : List UInt8) : (T.any fun x => decide (x.key = s)) = keyIn T s := by
  cases hf : keyIn T s with
  | true =>
    obtain ⟨hlt, he⟩ := keyIn_at hf
    exact List.any_eq_true.2 ⟨_, List.getElem_mem hlt, by simpa using he⟩
  | false =>
    refine List.any_eq_false.2 fun x hx => ?_
    obtain ⟨i, hi, rfl⟩ := List.getElem_of_mem hx
    simpa using keyIn_not h hf hi
theorem stateF_take (l : List Record) (k : Nat) {S : List Int} (h : ∀ x ∈ S, 0 ≤ x ∧ x < k) : stateF (l.take k) S = stateF l S := by
  have : ∀ (S : List Int) (st : List Pair), (∀ x ∈ S, 0 ≤ x ∧ x < k) → S.foldl (fun st k' => stepK st (recAt (l.take k) k'.toNat)) st = S.foldl (fun st k' => stepK st (recAt l k'.toNat)) st := by
    intro S
    induction S with
    | nil => exact fun _ _ => rfl
    | cons x S ih =>
      intro st h
      have hx := h x (List.mem_cons_self ..)
      have e : recAt (l.take k) x.toNat = recAt l x.toNat := by
        unfold recAt
        rw [List.getD_eq_getElem?_getD, List.getD_eq_getElem?_getD, List.getElem?_take, if_pos (by omega)]
      rw [List.foldl_cons, List.foldl_cons, e]
      exact ih _ fun y hy => h y (List.mem_cons_of_mem _ hy)
  exact this S [] h
/-- The same, of the list's first n alone. -/
theorem actL_take (l : List Record) {n : Nat} (hn : n ≤ l.length) : actL (l.take n) (l.take n).length = actL l n ∧ stateF (l.take n) (actL l n) = stateF l (actL l n) := by
  have e : (l.take n).length = n := by rw [List.length_take]; omega
  refine ⟨by unfold actL; rw [e, act_take (Nat.le_refl _)], stateF_take l n fun x hx => ?_⟩
  cases h : act l n with
  | none => unfold actL at hx; simp [h] at hx
  | some S => rw [actL_some h] at hx; exact act_mem h x hx
theorem valid_kind {r : Record} (h : validRecord r = true) : r.kind = 1 ∨ r.kind = 2 ∨ r.kind = 3 := by
  unfold validRecord at h
  split at h
  · exact .inl ‹_›
  · split at h
    · exact .inr (.inl ‹_›)
    · simp only [Bool.and_eq_true, decide_eq_true_eq] at h
      exact .inr (.inr h.1.1)
/-- The first n are a ledger, but for their number. -/
def fineTo (l : List Record) (n : Nat) : Prop := ∀ i, i < n → validRecord (recAt l i) = true ∧ nextOk l i (recAt l i) = true
theorem fineTo_act {l : List Record} : ∀ {n : Nat}, fineTo l n → (act l n).isSome = true
  | 0, _ => rfl
  | n + 1, h => by
    obtain ⟨S, hS⟩ := Option.isSome_iff_exists.1 (fineTo_act (n := n) fun i hi => h i (by omega))
    have h2 := (h n (by omega)).2
    unfold nextOk at h2
    rw [hS] at h2
    simp only at h2
    rw [act_some hS]
    split
    · rfl
    · rename_i h3
      have h3 : (recAt l n).kind = 3 := by omega
      rw [if_pos h3] at h2
      rw [if_neg (by intro e; subst e; simp at h2)]
      rfl
theorem fineTo_kind {l : List Record} {n : Nat} (h : fineTo l n) (hn : n ≤ l.length) : ∀ r ∈ l.take n, r.kind = 1 ∨ r.kind = 2 ∨ r.kind = 3 := fun r hr => by
  obtain ⟨i, hi, rfl⟩ := List.getElem_of_mem hr
  rw [List.length_take] at hi
  have := (h i (by omega)).1
  rw [recAt_eq (by omega)] at this
  rw [List.getElem_take]
  exact valid_kind this
theorem ledgerOk_iff {l : List Record} : ledgerOk l = true ↔ l.length ≤ 32 ∧ fineTo l l.length := by
  unfold ledgerOk fineTo
  simp

theorem c_canFollow (l : List Record) (n : Nat) (hn : n ≤ l.length) (hl : l.length < 1048576) (hf : fineTo l n) (r : Record) (hr : validRecord r = true) :
    HFn Try.prog 73 [.sl 3 ((Record.rows l).take n), .agg r.cells] [] (.bool (nextOk l n r)) [] := by
  obtain ⟨S, hS⟩ := Option.isSome_iff_exists.1 (fineTo_act hf)
  have hSl := actL_some hS
  obtain ⟨e1, e2⟩ := actL_take l hn
  have hlen : (l.take n).length ≤ 1048576 := by rw [List.length_take]; omega
  have hrows : (Record.rows l).take n = Record.rows (l.take n) := by simp [Record.rows]
  have c1 := c_stateOf (l.take n) (by rw [List.length_take]; omega) (fineTo_kind hf hn)
  have c2 := c_impl_active (l.take n) hlen
  rw [e1, e2, hSl] at c1
  rw [e1, hSl] at c2
  have hok := stateF_ok l S
  have hSn := act_len hS
  have hk := valid_kind hr
  rw [hrows]
  refine hfn_intro hm Try.func73 (by kernel_rfl) rfl (by kernel_rfl) rfl ret0_ok ?_
  simp [Record.cells]
  refine ⟨fun h2 => ?_, fun h2 => ⟨fun h3 => ?_, fun h3 => ?_⟩⟩
  · refine CallZ.use c1 rfl (.inl rfl) rfl rfl ?_
    simp
    refine CallZ.use0 (c_pairAt (stateF l S) r.key (by omega) hok.1) rfl rfl ?_
    simp [nextOk, hS, h2, any_keyIn hok.1]
  · refine CallZ.use c2 rfl (.inl rfl) rfl rfl ?_
    simp [nextOk, hS, h3, intRows_len]
  · have h1 : r.kind = 1 := by omega
    simp [nextOk, hS, h1]

theorem c_l30Next (l : List Record) (n : Nat) (hn : n ≤ l.length) (hl : l.length < 1048576) (r : Record) (rows : List (List PV)) (i : Nat) (h : rows[i]? = some r.cells) :
    HFn Try.prog 131 [.sl 3 (Record.rows l), .int .i64 n, .pe 3 rows i 0] [] (.bool (nextOk l n r)) [] := by
  have hi : i < rows.length := (List.getElem?_eq_some_iff.1 h).1
  have hx : rows[i] = r.cells := by rw [List.getElem?_eq_getElem hi] at h; exact Option.some.inj h
  refine hfn_intro hm Try.func131 (by kernel_rfl) rfl (by kernel_rfl) rfl ret0_ok ?_
  rw [Record.cells] at h hx
  simp
  refine CallZ.use (c_spec_l30Active l n hn (by omega)) rfl (.inl rfl) rfl rfl ?_
  simp [hi, hx]
  refine ⟨fun h0 => ?_, fun h0 => ?_⟩
  · simp [nextOk, h0]
  obtain ⟨S, hS⟩ := Option.isSome_iff_exists.1 h0
  have hSl := actL_some hS
  have c1 := c_l30State l n hn (by omega)
  rw [hSl] at c1 ⊢
  have hok := stateF_ok l S
  have hSn := act_len hS
  refine ⟨fun h3 => ?_, fun h3 => ⟨fun h1 => ?_, fun h1 => ?_⟩⟩
  · simp [nextOk, hS, h3, intRows_len]
  · simp [nextOk, hS, h1]
  refine CallZ.use c1 rfl (.inl rfl) rfl rfl ?_
  simp
  have hnx : nextOk l n r = (stateF l S).any fun x => decide (x.key = r.key) := by simp [nextOk, hS, h1, h3]
  rw [hnx]
  obtain ⟨T, hT⟩ : ∃ T, T = stateF l S := ⟨_, rfl⟩
  rw [← hT] at hok ⊢
  refine loop_upto hm T.length (fun j => ⟨[(2, .pe 3 rows i 0), (9, .sf 0 2), (10, .int .i64 j)], [some (.arr 2 (Pair.rows T))]⟩) (fun j => ∀ m (hm' : m < T.length), m < j → ¬ T[m].key = r.key) (by kernel_rfl) ?_ (fun _ _ g => absurd g (by omega)) (fun j hj hI => ?_) (fun hI => ?_)
  · refine Wk.weak (ρ := [1]) (φ := []) ?_
    simp
  · have w1 : IntKind.i64.wrap ((j : Int) + 1) = (j : Int) + 1 := w64 (by omega) (by omega)
    simp [hj, hi, hx, Pair.rows_len, Pair.row_get]
    refine ⟨fun he => ⟨_, List.getElem_mem hj, he⟩, fun hne => ⟨fun m hm' hmj => ?_, ?_⟩⟩
    · by_cases e : m = j
      · subst e; exact hne
      · exact hI m hm' (by omega)
    · refine Wk.weak (ρ := [0]) (φ := []) ?_
      simp [w1]
  · simp [Pair.rows_len]
    intro x hx'
    obtain ⟨m, hm', rfl⟩ := List.getElem_of_mem hx'
    exact hI m hm' hm'

theorem rec_at {l : List Record} {i : Nat} (hi : i < l.length) : (Record.rows l)[i]? = some l[i].cells := by simp [Record.rows, hi]
theorem Record.row_get (T : List Record) {i : Nat} (h : i < (Record.rows T).length) : (Record.rows T)[i] = [.int .i64 (T[i]'(by rw [Record.rows_len] at h; exact h)).kind, .str (T[i]'(by rw [Record.rows_len] at h; exact h)).key, .str (T[i]'(by rw [Record.rows_len] at h; exact h)).text] := by simp [Record.rows, Record.cells]
theorem fineTo_succ {l : List Record} {i : Nat} (hi : i < l.length) (h : fineTo l i) (h1 : validRecord l[i] = true) (h2 : nextOk l i l[i] = true) : fineTo l (i + 1) := fun j hj => by
  by_cases e : j = i
  · subst e; rw [recAt_eq hi]; exact ⟨h1, h2⟩
  · exact h j (by omega)
theorem ledger_bad {l : List Record} {i : Nat} (hi : i < l.length) (h : ¬ (validRecord l[i] = true ∧ nextOk l i l[i] = true)) : ledgerOk l = false := by
  cases e : ledgerOk l with
  | false => rfl
  | true =>
    have := (ledgerOk_iff.1 e).2 i hi
    rw [recAt_eq hi] at this
    exact absurd this h

theorem c_impl_ValidLedger (l : List Record) (hl : l.length ≤ 1048576) (hw : ∀ x ∈ l, x.wf) :
    HFn Try.prog 26 [.sl 3 (Record.rows l)] [] (.bool (ledgerOk l)) [] := by
  refine hfn_intro hm Try.func26 (by kernel_rfl) rfl (by kernel_rfl) rfl ret0_ok ?_
  simp [Record.rows_len]
  refine ⟨fun h => ?_, fun h => ?_⟩
  · simp [ledgerOk]; omega
  have h32 : l.length ≤ 32 := by omega
  refine loop_upto hm l.length (fun i => ⟨[(0, .sl 3 (Record.rows l)), (8, .sl 3 (Record.rows l)), (9, .int .i64 l.length), (10, .int .i64 i)], []⟩) (fun i => fineTo l i) (by kernel_rfl) ?_ (fun _ g => absurd g (by omega)) (fun i hi hI => ?_) (fun hI => ?_)
  · refine Wk.weak (ρ := []) (φ := []) ?_
    simp
  · have w1 : IntKind.i64.wrap ((i : Int) + 1) = (i : Int) + 1 := w64 (by omega) (by omega)
    simp [hi, Record.rows_len, Record.row_get]
    refine CallZ.use0 (c_impl_ValidRecord l[i] (hw _ (List.getElem_mem hi))) rfl rfl ?_
    simp
    refine ⟨fun hv => ⟨hv, by rw [Record.rows_len]; omega⟩, CallY.use (res := .bool (nextOk l i l[i])) (fun hv => ⟨rfl, by simpa only [Record.cells] using c_canFollow l i (by omega) (by omega) hI l[i] hv⟩) rfl rfl ?_⟩
    simp
    refine ⟨fun hbad => ledger_bad hi (by grind), fun hv hn => ⟨fineTo_succ hi hI hv hn, Wk.weak (ρ := []) (φ := []) ?_⟩⟩
    simp [w1]
  · simp
    exact ledgerOk_iff.2 ⟨h32, hI⟩

theorem c_l30Ok (l : List Record) (hl : l.length ≤ 1048576) (hw : ∀ x ∈ l, x.wf) :
    HFn Try.prog 71 [.sl 3 (Record.rows l)] [] (.bool (ledgerOk l)) [] := by
  refine hfn_intro hm Try.func71 (by kernel_rfl) rfl (by kernel_rfl) rfl ret0_ok ?_
  simp [Record.rows_len]
  refine ⟨fun h => ?_, fun h => ?_⟩
  · simp [ledgerOk]; omega
  have h32 : l.length ≤ 32 := by omega
  refine loop_upto hm l.length (fun i => ⟨[(0, .sl 3 (Record.rows l)), (3, .int .i64 i)], []⟩) (fun i => fineTo l i) (by kernel_rfl) ?_ (fun _ g => absurd g (by omega)) (fun i hi hI => ?_) (fun hI => ?_)
  · refine Wk.weak (ρ := []) (φ := []) ?_
    simp
  · have w1 : IntKind.i64.wrap ((i : Int) + 1) = (i : Int) + 1 := w64 (by omega) (by omega)
    simp [hi, Record.rows_len]
    refine CallZ.use0 (c_l30One l[i] (hw _ (List.getElem_mem hi)) (Record.rows l) i (rec_at hi)) rfl rfl ?_
    simp
    refine ⟨fun hv => ⟨hv, by rw [Record.rows_len]; exact hi⟩, CallY.use (fun _ => ⟨rfl, c_l30Next l i (by omega) (by omega) l[i] (Record.rows l) i (rec_at hi)⟩) rfl rfl ?_⟩
    simp
    refine ⟨fun hbad => ledger_bad hi (by grind), fun hv hn => ⟨fineTo_succ hi hI hv hn, Wk.weak (ρ := []) (φ := []) ?_⟩⟩
    simp [w1]
  · simp [Record.rows_len]
    exact ledgerOk_iff.2 ⟨h32, hI⟩

theorem c_spec_ValidLedger (l : List Record) (hl : l.length ≤ 1048576) (hw : ∀ x ∈ l, x.wf) :
    HFn Try.prog 24 [.sl 3 (Record.rows l)] [] (.bool (ledgerOk l)) [] := by
  refine hfn_intro hm Try.func24 (by kernel_rfl) rfl (by kernel_rfl) rfl ret0_ok ?_
  simp
  refine CallZ.use0 (c_l30Ok l hl hw) rfl rfl ?_
  simp
end Go.Proofs.Ytaefhahgkijnfaa
