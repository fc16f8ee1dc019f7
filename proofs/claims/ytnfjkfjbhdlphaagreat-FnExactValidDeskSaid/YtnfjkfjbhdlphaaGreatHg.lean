/- Contracts: the active ones of records.; Contracts: keys of a state.; Contracts: the state after records: one step.; Contracts: the state after records, and whether a record can follow.; Contracts: the state after records, as the other side computes it.; Contracts: whether a record can follow others, and whether records are a ledger.; Contracts: a ledger's active records, its states, and what is added to it. -/
import Derived.Test.YtnfjkfjbhdlphaaGreatCg
import Derived.Test.YtnfjkfjbhdlphaaGreatFe
import Derived.Test.YtnfjkfjbhdlphaaGreatAcj
import Derived.Test.YtnfjkfjbhdlphaaGreatEd
import Derived.Test.YtnfjkfjbhdlphaaGreatTPair
import Derived.Test.YtnfjkfjbhdlphaaGreatLPair
-- from Ha
namespace Go.Proofs.YtnfjkfjbhdlphaaGreat
open Go Go.Ab
set_option maxRecDepth 100000

def recAt (l : List Record) (i : Nat) : Record := l.getD i ⟨0, [], []⟩
theorem recAt_eq {l : List Record} {i : Nat} (hi : i < l.length) : recAt l i = l[i] := by simp [recAt, hi]
/-- The active ones of the first i records; none if there is nothing to take back for one. -/
def act (l : List Record) : Nat → Option (List Int)
  | 0 => some []
  | i + 1 => match act l i with
    | none => none
    | some S => if (recAt l i).kind ≠ 3 then some (S ++ [(i : Int)]) else if S = [] then none else some S.dropLast
theorem act_len {l : List Record} : ∀ {i : Nat} {S : List Int}, act l i = some S → S.length ≤ i
  | 0, S, h => by cases h; exact Nat.le_refl _
  | i + 1, S, h => by
    unfold act at h
    cases ha : act l i with
    | none => rw [ha] at h; cases h
    | some T =>
      have := act_len ha
      rw [ha] at h
      simp only at h
      split at h
      · cases h; simp; omega
      · split at h
        · cases h
        · cases h; simp; omega
theorem act_mem {l : List Record} : ∀ {i : Nat} {S : List Int}, act l i = some S → ∀ k ∈ S, 0 ≤ k ∧ k < i
  | 0, S, h, k, hk => by cases h; simp at hk
  | i + 1, S, h, k, hk => by
    unfold act at h
    cases ha : act l i with
    | none => rw [ha] at h; cases h
    | some T =>
      have ih := act_mem ha
      rw [ha] at h
      simp only at h
      split at h
      · cases h
        rcases List.mem_append.1 hk with g | g
        · have := ih k g; omega
        · simp at g; omega
      · split at h
        · cases h
        · cases h
          have := ih k (List.dropLast_subset _ hk)
          omega
theorem act_none {l : List Record} {i : Nat} (h : act l i = none) : act l (i + 1) = none := by unfold act; rw [h]
theorem act_some {l : List Record} {i : Nat} {S : List Int} (h : act l i = some S) : act l (i + 1) = if (recAt l i).kind ≠ 3 then some (S ++ [(i : Int)]) else if S = [] then none else some S.dropLast := by
  conv => lhs; unfold act
  rw [h]
theorem act_up {l : List Record} {i : Nat} (h : act l i = none) : ∀ j, i ≤ j → act l j = none := fun j hij => by
  induction j with
  | zero => have : i = 0 := by omega
            subst this; exact h
  | succ j ih =>
    by_cases e : i = j + 1
    · subst e; exact h
    · exact act_none (ih (by omega))
theorem act_take {l : List Record} {k : Nat} : ∀ {i : Nat}, i ≤ k → act (l.take k) i = act l i
  | 0, _ => rfl
  | i + 1, h => by
    have ih := act_take (l := l) (i := i) (k := k) (by omega)
    have e : recAt (l.take k) i = recAt l i := by
      unfold recAt
      rw [List.getD_eq_getElem?_getD, List.getD_eq_getElem?_getD, List.getElem?_take, if_pos (by omega)]
    unfold act
    rw [ih, e]
def actL (l : List Record) (i : Nat) : List Int := (act l i).getD []
theorem actL_some {l : List Record} {i : Nat} {S : List Int} (h : act l i = some S) : actL l i = S := by simp [actL, h]
theorem intRows_app (a b : List Int) : intRows (a ++ b) = intRows a ++ intRows b := by simp [intRows]
theorem intRows_take (a : List Int) (n : Nat) : intRows (a.take n) = (intRows a).take n := by simp [intRows]

theorem c_impl_active (l : List Record) (hl : l.length ≤ 1048576) :
    HFn Tryz.prog 214 [.sl 3 (Record.rows l)] [] (.tup [.sf 0 1, .bool (act l l.length).isSome]) [some (.arr 1 (intRows (actL l l.length)))] := by
  refine hfn_intro hm Tryz.func214 (by kernel_rfl) rfl (by kernel_rfl) rfl (fun _ _ h => h) ?_
  simp [Record.rows_len]
  refine loop_upto hm l.length (fun i => ⟨[(4, .sf 0 1), (7, .sl 3 (Record.rows l)), (8, .int .i64 l.length), (9, .int .i64 i)], [some (.arr 1 (intRows (actL l i)))]⟩) (fun i => (act l i).isSome = true) (by kernel_rfl) ?_ rfl (fun i hi hI => ?_) (fun hI => ?_)
  · exact (weak_nil (t := 4) (z := 1) rfl).trans (Wk.weak (ρ := [0]) (φ := []) (by simp [intRows, actL, act]))
  · obtain ⟨S, hS⟩ := Option.isSome_iff_exists.1 hI
    have hSl := act_len hS
    have hs := act_some hS
    rw [recAt_eq hi] at hs
    have w1 : IntKind.i64.wrap ((i : Int) + 1) = (i : Int) + 1 := w64 (by omega) (by omega)
    have hSa := actL_some hS
    rw [hSa]
    simp [hi, Record.rows, Record.cells, intRows_len]
    refine ⟨fun hk => ?_, fun hk => ?_⟩
    · rw [if_pos hk] at hs
      have hsl := actL_some hs
      refine ⟨by simp [rowsOne], by omega, by omega, by rw [hs]; rfl, Wk.weak (ρ := [0]) (φ := []) ?_⟩
      simp [hsl, intRows_app, w1]
      rfl
    · rw [if_neg (by simpa using hk)] at hs
      refine ⟨fun h0 => ?_, fun h0 => ?_⟩
      · rw [if_pos h0] at hs
        have hu := act_up hs l.length (by omega)
        refine (weak_nilT (t := 0) 0 1 rfl rfl).trans (Wk.weak (ρ := [2]) (φ := []) ?_)
        simp [hu, actL, intRows]
      · rw [if_neg h0] at hs
        have hpos := List.length_pos_iff.2 h0
        have hw : IntKind.i64.wrap ((S.length : Int) - 1) = ((S.length - 1 : Nat) : Int) := by rw [w64 (by omega) (by omega)]; omega
        have hsl := actL_some hs
        rw [hw]
        refine ⟨⟨by omega, by omega⟩, by rw [hs]; rfl, (weak_cut (t := 4) (k := 0) (z := 1) (len := S.length - 1) (rows := intRows S) rfl rfl (by rw [intRows_len]; omega)).trans (Wk.weak (ρ := [0]) (φ := []) ?_)⟩
        simp [hsl, w1, List.dropLast_eq_take, intRows_take]
  · simp
    refine Wk.weak (ρ := [0]) (φ := []) ?_
    simp [hI]

theorem c_spec_l30Active (l : List Record) (n : Nat) (hn : n ≤ l.length) (hl : l.length ≤ 1048576) :
    HFn Tryz.prog 234 [.sl 3 (Record.rows l), .int .i64 n] [] (.tup [.sf 0 1, .bool (act l n).isSome]) [some (.arr 1 (intRows (actL l n)))] := by
  refine hfn_intro hm Tryz.func234 (by kernel_rfl) rfl (by kernel_rfl) rfl (fun _ _ h => h) ?_
  simp
  refine loop_upto hm n (fun i => ⟨[(0, .sl 3 (Record.rows l)), (1, .int .i64 n), (6, .sf 0 1), (7, .int .i64 i)], [some (.arr 1 (intRows (actL l i)))]⟩) (fun i => (act l i).isSome = true) (by kernel_rfl) ?_ rfl (fun i hi' hI => ?_) (fun hI => ?_)
  · exact (weak_nil (t := 6) (z := 1) rfl).trans (Wk.weak (ρ := [0]) (φ := []) (by simp [intRows, actL, act]))
  · have hi : i < l.length := by omega
    obtain ⟨S, hS⟩ := Option.isSome_iff_exists.1 hI
    have hSl := act_len hS
    have hs := act_some hS
    rw [recAt_eq hi] at hs
    have w1 : IntKind.i64.wrap ((i : Int) + 1) = (i : Int) + 1 := w64 (by omega) (by omega)
    have hSa := actL_some hS
    rw [hSa]
    simp [hi, hi', Record.rows, Record.cells, intRows_len]
    refine ⟨fun hk => ?_, fun hk => ⟨fun h0 => ?_, fun h0 => ?_⟩⟩
    · rw [if_pos hk] at hs
      have hsl := actL_some hs
      refine ⟨by simp [rowsOne], by omega, by omega, by rw [hs]; rfl, Wk.weak (ρ := [0]) (φ := []) ?_⟩
      simp [hsl, intRows_app, w1]
      rfl
    · rw [if_neg (by simpa using hk), if_pos h0] at hs
      have hu := act_up hs n (by omega)
      refine (weak_nilT (t := 0) 0 1 rfl rfl).trans (Wk.weak (ρ := [1]) (φ := []) ?_)
      simp [hu, actL, intRows]
    · rw [if_neg (by simpa using hk), if_neg h0] at hs
      have hpos := List.length_pos_iff.2 h0
      have hw : IntKind.i64.wrap ((S.length : Int) - 1) = ((S.length - 1 : Nat) : Int) := by rw [w64 (by omega) (by omega)]; omega
      have hsl := actL_some hs
      rw [hw]
      refine ⟨⟨by omega, by omega⟩, by rw [hs]; rfl, (weak_cut (t := 6) (k := 0) (z := 1) (len := S.length - 1) (rows := intRows S) rfl rfl (by rw [intRows_len]; omega)).trans (Wk.weak (ρ := [0]) (φ := []) ?_)⟩
      simp [hsl, w1, List.dropLast_eq_take, intRows_take]
  · simp
    refine Wk.weak (ρ := [0]) (φ := []) ?_
    simp [hI]
end Go.Proofs.YtnfjkfjbhdlphaaGreat
-- from Hb
namespace Go.Proofs.YtnfjkfjbhdlphaaGreat
open Go Go.Ab
set_option maxRecDepth 100000

theorem cmpBytes_eq : ∀ (a b : List UInt8), Lib.compareBytes a b = cmpS a b
  | [], [] => by simp [Lib.compareBytes, cmpS, Op.bytesLess]
  | [], y :: b => by simp [Lib.compareBytes, cmpS, Op.bytesLess]
  | x :: a, [] => by simp [Lib.compareBytes, cmpS, Op.bytesLess]
  | x :: a, y :: b => by
    have ih := cmpBytes_eq a b
    unfold cmpS at ih ⊢
    rw [Lib.compareBytes, Op.bytesLess]
    by_cases h1 : x < y
    · simp [h1]
    · by_cases h2 : y < x
      · have h3 : ¬ x = y := fun e => by subst e; exact h1 h2
        simp [h1, h2, h3]
      · have h3 : x = y := by
          have := UInt8.le_antisymm (UInt8.not_lt.1 h2) (UInt8.not_lt.1 h1)
          exact this
        subst h3
        simp [h1, ih]

theorem c_CompareString (a b : List UInt8) : HFn Tryz.prog 244 [.str a, .str b] [] (.int .i64 (cmpS a b)) [] := by
  refine hfn_intro hm Tryz.func244 (by kernel_rfl) rfl (by kernel_rfl) rfl ret0_ok ?_
  simp
  refine CallZ.use0 (hfn_cmpstring Tryz.func247 (by kernel_rfl) (by kernel_rfl) (by kernel_rfl) (by kernel_rfl) a b) rfl rfl ?_
  simp [cmpBytes_eq]
theorem c_stringsCompare (a b : List UInt8) : HFn Tryz.prog 240 [.str a, .str b] [] (.int .i64 (cmpS a b)) [] := by
  refine hfn_intro hm Tryz.func240 (by kernel_rfl) rfl (by kernel_rfl) rfl ret0_ok ?_
  simp
  refine CallZ.use0 (c_CompareString a b) rfl rfl ?_
  simp
theorem c_pairAt1 (x : Pair) (s : List UInt8) : HFn Tryz.prog 239 [.agg x.cells, .str s] [] (.int .i64 (cmpS x.key s)) [] := by
  refine hfn_intro hm Tryz.func239 (by kernel_rfl) rfl (by kernel_rfl) rfl ret0_ok ?_
  simp [Pair.cells]
  refine CallZ.use0 (c_stringsCompare _ _) rfl rfl ?_
  simp

theorem c_BSearchPair (l : List Pair) (s : List UInt8) (c : Nat → Int) (p : Nat) (hl : l.length ≤ 1048576) (hp : Cut l.length c p) (hc : ∀ i (h : i < l.length), c i = cmpS l[i].key s) :
    HFn Tryz.prog 238 [.sl 2 (Pair.rows l), .str s, .fn 239 []] [] (.tup [.int .i64 p, .bool (decide (p < l.length) && decide (c p = 0))]) [] := by
  refine hfn_intro hm Tryz.func238 (by kernel_rfl) rfl (by kernel_rfl) rfl ret0_ok ?_
  simp
  refine loop_rule hm (ι := {x : Nat × Nat // x.1 ≤ p ∧ p ≤ x.2 ∧ x.2 ≤ l.length}) (fun x => ⟨[(0, .sl 2 (Pair.rows l)), (1, .str s), (2, .fn 239 []), (8, .int .i64 l.length), (9, .int .i64 x.1.1), (10, .int .i64 x.1.2)], []⟩) (fun x => x.1.2 - x.1.1) (by kernel_rfl) ⟨(0, l.length), by have := hp.le; omega⟩ ?_ ?_
  · refine Wk.weak (ρ := []) (φ := []) ?_
    simp [Pair.rows]
  · rintro ⟨⟨i, j⟩, h1, h2, h3⟩
    simp only at h1 h2 h3 ⊢
    by_cases hij : i < j
    · obtain ⟨k, hk⟩ : ∃ k, k = (i + j) / 2 := ⟨_, rfl⟩
      have hmid := mid_eq i j (by omega)
      rw [← hk] at hmid
      have hm1 : k < l.length := by omega
      have hw1 : IntKind.i64.wrap ((k : Int) + 1) = ((k + 1 : Nat) : Int) := by rw [w64 (by omega) (by omega)]; omega
      simp [hmid, hij, Pair.rows, Pair.cells, hm1]
      refine CallZ.use0 (c_pairAt1 l[k] s) rfl rfl ?_
      have c1 := hp.lo k
      have c2 := hp.hi k
      rw [hc k hm1] at c1 c2
      simp
      refine ⟨fun h => ?_, fun h => ?_⟩
      · refine ⟨k + 1, j, Wk.weak (ρ := []) (φ := []) ?_, by omega, by omega⟩
        simp [hw1]
      · refine ⟨i, k, Wk.weak (ρ := []) (φ := []) ?_, by omega, by omega⟩
        simp
    · obtain rfl : i = p := by omega
      obtain rfl : i = j := by omega
      simp
      by_cases hip : i < l.length
      · simp [Pair.rows, Pair.cells, hip]
        refine CallY.use (res := .int .i64 (cmpS l[i].key s)) (fun _ => ⟨rfl, c_pairAt1 l[i] s⟩) rfl rfl ?_
        simp [hc i hip]
      · simp [Pair.rows, hip]
        refine CallY.use (res := .int .i64 0) (fun h => absurd h (by simp)) rfl rfl ?_
        simp

/-! ### States: keys in order -/
def keysOk (S : List Pair) : Prop := ∀ i j (hi : i < S.length) (hj : j < S.length), i < j → S[i].key < S[j].key
theorem keys_order {S : List Pair} (h : keysOk S) (s : List UInt8) : InOrder S fun x => cmpS x.key s := fun i j hi hj hij hle => by
  have h1 := h i j hi hj hij
  simp only at hle ⊢
  rw [cmpS_neg, bytesLess_lt]
  by_cases e : S[j].key = s
  · rw [e] at h1; simpa using h1
  · have h2 : cmpS S[j].key s < 0 := by
      have := mt cmpS_zero.1 e
      omega
    rw [cmpS_neg, bytesLess_lt] at h2
    simpa using List.lt_trans h1 (by simpa using h2)
def keyCut (S : List Pair) (s : List UInt8) : Nat := cutG S fun x => cmpS x.key s
def keyIn (S : List Pair) (s : List UInt8) : Bool := foundG S fun x => cmpS x.key s

theorem c_pairAt (S : List Pair) (s : List UInt8) (hl : S.length ≤ 1048576) (h : keysOk S) :
    HFn Tryz.prog 212 [.sl 2 (Pair.rows S), .str s] [] (.tup [.int .i64 (keyCut S s), .bool (keyIn S s)]) [] := by
  refine hfn_intro hm Tryz.func212 (by kernel_rfl) rfl (by kernel_rfl) rfl ret0_ok ?_
  simp
  refine CallZ.use0 (c_BSearchPair S s (cAt S fun x => cmpS x.key s) (keyCut S s) hl (cutG_cut (keys_order h s)) (fun i hi => cAt_eq hi)) rfl rfl ?_
  simp [keyIn, foundG_at, keyCut]
  rfl
end Go.Proofs.YtnfjkfjbhdlphaaGreat
-- from Hc
namespace Go.Proofs.YtnfjkfjbhdlphaaGreat
open Go Go.Ab
set_option maxRecDepth 100000

theorem keysOk_pw {S : List Pair} : keysOk S ↔ S.Pairwise fun a b => a.key < b.key := by
  rw [List.pairwise_iff_getElem]
  exact ⟨fun h i j hi hj hij => h i j hi hj hij, fun h i j hi hj hij => h i j hi hj hij⟩
/-- Where what is greater begins. -/
def keyEnd (S : List Pair) (s : List UInt8) : Nat := if keyIn S s = true then keyCut S s + 1 else keyCut S s
def stepK (S : List Pair) (r : Record) : List Pair := S.take (keyCut S r.key) ++ ((if r.kind = 2 then [] else [⟨r.key, r.text⟩]) ++ S.drop (keyEnd S r.key))
theorem keyCut_le (S : List Pair) (s : List UInt8) : keyCut S s ≤ S.length := List.findIdx_le_length
theorem keyEnd_le (S : List Pair) (s : List UInt8) : keyEnd S s ≤ S.length := by
  unfold keyEnd
  split
  · rename_i h; exact foundG_lt h
  · exact keyCut_le S s
theorem cut_before {S : List Pair} (h : keysOk S) (s : List UInt8) {i : Nat} (hi : i < S.length) (hk : i < keyCut S s) : S[i].key < s := by
  have := (cutG_cut (keys_order h s)).lo i hk
  rw [cAt_eq hi, cmpS_neg, bytesLess_lt] at this
  simpa using this
theorem keyIn_at {S : List Pair} {s : List UInt8} (h : keyIn S s = true) : ∃ h : keyCut S s < S.length, S[keyCut S s].key = s := by
  have hl := foundG_lt h
  refine ⟨hl, ?_⟩
  unfold keyIn at h
  rw [foundG_at] at h
  simp only [Bool.and_eq_true, decide_eq_true_eq] at h
  have h2 := h.2
  rw [cAt_eq hl, cmpS_zero] at h2
  exact h2
theorem keyIn_not {S : List Pair} (h : keysOk S) {s : List UInt8} (hf : keyIn S s = false) {i : Nat} (hi : i < S.length) : S[i].key ≠ s := fun e => by
  have h1 := findG_eq (keys_order h s)
  have h2 : foundG S (fun x => cmpS x.key s) = false := hf
  rw [h2, if_neg (by simp)] at h1
  have h3 : decide (0 ≤ findI (fun x : Pair => decide (cmpS x.key s = 0)) S) = S.any fun x => decide (cmpS x.key s = 0) := findI_any
  have h4 : S.any (fun x => decide (cmpS x.key s = 0)) = true := List.any_eq_true.2 ⟨S[i], List.getElem_mem hi, by simpa [cmpS_zero] using e⟩
  rw [h4] at h3
  have h5 : findG S (fun x => cmpS x.key s) = findI (fun x : Pair => decide (cmpS x.key s = 0)) S := rfl
  rw [← h5, h1] at h3
  simp at h3
theorem cut_after {S : List Pair} (h : keysOk S) (s : List UInt8) {i : Nat} (hi : i < S.length) (hk : keyEnd S s ≤ i) : s < S[i].key := by
  unfold keyEnd at hk
  cases hf : keyIn S s with
  | true =>
    rw [hf, if_pos rfl] at hk
    obtain ⟨hl, he⟩ := keyIn_at hf
    have := h (keyCut S s) i hl hi (by omega)
    rwa [he] at this
  | false =>
    rw [hf, if_neg (by simp)] at hk
    have h1 := (cutG_cut (keys_order h s)).hi i hk hi
    rw [cAt_eq hi] at h1
    have h2 := keyIn_not h hf hi
    have h3 : ¬ S[i].key < s := fun g => by
      have : cmpS S[i].key s < 0 := by rw [cmpS_neg, bytesLess_lt]; simpa using g
      omega
    rcases Std.lt_trichotomy S[i].key s with g | g | g
    · exact absurd g h3
    · exact absurd g h2
    · exact g
theorem stepK_len (S : List Pair) (r : Record) : (stepK S r).length ≤ S.length + 1 := by
  have h1 := keyCut_le S r.key
  have h2 := keyEnd_le S r.key
  have h3 : keyCut S r.key ≤ keyEnd S r.key := by unfold keyEnd; split <;> omega
  unfold stepK
  rw [List.length_append, List.length_append, List.length_take, List.length_drop]
  split <;> simp <;> omega
theorem stepK_keys {S : List Pair} (h : keysOk S) (r : Record) : keysOk (stepK S r) := by
  rw [keysOk_pw]
  have hp := keysOk_pw.1 h
  have hb : ∀ x ∈ S.take (keyCut S r.key), x.key < r.key := fun x hx => by
    obtain ⟨i, hi, rfl⟩ := List.getElem_of_mem hx
    rw [List.length_take] at hi
    rw [List.getElem_take]
    exact cut_before h r.key (by omega) (by omega)
  have ha : ∀ x ∈ S.drop (keyEnd S r.key), r.key < x.key := fun x hx => by
    obtain ⟨i, hi, rfl⟩ := List.getElem_of_mem hx
    rw [List.length_drop] at hi
    rw [List.getElem_drop]
    exact cut_after h r.key (by omega) (by omega)
  unfold stepK
  rw [List.pairwise_append]
  refine ⟨hp.sublist (List.take_sublist _ _), ?_, fun a ha' b hb' => ?_⟩
  · split
    · simpa using hp.sublist (List.drop_sublist _ _)
    · rw [List.singleton_append, List.pairwise_cons]
      exact ⟨fun x hx => ha x hx, hp.sublist (List.drop_sublist _ _)⟩
  · have h1 := hb a ha'
    rcases List.mem_append.1 hb' with g | g
    · split at g
      · simp at g
      · simp at g; subst g; exact h1
    · exact List.lt_trans h1 (ha b g)

/-- The state after those of the records whose indices are S. -/
def stateF (l : List Record) (S : List Int) : List Pair := S.foldl (fun st k => stepK st (recAt l k.toNat)) []
theorem stateF_succ (l : List Record) {S : List Int} {i : Nat} (hi : i < S.length) : stateF l (S.take (i + 1)) = stepK (stateF l (S.take i)) (recAt l S[i].toNat) := by
  rw [← List.take_append_getElem hi]
  unfold stateF
  rw [List.foldl_append]
  rfl
theorem stateF_ok (l : List Record) (S : List Int) : keysOk (stateF l S) ∧ (stateF l S).length ≤ S.length := by
  have : ∀ (S : List Int) (st : List Pair), keysOk st → keysOk (S.foldl (fun st k => stepK st (recAt l k.toNat)) st) ∧ (S.foldl (fun st k => stepK st (recAt l k.toNat)) st).length ≤ st.length + S.length := by
    intro S
    induction S with
    | nil => exact fun st h => ⟨h, by simp⟩
    | cons k S ih =>
      intro st h
      have := ih (stepK st (recAt l k.toNat)) (stepK_keys h _)
      have hl := stepK_len st (recAt l k.toNat)
      rw [List.foldl_cons]
      exact ⟨this.1, by have := this.2; rw [List.length_cons]; omega⟩
  have h := this S [] (fun i j hi => by simp at hi)
  exact ⟨h.1, by have h2 := h.2; rw [List.length_nil, Nat.zero_add] at h2; exact h2⟩
end Go.Proofs.YtnfjkfjbhdlphaaGreat
-- from Hd
namespace Go.Proofs.YtnfjkfjbhdlphaaGreat
open Go Go.Ab
set_option maxRecDepth 100000

theorem Pair.rowsOne (l : List Pair) : rowsOne (Pair.rows l) := fun r hr => by
  obtain ⟨x, _, rfl⟩ := List.mem_map.1 hr
  simp [Pair.cells]
theorem intRows_at (S : List Int) {i : Nat} (hi : i < S.length) : (intRows S)[i]? = some [.int .i64 S[i]] := by simp [intRows, hi]
theorem act_at {l : List Record} {n : Nat} {S : List Int} (h : act l n = some S) {i : Nat} (hi : i < S.length) : ∃ k : Nat, S[i] = (k : Int) ∧ k < n := by
  have := act_mem h S[i] (List.getElem_mem hi)
  exact ⟨S[i].toNat, by omega, by omega⟩
theorem actL_at {l : List Record} {n : Nat} {i : Nat} (hi : i < (actL l n).length) : ∃ k : Nat, (actL l n)[i] = (k : Int) ∧ k < n := by
  cases h : act l n with
  | none => unfold actL at hi; simp [h] at hi
  | some S =>
    have e : actL l n = S := actL_some h
    have := act_at h (i := i) (by rw [← e]; exact hi)
    simpa [e] using this
theorem act_kind {l : List Record} : ∀ {i : Nat} {S : List Int}, act l i = some S → ∀ k ∈ S, (recAt l k.toNat).kind ≠ 3
  | 0, S, h, k, hk => by cases h; simp at hk
  | i + 1, S, h, k, hk => by
    unfold act at h
    cases ha : act l i with
    | none => rw [ha] at h; cases h
    | some T =>
      have ih := act_kind ha
      rw [ha] at h
      simp only at h
      split at h
      · rename_i h3
        cases h
        rcases List.mem_append.1 hk with g | g
        · exact ih k g
        · simp at g; subst g; simpa using h3
      · split at h
        · cases h
        · cases h
          exact ih k (List.dropLast_subset _ hk)
theorem actL_kind {l : List Record} {n : Nat} {i : Nat} (hi : i < (actL l n).length) : (recAt l (actL l n)[i].toNat).kind ≠ 3 := by
  cases h : act l n with
  | none => unfold actL at hi; simp [h] at hi
  | some S =>
    have e : actL l n = S := actL_some h
    have := act_kind h _ (List.getElem_mem (by rw [e] at hi; exact hi))
    simpa [e] using this
theorem actL_len (l : List Record) (n : Nat) : (actL l n).length ≤ n := by
  cases h : act l n with
  | none => simp [actL, h]
  | some S => rw [actL_some h]; exact act_len h

theorem stepK_del {T : List Pair} {r : Record} (h2 : r.kind = 2) (hf : keyIn T r.key = true) : stepK T r = T.take (keyCut T r.key) ++ T.drop (keyCut T r.key + 1) := by
  unfold stepK keyEnd
  simp [h2, hf]
theorem stepK_none {T : List Pair} {r : Record} (h2 : r.kind = 2) (hf : keyIn T r.key = false) : stepK T r = T := by
  unfold stepK keyEnd
  simp [h2, hf]
theorem stepK_set {T : List Pair} {r : Record} (h1 : r.kind = 1) (hf : keyIn T r.key = true) : stepK T r = T.set (keyCut T r.key) ⟨r.key, r.text⟩ := by
  obtain ⟨hlt, _⟩ := keyIn_at hf
  rw [List.set_eq_take_append_cons_drop, if_pos hlt]
  unfold stepK keyEnd
  simp [h1, hf]
theorem stepK_ins {T : List Pair} {r : Record} (h1 : r.kind = 1) (hf : keyIn T r.key = false) : stepK T r = T.take (keyCut T r.key) ++ ⟨r.key, r.text⟩ :: T.drop (keyCut T r.key) := by
  unfold stepK keyEnd
  simp [h1, hf]

theorem c_stateOf (l : List Record) (hl : l.length < 1048576) (hk : ∀ r ∈ l, r.kind = 1 ∨ r.kind = 2 ∨ r.kind = 3) :
    HFn Tryz.prog 213 [.sl 3 (Record.rows l)] [] (.sf 0 2) [some (.arr 2 (Pair.rows (stateF l (actL l l.length))))] := by
  refine hfn_intro hm Tryz.func213 (by kernel_rfl) rfl (by kernel_rfl) rfl (fun _ _ h => h) ?_
  simp
  refine CallZ.use (c_impl_active l (by omega)) rfl (.inl rfl) rfl rfl ?_
  simp
  obtain ⟨S, hS⟩ : ∃ S, S = actL l l.length := ⟨_, rfl⟩
  have hSl : S.length ≤ l.length := by rw [hS]; exact actL_len l _
  rw [← hS]
  refine loop_upto hm S.length (fun i => ⟨[(0, .sl 3 (Record.rows l)), (3, .sf 1 2), (16, .sf 0 1), (17, .int .i64 S.length), (18, .int .i64 i)], [some (.arr 1 (intRows S)), some (.arr 2 (Pair.rows (stateF l (S.take i))))]⟩) (fun _ => True) (by kernel_rfl) ?_ trivial (fun i hi _ => ?_) (fun _ => ?_)
  · refine (weak_nil (t := 3) (z := 2) rfl).trans (Wk.weak (ρ := [0, 1]) (φ := []) ?_)
    simp [stateF, Pair.rows, intRows_len]
  · obtain ⟨k, hSk, hkl⟩ : ∃ k : Nat, S[i] = (k : Int) ∧ k < l.length := by subst hS; exact actL_at hi
    have hok := stateF_ok l (S.take i)
    have hsc := stateF_succ l hi
    obtain ⟨T, hT⟩ : ∃ T, T = stateF l (S.take i) := ⟨_, rfl⟩
    rw [← hT] at hok hsc ⊢
    have hTl : T.length ≤ 1048576 := by have := hok.2; rw [List.length_take] at this; omega
    rw [hSk, Int.toNat_natCast, recAt_eq hkl] at hsc
    have hk12 : l[k].kind = 1 ∨ l[k].kind = 2 := by
      have h1 := hk l[k] (List.getElem_mem hkl)
      have h3 : (recAt l S[i].toNat).kind ≠ 3 := by subst hS; exact actL_kind hi
      rw [hSk, Int.toNat_natCast, recAt_eq hkl] at h3
      omega
    obtain ⟨r, hr⟩ : ∃ r, r = l[k] := ⟨_, rfl⟩
    rw [← hr] at hsc hk12
    have hcell : l[k].cells = [.int .i64 r.kind, .str r.key, .str r.text] := by rw [← hr]; rfl
    simp [hi, intRows_at, hSk, hkl, Record.rows, hcell]
    refine ⟨by simpa [intRows_len] using hi, CallZ.use0 (c_pairAt T r.key hTl hok.1) rfl rfl ?_⟩
    have hle := keyCut_le T r.key
    have w1 : IntKind.i64.wrap ((i : Int) + 1) = (i : Int) + 1 := w64 (by omega) (by omega)
    cases hf : keyIn T r.key with
    | true =>
      obtain ⟨hlt, hat⟩ := keyIn_at hf
      have wK : IntKind.i64.wrap ((keyCut T r.key : Int) + 1) = ((keyCut T r.key + 1 : Nat) : Int) := by rw [w64 (by omega) (by omega)]; omega
      rcases hk12 with h1 | h2
      · simp [h1]
        have hrow : (Pair.rows T)[keyCut T r.key]? = some [.str r.key, .str T[keyCut T r.key].text] := by simp [Pair.rows, Pair.cells, hlt, hat]
        refine ⟨by rw [Pair.rows_len]; exact hlt, Wk.weak (ρ := [0, 1]) (φ := []) ?_⟩
        rw [hsc, stepK_set h1 hf, hrow]
        simp [w1, Pair.rows, Pair.cells, List.map_set]
      · simp [h2, wK]
        refine CallZ.useM [1] [] [1] (c_DeletePair (Pair.rows T) (keyCut T r.key) (keyCut T r.key + 1) (Pair.rowsOne T) (by omega) (by rw [Pair.rows_len]; omega) (by rw [Pair.rows_len]; omega)) (by simp) rfl rfl (by simp) rfl rfl rfl (.inl rfl) ?_
        simp
        refine Wk.weak (ρ := [0, 1]) (φ := []) ?_
        rw [hsc, stepK_del h2 hf]
        simp [w1, Pair.rows]
    | false =>
      rcases hk12 with h1 | h2
      · simp [h1]
        have hsp : Pair.rows T = Pair.rows (T.take (keyCut T r.key)) ++ Pair.rows (T.drop (keyCut T r.key)) := by unfold Pair.rows; rw [← List.map_append, List.take_append_drop]
        have hlen : (Pair.rows (T.take (keyCut T r.key))).length = keyCut T r.key := by rw [Pair.rows_len, List.length_take]; omega
        have hc := c_InsertPair (Pair.rows (T.take (keyCut T r.key))) (Pair.rows (T.drop (keyCut T r.key))) [[.str r.key, .str r.text]] (by rw [← hsp]; exact Pair.rowsOne T) (by simp [rowsOne]) (by simp) (by rw [Pair.rows_len, Pair.rows_len, List.length_take, List.length_drop]; simp; have := hok.2; rw [List.length_take] at this; omega)
        rw [← hsp, hlen] at hc
        refine CallZ.useM [1, 3] [] [1, 3] hc (by simp) rfl rfl (by simp) rfl rfl rfl (.inl rfl) ?_
        simp
        refine Wk.weak (ρ := [0, 1]) (φ := []) ?_
        rw [hsc, stepK_ins h1 hf]
        simp [w1, Pair.rows, Pair.cells]
      · simp [h2]
        refine Wk.weak (ρ := [0, 1]) (φ := []) ?_
        rw [hsc, stepK_none h2 hf]
        simp [w1]
  · simp
    refine Wk.weak (ρ := [1]) (φ := []) ?_
    simp
end Go.Proofs.YtnfjkfjbhdlphaaGreat
-- from He
namespace Go.Proofs.YtnfjkfjbhdlphaaGreat
open Go Go.Ab
set_option maxRecDepth 100000

def insK (r : Record) : List Pair := if r.kind = 2 then [] else [⟨r.key, r.text⟩]
theorem stepK_eq (S : List Pair) (r : Record) : stepK S r = S.take (keyCut S r.key) ++ (insK r ++ S.drop (keyEnd S r.key)) := rfl
/-- What the other side has put together when it has gone over j pairs. -/
def nextJ (T : List Pair) (r : Record) (j : Nat) : List Pair := if j ≤ keyCut T r.key then T.take j else T.take (keyCut T r.key) ++ (insK r ++ (T.take j).drop (keyEnd T r.key))
def doneJ (T : List Pair) (r : Record) (j : Nat) : Bool := decide (r.kind = 2) || decide (keyCut T r.key < j)
theorem nextJ_lt {T : List Pair} {r : Record} {j : Nat} (h : j < keyCut T r.key) (hj : j < T.length) : nextJ T r (j + 1) = nextJ T r j ++ [T[j]] := by
  unfold nextJ
  rw [if_pos (by omega), if_pos (by omega), List.take_append_getElem hj]
theorem nextJ_at {T : List Pair} {r : Record} {j : Nat} (h : j = keyCut T r.key) (hj : j < T.length) : nextJ T r (j + 1) = nextJ T r j ++ (insK r ++ if keyIn T r.key = true then [] else [T[j]]) := by
  have e1 : nextJ T r (j + 1) = T.take j ++ (insK r ++ (T.take (j + 1)).drop (keyEnd T r.key)) := by
    unfold nextJ
    rw [if_neg (by omega), ← h]
  have e2 : nextJ T r j = T.take j := by
    unfold nextJ
    rw [if_pos (by omega)]
  rw [e1, e2]
  unfold keyEnd
  by_cases hf : keyIn T r.key = true
  · rw [if_pos hf, if_pos hf, ← h, List.drop_of_length_le (by rw [List.length_take]; omega)]
  · rw [if_neg hf, if_neg hf, ← h, ← List.take_append_getElem hj, List.drop_left' (by simp; omega)]
theorem nextJ_gt {T : List Pair} {r : Record} {j : Nat} (h : keyCut T r.key < j) (hj : j < T.length) : nextJ T r (j + 1) = nextJ T r j ++ [T[j]] := by
  have hE : keyEnd T r.key ≤ j := by unfold keyEnd; split <;> omega
  unfold nextJ
  rw [if_neg (by omega), if_neg (by omega), ← List.take_append_getElem hj, List.drop_append_of_le_length (by simp; omega)]
  simp
theorem nextJ_end (T : List Pair) (r : Record) : stepK T r = if doneJ T r T.length = true then nextJ T r T.length else nextJ T r T.length ++ [⟨r.key, r.text⟩] := by
  have hle := keyCut_le T r.key
  have hE := keyEnd_le T r.key
  rw [stepK_eq]
  unfold nextJ doneJ
  by_cases h : T.length ≤ keyCut T r.key
  · have hK : keyCut T r.key = T.length := by omega
    have hE2 : keyEnd T r.key = T.length := by
      have : keyCut T r.key ≤ keyEnd T r.key := by unfold keyEnd; split <;> omega
      omega
    rw [if_pos h, hK, hE2]
    unfold insK
    by_cases h2 : r.kind = 2
    · simp [h2]
    · simp [h2]
  · rw [if_neg h]
    have : keyCut T r.key < T.length := by omega
    simp [this]

theorem key_eq_iff {T : List Pair} (h : keysOk T) (s : List UInt8) {j : Nat} (hj : j < T.length) : T[j].key = s ↔ j = keyCut T s ∧ keyIn T s = true := by
  constructor
  · intro e
    have h1 : ¬ j < keyCut T s := fun g => by
      have := cut_before h s hj g
      rw [e] at this
      exact List.lt_irrefl _ this
    have h2 : ¬ keyEnd T s ≤ j := fun g => by
      have := cut_after h s hj g
      rw [e] at this
      exact List.lt_irrefl _ this
    unfold keyEnd at h2
    by_cases hf : keyIn T s = true
    · rw [if_pos hf] at h2
      exact ⟨by omega, hf⟩
    · rw [if_neg hf] at h2
      omega
  · rintro ⟨rfl, hf⟩
    exact (keyIn_at hf).2
theorem key_less_iff {T : List Pair} (h : keysOk T) (s : List UInt8) {j : Nat} (hj : j < T.length) : Op.bytesLess T[j].key s = true ↔ j < keyCut T s := by
  rw [bytesLess_lt, decide_eq_true_eq]
  constructor
  · intro g
    by_cases hK : j < keyCut T s
    · exact hK
    · exfalso
      by_cases hE : keyEnd T s ≤ j
      · exact List.lt_irrefl _ (List.lt_trans g (cut_after h s hj hE))
      · unfold keyEnd at hE
        by_cases hf : keyIn T s = true
        · rw [if_pos hf] at hE
          have e := (key_eq_iff h s hj).2 ⟨by omega, hf⟩
          rw [e] at g
          exact List.lt_irrefl _ g
        · rw [if_neg hf] at hE
          omega
  · exact cut_before h s hj
theorem step_ins {T : List Pair} (h : keysOk T) {r : Record} {j : Nat} (hj : j < T.length) (hd : doneJ T r j = false) (hb : Op.bytesLess T[j].key r.key = false) :
    doneJ T r (j + 1) = true ∧ nextJ T r (j + 1) = nextJ T r j ++ (⟨r.key, r.text⟩ :: if T[j].key = r.key then [] else [T[j]]) := by
  have h1 : ¬ j < keyCut T r.key := fun g => by rw [(key_less_iff h r.key hj).2 g] at hb; cases hb
  unfold doneJ at hd ⊢
  simp only [Bool.or_eq_false_iff, decide_eq_false_iff_not] at hd
  have hK : j = keyCut T r.key := by omega
  refine ⟨by simp; omega, ?_⟩
  rw [nextJ_at hK hj]
  have e : T[j].key = r.key ↔ keyIn T r.key = true := by rw [key_eq_iff h r.key hj]; simp [hK]
  simp [insK, hd.1, e]
theorem step_not {T : List Pair} (h : keysOk T) {r : Record} {j : Nat} (hj : j < T.length) (hb : doneJ T r j = false → Op.bytesLess T[j].key r.key = true) :
    doneJ T r (j + 1) = doneJ T r j ∧ nextJ T r (j + 1) = nextJ T r j ++ if T[j].key = r.key then [] else [T[j]] := by
  have hle := key_less_iff h r.key hj
  have heq := key_eq_iff h r.key hj
  rcases Nat.lt_trichotomy j (keyCut T r.key) with g | g | g
  · rw [nextJ_lt g hj, if_neg (fun e => by have := (heq.1 e).1; omega)]
    refine ⟨?_, rfl⟩
    unfold doneJ
    have a : ¬ keyCut T r.key < j := by omega
    have b : ¬ keyCut T r.key < j + 1 := by omega
    simp [a, b]
  · have hk2 : r.kind = 2 := by
      by_cases h2 : r.kind = 2
      · exact h2
      · have hd : doneJ T r j = false := by
          unfold doneJ
          simp [h2]
          omega
        have := hle.1 (hb hd)
        omega
    rw [nextJ_at g hj]
    have e : T[j].key = r.key ↔ keyIn T r.key = true := by rw [heq]; simp [← g]
    simp [insK, hk2, e, doneJ]
  · rw [nextJ_gt g hj, if_neg (fun e => by have := (heq.1 e).1; omega)]
    refine ⟨?_, rfl⟩
    unfold doneJ
    have b : keyCut T r.key < j + 1 := by omega
    simp [g, b]
theorem nextJ_len {T : List Pair} {r : Record} {j : Nat} : (nextJ T r j).length ≤ j + 1 := by
  unfold nextJ insK
  have hE : keyCut T r.key ≤ keyEnd T r.key := by unfold keyEnd; split <;> omega
  split
  · rw [List.length_take]; omega
  · rw [List.length_append, List.length_append, List.length_take, List.length_drop, List.length_take]
    split <;> simp <;> omega
theorem intRows_get (S : List Int) {i : Nat} (h : i < (intRows S).length) : (intRows S)[i] = [.int .i64 (S[i]'(by rw [intRows_len] at h; exact h))] := by simp [intRows]

theorem Pair.row_get (T : List Pair) {i : Nat} (h : i < (Pair.rows T).length) : (Pair.rows T)[i] = [.str (T[i]'(by rw [Pair.rows_len] at h; exact h)).key, .str (T[i]'(by rw [Pair.rows_len] at h; exact h)).text] := by simp [Pair.rows, Pair.cells]

theorem c_l30State (l : List Record) (n : Nat) (hn : n ≤ l.length) (hl : l.length ≤ 1048576) :
    HFn Tryz.prog 235 [.sl 3 (Record.rows l), .int .i64 n] [] (.sf 0 2) [some (.arr 2 (Pair.rows (stateF l (actL l n))))] := by
  refine hfn_intro hm Tryz.func235 (by kernel_rfl) rfl (by kernel_rfl) rfl (fun _ _ h => h) ?_
  simp
  refine CallZ.use (c_spec_l30Active l n hn hl) rfl (.inl rfl) rfl rfl ?_
  simp
  obtain ⟨S, hS⟩ : ∃ S, S = actL l n := ⟨_, rfl⟩
  have hSl : S.length ≤ l.length := by rw [hS]; have := actL_len l n; omega
  rw [← hS]
  refine loop_upto hm S.length (fun i => ⟨[(0, .sl 3 (Record.rows l)), (5, .sf 0 1), (7, .sf 1 2), (8, .int .i64 i)], [some (.arr 1 (intRows S)), some (.arr 2 (Pair.rows (stateF l (S.take i))))]⟩) (fun _ => True) (by kernel_rfl) ?_ trivial (fun i hi _ => ?_) (fun _ => ?_)
  · refine (weak_nil (t := 7) (z := 2) rfl).trans (Wk.weak (ρ := [0, 1]) (φ := []) ?_)
    simp [stateF, Pair.rows]
  · obtain ⟨k, hSk, hkl⟩ : ∃ k : Nat, S[i] = (k : Int) ∧ k < l.length := by
      subst hS
      obtain ⟨k, h1, h2⟩ := actL_at hi
      exact ⟨k, h1, by omega⟩
    have hok := stateF_ok l (S.take i)
    have hsc := stateF_succ l hi
    obtain ⟨T, hT⟩ : ∃ T, T = stateF l (S.take i) := ⟨_, rfl⟩
    rw [← hT] at hok hsc ⊢
    have hTl : T.length ≤ 1048576 := by have := hok.2; rw [List.length_take] at this; omega
    rw [hSk, Int.toNat_natCast, recAt_eq hkl] at hsc
    obtain ⟨r, hr⟩ : ∃ r, r = l[k] := ⟨_, rfl⟩
    rw [← hr] at hsc
    have hcell : l[k].cells = [.int .i64 r.kind, .str r.key, .str r.text] := by rw [← hr]; rfl
    have w1 : IntKind.i64.wrap ((i : Int) + 1) = (i : Int) + 1 := w64 (by omega) (by omega)
    simp [hi, intRows_get, intRows_len, hSk, hkl, Record.rows, hcell]
    refine loop_upto hm T.length (fun j => ⟨[(0, .sl 3 (Record.rows l)), (5, .sf 0 1), (7, .sf 1 2), (8, .int .i64 i), (9, .pb 2 0), (10, .sf 3 2), (11, .bool (doneJ T r j)), (12, .int .i64 j)], [some (.arr 1 (intRows S)), some (.arr 2 (Pair.rows T)), some (.box [.int .i64 r.kind, .str r.key, .str r.text]), some (.arr 2 (Pair.rows (nextJ T r j)))]⟩) (fun _ => True) (by kernel_rfl) ?_ trivial (fun j hj _ => ?_) (fun _ => ?_)
    · refine (weak_nil (t := 10) (z := 2) rfl).trans (Wk.weak (ρ := [0, 1, 2, 3]) (φ := []) ?_)
      simp [Record.rows, nextJ, doneJ, Pair.rows]
    · simp [hj, Pair.rows_len, Pair.row_get]
      have hnl := nextJ_len (T := T) (r := r) (j := j)
      have w2 : IntKind.i64.wrap ((j : Int) + 1) = (j : Int) + 1 := w64 (by omega) (by omega)
      refine ⟨fun hd hb => ?_, fun hb => ?_⟩
      · obtain ⟨n1, n2⟩ := step_ins hok.1 hj hd hb
        refine ⟨by simp [rowsOne], by omega, by omega, fun hne => ⟨by simp [rowsOne], by omega, by omega, Wk.weak (ρ := [0, 1, 2, 3]) (φ := []) ?_⟩, fun he => Wk.weak (ρ := [0, 1, 2, 3]) (φ := []) ?_⟩
        · rw [if_neg hne] at n2
          simp [w2, n1, n2, Record.rows, Pair.rows, Pair.cells]
        · rw [if_pos he] at n2
          simp [w2, n1, n2, Record.rows, Pair.rows, Pair.cells]
      · obtain ⟨n1, n2⟩ := step_not hok.1 hj hb
        refine ⟨fun hne => ⟨by simp [rowsOne], by omega, by omega, Wk.weak (ρ := [0, 1, 2, 3]) (φ := []) ?_⟩, fun he => Wk.weak (ρ := [0, 1, 2, 3]) (φ := []) ?_⟩
        · rw [if_neg hne] at n2
          simp [w2, n1, n2, Record.rows, Pair.rows, Pair.cells]
        · rw [if_pos he] at n2
          simp [w2, n1, n2, Record.rows, Pair.rows]
    · simp [Pair.rows_len]
      have hnl := nextJ_len (T := T) (r := r) (j := T.length)
      have hend := nextJ_end T r
      rw [← hsc] at hend
      refine ⟨fun hd => ⟨by simp [rowsOne], by omega, by omega, Wk.weak (ρ := [0, 3]) (φ := []) ?_⟩, fun hd => Wk.weak (ρ := [0, 3]) (φ := []) ?_⟩
      · rw [hd] at hend
        simp [w1, hend, Pair.rows, Pair.cells, Record.rows]
      · rw [if_pos hd] at hend
        simp [w1, hend, Pair.rows, Record.rows]
  · simp [intRows_len]
    refine Wk.weak (ρ := [1]) (φ := []) ?_
    simp
end Go.Proofs.YtnfjkfjbhdlphaaGreat
-- from Hf
namespace Go.Proofs.YtnfjkfjbhdlphaaGreat
open Go Go.Ab
set_option maxRecDepth 100000

/-- Whether a record may follow the first n. -/
def nextOk (l : List Record) (n : Nat) (r : Record) : Bool :=
  match act l n with
  | none => false
  | some S => if r.kind = 3 then decide (0 < S.length) else if r.kind = 1 then true else (stateF l S).any fun x => decide (x.key = r.key)
def ledgerOk (l : List Record) : Bool := decide (l.length ≤ 32) && (List.range l.length).all fun i => validRecord (recAt l i) && nextOk l i (recAt l i)
theorem any_keyIn {T : List Pair} (h : keysOk T) (s : List UInt8) : (T.any fun x => decide (x.key = s)) = keyIn T s := by
  cases hf : keyIn T s with
  | true =>
    obtain ⟨hlt, he⟩ := keyIn_at hf
    exact List.any_eq_true.2 ⟨_, List.getElem_mem hlt, by simpa using he⟩
  | false =>
    refine List.any_eq_false.2 fun x hx => ?_
    obtain ⟨i, hi, rfl⟩ := List.getElem_of_mem hx
    simpa using keyIn_not h hf hi
theorem stateF_take (l : List Record) (k : Nat) {S : List Int} (h : ∀ x ∈ S, 0 ≤ x ∧ x < k) : stateF (l.take k) S = stateF l S := by
  have : ∀ (S : List Int) (st : List Pair), (∀ x ∈ S, 0 ≤ x ∧ x < k) → S.foldl (fun st k' => stepK st (recAt (l.take k) k'.toNat)) st = S.foldl (fun st k' => stepK st (recAt l k'.toNat)) st := by
    intro S
    induction S with
    | nil => exact fun _ _ => rfl
    | cons x S ih =>
      intro st h
      have hx := h x (List.mem_cons_self ..)
      have e : recAt (l.take k) x.toNat = recAt l x.toNat := by
        unfold recAt
        rw [List.getD_eq_getElem?_getD, List.getD_eq_getElem?_getD, List.getElem?_take, if_pos (by omega)]
      rw [List.foldl_cons, List.foldl_cons, e]
      exact ih _ fun y hy => h y (List.mem_cons_of_mem _ hy)
  exact this S [] h
/-- The same, of the list's first n alone. -/
theorem actL_take (l : List Record) {n : Nat} (hn : n ≤ l.length) : actL (l.take n) (l.take n).length = actL l n ∧ stateF (l.take n) (actL l n) = stateF l (actL l n) := by
  have e : (l.take n).length = n := by rw [List.length_take]; omega
  refine ⟨by unfold actL; rw [e, act_take (Nat.le_refl _)], stateF_take l n fun x hx => ?_⟩
  cases h : act l n with
  | none => unfold actL at hx; simp [h] at hx
  | some S => rw [actL_some h] at hx; exact act_mem h x hx
theorem valid_kind {r : Record} (h : validRecord r = true) : r.kind = 1 ∨ r.kind = 2 ∨ r.kind = 3 := by
  unfold validRecord at h
  split at h
  · exact .inl ‹_›
  · split at h
    · exact .inr (.inl ‹_›)
    · simp only [Bool.and_eq_true, decide_eq_true_eq] at h
      exact .inr (.inr h.1.1)
/-- The first n are a ledger, but for their number. -/
def fineTo (l : List Record) (n : Nat) : Prop := ∀ i, i < n → validRecord (recAt l i) = true ∧ nextOk l i (recAt l i) = true
theorem fineTo_act {l : List Record} : ∀ {n : Nat}, fineTo l n → (act l n).isSome = true
  | 0, _ => rfl
  | n + 1, h => by
    obtain ⟨S, hS⟩ := Option.isSome_iff_exists.1 (fineTo_act (n := n) fun i hi => h i (by omega))
    have h2 := (h n (by omega)).2
    unfold nextOk at h2
    rw [hS] at h2
    simp only at h2
    rw [act_some hS]
    split
    · rfl
    · rename_i h3
      have h3 : (recAt l n).kind = 3 := by omega
      rw [if_pos h3] at h2
      rw [if_neg (by intro e; subst e; simp at h2)]
      rfl
theorem fineTo_kind {l : List Record} {n : Nat} (h : fineTo l n) (hn : n ≤ l.length) : ∀ r ∈ l.take n, r.kind = 1 ∨ r.kind = 2 ∨ r.kind = 3 := fun r hr => by
  obtain ⟨i, hi, rfl⟩ := List.getElem_of_mem hr
  rw [List.length_take] at hi
  have := (h i (by omega)).1
  rw [recAt_eq (by omega)] at this
  rw [List.getElem_take]
  exact valid_kind this
theorem ledgerOk_iff {l : List Record} : ledgerOk l = true ↔ l.length ≤ 32 ∧ fineTo l l.length := by
  unfold ledgerOk fineTo
  simp

theorem c_canFollow (l : List Record) (n : Nat) (hn : n ≤ l.length) (hl : l.length < 1048576) (hf : fineTo l n) (r : Record) (hr : validRecord r = true) :
    HFn Tryz.prog 158 [.sl 3 ((Record.rows l).take n), .agg r.cells] [] (.bool (nextOk l n r)) [] := by
  obtain ⟨S, hS⟩ := Option.isSome_iff_exists.1 (fineTo_act hf)
  have hSl := actL_some hS
  obtain ⟨e1, e2⟩ := actL_take l hn
  have hlen : (l.take n).length ≤ 1048576 := by rw [List.length_take]; omega
  have hrows : (Record.rows l).take n = Record.rows (l.take n) := by simp [Record.rows]
  have c1 := c_stateOf (l.take n) (by rw [List.length_take]; omega) (fineTo_kind hf hn)
  have c2 := c_impl_active (l.take n) hlen
  rw [e1, e2, hSl] at c1
  rw [e1, hSl] at c2
  have hok := stateF_ok l S
  have hSn := act_len hS
  have hk := valid_kind hr
  rw [hrows]
  refine hfn_intro hm Tryz.func158 (by kernel_rfl) rfl (by kernel_rfl) rfl ret0_ok ?_
  simp [Record.cells]
  refine ⟨fun h2 => ?_, fun h2 => ⟨fun h3 => ?_, fun h3 => ?_⟩⟩
  · refine CallZ.use c1 rfl (.inl rfl) rfl rfl ?_
    simp
    refine CallZ.use0 (c_pairAt (stateF l S) r.key (by omega) hok.1) rfl rfl ?_
    simp [nextOk, hS, h2, any_keyIn hok.1]
  · refine CallZ.use c2 rfl (.inl rfl) rfl rfl ?_
    simp [nextOk, hS, h3, intRows_len]
  · have h1 : r.kind = 1 := by omega
    simp [nextOk, hS, h1]

theorem c_l30Next (l : List Record) (n : Nat) (hn : n ≤ l.length) (hl : l.length < 1048576) (r : Record) (rows : List (List PV)) (i : Nat) (h : rows[i]? = some r.cells) :
    HFn Tryz.prog 210 [.sl 3 (Record.rows l), .int .i64 n, .pe 3 rows i 0] [] (.bool (nextOk l n r)) [] := by
  have hi : i < rows.length := (List.getElem?_eq_some_iff.1 h).1
  have hx : rows[i] = r.cells := by rw [List.getElem?_eq_getElem hi] at h; exact Option.some.inj h
  refine hfn_intro hm Tryz.func210 (by kernel_rfl) rfl (by kernel_rfl) rfl ret0_ok ?_
  rw [Record.cells] at h hx
  simp
  refine CallZ.use (c_spec_l30Active l n hn (by omega)) rfl (.inl rfl) rfl rfl ?_
  simp [hi, hx]
  refine ⟨fun h0 => ?_, fun h0 => ?_⟩
  · simp [nextOk, h0]
  obtain ⟨S, hS⟩ := Option.isSome_iff_exists.1 h0
  have hSl := actL_some hS
  have c1 := c_l30State l n hn (by omega)
  rw [hSl] at c1 ⊢
  have hok := stateF_ok l S
  have hSn := act_len hS
  refine ⟨fun h3 => ?_, fun h3 => ⟨fun h1 => ?_, fun h1 => ?_⟩⟩
  · simp [nextOk, hS, h3, intRows_len]
  · simp [nextOk, hS, h1]
  refine CallZ.use c1 rfl (.inl rfl) rfl rfl ?_
  simp
  have hnx : nextOk l n r = (stateF l S).any fun x => decide (x.key = r.key) := by simp [nextOk, hS, h1, h3]
  rw [hnx]
  obtain ⟨T, hT⟩ : ∃ T, T = stateF l S := ⟨_, rfl⟩
  rw [← hT] at hok ⊢
  refine loop_upto hm T.length (fun j => ⟨[(2, .pe 3 rows i 0), (9, .sf 0 2), (10, .int .i64 j)], [some (.arr 2 (Pair.rows T))]⟩) (fun j => ∀ m (hm' : m < T.length), m < j → ¬ T[m].key = r.key) (by kernel_rfl) ?_ (fun _ _ g => absurd g (by omega)) (fun j hj hI => ?_) (fun hI => ?_)
  · refine Wk.weak (ρ := [1]) (φ := []) ?_
    simp
  · have w1 : IntKind.i64.wrap ((j : Int) + 1) = (j : Int) + 1 := w64 (by omega) (by omega)
    simp [hj, hi, hx, Pair.rows_len, Pair.row_get]
    refine ⟨fun he => ⟨_, List.getElem_mem hj, he⟩, fun hne => ⟨fun m hm' hmj => ?_, ?_⟩⟩
    · by_cases e : m = j
      · subst e; exact hne
      · exact hI m hm' (by omega)
    · refine Wk.weak (ρ := [0]) (φ := []) ?_
      simp [w1]
  · simp [Pair.rows_len]
    intro x hx'
    obtain ⟨m, hm', rfl⟩ := List.getElem_of_mem hx'
    exact hI m hm' hm'

theorem rec_at {l : List Record} {i : Nat} (hi : i < l.length) : (Record.rows l)[i]? = some l[i].cells := by simp [Record.rows, hi]
theorem Record.row_get (T : List Record) {i : Nat} (h : i < (Record.rows T).length) : (Record.rows T)[i] = [.int .i64 (T[i]'(by rw [Record.rows_len] at h; exact h)).kind, .str (T[i]'(by rw [Record.rows_len] at h; exact h)).key, .str (T[i]'(by rw [Record.rows_len] at h; exact h)).text] := by simp [Record.rows, Record.cells]
theorem fineTo_succ {l : List Record} {i : Nat} (hi : i < l.length) (h : fineTo l i) (h1 : validRecord l[i] = true) (h2 : nextOk l i l[i] = true) : fineTo l (i + 1) := fun j hj => by
  by_cases e : j = i
  · subst e; rw [recAt_eq hi]; exact ⟨h1, h2⟩
  · exact h j (by omega)
theorem ledger_bad {l : List Record} {i : Nat} (hi : i < l.length) (h : ¬ (validRecord l[i] = true ∧ nextOk l i l[i] = true)) : ledgerOk l = false := by
  cases e : ledgerOk l with
  | false => rfl
  | true =>
    have := (ledgerOk_iff.1 e).2 i hi
    rw [recAt_eq hi] at this
    exact absurd this h

theorem c_impl_ValidLedger (l : List Record) (hl : l.length ≤ 1048576) (hw : ∀ x ∈ l, x.wf) :
    HFn Tryz.prog 83 [.sl 3 (Record.rows l)] [] (.bool (ledgerOk l)) [] := by
  refine hfn_intro hm Tryz.func83 (by kernel_rfl) rfl (by kernel_rfl) rfl ret0_ok ?_
  simp [Record.rows_len]
  refine ⟨fun h => ?_, fun h => ?_⟩
  · simp [ledgerOk]; omega
  have h32 : l.length ≤ 32 := by omega
  refine loop_upto hm l.length (fun i => ⟨[(0, .sl 3 (Record.rows l)), (8, .sl 3 (Record.rows l)), (9, .int .i64 l.length), (10, .int .i64 i)], []⟩) (fun i => fineTo l i) (by kernel_rfl) ?_ (fun _ g => absurd g (by omega)) (fun i hi hI => ?_) (fun hI => ?_)
  · refine Wk.weak (ρ := []) (φ := []) ?_
    simp
  · have w1 : IntKind.i64.wrap ((i : Int) + 1) = (i : Int) + 1 := w64 (by omega) (by omega)
    simp [hi, Record.rows_len, Record.row_get]
    refine CallZ.use0 (c_impl_ValidRecord l[i] (hw _ (List.getElem_mem hi))) rfl rfl ?_
    simp
    refine ⟨fun hv => ⟨hv, by rw [Record.rows_len]; omega⟩, CallY.use (res := .bool (nextOk l i l[i])) (fun hv => ⟨rfl, by simpa only [Record.cells] using c_canFollow l i (by omega) (by omega) hI l[i] hv⟩) rfl rfl ?_⟩
    simp
    refine ⟨fun hbad => ledger_bad hi (by grind), fun hv hn => ⟨fineTo_succ hi hI hv hn, Wk.weak (ρ := []) (φ := []) ?_⟩⟩
    simp [w1]
  · simp
    exact ledgerOk_iff.2 ⟨h32, hI⟩

theorem c_l30Ok (l : List Record) (hl : l.length ≤ 1048576) (hw : ∀ x ∈ l, x.wf) :
    HFn Tryz.prog 155 [.sl 3 (Record.rows l)] [] (.bool (ledgerOk l)) [] := by
  refine hfn_intro hm Tryz.func155 (by kernel_rfl) rfl (by kernel_rfl) rfl ret0_ok ?_
  simp [Record.rows_len]
  refine ⟨fun h => ?_, fun h => ?_⟩
  · simp [ledgerOk]; omega
  have h32 : l.length ≤ 32 := by omega
  refine loop_upto hm l.length (fun i => ⟨[(0, .sl 3 (Record.rows l)), (3, .int .i64 i)], []⟩) (fun i => fineTo l i) (by kernel_rfl) ?_ (fun _ g => absurd g (by omega)) (fun i hi hI => ?_) (fun hI => ?_)
  · refine Wk.weak (ρ := []) (φ := []) ?_
    simp
  · have w1 : IntKind.i64.wrap ((i : Int) + 1) = (i : Int) + 1 := w64 (by omega) (by omega)
    simp [hi, Record.rows_len]
    refine CallZ.use0 (c_l30One l[i] (hw _ (List.getElem_mem hi)) (Record.rows l) i (rec_at hi)) rfl rfl ?_
    simp
    refine ⟨fun hv => ⟨hv, by rw [Record.rows_len]; exact hi⟩, CallY.use (fun _ => ⟨rfl, c_l30Next l i (by omega) (by omega) l[i] (Record.rows l) i (rec_at hi)⟩) rfl rfl ?_⟩
    simp
    refine ⟨fun hbad => ledger_bad hi (by grind), fun hv hn => ⟨fineTo_succ hi hI hv hn, Wk.weak (ρ := []) (φ := []) ?_⟩⟩
    simp [w1]
  · simp [Record.rows_len]
    exact ledgerOk_iff.2 ⟨h32, hI⟩

end Go.Proofs.YtnfjkfjbhdlphaaGreat
-- from Hg
namespace Go.Proofs.YtnfjkfjbhdlphaaGreat
open Go Go.Ab
set_option maxRecDepth 100000

theorem Record.rowsOne (l : List Record) : rowsOne (Record.rows l) := fun r hr => by
  obtain ⟨x, _, rfl⟩ := List.mem_map.1 hr
  simp [Record.cells]
theorem ledgerOk_le {l : List Record} (h : ledgerOk l = true) : l.length ≤ 32 := (ledgerOk_iff.1 h).1

def acCode (l : List Record) : Int := if ledgerOk l = true then 0 else 1
def acL (l : List Record) : List Int := if ledgerOk l = true then actL l l.length else []
theorem acL_le (l : List Record) : (acL l).length ≤ l.length := by
  unfold acL
  split
  · exact actL_len l _
  · simp

def stCode (l : List Record) (n : Int) : Int := if ledgerOk l = true then (if 0 ≤ n ∧ n ≤ l.length then 0 else 2) else 1
def stL (l : List Record) (n : Int) : List Pair := if stCode l n = 0 then stateF l (actL l n.toNat) else []
theorem stL_le (l : List Record) (n : Int) : (stL l n).length ≤ l.length := by
  unfold stL
  split
  · rename_i h
    have h1 := (stateF_ok l (actL l n.toNat)).2
    have h2 := actL_len l n.toNat
    unfold stCode at h
    split at h
    · split at h
      · omega
      · cases h
    · cases h
  · simp

def arCode (l : List Record) (r : Record) : Int := if ledgerOk l = true then (if validRecord r = true then (if nextOk l l.length r = true then (if l.length = 32 then 5 else 0) else 6) else 2) else 1
def arL (l : List Record) (r : Record) : List Record := if arCode l r = 0 then l ++ [r] else []
theorem arL_le (l : List Record) (r : Record) : (arL l r).length ≤ l.length + 1 := by
  unfold arL
  split <;> simp

end Go.Proofs.YtnfjkfjbhdlphaaGreat
