/- Contracts: the state after records: one step. -/
import Derived.Test.YtnphmemhejhooaaHb
namespace Go.Proofs.Ytnphmemhejhooaa
open Go Go.Ab
set_option maxRecDepth 100000

theorem keysOk_pw {S : List Pair} : keysOk S ↔ S.Pairwise fun a b => a.key < b.key := by
  rw [List.pairwise_iff_getElem]
  exact ⟨fun h i j hi hj hij => h i j hi hj hij, fun h i j hi hj hij => h i j hi hj hij⟩
/-- Where what is greater begins. -/
def keyEnd (S : List Pair) (s : List UInt8) : Nat := if keyIn S s = true then keyCut S s + 1 else keyCut S s
def stepK (S : List Pair) (r : Record) : List Pair := S.take (keyCut S r.key) ++ ((if r.kind = 2 then [] else [⟨r.key, r.text⟩]) ++ S.drop (keyEnd S r.key))
theorem keyCut_le (S : List Pair) (s : List UInt8) : keyCut S s ≤ S.length := List.findIdx_le_length
theorem keyEnd_le (S : List Pair) (s : List UInt8) : keyEnd S s ≤ S.length := by
  unfold keyEnd
  split
  · rename_i h; exact foundG_lt h
  · exact keyCut_le S s
theorem cut_before {S : List Pair} (h : keysOk S) (s : List UInt8) {i : Nat} (hi : i < S.length) (hk : i < keyCut S s) : S[i].key < s := by
  have := (cutG_cut (keys_order h s)).lo i hk
  rw [cAt_eq hi, cmpS_neg, bytesLess_lt] at this
  simpa using this
theorem keyIn_at {S : List Pair} {s : List UInt8} (h : keyIn S s = true) : ∃ h : keyCut S s < S.length, S[keyCut S s].key = s := by
  have hl := foundG_lt h
  refine ⟨hl, ?_⟩
  unfold keyIn at h
  rw [foundG_at] at h
  simp only [Bool.and_eq_true, decide_eq_true_eq] at h
  have h2 := h.2
  rw [cAt_eq hl, cmpS_zero] at h2
  exact h2
theorem keyIn_not {S : List Pair} (h : keysOk S) {s : List UInt8} (hf : keyIn S s = false) {i : Nat} (hi : i < S.length) : S[i].key ≠ s := fun e => by
  have h1 := findG_eq (keys_order h s)
  have h2 : foundG S (fun x => cmpS x.key s) = false := hf
  rw [h2, if_neg (by simp)] at h1
  have h3 : decide (0 ≤ findI (fun x : Pair => decide (cmpS x.key s = 0)) S) = S.any fun x => decide (cmpS x.key s = 0) := findI_any
  have h4 : S.any (fun x => decide (cmpS x.key s = 0)) = true := List.any_eq_true.2 ⟨S[i], List.getElem_mem hi, by simpa [cmpS_zero] using e⟩
  rw [h4] at h3
  have h5 : findG S (fun x => cmpS x.key s) = findI (fun x : Pair => decide (cmpS x.key s = 0)) S := rfl
  rw [← h5, h1] at h3
  simp at h3
theorem cut_after {S : List Pair} (h : keysOk S) (s : List UInt8) {i : Nat} (hi : i < S.length) (hk : keyEnd S s ≤ i) : s < S[i].key := by
  unfold keyEnd at hk
  cases hf : keyIn S s with
  | true =>
    rw [hf, if_pos rfl] at hk
    obtain ⟨hl, he⟩ := keyIn_at hf
    have := h (keyCut S s) i hl hi (by omega)
    rwa [he] at this
  | false =>
    rw [hf, if_neg (by simp)] at hk
    have h1 := (cutG_cut (keys_order h s)).hi i hk hi
    rw [cAt_eq hi] at h1
    have h2 := keyIn_not h hf hi
    have h3 : ¬ S[i].key < s := fun g => by
      have : cmpS S[i].key s < 0 := by rw [cmpS_neg, bytesLess_lt]; simpa using g
      omega
    rcases Std.lt_trichotomy S[i].key s with g | g | g
    · exact absurd g h3
    · exact absurd g h2
    · exact g
theorem stepK_len (S : List Pair) (r : Record) : (stepK S r).length ≤ S.length + 1 := by
  have h1 := keyCut_le S r.key
  have h2 := keyEnd_le S r.key
  have h3 : keyCut S r.key ≤ keyEnd S r.key := by unfold keyEnd; split <;> omega
  unfold stepK
  rw [List.length_append, List.length_append, List.length_take, List.length_drop]
  split <;> simp <;> omega
theorem stepK_keys {S : List Pair} (h : keysOk S) (r : Record) : keysOk (stepK S r) := by
  rw [keysOk_pw]
  have hp := keysOk_pw.1 h
  have hb : ∀ x ∈ S.take (keyCut S r.key), x.key < r.key := fun x hx => by
    obtain ⟨i, hi, rfl⟩ := List.getElem_of_mem hx
    rw [List.length_take] at hi
    rw [List.getElem_take]
    exact cut_before h r.key (by omega) (by omega)
  have ha : ∀ x ∈ S.drop (keyEnd S r.key), r.key < x.key := fun x hx => by
    obtain ⟨i, hi, rfl⟩ := List.getElem_of_mem hx
    rw [List.length_drop] at hi
    rw [List.getElem_drop]
    exact cut_after h r.key (by omega) (by omega)
  unfold stepK
  rw [List.pairwise_append]
  refine ⟨hp.sublist (List.take_sublist _ _), ?_, fun a ha' b hb' => ?_⟩
  · split
    · simpa using hp.sublist (List.drop_sublist _ _)
    · rw [List.singleton_append, List.pairwise_cons]
      exact ⟨fun x hx => ha x hx, hp.sublist (List.drop_sublist _ _)⟩
  · have h1 := hb a ha'
    rcases List.mem_append.1 hb' with g | g
    · split at g
      · simp at g
      · simp at g; subst g; exact h1
    · exact List.lt_trans h1 (ha b g)

/-- The state after those of the records whose indices are S. -/
def stateF (l : List Record) (S : List Int) : List Pair := S.foldl (fun st k => stepK st (recAt l k.toNat)) []
theorem stateF_succ (l : List Record) {S : List Int} {i : Nat} (hi : i < S.length) : stateF l (S.take (i + 1)) = stepK (stateF l (S.take i)) (recAt l S[i].toNat) := by
  rw [← List.take_append_getElem hi]
  unfold stateF
  rw [List.foldl_append]
  rfl
theorem stateF_ok (l : List Record) (S : List Int) : keysOk (stateF l S) ∧ (stateF l S).length ≤ S.length := by
  have : ∀ (S : List Int) (st : List Pair), keysOk st → keysOk (S.foldl (fun st k => stepK st (recAt l k.toNat)) st) ∧ (S.foldl (fun st k => stepK st (recAt l k.toNat)) st).length ≤ st.length + S.length := by
    intro S
    induction S with
    | nil => exact fun st h => ⟨h, by simp⟩
    | cons k S ih =>
      intro st h
      have := ih (stepK st (recAt l k.toNat)) (stepK_keys h _)
      have hl := stepK_len st (recAt l k.toNat)
      rw [List.foldl_cons]
      exact ⟨this.1, by have := this.2; rw [List.length_cons]; omega⟩
  have h := this S [] (fun i j hi => by simp at hi)
  exact ⟨h.1, by have h2 := h.2; rw [List.length_nil, Nat.zero_add] at h2; exact h2⟩
end Go.Proofs.Ytnphmemhejhooaa
