/- Contracts: ChangesBetween, the program. -/
import Derived.Test.YtnphmemhejhooaaSf
import Derived.Test.YtnphmemhejhooaaSe
namespace Go.Proofs.Ytnphmemhejhooaa
open Go Go.Ab
set_option maxRecDepth 100000

theorem state_keys {S : List Pair} (h : stateOk S = true) : keysOk S := by
  have step : ∀ i (hi : i + 1 < S.length), S[i].key < S[i + 1].key := fun i hi => by
    have := List.all_eq_true.1 h (i + 1) (List.mem_range.2 hi)
    have e1 := List.getElem?_eq_getElem hi
    have e2 : S[i]? = some S[i] := List.getElem?_eq_getElem (by omega)
    simp [stAt, e1, e2] at this
    have h2 := this.2
    rw [bytesLess_lt] at h2
    simpa using h2
  have far : ∀ (d i : Nat) (hj : i + d + 1 < S.length), S[i].key < S[i + d + 1].key := fun d => by
    induction d with
    | zero => intro i hj; exact step i hj
    | succ d ih => intro i hj; exact lt_tr (ih i (by omega)) (step (i + d + 1) (by omega))
  intro i j hi hj hij
  have := far (j - i - 1) i (by omega)
  have e : i + (j - i - 1) + 1 = j := by omega
  simp only [e] at this
  exact this
theorem state_strict {S : List Pair} (h : stateOk S = true) : Strict (keysL S) := by
  have := keysOk_pw.1 (state_keys h)
  exact List.pairwise_map.2 this
theorem look_in {S : List Pair} (h : keysOk S) {s : List UInt8} (hf : keyIn S s = true) : ∃ hc : keyCut S s < S.length, S[keyCut S s].key = s ∧ look S s = some S[keyCut S s].text := by
  have hc : keyCut S s < S.length := foundG_lt hf
  have hk : S[keyCut S s].key = s := (key_eq_iff h s hc).2 ⟨rfl, hf⟩
  refine ⟨hc, hk, ?_⟩
  unfold look
  cases e : S.find? fun x => decide (x.key = s) with
  | none => exact absurd hk (by simpa using List.find?_eq_none.1 e _ (List.getElem_mem hc))
  | some x =>
    have h1 := List.find?_some e
    obtain ⟨j, hj, rfl⟩ := List.getElem_of_mem (List.mem_of_find?_eq_some e)
    have := (key_eq_iff h s hj).1 (by simpa using h1)
    obtain ⟨rfl, _⟩ := this
    rfl
theorem look_out {S : List Pair} (h : keysOk S) {s : List UInt8} (hf : keyIn S s = false) : look S s = none := look_none fun k hk => by
  obtain ⟨x, hx, rfl⟩ := List.mem_map.1 hk
  obtain ⟨j, hj, rfl⟩ := List.getElem_of_mem hx
  exact keyIn_not h hf hj

theorem flatMap_take {α β : Type} (f : α → List β) (l : List α) {i : Nat} (h : i < l.length) : (l.take (i + 1)).flatMap f = (l.take i).flatMap f ++ f l[i] := by
  rw [← List.take_append_getElem h, List.flatMap_append]
  simp
theorem chgF_len (a b : List Pair) (k : List UInt8) : (chgF a b k).length ≤ 1 := by
  unfold chgF
  split
  · simp
  · split <;> simp
theorem flat_le (a b : List Pair) : ∀ (l : List (List UInt8)), (l.flatMap (chgF a b)).length ≤ l.length
  | [] => by simp
  | k :: l => by
    have h1 := chgF_len a b k
    have h2 := flat_le a b l
    rw [List.flatMap_cons, List.length_append, List.length_cons]
    omega
theorem rowsOne_pairs (S : List Pair) : rowsOne (Pair.rows S) := fun r hr => by
  obtain ⟨x, _, rfl⟩ := List.mem_map.1 hr
  rfl
theorem strRows_getE (l : List (List UInt8)) {i : Nat} (h : i < (strRows l).length) : (strRows l)[i] = [PV.str (l[i]'(by simpa [strRows] using h))] := by simp [strRows]

set_option maxHeartbeats 4000000 in
theorem c_impl_ChangesBetween (a b : List Pair) (ha : a.length ≤ 1048576) (hb : b.length ≤ 1048576) (wa : ∀ x ∈ a, x.wf) (wb : ∀ x ∈ b, x.wf) :
    HFn Try.prog 35 [.sl 2 (Pair.rows a), .sl 2 (Pair.rows b)] [] (.tup [.sf 0 3, .int .i64 (chgCode a b)]) [some (.arr 3 (Record.rows (chgL a b)))] := by
  refine hfn_intro hm Try.func35 (by kernel_rfl) rfl (by kernel_rfl) rfl (fun _ _ h => h) ?_
  simp
  refine CallZ.use0 (c_impl_isState a (by omega) wa) rfl rfl ?_
  simp
  refine CallY.use (fun _ => ⟨rfl, c_impl_isState b (by omega) wb⟩) rfl rfl ?_
  simp
  refine ⟨fun h => ?_, fun h1 h2 => ?_⟩
  · refine (weak_nilT (t := 0) 0 3 rfl rfl).trans (Wk.weak (ρ := [0]) (φ := []) ?_)
    have hn : ¬ (stateOk a = true ∧ stateOk b = true) := by
      rintro ⟨g1, g2⟩
      rcases h with h | h
      · rw [g1] at h; cases h
      · rw [g2] at h; cases h
    simp [chgCode, chgL, hn, Record.rows]
  have hL : chgL a b = chg a b := if_pos ⟨h1, h2⟩
  have hC : chgCode a b = 0 := if_pos ⟨h1, h2⟩
  have ka := state_keys h1
  have kb := state_keys h2
  have hK := keysK_eq (state_strict h1) (state_strict h2)
  have hE : chg a b = (keysK a b).flatMap (chgF a b) := by rw [hK]; exact chg_eq a b (state_strict h1) (state_strict h2)
  rw [hL, hC, hE]
  have hap : Pair.rows a ++ Pair.rows b = Pair.rows (a ++ b) := by simp [Pair.rows]
  refine CallZ.use (c_ConcatPair (Pair.rows a) (Pair.rows b) (rowsOne_pairs a) (rowsOne_pairs b) (by simp only [Pair.rows_len]; omega)) rfl (.inr ⟨by rw [hap]; exact Pair.flat _, trivial⟩) rfl rfl ?_
  rw [hap]
  have hKd : keysK a b = Lib.compact (sortS (keysL (a ++ b))) := by simp [keysK, sortS, keysL]
  obtain ⟨ab, hab⟩ : ∃ ab, a ++ b = ab := ⟨_, rfl⟩
  have habl : ab.length ≤ 2097152 := by rw [← hab]; simp; omega
  rw [hab] at hKd ⊢
  simp [Pair.rows_len]
  refine loop_upto hm ab.length (fun i => ⟨[(0, .sl 2 (Pair.rows a)), (1, .sl 2 (Pair.rows b)), (6, .sf 1 1), (27, .sf 0 2), (28, .int .i64 ab.length), (29, .int .i64 i)], [some (.arr 2 (Pair.rows ab)), some (.arr 1 (strRows ((keysL ab).take i)))]⟩) (fun _ => True) (by kernel_rfl) ?_ trivial (fun i hi _ => ?_) (fun _ => ?_)
  · refine (weak_nil (t := 6) (z := 1) rfl).trans (Wk.weak (ρ := [1, 2]) (φ := []) ?_)
    simp [strRows]
  · have w1 : IntKind.i64.wrap ((i : Int) + 1) = (i : Int) + 1 := w64 (by omega) (by omega)
    have hs' : (keysL ab).take (i + 1) = (keysL ab).take i ++ [ab[i].key] := by
      rw [← List.take_append_getElem (by simpa [keysL] using hi)]
      simp [keysL]
    have hl : (strRows ((keysL ab).take i)).length ≤ 2097152 := by simp [strRows]; omega
    simp [hi, Pair.rows_len, Pair.row_get]
    refine ⟨by simp [rowsOne], by omega, by omega, Wk.weak (ρ := [0, 1]) (φ := []) ?_⟩
    simp [w1, hs', strRows]
  · have hall : (keysL ab).take ab.length = keysL ab := List.take_of_length_le (by simp [keysL])
    have hsl : (sortS (keysL ab)).length = ab.length := by rw [sortS, List.length_mergeSort]; simp [keysL]
    have hcl := compact_le (sortS (keysL ab))
    rw [hall]
    simp
    refine CallZ.useK 1 (c_SortString (keysL ab) (by simp [keysL]; omega)) rfl (by simp) rfl (by simp) rfl rfl ?_
    simp
    refine CallZ.useK 1 (c_CompactString (sortS (keysL ab)) (by omega)) rfl (by simp) rfl (by simp) rfl rfl ?_
    rw [← hKd] at hcl ⊢
    obtain ⟨K, hKK⟩ : ∃ K, keysK a b = K := ⟨_, rfl⟩
    obtain ⟨T, hT⟩ : ∃ T, K ++ List.replicate ((sortS (keysL ab)).length - K.length) [] = T := ⟨_, rfl⟩
    rw [hKK] at hcl ⊢
    have hTl : (strRows T).length = (sortS (keysL ab)).length := by rw [← hT]; simp [strRows]; omega
    have hTK : (strRows T).take K.length = strRows K := by rw [← hT]; simp [strRows]
    rw [hT]
    simp
    refine loop_upto hm K.length (fun i => ⟨[(0, .sl 2 (Pair.rows a)), (1, .sl 2 (Pair.rows b)), (9, .sf 0 3), (42, .sf 1 1), (43, .int .i64 K.length), (44, .int .i64 i)], [some (.arr 3 (Record.rows ((K.take i).flatMap (chgF a b)))), some (.arr 1 (strRows K))]⟩) (fun _ => True) (by kernel_rfl) ?_ trivial (fun i hi _ => ?_) (fun _ => ?_)
    · refine (weak_cut (t := 42) (k := 1) (z := 1) (len := K.length) (rows := strRows T) rfl rfl (by omega)).trans ((weak_nil (t := 9) (z := 3) rfl).trans (Wk.weak (ρ := [2, 1]) (φ := []) ?_))
      rw [hTK]
      simp [Record.rows]
    · have w1 : IntKind.i64.wrap ((i : Int) + 1) = (i : Int) + 1 := w64 (by omega) (by omega)
      have hkl : (strRows K).length = K.length := by simp [strRows]
      have hget : ∀ h, (strRows K)[i]'h = [PV.str K[i]] := fun h => strRows_getE K h
      have hf1 := flatMap_take (chgF a b) K hi
      obtain ⟨E, hE'⟩ : ∃ E, (K.take i).flatMap (chgF a b) = E := ⟨_, rfl⟩
      have hEl : (Record.rows E).length ≤ 2097152 := by
        have := flat_le a b (K.take i)
        rw [hE', List.length_take] at this
        rw [Record.rows_len]
        omega
      rw [hf1, hE']
      obtain ⟨k, hk⟩ : ∃ k, K[i] = k := ⟨_, rfl⟩
      simp only [hk] at hget ⊢
      simp (maxSteps := 2000000) [hi, hkl, hget]
      refine CallZ.use0 (c_pairAt a k (by omega) ka) rfl rfl ?_
      simp (maxSteps := 2000000)
      refine CallZ.use0 (c_pairAt b k (by omega) kb) rfl rfl ?_
      cases fb : keyIn b k with
      | false =>
        have lb := look_out kb fb
        simp (maxSteps := 2000000)
        refine ⟨by simp [rowsOne], by omega, by omega, Wk.weak (ρ := [0, 1]) (φ := []) ?_⟩
        simp [w1, chgF, lb, Record.rows, recDrop, Record.cells]
      | true =>
        obtain ⟨cb, eb, lb⟩ := look_in kb fb
        cases fa : keyIn a k with
        | false =>
          have la := look_out ka fa
          simp (maxSteps := 2000000) [Pair.rows_len, Pair.row_get, cb]
          refine ⟨by simp [rowsOne], by omega, by omega, Wk.weak (ρ := [0, 1]) (φ := []) ?_⟩
          simp [w1, chgF, lb, la, Record.rows, recSet, Record.cells]
        | true =>
          obtain ⟨ca, ea, la⟩ := look_in ka fa
          simp (maxSteps := 2000000) [Pair.rows_len, Pair.row_get, cb, ca]
          refine ⟨fun hne => ⟨by simp [rowsOne], by omega, by omega, Wk.weak (ρ := [0, 1]) (φ := []) ?_⟩, fun heq => Wk.weak (ρ := [0, 1]) (φ := []) ?_⟩
          · simp [w1, chgF, lb, la, hne, Record.rows, recSet, Record.cells]
          · simp [w1, chgF, lb, la, heq]
    · rw [List.take_length]
      simp
      exact Wk.weak (ρ := [0]) (φ := []) (by simp)
end Go.Proofs.Ytnphmemhejhooaa
