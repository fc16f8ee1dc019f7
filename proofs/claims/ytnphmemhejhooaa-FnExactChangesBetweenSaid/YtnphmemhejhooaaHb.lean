/- Contracts: keys of a state. -/
import Derived.Test.YtnphmemhejhooaaHa
import Derived.Test.YtnphmemhejhooaaAcj
import Derived.Test.YtnphmemhejhooaaEc
import Derived.Test.YtnphmemhejhooaaTPair
import Derived.Test.YtnphmemhejhooaaLPair
namespace Go.Proofs.Ytnphmemhejhooaa
open Go Go.Ab
set_option maxRecDepth 100000

theorem cmpBytes_eq : ∀ (a b : List UInt8), Lib.compareBytes a b = cmpS a b
  | [], [] => by simp [Lib.compareBytes, cmpS, Op.bytesLess]
  | [], y :: b => by simp [Lib.compareBytes, cmpS, Op.bytesLess]
  | x :: a, [] => by simp [Lib.compareBytes, cmpS, Op.bytesLess]
  | x :: a, y :: b => by
    have ih := cmpBytes_eq a b
    unfold cmpS at ih ⊢
    rw [Lib.compareBytes, Op.bytesLess]
    by_cases h1 : x < y
    · simp [h1]
    · by_cases h2 : y < x
      · have h3 : ¬ x = y := fun e => by subst e; exact h1 h2
        simp [h1, h2, h3]
      · have h3 : x = y := by
          have := UInt8.le_antisymm (UInt8.not_lt.1 h2) (UInt8.not_lt.1 h1)
          exact this
        subst h3
        simp [h1, ih]

theorem c_CompareString (a b : List UInt8) : HFn Try.prog 197 [.str a, .str b] [] (.int .i64 (cmpS a b)) [] := by
  refine hfn_intro hm Try.func197 (by kernel_rfl) rfl (by kernel_rfl) rfl ret0_ok ?_
  simp
  refine CallZ.use0 (hfn_cmpstring Try.func237 (by kernel_rfl) (by kernel_rfl) (by kernel_rfl) (by kernel_rfl) a b) rfl rfl ?_
  simp [cmpBytes_eq]
theorem c_stringsCompare (a b : List UInt8) : HFn Try.prog 149 [.str a, .str b] [] (.int .i64 (cmpS a b)) [] := by
  refine hfn_intro hm Try.func149 (by kernel_rfl) rfl (by kernel_rfl) rfl ret0_ok ?_
  simp
  refine CallZ.use0 (c_CompareString a b) rfl rfl ?_
  simp
theorem c_pairAt1 (x : Pair) (s : List UInt8) : HFn Try.prog 148 [.agg x.cells, .str s] [] (.int .i64 (cmpS x.key s)) [] := by
  refine hfn_intro hm Try.func148 (by kernel_rfl) rfl (by kernel_rfl) rfl ret0_ok ?_
  simp [Pair.cells]
  refine CallZ.use0 (c_stringsCompare _ _) rfl rfl ?_
  simp

theorem c_BSearchPair (l : List Pair) (s : List UInt8) (c : Nat → Int) (p : Nat) (hl : l.length ≤ 1048576) (hp : Cut l.length c p) (hc : ∀ i (h : i < l.length), c i = cmpS l[i].key s) :
    HFn Try.prog 147 [.sl 2 (Pair.rows l), .str s, .fn 148 []] [] (.tup [.int .i64 p, .bool (decide (p < l.length) && decide (c p = 0))]) [] := by
  refine hfn_intro hm Try.func147 (by kernel_rfl) rfl (by kernel_rfl) rfl ret0_ok ?_
  simp
  refine loop_rule hm (ι := {x : Nat × Nat // x.1 ≤ p ∧ p ≤ x.2 ∧ x.2 ≤ l.length}) (fun x => ⟨[(0, .sl 2 (Pair.rows l)), (1, .str s), (2, .fn 148 []), (8, .int .i64 l.length), (9, .int .i64 x.1.1), (10, .int .i64 x.1.2)], []⟩) (fun x => x.1.2 - x.1.1) (by kernel_rfl) ⟨(0, l.length), by have := hp.le; omega⟩ ?_ ?_
  · refine Wk.weak (ρ := []) (φ := []) ?_
    simp [Pair.rows]
  · rintro ⟨⟨i, j⟩, h1, h2, h3⟩
    simp only at h1 h2 h3 ⊢
    by_cases hij : i < j
    · obtain ⟨k, hk⟩ : ∃ k, k = (i + j) / 2 := ⟨_, rfl⟩
      have hmid := mid_eq i j (by omega)
      rw [← hk] at hmid
      have hm1 : k < l.length := by omega
      have hw1 : IntKind.i64.wrap ((k : Int) + 1) = ((k + 1 : Nat) : Int) := by rw [w64 (by omega) (by omega)]; omega
      simp [hmid, hij, Pair.rows, Pair.cells, hm1]
      refine CallZ.use0 (c_pairAt1 l[k] s) rfl rfl ?_
      have c1 := hp.lo k
      have c2 := hp.hi k
      rw [hc k hm1] at c1 c2
      simp
      refine ⟨fun h => ?_, fun h => ?_⟩
      · refine ⟨k + 1, j, Wk.weak (ρ := []) (φ := []) ?_, by omega, by omega⟩
        simp [hw1]
      · refine ⟨i, k, Wk.weak (ρ := []) (φ := []) ?_, by omega, by omega⟩
        simp
    · obtain rfl : i = p := by omega
      obtain rfl : i = j := by omega
      simp
      by_cases hip : i < l.length
      · simp [Pair.rows, Pair.cells, hip]
        refine CallY.use (res := .int .i64 (cmpS l[i].key s)) (fun _ => ⟨rfl, c_pairAt1 l[i] s⟩) rfl rfl ?_
        simp [hc i hip]
      · simp [Pair.rows, hip]
        refine CallY.use (res := .int .i64 0) (fun h => absurd h (by simp)) rfl rfl ?_
        simp

/-! ### States: keys in order -/
def keysOk (S : List Pair) : Prop := ∀ i j (hi : i < S.length) (hj : j < S.length), i < j → S[i].key < S[j].key
theorem keys_order {S : List Pair} (h : keysOk S) (s : List UInt8) : InOrder S fun x => cmpS x.key s := fun i j hi hj hij hle => by
  have h1 := h i j hi hj hij
  simp only at hle ⊢
  rw [cmpS_neg, bytesLess_lt]
  by_cases e : S[j].key = s
  · rw [e] at h1; simpa using h1
  · have h2 : cmpS S[j].key s < 0 := by
      have := mt cmpS_zero.1 e
      omega
    rw [cmpS_neg, bytesLess_lt] at h2
    simpa using List.lt_trans h1 (by simpa using h2)
def keyCut (S : List Pair) (s : List UInt8) : Nat := cutG S fun x => cmpS x.key s
def keyIn (S : List Pair) (s : List UInt8) : Bool := foundG S fun x => cmpS x.key s

theorem c_pairAt (S : List Pair) (s : List UInt8) (hl : S.length ≤ 1048576) (h : keysOk S) :
    HFn Try.prog 91 [.sl 2 (Pair.rows S), .str s] [] (.tup [.int .i64 (keyCut S s), .bool (keyIn S s)]) [] := by
  refine hfn_intro hm Try.func91 (by kernel_rfl) rfl (by kernel_rfl) rfl ret0_ok ?_
  simp
  refine CallZ.use0 (c_BSearchPair S s (cAt S fun x => cmpS x.key s) (keyCut S s) hl (cutG_cut (keys_order h s)) (fun i hi => cAt_eq hi)) rfl rfl ?_
  simp [keyIn, foundG_at, keyCut]
  rfl
end Go.Proofs.Ytnphmemhejhooaa
