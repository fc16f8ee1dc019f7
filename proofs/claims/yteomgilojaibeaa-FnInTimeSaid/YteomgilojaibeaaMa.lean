/- The search for orders that can be done in time: what it finds, and what a choice is worth. No condition. -/
import Derived.Test.YteomgilojaibeaaGb
import Derived.Test.YteomgilojaibeaaDb
namespace Go.Proofs.Yteomgilojaibeaa
open Go Go.Ab
set_option maxRecDepth 100000

/-- The choice can be done in time. -/
def fitsT (l : List Order) (start : Int) (ks : List Int) : Bool := decide (delayOf l (sortL (dueOf l) ks) start ≤ 0)
/-- What a choice is worth: its number of orders; its prices. -/
def cntV (ks : List Int) : Int := ks.length
def prcAt (l : List Order) (k : Int) : Int := match l[k.toNat]? with
  | some x => priceOf x
  | none => 0
def prcV (l : List Order) (ks : List Int) : Int := ks.foldl (fun a k => a + prcAt l k) 0

/-- Rounds: the numbers from k on, i of them. -/
def rnds (f : Nat → Nat × List Int → Nat × List Int) (k : Nat) (a : Nat × List Int) : Nat → Nat × List Int
  | 0 => a
  | i + 1 => f (k + i) (rnds f k a i)
def pickT (V : List Int → Int) (c b : List Int) : Nat × List Int := if V b < V c then (1, c) else (0, b)
/-- The best choice behind the search from choice c with the numbers from k on; and where it stands: 0 the best one till then, 1 c itself, 2 a new one. -/
def srT (V : List Int → Int) (ok : List Int → Bool) (n : Nat) : Nat → List Int → Nat → List Int → Nat × List Int
  | 0, c, _, b => pickT V c b
  | N + 1, c, k, b => rnds (fun j a => if ok (c ++ [(j : Int)]) = true then (if (srT V ok n N (c ++ [(j : Int)]) (j + 1) a.2).1 = 0 then a.1 else 2, (srT V ok n N (c ++ [(j : Int)]) (j + 1) a.2).2) else a) k (pickT V c b) (n - k)
theorem rnds_tag {f : Nat → Nat × List Int → Nat × List Int} {k : Nat} {a : Nat × List Int} (ha : a.1 ≤ 2) (hf : ∀ j a, a.1 ≤ 2 → (f j a).1 ≤ 2) : ∀ i, (rnds f k a i).1 ≤ 2
  | 0 => ha
  | i + 1 => hf _ _ (rnds_tag ha hf i)
theorem pickT_tag (V : List Int → Int) (c b : List Int) : (pickT V c b).1 ≤ 2 := by unfold pickT; split <;> simp
theorem srT_tag (V : List Int → Int) (ok : List Int → Bool) (n : Nat) : ∀ (N : Nat) (c : List Int) (k : Nat) (b : List Int), (srT V ok n N c k b).1 ≤ 2
  | 0, c, _, b => pickT_tag V c b
  | N + 1, c, k, b => by
    refine rnds_tag (pickT_tag V c b) (fun j a ha => ?_) _
    split
    · simp only
      split <;> omega
    · exact ha
/-- A choice behind which the search goes on with number k. -/
def Frm (n : Nat) (c : List Int) (k : Nat) : Prop := k ≤ n ∧ c.length ≤ k ∧ (∀ x ∈ c, 0 ≤ x ∧ x < n) ∧ (c = [] ∧ k = 0 ∨ ∃ R j, k = j + 1 ∧ c = R ++ [(j : Int)])
theorem Frm.nil (n : Nat) : Frm n [] 0 := ⟨Nat.zero_le _, Nat.le_refl _, by simp, .inl ⟨rfl, rfl⟩⟩
theorem Frm.next {n : Nat} {c : List Int} {k j : Nat} (h : Frm n c k) (h1 : k ≤ j) (h2 : j < n) : Frm n (c ++ [(j : Int)]) (j + 1) := by
  obtain ⟨g1, g2, g3, _⟩ := h
  refine ⟨by omega, by simp; omega, fun x hx => ?_, .inr ⟨c, j, rfl, rfl⟩⟩
  rcases List.mem_append.1 hx with hx | hx
  · exact g3 x hx
  · rw [List.mem_singleton.1 hx]; omega
theorem srT_mem {V : List Int → Int} {ok : List Int → Bool} {n : Nat} {Q : List Int → Prop} : ∀ (N : Nat) (c : List Int) (k : Nat) (b : List Int), Frm n c k → (∀ c k, Frm n c k → Q c) → Q b → Q (srT V ok n N c k b).2
  | 0, c, k, b, hc, hQ, hb => by
    show Q (pickT V c b).2
    unfold pickT
    split
    · exact hQ c k hc
    · exact hb
  | N + 1, c, k, b, hc, hQ, hb => by
    have key : ∀ i, i ≤ n - k → Q (rnds (fun j a => if ok (c ++ [(j : Int)]) = true then (if (srT V ok n N (c ++ [(j : Int)]) (j + 1) a.2).1 = 0 then a.1 else 2, (srT V ok n N (c ++ [(j : Int)]) (j + 1) a.2).2) else a) k (pickT V c b) i).2 := fun i => by
      induction i with
      | zero =>
        intro _
        show Q (pickT V c b).2
        unfold pickT
        split
        · exact hQ c k hc
        · exact hb
      | succ i ih =>
        intro hi
        have h1 := ih (by omega)
        show Q (ite _ _ _ : Nat × List Int).2
        split
        · exact srT_mem N _ _ _ (hc.next (Nat.le_add_right k i) (by omega)) hQ h1
        · exact h1
    exact key _ (Nat.le_refl _)

theorem valid_len {l : List Order} (h : validOrders l = true) : l.length ≤ 12 := by
  unfold validOrders at h
  simp only [Bool.and_eq_true, decide_eq_true_eq] at h
  omega
theorem inL_of {l : List Order} {c : List Int} {k : Nat} (h : Frm l.length c k) : InL l c := h.2.2.1
theorem fits_seq {l : List Order} {start : Int} (hv : validOrders l = true) (h0 : 0 ≤ start) (h1 : start ≤ 10000) {c : List Int} (hc : InL l c) : SeqOk l (sortL (dueOf l) c) start := seqOk_of_in hv (fun x hx => hc x (sortL_mem hx)) h0 h1

theorem price_le {l : List Order} (hv : validOrders l = true) (k : Int) : 0 ≤ prcAt l k ∧ prcAt l k ≤ 1000000000 := by
  unfold prcAt
  split
  · rename_i x hx
    have := valid_mem hv (List.mem_of_getElem? hx)
    simp [validOrder] at this
    unfold priceOf
    omega
  · omega
theorem prcV_succ (l : List Order) (c : List Int) {i : Nat} (hi : i < c.length) : prcV l (c.take (i + 1)) = prcV l (c.take i) + prcAt l c[i] := by
  unfold prcV
  rw [← List.take_append_getElem hi, List.foldl_append]
  rfl
theorem prcV_le {l : List Order} (hv : validOrders l = true) (c : List Int) : ∀ i, i ≤ c.length → 0 ≤ prcV l (c.take i) ∧ prcV l (c.take i) ≤ i * 1000000000
  | 0, _ => by simp [prcV]
  | i + 1, hi => by
    have h1 := prcV_le hv c i (by omega)
    have h2 := price_le hv (c[i]'(by omega))
    rw [prcV_succ l c (by omega)]
    omega

theorem c_sizeV (c : List Int) : HFn Try.prog 85 ([.sl 1 (intRows c)] ++ []) [] (.int .i64 (cntV c)) [] := by
  refine hfn_intro hm Try.func85 (by kernel_rfl) rfl (by kernel_rfl) rfl ret0_ok ?_
  simp
  refine CallZ.use0 (c_sizeInt c) rfl rfl ?_
  simp [cntV]
theorem c_prices {l : List Order} (hv : validOrders l = true) {c : List Int} (hc : InL l c) (hn : c.length ≤ 1000) : HFn Try.prog 89 [.sl 5 (Order.rows l), .sl 1 (intRows c)] [] (.int .i64 (prcV l c)) [] := by
  refine hfn_intro hm Try.func89 (by kernel_rfl) rfl (by kernel_rfl) rfl ret0_ok ?_
  simp
  refine loop_upto hm c.length (fun i => ⟨[(0, .sl 5 (Order.rows l)), (5, .int .i64 (prcV l (c.take i))), (8, .sl 1 (intRows c)), (9, .int .i64 c.length), (10, .int .i64 i)], []⟩) (fun _ => True) (by kernel_rfl) ?_ trivial (fun i hi _ => ?_) (fun _ => ?_)
  · exact Wk.weak (ρ := []) (φ := []) (by simp [prcV, intRows_len])
  · have hk := hc c[i] (List.getElem_mem hi)
    have hkl : c[i].toNat < l.length := by omega
    have hp := prcV_le hv c i (by omega)
    have hq := price_le hv c[i]
    have hs := prcV_succ l c hi
    have ha : prcAt l c[i] = priceOf l[c[i].toNat] := by simp [prcAt, hkl]
    have w1 : IntKind.i64.wrap ((i : Int) + 1) = (i : Int) + 1 := w64 (by omega) (by omega)
    rw [ha] at hq hs
    have w2 : IntKind.i64.wrap (prcV l (c.take i) + priceOf l[c[i].toNat]) = prcV l (c.take i) + priceOf l[c[i].toNat] := w64 (by omega) (by omega)
    simp [intRows, hi, Order.rows, Order.cells, hkl]
    refine ⟨⟨hk.1, by omega⟩, ?_⟩
    have hpr := c_price l[c[i].toNat] (valid_mem hv (List.getElem_mem hkl))
    rw [Order.cells] at hpr
    refine CallZ.use0 hpr rfl rfl ?_
    simp
    refine Wk.weak (ρ := []) (φ := []) ?_
    simp [w1, w2, hs]
  · rw [List.take_length]
    simp [intRows_len]
theorem c_prcV {l : List Order} (hv : validOrders l = true) {c : List Int} (hc : InL l c) (hn : c.length ≤ 1000) : HFn Try.prog 88 ([.sl 1 (intRows c)] ++ [.pe 1 [[.sl 5 (Order.rows l)]] 0 0]) [] (.int .i64 (prcV l c)) [] := by
  refine hfn_intro hm Try.func88 (by kernel_rfl) rfl (by kernel_rfl) rfl ret0_ok ?_
  simp
  refine CallZ.use0 (c_prices hv hc hn) rfl rfl ?_
  simp
end Go.Proofs.Yteomgilojaibeaa
