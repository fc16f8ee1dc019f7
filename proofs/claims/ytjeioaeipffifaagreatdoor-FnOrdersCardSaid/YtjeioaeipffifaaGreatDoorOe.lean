/- Contracts: orders read back from their texts. No condition. -/
import Derived.Test.YtjeioaeipffifaaGreatDoorOd
import Derived.Test.YtjeioaeipffifaaGreatDoorJe
namespace Go.Proofs.YtjeioaeipffifaaGreatDoor
open Go Go.Ab
set_option maxRecDepth 100000

theorem len_three {α : Type} {l : List α} (h : l.length = 3) : ∃ a b c, l = [a, b, c] := by
  match l, h with
  | [a, b, c], _ => exact ⟨a, b, c, rfl⟩
theorem spl_mem {c : UInt8} : ∀ {s : List UInt8}, ∀ x ∈ spl c s, c ∉ x
  | [], x, hx => by simp [spl] at hx; simp [hx]
  | b :: r, x, hx => by
    rw [spl_cons] at hx
    split at hx
    · rcases List.mem_cons.1 hx with rfl | hx
      · simp
      · exact spl_mem x hx
    · rename_i hb
      split at hx
      · rename_i y t e
        rcases List.mem_cons.1 hx with rfl | hx
        · intro h
          rcases List.mem_cons.1 h with h | h
          · exact hb h.symm
          · exact spl_mem y (by rw [e]; simp) h
        · exact spl_mem x (by rw [e]; simp [hx])
      · rename_i e
        exact absurd e (spl_ne _ _)
theorem noteT_free {n : Int} (_h0 : 0 ≤ n) : 32 ∉ noteT n := fun h => by
  unfold noteT at h
  rcases List.mem_append.1 h with h | h
  · have hk : n.toNat % 12 < 12 := Nat.mod_lt _ (by omega)
    have key : ∀ k, k < 12 → ¬ (32 : UInt8) ∈ noteNames.getD k [] := by decide
    exact key _ hk h
  · exact itoa_free (by decide) (by decide) h
theorem listT_free (l : List Int) : 32 ∉ listT l := fun h => by
  have hj : ∀ xs : List (List UInt8), (∀ x ∈ xs, (32 : UInt8) ∉ x) → (32 : UInt8) ∉ Lib.join xs [44] := fun xs => by
    induction xs with
    | nil => intro _ h; simp [Lib.join_nil] at h
    | cons x t ih =>
      intro hx h
      cases t with
      | nil => rw [join_one] at h; exact hx x (by simp) h
      | cons y t =>
        rw [join_two] at h
        rcases List.mem_append.1 h with h | h
        · rcases List.mem_append.1 h with h | h
          · exact hx x (by simp) h
          · simp at h
        · exact ih (fun z hz => hx z (by simp [hz])) h
  unfold listT at h
  split at h
  · simp at h
  · refine hj _ (fun x hx => ?_) h
    obtain ⟨v, _, rfl⟩ := List.mem_map.1 hx
    exact itoa_free (by decide) (by decide)
theorem orderT_join (x : Order) : orderT x = Lib.join [x.id, noteT x.note, listT [x.mass, x.days, x.due]] [32] := by
  rw [join_two, join_two, join_one]
  unfold orderT
  simp

/-- The order with a text. -/
def ordOf (w : List UInt8) (n : Int) (l : List Int) : Order := ⟨w, l.getD 0 0, n, l.getD 1 0, l.getD 2 0⟩
def orderR (s : List UInt8) : Option Order := match spl 32 s with
  | [w0, w1, w2] => match noteR w1, listR w2 with
    | some n, some l => if l.length = 3 ∧ validOrder (ordOf w0 n l) = true then some (ordOf w0 n l) else none
    | _, _ => none
  | _ => none
def zeroOrder : Order := ⟨[], 0, 0, 0, 0⟩
@[simp] def orderRP (s : List UInt8) : PV := .tup [.agg ((orderR s).getD zeroOrder).cells, .bool (orderR s).isSome]

theorem ordOf_text {s w0 w1 w2 : List UInt8} {n : Nat} {l : List Int} (hs : spl 32 s = [w0, w1, w2]) (hn : noteR w1 = some n) (hl : listR w2 = some l) (h3 : l.length = 3) : orderT (ordOf w0 n l) = s := by
  obtain ⟨_, e1⟩ := noteR_text hn
  obtain ⟨_, e2⟩ := listR_text hl
  have e3 : [l.getD 0 0, l.getD 1 0, l.getD 2 0] = l := by
    obtain ⟨a, b, c, rfl⟩ := len_three h3
    rfl
  rw [orderT_join]
  simp only [ordOf]
  rw [e1, e3, e2, ← hs, join_spl]
theorem note_none {s w0 w1 w2 : List UInt8} {l : List Int} (hs : spl 32 s = [w0, w1, w2]) (hn : noteR w1 = none) : ¬ orderT (ordOf w0 0 l) = s := fun h => by
  rw [orderT_join] at h
  have hp := spl_join (c := 32) (xs := [(ordOf w0 0 l).id, noteT (ordOf w0 0 l).note, listT [(ordOf w0 0 l).mass, (ordOf w0 0 l).days, (ordOf w0 0 l).due]]) (by simp) (fun x hx => by
    simp only [List.mem_cons, List.not_mem_nil, or_false] at hx
    rcases hx with hx | rfl | rfl
    · rw [hx]
      exact spl_mem w0 (by rw [hs]; simp)
    · exact noteT_free (Int.le_refl 0)
    · exact listT_free _)
  rw [h, hs] at hp
  simp only [List.cons.injEq] at hp
  have : noteR w1 = some 0 := by
    rw [hp.2.1]
    exact find_range (by omega) (by omega) (by simp [ordOf])
  rw [this] at hn
  cases hn

set_option maxHeartbeats 4000000 in
theorem c_impl_ReadOrder (s : List UInt8) (hs : s.length < 4294967281) : HFn Tryz.prog 10 [.str s] [] (orderRP s) [] := by
  refine hfn_intro hm Tryz.func10 (by kernel_rfl) rfl (by kernel_rfl) rfl ret0_ok ?_
  simp
  refine CallZ.use (c_Split s 32 hs) rfl (.inr ⟨flat_strRows _, trivial⟩) rfl rfl ?_
  simp [strRows_len]
  have hpc := spl_piece 32 s
  refine ⟨fun h => ?_, fun h => ?_⟩
  · have hn : orderR s = none := by
      unfold orderR
      split
      · rename_i e; rw [e] at h; simp at h
      · rfl
    simp [hn, zeroOrder, Order.cells]
  · obtain ⟨w0, w1, w2, hw⟩ := len_three (show (spl 32 s).length = 3 by omega)
    rw [hw] at hpc
    simp [hw, strRows]
    have h2 := hpc w2 (by simp)
    refine CallZ.use (c_impl_ReadList w2 (by omega)) rfl (.inr ⟨flat_intRows _, trivial⟩) rfl rfl ?_
    simp [intRows_len]
    have hR : orderR s = match noteR w1, listR w2 with
        | some n, some l => if l.length = 3 ∧ validOrder (ordOf w0 n l) = true then some (ordOf w0 n l) else none
        | _, _ => none := by unfold orderR; rw [hw]
    refine ⟨fun h3 => ?_, fun h3 => ?_⟩
    · have hn : orderR s = none := by
        rw [hR]
        cases hl : listR w2 with
        | none => cases noteR w1 <;> rfl
        | some l =>
          rw [hl] at h3
          cases noteR w1 with
          | none => rfl
          | some n =>
            simp only
            rw [if_neg]
            rintro ⟨e, _⟩
            simp at h3
            omega
      simp [hn, zeroOrder, Order.cells]
    · cases hl : listR w2 with
      | none => rw [hl] at h3; simp at h3
      | some l =>
        rw [hl] at h3 hR
        simp only [Option.getD_some] at h3 ⊢
        obtain ⟨a, b, c, rfl⟩ := len_three (show l.length = 3 by omega)
        simp [intRows]
        refine CallZ.use0 (c_impl_NoteNamed w1) rfl rfl ?_
        simp
        have hvo := c_validOrder (ordOf w0 (((noteR w1).getD 0 : Nat) : Int) [a, b, c])
        have htx := c_impl_OrderText (ordOf w0 (((noteR w1).getD 0 : Nat) : Int) [a, b, c])
        have hcl : (ordOf w0 (((noteR w1).getD 0 : Nat) : Int) [a, b, c]).cells = [.str w0, .int .i64 a, .int .i64 (((noteR w1).getD 0 : Nat) : Int), .int .i64 b, .int .i64 c] := rfl
        rw [hcl] at hvo htx
        refine CallZ.use0 hvo rfl rfl ?_
        simp
        refine CallY.use (fun _ => ⟨rfl, htx⟩) rfl rfl ?_
        simp
        cases hn : noteR w1 with
        | none =>
          rw [hn] at hR hcl
          simp only at hR
          have hbad : validOrder (ordOf w0 0 [a, b, c]) = true → ¬ orderTx (ordOf w0 0 [a, b, c]) = s := fun g1 g2 => by
            unfold orderTx at g2
            rw [if_pos g1] at g2
            exact note_none hw hn g2
          refine ⟨fun _ => by simp [hR, zeroOrder, Order.cells], fun g1 g2 => ?_⟩
          simp only [Option.getD_none, Int.natCast_zero] at g1 g2
          exact absurd g2 (hbad g1)
        | some n =>
          rw [hn] at hR hcl
          simp only [Option.getD_some] at hR hcl ⊢
          have htxt := ordOf_text hw hn hl rfl
          refine ⟨fun g => ?_, fun g1 g2 => ?_⟩
          · have hno : ¬ validOrder (ordOf w0 n [a, b, c]) = true := fun g1 => by
              rcases g with g | g
              · rw [g] at g1; cases g1
              · apply g
                unfold orderTx
                rw [if_pos g1]
                exact htxt
            rw [if_neg fun e => hno e.2] at hR
            simp [hR, zeroOrder, Order.cells]
          · rw [if_pos ⟨rfl, g1⟩] at hR
            simp [hR, hcl]

end Go.Proofs.YtjeioaeipffifaaGreatDoor
