/- The plain law of changes between two states: merging two sorted lists is going through the sorted keys without doubles. No condition. -/
import Derived.Test.YtnphmemhejhooaaSc
import Derived.Lib.SlicesCompact
namespace Go.Proofs.Ytnphmemhejhooaa
open Go Go.Ab
set_option maxRecDepth 100000

def recDrop (k : List UInt8) : Record := ⟨2, k, []⟩
def recSet (k t : List UInt8) : Record := ⟨1, k, t⟩
/-- The records that lead from a to b. -/
def chg : List Pair → List Pair → List Record
  | [], [] => []
  | x :: a, [] => recDrop x.key :: chg a []
  | [], y :: b => recSet y.key y.text :: chg [] b
  | x :: a, y :: b => if x.key < y.key then recDrop x.key :: chg a (y :: b) else if y.key < x.key then recSet y.key y.text :: chg (x :: a) b else (if x.text = y.text then [] else [recSet y.key y.text]) ++ chg a b
termination_by a b => a.length + b.length
/-- The keys of both. -/
def mkK : List Pair → List Pair → List (List UInt8)
  | [], [] => []
  | x :: a, [] => x.key :: mkK a []
  | [], y :: b => y.key :: mkK [] b
  | x :: a, y :: b => if x.key < y.key then x.key :: mkK a (y :: b) else if y.key < x.key then y.key :: mkK (x :: a) b else x.key :: mkK a b
termination_by a b => a.length + b.length
def look (S : List Pair) (s : List UInt8) : Option (List UInt8) := (S.find? fun x => decide (x.key = s)).map Pair.text
def chgF (a b : List Pair) (k : List UInt8) : List Record := match look b k with
  | none => [recDrop k]
  | some t => if look a k = some t then [] else [recSet k t]
def Strict (l : List (List UInt8)) : Prop := l.Pairwise fun x y => x < y
def keysL (S : List Pair) : List (List UInt8) := S.map Pair.key

theorem lt_irr (x : List UInt8) : ¬ x < x := List.lt_irrefl x
theorem lt_tr {x y z : List UInt8} (h : x < y) (k : y < z) : x < z := List.lt_trans h k
theorem lt_tri (x y : List UInt8) : x < y ∨ x = y ∨ y < x := by
  by_cases h : x < y
  · exact .inl h
  · by_cases k : y < x
    · exact .inr (.inr k)
    · exact .inr (.inl (List.le_antisymm (List.not_lt.1 k) (List.not_lt.1 h)))
theorem strict_ext : ∀ {l m : List (List UInt8)}, Strict l → Strict m → (∀ x, x ∈ l ↔ x ∈ m) → l = m
  | [], [], _, _, _ => rfl
  | [], y :: m, _, _, h => by have := (h y).2 (by simp); cases this
  | x :: l, [], _, _, h => by have := (h x).1 (by simp); cases this
  | x :: l, y :: m, hl, hm, h => by
    obtain ⟨h1, h2⟩ := List.pairwise_cons.1 hl
    obtain ⟨h3, h4⟩ := List.pairwise_cons.1 hm
    have e : x = y := by
      rcases List.mem_cons.1 ((h x).1 (by simp)) with e | e
      · exact e
      · rcases List.mem_cons.1 ((h y).2 (by simp)) with e' | e'
        · exact e'.symm
        · exact absurd (lt_tr (h1 y e') (h3 x e)) (lt_irr x)
    subst e
    rw [strict_ext h2 h4 fun z => ⟨fun hz => ?_, fun hz => ?_⟩]
    · rcases List.mem_cons.1 ((h z).1 (List.mem_cons_of_mem _ hz)) with e | e
      · subst e; exact absurd (h1 z hz) (lt_irr z)
      · exact e
    · rcases List.mem_cons.1 ((h z).2 (List.mem_cons_of_mem _ hz)) with e | e
      · subst e; exact absurd (h3 z hz) (lt_irr z)
      · exact e

theorem look_cons_ne {x : Pair} {S : List Pair} {s : List UInt8} (h : x.key ≠ s) : look (x :: S) s = look S s := by
  unfold look
  rw [List.find?_cons_of_neg (by simpa using h)]
theorem look_cons_eq {x : Pair} {S : List Pair} : look (x :: S) x.key = some x.text := by
  unfold look
  rw [List.find?_cons_of_pos (by simp)]
  rfl
theorem look_none {S : List Pair} {s : List UInt8} (h : ∀ k ∈ keysL S, k ≠ s) : look S s = none := by
  unfold look
  rw [List.find?_eq_none.2 fun x hx => by simpa using h x.key (List.mem_map_of_mem hx)]
  rfl

theorem mkK_mem : ∀ (a b : List Pair) (k : List UInt8), k ∈ mkK a b ↔ k ∈ keysL a ∨ k ∈ keysL b
  | [], [], k => by simp [mkK, keysL]
  | x :: a, [], k => by
    have := mkK_mem a [] k
    simp [mkK, keysL] at this ⊢
    rw [this]
  | [], y :: b, k => by
    have := mkK_mem [] b k
    simp [mkK, keysL] at this ⊢
    rw [this]
  | x :: a, y :: b, k => by
    have h1 := mkK_mem a (y :: b) k
    have h2 := mkK_mem (x :: a) b k
    have h3 := mkK_mem a b k
    rw [mkK]
    split
    · simp [keysL] at h1 ⊢
      rw [h1]
      grind
    · split
      · simp [keysL] at h2 ⊢
        rw [h2]
        grind
      · have : x.key = y.key := by
          rcases lt_tri x.key y.key with h | h | h
          · contradiction
          · exact h
          · contradiction
        simp [keysL] at h3 ⊢
        rw [h3]
        grind
termination_by a b => a.length + b.length
theorem mkK_strict : ∀ (a b : List Pair), Strict (keysL a) → Strict (keysL b) → Strict (mkK a b)
  | [], [], _, _ => by simp [mkK, Strict]
  | x :: a, [], ha, hb => by
    rw [mkK]
    obtain ⟨h1, h2⟩ := List.pairwise_cons.1 ha
    refine List.pairwise_cons.2 ⟨fun k hk => ?_, mkK_strict a [] h2 hb⟩
    rcases (mkK_mem a [] k).1 hk with h | h
    · exact h1 k h
    · cases h
  | [], y :: b, ha, hb => by
    rw [mkK]
    obtain ⟨h1, h2⟩ := List.pairwise_cons.1 hb
    refine List.pairwise_cons.2 ⟨fun k hk => ?_, mkK_strict [] b ha h2⟩
    rcases (mkK_mem [] b k).1 hk with h | h
    · cases h
    · exact h1 k h
  | x :: a, y :: b, ha, hb => by
    obtain ⟨h1, h2⟩ := List.pairwise_cons.1 ha
    obtain ⟨h3, h4⟩ := List.pairwise_cons.1 hb
    rw [mkK]
    split
    · rename_i h
      refine List.pairwise_cons.2 ⟨fun k hk => ?_, mkK_strict a (y :: b) h2 hb⟩
      rcases (mkK_mem a (y :: b) k).1 hk with e | e
      · exact h1 k e
      · rcases List.mem_cons.1 e with e | e
        · rw [e]; exact h
        · exact lt_tr h (h3 k e)
    · split
      · rename_i h
        refine List.pairwise_cons.2 ⟨fun k hk => ?_, mkK_strict (x :: a) b ha h4⟩
        rcases (mkK_mem (x :: a) b k).1 hk with e | e
        · rcases List.mem_cons.1 e with e | e
          · rw [e]; exact h
          · exact lt_tr h (h1 k e)
        · exact h3 k e
      · rename_i g g'
        have e0 : x.key = y.key := by
          rcases lt_tri x.key y.key with h | h | h
          · contradiction
          · exact h
          · contradiction
        refine List.pairwise_cons.2 ⟨fun k hk => ?_, mkK_strict a b h2 h4⟩
        rcases (mkK_mem a b k).1 hk with e | e
        · exact h1 k e
        · rw [e0]; exact h3 k e
termination_by a b => a.length + b.length

theorem flatMap_congr' {α β : Type} {f g : α → List β} : ∀ {l : List α}, (∀ x ∈ l, f x = g x) → l.flatMap f = l.flatMap g
  | [], _ => rfl
  | x :: l, h => by rw [List.flatMap_cons, List.flatMap_cons, h x (by simp), flatMap_congr' fun y hy => h y (by simp [hy])]

theorem chg_eq : ∀ (a b : List Pair), Strict (keysL a) → Strict (keysL b) → chg a b = (mkK a b).flatMap (chgF a b)
  | [], [], _, _ => by simp [chg, mkK]
  | x :: a, [], ha, hb => by
    obtain ⟨h1, h2⟩ := List.pairwise_cons.1 ha
    rw [chg, mkK, List.flatMap_cons, chg_eq a [] h2 hb]
    congr 1
  | [], y :: b, ha, hb => by
    obtain ⟨h1, h2⟩ := List.pairwise_cons.1 hb
    rw [chg, mkK, List.flatMap_cons, chg_eq [] b ha h2]
    have e1 : chgF [] (y :: b) y.key = [recSet y.key y.text] := by
      simp only [chgF, look_cons_eq]
      rw [if_neg (by simp [look])]
    rw [e1]
    congr 1
    refine flatMap_congr' fun k hk => ?_
    have hk' : y.key ≠ k := by
      rcases (mkK_mem [] b k).1 hk with e | e
      · cases e
      · intro he; subst he; exact lt_irr _ (h1 _ e)
    simp only [chgF, look_cons_ne hk']
  | x :: a, y :: b, ha, hb => by
    obtain ⟨h1, h2⟩ := List.pairwise_cons.1 ha
    obtain ⟨h3, h4⟩ := List.pairwise_cons.1 hb
    rw [chg, mkK]
    split
    · rename_i h
      rw [List.flatMap_cons, chg_eq a (y :: b) h2 hb]
      have e1 : chgF (x :: a) (y :: b) x.key = [recDrop x.key] := by
        have : look (y :: b) x.key = none := look_none fun k hk => by
          rcases List.mem_cons.1 hk with e | e
          · rw [e]; intro he; rw [he] at h; exact lt_irr _ h
          · intro he; subst he; exact lt_irr _ (lt_tr h (h3 _ e))
        simp only [chgF, this]
      rw [e1]
      congr 1
      refine flatMap_congr' fun k hk => ?_
      have hk' : x.key ≠ k := by
        intro he; subst he
        rcases (mkK_mem a (y :: b) x.key).1 hk with e | e
        · exact lt_irr _ (h1 _ e)
        · rcases List.mem_cons.1 e with e | e
          · rw [e] at h; exact lt_irr _ h
          · exact lt_irr _ (lt_tr h (h3 _ e))
      simp only [chgF, look_cons_ne hk']
    · split
      · rename_i h
        rw [List.flatMap_cons, chg_eq (x :: a) b ha h4]
        have e1 : chgF (x :: a) (y :: b) y.key = [recSet y.key y.text] := by
          have : look (x :: a) y.key = none := look_none fun k hk => by
            rcases List.mem_cons.1 hk with e | e
            · rw [e]; intro he; rw [he] at h; exact lt_irr _ h
            · intro he; subst he; exact lt_irr _ (lt_tr h (h1 _ e))
          simp only [chgF, look_cons_eq, this]
          rw [if_neg (by simp)]
        rw [e1]
        congr 1
        refine flatMap_congr' fun k hk => ?_
        have hk' : y.key ≠ k := by
          intro he; subst he
          rcases (mkK_mem (x :: a) b y.key).1 hk with e | e
          · rcases List.mem_cons.1 e with e | e
            · rw [e] at h; exact lt_irr _ h
            · exact lt_irr _ (lt_tr h (h1 _ e))
          · exact lt_irr _ (h3 _ e)
        simp only [chgF, look_cons_ne hk']
      · have e0 : x.key = y.key := by
          rcases lt_tri x.key y.key with h | h | h
          · contradiction
          · exact h
          · contradiction
        rw [List.flatMap_cons, chg_eq a b h2 h4]
        have e1 : chgF (x :: a) (y :: b) x.key = if x.text = y.text then [] else [recSet y.key y.text] := by
          simp only [chgF, look_cons_eq]
          rw [e0, look_cons_eq]
          simp
        rw [e1]
        congr 1
        refine flatMap_congr' fun k hk => ?_
        have hk' : x.key ≠ k := by
          intro he; subst he
          rcases (mkK_mem a b x.key).1 hk with e | e
          · exact lt_irr _ (h1 _ e)
          · rw [e0] at e; exact lt_irr _ (h3 _ e)
        simp only [chgF, look_cons_ne hk', look_cons_ne (e0 ▸ hk')]
termination_by a b => a.length + b.length

/-- Doubles of a sorted list are left out. -/
theorem compact_spec (zs : List (List UInt8)) (hs : zs.Pairwise fun x y => x ≤ y) : Strict (Lib.compact zs) ∧ ∀ x, x ∈ Lib.compact zs ↔ x ∈ zs := by
  have key : ∀ m, m ≤ zs.length → Strict (Lib.compactUpTo zs.toArray m) ∧ (∀ x, x ∈ Lib.compactUpTo zs.toArray m ↔ x ∈ zs.take m) := fun m => by
    induction m with
    | zero => intro _; simp [Lib.compactUpTo, Strict]
    | succ m ih =>
      intro hm
      obtain ⟨i1, i2⟩ := ih (by omega)
      have hml : m < zs.length := by omega
      have hg : zs.toArray[m]! = zs[m] := by simp [hml]
      have hc : Lib.compactUpTo zs.toArray (m + 1) = Lib.compactUpTo zs.toArray m ++ if Lib.keeps zs.toArray m = true then [zs[m]] else [] := by
        unfold Lib.compactUpTo
        rw [List.range_succ, List.filter_append, List.map_append]
        congr 1
        cases hk : Lib.keeps zs.toArray m
        · simp [hk]
        · simp [hk, hg, hml]
      have ht : zs.take (m + 1) = zs.take m ++ [zs[m]] := (List.take_append_getElem hml).symm
      have hle : ∀ x ∈ zs.take m, x ≤ zs[m] := fun x hx => by
        obtain ⟨i, hi, rfl⟩ := List.getElem_of_mem hx
        rw [List.length_take] at hi
        rw [List.getElem_take]
        exact List.pairwise_iff_getElem.1 hs i m (by omega) hml (by omega)
      by_cases h0 : m = 0
      · subst h0
        have hk : Lib.keeps zs.toArray 0 = true := Lib.keeps_lt_one _ 0 (by omega)
        rw [hc, if_pos hk, ht]
        simp [Lib.compactUpTo, Strict]
      · have hg1 : zs.toArray[m - 1]! = zs[m - 1] := by
          have : m - 1 < zs.length := by omega
          simp [this]
        by_cases he : zs[m] = zs[m - 1]
        · have hk : Lib.keeps zs.toArray m = false := Lib.keeps_neg (by omega) (by rw [hg, hg1, he])
          rw [hc, hk, ht]
          refine ⟨by simpa using i1, fun x => ?_⟩
          have hmem : zs[m] ∈ zs.take m := by
            rw [he]
            exact List.mem_iff_getElem.2 ⟨m - 1, by rw [List.length_take]; omega, by rw [List.getElem_take]⟩
          rw [if_neg (by simp), List.append_nil, i2 x, List.mem_append, List.mem_singleton]
          constructor
          · intro h; exact .inl h
          · rintro (h | h)
            · exact h
            · rw [h]; exact hmem
        · have hk : Lib.keeps zs.toArray m = true := Lib.keeps_pos (by rw [hg, hg1]; exact he)
          rw [hc, if_pos hk, ht]
          have hlt : ∀ x ∈ zs.take m, x < zs[m] := fun x hx => by
            obtain ⟨i, hi, rfl⟩ := List.getElem_of_mem hx
            rw [List.length_take] at hi
            rw [List.getElem_take]
            have g1 : zs[i] ≤ zs[m - 1] := by
              by_cases e : i = m - 1
              · subst e; exact List.le_refl _
              · exact List.pairwise_iff_getElem.1 hs i (m - 1) (by omega) (by omega) (by omega)
            have g2 : zs[m - 1] ≤ zs[m] := List.pairwise_iff_getElem.1 hs (m - 1) m (by omega) hml (by omega)
            rcases lt_tri zs[m - 1] zs[m] with h | h | h
            · exact List.lt_of_le_of_lt g1 h
            · exact absurd h.symm he
            · exact absurd h (List.not_lt.2 g2)
          refine ⟨List.pairwise_append.2 ⟨i1, by simp, fun x hx y hy => ?_⟩, fun x => ?_⟩
          · rw [List.mem_singleton.1 hy]
            exact hlt x ((i2 x).1 hx)
          · rw [List.mem_append, List.mem_append, List.mem_singleton, i2 x]
  have := key zs.length (Nat.le_refl _)
  rw [List.take_length] at this
  exact this
def keysK (a b : List Pair) : List (List UInt8) := Lib.compact ((keysL a ++ keysL b).mergeSort fun x y => decide (x ≤ y))
theorem keysK_eq {a b : List Pair} (ha : Strict (keysL a)) (hb : Strict (keysL b)) : keysK a b = mkK a b := by
  have hs : ((keysL a ++ keysL b).mergeSort fun x y => decide (x ≤ y)).Pairwise fun x y => x ≤ y := by
    have := List.pairwise_mergeSort (le := fun x y : List UInt8 => decide (x ≤ y)) (fun x y z h k => by
      simp only [decide_eq_true_eq] at *
      exact List.le_trans h k) (fun x y => by
      simp only [Bool.or_eq_true, decide_eq_true_eq]
      exact List.le_total x y) (keysL a ++ keysL b)
    exact this.imp fun h => by simpa using h
  obtain ⟨h1, h2⟩ := compact_spec _ hs
  refine strict_ext h1 (mkK_strict a b ha hb) fun x => ?_
  unfold keysK
  rw [h2 x, List.mem_mergeSort, mkK_mem, List.mem_append]
end Go.Proofs.Ytnphmemhejhooaa
