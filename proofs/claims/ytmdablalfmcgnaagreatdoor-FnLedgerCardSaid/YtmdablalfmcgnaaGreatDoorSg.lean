/- slices.Sort and slices.Compact at strings: the kit's contracts over memory as contracts over plain values. No condition.; Contracts: whether pairs are a state.; The plain law of changes between two states: merging two sorted lists is going through the sorted keys without doubles. No condition.; Contracts: changes between two states, the reference.; Contracts: changes between two states, the program.; Contracts: ChangesBetween, the program. -/
import Derived.Sort.OwnSorted
import Derived.Lib.SlicesCompact
import Derived.Test.YtmdablalfmcgnaaGreatDoorAcl
import Derived.Test.YtmdablalfmcgnaaGreatDoorBa
import Derived.Test.YtmdablalfmcgnaaGreatDoorSk
import Derived.Test.YtmdablalfmcgnaaGreatDoorCd
import Derived.Test.YtmdablalfmcgnaaGreatDoorHg
-- from Sb
namespace Go.Proofs.YtmdablalfmcgnaaGreatDoor
open Go Go.Ab
set_option maxRecDepth 100000

theorem strings_of_cells {A : Nat → Prop} {w : World} {ss : List (List UInt8)} {cur : Array Value} (hcells : CellsOf A w 1 (strRows ss) cur) : cur.toList.take ss.length = ss.map Go.Proofs.encStr := by
  apply List.ext_getElem?
  intro j
  by_cases hj : j < ss.length
  · obtain ⟨u, hu, hr⟩ := hcells j 0 [.str ss[j]] (.str ss[j]) (by simp [strRows, hj]) rfl
    cases hr with
    | str _ bb hbb =>
      have e1 : bb = ⟨ss[j].toArray⟩ := by
        cases bb with
        | mk d => simp at hbb; rw [← hbb]
      rw [List.getElem?_take_of_lt hj, Array.getElem?_toList]
      simp only [Nat.mul_one, Nat.add_zero] at hu
      rw [hu, List.getElem?_map, List.getElem?_eq_getElem hj, e1]
      rfl
  · rw [List.getElem?_take_eq_none (by omega), List.getElem?_eq_none (by simp; omega)]

/-- What is laid into a row of strings reads so. -/
theorem cells_of_strings {A : Nat → Prop} {w : World} {cur : Array Value} (ss : List (List UInt8)) (hC : ss.length ≤ cur.size) : CellsOf A w 1 (strRows ss) (Go.Sort.putCells Go.Proofs.encStr 0 ss.toArray cur) := fun i j r c hr hc => by
  rw [strRows, List.getElem?_map] at hr
  cases hx : ss[i]? with
  | none => rw [hx] at hr; cases hr
  | some x =>
    rw [hx] at hr
    cases hr
    have hi : i < ss.length := (List.getElem?_eq_some_iff.1 hx).1
    cases j with
    | zero =>
      cases hc
      have h1 := Go.take_putCells cur ss hC
      have h2 : ((Go.Sort.putCells Go.Proofs.encStr 0 ss.toArray cur).toList.take ss.length)[i]? = some (Go.Proofs.encStr x) := by rw [h1, List.getElem?_map, hx]; rfl
      rw [List.getElem?_take_of_lt hi, Array.getElem?_toList] at h2
      exact ⟨_, by simpa using h2, .str _ _ rfl⟩
    | succ j => cases hc

theorem strRows_row {ss : List (List UInt8)} (i : Nat) (r : List PV) (hr : (strRows ss)[i]? = some r) : r.length = 1 := by
  rw [strRows, List.getElem?_map] at hr
  cases hx : ss[i]? with
  | none => rw [hx] at hr; cases hr
  | some x => rw [hx] at hr; cases hr; rfl

def sortS (ss : List (List UInt8)) : List (List UInt8) := ss.mergeSort fun x y => decide (x ≤ y)
theorem c_SortString (ss : List (List UInt8)) (hss : ss.length ≤ 2097152) : MFn Tryz.prog 59 [.sf 0 1] [some (.arr 1 (strRows ss))] [0] (.tup []) [some (.arr 1 (strRows (sortS ss)))] := by
  have hl : (strRows ss).length = ss.length := List.length_map _
  have hl' : (sortS ss).length = ss.length := List.length_mergeSort _
  refine mfn_inplace (by simp [strRows, hl']) strRows_row (fun he ao cap w => ?_) (fun A w b C cur e p1 hb hsz hC hmax hne hcells => ?_)
  · unfold CallS
    rw [enters Tryz.func59 (by kernel_rfl) rfl]
    exact ⟨rfl, Tryz.slices_Sort_string_none ao cap w⟩
  · rw [hl] at hC ⊢
    unfold CallS
    rw [enters Tryz.func59 (by kernel_rfl) rfl]
    refine ⟨rfl, (Tryz.slices_Sort_string b 0 C ss w (Go.holds_of_block hb (strings_of_cells hcells)) (Array.getElem?_eq_some_iff.1 hb).1 (by omega)).mono fun e' w' ⟨g1, n, os, g2⟩ => ?_⟩
    subst g2
    refine ⟨g1, rfl, rfl, rfl, Nat.le_add_right _ _, by simp, fun j hj hne' => ?_, _, Go.heap_sorted _ hb, by simp [Go.Sort.putCells], cells_of_strings (sortS ss) (by omega)⟩
    rw [Go.Sort.heap_grow_old _ _ (by simpa using hj)]
    simp [Go.Sort.putRow, Go.Sort.mapBlock, Go.Sort.ahead, Array.getElem?_modify, Ne.symm hne']

theorem compact_le (ss : List (List UInt8)) : (Lib.compact ss).length ≤ ss.length := by
  unfold Lib.compact Lib.compactUpTo
  rw [List.length_map]
  refine Nat.le_trans (List.length_filter_le _ _) ?_
  simp
theorem c_CompactString (ss : List (List UInt8)) (hss : ss.length ≤ 2097152) : MFn Tryz.prog 60 [.sf 0 1] [some (.arr 1 (strRows ss))] [0] (.so 0 1 0 (Lib.compact ss).length) [some (.arr 1 (strRows (Lib.compact ss ++ List.replicate (ss.length - (Lib.compact ss).length) [])))] := by
  have hl : (strRows ss).length = ss.length := List.length_map _
  have hcl := compact_le ss
  obtain ⟨D, hD⟩ : ∃ D, Lib.compact ss ++ List.replicate (ss.length - (Lib.compact ss).length) [] = D := ⟨_, rfl⟩
  have hDl : D.length = ss.length := by rw [← hD]; simp; omega
  have hk := fun (b C : Nat) (w : World) hH hC => Tryz.slices_Compact_string b 0 C ss w hH (by omega) hC
  rw [hD] at hk ⊢
  generalize hc : (Lib.compact ss).length = c at hcl hk ⊢
  refine mfn_inplace_so (by simp [strRows]; omega) (by simp [strRows]; omega) strRows_row (fun he ao cap w => ?_) (fun A w b C cur e p1 hb hsz hC hmax hne hcells => ?_)
  · obtain rfl : ss = [] := by cases ss with
      | nil => rfl
      | cons x r => cases he
    obtain rfl : c = 0 := by simpa using hcl
    unfold CallS
    rw [enters Tryz.func60 (by kernel_rfl) rfl]
    exact ⟨rfl, Tryz.slices_Compact_string_empty ao cap w⟩
  · rw [hl] at hC ⊢
    unfold CallS
    rw [enters Tryz.func60 (by kernel_rfl) rfl]
    refine ⟨rfl, (hk b C w (Go.holds_of_block hb (strings_of_cells hcells)) hC).mono fun e' w' ⟨g1, n, g2⟩ => ?_⟩
    subst g2
    have hs := Go.heap_sorted (n := n) (os := #[]) D.toArray hb
    rw [Go.Sort.grow_empty] at hs
    refine ⟨g1, rfl, rfl, rfl, Nat.le_add_right _ _, by simp [Go.Sort.putRow, Go.Sort.mapBlock, Go.Sort.ahead], fun j hj hne' => ?_, _, hs, by simp [Go.Sort.putCells], cells_of_strings D (by omega)⟩
    simp [Go.Sort.putRow, Go.Sort.mapBlock, Go.Sort.ahead, Array.getElem?_modify, Ne.symm hne']
end Go.Proofs.YtmdablalfmcgnaaGreatDoor
-- from Sc
namespace Go.Proofs.YtmdablalfmcgnaaGreatDoor
open Go Go.Ab
set_option maxRecDepth 100000

/-- Pair i may stand in a state, behind the one before it. -/
def stAt (S : List Pair) (i : Nat) : Bool := match S[i]? with
  | some x => isName x.key && isRemark x.text && (decide (i = 0) || match S[i - 1]? with
    | some y => Op.bytesLess y.key x.key
    | none => true)
  | none => true
def stateOk (S : List Pair) : Bool := (List.range S.length).all (stAt S)

theorem c_impl_isState (S : List Pair) (hS : S.length ≤ 1048576) (hw : ∀ x ∈ S, x.wf) : HFn Tryz.prog 57 [.sl 2 (Pair.rows S)] [] (.bool (stateOk S)) [] := by
  refine hfn_intro hm Tryz.func57 (by kernel_rfl) rfl (by kernel_rfl) rfl ret0_ok ?_
  simp [Pair.rows_len]
  refine loop_upto hm S.length (fun i => ⟨[(0, .sl 2 (Pair.rows S)), (5, .sl 2 (Pair.rows S)), (6, .int .i64 S.length), (7, .int .i64 i)], []⟩) (fun i => ∀ j, j < i → stAt S j = true) (by kernel_rfl) ?_ (by simp) (fun i hi hI => ?_) (fun hI => ?_)
  · exact Wk.weak (ρ := []) (φ := []) (by simp)
  · have e1 : IntKind.i64.wrap ((i : Int) - 1) = i - 1 := w64 (by omega) (by omega)
    have hil : i - 1 < S.length := by omega
    have hx := List.getElem?_eq_getElem hi
    have hy := List.getElem?_eq_getElem hil
    have hwx := hw _ (List.getElem_mem hi)
    simp [Pair.rows_len, Pair.row_get, hi]
    refine CallZ.use0 (c_impl_IsName S[i].key) rfl rfl ?_
    simp
    refine CallY.use (fun _ => ⟨rfl, c_isRemark S[i].text hwx.2⟩) rfl rfl ?_
    simp [Pair.rows_len, Pair.row_get, e1, hil]
    have ho : stAt S i = (isName S[i].key && isRemark S[i].text && (decide (i = 0) || Op.bytesLess S[i - 1].key S[i].key)) := by simp [stAt, hx, hy]
    have hs := bytesLess_swap S[i - 1].key S[i].key
    iterate 6 refine ⟨by grind, ?_⟩
    refine ⟨fun h => ?_, fun h1 h2 h3 => ⟨upto_succ hI ?_, ?_⟩⟩
    · have : stAt S i = false := by
        rw [ho]
        rcases h with (h | h) | ⟨h, h'⟩
        · simp [h]
        · simp [h]
        · have h3 : (Op.bytesLess S[i].key S[i - 1].key || decide (S[i].key = S[i - 1].key)) = true := by simpa using h'
          rw [hs] at h3
          have h4 : ¬ i = 0 := by omega
          simp at h3
          simp [h3, h4]
      simp only [stateOk, all_range_false hi this]
    · rw [ho, h1, h2]
      by_cases h4 : i = 0
      · simp [h4]
      · obtain ⟨h5, h6⟩ := h3 (by omega)
        simp [h5, h6] at hs
        simp [hs]
    · refine Wk.weak (ρ := []) (φ := []) ?_
      simp
      exact w64 (by omega) (by omega)
  · simp
    simp only [stateOk, all_range_true hI]

end Go.Proofs.YtmdablalfmcgnaaGreatDoor
-- from Sd
namespace Go.Proofs.YtmdablalfmcgnaaGreatDoor
open Go Go.Ab
set_option maxRecDepth 100000

def recDrop (k : List UInt8) : Record := ⟨2, k, []⟩
def recSet (k t : List UInt8) : Record := ⟨1, k, t⟩
/-- The records that lead from a to b. -/
def chg : List Pair → List Pair → List Record
  | [], [] => []
  | x :: a, [] => recDrop x.key :: chg a []
  | [], y :: b => recSet y.key y.text :: chg [] b
  | x :: a, y :: b => if x.key < y.key then recDrop x.key :: chg a (y :: b) else if y.key < x.key then recSet y.key y.text :: chg (x :: a) b else (if x.text = y.text then [] else [recSet y.key y.text]) ++ chg a b
termination_by a b => a.length + b.length
/-- The keys of both. -/
def mkK : List Pair → List Pair → List (List UInt8)
  | [], [] => []
  | x :: a, [] => x.key :: mkK a []
  | [], y :: b => y.key :: mkK [] b
  | x :: a, y :: b => if x.key < y.key then x.key :: mkK a (y :: b) else if y.key < x.key then y.key :: mkK (x :: a) b else x.key :: mkK a b
termination_by a b => a.length + b.length
def look (S : List Pair) (s : List UInt8) : Option (List UInt8) := (S.find? fun x => decide (x.key = s)).map Pair.text
def chgF (a b : List Pair) (k : List UInt8) : List Record := match look b k with
  | none => [recDrop k]
  | some t => if look a k = some t then [] else [recSet k t]
def Strict (l : List (List UInt8)) : Prop := l.Pairwise fun x y => x < y
def keysL (S : List Pair) : List (List UInt8) := S.map Pair.key

theorem lt_irr (x : List UInt8) : ¬ x < x := List.lt_irrefl x
theorem lt_tr {x y z : List UInt8} (h : x < y) (k : y < z) : x < z := List.lt_trans h k
theorem lt_tri (x y : List UInt8) : x < y ∨ x = y ∨ y < x := by
  by_cases h : x < y
  · exact .inl h
  · by_cases k : y < x
    · exact .inr (.inr k)
    · exact .inr (.inl (List.le_antisymm (List.not_lt.1 k) (List.not_lt.1 h)))
theorem strict_ext : ∀ {l m : List (List UInt8)}, Strict l → Strict m → (∀ x, x ∈ l ↔ x ∈ m) → l = m
  | [], [], _, _, _ => rfl
  | [], y :: m, _, _, h => by have := (h y).2 (by simp); cases this
  | x :: l, [], _, _, h => by have := (h x).1 (by simp); cases this
  | x :: l, y :: m, hl, hm, h => by
    obtain ⟨h1, h2⟩ := List.pairwise_cons.1 hl
    obtain ⟨h3, h4⟩ := List.pairwise_cons.1 hm
    have e : x = y := by
      rcases List.mem_cons.1 ((h x).1 (by simp)) with e | e
      · exact e
      · rcases List.mem_cons.1 ((h y).2 (by simp)) with e' | e'
        · exact e'.symm
        · exact absurd (lt_tr (h1 y e') (h3 x e)) (lt_irr x)
    subst e
    rw [strict_ext h2 h4 fun z => ⟨fun hz => ?_, fun hz => ?_⟩]
    · rcases List.mem_cons.1 ((h z).1 (List.mem_cons_of_mem _ hz)) with e | e
      · subst e; exact absurd (h1 z hz) (lt_irr z)
      · exact e
    · rcases List.mem_cons.1 ((h z).2 (List.mem_cons_of_mem _ hz)) with e | e
      · subst e; exact absurd (h3 z hz) (lt_irr z)
      · exact e

theorem look_cons_ne {x : Pair} {S : List Pair} {s : List UInt8} (h : x.key ≠ s) : look (x :: S) s = look S s := by
  unfold look
  rw [List.find?_cons_of_neg (by simpa using h)]
theorem look_cons_eq {x : Pair} {S : List Pair} : look (x :: S) x.key = some x.text := by
  unfold look
  rw [List.find?_cons_of_pos (by simp)]
  rfl
theorem look_none {S : List Pair} {s : List UInt8} (h : ∀ k ∈ keysL S, k ≠ s) : look S s = none := by
  unfold look
  rw [List.find?_eq_none.2 fun x hx => by simpa using h x.key (List.mem_map_of_mem hx)]
  rfl

theorem mkK_mem : ∀ (a b : List Pair) (k : List UInt8), k ∈ mkK a b ↔ k ∈ keysL a ∨ k ∈ keysL b
  | [], [], k => by simp [mkK, keysL]
  | x :: a, [], k => by
    have := mkK_mem a [] k
    simp [mkK, keysL] at this ⊢
    rw [this]
  | [], y :: b, k => by
    have := mkK_mem [] b k
    simp [mkK, keysL] at this ⊢
    rw [this]
  | x :: a, y :: b, k => by
    have h1 := mkK_mem a (y :: b) k
    have h2 := mkK_mem (x :: a) b k
    have h3 := mkK_mem a b k
    rw [mkK]
    split
    · simp [keysL] at h1 ⊢
      rw [h1]
      grind
    · split
      · simp [keysL] at h2 ⊢
        rw [h2]
        grind
      · have : x.key = y.key := by
          rcases lt_tri x.key y.key with h | h | h
          · contradiction
          · exact h
          · contradiction
        simp [keysL] at h3 ⊢
        rw [h3]
        grind
termination_by a b => a.length + b.length
theorem mkK_strict : ∀ (a b : List Pair), Strict (keysL a) → Strict (keysL b) → Strict (mkK a b)
  | [], [], _, _ => by simp [mkK, Strict]
  | x :: a, [], ha, hb => by
    rw [mkK]
    obtain ⟨h1, h2⟩ := List.pairwise_cons.1 ha
    refine List.pairwise_cons.2 ⟨fun k hk => ?_, mkK_strict a [] h2 hb⟩
    rcases (mkK_mem a [] k).1 hk with h | h
    · exact h1 k h
    · cases h
  | [], y :: b, ha, hb => by
    rw [mkK]
    obtain ⟨h1, h2⟩ := List.pairwise_cons.1 hb
    refine List.pairwise_cons.2 ⟨fun k hk => ?_, mkK_strict [] b ha h2⟩
    rcases (mkK_mem [] b k).1 hk with h | h
    · cases h
    · exact h1 k h
  | x :: a, y :: b, ha, hb => by
    obtain ⟨h1, h2⟩ := List.pairwise_cons.1 ha
    obtain ⟨h3, h4⟩ := List.pairwise_cons.1 hb
    rw [mkK]
    split
    · rename_i h
      refine List.pairwise_cons.2 ⟨fun k hk => ?_, mkK_strict a (y :: b) h2 hb⟩
      rcases (mkK_mem a (y :: b) k).1 hk with e | e
      · exact h1 k e
      · rcases List.mem_cons.1 e with e | e
        · rw [e]; exact h
        · exact lt_tr h (h3 k e)
    · split
      · rename_i h
        refine List.pairwise_cons.2 ⟨fun k hk => ?_, mkK_strict (x :: a) b ha h4⟩
        rcases (mkK_mem (x :: a) b k).1 hk with e | e
        · rcases List.mem_cons.1 e with e | e
          · rw [e]; exact h
          · exact lt_tr h (h1 k e)
        · exact h3 k e
      · rename_i g g'
        have e0 : x.key = y.key := by
          rcases lt_tri x.key y.key with h | h | h
          · contradiction
          · exact h
          · contradiction
        refine List.pairwise_cons.2 ⟨fun k hk => ?_, mkK_strict a b h2 h4⟩
        rcases (mkK_mem a b k).1 hk with e | e
        · exact h1 k e
        · rw [e0]; exact h3 k e
termination_by a b => a.length + b.length

theorem flatMap_congr' {α β : Type} {f g : α → List β} : ∀ {l : List α}, (∀ x ∈ l, f x = g x) → l.flatMap f = l.flatMap g
  | [], _ => rfl
  | x :: l, h => by rw [List.flatMap_cons, List.flatMap_cons, h x (by simp), flatMap_congr' fun y hy => h y (by simp [hy])]

theorem chg_eq : ∀ (a b : List Pair), Strict (keysL a) → Strict (keysL b) → chg a b = (mkK a b).flatMap (chgF a b)
  | [], [], _, _ => by simp [chg, mkK]
  | x :: a, [], ha, hb => by
    obtain ⟨h1, h2⟩ := List.pairwise_cons.1 ha
    rw [chg, mkK, List.flatMap_cons, chg_eq a [] h2 hb]
    congr 1
  | [], y :: b, ha, hb => by
    obtain ⟨h1, h2⟩ := List.pairwise_cons.1 hb
    rw [chg, mkK, List.flatMap_cons, chg_eq [] b ha h2]
    have e1 : chgF [] (y :: b) y.key = [recSet y.key y.text] := by
      simp only [chgF, look_cons_eq]
      rw [if_neg (by simp [look])]
    rw [e1]
    congr 1
    refine flatMap_congr' fun k hk => ?_
    have hk' : y.key ≠ k := by
      rcases (mkK_mem [] b k).1 hk with e | e
      · cases e
      · intro he; subst he; exact lt_irr _ (h1 _ e)
    simp only [chgF, look_cons_ne hk']
  | x :: a, y :: b, ha, hb => by
    obtain ⟨h1, h2⟩ := List.pairwise_cons.1 ha
    obtain ⟨h3, h4⟩ := List.pairwise_cons.1 hb
    rw [chg, mkK]
    split
    · rename_i h
      rw [List.flatMap_cons, chg_eq a (y :: b) h2 hb]
      have e1 : chgF (x :: a) (y :: b) x.key = [recDrop x.key] := by
        have : look (y :: b) x.key = none := look_none fun k hk => by
          rcases List.mem_cons.1 hk with e | e
          · rw [e]; intro he; rw [he] at h; exact lt_irr _ h
          · intro he; subst he; exact lt_irr _ (lt_tr h (h3 _ e))
        simp only [chgF, this]
      rw [e1]
      congr 1
      refine flatMap_congr' fun k hk => ?_
      have hk' : x.key ≠ k := by
        intro he; subst he
        rcases (mkK_mem a (y :: b) x.key).1 hk with e | e
        · exact lt_irr _ (h1 _ e)
        · rcases List.mem_cons.1 e with e | e
          · rw [e] at h; exact lt_irr _ h
          · exact lt_irr _ (lt_tr h (h3 _ e))
      simp only [chgF, look_cons_ne hk']
    · split
      · rename_i h
        rw [List.flatMap_cons, chg_eq (x :: a) b ha h4]
        have e1 : chgF (x :: a) (y :: b) y.key = [recSet y.key y.text] := by
          have : look (x :: a) y.key = none := look_none fun k hk => by
            rcases List.mem_cons.1 hk with e | e
            · rw [e]; intro he; rw [he] at h; exact lt_irr _ h
            · intro he; subst he; exact lt_irr _ (lt_tr h (h1 _ e))
          simp only [chgF, look_cons_eq, this]
          rw [if_neg (by simp)]
        rw [e1]
        congr 1
        refine flatMap_congr' fun k hk => ?_
        have hk' : y.key ≠ k := by
          intro he; subst he
          rcases (mkK_mem (x :: a) b y.key).1 hk with e | e
          · rcases List.mem_cons.1 e with e | e
            · rw [e] at h; exact lt_irr _ h
            · exact lt_irr _ (lt_tr h (h1 _ e))
          · exact lt_irr _ (h3 _ e)
        simp only [chgF, look_cons_ne hk']
      · have e0 : x.key = y.key := by
          rcases lt_tri x.key y.key with h | h | h
          · contradiction
          · exact h
          · contradiction
        rw [List.flatMap_cons, chg_eq a b h2 h4]
        have e1 : chgF (x :: a) (y :: b) x.key = if x.text = y.text then [] else [recSet y.key y.text] := by
          simp only [chgF, look_cons_eq]
          rw [e0, look_cons_eq]
          simp
        rw [e1]
        congr 1
        refine flatMap_congr' fun k hk => ?_
        have hk' : x.key ≠ k := by
          intro he; subst he
          rcases (mkK_mem a b x.key).1 hk with e | e
          · exact lt_irr _ (h1 _ e)
          · rw [e0] at e; exact lt_irr _ (h3 _ e)
        simp only [chgF, look_cons_ne hk', look_cons_ne (e0 ▸ hk')]
termination_by a b => a.length + b.length

/-- Doubles of a sorted list are left out. -/
theorem compact_spec (zs : List (List UInt8)) (hs : zs.Pairwise fun x y => x ≤ y) : Strict (Lib.compact zs) ∧ ∀ x, x ∈ Lib.compact zs ↔ x ∈ zs := by
  have key : ∀ m, m ≤ zs.length → Strict (Lib.compactUpTo zs.toArray m) ∧ (∀ x, x ∈ Lib.compactUpTo zs.toArray m ↔ x ∈ zs.take m) := fun m => by
    induction m with
    | zero => intro _; simp [Lib.compactUpTo, Strict]
    | succ m ih =>
      intro hm
      obtain ⟨i1, i2⟩ := ih (by omega)
      have hml : m < zs.length := by omega
      have hg : zs.toArray[m]! = zs[m] := by simp [hml]
      have hc : Lib.compactUpTo zs.toArray (m + 1) = Lib.compactUpTo zs.toArray m ++ if Lib.keeps zs.toArray m = true then [zs[m]] else [] := by
        unfold Lib.compactUpTo
        rw [List.range_succ, List.filter_append, List.map_append]
        congr 1
        cases hk : Lib.keeps zs.toArray m
        · simp [hk]
        · simp [hk, hml]
      have ht : zs.take (m + 1) = zs.take m ++ [zs[m]] := (List.take_append_getElem hml).symm
      have hle : ∀ x ∈ zs.take m, x ≤ zs[m] := fun x hx => by
        obtain ⟨i, hi, rfl⟩ := List.getElem_of_mem hx
        rw [List.length_take] at hi
        rw [List.getElem_take]
        exact List.pairwise_iff_getElem.1 hs i m (by omega) hml (by omega)
      by_cases h0 : m = 0
      · subst h0
        have hk : Lib.keeps zs.toArray 0 = true := Lib.keeps_lt_one _ 0 (by omega)
        rw [hc, if_pos hk, ht]
        simp [Lib.compactUpTo, Strict]
      · have hg1 : zs.toArray[m - 1]! = zs[m - 1] := by
          have : m - 1 < zs.length := by omega
          simp [this]
        by_cases he : zs[m] = zs[m - 1]
        · have hk : Lib.keeps zs.toArray m = false := Lib.keeps_neg (by omega) (by rw [hg, hg1, he])
          rw [hc, hk, ht]
          refine ⟨by simpa using i1, fun x => ?_⟩
          have hmem : zs[m] ∈ zs.take m := by
            rw [he]
            exact List.mem_iff_getElem.2 ⟨m - 1, by rw [List.length_take]; omega, by rw [List.getElem_take]⟩
          rw [if_neg (by simp), List.append_nil, i2 x, List.mem_append, List.mem_singleton]
          constructor
          · intro h; exact .inl h
          · rintro (h | h)
            · exact h
            · rw [h]; exact hmem
        · have hk : Lib.keeps zs.toArray m = true := Lib.keeps_pos (by rw [hg, hg1]; exact he)
          rw [hc, if_pos hk, ht]
          have hlt : ∀ x ∈ zs.take m, x < zs[m] := fun x hx => by
            obtain ⟨i, hi, rfl⟩ := List.getElem_of_mem hx
            rw [List.length_take] at hi
            rw [List.getElem_take]
            have g1 : zs[i] ≤ zs[m - 1] := by
              by_cases e : i = m - 1
              · subst e; exact List.le_refl _
              · exact List.pairwise_iff_getElem.1 hs i (m - 1) (by omega) (by omega) (by omega)
            have g2 : zs[m - 1] ≤ zs[m] := List.pairwise_iff_getElem.1 hs (m - 1) m (by omega) hml (by omega)
            rcases lt_tri zs[m - 1] zs[m] with h | h | h
            · exact List.lt_of_le_of_lt g1 h
            · exact absurd h.symm he
            · exact absurd h (List.not_lt.2 g2)
          refine ⟨List.pairwise_append.2 ⟨i1, by simp, fun x hx y hy => ?_⟩, fun x => ?_⟩
          · rw [List.mem_singleton.1 hy]
            exact hlt x ((i2 x).1 hx)
          · rw [List.mem_append, List.mem_append, List.mem_singleton, i2 x]
  have := key zs.length (Nat.le_refl _)
  rw [List.take_length] at this
  exact this
def keysK (a b : List Pair) : List (List UInt8) := Lib.compact ((keysL a ++ keysL b).mergeSort fun x y => decide (x ≤ y))
theorem keysK_eq {a b : List Pair} (ha : Strict (keysL a)) (hb : Strict (keysL b)) : keysK a b = mkK a b := by
  have hs : ((keysL a ++ keysL b).mergeSort fun x y => decide (x ≤ y)).Pairwise fun x y => x ≤ y := by
    have := List.pairwise_mergeSort (le := fun x y : List UInt8 => decide (x ≤ y)) (fun x y z h k => by
      simp only [decide_eq_true_eq] at *
      exact List.le_trans h k) (fun x y => by
      simp only [Bool.or_eq_true, decide_eq_true_eq]
      exact List.le_total x y) (keysL a ++ keysL b)
    exact this.imp fun h => by simpa using h
  obtain ⟨h1, h2⟩ := compact_spec _ hs
  refine strict_ext h1 (mkK_strict a b ha hb) fun x => ?_
  unfold keysK
  rw [h2 x, List.mem_mergeSort, mkK_mem, List.mem_append]
end Go.Proofs.YtmdablalfmcgnaaGreatDoor
-- from Se
namespace Go.Proofs.YtmdablalfmcgnaaGreatDoor
open Go Go.Ab
set_option maxRecDepth 100000

def chgL (a b : List Pair) : List Record := if stateOk a = true ∧ stateOk b = true then chg a b else []
def chgCode (a b : List Pair) : Int := if stateOk a = true ∧ stateOk b = true then 0 else 1
theorem chg_len : ∀ (a b : List Pair), (chg a b).length ≤ a.length + b.length
  | [], [] => by simp [chg]
  | x :: a, [] => by
    have := chg_len a []
    rw [chg]
    simp at this ⊢
    omega
  | [], y :: b => by
    have := chg_len [] b
    rw [chg]
    simp at this ⊢
    omega
  | x :: a, y :: b => by
    have h1 := chg_len a (y :: b)
    have h2 := chg_len (x :: a) b
    have h3 := chg_len a b
    rw [chg]
    split
    · simp at h1 ⊢; omega
    · split
      · simp at h2 ⊢; omega
      · split <;> simp at h3 ⊢ <;> omega
termination_by a b => a.length + b.length
theorem chgL_len (a b : List Pair) : (chgL a b).length ≤ a.length + b.length := by
  unfold chgL
  split
  · exact chg_len a b
  · simp

/-- Where the reference stands. -/
structure ChgAt (a b : List Pair) (i k : Nat) (out : List Record) : Prop where
  hi : i ≤ a.length
  hk : k ≤ b.length
  he : out ++ chg (a.drop i) (b.drop k) = chg a b
theorem ChgAt.len {a b : List Pair} {i k : Nat} {out : List Record} (h : ChgAt a b i k out) : out.length ≤ a.length + b.length := by
  have h1 := congrArg List.length h.he
  have h2 := chg_len a b
  rw [List.length_append] at h1
  omega
theorem ChgAt.dropA {a b : List Pair} {i k : Nat} {out : List Record} (h : ChgAt a b i k out) (hi : i < a.length) (hc : k = b.length ∨ ∃ hk : k < b.length, a[i].key < b[k].key) : ChgAt a b (i + 1) k (out ++ [recDrop a[i].key]) := by
  refine ⟨hi, h.hk, ?_⟩
  rw [← h.he, List.drop_eq_getElem_cons hi, List.append_assoc]
  congr 1
  rcases hc with rfl | ⟨hk, hlt⟩
  · rw [List.drop_length, chg]
    rfl
  · rw [List.drop_eq_getElem_cons hk, chg, if_pos hlt]
    rfl
theorem ChgAt.setB {a b : List Pair} {i k : Nat} {out : List Record} (h : ChgAt a b i k out) (hk : k < b.length) (hc : i = a.length ∨ ∃ hi : i < a.length, b[k].key < a[i].key) : ChgAt a b i (k + 1) (out ++ [recSet b[k].key b[k].text]) := by
  refine ⟨h.hi, hk, ?_⟩
  rw [← h.he, List.drop_eq_getElem_cons hk, List.append_assoc]
  congr 1
  rcases hc with rfl | ⟨hi, hlt⟩
  · rw [List.drop_length, chg]
    rfl
  · rw [List.drop_eq_getElem_cons hi, chg, if_neg (fun g => lt_irr _ (lt_tr g hlt)), if_pos hlt]
    rfl
theorem ChgAt.both {a b : List Pair} {i k : Nat} {out : List Record} (h : ChgAt a b i k out) (hi : i < a.length) (hk : k < b.length) (h1 : ¬ a[i].key < b[k].key) (h2 : ¬ b[k].key < a[i].key) :
    ChgAt a b (i + 1) (k + 1) (out ++ if a[i].text = b[k].text then [] else [recSet b[k].key b[k].text]) := by
  refine ⟨hi, hk, ?_⟩
  rw [← h.he, List.drop_eq_getElem_cons hk, List.drop_eq_getElem_cons hi, chg, if_neg h1, if_neg h2, List.append_assoc]

end Go.Proofs.YtmdablalfmcgnaaGreatDoor
-- from Sf
namespace Go.Proofs.YtmdablalfmcgnaaGreatDoor
open Go Go.Ab
set_option maxRecDepth 100000

theorem c_GrowPair (n : Nat) (h0 : 0 < n) (hn : n ≤ 4194304) : MFn Tryz.prog 100 [.nils, .int .i64 n] [] [] (.so 0 2 0 0) [some (.arr 2 (List.replicate n [.str [], .str []]))] := by
  refine mfn_intro [] hm Tryz.func100 (by kernel_rfl) rfl (by kernel_rfl) rfl (fun _ _ h => h) trivial ?_
  have w1 : IntKind.i64.wrap ((n : Int) - IntKind.i64.wrap 0) = n := by rw [show IntKind.i64.wrap 0 = 0 from rfl, Int.sub_zero]; exact w64 (by omega) (by omega)
  simp [w1]
  exact ⟨fun h => by omega, fun _ => ⟨h0, by omega, by omega, Wk.weak (ρ := [0]) (φ := []) (by simp)⟩, fun h => by omega⟩
theorem c_GrowPair0 : HFn Tryz.prog 100 [.nils, .int .i64 0] [] .nils [] := by
  refine hfn_intro hm Tryz.func100 (by kernel_rfl) rfl (by kernel_rfl) rfl ret0_ok ?_
  have w1 : IntKind.i64.wrap 0 = 0 := rfl
  simp [w1]

def catAt (A B : List (List PV)) (i : Nat) : List (List PV) := if i = 0 then [] else if i = 1 then A else A ++ B
theorem c_ConcatPair (A B : List (List PV)) (hA : rowsOne A) (hB : rowsOne B) (hl : A.length + B.length ≤ 2097152) :
    HFn Tryz.prog 58 [.sl 1 [[.sl 2 A], [.sl 2 B]]] [] (.sf 0 2) [some (.arr 2 (A ++ B))] := by
  refine hfn_intro hm Tryz.func58 (by kernel_rfl) rfl (by kernel_rfl) rfl (fun _ _ h => h) ?_
  simp
  refine loop_upto hm 2 (fun i => ⟨[(0, .sl 1 [[.sl 2 A], [.sl 2 B]]), (3, .int .i64 (catAt A B i).length), (9, .sl 1 [[.sl 2 A], [.sl 2 B]]), (10, .int .i64 2), (11, .int .i64 i)], []⟩) (fun _ => True) (by kernel_rfl) ?_ trivial (fun i hi _ => ?_) (fun _ => ?_)
  · exact Wk.weak (ρ := []) (φ := []) (by simp [catAt])
  · have w1 : IntKind.i64.wrap (A.length : Int) = A.length := w64 (by omega) (by omega)
    have w2 : IntKind.i64.wrap ((A.length : Int) + B.length) = A.length + B.length := w64 (by omega) (by omega)
    have hc : i = 0 ∨ i = 1 := by omega
    rcases hc with rfl | rfl
    · simp [catAt, w1]
      refine ⟨fun h => by omega, Wk.weak (ρ := []) (φ := []) ?_⟩
      simp
      rfl
    · simp [catAt, w2]
      refine ⟨fun h => by omega, fun _ => Wk.weak (ρ := []) (φ := []) ?_⟩
      simp
      rfl
  · simp [catAt]
    by_cases hn : A.length + B.length = 0
    · obtain rfl : A = [] := List.eq_nil_of_length_eq_zero (by omega)
      obtain rfl : B = [] := List.eq_nil_of_length_eq_zero (by omega)
      simp
      refine CallZ.use0 c_GrowPair0 rfl rfl ?_
      simp
      refine loop_upto hm 2 (fun i => ⟨[(6, .sf 0 2), (25, .sl 1 [[.sl 2 []], [.sl 2 []]]), (26, .int .i64 2), (27, .int .i64 i)], [some (.arr 2 [])]⟩) (fun _ => True) (by kernel_rfl) ?_ trivial (fun i hi _ => ?_) (fun _ => ?_)
      · refine (weak_nil (t := 6) (z := 2) rfl).trans (Wk.weak (ρ := [0]) (φ := []) ?_)
        simp
      · have hc : i = 0 ∨ i = 1 := by omega
        rcases hc with rfl | rfl
        · simp
          refine ⟨hA, Wk.weak (ρ := [0]) (φ := []) ?_⟩
          simp
          rfl
        · simp
          refine ⟨hA, Wk.weak (ρ := [0]) (φ := []) ?_⟩
          simp
          rfl
      · simp
        exact Wk.weak (ρ := [0]) (φ := []) (by simp)
    · have e : (A.length : Int) + B.length = ((A.length + B.length : Nat) : Int) := by omega
      rw [e]
      refine CallZ.useM [] [] [] (c_GrowPair (A.length + B.length) (by omega) (by omega)) (by simp) rfl rfl (by simp) rfl rfl rfl (.inl rfl) ?_
      simp
      refine loop_upto hm 2 (fun i => ⟨[(6, .so 0 2 0 (catAt A B i).length), (25, .sl 1 [[.sl 2 A], [.sl 2 B]]), (26, .int .i64 2), (27, .int .i64 i)], [some (.arr 2 (catAt A B i ++ List.replicate (A.length + B.length - (catAt A B i).length) [.str [], .str []]))]⟩) (fun _ => True) (by kernel_rfl) ?_ trivial (fun i hi _ => ?_) (fun _ => ?_)
      · refine Wk.weak (ρ := [0]) (φ := []) ?_
        simp [catAt]
      · have hc : i = 0 ∨ i = 1 := by omega
        rcases hc with rfl | rfl
        · simp [catAt]
          refine ⟨hA, Wk.weak (ρ := [0]) (φ := []) ?_⟩
          simp
          rfl
        · simp [catAt]
          refine ⟨hB, Wk.weak (ρ := [0]) (φ := []) ?_⟩
          simp
          rfl
      · simp [catAt]
        have hl0 : (A ++ B).length = A.length + B.length := List.length_append
        refine (weak_cut (S := ⟨[(0, .so 0 2 0 (A.length + B.length))], _⟩) (t := 0) rfl rfl (by simp)).trans (Wk.weak (ρ := [0]) (φ := []) ?_)
        rw [← hl0, List.take_length]
        simp
end Go.Proofs.YtmdablalfmcgnaaGreatDoor
-- from Sg
namespace Go.Proofs.YtmdablalfmcgnaaGreatDoor
open Go Go.Ab
set_option maxRecDepth 100000

theorem state_keys {S : List Pair} (h : stateOk S = true) : keysOk S := by
  have step : ∀ i (hi : i + 1 < S.length), S[i].key < S[i + 1].key := fun i hi => by
    have := List.all_eq_true.1 h (i + 1) (List.mem_range.2 hi)
    have e1 := List.getElem?_eq_getElem hi
    have e2 : S[i]? = some S[i] := List.getElem?_eq_getElem (by omega)
    simp [stAt, e1, e2] at this
    have h2 := this.2
    rw [bytesLess_lt] at h2
    simpa using h2
  have far : ∀ (d i : Nat) (hj : i + d + 1 < S.length), S[i].key < S[i + d + 1].key := fun d => by
    induction d with
    | zero => intro i hj; exact step i hj
    | succ d ih => intro i hj; exact lt_tr (ih i (by omega)) (step (i + d + 1) (by omega))
  intro i j hi hj hij
  have := far (j - i - 1) i (by omega)
  have e : i + (j - i - 1) + 1 = j := by omega
  simp only [e] at this
  exact this
theorem state_strict {S : List Pair} (h : stateOk S = true) : Strict (keysL S) := by
  have := keysOk_pw.1 (state_keys h)
  exact List.pairwise_map.2 this
theorem look_in {S : List Pair} (h : keysOk S) {s : List UInt8} (hf : keyIn S s = true) : ∃ hc : keyCut S s < S.length, S[keyCut S s].key = s ∧ look S s = some S[keyCut S s].text := by
  have hc : keyCut S s < S.length := foundG_lt hf
  have hk : S[keyCut S s].key = s := (key_eq_iff h s hc).2 ⟨rfl, hf⟩
  refine ⟨hc, hk, ?_⟩
  unfold look
  cases e : S.find? fun x => decide (x.key = s) with
  | none => exact absurd hk (by simpa using List.find?_eq_none.1 e _ (List.getElem_mem hc))
  | some x =>
    have h1 := List.find?_some e
    obtain ⟨j, hj, rfl⟩ := List.getElem_of_mem (List.mem_of_find?_eq_some e)
    have := (key_eq_iff h s hj).1 (by simpa using h1)
    obtain ⟨rfl, _⟩ := this
    rfl
theorem look_out {S : List Pair} (h : keysOk S) {s : List UInt8} (hf : keyIn S s = false) : look S s = none := look_none fun k hk => by
  obtain ⟨x, hx, rfl⟩ := List.mem_map.1 hk
  obtain ⟨j, hj, rfl⟩ := List.getElem_of_mem hx
  exact keyIn_not h hf hj

theorem flatMap_take {α β : Type} (f : α → List β) (l : List α) {i : Nat} (h : i < l.length) : (l.take (i + 1)).flatMap f = (l.take i).flatMap f ++ f l[i] := by
  rw [← List.take_append_getElem h, List.flatMap_append]
  simp
theorem chgF_len (a b : List Pair) (k : List UInt8) : (chgF a b k).length ≤ 1 := by
  unfold chgF
  split
  · simp
  · split <;> simp
theorem flat_le (a b : List Pair) : ∀ (l : List (List UInt8)), (l.flatMap (chgF a b)).length ≤ l.length
  | [] => by simp
  | k :: l => by
    have h1 := chgF_len a b k
    have h2 := flat_le a b l
    rw [List.flatMap_cons, List.length_append, List.length_cons]
    omega
theorem rowsOne_pairs (S : List Pair) : rowsOne (Pair.rows S) := fun r hr => by
  obtain ⟨x, _, rfl⟩ := List.mem_map.1 hr
  rfl
theorem strRows_getE (l : List (List UInt8)) {i : Nat} (h : i < (strRows l).length) : (strRows l)[i] = [PV.str (l[i]'(by simpa [strRows] using h))] := by simp [strRows]

set_option maxHeartbeats 4000000 in
theorem c_impl_ChangesBetween (a b : List Pair) (ha : a.length ≤ 1048576) (hb : b.length ≤ 1048576) (wa : ∀ x ∈ a, x.wf) (wb : ∀ x ∈ b, x.wf) :
    HFn Tryz.prog 17 [.sl 2 (Pair.rows a), .sl 2 (Pair.rows b)] [] (.tup [.sf 0 3, .int .i64 (chgCode a b)]) [some (.arr 3 (Record.rows (chgL a b)))] := by
  refine hfn_intro hm Tryz.func17 (by kernel_rfl) rfl (by kernel_rfl) rfl (fun _ _ h => h) ?_
  simp
  refine CallZ.use0 (c_impl_isState a (by omega) wa) rfl rfl ?_
  simp
  refine CallY.use (fun _ => ⟨rfl, c_impl_isState b (by omega) wb⟩) rfl rfl ?_
  simp
  refine ⟨fun h => ?_, fun h1 h2 => ?_⟩
  · refine (weak_nilT (t := 0) 0 3 rfl rfl).trans (Wk.weak (ρ := [0]) (φ := []) ?_)
    have hn : ¬ (stateOk a = true ∧ stateOk b = true) := by
      rintro ⟨g1, g2⟩
      rcases h with h | h
      · rw [g1] at h; cases h
      · rw [g2] at h; cases h
    simp [chgCode, chgL, hn, Record.rows]
  have hL : chgL a b = chg a b := if_pos ⟨h1, h2⟩
  have hC : chgCode a b = 0 := if_pos ⟨h1, h2⟩
  have ka := state_keys h1
  have kb := state_keys h2
  have hK := keysK_eq (state_strict h1) (state_strict h2)
  have hE : chg a b = (keysK a b).flatMap (chgF a b) := by rw [hK]; exact chg_eq a b (state_strict h1) (state_strict h2)
  rw [hL, hC, hE]
  have hap : Pair.rows a ++ Pair.rows b = Pair.rows (a ++ b) := by simp [Pair.rows]
  refine CallZ.use (c_ConcatPair (Pair.rows a) (Pair.rows b) (rowsOne_pairs a) (rowsOne_pairs b) (by simp only [Pair.rows_len]; omega)) rfl (.inr ⟨by rw [hap]; exact Pair.flat _, trivial⟩) rfl rfl ?_
  rw [hap]
  have hKd : keysK a b = Lib.compact (sortS (keysL (a ++ b))) := by simp [keysK, sortS, keysL]
  obtain ⟨ab, hab⟩ : ∃ ab, a ++ b = ab := ⟨_, rfl⟩
  have habl : ab.length ≤ 2097152 := by rw [← hab]; simp; omega
  rw [hab] at hKd ⊢
  simp [Pair.rows_len]
  refine loop_upto hm ab.length (fun i => ⟨[(0, .sl 2 (Pair.rows a)), (1, .sl 2 (Pair.rows b)), (6, .sf 1 1), (27, .sf 0 2), (28, .int .i64 ab.length), (29, .int .i64 i)], [some (.arr 2 (Pair.rows ab)), some (.arr 1 (strRows ((keysL ab).take i)))]⟩) (fun _ => True) (by kernel_rfl) ?_ trivial (fun i hi _ => ?_) (fun _ => ?_)
  · refine (weak_nil (t := 6) (z := 1) rfl).trans (Wk.weak (ρ := [1, 2]) (φ := []) ?_)
    simp [strRows]
  · have w1 : IntKind.i64.wrap ((i : Int) + 1) = (i : Int) + 1 := w64 (by omega) (by omega)
    have hs' : (keysL ab).take (i + 1) = (keysL ab).take i ++ [ab[i].key] := by
      rw [← List.take_append_getElem (by simpa [keysL] using hi)]
      simp [keysL]
    have hl : (strRows ((keysL ab).take i)).length ≤ 2097152 := by simp [strRows]; omega
    simp [hi, Pair.rows_len, Pair.row_get]
    refine ⟨by simp [rowsOne], by omega, by omega, Wk.weak (ρ := [0, 1]) (φ := []) ?_⟩
    simp [w1, hs', strRows]
  · have hall : (keysL ab).take ab.length = keysL ab := List.take_of_length_le (by simp [keysL])
    have hsl : (sortS (keysL ab)).length = ab.length := by rw [sortS, List.length_mergeSort]; simp [keysL]
    have hcl := compact_le (sortS (keysL ab))
    rw [hall]
    simp
    refine CallZ.useK 1 (c_SortString (keysL ab) (by simp [keysL]; omega)) rfl (by simp) rfl (by simp) rfl rfl ?_
    simp
    refine CallZ.useK 1 (c_CompactString (sortS (keysL ab)) (by omega)) rfl (by simp) rfl (by simp) rfl rfl ?_
    rw [← hKd] at hcl ⊢
    obtain ⟨K, hKK⟩ : ∃ K, keysK a b = K := ⟨_, rfl⟩
    obtain ⟨T, hT⟩ : ∃ T, K ++ List.replicate ((sortS (keysL ab)).length - K.length) [] = T := ⟨_, rfl⟩
    rw [hKK] at hcl ⊢
    have hTl : (strRows T).length = (sortS (keysL ab)).length := by rw [← hT]; simp [strRows]; omega
    have hTK : (strRows T).take K.length = strRows K := by rw [← hT]; simp [strRows]
    rw [hT]
    simp
    refine loop_upto hm K.length (fun i => ⟨[(0, .sl 2 (Pair.rows a)), (1, .sl 2 (Pair.rows b)), (9, .sf 0 3), (42, .sf 1 1), (43, .int .i64 K.length), (44, .int .i64 i)], [some (.arr 3 (Record.rows ((K.take i).flatMap (chgF a b)))), some (.arr 1 (strRows K))]⟩) (fun _ => True) (by kernel_rfl) ?_ trivial (fun i hi _ => ?_) (fun _ => ?_)
    · refine (weak_cut (t := 42) (k := 1) (z := 1) (len := K.length) (rows := strRows T) rfl rfl (by omega)).trans ((weak_nil (t := 9) (z := 3) rfl).trans (Wk.weak (ρ := [2, 1]) (φ := []) ?_))
      rw [hTK]
      simp [Record.rows]
    · have w1 : IntKind.i64.wrap ((i : Int) + 1) = (i : Int) + 1 := w64 (by omega) (by omega)
      have hkl : (strRows K).length = K.length := by simp [strRows]
      have hget : ∀ h, (strRows K)[i]'h = [PV.str K[i]] := fun h => strRows_getE K h
      have hf1 := flatMap_take (chgF a b) K hi
      obtain ⟨E, hE'⟩ : ∃ E, (K.take i).flatMap (chgF a b) = E := ⟨_, rfl⟩
      have hEl : (Record.rows E).length ≤ 2097152 := by
        have := flat_le a b (K.take i)
        rw [hE', List.length_take] at this
        rw [Record.rows_len]
        omega
      rw [hf1, hE']
      obtain ⟨k, hk⟩ : ∃ k, K[i] = k := ⟨_, rfl⟩
      simp only [hk] at hget ⊢
      simp (maxSteps := 2000000) [hi, hkl, hget]
      refine CallZ.use0 (c_pairAt a k (by omega) ka) rfl rfl ?_
      simp (maxSteps := 2000000)
      refine CallZ.use0 (c_pairAt b k (by omega) kb) rfl rfl ?_
      cases fb : keyIn b k with
      | false =>
        have lb := look_out kb fb
        simp (maxSteps := 2000000)
        refine ⟨by simp [rowsOne], by omega, by omega, Wk.weak (ρ := [0, 1]) (φ := []) ?_⟩
        simp [w1, chgF, lb, Record.rows, recDrop, Record.cells]
      | true =>
        obtain ⟨cb, eb, lb⟩ := look_in kb fb
        cases fa : keyIn a k with
        | false =>
          have la := look_out ka fa
          simp (maxSteps := 2000000) [Pair.rows_len, Pair.row_get, cb]
          refine ⟨by simp [rowsOne], by omega, by omega, Wk.weak (ρ := [0, 1]) (φ := []) ?_⟩
          simp [w1, chgF, lb, la, Record.rows, recSet, Record.cells]
        | true =>
          obtain ⟨ca, ea, la⟩ := look_in ka fa
          simp (maxSteps := 2000000) [Pair.rows_len, Pair.row_get, cb, ca]
          refine ⟨fun hne => ⟨by simp [rowsOne], by omega, by omega, Wk.weak (ρ := [0, 1]) (φ := []) ?_⟩, fun heq => Wk.weak (ρ := [0, 1]) (φ := []) ?_⟩
          · simp [w1, chgF, lb, la, hne, Record.rows, recSet, Record.cells]
          · simp [w1, chgF, lb, la, heq]
    · rw [List.take_length]
      simp
      exact Wk.weak (ρ := [0]) (φ := []) (by simp)
end Go.Proofs.YtmdablalfmcgnaaGreatDoor
