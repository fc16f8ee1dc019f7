/- slices.Sort and slices.Compact at strings: the kit's contracts over memory as contracts over plain values. No condition. -/
import Derived.Test.YtnphmemhejhooaaAcl
import Derived.Test.YtnphmemhejhooaaBa
import Derived.Test.YtnphmemhejhooaaSh
import Derived.Test.YtnphmemhejhooaaCd
import Derived.Sort.OwnSorted
namespace Go.Proofs.Ytnphmemhejhooaa
open Go Go.Ab
set_option maxRecDepth 100000

theorem strings_of_cells {A : Nat → Prop} {w : World} {ss : List (List UInt8)} {cur : Array Value} (hcells : CellsOf A w 1 (strRows ss) cur) : cur.toList.take ss.length = ss.map Go.Proofs.encStr := by
  apply List.ext_getElem?
  intro j
  by_cases hj : j < ss.length
  · obtain ⟨u, hu, hr⟩ := hcells j 0 [.str ss[j]] (.str ss[j]) (by simp [strRows, hj]) rfl
    cases hr with
    | str _ bb hbb =>
      have e1 : bb = ⟨ss[j].toArray⟩ := by
        cases bb with
        | mk d => simp at hbb; rw [← hbb]
      rw [List.getElem?_take_of_lt hj, Array.getElem?_toList]
      simp only [Nat.mul_one, Nat.add_zero] at hu
      rw [hu, List.getElem?_map, List.getElem?_eq_getElem hj, e1]
      rfl
  · rw [List.getElem?_take_eq_none (by omega), List.getElem?_eq_none (by simp; omega)]

/-- What is laid into a row of strings reads so. -/
theorem cells_of_strings {A : Nat → Prop} {w : World} {cur : Array Value} (ss : List (List UInt8)) (hC : ss.length ≤ cur.size) : CellsOf A w 1 (strRows ss) (Go.Sort.putCells Go.Proofs.encStr 0 ss.toArray cur) := fun i j r c hr hc => by
  rw [strRows, List.getElem?_map] at hr
  cases hx : ss[i]? with
  | none => rw [hx] at hr; cases hr
  | some x =>
    rw [hx] at hr
    cases hr
    have hi : i < ss.length := (List.getElem?_eq_some_iff.1 hx).1
    cases j with
    | zero =>
      cases hc
      have h1 := Go.take_putCells cur ss hC
      have h2 : ((Go.Sort.putCells Go.Proofs.encStr 0 ss.toArray cur).toList.take ss.length)[i]? = some (Go.Proofs.encStr x) := by rw [h1, List.getElem?_map, hx]; rfl
      rw [List.getElem?_take_of_lt hi, Array.getElem?_toList] at h2
      exact ⟨_, by simpa using h2, .str _ _ rfl⟩
    | succ j => cases hc

theorem strRows_row {ss : List (List UInt8)} (i : Nat) (r : List PV) (hr : (strRows ss)[i]? = some r) : r.length = 1 := by
  rw [strRows, List.getElem?_map] at hr
  cases hx : ss[i]? with
  | none => rw [hx] at hr; cases hr
  | some x => rw [hx] at hr; cases hr; rfl

def sortS (ss : List (List UInt8)) : List (List UInt8) := ss.mergeSort fun x y => decide (x ≤ y)
theorem c_SortString (ss : List (List UInt8)) (hss : ss.length ≤ 2097152) : MFn Try.prog 89 [.sf 0 1] [some (.arr 1 (strRows ss))] [0] (.tup []) [some (.arr 1 (strRows (sortS ss)))] := by
  have hl : (strRows ss).length = ss.length := List.length_map _
  have hl' : (sortS ss).length = ss.length := List.length_mergeSort _
  refine mfn_inplace (by simp [strRows, hl']) strRows_row (fun he ao cap w => ?_) (fun A w b C cur e p1 hb hsz hC hmax hne hcells => ?_)
  · unfold CallS
    rw [enters Try.func89 (by kernel_rfl) rfl]
    exact ⟨rfl, Try.slices_Sort_string_none ao cap w⟩
  · rw [hl] at hC ⊢
    unfold CallS
    rw [enters Try.func89 (by kernel_rfl) rfl]
    refine ⟨rfl, (Try.slices_Sort_string b 0 C ss w (Go.holds_of_block hb (strings_of_cells hcells)) (Array.getElem?_eq_some_iff.1 hb).1 (by omega)).mono fun e' w' ⟨g1, n, os, g2⟩ => ?_⟩
    subst g2
    refine ⟨g1, rfl, rfl, rfl, Nat.le_add_right _ _, by simp, fun j hj hne' => ?_, _, Go.heap_sorted _ hb, by simp [Go.Sort.putCells], cells_of_strings (sortS ss) (by omega)⟩
    rw [Go.Sort.heap_grow_old _ _ (by simpa using hj)]
    simp [Go.Sort.putRow, Go.Sort.mapBlock, Go.Sort.ahead, Array.getElem?_modify, Ne.symm hne']

theorem compact_le (ss : List (List UInt8)) : (Lib.compact ss).length ≤ ss.length := by
  unfold Lib.compact Lib.compactUpTo
  rw [List.length_map]
  refine Nat.le_trans (List.length_filter_le _ _) ?_
  simp
theorem c_CompactString (ss : List (List UInt8)) (hss : ss.length ≤ 2097152) : MFn Try.prog 90 [.sf 0 1] [some (.arr 1 (strRows ss))] [0] (.so 0 1 0 (Lib.compact ss).length) [some (.arr 1 (strRows (Lib.compact ss ++ List.replicate (ss.length - (Lib.compact ss).length) [])))] := by
  have hl : (strRows ss).length = ss.length := List.length_map _
  have hcl := compact_le ss
  obtain ⟨D, hD⟩ : ∃ D, Lib.compact ss ++ List.replicate (ss.length - (Lib.compact ss).length) [] = D := ⟨_, rfl⟩
  have hDl : D.length = ss.length := by rw [← hD]; simp; omega
  have hk := fun (b C : Nat) (w : World) hH hC => Try.slices_Compact_string b 0 C ss w hH (by omega) hC
  rw [hD] at hk ⊢
  generalize hc : (Lib.compact ss).length = c at hcl hk ⊢
  refine mfn_inplace_so (by simp [strRows]; omega) (by simp [strRows]; omega) strRows_row (fun he ao cap w => ?_) (fun A w b C cur e p1 hb hsz hC hmax hne hcells => ?_)
  · obtain rfl : ss = [] := by cases ss with
      | nil => rfl
      | cons x r => cases he
    obtain rfl : c = 0 := by simpa using hcl
    unfold CallS
    rw [enters Try.func90 (by kernel_rfl) rfl]
    exact ⟨rfl, Try.slices_Compact_string_empty ao cap w⟩
  · rw [hl] at hC ⊢
    unfold CallS
    rw [enters Try.func90 (by kernel_rfl) rfl]
    refine ⟨rfl, (hk b C w (Go.holds_of_block hb (strings_of_cells hcells)) hC).mono fun e' w' ⟨g1, n, g2⟩ => ?_⟩
    subst g2
    have hs := Go.heap_sorted (n := n) (os := #[]) D.toArray hb
    rw [Go.Sort.grow_empty] at hs
    refine ⟨g1, rfl, rfl, rfl, Nat.le_add_right _ _, by simp [Go.Sort.putRow, Go.Sort.mapBlock, Go.Sort.ahead], fun j hj hne' => ?_, _, hs, by simp [Go.Sort.putCells], cells_of_strings D (by omega)⟩
    simp [Go.Sort.putRow, Go.Sort.mapBlock, Go.Sort.ahead, Array.getElem?_modify, Ne.symm hne']
end Go.Proofs.Ytnphmemhejhooaa
