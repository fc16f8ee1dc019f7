/- slices.Sort and slices.Compact at machine numbers: the kit's contracts over memory as contracts over plain values. No condition. -/
import Derived.Test.YtndbhcnedfbcoaaDoorAcl
import Derived.Test.YtndbhcnedfbcoaaDoorBa
import Derived.Test.YtndbhcnedfbcoaaDoorSk
import Derived.Test.YtndbhcnedfbcoaaDoorCm
import Derived.Sort.OwnSortedInts
import Derived.Lib.SlicesCompact
namespace Go.Proofs.YtndbhcnedfbcoaaDoor
open Go Go.Ab
set_option maxRecDepth 100000

theorem ints_of_cells {A : Nat → Prop} {w : World} {ss : List Int} {cur : Array Value} (hcells : CellsOf A w 1 (intRows ss) cur) : cur.toList.take ss.length = ss.map (Value.int .i64) := by
  apply List.ext_getElem?
  intro j
  by_cases hj : j < ss.length
  · obtain ⟨u, hu, hr⟩ := hcells j 0 [.int .i64 ss[j]] (.int .i64 ss[j]) (by simp [intRows, hj]) rfl
    cases hr
    rw [List.getElem?_take_of_lt hj, Array.getElem?_toList]
    simp only [Nat.mul_one, Nat.add_zero] at hu
    rw [hu, List.getElem?_map, List.getElem?_eq_getElem hj]
    rfl
  · rw [List.getElem?_take_eq_none (by omega), List.getElem?_eq_none (by simp; omega)]

theorem cells_of_ints {A : Nat → Prop} {w : World} {cur : Array Value} (ss : List Int) (hC : ss.length ≤ cur.size) : CellsOf A w 1 (intRows ss) (Go.Sort.putCells (Value.int .i64) 0 ss.toArray cur) := fun i j r c hr hc => by
  rw [intRows, List.getElem?_map] at hr
  cases hx : ss[i]? with
  | none => rw [hx] at hr; cases hr
  | some x =>
    rw [hx] at hr
    cases hr
    have hi : i < ss.length := (List.getElem?_eq_some_iff.1 hx).1
    cases j with
    | zero =>
      cases hc
      have h1 := Go.take_putCellsI cur ss hC
      have h2 : ((Go.Sort.putCells (Value.int .i64) 0 ss.toArray cur).toList.take ss.length)[i]? = some (.int .i64 x) := by rw [h1, List.getElem?_map, hx]; rfl
      rw [List.getElem?_take_of_lt hi, Array.getElem?_toList] at h2
      exact ⟨_, by simpa using h2, .int _ _⟩
    | succ j => cases hc

theorem intRows_row {ss : List Int} (i : Nat) (r : List PV) (hr : (intRows ss)[i]? = some r) : r.length = 1 := by
  rw [intRows, List.getElem?_map] at hr
  cases hx : ss[i]? with
  | none => rw [hx] at hr; cases hr
  | some x => rw [hx] at hr; cases hr; rfl

def sortN (ss : List Int) : List Int := ss.mergeSort fun x y => decide (x ≤ y)
theorem c_SortInt (ss : List Int) (hss : ss.length ≤ 2097152) : MFn Tryd.prog 35 [.sf 0 1] [some (.arr 1 (intRows ss))] [0] (.tup []) [some (.arr 1 (intRows (sortN ss)))] := by
  have hl : (intRows ss).length = ss.length := List.length_map _
  have hl' : (sortN ss).length = ss.length := List.length_mergeSort _
  refine mfn_inplace (by simp [intRows, hl']) intRows_row (fun he ao cap w => ?_) (fun A w b C cur e p1 hb hsz hC hmax hne hcells => ?_)
  · unfold CallS
    rw [enters Tryd.func35 (by kernel_rfl) rfl]
    exact ⟨rfl, Tryd.slices_Sort_int_none ao cap w⟩
  · rw [hl] at hC ⊢
    unfold CallS
    rw [enters Tryd.func35 (by kernel_rfl) rfl]
    refine ⟨rfl, (Tryd.slices_Sort_int b 0 C ss w (Go.holds_of_blockI hb (ints_of_cells hcells)) (Array.getElem?_eq_some_iff.1 hb).1 (by omega)).mono fun e' w' ⟨g1, n, os, g2⟩ => ?_⟩
    subst g2
    refine ⟨g1, rfl, rfl, rfl, Nat.le_add_right _ _, by simp, fun j hj hne' => ?_, _, Go.heap_sortedI _ hb, by simp [Go.Sort.putCells], cells_of_ints (sortN ss) (by omega)⟩
    rw [Go.Sort.heap_grow_old _ _ (by simpa using hj)]
    simp [Go.Sort.putRow, Go.Sort.mapBlock, Go.Sort.ahead, Array.getElem?_modify, Ne.symm hne']

theorem compactI_le (ss : List Int) : (Lib.compact ss).length ≤ ss.length := by
  unfold Lib.compact Lib.compactUpTo
  rw [List.length_map]
  refine Nat.le_trans (List.length_filter_le _ _) ?_
  simp
end Go.Proofs.YtndbhcnedfbcoaaDoor
