/- slices.SortFunc at pins: the kit's contract over memory as a contract over plain values. No condition. -/
import Derived.Test.YtoeklljhjhidbaaGreatDoorAcm
import Derived.Test.YtoeklljhjhidbaaGreatDoorBa
import Derived.Test.YtoeklljhjhidbaaGreatDoorSh
import Derived.Test.YtoeklljhjhidbaaGreatDoorFe
import Derived.Shelf.SlSortCmp.NoneTotal
namespace Go.Proofs.YtoeklljhjhidbaaGreatDoor
open Go Go.Ab
set_option maxRecDepth 100000

instance : Inhabited Pin := ⟨⟨0, 0⟩⟩
def encPin (p : Pin) : List Value := [.int .i64 p.step, .int .i64 p.hammer]
def sortP (l : List Pin) : List Pin := l.mergeSort fun x y => !(pinLt y x)

theorem ltPin : ltOf cmpPin = pinLt := by
  funext x y
  unfold ltOf
  have := cmpPin_neg x y
  cases h : pinLt x y <;> simp [h] at this ⊢ <;> omega
theorem swoPin : Sort.SWO (ltOf cmpPin) where
  irrefl x := by rw [ltPin]; simp [pinLt]
  trans x y z h1 h2 := by
    rw [ltPin] at *
    exact pinLt_trans h1 (.inl h2)
  ntrans x y z h1 h2 := by
    rw [ltPin] at *
    unfold pinLt at *
    simp at *
    omega
theorem totPin (x y : Pin) (h1 : ltOf cmpPin x y = false) (h2 : ltOf cmpPin y x = false) : x = y := by
  rw [ltPin] at *
  unfold pinLt at *
  simp at *
  rw [Pin.eq_iff]
  omega

theorem flat_pin (l : List Pin) {i j : Nat} (hi : i < l.length) (hj : j < 2) : (Sort.flatK encPin 2 l.toArray)[i * 2 + j]! = if j = 0 then .int .i64 l[i].step else .int .i64 l[i].hammer := by
  rw [Sort.get_flatK _ _ _ _ (by simp; omega)]
  have h1 : (i * 2 + j) / 2 = i := by omega
  have h2 : (i * 2 + j) % 2 = j := by omega
  rw [h1, h2]
  have h3 : (l.toArray)[i]! = l[i] := by simp [hi]
  rw [h3]
  have hc : j = 0 ∨ j = 1 := by omega
  rcases hc with rfl | rfl <;> rfl

theorem pins_held {A : Nat → Prop} {w : World} {b : Nat} {e : TypeId} {l : List Pin} {cur : Array Value} (hb : w.heap[b]? = some (.cells cur e (0, 0))) (hc : CellsOf A w 2 (Pin.rows l) cur) : Sort.HoldsK encPin 2 w b 0 l.toArray := by
  intro t ht
  have ht' : t < l.length * 2 := by simpa using ht
  refine ⟨?_, by simp [World.frozen?, hb]⟩
  obtain ⟨i, j, rfl, hj⟩ : ∃ i j, t = i * 2 + j ∧ j < 2 := ⟨t / 2, t % 2, by omega, by omega⟩
  have hi : i < l.length := by omega
  rw [flat_pin l hi hj]
  have hr : (Pin.rows l)[i]? = some l[i].cells := by simp [Pin.rows, hi]
  have hj' : j = 0 ∨ j = 1 := by omega
  rcases hj' with rfl | rfl
  · obtain ⟨u, hu, hu'⟩ := hc i 0 _ (.int .i64 l[i].step) hr rfl
    cases hu'
    simpa [World.cell?, hb] using hu
  · obtain ⟨u, hu, hu'⟩ := hc i 1 _ (.int .i64 l[i].hammer) hr rfl
    cases hu'
    simpa [World.cell?, hb] using hu

theorem pins_laid {A : Nat → Prop} {w : World} {l : List Pin} {cur : Array Value} (hs : l.length * 2 ≤ cur.size) : CellsOf A w 2 (Pin.rows l) (Sort.putCells id 0 (Sort.flatK encPin 2 l.toArray) cur) := by
  intro i j r c hr hc
  have hi : i < l.length := by
    have := (List.getElem?_eq_some_iff.1 hr).1
    simpa [Pin.rows] using this
  have hr' : (Pin.rows l)[i]? = some l[i].cells := by simp [Pin.rows, hi]
  rw [hr'] at hr
  cases hr
  have hj : j < 2 := (List.getElem?_eq_some_iff.1 hc).1
  have hsz : (Sort.flatK encPin 2 l.toArray).size = l.length * 2 := by simp
  have hput : (Sort.putCells id 0 (Sort.flatK encPin 2 l.toArray) cur)[i * 2 + j]? = some (Sort.flatK encPin 2 l.toArray)[i * 2 + j]! := by
    have h1 : i * 2 + j < cur.size := by omega
    have h2 : i * 2 + j < l.length * 2 := by omega
    unfold Sort.putCells
    rw [Array.getElem?_mapIdx, Array.getElem?_eq_getElem h1]
    simp only [Option.map_some, Nat.zero_le, true_and, Nat.zero_add, hsz, h2, if_true, Nat.sub_zero, id]
  refine ⟨_, hput, ?_⟩
  rw [flat_pin l hi hj]
  have hj' : j = 0 ∨ j = 1 := by omega
  rcases hj' with rfl | rfl
  · cases hc
    exact .int _ _
  · cases hc
    exact .int _ _

theorem aggPin (w : World) : (isAgg 37).run Tryz.prog w = .ok true w := by
  have h := aggT_spec (w0 := w) Tryz.underlying37
  rw [ty37.2.1] at h
  exact h
theorem sizePin (w : World) : (Go.sizeOf 37).run Tryz.prog w = .ok 2 w := by
  have h := sizeT_spec (P := Tryz.prog) (t := 37) (by rw [ty37.2.2.1]; decide) w
  rw [ty37.2.2.1] at h
  exact h
theorem c_SortFuncPin [Go.Ab.Drwn] (l : List Pin) (hl : l.length ≤ 1048576) : MFn Tryz.prog 23 [.sf 0 2, .fn 24 []] [some (.arr 2 (Pin.rows l))] [0] (.tup []) [some (.arr 2 (Pin.rows (sortP l)))] := by
  have hL : (sortP l).length = l.length := List.length_mergeSort _
  refine mfn_inplace_f (by simp [Pin.rows, hL]) (fun i r hr => ?_) (fun he ao cap w => ?_) (fun A w b C cur e hA p1 hb hsz hC hmax hne hcells => ?_)
  · rw [Pin.rows, List.getElem?_map] at hr
    cases hx : (sortP l)[i]? with
    | none => rw [hx] at hr; cases hr
    | some x => rw [hx] at hr; cases hr; rfl
  · unfold CallS
    rw [enters Tryz.func23 (by kernel_rfl) rfl]
    exact ⟨rfl, AnyF.slices_SortFunc_none Tryz.laysSortPin ao cap _ w⟩
  · rw [Pin.rows_len] at hC ⊢
    unfold CallS
    rw [enters Tryz.func23 (by kernel_rfl) rfl]
    have hblk : b < w.heap.size := (Array.getElem?_eq_some_iff.1 hb).1
    have hcmp : CmpLays Tryz.prog 24 #[] encPin 2 cmpPin b 0 l.toArray.size w := by
      intro m os dk hdk x y
      refine calls_of_hfn (dw := ⟨true⟩) rfl (letI : Go.Ab.Drwn := ⟨true⟩; c_comparePins x y) Tryz.func24 (by kernel_rfl) rfl (A := A) (hA.mono (fun j hj => ?_) (fun _ h => h) fun j hj => ?_) rfl fun i p hp => ?_
      · exact Nat.lt_of_lt_of_le (hA j hj) (Go.Proofs.size_sortWorldK_c encPin 2 w b 0 m dk os)
      · have hne' : b ≠ j := fun e => p1 (e ▸ hj)
        unfold sortWorldK
        rw [Sort.heap_grow_old _ _ (by simpa [Sort.putRowK] using hA j hj)]
        simp [Sort.putRowK, Sort.putRow, Sort.mapBlock, Sort.ahead, Array.getElem?_modify, hne']
      · have hc : ∀ (q : Pin) (i : Nat) (c : PV), q.cells[i]? = some c → RepI A (sortWorldK encPin 2 w b 0 m dk os) c ((encPin q).toArray.getD i undef) := fun q i c hc => by
          have hi := (List.getElem?_eq_some_iff.1 hc).1
          have hj' : i = 0 ∨ i = 1 := by simp [Pin.cells] at hi; omega
          rcases hj' with rfl | rfl
          · cases hc
            exact .int _ _
          · cases hc
            exact .int _ _
        have hi := (List.getElem?_eq_some_iff.1 hp).1
        have hj' : i = 0 ∨ i = 1 := by simp at hi; omega
        rcases hj' with rfl | rfl
        · cases hp
          exact .agg _ _ rfl (hc x)
        · cases hp
          exact .agg _ _ rfl (hc y)
    have hk := AnyQ.slices_SortFunc_total Tryz.laysSortPin 2 aggPin sizePin encPin (fun _ => rfl) (fun x v hv => by simp [encPin] at hv; rcases hv with rfl | rfl <;> rfl) cmpPin swoPin 24 #[] b 0 C l.toArray w
      (fun args w => enters Tryz.func24 (by kernel_rfl) rfl args w) hcmp (pins_held hb hcells) hblk (by simp; omega) totPin
    rw [ltPin] at hk
    have hd : l.toArray.size = l.length := by simp
    rw [hd] at hk
    refine ⟨rfl, hk.mono fun e' w' ⟨g1, n, os, g2⟩ => ?_⟩
    subst g2
    refine ⟨g1, rfl, rfl, rfl, Nat.le_add_right _ _, Go.Proofs.size_sortWorldK_c encPin 2 w b 0 n _ os, fun j hj hne' => ?_, Sort.putCells id 0 (Sort.flatK encPin 2 (sortP l).toArray) cur, ?_, by simp [Sort.putCells], pins_laid (by omega)⟩
    · unfold sortWorldK
      rw [Sort.heap_grow_old _ _ (by simpa [Sort.putRowK] using hj)]
      simp [Sort.putRowK, Sort.putRow, Sort.mapBlock, Sort.ahead, Array.getElem?_modify, Ne.symm hne']
    · unfold sortWorldK
      rw [Sort.heap_grow_old _ _ (by simpa [Sort.putRowK] using hblk)]
      simp [Sort.putRowK, Sort.putRow, Sort.mapBlock, Sort.ahead, Array.getElem?_modify, hb, Sort.onCells, sortP]
end Go.Proofs.YtoeklljhjhidbaaGreatDoor
