/- slices.SortFunc at tones of one length: the kit's contract over memory as a contract over plain values. No condition. -/
import Derived.Test.YtmdablalfmcgnaaGreatAcm
import Derived.Test.YtmdablalfmcgnaaGreatBa
import Derived.Test.YtmdablalfmcgnaaGreatSh
import Derived.Test.YtmdablalfmcgnaaGreatUb
import Derived.Shelf.SlSortCmp.NoneTotal
namespace Go.Proofs.YtmdablalfmcgnaaGreat
open Go Go.Ab
set_option maxRecDepth 100000

/-- A tone of the given length, by its start and its note. -/
def nsTone (per : Int) (p : Int × Int) : Tone := ⟨p.2, p.1, per⟩
def encNS (per : Int) (p : Int × Int) : List Value := [.int .i64 p.2, .int .i64 p.1, .int .i64 per]
def cmpNS (a b : Int × Int) : Int := orL [cmpI a.1 b.1, cmpI a.2 b.2]
def nsLt (a b : Int × Int) : Bool := decide (a.1 < b.1) || (decide (a.1 = b.1) && decide (a.2 < b.2))
def sortNS (l : List (Int × Int)) : List (Int × Int) := l.mergeSort fun x y => !(nsLt y x)
def nsRows (per : Int) (l : List (Int × Int)) : List (List PV) := Tone.rows (l.map (nsTone per))

theorem nsRows_len (per : Int) (l : List (Int × Int)) : (nsRows per l).length = l.length := by simp [nsRows, Tone.rows]
theorem ltNS : ltOf cmpNS = nsLt := by
  funext x y
  unfold ltOf cmpNS cmpI nsLt
  simp [orL]
  grind
theorem swoNS : Sort.SWO (ltOf cmpNS) where
  irrefl x := by rw [ltNS]; simp [nsLt]
  trans x y z h1 h2 := by
    rw [ltNS] at *
    unfold nsLt at *
    simp at *
    omega
  ntrans x y z h1 h2 := by
    rw [ltNS] at *
    unfold nsLt at *
    simp at *
    omega
theorem totNS (x y : Int × Int) (h1 : ltOf cmpNS x y = false) (h2 : ltOf cmpNS y x = false) : x = y := by
  rw [ltNS] at *
  unfold nsLt at *
  simp at *
  obtain ⟨a, b⟩ := x
  obtain ⟨c, d⟩ := y
  simp only [Prod.mk.injEq] at *
  omega

theorem flat_ns (per : Int) (l : List (Int × Int)) {i j : Nat} (hi : i < l.length) (hj : j < 3) : (Sort.flatK (encNS per) 3 l.toArray)[i * 3 + j]! = if j = 0 then .int .i64 l[i].2 else if j = 1 then .int .i64 l[i].1 else .int .i64 per := by
  rw [Sort.get_flatK _ _ _ _ (by simp; omega)]
  have h1 : (i * 3 + j) / 3 = i := by omega
  have h2 : (i * 3 + j) % 3 = j := by omega
  rw [h1, h2]
  have h3 : (l.toArray)[i]! = l[i] := by simp [hi]
  rw [h3]
  have hc : j = 0 ∨ j = 1 ∨ j = 2 := by omega
  rcases hc with rfl | rfl | rfl <;> rfl
theorem nsRow (per : Int) {l : List (Int × Int)} {i : Nat} (hi : i < l.length) : (nsRows per l)[i]? = some [.int .i64 l[i].2, .int .i64 l[i].1, .int .i64 per] := by simp [nsRows, Tone.rows, Tone.cells, nsTone, hi]

theorem ns_held {A : Nat → Prop} {w : World} {b : Nat} {e : TypeId} {per : Int} {l : List (Int × Int)} {cur : Array Value} (hb : w.heap[b]? = some (.cells cur e (0, 0))) (hc : CellsOf A w 3 (nsRows per l) cur) : Sort.HoldsK (encNS per) 3 w b 0 l.toArray := by
  intro t ht
  have ht' : t < l.length * 3 := by simpa using ht
  refine ⟨?_, by simp [World.frozen?, hb]⟩
  obtain ⟨i, j, rfl, hj⟩ : ∃ i j, t = i * 3 + j ∧ j < 3 := ⟨t / 3, t % 3, by omega, by omega⟩
  have hi : i < l.length := by omega
  rw [flat_ns per l hi hj]
  have hr := nsRow per hi
  have hj' : j = 0 ∨ j = 1 ∨ j = 2 := by omega
  rcases hj' with rfl | rfl | rfl
  · obtain ⟨u, hu, hu'⟩ := hc i 0 _ (.int .i64 l[i].2) hr rfl
    cases hu'
    simpa [World.cell?, hb] using hu
  · obtain ⟨u, hu, hu'⟩ := hc i 1 _ (.int .i64 l[i].1) hr rfl
    cases hu'
    simpa [World.cell?, hb] using hu
  · obtain ⟨u, hu, hu'⟩ := hc i 2 _ (.int .i64 per) hr rfl
    cases hu'
    simpa [World.cell?, hb] using hu

theorem ns_laid {A : Nat → Prop} {w : World} {per : Int} {l : List (Int × Int)} {cur : Array Value} (hs : l.length * 3 ≤ cur.size) : CellsOf A w 3 (nsRows per l) (Sort.putCells id 0 (Sort.flatK (encNS per) 3 l.toArray) cur) := by
  intro i j r c hr hc
  have hi : i < l.length := by
    have := (List.getElem?_eq_some_iff.1 hr).1
    rwa [nsRows_len] at this
  have hr' := nsRow per hi
  rw [hr'] at hr
  cases hr
  have hj : j < 3 := (List.getElem?_eq_some_iff.1 hc).1
  have hsz : (Sort.flatK (encNS per) 3 l.toArray).size = l.length * 3 := by simp
  have hput : (Sort.putCells id 0 (Sort.flatK (encNS per) 3 l.toArray) cur)[i * 3 + j]? = some (Sort.flatK (encNS per) 3 l.toArray)[i * 3 + j]! := by
    have h1 : i * 3 + j < cur.size := by omega
    have h2 : i * 3 + j < l.length * 3 := by omega
    unfold Sort.putCells
    rw [Array.getElem?_mapIdx, Array.getElem?_eq_getElem h1]
    simp only [Option.map_some, Nat.zero_le, true_and, Nat.zero_add, hsz, h2, if_true, Nat.sub_zero, id]
  refine ⟨_, hput, ?_⟩
  rw [flat_ns per l hi hj]
  have hj' : j = 0 ∨ j = 1 ∨ j = 2 := by omega
  rcases hj' with rfl | rfl | rfl
  · cases hc
    exact .int _ _
  · cases hc
    exact .int _ _
  · cases hc
    exact .int _ _

theorem aggTone (w : World) : (isAgg 41).run Tryz.prog w = .ok true w := by
  have h := aggT_spec (w0 := w) Tryz.underlying41
  rw [ty41.2.1] at h
  exact h
theorem sizeTone (w : World) : (Go.sizeOf 41).run Tryz.prog w = .ok 3 w := by
  have h := sizeT_spec (P := Tryz.prog) (t := 41) (by rw [ty41.2.2.1]; decide) w
  rw [ty41.2.2.1] at h
  exact h
theorem c_SortFuncTone (per : Int) (l : List (Int × Int)) (hl : l.length ≤ 1048576) : MFn Tryz.prog 23 [.sf 0 3, .fn 24 []] [some (.arr 3 (nsRows per l))] [0] (.tup []) [some (.arr 3 (nsRows per (sortNS l)))] := by
  have hL : (sortNS l).length = l.length := List.length_mergeSort _
  refine mfn_inplace_f (by simp [nsRows_len, hL]) (fun i r hr => ?_) (fun he ao cap w => ?_) (fun A w b C cur e hA p1 hb hsz hC hmax hne hcells => ?_)
  · have hi := (List.getElem?_eq_some_iff.1 hr).1
    rw [nsRows_len] at hi
    rw [nsRow per hi] at hr
    cases hr
    rfl
  · unfold CallS
    rw [enters Tryz.func23 (by kernel_rfl) rfl]
    exact ⟨rfl, AnyF.slices_SortFunc_none Tryz.laysSortTone ao cap _ w⟩
  · rw [nsRows_len] at hC ⊢
    unfold CallS
    rw [enters Tryz.func23 (by kernel_rfl) rfl]
    have hblk : b < w.heap.size := (Array.getElem?_eq_some_iff.1 hb).1
    have hcmp : CmpLays Tryz.prog 24 #[] (encNS per) 3 cmpNS b 0 l.toArray.size w := by
      intro m os dk hdk x y
      refine calls_of_hfn rfl (c_compareTones (nsTone per x) (nsTone per y)) Tryz.func24 (by kernel_rfl) rfl (A := A) (hA.mono (fun j hj => ?_) (fun _ h => h) fun j hj => ?_) rfl fun i p hp => ?_
      · exact Nat.lt_of_lt_of_le (hA j hj) (Go.Proofs.size_sortWorldK_c (encNS per) 3 w b 0 m dk os)
      · have hne' : b ≠ j := fun e => p1 (e ▸ hj)
        unfold sortWorldK
        rw [Sort.heap_grow_old _ _ (by simpa [Sort.putRowK] using hA j hj)]
        simp [Sort.putRowK, Sort.putRow, Sort.mapBlock, Sort.ahead, Array.getElem?_modify, hne']
      · have hc : ∀ (q : Int × Int) (i : Nat) (c : PV), (nsTone per q).cells[i]? = some c → RepI A (sortWorldK (encNS per) 3 w b 0 m dk os) c ((encNS per q).toArray.getD i undef) := fun q i c hc => by
          have hi := (List.getElem?_eq_some_iff.1 hc).1
          have hj' : i = 0 ∨ i = 1 ∨ i = 2 := by simp [Tone.cells] at hi; omega
          rcases hj' with rfl | rfl | rfl
          · cases hc
            exact .int _ _
          · cases hc
            exact .int _ _
          · cases hc
            exact .int _ _
        have hi := (List.getElem?_eq_some_iff.1 hp).1
        have hj' : i = 0 ∨ i = 1 := by simp at hi; omega
        rcases hj' with rfl | rfl
        · cases hp
          exact .agg _ _ rfl (hc x)
        · cases hp
          exact .agg _ _ rfl (hc y)
    have hk := AnyQ.slices_SortFunc_total Tryz.laysSortTone 3 aggTone sizeTone (encNS per) (fun _ => rfl) (fun x v hv => by simp [encNS] at hv; rcases hv with rfl | rfl | rfl <;> rfl) cmpNS swoNS 24 #[] b 0 C l.toArray w
      (fun args w => enters Tryz.func24 (by kernel_rfl) rfl args w) hcmp (ns_held hb hcells) hblk (by simp; omega) totNS
    rw [ltNS] at hk
    have hd : l.toArray.size = l.length := by simp
    rw [hd] at hk
    refine ⟨rfl, hk.mono fun e' w' ⟨g1, n, os, g2⟩ => ?_⟩
    subst g2
    refine ⟨g1, rfl, rfl, rfl, Nat.le_add_right _ _, Go.Proofs.size_sortWorldK_c (encNS per) 3 w b 0 n _ os, fun j hj hne' => ?_, Sort.putCells id 0 (Sort.flatK (encNS per) 3 (sortNS l).toArray) cur, ?_, by simp [Sort.putCells], ns_laid (by omega)⟩
    · unfold sortWorldK
      rw [Sort.heap_grow_old _ _ (by simpa [Sort.putRowK] using hj)]
      simp [Sort.putRowK, Sort.putRow, Sort.mapBlock, Sort.ahead, Array.getElem?_modify, Ne.symm hne']
    · unfold sortWorldK
      rw [Sort.heap_grow_old _ _ (by simpa [Sort.putRowK] using hblk)]
      simp [Sort.putRowK, Sort.putRow, Sort.mapBlock, Sort.ahead, Array.getElem?_modify, hb, Sort.onCells, sortNS]
end Go.Proofs.YtmdablalfmcgnaaGreat
