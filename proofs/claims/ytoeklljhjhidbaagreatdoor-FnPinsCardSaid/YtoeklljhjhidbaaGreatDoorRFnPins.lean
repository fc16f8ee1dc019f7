/- For every input the laws FnPins return true, and each argument reads as before, whatever the heap where the listed variables hold what the program lays; the listing is tied to the text. No further condition. -/
import Derived.Test.YtoeklljhjhidbaaGreatDoorRd
import Derived.Test.YtoeklljhjhidbaaGreatDoorBc
import Derived.Test.YtoeklljhjhidbaaGreatDoorCards
import Derived.Test.YtoeklljhjhidbaaGreatDoorTie
import Derived.ProofKit
import Derived.OpenShut
import Derived.Stop.Joined
import Derived.SevenTiedAt
namespace Go.Proofs.YtoeklljhjhidbaaGreatDoor
open Go Go.Ab
open Go.ChangeShapes Go.WideShapes Go.ChangeAt Go.RowKit
instance : Go.Ab.Drwn := ⟨false⟩
instance : Go.Ab.DrwOff := ⟨rfl⟩

theorem FnPins_own : ownKnob Tryz.prog.godebug = none := by kernel_rfl
theorem FnPins_laidOut : laidOutB Tryz.prog = true := by kernel_rfl
theorem FnPins_met (os : Os) (args : Array Value) : laidMetH Tryz.prog Rows.fnPinsRow.laid ((World.laidAll Tryz.prog os Rows.fnPinsRow.laid).forCall (fun _ _ => 0) ⟨#[], args, []⟩).memory :=
  by rw [MakeChecks.laidMetH_plain _ _ _ (by kernel_rfl)]; exact laidMet_laidAll _ (by kernel_rfl) (by kernel_rfl)
theorem FnPins_aok {W : World} (h : laidMetH Tryz.prog Rows.fnPinsRow.laid W) (hs : W.ShapedOpen Tryz.prog) : AOk (fun b => b < W.heap.size) W := by
  rw [MakeChecks.laidMetH_plain _ _ _ (by kernel_rfl)] at h
  obtain ⟨ps, ⟨g0, t0, cs0, f0, p0, q0, hg0, ht0, hv0, hd0, ⟨g1, t1, cs1, f1, p1, q1, hg1, ht1, hv1, hd1, ⟨g2, t2, cs2, f2, p2, q2, hg2, ht2, hv2, hd2, ⟨g3, t3, cs3, f3, p3, q3, hg3, ht3, hv3, hd3, ⟨g4, t4, cs4, f4, p4, q4, hg4, ht4, hv4, hd4, ⟨g5, t5, cs5, f5, p5, q5, hg5, ht5, hv5, hd5, ⟨g6, t6, cs6, f6, p6, q6, hg6, ht6, hv6, hd6, _, _⟩, _⟩, _⟩, _⟩, _⟩, _⟩, _⟩, _, _⟩ := h
  have x_pow : ∀ A : Nat → Prop, 1 < W.heap.size ∧ ∃ us e fz, W.heap[1]? = some (.cells us e fz) ∧ us.size = ((Lib.pow10Tab).map fun z => PV.int .u64 z).length ∧ ∀ (i : Nat) (c : PV), ((Lib.pow10Tab).map fun z => PV.int .u64 z)[i]? = some c → RepI A W c (us.getD i undef) := fun A => by
    have eg : Tryz.prog.globalNamed "internal/strconv.uint64pow10" = some 1 := by kernel_rfl
    have et : (Tryz.prog.globals[1]?).map (·.type) = some 162 := by kernel_rfl
    obtain rfl := Option.some.inj (eg.symm.trans hg2)
    obtain rfl := Option.some.inj (et.symm.trans ht2)
    have ed : (Rows.laid_internal_strconv_uint64pow10 : DataW Unit) = Lib.tabData .u64 (Lib.pow10Tab) := by kernel_rfl
    have hd' := hd2
    rw [ed] at hd'
    exact tab_of_var A eg hv2 (Lib.cells_of_tab Tryz.underlying162 Tryz.underlying79 (by kernel_rfl) (by kernel_rfl) hd')
  have y_max := int_of_cell (W := W) (Go.Proofs.cell_of_shapedOpen_int (zero := #[.int .i64 0]) (t := 3) (g := 0) hs (of_decide_eq_true (by kernel_rfl)) (by kernel_rfl) rfl (by kernel_rfl) (by kernel_rfl) Tryz.underlying3)
  have y_syn : 2 < W.heap.size ∧ ∃ us e fz v, W.heap[2]? = some (.cells us e fz) ∧ us[0]? = some v ∧ (1 = 0 → ∃ m, v = .int .i64 m) ∧ (1 = 1 → ∃ t p, v = .iface t p) := by
    have eg : Tryz.prog.globalNamed "strconv.ErrSyntax" = some 2 := by kernel_rfl
    have et : (Tryz.prog.globals[2]?).map (·.type) = some 98 := by kernel_rfl
    obtain rfl := Option.some.inj (eg.symm.trans hg5)
    obtain rfl := Option.some.inj (et.symm.trans ht5)
    exact err_of_var eg hv5 (one_of_trod Tryz.underlying98 hd5)
  have y_ran : 3 < W.heap.size ∧ ∃ us e fz v, W.heap[3]? = some (.cells us e fz) ∧ us[0]? = some v ∧ (1 = 0 → ∃ m, v = .int .i64 m) ∧ (1 = 1 → ∃ t p, v = .iface t p) := by
    have eg : Tryz.prog.globalNamed "strconv.ErrRange" = some 3 := by kernel_rfl
    have et : (Tryz.prog.globals[3]?).map (·.type) = some 98 := by kernel_rfl
    obtain rfl := Option.some.inj (eg.symm.trans hg4)
    obtain rfl := Option.some.inj (et.symm.trans ht4)
    exact err_of_var eg hv4 (one_of_trod Tryz.underlying98 hd4)
  refine ⟨fun _ h => h, fun g c hm => ?_, fun g cs hm => ?_⟩
  · simp only [shps, List.mem_cons, List.not_mem_nil, or_false, Prod.mk.injEq] at hm
    rcases hm with ⟨rfl, rfl⟩ | ⟨rfl, rfl⟩ | ⟨rfl, rfl⟩
    · exact y_max
    · exact y_syn
    · exact y_ran
  simp only [tabs, List.mem_cons, List.not_mem_nil, or_false, Prod.mk.injEq] at hm
  rcases hm with ⟨rfl, rfl⟩
  · exact x_pow _
set_option maxRecDepth 100000 in
theorem FnPins_lifted (os : Os) (started : os.Started) (H : Type) (enc : TypeId × Value → H) :
    ReturnsInHanded {} Tryz.checked os 3 .any (fun w args => (Rows.fnPinsSpec.pre enc Tryz.prog Tryz.f3 [] false w args ∧ laidMetH Tryz.prog Rows.fnPinsRow.laid w) ∧ sizedMet enc Tryz.prog Tryz.f3 (OpenSpec.ofChange Rows.fnPinsSpec) false w args)
      (Rows.fnPinsSpec.post enc Tryz.prog Tryz.f3 false true false false) := by
  refine returnsInHanded_andS (C := Tryz.checked) (X := fun w _ => laidMetH Tryz.prog Rows.fnPinsRow.laid w) (fun _ _ _ hh h => h.of_heap hh) FnPins_own started (by kernel_rfl) Tryz.func3
    (ChangeSpec.witness_shaped (enc := enc) (C := Tryz.checked) (os := os) (X := fun w _ => laidMetH Tryz.prog Rows.fnPinsRow.laid w) false (World.laidAll Tryz.prog os Rows.fnPinsRow.laid) #[.slice none 0 0, .slice none 0 0] 8 (World.laidAll_os _ _ _) (World.shaped_of_ZipB (by kernel_rfl) (by kernel_rfl)) (by kernel_rfl) (by kernel_rfl) (by kernel_rfl) (FnPins_met os _)) ?_
  intro W base args ds gs before hval hW hL hS
  exact law_contract (c := Tryz.f3.body.getD .skip) (tb := 4) Tryz.func3 (by kernel_rfl) rfl rfl (fun ds h => match ds, h with | [d0, d1], _ => rfl) FnPins_laidOut (by kernel_rfl) rfl (by kernel_rfl) (xs := [.one (.slc [.int .u8]), .one (.slc [.int .u8])]) (by kernel_rfl) l_FnPins W (FnPins_aok hL hS) base args ds gs before hval hW

theorem FnPins_row : Rows.FnPinsSaid :=
  OpenClaim.holds_of_wide 3 Tryz.f3 rfl rfl rfl rfl rfl rfl rfl ⟨rfl, rfl, rfl, rfl, rfl⟩ rfl rfl rfl rfl rfl (by kernel_rfl) Tryz.func3 (by kernel_rfl)
    (of_decide_eq_true (by kernel_rfl)) (by unfold Func.isWrapper; first | (rw [if_pos (by decide +kernel)]; kernel_rfl) | (rw [if_neg (by decide +kernel)]; exact ⟨rfl, rfl⟩))
    (fun os started H enc _ => FnPins_lifted os started H enc)

theorem FnPins_holds : Rows.FnPinsCardSaid :=
  Claim7.holds_tied_plain_at .later [] [.data, .data, .data, .data, .sentinel, .sentinel, .pinned] true (true, "af80e07d008781093ef39cb845af9f64e8096c17e387c532ce4db1f60d1648a7") true
    FnPins_row (fun _ h => by cases h) (by kernel_rfl) (fun _ h => by cases h) fnPins_row_tie rfl ⟨rfl, rfl⟩ (by kernel_rfl) rfl
    (fun f fn hf hfn => by
      obtain rfl : f = 3 := Option.some.inj ((show Tryz.prog.funcNamed "loop.example/g00952/laws.FnPins" = some 3 by kernel_rfl).symm.trans hf) |>.symm
      obtain rfl : fn = Tryz.f3 := (Option.some.inj (Tryz.func3.symm.trans hfn)).symm
      exact ⟨by kernel_rfl, fun j t ht => by
        rw [show Tryz.f3.params = #[22, 22] from rfl] at ht
        have hm : t ∈ [22, 22] := by simpa using Array.mem_of_getElem? ht
        have hall : ([22, 22].all fun u => !Tryz.prog.wantsStandIn u) = true := by kernel_rfl
        exact (show Tryz.prog.wantsStandIn t = false by simpa using List.all_eq_true.1 hall t hm)⟩)
    (by kernel_rfl)

end Go.Proofs.YtoeklljhjhidbaaGreatDoor
