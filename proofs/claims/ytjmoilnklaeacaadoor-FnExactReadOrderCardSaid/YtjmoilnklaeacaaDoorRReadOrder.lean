/- For every input the laws FnExactReadOrder return true, and each argument reads as before, whatever the heap where the listed variables hold what the program lays; the listing is tied to the text. No further condition. -/
import Derived.Test.YtjmoilnklaeacaaDoorOe
import Derived.Test.YtjmoilnklaeacaaDoorBc
import Derived.Test.YtjmoilnklaeacaaDoorCards
import Derived.Test.YtjmoilnklaeacaaDoorTie
import Derived.ProofKit
import Derived.OpenShut
import Derived.Stop.Joined
import Derived.SevenTiedAt
namespace Go.Proofs.YtjmoilnklaeacaaDoor
open Go Go.Ab
open Go.ChangeShapes Go.WideShapes Go.ChangeAt Go.RowKit

theorem FnExactReadOrder_own : ownKnob Tryd.prog.godebug = none := by kernel_rfl
theorem FnExactReadOrder_laidOut : laidOutB Tryd.prog = true := by kernel_rfl
theorem FnExactReadOrder_met (os : Os) (args : Array Value) : laidMetH Tryd.prog Rows.fnExactReadOrderRow.laid ((World.laidAll Tryd.prog os Rows.fnExactReadOrderRow.laid).forCall (fun _ _ => 0) ⟨#[], args, []⟩).memory :=
  by rw [MakeChecks.laidMetH_plain _ _ _ (by kernel_rfl)]; exact laidMet_laidAll _ (by kernel_rfl) (by kernel_rfl)
theorem FnExactReadOrder_aok {W : World} (h : laidMetH Tryd.prog Rows.fnExactReadOrderRow.laid W) (hs : W.ShapedOpen Tryd.prog) : AOk (fun b => b < W.heap.size) W := by
  rw [MakeChecks.laidMetH_plain _ _ _ (by kernel_rfl)] at h
  obtain ⟨ps, ⟨g0, t0, cs0, f0, p0, q0, hg0, ht0, hv0, hd0, ⟨g1, t1, cs1, f1, p1, q1, hg1, ht1, hv1, hd1, ⟨g2, t2, cs2, f2, p2, q2, hg2, ht2, hv2, hd2, ⟨g3, t3, cs3, f3, p3, q3, hg3, ht3, hv3, hd3, ⟨g4, t4, cs4, f4, p4, q4, hg4, ht4, hv4, hd4, ⟨g5, t5, cs5, f5, p5, q5, hg5, ht5, hv5, hd5, ⟨g6, t6, cs6, f6, p6, q6, hg6, ht6, hv6, hd6, _, _⟩, _⟩, _⟩, _⟩, _⟩, _⟩, _⟩, _, _⟩ := h
  have x_pow : ∀ A : Nat → Prop, 5 < W.heap.size ∧ ∃ us e fz, W.heap[5]? = some (.cells us e fz) ∧ us.size = ((Lib.pow10Tab).map fun z => PV.int .u64 z).length ∧ ∀ (i : Nat) (c : PV), ((Lib.pow10Tab).map fun z => PV.int .u64 z)[i]? = some c → RepI A W c (us.getD i undef) := fun A => by
    have eg : Tryd.prog.globalNamed "internal/strconv.uint64pow10" = some 5 := by kernel_rfl
    have et : (Tryd.prog.globals[5]?).map (·.type) = some 106 := by kernel_rfl
    obtain rfl := Option.some.inj (eg.symm.trans hg2)
    obtain rfl := Option.some.inj (et.symm.trans ht2)
    have ed : (Rows.laid_internal_strconv_uint64pow10 : DataW Unit) = Lib.tabData .u64 (Lib.pow10Tab) := by kernel_rfl
    have hd' := hd2
    rw [ed] at hd'
    exact tab_of_var A eg hv2 (Lib.cells_of_tab Tryd.underlying106 Tryd.underlying74 (by kernel_rfl) (by kernel_rfl) hd')
  have y_max := int_of_cell (W := W) (Go.Proofs.cell_of_shapedOpen_int (zero := #[.int .i64 0]) (t := 3) (g := 0) hs (of_decide_eq_true (by kernel_rfl)) (by kernel_rfl) rfl (by kernel_rfl) (by kernel_rfl) Tryd.underlying3)
  have y_syn : 3 < W.heap.size ∧ ∃ us e fz v, W.heap[3]? = some (.cells us e fz) ∧ us[0]? = some v ∧ (1 = 0 → ∃ m, v = .int .i64 m) ∧ (1 = 1 → ∃ t p, v = .iface t p) := by
    have eg : Tryd.prog.globalNamed "strconv.ErrSyntax" = some 3 := by kernel_rfl
    have et : (Tryd.prog.globals[3]?).map (·.type) = some 49 := by kernel_rfl
    obtain rfl := Option.some.inj (eg.symm.trans hg5)
    obtain rfl := Option.some.inj (et.symm.trans ht5)
    exact err_of_var eg hv5 (one_of_trod Tryd.underlying49 hd5)
  have y_ran : 4 < W.heap.size ∧ ∃ us e fz v, W.heap[4]? = some (.cells us e fz) ∧ us[0]? = some v ∧ (1 = 0 → ∃ m, v = .int .i64 m) ∧ (1 = 1 → ∃ t p, v = .iface t p) := by
    have eg : Tryd.prog.globalNamed "strconv.ErrRange" = some 4 := by kernel_rfl
    have et : (Tryd.prog.globals[4]?).map (·.type) = some 49 := by kernel_rfl
    obtain rfl := Option.some.inj (eg.symm.trans hg4)
    obtain rfl := Option.some.inj (et.symm.trans ht4)
    exact err_of_var eg hv4 (one_of_trod Tryd.underlying49 hd4)
  refine ⟨fun _ h => h, fun g c hm => ?_, fun g cs hm => ?_⟩
  · simp only [shps, List.mem_cons, List.not_mem_nil, or_false, Prod.mk.injEq] at hm
    rcases hm with ⟨rfl, rfl⟩ | ⟨rfl, rfl⟩ | ⟨rfl, rfl⟩
    · exact y_max
    · exact y_syn
    · exact y_ran
  simp only [tabs, List.mem_cons, List.not_mem_nil, or_false, Prod.mk.injEq] at hm
  rcases hm with ⟨rfl, rfl⟩
  · exact x_pow _
set_option maxRecDepth 100000 in
theorem FnExactReadOrder_lifted (os : Os) (started : os.Started) (H : Type) (enc : TypeId × Value → H) :
    ReturnsInHanded {} Tryd.checked os 3 .any (fun w args => (Rows.fnExactReadOrderSpec.pre enc Tryd.prog Tryd.f3 [] false w args ∧ laidMetH Tryd.prog Rows.fnExactReadOrderRow.laid w) ∧ sizedMet enc Tryd.prog Tryd.f3 (OpenSpec.ofChange Rows.fnExactReadOrderSpec) false w args)
      (Rows.fnExactReadOrderSpec.post enc Tryd.prog Tryd.f3 false true false false) := by
  refine returnsInHanded_andS (C := Tryd.checked) (X := fun w _ => laidMetH Tryd.prog Rows.fnExactReadOrderRow.laid w) (fun _ _ _ hh h => h.of_heap hh) FnExactReadOrder_own started (by kernel_rfl) Tryd.func3
    (ChangeSpec.witness_shaped (enc := enc) (C := Tryd.checked) (os := os) (X := fun w _ => laidMetH Tryd.prog Rows.fnExactReadOrderRow.laid w) false (World.laidAll Tryd.prog os Rows.fnExactReadOrderRow.laid) #[.string (ByteArray.mk #[])] 8 (World.laidAll_os _ _ _) (World.shaped_of_ZipB (by kernel_rfl) (by kernel_rfl)) (by kernel_rfl) (by kernel_rfl) (by kernel_rfl) (FnExactReadOrder_met os _)) ?_
  intro W base args ds gs before hval hW hL hS
  exact law_contract (c := Tryd.f3.body.getD .skip) (tb := 4) Tryd.func3 (by kernel_rfl) rfl rfl (fun ds h => match ds, h with | [d0], _ => rfl) FnExactReadOrder_laidOut (by kernel_rfl) rfl (by kernel_rfl) (xs := [.one (.str)]) (by kernel_rfl) l_FnExactReadOrder W (FnExactReadOrder_aok hL hS) base args ds gs before hval hW

theorem FnExactReadOrder_row : Rows.FnExactReadOrderSaid :=
  OpenClaim.holds_of_wide 3 Tryd.f3 rfl rfl rfl rfl rfl rfl rfl ⟨rfl, rfl, rfl, rfl, rfl⟩ rfl rfl rfl rfl rfl (by kernel_rfl) Tryd.func3 (by kernel_rfl)
    (of_decide_eq_true (by kernel_rfl)) (by unfold Func.isWrapper; first | (rw [if_pos (by decide +kernel)]; kernel_rfl) | (rw [if_neg (by decide +kernel)]; exact ⟨rfl, rfl⟩))
    (fun os started H enc _ => FnExactReadOrder_lifted os started H enc)

theorem FnExactReadOrder_holds : Rows.FnExactReadOrderCardSaid :=
  Claim7.holds_tied_plain_at .later [] [.data, .data, .data, .data, .sentinel, .sentinel, .pinned] true (true, "065f6bbc998c8d25111cd4a91826c82f9afaddca2e310f3a764a4bf0fa9cb4a2") true
    FnExactReadOrder_row (fun _ h => by cases h) (by kernel_rfl) (fun _ h => by cases h) fnExactReadOrder_row_tie rfl ⟨rfl, rfl⟩ (by kernel_rfl) rfl
    (fun f fn hf hfn => by
      obtain rfl : f = 3 := Option.some.inj ((show Tryd.prog.funcNamed "loop.example/g00952/laws.FnExactReadOrder" = some 3 by kernel_rfl).symm.trans hf) |>.symm
      obtain rfl : fn = Tryd.f3 := (Option.some.inj (Tryd.func3.symm.trans hfn)).symm
      exact ⟨by kernel_rfl, fun j t ht => by
        rw [show Tryd.f3.params = #[9] from rfl] at ht
        have hm : t ∈ [9] := by simpa using Array.mem_of_getElem? ht
        have hall : ([9].all fun u => !Tryd.prog.wantsStandIn u) = true := by kernel_rfl
        exact (show Tryd.prog.wantsStandIn t = false by simpa using List.all_eq_true.1 hall t hm)⟩)
    (by kernel_rfl)

end Go.Proofs.YtjmoilnklaeacaaDoor
