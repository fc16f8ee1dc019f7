/- For every input the laws FnExactPassesAudit return true, and each argument reads as before, whatever the heap where the listed variables hold what the program lays; the listing is tied to the text. No further condition. -/
import Derived.Test.YtdnflnpihcghcaaGreatDoorBn
import Derived.Test.YtdnflnpihcghcaaGreatDoorBc
import Derived.Test.YtdnflnpihcghcaaGreatDoorBv
import Derived.Test.YtdnflnpihcghcaaGreatDoorCards
import Derived.Test.YtdnflnpihcghcaaGreatDoorTie
import Derived.ProofKit
import Derived.OpenShut
import Derived.Stop.Joined
import Derived.SevenTiedAt
namespace Go.Proofs.YtdnflnpihcghcaaGreatDoor
open Go Go.Ab
open Go.ChangeShapes Go.WideShapes Go.ChangeAt Go.RowKit

theorem FnExactPassesAudit_own : ownKnob Tryz.prog.godebug = none := by kernel_rfl
theorem FnExactPassesAudit_laidOut : laidOutB Tryz.prog = true := by kernel_rfl
theorem FnExactPassesAudit_met (os : Os) (args : Array Value) : laidMetH Tryz.prog Rows.fnExactPassesAuditRow.laid ((World.doorLaid Tryz.prog 29 os).forCall (fun _ _ => 0) ⟨#[], args, []⟩).memory :=
  laidMetH_of_parts3 (fuel := 8) (laidMet_of_run' 8 (by kernel_rfl) (by kernel_rfl)) (by kernel_rfl) (by kernel_rfl)
theorem FnExactPassesAudit_aok {W : World} (h : laidMetH Tryz.prog Rows.fnExactPassesAuditRow.laid W) (hs : W.ShapedOpen Tryz.prog) : AOk (fun b => b < W.heap.size) W := by
  rw [MakeChecks.laidMetH_plain _ _ _ (by kernel_rfl)] at h
  obtain ⟨ps, ⟨g0, t0, cs0, f0, p0, q0, hg0, ht0, hv0, hd0, ⟨g1, t1, cs1, f1, p1, q1, hg1, ht1, hv1, hd1, ⟨g2, t2, cs2, f2, p2, q2, hg2, ht2, hv2, hd2, ⟨g3, t3, cs3, f3, p3, q3, hg3, ht3, hv3, hd3, _, _⟩, _⟩, _⟩, _⟩, _, _⟩ := h
  have x_pow : ∀ A : Nat → Prop, 1 < W.heap.size ∧ ∃ us e fz, W.heap[1]? = some (.cells us e fz) ∧ us.size = ((Lib.pow10Tab).map fun z => PV.int .u64 z).length ∧ ∀ (i : Nat) (c : PV), ((Lib.pow10Tab).map fun z => PV.int .u64 z)[i]? = some c → RepI A W c (us.getD i undef) := fun A => by
    have eg : Tryz.prog.globalNamed "internal/strconv.uint64pow10" = some 1 := by kernel_rfl
    have et : (Tryz.prog.globals[1]?).map (·.type) = some 376 := by kernel_rfl
    obtain rfl := Option.some.inj (eg.symm.trans hg2)
    obtain rfl := Option.some.inj (et.symm.trans ht2)
    have ed : (Rows.laid_internal_strconv_uint64pow10 : DataW Unit) = Lib.tabData .u64 (Lib.pow10Tab) := by kernel_rfl
    have hd' := hd2
    rw [ed] at hd'
    exact tab_of_var A eg hv2 (Lib.cells_of_tab Tryz.underlying376 Tryz.underlying346 (by kernel_rfl) (by kernel_rfl) hd')
  have x_sine : ∀ A : Nat → Prop, 0 < W.heap.size ∧ ∃ us e fz, W.heap[0]? = some (.cells us e fz) ∧ us.size = ((sineL).map fun z => PV.int .i64 z).length ∧ ∀ (i : Nat) (c : PV), ((sineL).map fun z => PV.int .i64 z)[i]? = some c → RepI A W c (us.getD i undef) := fun A => by
    have eg : Tryz.prog.globalNamed "loop.example/g00952/impl.roundSines" = some 0 := by kernel_rfl
    have et : (Tryz.prog.globals[0]?).map (·.type) = some 356 := by kernel_rfl
    obtain rfl := Option.some.inj (eg.symm.trans hg3)
    obtain rfl := Option.some.inj (et.symm.trans ht3)
    have ed : (Rows.laid_loop_example_g00952_impl_roundSines : DataW Unit) = Lib.tabData .i64 (sineL) := by kernel_rfl
    have hd' := hd3
    rw [ed] at hd'
    exact tab_of_var A eg hv3 (Lib.cells_of_tab Tryz.underlying356 Tryz.underlying2 (by kernel_rfl) (by kernel_rfl) hd')

  refine ⟨fun _ h => h, fun g c hm => ?_, fun g cs hm => ?_⟩
  · exact (List.not_mem_nil hm).elim
  simp only [tabs, List.mem_cons, List.not_mem_nil, or_false, Prod.mk.injEq] at hm
  rcases hm with ⟨rfl, rfl⟩ | ⟨rfl, rfl⟩
  · exact x_pow _
  · exact x_sine _
set_option maxRecDepth 100000 in
theorem FnExactPassesAudit_lifted (os : Os) (started : os.Started) (H : Type) (enc : TypeId × Value → H) :
    ReturnsInHanded {} Tryz.checked os 3 .any (fun w args => (Rows.fnExactPassesAuditSpec.pre enc Tryz.prog Tryz.f3 [] false w args ∧ laidMetH Tryz.prog Rows.fnExactPassesAuditRow.laid w) ∧ sizedMet enc Tryz.prog Tryz.f3 (OpenSpec.ofChange Rows.fnExactPassesAuditSpec) false w args)
      (Rows.fnExactPassesAuditSpec.post enc Tryz.prog Tryz.f3 false true false false) := by
  refine returnsInHanded_andS (C := Tryz.checked) (X := fun w _ => laidMetH Tryz.prog Rows.fnExactPassesAuditRow.laid w) (fun _ _ _ hh h => h.of_heap hh) FnExactPassesAudit_own started (by kernel_rfl) Tryz.func3
    (ChangeSpec.witness_shaped (enc := enc) (C := Tryz.checked) (os := os) (X := fun w _ => laidMetH Tryz.prog Rows.fnExactPassesAuditRow.laid w) false (World.doorLaid Tryz.prog 29 os) #[.agg #[.slice none 0 0, .slice none 0 0, .slice none 0 0, .slice none 0 0, .int .i64 0, .int .i64 0, .int .i64 0, .slice none 0 0, .int .i64 0, .string (ByteArray.mk #[]), .int .i64 0, .int .i64 0, .int .i64 0, .int .i64 0, .slice none 0 0, .int .i64 0, .int .i64 0, .slice none 0 0, .string (ByteArray.mk #[]), .slice none 0 0]] 8 rfl (World.shaped_of_RefB (by kernel_rfl) (by kernel_rfl)) (by kernel_rfl) (by kernel_rfl) (by kernel_rfl) (FnExactPassesAudit_met os _)) ?_
  intro W base args ds gs before hval hW hL hS
  exact law_contractV (c := Tryz.f3.body.getD .skip) (tb := 4) Tryz.func3 (by kernel_rfl) rfl (by kernel_rfl) (fun ds gs h hg => match ds, gs, h, hg with | [d0], [g0], _, _ => rfl) FnExactPassesAudit_laidOut (by kernel_rfl) rfl (by kernel_rfl) (xs := [.agg [.slc [.str, .int .i64, .int .i64, .int .i64, .int .i64], .slc [.str, .slc [.str], .int .i64], .slc [.str, .int .i64, .int .i64, .int .i64, .slc [.str, .int .i64]], .slc [.str, .int .i64, .int .i64, .int .i64, .int .i64], .int .i64, .int .i64, .int .i64, .slc [.str, .int .i64, .int .i64, .int .i64, .int .i64], .int .i64, .str, .int .i64, .int .i64, .int .i64, .int .i64, .slc [.str, .int .i64, .int .i64, .int .i64, .int .i64, .slc [.int .i64, .int .i64]], .int .i64, .int .i64, .slc [.int .i64, .slc [.int .i64, .int .i64], .int .i64, .int .i64], .str, .slc [.int .i64, .int .i64, .int .i64]]]) (by kernel_rfl) l_FnExactPassesAudit W (FnExactPassesAudit_aok hL hS) base args ds gs before hval hW

theorem FnExactPassesAudit_row : Rows.FnExactPassesAuditSaid :=
  OpenClaim.holds_of_wide 3 Tryz.f3 rfl rfl rfl rfl rfl rfl rfl ⟨rfl, rfl, rfl, rfl, rfl⟩ rfl rfl rfl rfl rfl (by kernel_rfl) Tryz.func3 (by kernel_rfl)
    (of_decide_eq_true (by kernel_rfl)) (by unfold Func.isWrapper; first | (rw [if_pos (by decide +kernel)]; kernel_rfl) | (rw [if_neg (by decide +kernel)]; exact ⟨rfl, rfl⟩))
    (fun os started H enc _ => FnExactPassesAudit_lifted os started H enc)

theorem FnExactPassesAudit_holds : Rows.FnExactPassesAuditCardSaid :=
  Claim7.holds_tied_plain_at .later [] [.data, .data, .data, .data] true (true, "275fff29ddacd5a6ab483822c1ae0af7be89d69c2b465b960730b6ea231bed58") false
    FnExactPassesAudit_row (fun _ h => by cases h) (by kernel_rfl) (fun _ h => by cases h) fnExactPassesAudit_row_tie rfl ⟨rfl, rfl⟩ (by kernel_rfl) rfl
    (fun f fn hf hfn => by
      obtain rfl : f = 3 := Option.some.inj ((show Tryz.prog.funcNamed "loop.example/g00952/laws.FnExactPassesAudit" = some 3 by kernel_rfl).symm.trans hf) |>.symm
      obtain rfl : fn = Tryz.f3 := (Option.some.inj (Tryz.func3.symm.trans hfn)).symm
      exact ⟨by kernel_rfl, fun j t ht => by
        rw [show Tryz.f3.params = #[37] from rfl] at ht
        have hm : t ∈ [37] := by simpa using Array.mem_of_getElem? ht
        have hall : ([37].all fun u => !Tryz.prog.wantsStandIn u) = true := by kernel_rfl
        exact (show Tryz.prog.wantsStandIn t = false by simpa using List.all_eq_true.1 hall t hm)⟩)
    (by kernel_rfl)

end Go.Proofs.YtdnflnpihcghcaaGreatDoor
