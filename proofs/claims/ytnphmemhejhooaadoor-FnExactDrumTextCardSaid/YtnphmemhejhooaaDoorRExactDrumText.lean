/- For every input the laws FnExactDrumText return true, and each argument reads as before, whatever the heap where the listed variables hold what the program lays; the listing is tied to the text. No further condition. -/
import Derived.Test.YtnphmemhejhooaaDoorJh
import Derived.Test.YtnphmemhejhooaaDoorBc
import Derived.Test.YtnphmemhejhooaaDoorCards
import Derived.Test.YtnphmemhejhooaaDoorTie
import Derived.ProofKit
import Derived.OpenShut
import Derived.Stop.Joined
import Derived.SevenTiedAt
namespace Go.Proofs.YtnphmemhejhooaaDoor
open Go Go.Ab
open Go.ChangeShapes Go.WideShapes Go.ChangeAt Go.RowKit

theorem FnExactDrumText_own : ownKnob Tryd.prog.godebug = none := by kernel_rfl
theorem FnExactDrumText_laidOut : laidOutB Tryd.prog = true := by kernel_rfl
theorem FnExactDrumText_met (os : Os) (args : Array Value) : laidMetH Tryd.prog Rows.fnExactDrumTextRow.laid ((World.doorLaid Tryd.prog 29 os).forCall (fun _ _ => 0) ⟨#[], args, []⟩).memory :=
  laidMetH_of_parts3 (fuel := 8) (laidMet_of_run' 8 (by kernel_rfl) (by kernel_rfl)) (by kernel_rfl) (by kernel_rfl)
theorem FnExactDrumText_aok {W : World} (h : laidMetH Tryd.prog Rows.fnExactDrumTextRow.laid W) : AOk (fun b => b < W.heap.size) W := by
  rw [MakeChecks.laidMetH_plain _ _ _ (by kernel_rfl)] at h
  obtain ⟨ps, ⟨g0, t0, cs0, f0, p0, q0, hg0, ht0, hv0, hd0, ⟨g1, t1, cs1, f1, p1, q1, hg1, ht1, hv1, hd1, ⟨g2, t2, cs2, f2, p2, q2, hg2, ht2, hv2, hd2, _, _⟩, _⟩, _⟩, _, _⟩ := h
  have x_pow : ∀ A : Nat → Prop, 1 < W.heap.size ∧ ∃ us e fz, W.heap[1]? = some (.cells us e fz) ∧ us.size = ((Lib.pow10Tab).map fun z => PV.int .u64 z).length ∧ ∀ (i : Nat) (c : PV), ((Lib.pow10Tab).map fun z => PV.int .u64 z)[i]? = some c → RepI A W c (us.getD i undef) := fun A => by
    have eg : Tryd.prog.globalNamed "internal/strconv.uint64pow10" = some 1 := by kernel_rfl
    have et : (Tryd.prog.globals[1]?).map (·.type) = some 192 := by kernel_rfl
    obtain rfl := Option.some.inj (eg.symm.trans hg2)
    obtain rfl := Option.some.inj (et.symm.trans ht2)
    have ed : (Rows.laid_internal_strconv_uint64pow10 : DataW Unit) = Lib.tabData .u64 (Lib.pow10Tab) := by kernel_rfl
    have hd' := hd2
    rw [ed] at hd'
    exact tab_of_var A eg hv2 (Lib.cells_of_tab Tryd.underlying192 Tryd.underlying178 (by kernel_rfl) (by kernel_rfl) hd')
  refine ⟨fun _ h => h, fun g cs hm => ?_⟩
  simp only [tabs, List.mem_cons, List.not_mem_nil, or_false, Prod.mk.injEq] at hm
  rcases hm with ⟨rfl, rfl⟩
  · exact x_pow _
set_option maxRecDepth 100000 in
theorem FnExactDrumText_lifted (os : Os) (started : os.Started) (H : Type) (enc : TypeId × Value → H) :
    ReturnsInHanded {} Tryd.checked os 5 .any (fun w args => (Rows.fnExactDrumTextSpec.pre enc Tryd.prog Tryd.f5 [] false w args ∧ laidMetH Tryd.prog Rows.fnExactDrumTextRow.laid w) ∧ sizedMet enc Tryd.prog Tryd.f5 (OpenSpec.ofChange Rows.fnExactDrumTextSpec) false w args)
      (Rows.fnExactDrumTextSpec.post enc Tryd.prog Tryd.f5 false true false false) := by
  refine returnsInHanded_of_change_and (C := Tryd.checked) (X := fun w _ => laidMetH Tryd.prog Rows.fnExactDrumTextRow.laid w) (fun _ _ _ hh h => h.of_heap hh) FnExactDrumText_own started (by kernel_rfl) Tryd.func5
    (ChangeSpec.witness_shaped (enc := enc) (C := Tryd.checked) (os := os) (X := fun w _ => laidMetH Tryd.prog Rows.fnExactDrumTextRow.laid w) false (World.doorLaid Tryd.prog 29 os) #[.agg #[.int .i64 0, .int .i64 0, .slice none 0 0, .slice none 0 0]] 8 rfl (World.shaped_of_RefB (by kernel_rfl) (by kernel_rfl)) (by kernel_rfl) (by kernel_rfl) (by kernel_rfl) (FnExactDrumText_met os _)) ?_
  intro W base args ds gs before hval hW _ _ hL _
  exact law_contract (c := Tryd.f5.body.getD .skip) (tb := 4) Tryd.func5 (by kernel_rfl) rfl rfl (fun ds h => match ds, h with | [d0], _ => rfl) FnExactDrumText_laidOut (by kernel_rfl) rfl (by kernel_rfl) (xs := [.agg [.int .i64, .int .i64, .slc [.int .i64], .slc [.int .i64, .int .i64]]]) (by kernel_rfl) l_FnExactDrumText W (FnExactDrumText_aok hL) base args ds gs before hval hW

theorem FnExactDrumText_row : Rows.FnExactDrumTextSaid :=
  OpenClaim.holds_of_wide 5 Tryd.f5 rfl rfl rfl rfl rfl rfl rfl ⟨rfl, rfl, rfl, rfl, rfl⟩ rfl rfl rfl rfl rfl (by kernel_rfl) Tryd.func5 (by kernel_rfl)
    (of_decide_eq_true (by kernel_rfl)) (by unfold Func.isWrapper; first | (rw [if_pos (by decide +kernel)]; kernel_rfl) | (rw [if_neg (by decide +kernel)]; exact ⟨rfl, rfl⟩))
    (fun os started H enc _ => FnExactDrumText_lifted os started H enc)

theorem FnExactDrumText_holds : Rows.FnExactDrumTextCardSaid :=
  Claim7.holds_tied_plain_at .later [] [.data, .data, .data] true (true, "032a67c7f8320028e7fcbfcd1f2c0a536b9bd66644a8f9d211e434a1890ac10c") false
    FnExactDrumText_row (fun _ h => by cases h) (by kernel_rfl) (fun _ h => by cases h) fnExactDrumText_row_tie rfl ⟨rfl, rfl⟩ (by kernel_rfl) rfl
    (fun f fn hf hfn => by
      obtain rfl : f = 5 := Option.some.inj ((show Tryd.prog.funcNamed "loop.example/g00952/laws.FnExactDrumText" = some 5 by kernel_rfl).symm.trans hf) |>.symm
      obtain rfl : fn = Tryd.f5 := (Option.some.inj (Tryd.func5.symm.trans hfn)).symm
      exact ⟨by kernel_rfl, fun j t ht => by
        rw [show Tryd.f5.params = #[44] from rfl] at ht
        have hm : t ∈ [44] := by simpa using Array.mem_of_getElem? ht
        have hall : ([44].all fun u => !Tryd.prog.wantsStandIn u) = true := by kernel_rfl
        exact (show Tryd.prog.wantsStandIn t = false by simpa using List.all_eq_true.1 hall t hm)⟩)
    (by kernel_rfl)

end Go.Proofs.YtnphmemhejhooaaDoor
