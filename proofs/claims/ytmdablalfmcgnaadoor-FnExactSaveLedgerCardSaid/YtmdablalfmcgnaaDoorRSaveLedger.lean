/- For every input the laws FnExactSaveLedger return true, and each argument reads as before, whatever the heap where the listed variables hold what the program lays; the listing is tied to the text. No further condition. -/
import Derived.Test.YtmdablalfmcgnaaDoorYg
import Derived.Test.YtmdablalfmcgnaaDoorBc
import Derived.Test.YtmdablalfmcgnaaDoorCards
import Derived.Test.YtmdablalfmcgnaaDoorTie
import Derived.ProofKit
import Derived.OpenShut
import Derived.Stop.Joined
import Derived.SevenTiedAt
namespace Go.Proofs.YtmdablalfmcgnaaDoor
open Go Go.Ab
open Go.ChangeShapes Go.WideShapes Go.ChangeAt Go.RowKit

theorem FnExactSaveLedger_own : ownKnob Tryd.prog.godebug = none := by kernel_rfl
theorem FnExactSaveLedger_laidOut : laidOutB Tryd.prog = true := by kernel_rfl
theorem FnExactSaveLedger_met (os : Os) (args : Array Value) : laidMetH Tryd.prog Rows.fnExactSaveLedgerRow.laid ((World.doorLaid Tryd.prog 39 os).forCall (fun _ _ => 0) ⟨#[], args, []⟩).memory :=
  laidMetH_of_parts3 (fuel := 8) (laidMet_of_run' 8 (by kernel_rfl) (by kernel_rfl)) (by kernel_rfl) (by kernel_rfl)
theorem FnExactSaveLedger_aok {W : World} (h : laidMetH Tryd.prog Rows.fnExactSaveLedgerRow.laid W) (_hs : W.ShapedOpen Tryd.prog) : AOk (fun b => b < W.heap.size) W := by
  rw [MakeChecks.laidMetH_plain _ _ _ (by kernel_rfl)] at h
  obtain ⟨ps, ⟨g0, t0, cs0, f0, p0, q0, hg0, ht0, hv0, hd0, ⟨g1, t1, cs1, f1, p1, q1, hg1, ht1, hv1, hd1, ⟨g2, t2, cs2, f2, p2, q2, hg2, ht2, hv2, hd2, _, _⟩, _⟩, _⟩, _, _⟩ := h
  have x_pow : ∀ A : Nat → Prop, 1 < W.heap.size ∧ ∃ us e fz, W.heap[1]? = some (.cells us e fz) ∧ us.size = ((Lib.pow10Tab).map fun z => PV.int .u64 z).length ∧ ∀ (i : Nat) (c : PV), ((Lib.pow10Tab).map fun z => PV.int .u64 z)[i]? = some c → RepI A W c (us.getD i undef) := fun A => by
    have eg : Tryd.prog.globalNamed "internal/strconv.uint64pow10" = some 1 := by kernel_rfl
    have et : (Tryd.prog.globals[1]?).map (·.type) = some 188 := by kernel_rfl
    obtain rfl := Option.some.inj (eg.symm.trans hg2)
    obtain rfl := Option.some.inj (et.symm.trans ht2)
    have ed : (Rows.laid_internal_strconv_uint64pow10 : DataW Unit) = Lib.tabData .u64 (Lib.pow10Tab) := by kernel_rfl
    have hd' := hd2
    rw [ed] at hd'
    exact tab_of_var A eg hv2 (Lib.cells_of_tab Tryd.underlying188 Tryd.underlying127 (by kernel_rfl) (by kernel_rfl) hd')

  refine ⟨fun _ h => h, fun g c hm => ?_, fun g cs hm => ?_⟩
  · exact (List.not_mem_nil hm).elim
  simp only [tabs, List.mem_cons, List.not_mem_nil, or_false, Prod.mk.injEq] at hm
  rcases hm with ⟨rfl, rfl⟩
  · exact x_pow _
set_option maxRecDepth 100000 in
theorem FnExactSaveLedger_lifted (os : Os) (started : os.Started) (H : Type) (enc : TypeId × Value → H) :
    ReturnsInHanded {} Tryd.checked os 4 .any (fun w args => (Rows.fnExactSaveLedgerSpec.pre enc Tryd.prog Tryd.f4 [] false w args ∧ laidMetH Tryd.prog Rows.fnExactSaveLedgerRow.laid w) ∧ sizedMet enc Tryd.prog Tryd.f4 (OpenSpec.ofChange Rows.fnExactSaveLedgerSpec) false w args)
      (Rows.fnExactSaveLedgerSpec.post enc Tryd.prog Tryd.f4 false true false false) := by
  refine returnsInHanded_andS (C := Tryd.checked) (X := fun w _ => laidMetH Tryd.prog Rows.fnExactSaveLedgerRow.laid w) (fun _ _ _ hh h => h.of_heap hh) FnExactSaveLedger_own started (by kernel_rfl) Tryd.func4
    (ChangeSpec.witness_shaped (enc := enc) (C := Tryd.checked) (os := os) (X := fun w _ => laidMetH Tryd.prog Rows.fnExactSaveLedgerRow.laid w) false (World.doorLaid Tryd.prog 39 os) #[.slice none 0 0] 8 rfl (World.shaped_of_RefB (by kernel_rfl) (by kernel_rfl)) (by kernel_rfl) (by kernel_rfl) (by kernel_rfl) (FnExactSaveLedger_met os _)) ?_
  intro W base args ds gs before hval hW hL hS
  exact law_contract (c := Tryd.f4.body.getD .skip) (tb := 4) Tryd.func4 (by kernel_rfl) rfl rfl (fun ds h => match ds, h with | [d0], _ => rfl) FnExactSaveLedger_laidOut (by kernel_rfl) rfl (by kernel_rfl) (xs := [.one (.slc [.int .i64, .str, .str])]) (by kernel_rfl) l_FnExactSaveLedger W (FnExactSaveLedger_aok hL hS) base args ds gs before hval hW

theorem FnExactSaveLedger_row : Rows.FnExactSaveLedgerSaid :=
  OpenClaim.holds_of_wide 4 Tryd.f4 rfl rfl rfl rfl rfl rfl rfl ⟨rfl, rfl, rfl, rfl, rfl⟩ rfl rfl rfl rfl rfl (by kernel_rfl) Tryd.func4 (by kernel_rfl)
    (of_decide_eq_true (by kernel_rfl)) (by unfold Func.isWrapper; first | (rw [if_pos (by decide +kernel)]; kernel_rfl) | (rw [if_neg (by decide +kernel)]; exact ⟨rfl, rfl⟩))
    (fun os started H enc _ => FnExactSaveLedger_lifted os started H enc)

theorem FnExactSaveLedger_holds : Rows.FnExactSaveLedgerCardSaid :=
  Claim7.holds_tied_plain_at .later [] [.data, .data, .data] true (true, "20eabfe61a68a357b8f5a8e9ca3aa155e3f0c49a2149f607508e869b1c42c402") false
    FnExactSaveLedger_row (fun _ h => by cases h) (by kernel_rfl) (fun _ h => by cases h) fnExactSaveLedger_row_tie rfl ⟨rfl, rfl⟩ (by kernel_rfl) rfl
    (fun f fn hf hfn => by
      obtain rfl : f = 4 := Option.some.inj ((show Tryd.prog.funcNamed "loop.example/g00952/laws.FnExactSaveLedger" = some 4 by kernel_rfl).symm.trans hf) |>.symm
      obtain rfl : fn = Tryd.f4 := (Option.some.inj (Tryd.func4.symm.trans hfn)).symm
      exact ⟨by kernel_rfl, fun j t ht => by
        rw [show Tryd.f4.params = #[34] from rfl] at ht
        have hm : t ∈ [34] := by simpa using Array.mem_of_getElem? ht
        have hall : ([34].all fun u => !Tryd.prog.wantsStandIn u) = true := by kernel_rfl
        exact (show Tryd.prog.wantsStandIn t = false by simpa using List.all_eq_true.1 hall t hm)⟩)
    (by kernel_rfl)

end Go.Proofs.YtmdablalfmcgnaaDoor
