/- For every input the laws FnExactSwingsOf return true, and each argument reads as before, whatever the heap where the listed variables hold what the program lays; the listing is tied to the text. No further condition. -/
import Derived.Test.YtmdablalfmcgnaaDoorZe
import Derived.Test.YtmdablalfmcgnaaDoorBv
import Derived.Test.YtmdablalfmcgnaaDoorBc
import Derived.Test.YtmdablalfmcgnaaDoorCards
import Derived.Test.YtmdablalfmcgnaaDoorTie
import Derived.ProofKit
import Derived.OpenShut
import Derived.Stop.Joined
import Derived.SevenTiedAt
namespace Go.Proofs.YtmdablalfmcgnaaDoor
open Go Go.Ab
open Go.ChangeShapes Go.WideShapes Go.ChangeAt Go.RowKit

theorem FnExactSwingsOf_own : ownKnob Tryd.prog.godebug = none := by kernel_rfl
theorem FnExactSwingsOf_laidOut : laidOutB Tryd.prog = true := by kernel_rfl
theorem FnExactSwingsOf_met (os : Os) (args : Array Value) : laidMetH Tryd.prog Rows.fnExactSwingsOfRow.laid ((World.doorLaid Tryd.prog 39 os).forCall (fun _ _ => 0) ⟨#[], args, []⟩).memory :=
  laidMetH_of_parts3 (fuel := 8) (laidMet_of_run' 8 (by kernel_rfl) (by kernel_rfl)) (by kernel_rfl) (by kernel_rfl)
theorem FnExactSwingsOf_aok {W : World} (h : laidMetH Tryd.prog Rows.fnExactSwingsOfRow.laid W) (_hs : W.ShapedOpen Tryd.prog) : AOk (fun b => b < W.heap.size) W := by
  rw [MakeChecks.laidMetH_plain _ _ _ (by kernel_rfl)] at h
  obtain ⟨ps, ⟨g0, t0, cs0, f0, p0, q0, hg0, ht0, hv0, hd0, _, _⟩, _, _⟩ := h
  have x_sine : ∀ A : Nat → Prop, 0 < W.heap.size ∧ ∃ us e fz, W.heap[0]? = some (.cells us e fz) ∧ us.size = ((sineL).map fun z => PV.int .i64 z).length ∧ ∀ (i : Nat) (c : PV), ((sineL).map fun z => PV.int .i64 z)[i]? = some c → RepI A W c (us.getD i undef) := fun A => by
    have eg : Tryd.prog.globalNamed "loop.example/g00952/impl.roundSines" = some 0 := by kernel_rfl
    have et : (Tryd.prog.globals[0]?).map (·.type) = some 160 := by kernel_rfl
    obtain rfl := Option.some.inj (eg.symm.trans hg0)
    obtain rfl := Option.some.inj (et.symm.trans ht0)
    have ed : (Rows.laid_loop_example_g00952_impl_roundSines : DataW Unit) = Lib.tabData .i64 (sineL) := by kernel_rfl
    have hd' := hd0
    rw [ed] at hd'
    exact tab_of_var A eg hv0 (Lib.cells_of_tab Tryd.underlying160 Tryd.underlying2 (by kernel_rfl) (by kernel_rfl) hd')

  refine ⟨fun _ h => h, fun g c hm => ?_, fun g cs hm => ?_⟩
  · exact (List.not_mem_nil hm).elim
  simp only [tabs, List.mem_cons, List.not_mem_nil, or_false, Prod.mk.injEq] at hm
  rcases hm with ⟨rfl, rfl⟩
  · exact x_sine _
set_option maxRecDepth 100000 in
theorem FnExactSwingsOf_lifted (os : Os) (started : os.Started) (H : Type) (enc : TypeId × Value → H) :
    ReturnsInHanded {} Tryd.checked os 3 .any (fun w args => (Rows.fnExactSwingsOfSpec.pre enc Tryd.prog Tryd.f3 [] false w args ∧ laidMetH Tryd.prog Rows.fnExactSwingsOfRow.laid w) ∧ sizedMet enc Tryd.prog Tryd.f3 (OpenSpec.ofChange Rows.fnExactSwingsOfSpec) false w args)
      (Rows.fnExactSwingsOfSpec.post enc Tryd.prog Tryd.f3 false true false false) := by
  refine returnsInHanded_andS (C := Tryd.checked) (X := fun w _ => laidMetH Tryd.prog Rows.fnExactSwingsOfRow.laid w) (fun _ _ _ hh h => h.of_heap hh) FnExactSwingsOf_own started (by kernel_rfl) Tryd.func3
    (ChangeSpec.witness_shaped (enc := enc) (C := Tryd.checked) (os := os) (X := fun w _ => laidMetH Tryd.prog Rows.fnExactSwingsOfRow.laid w) false (World.doorLaid Tryd.prog 39 os) #[.slice none 0 0] 8 rfl (World.shaped_of_RefB (by kernel_rfl) (by kernel_rfl)) (by kernel_rfl) (by kernel_rfl) (by kernel_rfl) (FnExactSwingsOf_met os _)) ?_
  intro W base args ds gs before hval hW hL hS
  exact law_contractV (c := Tryd.f3.body.getD .skip) (tb := 4) Tryd.func3 (by kernel_rfl) rfl (by kernel_rfl) (fun ds gs h hg => match ds, gs, h, hg with | [d0], [g0], _, _ => rfl) FnExactSwingsOf_laidOut (by kernel_rfl) rfl (by kernel_rfl) (xs := [.one (.slc [.str, .int .i64, .int .i64, .int .i64, .int .i64])]) (by kernel_rfl) l_FnExactSwingsOf W (FnExactSwingsOf_aok hL hS) base args ds gs before hval hW

theorem FnExactSwingsOf_row : Rows.FnExactSwingsOfSaid :=
  OpenClaim.holds_of_wide 3 Tryd.f3 rfl rfl rfl rfl rfl rfl rfl ⟨rfl, rfl, rfl, rfl, rfl⟩ rfl rfl rfl rfl rfl (by kernel_rfl) Tryd.func3 (by kernel_rfl)
    (of_decide_eq_true (by kernel_rfl)) (by unfold Func.isWrapper; first | (rw [if_pos (by decide +kernel)]; kernel_rfl) | (rw [if_neg (by decide +kernel)]; exact ⟨rfl, rfl⟩))
    (fun os started H enc _ => FnExactSwingsOf_lifted os started H enc)

theorem FnExactSwingsOf_holds : Rows.FnExactSwingsOfCardSaid :=
  Claim7.holds_tied_plain_at .later [] [.data] true (true, "20eabfe61a68a357b8f5a8e9ca3aa155e3f0c49a2149f607508e869b1c42c402") false
    FnExactSwingsOf_row (fun _ h => by cases h) (by kernel_rfl) (fun _ h => by cases h) fnExactSwingsOf_row_tie rfl ⟨rfl, rfl⟩ (by kernel_rfl) rfl
    (fun f fn hf hfn => by
      obtain rfl : f = 3 := Option.some.inj ((show Tryd.prog.funcNamed "loop.example/g00952/laws.FnExactSwingsOf" = some 3 by kernel_rfl).symm.trans hf) |>.symm
      obtain rfl : fn = Tryd.f3 := (Option.some.inj (Tryd.func3.symm.trans hfn)).symm
      exact ⟨by kernel_rfl, fun j t ht => by
        rw [show Tryd.f3.params = #[22] from rfl] at ht
        have hm : t ∈ [22] := by simpa using Array.mem_of_getElem? ht
        have hall : ([22].all fun u => !Tryd.prog.wantsStandIn u) = true := by kernel_rfl
        exact (show Tryd.prog.wantsStandIn t = false by simpa using List.all_eq_true.1 hall t hm)⟩)
    (by kernel_rfl)

end Go.Proofs.YtmdablalfmcgnaaDoor
