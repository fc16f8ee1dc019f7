/- For every input the laws FnChanges return true, and each argument reads as before, whatever the heap where the listed variables hold what the program lays; the listing is tied to the text. No further condition. -/
import Derived.Test.YtndbhcnedfbcoaaDoorZm
import Derived.Test.YtndbhcnedfbcoaaDoorBc
import Derived.Test.YtndbhcnedfbcoaaDoorCards
import Derived.Test.YtndbhcnedfbcoaaDoorTie
import Derived.ProofKit
import Derived.OpenShut
import Derived.Stop.Joined
import Derived.SevenTiedAt
namespace Go.Proofs.YtndbhcnedfbcoaaDoor
open Go Go.Ab
open Go.ChangeShapes Go.WideShapes Go.ChangeAt Go.RowKit

theorem FnChanges_own : ownKnob Tryd.prog.godebug = none := by kernel_rfl
theorem FnChanges_laidOut : laidOutB Tryd.prog = true := by kernel_rfl
theorem FnChanges_met (os : Os) (args : Array Value) : laidMetH Tryd.prog Rows.fnChangesRow.laid ((World.laidAll Tryd.prog os Rows.fnChangesRow.laid).forCall (fun _ _ => 0) ⟨#[], args, []⟩).memory :=
  by rw [MakeChecks.laidMetH_plain _ _ _ (by kernel_rfl)]; exact laidMet_laidAll _ (by kernel_rfl) (by kernel_rfl)
theorem FnChanges_aok {W : World} (h : laidMetH Tryd.prog Rows.fnChangesRow.laid W) (hs : W.ShapedOpen Tryd.prog) : AOk (fun b => b < W.heap.size) W := by
  rw [MakeChecks.laidMetH_plain _ _ _ (by kernel_rfl)] at h
  obtain ⟨ps, ⟨g0, t0, cs0, f0, p0, q0, hg0, ht0, hv0, hd0, ⟨g1, t1, cs1, f1, p1, q1, hg1, ht1, hv1, hd1, _, _⟩, _⟩, _, _⟩ := h

  have y_max := int_of_cell (W := W) (Go.Proofs.cell_of_shapedOpen_int (zero := #[.int .i64 0]) (t := 3) (g := 0) hs (of_decide_eq_true (by kernel_rfl)) (by kernel_rfl) rfl (by kernel_rfl) (by kernel_rfl) Tryd.underlying3)
  refine ⟨fun _ h => h, fun g c hm => ?_, fun g cs hm => ?_⟩
  · simp only [shps, List.mem_cons, List.not_mem_nil, or_false, Prod.mk.injEq] at hm
    rcases hm with ⟨rfl, rfl⟩
    · exact y_max
  exact (List.not_mem_nil hm).elim
set_option maxRecDepth 100000 in
theorem FnChanges_lifted (os : Os) (started : os.Started) (H : Type) (enc : TypeId × Value → H) :
    ReturnsInHanded {} Tryd.checked os 3 .any (fun w args => (Rows.fnChangesSpec.pre enc Tryd.prog Tryd.f3 [] false w args ∧ laidMetH Tryd.prog Rows.fnChangesRow.laid w) ∧ sizedMet enc Tryd.prog Tryd.f3 (OpenSpec.ofChange Rows.fnChangesSpec) false w args)
      (Rows.fnChangesSpec.post enc Tryd.prog Tryd.f3 false true false false) := by
  refine returnsInHanded_andS (C := Tryd.checked) (X := fun w _ => laidMetH Tryd.prog Rows.fnChangesRow.laid w) (fun _ _ _ hh h => h.of_heap hh) FnChanges_own started (by kernel_rfl) Tryd.func3
    (ChangeSpec.witness_shaped (enc := enc) (C := Tryd.checked) (os := os) (X := fun w _ => laidMetH Tryd.prog Rows.fnChangesRow.laid w) false (World.laidAll Tryd.prog os Rows.fnChangesRow.laid) #[.slice none 0 0, .slice none 0 0] 8 (World.laidAll_os _ _ _) (World.shaped_of_ZipB (by kernel_rfl) (by kernel_rfl)) (by kernel_rfl) (by kernel_rfl) (by kernel_rfl) (FnChanges_met os _)) ?_
  intro W base args ds gs before hval hW hL hS
  exact law_contract (c := Tryd.f3.body.getD .skip) (tb := 4) Tryd.func3 (by kernel_rfl) rfl rfl (fun ds h => match ds, h with | [d0, d1], _ => rfl) FnChanges_laidOut (by kernel_rfl) rfl (by kernel_rfl) (xs := [.one (.slc [.int .u8]), .one (.slc [.int .u8])]) (by kernel_rfl) l_FnChanges W (FnChanges_aok hL hS) base args ds gs before hval hW

theorem FnChanges_row : Rows.FnChangesSaid :=
  OpenClaim.holds_of_wide 3 Tryd.f3 rfl rfl rfl rfl rfl rfl rfl ⟨rfl, rfl, rfl, rfl, rfl⟩ rfl rfl rfl rfl rfl (by kernel_rfl) Tryd.func3 (by kernel_rfl)
    (of_decide_eq_true (by kernel_rfl)) (by unfold Func.isWrapper; first | (rw [if_pos (by decide +kernel)]; kernel_rfl) | (rw [if_neg (by decide +kernel)]; exact ⟨rfl, rfl⟩))
    (fun os started H enc _ => FnChanges_lifted os started H enc)

theorem FnChanges_holds : Rows.FnChangesCardSaid :=
  Claim7.holds_tied_plain_at .later [] [.data, .pinned] true (true, "faee8e6f08a32b9f53df5f0d34702d72cafcb98fab15780157b5c64719dc0de4") false
    FnChanges_row (fun _ h => by cases h) (by kernel_rfl) (fun _ h => by cases h) fnChanges_row_tie rfl ⟨rfl, rfl⟩ (by kernel_rfl) rfl
    (fun f fn hf hfn => by
      obtain rfl : f = 3 := Option.some.inj ((show Tryd.prog.funcNamed "loop.example/g00952/laws.FnChanges" = some 3 by kernel_rfl).symm.trans hf) |>.symm
      obtain rfl : fn = Tryd.f3 := (Option.some.inj (Tryd.func3.symm.trans hfn)).symm
      exact ⟨by kernel_rfl, fun j t ht => by
        rw [show Tryd.f3.params = #[22, 22] from rfl] at ht
        have hm : t ∈ [22, 22] := by simpa using Array.mem_of_getElem? ht
        have hall : ([22, 22].all fun u => !Tryd.prog.wantsStandIn u) = true := by kernel_rfl
        exact (show Tryd.prog.wantsStandIn t = false by simpa using List.all_eq_true.1 hall t hm)⟩)
    (by kernel_rfl)

end Go.Proofs.YtndbhcnedfbcoaaDoor
