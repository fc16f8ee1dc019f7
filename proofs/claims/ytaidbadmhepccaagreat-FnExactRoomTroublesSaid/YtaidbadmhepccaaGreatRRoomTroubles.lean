/- For every input the laws FnExactRoomTroubles return true, and each argument reads as before. No condition. -/
import Derived.JoinedOf
import Derived.Test.YtaidbadmhepccaaGreatCo
import Derived.Test.YtaidbadmhepccaaGreatAby
import Derived.Test.YtaidbadmhepccaaGreatChecked
import Derived.Test.YtaidbadmhepccaaGreatRows
namespace Go.Proofs.YtaidbadmhepccaaGreat
open Go Go.Ab
open Go.ChangeShapes Go.WideShapes Go.ChangeAt Go.RowKit

/-- The kinds of a function's parameters. -/
def jKinds (P : Program) (fn : Func) : List (Option IntKind) := fn.params.toList.map fun t => match P.underlying t with | some (.int k) => some k | _ => none
/-- The closed facts of a row, in parts. -/
theorem joinedFacts_parts {P : Program} {f : FuncId} {fn : Func} {s : ChangeSpec} {c : OpenClaim}
    (h1 : (c.wf (OpenSpec.ofChange s) && laidOutB P && mapsRowed P && fn.params.all (P.readableRec ·) && namedTie P c.named s.vars && (c.stops == []) && (P.stops == []) && (c.knobs == []) && (P.stopKnobs == [])) = true)
    (h2 : (c.inPlace == P.inPlace f) = true) (h3 : (c.unfollowed == P.unfollowed f) = true) (h4 : (c.recurses == P.recurses f) = true) (h5 : (c.named == P.varsNamed f) = true)
    (h6 : ((c.maps == (fn.params.toList ++ s.plain.varTypes P).any (P.mapsRec ·)) && (c.ifaces == (fn.params.toList ++ s.plain.varTypes P).any (P.ifacesRec ·)) && (c.mapsOut == P.mapsAmong fn.resultTypes.toList) && (c.loops == (fn.params.toList ++ s.plain.varTypes P).any (P.loopsFrom ·)) && (c.wideKeys == (fn.params.toList ++ s.plain.varTypes P ++ fn.resultTypes.toList).any (P.wideKeysFrom ·)) && s.vars.all (P.varReadable ·) && fn.resultTypes.all (fun t => P.readableRec t && decide (t < P.types.size)) && (c.ifacesOut == fn.resultTypes.toList.any (P.ifacesRec ·)) && (c.loopsOut == fn.resultTypes.toList.any (P.loopsFrom ·))) = true)
    (h7 : ((c.plainKeys == P.plainKeys) && c.shortTexts.isNone && P.stopsHeard) = true) (h8 : P.mayEnter = true)
    (h9 : ((c.lifted == P.liftsFinal) && (P.make == some c.make) && (c.kinds == (if c.domain.isEmpty then [] else jKinds P fn)) && (c.pinned == c.pinnedBy)) = true)
    (h10 : ((c.veiled == (fn.params.toList ++ s.plain.varTypes P ++ fn.resultTypes.toList).any (P.veiledRec ·)) && c.veiledFits P fn.params.toList (fn.params.toList ++ s.plain.varTypes P ++ fn.resultTypes.toList)) = true) : joinedFacts P f fn s c = true := by
  simp only [Bool.and_eq_true] at h1 h6 h7 h9 h10
  simp only [joinedFacts, Bool.and_eq_true]
  exact ⟨⟨⟨⟨⟨⟨⟨⟨⟨⟨⟨⟨⟨⟨⟨⟨⟨⟨⟨⟨⟨⟨⟨⟨⟨⟨⟨⟨⟨⟨⟨h1.1.1.1.1.1.1.1.1, h1.1.1.1.1.1.1.1.2⟩, h1.1.1.1.1.1.1.2⟩, h1.1.1.1.1.1.2⟩, h1.1.1.1.1.2⟩, h1.1.1.1.2⟩, h1.1.1.2⟩, h1.1.2⟩, h1.2⟩, h2⟩, h3⟩, h4⟩, h5⟩, h6.1.1.1.1.1.1.1.1⟩, h6.1.1.1.1.1.1.1.2⟩, h6.1.1.1.1.1.1.2⟩, h6.1.1.1.1.1.2⟩, h6.1.1.1.1.2⟩, h6.1.1.1.2⟩, h6.1.1.2⟩, h6.1.2⟩, h6.2⟩, h7.1.1⟩, h7.1.2⟩, h7.2⟩, h8⟩, h9.1.1.1⟩, h9.1.1.2⟩, h9.1.2⟩, h9.2⟩, h10.1⟩, h10.2⟩

theorem FnExactRoomTroubles_own : ownKnob Tryz.prog.godebug = none := by kernel_rfl
theorem FnExactRoomTroubles_laidOut : laidOutB Tryz.prog = true := by kernel_rfl
set_option maxRecDepth 100000 in
theorem FnExactRoomTroubles_lifted (os : Os) (started : os.Started) (H : Type) (enc : TypeId × Value → H) :
    ReturnsInHanded {} Tryz.checked os 3 .any (Rows.fnExactRoomTroublesSpec.pre6 enc Tryz.prog Tryz.f3 Rows.fnExactRoomTroublesRow.domain false) (Rows.fnExactRoomTroublesSpec.post enc Tryz.prog Tryz.f3 false true false false) := by
  refine returnsInHanded_of_change (C := Tryz.checked) FnExactRoomTroubles_own started (by kernel_rfl) Tryz.func3
    (ChangeSpec.witness6 (enc := enc) (C := Tryz.checked) false ⟨#[], #[.agg #[.slice none 0 0, .slice none 0 0, .slice none 0 0, .slice none 0 0, .int .i64 0, .int .i64 0, .int .i64 0, .slice none 0 0, .int .i64 0, .string (ByteArray.mk #[]), .int .i64 0, .int .i64 0, .int .i64 0, .int .i64 0, .slice none 0 0, .int .i64 0, .int .i64 0, .slice none 0 0, .string (ByteArray.mk #[]), .slice none 0 0]], []⟩ 8 (by kernel_rfl) (by kernel_rfl) (by kernel_rfl) (by kernel_rfl)) ?_
  intro W base args ds gs before hval hW _ _
  exact law_contract (c := Tryz.f3.body.getD .skip) (tb := 4) Tryz.func3 (by kernel_rfl) rfl rfl (fun ds h => match ds, h with | [d0], _ => rfl) FnExactRoomTroubles_laidOut (by kernel_rfl) rfl (by kernel_rfl) (xs := [.agg [.slc [.str, .int .i64, .int .i64, .int .i64, .int .i64], .slc [.str, .slc [.str], .int .i64], .slc [.str, .int .i64, .int .i64, .int .i64, .slc [.str, .int .i64]], .slc [.str, .int .i64, .int .i64, .int .i64, .int .i64], .int .i64, .int .i64, .int .i64, .slc [.str, .int .i64, .int .i64, .int .i64, .int .i64], .int .i64, .str, .int .i64, .int .i64, .int .i64, .int .i64, .slc [.str, .int .i64, .int .i64, .int .i64, .int .i64, .slc [.int .i64, .int .i64]], .int .i64, .int .i64, .slc [.int .i64, .slc [.int .i64, .int .i64], .int .i64, .int .i64], .str, .slc [.int .i64, .int .i64, .int .i64]]]) (by kernel_rfl) l_FnExactRoomTroubles W (aok_none rfl rfl) base args ds gs before hval hW

theorem FnExactRoomTroubles_j1 : (Rows.fnExactRoomTroublesRow.wf (OpenSpec.ofChange Rows.fnExactRoomTroublesSpec) && laidOutB Tryz.prog && mapsRowed Tryz.prog && Tryz.f3.params.all (Tryz.prog.readableRec ·) && namedTie Tryz.prog Rows.fnExactRoomTroublesRow.named Rows.fnExactRoomTroublesSpec.vars && (Rows.fnExactRoomTroublesRow.stops == []) && (Tryz.prog.stops == []) && (Rows.fnExactRoomTroublesRow.knobs == []) && (Tryz.prog.stopKnobs == [])) = true := by kernel_rfl
theorem FnExactRoomTroubles_j2 : (Rows.fnExactRoomTroublesRow.inPlace == Tryz.prog.inPlace 3) = true := by kernel_rfl
theorem FnExactRoomTroubles_j3 : (Rows.fnExactRoomTroublesRow.unfollowed == Tryz.prog.unfollowed 3) = true := by kernel_rfl
theorem FnExactRoomTroubles_j4 : (Rows.fnExactRoomTroublesRow.recurses == Tryz.prog.recurses 3) = true := by kernel_rfl
theorem FnExactRoomTroubles_j5 : (Rows.fnExactRoomTroublesRow.named == Tryz.prog.varsNamed 3) = true := by kernel_rfl
theorem FnExactRoomTroubles_j6 : ((Rows.fnExactRoomTroublesRow.maps == (Tryz.f3.params.toList ++ Rows.fnExactRoomTroublesSpec.plain.varTypes Tryz.prog).any (Tryz.prog.mapsRec ·)) && (Rows.fnExactRoomTroublesRow.ifaces == (Tryz.f3.params.toList ++ Rows.fnExactRoomTroublesSpec.plain.varTypes Tryz.prog).any (Tryz.prog.ifacesRec ·)) && (Rows.fnExactRoomTroublesRow.mapsOut == Tryz.prog.mapsAmong Tryz.f3.resultTypes.toList) && (Rows.fnExactRoomTroublesRow.loops == (Tryz.f3.params.toList ++ Rows.fnExactRoomTroublesSpec.plain.varTypes Tryz.prog).any (Tryz.prog.loopsFrom ·)) && (Rows.fnExactRoomTroublesRow.wideKeys == (Tryz.f3.params.toList ++ Rows.fnExactRoomTroublesSpec.plain.varTypes Tryz.prog ++ Tryz.f3.resultTypes.toList).any (Tryz.prog.wideKeysFrom ·)) && Rows.fnExactRoomTroublesSpec.vars.all (Tryz.prog.varReadable ·) && Tryz.f3.resultTypes.all (fun t => Tryz.prog.readableRec t && decide (t < Tryz.prog.types.size)) && (Rows.fnExactRoomTroublesRow.ifacesOut == Tryz.f3.resultTypes.toList.any (Tryz.prog.ifacesRec ·)) && (Rows.fnExactRoomTroublesRow.loopsOut == Tryz.f3.resultTypes.toList.any (Tryz.prog.loopsFrom ·))) = true := by kernel_rfl
theorem FnExactRoomTroubles_j7 : ((Rows.fnExactRoomTroublesRow.plainKeys == Tryz.prog.plainKeys) && Rows.fnExactRoomTroublesRow.shortTexts.isNone && Tryz.prog.stopsHeard) = true := by kernel_rfl
theorem FnExactRoomTroubles_j8 : Tryz.prog.mayEnter = true := by kernel_rfl
theorem FnExactRoomTroubles_j9 : ((Rows.fnExactRoomTroublesRow.lifted == Tryz.prog.liftsFinal) && (Tryz.prog.make == some Rows.fnExactRoomTroublesRow.make) && (Rows.fnExactRoomTroublesRow.kinds == (if Rows.fnExactRoomTroublesRow.domain.isEmpty then [] else jKinds Tryz.prog Tryz.f3)) && (Rows.fnExactRoomTroublesRow.pinned == Rows.fnExactRoomTroublesRow.pinnedBy)) = true := by kernel_rfl
theorem FnExactRoomTroubles_j10 : ((Rows.fnExactRoomTroublesRow.veiled == (Tryz.f3.params.toList ++ Rows.fnExactRoomTroublesSpec.plain.varTypes Tryz.prog ++ Tryz.f3.resultTypes.toList).any (Tryz.prog.veiledRec ·)) && Rows.fnExactRoomTroublesRow.veiledFits Tryz.prog Tryz.f3.params.toList (Tryz.f3.params.toList ++ Rows.fnExactRoomTroublesSpec.plain.varTypes Tryz.prog ++ Tryz.f3.resultTypes.toList)) = true := by kernel_rfl
theorem FnExactRoomTroubles_jn : Tryz.prog.funcNamed Rows.fnExactRoomTroublesRow.func = some 3 := by kernel_rfl
theorem FnExactRoomTroubles_holds : Rows.FnExactRoomTroublesSaid :=
  OpenClaim.holds_of_wide 3 Tryz.f3 rfl rfl rfl rfl rfl rfl rfl ⟨rfl, rfl, rfl, rfl, rfl⟩ rfl rfl rfl rfl rfl FnExactRoomTroubles_jn Tryz.func3 (joinedFacts_parts FnExactRoomTroubles_j1 FnExactRoomTroubles_j2 FnExactRoomTroubles_j3 FnExactRoomTroubles_j4 FnExactRoomTroubles_j5 FnExactRoomTroubles_j6 FnExactRoomTroubles_j7 FnExactRoomTroubles_j8 FnExactRoomTroubles_j9 FnExactRoomTroubles_j10)
    (of_decide_eq_true (by kernel_rfl)) (by unfold Func.isWrapper; first | (rw [if_pos (by decide +kernel)]; kernel_rfl) | (rw [if_neg (by decide +kernel)]; exact ⟨rfl, rfl⟩))
    (fun os started H enc _ => FnExactRoomTroubles_lifted os started H enc)

end Go.Proofs.YtaidbadmhepccaaGreat
