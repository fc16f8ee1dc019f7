/- For every input the laws FnExactMetalTroubles return true, and each argument reads as before. No condition. -/
import Derived.JoinedOf
import Derived.Test.YtaidbadmhepccaaGreatCo
import Derived.Test.YtaidbadmhepccaaGreatAby
import Derived.Test.YtaidbadmhepccaaGreatChecked
import Derived.Test.YtaidbadmhepccaaGreatRows
namespace Go.Proofs.YtaidbadmhepccaaGreat
open Go Go.Ab
open Go.ChangeShapes Go.WideShapes Go.ChangeAt Go.RowKit

/-- The kinds of a function's parameters. -/
def jKinds (P : Program) (fn : Func) : List (Option IntKind) := fn.params.toList.map fun t => match P.underlying t with | some (.int k) => some k | _ => none
/-- The closed facts of a row, in parts. -/
theorem joinedFacts_parts {P : Program} {f : FuncId} {fn : Func} {s : ChangeSpec} {c : OpenClaim}
    (h1 : (c.wf (OpenSpec.ofChange s) && laidOutB P && mapsRowed P && fn.params.all (P.readableRec ·) && namedTie P c.named s.vars && (c.stops == []) && (P.stops == []) && (c.knobs == []) && (P.stopKnobs == [])) = true)
    (h2 : (c.inPlace == P.inPlace f) = true) (h3 : (c.unfollowed == P.unfollowed f) = true) (h4 : (c.recurses == P.recurses f) = true) (h5 : (c.named == P.varsNamed f) = true)
    (h6 : ((c.maps == (fn.params.toList ++ s.plain.varTypes P).any (P.mapsRec ·)) && (c.ifaces == (fn.params.toList ++ s.plain.varTypes P).any (P.ifacesRec ·)) && (c.mapsOut == P.mapsAmong fn.resultTypes.toList) && (c.loops == (fn.params.toList ++ s.plain.varTypes P).any (P.loopsFrom ·)) && (c.wideKeys == (fn.params.toList ++ s.plain.varTypes P ++ fn.resultTypes.toList).any (P.wideKeysFrom ·)) && s.vars.all (P.varReadable ·) && fn.resultTypes.all (fun t => P.readableRec t && decide (t < P.types.size)) && (c.ifacesOut == fn.resultTypes.toList.any (P.ifacesRec ·)) && (c.loopsOut == fn.resultTypes.toList.any (P.loopsFrom ·))) = true)
    (h7 : ((c.plainKeys == P.plainKeys) && c.shortTexts.isNone && P.stopsHeard) = true) (h8 : P.mayEnter = true)
    (h9 : ((c.lifted == P.liftsFinal) && (P.make == some c.make) && (c.kinds == (if c.domain.isEmpty then [] else jKinds P fn)) && (c.pinned == c.pinnedBy)) = true)
    (h10 : ((c.veiled == (fn.params.toList ++ s.plain.varTypes P ++ fn.resultTypes.toList).any (P.veiledRec ·)) && c.veiledFits P fn.params.toList (fn.params.toList ++ s.plain.varTypes P ++ fn.resultTypes.toList)) = true) : joinedFacts P f fn s c = true := by
  simp only [Bool.and_eq_true] at h1 h6 h7 h9 h10
  simp only [joinedFacts, Bool.and_eq_true]
  exact ⟨⟨⟨⟨⟨⟨⟨⟨⟨⟨⟨⟨⟨⟨⟨⟨⟨⟨⟨⟨⟨⟨⟨⟨⟨⟨⟨⟨⟨⟨⟨h1.1.1.1.1.1.1.1.1, h1.1.1.1.1.1.1.1.2⟩, h1.1.1.1.1.1.1.2⟩, h1.1.1.1.1.1.2⟩, h1.1.1.1.1.2⟩, h1.1.1.1.2⟩, h1.1.1.2⟩, h1.1.2⟩, h1.2⟩, h2⟩, h3⟩, h4⟩, h5⟩, h6.1.1.1.1.1.1.1.1⟩, h6.1.1.1.1.1.1.1.2⟩, h6.1.1.1.1.1.1.2⟩, h6.1.1.1.1.1.2⟩, h6.1.1.1.1.2⟩, h6.1.1.1.2⟩, h6.1.1.2⟩, h6.1.2⟩, h6.2⟩, h7.1.1⟩, h7.1.2⟩, h7.2⟩, h8⟩, h9.1.1.1⟩, h9.1.1.2⟩, h9.1.2⟩, h9.2⟩, h10.1⟩, h10.2⟩

theorem FnExactMetalTroubles_own : ownKnob Tryz.prog.godebug = none := by kernel_rfl
theorem FnExactMetalTroubles_laidOut : laidOutB Tryz.prog = true := by kernel_rfl
set_option maxRecDepth 100000 in
theorem FnExactMetalTroubles_lifted (os : Os) (started : os.Started) (H : Type) (enc : TypeId × Value → H) :
    ReturnsInHanded {} Tryz.checked os 4 .any (Rows.fnExactMetalTroublesSpec.pre6 enc Tryz.prog Tryz.f4 Rows.fnExactMetalTroublesRow.domain false) (Rows.fnExactMetalTroublesSpec.post enc Tryz.prog Tryz.f4 false true false false) := by
  refine returnsInHanded_of_change (C := Tryz.checked) FnExactMetalTroubles_own started (by kernel_rfl) Tryz.func4
    (ChangeSpec.witness6 (enc := enc) (C := Tryz.checked) false ⟨#[], #[.agg #[.slice none 0 0, .slice none 0 0, .slice none 0 0, .slice none 0 0, .int .i64 0, .int .i64 0, .int .i64 0, .slice none 0 0, .int .i64 0, .string (ByteArray.mk #[]), .int .i64 0, .int .i64 0, .int .i64 0, .int .i64 0, .slice none 0 0, .int .i64 0, .int .i64 0, .slice none 0 0, .string (ByteArray.mk #[]), .slice none 0 0]], []⟩ 8 (by kernel_rfl) (by kernel_rfl) (by kernel_rfl) (by kernel_rfl)) ?_
  intro W base args ds gs before hval hW _ _
  exact law_contract (c := Tryz.f4.body.getD .skip) (tb := 4) Tryz.func4 (by kernel_rfl) rfl rfl (fun ds h => match ds, h with | [d0], _ => rfl) FnExactMetalTroubles_laidOut (by kernel_rfl) rfl (by kernel_rfl) (xs := [.agg [.slc [.str, .int .i64, .int .i64, .int .i64, .int .i64], .slc [.str, .slc [.str], .int .i64], .slc [.str, .int .i64, .int .i64, .int .i64, .slc [.str, .int .i64]], .slc [.str, .int .i64, .int .i64, .int .i64, .int .i64], .int .i64, .int .i64, .int .i64, .slc [.str, .int .i64, .int .i64, .int .i64, .int .i64], .int .i64, .str, .int .i64, .int .i64, .int .i64, .int .i64, .slc [.str, .int .i64, .int .i64, .int .i64, .int .i64, .slc [.int .i64, .int .i64]], .int .i64, .int .i64, .slc [.int .i64, .slc [.int .i64, .int .i64], .int .i64, .int .i64], .str, .slc [.int .i64, .int .i64, .int .i64]]]) (by kernel_rfl) l_FnExactMetalTroubles W (aok_none rfl rfl) base args ds gs before hval hW

theorem FnExactMetalTroubles_j1 : (Rows.fnExactMetalTroublesRow.wf (OpenSpec.ofChange Rows.fnExactMetalTroublesSpec) && laidOutB Tryz.prog && mapsRowed Tryz.prog && Tryz.f4.params.all (Tryz.prog.readableRec ·) && namedTie Tryz.prog Rows.fnExactMetalTroublesRow.named Rows.fnExactMetalTroublesSpec.vars && (Rows.fnExactMetalTroublesRow.stops == []) && (Tryz.prog.stops == []) && (Rows.fnExactMetalTroublesRow.knobs == []) && (Tryz.prog.stopKnobs == [])) = true := by kernel_rfl
theorem FnExactMetalTroubles_j2 : (Rows.fnExactMetalTroublesRow.inPlace == Tryz.prog.inPlace 4) = true := by kernel_rfl
theorem FnExactMetalTroubles_j3 : (Rows.fnExactMetalTroublesRow.unfollowed == Tryz.prog.unfollowed 4) = true := by kernel_rfl
theorem FnExactMetalTroubles_j4 : (Rows.fnExactMetalTroublesRow.recurses == Tryz.prog.recurses 4) = true := by kernel_rfl
theorem FnExactMetalTroubles_j5 : (Rows.fnExactMetalTroublesRow.named == Tryz.prog.varsNamed 4) = true := by kernel_rfl
theorem FnExactMetalTroubles_j6 : ((Rows.fnExactMetalTroublesRow.maps == (Tryz.f4.params.toList ++ Rows.fnExactMetalTroublesSpec.plain.varTypes Tryz.prog).any (Tryz.prog.mapsRec ·)) && (Rows.fnExactMetalTroublesRow.ifaces == (Tryz.f4.params.toList ++ Rows.fnExactMetalTroublesSpec.plain.varTypes Tryz.prog).any (Tryz.prog.ifacesRec ·)) && (Rows.fnExactMetalTroublesRow.mapsOut == Tryz.prog.mapsAmong Tryz.f4.resultTypes.toList) && (Rows.fnExactMetalTroublesRow.loops == (Tryz.f4.params.toList ++ Rows.fnExactMetalTroublesSpec.plain.varTypes Tryz.prog).any (Tryz.prog.loopsFrom ·)) && (Rows.fnExactMetalTroublesRow.wideKeys == (Tryz.f4.params.toList ++ Rows.fnExactMetalTroublesSpec.plain.varTypes Tryz.prog ++ Tryz.f4.resultTypes.toList).any (Tryz.prog.wideKeysFrom ·)) && Rows.fnExactMetalTroublesSpec.vars.all (Tryz.prog.varReadable ·) && Tryz.f4.resultTypes.all (fun t => Tryz.prog.readableRec t && decide (t < Tryz.prog.types.size)) && (Rows.fnExactMetalTroublesRow.ifacesOut == Tryz.f4.resultTypes.toList.any (Tryz.prog.ifacesRec ·)) && (Rows.fnExactMetalTroublesRow.loopsOut == Tryz.f4.resultTypes.toList.any (Tryz.prog.loopsFrom ·))) = true := by kernel_rfl
theorem FnExactMetalTroubles_j7 : ((Rows.fnExactMetalTroublesRow.plainKeys == Tryz.prog.plainKeys) && Rows.fnExactMetalTroublesRow.shortTexts.isNone && Tryz.prog.stopsHeard) = true := by kernel_rfl
theorem FnExactMetalTroubles_j8 : Tryz.prog.mayEnter = true := by kernel_rfl
theorem FnExactMetalTroubles_j9 : ((Rows.fnExactMetalTroublesRow.lifted == Tryz.prog.liftsFinal) && (Tryz.prog.make == some Rows.fnExactMetalTroublesRow.make) && (Rows.fnExactMetalTroublesRow.kinds == (if Rows.fnExactMetalTroublesRow.domain.isEmpty then [] else jKinds Tryz.prog Tryz.f4)) && (Rows.fnExactMetalTroublesRow.pinned == Rows.fnExactMetalTroublesRow.pinnedBy)) = true := by kernel_rfl
theorem FnExactMetalTroubles_j10 : ((Rows.fnExactMetalTroublesRow.veiled == (Tryz.f4.params.toList ++ Rows.fnExactMetalTroublesSpec.plain.varTypes Tryz.prog ++ Tryz.f4.resultTypes.toList).any (Tryz.prog.veiledRec ·)) && Rows.fnExactMetalTroublesRow.veiledFits Tryz.prog Tryz.f4.params.toList (Tryz.f4.params.toList ++ Rows.fnExactMetalTroublesSpec.plain.varTypes Tryz.prog ++ Tryz.f4.resultTypes.toList)) = true := by kernel_rfl
theorem FnExactMetalTroubles_jn : Tryz.prog.funcNamed Rows.fnExactMetalTroublesRow.func = some 4 := by kernel_rfl
theorem FnExactMetalTroubles_holds : Rows.FnExactMetalTroublesSaid :=
  OpenClaim.holds_of_wide 4 Tryz.f4 rfl rfl rfl rfl rfl rfl rfl ⟨rfl, rfl, rfl, rfl, rfl⟩ rfl rfl rfl rfl rfl FnExactMetalTroubles_jn Tryz.func4 (joinedFacts_parts FnExactMetalTroubles_j1 FnExactMetalTroubles_j2 FnExactMetalTroubles_j3 FnExactMetalTroubles_j4 FnExactMetalTroubles_j5 FnExactMetalTroubles_j6 FnExactMetalTroubles_j7 FnExactMetalTroubles_j8 FnExactMetalTroubles_j9 FnExactMetalTroubles_j10)
    (of_decide_eq_true (by kernel_rfl)) (by unfold Func.isWrapper; first | (rw [if_pos (by decide +kernel)]; kernel_rfl) | (rw [if_neg (by decide +kernel)]; exact ⟨rfl, rfl⟩))
    (fun os started H enc _ => FnExactMetalTroubles_lifted os started H enc)

end Go.Proofs.YtaidbadmhepccaaGreat
