/- For every input the laws FnExactDeskReport return true, and each argument reads as before, whatever the heap where the listed variables hold what the program lays; the listing is tied to the text. No further condition. -/
import Derived.Test.YteckngloamnfdaaGreatDoorCs
import Derived.Test.YteckngloamnfdaaGreatDoorBv
import Derived.Test.YteckngloamnfdaaGreatDoorCards
import Derived.Test.YteckngloamnfdaaGreatDoorTie
import Derived.ProofKit
import Derived.OpenShut
import Derived.Stop.Joined
import Derived.SevenTiedAt
import Derived.JoinedOf
namespace Go.Proofs.YteckngloamnfdaaGreatDoor
open Go Go.Ab
open Go.ChangeShapes Go.WideShapes Go.ChangeAt Go.RowKit
def jKinds (P:Program) (fn:Func):List (Option IntKind):=fn.params.toList.map fun t=>match P.underlying t with | some (.int k)=>some k | _=>none
theorem joinedFacts_parts {P:Program} {f:FuncId} {fn:Func} {s:ChangeSpec} {c:OpenClaim}
  (h1:(c.wf (OpenSpec.ofChange s)&&laidOutB P&&mapsRowed P&&fn.params.all (P.readableRec ·)&&namedTie P c.named s.vars&&(c.stops == [])&&(P.stops == [])&&(c.knobs == [])&&(P.stopKnobs == []))=true)
  (h2:(c.inPlace==P.inPlace f)=true) (h3:(c.unfollowed==P.unfollowed f)=true) (h4:(c.recurses==P.recurses f)=true) (h5:(c.named==P.varsNamed f)=true)
  (h6:((c.maps==(fn.params.toList++s.plain.varTypes P).any (P.mapsRec ·))&&(c.ifaces==(fn.params.toList++s.plain.varTypes P).any (P.ifacesRec ·))&&(c.mapsOut==P.mapsAmong fn.resultTypes.toList)&&(c.loops==(fn.params.toList++s.plain.varTypes P).any (P.loopsFrom ·))&&(c.wideKeys==(fn.params.toList++s.plain.varTypes P++fn.resultTypes.toList).any (P.wideKeysFrom ·))&&s.vars.all (P.varReadable ·)&&fn.resultTypes.all (fun t=>P.readableRec t&&decide (t<P.types.size))&&(c.ifacesOut==fn.resultTypes.toList.any (P.ifacesRec ·))&&(c.loopsOut==fn.resultTypes.toList.any (P.loopsFrom ·)))=true)
  (h7:((c.plainKeys==P.plainKeys)&&c.shortTexts.isNone&&P.stopsHeard)=true) (h8:P.mayEnter=true)
  (h9:((c.lifted==P.liftsFinal)&&(P.make==some c.make)&&(c.kinds==(if c.domain.isEmpty then [] else jKinds P fn))&&(c.pinned==c.pinnedBy))=true)
  (h10:((c.veiled==(fn.params.toList++s.plain.varTypes P++fn.resultTypes.toList).any (P.veiledRec ·))&&c.veiledFits P fn.params.toList (fn.params.toList++s.plain.varTypes P++fn.resultTypes.toList))=true):joinedFacts P f fn s c=true:=by
 simp only[Bool.and_eq_true]at h1 h6 h7 h9 h10
 simp only[joinedFacts,Bool.and_eq_true]
 exact⟨⟨⟨⟨⟨⟨⟨⟨⟨⟨⟨⟨⟨⟨⟨⟨⟨⟨⟨⟨⟨⟨⟨⟨⟨⟨⟨⟨⟨⟨⟨h1.1.1.1.1.1.1.1.1,h1.1.1.1.1.1.1.1.2⟩,h1.1.1.1.1.1.1.2⟩,h1.1.1.1.1.1.2⟩,h1.1.1.1.1.2⟩,h1.1.1.1.2⟩,h1.1.1.2⟩,h1.1.2⟩,h1.2⟩,h2⟩,h3⟩,h4⟩,h5⟩,h6.1.1.1.1.1.1.1.1⟩,h6.1.1.1.1.1.1.1.2⟩,h6.1.1.1.1.1.1.2⟩,h6.1.1.1.1.1.2⟩,h6.1.1.1.1.2⟩,h6.1.1.1.2⟩,h6.1.1.2⟩,h6.1.2⟩,h6.2⟩,h7.1.1⟩,h7.1.2⟩,h7.2⟩,h8⟩,h9.1.1.1⟩,h9.1.1.2⟩,h9.1.2⟩,h9.2⟩,h10.1⟩,h10.2⟩
theorem FnExactDeskReport_own:ownKnob Tryz.prog.godebug=none:=by kernel_rfl
theorem FnExactDeskReport_laidOut:laidOutB Tryz.prog=true:=by kernel_rfl
theorem FnExactDeskReport_met (os:Os) (args:Array Value):laidMetH Tryz.prog Rows.fnExactDeskReportRow.laid ((World.doorLaid Tryz.prog 29 os).forCall (fun _ _=>0) ⟨#[],args,[]⟩).memory :=
 laidMetH_of_parts3 (fuel:=8) (laidMet_of_run' 8 (by kernel_rfl) (by kernel_rfl)) (by kernel_rfl) (by kernel_rfl)
theorem FnExactDeskReport_aok {W:World} (h:laidMetH Tryz.prog Rows.fnExactDeskReportRow.laid W) (_:W.ShapedOpen Tryz.prog):AOk (fun b=>b<W.heap.size) W:=by
 rw[MakeChecks.laidMetH_plain _ _ _ (by kernel_rfl)]at h
 obtain⟨ps,⟨g0,t0,cs0,f0,p0,q0,hg0,ht0,hv0,hd0,⟨g1,t1,cs1,f1,p1,q1,hg1,ht1,hv1,hd1,⟨g2,t2,cs2,f2,p2,q2,hg2,ht2,hv2,hd2,⟨g3,t3,cs3,f3,p3,q3,hg3,ht3,hv3,hd3,_,_⟩,_⟩,_⟩,_⟩,_,_⟩:=h
 have x_pow:∀A:Nat→Prop,0<W.heap.size∧∃us e fz,W.heap[0]?=some (.cells us e fz)∧us.size=((Lib.pow10Tab).map fun z=>PV.int .u64 z).length∧∀(i:Nat) (c:PV),((Lib.pow10Tab).map fun z=>PV.int .u64 z)[i]?=some c→RepI A W c (us.getD i undef):=fun A=>by
  have eg : Tryz.prog.globalNamed "internal/strconv.uint64pow10" = some 0 := by kernel_rfl
  have et:(Tryz.prog.globals[0]?).map (·.type)=some 409:=by kernel_rfl
  obtain rfl:=Option.some.inj (eg.symm.trans hg2)
  obtain rfl:=Option.some.inj (et.symm.trans ht2)
  have ed:(Rows.laid_internal_strconv_uint64pow10:DataW Unit)=Lib.tabData .u64 (Lib.pow10Tab):=by kernel_rfl
  have hd':=hd2
  rw[ed]at hd'
  exact qml A eg hv2 (Lib.cells_of_tab Tryz.underlying409 Tryz.underlying340 (by kernel_rfl) (by kernel_rfl) hd')
 have x_sine:∀A:Nat→Prop,2<W.heap.size∧∃us e fz,W.heap[2]?=some (.cells us e fz)∧us.size=((sineL).map fun z=>PV.int .i64 z).length∧∀(i:Nat) (c:PV),((sineL).map fun z=>PV.int .i64 z)[i]?=some c→RepI A W c (us.getD i undef):=fun A=>by
  have eg : Tryz.prog.globalNamed "loop.example/g00952/impl.roundSines" = some 2 := by kernel_rfl
  have et:(Tryz.prog.globals[2]?).map (·.type)=some 449:=by kernel_rfl
  obtain rfl:=Option.some.inj (eg.symm.trans hg3)
  obtain rfl:=Option.some.inj (et.symm.trans ht3)
  have ed:(Rows.laid_loop_example_g00952_impl_roundSines:DataW Unit)=Lib.tabData .i64 (sineL):=by kernel_rfl
  have hd':=hd3
  rw[ed]at hd'
  exact qml A eg hv3 (Lib.cells_of_tab Tryz.underlying449 Tryz.underlying2 (by kernel_rfl) (by kernel_rfl) hd')
 refine⟨fun _ h=>h,fun g c hm =>?_,fun g cs hm =>?_⟩
 ·exact (List.not_mem_nil hm).elim
 simp only[tabs,List.mem_cons,List.not_mem_nil,or_false,Prod.mk.injEq]at hm
 rcases hm with ⟨rfl,rfl⟩ | ⟨rfl,rfl⟩
 ·exact x_pow _
 ·exact x_sine _
set_option maxRecDepth 100000 in
theorem FnExactDeskReport_lifted (os:Os) (started:os.Started) (H:Type) (enc:TypeId×Value→H) :
  ReturnsInHanded {} Tryz.checked os 3 .any (fun w args=>(Rows.fnExactDeskReportSpec.pre enc Tryz.prog Tryz.f3 [] false w args∧laidMetH Tryz.prog Rows.fnExactDeskReportRow.laid w)∧sizedMet enc Tryz.prog Tryz.f3 (OpenSpec.ofChange Rows.fnExactDeskReportSpec) false w args)
   (Rows.fnExactDeskReportSpec.post enc Tryz.prog Tryz.f3 false true false false):=by
 refine quh (C:=Tryz.checked) (X:=fun w _=>laidMetH Tryz.prog Rows.fnExactDeskReportRow.laid w) (fun _ _ _ hh h=>h.of_heap hh) FnExactDeskReport_own started (by kernel_rfl) Tryz.func3
  (ChangeSpec.witness_shaped (enc:=enc) (C:=Tryz.checked) (os:=os) (X:=fun w _=>laidMetH Tryz.prog Rows.fnExactDeskReportRow.laid w) false (World.doorLaid Tryz.prog 29 os) #[.agg #[.slice none 0 0, .slice none 0 0, .slice none 0 0, .slice none 0 0, .int .i64 0, .int .i64 0, .int .i64 0, .slice none 0 0, .int .i64 0, .string (ByteArray.mk #[]), .int .i64 0, .int .i64 0, .int .i64 0, .int .i64 0, .slice none 0 0, .int .i64 0, .int .i64 0, .slice none 0 0, .string (ByteArray.mk #[]), .slice none 0 0, .slice none 0 0, .slice none 0 0]] 8 rfl (World.shaped_of_RefB (by kernel_rfl) (by kernel_rfl)) (by kernel_rfl) (by kernel_rfl) (by kernel_rfl) (FnExactDeskReport_met os _)) ?_
 intro W base args ds gs before hval hW hL hS
 exact quj (c:=Tryz.f3.body.getD .skip) (tb:=4) Tryz.func3 (by kernel_rfl) rfl (by kernel_rfl) (fun ds gs h hg=>match ds,gs,h,hg with | [d0],[g0],_,_=>rfl) FnExactDeskReport_laidOut (by kernel_rfl) rfl (by kernel_rfl) (xs:=[.agg [.slc [.str, .int .i64, .int .i64, .int .i64, .int .i64], .slc [.str, .slc [.str], .int .i64], .slc [.str, .int .i64, .int .i64, .int .i64, .slc [.str, .int .i64]], .slc [.str, .int .i64, .int .i64, .int .i64, .int .i64], .int .i64, .int .i64, .int .i64, .slc [.str, .int .i64, .int .i64, .int .i64, .int .i64], .int .i64, .str, .int .i64, .int .i64, .int .i64, .int .i64, .slc [.str, .int .i64, .int .i64, .int .i64, .int .i64, .slc [.int .i64, .int .i64]], .int .i64, .int .i64, .slc [.int .i64, .slc [.int .i64, .int .i64], .int .i64, .int .i64], .str, .slc [.int .i64, .int .i64, .int .i64], .slc [.str, .int .i64, .int .i64, .int .i64, .int .i64], .slc [.int .i64, .str, .str]]]) (by kernel_rfl) qug W (FnExactDeskReport_aok hL hS) base args ds gs before hval hW
theorem FnExactDeskReport_j1:(Rows.fnExactDeskReportRow.wf (OpenSpec.ofChange Rows.fnExactDeskReportSpec)&&laidOutB Tryz.prog&&mapsRowed Tryz.prog&&Tryz.f3.params.all (Tryz.prog.readableRec ·)&&namedTie Tryz.prog Rows.fnExactDeskReportRow.named Rows.fnExactDeskReportSpec.vars&&(Rows.fnExactDeskReportRow.stops == [])&&(Tryz.prog.stops == [])&&(Rows.fnExactDeskReportRow.knobs == [])&&(Tryz.prog.stopKnobs == []))=true:=by kernel_rfl
theorem FnExactDeskReport_j2:(Rows.fnExactDeskReportRow.inPlace==Tryz.prog.inPlace 3)=true:=by kernel_rfl
theorem FnExactDeskReport_j3:(Rows.fnExactDeskReportRow.unfollowed==Tryz.prog.unfollowed 3)=true:=by kernel_rfl
theorem FnExactDeskReport_j4:(Rows.fnExactDeskReportRow.recurses==Tryz.prog.recurses 3)=true:=by kernel_rfl
theorem FnExactDeskReport_j5:(Rows.fnExactDeskReportRow.named==Tryz.prog.varsNamed 3)=true:=by kernel_rfl
theorem FnExactDeskReport_j6:((Rows.fnExactDeskReportRow.maps==(Tryz.f3.params.toList++Rows.fnExactDeskReportSpec.plain.varTypes Tryz.prog).any (Tryz.prog.mapsRec ·))&&(Rows.fnExactDeskReportRow.ifaces==(Tryz.f3.params.toList++Rows.fnExactDeskReportSpec.plain.varTypes Tryz.prog).any (Tryz.prog.ifacesRec ·))&&(Rows.fnExactDeskReportRow.mapsOut==Tryz.prog.mapsAmong Tryz.f3.resultTypes.toList)&&(Rows.fnExactDeskReportRow.loops==(Tryz.f3.params.toList++Rows.fnExactDeskReportSpec.plain.varTypes Tryz.prog).any (Tryz.prog.loopsFrom ·))&&(Rows.fnExactDeskReportRow.wideKeys==(Tryz.f3.params.toList++Rows.fnExactDeskReportSpec.plain.varTypes Tryz.prog++Tryz.f3.resultTypes.toList).any (Tryz.prog.wideKeysFrom ·))&&Rows.fnExactDeskReportSpec.vars.all (Tryz.prog.varReadable ·)&&Tryz.f3.resultTypes.all (fun t=>Tryz.prog.readableRec t&&decide (t<Tryz.prog.types.size))&&(Rows.fnExactDeskReportRow.ifacesOut==Tryz.f3.resultTypes.toList.any (Tryz.prog.ifacesRec ·))&&(Rows.fnExactDeskReportRow.loopsOut==Tryz.f3.resultTypes.toList.any (Tryz.prog.loopsFrom ·)))=true:=by kernel_rfl
theorem FnExactDeskReport_j7:((Rows.fnExactDeskReportRow.plainKeys==Tryz.prog.plainKeys)&&Rows.fnExactDeskReportRow.shortTexts.isNone&&Tryz.prog.stopsHeard)=true:=by kernel_rfl
theorem FnExactDeskReport_j8:Tryz.prog.mayEnter=true:=by kernel_rfl
theorem FnExactDeskReport_j9:((Rows.fnExactDeskReportRow.lifted==Tryz.prog.liftsFinal)&&(Tryz.prog.make==some Rows.fnExactDeskReportRow.make)&&(Rows.fnExactDeskReportRow.kinds==(if Rows.fnExactDeskReportRow.domain.isEmpty then [] else jKinds Tryz.prog Tryz.f3))&&(Rows.fnExactDeskReportRow.pinned==Rows.fnExactDeskReportRow.pinnedBy))=true:=by kernel_rfl
theorem FnExactDeskReport_j10:((Rows.fnExactDeskReportRow.veiled==(Tryz.f3.params.toList++Rows.fnExactDeskReportSpec.plain.varTypes Tryz.prog++Tryz.f3.resultTypes.toList).any (Tryz.prog.veiledRec ·))&&Rows.fnExactDeskReportRow.veiledFits Tryz.prog Tryz.f3.params.toList (Tryz.f3.params.toList++Rows.fnExactDeskReportSpec.plain.varTypes Tryz.prog++Tryz.f3.resultTypes.toList))=true:=by kernel_rfl
theorem FnExactDeskReport_jn:Tryz.prog.funcNamed Rows.fnExactDeskReportRow.func=some 3:=by kernel_rfl
theorem FnExactDeskReport_row:Rows.FnExactDeskReportSaid :=
 OpenClaim.holds_of_wide 3 Tryz.f3 rfl rfl rfl rfl rfl rfl rfl ⟨rfl,rfl,rfl,rfl,rfl⟩ rfl rfl rfl rfl rfl FnExactDeskReport_jn Tryz.func3 (joinedFacts_parts FnExactDeskReport_j1 FnExactDeskReport_j2 FnExactDeskReport_j3 FnExactDeskReport_j4 FnExactDeskReport_j5 FnExactDeskReport_j6 FnExactDeskReport_j7 FnExactDeskReport_j8 FnExactDeskReport_j9 FnExactDeskReport_j10)
  (of_decide_eq_true (by kernel_rfl)) (by unfold Func.isWrapper; first | (rw[if_pos (by decide +kernel)]; kernel_rfl) | (rw[if_neg (by decide +kernel)]; exact⟨rfl,rfl⟩))
  (fun os started H enc _=>FnExactDeskReport_lifted os started H enc)
end Go.Proofs.YteckngloamnfdaaGreatDoor
