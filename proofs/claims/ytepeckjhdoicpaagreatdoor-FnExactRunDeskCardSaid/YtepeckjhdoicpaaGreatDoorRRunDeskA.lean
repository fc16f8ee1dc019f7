/- For every input the laws FnExactRunDesk return true, and each argument reads as before, whatever the heap where the listed variables hold what the program lays; the listing is tied to the text. No further condition. -/
import Derived.Test.YtepeckjhdoicpaaGreatDoorG50
import Derived.Test.YtepeckjhdoicpaaGreatDoorG8
import Derived.Test.YtepeckjhdoicpaaGreatDoorCards
import Derived.ProofKit
import Derived.OpenShut
import Derived.Stop.Joined
import Derived.SevenTiedAt
import Derived.JoinedOf
set_option linter.all false
namespace Go.Proofs.YtepeckjhdoicpaaGreatDoor
open Go Go.Ab
open Go.ChangeShapes Go.WideShapes Go.ChangeAt Go.RowKit
instance:Go.Ab.bI:=⟨false⟩
instance:Go.Ab.dj:=⟨rfl⟩
def jKinds (P:Program) (fn:Func):List (Option IntKind):=fn.params.toList.map fun t=>match P.underlying t with | some (.int k)=>some k | _=>none
theorem joinedFacts_parts {P:Program} {f:FuncId} {fn:Func} {s:ChangeSpec} {c:OpenClaim}
  (h1:(c.wf (OpenSpec.ofChange s)&&laidOutB P&&mapsRowed P&&fn.params.all (P.readableRec ·)&&namedTie P c.named s.vars&&(c.stops == [])&&(P.stops == [])&&(c.knobs == [])&&(P.stopKnobs == []))=true)
  (h2:(c.inPlace==P.inPlace f)=true) (h3:(c.unfollowed==P.unfollowed f)=true) (h4Z:(c.recurses==P.recurses f)=true) (h5Z:(c.named==P.varsNamed f)=true)
  (h6:((c.maps==(fn.params.toList++s.plain.varTypes P).any (P.mapsRec ·))&&(c.ifaces==(fn.params.toList++s.plain.varTypes P).any (P.ifacesRec ·))&&(c.mapsOut==P.mapsAmong fn.resultTypes.toList)&&(c.loops==(fn.params.toList++s.plain.varTypes P).any (P.loopsFrom ·))&&(c.wideKeys==(fn.params.toList++s.plain.varTypes P++fn.resultTypes.toList).any (P.wideKeysFrom ·))&&s.vars.all (P.varReadable ·)&&fn.resultTypes.all (fun t=>P.readableRec t&&decide (t<P.types.size))&&(c.ifacesOut==fn.resultTypes.toList.any (P.ifacesRec ·))&&(c.loopsOut==fn.resultTypes.toList.any (P.loopsFrom ·)))=true)
  (h7:((c.plainKeys==P.plainKeys)&&c.shortTexts.isNone&&P.stopsHeard)=true) (h8:P.mayEnter=true)
  (h9Z:((c.lifted==P.liftsFinal)&&(P.make==some c.make)&&(c.kinds==(if c.domain.isEmpty then [] else jKinds P fn))&&(c.pinned==c.pinnedBy))=true)
  (h10:((c.veiled==(fn.params.toList++s.plain.varTypes P++fn.resultTypes.toList).any (P.veiledRec ·))&&c.veiledFits P fn.params.toList (fn.params.toList++s.plain.varTypes P++fn.resultTypes.toList))=true):joinedFacts P f fn s c=true:=by
 simp only[Bool.and_eq_true]at h1 h6 h7 h9Z h10
 simp only[joinedFacts,Bool.and_eq_true]
 exact⟨⟨⟨⟨⟨⟨⟨⟨⟨⟨⟨⟨⟨⟨⟨⟨⟨⟨⟨⟨⟨⟨⟨⟨⟨⟨⟨⟨⟨⟨⟨h1.1.1.1.1.1.1.1.1,h1.1.1.1.1.1.1.1.2⟩,h1.1.1.1.1.1.1.2⟩,h1.1.1.1.1.1.2⟩,h1.1.1.1.1.2⟩,h1.1.1.1.2⟩,h1.1.1.2⟩,h1.1.2⟩,h1.2⟩,h2⟩,h3⟩,h4Z⟩,h5Z⟩,h6.1.1.1.1.1.1.1.1⟩,h6.1.1.1.1.1.1.1.2⟩,h6.1.1.1.1.1.1.2⟩,h6.1.1.1.1.1.2⟩,h6.1.1.1.1.2⟩,h6.1.1.1.2⟩,h6.1.1.2⟩,h6.1.2⟩,h6.2⟩,h7.1.1⟩,h7.1.2⟩,h7.2⟩,h8⟩,h9Z.1.1.1⟩,h9Z.1.1.2⟩,h9Z.1.2⟩,h9Z.2⟩,h10.1⟩,h10.2⟩
theorem FnExactRunDesk_own:ownKnob Tryz.prog.godebug=none:=by kernel_rfl
theorem FnExactRunDesk_laidOut:laidOutB Tryz.prog=true:=by kernel_rfl
theorem FnExactRunDesk_met (os:Os) (args:Array Value):laidMetH Tryz.prog Rows.fnExactRunDeskRow.laid ((World.laidAll Tryz.prog os Rows.fnExactRunDeskRow.laid).forCall (fun _ _=>0) ⟨#[],args,[]⟩).memory :=
 by rw[MakeChecks.laidMetH_plain _ _ _ (by kernel_rfl)]; exact laidMet_laidAll _ (by kernel_rfl) (by kernel_rfl)
theorem FnExactRunDesk_aok {W:World} (h:laidMetH Tryz.prog Rows.fnExactRunDeskRow.laid W) (hs:W.ShapedOpen Tryz.prog):sC (fun b=>b<W.heap.size) W:=by
 rw[MakeChecks.laidMetH_plain _ _ _ (by kernel_rfl)]at h
 obtain⟨ps,⟨g0,t0,cs0,f0,p0Z,q0Z,hg0,ht0,hv0,hd0,⟨g1,t1,cs1,f1,p1,q1,hg1,ht1,hv1,hd1,⟨g2,t2,cs2,f2,p2,q2,hg2,ht2,hv2,hd2,⟨g3,t3,cs3,f3,p3Z,q3,hg3,ht3,hv3,hd3,⟨g4,t4,cs4,f4,p4Z,q4,hg4,ht4,hv4,hd4,⟨g5,t5,cs5,f5,p5,q5,hg5,ht5,hv5,hd5,⟨g6,t6,cs6,f6,p6Z,q6Z,hg6,ht6,hv6,hd6,⟨g7,t7,cs7,f7,p7Z,q7Z,hg7,ht7,hv7,hd7,_,_⟩,_⟩,_⟩,_⟩,_⟩,_⟩,_⟩,_⟩,_,_⟩:=h
 have x_pow:∀A:Nat→Prop,5<W.heap.size∧∃us e fz,W.heap[5]?=some (.cells us e fz)∧us.size=((Lib.pow10Tab).map fun z=>PV.int .u64 z).length∧∀(i:Nat) (c:PV),((Lib.pow10Tab).map fun z=>PV.int .u64 z)[i]?=some c→dC A W c (us.getD i undef):=fun A=>by
  have egZ : Tryz.prog.globalNamed "internal/strconv.uint64pow10" = some 5 := by kernel_rfl
  have etZ:(Tryz.prog.globals[5]?).map (·.type)=some 536:=by kernel_rfl
  obtain rfl:=Option.some.inj (egZ.symm.trans hg4)
  obtain rfl:=Option.some.inj (etZ.symm.trans ht4)
  have edZ:(Rows.laid_internal_strconv_uint64pow10:DataW Unit)=Lib.tabData .u64 (Lib.pow10Tab):=by kernel_rfl
  have hd':=hd4
  rw[edZ]at hd'
  exact auB A egZ hv4 (Lib.cells_of_tab Tryz.underlying536 Tryz.underlying435 (by kernel_rfl) (by kernel_rfl) hd')
 have x_sine:∀A:Nat→Prop,8<W.heap.size∧∃us e fz,W.heap[8]?=some (.cells us e fz)∧us.size=((AP).map fun z=>PV.int .i64 z).length∧∀(i:Nat) (c:PV),((AP).map fun z=>PV.int .i64 z)[i]?=some c→dC A W c (us.getD i undef):=fun A=>by
  have egZ : Tryz.prog.globalNamed "loop.example/g00952/impl.roundSines" = some 8 := by kernel_rfl
  have etZ:(Tryz.prog.globals[8]?).map (·.type)=some 587:=by kernel_rfl
  obtain rfl:=Option.some.inj (egZ.symm.trans hg7)
  obtain rfl:=Option.some.inj (etZ.symm.trans ht7)
  have edZ:(Rows.laid_loop_example_g00952_impl_roundSines:DataW Unit)=Lib.tabData .i64 (AP):=by kernel_rfl
  have hd':=hd7
  rw[edZ]at hd'
  exact auB A egZ hv7 (Lib.cells_of_tab Tryz.underlying587 Tryz.underlying2 (by kernel_rfl) (by kernel_rfl) hd')
 have y_max:=aso (W:=W) (Go.Proofs.cell_of_shapedOpen_int (zero := #[.int .i64 0]) (t:=3) (g:=0) hs (of_decide_eq_true (by kernel_rfl)) (by kernel_rfl) rfl (by kernel_rfl) (by kernel_rfl) Tryz.underlying3)
 have y_syn:3<W.heap.size∧∃us e fz v,W.heap[3]?=some (.cells us e fz)∧us[0]?=some v∧(1=0→∃m,v = .int .i64 m)∧(1=1→∃t p,v = .iface t p):=by
  have egZ : Tryz.prog.globalNamed "strconv.ErrSyntax" = some 3 := by kernel_rfl
  have etZ:(Tryz.prog.globals[3]?).map (·.type)=some 60:=by kernel_rfl
  obtain rfl:=Option.some.inj (egZ.symm.trans hg2)
  obtain rfl:=Option.some.inj (etZ.symm.trans ht2)
  exact auE egZ hv2 (ar5 Tryz.underlying60 hd2)
 have y_ran:4<W.heap.size∧∃us e fz v,W.heap[4]?=some (.cells us e fz)∧us[0]?=some v∧(1=0→∃m,v = .int .i64 m)∧(1=1→∃t p,v = .iface t p):=by
  have egZ : Tryz.prog.globalNamed "strconv.ErrRange" = some 4 := by kernel_rfl
  have etZ:(Tryz.prog.globals[4]?).map (·.type)=some 60:=by kernel_rfl
  obtain rfl:=Option.some.inj (egZ.symm.trans hg3)
  obtain rfl:=Option.some.inj (etZ.symm.trans ht3)
  exact auE egZ hv3 (ar5 Tryz.underlying60 hd3)
 refine⟨fun _ h=>h,fun g c hm =>?_,fun g cs hm =>?_⟩
 ·simp only[Vj,List.mem_cons,List.not_mem_nil,or_false,Prod.mk.injEq]at hm
  rcases hm with ⟨rfl,rfl⟩ | ⟨rfl,rfl⟩ | ⟨rfl,rfl⟩
  ·exact y_max
  ·exact y_syn
  ·exact y_ran
 simp only[Xf,List.mem_cons,List.not_mem_nil,or_false,Prod.mk.injEq]at hm
 rcases hm with ⟨rfl,rfl⟩ | ⟨rfl,rfl⟩
 ·exact x_pow _
 ·exact x_sine _
set_option maxRecDepth 100000 in
theorem FnExactRunDesk_lifted (os:Os) (started:os.Started) (H:Type) (enc:TypeId×Value→H) :
  ReturnsInHanded {} Tryz.checked os 3 .any (fun w args=>(Rows.fnExactRunDeskSpec.pre enc Tryz.prog Tryz.f3 [] false w args∧laidMetH Tryz.prog Rows.fnExactRunDeskRow.laid w)∧sizedMet enc Tryz.prog Tryz.f3 (OpenSpec.ofChange Rows.fnExactRunDeskSpec) false w args)
   (Rows.fnExactRunDeskSpec.post enc Tryz.prog Tryz.f3 false true false false):=by
 refine adV (C:=Tryz.checked) (X:=fun w _=>laidMetH Tryz.prog Rows.fnExactRunDeskRow.laid w) (fun _ _ _ hh h=>h.of_heap hh) FnExactRunDesk_own started (by kernel_rfl) Tryz.func3
  (ChangeSpec.witness_shaped (enc:=enc) (C:=Tryz.checked) (os:=os) (X:=fun w _=>laidMetH Tryz.prog Rows.fnExactRunDeskRow.laid w) false (World.laidAll Tryz.prog os Rows.fnExactRunDeskRow.laid) #[.string (ByteArray.mk #[])] 8 (World.laidAll_os _ _ _) (World.shaped_of_ZipB (by kernel_rfl) (by kernel_rfl)) (by kernel_rfl) (by kernel_rfl) (by kernel_rfl) (FnExactRunDesk_met os _)) ?_
 intro W base args ds gs before hval hWZ hL hS
 exact agT (c:=Tryz.f3.body.getD .skip) (x:=4) Tryz.func3 (by kernel_rfl) rfl (by kernel_rfl) (fun ds gs h hg=>match ds,gs,h,hg with | [d0],[g0],_,_=>rfl) FnExactRunDesk_laidOut (by kernel_rfl) rfl (by kernel_rfl) (xs:=[.one (.str)]) (by kernel_rfl) afo W (FnExactRunDesk_aok hL hS) base args ds gs before hval hWZ
noncomputable def rowB (P:Program):Nat→List FuncId→List FuncId→Nat→List FuncId
 | 0,_,seen,_=>seen.reverse
 | _+1,[],seen,_=>seen.reverse
 | n+1,f::todo,seen,b=>bif b.testBit f then rowB P n todo seen b else rowB P n ((P.funcs[f]?).elim [] P.leadsTo++todo) (f::seen) (b ||| 1 <<< f)
theorem rowB_eq (P:Program):∀(n:Nat) (todo seen:List FuncId) (b:Nat),(∀g,b.testBit g=seen.contains g)→P.closureVia n todo seen=rowB P n todo seen b
 | 0,todo,seen,b,_=>by cases todo<;>simp[rowB,Program.closureVia]
 | n+1,[],seen,b,_=>by simp[rowB,Program.closureVia]
 | n+1,f::todo,seen,b,h=>by
  rw[Program.closureVia,rowB,h f]
  cases hc:seen.contains f with
  | true=>simp only[if_true,cond_true]; exact rowB_eq P n todo seen b h
  | false =>
   simp only[cond_false,Bool.false_eq_true,if_false]
   refine rowB_eq P n _ _ _ fun g =>?_
   rw[Nat.testBit_or,h g,Nat.one_shiftLeft,Nat.testBit_two_pow,List.contains_cons]
   by_cases e:f=g
   ·subst e; simp
   ·have e2:¬g=f:=fun x=>e x.symm
    simp[e,e2]
theorem rowC (P:Program) (f:FuncId):P.closure f=rowB P (1+(P.funcs.toList.map fun g=>(P.leadsTo g).length+1).sum) [f] [] 0:=rowB_eq P _ _ _ _ fun g=>by simp
theorem FnExactRunDesk_j1:(Rows.fnExactRunDeskRow.wf (OpenSpec.ofChange Rows.fnExactRunDeskSpec)&&laidOutB Tryz.prog&&mapsRowed Tryz.prog&&Tryz.f3.params.all (Tryz.prog.readableRec ·)&&namedTie Tryz.prog Rows.fnExactRunDeskRow.named Rows.fnExactRunDeskSpec.vars&&(Rows.fnExactRunDeskRow.stops == [])&&(Tryz.prog.stops == [])&&(Rows.fnExactRunDeskRow.knobs == [])&&(Tryz.prog.stopKnobs == []))=true:=by kernel_rfl
theorem FnExactRunDesk_j2:(Rows.fnExactRunDeskRow.inPlace==Tryz.prog.inPlace 3)=true:=by
 unfold Program.inPlace
 rw[rowC]
 kernel_rfl
theorem FnExactRunDesk_j3:(Rows.fnExactRunDeskRow.unfollowed==Tryz.prog.unfollowed 3)=true:=by
 unfold Program.unfollowed
 rw[rowC]
 kernel_rfl
theorem FnExactRunDesk_j4:(Rows.fnExactRunDeskRow.recurses==Tryz.prog.recurses 3)=true:=by
 unfold Program.recurses Program.unfollowed
 rw[rowC]
 kernel_rfl
theorem FnExactRunDesk_j5:(Rows.fnExactRunDeskRow.named==Tryz.prog.varsNamed 3)=true:=by
 unfold Program.varsNamed
 rw[rowC]
 kernel_rfl
theorem FnExactRunDesk_j6:((Rows.fnExactRunDeskRow.maps==(Tryz.f3.params.toList++Rows.fnExactRunDeskSpec.plain.varTypes Tryz.prog).any (Tryz.prog.mapsRec ·))&&(Rows.fnExactRunDeskRow.ifaces==(Tryz.f3.params.toList++Rows.fnExactRunDeskSpec.plain.varTypes Tryz.prog).any (Tryz.prog.ifacesRec ·))&&(Rows.fnExactRunDeskRow.mapsOut==Tryz.prog.mapsAmong Tryz.f3.resultTypes.toList)&&(Rows.fnExactRunDeskRow.loops==(Tryz.f3.params.toList++Rows.fnExactRunDeskSpec.plain.varTypes Tryz.prog).any (Tryz.prog.loopsFrom ·))&&(Rows.fnExactRunDeskRow.wideKeys==(Tryz.f3.params.toList++Rows.fnExactRunDeskSpec.plain.varTypes Tryz.prog++Tryz.f3.resultTypes.toList).any (Tryz.prog.wideKeysFrom ·))&&Rows.fnExactRunDeskSpec.vars.all (Tryz.prog.varReadable ·)&&Tryz.f3.resultTypes.all (fun t=>Tryz.prog.readableRec t&&decide (t<Tryz.prog.types.size))&&(Rows.fnExactRunDeskRow.ifacesOut==Tryz.f3.resultTypes.toList.any (Tryz.prog.ifacesRec ·))&&(Rows.fnExactRunDeskRow.loopsOut==Tryz.f3.resultTypes.toList.any (Tryz.prog.loopsFrom ·)))=true:=by kernel_rfl
theorem FnExactRunDesk_j7:((Rows.fnExactRunDeskRow.plainKeys==Tryz.prog.plainKeys)&&Rows.fnExactRunDeskRow.shortTexts.isNone&&Tryz.prog.stopsHeard)=true:=by kernel_rfl
theorem FnExactRunDesk_j8:Tryz.prog.mayEnter=true:=by kernel_rfl
theorem FnExactRunDesk_j9:((Rows.fnExactRunDeskRow.lifted==Tryz.prog.liftsFinal)&&(Tryz.prog.make==some Rows.fnExactRunDeskRow.make)&&(Rows.fnExactRunDeskRow.kinds==(if Rows.fnExactRunDeskRow.domain.isEmpty then [] else jKinds Tryz.prog Tryz.f3))&&(Rows.fnExactRunDeskRow.pinned==Rows.fnExactRunDeskRow.pinnedBy))=true:=by kernel_rfl
theorem FnExactRunDesk_j10:((Rows.fnExactRunDeskRow.veiled==(Tryz.f3.params.toList++Rows.fnExactRunDeskSpec.plain.varTypes Tryz.prog++Tryz.f3.resultTypes.toList).any (Tryz.prog.veiledRec ·))&&Rows.fnExactRunDeskRow.veiledFits Tryz.prog Tryz.f3.params.toList (Tryz.f3.params.toList++Rows.fnExactRunDeskSpec.plain.varTypes Tryz.prog++Tryz.f3.resultTypes.toList))=true:=by kernel_rfl
theorem FnExactRunDesk_jn:Tryz.prog.funcNamed Rows.fnExactRunDeskRow.func=some 3:=by kernel_rfl
theorem FnExactRunDesk_row:Rows.FnExactRunDeskSaid :=
 OpenClaim.holds_of_wide 3 Tryz.f3 rfl rfl rfl rfl rfl rfl rfl ⟨rfl,rfl,rfl,rfl,rfl⟩ rfl rfl rfl rfl rfl FnExactRunDesk_jn Tryz.func3 (joinedFacts_parts FnExactRunDesk_j1 FnExactRunDesk_j2 FnExactRunDesk_j3 FnExactRunDesk_j4 FnExactRunDesk_j5 FnExactRunDesk_j6 FnExactRunDesk_j7 FnExactRunDesk_j8 FnExactRunDesk_j9 FnExactRunDesk_j10)
  (of_decide_eq_true (by kernel_rfl)) (by unfold Func.isWrapper; first | (rw[if_pos (by decide +kernel)]; kernel_rfl) | (rw[if_neg (by decide +kernel)]; exact⟨rfl,rfl⟩))
  (fun os started H enc _=>FnExactRunDesk_lifted os started H enc)
end Go.Proofs.YtepeckjhdoicpaaGreatDoor
