/- For every input the laws FnExactDeskReport return true, and each argument reads as before, whatever the heap where the listed variables hold what the program lays; the listing is tied to the text. No further condition. -/
import Derived.Test.YteckngloamnfdaaGreatDoorRDeskReportA
import Derived.Test.YteckngloamnfdaaGreatDoorCards
import Derived.Test.YteckngloamnfdaaGreatDoorTie
import Derived.ProofKit
import Derived.OpenShut
import Derived.Stop.Joined
import Derived.SevenTiedAt
import Derived.JoinedOf
namespace Go.Proofs.YteckngloamnfdaaGreatDoor
open Go Go.Ab
open Go.ChangeShapes Go.WideShapes Go.ChangeAt Go.RowKit
theorem FnExactDeskReport_t1:Rows.fnExactDeskReportRow.wfByText (OpenSpec.ofChange Rows.fnExactDeskReportSpec)=true:=by kernel_rfl
theorem FnExactDeskReport_t2 : Tryz.prog.mainIs = some (true, ("3a4c1285bcd9a152471196397c1a6a60dbee9d4d678e120bbfbdbb90418d4c8a").toList) := by kernel_rfl
theorem FnExactDeskReport_t3:false=Tryz.prog.looks []:=by kernel_rfl
theorem goes_none {P:Program} (h:P.funcs.toList.any Func.goes=false) (f:FuncId):P.goes f=false:=by
 rw[List.any_eq_false] at h
 have h2:∀fn∈P.funcs,fn.goes=false:=fun fn hf=>by simpa using h fn (Array.mem_toList_iff.2 hf)
 unfold Program.goes
 rw[Bool.or_eq_false_iff,List.any_eq_false]
 refine⟨fun g _=>?_,?_⟩
 ·cases e:P.funcs[g]? with
  | none=>simp
  | some fn=>simp[h2 fn (Array.mem_of_getElem? e)]
 ·rw[Bool.and_eq_false_iff]
  right
  rw[Array.any_eq_false']
  exact fun fn hf=>by simp[h2 fn hf]
theorem goesBy_none {P:Program} (h:P.funcs.toList.any Func.goes=false) (c:OpenClaim):false=c.goesBy P:=by
 have h1:P.goes=fun _=>false:=funext fun f=>goes_none h f
 unfold OpenClaim.goesBy Program.goesAt Program.goesFrom
 rw[h1]
 have h2:∀o:Option FuncId,(o.any fun _=>false)=false:=fun o=>by cases o<;>rfl
 rw[h2]
 cases c.start<;>simp
theorem FnExactDeskReport_g0:Tryz.prog.funcs.toList.any Func.goes=false:=by kernel_rfl
theorem FnExactDeskReport_t4:false=Rows.fnExactDeskReportRow.goesBy Tryz.prog:=goesBy_none FnExactDeskReport_g0 _
theorem FnExactDeskReport_t5:([41].all fun u => !Tryz.prog.wantsStandIn u)=true:=by kernel_rfl
theorem FnExactDeskReport_t6 : Tryz.prog.funcNamed "loop.example/g00952/laws.FnExactDeskReport" = some 3 := by kernel_rfl
theorem FnExactDeskReport_holds:Rows.FnExactDeskReportCardSaid :=
 Claim7.holds_tied_plain_at .later [] [.data, .data, .data, .data] true (true, "3a4c1285bcd9a152471196397c1a6a60dbee9d4d678e120bbfbdbb90418d4c8a") false
  FnExactDeskReport_row (fun _ h=>by cases h) FnExactDeskReport_t1 (fun _ h=>by cases h) fnExactDeskReport_row_tie rfl ⟨rfl,rfl⟩ FnExactDeskReport_t2 rfl
  (fun f fn hf hfn=>by
   obtain rfl:f=3:=Option.some.inj (FnExactDeskReport_t6.symm.trans hf) |>.symm
   obtain rfl:fn=Tryz.f3:=(Option.some.inj (Tryz.func3.symm.trans hfn)).symm
   exact⟨FnExactDeskReport_t3,fun j t ht=>by
    rw[show Tryz.f3.params = #[41] from rfl]at ht
    have hm:t ∈ [41]:=by simpa using Array.mem_of_getElem? ht
    have hall:=FnExactDeskReport_t5
    exact (show Tryz.prog.wantsStandIn t=false by simpa using List.all_eq_true.1 hall t hm)⟩)
  FnExactDeskReport_t4
end Go.Proofs.YteckngloamnfdaaGreatDoor
