/- For every input the laws FnExactRunDesk return true, and each argument reads as before, whatever the heap where the listed variables hold what the program lays; the listing is tied to the text. No further condition. -/
import Derived.Test.YtepeckjhdoicpaaGreatDoorRRunDeskA
import Derived.Test.YtepeckjhdoicpaaGreatDoorCards
import Derived.Test.YtepeckjhdoicpaaGreatDoorG52
import Derived.ProofKit
import Derived.OpenShut
import Derived.Stop.Joined
import Derived.SevenTiedAt
import Derived.JoinedOf
set_option linter.all false
namespace Go.Proofs.YtepeckjhdoicpaaGreatDoor
open Go Go.Ab
open Go.ChangeShapes Go.WideShapes Go.ChangeAt Go.RowKit
theorem goes_none {P:Program} (h:P.funcs.toList.any Func.goes=false) (f:FuncId):P.goes f=false:=by
 rw[List.any_eq_false]at h
 have h2:∀fn∈P.funcs,fn.goes=false:=fun fn hf=>by simpa using h fn (Array.mem_toList_iff.2 hf)
 unfold Program.goes
 rw[Bool.or_eq_false_iff,List.any_eq_false]
 refine⟨fun g _ =>?_,?_⟩
 ·cases e:P.funcs[g]? with
  | none=>simp
  | some fn=>simp[h2 fn (Array.mem_of_getElem? e)]
 ·rw[Bool.and_eq_false_iff]
  right
  rw[Array.any_eq_false']
  exact fun fn hf=>by simp[h2 fn hf]
theorem goesBy_none {P:Program} (h:P.funcs.toList.any Func.goes=false) (c:OpenClaim):false=c.goesBy P:=by
 have h1:P.goes=fun _=>false:=funext fun f=>goes_none h f
 unfold OpenClaim.goesBy Program.goesAt Program.goesFrom
 rw[h1]
 have h2:∀o:Option FuncId,(o.any fun _=>false)=false:=fun o=>by cases o<;>rfl
 rw[h2]
 cases c.start<;>simp
theorem FnExactRunDesk_t1:Rows.fnExactRunDeskRow.wfByText (OpenSpec.ofChange Rows.fnExactRunDeskSpec)=true:=by kernel_rfl
theorem FnExactRunDesk_t2 : Tryz.prog.mainIs = some (true, ("71037cd52cadf1383a4541b4b3e4ac9d80cc304a87ded97a11feea1a8ee4d6b5").toList) := by kernel_rfl
theorem FnExactRunDesk_t3:true=Tryz.prog.looks []:=by kernel_rfl
theorem FnExactRunDesk_g0:Tryz.prog.funcs.toList.any Func.goes=false:=by kernel_rfl
theorem FnExactRunDesk_t4:false=Rows.fnExactRunDeskRow.goesBy Tryz.prog:=goesBy_none FnExactRunDesk_g0 _
theorem FnExactRunDesk_t5:([9].all fun u => !Tryz.prog.wantsStandIn u)=true:=by kernel_rfl
theorem FnExactRunDesk_t6 : Tryz.prog.funcNamed "loop.example/g00952/laws.FnExactRunDesk" = some 3 := by kernel_rfl
theorem FnExactRunDesk_holds:Rows.FnExactRunDeskCardSaid :=
 Claim7.holds_tied_plain_at .later [] [.pinned, .data, .sentinel, .sentinel, .data, .data, .data, .data] true (true, "71037cd52cadf1383a4541b4b3e4ac9d80cc304a87ded97a11feea1a8ee4d6b5") true
  FnExactRunDesk_row (fun _ h=>by cases h) FnExactRunDesk_t1 (fun _ h=>by cases h) fnExactRunDesk_row_tie rfl ⟨rfl,rfl⟩ FnExactRunDesk_t2 rfl
  (fun f fn hf hfn=>by
   obtain rfl:f=3:=Option.some.inj (FnExactRunDesk_t6.symm.trans hf) |>.symm
   obtain rfl:fn=Tryz.f3:=(Option.some.inj (Tryz.func3.symm.trans hfn)).symm
   exact⟨FnExactRunDesk_t3,fun j t ht=>by
    rw[show Tryz.f3.params = #[9] from rfl]at ht
    have hm:t ∈ [9]:=by simpa using Array.mem_of_getElem? ht
    have hall:=FnExactRunDesk_t5
    exact (show Tryz.prog.wantsStandIn t=false by simpa using List.all_eq_true.1 hall t hm)⟩)
  FnExactRunDesk_t4
end Go.Proofs.YtepeckjhdoicpaaGreatDoor
