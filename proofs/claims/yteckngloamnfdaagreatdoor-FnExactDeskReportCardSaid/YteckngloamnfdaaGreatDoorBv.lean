/- From what a row lists of package-level variables to what the walks lean on. No condition. A law whose statement names package-level variables: they read behind the call as before. No condition. -/
import Derived.Test.YteckngloamnfdaaGreatDoorAby
import Derived.Lib.LaidTab
import Derived.MakeChecks
import Derived.LaidMore
import Derived.LaidHandle
import Derived.HandedShaped
import Derived.Lay
import Derived.Shelf.Vars
import Derived.OpenVars
namespace Go.Ab
variable {P:Program} {W:World}
theorem qml {name:String} {g:Nat} {cs:Array Value} {zs:List Int} {k:IntKind} (A:Nat→Prop) (hg:P.globalNamed name=some g) (hv:W.var? P name=some cs) (hc:cs.toList=zs.map fun z=>Value.int k z) :
  g<W.heap.size∧∃us e fz,W.heap[g]?=some (.cells us e fz)∧us.size=(zs.map fun z=>PV.int k z).length∧∀(i:Nat) (c:PV),(zs.map fun z=>PV.int k z)[i]?=some c→RepI A W c (us.getD i undef):=by
 unfold World.var? at hv
 rw[hg,Option.bind_some]at hv
 split at hv
 ·rename_i us e fz hw
  obtain rfl:us=cs:=Option.some.inj hv
  refine⟨(Array.getElem?_eq_some_iff.1 hw).1,us,e,fz,hw,?_,fun i c hi =>?_⟩
  ·rw[List.length_map,←Array.length_toList,hc,List.length_map]
  ·rw[List.getElem?_map]at hi
   cases hz:zs[i]? with
   | none=>rw[hz]at hi; cases hi
   | some z =>
    rw[hz]at hi
    cases hi
    have:us.toList[i]?=some (.int k z):=by rw[hc,List.getElem?_map,hz]; rfl
    rw[Array.getElem?_toList]at this
    rw[Array.getD_eq_getD_getElem?,this]
    exact .int k z
 ·cases hv
theorem quh {H:Type} {enc:TypeId×Value→H} {a:Assume} {C:Checked} {os:Os} {f:FuncId} {fn:Func} {s:ChangeSpec} {conds:List PathCond} {apart fresh handsOn again:Bool} {X:World→Array Value→Prop}
  (hX:∀(w w':World) (args:Array Value),w.heap=w'.heap→X w args→X w' args)
  (own:ownKnob C.prog.godebug=none) (started:os.Started) (noInit:C.prog.inits.idxOf? f=none) (hfn:C.prog.funcs[f]?=some fn)
  (witness:∃(w:World) (tape:Tape) (i:Input),w.os=os∧(w.forCall tape i).Shaped C.prog∧i.vars=[]∧Input.okWide C.prog (w.forCall tape i) .any w.heap.size f i ∧
   ((s.pre enc C.prog fn conds apart (w.forCall tape i).memory i.args∧X (w.forCall tape i).memory i.args)∧sizedMet enc C.prog fn (OpenSpec.ofChange s) apart (w.forCall tape i).memory i.args)∧a.holds C.prog (lone (Frame.enter C.prog f i.args .normal) [] (w.forCall tape i)))
  (contract:∀(W:World) (base:Nat) (args:Array Value) (ds gs:List (DataW H)) (before:List MemPlace),
   (∀(j:Nat) t v,fn.params[j]?=some t→args[j]?=some v→Value.okWide C.prog W .any base t v) →
   DataW.Whole enc C.prog fn.params.toList s.vars apart W args.toList ds gs before→X W args→W.ShapedOpen C.prog →
   Calls C.prog f args W fun e W'=>∃v,e = .returned v∧s.post enc C.prog fn apart fresh handsOn again W args v W') :
  ReturnsInHanded a C os f .any (fun w args=>(s.pre enc C.prog fn conds apart w args∧X w args)∧sizedMet enc C.prog fn (OpenSpec.ofChange s) apart w args) (s.post enc C.prog fn apart fresh handsOn again):=by
 refine returnsInHanded_of_calls own started noInit witness ?_
 intro w tape i _ hsh _ hok hpre _
 obtain⟨_,_,_,fn',hfn',_,_,_,_,hval⟩:=hok
 have e:fn'=fn:=Option.some.inj (hfn'.symm.trans hfn)
 subst e
 obtain⟨⟨⟨ds,gs,before,hw,_⟩,hx⟩,_⟩:=hpre
 have hw':=DataW.Whole.of_heap (w':=w.forCall tape i) (by rfl) hw
 refine (contract (w.forCall tape i) w.heap.size i.args ds gs before hval hw' (hX _ _ _ (by rfl) hx) hsh).mono fun e W' ⟨v,he,hp⟩ =>?_
 subst he
 exact ChangeSpec.post_blind hp
end Go.Ab
namespace Go.Ab
open Go.ChangeShapes Go.WideShapes Go.ChangeAt Go.RowKit
theorem qmm {H:Type} {enc:TypeId×Value→H} {P:Program} {w:World} {sp:Nat→Bool}:∀ {ns:List String} {gs:List (DataW H)} {ps:List MemPlace},DataW.TrodVars enc P w sp ns gs ps→gs.length=ns.length
 | [],[],_,_=>rfl
 | [],_::_,_,h=>h.elim
 | _::_,[],_,h=>h.elim
 | n::ns,d::ds,ps,h=>by
  obtain⟨_,_,_,_,_,_,_,_,_,_,hs,_⟩:=h
  simp[qmm hs]
theorem qui {H:Type} {enc:TypeId×Value→H} {P:Program} {f:Func} {s:ChangeSpec} {W W':World} {args:Array Value} {ds gs:List (DataW H)} {before:List MemPlace} {tb:TypeId} (hW:DataW.Whole enc P f.params.toList s.vars false W args.toList ds gs before) (hrow:varsRowed P s.vars=true)
  (hs:s.fn H (ds++gs)={ results:=[.lit (.bool true)],args:=ds,vars:=gs }) (hl:laidOutB P=true) (hread:(f.params.toList.all fun t=>P.readableRec t&&decide (t<P.types.size))=true) (hres:f.resultTypes = #[tb]) (hbool:P.underlying tb=some .bool)
  (hb:Below W.heap.size W W'):s.post enc P f false true false false W args (.bool true) W':=by
 have hW':=hW
 obtain⟨p,q,hA,hV,hpq,hfz,hnd⟩:=hW
 have hlt:∀x∈p,x.block<W.heap.size:=fun x hx=>hW'.lt x (by rw[hpq]; simp[hx])
 refine⟨ds,gs,before,[],p,q,hW',?_,?_,?_,hb.frame _,fun h=>by cases h⟩
 ·rw[hs,hres]
  exact trodAll_mk1 (shut_bool hbool true)
 ·rw[hs]
  refine qjp hl hb (fun t ht =>?_) hA hlt
  have:=List.all_eq_true.1 hread t ht
  simpa using this
 ·rw[hs]
  exact Below.trodVars hl hb hrow hV
theorem quj {H : Type} {enc : TypeId × Value → H} {P : Program} {f : FuncId} {fn : Func} {c : Code} (hf : P.funcs[f]? = some fn) (hname : (fn.name == "runtime.NumGoroutine") = false) (hb : fn.body = some c) {s : ChangeSpec} (hrow : varsRowed P s.vars = true)
  (hspec:∀ds gs:List (DataW H),ds.length=fn.params.toList.length→gs.length=s.vars.length→s.fn H (ds++gs)={ results:=[.lit (.bool true)],args:=ds,vars:=gs }) (hl:laidOutB P=true) (hread:(fn.params.toList.all fun t=>P.readableRec t&&decide (t<P.types.size))=true) {tb:TypeId}
  (hres:fn.resultTypes = #[tb]) (hbool:P.underlying tb=some .bool) {xs:List ASh} (hsh:fn.params.toList.map (shA P)=xs.map some) (hlaw:∀pargs,qd6 xs pargs→HFn P f pargs [] (.bool true) [])
  (W:World) (hT:AOk (fun b=>b<W.heap.size) W) (base:Nat) (args:Array Value) (ds gs:List (DataW H)) (before:List MemPlace) (hval:∀(j:Nat) t v,fn.params[j]?=some t→args[j]?=some v→Value.okWide P W .any base t v) (hW:DataW.Whole enc P fn.params.toList s.vars false W args.toList ds gs before) :
  Calls P f args W fun e W'=>∃v,e = .returned v∧s.post enc P fn false true false false W args v W':=by
 have hW':=hW
 obtain⟨p,q,hA,hV,_,_,_⟩:=hW
 have hg:=qmm hV
 obtain⟨pargs,h1,h2,h3,h4⟩:=qjB hsh hA fun j t v ht hv=>hval j t v (by simpa using ht) (by simpa using hv)
 refine (qnt hf hname hb (hlaw pargs h3) hT (by simpa using h1.symm) fun i p hp =>?_).mono fun e W' ⟨he,hb⟩=>⟨_,he,qui hW' hrow (hspec ds gs h2 hg) hl hread hres hbool hb⟩
 obtain⟨v,hv,hr⟩:=h4 i p hp
 have hv':args[i]?=some v:=by simpa using hv
 rw[Array.getD_eq_getD_getElem?,hv']
 exact hr
end Go.Ab
