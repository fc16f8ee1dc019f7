/- From contracts over memory to contracts over plain values. No condition. -/
import Derived.Test.YteckngloamnfdaaGreatDoorKc
import Derived.Sort.Grow
import Derived.Deep.Draws
import Derived.Below
namespace Go.Ab
variable {P:Program} {A A':Nat→Prop} {m m':OMap} {h h':OFun} {w w':World}
theorem qs9 (w:World) (n:Nat) (os:Array Go.Obj):Moved (fun _=>False) w (Sort.grow (w.drewN n) os) :=
 ⟨rfl,rfl,rfl,by simp[Sort.grow,World.drewN],fun b hb _=>by simp[Sort.grow,World.drewN,Array.getElem?_append,hb],fun _=>Nat.le_add_right _ _⟩
theorem qfr {f : FuncId} {fn : Func} {c : Code} (hf : P.funcs[f]? = some fn) (hname : (fn.name == "runtime.NumGoroutine") = false) (hb : fn.body = some c) (vs : Array Value) (w : World) : (callFunc f vs).run P w = .ok (.enter f vs) w := by
 have hname' : fn.name ≠ "runtime.NumGoroutine" := by simpa using hname
 simp[callFunc,hf,hname',hb]
def qta (A:Nat→Prop) (w:World) (res:PV) (e:Ending) (w':World):Prop:=∃v,e = .returned v∧Moved (fun _=>False) w w'∧RepI A w' res v
theorem qtb {f : FuncId} {fn : Func} {c : Code} {args : List PV} {res : PV} (hf : P.funcs[f]? = some fn) (hname : (fn.name == "runtime.NumGoroutine") = false) (hb : fn.body = some c) (hplain : args.all noOwn = true)
  (h:∀(A:Nat→Prop) (w:World) (vs:Array Value),AOk A w→vs.size=args.length→(∀i p,args[i]?=some p→RepI A w p (vs.getD i undef))→Calls P f vs w (qta A w res)):HFn P f args [] res []:=fun A m w vs hA hC hsz hargs=>by
 unfold CallS
 rw[qfr hf hname hb]
 refine⟨rfl,(h A w vs hA hsz fun i p hp =>?_).mono fun e w' ⟨v,he,hm,hr⟩=>⟨v,A,m,he,?_⟩⟩
 ·exact (qfP (H:=[]) (List.all_eq_true.1 hplain p (List.mem_of_getElem? hp)) (hargs i p hp)).1
 ·have hk:∀b,A b→w'.heap[b]?=w.heap[b]?:=fun b hb=>hm.block b (hA b hb) fun h=>h
  have hno:∀b,¬OwnB m (getO []) b:=fun b ⟨k,o,C,hk,_⟩=>by simp[getO]at hk
  exact⟨hm.mono fun _ _ h=>h.elim,fun b hb => .inl hb,hA.mono (fun b hb=>Nat.lt_of_lt_of_le (hA b hb) hm.size) (fun _ h=>h) hk,⟨fun k o hk=>by simp[getO]at hk,fun k _ o _ _ _ _ hk=>by simp[getO]at hk⟩,fun b hb=>(hno b hb).elim, .imm hr⟩
theorem AOk.ints (h:AOk A w) {g:Nat} {k:IntKind} {zs:List Int} (hm:(g,zs.map fun z=>PV.int k z)∈tabs):∃e fz,w.heap[g]?=some (.cells (zs.map fun z=>Value.int k z).toArray e fz):=by
 obtain⟨_,us,e,fz,h2,h3,h4⟩:=h.tab g _ hm
 refine⟨e,fz,?_⟩
 rw[h2]
 congr 2
 rw[List.length_map]at h3
 apply Array.ext
 ·simpa using h3
 ·intro i h1' h2'
  have hi:i<zs.length:=by omega
  have:=h4 i (.int k zs[i]) (by simp[hi])
  rw[Array.getD_eq_getD_getElem?,Array.getElem?_eq_getElem h1']at this
  have hv:us[i] = .int k zs[i]:=by
   change RepI A w _ us[i]at this
   generalize us[i]=x at this
   cases this
   rfl
  rw[hv]
  simp
end Go.Ab
