import Derived.Test.YtepeckjhdoicpaaGreatDoorG3
import Derived.Deep.Draws
import Derived.Below
set_option linter.all false
namespace Go.Ab
section
variable[dw:Go.Ab.bI]
variable{P:Program}{A A':Nat→Prop}{m m':dt}{h h':eV}{w w':World}
theorem Q1(w:World)(n:Nat)(os:Array Go.Obj):jk (λ_=>False) w (Sort.grow (w.drewN n) os):=
 ⟨rfl,rfl,rfl,by simp[Sort.grow,World.drewN],λb hb _=>by simp[Sort.grow,World.drewN,iC,hb],λ_=>sw _ _⟩
theorem zk{w w':World}[off:dj]:Drw w w':=λh=>by rw[show W3=false from off.off]at h;cases h
theorem yh(hb:RowKit.Below w.heap.size w w')(f:Drw w w'):jk (λ_=>False) w w':=
 ⟨hb.os,hb.tape,hb.output,hb.size,λb h _=>hb.block b h,f⟩
theorem Oi(w:World)(o:Go.Obj):jk (λ_=>False) w (w.alloc o):=⟨rfl,rfl,rfl,bn,λ_ hb _=>cK hb,λ_=>aK _⟩
theorem enters {f : FuncId} {fn : Func} {c : Code} (hf : P.funcs[f]? = some fn) (r : (fn.name == "runtime.NumGoroutine") = false) (hb : fn.body = some c) (vs : Array Value) (w : World) : (callFunc f vs).run P w = .ok (.enter f vs) w := by
 have W : fn.name ≠ "runtime.NumGoroutine" := by simpa using r
 simp[callFunc,hf,W,hb]
def Kv(A:Nat→Prop)(w:World)(res:PV)(e:Ending)(w':World):Prop:=∃v,e=.returned v∧jk (λ_=>False) w w'∧dC A w' res v
theorem oX {f : FuncId} {fn : Func} {c : Code} {args : List PV} {res : PV} (hf : P.funcs[f]? = some fn) (r : (fn.name == "runtime.NumGoroutine") = false) (hb : fn.body = some c) (O : args.all mJ = true)
  (h:∀(A:Nat→Prop)(w:World)(vs:Array Value),sC A w→vs.size=args.length→(∀i p,args[i]?=some p→dC A w p (vs.getD i undef))→Calls P f vs w (Kv A w res)):iW P f args [] res []:=λA m w vs hA l E ey=>by
 unfold gT;rw[enters hf r hb];refine⟨rfl,(h A w vs hA E λi p g=>?_).mono λe w' ⟨v,he,hm,a⟩=>⟨v,A,m,he,?_⟩⟩
 ·exact(zm (H:=[]) (ak.1 O p (aD g)) (ey i p g)).1
 ·have hk:∀b,A b→w'.heap[b]?=w.heap[b]?:=λb hb=>hm.block b (hA b hb) λh=>h;have iR:∀b,¬nL m (a_ []) b:=λb ⟨k,o,C,hk,_⟩=>eo
  exact⟨hm.mono λ_ _ h=>h.elim,λb hb=>.inl hb,hA.mono (λb hb=>bH (hA b hb) hm.size) (λ_ h=>h) hk,⟨λk o hk=>eo,λk _ o _ _ _ _ hk=>eo⟩,λb hb=>(iR b hb).elim,.dB a⟩
def Z_(A:Nat→Prop)(w:World)(z:Nat)(rows:List (List PV))(e:Ending)(w':World):Prop:=
 ∃b C cur ty,e=.returned (.slice (some ⟨b,0,none⟩) rows.length C)∧jk (λ_=>False) w w'∧w.heap.size≤b∧w'.heap[b]?=some (.cells cur ty (0,0))∧cur.size=C*z∧rows.length≤C∧C≤maxLen ∧
  ∀(i j:Nat)(r:List PV)(c:PV),rows[i]?=some r→r[j]?=some c→∃u,cur[i*z+j]?=some u∧dC A w' c u
theorem D0 {f : FuncId} {fn : Func} {c : Code} {args : List PV} {z : Nat} {rows : List (List PV)} (hf : P.funcs[f]? = some fn) (a : (fn.name == "runtime.NumGoroutine") = false) (hb : fn.body = some c) (O : args.all mJ = true) (hz : ∀ (i : Nat) (r : List PV), rows[i]? = some r → r.length = z)
  (h:∀(A:Nat→Prop)(w:World)(vs:Array Value),sC A w→vs.size=args.length→(∀i p,args[i]?=some p→dC A w p (vs.getD i undef))→Calls P f vs w (Z_ A w z rows)):iW P f args [] (.sf 0 z) [some (.arr z rows)]:=λA m w vs hA q E ey=>by
 unfold gT;rw[enters hf a hb];refine⟨rfl,(h A w vs hA E λi p g=>?_).mono λe w' ⟨b,C,cur,ty,he,hm,s,U,d,M,j,l⟩=>⟨_,A,λk=>if k=0 then some (some b,C) else none,he,?_⟩⟩
 ·exact(zm (H:=[]) (ak.1 O p (aD g)) (ey i p g)).1
 ·have hk:∀b,A b→w'.heap[b]?=w.heap[b]?:=λb hb=>hm.block b (hA b hb) λh=>h;have h0:a_ [some (Obj.arr z rows)] 0=some (.arr z rows):=rfl;have eL:∀k o,a_ [some (Obj.arr z rows)] k=some o→k=0∧o=.arr z rows:=λk o hk=>by
   cases k with
   |zero=>cases hk;exact⟨rfl,rfl⟩
   |succ k=>simp[a_]at hk
  have D:b<w'.heap.size:=(gR.1 U).1;refine⟨hm.mono λ_ _ h=>h.elim,λb hb=>.inl hb,hA.mono (λb hb=>bH (hA b hb) hm.size) (λ_ h=>h) hk,⟨λk o hk=>?_,λk k' o o' b C C' hk n _ _=>by rw[(eL k o hk).1,(eL k' o' n).1]⟩,λt ⟨k,o,C',hk,F⟩=>?_,.sf 0 z C b rows h0 bn⟩
  ·obtain⟨rfl,rfl⟩:=eL k o hk;refine⟨some b,C,bn,λhb=>?_,D,M,j,hz,cur,ty,U,d,l⟩;have:=hA b hb;omega
  ·obtain⟨rfl,rfl⟩:=eL k o hk;simp at F;exact .inr bd
theorem sC.ints(h:sC A w){g:Nat}{k:IntKind}{zs:List Int}(hm:(g,zs.map λz=>PV.int k z)∈Xf):∃e fz,w.heap[g]?=some (.cells (zs.map λz=>Value.int k z).toArray e fz):=by
 obtain⟨_,us,e,fz,h2,c,a⟩:=h.tab g _ hm;refine⟨e,fz,?_⟩;rw[h2]
 congr 2
 rw[aT]at c;apply GA
 ·simpa using c
 ·intro i j s;have hi:i<zs.length:=bd
  have:=a i (.int k zs[i]) er;rw[ax,ia j]at this;have b:us[i]=.int k zs[i]:=by
   change dC A w _ us[i]at this;generalize us[i]=x at this;cases this;rfl
  rw[b];simp
end
end Go.Ab
