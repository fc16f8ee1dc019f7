/- Functions that the model itself answers: strings are compared. No condition. A function that turns the rows of one own object in place: from what it does in memory to its contract over plain values. No condition. -/
import Derived.Test.YteckngloamnfdaaGreatDoorKc
import Derived.Lib.Bytealg
import Derived.Laws.Externs
namespace Go.Ab
variable {P:Program} {A A':Nat→Prop} {m m':OMap} {h h':OFun} {w w':World} {H:Heap}
theorem args2 {vs:Array Value} (h:vs.size=2):vs = #[vs.getD 0 undef,vs.getD 1 undef]:=by
 apply Array.ext
 ·simp[h]
 ·intro i h1 h2
  have:i=0∨i=1:=by omega
  rcases this with rfl | rfl<;>simp[Array.getD_eq_getD_getElem?,h]
theorem qqH {f : Nat} {fn : Func} {e : Array Value → Sem Value} (hf : P.funcs[f]? = some fn) (hname : (fn.name == "runtime.NumGoroutine") = false) (hb : fn.body.isNone = true) (hn : Extern.findNext fn = none) (he : Extern.find fn = some e) {args : List PV} {res : PV}
  (h:∀(A:Nat→Prop) (w:World) (vs:Array Value),vs.size=args.length→(∀(i:Nat) (p:PV),args[i]?=some p→RepO A (fun _=>none) (fun _=>none) w p (vs.getD i undef))→∃v,(e vs).run P w = .ok v w∧RepI A w res v) (hplain:∀(i:Nat) (p:PV),args[i]?=some p→qak p=true) :
  HFn P f args [] res []:=fun A m w vs hA hC hsz hargs=>by
 obtain⟨v,hv,hr⟩:=h A w vs hsz fun i p hp => .imm ((hargs i p hp).toI (hplain i p hp))
 unfold CallS
 rw[run_callFunc_extern hf hname hb hn he,hv]
 exact⟨rfl,v,A,m,rfl,⟨.refl _ _,fun b hb => .inl hb,hA,hC,fun b hb => .inl hb, .imm hr⟩⟩
theorem qqI {f : Nat} {fn : Func} (hf : P.funcs[f]? = some fn) (hname : (fn.name == "runtime.NumGoroutine") = false) (hb : fn.body.isNone = true) (hn : Extern.findNext fn = none) (he : Extern.find fn = some Extern.BytealgCompare.compare) (a b : List UInt8) :
  HFn P f [.str a, .str b] [] (.int .i64 (Lib.compareBytes a b)) [] :=
 qqH hf hname hb hn he (fun A w vs hsz hargs=>by
  obtain⟨x,hx,rfl⟩:=(hargs 0 _ rfl).str
  obtain⟨y,hy,rfl⟩:=(hargs 1 _ rfl).str
  rw[args2 hsz,hx,hy]
  exact⟨_,Lib.run_compareString x y w, .int _ _⟩) fun i p hp=>by
  have:i<2:=(List.getElem?_eq_some_iff.1 hp).1
  obtain rfl | rfl:i=0∨i=1:=by omega
  ·cases hp; rfl
  ·cases hp; rfl
end Go.Ab
namespace Go.Ab
variable {P:Program}
def qdL (A:Nat→Prop) (w:World) (z:Nat) (rows:List (List PV)) (cur:Array Value):Prop:=∀(i j:Nat) (r:List PV) (c:PV),rows[i]?=some r→r[j]?=some c→∃u,cur[i*z+j]?=some u∧RepI A w c u
theorem qqJ {o o':Obj}:turnO (getO [some o]) 0 o'=getO [some o']:=by
 have:=qg0 (H:=[some o]) (k:=0) (o:=o') (by simp)
 rw[←this]
 rfl
theorem qkx {f z:Nat} {rows rows':List (List PV)} {res:PV} (V:Option Addr→Nat→Value)
  (hrepN:∀(A:Nat→Prop) (m:OMap) (w:World) (ao:Option Addr) (C:Nat),rows'=[]→m 0=some (none,C)→C=0→RepO A m (getO [some (.arr z rows')]) w res (V ao 0))
  (hrepB:∀(A:Nat→Prop) (m:OMap) (w:World) (b C:Nat),m 0=some (some b,C)→rows'.length≤C→RepO A m (getO [some (.arr z rows')]) w res (V (some ⟨b,0,none⟩) C)) (hlen:rows'.length=rows.length) (hz':∀(i:Nat) (r:List PV),rows'[i]?=some r→r.length=z)
  (hnil:rows=[]→∀(ao:Option Addr) (cap:Nat) (w:World),CallS P f #[.slice ao 0 cap] w fun e w'=>e = .returned (V ao cap)∧w'=w)
  (hrun:∀(A:Nat→Prop) (w:World) (b C:Nat) (cur:Array Value) (e:TypeId),¬A b→w.heap[b]?=some (.cells cur e (0,0))→cur.size=C*z→rows.length≤C→C≤maxLen→rows ≠ []→qdL A w z rows cur →
   CallS P f #[.slice (some ⟨b,0,none⟩) rows.length C] w fun e' w'=>e' = .returned (V (some ⟨b,0,none⟩) C)∧w'.os=w.os∧w'.tape=w.tape∧w'.output=w.output∧w.drawn≤w'.drawn∧w.heap.size≤w'.heap.size∧(∀j,j<w.heap.size→j≠b→w'.heap[j]?=w.heap[j]?) ∧
    ∃cur',w'.heap[b]?=some (.cells cur' e (0,0))∧cur'.size=cur.size∧qdL A w z rows' cur') :
  MFn P f [.sf 0 z] [some (.arr z rows)] [0] res [some (.arr z rows')]:=by
 intro A m w vs hA hC hsz hargs
 have h0:getO [some (Obj.arr z rows)] 0=some (.arr z rows):=rfl
 have r0:=hargs 0 _ rfl
 have hvs:vs = #[vs.getD 0 undef]:=by
  have hs:vs.size=1:=hsz
  apply Array.ext
  ·simp[hs]
  ·intro i h1 h2
   have:i=0:=by omega
   subst this
   simp[Array.getD_eq_getD_getElem?,hs]
 rw[hvs]
 generalize vs.getD 0 undef=v0 at r0 ⊢
 have same:rows=[]→∀(ao:Option Addr) (cap:Nat),RepO A m (getO [some (.arr z rows')]) w res (V ao cap)→CallS P f #[.slice ao 0 cap] w fun e w'=>∃v A' m',e = .returned v∧Came A m (getO [some (.arr z rows)]) w res (getO [some (.arr z rows')]) v w' A' m' ∧
   ∀k,k ∈ [0]→m' k=m k∧∃o o',getO [some (.arr z rows)] k=some o∧getO [some (.arr z rows')] k=some o'∧qaD o o':=fun he ao cap hres=>by
  have hr':rows'=rows:=by
   rw[he]at hlen ⊢
   exact List.eq_nil_of_length_eq_zero hlen
  rw[hr']at hres ⊢
  refine (hnil he ao cap w).mono fun e w' ⟨g1,g2⟩ =>?_
  subst g2
  refine⟨_,A,m,g1,⟨.refl _ _,fun b hb => .inl hb,hA,hC,fun b hb => .inl hb,hres⟩,fun k hk=>⟨rfl,?_⟩⟩
  simp at hk
  subst hk
  exact⟨_,_,h0,h0, .refl _⟩
 cases r0 with
 | imm hi=>cases hi
 | sfN _ _ C ao hk hm =>
  rw[h0]at hk
  cases hk
  exact same rfl ao 0 (hrepN A m w ao C (List.eq_nil_of_length_eq_zero hlen) hm (hC.at_none h0 hm).2)
 | sf _ _ C b rws hk hm =>
  rw[h0]at hk
  cases hk
  by_cases he:rows=[]
  ·have hl:rows.length=0:=by rw[he]; rfl
   rw[hl]
   exact same he _ _ (hrepB A m w b C hm (by omega))
  ·obtain⟨p1,p2,p3,p4,p5,cur,ty,q1,q2,q3⟩:=hC.at_arr h0 hm
   refine (hrun A w b C cur ty p1 q1 q2 p3 p4 he q3).mono fun e w' ⟨g1,g2,g3,g4,gd,g5,g6,cur',g7,g8,g9⟩ =>?_
   have hkeep:∀b',A b'→w'.heap[b']?=w.heap[b']?:=fun b' hb'=>g6 b' (hA b' hb') fun e=>p1 (e ▸ hb')
   have T:=qfQ (P:=P) (w':=w') (o' := .arr z rows') (ob:=some b) (ob':=some b) (C:=C) (C':=C) hA hC h0 hm g2 g3 g4 g5 (fun j hj hne=>g6 j hj fun e=>hne (by rw[e])) (fun b' e' => .inl e')
    ⟨p1,by omega,by omega,p4,hz',cur',ty,g7,by rw[g8,q2],fun i j r c hr hc=>by
     obtain⟨u,hu,hru⟩:=g9 i j r c hr hc
     exact⟨u,hu,hru.mono (fun _ h=>h) hkeep⟩⟩
   rw[qf0 hm,qqJ]at T
   refine⟨_,A,m,g1,⟨T.moved,fun b hb => .inl hb,T.aok,T.conc,fun b hb=>(T.own b hb),hrepB A m w' b C hm (by omega)⟩,fun k hk=>⟨rfl,?_⟩⟩
   simp at hk
   subst hk
   exact⟨_,_,h0,rfl,⟨rfl,hlen.symm⟩⟩
theorem qqK {f z:Nat} {rows rows':List (List PV)} (hlen:rows'.length=rows.length) (hz':∀(i:Nat) (r:List PV),rows'[i]?=some r→r.length=z)
  (hnil:rows=[]→∀(ao:Option Addr) (cap:Nat) (w:World),CallS P f #[.slice ao 0 cap] w fun e w'=>e = .returned (.tuple #[])∧w'=w)
  (hrun:∀(A:Nat→Prop) (w:World) (b C:Nat) (cur:Array Value) (e:TypeId),¬A b→w.heap[b]?=some (.cells cur e (0,0))→cur.size=C*z→rows.length≤C→C≤maxLen→rows ≠ []→qdL A w z rows cur →
   CallS P f #[.slice (some ⟨b,0,none⟩) rows.length C] w fun e' w'=>e' = .returned (.tuple #[])∧w'.os=w.os∧w'.tape=w.tape∧w'.output=w.output∧w.drawn≤w'.drawn∧w.heap.size≤w'.heap.size∧(∀j,j<w.heap.size→j≠b→w'.heap[j]?=w.heap[j]?) ∧
    ∃cur',w'.heap[b]?=some (.cells cur' e (0,0))∧cur'.size=cur.size∧qdL A w z rows' cur') :
  MFn P f [.sf 0 z] [some (.arr z rows)] [0] (.tup []) [some (.arr z rows')] :=
 qkx (fun _ _ => .tuple #[]) (fun _ _ _ _ _ _ _ _ => .imm (.tup [] #[] rfl (by simp))) (fun _ _ _ _ _ _ _ => .imm (.tup [] #[] rfl (by simp))) hlen hz' hnil hrun
theorem qqL {f z n:Nat} {rows rows':List (List PV)} (hn:n≤rows'.length) (hlen:rows'.length=rows.length) (hz':∀(i:Nat) (r:List PV),rows'[i]?=some r→r.length=z)
  (hnil:rows=[]→∀(ao:Option Addr) (cap:Nat) (w:World),CallS P f #[.slice ao 0 cap] w fun e w'=>e = .returned (.slice ao n cap)∧w'=w)
  (hrun:∀(A:Nat→Prop) (w:World) (b C:Nat) (cur:Array Value) (e:TypeId),¬A b→w.heap[b]?=some (.cells cur e (0,0))→cur.size=C*z→rows.length≤C→C≤maxLen→rows ≠ []→qdL A w z rows cur →
   CallS P f #[.slice (some ⟨b,0,none⟩) rows.length C] w fun e' w'=>e' = .returned (.slice (some ⟨b,0,none⟩) n C)∧w'.os=w.os∧w'.tape=w.tape∧w'.output=w.output∧w.drawn≤w'.drawn∧w.heap.size≤w'.heap.size∧(∀j,j<w.heap.size→j≠b→w'.heap[j]?=w.heap[j]?) ∧
    ∃cur',w'.heap[b]?=some (.cells cur' e (0,0))∧cur'.size=cur.size∧qdL A w z rows' cur') :
  MFn P f [.sf 0 z] [some (.arr z rows)] [0] (.so 0 z 0 n) [some (.arr z rows')] :=
 qkx (fun ao cap => .slice ao n cap) (fun A m w ao C he hm hC=>by
   subst he
   obtain rfl:n=0:=by simpa using hn
   exact .so0 0 z C 0 ao rfl hm rfl) (fun A m w b C hm hC=>by
   have:=RepO.so (A:=A) (w:=w) 0 z 0 n C C b rows' (h:=getO [some (.arr z rows')]) rfl hm (by omega) (by omega)
   rw[Nat.zero_mul]at this
   exact this) hlen hz' hnil hrun
end Go.Ab
