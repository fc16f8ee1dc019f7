/- Runs beside pinned lists: steps, cuts, calls that are answered by hand. No condition. -/
import Derived.Test.YteckngloamnfdaaGreatDoorBt
namespace Go.Ab
variable {P:Program} {A A' B:Nat→Prop} {m m':OMap} {w w':World} {H:Heap} {fr fr':Fr} {a:Act} {x:Ctx} {n:Nat} {S S1:St} {L L' L0 L1 L2:List Pind}
theorem Inv.over {M:Nat→Prop} (hI:Inv x n S a w A m) (hm:Moved M w w') (hA:∀b,M b→¬A b) (hO:∀b,M b→¬OwnB m (getO S.H) b) (hx:∀b,M b→x.M0 b∨x.w0.heap.size≤b):Inv x n S a w' A m:=by
 have hAw:∀b,A b→w'.heap[b]?=w.heap[b]?:=fun b hb=>hm.block b (hI.aok b hb) fun h=>hA b h hb
 refine⟨⟨hm.os.trans hI.moved.os,hm.tape.trans hI.moved.tape,hm.output.trans hI.moved.output,Nat.le_trans hI.moved.size hm.size,fun b hb hM=>(hm.block b (Nat.lt_of_lt_of_le hb hI.moved.size) fun h=>(hx b h).elim hM fun h'=>absurd hb (Nat.not_lt.2 h')).trans (hI.moved.block b hb hM),fun hd=>Nat.le_trans (hI.moved.drawn hd) (hm.drawn hd)⟩,hI.sub,hI.aok.mono (fun b hb=>Nat.lt_of_lt_of_le (hI.aok b hb) hm.size) (fun _ h=>h) hAw,⟨fun k o hk =>?_,hI.conc.inj⟩,hI.own,fun t=>(hI.fr t).mono (fun _ h=>h) hAw (.refl _ _ _),hI.sz,hI.df⟩
 obtain⟨ob,C,hmk,ho⟩:=hI.conc.at_ k o hk
 refine⟨ob,C,hmk,ho.mono (fun _ h=>h) hAw (.refl _ _ _) hm.size fun b e =>?_⟩
 have hob:OwnB m (getO S.H) b:=⟨k,o,C,hk,by rw[hmk,e]⟩
 exact⟨(hI.conc.lt hob).2,hm.block b (hI.conc.lt hob).1 fun h=>hO b h hob⟩
theorem Inv.back {a':Act} (hI:Inv x n S a w A m) (h':Inv ⟨w,A,OwnB m (getO S.H),x.gh⟩ n S1 a' w' A' m'):Inv x n S1 a' w' A' m':=by
 have hmv:Moved (OwnB m (getO S.H)) w w':=h'.moved
 refine⟨⟨hmv.os.trans hI.moved.os,hmv.tape.trans hI.moved.tape,hmv.output.trans hI.moved.output,Nat.le_trans hI.moved.size hmv.size,fun b hb hM=>(hmv.block b (Nat.lt_of_lt_of_le hb hI.moved.size) fun ho=>(hI.own b ho).elim hM fun hsz=>absurd hb (Nat.not_lt.2 hsz)).trans (hI.moved.block b hb hM),fun hd=>Nat.le_trans (hI.moved.drawn hd) (hmv.drawn hd)⟩,fun b hb =>?_,h'.aok,h'.conc,fun b hb =>?_,fun t=>h'.fr t,h'.sz,h'.df⟩
 ·rcases h'.sub b hb with g | g | g
  ·exact hI.sub b g
  ·rcases hI.own b g with g | g
   ·exact .inr (.inl g)
   ·exact .inr (.inr g)
  ·exact .inr (.inr (Nat.le_trans hI.moved.size g))
 ·rcases h'.own b hb with g | g
  ·exact hI.own b g
  ·exact .inr (Nat.le_trans hI.moved.size g)
theorem OwnAt.one {z:Nat} {rows:List (List PV)} {v:Value} {ob:Option Nat} (h:OwnAt w z rows v ob):v.oneCell'=true:=by
 cases ob with
 | none=>obtain⟨_,ao,rfl⟩:=h; rfl
 | some b=>obtain⟨C,rfl,_⟩:=h; rfl
theorem qgl {k z:Nat} {h:OFun} {v:Value} (hr:RepO A m h w (.sf k z) v):v.oneCell'=true:=by
 cases hr with
 | imm hi=>cases hi
 | sfN=>rfl
 | sf=>rfl
structure InvP (x:Ctx) (n:Nat) (S:St) (a:Act) (w:World) (A:Nat→Prop) (m:OMap) (L:List Pind):Prop where
 inv:Inv x n S a w A m
 pin:Pinds w L
 off:∀b,pindB L b→¬A b∧¬OwnB m (getO S.H) b∧(x.M0 b∨x.w0.heap.size≤b)
theorem InvP.nil (hI:Inv x n S a w A m):InvP x n S a w A m []:=⟨hI, .nil,fun b ⟨p,hp,_⟩=>by simp at hp⟩
theorem InvP.step {a':Act} (h:InvP x n S a w A m L) (h':Inv ⟨w,A,OwnB m (getO S.H),x.gh⟩ n S1 a' w' A' m'):InvP x n S1 a' w' A' m' L:=by
 have hmv:Moved (OwnB m (getO S.H)) w w':=h'.moved
 refine⟨h.inv.back h',h.pin.moved hmv fun b hb=>(h.off b hb).2.1,fun b hb=>⟨fun hA =>?_,fun hO =>?_,(h.off b hb).2.2⟩⟩
 ·rcases h'.sub b hA with g | g | g
  ·exact (h.off b hb).1 g
  ·exact (h.off b hb).2.1 g
  ·exact absurd (h.pin.lt hb) (Nat.not_lt.2 g)
 ·rcases h'.own b hO with g | g
  ·exact (h.off b hb).2.1 g
  ·exact absurd (h.pin.lt hb) (Nat.not_lt.2 g)
theorem InvP.know (h:InvP x n S a w A m L) {d:Nat} {p:PV} (hr:RepO A m (getO S.H) w p (look x n a d)):InvP x n ⟨put S.fr (some d) p,S.H⟩ a w A m L:=⟨h.inv.know hr,h.pin,h.off⟩
theorem InvP.val (h:InvP x n S a w A m L) {d:Option Nat} (hd:∀t,d=some t→t<n) {p:PV} {v:Value} (hr:RepO A m (getO S.H) w p v):InvP x n ⟨put S.fr d p,S.H⟩ (a.put d v) w A m L:=⟨h.inv.val hd hr,h.pin,h.off⟩
theorem InvP.frame (h:InvP x n ⟨fr,H⟩ a w A m L) (hf:∀t,slot fr' t = .top∨slot fr' t=slot fr t):InvP x n ⟨fr',H⟩ a w A m L:=⟨h.inv.frame hf,h.pin,h.off⟩
theorem InvP.over {M:Nat→Prop} (h:InvP x n S a w A m L) (hm:Moved M w w') (hM:∀b,M b→pindB L b) (hp:Pinds w' L') (hL:∀b,pindB L' b→pindB L b∨w.heap.size≤b):InvP x n S a w' A m L' :=
 ⟨h.inv.over hm (fun b hb=>(h.off b (hM b hb)).1) (fun b hb=>(h.off b (hM b hb)).2.1) fun b hb=>(h.off b (hM b hb)).2.2,hp,fun b hb=>by
  rcases hL b hb with g | g
  ·exact h.off b g
  ·exact⟨fun hA=>absurd (h.inv.aok b hA) (Nat.not_lt.2 g),fun hO=>absurd (h.inv.conc.lt hO).1 (Nat.not_lt.2 g), .inr (Nat.le_trans h.inv.moved.size g)⟩⟩
theorem qau {b:Nat}:pindB (L++L') b↔pindB L b∨pindB L' b:=by
 simp[pindB,or_and_right,exists_or]
theorem qaH {b:Nat} {p:Pind}:pindB (p::L) b↔p.ob=some b∨pindB L b:=by
 simp[pindB]
theorem Pinds.one {p:Pind} (h:OwnAt w p.z p.rows p.v p.ob) (hp:qaT p.rows):Pinds w [p]:=⟨fun q hq=>by
 simp only[List.mem_singleton]at hq
 subst hq
 exact⟨h,hp⟩,fun i j p q b hi hj _ _=>by
 have:=(List.getElem?_eq_some_iff.1 hi).1
 have:=(List.getElem?_eq_some_iff.1 hj).1
 simp at *
 omega⟩
theorem Pinds.mid {M:Nat→Prop} (h:Pinds w (L1++(L0++L2))) (hm:Moved M w w') (hM:∀b,M b→pindB L0 b) (hp:Pinds w' L') (hL:∀b,pindB L' b→pindB L0 b∨w.heap.size≤b):Pinds w' (L1++(L'++L2)):=by
 have hlt:=fun b=>h.lt (b:=b)
 obtain⟨h1,h2,d1⟩:=h.sub
 obtain⟨h3,h4,d2⟩:=h2.sub
 have g1:=h1.moved hm fun b hb hMb=>d1 b hb (qau.2 (.inl (hM b hMb)))
 have g4:=h4.moved hm fun b hb hMb=>d2 b (hM b hMb) hb
 refine g1.app (hp.app g4 fun b hb hb' =>?_) fun b hb hb' =>?_
 ·rcases hL b hb with g | g
  ·exact d2 b g hb'
  ·exact absurd (hlt b (qau.2 (.inr (qau.2 (.inr hb'))))) (Nat.not_lt.2 g)
 ·rcases qau.1 hb' with g | g
  ·rcases hL b g with g | g
   ·exact d1 b hb (qau.2 (.inl g))
   ·exact absurd (hlt b (qau.2 (.inl hb))) (Nat.not_lt.2 g)
  ·exact d1 b hb (qau.2 (.inr g))
theorem InvP.mid {M:Nat→Prop} (h:InvP x n S a w A m (L1++(L0++L2))) (hm:Moved M w w') (hM:∀b,M b→pindB L0 b) (hp:Pinds w' L') (hL:∀b,pindB L' b→pindB L0 b∨w.heap.size≤b):InvP x n S a w' A m (L1++(L'++L2)) :=
 h.over hm (fun b hb=>qau.2 (.inr (qau.2 (.inl (hM b hb))))) (h.pin.mid hm hM hp hL) fun b hb=>by
  rcases qau.1 hb with g | g
  ·exact .inl (qau.2 (.inl g))
  ·rcases qau.1 g with g | g
   ·exact (hL b g).imp (fun g=>qau.2 (.inr (qau.2 (.inl g)))) id
   ·exact .inl (qau.2 (.inr (qau.2 (.inr g))))
theorem InvP.more (h:InvP x n S a w A m L) (hm:Moved noB w w') (hp:Pinds w' L') (hL:∀b,pindB L' b→w.heap.size≤b):InvP x n S a w' A m (L'++L) :=
 h.over hm (fun b hb=>hb.elim) (hp.app (h.pin.moved hm fun b _ hb=>hb.elim) fun b hb hb'=>absurd (h.pin.lt hb') (Nat.not_lt.2 (hL b hb))) fun b hb=>by
  rcases qau.1 hb with g | g
  ·exact .inr (hL b g)
  ·exact .inl g
theorem InvP.swap (h:InvP x n S a w A m (L++L')):InvP x n S a w A m (L'++L):=by
 obtain⟨h1,h2,d⟩:=h.pin.sub
 exact⟨h.inv,h2.app h1 fun b hb hb'=>d b hb' hb,fun b hb=>h.off b (qau.2 ((qau.1 hb).symm))⟩
theorem qry:withA A m H []=A:=by funext b; simp[withA]
theorem InvP.pinned {ρ:List Nat} {k z:Nat} {rows:List (List PV)} {v:Value} (h:InvP x n S a w A m L) (hk:getO S.H k=some (.arr z rows)) (hr:RepO A m (getO S.H) w (.sf k z) v) (hp:qaT rows) (hw:Wk ρ [] S S1) (hkρ:∀i:Nat,ρ[i]?≠some k) :
  ∃ob C m',m k=some (ob,C)∧InvP x n S1 a w A m' (⟨z,rows,v,ob⟩::L):=by
 obtain⟨ob,C,hmk,ho⟩:=OwnAt.of h.inv.conc hk hr hp
 have hI1:=hw.inv h.inv
 rw[qry]at hI1
 have hown:∀b,OwnB (mapM' ρ m) (getO S1.H) b→∃j o C,j≠k∧getO S.H j=some o∧m j=some (some b,C):=fun b ⟨k',o',C',hk',hm'⟩=>by
  have hs:S1.H[k']?=some (some o'):=by
   unfold getO at hk'
   cases e:S1.H[k']? with
   | none=>rw[e]at hk'; simp at hk'
   | some q=>rw[e]at hk'; simpa using hk'
  obtain⟨j,hj,hwk⟩:=qeC hw.2.2 k' o' hs
  have hmj:m j=some (some b,C'):=by simpa[mapM',hj]using hm'
  have:∃o,S.H[j]?=some (some o):=by
   unfold wkO at hwk
   split at hwk
   ·rename_i e; cases e
   ·rename_i e _; exact⟨_,e⟩
   ·rename_i e _; exact⟨_,e⟩
   ·exact hwk.elim
  obtain⟨o,ho⟩:=this
  exact⟨j,o,C',fun e=>hkρ k' (e ▸ hj),qbq ho,hmj⟩
 refine⟨ob,C,mapM' ρ m,hmk,hI1,?_,fun b hb =>?_⟩
 ·refine (Pinds.one (p:=⟨z,rows,v,ob⟩) ho hp).app h.pin fun b hb hb' =>?_
  obtain⟨p,hp',e⟩:=hb
  simp only[List.mem_singleton]at hp'
  subst hp'
  exact (h.off b hb').2.1 ⟨k,_,C,hk,by rw[hmk]; simpa using e⟩
 ·rcases qaH.1 hb with e | hb'
  ·have hob:OwnB m (getO S.H) b:=⟨k,_,C,hk,by rw[hmk]; simpa using e⟩
   refine⟨(h.inv.conc.lt hob).2,fun hO =>?_,h.inv.own b hob⟩
   obtain⟨j,o,C',hne,hj,hmj⟩:=hown b hO
   exact hne (h.inv.conc.inj j k o _ b C' C hj hk hmj (by rw[hmk]; simpa using e))
  ·refine⟨(h.off b hb').1,fun hO =>?_,(h.off b hb').2.2⟩
   obtain⟨j,o,C',_,hj,hmj⟩:=hown b hO
   exact (h.off b hb').2.1 ⟨j,o,C',hj,hmj⟩
theorem InvP.adopt {p:Pind} (h:InvP x n ⟨fr,H⟩ a w A m (p::L)):∃m',InvP x n ⟨fr,H++[some (.arr p.z p.rows)]⟩ a w A m' L∧RepO A m' (getO (H++[some (.arr p.z p.rows)])) w (.sf H.length p.z) p.v∧RepO A m' (getO (H++[some (.arr p.z p.rows)])) w (.own H.length) (ownV p.ob (capV p.v)):=by
 obtain⟨ho,hp⟩:=h.pin.at_ p (by simp)
 have hb:∀b,p.ob=some b→¬A b∧¬OwnB m (getO H) b:=fun b e=>⟨(h.off b (qaH.2 (.inl e))).1,(h.off b (qaH.2 (.inl e))).2.1⟩
 obtain⟨m',hI',hr,hC⟩:=h.inv.adopt ho hp hb
 obtain⟨hp1,hp2,hd⟩:=Pinds.sub (l:=[p]) (r:=L) h.pin
 refine⟨m',⟨⟨h.inv.moved,h.inv.sub,hI'.aok,hI'.conc,fun b hb' =>?_,fun t=>hI'.fr t,hI'.sz,hI'.df⟩,hp2,fun b hb'=>⟨(h.off b (qaH.2 (.inr hb'))).1,fun hO =>?_,(h.off b (qaH.2 (.inr hb'))).2.2⟩⟩,hr,?_⟩
 ·rcases hI'.own b hb' with (g | g) | g
  ·exact h.inv.own b g
  ·exact (h.off b (qaH.2 (.inl g))).2.2
  ·exact .inr (Nat.le_trans h.inv.moved.size g)
 ·rcases hI'.own b hO with (g | g) | g
  ·exact (h.off b (qaH.2 (.inr hb'))).2.1 g
  ·exact hd b ⟨p,by simp,g⟩ hb'
  ·exact absurd (h.pin.lt (qaH.2 (.inr hb'))) (Nat.not_lt.2 g)
 ·exact .own _ _ _ _ (by simp[getO]; rfl) hC
theorem OwnAt.back {z C:Nat} {rows rows':List (List PV)} {v:Value} {ob:Option Nat} {h:OFun} (ho:OwnAt w z rows v ob) (hl:rows'.length=rows.length) (hp:qaT rows') (hC:C=capV v) (hO:ObjAt A m h w' (.arr z rows') ob C):OwnAt w' z rows' v ob:=by
 cases ob with
 | none=>exact⟨hO.1,ho.2⟩
 | some b =>
  obtain⟨C0,rfl,_⟩:=ho
  obtain⟨h1,h2,h3,h4,h5,cur,e,hcur,hsz,hcell⟩:=hO
  have hC':C=C0:=hC
  subst hC'
  refine⟨C,by rw[hl],fun h=>h,h2,h3,h4,h5,cur,e,hcur,hsz,fun i j r c hi hj =>?_⟩
  obtain⟨u,hu,hru⟩:=hcell i j r c hi hj
  exact⟨u,hu,hru.pure (hp r (List.mem_of_getElem? hi) c (List.mem_of_getElem? hj))⟩
theorem qrz {f:FuncId} {z:Nat} {rows rows':List (List PV)} {k k':Int} {v:Value} {ob:Option Nat} (hf:MFn P f [.sf 0 z, .int .i64 k] [some (.arr z rows)] [0] (.int .i64 k') [some (.arr z rows')]) (hl:rows'.length=rows.length) (hA:AOk A w) (ho:OwnAt w z rows v ob) (hp:qaT rows) (hp':qaT rows') (hb:∀b,ob=some b→¬A b) :
  CallS P f #[v, .int .i64 k] w fun e w'=>e = .returned (.int .i64 k')∧Moved (fun b=>ob=some b) w w'∧OwnAt w' z rows' v ob:=by
 have hself:getO [some (Obj.arr z rows)] 0=some (.arr z rows):=rfl
 have hone:∀j o,getO [some (Obj.arr z rows)] j=some o→j=0∧o = .arr z rows:=fun j o hj=>by
  cases j with
  | zero=>cases hj; exact⟨rfl,rfl⟩
  | succ j=>simp[getO]at hj
 let m0:OMap:=fun j=>if j=0 then some (ob,capV v) else none
 have hobj:ObjAt A m0 (getO [some (Obj.arr z rows)]) w (.arr z rows) ob (capV v):=by
  cases ob with
  | none =>
   obtain⟨h1,ao,rfl⟩:=ho
   exact⟨h1,rfl⟩
  | some b =>
   obtain⟨C,rfl,_,h2,h3,h4,h5,cur,e,hcur,hsz,hcell⟩:=ho
   refine⟨hb b rfl,h2,h3,h4,h5,cur,e,hcur,hsz,fun i j r c hi hj =>?_⟩
   obtain⟨u,hu,hru⟩:=hcell i j r c hi hj
   exact⟨u,hu,hru.pure (hp r (List.mem_of_getElem? hi) c (List.mem_of_getElem? hj))⟩
 have hconc:ConcO A m0 (getO [some (Obj.arr z rows)]) w:=⟨fun j o hj=>by
  obtain⟨rfl,rfl⟩:=hone j o hj
  exact⟨ob,capV v,rfl,hobj⟩,fun j j' o o' b C C' hj hj' _ _=>by rw[(hone j o hj).1,(hone j' o' hj').1]⟩
 have hrep:RepO A m0 (getO [some (Obj.arr z rows)]) w (.sf 0 z) v:=by
  cases ob with
  | none =>
   obtain⟨rfl,ao,rfl⟩:=ho
   exact .sfN 0 z _ ao rfl rfl
  | some b =>
   obtain⟨C,rfl,_⟩:=ho
   exact .sf 0 z C b rows rfl rfl
 refine (hf A m0 w #[v, .int .i64 k] hA hconc rfl fun i p hi =>?_).mono fun e w' ⟨v',A',m',he,hc,hkp⟩ =>?_
 ·match i with
  | 0=>cases hi; exact hrep
  | 1=>cases hi; exact .imm (.int _ _)
  | i+2=>simp at hi
 ·have hv':v' = .int .i64 k':=by
   have:=hc.rep
   cases this with
   | imm h=>cases h; rfl
  subst hv'
  refine⟨he,hc.moved.mono fun b _ ⟨j,o,C,hj,hmj⟩ =>?_,?_⟩
  ·obtain⟨rfl,rfl⟩:=hone j o hj
   have:(ob,capV v)=(some b,C):=Option.some.inj hmj
   exact (Prod.mk.inj this).1
  ·obtain⟨ob',C',hm',hO⟩:=hc.conc.at_ 0 (.arr z rows') rfl
   rw[(hkp 0 (by simp)).1]at hm'
   cases (show some (ob,capV v)=some (ob',C') from hm')
   exact ho.back hl hp' rfl hO
def NCopy (P:Program) (f:FuncId) (args:List PV) (R:Value→List Pind→Prop):Prop :=
 ∀(A:Nat→Prop) (w:World) (vs:Array Value),AOk A w→vs.size=args.length→(∀i p,args[i]?=some p→RepI A w p (vs.getD i undef)) →
  CallS P f vs w fun e w'=>∃v L,e = .returned v∧Moved noB w w'∧Pinds w' L∧(∀b,pindB L b→w.heap.size≤b)∧R v L
def NMark (P:Program) (f:FuncId) (v:Value) (k k':Int) (L:List Pind) (R:List Pind→Prop):Prop :=
 ∀(A:Nat→Prop) (w:World),AOk A w→Pinds w L→(∀b,pindB L b→¬A b) →
  CallS P f #[v, .int .i64 k] w fun e w'=>e = .returned (.int .i64 k')∧∃L',Moved (pindB L) w w'∧Pinds w' L'∧(∀b,pindB L' b→pindB L b∨w.heap.size≤b)∧R L'
theorem NMark.flat {f:FuncId} {z:Nat} {rows rows':List (List PV)} {k k':Int} {v:Value} {ob:Option Nat} (hf:MFn P f [.sf 0 z, .int .i64 k] [some (.arr z rows)] [0] (.int .i64 k') [some (.arr z rows')]) (hl:rows'.length=rows.length) (hp':qaT rows') :
  NMark P f v k k' [⟨z,rows,v,ob⟩] fun L'=>L'=[⟨z,rows',v,ob⟩]:=fun A w hA hL hd=>by
 obtain⟨ho,hp⟩:=hL.at_ _ (List.mem_singleton_self _)
 refine (qrz hf hl hA ho hp hp' fun b e=>hd b ⟨_,List.mem_singleton_self _,e⟩).mono fun e w' ⟨he,hm,ho'⟩=>⟨he,_,hm.mono fun b _ e=>⟨_,List.mem_singleton_self _,e⟩, .one (p:=⟨z,rows',v,ob⟩) ho' hp',fun b hb =>?_,rfl⟩
 rcases qaH.1 hb with g | ⟨p,hp,_⟩
 ·exact .inl (qaH.2 (.inl g))
 ·simp at hp
theorem InvP.copy {f:FuncId} {args:List PV} {R:Value→List Pind→Prop} (hf:NCopy P f args R) (h:InvP x n S a w A m L) {vs:Array Value} (hs:vs.size=args.length) (hargs:∀i p,args[i]?=some p→RepI A w p (vs.getD i undef)) {K:Ending→World→Prop}
  (hK:∀v L' w',R v L'→Moved noB w w'→InvP x n S a w' A m (L'++L)→K (.returned v) w'):CallS P f vs w K :=
 (hf A w vs h.inv.aok hs hargs).mono fun e w' ⟨v,L',he,hm,hp,hL,hR⟩=>by
  subst he
  exact hK v L' w' hR hm (h.more hm hp hL)
theorem InvP.mark {f:FuncId} {v:Value} {k k':Int} {R:List Pind→Prop} (hf:NMark P f v k k' L0 R) (h:InvP x n S a w A m (L1++(L0++L2))) {K:Ending→World→Prop}
  (hK:∀L' w',R L'→Moved (pindB L0) w w'→InvP x n S a w' A m (L1++(L'++L2))→K (.returned (.int .i64 k')) w'):CallS P f #[v, .int .i64 k] w K :=
 (hf A w h.inv.aok h.pin.sub.2.1.sub.1 fun b hb=>(h.off b (qau.2 (.inr (qau.2 (.inl hb))))).1).mono fun e w' ⟨he,L',hm,hp,hL,hR⟩=>by
  subst he
  exact hK L' w' hR hm (h.mid hm (fun _ h=>h) hp hL)
theorem qaf (hm:P.follows .mixedOrders=true) {c d:Code} {Q:Exit→Act→World→Prop} (hok:qa8 n c=true) (hI:InvP x n S a w A m L) (h:awp P n c S (thenQ (fun S'=>Weak S' S1) fun _ _=>False))
  (hrest:∀a' w' A' m',InvP x n S1 a' w' A' m' L→d.wp P Q a' w'):c.wp P (Exit.then (d.wp P Q) Q) a w :=
 piece hm hok hI.inv.rebase h fun a' w' A' m' hI'=>hrest a' w' A' m' (hI.step hI')
theorem cutP {id:Nat} {ops:List Oper} {Q:Exit→Act→World→Prop} (T:Nat) (hok:ops.all (opOk n)=true) (hI:InvP x n S a w A m L) (hpre:aOps P false ops (ops.take T) S fun S'=>Weak S' S1)
  (hrest:∀a' w' A' m',InvP x n S1 a' w' A' m' L→wpList P ops.toArray Q (ops.drop T) a' w'):(Code.region id ops.toArray false).wp P Q a w:=by
 refine wp_region_list ?_
 have hl:ops.toArray.toList=ops.take T++ops.drop T:=by simp
 rw[hl]
 have hall1:(ops.take T).all (opOk n)=true:=by
  rw[List.all_eq_true]at hok ⊢
  exact fun o ho=>hok o (List.mem_of_mem_take ho)
 refine qdF hok (ops.drop T) (fun S' a' w' A' m' hw hI' =>?_) (ops.take T) false S a w A m hall1 hI.inv.rebase hpre
 obtain⟨A2,m2,hI2⟩:=hw _ n a' w' A' m' hI'
 exact hrest a' w' A2 m2 (hI.step hI2)
theorem restP {ops rest:List Oper} {Q:Exit→Act→World→Prop} (hok:ops.all (opOk n)=true) (hr:rest.all (opOk n)=true) (hI:InvP x n S a w A m L) (h:aOps P false ops rest S fun S'=>Weak S' S1)
  (hQ:∀a' w' A' m',InvP x n S1 a' w' A' m' L→Q .normal a' w'):wpList P ops.toArray Q rest a w :=
 qcW hok (fun S' a' w' A' m' hw hI'=>by
  obtain⟨A2,m2,hI2⟩:=hw _ n a' w' A' m' hI'
  exact hQ a' w' A2 m2 (hI.step hI2)) rest false S a w A m hr hI.inv.rebase h
theorem qgm {all:Array Oper} {o:Oper} {rest:List Oper} {xs:List Operand} {ts:Array TypeId} {f:FuncId} {Q:Exit→Act→World→Prop} (hg:o.guard=none) (ho:o.op = .call { callee := .value (.func f),args:=xs.toArray,argTypes:=ts })
  (hcall:CallS P f (xs.map a.eval).toArray w fun e w2=>∃v,e = .returned v∧wpList P all Q rest (a.put o.dst v) w2):wpList P all Q (o::rest) a w:=by
 unfold wpList
 rw[if_pos (by simp[Region.wanted,hg])]
 refine .inl (qfO (us := #[]) ho rfl ?_ _ _ fun v w2 hR=>hR)
 simpa using hcall
theorem qfj {h:OFun} {cs:List PV} {v:Value} {j k z:Nat} (hr:RepO A m h w (.agg cs) v) (hj:cs[j]?=some (.sf k z)):∃u,RepO A m h w (.sf k z) u∧RepO A m h w (.agg (cs.set j (.raw u))) v:=by
 have:∃us:Array Value,v = .agg us∧us.size=cs.length∧∀i c,cs[i]?=some c→RepO A m h w c (us.getD i undef):=by
  cases hr with
  | imm hi=>cases hi with | agg _ us hl hh=>exact⟨us,rfl,hl,fun i c hc => .imm (hh i c hc)⟩
  | agg _ us hl hh=>exact⟨us,rfl,hl,hh⟩
 obtain⟨us,rfl,hl,hh⟩:=this
 refine⟨us.getD j undef,hh j _ hj, .agg _ us (by simpa using hl) fun i c hc =>?_⟩
 rw[List.getElem?_set]at hc
 split at hc
 ·rename_i e
  subst e
  split at hc
  ·cases hc; exact .imm (.raw _)
  ·cases hc
 ·exact hh i c hc
end Go.Ab
namespace Go.Ab
variable {P:Program} {A A' B:Nat→Prop} {m m':OMap} {w w':World} {H:Heap} {fr fr':Fr} {a:Act} {x:Ctx} {n:Nat} {S S1:St} {L L' L0 L1 L2:List Pind} {α:Type}
theorem InvP.swap1 {p:Pind} (h:InvP x n S a w A m (p::L)):InvP x n S a w A m (L++[p]):=InvP.swap (L:=[p]) h
theorem InvP.outer {k z:Nat} {rows:List (List PV)} {v:Value} (h:InvP x n S a w A m L) (hk:getO S.H k=some (.arr z rows)) (hr:RepO A m (getO S.H) w (.sf k z) v) (hp:qaT rows) :
  ∃ob,Pinds w (⟨z,rows,v,ob⟩::L)∧∀b,pindB (⟨z,rows,v,ob⟩::L) b→x.M0 b∨x.w0.heap.size≤b:=by
 obtain⟨ob,C,m',hm',h'⟩:=h.pinned (S1:=⟨[],[]⟩) (ρ:=[]) hk hr hp ⟨rfl,trivial,trivial⟩ (by simp)
 exact⟨ob,h'.pin,fun b hb=>(h'.off b hb).2.2⟩
def rowsN (rw:α→Value→List PV) (l:List α) (Li:List Pind):List (List PV):=List.zipWith (fun x p=>rw x p.v) l Li
structure NestI (z2:Nat) (inn:α→List (List PV)) (l:List α) (Li:List Pind):Prop where
 len:Li.length=l.length
 at_:∀(i:Nat) (x:α) (p:Pind),l[i]?=some x→Li[i]?=some p→p.z=z2∧p.rows=inn x
def Nest (z z2:Nat) (rw:α→Value→List PV) (inn:α→List (List PV)) (l:List α) (v:Value) (L:List Pind):Prop:=∃ob Li,L=⟨z,rowsN rw l Li,v,ob⟩::Li∧NestI z2 inn l Li
theorem Nest.one {z z2:Nat} {rw:α→Value→List PV} {inn:α→List (List PV)} {l:List α} {v:Value} {L:List Pind} (h:Nest z z2 rw inn l v L) (hp:Pinds w L):v.oneCell'=true:=by
 obtain⟨ob,Li,rfl,_⟩:=h
 exact (hp.at_ _ (List.mem_cons_self ..)).1.one
theorem qda {z:Nat} {rows:List (List PV)} {v:Value} {L:List Pind} (h:∃ob,L=[⟨z,rows,v,ob⟩]) (hp:Pinds w L):v.oneCell'=true:=by
 obtain⟨ob,rfl⟩:=h
 exact (hp.at_ _ (List.mem_cons_self ..)).1.one
theorem qbz {rw:α→Value→List PV} {l:List α} {Li:List Pind} (h:Li.length=l.length):(rowsN rw l Li).length=l.length:=by simp[rowsN,h]
theorem qkY {rw:α→Value→List PV} {l:List α} {Li:List Pind} {i:Nat} {r:List PV} (h:(rowsN rw l Li)[i]?=some r):∃x p,l[i]?=some x∧Li[i]?=some p∧r=rw x p.v:=by
 simp only[rowsN,List.getElem?_zipWith]at h
 cases hx:l[i]? with
 | none=>rw[hx]at h; simp at h
 | some x =>
  cases hp:Li[i]? with
  | none=>rw[hx,hp]at h; simp at h
  | some p=>rw[hx,hp]at h; simp at h; exact⟨x,p,rfl,rfl,h.symm⟩
theorem qdO {rw:α→Value→List PV} (hrw:∀x u,∀c∈rw x u,pureP c=true) (l:List α) (Li:List Pind):qaT (rowsN rw l Li):=fun r hr c hc=>by
 obtain⟨i,hi⟩:=List.getElem?_of_mem hr
 obtain⟨x,p,_,_,rfl⟩:=qkY hi
 exact hrw x p.v c hc
theorem qrA {rw:α→Value→List PV} {l:List α} {Li:List Pind} (h:Li.length=l.length) (x:α) (p:Pind):rowsN rw (l++[x]) (Li++[p])=rowsN rw l Li++[rw x p.v]:=by
 unfold rowsN
 rw[List.zipWith_append h.symm]
 rfl
theorem NestI.snoc {z2:Nat} {inn:α→List (List PV)} {l:List α} {Li:List Pind} (h:NestI z2 inn l Li) {x:α} {p:Pind} (hz:p.z=z2) (hr:p.rows=inn x):NestI z2 inn (l++[x]) (Li++[p]) :=
 ⟨by simp[h.len],fun i y q hy hq=>by
  have hl:=h.len
  rcases Nat.lt_trichotomy i l.length with g | g | g
  ·rw[List.getElem?_append_left g]at hy
   rw[List.getElem?_append_left (by omega)]at hq
   exact h.at_ i y q hy hq
  ·subst g
   rw[List.getElem?_append_right (Nat.le_refl _),Nat.sub_self]at hy
   rw[List.getElem?_append_right (by omega),hl,Nat.sub_self]at hq
   cases hy
   cases hq
   exact⟨hz,hr⟩
  ·have:=(List.getElem?_eq_some_iff.1 hy).1
   simp at this
   omega⟩
theorem qgn {z2:Nat} {inn:α→List (List PV)} {rw:α→Value→List PV} {l:List α} {Li:List Pind} {i:Nat} {x0:List PV} (h:NestI z2 inn (l.take i) Li) (hi:i≤l.length):(rowsN rw (l.take i) Li++List.replicate (l.length-i) x0).length=l.length:=by
 rw[List.length_append,qbz h.len,List.length_replicate,List.length_take]
 omega
theorem qgo {z2:Nat} {inn:α→List (List PV)} {rw:α→Value→List PV} {l:List α} {Li:List Pind} {i:Nat} {x0:List PV} (h:NestI z2 inn (l.take i) Li) (hi:i<l.length) (h':i<(rowsN rw (l.take i) Li++List.replicate (l.length-i) x0).length):(rowsN rw (l.take i) Li++List.replicate (l.length-i) x0)[i]=x0:=by
 have hl:(rowsN rw (l.take i) Li).length=i:=by rw[qbz h.len,List.length_take]; omega
 rw[List.getElem_append_right (by omega)]
 simp
theorem qgp {z2:Nat} {inn:α→List (List PV)} {rw:α→Value→List PV} {l:List α} {Li:List Pind} {i:Nat} {x0:List PV} (h:NestI z2 inn (l.take i) Li) (hi:i<l.length) {p:Pind} (hz:p.z=z2) (hr:p.rows=inn l[i]) :
  NestI z2 inn (l.take (i+1)) (Li++[p])∧(rowsN rw (l.take i) Li++List.replicate (l.length-i) x0).set i (rw l[i] p.v)=rowsN rw (l.take (i+1)) (Li++[p])++List.replicate (l.length-(i+1)) x0:=by
 have et:l.take (i+1)=l.take i++[l[i]]:=by rw[List.take_add_one,List.getElem?_eq_getElem hi]; rfl
 have hl:(rowsN rw (l.take i) Li).length=i:=by rw[qbz h.len,List.length_take]; omega
 rw[et]
 refine⟨h.snoc hz hr,?_⟩
 rw[qrA h.len,List.set_append_right (h:=by omega),hl,Nat.sub_self,show l.length-i=(l.length-(i+1))+1 by omega,List.replicate_succ,List.set_cons_zero]
 simp
theorem Nest.read {z z2:Nat} {rw:α→Value→List PV} {inn:α→List (List PV)} {cells:α→List PV} {l:List α} {v:Value} {L:List Pind} {F:Nat→Prop} (h:Nest z z2 rw inn l v L) (hp:Pinds w L) (hF:∀b,pindB L b→F b)
  (hc:∀x u,RepI F w (.sl z2 (inn x)) u→(cells x).length=(rw x u).length∧∀(j:Nat) (c c':PV),(rw x u)[j]?=some c→(cells x)[j]?=some c'→(c'=c∧pureP c=true)∨∃u,c = .raw u∧RepI F w c' u):RepI F w (.sl z (l.map cells)) v:=by
 obtain⟨ob,Li,rfl,hN⟩:=h
 obtain⟨ho,_⟩:=hp.at_ _ (List.mem_cons_self ..)
 refine ho.nest (fun b e=>hF b (qaH.2 (.inl e))) (by simp[qbz hN.len]) fun i r r' hr hr' =>?_
 obtain⟨x,p,hx,hpi,rfl⟩:=qkY hr
 rw[List.getElem?_map,hx]at hr'
 cases hr'
 have hm:=List.mem_of_getElem? hpi
 obtain⟨ho',hpp⟩:=hp.at_ p (List.mem_cons_of_mem _ hm)
 obtain⟨hz,hrr⟩:=hN.at_ i x p hx hpi
 refine hc x p.v ?_
 rw[←hz,←hrr]
 exact ho'.plain (fun b e=>hF b (qaH.2 (.inr ⟨p,hm,e⟩))) hpp
end Go.Ab
namespace Go.Ab
variable {P:Program} {A A' B:Nat→Prop} {m m':OMap} {w w':World} {H:Heap} {fr fr':Fr} {a:Act} {x:Ctx} {n:Nat} {S S1:St} {L L' L0 L1 L2:List Pind} {α:Type}
theorem InvP.arg {t:Nat} {p:PV} (h:InvP x n S a w A m L) (hs:slot S.fr t=p) (hp:noOwn p=true) (ht:t<n):RepI A w p (a.tmps.getD t undef):=by
 have:=h.inv.fr t
 rw[hs,qb3 ht]at this
 exact (qfP (H:=[]) hp this).1
theorem NCopy.flat {f:FuncId} {args:List PV} {z:Nat} {rows:List (List PV)} (hf:HFn P f args [] (.sf 0 z) [some (.arr z rows)]) (hp:qaT rows):NCopy P f args fun v L=>∃ob,L=[⟨z,rows,v,ob⟩]:=fun A w vs hA hvs hargs=>by
 refine (hf A noM w vs hA ⟨fun k o hk=>by simp[getO]at hk,fun k k' o o' b C C' hk=>by simp[getO]at hk⟩ hvs fun i p hi => .imm (hargs i p hi)).mono fun e w' ⟨v,A',m',he,hc⟩ =>?_
 have hno:∀b,¬OwnB noM (getO []) b:=fun b ⟨k,o,C,hk,_⟩=>by simp[getO]at hk
 obtain⟨ob,C,hm,ho⟩:=OwnAt.of (k:=0) hc.conc rfl hc.rep hp
 refine⟨v,[⟨z,rows,v,ob⟩],he,hc.moved.mono fun b _ h=>(hno b h).elim, .one (p:=⟨z,rows,v,ob⟩) ho hp,fun b hb =>?_,ob,rfl⟩
 rcases qaH.1 hb with g | ⟨p,hp,_⟩
 ·exact (hc.own b ⟨0,_,C,rfl,by rw[hm]; simpa using g⟩).resolve_left (hno b)
 ·simp at hp
theorem qdP {h:OFun} {cs:List PV} {v:Value} (hr:RepO A m h w (.agg cs) v) (hp:∀c∈cs,pureP c=true):RepI A' w' (.agg cs) v:=by
 have:∃us:Array Value,v = .agg us∧us.size=cs.length∧∀i c,cs[i]?=some c→RepO A m h w c (us.getD i undef):=by
  cases hr with
  | imm hi=>cases hi with | agg _ us hl hh=>exact⟨us,rfl,hl,fun i c hc => .imm (hh i c hc)⟩
  | agg _ us hl hh=>exact⟨us,rfl,hl,hh⟩
 obtain⟨us,rfl,hl,hh⟩:=this
 refine .agg _ us hl fun i c hc =>?_
 have hpc:=hp c (List.mem_of_getElem? hc)
 have:=(hh i c hc).pure (A':=A') (w':=w') (m':=noM) (h':=noH) hpc
 cases c<;>simp[pureP]at hpc<;>(cases this; assumption)
def partV (j:Nat):Value→Value
 | .agg us=>us.getD j undef
 | _=>undef
theorem NCopy.part {f:FuncId} {args:List PV} {z j:Nat} {rows:List (List PV)} {cs:List PV} (hf:HFn P f args [] (.agg cs) [some (.arr z rows)]) (hj:cs[j]?=some (.sf 0 z)) (hp:qaT rows) (hc:∀u,∀c∈cs.set j (.raw u),pureP c=true) :
  NCopy P f args fun v L=>(∃ob,L=[⟨z,rows,partV j v,ob⟩])∧∀A w,RepI A w (.agg (cs.set j (.raw (partV j v)))) v:=fun A w vs hA hvs hargs=>by
 refine (hf A noM w vs hA ⟨fun k o hk=>by simp[getO]at hk,fun k k' o o' b C C' hk=>by simp[getO]at hk⟩ hvs fun i p hi => .imm (hargs i p hi)).mono fun e w' ⟨v,A',m',he,hc'⟩ =>?_
 have hno:∀b,¬OwnB noM (getO []) b:=fun b ⟨k,o,C,hk,_⟩=>by simp[getO]at hk
 obtain⟨u,hu,hr⟩:=qfj hc'.rep hj
 obtain⟨ob,C,hm,ho⟩:=OwnAt.of (k:=0) hc'.conc rfl hu hp
 have hru:=qdP (A':=A) (w':=w) hr (hc u)
 have huv:partV j v=u:=by
  cases hru with
  | agg _ us hl hh =>
   have hjl:=(List.getElem?_eq_some_iff.1 hj).1
   have:=hh j (.raw u) (by simp[hjl])
   show us.getD j undef=u
   generalize us.getD j undef=y at *
   cases this
   rfl
 refine⟨v,[⟨z,rows,u,ob⟩],he,hc'.moved.mono fun b _ h=>(hno b h).elim, .one (p:=⟨z,rows,u,ob⟩) ho hp,fun b hb =>?_,⟨ob,by rw[huv]⟩,fun A w =>?_⟩
 ·rcases qaH.1 hb with g | ⟨p,hp,_⟩
  ·exact (hc'.own b ⟨0,_,C,rfl,by rw[hm]; simpa using g⟩).resolve_left (hno b)
  ·simp at hp
 ·rw[huv]
  exact qdP hr (hc u)
theorem copyP {id t d:Nat} {ops:List Oper} {o:Oper} {ts:Array TypeId} {f:FuncId} {p:PV} {R:Value→List Pind→Prop} {pv:Value→PV} {S2:Value→St} {Q:Exit→Act→World→Prop} (T:Nat) (hok:ops.all (opOk n)=true) (hI:InvP x n S a w A m L) (hT:ops[T]?=some o) (hg:o.guard=none)
  (ho:o.op = .call { callee := .value (.func f),args := #[.tmp t],argTypes:=ts }) (hd:o.dst=some d) (hdn:d<n) (htn:t<n) (hf:NCopy P f [p] R) (hp:noOwn p=true) (hs:slot S1.fr t=p) (hR:∀v L',R v L'→∀A w,RepI A w (pv v) v) {C:Value→Prop} (hC:∀v L' w,R v L'→Pinds w L'→C v)
  (hpre:aOps P false ops (ops.take T) S fun S'=>Weak S' S1) (hpost:∀v,C v→aOps P false ops (ops.drop (T+1)) ⟨put S1.fr (some d) (pv v),S1.H⟩ fun S'=>Weak S' (S2 v))
  (hQ:∀v L' a' w' A' m',C v→R v L'→InvP x n (S2 v) a' w' A' m' (L'++L)→Q .normal a' w'):(Code.region id ops.toArray false).wp P Q a w:=by
 refine cutP T hok hI hpre fun a1 w1 A1 m1 hI1 =>?_
 have hlt:=(List.getElem?_eq_some_iff.1 hT).1
 have e:ops[T]=o:=(List.getElem?_eq_some_iff.1 hT).2
 rw[List.drop_eq_getElem_cons hlt,e]
 refine qgm (xs:=[.tmp t]) (ts:=ts) hg ho (hI1.copy hf rfl (fun i q hi =>?_) fun v L' w2 hr _ hI2=>⟨v,rfl,?_⟩)
 ·match i with
  | 0=>cases hi; exact hI1.arg hs hp htn
  | i+1=>simp at hi
 ·rw[hd]
  refine restP hok ?_ (hI2.val (d:=some d) (p:=pv v) (by simpa using hdn) (.imm (hR v L' hr _ _))) (hpost v (hC v L' _ hr hI2.pin.sub.1)) fun a3 w3 A3 m3 hI3=>hQ v L' a3 w3 A3 m3 (hC v L' _ hr hI2.pin.sub.1) hr hI3
  rw[List.all_eq_true]at hok ⊢
  exact fun o ho=>hok o (List.mem_of_mem_drop ho)
end Go.Ab
namespace Go.Ab
variable {P:Program} {A A' B:Nat→Prop} {m m':OMap} {w w':World} {H:Heap} {fr fr':Fr} {a:Act} {x:Ctx} {n:Nat} {S S1:St} {L L' L0 L1 L2:List Pind} {α:Type}
theorem qbm {h:OFun} {p:PV} {v:Value} (hp:pureP p=true) (hr:RepO A m h w p v):RepI A' w' p v:=by
 have:=hr.pure (A':=A') (w':=w') (m':=noM) (h':=noH) hp
 cases p<;>simp[pureP]at hp<;>(cases this; assumption)
theorem markP {id t t' d:Nat} {ops:List Oper} {o:Oper} {ts:Array TypeId} {f:FuncId} {pv:PV} {k k':Int} {R:List Pind→Prop} {S2:St} {Q:Exit→Act→World→Prop} (T:Nat) (hok:ops.all (opOk n)=true) (hI:InvP x n S a w A m (L1++(L0++L2))) (hT:ops[T]?=some o) (hg:o.guard=none)
  (ho:o.op = .call { callee := .value (.func f),args := #[.tmp t, .tmp t'],argTypes:=ts }) (hd:o.dst=some d) (hdn:d<n) (htn:t<n) (htn':t'<n) (hf:∀v,(∀A w,RepI A w pv v)→NMark P f v k k' L0 R) (hpv:∀ {A m h w A' w' v},RepO A m h w pv v→RepI A' w' pv v) (hs:slot S1.fr t=pv) (hs':slot S1.fr t' = .int .i64 k)
  (hpre:aOps P false ops (ops.take T) S fun S'=>Weak S' S1) (hpost:aOps P false ops (ops.drop (T+1)) ⟨put S1.fr (some d) (.int .i64 k'),S1.H⟩ fun S'=>Weak S' S2)
  (hQ:∀L' a' w' A' m',R L'→InvP x n S2 a' w' A' m' (L1++(L'++L2))→Q .normal a' w'):(Code.region id ops.toArray false).wp P Q a w:=by
 refine cutP T hok hI hpre fun a1 w1 A1 m1 hI1 =>?_
 have hlt:=(List.getElem?_eq_some_iff.1 hT).1
 have e:ops[T]=o:=(List.getElem?_eq_some_iff.1 hT).2
 rw[List.drop_eq_getElem_cons hlt,e]
 have hv:=hI1.inv.fr t
 rw[hs,qb3 htn]at hv
 have hk:=hI1.inv.fr t'
 rw[hs',qb3 htn']at hk
 have hk':a1.tmps.getD t' undef = .int .i64 k:=by
  generalize a1.tmps.getD t' undef=y at hk
  cases hk with
  | imm hi=>cases hi; rfl
 have hargs:(([.tmp t, .tmp t']:List Operand).map a1.eval).toArray = #[a1.tmps.getD t undef, .int .i64 k]:=by
  show #[a1.tmps.getD t undef,a1.tmps.getD t' undef]=_
  rw[hk']
 refine qgm (xs:=[.tmp t, .tmp t']) (ts:=ts) hg ho ?_
 rw[hargs]
 refine hI1.mark (hf _ fun A w=>hpv hv) fun L' w2 hr _ hI2=>⟨_,rfl,?_⟩
 rw[hd]
 refine restP hok ?_ (hI2.val (d:=some d) (p := .int .i64 k') (by simpa using hdn) (.imm (.int _ _))) hpost fun a3 w3 A3 m3 hI3=>hQ L' a3 w3 A3 m3 hr hI3
 rw[List.all_eq_true]at hok ⊢
 exact fun o ho=>hok o (List.mem_of_mem_drop ho)
theorem InvP.home {t k z:Nat} {rows rows':List (List PV)} {v:Value} {ob:Option Nat} {w0:World} (h:InvP x n S a w A m L) (hk:getO S.H k=some (.arr z rows')) (hs:slot S.fr t = .own k) (hg:look x n a t=ownV ob (capV v)) (ho:OwnAt w0 z rows v ob) (hl:rows'.length=rows.length) (hp:qaT rows'):Pinds w (⟨z,rows',v,ob⟩::L):=by
 have hr:=h.inv.fr t
 rw[hs,hg]at hr
 obtain⟨ob',C',hm',hO⟩:=h.inv.conc.at_ k _ hk
 have e:ob'=ob∧C'=capV v:=by
  generalize hy:ownV ob (capV v)=y at hr
  cases hr with
  | imm hi=>cases hi
  | own _ C ob2 o hk2 hm2 =>
   rw[hm']at hm2
   cases hm2
   unfold ownV at hy
   cases ob<;>cases ob'<;>simp at hy ⊢
   ·exact hy.symm
   ·exact⟨hy.1.symm,hy.2.symm⟩
 obtain⟨rfl,rfl⟩:=e
 refine (Pinds.one (p:=⟨z,rows',v,ob'⟩) (ho.back hl hp rfl hO) hp).app h.pin fun b hb hb' =>?_
 rcases qaH.1 hb with g | ⟨p,hp,_⟩
 ·exact (h.off b hb').2.1 ⟨k,_,capV v,hk,by rw[hm']; simpa using g⟩
 ·simp at hp
theorem qdq (f:α→Nat):∀(l:List α),(∀x,1≤f x)→l.length≤(l.map f).sum
 | [],_=>Nat.zero_le _
 | x::r,h=>by
  have:=qdq f r h
  have:=h x
  simp only[List.length_cons,List.map_cons,List.sum_cons]
  omega
def qav (f:Int→α→α) (cnt:α→Nat):Int→List α→List α
 | _,[]=>[]
 | k,x::r=>f k x::qav f cnt (k+cnt x) r
theorem qdr (f:Int→α→α) (cnt:α→Nat):∀(k:Int) (l:List α),(qav f cnt k l).length=l.length
 | _,[]=>rfl
 | k,x::r=>by simp[qav,qdr f cnt _ r]
theorem qkZ (f:Int→α→α) (cnt:α→Nat) (y:α):∀(k:Int) (l:List α),qav f cnt k (l++[y])=qav f cnt k l++[f (k+((l.map cnt).sum:Nat)) y]
 | k,[]=>by simp[qav]
 | k,x::r=>by
  simp only[List.cons_append,qav,qkZ f cnt y _ r,List.map_cons,List.sum_cons]
  congr 4
  omega
def qaY (f:Int→α→α) (cnt:α→Nat) (k:Int) (l:List α) (i:Nat):List α:=qav f cnt k (l.take i)++l.drop i
theorem qdQ {f:Int→α→α} {cnt:α→Nat} {k:Int} {l:List α}:qaY f cnt k l 0=l:=by simp[qaY,qav]
theorem qgq {f:Int→α→α} {cnt:α→Nat} {k:Int} {l:List α}:qaY f cnt k l l.length=qav f cnt k l:=by simp[qaY]
theorem qdR {f:Int→α→α} {cnt:α→Nat} {k:Int} {l:List α} {i:Nat}:(qaY f cnt k l i).length=l.length:=by
 simp only[qaY,List.length_append,qdr,List.length_take,List.length_drop]
 omega
theorem qdS {f:Int→α→α} {cnt:α→Nat} {k:Int} {l:List α} {i:Nat} (h:i<l.length):(qaY f cnt k l i)[i]?=some l[i]:=by
 unfold qaY
 rw[List.getElem?_append_right (by rw[qdr,List.length_take]; omega),qdr,List.length_take,List.getElem?_drop,show i+(i-min i l.length)=i by omega,List.getElem?_eq_getElem h]
theorem qgr {f:Int→α→α} {cnt:α→Nat} {k:Int} {l:List α} {i:Nat} (h:i<l.length):(qaY f cnt k l i).set i (f (k+sumT cnt l i) l[i])=qaY f cnt k l (i+1):=by
 unfold qaY
 rw[show l.take (i+1)=l.take i++[l[i]] by rw[List.take_add_one,List.getElem?_eq_getElem h]; rfl,qkZ]
 have e:(qav f cnt k (l.take i)).length=i:=by rw[qdr,List.length_take]; omega
 rw[List.set_append_right (h:=by omega),e,Nat.sub_self,List.drop_eq_getElem_cons h,List.set_cons_zero]
 simp[sumT]
theorem NestI.set {z2:Nat} {inn:α→List (List PV)} {rw:α→Value→List PV} {l:List α} {Li:List Pind} (h:NestI z2 inn l Li) {i:Nat} {x:α} {p:Pind} (hz:p.z=z2) (hr:p.rows=inn x):NestI z2 inn (l.set i x) (Li.set i p)∧rowsN rw (l.set i x) (Li.set i p)=(rowsN rw l Li).set i (rw x p.v):=by
 refine⟨⟨by simp[h.len],fun j y q hy hq =>?_⟩,?_⟩
 ·rw[List.getElem?_set]at hy hq
  by_cases e:i=j
  ·subst e
   simp only[if_true]at hy hq
   split at hy
   ·split at hq
    ·cases hy; cases hq; exact⟨hz,hr⟩
    ·cases hq
   ·cases hy
  ·rw[if_neg e]at hy hq
   exact h.at_ j y q hy hq
 ·apply List.ext_getElem?
  intro j
  simp only[rowsN,List.getElem?_zipWith,List.getElem?_set]
  by_cases e:i=j
  ·subst e
   have hl:=h.len
   by_cases g:i<l.length
   ·simp[g,hl]
   ·simp[g,hl]
  ·simp[e]
end Go.Ab
namespace Go.Ab
variable {P:Program} {A A' B:Nat→Prop} {m m':OMap} {w w':World} {H:Heap} {fr fr':Fr} {a:Act} {x:Ctx} {n:Nat} {S S1:St} {L L' L0 L1 L2:List Pind} {α:Type}
theorem qk0 {b:Nat} (h:L.Perm L'):pindB L b↔pindB L' b:=⟨fun ⟨p,hp,e⟩=>⟨p,h.mem_iff.1 hp,e⟩,fun ⟨p,hp,e⟩=>⟨p,h.mem_iff.2 hp,e⟩⟩
theorem Pinds.perm (hp:L.Perm L'):Pinds w L→Pinds w L':=by
 induction hp with
 | nil=>exact id
 | cons p h ih =>
  intro g
  obtain⟨g1,g2,d⟩:=Pinds.sub (l:=[p]) g
  exact Pinds.app (l:=[p]) g1 (ih g2) fun b hb hb'=>d b hb ((qk0 h).2 hb')
 | swap p q l =>
  intro g
  obtain⟨g1,g2,d⟩:=Pinds.sub (l:=[q]) (r:=p::l) g
  obtain⟨g3,g4,d2⟩:=Pinds.sub (l:=[p]) (r:=l) g2
  refine Pinds.app (l:=[p]) (r:=q::l) g3 (Pinds.app (l:=[q]) (r:=l) g1 g4 fun b hb hb'=>d b hb (qaH.2 (.inr hb'))) fun b hb hb' =>?_
  rcases qaH.1 hb' with h | h
  ·refine d b (qaH.2 (.inl h)) (qaH.2 (.inl ?_))
   rcases qaH.1 hb with h | ⟨_,h,_⟩
   ·exact h
   ·simp at h
  ·exact d2 b hb h
 | trans _ _ ih1 ih2=>exact fun g=>ih2 (ih1 g)
theorem InvP.perm (hp:L.Perm L') (h:InvP x n S a w A m L):InvP x n S a w A m L':=⟨h.inv,h.pin.perm hp,fun b hb=>h.off b ((qk0 hp).2 hb)⟩
theorem InvP.readCall {f:FuncId} {args:List PV} {z:Nat} {rows:List (List PV)} {code:Int} (hf:HFn P f args [] (.tup [.sf 0 z, .int .i64 code]) [some (.arr z rows)]) (h:InvP x n ⟨fr,H⟩ a w A m L) {vs:Array Value} (hs:vs.size=args.length) (hargs:∀i p,args[i]?=some p→RepI (fun b=>A b∨pindB L b) w p (vs.getD i undef)) (hp:qaT rows) {K:Ending→World→Prop}
  (hK:∀v w' m',InvP x n ⟨fr,H++[some (.arr z rows)]⟩ a w' A m' L→RepO A m' (getO (H++[some (.arr z rows)])) w' (.tup [.sf H.length z, .int .i64 code]) v→K (.returned v) w'):CallS P f vs w K:=by
 refine (hf (fun b=>A b∨pindB L b) noM w vs (h.pin.aok h.inv.aok) ⟨fun k o hk=>by simp[getO]at hk,fun k k' o o' b C C' hk=>by simp[getO]at hk⟩ hs fun i p hi => .imm (hargs i p hi)).mono fun e w' ⟨v,A',m',he,hc⟩ =>?_
 subst he
 have hno:∀b,¬OwnB noM (getO []) b:=fun b ⟨k,o,C,hk,_⟩=>by simp[getO]at hk
 obtain⟨us,rfl,hus,hh⟩:∃us:Array Value,v = .tuple us∧us.size=2∧∀i c,[PV.sf 0 z, .int .i64 code][i]?=some c→RepO A' m' (getO [some (.arr z rows)]) w' c (us.getD i undef):=by
  have:=hc.rep
  cases this with
  | imm hi=>cases hi with | tup _ us hl hh=>exact⟨us,rfl,hl,fun i c hc => .imm (hh i c hc)⟩
  | tup _ us hl hh=>exact⟨us,rfl,hl,hh⟩
 obtain⟨ob,C,hm,ho⟩:=OwnAt.of (k:=0) hc.conc rfl (hh 0 _ rfl) hp
 have hP:InvP x n ⟨fr,H⟩ a w' A m ([⟨z,rows,us.getD 0 undef,ob⟩]++L):=h.more (hc.moved.mono fun b _ h=>(hno b h).elim) (.one (p:=⟨z,rows,us.getD 0 undef,ob⟩) ho hp) fun b hb=>by
  rcases qaH.1 hb with g | ⟨p,hp,_⟩
  ·exact (hc.own b ⟨0,_,C,rfl,by rw[hm]; simpa using g⟩).resolve_left (hno b)
  ·simp at hp
 obtain⟨m2,hP2,hr,_⟩:=hP.adopt
 refine hK _ w' m2 hP2 (.tup _ us hus fun i c hi =>?_)
 match i with
 | 0=>cases hi; exact hr
 | 1 =>
  cases hi
  have:=hh 1 _ rfl
  exact this.pure rfl
 | i+2=>simp at hi
theorem InvP.readPure {f:FuncId} {args:List PV} {res:PV} (hf:HFn P f args [] res []) (hres:pureP res=true) (h:InvP x n S a w A m L) {vs:Array Value} (hs:vs.size=args.length) (hargs:∀i p,args[i]?=some p→RepI (fun b=>A b∨pindB L b) w p (vs.getD i undef)) {K:Ending→World→Prop}
  (hK:∀v w',InvP x n S a w' A m L→(∀A w,RepI A w res v)→K (.returned v) w'):CallS P f vs w K:=by
 refine (hf (fun b=>A b∨pindB L b) noM w vs (h.pin.aok h.inv.aok) ⟨fun k o hk=>by simp[getO]at hk,fun k k' o o' b C C' hk=>by simp[getO]at hk⟩ hs fun i p hi => .imm (hargs i p hi)).mono fun e w' ⟨v,A',m',he,hc⟩ =>?_
 subst he
 have hno:∀b,¬OwnB noM (getO []) b:=fun b ⟨k,o,C,hk,_⟩=>by simp[getO]at hk
 exact hK v w' (h.over (M:=noB) (hc.moved.mono fun b _ h=>(hno b h).elim) (fun b hb=>hb.elim) (h.pin.moved (hc.moved.mono (M':=noB) fun b _ h=>(hno b h).elim) fun b _ hb=>hb.elim) fun b hb => .inl hb) fun A w=>qbm hres hc.rep
theorem qrB {f:FuncId} {args:List PV} {res:PV} (hplain:args.all noOwn=true) (h:∀(A:Nat→Prop) (w:World) (vs:Array Value),AOk A w→vs.size=args.length→(∀i p,args[i]?=some p→RepI A w p (vs.getD i undef))→CallS P f vs w fun e w'=>∃v,e = .returned v∧Moved noB w w'∧RepI A w' res v):HFn P f args [] res []:=fun A m w vs hA hC hs ha=>by
 have hno:∀b,¬OwnB m (getO []) b:=fun b ⟨k,o,C,hk,_⟩=>by simp[getO]at hk
 refine (h A w vs hA hs fun i p hi=>(qfP (H:=[]) (List.all_eq_true.1 hplain p (List.mem_of_getElem? hi)) (ha i p hi)).1).mono fun e w' ⟨v,he,hm,hr⟩=>⟨v,A,m,he,?_⟩
 exact⟨hm.mono fun _ _ h=>h.elim,fun b hb => .inl hb,hA.mono (fun b hb=>Nat.lt_of_lt_of_le (hA b hb) hm.size) (fun _ h=>h) fun b hb=>hm.block b (hA b hb) fun h=>h,⟨fun k o hk=>by simp[getO]at hk,fun k _ o _ _ _ _ hk=>by simp[getO]at hk⟩,fun b hb=>(hno b hb).elim, .imm hr⟩
end Go.Ab
namespace Go.Ab
variable {P:Program} {A A' B:Nat→Prop} {m m':OMap} {w w':World} {H:Heap} {fr fr':Fr} {a:Act} {x:Ctx} {n:Nat} {S S1:St} {L L' L0 L1 L2:List Pind} {α:Type}
theorem qhI {f : FuncId} {fn : Func} {c : Code} {pv : PV} {v : Value} {k k' : Int} {R : List Pind → Prop} (hf : P.funcs[f]? = some fn) (hname : (fn.name == "runtime.NumGoroutine") = false) (hb : fn.body = some c) (hok : fn.results.toList.all (resLt fn.ntmps) = true) (hn0 : Nat.ble 2 fn.ntmps = true) (hv : ∀ A w, RepI A w pv v)
  (h:∀A w a,Pinds w L→InvP ⟨w,A,pindB L,fun _=>undef⟩ fn.ntmps ⟨argFr 0 [pv, .int .i64 k],[]⟩ a w A noM L→c.wp P (fun e a' w'=>(e = .normal∨e = .ret)∧∃S' A' m' L',InvP ⟨w,A,pindB L,fun _=>undef⟩ fn.ntmps S' a' w' A' m' L'∧qaL P S' fn.results.toList∧retV P S' fn.results.toList = .int .i64 k'∧R L') a w):NMark P f v k k' L R:=fun A w hA hL hd=>by
 refine (qcz (args:=[pv, .int .i64 k]) (M:=pindB L) (gh:=fun _=>undef) (R:=fun r w'=>r = .int .i64 k'∧∃L',Moved (pindB L) w w'∧Pinds w' L'∧(∀b,pindB L' b→pindB L b∨w.heap.size≤b)∧R L') hf hname hb hok hn0 (vs := #[v, .int .i64 k]) hA rfl (fun i p hi =>?_) fun a hI =>?_).mono fun e w' ⟨r,he,hr,h1⟩=>⟨by rw[he,hr],h1⟩
 ·match i with
  | 0=>cases hi; exact hv _ _
  | 1=>cases hi; exact .int _ _
  | i+2=>simp at hi
 ·refine wp_mono (h A w a hL ⟨hI,hL,fun b hb=>⟨hd b hb,fun ⟨k,o,C,hk,_⟩=>by simp[getO]at hk, .inl hb⟩⟩) fun e a' w' ⟨he,S',A',m',L',hI',hr,hv',hR⟩=>⟨he,S',A',m',hI'.inv,hr,fun r hrr=>⟨?_,L',hI'.inv.moved,hI'.pin,fun b hb=>(hI'.off b hb).2.2,hR⟩⟩
  rw[hv']at hrr
  cases hrr with
  | imm hi=>cases hi; rfl
end Go.Ab
namespace Go.Ab
variable {P:Program} {A A' B:Nat→Prop} {m m':OMap} {w w':World} {H:Heap} {fr fr':Fr} {a:Act} {x:Ctx} {n:Nat} {S S1:St} {L L' L0 L1 L2:List Pind} {α:Type}
theorem qrC {e:Exit} {rs:List ResultVar} {res:PV} (h:ret0 P rs res e S) (hI:Inv x n S a w A m) (hp:pureP res=true):(e = .normal∨e = .ret)∧qaL P S rs∧∀v,RepO A m (getO S.H) w (retV P S rs) v→∀A' w',RepI A' w' res v:=by
 have key:ret0 P rs res .ret S→qaL P S rs∧∀v,RepO A m (getO S.H) w (retV P S rs) v→∀A' w',RepI A' w' res v:=fun h=>by
  obtain⟨h1,hw⟩:RetOk P rs res [] .ret S:=qab .ret S h
  refine⟨h1,fun v hv A' w' =>?_⟩
  have hI1:Inv ⟨w,A,OwnB m (getO S.H),fun _=>undef⟩ 1 ⟨[(0,retV P S rs)],S.H⟩ { tmps := #[v],defers:=[] } w A m:=⟨.refl _ _,fun _ h => .inl h,hI.aok,hI.conc,fun _ h => .inl h,fun t=>by
   cases t with
   | zero=>exact hv
   | succ t=>exact .imm (.top _),rfl,rfl⟩
  obtain⟨A2,m2,hI2⟩:=hw _ _ _ _ _ _ hI1
  exact qbm hp (hI2.fr 0)
 cases e with
 | normal=>exact⟨.inl rfl,key h⟩
 | ret=>exact⟨.inr rfl,key h⟩
 | _=>exact h.elim
theorem readP {id t d z:Nat} {ops:List Oper} {o:Oper} {ts:Array TypeId} {f:FuncId} {p:PV} {rows:List (List PV)} {code:Int} {S2:St} {Q:Exit→Act→World→Prop} (T:Nat) (hok:ops.all (opOk n)=true) (hI:InvP x n S a w A m L) (hT:ops[T]?=some o) (hg:o.guard=none)
  (ho:o.op = .call { callee := .value (.func f),args := #[.tmp t],argTypes:=ts }) (hd:o.dst=some d) (hdn:d<n) (hf:HFn P f [p] [] (.tup [.sf 0 z, .int .i64 code]) [some (.arr z rows)]) (hp:qaT rows)
  (hpre:aOps P false ops (ops.take T) S fun S'=>Weak S' S1) (harg:∀a1 w1 A1 m1,InvP x n S1 a1 w1 A1 m1 L→RepI (fun b=>A1 b∨pindB L b) w1 p (a1.tmps.getD t undef))
  (hpost:aOps P false ops (ops.drop (T+1)) ⟨put S1.fr (some d) (.tup [.sf S1.H.length z, .int .i64 code]),S1.H++[some (.arr z rows)]⟩ fun S'=>Weak S' S2) (hQ:∀a' w' A' m',InvP x n S2 a' w' A' m' L→Q .normal a' w'):(Code.region id ops.toArray false).wp P Q a w:=by
 refine cutP T hok hI hpre fun a1 w1 A1 m1 hI1 =>?_
 have hlt:=(List.getElem?_eq_some_iff.1 hT).1
 have e:ops[T]=o:=(List.getElem?_eq_some_iff.1 hT).2
 rw[List.drop_eq_getElem_cons hlt,e]
 have hall:(ops.drop (T+1)).all (opOk n)=true:=by
  rw[List.all_eq_true]at hok ⊢
  exact fun o ho=>hok o (List.mem_of_mem_drop ho)
 refine qgm (xs:=[.tmp t]) (ts:=ts) hg ho (InvP.readCall (fr:=S1.fr) (H:=S1.H) hf hI1 rfl (fun i q hi =>?_) hp fun v w2 m2 hI2 hr=>⟨v,rfl,?_⟩)
 ·match i with
  | 0=>cases hi; exact harg _ _ _ _ hI1
  | i+1=>simp at hi
 ·rw[hd]
  exact restP hok hall (hI2.val (d:=some d) (by simpa using hdn) hr) hpost fun a3 w3 A3 m3 hI3=>hQ a3 w3 A3 m3 hI3
theorem qrD {id t t' d:Nat} {ops:List Oper} {o:Oper} {ts:Array TypeId} {f:FuncId} {p p':PV} {c:Bool} {S2:St} {Q:Exit→Act→World→Prop} (T:Nat) (hm:P.follows .mixedOrders=true) (hb:tailB n ops T=true) (hS:∀f,isEf f (slot S.fr effS)=false) (hI:InvP x n S a w A m L) (hT:ops[T]?=some o) (hg:o.guard=none)
  (ho:o.op = .call { callee := .value (.func f),args := #[.tmp t, .tmp t'],argTypes:=ts }) (hd:o.dst=some d) (hdn:d<n) (hf:HFn P f [p,p'] [] (.bool c) [])
  (hpre:aOps P true ops (ops.take T) S fun S'=>Weak S' S1) (harg:∀a1 w1 A1 m1,InvP x n S1 a1 w1 A1 m1 L→RepI (fun b=>A1 b∨pindB L b) w1 p (a1.tmps.getD t undef)∧RepI (fun b=>A1 b∨pindB L b) w1 p' (a1.tmps.getD t' undef))
  (hpost:aOps P false ops (ops.drop (T+1)) ⟨put S1.fr (some d) (.bool c),S1.H⟩ fun S'=>Weak S' S2) (hQ:∀a' w' A' m',InvP x n S2 a' w' A' m' L→Q .normal a' w'):(Code.region id ops.toArray true).wp P Q a w:=by
 have hok:ops.all (opOk n)=true:=by
  simp only[tailB,Bool.and_eq_true]at hb
  exact hb.1.1.2
 refine qnM hm hb hS hI.inv.rebase hpre fun S' a1 w1 A' m' hw hI' =>?_
 obtain⟨A1,m1,hI1'⟩:=hw _ n a1 w1 A' m' hI'
 have hI1:=hI.step hI1'
 have hlt:=(List.getElem?_eq_some_iff.1 hT).1
 have e:ops[T]=o:=(List.getElem?_eq_some_iff.1 hT).2
 rw[List.drop_eq_getElem_cons hlt,e]
 have hall:(ops.drop (T+1)).all (opOk n)=true:=by
  rw[List.all_eq_true]at hok ⊢
  exact fun o ho=>hok o (List.mem_of_mem_drop ho)
 refine qgm (xs:=[.tmp t, .tmp t']) (ts:=ts) hg ho (InvP.readPure hf rfl hI1 rfl (fun i q hi =>?_) fun v w2 hI2 hr=>⟨v,rfl,?_⟩)
 ·match i with
  | 0=>cases hi; exact (harg _ _ _ _ hI1).1
  | 1=>cases hi; exact (harg _ _ _ _ hI1).2
  | i+2=>simp at hi
 ·rw[hd]
  exact restP hok hall (hI2.val (d:=some d) (p := .bool c) (by simpa using hdn) (.imm (hr _ _))) hpost fun a3 w3 A3 m3 hI3=>⟨rfl,hQ a3 w3 A3 m3 hI3⟩
end Go.Ab
