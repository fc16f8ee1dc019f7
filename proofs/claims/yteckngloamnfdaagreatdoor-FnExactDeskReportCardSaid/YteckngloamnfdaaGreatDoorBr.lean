/- Many lists of one's own, pinned beside the engine, and nested lists read through them. No condition. -/
import Derived.Test.YteckngloamnfdaaGreatDoorBp
namespace Go.Ab
variable {P:Program} {A A' B:Nat→Prop} {m m':OMap} {w w':World} {H:Heap} {fr:Fr} {a:Act} {x:Ctx} {n:Nat}
structure Pind where
 z:Nat
 rows:List (List PV)
 v:Value
 ob:Option Nat
def pindB (l:List Pind) (b:Nat):Prop:=∃p∈l,p.ob=some b
structure Pinds (w:World) (l:List Pind):Prop where
 at_:∀p∈l,OwnAt w p.z p.rows p.v p.ob∧qaT p.rows
 inj:∀(i j:Nat) (p q:Pind) (b:Nat),l[i]?=some p→l[j]?=some q→p.ob=some b→q.ob=some b→i=j
theorem Pinds.lt {l:List Pind} (h:Pinds w l) {b:Nat} (hb:pindB l b):b<w.heap.size:=by
 obtain⟨p,hp,e⟩:=hb
 have:=(h.at_ p hp).1
 rw[e]at this
 exact this.lt
theorem Pinds.moved {M:Nat→Prop} {l:List Pind} (h:Pinds w l) (hm:Moved M w w') (hd:∀b,pindB l b→¬M b):Pinds w' l :=
 ⟨fun p hp=>⟨(h.at_ p hp).1.moved (h.at_ p hp).2 hm fun b e=>hd b ⟨p,hp,e⟩,(h.at_ p hp).2⟩,h.inj⟩
theorem Pinds.nil:Pinds w []:=⟨fun p hp=>by simp at hp,fun i j p q b hi=>by simp at hi⟩
theorem Pinds.app {l r:List Pind} (hl:Pinds w l) (hr:Pinds w r) (hd:∀b,pindB l b→¬pindB r b):Pinds w (l++r):=by
 refine⟨fun p hp =>?_,fun i j p q b hi hj hp hq =>?_⟩
 ·rcases List.mem_append.1 hp with h | h
  ·exact hl.at_ p h
  ·exact hr.at_ p h
 ·rw[List.getElem?_append]at hi hj
  split at hi
  ·split at hj
   ·exact hl.inj i j p q b hi hj hp hq
   ·exact absurd ⟨q,List.mem_of_getElem? hj,hq⟩ (hd b ⟨p,List.mem_of_getElem? hi,hp⟩)
  ·split at hj
   ·exact absurd ⟨p,List.mem_of_getElem? hi,hp⟩ (hd b ⟨q,List.mem_of_getElem? hj,hq⟩)
   ·have:=hr.inj _ _ p q b hi hj hp hq
    omega
theorem Pinds.sub {l r:List Pind} (h:Pinds w (l++r)):Pinds w l∧Pinds w r∧∀b,pindB l b→¬pindB r b:=by
 refine⟨⟨fun p hp=>h.at_ p (List.mem_append_left _ hp),fun i j p q b hi hj hp hq =>?_⟩,⟨fun p hp=>h.at_ p (List.mem_append_right _ hp),fun i j p q b hi hj hp hq =>?_⟩,fun b ⟨p,hp,e⟩ ⟨q,hq,e'⟩ =>?_⟩
 ·have hi':=(List.getElem?_eq_some_iff.1 hi).1
  have hj':=(List.getElem?_eq_some_iff.1 hj).1
  exact h.inj i j p q b (by rw[List.getElem?_append_left hi']; exact hi) (by rw[List.getElem?_append_left hj']; exact hj) hp hq
 ·have:=h.inj (l.length+i) (l.length+j) p q b (by rw[List.getElem?_append_right (by omega)]; simpa using hi) (by rw[List.getElem?_append_right (by omega)]; simpa using hj) hp hq
  omega
 ·obtain⟨i,hi⟩:=List.getElem?_of_mem hp
  obtain⟨j,hj⟩:=List.getElem?_of_mem hq
  have hi':=(List.getElem?_eq_some_iff.1 hi).1
  have:=h.inj i (l.length+j) p q b (by rw[List.getElem?_append_left hi']; exact hi) (by rw[List.getElem?_append_right (by omega)]; simpa using hj) e e'
  omega
theorem Pinds.aok {l:List Pind} (h:Pinds w l) (hA:AOk A w):AOk (fun b=>A b∨pindB l b) w :=
 hA.mono (fun b hb=>hb.elim (hA b) fun hb=>h.lt hb) (fun _ h => .inl h) fun _ _=>rfl
theorem OwnAt.nest {z:Nat} {rows rows':List (List PV)} {v:Value} {ob:Option Nat} {F:Nat→Prop} (ho:OwnAt w z rows v ob) (hF:∀b,ob=some b→F b) (hl:rows'.length=rows.length)
  (hc:∀(i:Nat) (r r':List PV),rows[i]?=some r→rows'[i]?=some r'→r'.length=r.length∧∀(j:Nat) (c c':PV),r[j]?=some c→r'[j]?=some c'→(c'=c∧pureP c=true)∨∃u,c = .raw u∧RepI F w c' u):RepI F w (.sl z rows') v :=
 ho.read hF hl fun i r r' hr hr'=>⟨(hc i r r' hr hr').1,fun j c c' u hj hj' hu=>by
  rcases (hc i r r' hr hr').2 j c c' hj hj' with ⟨rfl,hp⟩ | ⟨u',rfl,hu'⟩
  ·exact hu.pure hp
  ·cases hu
   exact hu'⟩
theorem OwnAt.plain {z:Nat} {rows:List (List PV)} {v:Value} {ob:Option Nat} {F:Nat→Prop} (ho:OwnAt w z rows v ob) (hF:∀b,ob=some b→F b) (hp:qaT rows):RepI F w (.sl z rows) v :=
 ho.nest hF rfl fun i r r' hr hr'=>by
  rw[hr]at hr'
  cases hr'
  refine⟨rfl,fun j c c' hj hj' =>?_⟩
  rw[hj]at hj'
  cases hj'
  exact .inl ⟨rfl,hp r (List.mem_of_getElem? hr) c (List.mem_of_getElem? hj)⟩
end Go.Ab
