/- Copies of lists of structs that hold lists, in fresh pinned memory. No condition. -/
import Derived.Test.YteckngloamnfdaaGreatDoorBt
import Derived.Test.YteckngloamnfdaaGreatDoorBu
namespace Go.Proofs.YteckngloamnfdaaGreatDoor
open Go Go.Ab
set_option maxRecDepth 100000
theorem qrE {l:List (List UInt8)}:qaT (qae l):=qa6 (qd7 _)
def Melt.rw (x:Melt) (u:Value):List PV:=[.str x.id, .raw u, .int .i64 x.mass]
def Melt.inn (x:Melt):List (List PV):=qae x.ingots
theorem Melt.rw_pure (x:Melt) (u:Value):∀c∈Melt.rw x u,pureP c=true:=by intro c hc; simp[Melt.rw]at hc; rcases hc with rfl | rfl | rfl<;>rfl
theorem Melt.inn_pure (x:Melt):qaT (Melt.inn x):=qrE
theorem Melt.rw_read {F:Nat→Prop} {w:World} (x:Melt) (u:Value) (hu:RepI F w (.sl 1 (Melt.inn x)) u):x.cells.length=(Melt.rw x u).length∧∀(j:Nat) (c c':PV),(Melt.rw x u)[j]?=some c→x.cells[j]?=some c'→(c'=c∧pureP c=true)∨∃u,c = .raw u∧RepI F w c' u:=by
 refine⟨rfl,fun j c c' hj hj' =>?_⟩
 unfold Melt.rw at hj
 unfold Melt.cells at hj'
 match j with
 | 0=>cases hj; cases hj'; exact .inl ⟨rfl,rfl⟩
 | 1=>cases hj; cases hj'; exact .inr ⟨u,rfl,hu⟩
 | 2=>cases hj; cases hj'; exact .inl ⟨rfl,rfl⟩
 | j+3=>simp at hj
noncomputable def qrF:Code:=match Tryz.f59.body with
 | some (.seq _ (.seq _ (.seq (.seq _ (.block _ (.loop c))) _)))=>c
 | _ => .skip
set_option maxHeartbeats 1000000 in
theorem qk1 (l:List Melt) (h:Melt.szS l≤1048576) {w0:World} {A0:Nat→Prop} {Q:Exit→Act→World→Prop}
  (hex:∀a w A m Li,NestI 1 Melt.inn l Li→InvP ⟨w0,A0,noB,fun _=>undef⟩ 23 ⟨[(0, .sl 3 (Melt.rows l)),(3, .sf 0 3),(4, .int .i64 l.length)],[some (.arr 3 (rowsN Melt.rw l Li))]⟩ a w A m Li→Q (.exit 0) a w) :
  ∀(k i:Nat) (a:Act) (w:World) (A:Nat→Prop) (m:OMap) (Li:List Pind),l.length<k+i→i≤l.length→NestI 1 Melt.inn (l.take i) Li→InvP ⟨w0,A0,noB,fun _=>undef⟩ 23 ⟨[(0, .sl 3 (Melt.rows l)),(3, .sf 0 3),(4, .int .i64 i)],[some (.arr 3 (rowsN Melt.rw (l.take i) Li++List.replicate (l.length-i) [.str [], .nils, .int .i64 0]))]⟩ a w A m Li→Code.rounds Tryz.prog qrF Q k a w
 | 0,i,a,w,A,m,Li,hk,hi,_,_=>absurd hk (by omega)
 | k+1,i,a,w,A,m,Li,hk,hi,hN,hI=>by
  have hl:l.length≤1048576:=by unfold Melt.szS at h; omega
  obtain⟨X,hX,hXl,hXg⟩:∃X,rowsN Melt.rw (l.take i) Li++List.replicate (l.length-i) [.str [], .nils, .int .i64 0]=X∧X.length=l.length∧(i<l.length→∀h,X[i]'h=[.str [], .nils, .int .i64 0]):=⟨_,rfl,qgn hN hi,fun h h'=>qgo hN h h'⟩
  rw[hX]at hI
  rw[rounds_succ]
  refine wp_seq (wp_seq ?_)
  refine qaf hm (S1:=⟨[(11, .bool (decide (i<l.length))),(0, .sl 3 (Melt.rows l)),(3, .sf 0 3),(4, .int .i64 i)],[some (.arr 3 X)]⟩) (by kernel_rfl) hI ?_ fun a1 w1 A1 m1 hI1 =>?_
  ·simp[Melt.rows]
   exact Wk.weak (ρ:=[0]) (φ:=[]) (by simp)
  refine wp_cond_split (t:=decide (i<l.length)) (qdj hI1.inv rfl (by decide)) (fun ht=>wp_skip ?_) fun ht=>wp_exit ?_
  rotate_left
  ·have hil:i=l.length:=by have:=of_decide_eq_false ht; omega
   subst hil
   rw[List.take_length]at hN hX
   rw[Nat.sub_self,List.replicate_zero,List.append_nil]at hX
   rw[←hX]at hI1
   exact hex a1 w1 A1 m1 Li hN (hI1.frame fun t=>by
    by_cases e:t=11
    ·subst e; exact .inl rfl
    ·exact .inr (by show _=(bif 11==t then _ else _); rw[show (11==t)=false by simpa using fun h=>e h.symm]; rfl))
  have hi':i<l.length:=of_decide_eq_true ht
  have hs:l[i].sz≤1048576:=by
   have:=qcq Melt.sz (List.getElem_mem hi')
   unfold Melt.szS at h
   omega
  have kO:=qrt l[i] hs
  refine wp_seq (wp_block ?_)
  refine cutP 7 (by kernel_rfl) hI1 (S1:=⟨[(20, .agg [.str l[i].id, .sf 1 1, .int .i64 l[i].mass]),(14, .sf 0 3),(15, .int .i64 i),(0, .sl 3 (Melt.rows l)),(3, .sf 0 3),(4, .int .i64 i)],[some (.arr 3 X),some (.arr 1 (Melt.inn l[i]))]⟩) ?_ fun a2 w2 A2 m2 hI2 =>?_
  ·simp[Melt.rows,hi']
   refine CallZ.use kO rfl (.inr ⟨qd7 _,trivial⟩) rfl rfl ?_
   simp
   exact Wk.weak (ρ:=[0,1]) (φ:=[]) (by simp[Melt.inn])
  have h20:=hI2.inv.fr 20
  obtain⟨u,hu,hr⟩:=qfj (j:=1) h20 rfl
  obtain⟨ob,C,m3,_,hI3⟩:=(hI2.know (d:=20) hr).pinned (ρ:=[0]) (k:=1) (z:=1) (rows:=Melt.inn l[i]) (S1:=⟨[(20, .agg [.str l[i].id, .raw u, .int .i64 l[i].mass]),(14, .sf 0 3),(15, .int .i64 i),(0, .sl 3 (Melt.rows l)),(3, .sf 0 3),(4, .int .i64 i)],[some (.arr 3 X)]⟩) rfl hu (Melt.inn_pure _) (by simp[Melt.rows]) fun j=>by cases j<;>simp
  have hn:=qgp (z2:=1) (inn:=Melt.inn) (rw:=Melt.rw) (x0:=[.str [], .nils, .int .i64 0]) hN hi' (p:=⟨1,Melt.inn l[i],u,ob⟩) rfl rfl
  refine restP (by kernel_rfl) (by kernel_rfl) hI3 (S1:=⟨[(0, .sl 3 (Melt.rows l)),(3, .sf 0 3),(4, .int .i64 i)],[some (.arr 3 (X.set i (Melt.rw l[i] u)))]⟩) ?_ fun a4 w4 A4 m4 hI4 =>?_
  ·simp[hXl,hi',hXg hi']
   exact⟨qgl hu,Wk.weak (ρ:=[0]) (φ:=[]) (by simp[Melt.rw])⟩
  refine wp_mono (qaE hm _ _ (thenQ (fun S'=>Weak S' ⟨[(0, .sl 3 (Melt.rows l)),(3, .sf 0 3),(4, .int .i64 (i+1))],[some (.arr 3 (X.set i (Melt.rw l[i] u)))]⟩) fun _ _=>False) (by kernel_rfl) ?_ _ _ _ _ _ hI4.inv.rebase) fun e a5 w5 ⟨S5,A5,m5,hq,hI5⟩ =>?_
  ·simp
   refine Wk.weak (ρ:=[0]) (φ:=[]) ?_
   simp
   exact w64 (by omega) (by omega)
  cases e with
  | normal =>
   obtain⟨A6,m6,hI6⟩:=hq _ _ _ _ _ _ hI5
   have hI7:=hI4.step hI6
   rw[←hX,hn.2]at hI7
   exact qk1 l h hex k (i+1) a5 w5 A6 m6 _ (by omega) (by omega) hn.1 hI7.swap1
  | _=>exact hq.elim
set_option maxHeartbeats 1000000 in
theorem qrG (l:List Melt) (h:Melt.szS l≤1048576):NCopy Tryz.prog 59 [.sl 3 (Melt.rows l)] (Nest 3 1 Melt.rw Melt.inn l):=fun A w vs hA hvs hargs=>by
 have hl:l.length≤1048576:=by unfold Melt.szS at h; omega
 refine (qcz (M:=noB) (gh:=fun _=>undef) (R:=fun v w'=>∃L,Moved noB w w'∧Pinds w' L∧(∀b,pindB L b→w.heap.size≤b)∧Nest 3 1 Melt.rw Melt.inn l v L) Tryz.func59 (by kernel_rfl) rfl (by kernel_rfl) (by kernel_rfl) hA hvs hargs fun a hI =>?_).mono fun e w' ⟨v,he,L,h1⟩=>⟨v,L,he,h1⟩
 refine wp_seq ?_
 refine qaf hm (S1:=⟨[(0, .sl 3 (Melt.rows l))],[]⟩) (by kernel_rfl) (InvP.nil hI) ?_ fun a1 w1 A1 m1 hI1 =>?_
 ·simp
  exact Wk.weak (ρ:=[]) (φ:=[]) (by simp[Melt.rows])
 refine wp_seq ?_
 refine qaf hm (S1:=⟨[(0, .sl 3 (Melt.rows l)),(3, .sf 0 3)],[some (.arr 3 (List.replicate l.length [.str [], .nils, .int .i64 0]))]⟩) (by kernel_rfl) hI1 ?_ fun a2 w2 A2 m2 hI2 =>?_
 ·simp[Melt.rows]
  refine⟨by omega,by omega, .inr ?_⟩
  exact Wk.weak (ρ:=[0]) (φ:=[]) (by simp)
 refine wp_seq (wp_seq ?_)
 refine qaf hm (S1:=⟨[(0, .sl 3 (Melt.rows l)),(3, .sf 0 3),(4, .int .i64 0)],[some (.arr 3 (List.replicate l.length [.str [], .nils, .int .i64 0]))]⟩) (by kernel_rfl) hI2 ?_ fun a3 w3 A3 m3 hI3 =>?_
 ·simp
  exact Wk.weak (ρ:=[0]) (φ:=[]) (by simp[Melt.rows])
 refine wp_block (wp_loop_rounds (l.length+1) (qk1 l h (fun a4 w4 A4 m4 Li hN hI4 =>?_) _ 0 _ _ _ _ [] (by omega) (by omega) ⟨rfl,fun i x p hx=>by simp at hx⟩ (by simpa[rowsN]using hI3)))
 simp only[Exit.inBlock,if_true]
 show Code.wp _ _ _ _ _
 refine wp_seq ?_
 refine qaf hm (S1:=⟨[(2, .sf 0 3)],[some (.arr 3 (rowsN Melt.rw l Li))]⟩) (by kernel_rfl) hI4 ?_ fun a5 w5 A5 m5 hI5 =>?_
 ·simp
  exact Wk.weak (ρ:=[0]) (φ:=[]) (by simp)
 refine wp_ret ⟨.inr rfl,_,_,_,hI5.inv,⟨trivial,trivial⟩,fun v hv =>?_⟩
 obtain⟨ob,hp,hb⟩:=hI5.outer (k:=0) rfl hv (qdO Melt.rw_pure l Li)
 exact⟨_,hI5.inv.moved,hp,fun b hb'=>(hb b hb').resolve_left fun h=>h,ob,Li,rfl,hN⟩
def Bell.rw (x:Bell) (u:Value):List PV:=[.str x.id, .int .i64 x.note, .int .i64 x.mass, .int .i64 x.feed, .raw u]
def Bell.inn (x:Bell):List (List PV):=Share.rows x.shares
theorem Bell.rw_pure (x:Bell) (u:Value):∀c∈Bell.rw x u,pureP c=true:=by intro c hc; simp[Bell.rw]at hc; rcases hc with rfl | rfl | rfl | rfl | rfl<;>rfl
theorem Bell.inn_pure (x:Bell):qaT (Bell.inn x):=qa6 (Share.flat _)
theorem Bell.rw_read {F:Nat→Prop} {w:World} (x:Bell) (u:Value) (hu:RepI F w (.sl 2 (Bell.inn x)) u):x.cells.length=(Bell.rw x u).length∧∀(j:Nat) (c c':PV),(Bell.rw x u)[j]?=some c→x.cells[j]?=some c'→(c'=c∧pureP c=true)∨∃u,c = .raw u∧RepI F w c' u:=by
 refine⟨rfl,fun j c c' hj hj' =>?_⟩
 unfold Bell.rw at hj
 unfold Bell.cells at hj'
 match j with
 | 0=>cases hj; cases hj'; exact .inl ⟨rfl,rfl⟩
 | 1=>cases hj; cases hj'; exact .inl ⟨rfl,rfl⟩
 | 2=>cases hj; cases hj'; exact .inl ⟨rfl,rfl⟩
 | 3=>cases hj; cases hj'; exact .inl ⟨rfl,rfl⟩
 | 4=>cases hj; cases hj'; exact .inr ⟨u,rfl,hu⟩
 | j+5=>simp at hj
noncomputable def qrH:Code:=match Tryz.f60.body with
 | some (.seq _ (.seq _ (.seq (.seq _ (.block _ (.loop c))) _)))=>c
 | _ => .skip
set_option maxHeartbeats 1000000 in
theorem qk2 (l:List Bell) (h:Bell.szS l≤1048576) {w0:World} {A0:Nat→Prop} {Q:Exit→Act→World→Prop}
  (hex:∀a w A m Li,NestI 2 Bell.inn l Li→InvP ⟨w0,A0,noB,fun _=>undef⟩ 23 ⟨[(0, .sl 5 (Bell.rows l)),(3, .sf 0 5),(4, .int .i64 l.length)],[some (.arr 5 (rowsN Bell.rw l Li))]⟩ a w A m Li→Q (.exit 0) a w) :
  ∀(k i:Nat) (a:Act) (w:World) (A:Nat→Prop) (m:OMap) (Li:List Pind),l.length<k+i→i≤l.length→NestI 2 Bell.inn (l.take i) Li→InvP ⟨w0,A0,noB,fun _=>undef⟩ 23 ⟨[(0, .sl 5 (Bell.rows l)),(3, .sf 0 5),(4, .int .i64 i)],[some (.arr 5 (rowsN Bell.rw (l.take i) Li++List.replicate (l.length-i) [.str [], .int .i64 0, .int .i64 0, .int .i64 0, .nils]))]⟩ a w A m Li→Code.rounds Tryz.prog qrH Q k a w
 | 0,i,a,w,A,m,Li,hk,hi,_,_=>absurd hk (by omega)
 | k+1,i,a,w,A,m,Li,hk,hi,hN,hI=>by
  have hl:l.length≤1048576:=by unfold Bell.szS at h; omega
  obtain⟨X,hX,hXl,hXg⟩:∃X,rowsN Bell.rw (l.take i) Li++List.replicate (l.length-i) [.str [], .int .i64 0, .int .i64 0, .int .i64 0, .nils]=X∧X.length=l.length∧(i<l.length→∀h,X[i]'h=[.str [], .int .i64 0, .int .i64 0, .int .i64 0, .nils]):=⟨_,rfl,qgn hN hi,fun h h'=>qgo hN h h'⟩
  rw[hX]at hI
  rw[rounds_succ]
  refine wp_seq (wp_seq ?_)
  refine qaf hm (S1:=⟨[(11, .bool (decide (i<l.length))),(0, .sl 5 (Bell.rows l)),(3, .sf 0 5),(4, .int .i64 i)],[some (.arr 5 X)]⟩) (by kernel_rfl) hI ?_ fun a1 w1 A1 m1 hI1 =>?_
  ·simp[Bell.rows]
   exact Wk.weak (ρ:=[0]) (φ:=[]) (by simp)
  refine wp_cond_split (t:=decide (i<l.length)) (qdj hI1.inv rfl (by decide)) (fun ht=>wp_skip ?_) fun ht=>wp_exit ?_
  rotate_left
  ·have hil:i=l.length:=by have:=of_decide_eq_false ht; omega
   subst hil
   rw[List.take_length]at hN hX
   rw[Nat.sub_self,List.replicate_zero,List.append_nil]at hX
   rw[←hX]at hI1
   exact hex a1 w1 A1 m1 Li hN (hI1.frame fun t=>by
    by_cases e:t=11
    ·subst e; exact .inl rfl
    ·exact .inr (by show _=(bif 11==t then _ else _); rw[show (11==t)=false by simpa using fun h=>e h.symm]; rfl))
  have hi':i<l.length:=of_decide_eq_true ht
  have hs:l[i].sz≤1048576:=by
   have:=qcq Bell.sz (List.getElem_mem hi')
   unfold Bell.szS at h
   omega
  have kO:=qru l[i] hs
  refine wp_seq (wp_block ?_)
  refine cutP 7 (by kernel_rfl) hI1 (S1:=⟨[(20, .agg [.str l[i].id, .int .i64 l[i].note, .int .i64 l[i].mass, .int .i64 l[i].feed, .sf 1 2]),(14, .sf 0 5),(15, .int .i64 i),(0, .sl 5 (Bell.rows l)),(3, .sf 0 5),(4, .int .i64 i)],[some (.arr 5 X),some (.arr 2 (Bell.inn l[i]))]⟩) ?_ fun a2 w2 A2 m2 hI2 =>?_
  ·simp[Bell.rows,hi']
   refine CallZ.use kO rfl (.inr ⟨Share.flat _,trivial⟩) rfl rfl ?_
   simp
   exact Wk.weak (ρ:=[0,1]) (φ:=[]) (by simp[Bell.inn])
  have h20:=hI2.inv.fr 20
  obtain⟨u,hu,hr⟩:=qfj (j:=4) h20 rfl
  obtain⟨ob,C,m3,_,hI3⟩:=(hI2.know (d:=20) hr).pinned (ρ:=[0]) (k:=1) (z:=2) (rows:=Bell.inn l[i]) (S1:=⟨[(20, .agg [.str l[i].id, .int .i64 l[i].note, .int .i64 l[i].mass, .int .i64 l[i].feed, .raw u]),(14, .sf 0 5),(15, .int .i64 i),(0, .sl 5 (Bell.rows l)),(3, .sf 0 5),(4, .int .i64 i)],[some (.arr 5 X)]⟩) rfl hu (Bell.inn_pure _) (by simp[Bell.rows]) fun j=>by cases j<;>simp
  have hn:=qgp (z2:=2) (inn:=Bell.inn) (rw:=Bell.rw) (x0:=[.str [], .int .i64 0, .int .i64 0, .int .i64 0, .nils]) hN hi' (p:=⟨2,Bell.inn l[i],u,ob⟩) rfl rfl
  refine restP (by kernel_rfl) (by kernel_rfl) hI3 (S1:=⟨[(0, .sl 5 (Bell.rows l)),(3, .sf 0 5),(4, .int .i64 i)],[some (.arr 5 (X.set i (Bell.rw l[i] u)))]⟩) ?_ fun a4 w4 A4 m4 hI4 =>?_
  ·simp[hXl,hi',hXg hi']
   exact⟨qgl hu,Wk.weak (ρ:=[0]) (φ:=[]) (by simp[Bell.rw])⟩
  refine wp_mono (qaE hm _ _ (thenQ (fun S'=>Weak S' ⟨[(0, .sl 5 (Bell.rows l)),(3, .sf 0 5),(4, .int .i64 (i+1))],[some (.arr 5 (X.set i (Bell.rw l[i] u)))]⟩) fun _ _=>False) (by kernel_rfl) ?_ _ _ _ _ _ hI4.inv.rebase) fun e a5 w5 ⟨S5,A5,m5,hq,hI5⟩ =>?_
  ·simp
   refine Wk.weak (ρ:=[0]) (φ:=[]) ?_
   simp
   exact w64 (by omega) (by omega)
  cases e with
  | normal =>
   obtain⟨A6,m6,hI6⟩:=hq _ _ _ _ _ _ hI5
   have hI7:=hI4.step hI6
   rw[←hX,hn.2]at hI7
   exact qk2 l h hex k (i+1) a5 w5 A6 m6 _ (by omega) (by omega) hn.1 hI7.swap1
  | _=>exact hq.elim
set_option maxHeartbeats 1000000 in
theorem qrI (l:List Bell) (h:Bell.szS l≤1048576):NCopy Tryz.prog 60 [.sl 5 (Bell.rows l)] (Nest 5 2 Bell.rw Bell.inn l):=fun A w vs hA hvs hargs=>by
 have hl:l.length≤1048576:=by unfold Bell.szS at h; omega
 refine (qcz (M:=noB) (gh:=fun _=>undef) (R:=fun v w'=>∃L,Moved noB w w'∧Pinds w' L∧(∀b,pindB L b→w.heap.size≤b)∧Nest 5 2 Bell.rw Bell.inn l v L) Tryz.func60 (by kernel_rfl) rfl (by kernel_rfl) (by kernel_rfl) hA hvs hargs fun a hI =>?_).mono fun e w' ⟨v,he,L,h1⟩=>⟨v,L,he,h1⟩
 refine wp_seq ?_
 refine qaf hm (S1:=⟨[(0, .sl 5 (Bell.rows l))],[]⟩) (by kernel_rfl) (InvP.nil hI) ?_ fun a1 w1 A1 m1 hI1 =>?_
 ·simp
  exact Wk.weak (ρ:=[]) (φ:=[]) (by simp[Bell.rows])
 refine wp_seq ?_
 refine qaf hm (S1:=⟨[(0, .sl 5 (Bell.rows l)),(3, .sf 0 5)],[some (.arr 5 (List.replicate l.length [.str [], .int .i64 0, .int .i64 0, .int .i64 0, .nils]))]⟩) (by kernel_rfl) hI1 ?_ fun a2 w2 A2 m2 hI2 =>?_
 ·simp[Bell.rows]
  refine⟨by omega,by omega, .inr ?_⟩
  exact Wk.weak (ρ:=[0]) (φ:=[]) (by simp)
 refine wp_seq (wp_seq ?_)
 refine qaf hm (S1:=⟨[(0, .sl 5 (Bell.rows l)),(3, .sf 0 5),(4, .int .i64 0)],[some (.arr 5 (List.replicate l.length [.str [], .int .i64 0, .int .i64 0, .int .i64 0, .nils]))]⟩) (by kernel_rfl) hI2 ?_ fun a3 w3 A3 m3 hI3 =>?_
 ·simp
  exact Wk.weak (ρ:=[0]) (φ:=[]) (by simp[Bell.rows])
 refine wp_block (wp_loop_rounds (l.length+1) (qk2 l h (fun a4 w4 A4 m4 Li hN hI4 =>?_) _ 0 _ _ _ _ [] (by omega) (by omega) ⟨rfl,fun i x p hx=>by simp at hx⟩ (by simpa[rowsN]using hI3)))
 simp only[Exit.inBlock,if_true]
 show Code.wp _ _ _ _ _
 refine wp_seq ?_
 refine qaf hm (S1:=⟨[(2, .sf 0 5)],[some (.arr 5 (rowsN Bell.rw l Li))]⟩) (by kernel_rfl) hI4 ?_ fun a5 w5 A5 m5 hI5 =>?_
 ·simp
  exact Wk.weak (ρ:=[0]) (φ:=[]) (by simp)
 refine wp_ret ⟨.inr rfl,_,_,_,hI5.inv,⟨trivial,trivial⟩,fun v hv =>?_⟩
 obtain⟨ob,hp,hb⟩:=hI5.outer (k:=0) rfl hv (qdO Bell.rw_pure l Li)
 exact⟨_,hI5.inv.moved,hp,fun b hb'=>(hb b hb').resolve_left fun h=>h,ob,Li,rfl,hN⟩
def Beam.rw (x:Beam) (u:Value):List PV:=[.str x.name, .int .i64 x.span, .int .i64 x.width, .int .i64 x.depth, .int .i64 x.wood, .raw u]
def Beam.inn (x:Beam):List (List PV):=Load.rows x.loads
theorem Beam.rw_pure (x:Beam) (u:Value):∀c∈Beam.rw x u,pureP c=true:=by intro c hc; simp[Beam.rw]at hc; rcases hc with rfl | rfl | rfl | rfl | rfl | rfl<;>rfl
theorem Beam.inn_pure (x:Beam):qaT (Beam.inn x):=qa6 (Load.flat _)
theorem Beam.rw_read {F:Nat→Prop} {w:World} (x:Beam) (u:Value) (hu:RepI F w (.sl 2 (Beam.inn x)) u):x.cells.length=(Beam.rw x u).length∧∀(j:Nat) (c c':PV),(Beam.rw x u)[j]?=some c→x.cells[j]?=some c'→(c'=c∧pureP c=true)∨∃u,c = .raw u∧RepI F w c' u:=by
 refine⟨rfl,fun j c c' hj hj' =>?_⟩
 unfold Beam.rw at hj
 unfold Beam.cells at hj'
 match j with
 | 0=>cases hj; cases hj'; exact .inl ⟨rfl,rfl⟩
 | 1=>cases hj; cases hj'; exact .inl ⟨rfl,rfl⟩
 | 2=>cases hj; cases hj'; exact .inl ⟨rfl,rfl⟩
 | 3=>cases hj; cases hj'; exact .inl ⟨rfl,rfl⟩
 | 4=>cases hj; cases hj'; exact .inl ⟨rfl,rfl⟩
 | 5=>cases hj; cases hj'; exact .inr ⟨u,rfl,hu⟩
 | j+6=>simp at hj
noncomputable def qrJ:Code:=match Tryz.f65.body with
 | some (.seq _ (.seq _ (.seq (.seq _ (.block _ (.loop c))) _)))=>c
 | _ => .skip
set_option maxHeartbeats 1000000 in
theorem qk3 (l:List Beam) (h:Beam.szS l≤1048576) {w0:World} {A0:Nat→Prop} {Q:Exit→Act→World→Prop}
  (hex:∀a w A m Li,NestI 2 Beam.inn l Li→InvP ⟨w0,A0,noB,fun _=>undef⟩ 23 ⟨[(0, .sl 6 (Beam.rows l)),(3, .sf 0 6),(4, .int .i64 l.length)],[some (.arr 6 (rowsN Beam.rw l Li))]⟩ a w A m Li→Q (.exit 0) a w) :
  ∀(k i:Nat) (a:Act) (w:World) (A:Nat→Prop) (m:OMap) (Li:List Pind),l.length<k+i→i≤l.length→NestI 2 Beam.inn (l.take i) Li→InvP ⟨w0,A0,noB,fun _=>undef⟩ 23 ⟨[(0, .sl 6 (Beam.rows l)),(3, .sf 0 6),(4, .int .i64 i)],[some (.arr 6 (rowsN Beam.rw (l.take i) Li++List.replicate (l.length-i) [.str [], .int .i64 0, .int .i64 0, .int .i64 0, .int .i64 0, .nils]))]⟩ a w A m Li→Code.rounds Tryz.prog qrJ Q k a w
 | 0,i,a,w,A,m,Li,hk,hi,_,_=>absurd hk (by omega)
 | k+1,i,a,w,A,m,Li,hk,hi,hN,hI=>by
  have hl:l.length≤1048576:=by unfold Beam.szS at h; omega
  obtain⟨X,hX,hXl,hXg⟩:∃X,rowsN Beam.rw (l.take i) Li++List.replicate (l.length-i) [.str [], .int .i64 0, .int .i64 0, .int .i64 0, .int .i64 0, .nils]=X∧X.length=l.length∧(i<l.length→∀h,X[i]'h=[.str [], .int .i64 0, .int .i64 0, .int .i64 0, .int .i64 0, .nils]):=⟨_,rfl,qgn hN hi,fun h h'=>qgo hN h h'⟩
  rw[hX]at hI
  rw[rounds_succ]
  refine wp_seq (wp_seq ?_)
  refine qaf hm (S1:=⟨[(11, .bool (decide (i<l.length))),(0, .sl 6 (Beam.rows l)),(3, .sf 0 6),(4, .int .i64 i)],[some (.arr 6 X)]⟩) (by kernel_rfl) hI ?_ fun a1 w1 A1 m1 hI1 =>?_
  ·simp[Beam.rows]
   exact Wk.weak (ρ:=[0]) (φ:=[]) (by simp)
  refine wp_cond_split (t:=decide (i<l.length)) (qdj hI1.inv rfl (by decide)) (fun ht=>wp_skip ?_) fun ht=>wp_exit ?_
  rotate_left
  ·have hil:i=l.length:=by have:=of_decide_eq_false ht; omega
   subst hil
   rw[List.take_length]at hN hX
   rw[Nat.sub_self,List.replicate_zero,List.append_nil]at hX
   rw[←hX]at hI1
   exact hex a1 w1 A1 m1 Li hN (hI1.frame fun t=>by
    by_cases e:t=11
    ·subst e; exact .inl rfl
    ·exact .inr (by show _=(bif 11==t then _ else _); rw[show (11==t)=false by simpa using fun h=>e h.symm]; rfl))
  have hi':i<l.length:=of_decide_eq_true ht
  have hs:l[i].sz≤1048576:=by
   have:=qcq Beam.sz (List.getElem_mem hi')
   unfold Beam.szS at h
   omega
  have kO:=qrv l[i] hs
  refine wp_seq (wp_block ?_)
  refine cutP 7 (by kernel_rfl) hI1 (S1:=⟨[(20, .agg [.str l[i].name, .int .i64 l[i].span, .int .i64 l[i].width, .int .i64 l[i].depth, .int .i64 l[i].wood, .sf 1 2]),(14, .sf 0 6),(15, .int .i64 i),(0, .sl 6 (Beam.rows l)),(3, .sf 0 6),(4, .int .i64 i)],[some (.arr 6 X),some (.arr 2 (Beam.inn l[i]))]⟩) ?_ fun a2 w2 A2 m2 hI2 =>?_
  ·simp[Beam.rows,hi']
   refine CallZ.use kO rfl (.inr ⟨Load.flat _,trivial⟩) rfl rfl ?_
   simp
   exact Wk.weak (ρ:=[0,1]) (φ:=[]) (by simp[Beam.inn])
  have h20:=hI2.inv.fr 20
  obtain⟨u,hu,hr⟩:=qfj (j:=5) h20 rfl
  obtain⟨ob,C,m3,_,hI3⟩:=(hI2.know (d:=20) hr).pinned (ρ:=[0]) (k:=1) (z:=2) (rows:=Beam.inn l[i]) (S1:=⟨[(20, .agg [.str l[i].name, .int .i64 l[i].span, .int .i64 l[i].width, .int .i64 l[i].depth, .int .i64 l[i].wood, .raw u]),(14, .sf 0 6),(15, .int .i64 i),(0, .sl 6 (Beam.rows l)),(3, .sf 0 6),(4, .int .i64 i)],[some (.arr 6 X)]⟩) rfl hu (Beam.inn_pure _) (by simp[Beam.rows]) fun j=>by cases j<;>simp
  have hn:=qgp (z2:=2) (inn:=Beam.inn) (rw:=Beam.rw) (x0:=[.str [], .int .i64 0, .int .i64 0, .int .i64 0, .int .i64 0, .nils]) hN hi' (p:=⟨2,Beam.inn l[i],u,ob⟩) rfl rfl
  refine restP (by kernel_rfl) (by kernel_rfl) hI3 (S1:=⟨[(0, .sl 6 (Beam.rows l)),(3, .sf 0 6),(4, .int .i64 i)],[some (.arr 6 (X.set i (Beam.rw l[i] u)))]⟩) ?_ fun a4 w4 A4 m4 hI4 =>?_
  ·simp[hXl,hi',hXg hi']
   exact⟨qgl hu,Wk.weak (ρ:=[0]) (φ:=[]) (by simp[Beam.rw])⟩
  refine wp_mono (qaE hm _ _ (thenQ (fun S'=>Weak S' ⟨[(0, .sl 6 (Beam.rows l)),(3, .sf 0 6),(4, .int .i64 (i+1))],[some (.arr 6 (X.set i (Beam.rw l[i] u)))]⟩) fun _ _=>False) (by kernel_rfl) ?_ _ _ _ _ _ hI4.inv.rebase) fun e a5 w5 ⟨S5,A5,m5,hq,hI5⟩ =>?_
  ·simp
   refine Wk.weak (ρ:=[0]) (φ:=[]) ?_
   simp
   exact w64 (by omega) (by omega)
  cases e with
  | normal =>
   obtain⟨A6,m6,hI6⟩:=hq _ _ _ _ _ _ hI5
   have hI7:=hI4.step hI6
   rw[←hX,hn.2]at hI7
   exact qk3 l h hex k (i+1) a5 w5 A6 m6 _ (by omega) (by omega) hn.1 hI7.swap1
  | _=>exact hq.elim
set_option maxHeartbeats 1000000 in
theorem qrK (l:List Beam) (h:Beam.szS l≤1048576):NCopy Tryz.prog 65 [.sl 6 (Beam.rows l)] (Nest 6 2 Beam.rw Beam.inn l):=fun A w vs hA hvs hargs=>by
 have hl:l.length≤1048576:=by unfold Beam.szS at h; omega
 refine (qcz (M:=noB) (gh:=fun _=>undef) (R:=fun v w'=>∃L,Moved noB w w'∧Pinds w' L∧(∀b,pindB L b→w.heap.size≤b)∧Nest 6 2 Beam.rw Beam.inn l v L) Tryz.func65 (by kernel_rfl) rfl (by kernel_rfl) (by kernel_rfl) hA hvs hargs fun a hI =>?_).mono fun e w' ⟨v,he,L,h1⟩=>⟨v,L,he,h1⟩
 refine wp_seq ?_
 refine qaf hm (S1:=⟨[(0, .sl 6 (Beam.rows l))],[]⟩) (by kernel_rfl) (InvP.nil hI) ?_ fun a1 w1 A1 m1 hI1 =>?_
 ·simp
  exact Wk.weak (ρ:=[]) (φ:=[]) (by simp[Beam.rows])
 refine wp_seq ?_
 refine qaf hm (S1:=⟨[(0, .sl 6 (Beam.rows l)),(3, .sf 0 6)],[some (.arr 6 (List.replicate l.length [.str [], .int .i64 0, .int .i64 0, .int .i64 0, .int .i64 0, .nils]))]⟩) (by kernel_rfl) hI1 ?_ fun a2 w2 A2 m2 hI2 =>?_
 ·simp[Beam.rows]
  refine⟨by omega,by omega, .inr ?_⟩
  exact Wk.weak (ρ:=[0]) (φ:=[]) (by simp)
 refine wp_seq (wp_seq ?_)
 refine qaf hm (S1:=⟨[(0, .sl 6 (Beam.rows l)),(3, .sf 0 6),(4, .int .i64 0)],[some (.arr 6 (List.replicate l.length [.str [], .int .i64 0, .int .i64 0, .int .i64 0, .int .i64 0, .nils]))]⟩) (by kernel_rfl) hI2 ?_ fun a3 w3 A3 m3 hI3 =>?_
 ·simp
  exact Wk.weak (ρ:=[0]) (φ:=[]) (by simp[Beam.rows])
 refine wp_block (wp_loop_rounds (l.length+1) (qk3 l h (fun a4 w4 A4 m4 Li hN hI4 =>?_) _ 0 _ _ _ _ [] (by omega) (by omega) ⟨rfl,fun i x p hx=>by simp at hx⟩ (by simpa[rowsN]using hI3)))
 simp only[Exit.inBlock,if_true]
 show Code.wp _ _ _ _ _
 refine wp_seq ?_
 refine qaf hm (S1:=⟨[(2, .sf 0 6)],[some (.arr 6 (rowsN Beam.rw l Li))]⟩) (by kernel_rfl) hI4 ?_ fun a5 w5 A5 m5 hI5 =>?_
 ·simp
  exact Wk.weak (ρ:=[0]) (φ:=[]) (by simp)
 refine wp_ret ⟨.inr rfl,_,_,_,hI5.inv,⟨trivial,trivial⟩,fun v hv =>?_⟩
 obtain⟨ob,hp,hb⟩:=hI5.outer (k:=0) rfl hv (qdO Beam.rw_pure l Li)
 exact⟨_,hI5.inv.moved,hp,fun b hb'=>(hb b hb').resolve_left fun h=>h,ob,Li,rfl,hN⟩
def Action.rw (x:Action) (u:Value):List PV:=[.int .i64 x.note, .raw u, .int .i64 x.slack, .int .i64 x.weight]
def Action.inn (x:Action):List (List PV):=Lever.rows x.levers
theorem Action.rw_pure (x:Action) (u:Value):∀c∈Action.rw x u,pureP c=true:=by intro c hc; simp[Action.rw]at hc; rcases hc with rfl | rfl | rfl | rfl<;>rfl
theorem Action.inn_pure (x:Action):qaT (Action.inn x):=qa6 (Lever.flat _)
theorem Action.rw_read {F:Nat→Prop} {w:World} (x:Action) (u:Value) (hu:RepI F w (.sl 2 (Action.inn x)) u):x.cells.length=(Action.rw x u).length∧∀(j:Nat) (c c':PV),(Action.rw x u)[j]?=some c→x.cells[j]?=some c'→(c'=c∧pureP c=true)∨∃u,c = .raw u∧RepI F w c' u:=by
 refine⟨rfl,fun j c c' hj hj' =>?_⟩
 unfold Action.rw at hj
 unfold Action.cells at hj'
 match j with
 | 0=>cases hj; cases hj'; exact .inl ⟨rfl,rfl⟩
 | 1=>cases hj; cases hj'; exact .inr ⟨u,rfl,hu⟩
 | 2=>cases hj; cases hj'; exact .inl ⟨rfl,rfl⟩
 | 3=>cases hj; cases hj'; exact .inl ⟨rfl,rfl⟩
 | j+4=>simp at hj
noncomputable def qrL:Code:=match Tryz.f66.body with
 | some (.seq _ (.seq _ (.seq (.seq _ (.block _ (.loop c))) _)))=>c
 | _ => .skip
set_option maxHeartbeats 1000000 in
theorem qk4 (l:List Action) (h:Action.szS l≤1048576) {w0:World} {A0:Nat→Prop} {Q:Exit→Act→World→Prop}
  (hex:∀a w A m Li,NestI 2 Action.inn l Li→InvP ⟨w0,A0,noB,fun _=>undef⟩ 23 ⟨[(0, .sl 4 (Action.rows l)),(3, .sf 0 4),(4, .int .i64 l.length)],[some (.arr 4 (rowsN Action.rw l Li))]⟩ a w A m Li→Q (.exit 0) a w) :
  ∀(k i:Nat) (a:Act) (w:World) (A:Nat→Prop) (m:OMap) (Li:List Pind),l.length<k+i→i≤l.length→NestI 2 Action.inn (l.take i) Li→InvP ⟨w0,A0,noB,fun _=>undef⟩ 23 ⟨[(0, .sl 4 (Action.rows l)),(3, .sf 0 4),(4, .int .i64 i)],[some (.arr 4 (rowsN Action.rw (l.take i) Li++List.replicate (l.length-i) [.int .i64 0, .nils, .int .i64 0, .int .i64 0]))]⟩ a w A m Li→Code.rounds Tryz.prog qrL Q k a w
 | 0,i,a,w,A,m,Li,hk,hi,_,_=>absurd hk (by omega)
 | k+1,i,a,w,A,m,Li,hk,hi,hN,hI=>by
  have hl:l.length≤1048576:=by unfold Action.szS at h; omega
  obtain⟨X,hX,hXl,hXg⟩:∃X,rowsN Action.rw (l.take i) Li++List.replicate (l.length-i) [.int .i64 0, .nils, .int .i64 0, .int .i64 0]=X∧X.length=l.length∧(i<l.length→∀h,X[i]'h=[.int .i64 0, .nils, .int .i64 0, .int .i64 0]):=⟨_,rfl,qgn hN hi,fun h h'=>qgo hN h h'⟩
  rw[hX]at hI
  rw[rounds_succ]
  refine wp_seq (wp_seq ?_)
  refine qaf hm (S1:=⟨[(11, .bool (decide (i<l.length))),(0, .sl 4 (Action.rows l)),(3, .sf 0 4),(4, .int .i64 i)],[some (.arr 4 X)]⟩) (by kernel_rfl) hI ?_ fun a1 w1 A1 m1 hI1 =>?_
  ·simp[Action.rows]
   exact Wk.weak (ρ:=[0]) (φ:=[]) (by simp)
  refine wp_cond_split (t:=decide (i<l.length)) (qdj hI1.inv rfl (by decide)) (fun ht=>wp_skip ?_) fun ht=>wp_exit ?_
  rotate_left
  ·have hil:i=l.length:=by have:=of_decide_eq_false ht; omega
   subst hil
   rw[List.take_length]at hN hX
   rw[Nat.sub_self,List.replicate_zero,List.append_nil]at hX
   rw[←hX]at hI1
   exact hex a1 w1 A1 m1 Li hN (hI1.frame fun t=>by
    by_cases e:t=11
    ·subst e; exact .inl rfl
    ·exact .inr (by show _=(bif 11==t then _ else _); rw[show (11==t)=false by simpa using fun h=>e h.symm]; rfl))
  have hi':i<l.length:=of_decide_eq_true ht
  have hs:l[i].sz≤1048576:=by
   have:=qcq Action.sz (List.getElem_mem hi')
   unfold Action.szS at h
   omega
  have kO:=qrw l[i] hs
  refine wp_seq (wp_block ?_)
  refine cutP 7 (by kernel_rfl) hI1 (S1:=⟨[(20, .agg [.int .i64 l[i].note, .sf 1 2, .int .i64 l[i].slack, .int .i64 l[i].weight]),(14, .sf 0 4),(15, .int .i64 i),(0, .sl 4 (Action.rows l)),(3, .sf 0 4),(4, .int .i64 i)],[some (.arr 4 X),some (.arr 2 (Action.inn l[i]))]⟩) ?_ fun a2 w2 A2 m2 hI2 =>?_
  ·simp[Action.rows,hi']
   refine CallZ.use kO rfl (.inr ⟨Lever.flat _,trivial⟩) rfl rfl ?_
   simp
   exact Wk.weak (ρ:=[0,1]) (φ:=[]) (by simp[Action.inn])
  have h20:=hI2.inv.fr 20
  obtain⟨u,hu,hr⟩:=qfj (j:=1) h20 rfl
  obtain⟨ob,C,m3,_,hI3⟩:=(hI2.know (d:=20) hr).pinned (ρ:=[0]) (k:=1) (z:=2) (rows:=Action.inn l[i]) (S1:=⟨[(20, .agg [.int .i64 l[i].note, .raw u, .int .i64 l[i].slack, .int .i64 l[i].weight]),(14, .sf 0 4),(15, .int .i64 i),(0, .sl 4 (Action.rows l)),(3, .sf 0 4),(4, .int .i64 i)],[some (.arr 4 X)]⟩) rfl hu (Action.inn_pure _) (by simp[Action.rows]) fun j=>by cases j<;>simp
  have hn:=qgp (z2:=2) (inn:=Action.inn) (rw:=Action.rw) (x0:=[.int .i64 0, .nils, .int .i64 0, .int .i64 0]) hN hi' (p:=⟨2,Action.inn l[i],u,ob⟩) rfl rfl
  refine restP (by kernel_rfl) (by kernel_rfl) hI3 (S1:=⟨[(0, .sl 4 (Action.rows l)),(3, .sf 0 4),(4, .int .i64 i)],[some (.arr 4 (X.set i (Action.rw l[i] u)))]⟩) ?_ fun a4 w4 A4 m4 hI4 =>?_
  ·simp[hXl,hi',hXg hi']
   exact⟨qgl hu,Wk.weak (ρ:=[0]) (φ:=[]) (by simp[Action.rw])⟩
  refine wp_mono (qaE hm _ _ (thenQ (fun S'=>Weak S' ⟨[(0, .sl 4 (Action.rows l)),(3, .sf 0 4),(4, .int .i64 (i+1))],[some (.arr 4 (X.set i (Action.rw l[i] u)))]⟩) fun _ _=>False) (by kernel_rfl) ?_ _ _ _ _ _ hI4.inv.rebase) fun e a5 w5 ⟨S5,A5,m5,hq,hI5⟩ =>?_
  ·simp
   refine Wk.weak (ρ:=[0]) (φ:=[]) ?_
   simp
   exact w64 (by omega) (by omega)
  cases e with
  | normal =>
   obtain⟨A6,m6,hI6⟩:=hq _ _ _ _ _ _ hI5
   have hI7:=hI4.step hI6
   rw[←hX,hn.2]at hI7
   exact qk4 l h hex k (i+1) a5 w5 A6 m6 _ (by omega) (by omega) hn.1 hI7.swap1
  | _=>exact hq.elim
set_option maxHeartbeats 1000000 in
theorem qrM (l:List Action) (h:Action.szS l≤1048576):NCopy Tryz.prog 66 [.sl 4 (Action.rows l)] (Nest 4 2 Action.rw Action.inn l):=fun A w vs hA hvs hargs=>by
 have hl:l.length≤1048576:=by unfold Action.szS at h; omega
 refine (qcz (M:=noB) (gh:=fun _=>undef) (R:=fun v w'=>∃L,Moved noB w w'∧Pinds w' L∧(∀b,pindB L b→w.heap.size≤b)∧Nest 4 2 Action.rw Action.inn l v L) Tryz.func66 (by kernel_rfl) rfl (by kernel_rfl) (by kernel_rfl) hA hvs hargs fun a hI =>?_).mono fun e w' ⟨v,he,L,h1⟩=>⟨v,L,he,h1⟩
 refine wp_seq ?_
 refine qaf hm (S1:=⟨[(0, .sl 4 (Action.rows l))],[]⟩) (by kernel_rfl) (InvP.nil hI) ?_ fun a1 w1 A1 m1 hI1 =>?_
 ·simp
  exact Wk.weak (ρ:=[]) (φ:=[]) (by simp[Action.rows])
 refine wp_seq ?_
 refine qaf hm (S1:=⟨[(0, .sl 4 (Action.rows l)),(3, .sf 0 4)],[some (.arr 4 (List.replicate l.length [.int .i64 0, .nils, .int .i64 0, .int .i64 0]))]⟩) (by kernel_rfl) hI1 ?_ fun a2 w2 A2 m2 hI2 =>?_
 ·simp[Action.rows]
  refine⟨by omega,by omega, .inr ?_⟩
  exact Wk.weak (ρ:=[0]) (φ:=[]) (by simp)
 refine wp_seq (wp_seq ?_)
 refine qaf hm (S1:=⟨[(0, .sl 4 (Action.rows l)),(3, .sf 0 4),(4, .int .i64 0)],[some (.arr 4 (List.replicate l.length [.int .i64 0, .nils, .int .i64 0, .int .i64 0]))]⟩) (by kernel_rfl) hI2 ?_ fun a3 w3 A3 m3 hI3 =>?_
 ·simp
  exact Wk.weak (ρ:=[0]) (φ:=[]) (by simp[Action.rows])
 refine wp_block (wp_loop_rounds (l.length+1) (qk4 l h (fun a4 w4 A4 m4 Li hN hI4 =>?_) _ 0 _ _ _ _ [] (by omega) (by omega) ⟨rfl,fun i x p hx=>by simp at hx⟩ (by simpa[rowsN]using hI3)))
 simp only[Exit.inBlock,if_true]
 show Code.wp _ _ _ _ _
 refine wp_seq ?_
 refine qaf hm (S1:=⟨[(2, .sf 0 4)],[some (.arr 4 (rowsN Action.rw l Li))]⟩) (by kernel_rfl) hI4 ?_ fun a5 w5 A5 m5 hI5 =>?_
 ·simp
  exact Wk.weak (ρ:=[0]) (φ:=[]) (by simp)
 refine wp_ret ⟨.inr rfl,_,_,_,hI5.inv,⟨trivial,trivial⟩,fun v hv =>?_⟩
 obtain⟨ob,hp,hb⟩:=hI5.outer (k:=0) rfl hv (qdO Action.rw_pure l Li)
 exact⟨_,hI5.inv.moved,hp,fun b hb'=>(hb b hb').resolve_left fun h=>h,ob,Li,rfl,hN⟩
end Go.Proofs.YteckngloamnfdaaGreatDoor
