/- Contracts: keys, notes, troubles of the tower and of the tune. No condition. -/
import Derived.Test.YteckngloamnfdaaGreatDoorBk
import Derived.Test.YteckngloamnfdaaGreatDoorVk
import Derived.Test.YteckngloamnfdaaGreatDoorJg
namespace Go.Proofs.YteckngloamnfdaaGreatDoor
open Go Go.Ab
set_option maxRecDepth 100000
def keyAt (l:List Action) (n:Int):Int:=findI (fun a=>decide (a.note=n)) l
def keyP (l:List Action) (n:Int):PV := .tup [.int .i64 (if 0≤keyAt l n then keyAt l n else 0), .int .i64 (if 0≤keyAt l n then 0 else 3)]
theorem qtm {l:List Action} {n:Int} : -1≤keyAt l n:=by unfold keyAt findI; split<;>omega
theorem ql1 {l:List Action} (h:qcx l=true):l.length≤48∧∀x∈l,x.levers.length≤6:=by
 simp only[qcx,Bool.and_eq_true,decide_eq_true_eq]at h
 refine⟨by omega,fun x hx =>?_⟩
 have:=qdn h.1 x hx
 simp only[qbX,Bool.and_eq_true,decide_eq_true_eq]at this
 omega
theorem qtn (a:Action) (n:Int) (rows:List (List PV)) (i0:Nat) (hr:rows[i0]?=some [.int .i64 n]):HFn Tryz.prog 249 [.agg a.cells, .pe 1 rows i0 0] [] (.bool (decide (a.note=n))) []:=by
 have hi:i0<rows.length:=(List.getElem?_eq_some_iff.1 hr).1
 have hx0:rows[i0]=[.int .i64 n]:=(List.getElem?_eq_some_iff.1 hr).2
 refine qaa hm Tryz.func249 (by kernel_rfl) rfl (by kernel_rfl) rfl qab ?_
 simp[hi,hx0,Action.cells]
theorem qto (l:List Action) (n:Int) (hl:qcx l=true):HFn Tryz.prog 163 [.sl 4 (Action.rows l), .int .i64 n] [] (keyP l n) []:=by
 obtain⟨h1,h2⟩:=ql1 hl
 have kI:HFn Tryz.prog 248 [.sl 4 (Action.rows l), .fn 249 [.pe 1 [[.int .i64 n]] 0 0]] [] (.int .i64 (keyAt l n)) [] :=
  qqe 249 1 [[.int .i64 n]] 0 0 (fun a=>decide (a.note=n)) l (fun a _=>qtn a n _ 0 rfl) (by omega)
 refine qaa hm Tryz.func163 (by kernel_rfl) rfl (by kernel_rfl) rfl qab ?_
 simp
 refine CallZ.use0 (qku l (by omega) (fun x hx=>by have:=h2 x hx; omega)) rfl rfl ?_
 simp[hl]
 refine CallZ.use0 kI rfl rfl ?_
 have hg:=qtm (l:=l) (n:=n)
 generalize hk:keyAt l n=K at *
 simp[keyP,hk]
 refine⟨fun h =>?_,fun h =>?_⟩
 ·simp[show ¬ 0≤K by omega]
  exact h
 ·simp[h]
  omega
theorem qtp (l:List Action) (n:Int) (hl:qcx l=true):HFn Tryz.prog 209 [.sl 4 (Action.rows l), .int .i64 n] [] (keyP l n) []:=by
 obtain⟨h1,h2⟩:=ql1 hl
 refine qaa hm Tryz.func209 (by kernel_rfl) rfl (by kernel_rfl) rfl qab ?_
 simp
 refine CallZ.use0 (qkv l (by omega) (fun x hx=>by have:=h2 x hx; omega)) rfl rfl ?_
 simp[hl]
 refine qac hm l.length (fun i=>⟨[(0, .sl 4 (Action.rows l)),(1, .int .i64 n),(6, .int .i64 i)],[]⟩) (fun i=>∀j (h:j<l.length),j<i→¬l[j].note=n) (by kernel_rfl) ?_ (by simp) (fun i hi hI =>?_) (fun hI =>?_)
 ·exact Wk.weak (ρ:=[]) (φ:=[]) (by simp)
 ·have w1:IntKind.i64.wrap ((i:Int)+1)=(i:Int)+1:=w64 (by omega) (by omega)
  simp[Action.rows_len,Action.row_get,Action.cells,hi]
  refine⟨fun h =>?_,fun h=>⟨qch hi hI h,Wk.weak (ρ:=[]) (φ:=[]) (by simp[w1])⟩⟩
  have:keyAt l n=i:=qb9 hi (by simpa using h) fun j hj hji=>by simpa using hI j hj hji
  simp[keyP,this]
 ·simp[Action.rows_len]
  have:keyAt l n = -1:=qca fun j hj=>by simpa using hI j hj hj
  simp[keyP,this]
def putI (l:List Int) (n:Int):List Int:=l.filter (fun x=>decide (x<n))++[n]++l.filter fun x=>decide (n<x)
def putTo (l:List Int) (n:Int) (i:Nat):List Int:=(l.take i).filter (fun x=>decide (x<n))++(if (l.take i).any (fun x=>decide (n≤x))=true then [n] else [])++(l.take i).filter fun x=>decide (n<x)
theorem ql2 (l:List Int) (n:Int) (i:Nat):(putTo l n i).length≤2*l.length+1:=by
 unfold putTo
 have h1:=List.length_filter_le (fun x=>decide (x<n)) (l.take i)
 have h2:=List.length_filter_le (fun x=>decide (n<x)) (l.take i)
 have h3:=List.length_take_le' i l
 rw[List.length_append,List.length_append]
 split<;>simp only[List.length_cons,List.length_nil]<;>omega
theorem ql3 {l:List Int} {n:Int} (h:l.any (fun x=>decide (n≤x))=false):l.filter (fun x=>decide (n<x))=[]:=by
 rw[List.filter_eq_nil_iff]
 intro x hx
 have:=List.any_eq_false.1 h x hx
 simp at this ⊢
 omega
theorem qtq (l:List Int) (n x:Int):x∈putI l n↔x=n∨x∈l:=by
 unfold putI
 simp only[List.mem_append,List.mem_filter,List.mem_singleton,decide_eq_true_eq]
 constructor
 ·rintro ((⟨h,_⟩ | h) | ⟨h,_⟩)
  ·exact .inr h
  ·exact .inl h
  ·exact .inr h
 ·rintro (h | h)
  ·exact .inl (.inr h)
  ·rcases Int.lt_trichotomy x n with h1 | h1 | h1
   ·exact .inl (.inl ⟨h,h1⟩)
   ·exact .inl (.inr h1)
   ·exact .inr ⟨h,h1⟩
theorem qtr {l:List Int} (h:qbQ l) (n:Int):qbQ (putI l n):=by
 unfold putI qbQ
 rw[List.pairwise_append,List.pairwise_append]
 refine⟨⟨h.filter _,List.pairwise_singleton _ _,fun a ha b hb =>?_⟩,h.filter _,fun a ha b hb =>?_⟩
 ·simp only[List.mem_filter,decide_eq_true_eq]at ha
  rw[List.mem_singleton]at hb
  omega
 ·simp only[List.mem_append,List.mem_filter,List.mem_singleton,decide_eq_true_eq]at ha hb
  rcases ha with ⟨_,h1⟩ | h1<;>omega
set_option maxHeartbeats 4000000 in
theorem qts (l:List Int) (n:Int) (hl:l.length≤1048576) (hs:qbQ l):HFn Tryz.prog 278 [.sl 1 (qad l), .int .i64 n] [] (.sf 0 1) [some (.arr 1 (qad (putI l n)))]:=by
 refine qaa hm Tryz.func278 (by kernel_rfl) rfl (by kernel_rfl) rfl (fun _ _ h=>h) ?_
 simp
 refine qac hm l.length (fun i=>⟨[(0, .sl 1 (qad l)),(1, .int .i64 n),(5, .sf 0 1),(6, .bool ((l.take i).any fun x=>decide (n≤x))),(7, .int .i64 i)],[some (.arr 1 (qad (putTo l n i)))]⟩) (fun _=>True) (by kernel_rfl) ?_ trivial (fun i hi _ =>?_) (fun _ =>?_)
 ·exact (qaA (t:=5) (z:=1) rfl).trans (Wk.weak (ρ:=[0]) (φ:=[]) (by simp[putTo,qad]))
 ·have w1:IntKind.i64.wrap ((i:Int)+1)=(i:Int)+1:=w64 (by omega) (by omega)
  have hle:=ql2 l n i
  have ha:((l.take (i+1)).any fun x=>decide (n≤x))=(((l.take i).any fun x=>decide (n≤x))||decide (n≤l[i])):=by
   rw[←List.take_append_getElem hi,List.any_append]
   simp
  have e1:(l.take (i+1)).filter (fun x=>decide (x<n))=(l.take i).filter (fun x=>decide (x<n))++(if l[i]<n then [l[i]] else []):=by
   rw[←List.take_append_getElem hi,List.filter_append]
   by_cases h:l[i]<n<;>simp[h]
  have e2:(l.take (i+1)).filter (fun x=>decide (n<x))=(l.take i).filter (fun x=>decide (n<x))++(if n<l[i] then [l[i]] else []):=by
   rw[←List.take_append_getElem hi,List.filter_append]
   by_cases h:n<l[i]<;>simp[h]
  cases hd:(l.take i).any fun x=>decide (n≤x) with
  | true =>

   obtain⟨y,hy,hny⟩:=List.any_eq_true.1 hd
   obtain⟨j,hj,rfl⟩:=List.mem_take_iff_getElem.1 hy
   have hlt:=List.pairwise_iff_getElem.1 hs j i (by omega) hi (by omega)
   simp only[decide_eq_true_eq]at hny
   have hni:n<l[i]:=by omega
   have hp:putTo l n (i+1)=putTo l n i++[l[i]]:=by
    unfold putTo
    rw[ha,hd,e1,e2]
    simp[hni,show ¬l[i]<n by omega]
   rw[hp,ha,hd]
   generalize putTo l n i=T at hle ⊢
   simp[qao,qbN,hi]
   refine⟨by simp[rowsOne],by omega,by omega,Wk.weak (ρ:=[0]) (φ:=[]) ?_⟩
   simp[w1,qcf]
   rfl
  | false =>
   have hn:=ql3 hd
   by_cases hge:n≤l[i]
   ·by_cases hgt:n<l[i]
    ·have hp:putTo l n (i+1)=putTo l n i++[n]++[l[i]]:=by
      unfold putTo
      rw[ha,hd,e1,e2,hn]
      simp[hge,hgt,show ¬l[i]<n by omega]
     rw[hp,ha,hd]
     generalize putTo l n i=T at hle ⊢
     simp[qao,qbN,hi,hge,hgt]
     refine⟨by simp[rowsOne],by omega,by omega,by simp[rowsOne],by omega,by omega,Wk.weak (ρ:=[0]) (φ:=[]) ?_⟩
     simp[w1,qcf]
     rfl
    ·have he:l[i]=n:=by omega
     have hp:putTo l n (i+1)=putTo l n i++[l[i]]:=by
      unfold putTo
      rw[ha,hd,e1,e2,hn]
      simp[he]
     rw[hp,ha,hd]
     generalize putTo l n i=T at hle ⊢
     simp[qao,qbN,hi,hge,hgt]
     refine⟨by simp[rowsOne],by omega,by omega,Wk.weak (ρ:=[0]) (φ:=[]) ?_⟩
     simp[w1,qcf]
     rfl
   ·have hp:putTo l n (i+1)=putTo l n i++[l[i]]:=by
     unfold putTo
     rw[ha,hd,e1,e2,hn]
     simp[hge,show l[i]<n by omega,show ¬n<l[i] by omega]
    rw[hp,ha,hd]
    generalize putTo l n i=T at hle ⊢
    simp[qao,qbN,hi,hge]
    refine⟨by simp[rowsOne],by omega,by omega,Wk.weak (ρ:=[0]) (φ:=[]) ?_⟩
    simp[w1,qcf]
    rfl
 ·have hle:=ql2 l n l.length
  rw[List.take_length]
  cases hd:l.any fun x=>decide (n≤x) with
  | true =>
   have hp:putTo l n l.length=putI l n:=by
    unfold putTo putI
    rw[List.take_length,hd]
    simp
   rw[hp]
   simp[qao]
   exact Wk.weak (ρ:=[0]) (φ:=[]) (by simp)
  | false =>
   have hp:putI l n=putTo l n l.length++[n]:=by
    unfold putTo putI
    rw[List.take_length,hd,ql3 hd]
    simp
   rw[hp]
   generalize putTo l n l.length=T at hle ⊢
   simp[qao]
   refine⟨by simp[rowsOne],by omega,by omega,Wk.weak (ρ:=[0]) (φ:=[]) ?_⟩
   simp[qcf]
   rfl
def putsI (t:List Tone) (i:Nat):List Int:=(t.take i).foldl (fun l x=>putI l x.note) []
theorem ql4 (t:List Tone) {i:Nat} (hi:i<t.length):putsI t (i+1)=putI (putsI t i) t[i].note:=by
 unfold putsI
 rw[←List.take_append_getElem hi,List.foldl_append]
 rfl
theorem ql5 (t:List Tone):∀i,i≤t.length→qbQ (putsI t i)∧∀n,n∈putsI t i↔∃x∈t.take i,x.note=n:=by
 intro i
 induction i with
 | zero=>simp[putsI,qbQ]
 | succ i ih =>
  intro hi
  obtain⟨h1,h2⟩:=ih (by omega)
  have hi':i<t.length:=by omega
  rw[ql4 t hi']
  refine⟨qtr h1 _,fun n =>?_⟩
  rw[qtq,h2,←List.take_append_getElem hi']
  constructor
  ·rintro (h | ⟨x,hx,e⟩)
   ·exact⟨t[i],List.mem_append_right _ (List.mem_singleton.2 rfl),h.symm⟩
   ·exact⟨x,List.mem_append_left _ hx,e⟩
  ·rintro ⟨x,hx,e⟩
   rcases List.mem_append.1 hx with h | h
   ·exact .inr ⟨x,h,e⟩
   ·rw[List.mem_singleton]at h
    subst h
    exact .inl e.symm
theorem qtt (t:Tune):putsI t.tones t.tones.length=qbh t:=by
 obtain⟨h1,h2⟩:=ql5 t.tones _ (Nat.le_refl _)
 obtain⟨h3,h4⟩:=qlR t
 refine qlQ h1 h3 fun x =>?_
 rw[h2,h4,List.take_length]
theorem ql6 {l:List Int} (h:qbQ l) (hb:∀x∈l,0≤x∧x≤127):l.length≤128:=by
 have key:∀(l:List Int) (a:Int),qbQ l→(∀x∈l,a≤x∧x≤127)→(l.length:Int)≤max 0 (128-a):=by
  intro l
  induction l with
  | nil=>intro a _ _; simp; omega
  | cons y r ih =>
   intro a hs hb
   have h1:=hb y List.mem_cons_self
   have h2:=ih (y+1) (List.Pairwise.tail hs) fun x hx=>⟨by have:=(List.pairwise_cons.1 hs).1 x hx; omega,(hb x (List.mem_cons_of_mem _ hx)).2⟩
   rw[List.length_cons]
   omega
 have:=key l 0 h hb
 omega
theorem ql7 {t:Tune} (h:qbK t=true):t.tones.length≤128∧∀x∈t.tones,0≤x.note∧x.note≤127:=by
 simp only[qbK,Bool.and_eq_true,decide_eq_true_eq,List.all_eq_true,List.mem_range]at h
 refine⟨h.2.2,fun x hx =>?_⟩
 obtain⟨i,hi,rfl⟩:=List.getElem_of_mem hx
 have:=h.1 i hi
 rw[qgb hi]at this
 simp only[Bool.and_eq_true,qea,decide_eq_true_eq]at this
 omega
set_option maxHeartbeats 2000000 in
theorem qtu (t:Tune) (ht:qbK t=true):HFn Tryz.prog 208 [.agg t.cells] [] (.tup [.sf 0 1, .int .i64 0]) [some (.arr 1 (qad (qbh t)))]:=by
 obtain⟨h1,h2⟩:=ql7 ht
 have kO:=qp3 t (by omega)
 simp only[Tune.ptr,Tune.cells]at kO
 refine qaa hm Tryz.func208 (by kernel_rfl) rfl (by kernel_rfl) rfl (fun _ _ h=>h) ?_
 simp[Tune.cells]
 refine CallZ.use0 kO rfl rfl ?_
 simp[ht]
 refine qac hm t.tones.length (fun i=>⟨[(1, .pb 0 0),(4, .sf 1 1),(5, .int .i64 i)],[some (.box t.cells),some (.arr 1 (qad (putsI t.tones i)))]⟩) (fun _=>True) (by kernel_rfl) ?_ trivial (fun i hi _ =>?_) (fun _ =>?_)
 ·exact (qaA (t:=4) (z:=1) rfl).trans (Wk.weak (ρ:=[0,1]) (φ:=[]) (by simp[Tune.cells,putsI,qad]))
 ·have w1:IntKind.i64.wrap ((i:Int)+1)=(i:Int)+1:=w64 (by omega) (by omega)
  obtain⟨s1,s2⟩:=ql5 t.tones i (by omega)
  have sl:=ql6 s1 fun x hx=>by
   obtain⟨y,hy,rfl⟩:=(s2 x).1 hx
   exact h2 y (List.mem_of_mem_take hy)
  rw[ql4 t.tones hi]
  generalize putsI t.tones i=T at *
  simp[Tune.cells,Tone.rows,Tone.cells,hi]
  refine CallZ.use (qts T t.tones[i].note (by omega) s1) rfl (.inr ⟨qcc _,trivial⟩) rfl rfl ?_
  simp
  refine Wk.weak (ρ:=[0,2]) (φ:=[]) ?_
  simp[w1]
 ·rw[qtt]
  simp[Tune.cells,Tone.rows_len]
  exact Wk.weak (ρ:=[1]) (φ:=[]) (by simp)
theorem qhW {t:Tune} (ht:qbK t=true):(qbh t).length≤128∧∀n∈qbh t,0≤n∧n≤127:=by
 obtain⟨h1,h2⟩:=ql7 ht
 obtain⟨h3,h4⟩:=qlR t
 have hb:∀n∈qbh t,0≤n∧n≤127:=fun n hn=>by
  obtain⟨x,hx,rfl⟩:=(h4 n).1 hn
  exact h2 x hx
 exact⟨ql6 h3 hb,hb⟩
end Go.Proofs.YteckngloamnfdaaGreatDoor
