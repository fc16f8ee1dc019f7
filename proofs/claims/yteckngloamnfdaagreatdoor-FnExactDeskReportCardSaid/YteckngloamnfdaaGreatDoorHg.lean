/- Contracts: slices.BinarySearchFunc.; Contracts: an order's place in a list.; Contracts: an order is removed. Contracts: pins that are searched, drums that are copied.; Lists in order, searched by comparing; pins that are removed.; Contracts: a pin is removed. Contracts: the active ones of records.; Contracts: keys of a state.; Contracts: the state after records: one step.; Contracts: the state after records, and whether a record can follow.; Contracts: the state after records, as the other side computes it.; Contracts: whether a record can follow others, and whether records are a ledger.; Contracts: a ledger's active records, its states, and what is added to it. -/
import Derived.Test.YteckngloamnfdaaGreatDoorCg
import Derived.Test.YteckngloamnfdaaGreatDoorTPair
import Derived.Test.YteckngloamnfdaaGreatDoorCk
import Derived.Test.YteckngloamnfdaaGreatDoorCj
import Derived.Test.YteckngloamnfdaaGreatDoorTy
import Derived.Test.YteckngloamnfdaaGreatDoorAch
import Derived.Test.YteckngloamnfdaaGreatDoorAcj
import Derived.Test.YteckngloamnfdaaGreatDoorLPair
namespace Go.Proofs.YteckngloamnfdaaGreatDoor
open Go Go.Ab
set_option maxRecDepth 100000
structure Cut (n:Nat) (c:Nat→Int) (p:Nat):Prop where
 le:p≤n
 lo:∀i,i<p→c i<0
 hi:∀i,p≤i→i<n→0≤c i
theorem qhy (i j:Nat) (h:i+j≤9223372036854775807):IntKind.i64.wrap ((IntKind.u64.wrap (IntKind.i64.wrap ((i:Int)+j))).fdiv (2^min 1 IntKind.u64.bits))=(((i+j)/2:Nat):Int):=by
 rw[w64 (n:=(i:Int)+j) (by omega) (by omega)]
 have e:IntKind.u64.wrap ((i:Int)+j)=((i:Int)+j)%18446744073709551616:=rfl
 have e2:(2:Int)^min 1 IntKind.u64.bits=2:=rfl
 rw[e,e2,Int.fdiv_eq_ediv_of_nonneg _ (by omega)]
 rw[w64 (by omega) (by omega)]
 omega
end Go.Proofs.YteckngloamnfdaaGreatDoor
namespace Go.Proofs.YteckngloamnfdaaGreatDoor
open Go Go.Ab
set_option maxRecDepth 100000
theorem qky (a:List UInt8):HFn Tryz.prog 396 [.str a] [] (.bool false) []:=by
 refine qaa hm Tryz.func396 (by kernel_rfl) rfl (by kernel_rfl) rfl qab ?_
 simp
def cmpS (a b:List UInt8):Int:=if Op.bytesLess a b=true then -1 else if a=b then 0 else 1
theorem qkz (a b:List UInt8):HFn Tryz.prog 381 [.str a, .str b] [] (.int .i64 (cmpS a b)) []:=by
 refine qaa hm Tryz.func381 (by kernel_rfl) rfl (by kernel_rfl) rfl qab ?_
 simp
 refine CallZ.use0 (qky _) rfl rfl ?_
 simp
 refine CallZ.use0 (qky _) rfl rfl ?_
 simp[cmpS]
 grind
theorem qeM {a b:List UInt8}:cmpS a b<0↔Op.bytesLess a b=true:=by unfold cmpS; grind
theorem qqP (a:List UInt8):Op.bytesLess a a=false:=by rw[qcG]; simp[List.lt_irrefl]
theorem qfh {a b:List UInt8}:cmpS a b=0↔a=b:=by
 unfold cmpS
 by_cases e:a=b
 ·subst e; simp[qqP]
 ·grind
end Go.Proofs.YteckngloamnfdaaGreatDoor
namespace Go.Proofs.YteckngloamnfdaaGreatDoor
open Go Go.Ab
set_option maxRecDepth 100000
end Go.Proofs.YteckngloamnfdaaGreatDoor
namespace Go.Proofs.YteckngloamnfdaaGreatDoor
open Go Go.Ab
set_option maxRecDepth 100000
end Go.Proofs.YteckngloamnfdaaGreatDoor
namespace Go.Proofs.YteckngloamnfdaaGreatDoor
open Go Go.Ab
set_option maxRecDepth 100000
def qge {α:Type} (l:List α) (c:α→Int):Prop:=∀i j (hi:i<l.length) (hj:j<l.length),i<j→c l[j]≤0→c l[i]<0
def cutG {α:Type} (l:List α) (c:α→Int):Nat:=l.findIdx fun x=>decide (0≤c x)
def qdM {α:Type} (l:List α) (c:α→Int):Bool:=match l[cutG l c]? with
 | some x=>decide (c x=0)
 | none=>false
def findG {α:Type} (l:List α) (c:α→Int):Int:=findI (fun x=>decide (c x=0)) l
def cAt {α:Type} (l:List α) (c:α→Int) (i:Nat):Int:=match l[i]? with
 | some x=>c x
 | none=>1
theorem qce {α:Type} {l:List α} {c:α→Int} {i:Nat} (hi:i<l.length):cAt l c i=c l[i]:=by simp[cAt,hi]
theorem qeN {α:Type} {l:List α} {c:α→Int} (h:qge l c):Cut l.length (cAt l c) (cutG l c):=by
 refine⟨List.findIdx_le_length,fun i hi =>?_,fun i h1 h2 =>?_⟩
 ·have hl:i<l.length:=Nat.lt_of_lt_of_le hi List.findIdx_le_length
  rw[qce hl]
  have:=List.not_of_lt_findIdx hi
  simpa using this
 ·rw[qce h2]
  have hp:cutG l c<l.length:=by omega
  have hg:decide (0≤c l[cutG l c])=true:=List.findIdx_getElem (w:=hp)
  have hg:0≤c l[cutG l c]:=by simpa using hg
  by_cases e:i=cutG l c
  ·subst e; exact hg
  ·by_cases h3:0≤c l[i]
   ·exact h3
   ·have:=h (cutG l c) i hp h2 (by omega) (by omega)
    omega
theorem qeO {α:Type} (l:List α) (c:α→Int):qdM l c=(decide (cutG l c<l.length)&&decide (cAt l c (cutG l c)=0)):=by
 unfold qdM cAt
 by_cases h:cutG l c<l.length
 ·simp[h]
 ·rw[List.getElem?_eq_none (by omega)]; simp[h]
theorem qhz {α:Type} {l:List α} {c:α→Int} (h:qge l c):findG l c=if qdM l c=true then (cutG l c:Int) else -1:=by
 have hc:=qeN h
 rw[qeO]
 split
 ·rename_i hf
  simp only[Bool.and_eq_true,decide_eq_true_eq]at hf
  obtain⟨h1,h2⟩:=hf
  rw[qce h1]at h2
  refine qb9 h1 (by simpa using h2) fun j hj hlt =>?_
  have:=hc.lo j hlt
  rw[qce hj]at this
  simp only[decide_eq_false_iff_not]
  omega
 ·rename_i hf
  refine qca fun j hj =>?_
  simp only[decide_eq_false_iff_not]
  intro e
  apply hf
  have hle:cutG l c≤j:=by
   by_cases g:j<cutG l c
   ·have:=hc.lo j g
    rw[qce hj]at this
    omega
   ·omega
  by_cases g:j=cutG l c
  ·subst g
   simp[hj,qce hj,e]
  ·exfalso
   have hp:cutG l c<l.length:=by omega
   have h1:=hc.hi (cutG l c) (Nat.le_refl _) hp
   rw[qce hp]at h1
   have:=h (cutG l c) j hp hj (by omega) (by omega)
   omega
theorem qkA {α:Type} {l:List α} {c:α→Int} (h:qdM l c=true):cutG l c<l.length:=by
 rw[qeO]at h
 simp only[Bool.and_eq_true,decide_eq_true_eq]at h
 exact h.1
end Go.Proofs.YteckngloamnfdaaGreatDoor
namespace Go.Proofs.YteckngloamnfdaaGreatDoor
open Go Go.Ab
set_option maxRecDepth 100000
end Go.Proofs.YteckngloamnfdaaGreatDoor
namespace Go.Proofs.YteckngloamnfdaaGreatDoor
open Go Go.Ab
set_option maxRecDepth 100000
def recAt (l:List Record) (i:Nat):Record:=l.getD i ⟨0,[],[]⟩
theorem qdN {l:List Record} {i:Nat} (hi:i<l.length):recAt l i=l[i]:=by simp[recAt,hi]
def act (l:List Record):Nat→Option (List Int)
 | 0=>some []
 | i+1=>match act l i with
  | none=>none
  | some S=>if (recAt l i).kind≠3 then some (S++[(i:Int)]) else if S=[] then none else some S.dropLast
theorem qeP {l:List Record}:∀ {i:Nat} {S:List Int},act l i=some S→S.length≤i
 | 0,S,h=>by cases h; exact Nat.le_refl _
 | i+1,S,h=>by
  unfold act at h
  cases ha:act l i with
  | none=>rw[ha]at h; cases h
  | some T =>
   have:=qeP ha
   rw[ha]at h
   simp only at h
   split at h
   ·cases h; simp; omega
   ·split at h
    ·cases h
    ·cases h; simp; omega
theorem qhA {l:List Record}:∀ {i:Nat} {S:List Int},act l i=some S→∀k∈S,0≤k∧k<i
 | 0,S,h,k,hk=>by cases h; simp at hk
 | i+1,S,h,k,hk=>by
  unfold act at h
  cases ha:act l i with
  | none=>rw[ha]at h; cases h
  | some T =>
   have ih:=qhA ha
   rw[ha]at h
   simp only at h
   split at h
   ·cases h
    rcases List.mem_append.1 hk with g | g
    ·have:=ih k g; omega
    ·simp at g; omega
   ·split at h
    ·cases h
    ·cases h
     have:=ih k (List.dropLast_subset _ hk)
     omega
theorem qqQ {l:List Record} {i:Nat} (h:act l i=none):act l (i+1)=none:=by unfold act; rw[h]
theorem qhB {l:List Record} {i:Nat} {S:List Int} (h:act l i=some S):act l (i+1)=if (recAt l i).kind≠3 then some (S++[(i:Int)]) else if S=[] then none else some S.dropLast:=by
 conv=>lhs; unfold act
 rw[h]
theorem qkB {l:List Record} {i:Nat} (h:act l i=none):∀j,i≤j→act l j=none:=fun j hij=>by
 induction j with
 | zero =>
   have:i=0:=by omega
   subst this; exact h
 | succ j ih =>
  by_cases e:i=j+1
  ·subst e; exact h
  ·exact qqQ (ih (by omega))
theorem qkC {l:List Record} {k:Nat}:∀ {i:Nat},i≤k→act (l.take k) i=act l i
 | 0,_=>rfl
 | i+1,h=>by
  have ih:=qkC (l:=l) (i:=i) (k:=k) (by omega)
  have e:recAt (l.take k) i=recAt l i:=by
   unfold recAt
   rw[List.getD_eq_getElem?_getD,List.getD_eq_getElem?_getD,List.getElem?_take,if_pos (by omega)]
  unfold act
  rw[ih,e]
def actL (l:List Record) (i:Nat):List Int:=(act l i).getD []
theorem qcy {l:List Record} {i:Nat} {S:List Int} (h:act l i=some S):actL l i=S:=by simp[actL,h]
theorem qcf (a b:List Int):qad (a++b)=qad a++qad b:=by simp[qad]
theorem qkD (a:List Int) (n:Nat):qad (a.take n)=(qad a).take n:=by simp[qad]
theorem qhC (l:List Record) (hl:l.length≤1048576) :
  HFn Tryz.prog 24 [.sl 3 (Record.rows l)] [] (.tup [.sf 0 1, .bool (act l l.length).isSome]) [some (.arr 1 (qad (actL l l.length)))]:=by
 refine qaa hm Tryz.func24 (by kernel_rfl) rfl (by kernel_rfl) rfl (fun _ _ h=>h) ?_
 simp[Record.rows_len]
 refine qac hm l.length (fun i=>⟨[(4, .sf 0 1),(7, .sl 3 (Record.rows l)),(8, .int .i64 l.length),(9, .int .i64 i)],[some (.arr 1 (qad (actL l i)))]⟩) (fun i=>(act l i).isSome=true) (by kernel_rfl) ?_ rfl (fun i hi hI =>?_) (fun hI =>?_)
 ·exact (qaA (t:=4) (z:=1) rfl).trans (Wk.weak (ρ:=[0]) (φ:=[]) (by simp[qad,actL,act]))
 ·obtain⟨S,hS⟩:=Option.isSome_iff_exists.1 hI
  have hSl:=qeP hS
  have hs:=qhB hS
  rw[qdN hi]at hs
  have w1:IntKind.i64.wrap ((i:Int)+1)=(i:Int)+1:=w64 (by omega) (by omega)
  have hSa:=qcy hS
  rw[hSa]
  simp[hi,Record.rows,Record.cells,qao]
  refine⟨fun hk =>?_,fun hk =>?_⟩
  ·rw[if_pos hk]at hs
   have hsl:=qcy hs
   refine⟨by simp[rowsOne],by omega,by omega,by rw[hs]; rfl,Wk.weak (ρ:=[0]) (φ:=[]) ?_⟩
   simp[hsl,qcf,w1]
   rfl
  ·rw[if_neg (by simpa using hk)]at hs
   refine⟨fun h0 =>?_,fun h0 =>?_⟩
   ·rw[if_pos h0]at hs
    have hu:=qkB hs l.length (by omega)
    refine (qco (t:=0) 0 1 rfl rfl).trans (Wk.weak (ρ:=[2]) (φ:=[]) ?_)
    simp[hu,actL,qad]
   ·rw[if_neg h0]at hs
    have hpos:=List.length_pos_iff.2 h0
    have hw:IntKind.i64.wrap ((S.length:Int)-1)=((S.length-1:Nat):Int):=by rw[w64 (by omega) (by omega)]; omega
    have hsl:=qcy hs
    rw[hw]
    refine⟨⟨by omega,by omega⟩,by rw[hs]; rfl,(qfb (t:=4) (k:=0) (z:=1) (len:=S.length-1) (rows:=qad S) rfl rfl (by rw[qao]; omega)).trans (Wk.weak (ρ:=[0]) (φ:=[]) ?_)⟩
    simp[hsl,w1,List.dropLast_eq_take,qkD]
 ·simp
  refine Wk.weak (ρ:=[0]) (φ:=[]) ?_
  simp[hI]
theorem qhD (l:List Record) (n:Nat) (hn:n≤l.length) (hl:l.length≤1048576) :
  HFn Tryz.prog 17 [.sl 3 (Record.rows l), .int .i64 n] [] (.tup [.sf 0 1, .bool (act l n).isSome]) [some (.arr 1 (qad (actL l n)))]:=by
 refine qaa hm Tryz.func17 (by kernel_rfl) rfl (by kernel_rfl) rfl (fun _ _ h=>h) ?_
 simp
 refine qac hm n (fun i=>⟨[(0, .sl 3 (Record.rows l)),(1, .int .i64 n),(6, .sf 0 1),(7, .int .i64 i)],[some (.arr 1 (qad (actL l i)))]⟩) (fun i=>(act l i).isSome=true) (by kernel_rfl) ?_ rfl (fun i hi' hI =>?_) (fun hI =>?_)
 ·exact (qaA (t:=6) (z:=1) rfl).trans (Wk.weak (ρ:=[0]) (φ:=[]) (by simp[qad,actL,act]))
 ·have hi:i<l.length:=by omega
  obtain⟨S,hS⟩:=Option.isSome_iff_exists.1 hI
  have hSl:=qeP hS
  have hs:=qhB hS
  rw[qdN hi]at hs
  have w1:IntKind.i64.wrap ((i:Int)+1)=(i:Int)+1:=w64 (by omega) (by omega)
  have hSa:=qcy hS
  rw[hSa]
  simp[hi,hi',Record.rows,Record.cells,qao]
  refine⟨fun hk =>?_,fun hk=>⟨fun h0 =>?_,fun h0 =>?_⟩⟩
  ·rw[if_pos hk]at hs
   have hsl:=qcy hs
   refine⟨by simp[rowsOne],by omega,by omega,by rw[hs]; rfl,Wk.weak (ρ:=[0]) (φ:=[]) ?_⟩
   simp[hsl,qcf,w1]
   rfl
  ·rw[if_neg (by simpa using hk),if_pos h0]at hs
   have hu:=qkB hs n (by omega)
   refine (qco (t:=0) 0 1 rfl rfl).trans (Wk.weak (ρ:=[1]) (φ:=[]) ?_)
   simp[hu,actL,qad]
  ·rw[if_neg (by simpa using hk),if_neg h0]at hs
   have hpos:=List.length_pos_iff.2 h0
   have hw:IntKind.i64.wrap ((S.length:Int)-1)=((S.length-1:Nat):Int):=by rw[w64 (by omega) (by omega)]; omega
   have hsl:=qcy hs
   rw[hw]
   refine⟨⟨by omega,by omega⟩,by rw[hs]; rfl,(qfb (t:=6) (k:=0) (z:=1) (len:=S.length-1) (rows:=qad S) rfl rfl (by rw[qao]; omega)).trans (Wk.weak (ρ:=[0]) (φ:=[]) ?_)⟩
   simp[hsl,w1,List.dropLast_eq_take,qkD]
 ·simp
  refine Wk.weak (ρ:=[0]) (φ:=[]) ?_
  simp[hI]
end Go.Proofs.YteckngloamnfdaaGreatDoor
namespace Go.Proofs.YteckngloamnfdaaGreatDoor
open Go Go.Ab
set_option maxRecDepth 100000
theorem qkE:∀(a b:List UInt8),Lib.compareBytes a b=cmpS a b
 | [],[]=>by simp[Lib.compareBytes,cmpS,Op.bytesLess]
 | [],y::b=>by simp[Lib.compareBytes,cmpS,Op.bytesLess]
 | x::a,[]=>by simp[Lib.compareBytes,cmpS,Op.bytesLess]
 | x::a,y::b=>by
  have ih:=qkE a b
  unfold cmpS at ih ⊢
  rw[Lib.compareBytes,Op.bytesLess]
  by_cases h1:x<y
  ·simp[h1]
  ·by_cases h2:y<x
   ·have h3:¬x=y:=fun e=>by subst e; exact h1 h2
    simp[h1,h2,h3]
   ·have h3:x=y:=by
     have:=UInt8.le_antisymm (UInt8.not_lt.1 h2) (UInt8.not_lt.1 h1)
     exact this
    subst h3
    simp[h1,ih]
theorem qqR (a b:List UInt8):HFn Tryz.prog 343 [.str a, .str b] [] (.int .i64 (cmpS a b)) []:=by
 refine qaa hm Tryz.func343 (by kernel_rfl) rfl (by kernel_rfl) rfl qab ?_
 simp
 refine CallZ.use0 (qqI Tryz.func374 (by kernel_rfl) (by kernel_rfl) (by kernel_rfl) (by kernel_rfl) a b) rfl rfl ?_
 simp[qkE]
theorem qqS (a b:List UInt8):HFn Tryz.prog 301 [.str a, .str b] [] (.int .i64 (cmpS a b)) []:=by
 refine qaa hm Tryz.func301 (by kernel_rfl) rfl (by kernel_rfl) rfl qab ?_
 simp
 refine CallZ.use0 (qqR a b) rfl rfl ?_
 simp
theorem qkF (x:Pair) (s:List UInt8):HFn Tryz.prog 300 [.agg x.cells, .str s] [] (.int .i64 (cmpS x.key s)) []:=by
 refine qaa hm Tryz.func300 (by kernel_rfl) rfl (by kernel_rfl) rfl qab ?_
 simp[Pair.cells]
 refine CallZ.use0 (qqS _ _) rfl rfl ?_
 simp
theorem qqT (l:List Pair) (s:List UInt8) (c:Nat→Int) (p:Nat) (hl:l.length≤1048576) (hp:Cut l.length c p) (hc:∀i (h:i<l.length),c i=cmpS l[i].key s) :
  HFn Tryz.prog 299 [.sl 2 (Pair.rows l), .str s, .fn 300 []] [] (.tup [.int .i64 p, .bool (decide (p<l.length)&&decide (c p=0))]) []:=by
 refine qaa hm Tryz.func299 (by kernel_rfl) rfl (by kernel_rfl) rfl qab ?_
 simp
 refine qeB hm (ι:={x:Nat×Nat // x.1≤p∧p≤x.2∧x.2≤l.length}) (fun x=>⟨[(0, .sl 2 (Pair.rows l)),(1, .str s),(2, .fn 300 []),(8, .int .i64 l.length),(9, .int .i64 x.1.1),(10, .int .i64 x.1.2)],[]⟩) (fun x=>x.1.2-x.1.1) (by kernel_rfl) ⟨(0,l.length),by have:=hp.le; omega⟩ ?_ ?_
 ·refine Wk.weak (ρ:=[]) (φ:=[]) ?_
  simp[Pair.rows]
 ·rintro ⟨⟨i,j⟩,h1,h2,h3⟩
  simp only at h1 h2 h3 ⊢
  by_cases hij:i<j
  ·obtain⟨k,hk⟩:∃k,k=(i+j)/2:=⟨_,rfl⟩
   have hmid:=qhy i j (by omega)
   rw[←hk]at hmid
   have hm1:k<l.length:=by omega
   have hw1:IntKind.i64.wrap ((k:Int)+1)=((k+1:Nat):Int):=by rw[w64 (by omega) (by omega)]; omega
   simp[hmid,hij,Pair.rows,Pair.cells,hm1]
   refine CallZ.use0 (qkF l[k] s) rfl rfl ?_
   have c1:=hp.lo k
   have c2:=hp.hi k
   rw[hc k hm1]at c1 c2
   simp
   refine⟨fun h =>?_,fun h =>?_⟩
   ·refine⟨k+1,j,Wk.weak (ρ:=[]) (φ:=[]) ?_,by omega,by omega⟩
    simp[hw1]
   ·refine⟨i,k,Wk.weak (ρ:=[]) (φ:=[]) ?_,by omega,by omega⟩
    simp
  ·obtain rfl:i=p:=by omega
   obtain rfl:i=j:=by omega
   simp
   by_cases hip:i<l.length
   ·simp[Pair.rows,Pair.cells,hip]
    refine CallY.use (res := .int .i64 (cmpS l[i].key s)) (fun _=>⟨rfl,qkF l[i] s⟩) rfl rfl ?_
    simp[hc i hip]
   ·simp[Pair.rows,hip]
    refine CallY.use (res := .int .i64 0) (fun h=>absurd h (by simp)) rfl rfl ?_
    simp
def qbx (S:List Pair):Prop:=∀i j (hi:i<S.length) (hj:j<S.length),i<j→S[i].key<S[j].key
theorem qgf {S:List Pair} (h:qbx S) (s:List UInt8):qge S fun x=>cmpS x.key s:=fun i j hi hj hij hle=>by
 have h1:=h i j hi hj hij
 simp only at hle ⊢
 rw[qeM,qcG]
 by_cases e:S[j].key=s
 ·rw[e]at h1; simpa using h1
 ·have h2:cmpS S[j].key s<0:=by
   have:=mt qfh.1 e
   omega
  rw[qeM,qcG]at h2
  simpa using List.lt_trans h1 (by simpa using h2)
def qan (S:List Pair) (s:List UInt8):Nat:=cutG S fun x=>cmpS x.key s
def keyIn (S:List Pair) (s:List UInt8):Bool:=qdM S fun x=>cmpS x.key s
theorem qkG (S:List Pair) (s:List UInt8) (hl:S.length≤1048576) (h:qbx S) :
  HFn Tryz.prog 234 [.sl 2 (Pair.rows S), .str s] [] (.tup [.int .i64 (qan S s), .bool (keyIn S s)]) []:=by
 refine qaa hm Tryz.func234 (by kernel_rfl) rfl (by kernel_rfl) rfl qab ?_
 simp
 refine CallZ.use0 (qqT S s (cAt S fun x=>cmpS x.key s) (qan S s) hl (qeN (qgf h s)) (fun i hi=>qce hi)) rfl rfl ?_
 simp[keyIn,qeO,qan]
 rfl
end Go.Proofs.YteckngloamnfdaaGreatDoor
namespace Go.Proofs.YteckngloamnfdaaGreatDoor
open Go Go.Ab
set_option maxRecDepth 100000
theorem qkH {S:List Pair}:qbx S↔S.Pairwise fun a b=>a.key<b.key:=by
 rw[List.pairwise_iff_getElem]
 exact⟨fun h i j hi hj hij=>h i j hi hj hij,fun h i j hi hj hij=>h i j hi hj hij⟩
def qaP (S:List Pair) (s:List UInt8):Nat:=if keyIn S s=true then qan S s+1 else qan S s
def stepK (S:List Pair) (r:Record):List Pair:=S.take (qan S r.key)++((if r.kind=2 then [] else [⟨r.key,r.text⟩])++S.drop (qaP S r.key))
theorem qgg (S:List Pair) (s:List UInt8):qan S s≤S.length:=List.findIdx_le_length
theorem qkI (S:List Pair) (s:List UInt8):qaP S s≤S.length:=by
 unfold qaP
 split
 ·rename_i h; exact qkA h
 ·exact qgg S s
theorem qhE {S:List Pair} (h:qbx S) (s:List UInt8) {i:Nat} (hi:i<S.length) (hk:i<qan S s):S[i].key<s:=by
 have:=(qeN (qgf h s)).lo i hk
 rw[qce hi,qeM,qcG]at this
 simpa using this
theorem qfi {S:List Pair} {s:List UInt8} (h:keyIn S s=true):∃h:qan S s<S.length,S[qan S s].key=s:=by
 have hl:=qkA h
 refine⟨hl,?_⟩
 unfold keyIn at h
 rw[qeO]at h
 simp only[Bool.and_eq_true,decide_eq_true_eq]at h
 have h2:=h.2
 rw[qce hl,qfh]at h2
 exact h2
theorem qkJ {S:List Pair} (h:qbx S) {s:List UInt8} (hf:keyIn S s=false) {i:Nat} (hi:i<S.length):S[i].key≠s:=fun e=>by
 have h1:=qhz (qgf h s)
 have h2:qdM S (fun x=>cmpS x.key s)=false:=hf
 rw[h2,if_neg (by simp)]at h1
 have h3:decide (0≤findI (fun x:Pair=>decide (cmpS x.key s=0)) S)=S.any fun x=>decide (cmpS x.key s=0):=qdi
 have h4:S.any (fun x=>decide (cmpS x.key s=0))=true:=List.any_eq_true.2 ⟨S[i],List.getElem_mem hi,by simpa[qfh]using e⟩
 rw[h4]at h3
 have h5:findG S (fun x=>cmpS x.key s)=findI (fun x:Pair=>decide (cmpS x.key s=0)) S:=rfl
 rw[←h5,h1]at h3
 simp at h3
theorem qhF {S:List Pair} (h:qbx S) (s:List UInt8) {i:Nat} (hi:i<S.length) (hk:qaP S s≤i):s<S[i].key:=by
 unfold qaP at hk
 cases hf:keyIn S s with
 | true =>
  rw[hf,if_pos rfl]at hk
  obtain⟨hl,he⟩:=qfi hf
  have:=h (qan S s) i hl hi (by omega)
  rwa [he]at this
 | false =>
  rw[hf,if_neg (by simp)]at hk
  have h1:=(qeN (qgf h s)).hi i hk hi
  rw[qce hi]at h1
  have h2:=qkJ h hf hi
  have h3:¬S[i].key<s:=fun g=>by
   have:cmpS S[i].key s<0:=by rw[qeM,qcG]; simpa using g
   omega
  rcases Std.lt_trichotomy S[i].key s with g | g | g
  ·exact absurd g h3
  ·exact absurd g h2
  ·exact g
theorem qqU (S:List Pair) (r:Record):(stepK S r).length≤S.length+1:=by
 have h1:=qgg S r.key
 have h2:=qkI S r.key
 have h3:qan S r.key≤qaP S r.key:=by unfold qaP; split<;>omega
 unfold stepK
 rw[List.length_append,List.length_append,List.length_take,List.length_drop]
 split<;>simp<;>omega
theorem qqV {S:List Pair} (h:qbx S) (r:Record):qbx (stepK S r):=by
 rw[qkH]
 have hp:=qkH.1 h
 have hb:∀x∈S.take (qan S r.key),x.key<r.key:=fun x hx=>by
  obtain⟨i,hi,rfl⟩:=List.getElem_of_mem hx
  rw[List.length_take]at hi
  rw[List.getElem_take]
  exact qhE h r.key (by omega) (by omega)
 have ha:∀x∈S.drop (qaP S r.key),r.key<x.key:=fun x hx=>by
  obtain⟨i,hi,rfl⟩:=List.getElem_of_mem hx
  rw[List.length_drop]at hi
  rw[List.getElem_drop]
  exact qhF h r.key (by omega) (by omega)
 unfold stepK
 rw[List.pairwise_append]
 refine⟨hp.sublist (List.take_sublist _ _),?_,fun a ha' b hb' =>?_⟩
 ·split
  ·simpa using hp.sublist (List.drop_sublist _ _)
  ·rw[List.singleton_append,List.pairwise_cons]
   exact⟨fun x hx=>ha x hx,hp.sublist (List.drop_sublist _ _)⟩
 ·have h1:=hb a ha'
  rcases List.mem_append.1 hb' with g | g
  ·split at g
   ·simp at g
   ·simp at g; subst g; exact h1
  ·exact List.lt_trans h1 (ha b g)
def qa5 (l:List Record) (S:List Int):List Pair:=S.foldl (fun st k=>stepK st (recAt l k.toNat)) []
theorem qkK (l:List Record) {S:List Int} {i:Nat} (hi:i<S.length):qa5 l (S.take (i+1))=stepK (qa5 l (S.take i)) (recAt l S[i].toNat):=by
 rw[←List.take_append_getElem hi]
 unfold qa5
 rw[List.foldl_append]
 rfl
theorem qgh (l:List Record) (S:List Int):qbx (qa5 l S)∧(qa5 l S).length≤S.length:=by
 have:∀(S:List Int) (st:List Pair),qbx st→qbx (S.foldl (fun st k=>stepK st (recAt l k.toNat)) st)∧(S.foldl (fun st k=>stepK st (recAt l k.toNat)) st).length≤st.length+S.length:=by
  intro S
  induction S with
  | nil=>exact fun st h=>⟨h,by simp⟩
  | cons k S ih =>
   intro st h
   have:=ih (stepK st (recAt l k.toNat)) (qqV h _)
   have hl:=qqU st (recAt l k.toNat)
   rw[List.foldl_cons]
   exact⟨this.1,by have:=this.2; rw[List.length_cons]; omega⟩
 have h:=this S [] (fun i j hi=>by simp at hi)
 exact⟨h.1,by have h2:=h.2; rw[List.length_nil,Nat.zero_add]at h2; exact h2⟩
end Go.Proofs.YteckngloamnfdaaGreatDoor
namespace Go.Proofs.YteckngloamnfdaaGreatDoor
open Go Go.Ab
set_option maxRecDepth 100000
theorem Pair.rowsOne (l:List Pair):rowsOne (Pair.rows l):=fun r hr=>by
 obtain⟨x,_,rfl⟩:=List.mem_map.1 hr
 simp[Pair.cells]
theorem qqW (S:List Int) {i:Nat} (hi:i<S.length):(qad S)[i]?=some [.int .i64 S[i]]:=by simp[qad,hi]
theorem qqX {l:List Record} {n:Nat} {S:List Int} (h:act l n=some S) {i:Nat} (hi:i<S.length):∃k:Nat,S[i]=(k:Int)∧k<n:=by
 have:=qhA h S[i] (List.getElem_mem hi)
 exact⟨S[i].toNat,by omega,by omega⟩
theorem qkL {l:List Record} {n:Nat} {i:Nat} (hi:i<(actL l n).length):∃k:Nat,(actL l n)[i]=(k:Int)∧k<n:=by
 cases h:act l n with
 | none=>unfold actL at hi; simp[h]at hi
 | some S =>
  have e:actL l n=S:=qcy h
  have:=qqX h (i:=i) (by rw[←e]; exact hi)
  simpa[e]using this
theorem qkM {l:List Record}:∀ {i:Nat} {S:List Int},act l i=some S→∀k∈S,(recAt l k.toNat).kind≠3
 | 0,S,h,k,hk=>by cases h; simp at hk
 | i+1,S,h,k,hk=>by
  unfold act at h
  cases ha:act l i with
  | none=>rw[ha]at h; cases h
  | some T =>
   have ih:=qkM ha
   rw[ha]at h
   simp only at h
   split at h
   ·rename_i h3
    cases h
    rcases List.mem_append.1 hk with g | g
    ·exact ih k g
    ·simp at g; subst g; simpa using h3
   ·split at h
    ·cases h
    ·cases h
     exact ih k (List.dropLast_subset _ hk)
theorem qqY {l:List Record} {n:Nat} {i:Nat} (hi:i<(actL l n).length):(recAt l (actL l n)[i].toNat).kind≠3:=by
 cases h:act l n with
 | none=>unfold actL at hi; simp[h]at hi
 | some S =>
  have e:actL l n=S:=qcy h
  have:=qkM h _ (List.getElem_mem (by rw[e]at hi; exact hi))
  simpa[e]using this
theorem qgi (l:List Record) (n:Nat):(actL l n).length≤n:=by
 cases h:act l n with
 | none=>simp[actL,h]
 | some S=>rw[qcy h]; exact qeP h
theorem qqZ {T:List Pair} {r:Record} (h2:r.kind=2) (hf:keyIn T r.key=true):stepK T r=T.take (qan T r.key)++T.drop (qan T r.key+1):=by
 unfold stepK qaP
 simp[h2,hf]
theorem qq0 {T:List Pair} {r:Record} (h2:r.kind=2) (hf:keyIn T r.key=false):stepK T r=T:=by
 unfold stepK qaP
 simp[h2,hf]
theorem qq3 {T:List Pair} {r:Record} (h1:r.kind=1) (hf:keyIn T r.key=true):stepK T r=T.set (qan T r.key) ⟨r.key,r.text⟩:=by
 obtain⟨hlt,_⟩:=qfi hf
 rw[List.set_eq_take_append_cons_drop,if_pos hlt]
 unfold stepK qaP
 simp[h1,hf]
theorem qq4 {T:List Pair} {r:Record} (h1:r.kind=1) (hf:keyIn T r.key=false):stepK T r=T.take (qan T r.key)++⟨r.key,r.text⟩::T.drop (qan T r.key):=by
 unfold stepK qaP
 simp[h1,hf]
theorem qq5 (l:List Record) (hl:l.length<1048576) (hk:∀r∈l,r.kind=1∨r.kind=2∨r.kind=3) :
  HFn Tryz.prog 235 [.sl 3 (Record.rows l)] [] (.sf 0 2) [some (.arr 2 (Pair.rows (qa5 l (actL l l.length))))]:=by
 refine qaa hm Tryz.func235 (by kernel_rfl) rfl (by kernel_rfl) rfl (fun _ _ h=>h) ?_
 simp
 refine CallZ.use (qhC l (by omega)) rfl (.inl rfl) rfl rfl ?_
 simp
 obtain⟨S,hS⟩:∃S,S=actL l l.length:=⟨_,rfl⟩
 have hSl:S.length≤l.length:=by rw[hS]; exact qgi l _
 rw[←hS]
 refine qac hm S.length (fun i=>⟨[(0, .sl 3 (Record.rows l)),(3, .sf 1 2),(16, .sf 0 1),(17, .int .i64 S.length),(18, .int .i64 i)],[some (.arr 1 (qad S)),some (.arr 2 (Pair.rows (qa5 l (S.take i))))]⟩) (fun _=>True) (by kernel_rfl) ?_ trivial (fun i hi _ =>?_) (fun _ =>?_)
 ·refine (qaA (t:=3) (z:=2) rfl).trans (Wk.weak (ρ:=[0,1]) (φ:=[]) ?_)
  simp[qa5,Pair.rows,qao]
 ·obtain⟨k,hSk,hkl⟩:∃k:Nat,S[i]=(k:Int)∧k<l.length:=by subst hS; exact qkL hi
  have hok:=qgh l (S.take i)
  have hsc:=qkK l hi
  obtain⟨T,hT⟩:∃T,T=qa5 l (S.take i):=⟨_,rfl⟩
  rw[←hT]at hok hsc ⊢
  have hTl:T.length≤1048576:=by have:=hok.2; rw[List.length_take]at this; omega
  rw[hSk,Int.toNat_natCast,qdN hkl]at hsc
  have hk12:l[k].kind=1∨l[k].kind=2:=by
   have h1:=hk l[k] (List.getElem_mem hkl)
   have h3:(recAt l S[i].toNat).kind≠3:=by subst hS; exact qqY hi
   rw[hSk,Int.toNat_natCast,qdN hkl]at h3
   omega
  obtain⟨r,hr⟩:∃r,r=l[k]:=⟨_,rfl⟩
  rw[←hr]at hsc hk12
  have hcell:l[k].cells=[.int .i64 r.kind, .str r.key, .str r.text]:=by rw[←hr]; rfl
  simp[hi,qqW,hSk,hkl,Record.rows,hcell]
  refine⟨by simpa[qao]using hi,CallZ.use0 (qkG T r.key hTl hok.1) rfl rfl ?_⟩
  have hle:=qgg T r.key
  have w1:IntKind.i64.wrap ((i:Int)+1)=(i:Int)+1:=w64 (by omega) (by omega)
  cases hf:keyIn T r.key with
  | true =>
   obtain⟨hlt,hat⟩:=qfi hf
   have wK:IntKind.i64.wrap ((qan T r.key:Int)+1)=((qan T r.key+1:Nat):Int):=by rw[w64 (by omega) (by omega)]; omega
   rcases hk12 with h1 | h2
   ·simp[h1]
    have hrow:(Pair.rows T)[qan T r.key]?=some [.str r.key, .str T[qan T r.key].text]:=by simp[Pair.rows,Pair.cells,hlt,hat]
    refine⟨by rw[Pair.rows_len]; exact hlt,Wk.weak (ρ:=[0,1]) (φ:=[]) ?_⟩
    rw[hsc,qq3 h1 hf,hrow]
    simp[w1,Pair.rows,Pair.cells,List.map_set]
   ·simp[h2,wK]
    refine CallZ.useM [1] [] [1] (qqM (Pair.rows T) (qan T r.key) (qan T r.key+1) (Pair.rowsOne T) (by omega) (by rw[Pair.rows_len]; omega) (by rw[Pair.rows_len]; omega)) (by simp) rfl rfl (by simp) rfl rfl rfl (.inl rfl) ?_
    simp
    refine Wk.weak (ρ:=[0,1]) (φ:=[]) ?_
    rw[hsc,qqZ h2 hf]
    simp[w1,Pair.rows]
  | false =>
   rcases hk12 with h1 | h2
   ·simp[h1]
    have hsp:Pair.rows T=Pair.rows (T.take (qan T r.key))++Pair.rows (T.drop (qan T r.key)):=by unfold Pair.rows; rw[←List.map_append,List.take_append_drop]
    have hlen:(Pair.rows (T.take (qan T r.key))).length=qan T r.key:=by rw[Pair.rows_len,List.length_take]; omega
    have hc:=qqO (Pair.rows (T.take (qan T r.key))) (Pair.rows (T.drop (qan T r.key))) [[.str r.key, .str r.text]] (by rw[←hsp]; exact Pair.rowsOne T) (by simp[rowsOne]) (by simp) (by rw[Pair.rows_len,Pair.rows_len,List.length_take,List.length_drop]; simp; have:=hok.2; rw[List.length_take]at this; omega)
    rw[←hsp,hlen]at hc
    refine CallZ.useM [1,3] [] [1,3] hc (by simp) rfl rfl (by simp) rfl rfl rfl (.inl rfl) ?_
    simp
    refine Wk.weak (ρ:=[0,1]) (φ:=[]) ?_
    rw[hsc,qq4 h1 hf]
    simp[w1,Pair.rows,Pair.cells]
   ·simp[h2]
    refine Wk.weak (ρ:=[0,1]) (φ:=[]) ?_
    rw[hsc,qq0 h2 hf]
    simp[w1]
 ·simp
  refine Wk.weak (ρ:=[1]) (φ:=[]) ?_
  simp
end Go.Proofs.YteckngloamnfdaaGreatDoor
namespace Go.Proofs.YteckngloamnfdaaGreatDoor
open Go Go.Ab
set_option maxRecDepth 100000
def insK (r:Record):List Pair:=if r.kind=2 then [] else [⟨r.key,r.text⟩]
theorem qq6 (S:List Pair) (r:Record):stepK S r=S.take (qan S r.key)++(insK r++S.drop (qaP S r.key)):=rfl
def nextJ (T:List Pair) (r:Record) (j:Nat):List Pair:=if j≤qan T r.key then T.take j else T.take (qan T r.key)++(insK r++(T.take j).drop (qaP T r.key))
def doneJ (T:List Pair) (r:Record) (j:Nat):Bool:=decide (r.kind=2)||decide (qan T r.key<j)
theorem qq7 {T:List Pair} {r:Record} {j:Nat} (h:j<qan T r.key) (hj:j<T.length):nextJ T r (j+1)=nextJ T r j++[T[j]]:=by
 unfold nextJ
 rw[if_pos (by omega),if_pos (by omega),List.take_append_getElem hj]
theorem qkN {T:List Pair} {r:Record} {j:Nat} (h:j=qan T r.key) (hj:j<T.length):nextJ T r (j+1)=nextJ T r j++(insK r++if keyIn T r.key=true then [] else [T[j]]):=by
 have e1:nextJ T r (j+1)=T.take j++(insK r++(T.take (j+1)).drop (qaP T r.key)):=by
  unfold nextJ
  rw[if_neg (by omega),←h]
 have e2:nextJ T r j=T.take j:=by
  unfold nextJ
  rw[if_pos (by omega)]
 rw[e1,e2]
 unfold qaP
 by_cases hf:keyIn T r.key=true
 ·rw[if_pos hf,if_pos hf,←h,List.drop_of_length_le (by rw[List.length_take]; omega)]
 ·rw[if_neg hf,if_neg hf,←h,←List.take_append_getElem hj,List.drop_left' (by simp; omega)]
theorem qq8 {T:List Pair} {r:Record} {j:Nat} (h:qan T r.key<j) (hj:j<T.length):nextJ T r (j+1)=nextJ T r j++[T[j]]:=by
 have hE:qaP T r.key≤j:=by unfold qaP; split<;>omega
 unfold nextJ
 rw[if_neg (by omega),if_neg (by omega),←List.take_append_getElem hj,List.drop_append_of_le_length (by simp; omega)]
 simp
theorem qq9 (T:List Pair) (r:Record):stepK T r=if doneJ T r T.length=true then nextJ T r T.length else nextJ T r T.length++[⟨r.key,r.text⟩]:=by
 have hle:=qgg T r.key
 have hE:=qkI T r.key
 rw[qq6]
 unfold nextJ doneJ
 by_cases h:T.length≤qan T r.key
 ·have hK:qan T r.key=T.length:=by omega
  have hE2:qaP T r.key=T.length:=by
   have:qan T r.key≤qaP T r.key:=by unfold qaP; split<;>omega
   omega
  rw[if_pos h,hK,hE2]
  unfold insK
  by_cases h2:r.kind=2
  ·simp[h2]
  ·simp[h2]
 ·rw[if_neg h]
  have:qan T r.key<T.length:=by omega
  simp[this]
theorem qhG {T:List Pair} (h:qbx T) (s:List UInt8) {j:Nat} (hj:j<T.length):T[j].key=s↔j=qan T s∧keyIn T s=true:=by
 constructor
 ·intro e
  have h1:¬j<qan T s:=fun g=>by
   have:=qhE h s hj g
   rw[e]at this
   exact List.lt_irrefl _ this
  have h2:¬qaP T s≤j:=fun g=>by
   have:=qhF h s hj g
   rw[e]at this
   exact List.lt_irrefl _ this
  unfold qaP at h2
  by_cases hf:keyIn T s=true
  ·rw[if_pos hf]at h2
   exact⟨by omega,hf⟩
  ·rw[if_neg hf]at h2
   omega
 ·rintro ⟨rfl,hf⟩
  exact (qfi hf).2
theorem qkO {T:List Pair} (h:qbx T) (s:List UInt8) {j:Nat} (hj:j<T.length):Op.bytesLess T[j].key s=true↔j<qan T s:=by
 rw[qcG,decide_eq_true_eq]
 constructor
 ·intro g
  by_cases hK:j<qan T s
  ·exact hK
  ·exfalso
   by_cases hE:qaP T s≤j
   ·exact List.lt_irrefl _ (List.lt_trans g (qhF h s hj hE))
   ·unfold qaP at hE
    by_cases hf:keyIn T s=true
    ·rw[if_pos hf]at hE
     have e:=(qhG h s hj).2 ⟨by omega,hf⟩
     rw[e]at g
     exact List.lt_irrefl _ g
    ·rw[if_neg hf]at hE
     omega
 ·exact qhE h s hj
theorem qra {T:List Pair} (h:qbx T) {r:Record} {j:Nat} (hj:j<T.length) (hd:doneJ T r j=false) (hb:Op.bytesLess T[j].key r.key=false) :
  doneJ T r (j+1)=true∧nextJ T r (j+1)=nextJ T r j++(⟨r.key,r.text⟩::if T[j].key=r.key then [] else [T[j]]):=by
 have h1:¬j<qan T r.key:=fun g=>by rw[(qkO h r.key hj).2 g]at hb; cases hb
 unfold doneJ at hd ⊢
 simp only[Bool.or_eq_false_iff,decide_eq_false_iff_not]at hd
 have hK:j=qan T r.key:=by omega
 refine⟨by simp; omega,?_⟩
 rw[qkN hK hj]
 have e:T[j].key=r.key↔keyIn T r.key=true:=by rw[qhG h r.key hj]; simp[hK]
 simp[insK,hd.1,e]
theorem qrb {T:List Pair} (h:qbx T) {r:Record} {j:Nat} (hj:j<T.length) (hb:doneJ T r j=false→Op.bytesLess T[j].key r.key=true) :
  doneJ T r (j+1)=doneJ T r j∧nextJ T r (j+1)=nextJ T r j++if T[j].key=r.key then [] else [T[j]]:=by
 have hle:=qkO h r.key hj
 have heq:=qhG h r.key hj
 rcases Nat.lt_trichotomy j (qan T r.key) with g | g | g
 ·rw[qq7 g hj,if_neg (fun e=>by have:=(heq.1 e).1; omega)]
  refine⟨?_,rfl⟩
  unfold doneJ
  have a:¬qan T r.key<j:=by omega
  have b:¬qan T r.key<j+1:=by omega
  simp[a,b]
 ·have hk2:r.kind=2:=by
   by_cases h2:r.kind=2
   ·exact h2
   ·have hd:doneJ T r j=false:=by
     unfold doneJ
     simp[h2]
     omega
    have:=hle.1 (hb hd)
    omega
  rw[qkN g hj]
  have e:T[j].key=r.key↔keyIn T r.key=true:=by rw[heq]; simp[←g]
  simp[insK,hk2,e,doneJ]
 ·rw[qq8 g hj,if_neg (fun e=>by have:=(heq.1 e).1; omega)]
  refine⟨?_,rfl⟩
  unfold doneJ
  have b:qan T r.key<j+1:=by omega
  simp[g,b]
theorem qkP {T:List Pair} {r:Record} {j:Nat}:(nextJ T r j).length≤j+1:=by
 unfold nextJ insK
 have hE:qan T r.key≤qaP T r.key:=by unfold qaP; split<;>omega
 split
 ·rw[List.length_take]; omega
 ·rw[List.length_append,List.length_append,List.length_take,List.length_drop,List.length_take]
  split<;>simp<;>omega
theorem qbN (S:List Int) {i:Nat} (h:i<(qad S).length):(qad S)[i]=[.int .i64 (S[i]'(by rw[qao]at h; exact h))]:=by simp[qad]
theorem Pair.row_get (T:List Pair) {i:Nat} (h:i<(Pair.rows T).length):(Pair.rows T)[i]=[.str (T[i]'(by rw[Pair.rows_len]at h; exact h)).key, .str (T[i]'(by rw[Pair.rows_len]at h; exact h)).text]:=by simp[Pair.rows,Pair.cells]
theorem qrc (l:List Record) (n:Nat) (hn:n≤l.length) (hl:l.length≤1048576) :
  HFn Tryz.prog 197 [.sl 3 (Record.rows l), .int .i64 n] [] (.sf 0 2) [some (.arr 2 (Pair.rows (qa5 l (actL l n))))]:=by
 refine qaa hm Tryz.func197 (by kernel_rfl) rfl (by kernel_rfl) rfl (fun _ _ h=>h) ?_
 simp
 refine CallZ.use (qhD l n hn hl) rfl (.inl rfl) rfl rfl ?_
 simp
 obtain⟨S,hS⟩:∃S,S=actL l n:=⟨_,rfl⟩
 have hSl:S.length≤l.length:=by rw[hS]; have:=qgi l n; omega
 rw[←hS]
 refine qac hm S.length (fun i=>⟨[(0, .sl 3 (Record.rows l)),(5, .sf 0 1),(7, .sf 1 2),(8, .int .i64 i)],[some (.arr 1 (qad S)),some (.arr 2 (Pair.rows (qa5 l (S.take i))))]⟩) (fun _=>True) (by kernel_rfl) ?_ trivial (fun i hi _ =>?_) (fun _ =>?_)
 ·refine (qaA (t:=7) (z:=2) rfl).trans (Wk.weak (ρ:=[0,1]) (φ:=[]) ?_)
  simp[qa5,Pair.rows]
 ·obtain⟨k,hSk,hkl⟩:∃k:Nat,S[i]=(k:Int)∧k<l.length:=by
   subst hS
   obtain⟨k,h1,h2⟩:=qkL hi
   exact⟨k,h1,by omega⟩
  have hok:=qgh l (S.take i)
  have hsc:=qkK l hi
  obtain⟨T,hT⟩:∃T,T=qa5 l (S.take i):=⟨_,rfl⟩
  rw[←hT]at hok hsc ⊢
  have hTl:T.length≤1048576:=by have:=hok.2; rw[List.length_take]at this; omega
  rw[hSk,Int.toNat_natCast,qdN hkl]at hsc
  obtain⟨r,hr⟩:∃r,r=l[k]:=⟨_,rfl⟩
  rw[←hr]at hsc
  have hcell:l[k].cells=[.int .i64 r.kind, .str r.key, .str r.text]:=by rw[←hr]; rfl
  have w1:IntKind.i64.wrap ((i:Int)+1)=(i:Int)+1:=w64 (by omega) (by omega)
  simp[hi,qbN,qao,hSk,hkl,Record.rows,hcell]
  refine qac hm T.length (fun j=>⟨[(0, .sl 3 (Record.rows l)),(5, .sf 0 1),(7, .sf 1 2),(8, .int .i64 i),(9, .pb 2 0),(10, .sf 3 2),(11, .bool (doneJ T r j)),(12, .int .i64 j)],[some (.arr 1 (qad S)),some (.arr 2 (Pair.rows T)),some (.box [.int .i64 r.kind, .str r.key, .str r.text]),some (.arr 2 (Pair.rows (nextJ T r j)))]⟩) (fun _=>True) (by kernel_rfl) ?_ trivial (fun j hj _ =>?_) (fun _ =>?_)
  ·refine (qaA (t:=10) (z:=2) rfl).trans (Wk.weak (ρ:=[0,1,2,3]) (φ:=[]) ?_)
   simp[Record.rows,nextJ,doneJ,Pair.rows]
  ·simp[hj,Pair.rows_len,Pair.row_get]
   have hnl:=qkP (T:=T) (r:=r) (j:=j)
   have w2:IntKind.i64.wrap ((j:Int)+1)=(j:Int)+1:=w64 (by omega) (by omega)
   refine⟨fun hd hb =>?_,fun hb =>?_⟩
   ·obtain⟨n1,n2⟩:=qra hok.1 hj hd hb
    refine⟨by simp[rowsOne],by omega,by omega,fun hne=>⟨by simp[rowsOne],by omega,by omega,Wk.weak (ρ:=[0,1,2,3]) (φ:=[]) ?_⟩,fun he=>Wk.weak (ρ:=[0,1,2,3]) (φ:=[]) ?_⟩
    ·rw[if_neg hne]at n2
     simp[w2,n1,n2,Record.rows,Pair.rows,Pair.cells]
    ·rw[if_pos he]at n2
     simp[w2,n1,n2,Record.rows,Pair.rows,Pair.cells]
   ·obtain⟨n1,n2⟩:=qrb hok.1 hj hb
    refine⟨fun hne=>⟨by simp[rowsOne],by omega,by omega,Wk.weak (ρ:=[0,1,2,3]) (φ:=[]) ?_⟩,fun he=>Wk.weak (ρ:=[0,1,2,3]) (φ:=[]) ?_⟩
    ·rw[if_neg hne]at n2
     simp[w2,n1,n2,Record.rows,Pair.rows,Pair.cells]
    ·rw[if_pos he]at n2
     simp[w2,n1,n2,Record.rows,Pair.rows]
  ·simp[Pair.rows_len]
   have hnl:=qkP (T:=T) (r:=r) (j:=T.length)
   have hend:=qq9 T r
   rw[←hsc]at hend
   refine⟨fun hd=>⟨by simp[rowsOne],by omega,by omega,Wk.weak (ρ:=[0,3]) (φ:=[]) ?_⟩,fun hd=>Wk.weak (ρ:=[0,3]) (φ:=[]) ?_⟩
   ·rw[hd]at hend
    simp[w1,hend,Pair.rows,Pair.cells,Record.rows]
   ·rw[if_pos hd]at hend
    simp[w1,hend,Pair.rows,Record.rows]
 ·simp[qao]
  refine Wk.weak (ρ:=[1]) (φ:=[]) ?_
  simp
end Go.Proofs.YteckngloamnfdaaGreatDoor
namespace Go.Proofs.YteckngloamnfdaaGreatDoor
open Go Go.Ab
set_option maxRecDepth 100000
def qby (l:List Record) (n:Nat) (r:Record):Bool :=
 match act l n with
 | none=>false
 | some S=>if r.kind=3 then decide (0<S.length) else if r.kind=1 then true else (qa5 l S).any fun x=>decide (x.key=r.key)
def qcP (l:List Record):Bool:=decide (l.length≤32)&&(List.range l.length).all fun i=>qbJ (recAt l i)&&qby l i (recAt l i)
theorem qrd {T:List Pair} (h:qbx T) (s:List UInt8):(T.any fun x=>decide (x.key=s))=keyIn T s:=by
 cases hf:keyIn T s with
 | true =>
  obtain⟨hlt,he⟩:=qfi hf
  exact List.any_eq_true.2 ⟨_,List.getElem_mem hlt,by simpa using he⟩
 | false =>
  refine List.any_eq_false.2 fun x hx =>?_
  obtain⟨i,hi,rfl⟩:=List.getElem_of_mem hx
  simpa using qkJ h hf hi
theorem qre (l:List Record) (k:Nat) {S:List Int} (h:∀x∈S,0≤x∧x<k):qa5 (l.take k) S=qa5 l S:=by
 have:∀(S:List Int) (st:List Pair),(∀x∈S,0≤x∧x<k)→S.foldl (fun st k'=>stepK st (recAt (l.take k) k'.toNat)) st=S.foldl (fun st k'=>stepK st (recAt l k'.toNat)) st:=by
  intro S
  induction S with
  | nil=>exact fun _ _=>rfl
  | cons x S ih =>
   intro st h
   have hx:=h x (List.mem_cons_self ..)
   have e:recAt (l.take k) x.toNat=recAt l x.toNat:=by
    unfold recAt
    rw[List.getD_eq_getElem?_getD,List.getD_eq_getElem?_getD,List.getElem?_take,if_pos (by omega)]
   rw[List.foldl_cons,List.foldl_cons,e]
   exact ih _ fun y hy=>h y (List.mem_cons_of_mem _ hy)
 exact this S [] h
theorem qrf (l:List Record) {n:Nat} (hn:n≤l.length):actL (l.take n) (l.take n).length=actL l n∧qa5 (l.take n) (actL l n)=qa5 l (actL l n):=by
 have e:(l.take n).length=n:=by rw[List.length_take]; omega
 refine⟨by unfold actL; rw[e,qkC (Nat.le_refl _)],qre l n fun x hx =>?_⟩
 cases h:act l n with
 | none=>unfold actL at hx; simp[h]at hx
 | some S=>rw[qcy h]at hx; exact qhA h x hx
theorem qkQ {r:Record} (h:qbJ r=true):r.kind=1∨r.kind=2∨r.kind=3:=by
 unfold qbJ at h
 split at h
 ·exact .inl ‹_›
 ·split at h
  ·exact .inr (.inl ‹_›)
  ·simp only[Bool.and_eq_true,decide_eq_true_eq]at h
   exact .inr (.inr h.1.1)
def qdp (l:List Record) (n:Nat):Prop:=∀i,i<n→qbJ (recAt l i)=true∧qby l i (recAt l i)=true
theorem qkR {l:List Record}:∀ {n:Nat},qdp l n→(act l n).isSome=true
 | 0,_=>rfl
 | n+1,h=>by
  obtain⟨S,hS⟩:=Option.isSome_iff_exists.1 (qkR (n:=n) fun i hi=>h i (by omega))
  have h2:=(h n (by omega)).2
  unfold qby at h2
  rw[hS]at h2
  simp only at h2
  rw[qhB hS]
  split
  ·rfl
  ·rename_i h3
   have h3:(recAt l n).kind=3:=by omega
   rw[if_pos h3]at h2
   rw[if_neg (by intro e; subst e; simp at h2)]
   rfl
theorem qrg {l:List Record} {n:Nat} (h:qdp l n) (hn:n≤l.length):∀r∈l.take n,r.kind=1∨r.kind=2∨r.kind=3:=fun r hr=>by
 obtain⟨i,hi,rfl⟩:=List.getElem_of_mem hr
 rw[List.length_take]at hi
 have:=(h i (by omega)).1
 rw[qdN (by omega)]at this
 rw[List.getElem_take]
 exact qkQ this
theorem qhH {l:List Record}:qcP l=true↔l.length≤32∧qdp l l.length:=by
 unfold qcP qdp
 simp
theorem qrh (l:List Record) (n:Nat) (hn:n≤l.length) (hl:l.length<1048576) (hf:qdp l n) (r:Record) (hr:qbJ r=true) :
  HFn Tryz.prog 148 [.sl 3 ((Record.rows l).take n), .agg r.cells] [] (.bool (qby l n r)) []:=by
 obtain⟨S,hS⟩:=Option.isSome_iff_exists.1 (qkR hf)
 have hSl:=qcy hS
 obtain⟨e1,e2⟩:=qrf l hn
 have hlen:(l.take n).length≤1048576:=by rw[List.length_take]; omega
 have hrows:(Record.rows l).take n=Record.rows (l.take n):=by simp[Record.rows]
 have c1:=qq5 (l.take n) (by rw[List.length_take]; omega) (qrg hf hn)
 have c2:=qhC (l.take n) hlen
 rw[e1,e2,hSl]at c1
 rw[e1,hSl]at c2
 have hok:=qgh l S
 have hSn:=qeP hS
 have hk:=qkQ hr
 rw[hrows]
 refine qaa hm Tryz.func148 (by kernel_rfl) rfl (by kernel_rfl) rfl qab ?_
 simp[Record.cells]
 refine⟨fun h2 =>?_,fun h2=>⟨fun h3 =>?_,fun h3 =>?_⟩⟩
 ·refine CallZ.use c1 rfl (.inl rfl) rfl rfl ?_
  simp
  refine CallZ.use0 (qkG (qa5 l S) r.key (by omega) hok.1) rfl rfl ?_
  simp[qby,hS,h2,qrd hok.1]
 ·refine CallZ.use c2 rfl (.inl rfl) rfl rfl ?_
  simp[qby,hS,h3,qao]
 ·have h1:r.kind=1:=by omega
  simp[qby,hS,h1]
theorem qri (l:List Record) (n:Nat) (hn:n≤l.length) (hl:l.length<1048576) (r:Record) (rows:List (List PV)) (i:Nat) (h:rows[i]?=some r.cells) :
  HFn Tryz.prog 121 [.sl 3 (Record.rows l), .int .i64 n, .pe 3 rows i 0] [] (.bool (qby l n r)) []:=by
 have hi:i<rows.length:=(List.getElem?_eq_some_iff.1 h).1
 have hx:rows[i]=r.cells:=by rw[List.getElem?_eq_getElem hi]at h; exact Option.some.inj h
 refine qaa hm Tryz.func121 (by kernel_rfl) rfl (by kernel_rfl) rfl qab ?_
 rw[Record.cells]at h hx
 simp
 refine CallZ.use (qhD l n hn (by omega)) rfl (.inl rfl) rfl rfl ?_
 simp[hi,hx]
 refine⟨fun h0 =>?_,fun h0 =>?_⟩
 ·simp[qby,h0]
 obtain⟨S,hS⟩:=Option.isSome_iff_exists.1 h0
 have hSl:=qcy hS
 have c1:=qrc l n hn (by omega)
 rw[hSl]at c1 ⊢
 have hok:=qgh l S
 have hSn:=qeP hS
 refine⟨fun h3 =>?_,fun h3=>⟨fun h1 =>?_,fun h1 =>?_⟩⟩
 ·simp[qby,hS,h3,qao]
 ·simp[qby,hS,h1]
 refine CallZ.use c1 rfl (.inl rfl) rfl rfl ?_
 simp
 have hnx:qby l n r=(qa5 l S).any fun x=>decide (x.key=r.key):=by simp[qby,hS,h1,h3]
 rw[hnx]
 obtain⟨T,hT⟩:∃T,T=qa5 l S:=⟨_,rfl⟩
 rw[←hT]at hok ⊢
 refine qac hm T.length (fun j=>⟨[(2, .pe 3 rows i 0),(9, .sf 0 2),(10, .int .i64 j)],[some (.arr 2 (Pair.rows T))]⟩) (fun j=>∀m (hm':m<T.length),m<j→¬T[m].key=r.key) (by kernel_rfl) ?_ (fun _ _ g=>absurd g (by omega)) (fun j hj hI =>?_) (fun hI =>?_)
 ·refine Wk.weak (ρ:=[1]) (φ:=[]) ?_
  simp
 ·have w1:IntKind.i64.wrap ((j:Int)+1)=(j:Int)+1:=w64 (by omega) (by omega)
  simp[hj,hi,hx,Pair.rows_len,Pair.row_get]
  refine⟨fun he=>⟨_,List.getElem_mem hj,he⟩,fun hne=>⟨fun m hm' hmj =>?_,?_⟩⟩
  ·by_cases e:m=j
   ·subst e; exact hne
   ·exact hI m hm' (by omega)
  ·refine Wk.weak (ρ:=[0]) (φ:=[]) ?_
   simp[w1]
 ·simp[Pair.rows_len]
  intro x hx'
  obtain⟨m,hm',rfl⟩:=List.getElem_of_mem hx'
  exact hI m hm' hm'
theorem qkS {l:List Record} {i:Nat} (hi:i<l.length):(Record.rows l)[i]?=some l[i].cells:=by simp[Record.rows,hi]
theorem Record.row_get (T:List Record) {i:Nat} (h:i<(Record.rows T).length):(Record.rows T)[i]=[.int .i64 (T[i]'(by rw[Record.rows_len]at h; exact h)).kind, .str (T[i]'(by rw[Record.rows_len]at h; exact h)).key, .str (T[i]'(by rw[Record.rows_len]at h; exact h)).text]:=by simp[Record.rows,Record.cells]
theorem qkT {l:List Record} {i:Nat} (hi:i<l.length) (h:qdp l i) (h1:qbJ l[i]=true) (h2:qby l i l[i]=true):qdp l (i+1):=fun j hj=>by
 by_cases e:j=i
 ·subst e; rw[qdN hi]; exact⟨h1,h2⟩
 ·exact h j (by omega)
theorem qkU {l:List Record} {i:Nat} (hi:i<l.length) (h:¬(qbJ l[i]=true∧qby l i l[i]=true)):qcP l=false:=by
 cases e:qcP l with
 | false=>rfl
 | true =>
  have:=(qhH.1 e).2 i hi
  rw[qdN hi]at this
  exact absurd this h
theorem qrj (l:List Record) (hl:l.length≤1048576) (hw:∀x∈l,x.wf) :
  HFn Tryz.prog 72 [.sl 3 (Record.rows l)] [] (.bool (qcP l)) []:=by
 refine qaa hm Tryz.func72 (by kernel_rfl) rfl (by kernel_rfl) rfl qab ?_
 simp[Record.rows_len]
 refine⟨fun h =>?_,fun h =>?_⟩
 ·simp[qcP]; omega
 have h32:l.length≤32:=by omega
 refine qac hm l.length (fun i=>⟨[(0, .sl 3 (Record.rows l)),(8, .sl 3 (Record.rows l)),(9, .int .i64 l.length),(10, .int .i64 i)],[]⟩) (fun i=>qdp l i) (by kernel_rfl) ?_ (fun _ g=>absurd g (by omega)) (fun i hi hI =>?_) (fun hI =>?_)
 ·refine Wk.weak (ρ:=[]) (φ:=[]) ?_
  simp
 ·have w1:IntKind.i64.wrap ((i:Int)+1)=(i:Int)+1:=w64 (by omega) (by omega)
  simp[hi,Record.rows_len,Record.row_get]
  refine CallZ.use0 (qpW l[i] (hw _ (List.getElem_mem hi))) rfl rfl ?_
  simp
  refine⟨fun hv=>⟨hv,by rw[Record.rows_len]; omega⟩,CallY.use (res := .bool (qby l i l[i])) (fun hv=>⟨rfl,by simpa only [Record.cells]using qrh l i (by omega) (by omega) hI l[i] hv⟩) rfl rfl ?_⟩
  simp
  refine⟨fun hbad=>qkU hi (by grind),fun hv hn=>⟨qkT hi hI hv hn,Wk.weak (ρ:=[]) (φ:=[]) ?_⟩⟩
  simp[w1]
 ·simp
  exact qhH.2 ⟨h32,hI⟩
theorem qrk (l:List Record) (hl:l.length≤1048576) (hw:∀x∈l,x.wf) :
  HFn Tryz.prog 56 [.sl 3 (Record.rows l)] [] (.bool (qcP l)) []:=by
 refine qaa hm Tryz.func56 (by kernel_rfl) rfl (by kernel_rfl) rfl qab ?_
 simp[Record.rows_len]
 refine⟨fun h =>?_,fun h =>?_⟩
 ·simp[qcP]; omega
 have h32:l.length≤32:=by omega
 refine qac hm l.length (fun i=>⟨[(0, .sl 3 (Record.rows l)),(3, .int .i64 i)],[]⟩) (fun i=>qdp l i) (by kernel_rfl) ?_ (fun _ g=>absurd g (by omega)) (fun i hi hI =>?_) (fun hI =>?_)
 ·refine Wk.weak (ρ:=[]) (φ:=[]) ?_
  simp
 ·have w1:IntKind.i64.wrap ((i:Int)+1)=(i:Int)+1:=w64 (by omega) (by omega)
  simp[hi,Record.rows_len]
  refine CallZ.use0 (qpX l[i] (hw _ (List.getElem_mem hi)) (Record.rows l) i (qkS hi)) rfl rfl ?_
  simp
  refine⟨fun hv=>⟨hv,by rw[Record.rows_len]; exact hi⟩,CallY.use (fun _=>⟨rfl,qri l i (by omega) (by omega) l[i] (Record.rows l) i (qkS hi)⟩) rfl rfl ?_⟩
  simp
  refine⟨fun hbad=>qkU hi (by grind),fun hv hn=>⟨qkT hi hI hv hn,Wk.weak (ρ:=[]) (φ:=[]) ?_⟩⟩
  simp[w1]
 ·simp[Record.rows_len]
  exact qhH.2 ⟨h32,hI⟩
end Go.Proofs.YteckngloamnfdaaGreatDoor
namespace Go.Proofs.YteckngloamnfdaaGreatDoor
open Go Go.Ab
set_option maxRecDepth 100000
end Go.Proofs.YteckngloamnfdaaGreatDoor
