/- Contracts: marks that the laws write, and lists of strings. -/
import Derived.Test.YteckngloamnfdaaGreatDoorTy
import Derived.Test.YteckngloamnfdaaGreatDoorKc
import Derived.Test.YteckngloamnfdaaGreatDoorAby
namespace Go.Proofs.YteckngloamnfdaaGreatDoor
open Go Go.Ab
set_option maxRecDepth 100000
def digs (n:Nat):List UInt8:=if n=0 then [] else digs (n/10)++[UInt8.ofNat (48+n%10)]
termination_by n
decreasing_by omega
theorem qjC:digs 0=[]:=by rw[digs]; rfl
theorem qjD {n:Nat} (h:n≠0):digs n=digs (n/10)++[UInt8.ofNat (48+n%10)]:=by rw[digs,if_neg h]
theorem qnK (n:Nat):(digs n).length≤n:=by
 induction n using Nat.strongRecOn with
 | _ n ih =>
  by_cases h:n=0
  ·subst h; rw[qjC]; simp
  ·rw[qjD h,List.length_append]
   have:=ih (n/10) (by omega)
   simp only[List.length_cons,List.length_nil]
   omega
def markT (k:Int):List UInt8:=if k≤0 then [109,48] else 109::digs k.toNat
theorem qcp (k:Int) (hk:k≤1000000000000):HFn Tryz.prog 42 [.int .i64 k] [] (.str (markT k)) []:=by
 refine qaa hm Tryz.func42 (by kernel_rfl) rfl (by kernel_rfl) rfl qab ?_
 simp
 refine⟨fun h=>by simp[markT,h],fun h =>?_⟩
 refine qeB hm (ι:={s:Nat×List UInt8 // digs k.toNat=digs s.1++s.2∧s.1≤k.toNat}) (fun s=>⟨[(0, .int .i64 s.1.1),(3, .str s.1.2)],[]⟩) (fun s=>s.1.1) (by kernel_rfl) ⟨(k.toNat,[]),by simp⟩ ?_ ?_
 ·refine Wk.weak (ρ:=[]) (φ:=[]) ?_
  simp; omega
 ·rintro ⟨⟨n,out⟩,h1,h2⟩
  have hl:=qnK k.toNat
  rw[h1,List.length_append]at hl
  simp only at h1 h2 hl ⊢
  simp
  refine⟨fun hn =>?_,fun hn =>?_⟩
  ·have hd:=qjD (n:=n) (by omega)
   have hlt:n%10<10:=Nat.mod_lt _ (by omega)
   have hb:IntKind.u8.wrap (48+((n%10:Nat):Int))=((48+n%10:Nat):Int):=by rw[w8 (by omega) (by omega)]; omega
   have e1:((n:Int).tmod 10)=((n%10:Nat):Int):=by rw[Int.tmod_eq_emod_of_nonneg (by omega)]; omega
   rw[e1,w64 (n:=48+((n%10:Nat):Int)) (by omega) (by omega),w64 (n:=(n:Int)/10) (by omega) (by omega),hb]
   refine⟨⟨by omega,by omega⟩,by omega,n/10,UInt8.ofNat (48+n%10)::out,Wk.weak (ρ:=[]) (φ:=[]) ?_,⟨by rw[h1,hd]; simp,by omega⟩,by omega⟩
   have e3:(48+(n:Int)%10).toNat=48+n%10:=by omega
   simp[e3]
  ·have h0:n=0:=by omega
   subst h0
   simp[h1,qjC,markT]
   omega
def qae (l:List (List UInt8)):List (List PV):=l.map fun s=>[.str s]
theorem qfd (a b:List (List UInt8)) (ha:a.length≤9223372036854775807):HFn Tryz.prog 8 [.sl 1 (qae a), .sl 1 (qae b)] [] (.bool (decide (a=b))) []:=by
 refine qaa hm Tryz.func8 (by kernel_rfl) rfl (by kernel_rfl) rfl qab ?_
 simp[qae]
 refine⟨fun h =>?_,fun h =>?_⟩
 ·exact fun e=>h (by rw[e])
 ·refine qac hm a.length (fun i=>⟨[(0, .sl 1 (qae a)),(1, .sl 1 (qae b)),(5, .int .i64 i)],[]⟩) (fun i=>a.take i=b.take i) (by kernel_rfl) ?_ (by simp) (fun i hi hI =>?_) (fun hI =>?_)
  ·exact Wk.weak (ρ:=[]) (φ:=[]) (by simp[qae])
  ·have hl:a.length=b.length:=by omega
   have ea:=List.getElem?_eq_getElem hi
   have hi':i<b.length:=by omega
   have eb:=List.getElem?_eq_getElem hi'
   simp[qae,hi,hi']
   refine⟨fun h e=>h (by simp[e]),fun h=>⟨qc0 hI ea eb h,?_⟩⟩
   refine Wk.weak (ρ:=[]) (φ:=[]) ?_
   simp
   exact w64 (by omega) (by omega)
  ·simp[qae]
   exact qc1 hI (by omega)
def qbf (k:Int) (n:Nat):List (List UInt8):=(List.range n).map fun i:Nat=>markT (k+i)
theorem qeF (k:Int) (n:Nat):(qbf k n).length=n:=by simp[qbf]
theorem qjE (a:List (List UInt8)) (k:Int) (hk:0≤k) (ha:a.length+k≤1000000000) (h:a=qbf k a.length):HFn Tryz.prog 12 [.sl 1 (qae a), .int .i64 k] [] (.int .i64 (k+a.length)) []:=by
 refine qaa hm Tryz.func12 (by kernel_rfl) rfl (by kernel_rfl) rfl qab ?_
 simp[qae]
 refine qac hm a.length (fun i=>⟨[(0, .sl 1 (qae a)),(1, .int .i64 (k+i)),(5, .int .i64 i)],[]⟩) (fun _=>True) (by kernel_rfl) ?_ trivial (fun i hi _ =>?_) (fun _ =>?_)
 ·exact Wk.weak (ρ:=[]) (φ:=[]) (by simp[qae])
 ·have ea:=List.getElem?_eq_getElem hi
  have e:a[i]=markT (k+i):=by
   have:a[i]?=(qbf k a.length)[i]?:=by rw[←h]
   rw[ea]at this
   simpa[qbf,hi]using this
  simp[qae,hi,e]
  refine CallZ.use0 (qcp _ (by omega)) rfl rfl ?_
  simp
  refine Wk.weak (ρ:=[]) (φ:=[]) ?_
  simp
  rw[w64 (by omega) (by omega),w64 (by omega) (by omega)]
  omega
 ·simp[qae]
theorem qjF (l:List (List UInt8)) (k:Int) (hk:0≤k) (ha:l.length+k≤1000000000):MFn Tryz.prog 11 [.sf 0 1, .int .i64 k] [some (.arr 1 (qae l))] [0] (.int .i64 (k+l.length)) [some (.arr 1 (qae (qbf k l.length)))]:=by
 refine qcn [0] hm Tryz.func11 (by kernel_rfl) rfl (by kernel_rfl) rfl (qcX (ρ:=[0]) (φ:=[])) (by simp[qae,qbf]) ?_
 simp
 refine qac hm l.length (fun i=>⟨[(0, .sf 0 1),(1, .int .i64 (k+i)),(5, .int .i64 i),(20, .own 0)],[some (.arr 1 (qae (qbf k i++l.drop i)))]⟩) (fun _=>True) (by kernel_rfl) ?_ trivial (fun i hi _ =>?_) (fun _ =>?_)
 ·refine Wk.weak (ρ:=[0]) (φ:=[]) ?_
  simp[qae,qbf]
 ·obtain⟨X,hX,hl,hg⟩:=qa3 (fun j:Nat=>markT (k+j)) l hi
  rw[show qbf k i++l.drop i=X from hX]
  simp[qae,hl,hi]
  refine CallZ.use0 (qcp _ (by omega)) rfl rfl ?_
  simp[hl,hg,hi]
  refine Wk.weak (ρ:=[0]) (φ:=[]) ?_
  simp
  rw[w64 (by omega) (by omega),w64 (by omega) (by omega)]
  refine⟨by omega,?_⟩
  rw[←hX]
  exact qc3 (fun s=>[PV.str s]) (fun j:Nat=>markT (k+j)) l hi
 ·simp[qae,qbf]
theorem qd7 (l:List (List UInt8)):qbp (qae l):=fun r hr c hc=>by
 obtain⟨s,_,rfl⟩:=List.mem_map.1 hr
 simp at hc
 subst hc
 rfl
end Go.Proofs.YteckngloamnfdaaGreatDoor
