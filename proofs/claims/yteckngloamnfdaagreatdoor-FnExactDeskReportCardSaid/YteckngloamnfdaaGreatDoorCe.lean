/- Contracts: names of troubles. Contracts: names, numbers in bounds. Contracts: orders. -/
import Derived.Test.YteckngloamnfdaaGreatDoorTy
import Derived.Test.YteckngloamnfdaaGreatDoorKc
import Derived.Test.YteckngloamnfdaaGreatDoorTDesk
namespace Go.Proofs.YteckngloamnfdaaGreatDoor
open Go Go.Ab
set_option maxRecDepth 100000
theorem qai (n lo hi:Int):HFn Tryz.prog 143 [.int .i64 n, .int .i64 lo, .int .i64 hi] [] (.bool (decide (lo≤n)&&decide (n≤hi))) []:=by
 refine qaa hm Tryz.func143 (by kernel_rfl) rfl (by kernel_rfl) rfl qab ?_
 simp
theorem qaj (n lo hi:Int):HFn Tryz.prog 116 [.int .i64 n, .int .i64 lo, .int .i64 hi] [] (.bool (decide (lo≤n)&&decide (n≤hi))) []:=by
 refine qaa hm Tryz.func116 (by kernel_rfl) rfl (by kernel_rfl) rfl qab ?_
 simp
end Go.Proofs.YteckngloamnfdaaGreatDoor
namespace Go.Proofs.YteckngloamnfdaaGreatDoor
open Go Go.Ab
set_option maxRecDepth 100000
def qdG (b:UInt8):Bool:=decide ((97:Int)≤b.toNat)&&decide ((b.toNat:Int)≤122)
def qeG (b:UInt8):Bool:=decide ((48:Int)≤b.toNat)&&decide ((b.toNat:Int)≤57)
def qcr (s:List UInt8) (i:Nat):Bool:=qdG (s.getD i 0)||(decide (i≠0)&&qeG (s.getD i 0))
def qaB (s:List UInt8):Bool:=decide (1≤s.length)&&decide (s.length≤10)&&(List.range s.length).all (qcr s)
theorem qjV (b:UInt8):HFn Tryz.prog 261 [.int .u8 b.toNat] [] (.bool (qdG b)) []:=by
 refine qaa hm Tryz.func261 (by kernel_rfl) rfl (by kernel_rfl) rfl qab ?_
 simp[qdG]
theorem qpp (b:UInt8):HFn Tryz.prog 262 [.int .u8 b.toNat] [] (.bool (qeG b)) []:=by
 refine qaa hm Tryz.func262 (by kernel_rfl) rfl (by kernel_rfl) rfl qab ?_
 simp[qeG]
theorem qa9 (s:List UInt8):HFn Tryz.prog 226 [.str s] [] (.bool (qaB s)) []:=by
 refine qaa hm Tryz.func226 (by kernel_rfl) rfl (by kernel_rfl) rfl qab ?_
 simp
 refine⟨fun h =>?_,fun h1 h2 =>?_⟩
 ·simp only[qaB]
  rcases h with h | h
  ·simp[show ¬ 1≤s.length by omega]
  ·simp[show ¬s.length≤10 by omega]
 ·have hN:qaB s=(List.range s.length).all (qcr s):=by simp only[qaB]; simp[show 1≤s.length by omega,show s.length≤10 by omega]
  rw[hN]
  refine qac hm s.length (fun i=>⟨[(16, .sl 1 (qar s)),(17, .int .i64 s.length),(18, .int .i64 i)],[]⟩) (fun i=>∀j,j<i→qcr s j=true) (by kernel_rfl) ?_ (by simp) (fun i hi hI =>?_) (fun hI =>?_)
  ·exact Wk.weak (ρ:=[]) (φ:=[]) (by simp[qar])
  ·have hn:qcr s i=true↔(((97:Int)≤s[i].toNat∧(s[i].toNat:Int)≤122)∨(¬i=0∧(48:Int)≤s[i].toNat∧(s[i].toNat:Int)≤57)):=by
    simp[qcr,hi,qdG,qeG]
   simp[qar,hi]
   refine⟨by omega,by omega,fun h3 h4=>⟨i,hi,?_⟩,fun h=>⟨fun j hj =>?_,?_⟩⟩
   ·rw[←Bool.not_eq_true,hn]
    omega
   ·by_cases e:j=i
    ·subst e
     rw[hn]
     omega
    ·exact hI j (by omega)
   ·refine Wk.weak (ρ:=[]) (φ:=[]) ?_
    simp
    exact w64 (by omega) (by omega)
  ·simp[qar]
   exact fun j hj=>hI j hj
theorem qba (s:List UInt8):HFn Tryz.prog 190 [.str s] [] (.bool (qaB s)) []:=by
 refine qaa hm Tryz.func190 (by kernel_rfl) rfl (by kernel_rfl) rfl qab ?_
 simp
 have hlen:¬s=[]→0<s.length:=fun h=>List.length_pos_iff.2 h
 refine⟨fun h1 h2=>⟨⟨h1,h2⟩,hlen h1⟩,fun h1 h2=>⟨h1,h2⟩,CallY.use (res := .bool (qdG (s.getD 0 0))) (fun _=>⟨rfl,?_⟩) rfl rfl ?_⟩
 ·have:=qjV (s.getD 0 0)
  simpa using this
 simp
 have hat:∀i,∀h:i<s.length,qcr s i=(qdG s[i]||(decide (i≠0)&&qeG s[i])):=fun i h=>by simp[qcr,h]
 refine⟨fun h1 h2=>⟨h1,h2⟩,fun h =>?_,fun h1 h2 h3 =>?_⟩
 ·rcases h with (h | h) | h
  ·simp[qaB,h]
  ·simp[qaB,show ¬s.length≤10 by omega]
  ·by_cases h0:s=[]
   ·simp[qaB,h0]
   ·have:=hlen h0
    have hz:qcr s 0=false:=by simpa[qcr]using h
    have:(List.range s.length).all (qcr s)=false:=by
     rw[←Bool.not_eq_true,List.all_eq_true]
     exact fun hc=>by rw[hc 0 (List.mem_range.2 this)]at hz; cases hz
    simp only[qaB,this,Bool.and_false]
 ·have h0:=hlen h1
  have hN:qaB s=(List.range s.length).all (qcr s):=by simp only[qaB]; simp[show 1≤s.length by omega,show s.length≤10 by omega]
  rw[hN]
  refine qac hm s.length (fun i=>⟨[(0, .str s),(3, .int .i64 i)],[]⟩) (fun i=>∀j,j<i→qcr s j=true) (by kernel_rfl) ?_ (by simp) (fun i hi hI =>?_) (fun hI =>?_)
  ·exact Wk.weak (ρ:=[]) (φ:=[]) (by simp)
  ·simp[hi]
   refine CallZ.use0 (qjV _) rfl rfl ?_
   simp
   refine⟨fun h=>⟨h,hi⟩,CallY.use (res := .bool (qeG s[i])) (fun _=>⟨rfl,by simpa[hi]using qpp s[i]⟩) rfl rfl ?_⟩
   simp
   refine⟨fun h4 h5=>⟨i,hi,?_⟩,fun h=>⟨fun j hj =>?_,?_⟩⟩
   ·simp[hat i hi,h4,h5]
   ·by_cases e:j=i
    ·subst e
     rw[hat j hi]
     by_cases h5:qdG s[j]=true
     ·simp[h5]
     ·have h6:qdG s[j]=false:=by simpa using h5
      have h7:j≠0:=fun e=>by subst e; simp[hi]at h3; rw[h3]at h6; cases h6
      simp[h6,h7,h h6]
    ·exact hI j (by omega)
   ·refine Wk.weak (ρ:=[]) (φ:=[]) ?_
    simp
    exact w64 (by omega) (by omega)
  ·simp
   exact fun j hj=>hI j hj
end Go.Proofs.YteckngloamnfdaaGreatDoor
namespace Go.Proofs.YteckngloamnfdaaGreatDoor
open Go Go.Ab
set_option maxRecDepth 100000
theorem qfe (n:Int):HFn Tryz.prog 231 [.int .i64 n] [] (.bool (decide (1≤n)&&decide (n≤20000000))) []:=by
 refine qaa hm Tryz.func231 (by kernel_rfl) rfl (by kernel_rfl) rfl qab ?_
 simp
 refine CallZ.use0 (qai _ _ _) rfl rfl ?_
 simp
theorem qf3 (n:Int):HFn Tryz.prog 232 [.int .i64 n] [] (.bool (decide (0≤n)&&decide (n≤127))) []:=by
 refine qaa hm Tryz.func232 (by kernel_rfl) rfl (by kernel_rfl) rfl qab ?_
 simp
 refine CallZ.use0 (qai _ _ _) rfl rfl ?_
 simp
theorem qhj (n:Int):HFn Tryz.prog 264 [.int .i64 n] [] (.bool (decide (0≤n)&&decide (n≤127))) []:=by
 refine qaa hm Tryz.func264 (by kernel_rfl) rfl (by kernel_rfl) rfl qab ?_
 simp
 try refine CallZ.use0 (qaj _ _ _) rfl rfl ?_
 try simp
def qd8 (x:Order):Bool:=qaB x.id&&(decide (1≤x.mass)&&decide (x.mass≤20000000))&&(decide (0≤x.note)&&decide (x.note≤127))&&(decide (1≤x.days)&&decide (x.days≤100))&&(decide (0≤x.due)&&decide (x.due≤10000))
theorem qpq (x:Order):HFn Tryz.prog 146 [.agg x.cells] [] (.bool (qd8 x)) []:=by
 refine qaa hm Tryz.func146 (by kernel_rfl) rfl (by kernel_rfl) rfl qab ?_
 simp[Order.cells]
 refine CallZ.use0 (qa9 _) rfl rfl ?_
 simp
 refine CallY.use (fun _=>⟨rfl,qfe _⟩) rfl rfl ?_
 simp
 first | refine CallY.use (fun _=>⟨rfl,qf3 _⟩) rfl rfl ?_ | refine⟨by intros; simp[*],CallY.use (fun _=>⟨rfl,qf3 _⟩) rfl rfl ?_⟩
 simp
 first | refine CallY.use (fun _=>⟨rfl,qai _ _ _⟩) rfl rfl ?_ | refine⟨by intros; simp[*],CallY.use (fun _=>⟨rfl,qai _ _ _⟩) rfl rfl ?_⟩
 simp
 first | refine CallY.use (fun _=>⟨rfl,qai _ _ _⟩) rfl rfl ?_ | refine⟨by intros; simp[*],CallY.use (fun _=>⟨rfl,qai _ _ _⟩) rfl rfl ?_⟩
 simp[qd8]
theorem qpr (x:Order) (rows:List (List PV)) (i:Nat) (h:rows[i]?=some x.cells):HFn Tryz.prog 195 [.pe 5 rows i 0] [] (.bool (qd8 x)) []:=by
 have hi:i<rows.length:=(List.getElem?_eq_some_iff.1 h).1
 have hx:rows[i]=x.cells:=by rw[List.getElem?_eq_getElem hi]at h; exact Option.some.inj h
 refine qaa hm Tryz.func195 (by kernel_rfl) rfl (by kernel_rfl) rfl qab ?_
 rw[Order.cells]at h hx
 simp[hi,hx]
 refine CallZ.use0 (qba _) rfl rfl ?_
 simp[hi,hx]
 first | refine CallY.use (fun _=>⟨rfl,qaj _ _ _⟩) rfl rfl ?_ | refine⟨by intros; simp[*],CallY.use (fun _=>⟨rfl,qaj _ _ _⟩) rfl rfl ?_⟩
 simp[hi,hx]
 first | refine CallY.use (fun _=>⟨rfl,qhj _⟩) rfl rfl ?_ | refine⟨by intros; simp[*],CallY.use (fun _=>⟨rfl,qhj _⟩) rfl rfl ?_⟩
 simp[hi,hx]
 first | refine CallY.use (fun _=>⟨rfl,qaj _ _ _⟩) rfl rfl ?_ | refine⟨by intros; simp[*],CallY.use (fun _=>⟨rfl,qaj _ _ _⟩) rfl rfl ?_⟩
 simp[hi,hx]
 first | refine CallY.use (fun _=>⟨rfl,qaj _ _ _⟩) rfl rfl ?_ | refine⟨by intros; simp[*],CallY.use (fun _=>⟨rfl,qaj _ _ _⟩) rfl rfl ?_⟩
 simp[qd8]
end Go.Proofs.YteckngloamnfdaaGreatDoor
