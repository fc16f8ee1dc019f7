/- Contracts: equal lists of records and of orders; valid records. -/
import Derived.Test.YteckngloamnfdaaGreatDoorCe
import Derived.Test.YteckngloamnfdaaGreatDoorTDesk
namespace Go.Proofs.YteckngloamnfdaaGreatDoor
open Go Go.Ab
set_option maxRecDepth 100000
def qdm (b:UInt8):Bool:=decide ((32:Int)≤b.toNat)&&decide ((b.toNat:Int)≤126)
def qeJ (s:List UInt8):Bool:=decide ((s.length:Int)≤60)&&s.all qdm
theorem qpS (b:UInt8):HFn Tryz.prog 298 [.int .u8 b.toNat] [] (.bool (!qdm b)) []:=by
 refine qaa hm Tryz.func298 (by kernel_rfl) rfl (by kernel_rfl) rfl qab ?_
 simp[qdm]
 congr 1<;>rw[←decide_not]<;>simp
theorem qpT (f:Nat) (p:UInt8→Bool) (hf:∀b:UInt8,HFn Tryz.prog f [.int .u8 b.toNat] [] (.bool (p b)) []) (s:List UInt8) (hs:s.length≤9223372036854775807) :
  HFn Tryz.prog 342 [.sl 1 (qar s), .fn f []] [] (.int .i64 (findI p s)) []:=by
 refine qaa hm Tryz.func342 (by kernel_rfl) rfl (by kernel_rfl) rfl qab ?_
 simp[qar]
 refine qac hm s.length (fun i=>⟨[(0, .sl 1 (qar s)),(1, .fn f []),(7, .int .i64 s.length),(8, .int .i64 i)],[]⟩) (fun i=>∀j (h:j<s.length),j<i→p s[j]=false) (by kernel_rfl) ?_ (by simp) (fun i hi hI =>?_) (fun hI =>?_)
 ·exact Wk.weak (ρ:=[]) (φ:=[]) (by simp[qar])
 ·simp[qar,hi]
  refine CallZ.use0 (hf _) rfl rfl ?_
  simp
  refine⟨fun h=>(qb9 hi h hI).symm,fun h=>⟨fun j hj hji =>?_,?_⟩⟩
  ·by_cases e:j=i
   ·subst e; exact h
   ·exact hI j hj (by omega)
  ·refine Wk.weak (ρ:=[]) (φ:=[]) ?_
   simp
   exact w64 (by omega) (by omega)
 ·simp[qar]
  exact (qca fun j hj=>hI j hj hj).symm
theorem qpU (f:Nat) (p:UInt8→Bool) (hf:∀b:UInt8,HFn Tryz.prog f [.int .u8 b.toNat] [] (.bool (p b)) []) (s:List UInt8) (hs:s.length≤9223372036854775807) :
  HFn Tryz.prog 297 [.sl 1 (qar s), .fn f []] [] (.bool (s.any p)) []:=by
 refine qaa hm Tryz.func297 (by kernel_rfl) rfl (by kernel_rfl) rfl qab ?_
 simp
 refine CallZ.use0 (qpT f p hf s hs) rfl rfl ?_
 simp
 exact qdi
theorem qpV (s:List UInt8) (hs:s.length≤9223372036854775807):HFn Tryz.prog 233 [.str s] [] (.bool (qeJ s)) []:=by
 refine qaa hm Tryz.func233 (by kernel_rfl) rfl (by kernel_rfl) rfl qab ?_
 simp
 refine CallY.use (fun _=>⟨rfl,qpU _ _ qpS s hs⟩) rfl rfl ?_
 simp[qeJ]
 rw[List.all_eq_not_any_not]
theorem qkj (s:List UInt8) (hs:s.length≤9223372036854775807):HFn Tryz.prog 196 [.str s] [] (.bool (qeJ s)) []:=by
 refine qaa hm Tryz.func196 (by kernel_rfl) rfl (by kernel_rfl) rfl qab ?_
 simp
 refine qac hm s.length (fun i=>⟨[(0, .str s),(3, .int .i64 i)],[]⟩) (fun i=>∀j (h:j<s.length),j<i→qdm s[j]=true) (by kernel_rfl) ?_ (by simp) (fun i hi hI =>?_) (fun hI =>?_)
 ·exact Wk.weak (ρ:=[]) (φ:=[]) (by simp)
 ·simp[hi]
  have hr:qdm s[i]=true↔(32:Int)≤s[i].toNat∧(s[i].toNat:Int)≤126:=by simp[qdm]
  refine⟨fun h =>?_,fun h4 h5=>⟨fun j hj hji =>?_,?_⟩⟩
  ·have h0:¬qdm s[i]=true:=by rw[hr]; omega
   have h1:s.all qdm=false:=by
    rw[←Bool.not_eq_true,List.all_eq_true]
    exact fun hc=>h0 (hc _ (List.getElem_mem hi))
   simp[qeJ,h1]
  ·by_cases e:j=i
   ·subst e; exact hr.2 ⟨h4,h5⟩
   ·exact hI j hj (by omega)
  ·refine Wk.weak (ρ:=[]) (φ:=[]) ?_
   simp
   exact w64 (by omega) (by omega)
 ·simp
  have:s.all qdm=true:=List.all_eq_true.2 fun x hx=>by
   obtain⟨j,hj,rfl⟩:=List.getElem_of_mem hx
   exact hI j hj hj
  simp[qeJ,this]
def qbJ (r:Record):Bool :=
 if r.kind=1 then qaB r.key&&qeJ r.text
 else if r.kind=2 then qaB r.key&&decide (r.text=[])
 else decide (r.kind=3)&&decide (r.key=[])&&decide (r.text=[])
theorem qpW (r:Record) (hr:r.wf):HFn Tryz.prog 147 [.agg r.cells] [] (.bool (qbJ r)) []:=by
 refine qaa hm Tryz.func147 (by kernel_rfl) rfl (by kernel_rfl) rfl qab ?_
 simp[Record.cells]
 refine⟨fun h =>?_,fun h1=>⟨fun h =>?_,fun h2 =>?_⟩⟩
 ·refine CallZ.use0 (qa9 _) rfl rfl ?_
  simp
  refine CallY.use (fun _=>⟨rfl,qpV _ hr.2.2.2⟩) rfl rfl ?_
  simp[qbJ,h]
 ·refine CallZ.use0 (qa9 _) rfl rfl ?_
  simp[qbJ,h]
 ·simp[qbJ,h1,h2]
  exact fun a b=>⟨a,b⟩
theorem qpX (x:Record) (hr:x.wf) (rows:List (List PV)) (i:Nat) (h:rows[i]?=some x.cells):HFn Tryz.prog 120 [.pe 3 rows i 0] [] (.bool (qbJ x)) []:=by
 have hi:i<rows.length:=(List.getElem?_eq_some_iff.1 h).1
 have hx:rows[i]=x.cells:=by rw[List.getElem?_eq_getElem hi]at h; exact Option.some.inj h
 refine qaa hm Tryz.func120 (by kernel_rfl) rfl (by kernel_rfl) rfl qab ?_
 rw[Record.cells]at h hx
 simp[hi,hx]
 refine⟨fun h1 =>?_,fun h1=>⟨fun h2 =>?_,fun h2=>⟨fun a b=>⟨a,b⟩,?_⟩⟩⟩
 ·refine CallZ.use0 (qba _) rfl rfl ?_
  simp[hi,hx]
  first
   | refine CallY.use (fun _=>⟨rfl,qkj _ hr.2.2.2⟩) rfl rfl ?_
   | refine⟨by intros; simp[*],CallY.use (fun _=>⟨rfl,qkj _ hr.2.2.2⟩) rfl rfl ?_⟩
  simp[qbJ,h1]
 ·refine CallZ.use0 (qba _) rfl rfl ?_
  simp[hi,hx,qbJ,h2]
 ·simp[qbJ,h1,h2]
end Go.Proofs.YteckngloamnfdaaGreatDoor
