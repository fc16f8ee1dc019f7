/- Contracts: slices.Clone, Delete, Insert at Pair. -/
import Derived.Test.YteckngloamnfdaaGreatDoorTy
import Derived.Test.YteckngloamnfdaaGreatDoorAch
namespace Go.Proofs.YteckngloamnfdaaGreatDoor
open Go Go.Ab
set_option maxRecDepth 100000
theorem qqM (rows:List (List PV)) (i j:Nat) (hr:rowsOne rows) (hij:i<j) (hj:j≤rows.length) (hl:rows.length≤1048576):MFn Tryz.prog 302 [.sf 0 2, .int .i64 i, .int .i64 j] [some (.arr 2 rows)] [] (.sf 0 2) [some (.arr 2 (rows.take i++rows.drop j))]:=by
 refine qcn [] hm Tryz.func302 (by kernel_rfl) rfl (by kernel_rfl) rfl (fun _ _ h=>h) trivial ?_
 simp
 have e1:((i:Int)+((rows.length-j:Nat):Int)).toNat=i+(rows.length-j):=by omega
 refine⟨⟨by omega,hj⟩,fun h=>by omega,fun _=>⟨by omega,hj,by omega,fun r h=>hr r (List.mem_of_mem_drop (List.mem_of_mem_take h)),rfl,by omega,⟨by omega,by omega,by omega⟩,by omega,?_⟩⟩
 rw[e1]
 refine (qfb (S:=⟨[(0, .so 0 2 0 (i+(rows.length-j)))],_⟩) (t:=0) rfl rfl (by simp; omega)).trans (Wk.weak (ρ:=[0]) (φ:=[]) ?_)
 simp
 have:=qnE rows i j hij hj
 simpa using this _
theorem qqN (rv rows:List (List PV)) (lo len:Nat):MFn Tryz.prog 344 [.sf 0 2, .so 1 2 lo len] [some (.arr 2 rv),some (.arr 2 rows)] [0,1] (.bool false) [some (.arr 2 rv),some (.arr 2 rows)] :=
 qqG Tryz.func344 (by kernel_rfl) (by kernel_rfl) (by kernel_rfl) (tS:=297) (tR:=4) (e:=300) (by kernel_rfl) (by simp) (by simp) 2 (by omega) rv rows lo len
theorem qqO (A B rv:List (List PV)) (hr:rowsOne (A++B)) (hv:rowsOne rv) (h0:0<rv.length) (hl:A.length+B.length+rv.length≤1048576) :
  MFn Tryz.prog 303 [.sf 0 2, .int .i64 A.length, .sf 1 2] [some (.arr 2 (A++B)),some (.arr 2 rv)] [] (.sf 0 2) [some (.arr 2 (A++(rv++B))),some (.arr 2 rv)]:=by
 have hrv:rv ≠ []:=fun e=>by rw[e]at h0; simp at h0
 have hrB:rowsOne B:=fun r h=>hr r (List.mem_append_right _ h)
 by_cases hin:B=[]
 ·subst hin
  refine qcn [] hm Tryz.func303 (by kernel_rfl) rfl (by kernel_rfl) rfl (fun _ _ h=>h) trivial ?_
  simp[hrv]
  exact⟨hv,by omega,by omega,Wk.weak (ρ:=[0,1]) (φ:=[]) (by simp)⟩
 ·have hlt:0<B.length:=List.length_pos_iff.2 hin
  have hne:A++B ≠ []:=fun e=>hin (List.append_eq_nil_iff.1 e).2
  have e0:¬((A.length:Int)=((A.length+B.length:Nat):Int)):=by omega
  have e1:IntKind.i64.wrap (((A.length+B.length:Nat):Int)+(rv.length:Int))=((A.length+B.length+rv.length:Nat):Int):=by rw[w64 (by omega) (by omega)]; omega
  have e2:IntKind.i64.wrap (((A.length+B.length+rv.length:Nat):Int)-(A.length:Int))=((B.length+rv.length:Nat):Int):=by rw[w64 (by omega) (by omega)]; omega
  have e3:IntKind.i64.wrap ((A.length:Int)+(rv.length:Int))=((A.length+rv.length:Nat):Int):=by rw[w64 (by omega) (by omega)]; omega
  refine qnD hm Tryz.func303 (by kernel_rfl) rfl (by kernel_rfl) rfl (fun _ _ h=>h) rfl fun C hC hC63 =>?_
  rw[List.length_append]at hC
  by_cases hroom:A.length+B.length+rv.length≤C
  ·refine AWP.weak (qnC (t:=0) (k:=0) (z:=2) (C:=C) (rows:=A++B) rfl rfl rfl (by simp) hne) ?_
   refine qaE hm _ _ _ (by kernel_rfl) ?_
   rw[List.length_append]
   obtain⟨T,hT⟩:∃T,T=List.replicate (C-(A.length+B.length)) (List.replicate 2 PV.top):=⟨_,rfl⟩
   have hTl:T.length=C-(A.length+B.length):=by rw[hT]; simp
   rw[←hT]
   have f1:¬C<A.length+B.length+rv.length:=by omega
   have f2:A.length+(B.length+T.length)=C:=by omega
   have f3:A.length+B.length+rv.length-(A.length+rv.length)=B.length:=by omega
   have f4:A.length+B.length+rv.length-A.length=B.length+rv.length:=by omega
   have g1:rv.take (B.length+rv.length)=rv:=List.take_of_length_le (by omega)
   simp[hrv,e0,e1,e2,e3,f1,f2,f3,g1,qhi,-Int.natCast_add]
   refine⟨by omega,fun _=>⟨hroom,?_⟩⟩
   refine CallZ.useM [1,0] [] [] (qqN rv (A++(B++T)) (A.length+rv.length) B.length) ?_ rfl rfl (by simp) rfl rfl rfl (.inl rfl) ?_
   ·simp
   simp[e3,f2,f3,f4,g1,qhi,-Int.natCast_add]
   have g2:((B++T).take rv.length).length=rv.length:=by simp; omega
   rw[List.drop_left' g2]
   refine⟨hroom,⟨by omega,hroom⟩,by omega,by omega,hrB,⟨by omega,by omega⟩,by omega,hv,?_⟩
   refine (qfb (S:=⟨[(0, .so 0 2 0 (A.length+B.length+rv.length))],_⟩) (t:=0) rfl rfl (by simp; omega)).trans (Wk.weak (ρ:=[0,1]) (φ:=[]) ?_)
   have g3:(A++(rv++(B++(A++(B++T)).drop (A.length+rv.length+B.length)))).take (A.length+B.length+rv.length)=A++(rv++B):=by
    rw[←List.append_assoc,←List.append_assoc,List.take_left' (by simp; omega),List.append_assoc]
   simp[g3]
  ·refine qaE hm _ _ _ (by kernel_rfl) ?_
   have f1:C<A.length+B.length+rv.length:=by omega
   have f4:A.length+(rv.length+B.length)-(A.length+rv.length)=B.length:=by omega
   have f6:¬A.length+B.length+rv.length≤C:=by omega
   have g1:rv.take (B.length+rv.length)=rv:=List.take_of_length_le (by omega)
   simp[hrv,e0,e1,e2,e3,f1,f4,f6,g1,qhi,-Int.natCast_add]
   rw[List.drop_of_length_le (by simp; omega),List.append_nil]
   refine⟨by omega,by omega,by omega,by omega,by omega,hv,by omega,hrB,Wk.weak (ρ:=[2,1]) (φ:=[]) (by simp)⟩
end Go.Proofs.YteckngloamnfdaaGreatDoor
