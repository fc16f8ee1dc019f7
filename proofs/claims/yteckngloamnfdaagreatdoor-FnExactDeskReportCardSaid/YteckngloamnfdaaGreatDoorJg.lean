/- Contracts: numbers and lists of numbers as text. Contracts: lists of numbers as text, the reference's side.; Contracts: numbers and lists of numbers as text, the program's side. Contracts: lists, notes and orders as text.; Contracts: OrderText.; Contracts: drums as text. -/
import Derived.Test.YteckngloamnfdaaGreatDoorTPair
import Derived.Test.YteckngloamnfdaaGreatDoorBa
import Derived.Lib.ItoaNum
import Derived.Lib.ItoaLen
import Derived.Lib.Join
import Derived.Test.YteckngloamnfdaaGreatDoorSr
import Derived.Test.YteckngloamnfdaaGreatDoorAcj
import Derived.Test.YteckngloamnfdaaGreatDoorCe
import Derived.Test.YteckngloamnfdaaGreatDoorCg
import Derived.Test.YteckngloamnfdaaGreatDoorCk
import Derived.Test.YteckngloamnfdaaGreatDoorCj
namespace Go.Proofs.YteckngloamnfdaaGreatDoor
open Go Go.Ab
set_option maxRecDepth 100000
theorem qef (l:List UInt8):(qar l).length=l.length:=by simp[qar]
theorem qlS (l:List UInt8) {i:Nat} (h:i<(qar l).length):(qar l)[i]=[PV.int .u8 (l[i]'(by rw[qef]at h; exact h)).toNat]:=by simp[qar]
theorem qfs (a b:List UInt8):qar (a++b)=qar a++qar b:=by simp[qar]
theorem qft (b:UInt8):qar [b]=[[.int .u8 b.toNat]]:=rfl
theorem qlT (l:List UInt8):∀r∈qar l,byteC r=true:=fun r hr=>by
 obtain⟨b,_,rfl⟩:=List.mem_map.1 hr
 have:=b.toNat_lt
 simp[byteC]
 omega
theorem qlU (l:List UInt8):(qar l).map byteV=l:=by
 unfold qar
 rw[List.map_map]
 conv=>rhs; rw[←List.map_id l]
 refine List.map_congr_left fun b _ =>?_
 simp[byteV]
def qbi (u:Nat):List UInt8:=if h:u=0 then [] else UInt8.ofNat (48+u%10)::qbi (u/10)
termination_by u
decreasing_by omega
theorem qgA:qbi 0=[]:=by rw[qbi,dif_pos rfl]
theorem qhU {u:Nat} (h:u≠0):qbi u=UInt8.ofNat (48+u%10)::qbi (u/10):=by rw[qbi,dif_neg h]
theorem qhV:∀ {u:Nat},u≠0→Lib.decDigits u=(qbi u).reverse
 | u,h=>by
  rw[Lib.decDigits,qhU h]
  by_cases h1:u<10
  ·rw[dif_pos h1]
   have e:u/10=0:=by omega
   rw[e,qgA,Nat.mod_eq_of_lt h1]
   rfl
  ·rw[dif_neg h1,qhV (u:=u/10) (by omega),List.reverse_cons]
termination_by u=>u
decreasing_by omega
theorem qlV:∀(k u:Nat),u<10^k→(qbi u).length≤k
 | 0,u,h=>by
  have:u=0:=by simpa using h
  subst this; rw[qgA]; exact Nat.le_refl _
 | k+1,u,h=>by
  by_cases h0:u=0
  ·subst h0; rw[qgA]; exact Nat.zero_le _
  ·rw[qhU h0,List.length_cons]
   have:=qlV k (u/10) (by rw[Nat.pow_succ]at h; omega)
   omega
theorem qtg:qbi (0:Int).natAbs=[]:=qgA
theorem qth:Lib.itoa 0=[48]:=by simp[Lib.itoa,Lib.decDigits_one]
theorem qti {n:Int} (h:0<n):Lib.itoa n=(qbi n.natAbs).reverse:=by
 unfold Lib.itoa
 rw[if_neg (by omega),qhV (by omega)]
 congr 2
 omega
theorem qtj {n:Int} (h:n<0):Lib.itoa n=45::(qbi n.natAbs).reverse:=by
 unfold Lib.itoa
 rw[if_pos h,qhV (by omega)]
theorem tq10 (x:Int):(x.tdiv 10).natAbs=x.natAbs/10∧(x.tmod 10).natAbs=x.natAbs%10∧(0≤x→0≤x.tdiv 10∧0≤x.tmod 10)∧(x≤0→x.tdiv 10≤0∧x.tmod 10≤0):=by
 rcases Int.le_total 0 x with h | h
 ·rw[Int.tdiv_eq_ediv_of_nonneg h,Int.tmod_eq_emod_of_nonneg h]
  omega
 ·obtain⟨y,rfl⟩:∃y,x = -y:=⟨-x,by omega⟩
  have hy:0≤y:=by omega
  rw[Int.neg_tdiv,Int.neg_tmod,Int.tdiv_eq_ediv_of_nonneg hy,Int.tmod_eq_emod_of_nonneg hy]
  omega
theorem dig8 {d:Nat} (h:d<10):IntKind.u8.wrap (IntKind.i64.wrap (48+(d:Int)))=((UInt8.ofNat (48+d)).toNat:Int):=by
 rw[w64 (by omega) (by omega),w8 (by omega) (by omega)]
 have:(UInt8.ofNat (48+d)).toNat=48+d:=by simp; omega
 rw[this]
 omega
theorem qlW (n:Int) (hn:I64 n):HFn Tryz.prog 19 [.int .i64 n] [] (.str (Lib.itoa n)) []:=by
 obtain⟨hn1,hn2⟩:=hn
 refine qaa hm Tryz.func19 (by kernel_rfl) rfl (by kernel_rfl) rfl qab ?_
 simp
 refine⟨fun h=>by subst h; exact qth.symm,fun h0 =>?_⟩
 have hu:(qbi n.natAbs).length≤20:=qlV 20 _ (by omega)
 refine qeB hm (ι:={x:List UInt8×Int // x.1++qbi x.2.natAbs=qbi n.natAbs∧I64 x.2∧(0<n→0≤x.2)∧(n<0→x.2≤0)}) (fun x=>⟨[(0, .int .i64 n),(3, .sf 0 1),(4, .int .i64 x.1.2)],[some (.arr 1 (qar x.1.1))]⟩) (fun x=>x.1.2.natAbs) (by kernel_rfl) ⟨([],n),by simp,⟨hn1,hn2⟩,by simp; omega,by simp; omega⟩ ?_ ?_
 ·refine (qaA (t:=3) (z:=1) rfl).trans (Wk.weak (ρ:=[0]) (φ:=[]) ?_)
  simp[qar]
 ·rintro ⟨⟨D,x⟩,h1,⟨h2,h3⟩,h4,h5⟩
  simp only at h1 h2 h3 h4 h5 ⊢
  simp
  obtain⟨q1,q2,q3,q4⟩:=tq10 x
  have hd:x.natAbs%10<10:=Nat.mod_lt _ (by omega)
  have hl:(qar D).length≤20:=by
   rw[qef]
   have:=congrArg List.length h1
   rw[List.length_append]at this
   omega
  have wq:IntKind.i64.wrap (x.tdiv 10)=x.tdiv 10:=w64 (by omega) (by omega)
  refine⟨fun hx =>?_,fun hx =>?_⟩
  ·have hr:qbi x.natAbs=UInt8.ofNat (48+x.natAbs%10)::qbi (x.tdiv 10).natAbs:=by rw[qhU (by omega),q1]
   have key:(D++[UInt8.ofNat (48+x.natAbs%10)])++qbi (x.tdiv 10).natAbs=qbi n.natAbs:=by rw[←h1,hr]; simp
   refine⟨fun h =>?_,fun h =>?_⟩
   ·have e:IntKind.i64.wrap (-x.tmod 10)=((x.natAbs%10:Nat):Int):=by rw[w64 (by omega) (by omega)]; omega
    rw[e,dig8 hd,wq]
    refine⟨by simp[rowsOne],by omega,by omega,D++[UInt8.ofNat (48+x.natAbs%10)],x.tdiv 10,Wk.weak (ρ:=[0]) (φ:=[]) ?_,⟨key,⟨by omega,by omega⟩,by omega,by omega⟩,by omega⟩
    simp[qfs,qft]
   ·have e:x.tmod 10=((x.natAbs%10:Nat):Int):=by omega
    rw[e,dig8 hd,wq]
    refine⟨by simp[rowsOne],by omega,by omega,D++[UInt8.ofNat (48+x.natAbs%10)],x.tdiv 10,Wk.weak (ρ:=[0]) (φ:=[]) ?_,⟨key,⟨by omega,by omega⟩,by omega,by omega⟩,by omega⟩
    simp[qfs,qft]
  ·have hx':x=0:=by omega
   subst hx'
   rw[qtg,List.append_nil]at h1
   have hDl:(qar D).length=D.length:=qef D
   refine⟨fun hneg =>?_,fun hpos =>?_⟩
   ·refine⟨by simp[rowsOne],by omega,by omega,?_⟩
    obtain⟨L,hL⟩:∃L,D++[45]=L:=⟨_,rfl⟩
    have hLr:L.reverse=Lib.itoa n:=by rw[←hL,qtj hneg,←h1]; simp
    have hLl:L.length≤21:=by rw[←hL]; simp; omega
    refine qac hm L.length (fun i=>⟨[(3, .sf 0 1),(6, .sf 1 1),(7, .int .i64 ((L.length:Int)-1-i))],[some (.arr 1 (qar L)),some (.arr 1 (qar (L.reverse.take i)))]⟩) (fun _=>True) (by kernel_rfl) ?_ trivial (fun i hi _ =>?_) (fun _ =>?_)
    ·refine (qaA (t:=6) (z:=1) rfl).trans (Wk.weak (ρ:=[0,2]) (φ:=[]) ?_)
     simp[qef,←hL,qfs,qft]
     simp[qar]
     try rw[w64 (by omega) (by omega)]
     try omega
    ·obtain⟨k,hk⟩:∃k,k=L.length-1-i:=⟨_,rfl⟩
     have ek:(L.length:Int)-1-i=(k:Int):=by omega
     have kl:k<L.length:=by omega
     have ek1:IntKind.i64.wrap ((k:Int)-1)=(k:Int)-1:=w64 (by omega) (by omega)
     have hre:L.reverse.take (i+1)=L.reverse.take i++[L[k]]:=by
      rw[←List.take_append_getElem (by simp; omega)]
      congr 2
      rw[List.getElem_reverse]
      congr 1
      omega
     rw[ek]
     simp[qef,qlS,kl]
     refine⟨by simp[rowsOne],by omega,by omega,Wk.weak (ρ:=[0,1]) (φ:=[]) ?_⟩
     simp[ek1,hre,qfs,qft]
     omega
    ·simp[qlU,hLr]
     exact⟨by omega,fun _=>⟨qlT _,by rw[←hLr,List.take_of_length_le (by simp)]⟩⟩
   ·obtain⟨L,hL⟩:∃L,D=L:=⟨_,rfl⟩
    have hLr:L.reverse=Lib.itoa n:=by rw[←hL,qti (by omega),←h1]
    have hLl:L.length≤21:=by rw[←hL]; omega
    refine qac hm L.length (fun i=>⟨[(3, .sf 0 1),(6, .sf 1 1),(7, .int .i64 ((L.length:Int)-1-i))],[some (.arr 1 (qar L)),some (.arr 1 (qar (L.reverse.take i)))]⟩) (fun _=>True) (by kernel_rfl) ?_ trivial (fun i hi _ =>?_) (fun _ =>?_)
    ·refine (qaA (t:=6) (z:=1) rfl).trans (Wk.weak (ρ:=[0,1]) (φ:=[]) ?_)
     simp[qef,←hL]
     simp[qar]
     try rw[w64 (by omega) (by omega)]
     try omega
    ·obtain⟨k,hk⟩:∃k,k=L.length-1-i:=⟨_,rfl⟩
     have ek:(L.length:Int)-1-i=(k:Int):=by omega
     have kl:k<L.length:=by omega
     have ek1:IntKind.i64.wrap ((k:Int)-1)=(k:Int)-1:=w64 (by omega) (by omega)
     have hre:L.reverse.take (i+1)=L.reverse.take i++[L[k]]:=by
      rw[←List.take_append_getElem (by simp; omega)]
      congr 2
      rw[List.getElem_reverse]
      congr 1
      omega
     rw[ek]
     simp[qef,qlS,kl]
     refine⟨by simp[rowsOne],by omega,by omega,Wk.weak (ρ:=[0,1]) (φ:=[]) ?_⟩
     simp[ek1,hre,qfs,qft]
     omega
    ·simp[qlU,hLr]
     exact⟨by omega,fun _=>⟨qlT _,by rw[←hLr,List.take_of_length_le (by simp)]⟩⟩
end Go.Proofs.YteckngloamnfdaaGreatDoor
namespace Go.Proofs.YteckngloamnfdaaGreatDoor
open Go Go.Ab
set_option maxRecDepth 100000
theorem qgB {n:Int} (h:I64 n):(Lib.itoa n).length≤21:=Lib.itoa_length_le n h.1 h.2
end Go.Proofs.YteckngloamnfdaaGreatDoor
namespace Go.Proofs.YteckngloamnfdaaGreatDoor
open Go Go.Ab
set_option maxRecDepth 100000
theorem qtk:(0,Lib.pow10Tab.map fun z=>PV.int .u64 z)∈tabs:=List.mem_cons_self
theorem qtl (n:Int) (hn:I64 n):HFn Tryz.prog 78 [.int .i64 n, .int .i64 10] [] (.str (Lib.itoa n)) [] :=
 qtb Tryz.func78 (by kernel_rfl) rfl rfl fun A w vs hA hsz hargs=>by
  have h0:=hargs 0 _ rfl
  have h1:=hargs 1 _ rfl
  rw[args2 hsz]
  generalize vs.getD 0 undef=v0 at h0 ⊢
  generalize vs.getD 1 undef=v1 at h1 ⊢
  cases h0
  cases h1
  obtain⟨e,fz,hw⟩:=hA.ints qtk
  refine (Tryz.strconv_FormatInt_10 n hn.1 hn.2 w ?_).mono fun e w' ⟨he,k,os,hw'⟩=>⟨_,he,?_, .str _ _ rfl⟩
  ·unfold Lib.TabIs World.var?
   rw [show Tryz.prog.globalNamed "internal/strconv.uint64pow10" = some 0 by kernel_rfl]
   simp[hw]
  ·subst hw'
   exact qs9 _ _ _
theorem qlX (n:Int) (hn:I64 n):HFn Tryz.prog 35 [.int .i64 n] [] (.str (Lib.itoa n)) []:=by
 refine qaa hm Tryz.func35 (by kernel_rfl) rfl (by kernel_rfl) rfl qab ?_
 simp
 refine CallZ.use0 (qtl n hn) rfl rfl ?_
 simp
end Go.Proofs.YteckngloamnfdaaGreatDoor
namespace Go.Proofs.YteckngloamnfdaaGreatDoor
open Go Go.Ab
set_option maxRecDepth 100000
def valB (n:Int):Bool:=decide (-1000000000000≤n)&&decide (n≤1000000000000)
def qdc:List (List UInt8):=[[99],[99,115],[100],[100,115],[101],[102],[102,115],[103],[103,115],[97],[97,115],[98]]
def noteT (n:Int):List UInt8:=qdc.getD (n.toNat%12) []++Lib.itoa (n/12-1)
theorem qlY (k:Nat) (hk:k<12):(qae qdc)[k]?=some [.str (qdc.getD k [])]:=by
 have:k<qdc.length:=hk
 simp[qae,List.getD,this]
theorem qlZ (n:Int) (h0:0≤n) (h1:n≤127):HFn Tryz.prog 211 [.int .i64 n] [] (.str (noteT n)) []:=by
 refine qaa hm Tryz.func211 (by kernel_rfl) rfl (by kernel_rfl) rfl qab ?_
 obtain⟨k,rfl⟩:∃k:Nat,n=k:=⟨n.toNat,by omega⟩
 have e1:(k:Int).tmod 12=(k:Int)%12:=Int.tmod_eq_emod_of_nonneg (by omega)
 have e1':((k:Int)%12).toNat=k%12:=by omega
 have e2:(k:Int).tdiv 12=(k:Int)/12:=Int.tdiv_eq_ediv_of_nonneg (by omega)
 have e2':IntKind.i64.wrap ((k:Int)/12)=(k:Int)/12:=w64 (by omega) (by omega)
 have e3:IntKind.i64.wrap ((k:Int)/12-1)=(k:Int)/12-1:=w64 (by omega) (by omega)
 obtain⟨s,hs⟩:∃s,qdc.getD (k%12) []=s:=⟨_,rfl⟩
 have hsl:s.length≤2:=by
  subst hs
  have:∀j,j<12→(qdc.getD j []).length≤2:=by decide
  exact this _ (Nat.mod_lt _ (by omega))
 have er:=qlY (k%12) (Nat.mod_lt _ (by omega))
 rw[hs]at er
 simp only[qae,qdc,List.map_cons,List.map_nil]at er
 have hT:noteT k=s++Lib.itoa ((k:Int)/12-1):=by unfold noteT; rw[Int.toNat_natCast,hs]
 have hI:I64 ((k:Int)/12-1):=⟨by omega,by omega⟩
 have hL:=qgB hI
 have hk12:k%12<12:=Nat.mod_lt _ (by omega)
 simp[e1,e1',e2,e2',e3,er]
 refine⟨by omega,by omega,?_⟩
 refine CallZ.use0 (qlW _ hI) rfl rfl ?_
 simp[hT]
 omega
theorem ql0 (n:Int) (h0:0≤n) (h1:n≤127):HFn Tryz.prog 166 [.int .i64 n] [] (.str (noteT n)) []:=by
 refine qaa hm Tryz.func166 (by kernel_rfl) rfl (by kernel_rfl) rfl qab ?_
 obtain⟨k,rfl⟩:∃k:Nat,n=k:=⟨n.toNat,by omega⟩
 have e1:(k:Int).tmod 12=(k:Int)%12:=Int.tmod_eq_emod_of_nonneg (by omega)
 have e1':((k:Int)%12).toNat=k%12:=by omega
 have e2:(k:Int).tdiv 12=(k:Int)/12:=Int.tdiv_eq_ediv_of_nonneg (by omega)
 have e2':IntKind.i64.wrap ((k:Int)/12)=(k:Int)/12:=w64 (by omega) (by omega)
 have e3:IntKind.i64.wrap ((k:Int)/12-1)=(k:Int)/12-1:=w64 (by omega) (by omega)
 obtain⟨s,hs⟩:∃s,qdc.getD (k%12) []=s:=⟨_,rfl⟩
 have hsl:s.length≤2:=by
  subst hs
  have:∀j,j<12→(qdc.getD j []).length≤2:=by decide
  exact this _ (Nat.mod_lt _ (by omega))
 have er:=qlY (k%12) (Nat.mod_lt _ (by omega))
 rw[hs]at er
 simp only[qae,qdc,List.map_cons,List.map_nil]at er
 have hT:noteT k=s++Lib.itoa ((k:Int)/12-1):=by unfold noteT; rw[Int.toNat_natCast,hs]
 have hI:I64 ((k:Int)/12-1):=⟨by omega,by omega⟩
 have hL:=qgB hI
 have hk12:k%12<12:=Nat.mod_lt _ (by omega)
 simp
 refine CallZ.use0 (qf3 _) rfl rfl ?_
 simp[e1,e1',e2,e2',e3,er]
 refine⟨fun h=>by omega,fun _=>⟨by omega,by omega,?_⟩⟩
 refine CallZ.use0 (qlX _ hI) rfl rfl ?_
 simp[hT]
 omega
end Go.Proofs.YteckngloamnfdaaGreatDoor
namespace Go.Proofs.YteckngloamnfdaaGreatDoor
open Go Go.Ab
set_option maxRecDepth 100000
structure OrderIn (x:Order):Prop where
 id:x.id.length≤10
 mass:valB x.mass=true
 note0:0≤x.note
 note1:x.note≤127
 days:valB x.days=true
 due:valB x.due=true
end Go.Proofs.YteckngloamnfdaaGreatDoor
namespace Go.Proofs.YteckngloamnfdaaGreatDoor
open Go Go.Ab
set_option maxRecDepth 100000
end Go.Proofs.YteckngloamnfdaaGreatDoor
