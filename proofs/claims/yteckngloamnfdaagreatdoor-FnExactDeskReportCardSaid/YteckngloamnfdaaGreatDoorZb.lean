/- Nearest quotients, roots, sines: plain law and contracts. No condition. Hung bells and their swings: plain law and contracts. No condition. -/
import Derived.Test.YteckngloamnfdaaGreatDoorTPair
import Derived.Test.YteckngloamnfdaaGreatDoorCe
import Derived.Test.YteckngloamnfdaaGreatDoorCk
import Derived.Test.YteckngloamnfdaaGreatDoorTFlat
namespace Go.Proofs.YteckngloamnfdaaGreatDoor
open Go Go.Ab
set_option maxRecDepth 100000
def nearV (a b:Int):Int:=if a<0 then -((b-2*a).tdiv (2*b)) else (2*a+b).tdiv (2*b)
theorem qpw {q r b:Int} (h0:0≤r) (h1:r<b):(2*(b*q+r)+b)/(2*b)=if b-r≤r then q+1 else q:=by
 have e:2*(b*q+r)+b=(2*r+b)+2*b*q:=by
  have:2*b*q=2*(b*q):=Int.mul_assoc ..
  rw[this]
  omega
 rw[e,Int.add_mul_ediv_left _ _ (by omega)]
 have k:(2*r+b)/(2*b)=if b-r≤r then 1 else 0:=by
  split
  ·refine Int.le_antisymm ?_ ?_
   ·exact Int.lt_add_one_iff.1 (Int.ediv_lt_of_lt_mul (by omega) (by omega))
   ·exact (Int.le_ediv_iff_mul_le (by omega)).2 (by omega)
  ·exact Int.ediv_eq_zero_of_lt (by omega) (by omega)
 rw[k]
 split<;>omega
theorem qjZ {a b:Int} (ha:0≤a) (hb:0<b):nearV a b=if b-a.tmod b≤a.tmod b then a.tdiv b+1 else a.tdiv b:=by
 unfold nearV
 rw[if_neg (by omega),Int.tdiv_eq_ediv_of_nonneg (by omega),Int.tmod_eq_emod_of_nonneg ha,Int.tdiv_eq_ediv_of_nonneg ha]
 have h:=qpw (q:=a/b) (r:=a%b) (b:=b) (Int.emod_nonneg _ (by omega)) (Int.emod_lt_of_pos _ hb)
 rw[Int.mul_ediv_add_emod]at h
 exact h
theorem qpx {a b:Int} (ha:a<0) (hb:0<b):nearV a b=if b-(-(a.tmod b)) ≤ -(a.tmod b) then a.tdiv b-1 else a.tdiv b:=by
 have h:=qjZ (a := -a) (b:=b) (by omega) hb
 have e1:(-a).tmod b = -(a.tmod b):=Int.neg_tmod ..
 have e2:(-a).tdiv b = -(a.tdiv b):=Int.neg_tdiv ..
 rw[e1,e2]at h
 have e3:nearV a b = -(nearV (-a) b):=by
  unfold nearV
  rw[if_pos ha,if_neg (by omega),show 2 * -a+b=b-2*a by omega]
 rw[e3,h]
 split<;>omega
theorem qdH {a b M:Int} (hb:0<b) (hM:0≤M) (h1 : -(b*M)≤a) (h2:a≤b*M) : -M≤nearV a b∧nearV a b≤M:=by
 have key:∀c:Int,0≤c→c≤b*M→0≤(2*c+b)/(2*b)∧(2*c+b)/(2*b)≤M:=fun c h3 h4=>by
  refine⟨Int.ediv_nonneg (by omega) (by omega),Int.lt_add_one_iff.1 (Int.ediv_lt_of_lt_mul (by omega) ?_)⟩
  have e:(M+1)*(2*b)=2*(b*M)+2*b:=by
   rw[Int.add_mul,Int.one_mul,Int.mul_comm M (2*b),Int.mul_assoc]
  rw[e]
  omega
 unfold nearV
 split
 ·have:=key (-a) (by omega) (by omega)
  rw[Int.tdiv_eq_ediv_of_nonneg (by omega)]
  rw[show 2 * -a+b=b-2*a by omega]at this
  omega
 ·have:=key a (by omega) (by omega)
  rw[Int.tdiv_eq_ediv_of_nonneg (by omega)]
  omega
theorem qdI {a b:Int} (hb:0<b) (ha:0≤a):0≤nearV a b:=by
 unfold nearV
 rw[if_neg (by omega),Int.tdiv_eq_ediv_of_nonneg (by omega)]
 exact Int.ediv_nonneg (by omega) (by omega)
def rootN:Nat→Nat
 | 0=>0
 | n+1=>if (rootN n+1)*(rootN n+1)≤n+1 then rootN n+1 else rootN n
theorem qhk:∀n:Nat,rootN n*rootN n≤n∧n<(rootN n+1)*(rootN n+1)
 | 0=>by simp[rootN]
 | n+1=>by
  have ih:=qhk n
  unfold rootN
  split
  ·rename_i h
   refine⟨h,?_⟩
   have e:(rootN n+1+1)*(rootN n+1+1)=(rootN n+1)*(rootN n+1)+(2*(rootN n+1)+1):=by
    simp only[Nat.add_mul,Nat.mul_add]
    omega
   rw[e]
   omega
  ·omega
def rootV (n:Int):Int:=rootN n.toNat
theorem qj0 {n r:Int} (hn:0≤n) (h0:0≤r) (h1:r*r≤n) (h2:n<(r+1)*(r+1)):rootV n=r:=by
 obtain⟨N,rfl⟩:∃N:Nat,n=N:=⟨n.toNat,by omega⟩
 obtain⟨R,rfl⟩:∃R:Nat,r=R:=⟨r.toNat,by omega⟩
 have s:=qhk N
 have h1':R*R≤N:=by exact_mod_cast h1
 have h2':N<(R+1)*(R+1):=by exact_mod_cast h2
 unfold rootV
 rw[Int.toNat_natCast]
 have a1:¬rootN N<R:=fun h=>by
  have:=Nat.mul_le_mul (show rootN N+1≤R by omega) (show rootN N+1≤R by omega)
  omega
 have a2:¬R<rootN N:=fun h=>by
  have:=Nat.mul_le_mul (show R+1≤rootN N by omega) (show R+1≤rootN N by omega)
  omega
 have:rootN N=R:=by omega
 rw[this]
theorem qj1 {n M:Int} (hM:0≤M) (h:n<(M+1)*(M+1)) (hn:0≤n):0≤rootV n∧rootV n≤M:=by
 obtain⟨N,rfl⟩:∃N:Nat,n=N:=⟨n.toNat,by omega⟩
 obtain⟨R,rfl⟩:∃R:Nat,M=R:=⟨M.toNat,by omega⟩
 have s:=qhk N
 have h':N<(R+1)*(R+1):=by exact_mod_cast h
 unfold rootV
 rw[Int.toNat_natCast]
 have:¬R<rootN N:=fun h=>by
  have:=Nat.mul_le_mul (show R+1≤rootN N by omega) (show R+1≤rootN N by omega)
  omega
 omega
theorem qpy {n r d:Int} (hr:0≤r) (hd:0<d) (hn:0≤n):r+d≤n.tdiv (r+d)↔(r+d)*(r+d)≤n:=by
 rw[Int.tdiv_eq_ediv_of_nonneg hn,Int.le_ediv_iff_mul_le (by omega)]
def qbl (d:Nat):Int:=sineL.getD d 0
def turnV (x:Int):Int:=(x.tmod 360+360).tmod 360
def sinV (x:Int):Int:=if turnV x≤90 then qbl (turnV x).toNat else if turnV x≤180 then qbl (180-turnV x).toNat else if turnV x≤270 then -qbl (turnV x-180).toNat else -qbl (360-turnV x).toNat
def cosV (x:Int):Int:=sinV (turnV x+90)
theorem qf4 (x:Int):0≤turnV x∧turnV x<360:=by
 have h1:=Int.tmod_lt_of_pos x (b:=360) (by decide)
 have h2 : -360<x.tmod 360:=by
  have:=Int.tmod_lt_of_pos (-x) (b:=360) (by decide)
  rw[Int.neg_tmod]at this
  omega
 unfold turnV
 rw[Int.tmod_eq_emod_of_nonneg (by omega)]
 omega
theorem qeH (d:Nat):0≤qbl d∧qbl d≤1000:=by
 by_cases h:d<91
 ·have:∀d:Fin 91,0≤qbl d.val∧qbl d.val≤1000:=by decide
  exact this ⟨d,h⟩
 ·unfold qbl
  rw[List.getD_eq_getElem?_getD,List.getElem?_eq_none (by simp[sineL]; omega)]
  simp
theorem qdJ (x:Int) : -1000≤sinV x∧sinV x≤1000:=by
 unfold sinV
 split
 ·have:=qeH (turnV x).toNat; omega
 ·split
  ·have:=qeH (180-turnV x).toNat; omega
  ·split
   ·have:=qeH (turnV x-180).toNat; omega
   ·have:=qeH (360-turnV x).toNat; omega
theorem qeI {a b A B:Int} (hA:0≤A) (hB:0≤B) (h1 : -A≤a) (h2:a≤A) (h3 : -B≤b) (h4:b≤B) : -(A*B)≤a*b∧a*b≤A*B:=by
 have key:a.natAbs*b.natAbs≤A.natAbs*B.natAbs:=Nat.mul_le_mul (by omega) (by omega)
 rw[←Int.natAbs_mul,←Int.natAbs_mul]at key
 have hp:=Int.mul_nonneg hA hB
 generalize a*b=x at *
 generalize A*B=y at *
 omega
def Mid (n:Int):Prop := -100000000000000000≤n∧n≤100000000000000000
def Wide (n:Int):Prop := -1000000000000000000≤n∧n≤1000000000000000000
theorem Mid.wide {n:Int} (h:Mid n):Wide n:=⟨by have:=h.1; omega,by have:=h.2; omega⟩
theorem c_abs (n:Int) (h:Wide n):HFn Tryz.prog 316 [.int .i64 n] [] (.int .i64 n.natAbs) []:=by
 obtain⟨h1,h2⟩:=h
 refine qaa hm Tryz.func316 (by kernel_rfl) rfl (by kernel_rfl) rfl qab ?_
 simp
 refine⟨fun g =>?_,fun g =>?_⟩
 ·rw[w64 (by omega) (by omega)]
  omega
 ·omega
theorem qf5 (a:Int) {b:Int} (_hb:0<b) : -(a.natAbs:Int)≤a.tdiv b∧a.tdiv b≤a.natAbs:=by
 have:=Int.natAbs_tdiv_le_natAbs a b
 omega
theorem qf6 (a:Int) {b:Int} (hb:0<b) : -b<a.tmod b∧a.tmod b<b:=by
 have h1:=Int.tmod_lt_of_pos a hb
 have h2:=Int.tmod_lt_of_pos (-a) hb
 rw[Int.neg_tmod]at h2
 omega
theorem qj2 (a b:Int) (ha:Wide a) (hb:0<b) (hb2:b≤1000000000000000000):HFn Tryz.prog 245 [.int .i64 a, .int .i64 b] [] (.int .i64 (nearV a b)) []:=by
 obtain⟨h1,h2⟩:=ha
 have d1:=qf5 a hb
 have d2:=qf6 a hb
 have w1:IntKind.i64.wrap (a.tdiv b)=a.tdiv b:=w64 (by omega) (by omega)
 have kb:=c_abs b ⟨by omega,hb2⟩
 rw[show (b.natAbs:Int)=b by omega]at kb
 have kr:=c_abs (a.tmod b) ⟨by omega,by omega⟩
 have w3:IntKind.i64.wrap (a.tdiv b-1)=a.tdiv b-1:=w64 (by omega) (by omega)
 have w4:IntKind.i64.wrap (a.tdiv b+1)=a.tdiv b+1:=w64 (by omega) (by omega)
 refine qaa hm Tryz.func245 (by kernel_rfl) rfl (by kernel_rfl) rfl qab ?_
 by_cases hs:a<0
 ·have hv:=qpx hs hb
  have hm0:a.tmod b≤0:=by
   have:=Int.tmod_nonneg (a := -a) b (by omega)
   rw[Int.neg_tmod]at this
   omega
  obtain⟨r,hr⟩:∃r,r = -(a.tmod b):=⟨_,rfl⟩
  rw[show ((a.tmod b).natAbs:Int)=r by omega]at kr
  rw[←hr]at hv
  have w2:IntKind.i64.wrap (b-r)=b-r:=w64 (by omega) (by omega)
  simp[show ¬b=0 by omega,w1]
  refine CallZ.use0 kr rfl rfl ?_
  simp
  refine CallZ.use0 kb rfl rfl ?_
  simp[w2,w3,hs,show ¬b<0 by omega]
  rw[hv]
  refine⟨fun g =>?_,fun g =>?_⟩
  ·rw[if_pos (by omega)]
  ·rw[if_neg (by omega)]
 ·have hv:=qjZ (show 0≤a by omega) hb
  have hm0:0≤a.tmod b:=Int.tmod_nonneg b (by omega)
  obtain⟨r,hr⟩:∃r,r=a.tmod b:=⟨_,rfl⟩
  rw[show ((a.tmod b).natAbs:Int)=r by omega]at kr
  rw[←hr]at hv
  have w2:IntKind.i64.wrap (b-r)=b-r:=w64 (by omega) (by omega)
  simp[show ¬b=0 by omega,w1]
  refine CallZ.use0 kr rfl rfl ?_
  simp
  refine CallZ.use0 kb rfl rfl ?_
  simp[w2,w4,hs,show ¬b<0 by omega]
  rw[hv]
  refine⟨fun g =>?_,fun g =>?_⟩
  ·rw[if_pos (by omega)]
  ·rw[if_neg (by omega)]
theorem qbU (a b:Int) (ha:Mid a) (hb:0<b) (hb2:b≤100000000000000000):HFn Tryz.prog 245 [.int .i64 a, .int .i64 b] [] (.int .i64 (nearV a b)) []:=qj2 a b ha.wide hb (by omega)
theorem qj3 (a b:Int) (ha:Wide a) (hb:0<b) (hb2:b≤1000000000000000000):HFn Tryz.prog 271 [.int .i64 a, .int .i64 b] [] (.int .i64 (nearV a b)) []:=by
 obtain⟨h1,h2⟩:=ha
 refine qaa hm Tryz.func271 (by kernel_rfl) rfl (by kernel_rfl) rfl qab ?_
 have w1:IntKind.i64.wrap (2*a)=2*a:=w64 (by omega) (by omega)
 have w2:IntKind.i64.wrap (b-2*a)=b-2*a:=w64 (by omega) (by omega)
 have w3:IntKind.i64.wrap (2*b)=2*b:=w64 (by omega) (by omega)
 have w4:IntKind.i64.wrap (2*a+b)=2*a+b:=w64 (by omega) (by omega)
 have e1:=qf5 (b-2*a) (b:=2*b) (by omega)
 have e2:=qf5 (2*a+b) (b:=2*b) (by omega)
 have w5:IntKind.i64.wrap ((b-2*a).tdiv (2*b))=(b-2*a).tdiv (2*b):=w64 (by omega) (by omega)
 have w6:IntKind.i64.wrap (-((b-2*a).tdiv (2*b))) = -((b-2*a).tdiv (2*b)):=w64 (by omega) (by omega)
 have w7:IntKind.i64.wrap ((2*a+b).tdiv (2*b))=(2*a+b).tdiv (2*b):=w64 (by omega) (by omega)
 have hb0:¬b<0:=by omega
 have hbz:¬b=0:=by omega
 by_cases hs:a<0
 ·simp[hb0,hbz,hs,w1,w2,w3,w5,w6,nearV]
 ·simp[hb0,hbz,hs,w1,w3,w4,w7,nearV]
theorem qbV (a b:Int) (ha:Mid a) (hb:0<b) (hb2:b≤100000000000000000):HFn Tryz.prog 271 [.int .i64 a, .int .i64 b] [] (.int .i64 (nearV a b)) []:=qj3 a b ha.wide hb (by omega)
def bitN (i:Nat):Nat:=2147483648/2^i
theorem qpz (i:Nat):bitN i/2=bitN (i+1):=by
 unfold bitN
 rw[Nat.div_div_eq_div_mul,Nat.pow_succ]
theorem qpA {i:Nat} (h:i<32):bitN i=2^(31-i):=by
 have:∀i:Fin 32,bitN i.val=2^(31-i.val):=by decide
 exact this ⟨i,h⟩
theorem qhl (n:Int) (hn:Mid n) (h0:0≤n):HFn Tryz.prog 308 [.int .i64 n] [] (.int .i64 (rootV n)) []:=by
 obtain⟨_,h2⟩:=hn
 refine qaa hm Tryz.func308 (by kernel_rfl) rfl (by kernel_rfl) rfl qab ?_
 simp
 refine⟨fun g =>?_,fun g =>?_⟩
 ·have:n=0:=by omega
  subst this
  rfl
 ·refine qnz hm 32 (fun i (r:Int)=>⟨[(0, .int .i64 n),(3, .int .i64 r),(4, .int .i64 (bitN i))],[]⟩) (fun i r=>0≤r∧r≤4294967296-(2:Int)^(32-i)∧r*r≤n∧n<(r+(2:Int)^(32-i))*(r+(2:Int)^(32-i))) (by kernel_rfl) ⟨0,?_,?_⟩ (fun i r hi hI =>?_) (fun r hI =>?_)
  ·refine⟨by omega,by decide,by omega,?_⟩
   have:((0:Int)+2^(32-0))*(0+2^(32-0))=18446744073709551616:=by decide
   rw[this]
   omega
  ·exact Wk.weak (ρ:=[]) (φ:=[]) (by simp[bitN])
  ·obtain⟨r0,r1,r2,r3⟩:=hI
   have hb:=qpA hi
   have hs:=qpz i
   have hd:((2:Int)^(32-i))=2*(bitN i:Int):=by
    rw[hb,show 32-i=(31-i)+1 by omega,Int.pow_succ]
    push_cast
    omega
   have hd2:((2:Int)^(31-i))=(bitN i:Int):=by
    rw[hb]
    push_cast
    rfl
   have hpos:0<bitN i:=by rw[hb]; exact Nat.pow_pos (by decide)
   rw[hd]at r1 r3
   have hsh:(bitN i:Int).fdiv (2^min 1 IntKind.i64.bits)=(bitN (i+1):Int):=by
    rw[show (2:Int)^min 1 IntKind.i64.bits=2 from rfl,Int.fdiv_eq_ediv_of_nonneg _ (by omega)]
    omega
   have w1:IntKind.i64.wrap (r+(bitN i:Int))=r+(bitN i:Int):=w64 (by omega) (by omega)
   have w2:IntKind.i64.wrap (bitN (i+1):Int)=(bitN (i+1):Int):=w64 (by omega) (by omega)
   have hbit:=qpy (n:=n) (r:=r) (d:=(bitN i:Int)) r0 (by omega) h0
   have d1:=qf5 n (b:=r+(bitN i:Int)) (by omega)
   have w3:IntKind.i64.wrap (n.tdiv (r+(bitN i:Int)))=n.tdiv (r+(bitN i:Int)):=w64 (by omega) (by omega)
   simp[w1,w3,hsh,hpos,show ¬r+(bitN i:Int)=0 by omega]
   rw[hd2]
   refine⟨fun g=>⟨r+(bitN i:Int),?_,Wk.weak (ρ:=[]) (φ:=[]) ?_⟩,fun g=>⟨r,?_,Wk.weak (ρ:=[]) (φ:=[]) ?_⟩⟩
   ·refine⟨by omega,by omega,hbit.1 g,?_⟩
    rw[show r+(bitN i:Int)+(bitN i:Int)=r+2*(bitN i:Int) by omega]
    exact r3
   ·simp
   ·refine⟨r0,by omega,r2,?_⟩
    exact Int.lt_of_not_ge fun h=>by
     have:=hbit.2 h
     omega
   ·simp
  ·obtain⟨r0,r1,r2,r3⟩:=hI
   have hz:bitN 32=0:=by decide
   simp[hz]
   exact (qj0 h0 r0 r2 (by simpa using r3)).symm
theorem qhm (n:Int) (hn:Mid n) (h0:0≤n):HFn Tryz.prog 330 [.int .i64 n] [] (.int .i64 (rootV n)) []:=by
 obtain⟨_,h2⟩:=hn
 refine qaa hm Tryz.func330 (by kernel_rfl) rfl (by kernel_rfl) rfl qab ?_
 simp
 refine qeB hm (ι:={x:Nat×Nat // x.1≤x.2∧x.2≤3037000499∧((x.1:Int)*x.1≤n)∧n<((x.2:Int)+1)*((x.2:Int)+1)}) (fun x=>⟨[(0, .int .i64 n),(3, .int .i64 x.1.1),(4, .int .i64 x.1.2)],[]⟩) (fun x=>x.1.2-x.1.1) (by kernel_rfl) ⟨(0,3037000499),?_⟩ ?_ ?_
 ·refine⟨by omega,by omega,by simpa using h0,?_⟩
  have:(((3037000499:Nat):Int)+1)*(((3037000499:Nat):Int)+1)=9223372037000250000:=by decide
  simp only
  rw[this]
  omega
 ·exact Wk.weak (ρ:=[]) (φ:=[]) (by simp)
 ·rintro ⟨⟨lo,hi⟩,i1,i2,i3,i4⟩
  simp only at i1 i2 i3 i4 ⊢
  have w1:IntKind.i64.wrap ((lo:Int)+hi)=(lo:Int)+hi:=w64 (by omega) (by omega)
  have w2:IntKind.i64.wrap ((lo:Int)+hi+1)=(lo:Int)+hi+1:=w64 (by omega) (by omega)
  obtain⟨md,hmd⟩:∃md:Nat,md=(lo+hi+1)/2:=⟨_,rfl⟩
  have e1:((lo:Int)+hi+1).tdiv 2=(md:Int):=by
   rw[Int.tdiv_eq_ediv_of_nonneg (by omega)]
   omega
  have w3:IntKind.i64.wrap (md:Int)=(md:Int):=w64 (by omega) (by omega)
  have hmm:(md:Int)*md≤3037000499*3037000499:=Int.mul_le_mul (by omega) (by omega) (by omega) (by omega)
  have hm0:0≤(md:Int)*md:=Int.mul_nonneg (by omega) (by omega)
  have w4:IntKind.i64.wrap ((md:Int)*md)=(md:Int)*md:=w64 (by omega) (by omega)
  by_cases hlt:lo<hi
  ·have w5:IntKind.i64.wrap ((md:Int)-1)=((md-1:Nat):Int):=by rw[w64 (by omega) (by omega)]; omega
   simp[hlt,w1,w2,e1,w3,w4]
   refine⟨fun g=>⟨md,hi,Wk.weak (ρ:=[]) (φ:=[]) ?_,⟨by omega,by omega,g,i4⟩,by omega⟩,fun g=>⟨lo,md-1,Wk.weak (ρ:=[]) (φ:=[]) ?_,⟨by omega,by omega,i3,?_⟩,by omega⟩⟩
   ·simp
   ·simp[w5]
   ·rw[show ((md-1:Nat):Int)+1=(md:Int) by omega]
    exact g
  ·have:lo=hi:=by omega
   subst this
   simp
   exact (qj0 h0 (by omega) i3 i4).symm
theorem qj4 (x:Int) (hx:Mid x):HFn Tryz.prog 384 [.int .i64 x] [] (.int .i64 (turnV x)) []:=by
 obtain⟨h1,h2⟩:=hx
 have hd:=qf6 x (b:=360) (by decide)
 refine qaa hm Tryz.func384 (by kernel_rfl) rfl (by kernel_rfl) rfl qab ?_
 have w1:IntKind.i64.wrap (x.tmod 360+360)=x.tmod 360+360:=w64 (by omega) (by omega)
 simp[w1,turnV]
theorem qf7 {d:Nat} (h:d<91):sineT[d]?=some (.int .i64 (qbl d)):=by
 have hl:d<sineL.length:=h
 unfold sineT qbl
 rw[List.getElem?_map,List.getElem?_eq_getElem hl,List.getD_eq_getElem?_getD,List.getElem?_eq_getElem hl]
 rfl
theorem qhn (x:Int) (hx:Mid x):HFn Tryz.prog 353 [.int .i64 x] [] (.int .i64 (sinV x)) []:=by
 have ht:=qf4 x
 have kt:=qj4 x hx
 refine qaa hm Tryz.func353 (by kernel_rfl) rfl (by kernel_rfl) rfl qab ?_
 simp
 refine CallZ.use0 kt rfl rfl ?_
 unfold sinV
 generalize turnV x=y at *
 obtain⟨d,rfl⟩:∃d:Nat,y=d:=⟨y.toNat,by omega⟩
 have hneg:∀k:Nat,IntKind.i64.wrap (-(qbl k)) = -(qbl k):=fun k=>by
  have:=qeH k
  exact w64 (by omega) (by omega)
 by_cases h1:d≤90
 ·have hg:=qf7 (d:=d) (by omega)
  simp[show (d:Int)≤90 by omega,show (d:Int)<91 by omega,hg]
  omega
 by_cases h2:d≤180
 ·have hg:=qf7 (d:=180-d) (by omega)
  have w1:IntKind.i64.wrap (180-(d:Int))=((180-d:Nat):Int):=by rw[w64 (by omega) (by omega)]; omega
  simp[show ¬(d:Int)≤90 by omega,show (d:Int)≤180 by omega,w1,show ((180-d:Nat):Int)<91 by omega,show 180-d≤90 by omega,hg]
 by_cases h3:d≤270
 ·have hg:=qf7 (d:=d-180) (by omega)
  have w1:IntKind.i64.wrap ((d:Int)-180)=((d-180:Nat):Int):=by rw[w64 (by omega) (by omega)]; omega
  have e1:((d:Int)-180).toNat=d-180:=by omega
  simp[show ¬(d:Int)≤90 by omega,show ¬(d:Int)≤180 by omega,show (d:Int)≤270 by omega,w1,show ((d-180:Nat):Int)<91 by omega,show d-180≤90 by omega,hg,hneg,e1]
 ·have hg:=qf7 (d:=360-d) (by omega)
  have w1:IntKind.i64.wrap (360-(d:Int))=((360-d:Nat):Int):=by rw[w64 (by omega) (by omega)]; omega
  simp[show ¬(d:Int)≤90 by omega,show ¬(d:Int)≤180 by omega,show ¬(d:Int)≤270 by omega,w1,show ((360-d:Nat):Int)<91 by omega,show 360-d≤90 by omega,hg,hneg]
theorem qj5 (x:Int) (hx:Mid x):HFn Tryz.prog 383 [.int .i64 x] [] (.int .i64 (cosV x)) []:=by
 have ht:=qf4 x
 refine qaa hm Tryz.func383 (by kernel_rfl) rfl (by kernel_rfl) rfl qab ?_
 simp
 refine CallZ.use0 (qj4 x hx) rfl rfl ?_
 have w1:IntKind.i64.wrap (turnV x+90)=turnV x+90:=w64 (by omega) (by omega)
 simp[w1]
 refine CallZ.use0 (qhn (turnV x+90) ⟨by omega,by omega⟩) rfl rfl ?_
 simp[cosV]
theorem qpB:HFn Tryz.prog 372 [] [] (.sf 0 1) [some (.arr 1 (qad sineL))]:=by
 refine qaa hm Tryz.func372 (by kernel_rfl) rfl (by kernel_rfl) rfl (qcY (ρ:=[0]) (φ:=[])) ?_
 simp[qad,sineL]
theorem qf8 (d:Nat) (h:d<(qad sineL).length):(qad sineL)[d]=[.int .i64 (qbl d)]:=by
 have hl:d<sineL.length:=h
 simp only[qad,qbl,List.getElem_map,List.getD_eq_getElem?_getD,List.getElem?_eq_getElem hl,Option.getD_some]
theorem qho (x:Int) (hx:Mid x):HFn Tryz.prog 333 [.int .i64 x] [] (.int .i64 (sinV x)) []:=by
 obtain⟨g1,g2⟩:=hx
 have hd:=qf6 x (b:=360) (by decide)
 have ht:=qf4 x
 have w0:IntKind.i64.wrap (x.tmod 360+360)=x.tmod 360+360:=w64 (by omega) (by omega)
 have e0:(x.tmod 360+360).tmod 360=turnV x:=rfl
 have hlen:(qad sineL).length=91:=rfl
 refine qaa hm Tryz.func333 (by kernel_rfl) rfl (by kernel_rfl) rfl qab ?_
 simp[w0,e0]
 refine CallZ.use qpB rfl (.inl rfl) rfl rfl ?_
 unfold sinV
 generalize turnV x=y at *
 obtain⟨d,rfl⟩:∃d:Nat,y=d:=⟨y.toNat,by omega⟩
 have hneg:∀k:Nat,IntKind.i64.wrap (-(qbl k)) = -(qbl k):=fun k=>by
  have:=qeH k
  exact w64 (by omega) (by omega)
 by_cases h1:d≤90
 ·simp[show (d:Int)≤90 by omega,show (d:Int)<91 by omega,show d<91 by omega,hlen,qf8]
 by_cases h2:d≤180
 ·have w1:IntKind.i64.wrap (180-(d:Int))=((180-d:Nat):Int):=by rw[w64 (by omega) (by omega)]; omega
  simp[show ¬(d:Int)≤90 by omega,show (d:Int)≤180 by omega,w1,show ((180-d:Nat):Int)<91 by omega,show 180-d<91 by omega,hlen,qf8]
 by_cases h3:d≤270
 ·have w1:IntKind.i64.wrap ((d:Int)-180)=((d-180:Nat):Int):=by rw[w64 (by omega) (by omega)]; omega
  have e1:((d:Int)-180).toNat=d-180:=by omega
  simp[show ¬(d:Int)≤90 by omega,show ¬(d:Int)≤180 by omega,show (d:Int)≤270 by omega,w1,show ((d-180:Nat):Int)<91 by omega,show d-180<91 by omega,hneg,e1,hlen,qf8]
 ·have w1:IntKind.i64.wrap (360-(d:Int))=((360-d:Nat):Int):=by rw[w64 (by omega) (by omega)]; omega
  simp[show ¬(d:Int)≤90 by omega,show ¬(d:Int)≤180 by omega,show ¬(d:Int)≤270 by omega,w1,show ((360-d:Nat):Int)<91 by omega,show 360-d<91 by omega,hneg,hlen,qf8]
theorem qj6 (x:Int) (hx:Mid x):HFn Tryz.prog 371 [.int .i64 x] [] (.int .i64 (cosV x)) []:=by
 obtain⟨g1,g2⟩:=hx
 have hd:=qf6 x (b:=360) (by decide)
 have ht:=qf4 x
 have w0:IntKind.i64.wrap (x.tmod 360+360)=x.tmod 360+360:=w64 (by omega) (by omega)
 have e0:(x.tmod 360+360).tmod 360=turnV x:=rfl
 have w1:IntKind.i64.wrap (turnV x+90)=turnV x+90:=w64 (by omega) (by omega)
 refine qaa hm Tryz.func371 (by kernel_rfl) rfl (by kernel_rfl) rfl qab ?_
 simp[w0,e0,w1]
 refine CallZ.use0 (qho (turnV x+90) ⟨by omega,by omega⟩) rfl rfl ?_
 simp[cosV]
end Go.Proofs.YteckngloamnfdaaGreatDoor
namespace Go.Proofs.YteckngloamnfdaaGreatDoor
open Go Go.Ab
set_option maxRecDepth 100000
def qbI (h:Hung):Bool:=qaB h.bell&&(decide (1≤h.mass)&&decide (h.mass≤20000000))&&(decide (1≤h.arm)&&decide (h.arm≤30000))&&(decide (1≤h.form)&&decide (h.form≤1000))&&(decide (1≤h.angle)&&decide (h.angle≤180))
structure HungIn (h:Hung):Prop where
 m0:1≤h.mass
 m1:h.mass≤20000000
 a0:1≤h.arm
 a1:h.arm≤30000
 f0:1≤h.form
 f1:h.form≤1000
 g0:1≤h.angle
 g1:h.angle≤180
theorem qf9 {h:Hung} (k:qbI h=true):HungIn h:=by
 simp only[qbI,Bool.and_eq_true,decide_eq_true_eq]at k
 obtain⟨⟨⟨⟨_,k1,k2⟩,k3,k4⟩,k5,k6⟩,k7,k8⟩:=k
 exact⟨k1,k2,k3,k4,k5,k6,k7,k8⟩
def qaJ (m:Int):Int:=nearV (m*981) 100000
def horV (h:Hung) (d:Int):Int:=nearV (qaJ h.mass*h.form*(3*cosV d-2*cosV h.angle)*sinV d) 1000000000
def bestV (h:Hung):Nat→Int×Int
 | 0=>(horV h 0,0)
 | i+1=>if (bestV h i).1<horV h ((i+1:Nat):Int) then (horV h ((i+1:Nat):Int),((i+1:Nat):Int)) else bestV h i
def lenOf (h:Hung):Int:=nearV (1000*h.arm) h.form
def qOf (h:Hung):Int:=(sinV (h.angle.tdiv 2)*sinV (h.angle.tdiv 2)).tdiv 1000
def rOf (h:Hung):Int:=rootV ((40243*lenOf h).tdiv 100)
def perV (h:Hung):Int:=rOf h+nearV (rOf h*(16000*qOf h+9*qOf h*qOf h)) 64000000
def rateV (h:Hung):Int:=nearV 1000000 (max (perV h) 1)
def qa0 (h:Hung):Swing:=⟨h.bell,rateV h,(bestV h h.angle.toNat).1⟩
def qbs (s:Swing):Bool:=qaB s.bell&&(decide (100≤s.rate)&&decide (s.rate≤5000))&&(decide (1≤s.force)&&decide (s.force≤1000000))
theorem qpC {m:Int} (h0:1≤m) (h1:m≤20000000):0≤qaJ m∧qaJ m≤196200:=by
 have h2:=qdI (a:=m*981) (b:=100000) (by decide) (by omega)
 have h3:=qdH (a:=m*981) (b:=100000) (M:=196200) (by decide) (by decide) (by omega) (by omega)
 exact⟨h2,h3.2⟩
theorem wf_le {h:Hung} (k:HungIn h):0≤qaJ h.mass*h.form∧qaJ h.mass*h.form≤196200000:=by
 obtain⟨h1,h2⟩:=qpC k.m0 k.m1
 refine⟨Int.mul_nonneg h1 (by have:=k.f0; omega),?_⟩
 have:=Int.mul_le_mul h2 k.f1 (by have:=k.f0; omega) (by omega)
 omega
theorem qj7 {h:Hung} (k:HungIn h) (d:Int) : -981000000000≤qaJ h.mass*h.form*(3*cosV d-2*cosV h.angle)∧qaJ h.mass*h.form*(3*cosV d-2*cosV h.angle)≤981000000000 ∧
  Mid (qaJ h.mass*h.form*(3*cosV d-2*cosV h.angle)*sinV d):=by
 obtain⟨h1,h2⟩:=wf_le k
 have c1:=qdJ (turnV d+90)
 have c2:=qdJ (turnV h.angle+90)
 have s:=qdJ d
 change -1000≤cosV d∧cosV d≤1000 at c1
 change -1000≤cosV h.angle∧cosV h.angle≤1000 at c2
 have e1:=qeI (a:=qaJ h.mass*h.form) (b:=3*cosV d-2*cosV h.angle) (A:=196200000) (B:=5000) (by decide) (by decide) (by omega) h2 (by omega) (by omega)
 generalize qaJ h.mass*h.form*(3*cosV d-2*cosV h.angle)=x at *
 have e2:=qeI (a:=x) (b:=sinV d) (A:=981000000000) (B:=1000) (by decide) (by decide) (by omega) (by omega) (by omega) (by omega)
 exact⟨by omega,by omega,by omega,by omega⟩
theorem qhp {h:Hung} (k:HungIn h):0≤lenOf h∧lenOf h≤30000000:=by
 have h1:=k.a0
 have h2:=k.a1
 have h3:=k.f0
 refine⟨qdI (by omega) (by omega),?_⟩
 have hm:h.form*30000000≥30000000:=by omega
 exact (qdH (M:=30000000) (by omega) (by decide) (by omega) (by omega)).2
theorem r_le {h:Hung} (k:HungIn h):0≤rOf h∧rOf h≤200000∧0≤(40243*lenOf h).tdiv 100∧(40243*lenOf h).tdiv 100≤12072900000:=by
 obtain⟨h1,h2⟩:=qhp k
 have e:(40243*lenOf h).tdiv 100=(40243*lenOf h)/100:=Int.tdiv_eq_ediv_of_nonneg (by omega)
 have h3:0≤(40243*lenOf h).tdiv 100∧(40243*lenOf h).tdiv 100≤12072900000:=by rw[e]; omega
 have:=qj1 (n:=(40243*lenOf h).tdiv 100) (M:=200000) (by decide) (by omega) h3.1
 exact⟨this.1,this.2,h3.1,h3.2⟩
theorem q_le (h:Hung):0≤sinV (h.angle.tdiv 2)*sinV (h.angle.tdiv 2)∧sinV (h.angle.tdiv 2)*sinV (h.angle.tdiv 2)≤1000000∧0≤qOf h∧qOf h≤1000:=by
 have s:=qdJ (h.angle.tdiv 2)
 have e1:=qeI (a:=sinV (h.angle.tdiv 2)) (b:=sinV (h.angle.tdiv 2)) (A:=1000) (B:=1000) (by decide) (by decide) (by omega) (by omega) (by omega) (by omega)
 have e0:0≤sinV (h.angle.tdiv 2)*sinV (h.angle.tdiv 2):=by
  rcases Int.le_total 0 (sinV (h.angle.tdiv 2)) with g | g
  ·exact Int.mul_nonneg g g
  ·exact Int.mul_nonneg_of_nonpos_of_nonpos g g
 have e2:qOf h=(sinV (h.angle.tdiv 2)*sinV (h.angle.tdiv 2))/1000:=Int.tdiv_eq_ediv_of_nonneg e0
 exact⟨e0,by omega,by rw[e2]; omega,by rw[e2]; omega⟩
theorem qga {h:Hung} (k:HungIn h):0≤9*qOf h*qOf h∧9*qOf h*qOf h≤9000000∧0≤rOf h*(16000*qOf h+9*qOf h*qOf h)∧rOf h*(16000*qOf h+9*qOf h*qOf h)≤5000000000000∧0≤perV h∧perV h≤300000:=by
 obtain⟨r0,r1,_⟩:=r_le k
 obtain⟨_,_,q0,q1⟩:=q_le h
 have e1:=qeI (a:=9*qOf h) (b:=qOf h) (A:=9000) (B:=1000) (by decide) (by decide) (by omega) (by omega) (by omega) (by omega)
 have e0:0≤9*qOf h*qOf h:=Int.mul_nonneg (by omega) q0
 have hp:perV h=rOf h+nearV (rOf h*(16000*qOf h+9*qOf h*qOf h)) 64000000:=rfl
 rw[hp]
 generalize 9*qOf h*qOf h=y at *
 have e2:=qeI (a:=rOf h) (b:=16000*qOf h+y) (A:=200000) (B:=25000000) (by decide) (by decide) (by omega) (by omega) (by omega) (by omega)
 have e3:0≤rOf h*(16000*qOf h+y):=Int.mul_nonneg r0 (by omega)
 have e4:=qdH (a:=rOf h*(16000*qOf h+y)) (b:=64000000) (M:=78125) (by decide) (by decide) (by omega) (by omega)
 have e5:=qdI (a:=rOf h*(16000*qOf h+y)) (b:=64000000) (by decide) e3
 exact⟨e0,by omega,e3,by omega,by omega,by omega⟩
theorem qpD (m:Int) (h0:1≤m) (h1:m≤20000000):HFn Tryz.prog 382 [.int .i64 m] [] (.int .i64 (qaJ m)) []:=by
 refine qaa hm Tryz.func382 (by kernel_rfl) rfl (by kernel_rfl) rfl qab ?_
 have w1:IntKind.i64.wrap (m*981)=m*981:=w64 (by omega) (by omega)
 simp[w1]
 refine CallZ.use0 (qbU _ _ ⟨by omega,by omega⟩ (by decide) (by decide)) rfl rfl ?_
 simp[qaJ]
theorem qpE (m:Int) (h0:1≤m) (h1:m≤20000000):HFn Tryz.prog 370 [.int .i64 m] [] (.int .i64 (qaJ m)) []:=by
 refine qaa hm Tryz.func370 (by kernel_rfl) rfl (by kernel_rfl) rfl qab ?_
 have w1:IntKind.i64.wrap (m*981)=m*981:=w64 (by omega) (by omega)
 simp[w1]
 refine CallZ.use0 (qbV _ _ ⟨by omega,by omega⟩ (by decide) (by decide)) rfl rfl ?_
 simp[qaJ]
theorem qpF (h:Hung) (k:HungIn h) (d:Int) (hd:Mid d):HFn Tryz.prog 351 [.agg h.cells, .int .i64 d] [] (.int .i64 (horV h d)) []:=by
 have kw:=qpD h.mass k.m0 k.m1
 have k1:=qj5 d hd
 have k2:=qhn d hd
 have k3:=qj5 h.angle ⟨by have:=k.g0; omega,by have:=k.g1; omega⟩
 obtain⟨u1,u2⟩:=wf_le k
 obtain⟨v1,v2,v3⟩:=qj7 k d
 have c1:=qdJ (turnV d+90)
 have c2:=qdJ (turnV h.angle+90)
 change -1000≤cosV d∧cosV d≤1000 at c1
 change -1000≤cosV h.angle∧cosV h.angle≤1000 at c2
 have kn:=qbU _ 1000000000 v3 (by decide) (by decide)
 have e:horV h d=nearV (qaJ h.mass*h.form*(3*cosV d-2*cosV h.angle)*sinV d) 1000000000:=rfl
 rw[←e]at kn
 clear e
 have w1:IntKind.i64.wrap (qaJ h.mass*h.form)=qaJ h.mass*h.form:=w64 (by omega) (by omega)
 have w2:IntKind.i64.wrap (3*cosV d)=3*cosV d:=w64 (by omega) (by omega)
 have w3:IntKind.i64.wrap (2*cosV h.angle)=2*cosV h.angle:=w64 (by omega) (by omega)
 have w4:IntKind.i64.wrap (3*cosV d-2*cosV h.angle)=3*cosV d-2*cosV h.angle:=w64 (by omega) (by omega)
 have w5:IntKind.i64.wrap (qaJ h.mass*h.form*(3*cosV d-2*cosV h.angle))=qaJ h.mass*h.form*(3*cosV d-2*cosV h.angle):=w64 (by omega) (by omega)
 have w6:IntKind.i64.wrap (qaJ h.mass*h.form*(3*cosV d-2*cosV h.angle)*sinV d)=qaJ h.mass*h.form*(3*cosV d-2*cosV h.angle)*sinV d:=w64 (by have:=v3.1; omega) (by have:=v3.2; omega)
 refine qaa hm Tryz.func351 (by kernel_rfl) rfl (by kernel_rfl) rfl qab ?_
 simp[Hung.cells]
 refine CallZ.use0 kw rfl rfl ?_
 simp
 refine CallZ.use0 k1 rfl rfl ?_
 simp
 refine CallZ.use0 k2 rfl rfl ?_
 simp
 refine CallZ.use0 k3 rfl rfl ?_
 simp[w1,w2,w3,w4,w5,w6]
 refine CallZ.use0 kn rfl rfl ?_
 simp
theorem qpG (h:Hung) (k:HungIn h) (d:Int) (hd:Mid d) (rows:List (List PV)) (i:Nat) (hr:rows[i]?=some h.cells):HFn Tryz.prog 331 [.pe 5 rows i 0, .int .i64 d] [] (.int .i64 (horV h d)) []:=by
 have hi:i<rows.length:=(List.getElem?_eq_some_iff.1 hr).1
 have hx:rows[i]=h.cells:=by rw[List.getElem?_eq_getElem hi]at hr; exact Option.some.inj hr
 have kw:=qpE h.mass k.m0 k.m1
 have k1:=qj6 d hd
 have k2:=qho d hd
 have k3:=qj6 h.angle ⟨by have:=k.g0; omega,by have:=k.g1; omega⟩
 obtain⟨u1,u2⟩:=wf_le k
 obtain⟨v1,v2,v3⟩:=qj7 k d
 have c1:=qdJ (turnV d+90)
 have c2:=qdJ (turnV h.angle+90)
 change -1000≤cosV d∧cosV d≤1000 at c1
 change -1000≤cosV h.angle∧cosV h.angle≤1000 at c2
 have kn:=qbV _ 1000000000 v3 (by decide) (by decide)
 have e:horV h d=nearV (qaJ h.mass*h.form*(3*cosV d-2*cosV h.angle)*sinV d) 1000000000:=rfl
 rw[←e]at kn
 clear e
 have w1:IntKind.i64.wrap (qaJ h.mass*h.form)=qaJ h.mass*h.form:=w64 (by omega) (by omega)
 have w2:IntKind.i64.wrap (3*cosV d)=3*cosV d:=w64 (by omega) (by omega)
 have w3:IntKind.i64.wrap (2*cosV h.angle)=2*cosV h.angle:=w64 (by omega) (by omega)
 have w4:IntKind.i64.wrap (3*cosV d-2*cosV h.angle)=3*cosV d-2*cosV h.angle:=w64 (by omega) (by omega)
 have w5:IntKind.i64.wrap (qaJ h.mass*h.form*(3*cosV d-2*cosV h.angle))=qaJ h.mass*h.form*(3*cosV d-2*cosV h.angle):=w64 (by omega) (by omega)
 have w6:IntKind.i64.wrap (qaJ h.mass*h.form*(3*cosV d-2*cosV h.angle)*sinV d)=qaJ h.mass*h.form*(3*cosV d-2*cosV h.angle)*sinV d:=w64 (by have:=v3.1; omega) (by have:=v3.2; omega)
 refine qaa hm Tryz.func331 (by kernel_rfl) rfl (by kernel_rfl) rfl qab ?_
 rw[Hung.cells]at hx
 simp[hi,hx]
 refine CallZ.use0 kw rfl rfl ?_
 simp[hi,hx,w1]
 refine CallZ.use0 k1 rfl rfl ?_
 simp[hi,hx,w2]
 refine CallZ.use0 k3 rfl rfl ?_
 simp[w3,w4,w5]
 refine CallZ.use0 k2 rfl rfl ?_
 simp[w6]
 refine CallZ.use0 kn rfl rfl ?_
 simp
end Go.Proofs.YteckngloamnfdaaGreatDoor
