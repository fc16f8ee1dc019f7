import Derived.Test.YtepeckjhdoicpaaGreatDoorG28
import Derived.Test.YtepeckjhdoicpaaGreatDoorG29
set_option linter.all false
set_option maxRecDepth 100000
namespace Go.Proofs.YtepeckjhdoicpaaGreatDoor
open Go Go.Ab
section
variable[dw:Go.Ab.bI][Go.Ab.dj]
def cr(w:List UInt8):Int:=if w=[97,114,114,97,110,103,101] then 1 else if w=[97,117,100,105,116] then 1 else if w=[104,101,108,112] then 1 else if w=[115,116,97,116,101] then 1 else if w=[117,110,100,111] then 1 else if w=[99,97,110,99,101,108] then 2 else if w=[108,101,102,116] then 2 else if w=[114,101,99,97,108,108] then 2 else if w=[117,110,115,101,116] then 2 else if w=[100,114,117,109] then 3 else 0
theorem N5(w:List UInt8):H0 77 [.str w] (.int .i64 (cr w)):=by
 refine iF hm Tryz.func77 ?_;simp;have h0:w=[97,114,114,97,110,103,101]→cr w=1:=λh=>j1
 have h1:w=[97,117,100,105,116]→cr w=1:=λh=>j1
 have h2:w=[104,101,108,112]→cr w=1:=λh=>j1
 have c:w=[115,116,97,116,101]→cr w=1:=λh=>j1
 have k:w=[117,110,100,111]→cr w=1:=λh=>j1
 have D:w=[99,97,110,99,101,108]→cr w=2:=λh=>j1
 have a:w=[108,101,102,116]→cr w=2:=λh=>j1
 have X:w=[114,101,99,97,108,108]→cr w=2:=λh=>j1
 have d:w=[117,110,115,101,116]→cr w=2:=λh=>j1
 have K:w=[100,114,117,109]→cr w=3:=λh=>j1
 have h:¬w=[97,114,114,97,110,103,101]→¬w=[97,117,100,105,116]→¬w=[104,101,108,112]→¬w=[115,116,97,116,101]→¬w=[117,110,100,111]→¬w=[99,97,110,99,101,108]→¬w=[108,101,102,116]→¬w=[114,101,99,97,108,108]→¬w=[117,110,115,101,116]→¬w=[100,114,117,109]→cr w=0:=by intros;simp[cr, *]
 generalize cr w=W at *;generalize(w=[97,114,114,97,110,103,101])=e at *;generalize(w=[97,117,100,105,116])=f at *;generalize(w=[104,101,108,112])=q at *;generalize(w=[115,116,97,116,101])=r at *;generalize(w=[117,110,100,111])=J at *;generalize(w=[99,97,110,99,101,108])=g at *;generalize(w=[108,101,102,116])=i at *;generalize(w=[114,101,99,97,108,108])=o at *;generalize(w=[117,110,115,101,116])=p at *;generalize(w=[100,114,117,109])=j at *;by_cases c0:e
 ·simp[c0,h0 c0]
 by_cases t:f
 ·simp[c0,t,h1 t]
 by_cases c2:q
 ·simp[c0,t,c2,h2 c2]
 by_cases c3:r
 ·simp[c0,t,c2,c3,c c3]
 by_cases c4:J
 ·simp[c0,t,c2,c3,c4,k c4]
 by_cases c5:g
 ·simp[c0,t,c2,c3,c4,c5,D c5]
 by_cases L:i
 ·simp[c0,t,c2,c3,c4,c5,L,a L]
 by_cases b:o
 ·simp[c0,t,c2,c3,c4,c5,L,b,X b]
 by_cases n:p
 ·simp[c0,t,c2,c3,c4,c5,L,b,n,d n]
 by_cases c9:j
 ·simp[c0,t,c2,c3,c4,c5,L,b,n,c9,K c9]
 simp[c0,t,c2,c3,c4,c5,L,b,n,c9,h c0 t c2 c3 c4 c5 L b n c9]
def xW:List UInt8:=[111,107]
theorem QU:iW Tryz.prog 78 [] [] (.sf 0 1) [some (.arr 1 (au [xW]))]:=by
 refine iG hm Tryz.func78 ?_;simp;refine wk [0] [] ?_;simp[au,xW]
theorem Uu(n:Int):H0 414 [.int .i64 n] (.bool (decide (-24≤n)&&decide (n≤24))):=by
 refine iF hm Tryz.func414 ?_;simp;refine u0 (bE n (-24) 24) ?_;simp
@[simp] theorem ack{P:Program}{fr:Fr}{H:Heap}{n:Nat}{rs:List ResultVar}{kp:List Nat}{res:PV}{Hout:Heap}:sD P n rs kp res Hout .ret ⟨fr,H⟩=(jF P ⟨fr,H⟩ rs∧fQ ⟨(0,rL P ⟨fr,H⟩ rs)::TD fr n 1 kp,H⟩ ⟨(0,res)::DE 1 kp,Hout⟩):=rfl
def No:List (List UInt8):=[[111,107],[105,110,118,97,108,105,100],[114,97,110,103,101],[110,111,116,45,102,111,117,110,100],[101,120,105,115,116,115],[102,117,108,108],[115,116,97,116,101],[111,114,100,101,114],[115,121,110,116,97,120],[102,111,114,109,97,116],[99,104,101,99,107,115,117,109],[116,114,117,110,99,97,116,101,100]]
def I_(c:Int):List UInt8:=No.getD c.toNat []
theorem Gs(c:Int)(h:0≤c∧c<12):H0 22 [.int .i64 c] (.str (I_ c)):=by
 obtain⟨k,rfl⟩:∃k:Nat,c=k:=⟨c.toNat,bd⟩;have hk:k<12:=bd
 refine iF hm Tryz.func22 ?_
 match k,hk with
 |0,_|1,_|2,_|3,_|4,_|5,_|6,_|7,_|8,_|9,_|10,_|11,_=>simp[I_,No]
theorem Gv(c:Int)(h:0≤c∧c<12):H0 92 [.int .i64 c] (.str (I_ c)):=by
 obtain⟨k,rfl⟩:∃k:Nat,c=k:=⟨c.toNat,bd⟩;have hk:k<12:=bd
 have w1:IntKind.i64.wrap 11=11:=rfl;have h2:(k:Int)≤11:=bd
 refine iF hm Tryz.func92 ?_;simp[w1];refine u0 (bT _ _ _) ?_;simp[h2]
 match k,hk with
 |0,_|1,_|2,_|3,_|4,_|5,_|6,_|7,_|8,_|9,_|10,_|11,_=>simp[I_,No]
def aaK:List UInt8:=[101,114,114,111,114,32]
def Lt:List UInt8:=[110,111,110,101]
def lY(c:Int):List (List UInt8):=if c=0 then[xW] else[aaK++I_ c]
def qf(l:List (List UInt8))(c:Int):List (List UInt8):=if c=0 then(if l=[] then[Lt] else l) else lY c
theorem EO(c:Int):(I_ c).length≤10:=by
 unfold I_;generalize c.toNat=k
 match k with
 |0|1|2|3|4|5|6|7|8|9|10|11=>decide
 |k+12=>simp[No]
theorem jT(c:Int)(h:0≤c∧c<12):H0 30 [.int .i64 c] (.sl 1 (au (lY c))):=by
 have hl:=EO c;refine iG hm Tryz.func30 ?_;simp;refine⟨λh0=>?_,λh0=>?_⟩
 ·subst h0;exact wk [] [0] (by simp[lY,au,xW])
 ·refine u0 (Gv c h) ?_;simp;refine⟨bd,?_⟩;exact wk [] [0] (by simp[lY,au,aaK,h0])
theorem xr(l:List (List UInt8))(c:Int)(h:0≤c∧c<12):H0 27 [.sl 1 (au l),.int .i64 c] (.sl 1 (au (qf l c))):=by
 refine iG hm Tryz.func27 ?_;simp;have hn:au l=[]↔l=[]:=eC
 refine⟨λh0=>?_,λh0=>?_⟩
 ·refine u0 (jT c h) ?_;simp;exact wk [] [] (by simp[qf,h0])
 ·rw[hn];refine⟨λh1=>?_,λh1=>?_⟩
  ·exact wk [] [0] (by simp[qf,au,Lt,h0,h1])
  ·exact wk [] [] (by simp[qf,h0,h1])
def tj(d:aN)(r:aM):aN:=if ew d.records r=0 then{d with records:=NI d.records r} else d
theorem zN(l:List aM)(r:aM):0≤ew l r∧ew l r<12:=by
 unfold ew;split<;>(try split)<;>(try split)<;>(try split)<;>omega
theorem yX(d:aN)(r:aM)(hl:d.records.length≤1048576)(hw:∀x∈d.records,x.wf)(a:r.wf):nh Tryz.prog 25 [.pb 0 0,.agg r.cells] [some (.box d.cells)] [0] (.sl 1 (au (lY (ew d.records r)))) [some (.box (tj d r).cells)]:=by
 have v:=Eu d.records r hl hw a;have m:=zN d.records r;unfold tj;refine fq [0] hm Tryz.func25 bl rfl bl rfl (λ_ _ h=>h) bn ?_;simp only[aM.cells]at v;simp[aN.cells,aM.cells];refine u1 v ?_;generalize ew d.records r=c at m⊢;simp;refine⟨λh0=>?_,λh0=>?_⟩
 ·subst h0;refine u0 (jT 0 bd) ?_;simp;exact wk [0] [2] bn
 ·refine u0 (jT c m) ?_;simp[h0];exact wk [0] [] bn
end
end Go.Proofs.YtepeckjhdoicpaaGreatDoor
