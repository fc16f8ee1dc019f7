import Derived.Test.YtepeckjhdoicpaaGreatDoorG47
set_option linter.all false
set_option maxRecDepth 100000
set_option maxHeartbeats 8000000
namespace Go.Proofs.YtepeckjhdoicpaaGreatDoor
open Go Go.Ab
section
variable[dw:Go.Ab.bI][Go.Ab.dj]
theorem M5(d:aN)(f:eB d):H0 19 [.agg d.cells] (.bool true):=by
 have hs:=f.small;have e:=fE d.ab hs.BH;simp only[aF.cells,f.BH]at e;have G:=qc d.dM hs.dM;have q:=uf d.records hs.records (zM f.PG);rw[f.ord]at G;rw[f.PG]at q;refine iF hm Tryz.func19 ?_;simp[aN.cells];refine u0 e ?_;simp;refine uy G ?_;simp;refine uy q ?_;simp
theorem aaG{α:Type}(c:α→Int)(l:List α):0≤si c l∧si c l<12:=by unfold si;split<;>omega
theorem aaH{d:aN}{c:aF}{ok:Bool}{k:Int}(h:0≤k∧k<12):0≤(Am d c ok k).2.2∧(Am d c ok k).2.2<12:=by
 unfold Am;simp only;split<;>omega
theorem VH(d:aN)(w t:List UInt8):0≤(qV d w t).2.2∧(qV d w t).2.2<12:=by
 unfold qV
 repeat' split
 all_goals exact aaH (aaG _ _)
theorem aaI(d:aN)(w t:List UInt8):0≤(en d w t).2.2∧(en d w t).2.2<12:=by
 unfold en;split
 ·exact C3 _ _ _
 split
 ·exact TG _ _ _
 split
 ·exact IU _ _
 split
 ·simp[GU]
 split
 ·simp[M6]
 ·exact VH _ _ _
theorem Sa(d:aN)(w:List (List UInt8)):0≤(o9 d w).2∧(o9 d w).2<12:=by
 unfold o9;split
 ·exact FH _ _
 split
 ·exact zN _ _
 ·exact zN _ _
theorem Yr{d:aN}(f:eB d)(w:List (List UInt8)):0≤(sj d w).2∧(sj d w).2<12:=by
 unfold sj;split
 ·simp
 split
 ·exact Ls _ _ _
 split
 ·exact(Di (gA f.parts.Qr) (gB f.parts.HO) _).1
 split
 ·exact FI _ _ _
 split
 ·simp
 split
 ·simp
 ·simp
theorem adP{d:aN}(f:eB d)(i:List UInt8):0≤(fF d i).code∧(fF d i).code<12:=by
 unfold fF;split
 ·simp[ny]
 split
 ·simp[ny]
 split
 ·split
  ·exact zN _ _
  ·simp[ny]
 split
 ·exact aaI _ _ _
 split
 ·simp[ny]
 split
 ·exact Sa _ _
 split
 ·simp[ny]
 ·exact Yr f _
def Ys:aN:=⟨⟨[],[],[],[],⟨0,0,0⟩,[],0,⟨[],0,0,0,0⟩,[],0,0,[],⟨[],[]⟩⟩,[],[]⟩
def TH:List PV:=[.nils,.nils,.nils,.nils,.int .i64 0,.int .i64 0,.int .i64 0,.nils,.int .i64 0,.str [],.int .i64 0,.int .i64 0,.int .i64 0,.int .i64 0,.nils,.int .i64 0,.int .i64 0,.nils,.str [],.nils,.nils,.nils]
theorem VI{fr:Fr}{H:Heap}{c:Int}:fQ ⟨(0,.dn [.agg TH,.nils,.int .i64 c])::fr,H⟩ ⟨[(0,.dn [.agg Ys.cells,.sl 1 [],.int .i64 c])],[]⟩:=by
 refine(wk [] [] (by simp[TH]):fQ _ ⟨[(0,.dn [.agg TH,.nils,.int .i64 c])],[]⟩).trans ?_;exact(bw (t:=0) 1 1 rfl rfl).trans ((eZ (t:=0) 0 0 5 rfl rfl rfl).trans ((eZ (t:=0) 0 1 3 rfl rfl rfl).trans ((eZ (t:=0) 0 2 5 rfl rfl rfl).trans ((eZ (t:=0) 0 3 5 rfl rfl rfl).trans
  ((eZ (t:=0) 0 7 5 rfl rfl rfl).trans ((eZ (t:=0) 0 14 6 rfl rfl rfl).trans ((eZ (t:=0) 0 17 4 rfl rfl rfl).trans ((eZ (t:=0) 0 19 3 rfl rfl rfl).trans ((eZ (t:=0) 0 20 5 rfl rfl rfl).trans ((eZ (t:=0) 0 21 3 rfl rfl rfl).trans
  (wk [] [0,1,2,3,4,5,6,7,8,9,10] (by simp[TH,Ys,aN.cells,aW.rows,aR.rows,aS.rows,bC.rows,Place.rows,bu.rows,Action.rows,aO.rows,Order.rows,aM.rows]))))))))))))
def dcV(d:aN)(i:List UInt8):Option (aN×List (List UInt8)):=
 if(fF d i).ok=false then none
 else if(fF d i).code=0 then some ((fF d i).adO,if(fF d i).lines=[] then[Lt] else(fF d i).lines) else some (d,lY (fF d i).code)
def dcD(o:Option (aN×List (List UInt8))):aN:=(o.map Prod.fst).getD Ys
def Yt(o:Option (aN×List (List UInt8))):Int:=if o.isSome=true then 0 else 8
theorem BT(d:aN)(i:List UInt8)(f:eB d)(hl:i.length≤1048576):
  H0 11 [.agg d.cells,.str i] (.dn [.agg (dcD (dcV d i)).cells,.sl 1 (au (fI (dcV d i))),.int .i64 (Yt (dcV d i))]):=by
 have g:=M5 d f;have z:=Sb d f.small;have a:=VG d i f hl;have m:=adP f i;unfold dcV;generalize fF d i=R at *;obtain⟨D,L,c,ok⟩:=R;have b:=Gs c m;have Z:=EO c;simp only[aN.cells]at g z a;refine pZ [] hm Tryz.func11 bl rfl bl rfl (λ_ _ h=>h) ?_;simp[aN.cells];refine u0 g ?_;simp;refine u0 z ?_;simp;refine uM [2] [] a bn ?_;cases ok
 ·simp[dcD,Yt,fI];exact VI
 by_cases hc:c=0
 ·subst hc;have N:=aQ L;simp[aQ];by_cases h0:L=[]
  ·subst h0;simp[dcD,Yt,fI];exact wk [] [3] (by simp[au,Lt,aN.cells])
  ·simp[h0,dcD,Yt,fI];exact wk [] [] cf
 ·simp[hc,dcD,Yt,fI];refine u0 z ?_;simp;refine u0 b ?_;simp;refine⟨bd,?_⟩;exact wk [] [3] (by simp[lY,hc,au,aaK,aN.cells])
end
end Go.Proofs.YtepeckjhdoicpaaGreatDoor
