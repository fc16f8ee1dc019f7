import Derived.Test.YtepeckjhdoicpaaGreatDoorG12
set_option linter.all false
set_option maxRecDepth 100000
namespace Go.Proofs.YtepeckjhdoicpaaGreatDoor
open Go Go.Ab
section
variable[dw:Go.Ab.bI]
def pN(l:List Order)(i:Nat):Bool:=match l[i]? with
 |some x=>eu x&&(decide (i=0)||match l[i-1]? with
  |some y=>Op.bytesLess y.id x.id
  |none=>true)
 |none=>true
def cV(l:List Order):Bool:=(List.range l.length).all (pN l)&&decide ((l.length:Int)≤12)
theorem qc(l:List Order)(hl:l.length≤1048576):H0 62 [.sl 5 (Order.rows l)] (.bool (cV l)):=by
 refine iF hm Tryz.func62 ?_;simp[Order.rows];refine bc hm l.length (λi=>⟨[(0,.sl 5 (Order.rows l)),(5,.sl 5 (Order.rows l)),(6,.int .i64 l.length),(7,.int .i64 i)],[]⟩) (λi=>∀j,j<i→pN l j=true) bl ?_ bn (λi hi b=>?_) (λb=>?_)
 ·exact wk [] [] (by simp[Order.rows])
 ·have e1:IntKind.i64.wrap ((i:Int)-1)=i-1:=bX bd bd;obtain⟨y,hy⟩:∃y,l[i-1]?=some y:=⟨_,ae bd⟩;have hx:=ae hi;simp[Order.rows,Order.cells,hi];refine u0 (tb l[i]) ?_;simp[Order.cells,hy,e1];have ho:pN l i=(eu l[i]&&(decide (i=0)||Op.bytesLess y.id l[i].id)):=by simp[pN,hx,hy]
  have hs:=fD y.id l[i].id
  iterate 6 refine⟨cd,?_⟩
  refine⟨λh=>?_,λh1 h2=>⟨de b ?_,?_⟩⟩
  ·have:pN l i=false:=by
    rw[ho];rcases h with h|⟨h,h'⟩
    ·simp[h]
    ·have c:(Op.bytesLess l[i].id y.id||decide (l[i].id=y.id))=true:=h5
     rw[hs]at c;have k:¬i=0:=bd
     simp at c;simp[c,k]
   simp only[cV,bL hi this,cR]
  ·rw[ho];rw[h1,bW];by_cases k:i=0
   ·simp[k]
   ·obtain⟨D,a⟩:=h2 bd;simp[D,a]at hs;simp[hs]
  ·refine wk [] [] ?_;simp;exact bX bd bd
 ·simp[Order.rows];simp only[cV,bQ b,bW]
theorem Tl(l:List Order)(hl:l.length≤1048576):H0 116 [.sl 5 (Order.rows l)] (.bool (cV l)):=by
 refine iF hm Tryz.func116 ?_;simp[Order.rows];refine bc hm l.length (λi=>⟨[(0,.sl 5 (Order.rows l)),(3,.int .i64 i)],[]⟩) (λi=>∀j,j<i→pN l j=true) bl ?_ bn (λi hi b=>?_) (λb=>?_)
 ·exact wk [] [] (by simp[Order.rows])
 ·have e1:IntKind.i64.wrap ((i:Int)-1)=i-1:=bX bd bd;obtain⟨y,hy⟩:∃y,l[i-1]?=some y:=⟨_,ae bd⟩;have hx:=ae hi;simp[Order.rows,hi];refine u0 (H5 l[i] _ _ er) ?_;simp[Order.cells,hi,hy,e1];have ho:pN l i=(eu l[i]&&(decide (i=0)||Op.bytesLess y.id l[i].id)):=by simp[pN,hx,hy]
  iterate 6 refine⟨cd,?_⟩
  refine⟨λh=>?_,λh1 h2=>⟨de b ?_,?_⟩⟩
  ·have:pN l i=false:=by
    rw[ho];rcases h with h|⟨h,h'⟩
    ·simp[h]
    ·have k:¬i=0:=bd
     simp[h',k]
   simp only[cV,bL hi this,cR]
  ·rw[ho,h1,bW];by_cases k:i=0
   ·simp[k]
   ·simp[h2 bd]
  ·refine wk [] [] ?_;simp;exact bX bd bd
 ·simp[Order.rows];simp only[cV,bQ b,bW]
theorem Rq(l:List Int)(v:Int)(hl:l.length≤9223372036854775807):H0 488 [.sl 1 (ar l),.int .i64 v] (.int .i64 (gW (λx=>decide (v=x)) l)):=by
 refine iF hm Tryz.func488 ?_;simp[ar];refine bc hm l.length (λi=>⟨[(0,.sl 1 (ar l)),(1,.int .i64 v),(7,.int .i64 l.length),(8,.int .i64 i)],[]⟩) (λi=>∀j (h:j<l.length),j<i→decide (v=l[j])=false) bl ?_ bn (λi hi b=>?_) (λb=>?_)
 ·exact wk [] [] eR
 ·simp[ar,hi];refine⟨λh=>(jN hi c8 b).symm,λh=>⟨λj d Q=>?_,?_⟩⟩
  ·by_cases e:j=i
   ·subst e;exact h
   ·simpa using b j d bd
  ·refine wk [] [] ?_;simp;exact bX bd bd
 ·simp[ar];exact(fZ λj d=>b j d d).symm
theorem AF(l:List Int)(v:Int)(hl:l.length≤9223372036854775807):H0 415 [.sl 1 (ar l),.int .i64 v] (.bool (l.any λx=>decide (v=x))):=by
 refine iF hm Tryz.func415 ?_;simp;refine u0 (Rq l v hl) ?_;simp;exact nC
theorem Oa(l:List Int)(v:Int)(hl:l.length≤9223372036854775807):H0 189 [.sl 1 (ar l),.int .i64 v] (.bool (l.any λx=>decide (v=x))):=by
 refine iF hm Tryz.func189 ?_;simp[ar];refine bc hm l.length (λi=>⟨[(0,.sl 1 (ar l)),(1,.int .i64 v),(5,.int .i64 i)],[]⟩) (λi=>∀j (h:j<l.length),j<i→¬v=l[j]) bl ?_ bn (λi hi b=>?_) (λb=>?_)
 ·exact wk [] [] eR
 ·simp[ar,hi];refine⟨λh=>by rw[←h];exact ai hi,λh=>⟨λj d Q=>?_,?_⟩⟩
  ·by_cases e:j=i
   ·subst e;exactλh'=>h h'.symm
   ·exact b j d bd
  ·refine wk [] [] ?_;simp;exact bX bd bd
 ·simp[ar];intro x hx e;obtain⟨j,d,e'⟩:=aX hx;exact b j d d (e.trans e'.symm)
theorem UY{l:List Order}(h:cV l=true){x:Order}(hx:x∈l):eu x=true:=by
 simp only[cV,ah,ak,bO]at h;obtain⟨i,hi,rfl⟩:=aX hx;have:=h.1 i hi;simp only[pN,ae hi,ah]at this;exact this.1
end
end Go.Proofs.YtepeckjhdoicpaaGreatDoor
