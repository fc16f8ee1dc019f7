import Derived.Test.YtepeckjhdoicpaaGreatDoorG44
set_option linter.all false
set_option maxRecDepth 100000
set_option maxHeartbeats 8000000
namespace Go.Proofs.YtepeckjhdoicpaaGreatDoor
open Go Go.Ab
section
variable[dw:Go.Ab.bI][Go.Ab.dj]
def lP(d:aN)(i:List UInt8):Option (aN×List (List UInt8)):=
 if 300<i.length then none
 else if(cW 32 i).length=1 then xP d ((cW 32 i).getD 0 [])
 else(q9 d ((cW 32 i).getD 0 []) (i.drop (((cW 32 i).getD 0 []).length+1))).or ((o_ d ((cW 32 i).getD 0 []) (i.drop (((cW 32 i).getD 0 []).length+1))).or (qW d (cW 32 i) i))
theorem V6(x:List UInt8)(t:List (List UInt8)):x.length≤(Lib.join (x::t) [32]).length:=by
 cases t with
 |nil=>rw[join_one];exact aK _
 |cons y t=>rw[jM];simp
theorem aa2(d:aN)(i:List UInt8)(f:eB d)(hl:i.length≤1048576):
  nh Tryz.prog 8 [.pb 0 0,.str i] [some (.box d.cells)] [0] (.dn [.sl 1 (au (fI (lP d i))),.bool (lP d i).isSome]) [some (.box (fL d (lP d i)).cells)]:=by
 obtain⟨R,e⟩:∃R,R=lP d i:=⟨_,rfl⟩;rw[←e];unfold lP at e;have s:=jy (fg i 32 bd);simp only[show(32:UInt8).toNat=32 from rfl]at s;have k:=dY 32 i;have n:=lF 32 i;refine fq [0] hm Tryz.func8 bl rfl bl rfl (λ_ _ h=>h) cf ?_;by_cases l:300<i.length
 ·rw[aB l]at e;subst e;have w:(300:Int)<(i.length:Int):=bd
  simp[aN.cells,w,fL,fI];refine(bw (t:=0) 0 1 rfl rfl).trans (wk [0] [1] ?_);simp[au]
 rw[av l]at e;have w:¬(300:Int)<(i.length:Int):=bd
 cases hw:cW 32 i with
 |nil=>exact absurd hw (iI _ _)
 |cons w0 r=>
  rw[hw]at e s k n;have O:(w0::r).getD 0 []=w0:=rfl;rw[O]at e;cases r with
  |nil=>
   simp at e;have F:=Sz d w0 f;rw[←e]at F;simp only[aN.cells]at F;simp[aN.cells,w];refine u0 s ?_;simp[au];refine uM [0] [] F bn ?_;simp;exact wk [0] [] eC
  |cons w1 r=>
   obtain⟨e1,e2,e3⟩:=jm hw;have z:w0.length+1+w1.length≤i.length:=by
    have:=V6 w1 r;rw[e1];simp only[aA,aL];omega
   have D:w0=[115,101,116]→3≤(w0::w1::r).length→5+w1.length≤i.length:=λa b=>by
    cases r with
    |nil=>simp at b
    |cons A r=>
     rw[e1,a,jM];simp;omega
   have o:¬(w0::w1::r).length=1:=bn
   rw[av o]at e;have u:∀x∈w0::w1::r,x.length≤300:=λx hx=>by have:=k x hx;omega
   have c:=Sx d w0 (i.drop (w0.length+1)) f ca;have Y:=V5 d w0 (i.drop (w0.length+1)) f ca;have g:=Sy d (w0::w1::r) i f bn bd bd u D;generalize q9 d w0 (i.drop (w0.length+1))=M at c e;generalize o_ d w0 (i.drop (w0.length+1))=Q at Y e;generalize qW d (w0::w1::r) i=W at g e;simp only[aN.cells]at c Y g;have p:¬(r.length:Int)+1+1=1:=bd
   have j:(0:Int)<(r.length:Int)+1+1:=bd
   have q:IntKind.i64.wrap ((w0.length:Int)+1)=((w0.length+1:Nat):Int):=bo
   have n6:(0:Int)≤(w0.length:Int)+1∧(w0.length:Int)+1≤(i.length:Int):=bd
   have v:List.take (i.length-(w0.length+1)) (List.drop (w0.length+1) i)=List.drop (w0.length+1) i:=ay bn;have y:((w0.length:Int)+1).toNat=w0.length+1:=bd
   simp[aN.cells,w];refine u0 s ?_;simp[au,p,j,q,n6,v,y];refine⟨bd,?_⟩;refine uM [0] [] c bn ?_;cases M with
   |some m=>
    simp at e;subst e;simp[fL,fI];exact wk [0] [] kE
   |none=>
   simp[fL,j];refine uM [0] [] Y bn ?_;cases Q with
   |some m=>
    simp at e;subst e;simp[fL,fI];exact wk [0] [] kE
   |none=>
   simp at e;subst e;simp[fL,j];refine uM [0] [] g eC ?_;simp;exact wk [0] [] (by simp[au,fL])
theorem Dr{α:Type}{ok:α→Bool}{lt:α→α→Bool}{id:α→List UInt8}(p:∀a b,lt a b=Op.bytesLess (id a) (id b)){l:List α}:iu ok lt l=true↔(∀x∈l,ok x=true)∧l.Pairwise (λa b=>id a<id b):=by
 constructor
 ·intro h;exact⟨ib h,b7.2 λi j hi d k=>ru p h i j hi d k⟩
 ·rintro⟨h1,h2⟩;simp only[iu,ak,bO];intro i hi;rw[jf ok lt (ae hi) (ae ((bd:i-1<l.length)))];simp only[ah,cL,al];refine⟨h1 _ (ai hi),?_⟩;by_cases h0:i=0
  ·exact .inl h0
  ·refine .inr ?_;rw[p,kh];exact b7.1 h2 (i-1) i bd hi bd
theorem P0{α:Type}{id:α→List UInt8}{l:List α}{x:α}(h:l.Pairwise (λa b=>id a<id b))(hn:eT id l (id x)=false):(iL (λy=>bN (id y) (id x)) l x).Pairwise (λa b=>id a<id b):=by
 have c:jB id l:=λi j hi d k=>b7.1 h i j hi d k;have D:∀i (hi:i<l.length),(id x<id l[i])↔(eQ l λy=>bN (id y) (id x))≤i:=λi hi=>GX c hn hi;have n:∀i (hi:i<l.length),id l[i]≠id x:=λi hi e=>by
  have:=cj.1 hn l[i] (ai hi);simp[e]at this
 unfold iL;generalize(eQ l λy=>bN (id y) (id x))=p at D;have lo:∀a∈l.take p,id a<id x:=λa C=>by
  obtain⟨i,hi,rfl⟩:=aX C;rw[aw]at hi;rw[lS];have h1:=D i bd;rcases qZ (id l[i]) (id x)with g|g|g
  ·exact g
  ·exact absurd g (n i bd)
  ·have:=h1.1 g;omega
 have hi:∀a∈l.drop p,id x<id a:=λa C=>by
  obtain⟨i,hi,rfl⟩:=aX C;rw[cO]at hi;rw[DF];exact(D (p+i) bd).2 bd
 rw[cQ,d_];refine⟨h.sublist (dH _ _),⟨hi,h.sublist (gj _ _)⟩,λa C b hb=>?_⟩;rcases bz.1 hb with rfl|hb
 ·exact lo a C
 ·exact jA (lo a C) (hi b hb)
theorem LP{α:Type}{c:α→Int}{l:List α}{x:α}:(iL c l x).Perm (x::l):=by
 unfold iL;exact sv.trans (by rw[bP])
theorem Sc{α:Type}{c:α→Int}{l:List α}{x:α}(h:dF l c=false):lX c l x=iL c l x:=by
 simp[lX,iL,h]
theorem LQ{ms:List aR}:ec ms=true↔iu gN ry ms=true∧ms.Pairwise (λa b=>gI a b=false)∧ms.length≤12:=by
 have key:∀i (hi:i<ms.length),oC ms i=(kJ gN ry ms i && !(ms.take i).any (gI ms[i])):=λi hi=>by simp only[oC,ae hi]
 constructor
 ·intro h;simp only[ec,ah,ak,bO,al]at h;refine⟨?_,b7.2 λi j hi d k=>?_,bd⟩
  ·simp only[iu,ak,bO];intro i hi;have:=h.1 i hi;rw[key i hi,ah]at this;exact this.1
  ·have:=h.1 j d;rw[key j d,ah,dG,cj]at this;rw[o4];have h2:=this.2 ms[i] (cY.2 ⟨i,bd,rfl⟩);simpa using h2
 ·rintro⟨h1,h2,c⟩;simp only[ec,ah,ak,bO,al];refine⟨λi hi=>?_,bd⟩;simp only[iu,ak,bO]at h1;rw[key i hi,h1 i hi,bW,dG,cj];intro y hy;obtain⟨j,d,rfl⟩:=aX hy;rw[aw]at d;rw[lS,o4];have:=b7.1 h2 j i bd hi bd;simp[this]
theorem V7{is:List aW}{ms:List aR}{x:aR}(hs:ec ms=true)(h:(nM is ms x).2=0):ec (nM is ms x).1=true:=by
 unfold nM at h⊢;split at h<;>(try (simp at h))
 rename_i h1;split at h<;>(try (simp at h))
 rename_i h2;split at h<;>(try (simp at h))
 rename_i e;split at h<;>(try (simp at h))
 rename_i k;split at h<;>(try (simp at h))
 rename_i D;split at h<;>(try (simp at h))
 rename_i d;split at h<;>(try (simp at h))
 rename_i X;have d:¬(ms.any λy=>gI x y)=true:=by simpa using d
 rw[av h1,av h2,av e,av k,av D,av d,av X];show ec (lX _ ms x)=true;obtain⟨v,P,i⟩:=LQ.1 hs;have p:∀a b,ry a b=Op.bytesLess (aR.id a) (aR.id b):=λ_ _=>rfl;have G:eT aR.id ms x.id=false:=by simpa using D
 have hf:=nD (Hw hs) x.id;rw[G]at hf;rw[Sc hf];obtain⟨g1,g2⟩:=(Dr p).1 v;have g:=LP (c:=λy=>bN (aR.id y) x.id) (l:=ms) (x:=x);refine LQ.2 ⟨(Dr p).2 ⟨λy hy=>?_,P0 g2 G⟩,?_,?_⟩
 ·rcases GY hy with rfl|hy
  ·simpa using h1
  ·exact g1 y hy
 ·refine(g.pairwise_iff (λ{a b} f=>by rw[o4];exact f)).2 (d_.2 ⟨λy hy=>?_,P⟩);have:=cj.1 (by simpa using d) y hy;simpa using this
 ·have:=g.length_eq;rw[aL]at this;omega
theorem V8{ms:List aR}{bs:List aS}{x:aS}(hs:ep bs=true)(h:(xq ms bs x).2=0):ep (xq ms bs x).1=true:=by
 unfold xq at h⊢;split at h<;>(try (simp at h))
 rename_i h1;split at h<;>(try (simp at h))
 rename_i h2;split at h<;>(try (simp at h))
 rename_i d;split at h<;>(try (simp at h))
 rename_i k;split at h<;>(try (simp at h))
 rename_i D;rw[av h1,av h2,av d,av k,av D];simp only[ep,ah,al]at hs⊢;have p:∀a b,sH a b=Op.bytesLess (aS.id a) (aS.id b):=λ_ _=>rfl;have Z:eT aS.id bs x.id=false:=by simpa using k
 have hf:=nD (ru p hs.1) x.id;rw[Z]at hf;rw[Sc hf];obtain⟨g1,g2⟩:=(Dr p).1 hs.1;have g:=(LP (c:=λy=>bN (aS.id y) x.id) (l:=bs) (x:=x)).length_eq;rw[aL]at g;refine⟨(Dr p).2 ⟨λy hy=>?_,P0 g2 Z⟩,bd⟩;rcases GY hy with rfl|hy
 ·simpa using h1
 ·exact g1 y hy
theorem P1{l:List Order}{s:List UInt8}(h:eU l s=0):cV (rf l s)=true:=by
 have a:cV l=true:=by
  unfold eU at h;split at h
  ·assumption
  ·simp at h
 unfold rf;rw[aB h];obtain⟨h1,h2,c⟩:=xu.1 a;have hs:(l.take (pG l s).toNat++l.drop ((pG l s).toNat+1)).Sublist l:=by
  rw[←List.eraseIdx_eq_take_drop_succ];exact List.eraseIdx_sublist ..
 exact xu.2 ⟨λx hx=>h1 x (hs.subset hx),h2.sublist hs,b_ hs.length_le c⟩
theorem yY{d:aN}{c:aF}{e:Bool}(f:eB d):eB (pK d c e):=by
 unfold pK;split
 ·rename_i h;refine⟨?_,f.ord,f.PG⟩;unfold pL at h;split at h
  ·simp at h
  ·split at h
   ·assumption
   ·simp at h
 ·exact f
theorem Nr{d:aN}{r:aM}(f:eB d):eB (tj d r):=by
 unfold tj;split
 ·rename_i h;obtain⟨h1,h2⟩:=P2 h;exact⟨f.BH,f.ord,by rw[h2];exact h1⟩
 ·exact f
theorem aa3{d:aN}{w t:List UInt8}{R:aN×List (List UInt8)}(f:eB d)(h:q9 d w t=some R):eB R.1:=by
 have hc:=f.BH;unfold q9 at h;split at h
 ·obtain⟨x,-,rfl⟩:=bh.1 h;exact yY f
 split at h
 ·obtain⟨x,-,rfl⟩:=bh.1 h;unfold TI;split
  ·rename_i h0;have hm:=V7 f.parts.Qr h0;refine⟨?_,f.ord,f.PG⟩;simp only[j8,ah]at hc⊢;simp only[hc,hm,and_self]
  ·exact f
 split at h
 ·obtain⟨x,-,rfl⟩:=bh.1 h;unfold TJ;split
  ·rename_i h0;have hm:=V8 f.parts.HO h0;refine⟨?_,f.ord,f.PG⟩;simp only[j8,ah]at hc⊢;simp only[hc,hm,and_self]
  ·exact f
 split at h
 ·obtain⟨x,-,rfl⟩:=bh.1 h;unfold M8;split
  ·rename_i h0;exact⟨f.BH,SA h0,f.PG⟩
  ·exact f
 ·cases h
theorem aa4{d:aN}{w t:List UInt8}{R:aN×List (List UInt8)}(f:eB d)(h:o_ d w t=some R):eB R.1:=by
 have hc:=f.BH;unfold o_ at h;split at h
 ·obtain⟨x,-,rfl⟩:=bh.1 h;exact yY f
 split at h
 ·obtain⟨x,-,rfl⟩:=bh.1 h;exact yY f
 split at h
 ·obtain⟨x,-,rfl⟩:=bh.1 h;exact yY f
 split at h
 ·obtain⟨x,-,rfl⟩:=bh.1 h;exact yY f
 split at h
 ·obtain⟨x,hx,rfl⟩:=bh.1 h;have hm:=LK hx;refine⟨?_,f.ord,f.PG⟩;simp only[Na,j8,ah]at hc⊢;grind
 split at h
 ·obtain⟨x,hx,rfl⟩:=bh.1 h;have hm:=PY hx;refine⟨?_,f.ord,f.PG⟩;simp only[TK,j8,ah]at hc⊢;grind
 ·cases h
theorem aa5{d:aN}{w:List (List UInt8)}{i:List UInt8}{R:aN×List (List UInt8)}(f:eB d)(h:qW d w i=some R):eB R.1:=by
 unfold qW at h;split at h
 ·cases h;exact Nr f
 split at h
 ·cases h;exact Nr f
 split at h
 ·cases h;simp only;split
  ·rename_i h0;exact⟨f.BH,P1 h0,f.PG⟩
  ·exact f
 split at h
 ·cases h;exact f
 split at h
 ·cases h;exact f
 split at h
 ·split at h
  ·cases h;exact f
  ·cases h
 ·cases h
theorem aa6{d:aN}{w:List UInt8}{R:aN×List (List UInt8)}(f:eB d)(h:xP d w=some R):eB R.1:=by
 unfold xP at h;split at h
 ·cases h;exact f
 split at h
 ·cases h;exact Nr f
 split at h
 ·cases h;exact f
 split at h
 ·cases h;exact f
 split at h
 ·cases h;exact f
 ·cases h
theorem aa7{d:aN}{i:List UInt8}{R:aN×List (List UInt8)}(f:eB d)(h:lP d i=some R):eB R.1:=by
 unfold lP at h;split at h
 ·cases h
 split at h
 ·exact aa6 f h
 cases L:q9 d ((cW 32 i).getD 0 []) (i.drop (((cW 32 i).getD 0 []).length+1))with
 |some m=>
  rw[L]at h;cases h;exact aa3 f L
 |none=>
  rw[L]at h;cases k:o_ d ((cW 32 i).getD 0 []) (i.drop (((cW 32 i).getD 0 []).length+1))with
  |some m=>
   rw[k]at h;cases h;exact aa4 f k
  |none=>
   rw[k]at h;exact aa5 f h
def I1:aN:=⟨⟨[],[],[],[],⟨20000,20000,5000⟩,[],0,⟨[111,108,100],2500,50,5000,100000⟩,[],20000,40000,[],⟨[115,111,110,103],[]⟩⟩,[],[]⟩
theorem aa8:eB I1:=⟨bt,bt,bt⟩
def V9:List PV:=[.nils,.nils,.nils,.nils,.int .i64 20000,.int .i64 20000,.int .i64 5000,.nils,.int .i64 0,.str [111,108,100],.int .i64 2500,.int .i64 50,.int .i64 5000,.int .i64 100000,.nils,.int .i64 20000,.int .i64 40000,.nils,.str [115,111,110,103],.nils,.nils,.nils]
theorem LR:fQ ⟨[(0,.agg V9)],[]⟩ ⟨[(0,.agg I1.cells)],[]⟩:=
 (nG (t:=0) 0 5 rfl rfl).trans ((nG (t:=0) 1 3 rfl rfl).trans ((nG (t:=0) 2 5 rfl rfl).trans ((nG (t:=0) 3 5 rfl rfl).trans ((nG (t:=0) 7 5 rfl rfl).trans
 ((nG (t:=0) 14 6 rfl rfl).trans ((nG (t:=0) 17 4 rfl rfl).trans ((nG (t:=0) 19 3 rfl rfl).trans ((nG (t:=0) 20 5 rfl rfl).trans ((nG (t:=0) 21 3 rfl rfl).trans
 (wk [] [0,1,2,3,4,5,6,7,8,9] (by simp[V9,I1,aN.cells,aW.rows,aR.rows,aS.rows,bC.rows,Place.rows,bu.rows,Action.rows,aO.rows,Order.rows,aM.rows])))))))))))
theorem YS:H0 7 [] (.agg I1.cells):=by
 refine iW.less (res:=.agg V9) (iF hm Tryz.func7 ?_) LR;simp[V9]
theorem I0:H0 10 [] (.agg I1.cells):=by
 refine iW.less (res:=.agg V9) (iF hm Tryz.func10 ?_) LR;simp[V9]
def Qs(l:List (List UInt8)):Prop:=l.length≤10000∧∀x∈l,x.length≤1000000
theorem xv{x:List UInt8}(h:x.length≤1000000):Qs [x]:=⟨bn,λy hy=>by rw[bx]at hy;subst hy;exact h⟩
theorem nb(c:Int):Qs (lY c):=by
 unfold lY;split
 ·exact xv (by simp[xW])
 ·have:=EO c;exact xv (by simp[aaK];omega)
theorem zT{l:List (List UInt8)}{c:Int}(h:Qs l):Qs (qf l c):=by
 unfold qf;split
 ·split
  ·exact xv (by simp[Lt])
  ·exact h
 ·exact nb c
theorem SB(d:eD):(sI d).length≤1000000:=by
 unfold sI;split
 ·rename_i h;have f:=MF h;have B:=Ew f;have x:=f.many;have hl:(l_ d).length=3+d.pins.length:=kY
  have:=pB B (l_ d).length;rw[aI]at this;unfold O4;omega
 ·simp
theorem YT{d:aN}{w t:List UInt8}{R:aN×List (List UInt8)}(h:q9 d w t=some R):Qs R.2:=by
 unfold q9 at h;split at h
 ·obtain⟨x,-,rfl⟩:=bh.1 h;exact nb _
 split at h
 ·obtain⟨x,-,rfl⟩:=bh.1 h;exact nb _
 split at h
 ·obtain⟨x,-,rfl⟩:=bh.1 h;exact nb _
 split at h
 ·obtain⟨x,-,rfl⟩:=bh.1 h;exact nb _
 ·cases h
theorem YU{d:aN}{w t:List UInt8}{R:aN×List (List UInt8)}(h:o_ d w t=some R):Qs R.2:=by
 unfold o_ at h;split at h
 ·obtain⟨x,-,rfl⟩:=bh.1 h;exact nb _
 split at h
 ·obtain⟨x,-,rfl⟩:=bh.1 h;exact nb _
 split at h
 ·obtain⟨x,-,rfl⟩:=bh.1 h;exact nb _
 split at h
 ·obtain⟨x,-,rfl⟩:=bh.1 h;exact nb _
 split at h
 ·obtain⟨x,-,rfl⟩:=bh.1 h;exact nb 0
 split at h
 ·obtain⟨x,-,rfl⟩:=bh.1 h;exact nb 0
 ·cases h
theorem V_{d:aN}(f:eB d)(s:List UInt8):Qs (oN d.ab.dR d.ab.cu s).1:=by
 unfold oN;split
 ·have F:=f.parts.HO;have a:=(gB F).len;refine⟨?_,λx hx=>?_⟩
  ·have:=LH d.ab.dR d.ab.cu s d.ab.cu.length;rw[aI]at this;simp only;omega
  ·obtain⟨b,hb,rfl⟩:=ba.1 hx;have hb:=(fN.1 hb).1;simp only[ep,ah]at F;have:=ib F.1 b hb;simp only[fA,isName,ah,al]at this;omega
 ·exact⟨bn,bn⟩
theorem YV{d:aN}(f:eB d){w:List (List UInt8)}{i:List UInt8}{R:aN×List (List UInt8)}(h:qW d w i=some R):Qs R.2:=by
 unfold qW at h;split at h
 ·cases h;exact nb _
 split at h
 ·cases h;exact nb _
 split at h
 ·cases h;exact nb _
 split at h
 ·cases h;exact zT (V_ f _)
 split at h
 ·cases h;have Y:=(Di (gA f.parts.Qr) (gB f.parts.HO) (w.getD 1 [])).2;have:=du Y;exact zT (xv bd)
 split at h
 ·split at h
  ·cases h;exact zT (xv (SB _))
  ·cases h
 ·cases h
theorem YW{d:aN}(f:eB d){w:List UInt8}{R:aN×List (List UInt8)}(h:xP d w=some R):Qs R.2:=by
 unfold xP at h;split at h
 ·cases h;show Qs aZ;exact⟨by decide,bt⟩
 split at h
 ·cases h;exact nb _
 split at h
 ·cases h;show Qs (qf _ 0);refine zT ⟨?_,λx hx=>?_⟩
  ·have h1:=xn d.records d.records.length;have h2:=qm f.PG;rw[aT];unfold stN;omega
  ·obtain⟨p,g,rfl⟩:=ba.1 hx;have h1:=xm (EN f) _ p g;unfold rh;unfold tw at h1;simp only[aA,aL,cC];omega
 split at h
 ·cases h;have h1:=BS (pR d.ab.fX (fu d.ab.cu) (IT d));have X:=R9 d;have h2:=du (n:=IT d) ⟨bd,bd⟩;refine xv ?_;unfold VF;simp only[aA,aL,cC];omega
 split at h
 ·cases h;unfold M3;simp only;split
  ·exact xv (by simp[TF])
  ·refine⟨?_,λx hx=>?_⟩
   ·have:=(Mw f.parts).2.2;rw[aT];omega
   ·obtain⟨p,g,rfl⟩:=ba.1 hx;have h1:=Hk f.parts p g;unfold TrD at h1;unfold BQ mO;rw[aB ⟨h1.1,h1.2.1⟩];have hn:(mN p.kind).length≤5:=by
     rcases My h1.1 h1.2.1 with e|e|e|e|e|e|e|e<;>rw[e]<;>decide
    simp only[aA,aL,cC];omega
 ·cases h
theorem IY{d:aN}(f:eB d){i:List UInt8}{R:aN×List (List UInt8)}(h:lP d i=some R):Qs R.2:=by
 unfold lP at h;split at h
 ·cases h
 split at h
 ·exact YW f h
 cases L:q9 d ((cW 32 i).getD 0 []) (i.drop (((cW 32 i).getD 0 []).length+1))with
 |some m=>
  rw[L]at h;cases h;exact YT L
 |none=>
  rw[L]at h;cases k:o_ d ((cW 32 i).getD 0 []) (i.drop (((cW 32 i).getD 0 []).length+1))with
  |some m=>
   rw[k]at h;cases h;exact YU k
  |none=>
   rw[k]at h;exact YV f h
def Ao(l:List (List UInt8)):List UInt8:=l.flatMap λx=>x++[10]
def stepT(d:aN)(i:List UInt8):List UInt8:=match lP d i with
 |none=>[63,10]
 |some R=>Ao R.2
def AX(d:aN)(i:List UInt8):aN:=fL d (lP d i)
def wg(L:List (List UInt8)):aN:=L.foldl AX I1
def runT(L:List (List UInt8)):List UInt8:=(L.foldl (λs x=>(AX s.1 x,s.2++stepT s.1 x)) (I1,[])).2
theorem YX{d:aN}{i:List UInt8}(f:eB d):eB (AX d i):=by
 unfold AX fL;cases h:lP d i with
 |none=>exact f
 |some R=>exact aa7 f h
theorem Nf:∀(L:List (List UInt8)),eB (wg L):=λL=>by
 have:∀(L:List (List UInt8))(d:aN),eB d→eB (L.foldl AX d):=λL=>by
  induction L with
  |nil=>exactλd h=>h
  |cons x L u=>exactλd h=>u _ (YX h)
 exact this L I1 aa8
theorem aa9(L:List (List UInt8))(s:aN×List UInt8):(L.foldl (λs x=>(AX s.1 x,s.2++stepT s.1 x)) s).1=L.foldl AX s.1:=by
 induction L generalizing s with
 |nil=>rfl
 |cons x L u=>exact u _
theorem LA(L:List (List UInt8)){i:Nat}(hi:i<L.length):wg (L.take (i+1))=AX (wg (L.take i)) L[i]:=by
 unfold wg;rw[←aq hi,dI];rfl
theorem EV(L:List (List UInt8)){i:Nat}(hi:i<L.length):runT (L.take (i+1))=runT (L.take i)++stepT (wg (L.take i)) L[i]:=by
 unfold runT;rw[←aq hi,dI];show _++stepT (List.foldl _ (I1,[]) (L.take i)).1 L[i]=_;rw[aa9];rfl
theorem IX{l:List (List UInt8)}(h:Qs l)(i:Nat):(Ao (l.take i)).length≤10000010000:=by
 have key:∀(l:List (List UInt8)),(∀x∈l,x.length≤1000000)→(Ao l).length≤l.length*1000001:=λl=>by
  induction l with
  |nil=>intro _;simp[Ao]
  |cons x l u=>
   intro h;have h1:=u λy hy=>h y (dK _ hy);have h2:=h x bn;simp only[Ao,List.flatMap_cons,aA,aL,cC]at h1⊢;omega
 have h1:=key (l.take i) λx hx=>h.2 x (bG hx);have h2:(l.take i).length≤10000:=by rw[aw];have:=h.1;omega
 exact b_ h1 (b_ (b8 1000001 h2) bt)
theorem Wa{d:aN}(f:eB d)(i:List UInt8):(stepT d i).length≤10000010000:=by
 unfold stepT;cases h:lP d i with
 |none=>simp only[aL,cC];omega
 |some R=>
  have h1:=IY f h;have:=IX h1 R.2.length;rw[aI]at this;exact this
theorem PH(L:List (List UInt8)):∀i,i≤L.length→(runT (L.take i)).length≤i*10000010000:=λi=>by
 induction i with
 |zero=>intro _;simp[runT]
 |succ i u=>
  intro h;have h1:=u bd;have h2:=Wa (Nf (L.take i)) (L[i]' bd);rw[EV L bd,aA];omega
def zP(s:List UInt8):List (List UInt8):=if(cW 10 s).getLast (iI _ _)=[] then(cW 10 s).dropLast else cW 10 s
def rdT(s:List UInt8):List UInt8:=if 60<(zP s).length then[] else runT (zP s)
def rdC(s:List UInt8):Int:=if 60<(zP s).length then 5 else 0
theorem Ly(L:List (List UInt8)){i:Nat}(hi:i<L.length):Ao (L.take (i+1))=Ao (L.take i)++(L[i]++[10]):=by
 unfold Ao;rw[←aq hi,Qp];simp
theorem BV(L:List (List UInt8)){i:Nat}(h:i<(au L).length):(au L)[i]=[.str (L[i]'(by rw[aQ]at h;exact h))]:=eC
theorem I2(s:List UInt8)(hs:s.length≤1048576):H0 4 [.str s] (.dn [.str (rdT s),.int .i64 (rdC s)]):=by
 have b:=jy (fg s 10 bd);simp only[show(10:UInt8).toNat=10 from rfl]at b;have c:=dY 10 s;have w:=lF 10 s;have n:=iI 10 s;have z:∀x∈zP s,x.length≤s.length:=λx hx=>by
  unfold zP at hx;split at hx
  ·exact c x ((List.dropLast_sublist _).subset hx)
  ·exact c x hx
 have C:∀i (h:i<(zP s).length),i<(cW 10 s).length∧(cW 10 s)[i]?=some (zP s)[i]:=λi h=>by
  unfold zP at h⊢;split at h
  ·rename_i e;rw[List.length_dropLast]at h;simp only[e,gk,List.getElem_dropLast];exact⟨bd,ae bd⟩
  ·rename_i e;simp only[e,tk];exact⟨h,ae h⟩
 have hn:(zP s).length=if(cW 10 s).getLast (iI _ _)=[] then(cW 10 s).length-1 else(cW 10 s).length:=by
  unfold zP;split<;>simp
 have y:0<(cW 10 s).length:=fV.2 n;have V:(cW 10 s)[(cW 10 s).length-1]?=some ((cW 10 s).getLast (iI _ _)):=by
  rw[ae bd,List.getLast_eq_getElem]
 generalize(cW 10 s).getLast (iI _ _)=E at hn V;unfold rdT rdC;generalize zP s=L at z C hn⊢;generalize cW 10 s=W at *;have O:(au W).length=W.length:=aQ W;have r:(au W)[W.length-1]?=some [.str E]:=by simp[au,V]
 have p:W.length-1<W.length:=bd
 have j:∀g,(au W)[W.length-1]'g=[.str E]:=λg=>(aa.1 r).2;have t:IntKind.i64.wrap ((W.length:Int)-1)=((W.length-1:Nat):Int):=bo
 have l:∀i (h:i<L.length),i<W.length∧∀g,(au W)[i]'g=[.str L[i]]:=λi h=>by
  obtain⟨g1,g2⟩:=C i h;exact⟨g1,λg=>(aa.1 (show(au W)[i]?=some [.str L[i]] by simp[au,g2])).2⟩
 have m:∀i (h:i<L.length),L[i].length≤1048576:=λi h=>by have:=z _ (ai h);omega
 refine iF hm Tryz.func4 ?_;simp;refine u0 b ?_;have d:=YS;simp only[aN.cells]at d;simp[O,t,j,p];refine⟨λhE=>?_,λhE=>?_⟩
 all_goals
  first
   |rw[aB hE]at hn
   |rw[av hE]at hn
  rw[←hn];by_cases o:L.length≤60;rotate_left
  ·have f:¬(L.length:Int)≤60:=bd
   simp[o,f];omega
  have u:¬60<L.length:=bd
  have v:¬(60:Int)<(L.length:Int):=bd
  have f:(L.length:Int)≤60:=bd
  simp[u,v];intro _;refine u0 d ?_;simp;refine lu hm L.length (λi=>⟨[(4,.sl 1 (au W)),(5,.int .i64 L.length),(6,.pb 0 0),(7,.str (runT (L.take i))),(8,.int .i64 i)],[some (.box (wg (L.take i)).cells)]⟩) ?_ (λi hi=>?_) ?_
  ·exact wk [0] [] (by simp[runT,wg,aN.cells])
  ·have I:=Nf (L.take i);have G:=aa2 (wg (L.take i)) L[i] I (m i hi);have A:=PH L i bd;have w1:=wS i;rw[LA L hi,EV L hi];have S:∀R,lP (wg (L.take i)) L[i]=some R→Qs R.2:=λR h=>IY I h;unfold AX stepT;generalize wg (L.take i)=D at *;generalize runT (L.take i)=T at *;obtain⟨g1,g2⟩:=l i hi;simp only[aN.cells]at G;simp[hi,O,g1,g2,aN.cells];refine uM [0] [] G bn ?_;cases a:lP D L[i]with
   |none=>
    simp[fL,a];exact⟨bd,wk [0] [] (by simp[w1,aN.cells])⟩
   |some R=>
    obtain⟨f1,H⟩:=S R a;have B:=aQ R.2;simp[fL,fI,a];refine lu hm R.2.length (λk=>⟨[(4,.sl 1 (au W)),(5,.int .i64 L.length),(6,.pb 0 0),(7,.str (T++Ao (R.2.take k))),(8,.int .i64 i),(9,.sl 1 (au R.2)),(11,.int .i64 k)],[some (.box R.1.cells)]⟩) ?_ (λk hk=>?_) ?_
    ·exact wk [0] [] (by simp[Ao,aN.cells])
    ·have f3:=H _ (ai hk);have f4:=IX ⟨f1,H⟩ k;have q:=wS k;simp[hk,B,BV,aN.cells];refine⟨bd,bd,wk [0] [] ?_⟩;rw[Ly _ hk];simp[q,aN.cells]
    ·rw[aI];simp[B,aN.cells];exact wk [0] [] (by simp[w1,aN.cells])
  ·rw[aI];simp
end
end Go.Proofs.YtepeckjhdoicpaaGreatDoor
