import Derived.Test.YtepeckjhdoicpaaGreatDoorG48
import Derived.Test.YtepeckjhdoicpaaGreatDoorG49
set_option linter.all false
set_option maxRecDepth 100000
set_option maxHeartbeats 8000000
namespace Go.Proofs.YtepeckjhdoicpaaGreatDoor
open Go Go.Ab
section
variable[dw:Go.Ab.bI][Go.Ab.dj]
def jS(d:aN)(R:ExR):Option (aN×List (List UInt8)):=
 if R.ok=false then none
 else if R.code=0 then some (R.adO,if R.lines=[] then[Lt] else R.lines) else some (d,lY R.code)
theorem adQ(d:aN)(i:List UInt8):dcV d i=jS d (fF d i):=rfl
theorem iQ(d:aN):jS d (ny d)=none:=rfl
theorem IV(d:aN)(r:aM):jS d ⟨tj d r,[xW],ew d.records r,true⟩=some (tj d r,lY (ew d.records r)):=by
 unfold jS tj;by_cases h:ew d.records r=0
 ·simp[h,lY]
 ·simp[h]
theorem xo(d D:aN)(k:Int):jS d ⟨D,[xW],k,true⟩=some (if k=0 then D else d,lY k):=by
 unfold jS;by_cases h:k=0
 ·simp[h,lY]
 ·simp[h]
theorem qe(d:aN)(L:List (List UInt8))(k:Int):jS d ⟨d,L,k,true⟩=some (d,qf L k):=by
 unfold jS qf;by_cases h:k=0
 ·simp[h]
 ·simp[h]
theorem yS{α:Type}(d:aN)(c:α→Int)(l:List α)(x:α)(mk:List α→aF):
  jS d ⟨(Am d (mk (lX c l x)) true (si c l)).1,[xW],(Am d (mk (lX c l x)) true (si c l)).2.2,true⟩=some (pK d (mk (iL c l x)) (dF l c),lY (pL (mk (iL c l x)) (dF l c))):=by
 rw[xo];unfold Am pK pL si;cases hf:dF l c with
 |true=>simp
 |false=>
  rw[Sc hf];cases hk:j8 (mk (iL c l x))<;>simp[hk]
theorem aaL(d:aN):M3 d≠[]:=by
 unfold M3;split
 ·simp
 ·rename_i h;simpa using h
theorem EP{L:List (List UInt8)}(h:L≠[]):qf L 0=L:=by simp[qf,h]
theorem gJ{d:aN}{w t:List UInt8}(h:∀x∈[[105,110,103,111,116],[109,101,108,116],[98,101,108,108],[111,114,100,101,114]],w≠x):q9 d w t=none:=by
 unfold q9;rw[av (h _ bn),av (h _ bn),av (h _ bn),av (h _ bn)]
theorem ik{d:aN}{w t:List UInt8}(h:∀x∈[[104,97,110,103],[112,108,97,99,101],[98,101,97,109],[107,101,121],[116,111,119,101,114],[116,117,110,101]],w≠x):o_ d w t=none:=by
 unfold o_;rw[av (h _ bn),av (h _ bn),av (h _ bn),av (h _ bn),av (h _ bn),av (h _ bn)]
theorem lO{d:aN}{w:List UInt8}(h:∀x∈[[104,101,108,112],[117,110,100,111],[115,116,97,116,101],[97,114,114,97,110,103,101],[97,117,100,105,116]],w≠x):xP d w=none:=by
 unfold xP;rw[av (h _ bn),av (h _ bn),av (h _ bn),av (h _ bn),av (h _ bn)]
theorem mh{d:aN}{a i:List UInt8}{r:List (List UInt8)}(h:∀x∈[[115,101,116],[117,110,115,101,116],[99,97,110,99,101,108],[114,101,99,97,108,108],[108,101,102,116],[100,114,117,109]],a≠x):qW d (a::r) i=none:=by
 unfold qW;have j:(a::r).getD 0 []=a:=rfl;rw[j,av (λg=>h _ bn g.1),av (λg=>h _ bn g.1),av (λg=>h _ bn g.1),av (λg=>h _ bn g.1),av (λg=>h _ bn g.1),av (λg=>h _ bn g.1)]
theorem lr{d:aN}{i a:List UInt8}(c:¬300<i.length)(hw:cW 32 i=[a]):lP d i=xP d a:=by
 unfold lP;rw[av c,hw];rfl
theorem fm{d:aN}{i a b:List UInt8}{t:List (List UInt8)}(c:¬300<i.length)(hw:cW 32 i=a::b::t):lP d i=(q9 d a (Lib.cut i [32]).2.1).or ((o_ d a (Lib.cut i [32]).2.1).or (qW d (a::b::t) i)):=by
 obtain⟨e1,e2,e3⟩:=jm hw;have f:i.drop (a.length+1)=(Lib.cut i [32]).2.1:=by
  rw[e2,e1];simp only;rw[(bn:a.length+1=(a++[32]).length),(bn:a++32::Lib.join (b::t) [32]=(a++[32])++Lib.join (b::t) [32]),aem]
 have j:(a::b::t).getD 0 []=a:=rfl;unfold lP;rw[av c,hw,av bn,j,f]
theorem VJ(d:aN)(T:List UInt8):jS d ⟨(en d [105,110,103,111,116] T).1,[xW],(en d [105,110,103,111,116] T).2.2,(en d [105,110,103,111,116] T).2.1&&true⟩=q9 d [105,110,103,111,116] T:=by
 have h1:en d [105,110,103,111,116] T=GV d ((h_ T).getD j_) (h_ T).isSome:=q7
 have h2:q9 d [105,110,103,111,116] T=(h_ T).map (ER d):=by simp[q9]
 rw[h1,h2];cases h_ T with
 |none=>rfl
 |some x=>
  have e:=yS d (λy=>bN y.id x.id) d.ab.aG x (λl=>{d.ab with aG:=l});simp only at e;simp only[bY,uw,dz,GV,ER];exact e
theorem Yu(d:aN)(T:List UInt8):jS d ⟨(en d [109,101,108,116] T).1,[xW],(en d [109,101,108,116] T).2.2,(en d [109,101,108,116] T).2.1&&true⟩=q9 d [109,101,108,116] T:=by
 have h1:en d [109,101,108,116] T=Sd d ((nV T).getD nk) (nV T).isSome:=by simp[en]
 have h2:q9 d [109,101,108,116] T=(nV T).map (TI d):=by simp[q9]
 rw[h1,h2];cases nV T with
 |none=>rfl
 |some x=>
  exact xo d _ _
theorem Yv(d:aN)(T:List UInt8):jS d ⟨(en d [98,101,108,108] T).1,[xW],(en d [98,101,108,108] T).2.2,(en d [98,101,108,108] T).2.1&&true⟩=q9 d [98,101,108,108] T:=by
 have h1:en d [98,101,108,108] T=Se d ((lj T).getD mo) (lj T).isSome:=by simp[en]
 have h2:q9 d [98,101,108,108] T=(lj T).map (TJ d):=by simp[q9]
 rw[h1,h2];cases lj T with
 |none=>rfl
 |some x=>
  exact xo d _ _
theorem VK(d:aN)(T:List UInt8):jS d ⟨(en d [111,114,100,101,114] T).1,[xW],(en d [111,114,100,101,114] T).2.2,(en d [111,114,100,101,114] T).2.1&&true⟩=q9 d [111,114,100,101,114] T:=by
 have h1:en d [111,114,100,101,114] T=M7 d ((k9 T).getD jz) (k9 T).isSome:=by simp[en]
 have h2:q9 d [111,114,100,101,114] T=(k9 T).map (M8 d):=by simp[q9]
 rw[h1,h2];cases k9 T with
 |none=>rfl
 |some x=>
  exact xo d _ _
theorem Yw(d:aN)(T:List UInt8):jS d ⟨(en d [104,97,110,103] T).1,[xW],(en d [104,97,110,103] T).2.2,(en d [104,97,110,103] T).2.1&&true⟩=o_ d [104,97,110,103] T:=by
 have h1:en d [104,97,110,103] T=M9 d ((lh T).getD mn) (lh T).isSome:=q7
 have h2:o_ d [104,97,110,103] T=(lh T).map (Lu d):=tt
 rw[h1,h2];cases lh T with
 |none=>rfl
 |some x=>
  have e:=yS d (λy=>bN y.bB x.bB) d.ab.cq x (λl=>{d.ab with cq:=l});simp only at e;simp only[bY,uw,dz,M9,Lu];exact e
theorem VL(d:aN)(T:List UInt8):jS d ⟨(en d [112,108,97,99,101] T).1,[xW],(en d [112,108,97,99,101] T).2.2,(en d [112,108,97,99,101] T).2.1&&true⟩=o_ d [112,108,97,99,101] T:=by
 have h1:en d [112,108,97,99,101] T=GW d ((iJ T).getD ly) (iJ T).isSome:=q7
 have h2:o_ d [112,108,97,99,101] T=(iJ T).map (ES d):=tt
 rw[h1,h2];cases iJ T with
 |none=>rfl
 |some x=>
  have e:=yS d (λy=>bN y.bB x.bB) d.ab.places x (λl=>{d.ab with places:=l});simp only at e;simp only[bY,uw,dz,GW,ES];exact e
theorem Yx(d:aN)(T:List UInt8):jS d ⟨(en d [98,101,97,109] T).1,[xW],(en d [98,101,97,109] T).2.2,(en d [98,101,97,109] T).2.1&&true⟩=o_ d [98,101,97,109] T:=by
 have h1:en d [98,101,97,109] T=M_ d ((ju T).getD mq) (ju T).isSome:=q7
 have h2:o_ d [98,101,97,109] T=(ju T).map (Lv d):=tt
 rw[h1,h2];cases ju T with
 |none=>rfl
 |some x=>
  have e:=yS d (λy=>bN y.name x.name) d.ab.frame x (λl=>{d.ab with frame:=l});simp only at e;simp only[bY,uw,dz,M_,Lv];exact e
theorem aaM(d:aN)(T:List UInt8):jS d ⟨(en d [107,101,121] T).1,[xW],(en d [107,101,121] T).2.2,(en d [107,101,121] T).2.1&&true⟩=o_ d [107,101,121] T:=by
 have h1:en d [107,101,121] T=Dj d ((eI T).getD iY) (eI T).isSome:=q7
 have h2:o_ d [107,101,121] T=(eI T).map (zO d):=tt
 rw[h1,h2];cases eI T with
 |none=>rfl
 |some x=>
  have e:=yS d (λy=>iT y.note x.note) d.ab.bU x (λl=>{d.ab with bU:=l});simp only at e;simp only[bY,uw,dz,Dj,zO];exact e
theorem VM(d:aN)(T:List UInt8):jS d ⟨(en d [116,111,119,101,114] T).1,[xW],(en d [116,111,119,101,114] T).2.2,(en d [116,111,119,101,114] T).2.1&&true⟩=o_ d [116,111,119,101,114] T:=by
 have h1:en d [116,111,119,101,114] T=GU d ((jW T).getD nB) (jW T).isSome:=by simp[en]
 have h2:o_ d [116,111,119,101,114] T=(jW T).map (Na d):=tt
 rw[h1,h2];cases jW T with
 |none=>rfl
 |some x=>
  exact xo d _ 0
theorem Yy(d:aN)(T:List UInt8):jS d ⟨(en d [116,117,110,101] T).1,[xW],(en d [116,117,110,101] T).2.2,(en d [116,117,110,101] T).2.1&&true⟩=o_ d [116,117,110,101] T:=by
 have h1:en d [116,117,110,101] T=M6 d ((lk T).getD oy) (lk T).isSome:=by simp[en]
 have h2:o_ d [116,117,110,101] T=(lk T).map (TK d):=tt
 rw[h1,h2];cases lk T with
 |none=>rfl
 |some x=>
  exact xo d _ 0
theorem Sf(d:aN)(i:List UInt8)(r:List (List UInt8))(c:¬300<i.length)(hw:cW 32 i=[97,114,114,97,110,103,101]::r):jS d (fF d i)=lP d i:=by
 cases r with
 |nil=>
  have hx:fF d i=⟨d,[VF d],0,true⟩:=kQ
  rw[hx,qe,lr c hw];rw[EP bn];simp[xP]
 |cons b t=>
  have g:¬(t.length:Int)+1+1=1:=bd
  have hx:fF d i=ny d:=kb
  rw[hx,iQ,fm c hw];rw[gJ bt,ik bt,mh bt];rfl
theorem Yz(d:aN)(i:List UInt8)(r:List (List UInt8))(c:¬300<i.length)(hw:cW 32 i=[97,117,100,105,116]::r):jS d (fF d i)=lP d i:=by
 cases r with
 |nil=>
  have hx:fF d i=⟨d,M3 d,0,true⟩:=kQ
  rw[hx,qe,lr c hw];rw[EP (aaL d)];simp[xP]
 |cons b t=>
  have g:¬(t.length:Int)+1+1=1:=bd
  have hx:fF d i=ny d:=kb
  rw[hx,iQ,fm c hw];rw[gJ bt,ik bt,mh bt];rfl
theorem aaN(d:aN)(i:List UInt8)(r:List (List UInt8))(c:¬300<i.length)(hw:cW 32 i=[98,101,97,109]::r):jS d (fF d i)=lP d i:=by
 match r,hw with
 |[],hw=>
  obtain⟨-,e⟩:=mT hw;have hx:(fF d i).ok=false:=cv
  rw[lr c hw,lO bt];unfold jS;rw[aB hx]
 |b::t,hw=>
  obtain⟨-,e,-⟩:=jm hw;have hx:fF d i=⟨(en d [98,101,97,109] (Lib.join (b::t) [32])).1,[xW],(en d [98,101,97,109] (Lib.join (b::t) [32])).2.2,(en d [98,101,97,109] (Lib.join (b::t) [32])).2.1&&true⟩:=cv
  rw[hx,Yx,fm c hw,gJ bt,mh bt,e];simp
theorem aaO(d:aN)(i:List UInt8)(r:List (List UInt8))(c:¬300<i.length)(hw:cW 32 i=[98,101,108,108]::r):jS d (fF d i)=lP d i:=by
 match r,hw with
 |[],hw=>
  obtain⟨-,e⟩:=mT hw;have hx:(fF d i).ok=false:=cv
  rw[lr c hw,lO bt];unfold jS;rw[aB hx]
 |b::t,hw=>
  obtain⟨-,e,-⟩:=jm hw;have hx:fF d i=⟨(en d [98,101,108,108] (Lib.join (b::t) [32])).1,[xW],(en d [98,101,108,108] (Lib.join (b::t) [32])).2.2,(en d [98,101,108,108] (Lib.join (b::t) [32])).2.1&&true⟩:=cv
  rw[hx,Yv,fm c hw,ik bt,mh bt,e];simp
theorem VN(d:aN)(i:List UInt8)(r:List (List UInt8))(a:¬300<i.length)(hw:cW 32 i=[99,97,110,99,101,108]::r):jS d (fF d i)=lP d i:=by
 match r,hw with
 |[],hw=>
  have hx:fF d i=ny d:=hJ
  rw[hx,iQ,lr a hw,lO bt]
 |[b],hw=>
  have hx:fF d i=⟨if eU d.dM b=0 then{d with dM:=rf d.dM b} else d,[xW],eU d.dM b,true⟩:=by simp[fF,a,hw,cr,aZ,o9]
  rw[hx,xo,fm a hw,gJ bt,ik bt];simp only[qW];by_cases h0:eU d.dM b=0<;>simp[h0]
 |b::c::t,hw=>
  have g:¬(t.length:Int)+1+1+1=2:=bd
  have hx:fF d i=ny d:=kc
  rw[hx,iQ,fm a hw,gJ bt,ik bt];simp[qW]
theorem aaP(d:aN)(i:List UInt8)(r:List (List UInt8))(a:¬300<i.length)(hw:cW 32 i=[100,114,117,109]::r):jS d (fF d i)=lP d i:=by
 match r,hw with
 |[],hw=>
  have hx:fF d i=ny d:=hJ
  rw[hx,iQ,lr a hw,lO bt]
 |[b],hw=>
  have hx:fF d i=ny d:=hJ
  rw[hx,iQ,fm a hw,gJ bt,ik bt];simp[qW]
 |[b,c],hw=>
  rw[fm a hw,gJ bt,ik bt];cases hb:num b with
  |none=>
   have hx:fF d i=ny d:=by simp[fF,a,hw,cr,aZ,hb]
   rw[hx,iQ];simp[qW,hb]
  |some C=>
   cases hc:num c with
   |none=>
    have hx:fF d i=ny d:=by simp[fF,a,hw,cr,aZ,hb,hc]
    rw[hx,iQ];simp[qW,hb,hc]
   |some D=>
    have hx:fF d i=⟨d,[sI (j4 d.ab.fX C D)],fT d.ab.fX C D,true⟩:=by simp[fF,a,hw,cr,aZ,hb,hc,sj,M4]
    rw[hx,qe];simp[qW,hb,hc]
 |b::c::e::t,hw=>
  have g:¬(t.length:Int)+1+1+1+1=3:=bd
  have hx:fF d i=ny d:=kc
  rw[hx,iQ,fm a hw,gJ bt,ik bt];simp[qW]
theorem aaQ(d:aN)(i:List UInt8)(r:List (List UInt8))(c:¬300<i.length)(hw:cW 32 i=[104,97,110,103]::r):jS d (fF d i)=lP d i:=by
 match r,hw with
 |[],hw=>
  obtain⟨-,e⟩:=mT hw;have hx:(fF d i).ok=false:=cv
  rw[lr c hw,lO bt];unfold jS;rw[aB hx]
 |b::t,hw=>
  obtain⟨-,e,-⟩:=jm hw;have hx:fF d i=⟨(en d [104,97,110,103] (Lib.join (b::t) [32])).1,[xW],(en d [104,97,110,103] (Lib.join (b::t) [32])).2.2,(en d [104,97,110,103] (Lib.join (b::t) [32])).2.1&&true⟩:=cv
  rw[hx,Yw,fm c hw,gJ bt,mh bt,e];simp
theorem aaR(d:aN)(i:List UInt8)(r:List (List UInt8))(c:¬300<i.length)(hw:cW 32 i=[104,101,108,112]::r):jS d (fF d i)=lP d i:=by
 cases r with
 |nil=>
  have hx:fF d i=⟨d,aZ,0,true⟩:=kQ
  rw[hx,qe,lr c hw];rw[EP (by simp[aZ])];simp[xP]
 |cons b t=>
  have g:¬(t.length:Int)+1+1=1:=bd
  have hx:fF d i=ny d:=kb
  rw[hx,iQ,fm c hw];rw[gJ bt,ik bt,mh bt];rfl
theorem YA(d:aN)(i:List UInt8)(r:List (List UInt8))(c:¬300<i.length)(hw:cW 32 i=[105,110,103,111,116]::r):jS d (fF d i)=lP d i:=by
 match r,hw with
 |[],hw=>
  obtain⟨-,e⟩:=mT hw;have hx:(fF d i).ok=false:=cv
  rw[lr c hw,lO bt];unfold jS;rw[aB hx]
 |b::t,hw=>
  obtain⟨-,e,-⟩:=jm hw;have hx:fF d i=⟨(en d [105,110,103,111,116] (Lib.join (b::t) [32])).1,[xW],(en d [105,110,103,111,116] (Lib.join (b::t) [32])).2.2,(en d [105,110,103,111,116] (Lib.join (b::t) [32])).2.1&&true⟩:=cv
  rw[hx,VJ,fm c hw,ik bt,mh bt,e];simp
theorem adR(d:aN)(i:List UInt8)(r:List (List UInt8))(c:¬300<i.length)(hw:cW 32 i=[107,101,121]::r):jS d (fF d i)=lP d i:=by
 match r,hw with
 |[],hw=>
  obtain⟨-,e⟩:=mT hw;have hx:(fF d i).ok=false:=cv
  rw[lr c hw,lO bt];unfold jS;rw[aB hx]
 |b::t,hw=>
  obtain⟨-,e,-⟩:=jm hw;have hx:fF d i=⟨(en d [107,101,121] (Lib.join (b::t) [32])).1,[xW],(en d [107,101,121] (Lib.join (b::t) [32])).2.2,(en d [107,101,121] (Lib.join (b::t) [32])).2.1&&true⟩:=cv
  rw[hx,aaM,fm c hw,gJ bt,mh bt,e];simp
theorem aaS(d:aN)(i:List UInt8)(r:List (List UInt8))(a:¬300<i.length)(hw:cW 32 i=[108,101,102,116]::r):jS d (fF d i)=lP d i:=by
 match r,hw with
 |[],hw=>
  have hx:fF d i=ny d:=hJ
  rw[hx,iQ,lr a hw,lO bt]
 |[b],hw=>
  have hx:fF d i=⟨d,[Lib.itoa (ri d.ab.dR d.ab.cu b).1],(ri d.ab.dR d.ab.cu b).2,true⟩:=by simp[fF,a,hw,cr,aZ,sj]
  rw[hx,qe,fm a hw,gJ bt,ik bt];simp[qW]
 |b::c::t,hw=>
  have g:¬(t.length:Int)+1+1+1=2:=bd
  have hx:fF d i=ny d:=kc
  rw[hx,iQ,fm a hw,gJ bt,ik bt];simp[qW]
theorem aaT(d:aN)(i:List UInt8)(r:List (List UInt8))(c:¬300<i.length)(hw:cW 32 i=[109,101,108,116]::r):jS d (fF d i)=lP d i:=by
 match r,hw with
 |[],hw=>
  obtain⟨-,e⟩:=mT hw;have hx:(fF d i).ok=false:=cv
  rw[lr c hw,lO bt];unfold jS;rw[aB hx]
 |b::t,hw=>
  obtain⟨-,e,-⟩:=jm hw;have hx:fF d i=⟨(en d [109,101,108,116] (Lib.join (b::t) [32])).1,[xW],(en d [109,101,108,116] (Lib.join (b::t) [32])).2.2,(en d [109,101,108,116] (Lib.join (b::t) [32])).2.1&&true⟩:=cv
  rw[hx,Yu,fm c hw,ik bt,mh bt,e];simp
theorem YB(d:aN)(i:List UInt8)(r:List (List UInt8))(c:¬300<i.length)(hw:cW 32 i=[111,114,100,101,114]::r):jS d (fF d i)=lP d i:=by
 match r,hw with
 |[],hw=>
  obtain⟨-,e⟩:=mT hw;have hx:(fF d i).ok=false:=cv
  rw[lr c hw,lO bt];unfold jS;rw[aB hx]
 |b::t,hw=>
  obtain⟨-,e,-⟩:=jm hw;have hx:fF d i=⟨(en d [111,114,100,101,114] (Lib.join (b::t) [32])).1,[xW],(en d [111,114,100,101,114] (Lib.join (b::t) [32])).2.2,(en d [111,114,100,101,114] (Lib.join (b::t) [32])).2.1&&true⟩:=cv
  rw[hx,VK,fm c hw,ik bt,mh bt,e];simp
theorem YC(d:aN)(i:List UInt8)(r:List (List UInt8))(c:¬300<i.length)(hw:cW 32 i=[112,108,97,99,101]::r):jS d (fF d i)=lP d i:=by
 match r,hw with
 |[],hw=>
  obtain⟨-,e⟩:=mT hw;have hx:(fF d i).ok=false:=cv
  rw[lr c hw,lO bt];unfold jS;rw[aB hx]
 |b::t,hw=>
  obtain⟨-,e,-⟩:=jm hw;have hx:fF d i=⟨(en d [112,108,97,99,101] (Lib.join (b::t) [32])).1,[xW],(en d [112,108,97,99,101] (Lib.join (b::t) [32])).2.2,(en d [112,108,97,99,101] (Lib.join (b::t) [32])).2.1&&true⟩:=cv
  rw[hx,VL,fm c hw,gJ bt,mh bt,e];simp
theorem VO(d:aN)(i:List UInt8)(r:List (List UInt8))(a:¬300<i.length)(hw:cW 32 i=[114,101,99,97,108,108]::r):jS d (fF d i)=lP d i:=by
 match r,hw with
 |[],hw=>
  have hx:fF d i=ny d:=hJ
  rw[hx,iQ,lr a hw,lO bt]
 |[b],hw=>
  have hx:fF d i=⟨d,(oN d.ab.dR d.ab.cu b).1,(oN d.ab.dR d.ab.cu b).2,true⟩:=by simp[fF,a,hw,cr,aZ,sj]
  rw[hx,qe,fm a hw,gJ bt,ik bt];simp[qW]
 |b::c::t,hw=>
  have g:¬(t.length:Int)+1+1+1=2:=bd
  have hx:fF d i=ny d:=kc
  rw[hx,iQ,fm a hw,gJ bt,ik bt];simp[qW]
theorem adS(d:aN)(i:List UInt8)(r:List (List UInt8))(a:¬300<i.length)(hw:cW 32 i=[115,101,116]::r):jS d (fF d i)=lP d i:=by
 match r,hw with
 |[],hw=>
  obtain⟨-,e⟩:=mT hw;have e2:Lib.cut [] [32]=([],[],false):=rfl;have hx:fF d i=ny d:=p8
  rw[hx,iQ,lr a hw,lO bt]
 |[b],hw=>
  obtain⟨-,e,e1⟩:=jm hw;obtain⟨-,e2⟩:=mT e1;have hx:fF d i=ny d:=p8
  rw[hx,iQ,fm a hw,gJ bt,ik bt];simp[qW]
 |b::c::t,hw=>
  obtain⟨f1,e,e1⟩:=jm hw;obtain⟨H,e2,-⟩:=jm e1;have R:i.drop (5+b.length)=Lib.join (c::t) [32]:=by
   rw[f1,H];rw[(ca:5+b.length=([115,101,116,32]++b++[32]:List UInt8).length),(bn:([115,101,116]++32::(b++32::Lib.join (c::t) [32]):List UInt8)=([115,101,116,32]++b++[32])++Lib.join (c::t) [32]),aem]
  have hx:fF d i=⟨tj d ⟨1,b,Lib.join (c::t) [32]⟩,[xW],ew d.records ⟨1,b,Lib.join (c::t) [32]⟩,true⟩:=p8
  rw[hx,IV,fm a hw,gJ bt,ik bt];simp[qW,R]
theorem YD(d:aN)(i:List UInt8)(r:List (List UInt8))(c:¬300<i.length)(hw:cW 32 i=[115,116,97,116,101]::r):jS d (fF d i)=lP d i:=by
 cases r with
 |nil=>
  have hx:fF d i=⟨d,(stN d).map rh,0,true⟩:=kQ
  rw[hx,qe,lr c hw];simp[xP]
 |cons b t=>
  have g:¬(t.length:Int)+1+1=1:=bd
  have hx:fF d i=ny d:=kb
  rw[hx,iQ,fm c hw];rw[gJ bt,ik bt,mh bt];rfl
theorem YE(d:aN)(i:List UInt8)(r:List (List UInt8))(c:¬300<i.length)(hw:cW 32 i=[116,111,119,101,114]::r):jS d (fF d i)=lP d i:=by
 match r,hw with
 |[],hw=>
  obtain⟨-,e⟩:=mT hw;have hx:(fF d i).ok=false:=cv
  rw[lr c hw,lO bt];unfold jS;rw[aB hx]
 |b::t,hw=>
  obtain⟨-,e,-⟩:=jm hw;have hx:fF d i=⟨(en d [116,111,119,101,114] (Lib.join (b::t) [32])).1,[xW],(en d [116,111,119,101,114] (Lib.join (b::t) [32])).2.2,(en d [116,111,119,101,114] (Lib.join (b::t) [32])).2.1&&true⟩:=cv
  rw[hx,VM,fm c hw,gJ bt,mh bt,e];simp
theorem aaU(d:aN)(i:List UInt8)(r:List (List UInt8))(c:¬300<i.length)(hw:cW 32 i=[116,117,110,101]::r):jS d (fF d i)=lP d i:=by
 match r,hw with
 |[],hw=>
  obtain⟨-,e⟩:=mT hw;have hx:(fF d i).ok=false:=cv
  rw[lr c hw,lO bt];unfold jS;rw[aB hx]
 |b::t,hw=>
  obtain⟨-,e,-⟩:=jm hw;have hx:fF d i=⟨(en d [116,117,110,101] (Lib.join (b::t) [32])).1,[xW],(en d [116,117,110,101] (Lib.join (b::t) [32])).2.2,(en d [116,117,110,101] (Lib.join (b::t) [32])).2.1&&true⟩:=cv
  rw[hx,Yy,fm c hw,gJ bt,mh bt,e];simp
theorem aaV(d:aN)(i:List UInt8)(r:List (List UInt8))(c:¬300<i.length)(hw:cW 32 i=[117,110,100,111]::r):jS d (fF d i)=lP d i:=by
 cases r with
 |nil=>
  have hx:fF d i=⟨tj d ⟨3,[],[]⟩,[xW],ew d.records ⟨3,[],[]⟩,true⟩:=by simp[fF,c,hw,cr,aZ,o9]
  rw[hx,IV,lr c hw];simp[xP]
 |cons b t=>
  have g:¬(t.length:Int)+1+1=1:=bd
  have hx:fF d i=ny d:=kb
  rw[hx,iQ,fm c hw];rw[gJ bt,ik bt,mh bt];rfl
theorem YF(d:aN)(i:List UInt8)(r:List (List UInt8))(a:¬300<i.length)(hw:cW 32 i=[117,110,115,101,116]::r):jS d (fF d i)=lP d i:=by
 match r,hw with
 |[],hw=>
  have hx:fF d i=ny d:=hJ
  rw[hx,iQ,lr a hw,lO bt]
 |[b],hw=>
  have hx:fF d i=⟨tj d ⟨2,b,[]⟩,[xW],ew d.records ⟨2,b,[]⟩,true⟩:=by simp[fF,a,hw,cr,aZ,o9]
  rw[hx,IV,fm a hw,gJ bt,ik bt];simp[qW]
 |b::c::t,hw=>
  have g:¬(t.length:Int)+1+1+1=2:=bd
  have hx:fF d i=ny d:=kc
  rw[hx,iQ,fm a hw,gJ bt,ik bt];simp[qW]
theorem adT(d:aN)(i:List UInt8):dcV d i=lP d i:=by
 rw[adQ];by_cases c:300<i.length
 ·simp[fF,lP,c,iQ]
 cases hw:cW 32 i with
 |nil=>exact absurd hw (iI _ _)
 |cons a r=>
 by_cases f:a∈aZ
 ·have J:a=[97,114,114,97,110,103,101]∨a=[97,117,100,105,116]∨a=[98,101,97,109]∨a=[98,101,108,108]∨a=[99,97,110,99,101,108]∨a=[100,114,117,109]∨a=[104,97,110,103]∨a=[104,101,108,112]∨a=[105,110,103,111,116]∨a=[107,101,121]∨a=[108,101,102,116]∨a=[109,101,108,116]∨a=[111,114,100,101,114]∨a=[112,108,97,99,101]∨a=[114,101,99,97,108,108]∨a=[115,101,116]∨a=[115,116,97,116,101]∨a=[116,111,119,101,114]∨a=[116,117,110,101]∨a=[117,110,100,111]∨a=[117,110,115,101,116]:=by simpa[aZ]using f
  rcases J with rfl|rfl|rfl|rfl|rfl|rfl|rfl|rfl|rfl|rfl|rfl|rfl|rfl|rfl|rfl|rfl|rfl|rfl|rfl|rfl|rfl
  ·exact Sf d i r c hw
  ·exact Yz d i r c hw
  ·exact aaN d i r c hw
  ·exact aaO d i r c hw
  ·exact VN d i r c hw
  ·exact aaP d i r c hw
  ·exact aaQ d i r c hw
  ·exact aaR d i r c hw
  ·exact YA d i r c hw
  ·exact adR d i r c hw
  ·exact aaS d i r c hw
  ·exact aaT d i r c hw
  ·exact YB d i r c hw
  ·exact YC d i r c hw
  ·exact VO d i r c hw
  ·exact adS d i r c hw
  ·exact YD d i r c hw
  ·exact YE d i r c hw
  ·exact aaU d i r c hw
  ·exact aaV d i r c hw
  ·exact YF d i r c hw
 ·have K:aZ.any (λx=>decide (a=x))=false:=by
   rw[cj];intro x hx;simp only[al];exactλe=>f (e▸hx)
  have hx:fF d i=ny d:=by
   have j:(a::r).getD 0 []=a:=rfl;unfold fF;rw[av c,hw,j,aB K]
  have iR:∀{l:List (List UInt8)},(∀y∈l,y∈aZ)→∀x∈l,a≠x:=λh x hx e=>f (e▸h x hx);rw[hx,iQ];cases r with
  |nil=>rw[lr c hw,lO (iR bt)]
  |cons b t=>
   rw[fm c hw,gJ (iR bt),ik (iR bt),mh (iR bt)];rfl
end
open Go.RowKit
section
variable[dw:Go.Ab.bI][Go.Ab.dj]
theorem yT{x:Ctx}{n:Nat}{S S1:St}{b:Nat}{l:List UInt8}{a:Act}{w:World}{A:Nat→Prop}{m:dt}(F:xQ x n S b l a w A m)(B:fQ S S1):∃A' m',xQ x n S1 b l a w A' m':=by
 obtain⟨A',m',h⟩:=B _ _ _ _ _ _ (xp F.inv);exact⟨A',m',Nd F h⟩
theorem pP{x:Ctx}{n:Nat}{S S1:St}{b:Nat}{l:List UInt8}{a:Act}{w:World}{A:Nat→Prop}{m:dt}{c:Code}{R:Act→World→Prop}{Q:Exit→Act→World→Prop}(g:codeOk n c=true)(F:xQ x n S b l a w A m)(h:vv Tryz.prog n c S (qi (λf=>fQ f S1) λ_ _=>False))
  (Y:∀d w' A' m',xQ x n S1 b l d w' A' m'→R d w'):c.wp Tryz.prog (Exit.then R Q) a w:=
 adU F g h λe f d w' A' m' t Z=>by
  cases e with
  |normal=>
   obtain⟨i,J,h2⟩:=yT Z t;exact Y _ _ _ _ h2
  |_=>exact t.elim
noncomputable def TM:Code:=match Tryz.f5.body with
 |some (.seq _ (.seq _ (.seq _ (.seq _ (.seq _ (.seq _ (.seq (.seq _ (.block _ (.loop c))) _)))))))=>c
 |_=>.skip
noncomputable def runIn:Code:=match TM with
 |.seq _ (.seq _ (.seq (.block _ (.seq _ (.seq _ (.seq _ (.seq _ (.seq _ (.block _ (.loop c)))))))) _))=>c
 |_=>.skip
def bp(b:Nat):PV:=.raw (.pointer (some ⟨b,0,none⟩))
def NJ(b:Nat)(L R:List (List UInt8))(i k:Nat):Fr:=[(6,bp b),(7,.pb 0 0),(30,.sl 1 (au L)),(31,.int .i64 L.length),(32,.int .i64 i),(47,.sl 1 (au R)),(48,.int .i64 R.length),(49,.int .i64 k)]
theorem Lx{x:Ctx}{b:Nat}{L R:List (List UInt8)}{i:Nat}{D:aN}{T:List UInt8}{Q:Exit→Act→World→Prop}(e:Qs R)(s:T.length≤600000600000)
  (h:∀a w A m,xQ x 59 ⟨NJ b L R i R.length,[some (.box D.cells)]⟩ b (T++Ao R) a w A m→Q (.exit 2) a w):
  ∀(k' k:Nat)(a:Act)(w:World)(A:Nat→Prop)(m:dt),R.length<k'+k→k≤R.length→xQ x 59 ⟨NJ b L R i k,[some (.box D.cells)]⟩ b (T++Ao (R.take k)) a w A m→Code.rounds Tryz.prog runIn Q k' a w
 |0,k,a,w,A,m,hk,hi,_=>absurd hk bd
 |k'+1,k,a,w,A,m,hk,hi,F=>by
  rw[GG];refine mi ?_;refine pP (S1:=⟨(50,.bool (decide (k<R.length)))::NJ b L R i k,[some (.box D.cells)]⟩) bl F ?_ λa1 w1 A1 m1 o=>?_
  ·simp[NJ,bp];exact wk [0] [] cf
  refine mi (y7 (t:=decide (k<R.length)) ?_ (λht=>wp_skip ?_) λht=>wp_exit ?_)
  ·exact zL o.inv rfl bt
  rotate_left
  ·have y:k=R.length:=by have:=SZ ht;omega
   subst y;rw[aI]at o;obtain⟨z,J,h2⟩:=yT (S1:=⟨NJ b L R i R.length,[some (.box D.cells)]⟩) o (wk [0] [] (by simp[NJ,bp,aN.cells]));exact h _ _ _ _ h2
  have f:k<R.length:=jI ht;have f3:=e.2 _ (ai f);have f4:=IX e k;have N:=aQ R;refine mi (ZJ (mi ?_));refine pP (S1:=⟨(14,.str R[k])::NJ b L R i k,[some (.box D.cells)]⟩) bl o ?_ λa2 w2 z J j=>?_
  ·simp[NJ,bp,f,N,BV];exact wk [0] [] cf
  refine sy ?_;refine IM (K:=λn=>fQ n ⟨(53,.str R[k])::NJ b L R i k,[some (.box D.cells)]⟩) bl rfl (xp j.inv) ?_ λv3 S3 A3 m3 w3 S B=>?_
  ·simp[NJ,bp];exact wk [0] [] cf
  obtain⟨a0,a3,l⟩:=yT (Nd j B) S;refine IM (K:=λn=>fQ n ⟨(54,.str (R[k]++[10]))::NJ b L R i k,[some (.box D.cells)]⟩) bl rfl (xp l.inv) ?_ λv4 S4 A4 m4 C E V=>?_
  ·simp[NJ,bp];exact⟨bd,wk [0] [] cf⟩
  obtain⟨Y,G,g⟩:=yT (Nd l V) E;obtain⟨c,Z,p⟩:=Yo g.inv (t:=54) rfl bt;have q:=Dd g.inv (t:=6) rfl;rw[oe bt]at q;have H:c.size=c.data.toList.length:=by rw[il];rfl
  have I:=TL g c (by rw[H,p];simp;omega);refine u4 (R:=λv w'=>∀d u,d<59→xQ x 59 ⟨put ((54,.str (R[k]++[10]))::NJ b L R i k) (some d) .top,[some (.box D.cells)]⟩ b (T++Ao (R.take k)++c.data.toList) (((a2.put (some 53) v3).put (some 54) v4).put (some d) u) w' Y G) rfl (qo (xs:=[_,_]) (ts:=_) rfl rfl ?_) λv w5 M=>?_
  ·show gT Tryz.prog 12 #[((a2.put (some 53) v3).put (some 54) v4).tmps.getD 6 undef,((a2.put (some 53) v3).put (some 54) v4).tmps.getD 54 undef] C _;rw[show((a2.put (some 53) v3).put (some 54) v4).tmps.getD 6 undef=_ from q,show((a2.put (some 53) v3).put (some 54) v4).tmps.getD 54 undef=_ from Z];exact I
  have r:=M 55 v bt;have e1:T++Ao (R.take k)++c.data.toList=T++Ao (R.take (k+1)):=by rw[p,Ly R f];simp
  rw[e1]at r;refine pP (S1:=⟨NJ b L R i (k+1),[some (.box D.cells)]⟩) bl r ?_ λP W O U X=>Lx e s h k' (k+1) P W O U bd bd X;have w1:IntKind.i64.wrap ((k:Int)+1)=(k:Int)+1:=bX (by have:=e.1;omega) (by have:=e.1;omega);simp[NJ,bp];exact wk [0] [] (by simp[aN.cells,w1])
def Gt(b:Nat)(L:List (List UInt8))(i:Nat):Fr:=[(6,bp b),(7,.pb 0 0),(30,.sl 1 (au L)),(31,.int .i64 L.length),(32,.int .i64 i)]
def frD(b:Nat)(L:List (List UInt8))(i:Nat)(O:Option (aN×List (List UInt8))):Fr:=(10,.pb 1 0)::(11,.sl 1 (au (fI O)))::(12,.int .i64 (Yt O))::Gt b L i
theorem Lz{x:Ctx}{b:Nat}{L:List (List UInt8)}{Q:Exit→Act→World→Prop}(hl:L.length≤60)(n:∀y∈L,y.length≤1048576)
  (p:∀a w A m,xQ x 59 ⟨Gt b L L.length,[some (.box (wg L).cells)]⟩ b (runT L) a w A m→Q (.exit 0) a w):
  ∀(k' i:Nat)(a:Act)(w:World)(A:Nat→Prop)(m:dt),L.length<k'+i→i≤L.length→xQ x 59 ⟨Gt b L i,[some (.box (wg (L.take i)).cells)]⟩ b (runT (L.take i)) a w A m→Code.rounds Tryz.prog TM Q k' a w
 |0,i,a,w,A,m,hk,hi,_=>absurd hk bd
 |k'+1,i,a,w,A,m,hk,hi,F=>by
  have hT:=PH L i hi;have I:=Nf (L.take i);rw[GG];refine mi ?_;refine pP (S1:=⟨(33,.bool (decide (i<L.length)))::Gt b L i,[some (.box (wg (L.take i)).cells)]⟩) bl F ?_ λa1 w1 A1 m1 o=>?_
  ·simp[Gt,bp];exact wk [0] [] cf
  refine mi (y7 (t:=decide (i<L.length)) ?_ (λht=>wp_skip ?_) λht=>wp_exit ?_)
  ·exact zL o.inv rfl bt
  rotate_left
  ·have z:i=L.length:=by have:=SZ ht;omega
   subst z;rw[aI]at o;obtain⟨C,J,h2⟩:=yT (S1:=⟨Gt b L L.length,[some (.box (wg L).cells)]⟩) o (wk [0] [] (by simp[Gt,bp,aN.cells]));exact p _ _ _ _ h2
  have c:i<L.length:=jI ht;have V:=LA L c;have B:=EV L c;have N:=aQ L;have g:=BT (wg (L.take i)) L[i] I (n _ (ai c));rw[adT]at g;have S:∀R,lP (wg (L.take i)) L[i]=some R→Qs R.2:=λR h=>IY I h;unfold AX at V;unfold stepT at B;generalize wg (L.take i)=D at *;generalize hO:lP D L[i]=O at *;generalize runT (L.take i)=T at *;have w1:=wS i;refine mi ?_;refine rP (Q:=λe a w=>e=.normal∧∃A m,xQ x 59 ⟨Gt b L i,[some (.box (wg (L.take (i+1))).cells)]⟩ b (runT (L.take (i+1))) a w A m) ?_ λe a w ⟨he,A,m,h⟩=>?_;rotate_left
  ·subst he;show Code.wp _ _ _ _ _;refine pP (S1:=⟨Gt b L (i+1),[some (.box (wg (L.take (i+1))).cells)]⟩) bl h ?_ λq r j W E=>Lz hl n p k' (i+1) q r j W bd bd E;simp[Gt,bp];exact wk [0] [] (by simp[aN.cells,w1])
  refine ZJ ?_;refine mi ?_;refine pP (S1:=⟨(9,.str L[i])::Gt b L i,[some (.box D.cells)]⟩) bl o ?_ λa2 w2 C J H=>?_
  ·simp[Gt,bp,c,N,BV];exact wk [0] [] cf
  refine mi ?_;refine pP (S1:=⟨frD b L i O,[some (.box D.cells),some (.box (dcD O).cells)]⟩) bl H ?_ λa3 w3 A3 m3 K=>?_
  ·simp only[aN.cells]at g;simp[Gt,bp,aN.cells];refine u0 g ?_;simp;exact wk [0,1] [] (by simp[aN.cells,frD,Gt,bp])
  refine mi (mi ?_);refine pP (S1:=⟨(44,.bool (decide (Yt O≠0)))::frD b L i O,[some (.box D.cells),some (.box (dcD O).cells)]⟩) bl K ?_ λa4 M P Y f=>?_
  ·simp[frD,Gt,bp];exact wk [0,1] [] cf
  refine y7 (t:=decide (Yt O≠0)) ?_ (λht=>?_) λht=>wp_skip ?_
  ·exact zL f.inv rfl bt
  ·cases O with
   |some R=>simp[Yt]at ht
   |none=>
    have s:=Dd f.inv (t:=6) rfl;rw[oe bt]at s;refine mi (sy ?_);have G:=TL f ⟨#[63,10]⟩ (by show T.length+2≤_;omega);refine u4 (R:=λv w'=>∀d u,d<59→xQ x 59 ⟨put ((44,.bool (decide (Yt none≠0)))::frD b L i none) (some d) .top,[some (.box D.cells),some (.box (dcD none).cells)]⟩ b (T++[63,10]) (a4.put (some d) u) w' P Y) rfl (qo (xs:=[_,_]) (ts:=_) rfl rfl ?_) λv Z k=>?_
    ·show gT Tryz.prog 12 #[a4.tmps.getD 6 undef,.string _] M _;rw[show a4.tmps.getD 6 undef=_ from s];exact G
    have l:=k 45 v bt;refine wp_exit ⟨rfl,?_⟩;rw[V,B];obtain⟨j,W,X⟩:=yT (S1:=⟨Gt b L i,[some (.box D.cells)]⟩) l (wk [0] [] (by simp[frD,Gt,bp,aN.cells]));exact⟨_,_,X⟩
  cases O with
  |none=>simp[Yt]at ht
  |some R=>
  show Code.wp _ _ _ _ _;refine mi ?_;refine pP (S1:=⟨(11,.sl 1 (au R.2))::Gt b L i,[some (.box R.1.cells)]⟩) bl f ?_ λa5 Z A5 m5 k=>?_
  ·simp[frD,Gt,bp,dcD,fI,aN.cells];exact wk [0] [] cf
  refine mi ?_;have U:=aQ R.2;refine pP (S1:=⟨NJ b L R.2 i 0,[some (.box R.1.cells)]⟩) bl k ?_ λa6 w6 A6 m6 l=>?_
  ·simp[Gt,bp,U];exact wk [0] [] (by simp[aN.cells,NJ,bp])
  have hf:=S R rfl;refine ZJ (wA (R.2.length+1) (Lx (T:=T) (D:=R.1) (i:=i) hf bd (λq r j W X=>?_) _ 0 a6 w6 A6 m6 bd bd (by simpa[Ao]using l)));refine⟨rfl,?_⟩;rw[V,B];obtain⟨A8,m8,h8⟩:=yT (S1:=⟨Gt b L i,[some (.box R.1.cells)]⟩) X (wk [0] [] (by simp[NJ,Gt,bp,aN.cells]));exact⟨_,_,h8⟩
theorem YH{x:Ctx}{n:Nat}{S:St}{a:Act}{w w':World}{A:Nat→Prop}{m:dt}(b:Inv x n S a w A m)(h1:w'.os=w.os)(h2:w'.tape=w.tape)(d:w'.output=w.output)(hs:w.heap.size≤w'.heap.size)(hb:∀q,q<w.heap.size→w'.heap[q]?=w.heap[q]?):Inv x n S a w' A m:=by
 have p:∀q,nL m (a_ S.H) q→q<w.heap.size:=λq ⟨k,o,C,hk,e⟩=>by
  obtain⟨ob,C',s,ho⟩:=b.eA.at_ k o hk;rw[e]at s;cases s;cases o with
  |arr z rows=>exact ho.2.1
  |box cs=>exact ho.2.1
 have hA:∀q,A q→w'.heap[q]?=w.heap[q]?:=λq c=>hb q (b.mS.lt q c);exact⟨⟨h1.trans b.cJ.os,h2.trans b.cJ.tape,d.trans b.cJ.output,b_ b.cJ.size hs,λq c hn=>by rw[hb q (bH c b.cJ.size),b.cJ.block q c hn],zk⟩,b.sub,
  b.mS.mono (λq c=>bH (b.mS.lt q c) hs) (λ_ h=>h) hA,Lw b.eA hA (λq c=>hb q (p q c)) hs,b.own,λt=>(b.fr t).mono (λ_ h=>h) hA (Shaped.refl _ _ _),b.sz,b.df⟩
theorem IZ(s:List UInt8)(hs:s.length≤1048576):H0 5 [.str s] (.dn [.str (rdT s),.int .i64 (rdC s)]):=
 oX Tryz.func5 bl rfl rfl λA w vs hA D ey=>by
  obtain⟨v0,rfl⟩:∃v0,vs = #[v0]:=Array.size_eq_one_iff.1 D;have F:dC A w (.str s) v0:=ey 0 _ rfl;have i:Inv ⟨w,A,λ_=>False,λ_=>undef⟩ 59 _ _ w A (λ_=>none):=VP (v0:=v0) hA bt;have I:=dY 10 s;have ai:=lF 10 s;have P:∀y∈zP s,y.length≤1048576:=λy hy=>by
   have:y∈cW 10 s:=by
    unfold zP at hy;split at hy
    ·exact(List.dropLast_sublist _).subset hy
    ·exact hy
   have:=I y this;omega
  have h0:=Dd i (t:=0) rfl;have Q:=i.asp (d:=0) (p:=.str s) (by rw[h0];exact .dB F);refine calls_of_wp Tryz.func5 rfl ?_;refine mi ?_;refine piece hm (S1:=⟨[(2,.str []),(3,.int .i64 0),(0,.str s)],[]⟩) bl Q ?_ λa1 w1 A1 m1 S=>?_
  ·simp;exact wk [] [] bn
  refine mi ?_;refine piece hm (S1:=⟨[(4,.sf 0 1),(5,.str ((cW 10 s).getLast (iI _ _))),(2,.str []),(3,.int .i64 0)],[some (.arr 1 (au (cW 10 s).dropLast))]⟩) bl S ?_ λa2 w2 A2 m2 O=>?_
  ·simp;refine u1 (Ng s hs) ?_;simp;exact wk [0] [] bn
  refine mi ?_;refine piece hm (S1:=⟨[(4,.sl 1 (au (zP s))),(2,.str []),(3,.int .i64 0)],[]⟩) bl O ?_ λa3 w3 A3 m3 W=>?_
  ·have G:(cW 10 s).dropLast++[(cW 10 s).getLast (iI _ _)]=cW 10 s:=abm _;have N:=aQ (cW 10 s).dropLast;rw[List.length_dropLast]at N;unfold zP;generalize hE:(cW 10 s).getLast (iI _ _)=E at *;by_cases h0:E=[]
   ·subst h0;simp;exact wk [] [0] bn
   ·simp[h0];refine⟨b4,bd,bd,wk [] [0] ?_⟩;have e:au (cW 10 s)=au (cW 10 s).dropLast++[[.str E]]:=by
     conv=>lhs;rw[←G]
     simp[au]
    simp[e]
  have Y:∀w',jk (λ_=>False) w w'→sC A w':=λw' hm=>hA.mono (λq a=>bH (hA.lt q a) hm.size) (λ_ h=>h) λq a=>hm.block q (hA.lt q a) λh=>h;have N:=aQ (zP s);refine mi (mi ?_);refine piece hm (S1:=⟨[(28,.bool (decide ((60:Int)<((zP s).length:Int)))),(4,.sl 1 (au (zP s))),(2,.str []),(3,.int .i64 0)],[]⟩) bl W ?_ λa4 c Z U V=>?_
  ·simp[N];exact wk [] [] bn
  refine y7 (t:=decide ((60:Int)<((zP s).length:Int))) (zL V rfl bt) (λht=>?_) λht=>wp_skip ?_
  ·have X:(60:Int)<((zP s).length:Int):=jI ht;have j:60<(zP s).length:=bd
   refine mi ?_;refine piece hm (S1:=⟨[(2,.str []),(3,.int .i64 5)],[]⟩) bl V ?_ λa5 H A5 m5 g=>?_
   ·simp;exact wk [] [] bn
   have l:=g.cJ;refine wp_ret (TN (g.base (y:=⟨w,A,λ_=>False,λ_=>undef⟩) rfl rfl l (Y _ l) λb hb=>.inl hb) bl ⟨cw,cw,cw⟩ ?_ rfl);simp[rdT,rdC,j]
  have X:¬(60:Int)<((zP s).length:Int):=SZ ht;have j:¬60<(zP s).length:=bd
  refine mi (sy ?_);refine u4 (R:=λv w'=>v=.pointer (some ⟨c.heap.size,0,none⟩)∧w'=c.alloc (.cells #[.pointer none,.slice none 0 0] 56)) rfl (cX ?_ ⟨rfl,rfl⟩) λv H ⟨a0,f⟩=>?_
  ·have hz:∀w,(zeroValue 56).run Tryz.prog w=.ok (.agg #[.pointer none,.slice none 0 0]) w:=λw=>bl
   simp[execOp,Instr.alloc,hz,newVar,newRow,Value.cells]
  subst a0;have m:xQ ⟨w,A,λ_=>False,λ_=>undef⟩ 59 ⟨put [(28,.bool (decide ((60:Int)<((zP s).length:Int)))),(4,.sl 1 (au (zP s))),(2,.str []),(3,.int .i64 0)] (some 6) (bp c.heap.size),[]⟩ c.heap.size [] (a4.put (some 6) (.pointer (some ⟨c.heap.size,0,none⟩))) H Z U:=by
   have hb:H.heap[c.heap.size]?=some (.cells #[.pointer none,.slice none 0 0] 56 (0,0)):=by rw[f];exact heap_alloc_new c _
   have ho:∀q,q<c.heap.size→H.heap[q]?=c.heap[q]?:=λq a=>by rw[f];exact Lib.alloc_old c _ q a
   have n:c.heap.size<H.heap.size:=by rw[f];simp
   have g:=YH (w':=H) V (by rw[f];rfl) (by rw[f];rfl) (by rw[f];rfl) (Wz n) ho;refine⟨g.val (d:=some 6) (p:=bp c.heap.size) (v:=.pointer (some ⟨c.heap.size,0,none⟩)) bt (.dB (.raw _)),?_,n,V.cJ.size,λq a=>?_⟩
   ·rw[f];exact Lib.fresh_isBuilder 56 5 c
   ·have aj:q<c.heap.size:=by
     rcases a with h|⟨k,o,C,hk,_⟩
     ·exact V.mS.lt q h
     ·simp[a_]at hk
    refine⟨bd,λp v T fz r=>?_⟩;rw[hb]at r;cases r;simp[Value.ownBlock]
  generalize c.heap.size=b at m⊢;show Code.wp _ _ _ _ _;refine mi ?_;have u:=I0;simp only[aN.cells]at u;refine pP (S1:=⟨[(6,bp b),(7,.pb 0 0),(4,.sl 1 (au (zP s)))],[some (.box I1.cells)]⟩) bl m ?_ λa6 w6 A6 m6 a9=>?_
  ·simp[bp];refine u0 u ?_;simp;exact wk [0] [] cf
  refine mi (mi ?_);refine pP (S1:=⟨Gt b (zP s) 0,[some (.box I1.cells)]⟩) bl a9 ?_ λa7 w7 A7 m7 aa=>?_
  ·simp[bp,N];exact wk [0] [] (by simp[aN.cells,Gt,bp])
  refine ZJ (wA ((zP s).length+1) (Lz (L:=zP s) bd P (λa8 w8 A8 m8 ab=>?_) _ 0 a7 w7 A7 m7 bd bd (by simpa[wg,runT]using aa)));simp only[Exit.inBlock,gk];show Code.wp _ _ _ _ _;refine mi (sy ?_);obtain⟨A9,m9,J⟩:=yT (S1:=⟨[(6,bp b)],[]⟩) ab (wk [] [] (by simp[Gt,bp]));have x:=Dd J.inv (t:=6) rfl;rw[oe bt]at x;refine u4 (R:=λv w'=>v=.string ⟨(runT (zP s)).toArray⟩∧RowKit.Below b w8 w') rfl (qo (xs:=[_]) (ts:=_) rfl rfl ?_) λv ac ⟨ad,ae⟩=>?_
  ·show gT Tryz.prog 13 #[a8.tmps.getD 6 undef] w8 _;rw[x];unfold gT;rw[enters Tryz.func13 bl rfl];exact⟨rfl,(Tryz.Builder_String_any b b (runT (zP s)) w8 J.bld (Wz J.lt)).mono λe w' ⟨he,h2⟩=>⟨_,he,rfl,h2⟩⟩
  subst ad;have z:jk (λ_=>False) w ac:=Sg J.inv.cJ ae J.new;have af:=(J.inv.val (d:=some 58) (p:=.str (runT (zP s))) (v:=.string ⟨(runT (zP s)).toArray⟩) bt (.dB (.str _ _ bn))).base (y:=⟨w,A,λ_=>False,λ_=>undef⟩) rfl rfl z (Y _ z) λb hb=>.inl hb;refine my (K:=λS'=>fQ S' ⟨[(2,.str (runT (zP s))),(3,.int .i64 0)],[]⟩) bl (λak al am an ao ag ah=>?_) _ false _ _ _ _ _ bl af ?_
  ·obtain⟨ap,aq,M⟩:=ag _ _ _ _ _ _ ah;have B:=M.cJ;show Code.wp _ _ _ _ _;refine wp_ret (TN (M.base rfl rfl B (Y _ B) λb hb=>.inl hb) bl ⟨cw,cw,cw⟩ ?_ rfl);simp[rdT,rdC,j]
  ·simp;exact wk [] [] bn
theorem ab0(s:List UInt8)(hs:s.length≤9223372036854775807):H0 3 [.str s] (.bool true):=by
 refine iF hm Tryz.func3 ?_;simp;intro h;refine u0 (I2 s bd) ?_;simp;refine u0 (IZ s bd) ?_;simp
theorem afo(q:List PV)(h:aar [.one .str] q):H0 3 q (.bool true):=by
 obtain⟨X,r0,rfl,f0,z0⟩:=ab_ h;obtain rfl:=adM z0;obtain⟨s,rfl,hs⟩:=agQ f0;exact ab0 s hs
end
end Go.Proofs.YtepeckjhdoicpaaGreatDoor
