import Derived.Test.YtepeckjhdoicpaaGreatDoorG21
import Derived.Test.YtepeckjhdoicpaaGreatDoorG24
import Derived.Lib.AppendStr
import Derived.Lib.Strings
import Derived.Lib.Walk
set_option linter.all false
set_option maxRecDepth 100000
set_option maxHeartbeats 8000000
namespace Go.Proofs.YtepeckjhdoicpaaGreatDoor
open Go Go.Ab Go.RowKit
section
variable[dw:Go.Ab.bI][Go.Ab.dj]
theorem tB:Tryz.prog.underlying 53=some (.pointer 56):=bl
theorem tU:Tryz.prog.underlying 188=some .unsafePointer:=bl
theorem acH:∃j:TypeInfo,Tryz.prog.info? 56=some j∧j.size=2:=by
 have h:(Tryz.prog.info? 56).map (λi=>TypeInfo.size i)=some 2:=bl
 exact bh.1 h
theorem ah1:liesAt Tryz.prog Tryz.prog.depth 56 (2/Tryz.prog.cellsOf 56) 0 56 1=true:=bl
theorem EU(b:Nat)(w:World)(h0:w.cell? ⟨b,0,none⟩=some (.pointer (some ⟨b,0,none⟩))):
  Calls Tryz.prog 23 #[.pointer (some ⟨b,0,none⟩)] w λe w'=>e=.returned (.tuple #[])∧w'=w:=by
 obtain⟨j,d,_⟩:=acH
 go_enter Tryz.func23,Tryz.ntmps23
 go_wp2
 rw[Lib.run_neq_ptr_same w _ tB d]
 go_wp2
 go_end0
 exact⟨rfl,rfl⟩
theorem Dl(b:Nat)(w:World)(h0:w.cell? ⟨b,0,none⟩=some (.pointer none))(T:w.shape? b=some (56,2))(E:w.frozen? ⟨b,0,none⟩=false):
  Calls Tryz.prog 23 #[.pointer (some ⟨b,0,none⟩)] w λe w'=>e=.returned (.tuple #[])∧w'=w.setCell ⟨b,0,none⟩ (.pointer (some ⟨b,0,none⟩)):=by
 obtain⟨j,d,F⟩:=acH
 go_enter Tryz.func23,Tryz.ntmps23
 go_wp2
 rw[Lib.run_to_unsafe w ⟨b,0,none⟩ tB tU d (by rw[F];decide) T (Nat.zero_lt_succ 1)];simp only[Result.andThen];rw[afF]
 go_wp2
 rw[T5 Tryz.func84 bl bl bl (e:=Extern.AbiNoEscape.same) bl];rw[Lib.run_noEscape];simp only[Result.andThen];rw[afF]
 go_wp2
 rw[Lib.run_from_unsafe w ⟨b,0,none⟩ tU tB d T ah1];simp only[Result.andThen];rw[afF]
 go_wp2
 go_end0
 exact⟨rfl,rfl⟩
theorem aht:∃i:TypeInfo,Tryz.prog.info? 5=some i∧i.zero=some (.int .u8 0)∧i.size=1∧i.bytes=1:=by
 have h:(Tryz.prog.info? 5).map (λi=>(TypeInfo.zero i,TypeInfo.size i,TypeInfo.bytes i))=some (some (.int .u8 0),1,1):=bl
 obtain⟨i,h1,h2⟩:=bh.1 h;simp only[fa]at h2;exact⟨i,h1,h2.1,h2.2.1,h2.2.2⟩
theorem tS:Tryz.prog.underlying 54=some (.slice 5):=bl
theorem asr:Tryz.prog.underlying 9=some .string:=bl
theorem Sg{w0 w w':World}{b:Nat}(hm:jk (λ_=>False) w0 w)(hb:RowKit.Below b w w')(h:w0.heap.size≤b):jk (λ_=>False) w0 w':=
 ⟨hb.os.trans hm.os,hb.tape.trans hm.tape,hb.output.trans hm.output,b_ hm.size hb.size,λq o hn=>(hb.block q (bH o h)).trans (hm.block q o hn),zk⟩
theorem TN{P:Program}{fn:Func}{n:Nat}{fr:Fr}{w0 w:World}{A0:Nat→Prop}{gh:Nat→Value}{a:Act}{m:dt}{res:PV}(b:Inv ⟨w0,A0,λ_=>False,gh⟩ n ⟨fr,[]⟩ a w A0 m)(hn:fn.results.toList.all (AU n)=true)(c:jF P ⟨fr,[]⟩ fn.results.toList)(M:rL P ⟨fr,[]⟩ fn.results.toList=res)(g:mJ res=true):
  bodyPost P fn (Kv A0 w0 res) .ret a w:=by
 obtain⟨v,h,J⟩:=TC (P:=P) b.eA rfl b.yy rfl hn c;rw[M]at J;exact⟨b.df,v,h,v,rfl,b.cJ,(zm (H:=[]) g J).1⟩
theorem VP{N:Nat}{A:Nat→Prop}{w:World}{v0:Value}(hA:sC A w)(hn:1≤N):Inv ⟨w,A,λ_=>False,λ_=>undef⟩ N ⟨[(0,.raw v0)],[]⟩ {tmps := #[v0]++Array.replicate (N-(#[v0]:Array Value).size) undef,defers:=[]} w A (λ_=>none):=by
 refine⟨.refl _ _,λb hb=>.inl hb,hA,⟨λk o hk=>eo,λk k' o o' b C C' hk=>eo⟩,λb ⟨k,o,C,hk,_⟩=>eo,λt=>?_,ca,rfl⟩;cases t with
 |zero=>
  rw[show Go.Ab.look ⟨w,A,λ_=>False,λ_=>undef⟩ N {tmps := #[v0]++Array.replicate (N-(#[v0]:Array Value).size) undef,defers:=[]} 0=v0 by
   rw[oe bd];simp[ax,iC]]
  exact .dB (.raw _)
 |succ t=>exact .dB (.top _)
end
end Go.Proofs.YtepeckjhdoicpaaGreatDoor
namespace Go.Lib
open Go.Ab
section
variable{P:Program}(w:World)
theorem ET(base:Nat)(t u ty e:TypeId)(i:TypeInfo)(ht:P.underlying t=some (.slice e))(hu:P.underlying u=some .string)(hi:P.info? e=some i)(hz:i.zero=some (.int .u8 0))
  (I:i.size=1) (X:i.bytes=1)
  (v:Value) (n:Nat) (xs:List Value) (c:w.ownsRow base e 1 v n xs) (s:ByteArray)
  (Jx:n+s.size≤maxLen) (N:n+s.size≤140737488355328):
  ∃T w',(Builtin.append_ #[t,u] ty #[v,.string s]).run P w=.ok T w'∧(T.ownBlock=v.ownBlock∨T.ownBlock=some w.heap.size):=by
 have h:n+s.size≤9223372036854775807:=by simp only[maxLen]at Jx;omega
 have b:xs.length=n:=by simpa using c.1
 rcases c.2 with⟨rfl,rfl⟩|⟨g,cap,cur,rfl,k,d,l,m,V,o⟩
 ·by_cases hm:s.size=0
  ·refine⟨.slice none 0 0,w,?_,.inl rfl⟩;have hf:=run_firstCells_string (P:=P) w 1 s;rw[hm]at hf;have hn:strCells s=[]:=bj (by rw[strCells_length];exact hm);simp[Builtin.append_,bJ ht,bJ hu,sizeOf,typeInfo,hi,I,Builtin.lenOf,hm,hf]
  ·have a:=run_append_nil_string (P:=P) w t u ty e i (.int .u8 0) ht hu hi hz s bd bd (by rw[X];omega);exact⟨_,_,a,.inr rfl⟩
 ·by_cases f:n+s.size≤cap
  ·have p:cur.size=cap:=by simpa using V
   have a:=run_append_room_string (P:=P) w t u ty e i ht hu hi I g n cap cur d s f bd;exact⟨_,_,a,.inl rfl⟩
  ·have holds:∀j u,xs[j]?=some u→w.cell? ((⟨g,0,none⟩:Addr).add j)=some u:=c.cells (g:=g) rfl;have a:=run_append_grow_string (P:=P) w t u ty e i (.int .u8 0) ht hu hi hz ⟨g,0,none⟩ n cap xs (by rw[I];simpa using b) holds s bd bd (by rw[X];exact Qy bd bd);exact⟨_,_,a,.inr rfl⟩
theorem An{ops:Array Oper}{rest:List Oper}{o:Oper}{a:Act}{Q:Exit→Act→World→Prop}(M:o.guard=none)(sl x:Operand)(t u:TypeId)
  (ho:o.op=.call {callee:=.builtin .append,args := #[sl,x],argTypes := #[t,u]})
  (base:Nat) (e:TypeId) (i:TypeInfo) (ht:P.underlying t=some (.slice e)) (hu:P.underlying u=some .string) (hi:P.info? e=some i) (hz:i.zero=some (.int .u8 0))
  (I:i.size=1) (X:i.bytes=1)
  (v:Value) (n:Nat) (xs:List Value) (hs:a.eval sl=v) (c:w.ownsRow base e 1 v n xs) (s:ByteArray) (hx:a.eval x=.string s)
  (Jx:n+s.size≤maxLen) (N:n+s.size≤140737488355328) (d:base≤w.heap.size)
  (h:∀T w',w'.ownsRow base e 1 T (n+s.size) (xs++strCells s)→w.grownBy w' v.ownBlock→(T.ownBlock=v.ownBlock∨T.ownBlock=some w.heap.size)→wpList P ops Q rest (a.put o.dst T) w'):wpList P ops Q (o::rest) a w:=by
 refine wpList_plain M λK f=>?_;obtain⟨T,w',b,h2,g,k⟩:=run_append_own_string (P:=P) w base t u o.type e i ht hu hi hz I X v n xs c s Jx N d;obtain⟨v2,r,H,D⟩:=ET (P:=P) w base t u o.type e i ht hu hi hz I X v n xs c s Jx N;rw[b]at H;cases H;unfold Oper.wp execOp;simp only[ho,resolve,invoke,builtin,ch,mR,bS,List.map_toArray,fo,lf,hs,hx,b];exact f _ _ (h T w' h2 g D)
end
end Go.Lib
namespace Go.Proofs.YtepeckjhdoicpaaGreatDoor
open Go Go.Ab Go.RowKit
section
variable[dw:Go.Ab.bI][Go.Ab.dj]
def Dk(w:World)(b q:Nat):Prop:=q≠b∧∀p v T fz,w.heap[b]?=some (.cells #[p,v] T fz)→v.ownBlock≠some q
theorem Dk.same{w w':World}{b q:Nat}(h:Dk w b q)(he:w'.heap[b]?=w.heap[b]?):Dk w' b q:=⟨h.1,λp v T fz hb=>h.2 p v T fz (by rw[←he];exact hb)⟩
theorem Nb(B b:Nat)(bs:List Value)(w:World)(h:Lib.IsBuilder 56 5 B b bs w):
  Calls Tryz.prog 23 #[.pointer (some ⟨b,0,none⟩)] w λe w'=>e=.returned (.tuple #[])∧Lib.BuilderAt 56 5 B b (.pointer (some ⟨b,0,none⟩)) bs w'∧Below B w w'∧w.heap.size=w'.heap.size∧∀q,Dk w b q→w'.heap[q]?=w.heap[q]?∧Dk w' b q:=by
 rcases h with h|h
 ·refine(Dl b w h.cell0 h.shape h.frozen0).mono λe w' ⟨he,hw⟩=>?_;have hu:=h.used (.pointer (some ⟨b,0,none⟩));obtain⟨_,v,hb,_⟩:=h;subst hw;refine⟨he,hu,(Below.refl B w).setCell (p:=⟨b,0,none⟩) hu.1 _,by simp[World.setCell],λq o=>⟨Below.heap_setCell _ _ _ _ o.1,o.1,λp a T fz i=>?_⟩⟩;have e:a=v:=by
   simp[World.setCell,iE,hb]at i;exact i.1.2.symm
  subst e;exact o.2 _ _ _ _ hb
 ·refine(EU b w h.cell0).mono λe w' ⟨he,hw⟩=>?_;subst hw;exact⟨he,h,Below.refl B _,rfl,λq o=>⟨rfl,o⟩⟩
theorem IW(B b:Nat)(bs:List Value)(s:ByteArray)(w:World)(h:Lib.IsBuilder 56 5 B b bs w)(z:bs.length+s.size≤140737488355328)(E:B≤w.heap.size):
  Calls Tryz.prog 12 #[.pointer (some ⟨b,0,none⟩),.string s] w λe w'=>e=.returned (.tuple #[.int .i64 s.size,.nilIface])∧Lib.BuilderAt 56 5 B b (.pointer (some ⟨b,0,none⟩)) (bs++Lib.strCells s) w'∧Below B w w'∧∀q,q<w.heap.size→Dk w b q→w'.heap[q]?=w.heap[q]?∧Dk w' b q:=by
 obtain⟨i0,hi,l,V,m⟩:=aht;have n:=Nb B b bs w h
 go_enter Tryz.func12,Tryz.ntmps12
 go_wp2_with (go_at_call 23;refine n.mono ?_)
 rintro e w1 ⟨rfl,h1,N,A,o⟩;obtain⟨F,v,O,f,t⟩:=h1;have c0:w1.cell? ⟨b,0,none⟩=some (.pointer (some ⟨b,0,none⟩)):=by rw[acK O];rfl
 have C:w1.cell? ⟨b,1,none⟩=some v:=by rw[acK O];rfl
 have D:=N.size;have hm:bs.length+s.size≤maxLen:=ko
 have x:b<w1.heap.size:=(gR.1 O).1
 go_wp2_with (at_builtin;refine Lib.An _ rfl _ _ 54 9 rfl B 5 i0 tS asr hi l V m _ _ _ rfl f s rfl hm bd bd ?_)
 intro y r i c X8;have a:r.heap[b]?=some (.cells #[.pointer (some ⟨b,0,none⟩),v] 56 (0,0)):=by
  rw[c.block b x λe=>t e.symm];exact O
 obtain⟨ao,R,cap,rfl⟩:∃ao R cap,y=.slice ao R cap:=by
  rcases i.2 with⟨d,_⟩|⟨g,cap,cur,d,_⟩
  ·exact⟨_,_,_,d⟩
  ·exact⟨_,_,_,d⟩
 have d1:r.cell? ⟨b,1,none⟩=some v:=by rw[acK a];rfl
 have f1:r.frozen? ⟨b,1,none⟩=false:=Lib.frozen_of_heap a 1
 go_wp2
 go_ret2
 refine⟨rfl,?_,?_,λq H hn=>?_⟩
 ·exact Lib.BuilderAt.put F a (by simpa[Lib.strCells_length]using i) bt
 ·exact(N.grown c bd λk hk=>(f.lt k hk).1).setCell (p:=⟨b,1,none⟩) F _
 ·obtain⟨g1,g2⟩:=o q hn;have g3:v.ownBlock≠some q:=g2.2 _ _ _ _ O;refine⟨?_,g2.1,λp u T fz j=>?_⟩
  ·rw[Below.heap_setCell _ _ _ _ g2.1,c.block q bd (λe=>g3 e.symm),g1]
  ·have e:u=.slice ao R cap:=by
    simp[World.setCell,iE,a]at j;exact j.1.2.symm
   subst e;rcases X8 with e|e
   ·rw[e];exact g3
   ·rw[e];intro e2;have:w1.heap.size=q:=by simpa using e2
    omega
theorem xp{x:Ctx}{n:Nat}{S:St}{a:Act}{w:World}{A:Nat→Prop}{m:dt}(b:Inv x n S a w A m):Inv ⟨w,A,nL m (a_ S.H),x.gh⟩ n S a w A m:=
 ⟨.refl _ _,λ_ h=>.inl h,b.mS,b.eA,λ_ h=>.inl h,b.fr,b.sz,b.df⟩
theorem YG{x:Ctx}{n:Nat}{S c:St}{a d:Act}{w w':World}{A A':Nat→Prop}{m m':dt}(b:Inv x n S a w A m)(h2:Inv ⟨w,A,nL m (a_ S.H),x.gh⟩ n c d w' A' m'):Inv x n c d w' A' m':=by
 have m1:=b.cJ;have J:=h2.cJ;refine⟨⟨J.os.trans m1.os,J.tape.trans m1.tape,J.output.trans m1.output,b_ m1.size J.size,λq o hn=>?_,λf=>b_ (m1.drawn f) (J.drawn f)⟩,λq o=>?_,h2.mS,h2.eA,λq o=>?_,h2.fr,h2.sz,h2.df⟩
 ·rw[J.block q (bH o m1.size) λho=>?_,m1.block q o hn];rcases b.own q ho with h|h
  ·exact hn h
  ·omega
 ·rcases h2.sub q o with h|h|h
  ·exact b.sub q h
  ·exact .inr (b.own q h)
  ·exact .inr (.inr (b_ m1.size h))
 ·rcases h2.own q o with h|h
  ·exact b.own q h
  ·exact .inr (b_ m1.size h)
theorem Nc{T e:TypeId}{B b:Nat}{bs:List Value}{w w':World}(h:Lib.IsBuilder T e B b bs w)(hs:∀q,¬Dk w b q→w'.heap[q]?=w.heap[q]?):Lib.IsBuilder T e B b bs w':=by
 have key:∀p,Lib.BuilderAt T e B b p bs w→Lib.BuilderAt T e B b p bs w':=λp ⟨F,v,hb,c,n⟩=>by
  refine⟨F,v,by rw[hs b λh=>h.1 rfl];exact hb,⟨c.1,?_⟩,n⟩;rcases c.2 with h|⟨g,cap,cur,a,j,Q,d⟩
  ·exact .inl h
  ·exact .inr ⟨g,cap,cur,a,j,by rw[hs g λh=>h.2 _ _ _ _ hb (by rw[a];rfl)];exact Q,d⟩
 exact h.imp (key _) (key _)
theorem BU{T e:TypeId}{b q:Nat}{bs:List Value}{w:World}(h:Lib.IsBuilder T e b b bs w)(o:¬Dk w b q):b≤q∧q<w.heap.size:=by
 have key:∀p,Lib.BuilderAt T e b b p bs w→b≤q∧q<w.heap.size:=λp ⟨_,v,hb,c,n⟩=>by
  by_cases e:q=b
  ·subst e;exact⟨aK _,(gR.1 hb).1⟩
  ·rcases c.2 with⟨rfl,_⟩|⟨g,cap,cur,rfl,j,Q,k⟩
   ·exact absurd ⟨e,λa d f R i=>by rw[hb]at i;cases i;simp[Value.ownBlock]⟩ o
   ·have:g=q:=dL λhn=>o ⟨e,λa d f R i=>by rw[hb]at i;cases i;simpa[Value.ownBlock]using hn⟩;subst this;exact⟨j,(gR.1 Q).1⟩
 exact h.elim (key _) (key _)
structure xQ(x:Ctx)(n:Nat)(S:St)(b:Nat)(l:List UInt8)(a:Act)(w:World)(A:Nat→Prop)(m:dt):Prop where
 inv:Inv x n S a w A m
 bld:Lib.IsBuilder 56 5 b b (Lib.byteCells l) w
 lt:b<w.heap.size
 new:x.w0.heap.size≤b
 off:∀q,A q∨nL m (a_ S.H) q→Dk w b q
theorem Nd{x:Ctx}{n:Nat}{S c:St}{b:Nat}{l:List UInt8}{a d:Act}{w w':World}{A A':Nat→Prop}{m m':dt}(F:xQ x n S b l a w A m)(h2:Inv ⟨w,A,nL m (a_ S.H),x.gh⟩ n c d w' A' m'):xQ x n c b l d w' A' m':=by
 have hs:∀q,¬Dk w b q→w'.heap[q]?=w.heap[q]?:=λq o=>h2.cJ.block q (BU F.bld o).2 λho=>o (F.off q (.inr ho));have hb:=hs b λh=>h.1 rfl;refine⟨YG F.inv h2,Nc F.bld hs,bH F.lt h2.cJ.size,F.new,λq o=>?_⟩;have new:w.heap.size≤q→Dk w b q:=λh=>dL λhn=>by have:=(BU F.bld hn).2;omega
 refine Dk.same ?_ hb;rcases o with h|h
 ·rcases h2.sub q h with h|h|h
  ·exact F.off q (.inl h)
  ·exact F.off q (.inr h)
  ·exact new h
 ·rcases h2.own q h with h|h
  ·exact F.off q (.inr h)
  ·exact new h
theorem adU{x:Ctx}{n:Nat}{S:St}{b:Nat}{l:List UInt8}{a:Act}{w:World}{A:Nat→Prop}{m:dt}{c:Code}{K:Exit→St→Prop}{Q:Exit→Act→World→Prop}(F:xQ x n S b l a w A m)(g:codeOk n c=true)(h:vv Tryz.prog n c S K)
  (i:∀e d f w' A' m',K e d→xQ x n d b l f w' A' m'→Q e f w'):c.wp Tryz.prog Q a w:=
 rP (ee hm c S K g h _ a w A m (xp F.inv)) λe f w' ⟨d,A',m',t,j⟩=>i e d f w' A' m' t (Nd F j)
theorem Lw{A:Nat→Prop}{m:dt}{h:eV}{w w':World}(hc:dv A m h w)(hA:∀q,A q→w'.heap[q]?=w.heap[q]?)(K:∀q,nL m h q→w'.heap[q]?=w.heap[q]?)(hs:w.heap.size≤w'.heap.size):dv A m h w':=by
 refine⟨λk o hk=>?_,hc.inj⟩;obtain⟨ob,C,x,ho⟩:=hc.at_ k o hk;refine⟨ob,C,x,?_⟩;cases ob with
 |none=>cases o with
  |arr z rows=>exact ho
  |box cs=>exact ho.elim
 |some b=>
  have hb:=K b ⟨k,o,C,hk,x⟩;cases o with
  |arr z rows=>
   obtain⟨h1,h2,a,d,D,cur,e,f,X,l⟩:=ho;refine⟨h1,bH h2 hs,a,d,D,cur,e,by rw[hb];exact f,X,λi j r c n g=>?_⟩;obtain⟨u,g1,g2⟩:=l i j r c n g;exact⟨u,g1,g2.mono (λ_ h=>h) hA⟩
  |box cs=>
   obtain⟨h1,h2,cur,e,fz,a,d,D,f⟩:=ho;refine⟨h1,bH h2 hs,cur,e,fz,by rw[hb];exact a,d,D,λj c g=>?_⟩;obtain⟨u,g1,g2⟩:=f j c g;exact⟨u,g1,g2.mono (λ_ h=>h) hA (Shaped.refl _ _ _)⟩
theorem TL{x:Ctx}{n:Nat}{S:St}{b:Nat}{l:List UInt8}{a:Act}{w:World}{A:Nat→Prop}{m:dt}(F:xQ x n S b l a w A m)(g:ByteArray)(hl:l.length+g.size≤140737488355328):
  gT Tryz.prog 12 #[.pointer (some ⟨b,0,none⟩),.string g] w λe w'=>∃v,e=.returned v∧∀d u,d<n→xQ x n ⟨put S.fr (some d) .top,S.H⟩ b (l++g.data.toList) (a.put (some d) u) w' A m:=by
 unfold gT;rw[enters Tryz.func12 bl rfl];refine⟨rfl,(IW b b _ g w F.bld (by rw[Lib.byteCells_length];exact hl) (Wz F.lt)).mono λe w' ⟨he,h1,h2,i⟩=>⟨_,he,λd u y=>?_⟩⟩;have c:=F.inv;have E:=h2.size;have hA:∀q,A q→w'.heap[q]?=w.heap[q]?:=λq f=>(i q (c.mS.lt q f) (F.off q (.inl f))).1;have p:∀q,nL m (a_ S.H) q→q<w.heap.size:=λq ⟨k,o,C,hk,j⟩=>by
  obtain⟨ob,C',s,ho⟩:=c.eA.at_ k o hk;rw[j]at s;cases s;cases o with
  |arr z rows=>exact ho.2.1
  |box cs=>exact ho.2.1
 have K:∀q,nL m (a_ S.H) q→w'.heap[q]?=w.heap[q]?:=λq f=>(i q (p q f) (F.off q (.inr f))).1;have e1:Lib.byteCells l++Lib.strCells g=Lib.byteCells (l++g.data.toList):=by simp[Lib.byteCells,Lib.strCells]
 rw[e1]at h1;refine⟨⟨⟨h2.os.trans c.cJ.os,h2.tape.trans c.cJ.tape,h2.output.trans c.cJ.output,b_ c.cJ.size E,λq f hn=>?_,zk⟩,c.sub,?_,Lw c.eA hA K E,c.own,λt=>?_,by rw[sd];exact c.sz,by rw[put_defers];exact c.df⟩,.inr h1,bH F.lt E,F.new,λq f=>?_⟩
 ·have H:Dk w b q:=dL λh=>by have:=(BU F.bld h).1;have:=F.new;omega
  rw[(i q (bH f c.cJ.size) H).1,c.cJ.block q f hn]
 ·exact c.mS.mono (λq f=>bH (c.mS.lt q f) E) (λ_ h=>h) hA
 ·rw[vZ];split
  ·exact .dB (.top _)
  ·rename_i r;have:=(c.fr t).mono (w':=w') (λ_ h=>h) hA (Shaped.refl none m (a_ S.H));have e:Go.Ab.look x n (a.put (some d) u) t=Go.Ab.look x n a t:=by
    unfold Go.Ab.look;split
    ·rw[show(a.put (some d) u).tmps=a.tmps.setIfInBounds d u from rfl,ax,ax,wt (Jv r)]
    ·rfl
   rw[e];exact this
 ·have Q:q<w.heap.size:=f.elim (c.mS.lt q) (p q);exact(i q Q (F.off q f)).2
end
end Go.Proofs.YtepeckjhdoicpaaGreatDoor
namespace Go.Ab
section
variable[dw:Go.Ab.bI]
variable{P:Program}{A A' B:Nat→Prop}{m m':dt}{h h':eV}{w w':World}{fr:Fr}{a:Act}
theorem Kf{S:St}{t k z len i:Nat}{cs:List PV}{rows:List (List PV)}(hk:S.H[k]?=some (some (.arr z rows)))(ht:slot S.fr t=.dn cs)(hi:cs[i]?=some (.so k z 0 len))(hl:len≤rows.length):
  fQ S ⟨(t,.dn ((cs.map (g_ k)).set i (.sf k z)))::sB k S.fr,(S.H.map (pT k)).set k (some (.arr z (rows.take len)))⟩:=λx n a w A m f=>by
 have g:a_ S.H k=some (.arr z rows):=hC
 have d:=f.fr t;rw[ht]at d;obtain⟨us,G,s,u⟩:=d.Hi;obtain⟨H,ob,C,cap,E,hm,y⟩:=(u i _ hi).soI;obtain rfl:H=rows:=by rw[g]at E;cases E;rfl
 have D:(H.take len).length=len:=c7
 refine⟨A,m,Hj f g hm (λh'=>?_) λt'=>?_⟩
 ·obtain⟨ob',C',l,ho⟩:=f.eA.at_ k _ g;rw[hm]at l;cases l;cases ob with
  |none=>obtain⟨rfl,rfl⟩:=ho;exact⟨bn,rfl⟩
  |some b=>
   obtain⟨g1,g2,g3,g4,I,cur,e,F,N,J⟩:=ho;have key:∀(i:Nat)(r:List PV),(H.take len)[i]?=some r→H[i]?=some r:=λi r d=>by
    rw[ct]at d;split at d
    ·exact d
    ·cases d
   exact⟨g1,g2,bd,g4,λi r d=>I i r (key i r d),cur,e,F,N,λi j r c d hc=>J i j r c (key i r d) hc⟩
 ·simp only[slot];cases e:t==t' with
  |true=>
   have:t=t':=ek
   subst this;have hs:=wF (o':=.arr z (H.take len)) hm d;obtain⟨o,p,M,K⟩:=hs.Hi;obtain rfl:o=us:=by rw[G]at p;cases p;rfl
   have L:i<cs.length:=(aa.1 hi).1;show bD A m _ w (.dn _) _;rw[G];refine .dn _ o (by simpa using s) λj c hc=>?_;rw[iq]at hc;by_cases q:i=j
   ·subst q;rw[aB rfl]at hc;simp[L]at hc;subst hc;rcases y with⟨rfl,ao,v,h0⟩|⟨b,rfl,v,_,r6⟩
    ·obtain⟨rfl,rfl,rfl⟩:=h0 rfl;rw[v];exact .xV k z C ao kU hm
    ·rw[v,mD];obtain rfl:cap=C:=bd
     have:=bD.sf (A:=A) (m:=m) (w:=w) (h:=jd (a_ S.H) k (.arr z (H.take len))) k z cap b (H.take len) kU hm;rw[D]at this;exact this
   ·rw[av q]at hc;exact K j c hc
  |false=>
   simp only[dW];rw[rl];exact wF hm (f.fr t')
end
end Go.Ab
namespace Go.Proofs.YtepeckjhdoicpaaGreatDoor
open Go Go.Ab
section
variable[dw:Go.Ab.bI]
def Jf(r:aM):Prop:=r.key.length≤70∧r.text.length≤70∧0≤r.kind∧r.kind≤9
def tw(x:cI):Prop:=x.key.length≤70∧x.text.length≤70
theorem Qh{S:List cI}{r:aM}(B:∀x∈S,tw x)(a:r.key.length≤70∧r.text.length≤70):∀x∈od S r,tw x:=λx hx=>by
 unfold od at hx;rcases bf.1 hx with h|h
 ·exact B x (bG h)
 rcases bf.1 h with h|h
 ·split at h
  ·cases h
  ·rw[bx]at h;subst h;exact a
 ·exact B x (dq h)
theorem xm{l:List aM}(hl:∀r∈l,Jf r)(S:List Int):∀x∈i_ l S,tw x:=by
 unfold i_
 suffices ∀(S:List Int)(T:List cI),(∀x∈T,tw x)→∀x∈S.foldl (λst k=>od st (recAt l k.toNat)) T,tw x from this S [] (by simp)
 intro S
 induction S with
 |nil=>intro T h;exact h
 |cons k S u=>
  intro T h;refine u _ (Qh h ?_);unfold recAt;rw[bA];cases j:l[k.toNat]? with
  |none=>simp
  |some r=>have:=hl r (aD j);exact⟨this.1,this.2.1⟩
theorem xn(l:List aM)(n:Nat):(i_ l (mG l n)).length≤n:=by
 refine b_ (vU l _).2 ?_;unfold mG;cases h:act l n with
 |none=>simp
 |some S=>exact xb h
end
end Go.Proofs.YtepeckjhdoicpaaGreatDoor
namespace Go.Ab
section
variable[dw:Go.Ab.bI]
variable{P:Program}{A A' B:Nat→Prop}{m m':dt}{w w':World}{H:Heap}{fr:Fr}{a:Act}{x:Ctx}{n:Nat}
structure avw where
 z:Nat
 rows:List (List PV)
 v:Value
 ob:Option Nat
end
section
variable[dw:Go.Ab.bI]
variable{P:Program}{A A':Nat→Prop}{m m':dt}{h h':eV}{w w':World}{H:Heap}{fr:Fr}{a:Act}{x:Ctx}{n:Nat}{S:St}
def rF(fs:List Nat):List (List PV):=fs.map λf=>[.fn f []]
theorem HZ(fs:List Nat):(rF fs).length=fs.length:=by simp[rF]
def yw(k:Nat):List Nat→List (Nat×Operand)
 |[]=>[]
 |f::r=>(k,.func f)::yw (k+1) r
theorem CG:∀(fs:List Nat)(k:Nat),(yw k fs).length=fs.length
 |[],_=>rfl
 |f::r,k=>by simp[yw,CG r]
theorem CH:∀(fs:List Nat)(k i:Nat)(p:Nat×Operand),(yw k fs)[i]?=some p→∃f,fs[i]?=some f∧p=(k+i,.func f)
 |[],_,i,p,h=>by simp[yw]at h
 |f::r,k,0,p,h=>by
  simp only[yw,lR,ck]at h;exact⟨f,rfl,by rw[←h];rfl⟩
 |f::r,k,i+1,p,h=>by
  simp only[yw,gE]at h;obtain⟨g,j,rfl⟩:=CH r (k+1) i p h;exact⟨g,kH,by rw[(bd:k+1+i=k+(i+1))]⟩
theorem ab4(f:Nat):ev fr (.func f)=.fn f []:=rfl
theorem bD.fn0{f:Nat}{v:Value}(b:bD A m h w (.fn f []) v):dC A' w' (.fn f []) v:=by
 cases b with
 |dB hi=>cases hi with|fn _ _ us hl _=>exact .fn f [] us hl (λi c hc=>by simp at hc)
 |fn _ _ us hl _=>exact .fn f [] us hl (λi c hc=>by simp at hc)
theorem Rn{o:Oper}{t e:TypeId}{fs:List Nat}(ho:o.op=.buildSlice t fs.length (yw 0 fs).toArray)(u:fs≠[])(he:cT P t=some e)(hz:aE P e=1)(hzero:(gr P e).isSome=true)(hb:fs.length≤1000)
  (hA:sC A w) (p:dv A m h w) (K:wV A m h w fr a):
  Yields P o a w λv w'=>∃A',vf A m h w A' m h w'∧dC A' w' (.sl 1 (rF fs)) v:=by
 have hu:=dx he;obtain⟨zs,Ah⟩:=cy.1 hzero;unfold gr at Ah;obtain⟨v,F,rfl⟩:=bh.1 Ah;obtain⟨i,hi,J⟩:=eM.1 F;have L:(zeroValue e).run P w=.ok v w:=by simp[zeroValue,typeInfo,hi,J]
 have N:((yw 0 fs).toArray.map λ(i,x)=>(i,a.eval x)).toList=(yw 0 fs).map λx=>(x.1,a.eval x.2):=bn
 have h0:¬fs.length=0:=λh=>u (bj h);generalize G:(Array.range (fs.length*1)).map (λq=>v.cells[q%v.cells.size]!)=us;have Q:us.size=fs.length*1:=by rw[←G];simp
 have T:Cells A m h w (List.replicate (fs.length*1) .top) us:=⟨by simp[Q],λj c l=>by
  rw[fi]at l;split at l
  ·cases l;exact .oY _
  ·cases l⟩
 have B:∀(i:Nat)(x:Nat×Operand),(yw 0 fs)[i]?=some x→x.1=0+i∧(cz (ev fr x.2)).length=1:=λi x hx=>by
  obtain⟨f,_,rfl⟩:=CH fs 0 i x hx;exact⟨rfl,rfl⟩
 obtain⟨vs,D,M⟩:=yx (A:=A) (m:=m) (h:=h) (w:=w) (fr:=fr) (a:=a) (λi=>some (i*1,1)) (λi=>i*1) (yw 0 fs) _ us T K
  (λy hy=>by
   obtain⟨i,hi⟩:=List.getElem?_of_mem hy;have hl:=(aa.1 hi).1;rw[CG]at hl;obtain⟨f,_,rfl⟩:=CH fs 0 i y hi;refine⟨cw,rfl,rfl,?_⟩;rw[ab4];simp[cz];omega)
 have I:(0+(yw 0 fs).length)*1≤(List.replicate (fs.length*1) PV.top).length:=by simp[CG]
 have Z:vs.size=fs.length*1:=by rw[M.1,CI 0 _ _ B I];simp
 have d:(execOp a.eval o).run P w=.ok (.value (.slice (some ⟨w.heap.size,0,none⟩) fs.length fs.length)) (w.alloc (.cells vs e)):=by
  simp only[oo]at D G;simp only[execOp,ho,Instr.buildSlice,ch,bJ hu,bS,eY ((bd:0<aE P e)),N,hz];simp[(bd:¬16777216<fs.length),u,L,G,D,newRow]
 have s:∀{A':Nat→Prop}{w':World}(i j:Nat)(r:List PV)(c:PV),(rF fs)[i]?=some r→r[j]?=some c→j=0∧i<vs.size∧dC A' w' c (vs.getD i undef):=λi j r c d hc=>by
  simp only[rF,bm,bh]at d;obtain⟨f,hf,rfl⟩:=d;have l:j=0:=by
   have:=(aa.1 hc).1;simpa using this
  subst l;obtain rfl:PV.fn f []=c:=kX
  have W:=(aa.1 hf).1;have hx:(yw 0 fs)[i]?=some (0+i,.func f):=by
   have hl:i<(yw 0 fs).length:=by rw[CG];exact W
   obtain⟨g,E,e⟩:=CH fs 0 i _ (ae hl);rw[ae hl,e];rw[hf]at E;cases E;rfl
  have s:=(zw (fr:=fr) (z:=1) bd 0 (yw 0 fs) _ B I).2 i 0 _ hx bd;rw[cU,ab4]at s;have Y:=M.2 _ _ (by simpa[cz]using s);have R:i<vs.size:=bd
  refine⟨rfl,R,bD.fn0 (A:=A) (m:=m) (h:=h) (w:=w) ?_⟩;simpa using Y
 refine cX d ⟨λb=>A b∨b=w.heap.size,?_,?_⟩
 ·refine⟨⟨rfl,rfl,rfl,bn,λ_ hb _=>cK hb,λ_=>aK _⟩,λ_ h=>.inl h,λb hb=>hb.imp id λe=>bd,hA.mono (λb hb=>?_) (λ_ h=>.inl h) (λb hb=>cK (hA b hb)),⟨λk o' hk=>?_,p.inj⟩,.refl _ _ _,λ_ h=>.inl h⟩
  ·rcases hb with hb|hb
   ·exact bH (hA b hb) bn
   ·subst hb;simp
  ·obtain⟨ob,C,hm,ho⟩:=p.at_ k o' hk;refine⟨ob,C,hm,ho.mono (λ_ h=>.inl h) (λb hb=>cK (hA b hb)) (.refl _ _ _) bn λb hb=>?_⟩;have:=p.lt ⟨k,o',C,hk,kP⟩;exact⟨λh=>h.elim this.2 λe=>by have:=this.1;omega,cK this.1⟩
 ·have hl:=HZ fs;have key:=dC.sl (A:=λb=>A b∨b=w.heap.size) (w:=w.alloc (.cells vs e)) 1 (rF fs) w.heap.size 0 fs.length (λi j=>vs.getD (i*1+j) undef) (.inr rfl) bd (λi r d=>by
   simp only[rF,bm,bh]at d;obtain⟨f,_,rfl⟩:=d;rfl) (λi j r c d hc=>by
   obtain⟨rfl,R,_⟩:=s (A':=A) (w':=w) i j r c d hc;have hh:=gC (w:=w) (o:=.cells vs e);simp only[World.cell?,hh];simp[R]) (λi j r c d hc=>by
   obtain⟨rfl,R,h⟩:=s (A':=λb=>A b∨b=w.heap.size) (w':=w.alloc (.cells vs e)) i j r c d hc;simpa using h)
  rw[hl]at key;exact key
theorem XB{n id:Nat}{ops:List Oper}{o:Oper}{t:TypeId}{fs:List Nat}{S:St}{Q:Exit→St→Prop}(T:Nat)(b:ops.all (lV n)=true)(d:ops[T]?=some o)(ho:o.op=.buildSlice t fs.length (yw 0 fs).toArray)(j:o.guard=none)(f:fs≠[])(hb:fs.length≤1000)
  (h:ki P false ops (ops.take T) S λS1=>∃e,cT P t=some e∧aE P e=1∧(gr P e).isSome=true∧ki P false ops (ops.drop (T+1)) ⟨put S1.fr o.dst (.sl 1 (rF fs)),S1.H⟩ (Q .normal)):Ends P n (.region id ops.toArray false) S Q:=λx a w A m g=>by
 refine sy ?_;have p:=(aa.1 d).1;have hl:ops.toArray.toList=ops.take T++(o::ops.drop (T+1)):=by
  have e:ops[T]=o:=(aa.1 d).2;rw[←e,←cZ p];simp
 rw[hl];have N:(ops.take T).all (lV n)=true:=by
  rw[ak]at b⊢;exactλo ho=>b o (bG ho)
 have i:(ops.drop (T+1)).all (lV n)=true:=by
  rw[ak]at b⊢;exactλo ho=>b o (dq ho)
 have Z:lV n o=true:=by
  rw[ak]at b;exact b o (aD d)
 refine tY b (o::ops.drop (T+1)) (λB C w' A' m' ⟨e,he,hz,hzero,h2⟩ c=>?_) (ops.take T) false S a w A m N g h;unfold wpList;rw[aB wx];refine .inl (uV (Rn ho f he hz hzero hb c.mS c.eA c.yy) (λv w' k=>k) _ _ λv w' ⟨l,q,r⟩=>?_);have O:=c.Mx (new:=[]) (by rw[jQ];exact q);rw[bq]at O;exact my b (λs a3 U z R u y=>⟨s,z,R,u,y⟩) (ops.drop (T+1)) false _ _ w' l m' i (O.val (iS Z) (.dB r)) h2
end
end Go.Ab
namespace Go.Proofs.YtepeckjhdoicpaaGreatDoor
open Go Go.Ab
section
variable[dw:Go.Ab.bI]
def mO(k:Int)(a b:List UInt8):List UInt8:=if 1≤k∧k≤8 then mN k++[32]++a++[32]++b else[]
theorem Gc(n:Int):(mN n).length≤5:=by
 unfold mN;split
 ·rename_i h;rcases My h.1 h.2 with rfl|rfl|rfl|rfl|rfl|rfl|rfl|rfl<;>simp[oZ]
 ·simp
theorem BD(k:Int)(a b:List UInt8)(hl:a.length+b.length≤1048576):H0 311 [.agg [.int .i64 k,.str a,.str b]] (.str (mO k a b)):=by
 refine iF hm Tryz.func311 ?_;simp;refine u0 (Fp _) ?_;simp;refine⟨λh=>?_,λh1 h2=>?_⟩
 ·simp[mO];omega
 ·refine u0 (BB _) ?_;have:=Gc k;simp[mO,h1,h2];omega
theorem least(l:List Int)(a:Int):∃f,(f=a∨f∈l)∧f≤a∧∀s∈l,f≤s:=by
 induction l with
 |nil=>exact⟨a,.inl rfl,Int.le_refl _,bn⟩
 |cons x l u=>
  obtain⟨f,h1,h2,c⟩:=u;by_cases hx:x≤f
  ·exact⟨x,.inr bn,bd,λs hs=>by
    rcases bz.1 hs with e|e
    ·omega
    ·have:=c s e;omega⟩
  ·exact⟨f,h1.imp id λh=>kT,h2,λs hs=>by
    rcases bz.1 hs with e|e
    ·omega
    ·exact c s e⟩
theorem abj(note per rest:Int)(l:List aO)(i:Nat):∃R,(q_ note per rest l).2=(q_ note per rest (l.take i)).2++R:=by
 have key:∀(m:List aO)(a:List Int×List Int),∃R,(m.foldl (λa x=>if x.note=note then(Gx rest a.1 (x.start.tdiv per),a.2++[(sN rest a.1 (x.start.tdiv per):Int)]) else a) a).2=a.2++R:=λm=>by
  induction m with
  |nil=>exactλa=>⟨[],bn⟩
  |cons x m u=>
   intro a;rw[iU];by_cases h:x.note=note
   ·rw[aB h];obtain⟨R,e⟩:=u (Gx rest a.1 (x.start.tdiv per),a.2++[(sN rest a.1 (x.start.tdiv per):Int)]);exact⟨_,by rw[e,bg]⟩
   ·rw[av h];exact u a
 obtain⟨R,e⟩:=key (l.drop i) (q_ note per rest (l.take i));refine⟨R,?_⟩;rw[←e];unfold q_;rw[←dI,bP]
def Ba(note per rest:Int)(l:List aO)(i:Nat):List Int:=(q_ note per rest l).2.drop (q_ note per rest (l.take i)).2.length
theorem SP(note per rest:Int)(l:List aO):Ba note per rest l 0=(q_ note per rest l).2:=by simp[Ba,q_]
theorem Wr{note per rest:Int}{l:List aO}{i:Nat}(hi:i<l.length)(h:l[i].note=note):Ba note per rest l i=(sN rest (q_ note per rest (l.take i)).1 (l[i].start.tdiv per):Int)::Ba note per rest l (i+1):=by
 obtain⟨R,e⟩:=abj note per rest l (i+1);have hs:=wo note per rest l hi;rw[aB h]at hs;unfold Ba;rw[e,hs];simp only[bg,aem];simp
theorem SQ{note per rest:Int}{l:List aO}{i:Nat}(hi:i<l.length)(h:l[i].note≠note):Ba note per rest l (i+1)=Ba note per rest l i:=by
 have hs:=wo note per rest l hi;rw[av h]at hs;unfold Ba;rw[hs]
theorem J3(t:db)(per rest:Int)(hl:t.aU.length≤1048576):
  iW Tryz.prog 176 [.agg t.cells,.int .i64 per,.int .i64 rest] [] (.dn [(j4 t per rest).res,.int .i64 (fT t per rest)]) (j4 t per rest).agN:=by
 refine iG hm Tryz.func176 ?_;simp[db.cells];refine u0 (Wl t per rest hl) ?_;simp;refine⟨λh=>?_,λh=>?_⟩
 ·have hb:fT t per rest=BX t per rest:=by unfold fT;rw[av h]
  have I:j4 t per rest=⟨0,0,[],[]⟩:=by unfold j4;rw[hb,av h]
  rw[I,hb];exact uW
 obtain⟨h1,h2,G,q,r⟩:=G1 h;have c:=B1 h1 h2;have s:=(DB h1).1;have F:=LW t;have H:oh t per rest=oP t.aU per rest (iK t):=rfl;refine u2 (KH t _ Wm hl) (bM _) ?_;simp;have v:fT t per rest=if(oh t per rest).steps≤4096∧(oh t per rest).notes.length≤32 then 0 else 5:=by unfold fT;rw[aB h]
 have J:j4 t per rest=if(oh t per rest).steps≤4096∧(oh t per rest).notes.length≤32 then⟨(oh t per rest).steps,rest,(oh t per rest).notes,y3 (oh t per rest).pins⟩ else⟨0,0,[],[]⟩:=by
  unfold j4;rw[v];split
  ·rw[aB rfl]
  ·rw[av bt]
 rw[v,J,H];generalize iK t=L at F;have w:=λj d=>G0 t.aU per rest L c ⟨q,r⟩ j d;refine lu hm L.length (λj=>⟨[(1,.int .i64 per),(2,.int .i64 rest),(3,.pb 0 0),(6,.pb 1 0),(9,.pb 2 0),(30,.sl 1 (ar L)),(31,.int .i64 L.length),(32,.int .i64 j)],[some (.box [.str t.name,.sl 3 (aO.rows t.aU)]),some (.box [.int .i64 0,.int .i64 0,.nils,.nils]),some (.box [.int .i64 (oP t.aU per rest (L.take j)).steps,.int .i64 rest,.sf 3 1,.sf 4 2]),some (.arr 1 (ar (oP t.aU per rest (L.take j)).notes)),some (.arr 2 (ez.rows (oP t.aU per rest (L.take j)).pins))]⟩) ?_ (λj d=>?_) ?_
 ·refine(jt 2 2 1 rfl rfl).trans ((jt 2 3 2 rfl rfl).trans (wk [0,1,2,4,5] [3] ?_));simp[oP,ez.rows,ar]
 ·have z:(ar L)[j]'(by rw[aH];exact d)=[.int .i64 L[j]]:=eR
  have w1:=wS j;have hs:=E2 t.aU per rest L d;obtain⟨o1,e,u⟩:=w j bd;have b3:j*t.aU.length≤128*128:=fh bd s;generalize oP t.aU per rest (L.take j)=a at hs o1 e u⊢;have o:=λi hi=>DA t.aU per rest a L[j] c ⟨q,r⟩ i hi;generalize hn:L[j]=n at hs o z;simp[d,aH,z];refine u2 (NF t n per rest hl h2 (by unfold Small;omega) (λx hx=>by have:=c x hx;unfold Small;omega)) (bM _) ?_;simp;refine u0 (Ei _) ?_;simp;refine lu hm t.aU.length (λi=>⟨[(1,.int .i64 per),(2,.int .i64 rest),(3,.pb 0 0),(6,.pb 1 0),(9,.pb 2 0),(11,.int .i64 n),(12,.int .i64 (q_ n per rest t.aU).1.length),(13,.sl 1 (ar (Ba n per rest t.aU i))),(14,.int .i64 a.notes.length),(30,.sl 1 (ar L)),(31,.int .i64 L.length),(32,.int .i64 j),(48,.sl 3 (aO.rows t.aU)),(49,.int .i64 t.aU.length),(50,.int .i64 i)],[some (.box [.str t.name,.sl 3 (aO.rows t.aU)]),some (.box [.int .i64 0,.int .i64 0,.nils,.nils]),some (.box [.int .i64 (qq t.aU per rest a n i).1.steps,.int .i64 rest,.sf 3 1,.sf 4 2]),some (.arr 1 (ar a.notes)),some (.arr 2 (ez.rows (qq t.aU per rest a n i).1.pins))]⟩) ?_ (λi hi=>?_) ?_
  ·refine wk [0,1,2,3,4] [5] ?_;simp[xx,SP,aO.aj]
  ·have A:=wS i;have B:=xy per rest a n hi;obtain⟨f,b,l,y,m,W⟩:=o i bd;have K:=c t.aU[i] (ai hi);have C:IntKind.i64.wrap (t.aU[i].start.tdiv per)=t.aU[i].start.tdiv per:=bX bd bd;have N:=Wr (note:=n) (per:=per) (rest:=rest) hi;have M:=SQ (note:=n) (per:=per) (rest:=rest) hi;rw[←f]at N;generalize qq t.aU per rest a n i=p at B b l y m W N⊢;rw[B];unfold Wp;obtain⟨⟨ps,V,P⟩,pl⟩:=p;simp only at b l y m W N⊢;by_cases hx:t.aU[i].note=n
   ·have N:=N hx;rw[N,aB hx];generalize Q:t.aU[i].start.tdiv per=st at K C⊢;have hk:=ND rest pl st;generalize sN rest pl st=k at hk⊢;have U:IntKind.i64.wrap (st+rest)=st+rest:=bX bd bd;have S:IntKind.i64.wrap ((a.notes.length:Int)+k)=(a.notes.length:Int)+k:=bX bd bd;have O:(ez.rows P).length≤1048576:=by rw[ez.aj];omega
    generalize Ba n per rest t.aU (i+1)=R;simp(maxSteps:=2000000) [hi,aO.aj,aO.cx,hx,Q,C,ar,U,S];refine⟨bd,eG,rfl,bd,bd,wk [0,1,2,3,4] [] ?_⟩;simp(maxSteps:=2000000) [A];simp[ez.rows,ez.cells];exact ay bn
   ·rw[av hx,M hx];simp(maxSteps:=2000000) [hi,aO.aj,aO.cx,hx];refine wk [0,1,2,3,4] [] ?_;simp[A]
  ·obtain⟨f,b,l,y,m,W⟩:=o t.aU.length bd;rw[aI]at f;simp;have Z:Jm t.aU per rest a n=(qq t.aU per rest a n t.aU.length).1:=rfl;rw[hs,Z,←f];generalize qq t.aU per rest a n t.aU.length=p at b l y m W⊢;refine lu hm p.2.length (λg=>⟨[(1,.int .i64 per),(2,.int .i64 rest),(3,.pb 0 0),(6,.pb 1 0),(9,.pb 2 0),(11,.int .i64 n),(30,.sl 1 (ar L)),(31,.int .i64 L.length),(32,.int .i64 j),(84,.int .i64 p.2.length),(85,.int .i64 g)],[some (.box [.str t.name,.sl 3 (aO.rows t.aU)]),some (.box [.int .i64 0,.int .i64 0,.nils,.nils]),some (.box [.int .i64 p.1.steps,.int .i64 rest,.sf 3 1,.sf 4 2]),some (.arr 1 (ar (a.notes++List.replicate g n))),some (.arr 2 (ez.rows p.1.pins))]⟩) ?_ (λg T=>?_) ?_
   ·refine wk [0,1,2,3,4] [] ?_;simp
   ·have U:=wS g;have E:(ar (a.notes++List.replicate g n)).length=a.notes.length+g:=by simp[aH]
    have Y:ar (a.notes++List.replicate (g+1) n)=ar (a.notes++List.replicate g n)++[[.int .i64 n]]:=by
     rw[List.replicate_succ',←bg];simp[ar]
    rw[Y];generalize ar (a.notes++List.replicate g n)=X at E⊢;simp(maxSteps:=2000000) [T,E];refine⟨eG,bd,bd,wk [0,1,2,3,4] [] ?_⟩;simp(maxSteps:=2000000) [U]
   ·simp;refine wk [0,1,2,3,4] [] ?_;simp[w1,b]
 ·rw[aI];obtain⟨o1,e,u⟩:=w L.length bd;rw[aI]at o1 e u;have b3:L.length*t.aU.length≤128*128:=fh bd s;generalize oP t.aU per rest L=D at o1 e u⊢;simp[aH];refine⟨λa0=>?_,λg1 g2=>?_⟩
  ·have hn:¬(D.steps≤4096∧D.notes.length≤32):=bd
   simp only[av hn];exact uW
  ·have hy:D.steps≤4096∧D.notes.length≤32:=bd
   simp only[aB hy];refine iv.UC 4 (J9 D.pins bd) rfl bn rfl bn rfl rfl ?_;simp;refine wk [3,4] [] ?_;simp
theorem FM{l:List aM}{k n:Nat}(h:n≤k)(r:aM):mz (l.take k) n r=mz l n r:=by
 unfold mz;rw[Ii h];cases hs:act l n with
 |none=>rfl
 |some S=>
  have:=Fx l k (S:=S) λx hx=>by have:=GO hs x hx;omega
  simp only[this]
theorem SG{l:List aM}{k i:Nat}(h:i<k):recAt (l.take k) i=recAt l i:=by
 unfold recAt;rw[bA,bA,ct,aB h]
theorem P2{l:List aM}{r:aM}(h:ew l r=0):lM (l++[r])=true∧NI l r=l++[r]:=by
 refine⟨?_,by unfold NI;rw[aB h]⟩;unfold ew at h;split at h
 ·rename_i h1;split at h
  ·rename_i h2;split at h
   ·rename_i c;split at h
    ·cases h
    ·rename_i k;obtain⟨g1,g2⟩:=jh.1 h1;have ht:(l++[r]).take l.length=l:=bn
     have hi:l.length<(l++[r]).length:=bn
     have a:(l++[r])[l.length]=r:=bn
     refine jh.2 ⟨ca,?_⟩;rw[(bn:(l++[r]).length=l.length+1)];refine yD hi (λi hi=>?_) (by rw[a];exact h2) ?_
     ·have:=g2 i hi;rw[←SG (l:=l++[r]) hi,←FM (l:=l++[r]) (Wz hi),ht];exact this
     ·rw[a,←FM (l:=l++[r]) (aK _),ht];exact c
   ·cases h
  ·cases h
 ·cases h
end
section
variable[dw:Go.Ab.bI][Go.Ab.dj]
theorem Ng(s:List UInt8)(hs:s.length≤1048576):iW Tryz.prog 9 [.str s] [] (.dn [.sf 0 1,.str ((cW 10 s).getLast (iI _ _))]) [some (.arr 1 (au (cW 10 s).dropLast))]:=by
 have hl:=lF 10 s;have n:=fV.2 (iI 10 s);have j:(au (cW 10 s))[(cW 10 s).length-1]?=some [.str ((cW 10 s).getLast (iI _ _))]:=by
  unfold au;rw[bm,←List.getLast?_eq_getElem?,List.getLast?_eq_some_getLast (iI _ _)];rfl
 refine iG hm Tryz.func9 ?_;simp;refine u2 (rU s 10 bd) (cM _) ?_;have w1:IntKind.i64.wrap (((cW 10 s).length:Int)-1)=((cW 10 s).length-1:Nat):=bo
 simp[aQ,w1,j];refine⟨bd,?_⟩;have f:(au (cW 10 s)).take ((cW 10 s).length-1)=au (cW 10 s).dropLast:=by
  unfold au;rw[←List.map_take,Kb]
 refine(Kf (t:=0) (i:=0) rfl rfl rfl pn).trans (wk [0] [] ?_);simp[f]
end
end Go.Proofs.YtepeckjhdoicpaaGreatDoor
