import Derived.Test.YtepeckjhdoicpaaGreatDoorG8
import Derived.Test.YtepeckjhdoicpaaGreatDoorG10
import Derived.Lib.ItoaNum
import Derived.Lib.ItoaLen
import Derived.Shelf.Strings.Builder1
import Derived.Shelf.Strings.Builder2
import Derived.Shelf.Strings.OnBuilder
import Derived.Shelf.Small.Bits
import Derived.Shelf.Small.Strs
import Derived.Shelf.Strings.BuilderF
import Derived.Shelf.Strings.BuilderK
import Derived.Shelf.Strings.Builder2Cap
import Derived.Shelf.Strconv.Itoa0
import Derived.Shelf.Strconv.Itoa1
import Derived.Shelf.LaysM
import Derived.Shelf.Strconv.Itoa2
import Derived.Shelf.Strconv.Itoa3
import Derived.Shelf.Strconv.Itoa4
import Derived.Shelf.Strconv.ParseIntEmpty
import Derived.Shelf.Strconv.Clone
import Derived.Shelf.Strconv.SyntaxError
import Derived.Shelf.LaysC
import Derived.Shelf.Strconv.ToError
import Derived.Shelf.Strconv.Lower
import Derived.Shelf.Strconv.ParseUint10
import Derived.Shelf.Strconv.ParseUint10Empty
import Derived.Shelf.Strconv.ParseUint10Any
import Derived.Shelf.Strconv.ParseInt10
import Derived.Shelf.Strconv.RangeError
import Derived.Shelf.Strconv.ToErrorRange
import Derived.Shelf.Strconv.ParseUintEmpty
import Derived.Shelf.Strconv.ParseUint10b64
import Derived.Shelf.Strconv.ParseUint10b32
import Derived.Shelf.Strconv.ParseUint10b16
import Derived.Shelf.Strconv.ParseUint10b8
import Derived.Shelf.Strconv.ParseUint10At
import Derived.Shelf.Strconv.ParseInt10At64
import Derived.Shelf.Strconv.ParseInt10At32
import Derived.Shelf.Strconv.ParseInt10At16
import Derived.Shelf.Strconv.ParseInt10At8
import Derived.Shelf.Strconv.ParseInt10All
import Derived.Shelf.Strconv.ParseIntPublic10
import Derived.Shelf.Strconv.ErrVarParseInt
import Derived.Shelf.Strings.Search1
import Derived.Shelf.Strings.Search2
import Derived.Shelf.Strings.Search3
import Derived.Shelf.Strings.Cut
import Derived.Shelf.Strings.Count
import Derived.Shelf.Strings.Shaped
import Derived.Shelf.Strings.Prefix
import Derived.Shelf.Strings.Split
import Derived.Shelf.Strings.SplitShaped
import Derived.Shelf.Unicode.DecodeSlow
import Derived.Shelf.Strings.BuilderCap
import Derived.Ground.SlgnProg
import Derived.Shelf.SlicesG.CompactI
import Derived.Shelf.SlicesG.Cells
import Derived.Lib.Bytealg
set_option linter.all false
set_option maxRecDepth 100000
namespace Go.Proofs.YtepeckjhdoicpaaGreatDoor
open Go Go.Ab
section
variable[dw:Go.Ab.bI]
theorem qd(l:List UInt8):(et l).length=l.length:=wa
theorem Fz(l:List UInt8){i:Nat}(h:i<(et l).length):(et l)[i]=[PV.int .u8 (l[i]'(by rw[qd]at h;exact h)).toNat]:=wa
theorem ug(a b:List UInt8):et (a++b)=et a++et b:=wa
theorem uh(b:UInt8):et [b]=[[.int .u8 b.toNat]]:=rfl
theorem KU(l:List UInt8):∀r∈et l,vy r=true:=λr a=>by
 obtain⟨b,_,rfl⟩:=ba.1 a;have:=b.toNat_lt;simp[vy];omega
theorem KV(l:List UInt8):(et l).map tJ=l:=by
 unfold et;rw[jG]
 conv=>rhs;rw[←xT l]
 refine fW λb _=>?_;simp[tJ]
def m_(u:Nat):List UInt8:=if h:u=0 then[] else UInt8.ofNat (48+u%10)::m_ (u/10)
 termination_by u
 decreasing_by omega
theorem sc:m_ 0=[]:=by rw[m_,dif_pos rfl]
theorem xe{u:Nat}(h:u≠0):m_ u=UInt8.ofNat (48+u%10)::m_ (u/10):=by rw[m_,dif_neg h]
theorem vh:∀{u:Nat},u≠0→Lib.decDigits u=(m_ u).reverse
 |u,h=>by
  rw[Lib.decDigits,xe h];by_cases h1:u<10
  ·rw[dif_pos h1];have e:u/10=0:=bd
   rw[e,sc,pw h1];rfl
  ·rw[dif_neg h1,vh (u:=u/10) bd,List.reverse_cons]
 termination_by u=>u
 decreasing_by omega
theorem xf:∀(k u:Nat),u<10^k→(m_ u).length≤k
 |0,u,h=>by
  have:u=0:=c8
  subst this;rw[sc];exact aK _
 |k+1,u,h=>by
  by_cases h0:u=0
  ·subst h0;rw[sc];exact eW _
  ·rw[xe h0,aL];have:=xf k (u/10) (by rw[Nat.pow_succ]at h;omega);omega
theorem Gi:m_ (0:Int).natAbs=[]:=sc
theorem vV:Lib.itoa 0=[48]:=by simp[Lib.itoa,Lib.decDigits_one]
theorem O0{n:Int}(h:0<n):Lib.itoa n=(m_ n.natAbs).reverse:=by
 unfold Lib.itoa;rw[av bd,vh bd]
 congr 2
 omega
theorem itoa_neg{n:Int}(h:n<0):Lib.itoa n=45::(m_ n.natAbs).reverse:=by
 unfold Lib.itoa;rw[aB h,vh bd]
theorem ar0(x:Int):(x.tdiv 10).natAbs=x.natAbs/10∧(x.tmod 10).natAbs=x.natAbs%10∧(0≤x→0≤x.tdiv 10∧0≤x.tmod 10)∧(x≤0→x.tdiv 10≤0∧x.tmod 10≤0):=by
 rcases Int.le_total 0 x with h|h
 ·rw[cc h,eF h];omega
 ·obtain⟨y,rfl⟩:∃y,x = -y:=⟨-x,bd⟩;have hy:0≤y:=bd
  rw[Int.neg_tdiv,Jt,cc hy,eF hy];omega
theorem agO{d:Nat}(h:d<10):IntKind.u8.wrap (IntKind.i64.wrap (48+(d:Int)))=((UInt8.ofNat (48+d)).toNat:Int):=by
 rw[bX bd bd,w8 bd bd];have:(UInt8.ofNat (48+d)).toNat=48+d:=ca
 rw[this];omega
theorem oz(n:Int)(hn:KW n):H0 32 [.int .i64 n] (.str (Lib.itoa n)):=by
 obtain⟨K,d⟩:=hn;refine iF hm Tryz.func32 ?_;simp;refine⟨λh=>by subst h;exact vV.symm,λh0=>?_⟩;have hu:(m_ n.natAbs).length≤20:=xf 20 _ bd;refine gp hm (ι:={x:List UInt8×Int // x.1++m_ x.2.natAbs=m_ n.natAbs∧KW x.2∧(0<n→0≤x.2)∧(n<0→x.2≤0)}) (λx=>⟨[(0,.int .i64 n),(3,.sf 0 1),(4,.int .i64 x.1.2)],[some (.arr 1 (et x.1.1))]⟩) (λx=>x.1.2.natAbs) bl ⟨([],n),bn,⟨K,d⟩,ca,ca⟩ ?_ ?_
 ·refine(cg (t:=3) (z:=1) rfl).trans (wk [0] [] ?_);simp[et]
 ·rintro⟨⟨D,x⟩,h1,⟨h2,g⟩,j,l⟩;simp only at h1 h2 g j l⊢;simp;obtain⟨m,N,p,q⟩:=ar0 x;have f:x.natAbs%10<10:=l5 _ bd;have hl:(et D).length≤20:=by
   rw[qd];have:=aP List.length h1;rw[aA]at this;omega
  have c:IntKind.i64.wrap (x.tdiv 10)=x.tdiv 10:=bX bd bd;refine⟨λhx=>?_,λhx=>?_⟩
  ·have o:m_ x.natAbs=UInt8.ofNat (48+x.natAbs%10)::m_ (x.tdiv 10).natAbs:=by rw[xe bd,m]
   have key:(D++[UInt8.ofNat (48+x.natAbs%10)])++m_ (x.tdiv 10).natAbs=m_ n.natAbs:=by rw[←h1,o];simp
   refine⟨λh=>?_,λh=>?_⟩
   ·have e:IntKind.i64.wrap (-x.tmod 10)=((x.natAbs%10:Nat):Int):=bo
    rw[e,agO f,c];refine⟨b4,bd,bd,D++[UInt8.ofNat (48+x.natAbs%10)],x.tdiv 10,wk [0] [] ?_,⟨key,⟨bd,bd⟩,bd,bd⟩,bd⟩;simp[ug,uh]
   ·have e:x.tmod 10=((x.natAbs%10:Nat):Int):=bd
    rw[e,agO f,c];refine⟨b4,bd,bd,D++[UInt8.ofNat (48+x.natAbs%10)],x.tdiv 10,wk [0] [] ?_,⟨key,⟨bd,bd⟩,bd,bd⟩,bd⟩;simp[ug,uh]
  ·have H:x=0:=bd
   subst H;rw[Gi,bq]at h1;have r:(et D).length=D.length:=qd D;refine⟨λS=>?_,λR=>?_⟩
   ·refine⟨b4,bd,bd,?_⟩;obtain⟨L,a⟩:∃L,D++[45]=L:=⟨_,rfl⟩;have y:L.reverse=Lib.itoa n:=by rw[←a,itoa_neg S,←h1];simp
    have G:L.length≤21:=by rw[←a];simp;omega
    refine lu hm L.length (λi=>⟨[(3,.sf 0 1),(6,.sf 1 1),(7,.int .i64 ((L.length:Int)-1-i))],[some (.arr 1 (et L)),some (.arr 1 (et (L.reverse.take i)))]⟩) ?_ (λi hi=>?_) ?_
    ·refine(cg (t:=6) (z:=1) rfl).trans (wk [0,2] [] ?_);simp[qd,←a,ug,uh];simp[et]
     try rw[bX bd bd]
     try omega
    ·obtain⟨k,hk⟩:∃k,k=L.length-1-i:=⟨_,rfl⟩;have s:(L.length:Int)-1-i=(k:Int):=bd
     have A:k<L.length:=bd
     have b:IntKind.i64.wrap ((k:Int)-1)=(k:Int)-1:=bX bd bd;have Z:L.reverse.take (i+1)=L.reverse.take i++[L[k]]:=by
      rw[←aq ca]
      congr 2
      rw[List.getElem_reverse]
      congr 1
      omega
     rw[s];simp[qd,Fz,A];refine⟨b4,bd,bd,wk [0,1] [] ?_⟩;simp[b,Z,ug,uh];omega
    ·simp[KV,y];exact⟨bd,λ_=>⟨KU _,by rw[←y,ay bn]⟩⟩
   ·obtain⟨L,a⟩:∃L,D=L:=⟨_,rfl⟩;have y:L.reverse=Lib.itoa n:=by rw[←a,O0 bd,←h1]
    have G:L.length≤21:=by rw[←a];omega
    refine lu hm L.length (λi=>⟨[(3,.sf 0 1),(6,.sf 1 1),(7,.int .i64 ((L.length:Int)-1-i))],[some (.arr 1 (et L)),some (.arr 1 (et (L.reverse.take i)))]⟩) ?_ (λi hi=>?_) ?_
    ·refine(cg (t:=6) (z:=1) rfl).trans (wk [0,1] [] ?_);simp[qd,←a];simp[et]
     try rw[bX bd bd]
     try omega
    ·obtain⟨k,hk⟩:∃k,k=L.length-1-i:=⟨_,rfl⟩;have s:(L.length:Int)-1-i=(k:Int):=bd
     have A:k<L.length:=bd
     have b:IntKind.i64.wrap ((k:Int)-1)=(k:Int)-1:=bX bd bd;have Z:L.reverse.take (i+1)=L.reverse.take i++[L[k]]:=by
      rw[←aq ca]
      congr 2
      rw[List.getElem_reverse]
      congr 1
      omega
     rw[s];simp[qd,Fz,A];refine⟨b4,bd,bd,wk [0,1] [] ?_⟩;simp[b,Z,ug,uh];omega
    ·simp[KV,y];exact⟨bd,λ_=>⟨KU _,by rw[←y,ay bn]⟩⟩
end
end Go.Proofs.YtepeckjhdoicpaaGreatDoor
/-
  DERIVED: THE SHELF's CONTRACTS AT THIS DUMP,IN PLAIN WORDS (tools/lay-plain.mjs out of 'TryzShelf.lean',which tools/lay-shelf.mjs wrote): THE SAME DECLARATIONS UNDER THE SAME NAMES: 'import','namespace','open','def','theorem' AND NOTHING ELSE: no command of the shelf's: FOR A HAND-IN. Each laying: the table of numbers ('.._ren') and one theorem,a field a fact of the dump's own or the kernel's comparison;each contract: ONE APPLICATION.
-/
namespace Go.Proofs
open Go.Shelf Go.Ab
def Tryz.FP:Go.Shelf.Ren:=⟨λ| 156=>298|165=>411|166=>12|169=>13|240=>23|241=>479|276=>84|277=>544|n=>n,λ| 31=>25|9=>9|3=>3|4=>4|0=>0|20=>20|72=>56|76=>61|70=>53|37=>54|75=>60|127=>72|164=>188|5=>5|80=>63|n=>n,λ| n=>n⟩
theorem Tryz.TX:Go.Proofs.Lays.n156 Tryz.prog Tryz.FP:={
 mixed:=bl
 f156:=Tryz.func298.trans (aP some bl)
 f165:=Tryz.func411.trans (aP some bl)
 f166:=Tryz.func12.trans (aP some bl)
 f169:=Tryz.func13.trans (aP some bl)
 f240:=Tryz.func23.trans (aP some bl)
 f241:=Tryz.func479.trans (aP some bl)
 f276:=Tryz.func84.trans (aP some bl)
 f277:=Tryz.func544.trans (aP some bl)
 t0:=Tryz.underlying0
 a0:=Tryz.isAgg0
 z0:=Tryz.sizeOf0
 v0:=Tryz.zeroValue0
 t3:=Tryz.underlying3
 a3:=Tryz.isAgg3
 z3:=Tryz.sizeOf3
 v3:=Tryz.zeroValue3
 t4:=Tryz.underlying4
 a4:=Tryz.isAgg4
 z4:=Tryz.sizeOf4
 v4:=Tryz.zeroValue4
 t9:=Tryz.underlying9
 a9:=Tryz.isAgg9
 z9:=Tryz.sizeOf9
 v9:=Tryz.zeroValue9
 t20:=Tryz.underlying20
 a20:=Tryz.isAgg20
 z20:=Tryz.sizeOf20
 v20:=Tryz.zeroValue20
 t31:=Tryz.underlying25
 a31:=Tryz.isAgg25
 z31:=Tryz.sizeOf25
 v31:=Tryz.zeroValue25
 t37:=Tryz.underlying54
 a37:=Tryz.isAgg54
 z37:=Tryz.sizeOf54
 v37:=Tryz.zeroValue54
 t70:=Tryz.underlying53
 a70:=Tryz.isAgg53
 z70:=Tryz.sizeOf53
 v70:=Tryz.zeroValue53
 t72:=Tryz.underlying56
 a72:=Tryz.isAgg56
 z72:=Tryz.sizeOf56
 v72:=Tryz.zeroValue56
 t75:=Tryz.underlying60
 a75:=Tryz.isAgg60
 z75:=Tryz.sizeOf60
 v75:=Tryz.zeroValue60
 t76:=Tryz.underlying61
 a76:=Tryz.isAgg61
 z76:=Tryz.sizeOf61
 v76:=Tryz.zeroValue61
 t127:=Tryz.underlying72
 a127:=Tryz.isAgg72
 z127:=Tryz.sizeOf72
 v127:=Tryz.zeroValue72
 t164:=Tryz.underlying188
 a164:=Tryz.isAgg188
 z164:=Tryz.sizeOf188
 v164:=Tryz.zeroValue188}
theorem Tryz.u5:Builder.Extra Tryz.prog Tryz.FP:={
 sizeBuilder:=bl
 liesBuilder:=bl
 t5:=Tryz.underlying5
 a5:=Tryz.isAgg5
 z5:=Tryz.sizeOf5
 v5:=Tryz.zeroValue5
 infoByte:=bl
 cellsByte:=bl
 sizeByte:=bl
 neB5:=bt}
open Go.RowKit in
theorem Tryz.strings_Join_none(a:Option Addr)(c:Nat)(b:ByteArray)(w:World):
  Calls Tryz.prog 298 #[.slice a 0 c,.string b] w λe w'=>e=.returned (.string ⟨#[]⟩)∧w'=w:=Any.strings_Join_none Tryz.TX Tryz.u5 a c b w
open Go.RowKit in
theorem Tryz.strings_Join(bk o c:Nat)(xs:List ByteArray)(a:ByteArray)(w:World)(b:∀(j:Nat) x,xs[j]?=some x→w.cell? ⟨bk,o+j,none⟩=some (.string x))(O:bk<w.heap.size)(d:xs.length≤140737488355328)(r6:xs.length≤c)(s:(Lib.join (xs.map (·.data.toList)) a.data.toList).length≤140737488355328):
  Calls Tryz.prog 298 #[.slice (some ⟨bk,o,none⟩) xs.length c,.string a] w λe w'=>e=.returned (.string ⟨(Lib.join (xs.map (·.data.toList)) a.data.toList).toArray⟩)∧Below w.heap.size w w':=Any.strings_Join Tryz.TX Tryz.u5 bk o c xs a w b O d r6 s
def Tryz.Ny:Go.Shelf.Ren:=⟨λ| 173=>281|246=>395|283=>461|284=>462|285=>463|286=>464|129=>476|317=>525|318=>526|319=>527|320=>528|337=>568|338=>569|n=>n,λ| 2=>2|3=>3|9=>9|4=>4|171=>494|0=>0|53=>435|37=>54|5=>5|173=>497|212=>536|51=>469|20=>20|213=>537|46=>391|232=>581|233=>582|n=>n,λ| 17=>5|18=>6|19=>7|n=>n⟩
theorem Tryz.Y2:Go.Proofs.LaysM.n173 Tryz.prog Tryz.Ny:={
 mixed:=bl
 f129:=Tryz.func476.trans (aP some bl)
 f173:=Tryz.func281.trans (aP some bl)
 f246:=Tryz.func395.trans (aP some bl)
 f283:=Tryz.func461.trans (aP some bl)
 f284:=Tryz.func462.trans (aP some bl)
 f285:=Tryz.func463.trans (aP some bl)
 f286:=Tryz.func464.trans (aP some bl)
 f317:=Tryz.func525.trans (aP some bl)
 f318:=Tryz.func526.trans (aP some bl)
 f319:=Tryz.func527.trans (aP some bl)
 f320:=Tryz.func528.trans (aP some bl)
 f337:=Tryz.func568.trans (aP some bl)
 f338:=Tryz.func569.trans (aP some bl)
 t0:=Tryz.underlying0
 a0:=Tryz.isAgg0
 z0:=Tryz.sizeOf0
 v0:=Tryz.zeroValue0
 t2:=Tryz.underlying2
 a2:=Tryz.isAgg2
 z2:=Tryz.sizeOf2
 v2:=Tryz.zeroValue2
 t3:=Tryz.underlying3
 a3:=Tryz.isAgg3
 z3:=Tryz.sizeOf3
 v3:=Tryz.zeroValue3
 t4:=Tryz.underlying4
 a4:=Tryz.isAgg4
 z4:=Tryz.sizeOf4
 v4:=Tryz.zeroValue4
 t5:=Tryz.underlying5
 a5:=Tryz.isAgg5
 z5:=Tryz.sizeOf5
 v5:=Tryz.zeroValue5
 t9:=Tryz.underlying9
 a9:=Tryz.isAgg9
 z9:=Tryz.sizeOf9
 v9:=Tryz.zeroValue9
 t20:=Tryz.underlying20
 a20:=Tryz.isAgg20
 z20:=Tryz.sizeOf20
 v20:=Tryz.zeroValue20
 t37:=Tryz.underlying54
 a37:=Tryz.isAgg54
 z37:=Tryz.sizeOf54
 v37:=Tryz.zeroValue54
 t46:=Tryz.underlying391
 a46:=Tryz.isAgg391
 z46:=Tryz.sizeOf391
 v46:=Tryz.zeroValue391
 t51:=Tryz.underlying469
 a51:=Tryz.isAgg469
 z51:=Tryz.sizeOf469
 v51:=Tryz.zeroValue469
 t53:=Tryz.underlying435
 a53:=Tryz.isAgg435
 z53:=Tryz.sizeOf435
 v53:=Tryz.zeroValue435
 t171:=Tryz.underlying494
 a171:=Tryz.isAgg494
 z171:=Tryz.sizeOf494
 v171:=Tryz.zeroValue494
 t173:=Tryz.underlying497
 a173:=Tryz.isAgg497
 z173:=Tryz.sizeOf497
 v173:=Tryz.zeroValue497
 t212:=Tryz.underlying536
 a212:=Tryz.isAgg536
 z212:=Tryz.sizeOf536
 v212:=Tryz.zeroValue536
 t213:=Tryz.underlying537
 a213:=Tryz.isAgg537
 z213:=Tryz.sizeOf537
 t232:=Tryz.underlying581
 a232:=Tryz.isAgg581
 z232:=Tryz.sizeOf581
 v232:=Tryz.zeroValue581
 t233:=Tryz.underlying582
 a233:=Tryz.isAgg582
 z233:=Tryz.sizeOf582
 v233:=Tryz.zeroValue582
 g17:=bl
 g18:=bl
 g19:=bl
 i0:=bl
 i2:=bl
 i3:=bl
 i4:=bl
 i5:=bl
 i9:=bl
 i20:=bl
 i37:=bl
 i46:=bl
 i51:=bl
 i53:=bl
 i171:=bl
 i173:=bl
 i212:=bl
 i232:=bl
 i233:=bl
 m17:=bl
 m18:=bl
 m19:=bl}
open Go.RowKit Go.Sort Go.Lib in
theorem Tryz.strconv_FormatInt_10 (n : Int) (h0 : -9223372036854775808 ≤ n) (h1 : n ≤ 9223372036854775807) (w : World) (B : Lib.TabIs Tryz.prog w "internal/strconv.uint64pow10" .u64 Lib.pow10Tab) :
  Calls Tryz.prog 281 #[.int .i64 n,.int .i64 10] w λe w'=>e=.returned (.string ⟨(Lib.itoa n).toArray⟩)∧∃k os,w'=grow (w.drewN k) os:=Any.strconv_FormatInt_10 Tryz.Y2 n h0 h1 w B
def Tryz.Nz:Go.Shelf.Ren:=⟨λ| 174=>171|247=>279|245=>280|287=>390|279=>391|280=>392|281=>393|282=>394|321=>456|322=>457|316=>458|171=>460|205=>459|243=>524|246=>395|283=>461|284=>462|285=>463|286=>464|129=>476|317=>525|318=>526|319=>527|320=>528|337=>568|338=>569|n=>n,λ| 9=>9|3=>3|2=>2|75=>60|85=>269|4=>4|167=>434|5=>5|53=>435|175=>436|46=>391|168=>438|37=>54|0=>0|210=>491|21=>21|127=>72|145=>534|143=>532|171=>494|173=>497|212=>536|51=>469|20=>20|213=>537|232=>581|233=>582|80=>63|n=>n,λ| 15=>3|16=>4|17=>5|18=>6|19=>7|n=>n⟩
theorem Tryz.Jj:Go.Proofs.LaysC.n174 Tryz.prog Tryz.Nz:={
 mixed:=bl
 f129:=Tryz.func476.trans (aP some bl)
 f171:=Tryz.func460.trans (aP some bl)
 f174:=Tryz.func171.trans (aP some bl)
 f205:=Tryz.func459.trans (aP some bl)
 f243:=Tryz.func524.trans (aP some bl)
 f245:=Tryz.func280.trans (aP some bl)
 f246:=Tryz.func395.trans (aP some bl)
 f247:=Tryz.func279.trans (aP some bl)
 f279:=Tryz.func391.trans (aP some bl)
 f280:=Tryz.func392.trans (aP some bl)
 f281:=Tryz.func393.trans (aP some bl)
 f282:=Tryz.func394.trans (aP some bl)
 f283:=Tryz.func461.trans (aP some bl)
 f284:=Tryz.func462.trans (aP some bl)
 f285:=Tryz.func463.trans (aP some bl)
 f286:=Tryz.func464.trans (aP some bl)
 f287:=Tryz.func390.trans (aP some bl)
 f316:=Tryz.func458.trans (aP some bl)
 f317:=Tryz.func525.trans (aP some bl)
 f318:=Tryz.func526.trans (aP some bl)
 f319:=Tryz.func527.trans (aP some bl)
 f320:=Tryz.func528.trans (aP some bl)
 f321:=Tryz.func456.trans (aP some bl)
 f322:=Tryz.func457.trans (aP some bl)
 f337:=Tryz.func568.trans (aP some bl)
 f338:=Tryz.func569.trans (aP some bl)
 t0:=Tryz.underlying0
 a0:=Tryz.isAgg0
 z0:=Tryz.sizeOf0
 v0:=Tryz.zeroValue0
 t2:=Tryz.underlying2
 a2:=Tryz.isAgg2
 z2:=Tryz.sizeOf2
 v2:=Tryz.zeroValue2
 t3:=Tryz.underlying3
 a3:=Tryz.isAgg3
 z3:=Tryz.sizeOf3
 v3:=Tryz.zeroValue3
 t4:=Tryz.underlying4
 a4:=Tryz.isAgg4
 z4:=Tryz.sizeOf4
 v4:=Tryz.zeroValue4
 t5:=Tryz.underlying5
 a5:=Tryz.isAgg5
 z5:=Tryz.sizeOf5
 v5:=Tryz.zeroValue5
 t9:=Tryz.underlying9
 a9:=Tryz.isAgg9
 z9:=Tryz.sizeOf9
 v9:=Tryz.zeroValue9
 t20:=Tryz.underlying20
 a20:=Tryz.isAgg20
 z20:=Tryz.sizeOf20
 v20:=Tryz.zeroValue20
 t21:=Tryz.underlying21
 a21:=Tryz.isAgg21
 z21:=Tryz.sizeOf21
 v21:=Tryz.zeroValue21
 t37:=Tryz.underlying54
 a37:=Tryz.isAgg54
 z37:=Tryz.sizeOf54
 v37:=Tryz.zeroValue54
 t46:=Tryz.underlying391
 a46:=Tryz.isAgg391
 z46:=Tryz.sizeOf391
 v46:=Tryz.zeroValue391
 t51:=Tryz.underlying469
 a51:=Tryz.isAgg469
 z51:=Tryz.sizeOf469
 v51:=Tryz.zeroValue469
 t53:=Tryz.underlying435
 a53:=Tryz.isAgg435
 z53:=Tryz.sizeOf435
 v53:=Tryz.zeroValue435
 t75:=Tryz.underlying60
 a75:=Tryz.isAgg60
 z75:=Tryz.sizeOf60
 v75:=Tryz.zeroValue60
 t85:=Tryz.underlying269
 a85:=Tryz.isAgg269
 z85:=Tryz.sizeOf269
 v85:=Tryz.zeroValue269
 t127:=Tryz.underlying72
 a127:=Tryz.isAgg72
 z127:=Tryz.sizeOf72
 v127:=Tryz.zeroValue72
 t143:=Tryz.underlying532
 a143:=Tryz.isAgg532
 z143:=Tryz.sizeOf532
 v143:=Tryz.zeroValue532
 t145:=Tryz.underlying534
 a145:=Tryz.isAgg534
 z145:=Tryz.sizeOf534
 v145:=Tryz.zeroValue534
 t167:=Tryz.underlying434
 a167:=Tryz.isAgg434
 z167:=Tryz.sizeOf434
 v167:=Tryz.zeroValue434
 t168:=Tryz.underlying438
 a168:=Tryz.isAgg438
 z168:=Tryz.sizeOf438
 v168:=Tryz.zeroValue438
 t171:=Tryz.underlying494
 a171:=Tryz.isAgg494
 z171:=Tryz.sizeOf494
 v171:=Tryz.zeroValue494
 t173:=Tryz.underlying497
 a173:=Tryz.isAgg497
 z173:=Tryz.sizeOf497
 v173:=Tryz.zeroValue497
 t175:=Tryz.underlying436
 a175:=Tryz.isAgg436
 z175:=Tryz.sizeOf436
 v175:=Tryz.zeroValue436
 t210:=Tryz.underlying491
 a210:=Tryz.isAgg491
 z210:=Tryz.sizeOf491
 v210:=Tryz.zeroValue491
 t212:=Tryz.underlying536
 a212:=Tryz.isAgg536
 z212:=Tryz.sizeOf536
 v212:=Tryz.zeroValue536
 t213:=Tryz.underlying537
 a213:=Tryz.isAgg537
 z213:=Tryz.sizeOf537
 t232:=Tryz.underlying581
 a232:=Tryz.isAgg581
 z232:=Tryz.sizeOf581
 v232:=Tryz.zeroValue581
 t233:=Tryz.underlying582
 a233:=Tryz.isAgg582
 z233:=Tryz.sizeOf582
 v233:=Tryz.zeroValue582
 g15:=bl
 g16:=bl
 g17:=bl
 g18:=bl
 g19:=bl
 t80:=Tryz.underlying63
 a80:=Tryz.isAgg63
 z80:=Tryz.sizeOf63
 v80:=Tryz.zeroValue63
 i0:=bl
 i2:=bl
 i3:=bl
 i4:=bl
 i5:=bl
 i9:=bl
 i20:=bl
 i21:=bl
 i37:=bl
 i46:=bl
 i51:=bl
 i53:=bl
 i75:=bl
 i80:=bl
 i85:=bl
 i127:=bl
 i143:=bl
 i145:=bl
 i167:=bl
 i168:=bl
 i171:=bl
 i173:=bl
 i175:=bl
 i210:=bl
 i212:=bl
 i232:=bl
 i233:=bl
 m15:=bl
 m16:=bl
 m17:=bl
 m18:=bl
 m19:=bl
 c0:=bl
 c2:=bl
 c3:=bl
 c4:=bl
 c5:=bl
 c9:=bl
 c20:=bl
 c21:=bl
 c37:=bl
 c46:=bl
 c51:=bl
 c53:=bl
 c75:=bl
 c80:=bl
 c85:=bl
 c127:=bl
 c143:=bl
 c145:=bl
 c167:=bl
 c168:=bl
 c171:=bl
 c173:=bl
 c175:=bl
 c210:=bl
 c212:=bl
 c213:=bl
 c232:=bl
 c233:=bl}
open Go.RowKit in
theorem Tryz.strconv_ParseInt_10_at64_ok(s:ByteArray)(A:s.size≤9223372036854775806)(v:Int)(h:Lib.parseIntB 64 s.data.toList=.ok v)(w:World):
  Calls Tryz.prog 171 #[.string s,.int .i64 10,.int .i64 64] w λe w'=>e=.returned (.tuple #[.int .i64 v,.nilIface])∧(w'=w∨∃t,w'=Lib.bytesWorld w 5 t):=Any.strconv_ParseInt_10_at64_ok Tryz.Jj s A v h w
open Go.RowKit in
theorem Tryz.strconv_ParseInt_10_at64_syntax(s:ByteArray)(V:s.size≤281474976710656)(h:Lib.parseIntB 64 s.data.toList=Lib.NumEnd.syntax)(ev:Value)(w:World)(a:w.cell? ⟨3,0,none⟩=some ev)(oI:ev=.nilIface∨∃te pe,ev=.iface te pe):
  Calls Tryz.prog 171 #[.string s,.int .i64 10,.int .i64 64] w λe w'=>∃N,e=.returned (.tuple #[.int .i64 (0),.iface 438 (.pointer (some ⟨N,0,none⟩))])∧w.heap.size≤N∧w'.heap[N]?=some (.cells #[.string ⟨#[80,97,114,115,101,73,110,116]⟩,.string s,ev] 491 (0,0))∧Below w.heap.size w w':=Any.strconv_ParseInt_10_at64_syntax Tryz.Jj s V h ev w a oI
open Go.RowKit in
theorem Tryz.strconv_ParseInt_10_at64_range(s:ByteArray)(V:s.size≤281474976710656)(h:Lib.parseIntB 64 s.data.toList=.range)(ev:Value)(w:World)(a:w.cell? ⟨4,0,none⟩=some ev)(oI:ev=.nilIface∨∃te pe,ev=.iface te pe):
  Calls Tryz.prog 171 #[.string s,.int .i64 10,.int .i64 64] w λe w'=>∃N,e=.returned (.tuple #[.int .i64 (Lib.intSat 64 s.data.toList),.iface 438 (.pointer (some ⟨N,0,none⟩))])∧w.heap.size≤N∧w'.heap[N]?=some (.cells #[.string ⟨#[80,97,114,115,101,73,110,116]⟩,.string s,ev] 491 (0,0))∧Below w.heap.size w w':=Any.strconv_ParseInt_10_at64_range Tryz.Jj s V h ev w a oI
def Tryz.Qa:Go.Shelf.Ren:=⟨λ| 145=>76|220=>158|219=>222|217=>332|225=>333|224=>334|267=>335|266=>433|314=>434|n=>n,λ| 9=>9|4=>4|59=>181|3=>3|5=>5|46=>391|146=>470|51=>469|n=>n,λ| 1=>0|n=>n⟩
theorem Tryz.aba:Go.Proofs.Lays.n145 Tryz.prog Tryz.Qa:={
 mixed:=bl
 f145:=Tryz.func76.trans (aP some bl)
 f217:=Tryz.func332.trans (aP some bl)
 f219:=Tryz.func222.trans (aP some bl)
 f220:=Tryz.func158.trans (aP some bl)
 f224:=Tryz.func334.trans (aP some bl)
 f225:=Tryz.func333.trans (aP some bl)
 f266:=Tryz.func433.trans (aP some bl)
 f267:=Tryz.func335.trans (aP some bl)
 f314:=Tryz.func434.trans (aP some bl)
 t3:=Tryz.underlying3
 a3:=Tryz.isAgg3
 z3:=Tryz.sizeOf3
 v3:=Tryz.zeroValue3
 t4:=Tryz.underlying4
 a4:=Tryz.isAgg4
 z4:=Tryz.sizeOf4
 v4:=Tryz.zeroValue4
 t5:=Tryz.underlying5
 a5:=Tryz.isAgg5
 z5:=Tryz.sizeOf5
 v5:=Tryz.zeroValue5
 t9:=Tryz.underlying9
 a9:=Tryz.isAgg9
 z9:=Tryz.sizeOf9
 v9:=Tryz.zeroValue9
 t46:=Tryz.underlying391
 a46:=Tryz.isAgg391
 z46:=Tryz.sizeOf391
 v46:=Tryz.zeroValue391
 t51:=Tryz.underlying469
 a51:=Tryz.isAgg469
 z51:=Tryz.sizeOf469
 v51:=Tryz.zeroValue469
 t59:=Tryz.underlying181
 a59:=Tryz.isAgg181
 z59:=Tryz.sizeOf181
 v59:=Tryz.zeroValue181
 t146:=Tryz.underlying470
 a146:=Tryz.isAgg470
 z146:=Tryz.sizeOf470
 v146:=Tryz.zeroValue470
 g1:=bl}
open Go.RowKit Go.Lib in
theorem Tryz.strings_Cut(s c:ByteArray)(m:Int)(w:World)(hs:s.size<4294967281)(hm:w.cell? ⟨0,0,none⟩=some (.int .i64 m)):
  Calls Tryz.prog 76 #[.string s,.string c] w λe w'=>e=.returned (.tuple #[.string ⟨(Lib.cut s.data.toList c.data.toList).1.toArray⟩,.string ⟨(Lib.cut s.data.toList c.data.toList).2.1.toArray⟩,.bool (Lib.cut s.data.toList c.data.toList).2.2])∧∃n,w'=w.drewN n:=Any.strings_Cut Tryz.aba s c m w hs hm
def Tryz.Qb:Go.Shelf.Ren:=⟨λ| 101=>170|208=>278|206=>389|n=>n,λ| 9=>9|4=>4|3=>3|n=>n,λ| n=>n⟩
theorem Tryz.abb:Go.Proofs.Lays.n101 Tryz.prog Tryz.Qb:={
 mixed:=bl
 f101:=Tryz.func170.trans (aP some bl)
 f206:=Tryz.func389.trans (aP some bl)
 f208:=Tryz.func278.trans (aP some bl)
 t3:=Tryz.underlying3
 a3:=Tryz.isAgg3
 z3:=Tryz.sizeOf3
 v3:=Tryz.zeroValue3
 t4:=Tryz.underlying4
 a4:=Tryz.isAgg4
 z4:=Tryz.sizeOf4
 v4:=Tryz.zeroValue4
 t9:=Tryz.underlying9
 a9:=Tryz.isAgg9
 z9:=Tryz.sizeOf9
 v9:=Tryz.zeroValue9}
open Go.RowKit Go.Lib in
theorem Tryz.strings_TrimPrefix(s p:ByteArray)(w:World):
  Calls Tryz.prog 170 #[.string s,.string p] w λe w'=>e=.returned (.string ⟨(Lib.trimPrefix s.data.toList p.data.toList).toArray⟩)∧w'=w:=Any.strings_TrimPrefix Tryz.abb s p w
def Tryz.Qc:Go.Shelf.Ren:=⟨λ| 146=>18|221=>60|268=>135|138=>136|143=>137|195=>219|197=>220|218=>221|219=>222|260=>331|217=>332|225=>333|224=>334|267=>335|266=>433|314=>434|n=>n,λ| 9=>9|31=>25|3=>3|4=>4|0=>0|105=>296|21=>21|5=>5|46=>391|119=>465|139=>468|138=>467|146=>470|51=>469|n=>n,λ| 1=>0|3=>1|4=>2|n=>n⟩
theorem Tryz.abc:Go.Proofs.Lays.n146 Tryz.prog Tryz.Qc:={
 mixed:=bl
 f138:=Tryz.func136.trans (aP some bl)
 f143:=Tryz.func137.trans (aP some bl)
 f146:=Tryz.func18.trans (aP some bl)
 f195:=Tryz.func219.trans (aP some bl)
 f197:=Tryz.func220.trans (aP some bl)
 f217:=Tryz.func332.trans (aP some bl)
 f218:=Tryz.func221.trans (aP some bl)
 f219:=Tryz.func222.trans (aP some bl)
 f221:=Tryz.func60.trans (aP some bl)
 f224:=Tryz.func334.trans (aP some bl)
 f225:=Tryz.func333.trans (aP some bl)
 f260:=Tryz.func331.trans (aP some bl)
 f266:=Tryz.func433.trans (aP some bl)
 f267:=Tryz.func335.trans (aP some bl)
 f268:=Tryz.func135.trans (aP some bl)
 f314:=Tryz.func434.trans (aP some bl)
 t0:=Tryz.underlying0
 a0:=Tryz.isAgg0
 z0:=Tryz.sizeOf0
 v0:=Tryz.zeroValue0
 t3:=Tryz.underlying3
 a3:=Tryz.isAgg3
 z3:=Tryz.sizeOf3
 v3:=Tryz.zeroValue3
 t4:=Tryz.underlying4
 a4:=Tryz.isAgg4
 z4:=Tryz.sizeOf4
 v4:=Tryz.zeroValue4
 t5:=Tryz.underlying5
 a5:=Tryz.isAgg5
 z5:=Tryz.sizeOf5
 v5:=Tryz.zeroValue5
 t9:=Tryz.underlying9
 a9:=Tryz.isAgg9
 z9:=Tryz.sizeOf9
 v9:=Tryz.zeroValue9
 t21:=Tryz.underlying21
 a21:=Tryz.isAgg21
 z21:=Tryz.sizeOf21
 v21:=Tryz.zeroValue21
 t31:=Tryz.underlying25
 a31:=Tryz.isAgg25
 z31:=Tryz.sizeOf25
 v31:=Tryz.zeroValue25
 t46:=Tryz.underlying391
 a46:=Tryz.isAgg391
 z46:=Tryz.sizeOf391
 v46:=Tryz.zeroValue391
 t51:=Tryz.underlying469
 a51:=Tryz.isAgg469
 z51:=Tryz.sizeOf469
 v51:=Tryz.zeroValue469
 t105:=Tryz.underlying296
 a105:=Tryz.isAgg296
 z105:=Tryz.sizeOf296
 v105:=Tryz.zeroValue296
 t119:=Tryz.underlying465
 a119:=Tryz.isAgg465
 z119:=Tryz.sizeOf465
 t138:=Tryz.underlying467
 a138:=Tryz.isAgg467
 z138:=Tryz.sizeOf467
 v138:=Tryz.zeroValue467
 t139:=Tryz.underlying468
 a139:=Tryz.isAgg468
 z139:=Tryz.sizeOf468
 v139:=Tryz.zeroValue468
 t146:=Tryz.underlying470
 a146:=Tryz.isAgg470
 z146:=Tryz.sizeOf470
 v146:=Tryz.zeroValue470
 g1:=bl
 g3:=bl
 g4:=bl}
open Go.RowKit Go.Lib in
theorem Tryz.strings_Split(s c:ByteArray)(m:Int)(w:World)(hs:s.size<4294967281)(hm:w.cell? ⟨0,0,none⟩=some (.int .i64 m))(h1:1≤c.size):
  Calls Tryz.prog 18 #[.string s,.string c] w λe w'=>
   e=.returned (.slice (some ⟨w.heap.size,0,none⟩) (Lib.countB s c+1) (Lib.countB s c+1))∧w'=w.alloc (.cells ((Lib.splitB c 0 (Lib.countB s c) s).map Value.string).toArray 9):=Any.strings_Split Tryz.abc bl s c m w hs hm h1
end Go.Proofs
namespace Go.Ab
section
variable[dw:Go.Ab.bI]
variable{P:Program}{A A':Nat→Prop}{m m':dt}{h h':eV}{w w':World}{H:Heap}
theorem Ke{vs:Array Value}(h:vs.size=2):vs = #[vs.getD 0 undef,vs.getD 1 undef]:=by
 apply GA
 ·simp[h]
 ·intro i h1 h2;have:i=0∨i=1:=bd
  rcases this with rfl|rfl<;>simp[ax,h]
theorem QH {f : Nat} {fn : Func} {e : Array Value → Sem Value} (hf : P.funcs[f]? = some fn) (r : (fn.name == "runtime.NumGoroutine") = false) (hb : fn.body.isNone = true) (hn : Extern.findNext fn = none) (he : Extern.find fn = some e) {args : List PV} {res : PV}
  (h:∀(A:Nat→Prop)(w:World)(vs:Array Value),vs.size=args.length→(∀(i:Nat)(p:PV),args[i]?=some p→bD A (λ_=>none) (λ_=>none) w p (vs.getD i undef))→∃v,(e vs).run P w=.ok v w∧dC A w res v) (O:∀(i:Nat)(p:PV),args[i]?=some p→cG p=true):
  iW P f args [] res []:=λA m w vs hA l E ey=>by
 obtain⟨v,a,c⟩:=h A w vs E λi p g=>.dB ((ey i p g).L8 (O i p g));unfold gT;rw[T5 hf r hb hn he,a];exact⟨rfl,v,A,m,rfl,⟨.refl _ _,λb hb=>.inl hb,hA,l,λb hb=>.inl hb,.dB c⟩⟩
theorem JF {f : Nat} {fn : Func} (hf : P.funcs[f]? = some fn) (r : (fn.name == "runtime.NumGoroutine") = false) (hb : fn.body.isNone = true) (hn : Extern.findNext fn = none) (he : Extern.find fn = some Extern.BytealgCompare.compare) (a b : List UInt8) :
  iW P f [.str a,.str b] [] (.int .i64 (Lib.compareBytes a b)) []:=
 QH hf r hb hn he (λA w vs E ey=>by
  obtain⟨x,hx,rfl⟩:=(ey 0 _ rfl).str;obtain⟨y,hy,rfl⟩:=(ey 1 _ rfl).str;rw[Ke E,hx,hy];exact⟨_,Lib.run_compareString x y w,.int _ _⟩) λi p g=>by
  have:i<2:=(aa.1 g).1;obtain rfl|rfl:i=0∨i=1:=bd
  ·cases g;rfl
  ·cases g;rfl
end
end Go.Ab
namespace Go.Proofs.YtepeckjhdoicpaaGreatDoor
open Go Go.Ab
section
variable[dw:Go.Ab.bI][Go.Ab.dj]
theorem DU(xs:List (List UInt8))(x c:List UInt8):Lib.join (xs++[x]) c=if xs=[] then x else Lib.join xs c++c++x:=by
 cases xs with
 |nil=>simp[Lib.join_one]
 |cons y r=>
  rw[av bn,bF,y6,y6];simp[Lib.joinTail]
theorem vC(c:List UInt8)(k:Nat)(hs:c.length≤1):∀(xs:List (List UInt8)),(∀x∈xs,x.length≤k)→(Lib.join xs c).length≤(k+1)*xs.length
 |[],_=>by simp[Lib.join_nil]
 |x::r,h=>by
  rw[y6,aA];have h0:=h x bn;have h1:∀r:List (List UInt8),(∀x∈r,x.length≤k)→(Lib.joinTail c r).length≤(k+1)*r.length:=λr=>by
   induction r with
   |nil=>intro _;simp[Lib.joinTail]
   |cons y s u=>
    intro h;have:=u λx hx=>h x nx;have hy:=h y bn;have e:(Lib.joinTail c (y::s)).length=c.length+y.length+(Lib.joinTail c s).length:=by simp[Lib.joinTail];omega
    rw[e,aL,Nat.mul_add];omega
  have:=h1 r λy hy=>h y (by simp[hy]);rw[aL,Nat.mul_add];omega
theorem du{n:Int}(h:KW n):(Lib.itoa n).length≤21:=Lib.itoa_length_le n h.1 h.2
theorem CR(l:List Int){i:Nat}(h:i<(ar l).length):(ar l)[i]=[PV.int .i64 (l[i]'(by rw[aH]at h;exact h))]:=eR
def lg(l:List Int):List UInt8:=if l=[] then[45] else Lib.join (l.map Lib.itoa) [44]
def CS(l:List Int)(i:Nat):List UInt8:=Lib.join ((l.take i).map Lib.itoa) [44]
theorem Io(l:List Int):CS l 0=[]:=rfl
theorem RD(l:List Int){i:Nat}(h:i<l.length):CS l (i+1)=(if i=0 then[] else CS l i++[44])++Lib.itoa l[i]:=by
 unfold CS;rw[←aq h,cS,List.map_singleton,DU];by_cases e:i=0
 ·subst e;simp
 ·rw[av (by simp;exact⟨e,by intro h';rw[h']at h;simp at h⟩),av e]
theorem KX(l:List Int)(hl:∀x∈l,KW x)(i:Nat):(CS l i).length≤22*i:=by
 have h1:=vC [44] 21 bn ((l.take i).map Lib.itoa) (λx hx=>by
  obtain⟨n,hn,rfl⟩:=ba.1 hx;exact du (hl n (bG hn)))
 have h2:((l.take i).map Lib.itoa).length≤i:=ca
 unfold CS;have:=Qo 22 h2;omega
theorem KY{l:List Int}(h:l≠[]):CS l l.length=lg l:=by
 unfold CS lg;rw[aI,av h]
theorem nA(l:List Int)(hl:∀x∈l,KW x):(lg l).length≤22*l.length+1:=by
 by_cases e:l=[]
 ·subst e;simp[lg]
 ·have:=KX l hl l.length;rw[KY e]at this;omega
theorem Vg(l:List Int)(hl:∀x∈l,KW x)(hn:l.length≤1048576):H0 218 [.sl 1 (ar l)] (.str (lg l)):=by
 refine iF hm Tryz.func218 ?_;simp[aH];refine⟨λh=>by subst h;rfl,λh=>?_⟩;refine lu hm l.length (λi=>⟨[(0,.sl 1 (ar l)),(3,.str (CS l i)),(4,.int .i64 i)],[]⟩) ?_ (λi hi=>?_) ?_
 ·refine wk [] [] ?_;simp[Io]
 ·have hs:=RD l hi;have M:=KX l hl i;have hx:=hl l[i] (ai hi);have u:=du hx;have w1:=wS i;simp[hi,aH,CR];refine⟨λh0=>⟨bd,?_⟩,λh0=>?_⟩
  ·refine u0 (oz l[i] hx) ?_;simp;refine⟨bd,wk [] [] ?_⟩;rw[av bd]at hs;simp[w1,hs]
  ·refine u0 (oz l[i] hx) ?_;simp;refine⟨bd,wk [] [] ?_⟩;subst h0;simp[hs,Io];exact bX bd bd
 ·simp[aH,KY h]
theorem XV:(5,Lib.pow10Tab.map λz=>PV.int .u64 z)∈Xf:=nf
theorem O1(n:Int)(hn:KW n):H0 281 [.int .i64 n,.int .i64 10] (.str (Lib.itoa n)):=
 oX Tryz.func281 bl rfl rfl λA w vs hA E ey=>by
  have h0:=ey 0 _ rfl;have h1:=ey 1 _ rfl;rw[Ke E];generalize vs.getD 0 undef=v0 at h0⊢;generalize vs.getD 1 undef=d at h1⊢;cases h0;cases h1;obtain⟨e,fz,hw⟩:=hA.ints XV;refine(Tryz.strconv_FormatInt_10 n hn.1 hn.2 w ?_).mono λe w' ⟨he,k,os,T⟩=>⟨_,he,?_,.str _ _ rfl⟩
  ·unfold Lib.TabIs World.var?;rw [show Tryz.prog.globalNamed "internal/strconv.uint64pow10" = some 5 by kernel_rfl]
   simp[hw]
  ·subst T;exact Q1 _ _ _
theorem iX(n:Int)(hn:KW n):H0 172 [.int .i64 n] (.str (Lib.itoa n)):=by
 refine iF hm Tryz.func172 ?_;simp;refine u0 (O1 n hn) ?_;simp
theorem DR(l:List (List UInt8))(a:List UInt8)(hl:l.length≤140737488355328)(f:(Lib.join l a).length≤140737488355328):H0 298 [.sl 1 (au l),.str a] (.str (Lib.join l a)):=
 oX Tryz.func298 bl rfl rfl λA w vs hA E ey=>by
  have h0:=ey 0 _ rfl;have h1:=ey 1 _ rfl;rw[Ke E];generalize vs.getD 0 undef=v0 at h0⊢;generalize vs.getD 1 undef=i at h1⊢;cases h1 with
  |str _ sb g=>
  generalize p:au l=rows at h0;cases h0 with
  |RE _ ao cap=>
   obtain rfl:l=[]:=by cases l with
    |nil=>rfl
    |cons x r=>cases p
   refine(Tryz.strings_Join_none ao cap sb w).mono λe w' ⟨he,hw⟩=>⟨_,he,?_,?_⟩
   ·subst hw;exact .refl _ _
   ·exact .str _ _ (by simp[Lib.join_nil])
  |sl _ _ b o cap u hb hc hz hu hh=>
   subst p;have R:∀(j:Nat)(s:List UInt8),l[j]?=some s→(au l)[j]?=some [.str s]:=λj s d=>by simp[au,d]
   have MD:(l.map λs=>(⟨s.toArray⟩:ByteArray)).map (·.data.toList)=l:=by simp[Function.comp_def]
   rw[←g]at f⊢;have c:=Tryz.strings_Join b o cap (l.map λs=>⟨s.toArray⟩) sb w (λj x hx=>?_) (hA b hb) eg (by simpa[au]using hc) (by rw[MD];exact f)
   ·rw[MD,aT]at c;rw[aQ];exact c.mono λe w' ⟨he,hw⟩=>⟨_,he,yh hw zk,.str _ _ rfl⟩
   ·rw[bm]at hx;cases d:l[j]? with
    |none=>rw[d]at hx;cases hx
    |some s=>
     rw[d]at hx;cases hx;have h1:=hu j 0 [.str s] (.str s) (R j s d) rfl;have h2:=hh j 0 [.str s] (.str s) (R j s d) rfl;rw[oo,dU]at h1;rw[h1];generalize u j 0=x at h2;cases h2 with
     |str _ h z=>
      cases h;simp only at z;subst z;rfl
end
section
variable[dw:Go.Ab.bI]
theorem MB(rows:List (List PV))(i j:Nat)(a:aC rows)(k:i<j)(d:j≤rows.length)(hl:rows.length≤1048576):nh Tryz.prog 282 [.sf 0 2,.int .i64 i,.int .i64 j] [some (.arr 2 rows)] [] (.sf 0 2) [some (.arr 2 (rows.take i++rows.drop j))]:=by
 refine fq [] hm Tryz.func282 bl rfl bl rfl (λ_ _ h=>h) cw ?_;simp;have e1:((i:Int)+((rows.length-j:Nat):Int)).toNat=i+(rows.length-j):=bd
 refine⟨⟨bd,d⟩,λh=>bd,λ_=>⟨bd,d,bd,λr h=>a r (dq (bG h)),rfl,bd,⟨bd,bd,bd⟩,bd,?_⟩⟩;rw[e1];refine(qR (S:=⟨[(0,.so 0 2 0 (i+(rows.length-j)))],_⟩) (t:=0) rfl rfl ca).trans (wk [0] [] ?_);simp;have:=PC rows i j k d;simpa using this _
theorem IP(q rows:List (List PV))(lo len:Nat):nh Tryz.prog 396 [.sf 0 2,.so 1 2 lo len] [some (.arr 2 q),some (.arr 2 rows)] [0,1] (.bool false) [some (.arr 2 q),some (.arr 2 rows)]:=
 jV Tryz.func396 bl bl bl (tS:=78) (tR:=4) (e:=81) bl bn bn 2 bd q rows lo len
theorem MC(A B q:List (List PV))(d:aC (A++B))(a:aC q)(h0:0<q.length)(hl:A.length+B.length+q.length≤1048576):
  nh Tryz.prog 283 [.sf 0 2,.int .i64 A.length,.sf 1 2] [some (.arr 2 (A++B)),some (.arr 2 q)] [] (.sf 0 2) [some (.arr 2 (A++(q++B))),some (.arr 2 q)]:=by
 have b:q≠[]:=λe=>w4
 have X:aC B:=λr h=>d r (ni _ h);by_cases m:B=[]
 ·subst m;refine fq [] hm Tryz.func283 bl rfl bl rfl (λ_ _ h=>h) cw ?_;simp[b];exact⟨a,bd,bd,wk [0,1] [] bn⟩
 ·have p:0<B.length:=fV.2 m;have g:A++B≠[]:=λe=>m (Jw.1 e).2;have f:¬((A.length:Int)=((A.length+B.length:Nat):Int)):=bd
  have e1:IntKind.i64.wrap (((A.length+B.length:Nat):Int)+(q.length:Int))=((A.length+B.length+q.length:Nat):Int):=bo
  have e2:IntKind.i64.wrap (((A.length+B.length+q.length:Nat):Int)-(A.length:Int))=((B.length+q.length:Nat):Int):=bo
  have e3:IntKind.i64.wrap ((A.length:Int)+(q.length:Int))=((A.length+q.length:Nat):Int):=bo
  refine u7 hm Tryz.func283 bl rfl bl rfl (λ_ _ h=>h) rfl λC l i=>?_;rw[aA]at l;by_cases n:A.length+B.length+q.length≤C
  ·refine JJ.BP (EM (t:=0) (k:=0) (z:=2) (C:=C) (rows:=A++B) rfl rfl rfl bn g) ?_;refine ee hm _ _ _ bl ?_;rw[aA];obtain⟨T,c⟩:∃T,T=List.replicate (C-(A.length+B.length)) (List.replicate 2 PV.top):=⟨_,rfl⟩;have j:T.length=C-(A.length+B.length):=by rw[c];simp
   rw[←c];have f1:¬C<A.length+B.length+q.length:=bd
   have H:A.length+(B.length+T.length)=C:=bd
   have f3:A.length+B.length+q.length-(A.length+q.length)=B.length:=bd
   have f4:A.length+B.length+q.length-A.length=B.length+q.length:=bd
   have g1:q.take (B.length+q.length)=q:=ay bd;simp[b,f,e1,e2,e3,f1,H,f3,g1,j3,-Int.natCast_add];refine⟨bd,λ_=>⟨n,?_⟩⟩;refine iv.Yn [1,0] [] [] (IP q (A++(B++T)) (A.length+q.length) B.length) ?_ rfl rfl bn rfl rfl rfl (.inl rfl) ?_
   ·simp
   simp[e3,H,f3,f4,g1,j3,-Int.natCast_add];have g2:((B++T).take q.length).length=q.length:=ca
   rw[y5 g2];refine⟨n,⟨bd,n⟩,bd,bd,X,⟨bd,bd⟩,bd,a,?_⟩;refine(qR (S:=⟨[(0,.so 0 2 0 (A.length+B.length+q.length))],_⟩) (t:=0) rfl rfl ca).trans (wk [0,1] [] ?_);have g3:(A++(q++(B++(A++(B++T)).drop (A.length+q.length+B.length)))).take (A.length+B.length+q.length)=A++(q++B):=by
    rw[←bg,←bg,tE ca,bg]
   simp[g3]
  ·refine ee hm _ _ _ bl ?_;have f1:C<A.length+B.length+q.length:=bd
   have f4:A.length+(q.length+B.length)-(A.length+q.length)=B.length:=bd
   have f6:¬A.length+B.length+q.length≤C:=bd
   have g1:q.take (B.length+q.length)=q:=ay bd;simp[b,f,e1,e2,e3,f1,f4,f6,g1,j3,-Int.natCast_add];rw[cH ca,bq];refine⟨bd,bd,bd,bd,bd,a,bd,X,wk [2,1] [] bn⟩
structure aN where
 ab:aF
 dM:List Order
 records:List aM
theorem aN.eq_iff{a b:aN}:a=b↔a.ab=b.ab∧a.dM=b.dM∧a.records=b.records:=cn
instance:DecidableEq aN:=λ_ _=>decidable_of_iff _ aN.eq_iff.symm
def aN.cells(x:aN):List PV:=[.sl 5 (aW.rows x.ab.aG),.sl 3 (aR.rows x.ab.dR),.sl 5 (aS.rows x.ab.cu),.sl 5 (bC.rows x.ab.cq),.int .i64 x.ab.iO.width,.int .i64 x.ab.iO.length,.int .i64 x.ab.iO.wR,.sl 5 (Place.rows x.ab.places),.int .i64 x.ab.fp,.str x.ab.lL.name,.int .i64 x.ab.lL.xM,.int .i64 x.ab.lL.fk,.int .i64 x.ab.lL.dP,.int .i64 x.ab.lL.uE,.sl 6 (bu.rows x.ab.frame),.int .i64 x.ab.oD,.int .i64 x.ab.mZ,.sl 4 (Action.rows x.ab.bU),.str x.ab.fX.name,.sl 3 (aO.rows x.ab.fX.aU),.sl 5 (Order.rows x.dM),.sl 3 (aM.rows x.records)]
end
end Go.Proofs.YtepeckjhdoicpaaGreatDoor
