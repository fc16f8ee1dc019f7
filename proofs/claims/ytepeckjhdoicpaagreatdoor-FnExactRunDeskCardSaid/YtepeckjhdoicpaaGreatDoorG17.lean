import Derived.Test.YtepeckjhdoicpaaGreatDoorG13
import Derived.Test.YtepeckjhdoicpaaGreatDoorG8
import Derived.Test.YtepeckjhdoicpaaGreatDoorG14
set_option linter.all false
set_option maxRecDepth 100000
namespace Go.Proofs.YtepeckjhdoicpaaGreatDoor
open Go Go.Ab
section
variable[dw:Go.Ab.bI]
theorem aO.cx(T:List aO){i:Nat}(h:i<(aO.rows T).length):(aO.rows T)[i]=[.int .i64 (T[i]' w9).note,.int .i64 (T[i]' w9).start,.int .i64 (T[i]' w9).length]:=by simp[aO.rows,aO.cells]
def dc(a b:aO):Bool:=decide (a.start<b.start)||(decide (a.start=b.start)&&decide (a.note<b.note))
def mX(x:aO):Bool:=(decide (0≤x.note)&&decide (x.note≤127))&&(decide (0≤x.start)&&decide (x.start≤20000))&&(decide (1≤x.length)&&decide (x.length≤20000-x.start))
def uO(a b:aO):Int:=ZD [iT a.start b.start,iT a.note b.note]
theorem Ht(a b:aO):0≤uO a b↔dc a b=false:=by
 unfold uO iT dc;simp[ZD];grind
def rq(l:List aO)(i:Nat):Bool:=match l[i]? with
 |some x=>mX x&&(decide (i=0)||match l[i-1]? with
  |some y=>dc y x
  |none=>true)
 |none=>true
def eh(t:db):Bool:=(List.range t.aU.length).all (rq t.aU)&&(isName t.name&&decide (t.aU.length≤128))
abbrev db.ptr(t:db):PV:=.pe 2 [t.cells] 0 0
theorem oA(a b:aO):H0 235 [.agg a.cells,.agg b.cells] (.int .i64 (uO a b)):=by
 refine iF hm Tryz.func235 ?_;simp[aO.cells];refine u0 (qK _ _) ?_;simp;refine u0 (qK _ _) ?_;simp;refine u0 (by simpa[ar]using Tm [iT a.start b.start,iT a.note b.note] bn) ?_;simp[uO]
theorem Qe(x:aO):H0 234 [.agg x.cells] (.bool (mX x)):=by
 refine iF hm Tryz.func234 ?_;simp[aO.cells];refine u0 (vK _) ?_;simp;refine⟨λa b=>⟨a,b⟩,uy (bE _ _ _) ?_⟩;simp;refine⟨cb,uy (bE _ _ _) ?_⟩;have hw:0≤x.start→x.start≤20000→IntKind.i64.wrap (20000-x.start)=20000-x.start:=λh1 h2=>bX bd bd;generalize IntKind.i64.wrap (20000-x.start)=W at hw⊢;simp;unfold mX;grind
theorem KL(x:aO)(rows:List (List PV))(i:Nat)(h:rows[i]?=some x.cells):H0 191 [.pe 3 rows i 0] (.bool (mX x)):=by
 obtain⟨hi,c⟩:=aa.1 h;rw[aO.cells]at c;refine iF hm Tryz.func191 ?_;simp[hi,c];refine u0 (Eg _) ?_;simp[hi,c];refine⟨λa b=>⟨a,b⟩,uy (bT _ _ _) ?_⟩;simp[hi,c];refine⟨cb,uy (bT _ _ _) ?_⟩;have hw:0≤x.start→x.start≤20000→IntKind.i64.wrap (20000-x.start)=20000-x.start:=λh1 h2=>bX bd bd;generalize IntKind.i64.wrap (20000-x.start)=W at hw⊢;simp;unfold mX;grind
theorem yg(a b:aO)(rows H:List (List PV))(i j:Nat)(h:rows[i]?=some a.cells)(h':H[j]?=some b.cells):H0 190 [.pe 3 rows i 0,.pe 3 H j 0] (.bool (dc a b)):=by
 obtain⟨hi,hx⟩:=aa.1 h;obtain⟨d,hy⟩:=aa.1 h';rw[aO.cells]at hx hy;refine iF hm Tryz.func190 ?_;simp[hi,d,hx,hy];unfold dc;grind
theorem abi(n:Int):H0 399 [.int .i64 n] (.bool (decide (1≤n)&&decide (n≤1000))):=by
 refine iF hm Tryz.func399 ?_;simp;refine u0 (bE _ _ _) ?_;simp
theorem NC(n:Int):H0 400 [.int .i64 n] (.bool (decide (1≤n)&&decide (n≤100))):=by
 refine iF hm Tryz.func400 ?_;simp;refine u0 (bE _ _ _) ?_;simp
end
end Go.Proofs.YtepeckjhdoicpaaGreatDoor
