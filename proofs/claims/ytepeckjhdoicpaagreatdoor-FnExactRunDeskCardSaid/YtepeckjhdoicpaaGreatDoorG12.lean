import Derived.Test.YtepeckjhdoicpaaGreatDoorG9
import Derived.Test.YtepeckjhdoicpaaGreatDoorG7
set_option linter.all false
set_option maxRecDepth 100000
namespace Go.Proofs.YtepeckjhdoicpaaGreatDoor
open Go Go.Ab
section
variable[dw:Go.Ab.bI]
theorem yz(n:Int):H0 236 [.int .i64 n] (.bool (decide (1≤n)&&decide (n≤20000000))):=by
 refine iF hm Tryz.func236 ?_;simp;refine u0 (bE _ _ _) ?_;simp
theorem vK(n:Int):H0 237 [.int .i64 n] (.bool (decide (0≤n)&&decide (n≤127))):=by
 refine iF hm Tryz.func237 ?_;simp;refine u0 (bE _ _ _) ?_;simp
theorem Eg(n:Int):H0 211 [.int .i64 n] (.bool (decide (0≤n)&&decide (n≤127))):=by
 refine iF hm Tryz.func211 ?_;simp
 try refine u0 (bT _ _ _) ?_
 try simp
def eu(x:Order):Bool:=isName x.id&&(decide (1≤x.bR)&&decide (x.bR≤20000000))&&(decide (0≤x.note)&&decide (x.note≤127))&&(decide (1≤x.days)&&decide (x.days≤100))&&(decide (0≤x.due)&&decide (x.due≤10000))
theorem tb(x:Order):H0 150 [.agg x.cells] (.bool (eu x)):=by
 refine iF hm Tryz.func150 ?_;simp[Order.cells];refine u0 (dy _) ?_;simp;refine uy (yz _) ?_;simp
 first|refine uy (vK _) ?_|refine⟨cb,uy (vK _) ?_⟩
 simp
 first|refine uy (bE _ _ _) ?_|refine⟨cb,uy (bE _ _ _) ?_⟩
 simp
 first|refine uy (bE _ _ _) ?_|refine⟨cb,uy (bE _ _ _) ?_⟩
 simp[eu]
theorem H5(x:Order)(rows:List (List PV))(i:Nat)(h:rows[i]?=some x.cells):H0 117 [.pe 5 rows i 0] (.bool (eu x)):=by
 have hi:i<rows.length:=(aa.1 h).1;have hx:rows[i]=x.cells:=kz
 refine iF hm Tryz.func117 ?_;rw[Order.cells]at h hx;simp[hi,hx];refine u0 (dd _) ?_;simp[hi,hx]
 first|refine uy (bT _ _ _) ?_|refine⟨cb,uy (bT _ _ _) ?_⟩
 simp[hi,hx]
 first|refine uy (Eg _) ?_|refine⟨cb,uy (Eg _) ?_⟩
 simp[hi,hx]
 first|refine uy (bT _ _ _) ?_|refine⟨cb,uy (bT _ _ _) ?_⟩
 simp[hi,hx]
 first|refine uy (bT _ _ _) ?_|refine⟨cb,uy (bT _ _ _) ?_⟩
 simp[eu]
end
end Go.Proofs.YtepeckjhdoicpaaGreatDoor
