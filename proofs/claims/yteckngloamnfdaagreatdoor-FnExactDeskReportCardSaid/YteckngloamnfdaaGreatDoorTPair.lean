/- Lists of numbers, and what the functions of package laws do with them. No condition. The type Pair as plain data, and what the functions of package laws do with it. No condition. -/
import Derived.Test.YteckngloamnfdaaGreatDoorCd
import Derived.Test.YteckngloamnfdaaGreatDoorKe
namespace Go.Proofs.YteckngloamnfdaaGreatDoor
open Go Go.Ab
set_option maxRecDepth 100000
def qad (l:List Int):List (List PV):=l.map fun n=>[.int .i64 n]
theorem qao (l:List Int):(qad l).length=l.length:=by simp[qad]
@[simp] theorem qIV (l:List Int):qad l=[]↔l=[]:=by simp[qad]
theorem qcc (l:List Int):qbp (qad l):=fun r hr c hc=>by
 obtain⟨s,_,rfl⟩:=List.mem_map.1 hr
 simp at hc
 subst hc
 rfl
def I64 (n:Int):Prop := -9223372036854775808≤n∧n≤9223372036854775807
end Go.Proofs.YteckngloamnfdaaGreatDoor
namespace Go.Proofs.YteckngloamnfdaaGreatDoor
open Go Go.Ab
set_option maxRecDepth 100000
structure Pair where
 key:List UInt8
 text:List UInt8
theorem Pair.eq_iff {a b:Pair}:a=b↔a.key=b.key∧a.text=b.text:=by cases a; cases b; simp
instance:DecidableEq Pair:=fun _ _=>decidable_of_iff _ Pair.eq_iff.symm
def Pair.cells (x:Pair):List PV:=[.str x.key, .str x.text]
def Pair.rows (l:List Pair):List (List PV):=l.map Pair.cells
theorem Pair.rows_len (l:List Pair):(Pair.rows l).length=l.length:=by simp[Pair.rows]
end Go.Proofs.YteckngloamnfdaaGreatDoor
