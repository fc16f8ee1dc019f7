/- Plain values that stand in the place of memory; and what the package-level variables hold that the program reads. No condition. -/
import Derived.WalkKit
namespace Go.Ab
inductive PV where
 | int (k:IntKind) (n:Int)
 | bool (b:Bool)
 | str (s:List UInt8)
 | agg (cs:List PV)
 | tup (vs:List PV)
 | nils
 | sl (z:Nat) (rows:List (List PV))
 | pe (z:Nat) (rows:List (List PV)) (i off:Nat)
 | sf (k z:Nat)
 | so (k z lo len:Nat)
 | pa (k z i off:Nat)
 | pb (k off:Nat)
 | sb (k z n:Nat)
 | fn (f:Nat) (caps:List PV)
 | opt (c:Bool) (p:PV)
 | raw (v:Value)
 | own (k:Nat)
 | cp (k C:Nat)
 | ef (f:Nat)
 | err (b:Bool)
 | top
instance:Inhabited PV:=⟨.top⟩
def powT:List PV:=(List.range 20).map fun i => .int .u64 (10^i)
def sineL:List Int:=[0,17,35,52,70,87,105,122,139,156,174,191,208,225,242,259,276,292,309,326,342,358,375,391,407,423,438,454,469,485,500,515,530,545,559,574,588,602,616,629,643,656,669,682,695,707,719,731,743,755,766,777,788,799,809,819,829,839,848,857,866,875,883,891,899,906,914,921,927,934,940,946,951,956,961,966,970,974,978,982,985,988,990,993,995,996,998,999,999,1000,1000]
def sineT:List PV:=sineL.map fun n => .int .i64 n
def tabs:List (Nat×List PV):=[
 (0,powT),
 (2,sineT),
 ]
def drwOn:Bool:=false
def shps:List (Nat×Nat):=[
 ]
end Go.Ab
