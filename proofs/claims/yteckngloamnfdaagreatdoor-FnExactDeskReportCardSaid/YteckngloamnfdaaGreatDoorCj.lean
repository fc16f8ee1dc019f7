/- Contracts: sequences of orders, the days on which they end. -/
import Derived.Test.YteckngloamnfdaaGreatDoorCh
import Derived.Test.YteckngloamnfdaaGreatDoorTPair
namespace Go.Proofs.YteckngloamnfdaaGreatDoor
open Go Go.Ab
set_option maxRecDepth 100000
structure SeqOk (l:List Order) (order:List Int) (start:Int):Prop where
 valid:qcH l=true
 s0:0≤start
 s1:start≤10000
 at_:∀i (h:i<order.length),0≤order[i]∧order[i]≤(l.length:Int)-1
end Go.Proofs.YteckngloamnfdaaGreatDoor
