/- Contracts of the laws on ledgers: ValidLedger, StateAt, ActiveRecords, AddRecord. -/
import Derived.Test.YtmdablalfmcgnaaDoorHg
namespace Go.Proofs.YtmdablalfmcgnaaDoor
open Go Go.Ab
set_option maxRecDepth 100000

end Go.Proofs.YtmdablalfmcgnaaDoor

