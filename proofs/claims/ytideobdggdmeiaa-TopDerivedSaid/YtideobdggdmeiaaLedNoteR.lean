/- The contract of the document's NoteTimes. Conditions: as of the program's. -/
import Derived.Test.YtideobdggdmeiaaLedNote
namespace Go.Proofs.Ytideobdggdmeiaa
open Go.RowKit
set_option maxRecDepth 100000
end Go.Proofs.Ytideobdggdmeiaa
