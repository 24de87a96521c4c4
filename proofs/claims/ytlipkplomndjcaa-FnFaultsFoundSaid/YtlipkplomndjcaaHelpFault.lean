/- Walks of the laws' helpers over slices of Faults: an equality test, marks written and held. -/
import Derived.Test.YtlipkplomndjcaaHelp
import Derived.Test.YtlipkplomndjcaaPairs
import Derived.Deep.RegionHeld3
namespace Go.Proofs.Ytlipkplomndjcaa
open Go.RowKit
set_option linter.unusedVariables false
set_option maxRecDepth 100000

end Go.Proofs.Ytlipkplomndjcaa
