/- TH: columns, rows that fit: the walks. Made by gen.py. -/
import Derived.Test.YtdifgeiodkiilaaTcw
import Derived.Test.YtdifgeiodkiilaaTf3
namespace Go.TH
open Go Go.Proofs
set_option linter.unusedSimpArgs false
set_option linter.unusedVariables false
set_option maxHeartbeats 20000000
set_option maxRecDepth 100000
end Go.TH
