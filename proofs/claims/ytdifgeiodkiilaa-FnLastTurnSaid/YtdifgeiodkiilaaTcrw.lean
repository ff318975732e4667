/- TH: rows of rows: the walks. Made by gen.py. -/
import Derived.Test.YtdifgeiodkiilaaTf3
import Derived.Test.YtdifgeiodkiilaaTcc
namespace Go.TH
open Go Go.Proofs
set_option linter.unusedSimpArgs false
set_option linter.unusedVariables false
set_option maxHeartbeats 20000000
set_option maxRecDepth 100000
def smallR (r : GRow) : Prop := r.length ≤ 1048576 ∧ ∀ v ∈ r, v.s.size ≤ 140737488355328
theorem rowsOk_iff (cols : List GCol) (l : List GRow) : decide (rowsOk cols l) = (decide (colsOk cols) && !(l.any fun r => !decide (rowFits cols r))) := by
  rw [Bool.eq_iff_iff, decide_eq_true_iff]
  simp [rowsOk]
end Go.TH
