/- TH: the law FnExactValueText. Made by gen.py. -/
import Derived.Test.YtipoefabimcbdaaDoorTf3
import Derived.Test.YtipoefabimcbdaaDoorTfvt
namespace Go.TH
open Go Go.Proofs
set_option linter.unusedSimpArgs false
set_option linter.unusedVariables false
set_option maxHeartbeats 20000000
set_option maxRecDepth 100000
theorem w_ExactValueText (v : GVal) (hL : VBL v) : CallQ Tryd.prog 3 [.agg [.int .i64 v.k, .int .i64 v.n, .str v.s]] noH 0 fun r _ _ => r = .bool true := by
  unfold VBL at hL
  have eS : v.s.size ≤ 1048576 → QCall Tryd.prog 6 [.agg [.int .i64 v.k, .int .i64 v.n, .str v.s]] (.str (vText v)) := fun h => q_ValueTextS v (by omega)
  have eI : v.s.size ≤ 1048576 → QCall Tryd.prog 8 [.agg [.int .i64 v.k, .int .i64 v.n, .str v.s]] (.str (vText v)) := fun h => q_ValueTextI v (by omega)
  refine callQ_body mixed Tryd.func3 _ (by unfold Tryd.f3; rfl) Tryd.ntmps3 Tryd.results3 (by decide) (by simp) ?_
  simp (maxSteps := 4000000) (disch := omega) only [go_sem, w64, AndB_of, IfB_of, IfB_no, pickE_of, pickE_no, ite_of, ite_no, tdivE, tmodE, takeAll]
  apply CallB.q (q_szValue v 1048576 (by omega) (by omega) hL)
  unfold szVal
  simp (maxSteps := 4000000) (disch := omega) only [go_sem, w64, AndB_of, IfB_of, IfB_no, pickE_of, pickE_no, ite_of, ite_no, tdivE, tmodE, takeAll]
  refine IfB.dec (fun h => ?_) (fun h => ?_)
  · simp (maxSteps := 4000000) (disch := omega) only [go_sem, w64, AndB_of, IfB_of, IfB_no, pickE_of, pickE_no, ite_of, ite_no, tdivE, tmodE, takeAll]
  have hb : v.s.size ≤ 1048576 := by split at h <;> omega
  simp (maxSteps := 4000000) (disch := omega) only [go_sem, w64, AndB_of, IfB_of, IfB_no, pickE_of, pickE_no, ite_of, ite_no, tdivE, tmodE, takeAll]
  apply CallB.q (q_toValue v)
  simp (maxSteps := 4000000) (disch := omega) only [go_sem, w64, AndB_of, IfB_of, IfB_no, pickE_of, pickE_no, ite_of, ite_no, tdivE, tmodE, takeAll]
  apply CallB.q (eS hb)
  simp (maxSteps := 4000000) (disch := omega) only [go_sem, w64, AndB_of, IfB_of, IfB_no, pickE_of, pickE_no, ite_of, ite_no, tdivE, tmodE, takeAll]
  apply CallB.q (q_toValue v)
  simp (maxSteps := 4000000) (disch := omega) only [go_sem, w64, AndB_of, IfB_of, IfB_no, pickE_of, pickE_no, ite_of, ite_no, tdivE, tmodE, takeAll]
  apply CallB.q (eI hb)
  simp (maxSteps := 4000000) (disch := omega) only [go_sem, w64, AndB_of, IfB_of, IfB_no, pickE_of, pickE_no, ite_of, ite_no, tdivE, tmodE, takeAll]
end Go.TH
