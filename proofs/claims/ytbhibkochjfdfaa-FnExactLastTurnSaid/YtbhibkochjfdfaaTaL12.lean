/- TH: the law FnExactLastTurn. Made by gen.py. -/
import Derived.Test.YtbhibkochjfdfaaTalt
import Derived.Test.YtbhibkochjfdfaaTaL1
namespace Go.TH
open Go Go.Proofs
set_option linter.unusedSimpArgs false
set_option linter.unusedVariables false
set_option maxHeartbeats 20000000
set_option maxRecDepth 100000
theorem w_LastTurn (l : List GVer) (hl : l.length ≤ 9223372036854775807) (hs : ∀ v ∈ l, v.row.length ≤ 9223372036854775807 ∧ ∀ x ∈ v.row, x.s.size ≤ 9223372036854775807) (key : Int) (hkey : -9223372036854775808 ≤ key ∧ key ≤ 9223372036854775807) :
    CallQ Try.prog 14 [versA l, .int .i64 key] noH 0 fun r _ _ => r = .bool true := by
  refine callQ_body mixed Try.func14 _ (by unfold Try.f14; rfl) Try.ntmps14 Try.results14 (by decide) (by simp) ?_
  simp (maxSteps := 4000000) (disch := omega) only [go_sem, w64, AndB_of, IfB_of, IfB_no, pickE_of, pickE_no, ite_of, ite_no, tdivE, tmodE]
  apply CallB.q (q_szVersionS l 1048576 (by omega) (by omega) hl hs)
  simp (maxSteps := 4000000) (disch := omega) only [go_sem, w64, AndB_of, IfB_of, IfB_no, pickE_of, pickE_no, ite_of, ite_no, tdivE, tmodE]
  refine IfB.dec (fun h => ?_) (fun h => ?_)
  · simp (maxSteps := 4000000) (disch := omega) only [go_sem, w64, AndB_of, IfB_of, IfB_no, pickE_of, pickE_no, ite_of, ite_no, tdivE, tmodE]
  · have hb := szVers_bound (l := l) (left := 1048576) (by omega) (by omega)
    have h1 : l.length ≤ 1048576 := by omega
    have h2 : ∀ v ∈ l, v.row.length ≤ 1048576 := fun v hv => by have := hb.2 v hv; omega
    have h3 : ∀ v ∈ l, v.row.length ≤ 1048576 ∧ ∀ x ∈ v.row, x.s.size ≤ 9223372036854775807 := fun v hv => ⟨h2 v hv, (hs v hv).2⟩
    simp (maxSteps := 4000000) (disch := omega) only [go_sem, w64, AndB_of, IfB_of, IfB_no, pickE_of, pickE_no, ite_of, ite_no, tdivE, tmodE]
    repeat' (first | (refine IfB.dec (fun h => ?_) (fun h => ?_) <;> (try (have h2 := h; unfold inR at h2)) <;> simp (maxSteps := 4000000) (disch := omega) only [go_sem, w64, AndB_of, IfB_of, IfB_no, pickE_of, pickE_no, ite_of, ite_no, tdivE, tmodE, h]) | (refine IfB.split (fun h => ?_) (fun h => ?_) <;> simp (maxSteps := 4000000) (disch := omega) only [go_sem, w64, AndB_of, IfB_of, IfB_no, pickE_of, pickE_no, ite_of, ite_no, tdivE, tmodE, h]) | (refine DrawB.quiet (by kernel_rfl) ?_; simp (maxSteps := 4000000) (disch := omega) only [go_sem, w64, AndB_of, IfB_of, IfB_no, pickE_of, pickE_no, ite_of, ite_no, tdivE, tmodE]) | (apply CallB.q (q_toVersionS l h1 h2); simp (maxSteps := 4000000) (disch := omega) only [go_sem, w64, AndB_of, IfB_of, IfB_no, pickE_of, pickE_no, ite_of, ite_no, tdivE, tmodE]) | (apply CallB.q (q_LastTurnS l key h1 h3); simp (maxSteps := 4000000) (disch := omega) only [go_sem, w64, AndB_of, IfB_of, IfB_no, pickE_of, pickE_no, ite_of, ite_no, tdivE, tmodE]) | (apply CallB.q (q_LastTurnI l key h1 h3); simp (maxSteps := 4000000) (disch := omega) only [go_sem, w64, AndB_of, IfB_of, IfB_no, pickE_of, pickE_no, ite_of, ite_no, tdivE, tmodE]) | (apply CallB.q (q_eqVersionS l l h1 h2); simp (maxSteps := 4000000) (disch := omega) only [go_sem, w64, AndB_of, IfB_of, IfB_no, pickE_of, pickE_no, ite_of, ite_no, tdivE, tmodE]) | (apply DCallB.q0 (q_toVersionS l h1 h2); simp (maxSteps := 4000000) (disch := omega) only [go_sem, w64, AndB_of, IfB_of, IfB_no, pickE_of, pickE_no, ite_of, ite_no, tdivE, tmodE]) | (apply DCallB.q0 (q_LastTurnS l key h1 h3); simp (maxSteps := 4000000) (disch := omega) only [go_sem, w64, AndB_of, IfB_of, IfB_no, pickE_of, pickE_no, ite_of, ite_no, tdivE, tmodE]) | (apply DCallB.q0 (q_LastTurnI l key h1 h3); simp (maxSteps := 4000000) (disch := omega) only [go_sem, w64, AndB_of, IfB_of, IfB_no, pickE_of, pickE_no, ite_of, ite_no, tdivE, tmodE]) | (apply DCallB.q0 (q_eqVersionS l l h1 h2); simp (maxSteps := 4000000) (disch := omega) only [go_sem, w64, AndB_of, IfB_of, IfB_no, pickE_of, pickE_no, ite_of, ite_no, tdivE, tmodE]))
    all_goals simp_all
end Go.TH
