/- TH: the law FnExactRowOrder. Made by gen.py. -/
import Derived.Test.YtbhibkochjfdfaaTao
namespace Go.TH
open Go Go.Proofs
set_option linter.unusedSimpArgs false
set_option linter.unusedVariables false
set_option maxHeartbeats 20000000
set_option maxRecDepth 100000
theorem szRow_bound {l : GRow} {left : Int} (h : 0 ≤ left) (hp : 0 ≤ szRow l left) : (l.length : Int) ≤ left ∧ szRow l left ≤ left := by
  have := szRow_lo l h
  omega
theorem w_RowOrder (a : GRow) (ha : a.length ≤ 9223372036854775807) (ha2 : ∀ v ∈ a, v.s.size ≤ 9223372036854775807) (b : GRow) (hb : b.length ≤ 9223372036854775807) (hb2 : ∀ v ∈ b, v.s.size ≤ 9223372036854775807) :
    CallQ Try.prog 6 [rowA a, rowA b] noH 0 fun r _ _ => r = .bool true := by
  refine callQ_body mixed Try.func6 _ (by unfold Try.f6; rfl) Try.ntmps6 Try.results6 (by decide) (by simp) ?_
  simp (maxSteps := 4000000) (disch := omega) only [go_sem, w64, AndB_of, IfB_of, IfB_no, pickE_of, pickE_no, ite_of, ite_no]
  apply CallB.q (q_szValueS a false 1048576 (by omega) (by omega) ha ha2)
  simp (maxSteps := 4000000) (disch := omega) only [go_sem, w64, AndB_of, IfB_of, IfB_no, pickE_of, pickE_no, ite_of, ite_no]
  refine IfB.dec (fun h => ?_) (fun h => ?_)
  · simp (maxSteps := 4000000) (disch := omega) only [go_sem, w64, AndB_of, IfB_of, IfB_no, pickE_of, pickE_no, ite_of, ite_no]
  · have hb1 := szRow_bound (l := a) (left := 1048576) (by omega) (by omega)
    have h1 : a.length ≤ 1048576 := by omega
    simp (maxSteps := 4000000) (disch := omega) only [go_sem, w64, AndB_of, IfB_of, IfB_no, pickE_of, pickE_no, ite_of, ite_no]
    apply CallB.q (q_szValueS b false (szRow a 1048576) (by omega) (by omega) hb hb2)
    simp (maxSteps := 4000000) (disch := omega) only [go_sem, w64, AndB_of, IfB_of, IfB_no, pickE_of, pickE_no, ite_of, ite_no]
    refine IfB.dec (fun h => ?_) (fun h => ?_)
    · simp (maxSteps := 4000000) (disch := omega) only [go_sem, w64, AndB_of, IfB_of, IfB_no, pickE_of, pickE_no, ite_of, ite_no]
    · have hb3 := szRow_bound (l := b) (left := szRow a 1048576) (by omega) (by omega)
      have h2 : b.length ≤ 1048576 := by omega
      simp (maxSteps := 4000000) (disch := omega) only [go_sem, w64, AndB_of, IfB_of, IfB_no, pickE_of, pickE_no, ite_of, ite_no]
      repeat' (first | (refine IfB.dec (fun h => ?_) (fun h => ?_) <;> (try (have h2 := h; unfold inR at h2)) <;> simp (maxSteps := 4000000) (disch := omega) only [go_sem, w64, AndB_of, IfB_of, IfB_no, pickE_of, pickE_no, ite_of, ite_no, h]) | (refine IfB.split (fun h => ?_) (fun h => ?_) <;> simp (maxSteps := 4000000) (disch := omega) only [go_sem, w64, AndB_of, IfB_of, IfB_no, pickE_of, pickE_no, ite_of, ite_no, h]) | (refine DrawB.quiet (by kernel_rfl) ?_; simp (maxSteps := 4000000) (disch := omega) only [go_sem, w64, AndB_of, IfB_of, IfB_no, pickE_of, pickE_no, ite_of, ite_no]) | (apply CallB.q (q_toValueS a false h1); simp (maxSteps := 4000000) (disch := omega) only [go_sem, w64, AndB_of, IfB_of, IfB_no, pickE_of, pickE_no, ite_of, ite_no]) | (apply CallB.q (q_toValueS b false h2); simp (maxSteps := 4000000) (disch := omega) only [go_sem, w64, AndB_of, IfB_of, IfB_no, pickE_of, pickE_no, ite_of, ite_no]) | (apply CallB.q (q_RowOrderS a b h1 h2 ha2 hb2); simp (maxSteps := 4000000) (disch := omega) only [go_sem, w64, AndB_of, IfB_of, IfB_no, pickE_of, pickE_no, ite_of, ite_no]) | (apply CallB.q (q_RowOrderI a b h1 h2 ha2 hb2); simp (maxSteps := 4000000) (disch := omega) only [go_sem, w64, AndB_of, IfB_of, IfB_no, pickE_of, pickE_no, ite_of, ite_no]) | (apply CallB.q (q_eqValueS a a h1); simp (maxSteps := 4000000) (disch := omega) only [go_sem, w64, AndB_of, IfB_of, IfB_no, pickE_of, pickE_no, ite_of, ite_no]) | (apply CallB.q (q_eqValueS b b h2); simp (maxSteps := 4000000) (disch := omega) only [go_sem, w64, AndB_of, IfB_of, IfB_no, pickE_of, pickE_no, ite_of, ite_no]) | (apply DCallB.q0 (q_toValueS a false h1); simp (maxSteps := 4000000) (disch := omega) only [go_sem, w64, AndB_of, IfB_of, IfB_no, pickE_of, pickE_no, ite_of, ite_no]) | (apply DCallB.q0 (q_toValueS b false h2); simp (maxSteps := 4000000) (disch := omega) only [go_sem, w64, AndB_of, IfB_of, IfB_no, pickE_of, pickE_no, ite_of, ite_no]) | (apply DCallB.q0 (q_RowOrderS a b h1 h2 ha2 hb2); simp (maxSteps := 4000000) (disch := omega) only [go_sem, w64, AndB_of, IfB_of, IfB_no, pickE_of, pickE_no, ite_of, ite_no]) | (apply DCallB.q0 (q_RowOrderI a b h1 h2 ha2 hb2); simp (maxSteps := 4000000) (disch := omega) only [go_sem, w64, AndB_of, IfB_of, IfB_no, pickE_of, pickE_no, ite_of, ite_no]) | (apply DCallB.q0 (q_eqValueS a a h1); simp (maxSteps := 4000000) (disch := omega) only [go_sem, w64, AndB_of, IfB_of, IfB_no, pickE_of, pickE_no, ite_of, ite_no]) | (apply DCallB.q0 (q_eqValueS b b h2); simp (maxSteps := 4000000) (disch := omega) only [go_sem, w64, AndB_of, IfB_of, IfB_no, pickE_of, pickE_no, ite_of, ite_no]))
      all_goals simp_all
end Go.TH
