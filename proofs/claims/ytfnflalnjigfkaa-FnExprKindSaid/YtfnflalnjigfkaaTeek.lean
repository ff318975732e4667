/- TH: kinds of expressions: the walks. Made by gen.py. -/
import Derived.Test.YtfnflalnjigfkaaTf3
import Derived.Test.YtfnflalnjigfkaaTew
import Derived.Test.YtfnflalnjigfkaaTec
import Derived.Test.YtfnflalnjigfkaaTebo
import Derived.Test.YtfnflalnjigfkaaTf4
namespace Go.TH
open Go Go.Proofs
set_option linter.unusedSimpArgs false
set_option linter.unusedVariables false
set_option maxHeartbeats 20000000
set_option maxRecDepth 100000
theorem d_l4Step {H : AH} {nx id v : Nat} (cols : List GCol) (hc : cols.length ≤ 1048576) (st : List Int) (hst : st.length ≤ 20) (p : GPt) (hp : p.v.s.size ≤ 9223372036854775807) (hid : id < nx) (hH : H id = .live v (flat cI st)) :
    ACallD Try.prog 101 [colsA cols, .msl id v 1 0 st.length, .agg (GPt.c p)] H nx (StepQ H nx id cols st p) := by
  have hlen : (flat cI st).length = st.length := cI_flen st
  have e1 : ((st.length : Int) - 1).toNat = st.length - 1 := by omega
  have e2 : ((st.length : Int) - 2).toNat = st.length - 2 := by omega
  have ev := eqv p.v zV
  have h22 : (2 : Nat) ≤ 2 := by omega
  unfold GPt.c colsA
  refine dcall_body mixed Try.func101 _ (by unfold Try.f101; rfl) Try.ntmps101 Try.results101 (by decide) (by simp) ?_
  simp (maxSteps := 4000000) (disch := omega) only [go_sem, w64, AndB_of, IfB_of, IfB_no, pickE_of, pickE_no, ite_of, ite_no, tdivE, tmodE, takeAll, hH, ev]
  repeat' (first | (refine IfB.dec2 (fun h hd => ?_) (fun h hd => ?_) <;> (try (have h2 := h; unfold inR at h2)) <;> (try simp (maxSteps := 4000000) (disch := omega) only [go_sem, w64, AndB_of, IfB_of, IfB_no, pickE_of, pickE_no, ite_of, ite_no, tdivE, tmodE, takeAll, hH, ev, e1, e2, cI_getD, cI_take, hd])) | (refine IfB.split (fun h => ?_) (fun h => ?_) <;> (try simp (maxSteps := 4000000) (disch := omega) only [go_sem, w64, AndB_of, IfB_of, IfB_no, pickE_of, pickE_no, ite_of, ite_no, tdivE, tmodE, takeAll, hH, ev, e1, e2, cI_getD, cI_take, h])) | (refine DrawB.quiet (by kernel_rfl) ?_; simp (maxSteps := 4000000) (disch := omega) only [go_sem, w64, AndB_of, IfB_of, IfB_no, pickE_of, pickE_no, ite_of, ite_no, tdivE, tmodE, takeAll, hH, ev, e1, e2, cI_getD, cI_take]) | (apply CallB.q (q_ValueOkS p.v hp); simp (maxSteps := 4000000) (disch := omega) only [go_sem, w64, AndB_of, IfB_of, IfB_no, pickE_of, pickE_no, ite_of, ite_no, tdivE, tmodE, takeAll, hH, ev, e1, e2, cI_getD, cI_take]) | (apply CallB.q (q_l1In _ _ _); simp (maxSteps := 4000000) (disch := omega) only [go_sem, w64, AndB_of, IfB_of, IfB_no, pickE_of, pickE_no, ite_of, ite_no, tdivE, tmodE, takeAll, hH, ev, e1, e2, cI_getD, cI_take]) | (apply DCallB.q0 (q_ValueOkS p.v hp); simp (maxSteps := 4000000) (disch := omega) only [go_sem, w64, AndB_of, IfB_of, IfB_no, pickE_of, pickE_no, ite_of, ite_no, tdivE, tmodE, takeAll, hH, ev, e1, e2, cI_getD, cI_take]) | (apply DCallB.q0 (q_l1In _ _ _); simp (maxSteps := 4000000) (disch := omega) only [go_sem, w64, AndB_of, IfB_of, IfB_no, pickE_of, pickE_no, ite_of, ite_no, tdivE, tmodE, takeAll, hH, ev, e1, e2, cI_getD, cI_take]))
  all_goals
    first
      | refine StepQ.snoc ?_ ?_ ?_ (by omega) ?_
      | refine StepQ.same ?_ ?_ (by omega) ?_
  all_goals
    first
      | (rw [upd_ne _ _ (by omega)]; exact hH)
      | (intro i h1 h2; simp only [upd_ne _ _ (show i ≠ nx by omega), upd_ne _ _ (show i ≠ nx + 1 by omega)])
      | (intro i h1 h2; simp only [upd_ne _ _ (show i ≠ nx by omega)])
      | (clear hH; simp only [List.length_take, List.length_nil]; omega)
      | (clear hH; simp only [List.length_take, List.length_nil]; done)
      | skip
  all_goals (clear hH)
  all_goals (try omega)
  all_goals (clear ev hlen)
  all_goals (try (unfold stepK; unfold inR at *; simp_all; done))
  all_goals (try (unfold stepK; unfold inR at *; simp_all; omega))
  all_goals (try (unfold stepK; unfold inR at *; simp_all [List.getElem?_eq_getElem]; omega))
  all_goals (try (unfold stepK; unfold inR at *; simp_all [List.getElem?_eq_getElem]))
  · rw [List.getElem?_eq_getElem (by omega)]; rfl
  all_goals (try (have h3 : 1 < st.length := by omega
                  simp [h3]; done))
  · by_cases h4 : 1 ≤ p.n ∧ p.n ≤ 4
    · rw [if_pos ⟨by omega, h4⟩]; exact (if_pos (@decide_eq_true (inR p.n 1 4) _ h4)).symm
    · rw [if_neg (fun h => h4 h.2)]; exact (if_neg (fun h => h4 (@of_decide_eq_true (inR p.n 1 4) _ h))).symm
  · by_cases h3 : 0 < st.length
    · rw [if_pos h3, if_pos h3, if_neg (by omega)]
      congr 4; omega
    · rw [if_neg h3, if_neg h3]
end Go.TH
