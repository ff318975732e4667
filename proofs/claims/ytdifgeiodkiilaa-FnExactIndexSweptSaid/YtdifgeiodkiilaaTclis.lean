/- TH: the law FnExactIndexSwept. Made by mlaw.py and gen.py. -/
import Derived.Test.YtdifgeiodkiilaaTf3
import Derived.Test.YtdifgeiodkiilaaTcix
namespace Go.TH
open Go Go.Proofs
set_option linter.unusedSimpArgs false
set_option linter.unusedVariables false
set_option maxHeartbeats 20000000
set_option maxRecDepth 100000
theorem w_ExactIndexSwept (l0 : List GMk) (h0 : (l0.length ≤ 9223372036854775807 ∧ ∀ x ∈ l0, MkBL x)) (l1 : Int) (h1 : -9223372036854775808 ≤ l1 ∧ l1 ≤ 9223372036854775807) :
    CallQ Try.prog 12 [marksA l0, .int .i64 l1] noH 0 fun r _ _ => r = .bool true := by
  refine callQ_body mixed Try.func12 _ (by unfold Try.f12; rfl) Try.ntmps12 Try.results12 (by decide) (by simp) ?_
  simp (maxSteps := 4000000) (disch := omega) only [go_sem, w64, AndB_of, IfB_of, IfB_no, pickE_of, pickE_no, ite_of, ite_no, tdivE, tmodE, takeAll]
  obtain ⟨_, ⟨r0, rfl, hr0, hs0⟩, hq0⟩ := x_szMarkS l0 1048576 (by omega) (by omega) h0
  apply CallB.q hq0
  simp (maxSteps := 4000000) (disch := omega) only [go_sem, w64, AndB_of, IfB_of, IfB_no, pickE_of, pickE_no, ite_of, ite_no, tdivE, tmodE, takeAll]
  refine IfB.dec (fun h => ?_) (fun g0 => ?_)
  · simp (maxSteps := 4000000) (disch := omega) only [go_sem, w64, AndB_of, IfB_of, IfB_no, pickE_of, pickE_no, ite_of, ite_no, tdivE, tmodE, takeAll]
  simp (maxSteps := 4000000) (disch := omega) only [go_sem, w64, AndB_of, IfB_of, IfB_no, pickE_of, pickE_no, ite_of, ite_no, tdivE, tmodE, takeAll]
  have k0 := hs0 (by omega)
  obtain ⟨w, hww⟩ : ∃ w, w = mkSwept l0 l1 := ⟨_, rfl⟩
  have hwl : w.length ≤ 1048576 := by rw [hww]; exact mkSwept_len k0.1
  have hw : w.length ≤ 1048576 ∧ ∀ v ∈ w, MkB v := ⟨hwl, fun v hv => k0.2 v (by rw [hww] at hv; unfold mkSwept at hv; split at hv; exact (List.mem_filter.1 hv).1; simp at hv)⟩
  have qS := q_IndexSweptS l0 k0.1 k0.2 l1
  have qI := f_IndexSweptI l0 k0.1 k0.2 l1
  rw [← hww] at qS qI
  try (refine DrawB.quiet (by kernel_rfl) ?_; simp (maxSteps := 4000000) (disch := omega) only [go_sem, w64, AndB_of, IfB_of, IfB_no, pickE_of, pickE_no, ite_of, ite_no, tdivE, tmodE, takeAll])
  first | refine CallB.q (t_toMarkS l0 k0) ?_ | refine DCallB.q0 (t_toMarkS l0 k0) ?_
  simp (maxSteps := 4000000) (disch := omega) only [go_sem, w64, AndB_of, IfB_of, IfB_no, pickE_of, pickE_no, ite_of, ite_no, tdivE, tmodE, takeAll]
  first | refine CallB.q (qS) ?_ | refine DCallB.q0 (qS) ?_
  simp (maxSteps := 4000000) (disch := omega) only [go_sem, w64, AndB_of, IfB_of, IfB_no, pickE_of, pickE_no, ite_of, ite_no, tdivE, tmodE, takeAll]
  refine CallB.fresh (Pict.cons (Pict.pure (by simp [pureA, pureL])) Pict.nil) (o_toMarkS l0 k0) fun x0 H1 n1 hOx0 hn1 hH1 => ?_
  simp (maxSteps := 4000000) (disch := omega) only [go_sem, w64, AndB_of, IfB_of, IfB_no, pickE_of, pickE_no, ite_of, ite_no, tdivE, tmodE, takeAll]
  try (refine DrawB.quiet (by kernel_rfl) ?_; simp (maxSteps := 4000000) (disch := omega) only [go_sem, w64, AndB_of, IfB_of, IfB_no, pickE_of, pickE_no, ite_of, ite_no, tdivE, tmodE, takeAll])
  refine CallB.fresh (Pict.cons hOx0.pict (Pict.cons (Pict.pure (by simp [pureA, pureL])) Pict.nil)) qI fun g0 H2 n2 hOg hn2 hH2 => ?_
  have hOx0 := hOx0.congr fun i h1 h2 => hH2 i (by omega)
  simp (maxSteps := 4000000) (disch := omega) only [go_sem, w64, AndB_of, IfB_of, IfB_no, pickE_of, pickE_no, ite_of, ite_no, tdivE, tmodE, takeAll]
  try (refine DrawB.quiet (by kernel_rfl) ?_; simp (maxSteps := 4000000) (disch := omega) only [go_sem, w64, AndB_of, IfB_of, IfB_no, pickE_of, pickE_no, ite_of, ite_no, tdivE, tmodE, takeAll])
  refine CallB.pic (Pict.cons hOg.pict (Pict.cons (Pict.pure (by simp [pureA, pureL])) Pict.nil)) (e_eqMarkS w hw) rfl ?_
  simp (maxSteps := 4000000) (disch := omega) only [go_sem, w64, AndB_of, IfB_of, IfB_no, pickE_of, pickE_no, ite_of, ite_no, tdivE, tmodE, takeAll]
  try (refine DrawB.quiet (by kernel_rfl) ?_; simp (maxSteps := 4000000) (disch := omega) only [go_sem, w64, AndB_of, IfB_of, IfB_no, pickE_of, pickE_no, ite_of, ite_no, tdivE, tmodE, takeAll])
  first | refine CallB.q (t_toMarkS l0 k0) ?_ | refine DCallB.q0 (t_toMarkS l0 k0) ?_
  simp (maxSteps := 4000000) (disch := omega) only [go_sem, w64, AndB_of, IfB_of, IfB_no, pickE_of, pickE_no, ite_of, ite_no, tdivE, tmodE, takeAll]
  refine CallB.pic (Pict.cons hOx0.pict (Pict.cons (Pict.pure (by simp [pureA, pureL])) Pict.nil)) (e_eqMarkS l0 k0) rfl ?_
  simp (maxSteps := 4000000) (disch := omega) only [go_sem, w64, AndB_of, IfB_of, IfB_no, pickE_of, pickE_no, ite_of, ite_no, tdivE, tmodE, takeAll]
  refine CallB.law (m_markMarkS l0 (by first | exact k0 | exact k0.1) (1) (by omega) (by omega) hOx0) ?_
  rintro _ H3 n3 ⟨rfl, hOm0, hH3, rfl⟩
  have hOg := hOg.congr fun i h1 h2 => hH3 i (by omega)
  simp (maxSteps := 4000000) (disch := omega) only [go_sem, w64, AndB_of, IfB_of, IfB_no, pickE_of, pickE_no, ite_of, ite_no, tdivE, tmodE, takeAll]
  try (refine DrawB.quiet (by kernel_rfl) ?_; simp (maxSteps := 4000000) (disch := omega) only [go_sem, w64, AndB_of, IfB_of, IfB_no, pickE_of, pickE_no, ite_of, ite_no, tdivE, tmodE, takeAll])
  refine CallB.pic (Pict.cons hOg.pict (Pict.cons (Pict.pure (by simp [pureA, pureL])) Pict.nil)) (e_eqMarkS w hw) rfl ?_
  simp (maxSteps := 4000000) (disch := omega) only [go_sem, w64, AndB_of, IfB_of, IfB_no, pickE_of, pickE_no, ite_of, ite_no, tdivE, tmodE, takeAll]
  refine CallB.law (m_markMarkS w hwl 1 (by omega) (by omega) hOg) ?_
  rintro _ H4 n4 ⟨rfl, hOg, hH4, rfl⟩
  simp (maxSteps := 4000000) (disch := omega) only [go_sem, w64, AndB_of, IfB_of, IfB_no, pickE_of, pickE_no, ite_of, ite_no, tdivE, tmodE, takeAll]
  refine CallB.pic (Pict.cons hOg.pict (Pict.cons (Pict.pure rfl) Pict.nil)) (h_heldMarkS w.length hwl 1 (by omega) (by omega)) rfl ?_
  simp (maxSteps := 4000000) (disch := omega) only [go_sem, w64, AndB_of, IfB_of, IfB_no, pickE_of, pickE_no, ite_of, ite_no, tdivE, tmodE, takeAll]
  try (refine DrawB.quiet (by kernel_rfl) ?_; simp (maxSteps := 4000000) (disch := omega) only [go_sem, w64, AndB_of, IfB_of, IfB_no, pickE_of, pickE_no, ite_of, ite_no, tdivE, tmodE, takeAll])
  first | refine CallB.q (t_toMarkS l0 k0) ?_ | refine DCallB.q0 (t_toMarkS l0 k0) ?_
  simp (maxSteps := 4000000) (disch := omega) only [go_sem, w64, AndB_of, IfB_of, IfB_no, pickE_of, pickE_no, ite_of, ite_no, tdivE, tmodE, takeAll]
  first | refine CallB.q ((QCall.own (by simp [pureL, pureA]) qI)) ?_ | refine DCallB.q0 ((QCall.own (by simp [pureL, pureA]) qI)) ?_
  simp (maxSteps := 4000000) (disch := omega) only [go_sem, w64, AndB_of, IfB_of, IfB_no, pickE_of, pickE_no, ite_of, ite_no, tdivE, tmodE, takeAll]
  try (refine DrawB.quiet (by kernel_rfl) ?_; simp (maxSteps := 4000000) (disch := omega) only [go_sem, w64, AndB_of, IfB_of, IfB_no, pickE_of, pickE_no, ite_of, ite_no, tdivE, tmodE, takeAll])
  first | refine CallB.q (e_eqMarkS w hw) ?_ | refine DCallB.q0 (e_eqMarkS w hw) ?_
  simp (maxSteps := 4000000) (disch := omega) only [go_sem, w64, AndB_of, IfB_of, IfB_no, pickE_of, pickE_no, ite_of, ite_no, tdivE, tmodE, takeAll]
  refine CallB.pic (Pict.cons hOg.pict (Pict.cons (Pict.pure rfl) Pict.nil)) (h_heldMarkS w.length hwl 1 (by omega) (by omega)) rfl ?_
  simp (maxSteps := 4000000) (disch := omega) only [go_sem, w64, AndB_of, IfB_of, IfB_no, pickE_of, pickE_no, ite_of, ite_no, tdivE, tmodE, takeAll]
end Go.TH
