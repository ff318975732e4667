/- TH: the law FnExactIndexBetween. Made by mlaw.py and gen.py. -/
import Derived.Test.YtdifgeiodkiilaaTf3
import Derived.Test.YtdifgeiodkiilaaTcix
namespace Go.TH
open Go Go.Proofs
set_option linter.unusedSimpArgs false
set_option linter.unusedVariables false
set_option maxHeartbeats 20000000
set_option maxRecDepth 100000
theorem w_ExactIndexBetween (l0 : List GMk) (h0 : (l0.length ≤ 9223372036854775807 ∧ ∀ x ∈ l0, MkBL x)) (l1 : GVal) (h1 : VBL l1) (l2 : GVal) (h2 : VBL l2) (l3 : Int) (h3 : -9223372036854775808 ≤ l3 ∧ l3 ≤ 9223372036854775807) :
    CallQ Try.prog 10 [marksA l0, .agg [.int .i64 l1.k, .int .i64 l1.n, .str l1.s], .agg [.int .i64 l2.k, .int .i64 l2.n, .str l2.s], .int .i64 l3] noH 0 fun r _ _ => r = .bool true := by
  refine callQ_body mixed Try.func10 _ (by unfold Try.f10; rfl) Try.ntmps10 Try.results10 (by decide) (by simp) ?_
  simp (maxSteps := 4000000) (disch := omega) only [go_sem, w64, AndB_of, IfB_of, IfB_no, pickE_of, pickE_no, ite_of, ite_no, tdivE, tmodE, takeAll]
  obtain ⟨_, ⟨r0, rfl, hr0, hs0⟩, hq0⟩ := x_szMarkS l0 1048576 (by omega) (by omega) h0
  apply CallB.q hq0
  simp (maxSteps := 4000000) (disch := omega) only [go_sem, w64, AndB_of, IfB_of, IfB_no, pickE_of, pickE_no, ite_of, ite_no, tdivE, tmodE, takeAll]
  refine IfB.dec (fun h => ?_) (fun g0 => ?_)
  · simp (maxSteps := 4000000) (disch := omega) only [go_sem, w64, AndB_of, IfB_of, IfB_no, pickE_of, pickE_no, ite_of, ite_no, tdivE, tmodE, takeAll]
  simp (maxSteps := 4000000) (disch := omega) only [go_sem, w64, AndB_of, IfB_of, IfB_no, pickE_of, pickE_no, ite_of, ite_no, tdivE, tmodE, takeAll]
  obtain ⟨_, ⟨r1, rfl, hr1, hs1⟩, hq1⟩ := x_szValue l1 r0 (by omega) (by omega) h1
  apply CallB.q hq1
  simp (maxSteps := 4000000) (disch := omega) only [go_sem, w64, AndB_of, IfB_of, IfB_no, pickE_of, pickE_no, ite_of, ite_no, tdivE, tmodE, takeAll]
  refine IfB.dec (fun h => ?_) (fun g1 => ?_)
  · simp (maxSteps := 4000000) (disch := omega) only [go_sem, w64, AndB_of, IfB_of, IfB_no, pickE_of, pickE_no, ite_of, ite_no, tdivE, tmodE, takeAll]
  simp (maxSteps := 4000000) (disch := omega) only [go_sem, w64, AndB_of, IfB_of, IfB_no, pickE_of, pickE_no, ite_of, ite_no, tdivE, tmodE, takeAll]
  obtain ⟨_, ⟨r2, rfl, hr2, hs2⟩, hq2⟩ := x_szValue l2 r1 (by omega) (by omega) h2
  apply CallB.q hq2
  simp (maxSteps := 4000000) (disch := omega) only [go_sem, w64, AndB_of, IfB_of, IfB_no, pickE_of, pickE_no, ite_of, ite_no, tdivE, tmodE, takeAll]
  refine IfB.dec (fun h => ?_) (fun g2 => ?_)
  · simp (maxSteps := 4000000) (disch := omega) only [go_sem, w64, AndB_of, IfB_of, IfB_no, pickE_of, pickE_no, ite_of, ite_no, tdivE, tmodE, takeAll]
  simp (maxSteps := 4000000) (disch := omega) only [go_sem, w64, AndB_of, IfB_of, IfB_no, pickE_of, pickE_no, ite_of, ite_no, tdivE, tmodE, takeAll]
  have k0 := hs0 (by omega)
  have k1 := hs1 (by omega)
  have k2 := hs2 (by omega)
  have k1' : l1.s.size ≤ 9223372036854775807 := by unfold VB at k1; omega
  have k2' : l2.s.size ≤ 9223372036854775807 := by unfold VB at k2; omega
  obtain ⟨w, hww⟩ : ∃ w, w = mkBetw l0 l1 l2 l3 := ⟨_, rfl⟩
  have hwl : w.length ≤ 1048576 := by rw [hww]; exact mkBetw_len k0.1
  have hw := hwl
  have qS := q_IndexBetweenS l0 k0.1 k0.2 l1 l2 k1' k2' l3
  have qI := f_IndexBetweenI l0 k0.1 k0.2 l1 l2 k1' k2' l3
  rw [← hww] at qS qI
  try (refine DrawB.quiet (by kernel_rfl) ?_; simp (maxSteps := 4000000) (disch := omega) only [go_sem, w64, AndB_of, IfB_of, IfB_no, pickE_of, pickE_no, ite_of, ite_no, tdivE, tmodE, takeAll])
  first | refine CallB.q (t_toMarkS l0 k0) ?_ | refine DCallB.q0 (t_toMarkS l0 k0) ?_
  simp (maxSteps := 4000000) (disch := omega) only [go_sem, w64, AndB_of, IfB_of, IfB_no, pickE_of, pickE_no, ite_of, ite_no, tdivE, tmodE, takeAll]
  first | refine CallB.q (t_toValue l1 k1) ?_ | refine DCallB.q0 (t_toValue l1 k1) ?_
  simp (maxSteps := 4000000) (disch := omega) only [go_sem, w64, AndB_of, IfB_of, IfB_no, pickE_of, pickE_no, ite_of, ite_no, tdivE, tmodE, takeAll]
  first | refine CallB.q (t_toValue l2 k2) ?_ | refine DCallB.q0 (t_toValue l2 k2) ?_
  simp (maxSteps := 4000000) (disch := omega) only [go_sem, w64, AndB_of, IfB_of, IfB_no, pickE_of, pickE_no, ite_of, ite_no, tdivE, tmodE, takeAll]
  first | refine CallB.q (qS) ?_ | refine DCallB.q0 (qS) ?_
  simp (maxSteps := 4000000) (disch := omega) only [go_sem, w64, AndB_of, IfB_of, IfB_no, pickE_of, pickE_no, ite_of, ite_no, tdivE, tmodE, takeAll]
  refine CallB.fresh (Pict.cons (Pict.pure (by simp [pureA, pureL])) Pict.nil) (o_toMarkS l0 k0) fun x0 H1 n1 hOx0 hn1 hH1 => ?_
  have b1_0 : H1 0 = .live 0 [.int .i64 l1.k, .int .i64 l1.n, .str l1.s] := by rw [hH1 0 (by omega)]; rfl
  have b1_1 : H1 1 = .live 0 [.int .i64 l2.k, .int .i64 l2.n, .str l2.s] := by rw [hH1 1 (by omega)]; rfl
  simp (maxSteps := 4000000) (disch := omega) only [go_sem, w64, AndB_of, IfB_of, IfB_no, pickE_of, pickE_no, ite_of, ite_no, tdivE, tmodE, takeAll, b1_0, b1_1]
  refine DrawB.intro [6] [6] (fun i => decide (n1 ≤ i)) (by kernel_rfl) ?_
  simp (maxSteps := 4000000) (disch := omega) only [go_sem, w64, AndB_of, IfB_of, IfB_no, pickE_of, pickE_no, ite_of, ite_no, tdivE, tmodE, takeAll, mask_lo (H := H1) (show 0 < n1 by omega), mask_lo (H := H1) (show 1 < n1 by omega), b1_0, b1_1]
  refine DCallB.q0 (t_toValue l1 k1) ?_
  simp (maxSteps := 4000000) (disch := omega) only [go_sem, w64, AndB_of, IfB_of, IfB_no, pickE_of, pickE_no, ite_of, ite_no, tdivE, tmodE, takeAll, mask_lo (H := H1) (show 0 < n1 by omega), mask_lo (H := H1) (show 1 < n1 by omega), b1_0, b1_1]
  refine DCallB.q0 (t_toValue l2 k2) ?_
  simp (maxSteps := 4000000) (disch := omega) only [go_sem, w64, AndB_of, IfB_of, IfB_no, pickE_of, pickE_no, ite_of, ite_no, tdivE, tmodE, takeAll, mask_lo (H := H1) (show 0 < n1 by omega), mask_lo (H := H1) (show 1 < n1 by omega), b1_0, b1_1]
  refine CallB.fresh (Pict.cons hOx0.pict (Pict.cons (Pict.pure (by simp [pureA, pureL])) (Pict.cons (Pict.pure (by simp [pureA, pureL])) (Pict.cons (Pict.pure (by simp [pureA, pureL])) Pict.nil)))) qI fun g0 H2 n2 hOg hn2 hH2 => ?_
  have b2_0 : H2 0 = .live 0 [.int .i64 l1.k, .int .i64 l1.n, .str l1.s] := by rw [hH2 0 (by omega), b1_0]
  have b2_1 : H2 1 = .live 0 [.int .i64 l2.k, .int .i64 l2.n, .str l2.s] := by rw [hH2 1 (by omega), b1_1]
  have hOx0 := hOx0.congr fun i h1 h2 => hH2 i (by omega)
  simp (maxSteps := 4000000) (disch := omega) only [go_sem, w64, AndB_of, IfB_of, IfB_no, pickE_of, pickE_no, ite_of, ite_no, tdivE, tmodE, takeAll, b2_0, b2_1]
  try (refine DrawB.quiet (by kernel_rfl) ?_; simp (maxSteps := 4000000) (disch := omega) only [go_sem, w64, AndB_of, IfB_of, IfB_no, pickE_of, pickE_no, ite_of, ite_no, tdivE, tmodE, takeAll, b2_0, b2_1])
  refine CallB.pic (Pict.cons hOg.pict (Pict.cons (Pict.pure (by simp [pureA, pureL])) Pict.nil)) (e_eqIntS w hw) rfl ?_
  simp (maxSteps := 4000000) (disch := omega) only [go_sem, w64, AndB_of, IfB_of, IfB_no, pickE_of, pickE_no, ite_of, ite_no, tdivE, tmodE, takeAll, b2_0, b2_1]
  try (refine DrawB.quiet (by kernel_rfl) ?_; simp (maxSteps := 4000000) (disch := omega) only [go_sem, w64, AndB_of, IfB_of, IfB_no, pickE_of, pickE_no, ite_of, ite_no, tdivE, tmodE, takeAll, b2_0, b2_1])
  first | refine CallB.q (t_toMarkS l0 k0) ?_ | refine DCallB.q0 (t_toMarkS l0 k0) ?_
  simp (maxSteps := 4000000) (disch := omega) only [go_sem, w64, AndB_of, IfB_of, IfB_no, pickE_of, pickE_no, ite_of, ite_no, tdivE, tmodE, takeAll, b2_0, b2_1]
  refine CallB.pic (Pict.cons hOx0.pict (Pict.cons (Pict.pure (by simp [pureA, pureL])) Pict.nil)) (e_eqMarkS l0 k0) rfl ?_
  simp (maxSteps := 4000000) (disch := omega) only [go_sem, w64, AndB_of, IfB_of, IfB_no, pickE_of, pickE_no, ite_of, ite_no, tdivE, tmodE, takeAll, b2_0, b2_1]
  refine CallB.law (m_markMarkS l0 (by first | exact k0 | exact k0.1) (1) (by omega) (by omega) hOx0) ?_
  rintro _ H3 n3 ⟨rfl, hOm0, hH3, rfl⟩
  have b3_0 : H3 0 = .live 0 [.int .i64 l1.k, .int .i64 l1.n, .str l1.s] := by rw [hH3 0 (by omega), b2_0]
  have b3_1 : H3 1 = .live 0 [.int .i64 l2.k, .int .i64 l2.n, .str l2.s] := by rw [hH3 1 (by omega), b2_1]
  have hOg := hOg.congr fun i h1 h2 => hH3 i (by omega)
  simp (maxSteps := 4000000) (disch := omega) only [go_sem, w64, AndB_of, IfB_of, IfB_no, pickE_of, pickE_no, ite_of, ite_no, tdivE, tmodE, takeAll, b3_0, b3_1]
  try (refine DrawB.quiet (by kernel_rfl) ?_; simp (maxSteps := 4000000) (disch := omega) only [go_sem, w64, AndB_of, IfB_of, IfB_no, pickE_of, pickE_no, ite_of, ite_no, tdivE, tmodE, takeAll, b3_0, b3_1])
  refine CallB.pic (Pict.cons hOg.pict (Pict.cons (Pict.pure (by simp [pureA, pureL])) Pict.nil)) (e_eqIntS w hw) rfl ?_
  simp (maxSteps := 4000000) (disch := omega) only [go_sem, w64, AndB_of, IfB_of, IfB_no, pickE_of, pickE_no, ite_of, ite_no, tdivE, tmodE, takeAll, b3_0, b3_1]
  refine CallB.law (m_markIntS w hwl 1 (by omega) (by omega) hOg) ?_
  rintro _ H4 n4 ⟨rfl, hOg, hH4, rfl⟩
  have b4_0 : H4 0 = .live 0 [.int .i64 l1.k, .int .i64 l1.n, .str l1.s] := by rw [hH4 0 (by omega), b3_0]
  have b4_1 : H4 1 = .live 0 [.int .i64 l2.k, .int .i64 l2.n, .str l2.s] := by rw [hH4 1 (by omega), b3_1]
  simp (maxSteps := 4000000) (disch := omega) only [go_sem, w64, AndB_of, IfB_of, IfB_no, pickE_of, pickE_no, ite_of, ite_no, tdivE, tmodE, takeAll, b4_0, b4_1]
  refine CallB.pic (Pict.cons hOg.pict (Pict.cons (Pict.pure rfl) Pict.nil)) (h_heldIntS w.length hwl 1 (by omega) (by omega)) rfl ?_
  simp (maxSteps := 4000000) (disch := omega) only [go_sem, w64, AndB_of, IfB_of, IfB_no, pickE_of, pickE_no, ite_of, ite_no, tdivE, tmodE, takeAll, b4_0, b4_1]
  try (refine DrawB.quiet (by kernel_rfl) ?_; simp (maxSteps := 4000000) (disch := omega) only [go_sem, w64, AndB_of, IfB_of, IfB_no, pickE_of, pickE_no, ite_of, ite_no, tdivE, tmodE, takeAll, b4_0, b4_1])
  first | refine CallB.q (t_toMarkS l0 k0) ?_ | refine DCallB.q0 (t_toMarkS l0 k0) ?_
  simp (maxSteps := 4000000) (disch := omega) only [go_sem, w64, AndB_of, IfB_of, IfB_no, pickE_of, pickE_no, ite_of, ite_no, tdivE, tmodE, takeAll, b4_0, b4_1]
  first | refine CallB.q (t_toValue l1 k1) ?_ | refine DCallB.q0 (t_toValue l1 k1) ?_
  simp (maxSteps := 4000000) (disch := omega) only [go_sem, w64, AndB_of, IfB_of, IfB_no, pickE_of, pickE_no, ite_of, ite_no, tdivE, tmodE, takeAll, b4_0, b4_1]
  first | refine CallB.q (t_toValue l2 k2) ?_ | refine DCallB.q0 (t_toValue l2 k2) ?_
  simp (maxSteps := 4000000) (disch := omega) only [go_sem, w64, AndB_of, IfB_of, IfB_no, pickE_of, pickE_no, ite_of, ite_no, tdivE, tmodE, takeAll, b4_0, b4_1]
  first | refine CallB.q ((QCall.own (by simp [pureL, pureA]) qI)) ?_ | refine DCallB.q0 ((QCall.own (by simp [pureL, pureA]) qI)) ?_
  simp (maxSteps := 4000000) (disch := omega) only [go_sem, w64, AndB_of, IfB_of, IfB_no, pickE_of, pickE_no, ite_of, ite_no, tdivE, tmodE, takeAll, b4_0, b4_1]
  try (refine DrawB.quiet (by kernel_rfl) ?_; simp (maxSteps := 4000000) (disch := omega) only [go_sem, w64, AndB_of, IfB_of, IfB_no, pickE_of, pickE_no, ite_of, ite_no, tdivE, tmodE, takeAll, b4_0, b4_1])
  first | refine CallB.q (e_eqIntS w hw) ?_ | refine DCallB.q0 (e_eqIntS w hw) ?_
  simp (maxSteps := 4000000) (disch := omega) only [go_sem, w64, AndB_of, IfB_of, IfB_no, pickE_of, pickE_no, ite_of, ite_no, tdivE, tmodE, takeAll, b4_0, b4_1]
  refine CallB.pic (Pict.cons hOg.pict (Pict.cons (Pict.pure rfl) Pict.nil)) (h_heldIntS w.length hwl 1 (by omega) (by omega)) rfl ?_
  simp (maxSteps := 4000000) (disch := omega) only [go_sem, w64, AndB_of, IfB_of, IfB_no, pickE_of, pickE_no, ite_of, ite_no, tdivE, tmodE, takeAll, b4_0, b4_1]
end Go.TH
