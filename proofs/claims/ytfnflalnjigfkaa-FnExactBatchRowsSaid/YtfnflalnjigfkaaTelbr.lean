/- TH: the law FnExactBatchRows. Made by mlaw.py and gen.py. -/
import Derived.Test.YtfnflalnjigfkaaTf3
import Derived.Test.YtfnflalnjigfkaaTeob
namespace Go.TH
open Go Go.Proofs
set_option linter.unusedSimpArgs false
set_option linter.unusedVariables false
set_option maxHeartbeats 20000000
set_option maxRecDepth 100000
theorem w_ExactBatchRows (l0 : GBt) (h0 : BtBL l0) :
    CallQ Try.prog 10 [.agg [rowsA l0.cols, boolsA l0.picked]] noH 0 fun r _ _ => r = .bool true := by
  refine callQ_body mixed Try.func10 _ (by unfold Try.f10; rfl) Try.ntmps10 Try.results10 (by decide) (by simp) ?_
  simp (maxSteps := 4000000) (disch := omega) only [go_sem, w64, AndB_of, IfB_of, IfB_no, pickE_of, pickE_no, ite_of, ite_no, tdivE, tmodE, takeAll]
  obtain ⟨_, ⟨r0, rfl, hr0, hs0⟩, hq0⟩ := x_szBatch l0 1048576 (by omega) (by omega) h0
  apply CallB.q hq0
  simp (maxSteps := 4000000) (disch := omega) only [go_sem, w64, AndB_of, IfB_of, IfB_no, pickE_of, pickE_no, ite_of, ite_no, tdivE, tmodE, takeAll]
  refine IfB.dec (fun h => ?_) (fun g0 => ?_)
  · simp (maxSteps := 4000000) (disch := omega) only [go_sem, w64, AndB_of, IfB_of, IfB_no, pickE_of, pickE_no, ite_of, ite_no, tdivE, tmodE, takeAll]
  simp (maxSteps := 4000000) (disch := omega) only [go_sem, w64, AndB_of, IfB_of, IfB_no, pickE_of, pickE_no, ite_of, ite_no, tdivE, tmodE, takeAll]
  have k0 := hs0 (by omega)
  have kn0 : (l0.cols.length ≤ 1048576 ∧ ∀ v ∈ l0.cols, v.length ≤ 1048576) ∧ l0.picked.length ≤ 1048576 := ⟨⟨k0.1.1, fun v hv => (k0.1.2 v hv).1⟩, k0.2⟩
  have ks : BtS l0 := ⟨k0.1.1, k0.2, fun c hc => ⟨(k0.1.2 c hc).1, fun x hx => by have := (k0.1.2 c hc).2 x hx; omega⟩⟩
  obtain ⟨w, hww⟩ : ∃ w, w = bRows l0 := ⟨_, rfl⟩
  have hw : w.length ≤ 1048576 ∧ ∀ r ∈ w, r.length ≤ 1048576 ∧ ∀ x ∈ r, VB x := by rw [hww]; exact bRows_b k0
  have hwn : w.length ≤ 1048576 ∧ ∀ v ∈ w, v.length ≤ 1048576 := ⟨hw.1, fun v hv => (hw.2 v hv).1⟩
  have hns : (w.map fun v => v.length).length ≤ 1048576 ∧ ∀ n ∈ w.map fun v => v.length, n ≤ 1048576 := ⟨by simp; exact hw.1, fun n hn => by obtain ⟨v, hv, rfl⟩ := List.mem_map.1 hn; exact hwn.2 v hv⟩
  have qS := q_BatchRowsS l0 ks
  have qI := f_BatchRowsI l0 ks
  rw [← hww] at qS qI
  try (refine DrawB.quiet (by kernel_rfl) ?_; simp (maxSteps := 4000000) (disch := omega) only [go_sem, w64, AndB_of, IfB_of, IfB_no, pickE_of, pickE_no, ite_of, ite_no, tdivE, tmodE, takeAll])
  first | refine CallB.q (t_toBatch l0 k0) ?_ | refine DCallB.q0 (t_toBatch l0 k0) ?_
  simp (maxSteps := 4000000) (disch := omega) only [go_sem, w64, AndB_of, IfB_of, IfB_no, pickE_of, pickE_no, ite_of, ite_no, tdivE, tmodE, takeAll]
  first | refine CallB.q (qS) ?_ | refine DCallB.q0 (qS) ?_
  simp (maxSteps := 4000000) (disch := omega) only [go_sem, w64, AndB_of, IfB_of, IfB_no, pickE_of, pickE_no, ite_of, ite_no, tdivE, tmodE, takeAll]
  refine CallB.fresh (Pict.cons (Pict.pure (by simp [pureA, pureL])) Pict.nil) (o_toBatch l0 k0) fun x0 H1 n1 hOx0 hn1 hH1 => ?_
  have b1_0 : H1 0 = .live 0 [rowsA l0.cols, boolsA l0.picked] := by rw [hH1 0 (by omega)]; rfl
  obtain ⟨xa0, xb0, rfl⟩ := hOx0.unagg2
  simp (maxSteps := 4000000) (disch := omega) only [go_sem, w64, AndB_of, IfB_of, IfB_no, pickE_of, pickE_no, ite_of, ite_no, tdivE, tmodE, takeAll, b1_0]
  obtain ⟨H2, eH2⟩ : ∃ H2 : AH, H2 = upd H1 n1 (.live 0 [xa0, xb0]) := ⟨_, rfl⟩
  rw [← eH2]
  have hOx0 := hOx0.congr (H' := H2) fun i h1 h2 => by rw [eH2, upd_ne _ _ (by omega)]
  have b2_0 : H2 0 = .live 0 [rowsA l0.cols, boolsA l0.picked] := by rw [eH2, upd_ne _ _ (by omega), b1_0]
  have b2_x0 : H2 n1 = .live 0 [xa0, xb0] := by rw [eH2, upd_same]
  try simp (maxSteps := 4000000) (disch := omega) only [go_sem, w64, AndB_of, IfB_of, IfB_no, pickE_of, pickE_no, ite_of, ite_no, tdivE, tmodE, takeAll, b2_0, b2_x0]
  try (refine DrawB.quiet (by kernel_rfl) ?_; simp (maxSteps := 4000000) (disch := omega) only [go_sem, w64, AndB_of, IfB_of, IfB_no, pickE_of, pickE_no, ite_of, ite_no, tdivE, tmodE, takeAll, b2_0, b2_x0])
  refine CallB.fresh (Pict.cons hOx0.pict Pict.nil) qI fun g0 H3 n3 hOg hn3 hH3 => ?_
  have b3_0 : H3 0 = .live 0 [rowsA l0.cols, boolsA l0.picked] := by rw [hH3 0 (by omega), b2_0]
  have b3_x0 : H3 n1 = .live 0 [xa0, xb0] := by rw [hH3 n1 (by omega), b2_x0]
  have hOx0 := hOx0.congr fun i h1 h2 => hH3 i (by omega)
  simp (maxSteps := 4000000) (disch := omega) only [go_sem, w64, AndB_of, IfB_of, IfB_no, pickE_of, pickE_no, ite_of, ite_no, tdivE, tmodE, takeAll, b3_0, b3_x0]
  try (refine DrawB.quiet (by kernel_rfl) ?_; simp (maxSteps := 4000000) (disch := omega) only [go_sem, w64, AndB_of, IfB_of, IfB_no, pickE_of, pickE_no, ite_of, ite_no, tdivE, tmodE, takeAll, b3_0, b3_x0])
  refine CallB.pic (Pict.cons hOg.pict (Pict.cons (Pict.pure (by simp [pureA, pureL])) Pict.nil)) (e_eqValueSS w hw) rfl ?_
  simp (maxSteps := 4000000) (disch := omega) only [go_sem, w64, AndB_of, IfB_of, IfB_no, pickE_of, pickE_no, ite_of, ite_no, tdivE, tmodE, takeAll, b3_0, b3_x0]
  refine DrawB.intro [3] [3] (fun i => decide (n3 ≤ i)) (by kernel_rfl) ?_
  simp (maxSteps := 4000000) (disch := omega) only [go_sem, w64, AndB_of, IfB_of, IfB_no, pickE_of, pickE_no, ite_of, ite_no, tdivE, tmodE, takeAll, mask_lo (H := H3) (show 0 < n3 by omega), mask_lo (H := H3) (show n1 < n3 by omega), b3_0, b3_x0]
  refine DCallB.q0 (t_toBatch l0 k0) ?_
  simp (maxSteps := 4000000) (disch := omega) only [go_sem, w64, AndB_of, IfB_of, IfB_no, pickE_of, pickE_no, ite_of, ite_no, tdivE, tmodE, takeAll, mask_lo (H := H3) (show 0 < n3 by omega), mask_lo (H := H3) (show n1 < n3 by omega), b3_0, b3_x0]
  refine CallB.pic (Pict.cons hOx0.pict (Pict.cons (Pict.pure (by simp [pureA, pureL])) Pict.nil)) (e_eqBatch l0 k0) rfl ?_
  simp (maxSteps := 4000000) (disch := omega) only [go_sem, w64, AndB_of, IfB_of, IfB_no, pickE_of, pickE_no, ite_of, ite_no, tdivE, tmodE, takeAll, b3_0, b3_x0]
  have hc0 := cntBt l0 kn0
  refine CallB.law (m_markBatch l0 kn0 (1) (by omega) (by omega) hOx0 (by omega)) ?_
  rintro _ H4 n4 ⟨rfl, hOm0, hH4, hn4⟩
  have b4_0 : H4 0 = .live 0 [rowsA l0.cols, boolsA l0.picked] := by rw [hH4 0 (by omega) (by omega), b3_0]
  have b4_x0 : H4 n1 = .live 0 [xa0, xb0] := by rw [hH4 n1 (by omega) (by omega), b3_x0]
  have hOg := hOg.congr fun i h1 h2 => hH4 i (by omega) (by omega)
  simp (maxSteps := 4000000) (disch := omega) only [go_sem, w64, AndB_of, IfB_of, IfB_no, pickE_of, pickE_no, ite_of, ite_no, tdivE, tmodE, takeAll, b4_0, b4_x0]
  try (refine DrawB.quiet (by kernel_rfl) ?_; simp (maxSteps := 4000000) (disch := omega) only [go_sem, w64, AndB_of, IfB_of, IfB_no, pickE_of, pickE_no, ite_of, ite_no, tdivE, tmodE, takeAll, b4_0, b4_x0])
  refine CallB.pic (Pict.cons hOg.pict (Pict.cons (Pict.pure (by simp [pureA, pureL])) Pict.nil)) (e_eqValueSS w hw) rfl ?_
  simp (maxSteps := 4000000) (disch := omega) only [go_sem, w64, AndB_of, IfB_of, IfB_no, pickE_of, pickE_no, ite_of, ite_no, tdivE, tmodE, takeAll, b4_0, b4_x0]
  have hcg := cntRo w hwn
  refine CallB.law (m_markValueSS w hwn 1 (by omega) (by omega) hOg) ?_
  rintro _ H5 n5 ⟨rfl, hOg, hH5, rfl⟩
  have b5_0 : H5 0 = .live 0 [rowsA l0.cols, boolsA l0.picked] := by rw [hH5 0 (by omega), b4_0]
  have b5_x0 : H5 n1 = .live 0 [xa0, xb0] := by rw [hH5 n1 (by omega), b4_x0]
  simp (maxSteps := 4000000) (disch := omega) only [go_sem, w64, AndB_of, IfB_of, IfB_no, pickE_of, pickE_no, ite_of, ite_no, tdivE, tmodE, takeAll, b5_0, b5_x0]
  refine CallB.pic (Pict.cons hOg.pict (Pict.cons (Pict.pure rfl) Pict.nil)) (h_heldValueSS (w.map fun v => v.length) hns 1 (by omega) (by omega)) rfl ?_
  simp (maxSteps := 4000000) (disch := omega) only [go_sem, w64, AndB_of, IfB_of, IfB_no, pickE_of, pickE_no, ite_of, ite_no, tdivE, tmodE, takeAll, b5_0, b5_x0]
  try (refine DrawB.quiet (by kernel_rfl) ?_; simp (maxSteps := 4000000) (disch := omega) only [go_sem, w64, AndB_of, IfB_of, IfB_no, pickE_of, pickE_no, ite_of, ite_no, tdivE, tmodE, takeAll, b5_0, b5_x0])
  first | refine CallB.q (t_toBatch l0 k0) ?_ | refine DCallB.q0 (t_toBatch l0 k0) ?_
  simp (maxSteps := 4000000) (disch := omega) only [go_sem, w64, AndB_of, IfB_of, IfB_no, pickE_of, pickE_no, ite_of, ite_no, tdivE, tmodE, takeAll, b5_0, b5_x0]
  first | refine CallB.q ((QCall.own (by simp [pureL, pureA]) qI)) ?_ | refine DCallB.q0 ((QCall.own (by simp [pureL, pureA]) qI)) ?_
  simp (maxSteps := 4000000) (disch := omega) only [go_sem, w64, AndB_of, IfB_of, IfB_no, pickE_of, pickE_no, ite_of, ite_no, tdivE, tmodE, takeAll, b5_0, b5_x0]
  try (refine DrawB.quiet (by kernel_rfl) ?_; simp (maxSteps := 4000000) (disch := omega) only [go_sem, w64, AndB_of, IfB_of, IfB_no, pickE_of, pickE_no, ite_of, ite_no, tdivE, tmodE, takeAll, b5_0, b5_x0])
  first | refine CallB.q (e_eqValueSS w hw) ?_ | refine DCallB.q0 (e_eqValueSS w hw) ?_
  simp (maxSteps := 4000000) (disch := omega) only [go_sem, w64, AndB_of, IfB_of, IfB_no, pickE_of, pickE_no, ite_of, ite_no, tdivE, tmodE, takeAll, b5_0, b5_x0]
  refine CallB.pic (Pict.cons hOg.pict (Pict.cons (Pict.pure rfl) Pict.nil)) (h_heldValueSS (w.map fun v => v.length) hns 1 (by omega) (by omega)) rfl ?_
  simp (maxSteps := 4000000) (disch := omega) only [go_sem, w64, AndB_of, IfB_of, IfB_no, pickE_of, pickE_no, ite_of, ite_no, tdivE, tmodE, takeAll, b5_0, b5_x0]
end Go.TH
