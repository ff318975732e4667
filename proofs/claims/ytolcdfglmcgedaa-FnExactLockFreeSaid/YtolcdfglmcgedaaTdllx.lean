/- TH: the law FnExactLockFree. Made by gen.py. -/
import Derived.Test.YtolcdfglmcgedaaTf3
import Derived.Test.YtolcdfglmcgedaaTdlkm
import Derived.Test.YtolcdfglmcgedaaTf4
namespace Go.TH
open Go Go.Proofs
set_option linter.unusedSimpArgs false
set_option linter.unusedVariables false
set_option maxHeartbeats 20000000
set_option maxRecDepth 100000
theorem w_ExactLockFree (l0 : GLk) (h0 : LkBL l0) (l1 : Int) (h1 : -9223372036854775808 ≤ l1 ∧ l1 ≤ 9223372036854775807) :
    CallQ Try.prog 10 [.agg [asksA l0.held, asksA l0.queue], .int .i64 l1] noH 0 fun r _ _ => r = .bool true := by
  refine callQ_body mixed Try.func10 _ (by unfold Try.f10; rfl) Try.ntmps10 Try.results10 (by decide) (by simp) ?_
  simp (maxSteps := 4000000) (disch := omega) only [go_sem, w64, AndB_of, IfB_of, IfB_no, pickE_of, pickE_no, ite_of, ite_no, tdivE, tmodE, takeAll]
  obtain ⟨_, ⟨r0, rfl, hr0, hs0⟩, hq0⟩ := x_szLocks l0 1048576 (by omega) (by omega) h0
  apply CallB.q hq0
  simp (maxSteps := 4000000) (disch := omega) only [go_sem, w64, AndB_of, IfB_of, IfB_no, pickE_of, pickE_no, ite_of, ite_no, tdivE, tmodE, takeAll]
  refine IfB.dec (fun h => ?_) (fun g0 => ?_)
  · simp (maxSteps := 4000000) (disch := omega) only [go_sem, w64, AndB_of, IfB_of, IfB_no, pickE_of, pickE_no, ite_of, ite_no, tdivE, tmodE, takeAll]
  simp (maxSteps := 4000000) (disch := omega) only [go_sem, w64, AndB_of, IfB_of, IfB_no, pickE_of, pickE_no, ite_of, ite_no, tdivE, tmodE, takeAll]
  have k0 := hs0 (by omega)
  have kb1 := k0.1
  have kb2 := k0.2
  obtain ⟨w, hww⟩ : ∃ w, w = lockFree l0 l1 := ⟨_, rfl⟩
  have hw : LkB w := by rw [hww]; exact lockFree_b
  have hw1 := hw.1
  have hw2 := hw.2
  have qS := QCall.own (by simp [pureL, pureA]) (o_LockFreeS2 l0 k0.1 k0.2 l1)
  have qI := o_LockFreeI2 l0 k0.1 k0.2 l1
  rw [← hww] at qS qI
  apply CallB.q (t_toLocks l0 k0)
  simp (maxSteps := 4000000) (disch := omega) only [go_sem, w64, AndB_of, IfB_of, IfB_no, pickE_of, pickE_no, ite_of, ite_no, tdivE, tmodE, takeAll]
  apply CallB.q qS
  simp (maxSteps := 4000000) (disch := omega) only [go_sem, w64, AndB_of, IfB_of, IfB_no, pickE_of, pickE_no, ite_of, ite_no, tdivE, tmodE, takeAll]
  refine CallB.fresh (Pict.cons (Pict.pure (by simp [pureA, pureL])) Pict.nil) (o_toLocks l0 k0) fun x0 H1 n1 hOx hn1 hH1 => ?_
  have b1_0 : H1 0 = .live 0 [asksA l0.held, asksA l0.queue] := by rw [hH1 0 (by omega)]; rfl
  have b1_1 : H1 1 = .live 0 [asksA w.held, asksA w.queue] := by rw [hH1 1 (by omega)]; rfl
  obtain ⟨xa, xb, rfl⟩ := hOx.unagg2
  simp (maxSteps := 4000000) (disch := omega) only [go_sem, w64, AndB_of, IfB_of, IfB_no, pickE_of, pickE_no, ite_of, ite_no, tdivE, tmodE, takeAll, b1_0, b1_1]
  obtain ⟨H2, eH2⟩ : ∃ H2 : AH, H2 = upd H1 n1 (.live 0 [xa, xb]) := ⟨_, rfl⟩
  rw [← eH2]
  have hOx := hOx.congr (H' := H2) fun i h1 h2 => by rw [eH2, upd_ne _ _ (by omega)]
  have b2_0 : H2 0 = .live 0 [asksA l0.held, asksA l0.queue] := by rw [eH2, upd_ne _ _ (by omega), b1_0]
  have b2_1 : H2 1 = .live 0 [asksA w.held, asksA w.queue] := by rw [eH2, upd_ne _ _ (by omega), b1_1]
  have b2_x : H2 n1 = .live 0 [xa, xb] := by rw [eH2, upd_same]
  refine CallB.fresh (Pict.cons hOx.pict (Pict.cons (Pict.pure rfl) Pict.nil)) qI fun g0 H3 n3 hOg hn3 hH3 => ?_
  have b3_0 : H3 0 = .live 0 [asksA l0.held, asksA l0.queue] := by rw [hH3 0 (by omega), b2_0]
  have b3_1 : H3 1 = .live 0 [asksA w.held, asksA w.queue] := by rw [hH3 1 (by omega), b2_1]
  have b3_x : H3 n1 = .live 0 [xa, xb] := by rw [hH3 n1 (by omega), b2_x]
  have hOx := hOx.congr fun i h1 h2 => hH3 i (by omega)
  obtain ⟨ga, gb, rfl⟩ := hOg.unagg2
  simp (maxSteps := 4000000) (disch := omega) only [go_sem, w64, AndB_of, IfB_of, IfB_no, pickE_of, pickE_no, ite_of, ite_no, tdivE, tmodE, takeAll, b3_0, b3_1, b3_x]
  obtain ⟨H4, eH4⟩ : ∃ H4 : AH, H4 = upd H3 n3 (.live 0 [ga, gb]) := ⟨_, rfl⟩
  rw [← eH4]
  have hOx := hOx.congr (H' := H4) fun i h1 h2 => by rw [eH4, upd_ne _ _ (by omega)]
  have hOg := hOg.congr (H' := H4) fun i h1 h2 => by rw [eH4, upd_ne _ _ (by omega)]
  have b4_0 : H4 0 = .live 0 [asksA l0.held, asksA l0.queue] := by rw [eH4, upd_ne _ _ (by omega), b3_0]
  have b4_1 : H4 1 = .live 0 [asksA w.held, asksA w.queue] := by rw [eH4, upd_ne _ _ (by omega), b3_1]
  have b4_x : H4 n1 = .live 0 [xa, xb] := by rw [eH4, upd_ne _ _ (by omega), b3_x]
  have b4_g : H4 n3 = .live 0 [ga, gb] := by rw [eH4, upd_same]
  try simp (maxSteps := 4000000) (disch := omega) only [go_sem, w64, AndB_of, IfB_of, IfB_no, pickE_of, pickE_no, ite_of, ite_no, tdivE, tmodE, takeAll, b4_0, b4_1, b4_x, b4_g]
  refine CallB.pic (Pict.cons hOg.pict (Pict.cons (Pict.pure (by simp [pureA, pureL])) Pict.nil)) (e_eqLocks w hw) rfl ?_
  try simp (maxSteps := 4000000) (disch := omega) only [go_sem, w64, AndB_of, IfB_of, IfB_no, pickE_of, pickE_no, ite_of, ite_no, tdivE, tmodE, takeAll, b4_0, b4_1, b4_x, b4_g]
  refine DrawB.intro [3] [3] (fun i => decide (n3 + 1 ≤ i)) (by kernel_rfl) ?_
  simp (maxSteps := 4000000) (disch := omega) only [go_sem, w64, AndB_of, IfB_of, IfB_no, pickE_of, pickE_no, ite_of, ite_no, tdivE, tmodE, takeAll, mask_lo (H := H4) (show 0 < n3 + 1 by omega), mask_lo (H := H4) (show n1 < n3 + 1 by omega), b4_0, b4_x]
  refine DCallB.q0 (t_toLocks l0 k0) ?_
  simp (maxSteps := 4000000) (disch := omega) only [go_sem, w64, AndB_of, IfB_of, IfB_no, pickE_of, pickE_no, ite_of, ite_no, tdivE, tmodE, takeAll, mask_lo (H := H4) (show 0 < n3 + 1 by omega), mask_lo (H := H4) (show n1 < n3 + 1 by omega), b4_0, b4_x]
  refine CallB.pic (Pict.cons hOx.pict (Pict.cons (Pict.pure (by simp [pureA, pureL])) Pict.nil)) (e_eqLocks l0 k0) rfl ?_
  try simp (maxSteps := 4000000) (disch := omega) only [go_sem, w64, AndB_of, IfB_of, IfB_no, pickE_of, pickE_no, ite_of, ite_no, tdivE, tmodE, takeAll, b4_0, b4_1, b4_x, b4_g]
  refine CallB.law (m_markLocks l0 k0 1 (by omega) (by omega) hOx (by omega)) ?_
  rintro _ H5 n5 ⟨rfl, hOm, hH5, hn5⟩
  have b5_0 : H5 0 = .live 0 [asksA l0.held, asksA l0.queue] := by rw [hH5 0 (by omega) (by omega), b4_0]
  have b5_1 : H5 1 = .live 0 [asksA w.held, asksA w.queue] := by rw [hH5 1 (by omega) (by omega), b4_1]
  have b5_g : H5 n3 = .live 0 [ga, gb] := by rw [hH5 n3 (by omega) (by omega), b4_g]
  have hOg := hOg.congr fun i h1 h2 => hH5 i (by omega) (by omega)
  simp (maxSteps := 4000000) (disch := omega) only [go_sem, w64, AndB_of, IfB_of, IfB_no, pickE_of, pickE_no, ite_of, ite_no, tdivE, tmodE, takeAll, b5_0, b5_1, b5_g]
  refine CallB.pic (Pict.cons hOg.pict (Pict.cons (Pict.pure (by simp [pureA, pureL])) Pict.nil)) (e_eqLocks w hw) rfl ?_
  simp (maxSteps := 4000000) (disch := omega) only [go_sem, w64, AndB_of, IfB_of, IfB_no, pickE_of, pickE_no, ite_of, ite_no, tdivE, tmodE, takeAll, b5_0, b5_1, b5_g]
  refine CallB.law (m_markLocks w hw 1 (by omega) (by omega) hOg (by omega)) ?_
  rintro _ H6 n6 ⟨rfl, hOg, hH6, hn6⟩
  have b6_0 : H6 0 = .live 0 [asksA l0.held, asksA l0.queue] := by rw [hH6 0 (by omega) (by omega), b5_0]
  have b6_1 : H6 1 = .live 0 [asksA w.held, asksA w.queue] := by rw [hH6 1 (by omega) (by omega), b5_1]
  have b6_g : H6 n3 = .live 0 [ga, gb] := by rw [hH6 n3 (by omega) (by omega), b5_g]
  simp (maxSteps := 4000000) (disch := omega) only [go_sem, w64, AndB_of, IfB_of, IfB_no, pickE_of, pickE_no, ite_of, ite_no, tdivE, tmodE, takeAll, b6_0, b6_1, b6_g]
  refine CallB.pic (Pict.cons hOg.pict (Pict.cons (Pict.pure rfl) Pict.nil)) (h_heldLocks w.held.length w.queue.length hw.1 hw.2 1 (by omega) (by omega)) rfl ?_
  simp (maxSteps := 4000000) (disch := omega) only [go_sem, w64, AndB_of, IfB_of, IfB_no, pickE_of, pickE_no, ite_of, ite_no, tdivE, tmodE, takeAll, b6_0, b6_1, b6_g]
  refine CallB.q (t_toLocks l0 k0) ?_
  simp (maxSteps := 4000000) (disch := omega) only [go_sem, w64, AndB_of, IfB_of, IfB_no, pickE_of, pickE_no, ite_of, ite_no, tdivE, tmodE, takeAll, b6_0, b6_1, b6_g]
  refine CallB.q (QCall.own (by simp [pureL, pureA]) qI) ?_
  simp (maxSteps := 4000000) (disch := omega) only [go_sem, w64, AndB_of, IfB_of, IfB_no, pickE_of, pickE_no, ite_of, ite_no, tdivE, tmodE, takeAll, b6_0, b6_1, b6_g]
  refine CallB.q (e_eqLocks w hw) ?_
  simp (maxSteps := 4000000) (disch := omega) only [go_sem, w64, AndB_of, IfB_of, IfB_no, pickE_of, pickE_no, ite_of, ite_no, tdivE, tmodE, takeAll, b6_0, b6_1, b6_g]
  refine CallB.pic (Pict.cons (hOg.congr (H' := upd H6 n6 (.live 0 [asksA w.held, asksA w.queue])) fun i h1 h2 => upd_ne _ _ (by omega)).pict (Pict.cons (Pict.pure rfl) Pict.nil)) (h_heldLocks w.held.length w.queue.length hw.1 hw.2 1 (by omega) (by omega)) rfl ?_
  simp (maxSteps := 4000000) (disch := omega) only [go_sem, w64, AndB_of, IfB_of, IfB_no, pickE_of, pickE_no, ite_of, ite_no, tdivE, tmodE, takeAll, b6_0, b6_1, b6_g]
end Go.TH
