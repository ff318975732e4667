/- TH: the law FnExactLockAsk. Made by gen.py. -/
import Derived.Test.YtolcdfglmcgedaaTf3
import Derived.Test.YtolcdfglmcgedaaTdlkm
import Derived.Test.YtolcdfglmcgedaaTf4
namespace Go.TH
open Go Go.Proofs
set_option linter.unusedSimpArgs false
set_option linter.unusedVariables false
set_option maxHeartbeats 20000000
set_option maxRecDepth 100000
theorem w_ExactLockAsk (l0 : GLk) (h0 : LkBL l0) (l1 : GAk) (h1 : True) :
    CallQ Try.prog 6 [.agg [asksA l0.held, asksA l0.queue], .agg [.int .i64 l1.who, .int .i64 l1.key, .int .i64 l1.kind]] noH 0 fun r _ _ => r = .bool true := by
  refine callQ_body mixed Try.func6 _ (by unfold Try.f6; rfl) Try.ntmps6 Try.results6 (by decide) (by simp) ?_
  simp (maxSteps := 4000000) (disch := omega) only [go_sem, w64, AndB_of, IfB_of, IfB_no, pickE_of, pickE_no, ite_of, ite_no, tdivE, tmodE, takeAll]
  obtain ⟨_, ⟨r0, rfl, hr0, hs0⟩, hq0⟩ := x_szLocks l0 1048576 (by omega) (by omega) h0
  apply CallB.q hq0
  simp (maxSteps := 4000000) (disch := omega) only [go_sem, w64, AndB_of, IfB_of, IfB_no, pickE_of, pickE_no, ite_of, ite_no, tdivE, tmodE, takeAll]
  refine IfB.dec (fun h => ?_) (fun g0 => ?_)
  · simp (maxSteps := 4000000) (disch := omega) only [go_sem, w64, AndB_of, IfB_of, IfB_no, pickE_of, pickE_no, ite_of, ite_no, tdivE, tmodE, takeAll]
  simp (maxSteps := 4000000) (disch := omega) only [go_sem, w64, AndB_of, IfB_of, IfB_no, pickE_of, pickE_no, ite_of, ite_no, tdivE, tmodE, takeAll]
  have k0 := hs0 (by omega)
  have kb1 := k0.1
  have kb2 := k0.2
  obtain ⟨w, hww⟩ : ∃ w, w = lockAsk l0 l1 := ⟨_, rfl⟩
  have hw : LkB w.1 := by rw [hww]; exact lockAsk_b
  have hw1 := hw.1
  have hw2 := hw.2
  have qS := QCall.own (by simp [pureL, pureA]) (o_LockAskS2 l0 k0.1 k0.2 l1)
  have qI := o_LockAskI2 l0 k0.1 k0.2 l1
  rw [← hww] at qS qI
  have qJ := QCall.own (by simp [pureL, pureA]) (qI.mono fun _ _ _ h => h.1)
  refine DrawB.floatF [9] [7, 9, 10] 9 8 [.sl 0 true [], .sl 0 true []] (inN 2 2) (by kernel_rfl) (by simp [inN]) ?_
  simp (maxSteps := 4000000) (disch := omega) only [go_sem, w64, AndB_of, IfB_of, IfB_no, pickE_of, pickE_no, ite_of, ite_no, tdivE, tmodE, takeAll]
  refine DCallB.q0 (t_toLocks l0 k0) ?_
  simp (maxSteps := 4000000) (disch := omega) only [go_sem, w64, AndB_of, IfB_of, IfB_no, pickE_of, pickE_no, ite_of, ite_no, tdivE, tmodE, takeAll]
  refine DCallB.q0 (t_toAsk l1) ?_
  simp (maxSteps := 4000000) (disch := omega) only [go_sem, w64, AndB_of, IfB_of, IfB_no, pickE_of, pickE_no, ite_of, ite_no, tdivE, tmodE, takeAll]
  refine DCallB.q0 qS ?_
  simp (maxSteps := 4000000) (disch := omega) only [go_sem, w64, AndB_of, IfB_of, IfB_no, pickE_of, pickE_no, ite_of, ite_no, tdivE, tmodE, takeAll]
  refine CallB.freshD (Pict.cons (Pict.pure (by simp [pureA, pureL])) Pict.nil) (o_toLocks l0 k0) fun x0 H1 n1 hOx hn1 hH1 hD1 => ?_
  have b1_0 : H1 0 = .live 0 [asksA l0.held, asksA l0.queue] := by rw [hH1 0 (by omega)]; rfl
  have b1_a : H1 1 = .live 0 [.int .i64 l1.who, .int .i64 l1.key, .int .i64 l1.kind] := by rw [hH1 1 (by omega)]; rfl
  have b1_w : H1 2 = .live 1 [asksA w.1.held, asksA w.1.queue] := by rw [hH1 2 (by omega)]; rfl
  obtain ⟨xa, xb, rfl⟩ := hOx.unagg2
  simp (maxSteps := 4000000) (disch := omega) only [go_sem, w64, AndB_of, IfB_of, IfB_no, pickE_of, pickE_no, ite_of, ite_no, tdivE, tmodE, takeAll, b1_0, b1_a, b1_w]
  obtain ⟨H2, eH2⟩ : ∃ H2 : AH, H2 = upd H1 n1 (.live 0 [xa, xb]) := ⟨_, rfl⟩
  rw [← eH2]
  have hOx := hOx.congr (H' := H2) fun i h1 h2 => by rw [eH2, upd_ne _ _ (by omega)]
  have b2_0 : H2 0 = .live 0 [asksA l0.held, asksA l0.queue] := by rw [eH2, upd_ne _ _ (by omega), b1_0]
  have b2_a : H2 1 = .live 0 [.int .i64 l1.who, .int .i64 l1.key, .int .i64 l1.kind] := by rw [eH2, upd_ne _ _ (by omega), b1_a]
  have b2_w : H2 2 = .live 1 [asksA w.1.held, asksA w.1.queue] := by rw [eH2, upd_ne _ _ (by omega), b1_w]
  have b2_x : H2 n1 = .live 0 [xa, xb] := by rw [eH2, upd_same]
  have d2 : H2 (n1 + 1) = .dead := by rw [eH2, upd_ne _ _ (by omega), hD1 _ (by omega)]; repeat (first | rfl | rw [upd_ne _ _ (by omega)])
  refine DrawB.floatF [3, 8] [6, 8, 9] 8 7 [.sl 0 true [], .sl 0 true []] (fun i => decide (n1 + 1 ≤ i)) (by kernel_rfl) (by simp) ?_
  have mk0 := mask_lo (H := H2) (show 0 < n1 + 1 by omega)
  have mk1 := mask_lo (H := H2) (show 1 < n1 + 1 by omega)
  have mkx := mask_lo (H := H2) (show n1 < n1 + 1 by omega)
  simp (maxSteps := 4000000) (disch := omega) only [go_sem, w64, AndB_of, IfB_of, IfB_no, pickE_of, pickE_no, ite_of, ite_no, tdivE, tmodE, takeAll, mk0, mk1, mkx, b2_0, b2_a, b2_x]
  refine DCallB.q0 (t_toAsk l1) ?_
  simp (maxSteps := 4000000) (disch := omega) only [go_sem, w64, AndB_of, IfB_of, IfB_no, pickE_of, pickE_no, ite_of, ite_no, tdivE, tmodE, takeAll, mk0, mk1, mkx, b2_0, b2_a, b2_x]
  refine FCallB.freshS (fun b => Pict.cons (hOx.congr (H' := upd H2 (n1 + 1) (zB _ b)) fun i h1 h2 => upd_ne _ _ (by omega)).pict (Pict.cons (Pict.pure (by simp [pureA, pureL])) Pict.nil)) (by simp) d2 qI fun g0 H3 n3 hOt hsg hn3 hH3 => ?_
  have hn3' : n1 + 2 ≤ n3 := hn3
  have hH3' : ∀ i, i < n1 + 2 → H3 i = H2 i := hH3
  clear hn3 hH3
  replace hOt : OwnR H3 (n1 + 2) n3 (.tup [.agg [asksA w.1.held, asksA w.1.queue], .bool w.2]) g0 := hOt
  obtain ⟨g0, rfl, hOg⟩ := hOt.tup2 rfl
  obtain ⟨ga, gb, rfl⟩ := hOg.unagg2
  have em := mask_same (n := n1 + 1) (H := H2) (H2 := H3) fun i hi => hH3' i (by omega)
  have hOx := hOx.congr fun i h1 h2 => hH3' i (by omega)
  have b3_0 : H3 0 = .live 0 [asksA l0.held, asksA l0.queue] := by rw [hH3' 0 (by omega), b2_0]
  have b3_a : H3 1 = .live 0 [.int .i64 l1.who, .int .i64 l1.key, .int .i64 l1.kind] := by rw [hH3' 1 (by omega), b2_a]
  have b3_w : H3 2 = .live 1 [asksA w.1.held, asksA w.1.queue] := by rw [hH3' 2 (by omega), b2_w]
  have b3_x : H3 n1 = .live 0 [xa, xb] := by rw [hH3' n1 (by omega), b2_x]
  simp (maxSteps := 4000000) (disch := omega) only [go_sem, w64, AndB_of, IfB_of, IfB_no, pickE_of, pickE_no, ite_of, ite_no, tdivE, tmodE, takeAll, em, mk0, mk1, mkx, b2_0, b2_a, b2_x, b3_0, b3_a, b3_w, b3_x]
  obtain ⟨H4, eH4⟩ : ∃ H4 : AH, H4 = upd H3 (n1 + 1) (.live 1 [ga, gb]) := ⟨_, rfl⟩
  rw [← eH4]
  have hOx := hOx.congr (H' := H4) fun i h1 h2 => by rw [eH4, upd_ne _ _ (by omega)]
  have hOg := hOg.congr (H' := H4) fun i h1 h2 => by rw [eH4, upd_ne _ _ (by omega)]
  have b4_0 : H4 0 = .live 0 [asksA l0.held, asksA l0.queue] := by rw [eH4, upd_ne _ _ (by omega), b3_0]
  have b4_a : H4 1 = .live 0 [.int .i64 l1.who, .int .i64 l1.key, .int .i64 l1.kind] := by rw [eH4, upd_ne _ _ (by omega), b3_a]
  have b4_w : H4 2 = .live 1 [asksA w.1.held, asksA w.1.queue] := by rw [eH4, upd_ne _ _ (by omega), b3_w]
  have b4_x : H4 n1 = .live 0 [xa, xb] := by rw [eH4, upd_ne _ _ (by omega), b3_x]
  have b4_g : H4 (n1 + 1) = .live 1 [ga, gb] := by rw [eH4, upd_same]
  try simp (maxSteps := 4000000) (disch := omega) only [go_sem, w64, AndB_of, IfB_of, IfB_no, pickE_of, pickE_no, ite_of, ite_no, tdivE, tmodE, takeAll, b4_0, b4_a, b4_w, b4_x, b4_g]
  refine CallB.pic (Pict.cons hOg.pict (Pict.cons (Pict.pure (by simp [pureA, pureL])) Pict.nil)) (e_eqLocks w.1 hw) rfl ?_
  try simp (maxSteps := 4000000) (disch := omega) only [go_sem, w64, AndB_of, IfB_of, IfB_no, pickE_of, pickE_no, ite_of, ite_no, tdivE, tmodE, takeAll, b4_0, b4_a, b4_w, b4_x, b4_g]
  refine DrawB.intro [3] [3] (fun i => decide (n3 ≤ i)) (by kernel_rfl) ?_
  simp (maxSteps := 4000000) (disch := omega) only [go_sem, w64, AndB_of, IfB_of, IfB_no, pickE_of, pickE_no, ite_of, ite_no, tdivE, tmodE, takeAll, mask_lo (H := H4) (show 0 < n3 by omega), mask_lo (H := H4) (show n1 < n3 by omega), b4_0, b4_x]
  refine DCallB.q0 (t_toLocks l0 k0) ?_
  simp (maxSteps := 4000000) (disch := omega) only [go_sem, w64, AndB_of, IfB_of, IfB_no, pickE_of, pickE_no, ite_of, ite_no, tdivE, tmodE, takeAll, mask_lo (H := H4) (show 0 < n3 by omega), mask_lo (H := H4) (show n1 < n3 by omega), b4_0, b4_x]
  refine CallB.pic (Pict.cons hOx.pict (Pict.cons (Pict.pure (by simp [pureA, pureL])) Pict.nil)) (e_eqLocks l0 k0) rfl ?_
  try simp (maxSteps := 4000000) (disch := omega) only [go_sem, w64, AndB_of, IfB_of, IfB_no, pickE_of, pickE_no, ite_of, ite_no, tdivE, tmodE, takeAll, b4_0, b4_a, b4_w, b4_x, b4_g]
  refine CallB.law (m_markLocks l0 k0 1 (by omega) (by omega) hOx (by omega)) ?_
  rintro _ H5 n5 ⟨rfl, hOm, hH5, hn5⟩
  have b5_0 : H5 0 = .live 0 [asksA l0.held, asksA l0.queue] := by rw [hH5 0 (by omega) (by omega), b4_0]
  have b5_a : H5 1 = .live 0 [.int .i64 l1.who, .int .i64 l1.key, .int .i64 l1.kind] := by rw [hH5 1 (by omega) (by omega), b4_a]
  have b5_w : H5 2 = .live 1 [asksA w.1.held, asksA w.1.queue] := by rw [hH5 2 (by omega) (by omega), b4_w]
  have b5_g : H5 (n1 + 1) = .live 1 [ga, gb] := by rw [hH5 (n1 + 1) (by omega) (by omega), b4_g]
  have hOg := hOg.congr fun i h1 h2 => hH5 i (by omega) (by omega)
  simp (maxSteps := 4000000) (disch := omega) only [go_sem, w64, AndB_of, IfB_of, IfB_no, pickE_of, pickE_no, ite_of, ite_no, tdivE, tmodE, takeAll, b5_0, b5_a, b5_w, b5_g]
  refine CallB.pic (Pict.cons hOg.pict (Pict.cons (Pict.pure (by simp [pureA, pureL])) Pict.nil)) (e_eqLocks w.1 hw) rfl ?_
  simp (maxSteps := 4000000) (disch := omega) only [go_sem, w64, AndB_of, IfB_of, IfB_no, pickE_of, pickE_no, ite_of, ite_no, tdivE, tmodE, takeAll, b5_0, b5_a, b5_w, b5_g]
  refine CallB.law (m_markLocks w.1 hw 1 (by omega) (by omega) hOg (by omega)) ?_
  rintro _ H6 n6 ⟨rfl, hOg, hH6, hn6⟩
  have b6_0 : H6 0 = .live 0 [asksA l0.held, asksA l0.queue] := by rw [hH6 0 (by omega) (by omega), b5_0]
  have b6_a : H6 1 = .live 0 [.int .i64 l1.who, .int .i64 l1.key, .int .i64 l1.kind] := by rw [hH6 1 (by omega) (by omega), b5_a]
  have b6_w : H6 2 = .live 1 [asksA w.1.held, asksA w.1.queue] := by rw [hH6 2 (by omega) (by omega), b5_w]
  have b6_g : H6 (n1 + 1) = .live 1 [ga, gb] := by rw [hH6 (n1 + 1) (by omega) (by omega), b5_g]
  simp (maxSteps := 4000000) (disch := omega) only [go_sem, w64, AndB_of, IfB_of, IfB_no, pickE_of, pickE_no, ite_of, ite_no, tdivE, tmodE, takeAll, b6_0, b6_a, b6_w, b6_g]
  refine CallB.pic (Pict.cons hOg.pict (Pict.cons (Pict.pure rfl) Pict.nil)) (h_heldLocks w.1.held.length w.1.queue.length hw.1 hw.2 1 (by omega) (by omega)) rfl ?_
  simp (maxSteps := 4000000) (disch := omega) only [go_sem, w64, AndB_of, IfB_of, IfB_no, pickE_of, pickE_no, ite_of, ite_no, tdivE, tmodE, takeAll, b6_0, b6_a, b6_w, b6_g]
  refine DrawB.floatF [9] [7, 9, 10] 9 8 [.sl 0 true [], .sl 0 true []] (fun i => decide (n6 ≤ i)) (by kernel_rfl) (by simp) ?_
  have mj0 := mask_lo (H := H6) (show 0 < n6 by omega)
  have mj1 := mask_lo (H := H6) (show 1 < n6 by omega)
  simp (maxSteps := 4000000) (disch := omega) only [go_sem, w64, AndB_of, IfB_of, IfB_no, pickE_of, pickE_no, ite_of, ite_no, tdivE, tmodE, takeAll, mj0, mj1, b6_0, b6_a]
  refine DCallB.q0 (t_toLocks l0 k0) ?_
  simp (maxSteps := 4000000) (disch := omega) only [go_sem, w64, AndB_of, IfB_of, IfB_no, pickE_of, pickE_no, ite_of, ite_no, tdivE, tmodE, takeAll, mj0, mj1, b6_0, b6_a]
  refine DCallB.q0 (t_toAsk l1) ?_
  simp (maxSteps := 4000000) (disch := omega) only [go_sem, w64, AndB_of, IfB_of, IfB_no, pickE_of, pickE_no, ite_of, ite_no, tdivE, tmodE, takeAll, mj0, mj1, b6_0, b6_a]
  refine DCallB.q0 qJ ?_
  simp (maxSteps := 4000000) (disch := omega) only [go_sem, w64, AndB_of, IfB_of, IfB_no, pickE_of, pickE_no, ite_of, ite_no, tdivE, tmodE, takeAll, mj0, mj1, b6_0, b6_a, b6_w, b6_g]
  refine CallB.q (e_eqLocks w.1 hw) ?_
  simp (maxSteps := 4000000) (disch := omega) only [go_sem, w64, AndB_of, IfB_of, IfB_no, pickE_of, pickE_no, ite_of, ite_no, tdivE, tmodE, takeAll, b6_0, b6_a, b6_w, b6_g]
  refine CallB.pic (Pict.cons (hOg.congr (H' := upd H6 n6 (.live 1 [asksA w.1.held, asksA w.1.queue])) fun i h1 h2 => upd_ne _ _ (by omega)).pict (Pict.cons (Pict.pure rfl) Pict.nil)) (h_heldLocks w.1.held.length w.1.queue.length hw.1 hw.2 1 (by omega) (by omega)) rfl ?_
  simp (maxSteps := 4000000) (disch := omega) only [go_sem, w64, AndB_of, IfB_of, IfB_no, pickE_of, pickE_no, ite_of, ite_no, tdivE, tmodE, takeAll, b6_0, b6_a, b6_w, b6_g]
end Go.TH
