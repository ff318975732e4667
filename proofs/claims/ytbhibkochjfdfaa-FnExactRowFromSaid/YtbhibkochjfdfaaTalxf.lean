/- TH: the law FnExactRowFrom. Made by mlaw.py and gen.py. -/
import Derived.Test.YtbhibkochjfdfaaTf3
import Derived.Test.YtbhibkochjfdfaaTabm
namespace Go.TH
open Go Go.Proofs
set_option linter.unusedSimpArgs false
set_option linter.unusedVariables false
set_option maxHeartbeats 20000000
set_option maxRecDepth 100000
theorem w_ExactRowFrom (l0 : List UInt8) (h0 : l0.length ≤ 9223372036854775807) :
    CallQ Try.prog 10 [bysF l0] noH 0 fun r _ _ => r = .bool true := by
  refine callQ_body mixed Try.func10 _ (by unfold Try.f10; rfl) Try.ntmps10 Try.results10 (by decide) (by simp) ?_
  simp (maxSteps := 4000000) (disch := omega) only [go_sem, w64, AndB_of, IfB_of, IfB_no, pickE_of, pickE_no, ite_of, ite_no, tdivE, tmodE, takeAll]
  refine IfB.dec (fun h => ?_) (fun g0 => ?_)
  · simp (maxSteps := 4000000) (disch := omega) only [go_sem, w64, AndB_of, IfB_of, IfB_no, pickE_of, pickE_no, ite_of, ite_no, tdivE, tmodE, takeAll]
  simp (maxSteps := 4000000) (disch := omega) only [go_sem, w64, AndB_of, IfB_of, IfB_no, pickE_of, pickE_no, ite_of, ite_no, tdivE, tmodE, takeAll]
  have k0 : l0.length ≤ 1048576 := by omega
  obtain ⟨w, hww⟩ : ∃ w, w = (rowFrom l0).1 := ⟨_, rfl⟩
  obtain ⟨w2, hww2⟩ : ∃ w, w = (rowFrom l0).2 := ⟨_, rfl⟩
  have hw : w.length ≤ 1048576 ∧ ∀ v ∈ w, VB v := by
    rw [hww]
    exact ⟨Nat.le_trans rowFrom_len.1 (by omega), fun v hv => by have := okN (rowFrom_ok v hv); unfold VB; omega⟩
  have hwl := hw.1
  have hw3 : w2 ≤ 33 := by rw [hww2]; exact rowFrom_len.2
  have qS := q_RowFromS l0 (by omega)
  have qI := f_RowFromI l0 (by omega)
  rw [← hww, ← hww2, bysA_F] at qS qI
  try (refine DrawB.quiet (by kernel_rfl) ?_; simp (maxSteps := 4000000) (disch := omega) only [go_sem, w64, AndB_of, IfB_of, IfB_no, pickE_of, pickE_no, ite_of, ite_no, tdivE, tmodE, takeAll])
  first | refine CallB.q (t_toByteS l0 k0) ?_ | refine DCallB.q0 (t_toByteS l0 k0) ?_
  simp (maxSteps := 4000000) (disch := omega) only [go_sem, w64, AndB_of, IfB_of, IfB_no, pickE_of, pickE_no, ite_of, ite_no, tdivE, tmodE, takeAll]
  first | refine CallB.q (qS) ?_ | refine DCallB.q0 (qS) ?_
  simp (maxSteps := 4000000) (disch := omega) only [go_sem, w64, AndB_of, IfB_of, IfB_no, pickE_of, pickE_no, ite_of, ite_no, tdivE, tmodE, takeAll]
  refine CallB.fresh (Pict.cons (Pict.pure (by simp [pureA, pureL])) Pict.nil) (o_toByteS l0 k0) fun x0 H1 n1 hOx0 hn1 hH1 => ?_
  simp (maxSteps := 4000000) (disch := omega) only [go_sem, w64, AndB_of, IfB_of, IfB_no, pickE_of, pickE_no, ite_of, ite_no, tdivE, tmodE, takeAll]
  try (refine DrawB.quiet (by kernel_rfl) ?_; simp (maxSteps := 4000000) (disch := omega) only [go_sem, w64, AndB_of, IfB_of, IfB_no, pickE_of, pickE_no, ite_of, ite_no, tdivE, tmodE, takeAll])
  refine CallB.fresh (Pict.cons hOx0.pict Pict.nil) qI fun g0 H2 n2 hOt hn2 hH2 => ?_
  obtain ⟨g0, rfl, hOg⟩ := hOt.tup2 rfl
  have hOx0 := hOx0.congr fun i h1 h2 => hH2 i (by omega)
  simp (maxSteps := 4000000) (disch := omega) only [go_sem, w64, AndB_of, IfB_of, IfB_no, pickE_of, pickE_no, ite_of, ite_no, tdivE, tmodE, takeAll]
  try (refine DrawB.quiet (by kernel_rfl) ?_; simp (maxSteps := 4000000) (disch := omega) only [go_sem, w64, AndB_of, IfB_of, IfB_no, pickE_of, pickE_no, ite_of, ite_no, tdivE, tmodE, takeAll])
  refine CallB.pic (Pict.cons hOg.pict (Pict.cons (Pict.pure (by simp [pureA, pureL])) Pict.nil)) (e_eqValueS w hw) rfl ?_
  simp (maxSteps := 4000000) (disch := omega) only [go_sem, w64, AndB_of, IfB_of, IfB_no, pickE_of, pickE_no, ite_of, ite_no, tdivE, tmodE, takeAll]
  try (refine DrawB.quiet (by kernel_rfl) ?_; simp (maxSteps := 4000000) (disch := omega) only [go_sem, w64, AndB_of, IfB_of, IfB_no, pickE_of, pickE_no, ite_of, ite_no, tdivE, tmodE, takeAll])
  first | refine CallB.q (t_toByteS l0 k0) ?_ | refine DCallB.q0 (t_toByteS l0 k0) ?_
  simp (maxSteps := 4000000) (disch := omega) only [go_sem, w64, AndB_of, IfB_of, IfB_no, pickE_of, pickE_no, ite_of, ite_no, tdivE, tmodE, takeAll]
  refine CallB.pic (Pict.cons hOx0.pict (Pict.cons (Pict.pure (by simp [pureA, pureL])) Pict.nil)) (e_eqByteS l0 k0) rfl ?_
  simp (maxSteps := 4000000) (disch := omega) only [go_sem, w64, AndB_of, IfB_of, IfB_no, pickE_of, pickE_no, ite_of, ite_no, tdivE, tmodE, takeAll]
  refine CallB.law (m_markByteS l0 (by first | exact k0 | exact k0.1) (1) (by omega) (by omega) hOx0) ?_
  rintro _ H3 n3 ⟨rfl, hOm0, hH3, rfl⟩
  have hOg := hOg.congr fun i h1 h2 => hH3 i (by omega)
  simp (maxSteps := 4000000) (disch := omega) only [go_sem, w64, AndB_of, IfB_of, IfB_no, pickE_of, pickE_no, ite_of, ite_no, tdivE, tmodE, takeAll]
  try (refine DrawB.quiet (by kernel_rfl) ?_; simp (maxSteps := 4000000) (disch := omega) only [go_sem, w64, AndB_of, IfB_of, IfB_no, pickE_of, pickE_no, ite_of, ite_no, tdivE, tmodE, takeAll])
  refine CallB.pic (Pict.cons hOg.pict (Pict.cons (Pict.pure (by simp [pureA, pureL])) Pict.nil)) (e_eqValueS w hw) rfl ?_
  simp (maxSteps := 4000000) (disch := omega) only [go_sem, w64, AndB_of, IfB_of, IfB_no, pickE_of, pickE_no, ite_of, ite_no, tdivE, tmodE, takeAll]
  refine CallB.law (m_markValueS w hwl 1 (by omega) (by omega) hOg) ?_
  rintro _ H4 n4 ⟨rfl, hOg, hH4, rfl⟩
  simp (maxSteps := 4000000) (disch := omega) only [go_sem, w64, AndB_of, IfB_of, IfB_no, pickE_of, pickE_no, ite_of, ite_no, tdivE, tmodE, takeAll]
  refine CallB.pic (Pict.cons hOg.pict (Pict.cons (Pict.pure rfl) Pict.nil)) (h_heldValueS w.length hwl 1 (by omega) (by omega)) rfl ?_
  simp (maxSteps := 4000000) (disch := omega) only [go_sem, w64, AndB_of, IfB_of, IfB_no, pickE_of, pickE_no, ite_of, ite_no, tdivE, tmodE, takeAll]
  try (refine DrawB.quiet (by kernel_rfl) ?_; simp (maxSteps := 4000000) (disch := omega) only [go_sem, w64, AndB_of, IfB_of, IfB_no, pickE_of, pickE_no, ite_of, ite_no, tdivE, tmodE, takeAll])
  first | refine CallB.q (t_toByteS l0 k0) ?_ | refine DCallB.q0 (t_toByteS l0 k0) ?_
  simp (maxSteps := 4000000) (disch := omega) only [go_sem, w64, AndB_of, IfB_of, IfB_no, pickE_of, pickE_no, ite_of, ite_no, tdivE, tmodE, takeAll]
  first | refine CallB.q ((QCall.own (by simp [pureL, pureA]) qI)) ?_ | refine DCallB.q0 ((QCall.own (by simp [pureL, pureA]) qI)) ?_
  simp (maxSteps := 4000000) (disch := omega) only [go_sem, w64, AndB_of, IfB_of, IfB_no, pickE_of, pickE_no, ite_of, ite_no, tdivE, tmodE, takeAll]
  try (refine DrawB.quiet (by kernel_rfl) ?_; simp (maxSteps := 4000000) (disch := omega) only [go_sem, w64, AndB_of, IfB_of, IfB_no, pickE_of, pickE_no, ite_of, ite_no, tdivE, tmodE, takeAll])
  first | refine CallB.q (e_eqValueS w hw) ?_ | refine DCallB.q0 (e_eqValueS w hw) ?_
  simp (maxSteps := 4000000) (disch := omega) only [go_sem, w64, AndB_of, IfB_of, IfB_no, pickE_of, pickE_no, ite_of, ite_no, tdivE, tmodE, takeAll]
  refine CallB.pic (Pict.cons hOg.pict (Pict.cons (Pict.pure rfl) Pict.nil)) (h_heldValueS w.length hwl 1 (by omega) (by omega)) rfl ?_
  simp (maxSteps := 4000000) (disch := omega) only [go_sem, w64, AndB_of, IfB_of, IfB_no, pickE_of, pickE_no, ite_of, ite_no, tdivE, tmodE, takeAll]
theorem wb_ExactRowFrom (s : ByteArray) (hs : s.size ≤ 9223372036854775807) : CallQ Try.prog 10 [.sl s.size false (bytesCells s)] noH 0 fun r _ _ => r = .bool true := by
  have h := w_ExactRowFrom s.data.toList (by rw [size_len]; exact hs)
  unfold bysF at h
  rw [size_len, ← bts_flat, ← bts_cells] at h
  exact h
end Go.TH
