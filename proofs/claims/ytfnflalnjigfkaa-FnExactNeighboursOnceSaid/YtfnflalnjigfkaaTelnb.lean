/- TH: the law FnExactNeighboursOnce. Made by mlaw.py and gen.py. -/
import Derived.Test.YtfnflalnjigfkaaTf3
import Derived.Test.YtfnflalnjigfkaaTenb
namespace Go.TH
open Go Go.Proofs
set_option linter.unusedSimpArgs false
set_option linter.unusedVariables false
set_option maxHeartbeats 20000000
set_option maxRecDepth 100000
theorem w_ExactNeighboursOnce (l0 : List GRow) (h0 : (l0.length ≤ 9223372036854775807 ∧ ∀ r ∈ l0, r.length ≤ 9223372036854775807 ∧ ∀ x ∈ r, x.s.size ≤ 9223372036854775807)) :
    CallQ Try.prog 3 [rowsA l0] noH 0 fun r _ _ => r = .bool true := by
  refine callQ_body mixed Try.func3 _ (by unfold Try.f3; rfl) Try.ntmps3 Try.results3 (by decide) (by simp) ?_
  simp (maxSteps := 4000000) (disch := omega) only [go_sem, w64, AndB_of, IfB_of, IfB_no, pickE_of, pickE_no, ite_of, ite_no, tdivE, tmodE, takeAll]
  obtain ⟨_, ⟨r0, rfl, hr0, hs0⟩, hq0⟩ := x_szValueSS l0 1048576 (by omega) (by omega) h0
  apply CallB.q hq0
  simp (maxSteps := 4000000) (disch := omega) only [go_sem, w64, AndB_of, IfB_of, IfB_no, pickE_of, pickE_no, ite_of, ite_no, tdivE, tmodE, takeAll]
  refine IfB.dec (fun h => ?_) (fun g0 => ?_)
  · simp (maxSteps := 4000000) (disch := omega) only [go_sem, w64, AndB_of, IfB_of, IfB_no, pickE_of, pickE_no, ite_of, ite_no, tdivE, tmodE, takeAll]
  simp (maxSteps := 4000000) (disch := omega) only [go_sem, w64, AndB_of, IfB_of, IfB_no, pickE_of, pickE_no, ite_of, ite_no, tdivE, tmodE, takeAll]
  have k0 := hs0 (by omega)
  have ks : ∀ r ∈ l0, r.length ≤ 1048576 ∧ ∀ x ∈ r, x.s.size ≤ 9223372036854775807 := fun r hr => ⟨(k0.2 r hr).1, fun x hx => by have := (k0.2 r hr).2 x hx; unfold VB at this; omega⟩
  have kn0 : l0.length ≤ 1048576 ∧ ∀ v ∈ l0, v.length ≤ 1048576 := ⟨k0.1, fun v hv => (k0.2 v hv).1⟩
  obtain ⟨w, hww⟩ : ∃ w, w = nbOnce l0 := ⟨_, rfl⟩
  have hw : w.length ≤ 1048576 ∧ ∀ r ∈ w, r.length ≤ 1048576 ∧ ∀ x ∈ r, VB x := by
    rw [hww]
    unfold nbOnce
    split
    · exact ⟨Nat.le_trans (nbK_len _ _) k0.1, fun r hr => k0.2 r (nbK_mem r hr)⟩
    · simp
  have hwn : w.length ≤ 1048576 ∧ ∀ v ∈ w, v.length ≤ 1048576 := ⟨hw.1, fun v hv => (hw.2 v hv).1⟩
  have hns : (w.map fun v => v.length).length ≤ 1048576 ∧ ∀ n ∈ w.map fun v => v.length, n ≤ 1048576 := ⟨by simp; exact hw.1, fun n hn => by obtain ⟨v, hv, rfl⟩ := List.mem_map.1 hn; exact hwn.2 v hv⟩
  have qS := q_NeighboursOnceS l0 k0.1 ks
  have qI := f_NeighboursOnceI l0 k0.1 ks
  rw [← hww] at qS qI
  try (refine DrawB.quiet (by kernel_rfl) ?_; simp (maxSteps := 4000000) (disch := omega) only [go_sem, w64, AndB_of, IfB_of, IfB_no, pickE_of, pickE_no, ite_of, ite_no, tdivE, tmodE, takeAll])
  first | refine CallB.q (t_toValueSS l0 k0) ?_ | refine DCallB.q0 (t_toValueSS l0 k0) ?_
  simp (maxSteps := 4000000) (disch := omega) only [go_sem, w64, AndB_of, IfB_of, IfB_no, pickE_of, pickE_no, ite_of, ite_no, tdivE, tmodE, takeAll]
  first | refine CallB.q (qS) ?_ | refine DCallB.q0 (qS) ?_
  simp (maxSteps := 4000000) (disch := omega) only [go_sem, w64, AndB_of, IfB_of, IfB_no, pickE_of, pickE_no, ite_of, ite_no, tdivE, tmodE, takeAll]
  refine CallB.fresh (Pict.cons (Pict.pure (by simp [pureA, pureL])) Pict.nil) (o_toValueSS l0 k0) fun x0 H1 n1 hOx0 hn1 hH1 => ?_
  simp (maxSteps := 4000000) (disch := omega) only [go_sem, w64, AndB_of, IfB_of, IfB_no, pickE_of, pickE_no, ite_of, ite_no, tdivE, tmodE, takeAll]
  try (refine DrawB.quiet (by kernel_rfl) ?_; simp (maxSteps := 4000000) (disch := omega) only [go_sem, w64, AndB_of, IfB_of, IfB_no, pickE_of, pickE_no, ite_of, ite_no, tdivE, tmodE, takeAll])
  refine CallB.fresh (Pict.cons hOx0.pict Pict.nil) qI fun g0 H2 n2 hOg hn2 hH2 => ?_
  have hOx0 := hOx0.congr fun i h1 h2 => hH2 i (by omega)
  simp (maxSteps := 4000000) (disch := omega) only [go_sem, w64, AndB_of, IfB_of, IfB_no, pickE_of, pickE_no, ite_of, ite_no, tdivE, tmodE, takeAll]
  try (refine DrawB.quiet (by kernel_rfl) ?_; simp (maxSteps := 4000000) (disch := omega) only [go_sem, w64, AndB_of, IfB_of, IfB_no, pickE_of, pickE_no, ite_of, ite_no, tdivE, tmodE, takeAll])
  refine CallB.pic (Pict.cons hOg.pict (Pict.cons (Pict.pure (by simp [pureA, pureL])) Pict.nil)) (e_eqValueSS w hw) rfl ?_
  simp (maxSteps := 4000000) (disch := omega) only [go_sem, w64, AndB_of, IfB_of, IfB_no, pickE_of, pickE_no, ite_of, ite_no, tdivE, tmodE, takeAll]
  try (refine DrawB.quiet (by kernel_rfl) ?_; simp (maxSteps := 4000000) (disch := omega) only [go_sem, w64, AndB_of, IfB_of, IfB_no, pickE_of, pickE_no, ite_of, ite_no, tdivE, tmodE, takeAll])
  first | refine CallB.q (t_toValueSS l0 k0) ?_ | refine DCallB.q0 (t_toValueSS l0 k0) ?_
  simp (maxSteps := 4000000) (disch := omega) only [go_sem, w64, AndB_of, IfB_of, IfB_no, pickE_of, pickE_no, ite_of, ite_no, tdivE, tmodE, takeAll]
  refine CallB.pic (Pict.cons hOx0.pict (Pict.cons (Pict.pure (by simp [pureA, pureL])) Pict.nil)) (e_eqValueSS l0 k0) rfl ?_
  simp (maxSteps := 4000000) (disch := omega) only [go_sem, w64, AndB_of, IfB_of, IfB_no, pickE_of, pickE_no, ite_of, ite_no, tdivE, tmodE, takeAll]
  have hc0 := cntRo l0 kn0
  refine CallB.law (m_markValueSS l0 kn0 (1) (by omega) (by omega) hOx0) ?_
  rintro _ H3 n3 ⟨rfl, hOm0, hH3, rfl⟩
  have hOg := hOg.congr fun i h1 h2 => hH3 i (by omega)
  simp (maxSteps := 4000000) (disch := omega) only [go_sem, w64, AndB_of, IfB_of, IfB_no, pickE_of, pickE_no, ite_of, ite_no, tdivE, tmodE, takeAll]
  try (refine DrawB.quiet (by kernel_rfl) ?_; simp (maxSteps := 4000000) (disch := omega) only [go_sem, w64, AndB_of, IfB_of, IfB_no, pickE_of, pickE_no, ite_of, ite_no, tdivE, tmodE, takeAll])
  refine CallB.pic (Pict.cons hOg.pict (Pict.cons (Pict.pure (by simp [pureA, pureL])) Pict.nil)) (e_eqValueSS w hw) rfl ?_
  simp (maxSteps := 4000000) (disch := omega) only [go_sem, w64, AndB_of, IfB_of, IfB_no, pickE_of, pickE_no, ite_of, ite_no, tdivE, tmodE, takeAll]
  have hcg := cntRo w hwn
  refine CallB.law (m_markValueSS w hwn 1 (by omega) (by omega) hOg) ?_
  rintro _ H4 n4 ⟨rfl, hOg, hH4, rfl⟩
  simp (maxSteps := 4000000) (disch := omega) only [go_sem, w64, AndB_of, IfB_of, IfB_no, pickE_of, pickE_no, ite_of, ite_no, tdivE, tmodE, takeAll]
  refine CallB.pic (Pict.cons hOg.pict (Pict.cons (Pict.pure rfl) Pict.nil)) (h_heldValueSS (w.map fun v => v.length) hns 1 (by omega) (by omega)) rfl ?_
  simp (maxSteps := 4000000) (disch := omega) only [go_sem, w64, AndB_of, IfB_of, IfB_no, pickE_of, pickE_no, ite_of, ite_no, tdivE, tmodE, takeAll]
  try (refine DrawB.quiet (by kernel_rfl) ?_; simp (maxSteps := 4000000) (disch := omega) only [go_sem, w64, AndB_of, IfB_of, IfB_no, pickE_of, pickE_no, ite_of, ite_no, tdivE, tmodE, takeAll])
  first | refine CallB.q (t_toValueSS l0 k0) ?_ | refine DCallB.q0 (t_toValueSS l0 k0) ?_
  simp (maxSteps := 4000000) (disch := omega) only [go_sem, w64, AndB_of, IfB_of, IfB_no, pickE_of, pickE_no, ite_of, ite_no, tdivE, tmodE, takeAll]
  first | refine CallB.q ((QCall.own (by simp [pureL, pureA]) qI)) ?_ | refine DCallB.q0 ((QCall.own (by simp [pureL, pureA]) qI)) ?_
  simp (maxSteps := 4000000) (disch := omega) only [go_sem, w64, AndB_of, IfB_of, IfB_no, pickE_of, pickE_no, ite_of, ite_no, tdivE, tmodE, takeAll]
  try (refine DrawB.quiet (by kernel_rfl) ?_; simp (maxSteps := 4000000) (disch := omega) only [go_sem, w64, AndB_of, IfB_of, IfB_no, pickE_of, pickE_no, ite_of, ite_no, tdivE, tmodE, takeAll])
  first | refine CallB.q (e_eqValueSS w hw) ?_ | refine DCallB.q0 (e_eqValueSS w hw) ?_
  simp (maxSteps := 4000000) (disch := omega) only [go_sem, w64, AndB_of, IfB_of, IfB_no, pickE_of, pickE_no, ite_of, ite_no, tdivE, tmodE, takeAll]
  refine CallB.pic (Pict.cons hOg.pict (Pict.cons (Pict.pure rfl) Pict.nil)) (h_heldValueSS (w.map fun v => v.length) hns 1 (by omega) (by omega)) rfl ?_
  simp (maxSteps := 4000000) (disch := omega) only [go_sem, w64, AndB_of, IfB_of, IfB_no, pickE_of, pickE_no, ite_of, ite_no, tdivE, tmodE, takeAll]
end Go.TH
