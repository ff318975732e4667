/- TH: the law FnExactLoopJoin. Made by mlaw.py and gen.py. -/
import Derived.Test.YtbhibkochjfdfaaTf3
import Derived.Test.YtbhibkochjfdfaaTalj
import Derived.Test.YtbhibkochjfdfaaTabc
namespace Go.TH
open Go Go.Proofs
set_option linter.unusedSimpArgs false
set_option linter.unusedVariables false
set_option maxHeartbeats 20000000
set_option maxRecDepth 100000
theorem w_ExactLoopJoin (l0 : List GCol) (h0 : (l0.length ≤ 9223372036854775807)) (l1 : List GCol) (h1 : (l1.length ≤ 9223372036854775807)) (l2 : List GRow) (h2 : (l2.length ≤ 9223372036854775807 ∧ ∀ r ∈ l2, r.length ≤ 9223372036854775807 ∧ ∀ x ∈ r, x.s.size ≤ 9223372036854775807)) (l3 : List GRow) (h3 : (l3.length ≤ 9223372036854775807 ∧ ∀ r ∈ l3, r.length ≤ 9223372036854775807 ∧ ∀ x ∈ r, x.s.size ≤ 9223372036854775807)) (l4 : Int) (h4 : -9223372036854775808 ≤ l4 ∧ l4 ≤ 9223372036854775807) (l5 : Int) (h5 : -9223372036854775808 ≤ l5 ∧ l5 ≤ 9223372036854775807) :
    CallQ Try.prog 9 [colsA l0, colsA l1, rowsA l2, rowsA l3, .int .i64 l4, .int .i64 l5] noH 0 fun r _ _ => r = .bool true := by
  refine callQ_body mixed Try.func9 _ (by unfold Try.f9; rfl) Try.ntmps9 Try.results9 (by decide) (by simp) ?_
  simp (maxSteps := 4000000) (disch := omega) only [go_sem, w64, AndB_of, IfB_of, IfB_no, pickE_of, pickE_no, ite_of, ite_no, tdivE, tmodE, takeAll]
  obtain ⟨_, ⟨r0, rfl, hr0, hs0⟩, hq0⟩ := x_szColumnS l0 1048576 (by omega) (by omega) h0
  apply CallB.q hq0
  simp (maxSteps := 4000000) (disch := omega) only [go_sem, w64, AndB_of, IfB_of, IfB_no, pickE_of, pickE_no, ite_of, ite_no, tdivE, tmodE, takeAll]
  refine IfB.dec (fun h => ?_) (fun g0 => ?_)
  · simp (maxSteps := 4000000) (disch := omega) only [go_sem, w64, AndB_of, IfB_of, IfB_no, pickE_of, pickE_no, ite_of, ite_no, tdivE, tmodE, takeAll]
  simp (maxSteps := 4000000) (disch := omega) only [go_sem, w64, AndB_of, IfB_of, IfB_no, pickE_of, pickE_no, ite_of, ite_no, tdivE, tmodE, takeAll]
  obtain ⟨_, ⟨r1, rfl, hr1, hs1⟩, hq1⟩ := x_szColumnS l1 r0 (by omega) (by omega) h1
  apply CallB.q hq1
  simp (maxSteps := 4000000) (disch := omega) only [go_sem, w64, AndB_of, IfB_of, IfB_no, pickE_of, pickE_no, ite_of, ite_no, tdivE, tmodE, takeAll]
  refine IfB.dec (fun h => ?_) (fun g1 => ?_)
  · simp (maxSteps := 4000000) (disch := omega) only [go_sem, w64, AndB_of, IfB_of, IfB_no, pickE_of, pickE_no, ite_of, ite_no, tdivE, tmodE, takeAll]
  simp (maxSteps := 4000000) (disch := omega) only [go_sem, w64, AndB_of, IfB_of, IfB_no, pickE_of, pickE_no, ite_of, ite_no, tdivE, tmodE, takeAll]
  obtain ⟨_, ⟨r2, rfl, hr2, hs2⟩, hq2⟩ := x_szValueSS l2 r1 (by omega) (by omega) h2
  apply CallB.q hq2
  simp (maxSteps := 4000000) (disch := omega) only [go_sem, w64, AndB_of, IfB_of, IfB_no, pickE_of, pickE_no, ite_of, ite_no, tdivE, tmodE, takeAll]
  refine IfB.dec (fun h => ?_) (fun g2 => ?_)
  · simp (maxSteps := 4000000) (disch := omega) only [go_sem, w64, AndB_of, IfB_of, IfB_no, pickE_of, pickE_no, ite_of, ite_no, tdivE, tmodE, takeAll]
  simp (maxSteps := 4000000) (disch := omega) only [go_sem, w64, AndB_of, IfB_of, IfB_no, pickE_of, pickE_no, ite_of, ite_no, tdivE, tmodE, takeAll]
  obtain ⟨_, ⟨r3, rfl, hr3, hs3⟩, hq3⟩ := x_szValueSS l3 r2 (by omega) (by omega) h3
  apply CallB.q hq3
  simp (maxSteps := 4000000) (disch := omega) only [go_sem, w64, AndB_of, IfB_of, IfB_no, pickE_of, pickE_no, ite_of, ite_no, tdivE, tmodE, takeAll]
  refine IfB.dec (fun h => ?_) (fun g3 => ?_)
  · simp (maxSteps := 4000000) (disch := omega) only [go_sem, w64, AndB_of, IfB_of, IfB_no, pickE_of, pickE_no, ite_of, ite_no, tdivE, tmodE, takeAll]
  simp (maxSteps := 4000000) (disch := omega) only [go_sem, w64, AndB_of, IfB_of, IfB_no, pickE_of, pickE_no, ite_of, ite_no, tdivE, tmodE, takeAll]
  have k0 := hs0 (by omega)
  have k1 := hs1 (by omega)
  have k2 := hs2 (by omega)
  have k3 := hs3 (by omega)
  have ksa : ∀ r ∈ l2, smallR r := fun r hr => ⟨(k2.2 r hr).1, fun x hx => by have := (k2.2 r hr).2 x hx; unfold VB at this; omega⟩
  have ksb : ∀ r ∈ l3, smallR r := fun r hr => ⟨(k3.2 r hr).1, fun x hx => by have := (k3.2 r hr).2 x hx; unfold VB at this; omega⟩
  have kn2 : l2.length ≤ 1048576 ∧ ∀ v ∈ l2, v.length ≤ 1048576 := ⟨k2.1, fun v hv => (k2.2 v hv).1⟩
  have kn3 : l3.length ≤ 1048576 ∧ ∀ v ∈ l3, v.length ≤ 1048576 := ⟨k3.1, fun v hv => (k3.2 v hv).1⟩
  obtain ⟨w, hww⟩ : ∃ w, w = loopJ l0 l1 l2 l3 l4 l5 := ⟨_, rfl⟩
  have hw : w.length ≤ 1048576 ∧ ∀ r ∈ w, r.length ≤ 1048576 ∧ ∀ x ∈ r, VB x := by
    rw [hww]
    refine ⟨Nat.le_trans (loopJ_len _ _ _ _ _ _) (by omega), fun r hr => ?_⟩
    have h9 := loopJ_row hr
    refine ⟨by omega, fun x hx => ?_⟩
    rcases h9.2 x hx with ⟨y, hy, hxy⟩ | ⟨y, hy, hxy⟩
    · exact (k2.2 y hy).2 x hxy
    · exact (k3.2 y hy).2 x hxy
  have hwn : w.length ≤ 1048576 ∧ ∀ v ∈ w, v.length ≤ 1048576 := ⟨hw.1, fun v hv => (hw.2 v hv).1⟩
  have hns : (w.map fun v => v.length).length ≤ 1048576 ∧ ∀ n ∈ w.map fun v => v.length, n ≤ 1048576 := ⟨by simp; exact hw.1, fun n hn => by obtain ⟨v, hv, rfl⟩ := List.mem_map.1 hn; exact hwn.2 v hv⟩
  have qS := q_LoopJoinS l0 l1 l2 l3 l4 l5 (by first | exact k0 | exact k0.1) (by first | exact k1 | exact k1.1) k2.1 k3.1 ksa ksb
  have qI := f_LoopJoinI l0 l1 l2 l3 l4 l5 (by first | exact k0 | exact k0.1) (by first | exact k1 | exact k1.1) k2.1 k3.1 ksa ksb
  rw [← hww] at qS qI
  try (refine DrawB.quiet (by kernel_rfl) ?_; simp (maxSteps := 4000000) (disch := omega) only [go_sem, w64, AndB_of, IfB_of, IfB_no, pickE_of, pickE_no, ite_of, ite_no, tdivE, tmodE, takeAll])
  first | refine CallB.q (t_toColumnS l0 k0) ?_ | refine DCallB.q0 (t_toColumnS l0 k0) ?_
  simp (maxSteps := 4000000) (disch := omega) only [go_sem, w64, AndB_of, IfB_of, IfB_no, pickE_of, pickE_no, ite_of, ite_no, tdivE, tmodE, takeAll]
  first | refine CallB.q (t_toColumnS l1 k1) ?_ | refine DCallB.q0 (t_toColumnS l1 k1) ?_
  simp (maxSteps := 4000000) (disch := omega) only [go_sem, w64, AndB_of, IfB_of, IfB_no, pickE_of, pickE_no, ite_of, ite_no, tdivE, tmodE, takeAll]
  first | refine CallB.q (t_toValueSS l2 k2) ?_ | refine DCallB.q0 (t_toValueSS l2 k2) ?_
  simp (maxSteps := 4000000) (disch := omega) only [go_sem, w64, AndB_of, IfB_of, IfB_no, pickE_of, pickE_no, ite_of, ite_no, tdivE, tmodE, takeAll]
  first | refine CallB.q (t_toValueSS l3 k3) ?_ | refine DCallB.q0 (t_toValueSS l3 k3) ?_
  simp (maxSteps := 4000000) (disch := omega) only [go_sem, w64, AndB_of, IfB_of, IfB_no, pickE_of, pickE_no, ite_of, ite_no, tdivE, tmodE, takeAll]
  first | refine CallB.q (qS) ?_ | refine DCallB.q0 (qS) ?_
  simp (maxSteps := 4000000) (disch := omega) only [go_sem, w64, AndB_of, IfB_of, IfB_no, pickE_of, pickE_no, ite_of, ite_no, tdivE, tmodE, takeAll]
  refine CallB.fresh (Pict.cons (Pict.pure (by simp [pureA, pureL])) Pict.nil) (o_toColumnS l0 k0) fun x0 H1 n1 hOx0 hn1 hH1 => ?_
  simp (maxSteps := 4000000) (disch := omega) only [go_sem, w64, AndB_of, IfB_of, IfB_no, pickE_of, pickE_no, ite_of, ite_no, tdivE, tmodE, takeAll]
  refine CallB.fresh (Pict.cons (Pict.pure (by simp [pureA, pureL])) Pict.nil) (o_toColumnS l1 k1) fun x1 H2 n2 hOx1 hn2 hH2 => ?_
  have hOx0 := hOx0.congr fun i h1 h2 => hH2 i (by omega)
  simp (maxSteps := 4000000) (disch := omega) only [go_sem, w64, AndB_of, IfB_of, IfB_no, pickE_of, pickE_no, ite_of, ite_no, tdivE, tmodE, takeAll]
  refine CallB.fresh (Pict.cons (Pict.pure (by simp [pureA, pureL])) Pict.nil) (o_toValueSS l2 k2) fun x2 H3 n3 hOx2 hn3 hH3 => ?_
  have hOx0 := hOx0.congr fun i h1 h2 => hH3 i (by omega)
  have hOx1 := hOx1.congr fun i h1 h2 => hH3 i (by omega)
  simp (maxSteps := 4000000) (disch := omega) only [go_sem, w64, AndB_of, IfB_of, IfB_no, pickE_of, pickE_no, ite_of, ite_no, tdivE, tmodE, takeAll]
  refine CallB.fresh (Pict.cons (Pict.pure (by simp [pureA, pureL])) Pict.nil) (o_toValueSS l3 k3) fun x3 H4 n4 hOx3 hn4 hH4 => ?_
  have hOx0 := hOx0.congr fun i h1 h2 => hH4 i (by omega)
  have hOx1 := hOx1.congr fun i h1 h2 => hH4 i (by omega)
  have hOx2 := hOx2.congr fun i h1 h2 => hH4 i (by omega)
  simp (maxSteps := 4000000) (disch := omega) only [go_sem, w64, AndB_of, IfB_of, IfB_no, pickE_of, pickE_no, ite_of, ite_no, tdivE, tmodE, takeAll]
  try (refine DrawB.quiet (by kernel_rfl) ?_; simp (maxSteps := 4000000) (disch := omega) only [go_sem, w64, AndB_of, IfB_of, IfB_no, pickE_of, pickE_no, ite_of, ite_no, tdivE, tmodE, takeAll])
  refine CallB.fresh (Pict.cons hOx0.pict (Pict.cons hOx1.pict (Pict.cons hOx2.pict (Pict.cons hOx3.pict (Pict.cons (Pict.pure (by simp [pureA, pureL])) (Pict.cons (Pict.pure (by simp [pureA, pureL])) Pict.nil)))))) qI fun g0 H5 n5 hOg hn5 hH5 => ?_
  have hOx0 := hOx0.congr fun i h1 h2 => hH5 i (by omega)
  have hOx1 := hOx1.congr fun i h1 h2 => hH5 i (by omega)
  have hOx2 := hOx2.congr fun i h1 h2 => hH5 i (by omega)
  have hOx3 := hOx3.congr fun i h1 h2 => hH5 i (by omega)
  simp (maxSteps := 4000000) (disch := omega) only [go_sem, w64, AndB_of, IfB_of, IfB_no, pickE_of, pickE_no, ite_of, ite_no, tdivE, tmodE, takeAll]
  try (refine DrawB.quiet (by kernel_rfl) ?_; simp (maxSteps := 4000000) (disch := omega) only [go_sem, w64, AndB_of, IfB_of, IfB_no, pickE_of, pickE_no, ite_of, ite_no, tdivE, tmodE, takeAll])
  refine CallB.pic (Pict.cons hOg.pict (Pict.cons (Pict.pure (by simp [pureA, pureL])) Pict.nil)) (e_eqValueSS w hw) rfl ?_
  simp (maxSteps := 4000000) (disch := omega) only [go_sem, w64, AndB_of, IfB_of, IfB_no, pickE_of, pickE_no, ite_of, ite_no, tdivE, tmodE, takeAll]
  try (refine DrawB.quiet (by kernel_rfl) ?_; simp (maxSteps := 4000000) (disch := omega) only [go_sem, w64, AndB_of, IfB_of, IfB_no, pickE_of, pickE_no, ite_of, ite_no, tdivE, tmodE, takeAll])
  first | refine CallB.q (t_toColumnS l0 k0) ?_ | refine DCallB.q0 (t_toColumnS l0 k0) ?_
  simp (maxSteps := 4000000) (disch := omega) only [go_sem, w64, AndB_of, IfB_of, IfB_no, pickE_of, pickE_no, ite_of, ite_no, tdivE, tmodE, takeAll]
  refine CallB.pic (Pict.cons hOx0.pict (Pict.cons (Pict.pure (by simp [pureA, pureL])) Pict.nil)) (e_eqColumnS l0 k0) rfl ?_
  simp (maxSteps := 4000000) (disch := omega) only [go_sem, w64, AndB_of, IfB_of, IfB_no, pickE_of, pickE_no, ite_of, ite_no, tdivE, tmodE, takeAll]
  try (refine DrawB.quiet (by kernel_rfl) ?_; simp (maxSteps := 4000000) (disch := omega) only [go_sem, w64, AndB_of, IfB_of, IfB_no, pickE_of, pickE_no, ite_of, ite_no, tdivE, tmodE, takeAll])
  first | refine CallB.q (t_toColumnS l1 k1) ?_ | refine DCallB.q0 (t_toColumnS l1 k1) ?_
  simp (maxSteps := 4000000) (disch := omega) only [go_sem, w64, AndB_of, IfB_of, IfB_no, pickE_of, pickE_no, ite_of, ite_no, tdivE, tmodE, takeAll]
  refine CallB.pic (Pict.cons hOx1.pict (Pict.cons (Pict.pure (by simp [pureA, pureL])) Pict.nil)) (e_eqColumnS l1 k1) rfl ?_
  simp (maxSteps := 4000000) (disch := omega) only [go_sem, w64, AndB_of, IfB_of, IfB_no, pickE_of, pickE_no, ite_of, ite_no, tdivE, tmodE, takeAll]
  try (refine DrawB.quiet (by kernel_rfl) ?_; simp (maxSteps := 4000000) (disch := omega) only [go_sem, w64, AndB_of, IfB_of, IfB_no, pickE_of, pickE_no, ite_of, ite_no, tdivE, tmodE, takeAll])
  first | refine CallB.q (t_toValueSS l2 k2) ?_ | refine DCallB.q0 (t_toValueSS l2 k2) ?_
  simp (maxSteps := 4000000) (disch := omega) only [go_sem, w64, AndB_of, IfB_of, IfB_no, pickE_of, pickE_no, ite_of, ite_no, tdivE, tmodE, takeAll]
  refine CallB.pic (Pict.cons hOx2.pict (Pict.cons (Pict.pure (by simp [pureA, pureL])) Pict.nil)) (e_eqValueSS l2 k2) rfl ?_
  simp (maxSteps := 4000000) (disch := omega) only [go_sem, w64, AndB_of, IfB_of, IfB_no, pickE_of, pickE_no, ite_of, ite_no, tdivE, tmodE, takeAll]
  try (refine DrawB.quiet (by kernel_rfl) ?_; simp (maxSteps := 4000000) (disch := omega) only [go_sem, w64, AndB_of, IfB_of, IfB_no, pickE_of, pickE_no, ite_of, ite_no, tdivE, tmodE, takeAll])
  first | refine CallB.q (t_toValueSS l3 k3) ?_ | refine DCallB.q0 (t_toValueSS l3 k3) ?_
  simp (maxSteps := 4000000) (disch := omega) only [go_sem, w64, AndB_of, IfB_of, IfB_no, pickE_of, pickE_no, ite_of, ite_no, tdivE, tmodE, takeAll]
  refine CallB.pic (Pict.cons hOx3.pict (Pict.cons (Pict.pure (by simp [pureA, pureL])) Pict.nil)) (e_eqValueSS l3 k3) rfl ?_
  simp (maxSteps := 4000000) (disch := omega) only [go_sem, w64, AndB_of, IfB_of, IfB_no, pickE_of, pickE_no, ite_of, ite_no, tdivE, tmodE, takeAll]
  refine CallB.law (m_markColumnS l0 (by first | exact k0 | exact k0.1) (1) (by omega) (by omega) hOx0) ?_
  rintro _ H6 n6 ⟨rfl, hOm0, hH6, rfl⟩
  have hOx1 := hOx1.congr fun i h1 h2 => hH6 i (by omega)
  have hOx2 := hOx2.congr fun i h1 h2 => hH6 i (by omega)
  have hOx3 := hOx3.congr fun i h1 h2 => hH6 i (by omega)
  have hOg := hOg.congr fun i h1 h2 => hH6 i (by omega)
  simp (maxSteps := 4000000) (disch := omega) only [go_sem, w64, AndB_of, IfB_of, IfB_no, pickE_of, pickE_no, ite_of, ite_no, tdivE, tmodE, takeAll]
  refine CallB.law (m_markColumnS l1 (by first | exact k1 | exact k1.1) (1 + 2 * l0.length) (by omega) (by omega) hOx1) ?_
  rintro _ H7 n7 ⟨rfl, hOm1, hH7, rfl⟩
  have hOx2 := hOx2.congr fun i h1 h2 => hH7 i (by omega)
  have hOx3 := hOx3.congr fun i h1 h2 => hH7 i (by omega)
  have hOg := hOg.congr fun i h1 h2 => hH7 i (by omega)
  simp (maxSteps := 4000000) (disch := omega) only [go_sem, w64, AndB_of, IfB_of, IfB_no, pickE_of, pickE_no, ite_of, ite_no, tdivE, tmodE, takeAll]
  have hc2 := cntRo l2 kn2
  refine CallB.law (m_markValueSS l2 kn2 (1 + 2 * l0.length + 2 * l1.length) (by omega) (by omega) hOx2) ?_
  rintro _ H8 n8 ⟨rfl, hOm2, hH8, rfl⟩
  have hOx3 := hOx3.congr fun i h1 h2 => hH8 i (by omega)
  have hOg := hOg.congr fun i h1 h2 => hH8 i (by omega)
  simp (maxSteps := 4000000) (disch := omega) only [go_sem, w64, AndB_of, IfB_of, IfB_no, pickE_of, pickE_no, ite_of, ite_no, tdivE, tmodE, takeAll]
  have hc3 := cntRo l3 kn3
  refine CallB.law (m_markValueSS l3 kn3 (1 + 2 * l0.length + 2 * l1.length + gcnt wRo (l2.map fun v => v.length)) (by omega) (by omega) hOx3) ?_
  rintro _ H9 n9 ⟨rfl, hOm3, hH9, rfl⟩
  have hOg := hOg.congr fun i h1 h2 => hH9 i (by omega)
  simp (maxSteps := 4000000) (disch := omega) only [go_sem, w64, AndB_of, IfB_of, IfB_no, pickE_of, pickE_no, ite_of, ite_no, tdivE, tmodE, takeAll]
  try (refine DrawB.quiet (by kernel_rfl) ?_; simp (maxSteps := 4000000) (disch := omega) only [go_sem, w64, AndB_of, IfB_of, IfB_no, pickE_of, pickE_no, ite_of, ite_no, tdivE, tmodE, takeAll])
  refine CallB.pic (Pict.cons hOg.pict (Pict.cons (Pict.pure (by simp [pureA, pureL])) Pict.nil)) (e_eqValueSS w hw) rfl ?_
  simp (maxSteps := 4000000) (disch := omega) only [go_sem, w64, AndB_of, IfB_of, IfB_no, pickE_of, pickE_no, ite_of, ite_no, tdivE, tmodE, takeAll]
  have hcg := cntRo w hwn
  refine CallB.law (m_markValueSS w hwn 1 (by omega) (by omega) hOg) ?_
  rintro _ H10 n10 ⟨rfl, hOg, hH10, rfl⟩
  simp (maxSteps := 4000000) (disch := omega) only [go_sem, w64, AndB_of, IfB_of, IfB_no, pickE_of, pickE_no, ite_of, ite_no, tdivE, tmodE, takeAll]
  refine CallB.pic (Pict.cons hOg.pict (Pict.cons (Pict.pure rfl) Pict.nil)) (h_heldValueSS (w.map fun v => v.length) hns 1 (by omega) (by omega)) rfl ?_
  simp (maxSteps := 4000000) (disch := omega) only [go_sem, w64, AndB_of, IfB_of, IfB_no, pickE_of, pickE_no, ite_of, ite_no, tdivE, tmodE, takeAll]
  try (refine DrawB.quiet (by kernel_rfl) ?_; simp (maxSteps := 4000000) (disch := omega) only [go_sem, w64, AndB_of, IfB_of, IfB_no, pickE_of, pickE_no, ite_of, ite_no, tdivE, tmodE, takeAll])
  first | refine CallB.q (t_toColumnS l0 k0) ?_ | refine DCallB.q0 (t_toColumnS l0 k0) ?_
  simp (maxSteps := 4000000) (disch := omega) only [go_sem, w64, AndB_of, IfB_of, IfB_no, pickE_of, pickE_no, ite_of, ite_no, tdivE, tmodE, takeAll]
  first | refine CallB.q (t_toColumnS l1 k1) ?_ | refine DCallB.q0 (t_toColumnS l1 k1) ?_
  simp (maxSteps := 4000000) (disch := omega) only [go_sem, w64, AndB_of, IfB_of, IfB_no, pickE_of, pickE_no, ite_of, ite_no, tdivE, tmodE, takeAll]
  first | refine CallB.q (t_toValueSS l2 k2) ?_ | refine DCallB.q0 (t_toValueSS l2 k2) ?_
  simp (maxSteps := 4000000) (disch := omega) only [go_sem, w64, AndB_of, IfB_of, IfB_no, pickE_of, pickE_no, ite_of, ite_no, tdivE, tmodE, takeAll]
  first | refine CallB.q (t_toValueSS l3 k3) ?_ | refine DCallB.q0 (t_toValueSS l3 k3) ?_
  simp (maxSteps := 4000000) (disch := omega) only [go_sem, w64, AndB_of, IfB_of, IfB_no, pickE_of, pickE_no, ite_of, ite_no, tdivE, tmodE, takeAll]
  first | refine CallB.q ((QCall.own (by simp [pureL, pureA]) qI)) ?_ | refine DCallB.q0 ((QCall.own (by simp [pureL, pureA]) qI)) ?_
  simp (maxSteps := 4000000) (disch := omega) only [go_sem, w64, AndB_of, IfB_of, IfB_no, pickE_of, pickE_no, ite_of, ite_no, tdivE, tmodE, takeAll]
  try (refine DrawB.quiet (by kernel_rfl) ?_; simp (maxSteps := 4000000) (disch := omega) only [go_sem, w64, AndB_of, IfB_of, IfB_no, pickE_of, pickE_no, ite_of, ite_no, tdivE, tmodE, takeAll])
  first | refine CallB.q (e_eqValueSS w hw) ?_ | refine DCallB.q0 (e_eqValueSS w hw) ?_
  simp (maxSteps := 4000000) (disch := omega) only [go_sem, w64, AndB_of, IfB_of, IfB_no, pickE_of, pickE_no, ite_of, ite_no, tdivE, tmodE, takeAll]
  refine CallB.pic (Pict.cons hOg.pict (Pict.cons (Pict.pure rfl) Pict.nil)) (h_heldValueSS (w.map fun v => v.length) hns 1 (by omega) (by omega)) rfl ?_
  simp (maxSteps := 4000000) (disch := omega) only [go_sem, w64, AndB_of, IfB_of, IfB_no, pickE_of, pickE_no, ite_of, ite_no, tdivE, tmodE, takeAll]
end Go.TH
