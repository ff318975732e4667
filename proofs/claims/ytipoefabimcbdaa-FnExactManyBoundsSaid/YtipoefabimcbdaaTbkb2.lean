/- TH: bounds of what is known: the walks (2) and the law. Made by gen.py. -/
import Derived.Test.YtipoefabimcbdaaTf3
import Derived.Test.YtipoefabimcbdaaTbkb
namespace Go.TH
open Go Go.Proofs
set_option linter.unusedSimpArgs false
set_option linter.unusedVariables false
set_option maxHeartbeats 20000000
set_option maxRecDepth 100000
theorem many_no {k : GKn} {kind : Int} {v : GVal} (h : ¬ mayH k kind v) : manyLo k kind v = 0 ∧ manyHi k kind v = 0 := by unfold manyLo manyHi; rw [if_neg h, if_neg h]; exact ⟨rfl, rfl⟩
theorem many_all {k : GKn} {kind : Int} {v : GVal} (h : mayH k kind v) (h2 : mustH k kind v) : manyLo k kind v = k.many ∧ manyHi k kind v = k.many := by unfold manyLo manyHi; rw [if_pos h, if_pos h, if_pos h2, if_pos h2]; exact ⟨rfl, rfl⟩
theorem many_1 {k : GKn} {kind : Int} {v : GVal} (h : mayH k kind v) (h2 : ¬ mustH k kind v) (h3 : k.least = k.most ∨ k.many = 1) : manyLo k kind v = one1 kind k.least v ∧ manyHi k kind v = k.many - (1 - one1 kind k.least v) := by unfold manyLo manyHi; rw [if_pos h, if_pos h, if_neg h2, if_neg h2, if_pos h3, if_pos h3]; exact ⟨rfl, rfl⟩
theorem many_2 {k : GKn} {kind : Int} {v : GVal} (h : mayH k kind v) (h2 : ¬ mustH k kind v) (h3 : ¬ (k.least = k.most ∨ k.many = 1)) : manyLo k kind v = one1 kind k.least v + one1 kind k.most v ∧ manyHi k kind v = k.many - (2 - (one1 kind k.least v + one1 kind k.most v)) := by unfold manyLo manyHi; rw [if_pos h, if_pos h, if_neg h2, if_neg h2, if_neg h3, if_neg h3]; exact ⟨rfl, rfl⟩
theorem q_ends1 (k : GKn) (hx : k.least = k.most ∨ k.many = 1) : QCall Try.prog 98 [.agg [.int .i64 k.many, .int .i64 k.sum, .int .i64 k.least.k, .int .i64 k.least.n, .str k.least.s, .int .i64 k.most.k, .int .i64 k.most.n, .str k.most.s]] (.sl 1 false [.int .i64 k.least.k, .int .i64 k.least.n, .str k.least.s]) := by
  refine qcall_body mixed Try.func98 _ (by unfold Try.f98; rfl) Try.ntmps98 Try.results98 (by decide) 1 (by simp) (by simp [pureL, pureA]) ?_
  have e := eqv k.least k.most
  simp (maxSteps := 4000000) (disch := omega) only [go_sem, w64, AndB_of, IfB_of, IfB_no, pickE_of, pickE_no, ite_of, ite_no, tdivE, tmodE, takeAll, e]
  repeat' (first | (refine IfB.dec2 (fun h hd => ?_) (fun h hd => ?_) <;> (try (have h2 := h; unfold inR at h2)) <;> (try simp (maxSteps := 4000000) (disch := omega) only [go_sem, w64, AndB_of, IfB_of, IfB_no, pickE_of, pickE_no, ite_of, ite_no, tdivE, tmodE, takeAll, e, hd])) | (refine IfB.split (fun h => ?_) (fun h => ?_) <;> (try simp (maxSteps := 4000000) (disch := omega) only [go_sem, w64, AndB_of, IfB_of, IfB_no, pickE_of, pickE_no, ite_of, ite_no, tdivE, tmodE, takeAll, e, h])) | (refine DrawB.quiet (by kernel_rfl) ?_; simp (maxSteps := 4000000) (disch := omega) only [go_sem, w64, AndB_of, IfB_of, IfB_no, pickE_of, pickE_no, ite_of, ite_no, tdivE, tmodE, takeAll, e]))
  all_goals first | rfl | (exfalso; rcases hx with hx | hx; contradiction; omega)
theorem q_ends2 (k : GKn) (h : ¬ (k.least = k.most ∨ k.many = 1)) : QCall Try.prog 98 [.agg [.int .i64 k.many, .int .i64 k.sum, .int .i64 k.least.k, .int .i64 k.least.n, .str k.least.s, .int .i64 k.most.k, .int .i64 k.most.n, .str k.most.s]] (.sl 2 false [.int .i64 k.least.k, .int .i64 k.least.n, .str k.least.s, .int .i64 k.most.k, .int .i64 k.most.n, .str k.most.s]) := by
  refine qcall_body mixed Try.func98 _ (by unfold Try.f98; rfl) Try.ntmps98 Try.results98 (by decide) 1 (by simp) (by simp [pureL, pureA]) ?_
  have e := eqv k.least k.most
  have h1 : ¬ k.least = k.most := fun e => h (.inl e)
  have h2 : ¬ k.many = 1 := fun e => h (.inr e)
  simp (maxSteps := 4000000) (disch := omega) only [go_sem, w64, AndB_of, IfB_of, IfB_no, pickE_of, pickE_no, ite_of, ite_no, tdivE, tmodE, takeAll, e]
  repeat' (first | (refine IfB.dec2 (fun h hd => ?_) (fun h hd => ?_) <;> (try (have h2 := h; unfold inR at h2)) <;> (try simp (maxSteps := 4000000) (disch := omega) only [go_sem, w64, AndB_of, IfB_of, IfB_no, pickE_of, pickE_no, ite_of, ite_no, tdivE, tmodE, takeAll, e, hd])) | (refine IfB.split (fun h => ?_) (fun h => ?_) <;> (try simp (maxSteps := 4000000) (disch := omega) only [go_sem, w64, AndB_of, IfB_of, IfB_no, pickE_of, pickE_no, ite_of, ite_no, tdivE, tmodE, takeAll, e, h])) | (refine DrawB.quiet (by kernel_rfl) ?_; simp (maxSteps := 4000000) (disch := omega) only [go_sem, w64, AndB_of, IfB_of, IfB_no, pickE_of, pickE_no, ite_of, ite_no, tdivE, tmodE, takeAll, e]))
  all_goals first | rfl | contradiction | skip
theorem q_ManyBoundsS (k : GKn) (kind : Int) (v : GVal) (hb : KnB k) (hv : v.s.size ≤ 1048576) : QCall Try.prog 49 [.agg [.int .i64 k.many, .int .i64 k.sum, .int .i64 k.least.k, .int .i64 k.least.n, .str k.least.s, .int .i64 k.most.k, .int .i64 k.most.n, .str k.most.s], .int .i64 kind, .agg [.int .i64 v.k, .int .i64 v.n, .str v.s]] (.tup [.int .i64 (manyLo k kind v), .int .i64 (manyHi k kind v)]) := by
  refine qcall_body mixed Try.func49 _ (by unfold Try.f49; rfl) Try.ntmps49 Try.results49 (by decide) 0 (by simp) (by simp [pureL, pureA]) ?_
  obtain ⟨s1, s2⟩ := KnB_big hb
  have s3 : k.least.s.size ≤ 140737488355328 := by have := hb.1; unfold VB at this; omega
  have s4 : k.most.s.size ≤ 140737488355328 := by have := hb.2; unfold VB at this; omega
  have s5 : v.s.size ≤ 140737488355328 := by omega
  simp (maxSteps := 4000000) (disch := omega) only [go_sem, w64, AndB_of, IfB_of, IfB_no, pickE_of, pickE_no, ite_of, ite_no, tdivE, tmodE, takeAll]
  apply CallB.q (q_MayHoldS k kind v hb hv)
  simp (maxSteps := 4000000) (disch := omega) only [go_sem, w64, AndB_of, IfB_of, IfB_no, pickE_of, pickE_no, ite_of, ite_no, tdivE, tmodE, takeAll]
  refine IfB.dec2 (fun h1 d1 => ?_) (fun h1 d1 => ?_)
  · have hm := knOk_many h1.1.1
    simp (maxSteps := 4000000) (disch := omega) only [go_sem, w64, AndB_of, IfB_of, IfB_no, pickE_of, pickE_no, ite_of, ite_no, tdivE, tmodE, takeAll, d1]
    apply CallB.q (q_MustHoldS k kind v hb hv)
    simp (maxSteps := 4000000) (disch := omega) only [go_sem, w64, AndB_of, IfB_of, IfB_no, pickE_of, pickE_no, ite_of, ite_no, tdivE, tmodE, takeAll]
    refine IfB.dec2 (fun h2 d2 => ?_) (fun h2 d2 => ?_)
    · have hx := many_all h1 h2
      simp (maxSteps := 4000000) (disch := omega) only [go_sem, w64, AndB_of, IfB_of, IfB_no, pickE_of, pickE_no, ite_of, ite_no, tdivE, tmodE, takeAll, d2, hx.1, hx.2]
      repeat' (first | (refine IfB.dec2 (fun h hd => ?_) (fun h hd => ?_) <;> (try (have h2 := h; unfold inR at h2)) <;> (try simp (maxSteps := 4000000) (disch := omega) only [go_sem, w64, AndB_of, IfB_of, IfB_no, pickE_of, pickE_no, ite_of, ite_no, tdivE, tmodE, takeAll, hd])) | (refine IfB.split (fun h => ?_) (fun h => ?_) <;> (try simp (maxSteps := 4000000) (disch := omega) only [go_sem, w64, AndB_of, IfB_of, IfB_no, pickE_of, pickE_no, ite_of, ite_no, tdivE, tmodE, takeAll, h])) | (refine DrawB.quiet (by kernel_rfl) ?_; simp (maxSteps := 4000000) (disch := omega) only [go_sem, w64, AndB_of, IfB_of, IfB_no, pickE_of, pickE_no, ite_of, ite_no, tdivE, tmodE, takeAll]))
      all_goals (try simp [hx])
    · simp (maxSteps := 4000000) (disch := omega) only [go_sem, w64, AndB_of, IfB_of, IfB_no, pickE_of, pickE_no, ite_of, ite_no, tdivE, tmodE, takeAll, d2]
      by_cases he : k.least = k.most ∨ k.many = 1
      · have hx := many_1 h1 h2 he
        apply CallB.q (q_ends1 k he)
        simp (maxSteps := 4000000) (disch := omega) only [go_sem, w64, AndB_of, IfB_of, IfB_no, pickE_of, pickE_no, ite_of, ite_no, tdivE, tmodE, takeAll]
        repeat' (first | (refine IfB.dec2 (fun h hd => ?_) (fun h hd => ?_) <;> (try (have h2 := h; unfold inR at h2)) <;> (try simp (maxSteps := 4000000) (disch := omega) only [go_sem, w64, AndB_of, IfB_of, IfB_no, pickE_of, pickE_no, ite_of, ite_no, tdivE, tmodE, takeAll, hd])) | (refine IfB.split (fun h => ?_) (fun h => ?_) <;> (try simp (maxSteps := 4000000) (disch := omega) only [go_sem, w64, AndB_of, IfB_of, IfB_no, pickE_of, pickE_no, ite_of, ite_no, tdivE, tmodE, takeAll, h])) | (refine DrawB.quiet (by kernel_rfl) ?_; simp (maxSteps := 4000000) (disch := omega) only [go_sem, w64, AndB_of, IfB_of, IfB_no, pickE_of, pickE_no, ite_of, ite_no, tdivE, tmodE, takeAll]) | (apply CallB.q (q_CompareKS kind k.least v s3 s5); simp (maxSteps := 4000000) (disch := omega) only [go_sem, w64, AndB_of, IfB_of, IfB_no, pickE_of, pickE_no, ite_of, ite_no, tdivE, tmodE, takeAll]) | (apply DCallB.q0 (q_CompareKS kind k.least v s3 s5); simp (maxSteps := 4000000) (disch := omega) only [go_sem, w64, AndB_of, IfB_of, IfB_no, pickE_of, pickE_no, ite_of, ite_no, tdivE, tmodE, takeAll]) | (refine LoopB.unroll ?_; simp (maxSteps := 4000000) (disch := omega) only [go_sem, w64, AndB_of, IfB_of, IfB_no, pickE_of, pickE_no, ite_of, ite_no, tdivE, tmodE, takeAll]))
        all_goals (rw [hx.1, hx.2]; unfold one1; first | (simp [*]; done) | (simp [*]; omega))
      · have hx := many_2 h1 h2 he
        apply CallB.q (q_ends2 k he)
        simp (maxSteps := 4000000) (disch := omega) only [go_sem, w64, AndB_of, IfB_of, IfB_no, pickE_of, pickE_no, ite_of, ite_no, tdivE, tmodE, takeAll]
        repeat' (first | (refine IfB.dec2 (fun h hd => ?_) (fun h hd => ?_) <;> (try (have h2 := h; unfold inR at h2)) <;> (try simp (maxSteps := 4000000) (disch := omega) only [go_sem, w64, AndB_of, IfB_of, IfB_no, pickE_of, pickE_no, ite_of, ite_no, tdivE, tmodE, takeAll, hd])) | (refine IfB.split (fun h => ?_) (fun h => ?_) <;> (try simp (maxSteps := 4000000) (disch := omega) only [go_sem, w64, AndB_of, IfB_of, IfB_no, pickE_of, pickE_no, ite_of, ite_no, tdivE, tmodE, takeAll, h])) | (refine DrawB.quiet (by kernel_rfl) ?_; simp (maxSteps := 4000000) (disch := omega) only [go_sem, w64, AndB_of, IfB_of, IfB_no, pickE_of, pickE_no, ite_of, ite_no, tdivE, tmodE, takeAll]) | (apply CallB.q (q_CompareKS kind k.least v s3 s5); simp (maxSteps := 4000000) (disch := omega) only [go_sem, w64, AndB_of, IfB_of, IfB_no, pickE_of, pickE_no, ite_of, ite_no, tdivE, tmodE, takeAll]) | (apply CallB.q (q_CompareKS kind k.most v s4 s5); simp (maxSteps := 4000000) (disch := omega) only [go_sem, w64, AndB_of, IfB_of, IfB_no, pickE_of, pickE_no, ite_of, ite_no, tdivE, tmodE, takeAll]) | (apply DCallB.q0 (q_CompareKS kind k.least v s3 s5); simp (maxSteps := 4000000) (disch := omega) only [go_sem, w64, AndB_of, IfB_of, IfB_no, pickE_of, pickE_no, ite_of, ite_no, tdivE, tmodE, takeAll]) | (apply DCallB.q0 (q_CompareKS kind k.most v s4 s5); simp (maxSteps := 4000000) (disch := omega) only [go_sem, w64, AndB_of, IfB_of, IfB_no, pickE_of, pickE_no, ite_of, ite_no, tdivE, tmodE, takeAll]) | (refine LoopB.unroll ?_; simp (maxSteps := 4000000) (disch := omega) only [go_sem, w64, AndB_of, IfB_of, IfB_no, pickE_of, pickE_no, ite_of, ite_no, tdivE, tmodE, takeAll]))
        all_goals (rw [hx.1, hx.2]; unfold one1; first | (simp [*]; done) | (simp [*]; omega))
  · have hx := many_no h1
    simp (maxSteps := 4000000) (disch := omega) only [go_sem, w64, AndB_of, IfB_of, IfB_no, pickE_of, pickE_no, ite_of, ite_no, tdivE, tmodE, takeAll, d1, hx.1, hx.2]
theorem q_ManyBoundsI (k : GKn) (kind : Int) (v : GVal) (hb : KnB k) (hv : v.s.size ≤ 1048576) : QCall Try.prog 51 [.agg [.int .i64 k.many, .int .i64 k.sum, .int .i64 k.least.k, .int .i64 k.least.n, .str k.least.s, .int .i64 k.most.k, .int .i64 k.most.n, .str k.most.s], .int .i64 kind, .agg [.int .i64 v.k, .int .i64 v.n, .str v.s]] (.tup [.int .i64 (manyLo k kind v), .int .i64 (manyHi k kind v)]) := by
  refine qcall_body mixed Try.func51 _ (by unfold Try.f51; rfl) Try.ntmps51 Try.results51 (by decide) 0 (by simp) (by simp [pureL, pureA]) ?_
  obtain ⟨s1, s2⟩ := KnB_big hb
  have s3 : k.least.s.size ≤ 140737488355328 := by have := hb.1; unfold VB at this; omega
  have s4 : k.most.s.size ≤ 140737488355328 := by have := hb.2; unfold VB at this; omega
  have s5 : v.s.size ≤ 140737488355328 := by omega
  simp (maxSteps := 4000000) (disch := omega) only [go_sem, w64, AndB_of, IfB_of, IfB_no, pickE_of, pickE_no, ite_of, ite_no, tdivE, tmodE, takeAll]
  apply CallB.q (q_asks k kind v hb hv)
  simp (maxSteps := 4000000) (disch := omega) only [go_sem, w64, AndB_of, IfB_of, IfB_no, pickE_of, pickE_no, ite_of, ite_no, tdivE, tmodE, takeAll]
  refine IfB.dec2 (fun h0 d0 => ?_) (fun h0 d0 => ?_)
  · simp (maxSteps := 4000000) (disch := omega) only [go_sem, w64, AndB_of, IfB_of, IfB_no, pickE_of, pickE_no, ite_of, ite_no, tdivE, tmodE, takeAll, d0]
    apply CallB.q (q_MayHoldI k kind v hb hv)
    simp (maxSteps := 4000000) (disch := omega) only [go_sem, w64, AndB_of, IfB_of, IfB_no, pickE_of, pickE_no, ite_of, ite_no, tdivE, tmodE, takeAll]
    refine IfB.dec2 (fun h1 d1 => ?_) (fun h1 d1 => ?_)
    · have hm := knOk_many h1.1.1
      have hm2 := h1.1.2.1
      simp (maxSteps := 4000000) (disch := omega) only [go_sem, w64, AndB_of, IfB_of, IfB_no, pickE_of, pickE_no, ite_of, ite_no, tdivE, tmodE, takeAll, d1]
      apply CallB.q (q_MustHoldI k kind v hb hv)
      simp (maxSteps := 4000000) (disch := omega) only [go_sem, w64, AndB_of, IfB_of, IfB_no, pickE_of, pickE_no, ite_of, ite_no, tdivE, tmodE, takeAll]
      refine IfB.dec2 (fun h2 d2 => ?_) (fun h2 d2 => ?_)
      · have hx := many_all h1 h2
        simp (maxSteps := 4000000) (disch := omega) only [go_sem, w64, AndB_of, IfB_of, IfB_no, pickE_of, pickE_no, ite_of, ite_no, tdivE, tmodE, takeAll, d2, hx.1, hx.2]
        repeat' (first | (refine IfB.dec2 (fun h hd => ?_) (fun h hd => ?_) <;> (try (have h2 := h; unfold inR at h2)) <;> (try simp (maxSteps := 4000000) (disch := omega) only [go_sem, w64, AndB_of, IfB_of, IfB_no, pickE_of, pickE_no, ite_of, ite_no, tdivE, tmodE, takeAll, hd])) | (refine IfB.split (fun h => ?_) (fun h => ?_) <;> (try simp (maxSteps := 4000000) (disch := omega) only [go_sem, w64, AndB_of, IfB_of, IfB_no, pickE_of, pickE_no, ite_of, ite_no, tdivE, tmodE, takeAll, h])) | (refine DrawB.quiet (by kernel_rfl) ?_; simp (maxSteps := 4000000) (disch := omega) only [go_sem, w64, AndB_of, IfB_of, IfB_no, pickE_of, pickE_no, ite_of, ite_no, tdivE, tmodE, takeAll]))
        all_goals (try simp [hx])
      · have e := eqv k.most k.least
        simp (maxSteps := 4000000) (disch := omega) only [go_sem, w64, AndB_of, IfB_of, IfB_no, pickE_of, pickE_no, ite_of, ite_no, tdivE, tmodE, takeAll, d2, e]
        by_cases he : k.least = k.most ∨ k.many = 1
        · have hx := many_1 h1 h2 he
          repeat' (first | (refine IfB.dec2 (fun h hd => ?_) (fun h hd => ?_) <;> (try (have h2 := h; unfold inR at h2)) <;> (try simp (maxSteps := 4000000) (disch := omega) only [go_sem, w64, AndB_of, IfB_of, IfB_no, pickE_of, pickE_no, ite_of, ite_no, tdivE, tmodE, takeAll, e, hd])) | (refine IfB.split (fun h => ?_) (fun h => ?_) <;> (try simp (maxSteps := 4000000) (disch := omega) only [go_sem, w64, AndB_of, IfB_of, IfB_no, pickE_of, pickE_no, ite_of, ite_no, tdivE, tmodE, takeAll, e, h])) | (refine DrawB.quiet (by kernel_rfl) ?_; simp (maxSteps := 4000000) (disch := omega) only [go_sem, w64, AndB_of, IfB_of, IfB_no, pickE_of, pickE_no, ite_of, ite_no, tdivE, tmodE, takeAll, e]) | (apply CallB.q (q_CompareKI kind k.least v s3 s5); simp (maxSteps := 4000000) (disch := omega) only [go_sem, w64, AndB_of, IfB_of, IfB_no, pickE_of, pickE_no, ite_of, ite_no, tdivE, tmodE, takeAll, e]) | (apply DCallB.q0 (q_CompareKI kind k.least v s3 s5); simp (maxSteps := 4000000) (disch := omega) only [go_sem, w64, AndB_of, IfB_of, IfB_no, pickE_of, pickE_no, ite_of, ite_no, tdivE, tmodE, takeAll, e]) | (refine LoopB.unroll ?_; simp (maxSteps := 4000000) (disch := omega) only [go_sem, w64, AndB_of, IfB_of, IfB_no, pickE_of, pickE_no, ite_of, ite_no, tdivE, tmodE, takeAll]))
          all_goals first
            | (exfalso; rcases he with he | he; exact absurd he.symm (by assumption); omega)
            | (rw [hx.1, hx.2]; unfold one1; simp [*]; done)
            | (rw [hx.1, hx.2]; unfold one1; simp [*]; omega)
        · have hx := many_2 h1 h2 he
          repeat' (first | (refine IfB.dec2 (fun h hd => ?_) (fun h hd => ?_) <;> (try (have h2 := h; unfold inR at h2)) <;> (try simp (maxSteps := 4000000) (disch := omega) only [go_sem, w64, AndB_of, IfB_of, IfB_no, pickE_of, pickE_no, ite_of, ite_no, tdivE, tmodE, takeAll, e, hd])) | (refine IfB.split (fun h => ?_) (fun h => ?_) <;> (try simp (maxSteps := 4000000) (disch := omega) only [go_sem, w64, AndB_of, IfB_of, IfB_no, pickE_of, pickE_no, ite_of, ite_no, tdivE, tmodE, takeAll, e, h])) | (refine DrawB.quiet (by kernel_rfl) ?_; simp (maxSteps := 4000000) (disch := omega) only [go_sem, w64, AndB_of, IfB_of, IfB_no, pickE_of, pickE_no, ite_of, ite_no, tdivE, tmodE, takeAll, e]) | (apply CallB.q (q_CompareKI kind k.least v s3 s5); simp (maxSteps := 4000000) (disch := omega) only [go_sem, w64, AndB_of, IfB_of, IfB_no, pickE_of, pickE_no, ite_of, ite_no, tdivE, tmodE, takeAll, e]) | (apply CallB.q (q_CompareKI kind k.most v s4 s5); simp (maxSteps := 4000000) (disch := omega) only [go_sem, w64, AndB_of, IfB_of, IfB_no, pickE_of, pickE_no, ite_of, ite_no, tdivE, tmodE, takeAll, e]) | (apply DCallB.q0 (q_CompareKI kind k.least v s3 s5); simp (maxSteps := 4000000) (disch := omega) only [go_sem, w64, AndB_of, IfB_of, IfB_no, pickE_of, pickE_no, ite_of, ite_no, tdivE, tmodE, takeAll, e]) | (apply DCallB.q0 (q_CompareKI kind k.most v s4 s5); simp (maxSteps := 4000000) (disch := omega) only [go_sem, w64, AndB_of, IfB_of, IfB_no, pickE_of, pickE_no, ite_of, ite_no, tdivE, tmodE, takeAll, e]) | (refine LoopB.unroll ?_; simp (maxSteps := 4000000) (disch := omega) only [go_sem, w64, AndB_of, IfB_of, IfB_no, pickE_of, pickE_no, ite_of, ite_no, tdivE, tmodE, takeAll]))
          all_goals first
            | (exfalso; apply he; right; omega)
            | (exfalso; apply he; left; exact Eq.symm (by assumption))
            | (rw [hx.1, hx.2]; unfold one1; simp [*]; done)
            | (rw [hx.1, hx.2]; unfold one1; simp [*]; omega)
    · have hx := many_no h1
      simp (maxSteps := 4000000) (disch := omega) only [go_sem, w64, AndB_of, IfB_of, IfB_no, pickE_of, pickE_no, ite_of, ite_no, tdivE, tmodE, takeAll, d1, hx.1, hx.2]
  · have hx := many_no (fun e : mayH k kind v => h0 e.1)
    simp (maxSteps := 4000000) (disch := omega) only [go_sem, w64, AndB_of, IfB_of, IfB_no, pickE_of, pickE_no, ite_of, ite_no, tdivE, tmodE, takeAll, d0, hx.1, hx.2]
theorem w_ExactManyBounds (k : GKn) (hk : KnBL k) (kind : Int) (hi : -9223372036854775808 ≤ kind ∧ kind ≤ 9223372036854775807) (v : GVal) (hv : VBL v) :
    CallQ Try.prog 10 [.agg [.int .i64 k.many, .int .i64 k.sum, .int .i64 k.least.k, .int .i64 k.least.n, .str k.least.s, .int .i64 k.most.k, .int .i64 k.most.n, .str k.most.s], .int .i64 kind, .agg [.int .i64 v.k, .int .i64 v.n, .str v.s]] noH 0 fun r _ _ => r = .bool true := by
  refine callQ_body mixed Try.func10 _ (by unfold Try.f10; rfl) Try.ntmps10 Try.results10 (by decide) (by simp) ?_
  simp (maxSteps := 4000000) (disch := omega) only [go_sem, w64, AndB_of, IfB_of, IfB_no, pickE_of, pickE_no, ite_of, ite_no, tdivE, tmodE, takeAll]
  obtain ⟨_, ⟨r0, rfl, hr0, hs0⟩, hq0⟩ := x_szKnown k 1048576 (by omega) (by omega) hk
  apply CallB.q hq0
  simp (maxSteps := 4000000) (disch := omega) only [go_sem, w64, AndB_of, IfB_of, IfB_no, pickE_of, pickE_no, ite_of, ite_no, tdivE, tmodE, takeAll]
  refine IfB.dec (fun h => ?_) (fun g0 => ?_)
  · simp (maxSteps := 4000000) (disch := omega) only [go_sem, w64, AndB_of, IfB_of, IfB_no, pickE_of, pickE_no, ite_of, ite_no, tdivE, tmodE, takeAll]
  simp (maxSteps := 4000000) (disch := omega) only [go_sem, w64, AndB_of, IfB_of, IfB_no, pickE_of, pickE_no, ite_of, ite_no, tdivE, tmodE, takeAll]
  obtain ⟨_, ⟨r1, rfl, hr1, hs1⟩, hq1⟩ := x_szValue v r0 (by omega) (by omega) hv
  apply CallB.q hq1
  simp (maxSteps := 4000000) (disch := omega) only [go_sem, w64, AndB_of, IfB_of, IfB_no, pickE_of, pickE_no, ite_of, ite_no, tdivE, tmodE, takeAll]
  refine IfB.dec (fun h => ?_) (fun g1 => ?_)
  · simp (maxSteps := 4000000) (disch := omega) only [go_sem, w64, AndB_of, IfB_of, IfB_no, pickE_of, pickE_no, ite_of, ite_no, tdivE, tmodE, takeAll]
  have kb := hs0 (by omega)
  have vb := hs1 (by omega)
  have vb2 : v.s.size ≤ 1048576 := vb
  simp (maxSteps := 4000000) (disch := omega) only [go_sem, w64, AndB_of, IfB_of, IfB_no, pickE_of, pickE_no, ite_of, ite_no, tdivE, tmodE, takeAll]
  repeat' (first | (refine IfB.dec2 (fun h hd => ?_) (fun h hd => ?_) <;> (try (have h2 := h; unfold inR at h2)) <;> (try simp (maxSteps := 4000000) (disch := omega) only [go_sem, w64, AndB_of, IfB_of, IfB_no, pickE_of, pickE_no, ite_of, ite_no, tdivE, tmodE, takeAll, hd])) | (refine IfB.split (fun h => ?_) (fun h => ?_) <;> (try simp (maxSteps := 4000000) (disch := omega) only [go_sem, w64, AndB_of, IfB_of, IfB_no, pickE_of, pickE_no, ite_of, ite_no, tdivE, tmodE, takeAll, h])) | (refine DrawB.quiet (by kernel_rfl) ?_; simp (maxSteps := 4000000) (disch := omega) only [go_sem, w64, AndB_of, IfB_of, IfB_no, pickE_of, pickE_no, ite_of, ite_no, tdivE, tmodE, takeAll]) | (apply CallB.q (t_toKnown k kb); simp (maxSteps := 4000000) (disch := omega) only [go_sem, w64, AndB_of, IfB_of, IfB_no, pickE_of, pickE_no, ite_of, ite_no, tdivE, tmodE, takeAll]) | (apply CallB.q (t_toValue v vb); simp (maxSteps := 4000000) (disch := omega) only [go_sem, w64, AndB_of, IfB_of, IfB_no, pickE_of, pickE_no, ite_of, ite_no, tdivE, tmodE, takeAll]) | (apply CallB.q (q_ManyBoundsS k kind v kb vb2); simp (maxSteps := 4000000) (disch := omega) only [go_sem, w64, AndB_of, IfB_of, IfB_no, pickE_of, pickE_no, ite_of, ite_no, tdivE, tmodE, takeAll]) | (apply CallB.q (q_ManyBoundsI k kind v kb vb2); simp (maxSteps := 4000000) (disch := omega) only [go_sem, w64, AndB_of, IfB_of, IfB_no, pickE_of, pickE_no, ite_of, ite_no, tdivE, tmodE, takeAll]) | (apply DCallB.q0 (t_toKnown k kb); simp (maxSteps := 4000000) (disch := omega) only [go_sem, w64, AndB_of, IfB_of, IfB_no, pickE_of, pickE_no, ite_of, ite_no, tdivE, tmodE, takeAll]) | (apply DCallB.q0 (t_toValue v vb); simp (maxSteps := 4000000) (disch := omega) only [go_sem, w64, AndB_of, IfB_of, IfB_no, pickE_of, pickE_no, ite_of, ite_no, tdivE, tmodE, takeAll]) | (apply DCallB.q0 (q_ManyBoundsS k kind v kb vb2); simp (maxSteps := 4000000) (disch := omega) only [go_sem, w64, AndB_of, IfB_of, IfB_no, pickE_of, pickE_no, ite_of, ite_no, tdivE, tmodE, takeAll]) | (apply DCallB.q0 (q_ManyBoundsI k kind v kb vb2); simp (maxSteps := 4000000) (disch := omega) only [go_sem, w64, AndB_of, IfB_of, IfB_no, pickE_of, pickE_no, ite_of, ite_no, tdivE, tmodE, takeAll]))
end Go.TH
