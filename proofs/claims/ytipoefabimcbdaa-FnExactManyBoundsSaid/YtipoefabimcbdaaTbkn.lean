/- TH: what is known: the walks. Made by gen.py. -/
import Derived.Test.YtipoefabimcbdaaTbo
import Derived.Test.YtipoefabimcbdaaTf3
namespace Go.TH
open Go Go.Proofs
set_option linter.unusedSimpArgs false
set_option linter.unusedVariables false
set_option maxHeartbeats 20000000
set_option maxRecDepth 100000
theorem KnB_big {k : GKn} (hb : KnB k) : k.least.s.size ≤ 9223372036854775807 ∧ k.most.s.size ≤ 9223372036854775807 := by
  have h1 := hb.1
  have h2 := hb.2
  unfold VB at h1 h2
  omega
theorem kn_eq0 {k : GKn} (h : k.many = 0) : knOk k ↔ k = kn0 := by unfold knOk; rw [if_pos h]
theorem kn_nz {k : GKn} (h : ¬ k.many = 0) : knOk k ↔ inR k.many 1 100 ∧ inR k.sum (-9999 * k.many) (9999 * k.many) ∧ k.least.Ok ∧ k.most.Ok ∧ k.least.k = k.most.k ∧ k.least.k ≠ 0 ∧ k.least.ord k.most ≤ 0 ∧ (k.least.k = 1 ∨ k.sum = 0) := by unfold knOk; rw [if_neg h]
theorem q_KnownOkI (k : GKn) (hb : KnB k) : QCall Try.prog 40 [.agg [.int .i64 k.many, .int .i64 k.sum, .int .i64 k.least.k, .int .i64 k.least.n, .str k.least.s, .int .i64 k.most.k, .int .i64 k.most.n, .str k.most.s]] (.bool (decide (knOk k))) := by
  refine qcall_body mixed Try.func40 _ (by unfold Try.f40; rfl) Try.ntmps40 Try.results40 (by decide) 0 (by simp) (by simp [pureL, pureA]) ?_
  obtain ⟨s1, s2⟩ := KnB_big hb
  simp (maxSteps := 4000000) (disch := omega) only [go_sem, w64, AndB_of, IfB_of, IfB_no, pickE_of, pickE_no, ite_of, ite_no, tdivE, tmodE, takeAll]
  refine IfB.dec (fun h => ?_) (fun h => ?_)
  · simp (maxSteps := 4000000) (disch := omega) only [go_sem, w64, AndB_of, IfB_of, IfB_no, pickE_of, pickE_no, ite_of, ite_no, tdivE, tmodE, takeAll]
    rw [AV.bool.injEq, Bool.eq_iff_iff, decide_eq_true_iff, kn_eq0 h]
    obtain ⟨m, s, ⟨a, b, c⟩, ⟨d, e, f⟩⟩ := k
    simp [kn0, v0, and_assoc]
  · have e := kn_nz h
    have e3 : k.least.k = k.most.k → QCall Try.prog 71 [.agg [.int .i64 k.most.k, .int .i64 k.least.n, .str k.least.s], .agg [.int .i64 k.most.k, .int .i64 k.most.n, .str k.most.s]] (.int .i64 (k.least.ord k.most)) := fun h => h ▸ q_order k.least k.most
    simp (maxSteps := 4000000) (disch := omega) only [go_sem, w64, AndB_of, IfB_of, IfB_no, pickE_of, pickE_no, ite_of, ite_no, tdivE, tmodE, takeAll]
    repeat' (first | (refine IfB.dec (fun h => ?_) (fun h => ?_) <;> (try (have h2 := h; unfold inR at h2)) <;> (try simp (maxSteps := 4000000) (disch := omega) only [go_sem, w64, AndB_of, IfB_of, IfB_no, pickE_of, pickE_no, ite_of, ite_no, tdivE, tmodE, takeAll, h])) | (refine IfB.split (fun h => ?_) (fun h => ?_) <;> (try simp (maxSteps := 4000000) (disch := omega) only [go_sem, w64, AndB_of, IfB_of, IfB_no, pickE_of, pickE_no, ite_of, ite_no, tdivE, tmodE, takeAll, h])) | (refine DrawB.quiet (by kernel_rfl) ?_; simp (maxSteps := 4000000) (disch := omega) only [go_sem, w64, AndB_of, IfB_of, IfB_no, pickE_of, pickE_no, ite_of, ite_no, tdivE, tmodE, takeAll]) | (apply CallB.q (q_between _ _ _); simp (maxSteps := 4000000) (disch := omega) only [go_sem, w64, AndB_of, IfB_of, IfB_no, pickE_of, pickE_no, ite_of, ite_no, tdivE, tmodE, takeAll]) | (apply CallB.q (q_ok _ s1); simp (maxSteps := 4000000) (disch := omega) only [go_sem, w64, AndB_of, IfB_of, IfB_no, pickE_of, pickE_no, ite_of, ite_no, tdivE, tmodE, takeAll]) | (apply CallB.q (q_ok _ s2); simp (maxSteps := 4000000) (disch := omega) only [go_sem, w64, AndB_of, IfB_of, IfB_no, pickE_of, pickE_no, ite_of, ite_no, tdivE, tmodE, takeAll]) | (apply CallB.q (e3 (by assumption)); simp (maxSteps := 4000000) (disch := omega) only [go_sem, w64, AndB_of, IfB_of, IfB_no, pickE_of, pickE_no, ite_of, ite_no, tdivE, tmodE, takeAll]) | (apply DCallB.q0 (q_between _ _ _); simp (maxSteps := 4000000) (disch := omega) only [go_sem, w64, AndB_of, IfB_of, IfB_no, pickE_of, pickE_no, ite_of, ite_no, tdivE, tmodE, takeAll]) | (apply DCallB.q0 (q_ok _ s1); simp (maxSteps := 4000000) (disch := omega) only [go_sem, w64, AndB_of, IfB_of, IfB_no, pickE_of, pickE_no, ite_of, ite_no, tdivE, tmodE, takeAll]) | (apply DCallB.q0 (q_ok _ s2); simp (maxSteps := 4000000) (disch := omega) only [go_sem, w64, AndB_of, IfB_of, IfB_no, pickE_of, pickE_no, ite_of, ite_no, tdivE, tmodE, takeAll]) | (apply DCallB.q0 (e3 (by assumption)); simp (maxSteps := 4000000) (disch := omega) only [go_sem, w64, AndB_of, IfB_of, IfB_no, pickE_of, pickE_no, ite_of, ite_no, tdivE, tmodE, takeAll]))
    all_goals (rw [AV.bool.injEq, Bool.eq_iff_iff]; (try simp only [decide_eq_true_iff]); rw [e])
    all_goals (first | (simp_all; done) | (simp_all; omega))
theorem q_KnownOkS (k : GKn) (hb : KnB k) : QCall Try.prog 41 [.agg [.int .i64 k.many, .int .i64 k.sum, .int .i64 k.least.k, .int .i64 k.least.n, .str k.least.s, .int .i64 k.most.k, .int .i64 k.most.n, .str k.most.s]] (.bool (decide (knOk k))) := by
  refine qcall_body mixed Try.func41 _ (by unfold Try.f41; rfl) Try.ntmps41 Try.results41 (by decide) 0 (by simp) (by simp [pureL, pureA]) ?_
  obtain ⟨s1, s2⟩ := KnB_big hb
  simp (maxSteps := 4000000) (disch := omega) only [go_sem, w64, AndB_of, IfB_of, IfB_no, pickE_of, pickE_no, ite_of, ite_no, tdivE, tmodE, takeAll]
  refine IfB.dec (fun h => ?_) (fun h => ?_)
  · simp (maxSteps := 4000000) (disch := omega) only [go_sem, w64, AndB_of, IfB_of, IfB_no, pickE_of, pickE_no, ite_of, ite_no, tdivE, tmodE, takeAll]
    rw [AV.bool.injEq, Bool.eq_iff_iff, decide_eq_true_iff, kn_eq0 h]
    obtain ⟨m, s, ⟨a, b, c⟩, ⟨d, e, f⟩⟩ := k
    simp [kn0, v0, and_assoc]
  · have e := kn_nz h
    have e3 : k.least.k = k.most.k → QCall Try.prog 69 [.agg [.int .i64 k.most.k, .int .i64 k.least.n, .str k.least.s], .agg [.int .i64 k.most.k, .int .i64 k.most.n, .str k.most.s]] (.int .i64 (valOrd k.least k.most)) := fun h => h ▸ q_ValueOrderS k.least k.most s1 s2
    simp (maxSteps := 4000000) (disch := omega) only [go_sem, w64, AndB_of, IfB_of, IfB_no, pickE_of, pickE_no, ite_of, ite_no, tdivE, tmodE, takeAll]
    repeat' (first | (refine IfB.dec (fun h => ?_) (fun h => ?_) <;> (try (have h2 := h; unfold inR at h2)) <;> (try simp (maxSteps := 4000000) (disch := omega) only [go_sem, w64, AndB_of, IfB_of, IfB_no, pickE_of, pickE_no, ite_of, ite_no, tdivE, tmodE, takeAll, h])) | (refine IfB.split (fun h => ?_) (fun h => ?_) <;> (try simp (maxSteps := 4000000) (disch := omega) only [go_sem, w64, AndB_of, IfB_of, IfB_no, pickE_of, pickE_no, ite_of, ite_no, tdivE, tmodE, takeAll, h])) | (refine DrawB.quiet (by kernel_rfl) ?_; simp (maxSteps := 4000000) (disch := omega) only [go_sem, w64, AndB_of, IfB_of, IfB_no, pickE_of, pickE_no, ite_of, ite_no, tdivE, tmodE, takeAll]) | (apply CallB.q (q_l1In _ _ _); simp (maxSteps := 4000000) (disch := omega) only [go_sem, w64, AndB_of, IfB_of, IfB_no, pickE_of, pickE_no, ite_of, ite_no, tdivE, tmodE, takeAll]) | (apply CallB.q (q_ValueOkS _ s1); simp (maxSteps := 4000000) (disch := omega) only [go_sem, w64, AndB_of, IfB_of, IfB_no, pickE_of, pickE_no, ite_of, ite_no, tdivE, tmodE, takeAll]) | (apply CallB.q (q_ValueOkS _ s2); simp (maxSteps := 4000000) (disch := omega) only [go_sem, w64, AndB_of, IfB_of, IfB_no, pickE_of, pickE_no, ite_of, ite_no, tdivE, tmodE, takeAll]) | (apply CallB.q (e3 (by assumption)); simp (maxSteps := 4000000) (disch := omega) only [go_sem, w64, AndB_of, IfB_of, IfB_no, pickE_of, pickE_no, ite_of, ite_no, tdivE, tmodE, takeAll]) | (apply DCallB.q0 (q_l1In _ _ _); simp (maxSteps := 4000000) (disch := omega) only [go_sem, w64, AndB_of, IfB_of, IfB_no, pickE_of, pickE_no, ite_of, ite_no, tdivE, tmodE, takeAll]) | (apply DCallB.q0 (q_ValueOkS _ s1); simp (maxSteps := 4000000) (disch := omega) only [go_sem, w64, AndB_of, IfB_of, IfB_no, pickE_of, pickE_no, ite_of, ite_no, tdivE, tmodE, takeAll]) | (apply DCallB.q0 (q_ValueOkS _ s2); simp (maxSteps := 4000000) (disch := omega) only [go_sem, w64, AndB_of, IfB_of, IfB_no, pickE_of, pickE_no, ite_of, ite_no, tdivE, tmodE, takeAll]) | (apply DCallB.q0 (e3 (by assumption)); simp (maxSteps := 4000000) (disch := omega) only [go_sem, w64, AndB_of, IfB_of, IfB_no, pickE_of, pickE_no, ite_of, ite_no, tdivE, tmodE, takeAll]))
    all_goals (rw [AV.bool.injEq, Bool.eq_iff_iff]; (try simp only [decide_eq_true_iff]); rw [e])
    all_goals (first | (simp_all [valOrd]; done) | (simp_all [valOrd]; omega))
theorem q_MinFunc (v w : GVal) (f : FuncId) (hf : QCall Try.prog f [.agg [.int .i64 w.k, .int .i64 w.n, .str w.s], .agg [.int .i64 v.k, .int .i64 v.n, .str v.s]] (.int .i64 (w.ord v))) : QCall Try.prog 70 [.sl 2 true [.int .i64 v.k, .int .i64 v.n, .str v.s, .int .i64 w.k, .int .i64 w.n, .str w.s], .fn f []] (.agg [.int .i64 (minV v w).k, .int .i64 (minV v w).n, .str (minV v w).s]) := by
  refine qcall_body mixed Try.func70 _ (by unfold Try.f70; rfl) Try.ntmps70 Try.results70 (by decide) 0 (by simp) (by simp [pureL, pureA]) ?_
  simp (maxSteps := 4000000) (disch := omega) only [go_sem, w64, AndB_of, IfB_of, IfB_no, pickE_of, pickE_no, ite_of, ite_no, tdivE, tmodE, takeAll]
  refine LoopB.auto (fun zs => ((intOf (slotOf zs 6)).toNat, intOf (nthA (cellsOf (blkOf zs (1))) 0), intOf (nthA (cellsOf (blkOf zs (1))) 1), strOf (nthA (cellsOf (blkOf zs (1))) 2))) (fun zz => [(0, none), (0, none), (2, none), (0, none), (0, some (.int .i64 (zz.1 : Int)))]) (fun zz => upd (upd noH 0 (.live 0 [.int .i64 0, .int .i64 0, .str ⟨#[]⟩])) 1 (.live 0 [.int .i64 zz.2.1, .int .i64 zz.2.2.1, .str zz.2.2.2])) (fun zz => 2) (fun zz => 3 - zz.1) (fun zz => (zz.1 = 1 ∧ zz.2.1 = v.k ∧ zz.2.2.1 = v.n ∧ zz.2.2.2 = v.s) ∨ (zz.1 = 2 ∧ zz.2.1 = (minV v w).k ∧ zz.2.2.1 = (minV v w).n ∧ zz.2.2.2 = (minV v w).s)) (by (first | simp (maxSteps := 4000000) (disch := omega) only [go_sem, w64, AndB_of, IfB_of, IfB_no, pickE_of, pickE_no, ite_of, ite_no, tdivE, tmodE, takeAll, hH] | simp (maxSteps := 4000000) (disch := omega) only [go_sem, w64, AndB_of, IfB_of, IfB_no, pickE_of, pickE_no, ite_of, ite_no, tdivE, tmodE, takeAll]); ((repeat' apply And.intro) <;> first | exact .inl ⟨rfl, rfl, rfl, rfl⟩ | (exact Weak.go (by (first | (simp [wkL]; done) | (simp [wkL]; omega))) (fun zi => by first | exact .inl rfl | exact .inr rfl | (simp only [upd]; repeat' split) <;> first | exact .inl ⟨rfl, rfl, rfl, rfl⟩ | exact .inl rfl | exact .inr rfl | (exfalso; omega) | exact .inr (hd _ (by omega)) | (left; subst_vars; exact hH.symm) | (left; subst_vars; rfl) | (left; simp; done) | (left; simp; omega)) (by omega)) | omega | rfl | assumption | exact Flat.nil | exact ⟨_, rfl, rfl, by assumption⟩ | (simp; done) | (simp; omega))) ?_
  intro zz zh
  obtain ⟨k, a, b, s⟩ := zz
  dsimp only at zh
  have hI := zh
  simp (maxSteps := 4000000) (disch := omega) only [go_sem, w64, AndB_of, IfB_of, IfB_no, pickE_of, pickE_no, ite_of, ite_no, tdivE, tmodE, takeAll]
  refine IfB.dec (fun h => ?_) (fun h => ?_)
  · obtain ⟨rfl, rfl, rfl, rfl⟩ : k = 1 ∧ a = v.k ∧ b = v.n ∧ s = v.s := by rcases hI with h' | h'; exact h'; omega
    simp (maxSteps := 4000000) (disch := omega) only [go_sem, w64, AndB_of, IfB_of, IfB_no, pickE_of, pickE_no, ite_of, ite_no, tdivE, tmodE, takeAll]
    refine DrawB.quiet (by kernel_rfl) ?_
    simp (maxSteps := 4000000) (disch := omega) only [go_sem, w64, AndB_of, IfB_of, IfB_no, pickE_of, pickE_no, ite_of, ite_no, tdivE, tmodE, takeAll]
    apply DCallB.q0 hf
    simp (maxSteps := 4000000) (disch := omega) only [go_sem, w64, AndB_of, IfB_of, IfB_no, pickE_of, pickE_no, ite_of, ite_no, tdivE, tmodE, takeAll]
    refine IfB.dec (fun h2 => ?_) (fun h2 => ?_)
    · have e : minV v w = w := by unfold minV; rw [if_pos h2]
      simp (maxSteps := 4000000) (disch := omega) only [go_sem, w64, AndB_of, IfB_of, IfB_no, pickE_of, pickE_no, ite_of, ite_no, tdivE, tmodE, takeAll]
      ((repeat' apply And.intro) <;> first | (rw [e]) | (exact Weak.go (by (first | (simp [wkL]; done) | (simp [wkL]; omega))) (fun zi => by first | exact .inl rfl | exact .inr rfl | (simp only [upd]; repeat' split) <;> first | (rw [e]) | exact .inl rfl | exact .inr rfl | (exfalso; omega) | exact .inr (hd _ (by omega)) | (left; subst_vars; exact hH.symm) | (left; subst_vars; rfl) | (left; simp; done) | (left; simp; omega)) (by omega)) | omega | rfl | assumption | exact Flat.nil | exact ⟨_, rfl, rfl, by assumption⟩ | (simp; done) | (simp; omega))
    · have e : minV v w = v := by unfold minV; rw [if_neg h2]
      simp (maxSteps := 4000000) (disch := omega) only [go_sem, w64, AndB_of, IfB_of, IfB_no, pickE_of, pickE_no, ite_of, ite_no, tdivE, tmodE, takeAll]
      ((repeat' apply And.intro) <;> first | (rw [e]) | (exact Weak.go (by (first | (simp [wkL]; done) | (simp [wkL]; omega))) (fun zi => by first | exact .inl rfl | exact .inr rfl | (simp only [upd]; repeat' split) <;> first | (rw [e]) | exact .inl rfl | exact .inr rfl | (exfalso; omega) | exact .inr (hd _ (by omega)) | (left; subst_vars; exact hH.symm) | (left; subst_vars; rfl) | (left; simp; done) | (left; simp; omega)) (by omega)) | omega | rfl | assumption | exact Flat.nil | exact ⟨_, rfl, rfl, by assumption⟩ | (simp; done) | (simp; omega))
  · obtain ⟨rfl, rfl, rfl, rfl⟩ : k = 2 ∧ a = (minV v w).k ∧ b = (minV v w).n ∧ s = (minV v w).s := by rcases hI with h' | h'; omega; exact h'
    simp (maxSteps := 4000000) (disch := omega) only [go_sem, w64, AndB_of, IfB_of, IfB_no, pickE_of, pickE_no, ite_of, ite_no, tdivE, tmodE, takeAll]
theorem q_MaxFunc (v w : GVal) (f : FuncId) (hf : QCall Try.prog f [.agg [.int .i64 w.k, .int .i64 w.n, .str w.s], .agg [.int .i64 v.k, .int .i64 v.n, .str v.s]] (.int .i64 (w.ord v))) : QCall Try.prog 72 [.sl 2 true [.int .i64 v.k, .int .i64 v.n, .str v.s, .int .i64 w.k, .int .i64 w.n, .str w.s], .fn f []] (.agg [.int .i64 (maxV v w).k, .int .i64 (maxV v w).n, .str (maxV v w).s]) := by
  refine qcall_body mixed Try.func72 _ (by unfold Try.f72; rfl) Try.ntmps72 Try.results72 (by decide) 0 (by simp) (by simp [pureL, pureA]) ?_
  simp (maxSteps := 4000000) (disch := omega) only [go_sem, w64, AndB_of, IfB_of, IfB_no, pickE_of, pickE_no, ite_of, ite_no, tdivE, tmodE, takeAll]
  refine LoopB.auto (fun zs => ((intOf (slotOf zs 6)).toNat, intOf (nthA (cellsOf (blkOf zs (1))) 0), intOf (nthA (cellsOf (blkOf zs (1))) 1), strOf (nthA (cellsOf (blkOf zs (1))) 2))) (fun zz => [(0, none), (0, none), (2, none), (0, none), (0, some (.int .i64 (zz.1 : Int)))]) (fun zz => upd (upd noH 0 (.live 0 [.int .i64 0, .int .i64 0, .str ⟨#[]⟩])) 1 (.live 0 [.int .i64 zz.2.1, .int .i64 zz.2.2.1, .str zz.2.2.2])) (fun zz => 2) (fun zz => 3 - zz.1) (fun zz => (zz.1 = 1 ∧ zz.2.1 = v.k ∧ zz.2.2.1 = v.n ∧ zz.2.2.2 = v.s) ∨ (zz.1 = 2 ∧ zz.2.1 = (maxV v w).k ∧ zz.2.2.1 = (maxV v w).n ∧ zz.2.2.2 = (maxV v w).s)) (by (first | simp (maxSteps := 4000000) (disch := omega) only [go_sem, w64, AndB_of, IfB_of, IfB_no, pickE_of, pickE_no, ite_of, ite_no, tdivE, tmodE, takeAll, hH] | simp (maxSteps := 4000000) (disch := omega) only [go_sem, w64, AndB_of, IfB_of, IfB_no, pickE_of, pickE_no, ite_of, ite_no, tdivE, tmodE, takeAll]); ((repeat' apply And.intro) <;> first | exact .inl ⟨rfl, rfl, rfl, rfl⟩ | (exact Weak.go (by (first | (simp [wkL]; done) | (simp [wkL]; omega))) (fun zi => by first | exact .inl rfl | exact .inr rfl | (simp only [upd]; repeat' split) <;> first | exact .inl ⟨rfl, rfl, rfl, rfl⟩ | exact .inl rfl | exact .inr rfl | (exfalso; omega) | exact .inr (hd _ (by omega)) | (left; subst_vars; exact hH.symm) | (left; subst_vars; rfl) | (left; simp; done) | (left; simp; omega)) (by omega)) | omega | rfl | assumption | exact Flat.nil | exact ⟨_, rfl, rfl, by assumption⟩ | (simp; done) | (simp; omega))) ?_
  intro zz zh
  obtain ⟨k, a, b, s⟩ := zz
  dsimp only at zh
  have hI := zh
  simp (maxSteps := 4000000) (disch := omega) only [go_sem, w64, AndB_of, IfB_of, IfB_no, pickE_of, pickE_no, ite_of, ite_no, tdivE, tmodE, takeAll]
  refine IfB.dec (fun h => ?_) (fun h => ?_)
  · obtain ⟨rfl, rfl, rfl, rfl⟩ : k = 1 ∧ a = v.k ∧ b = v.n ∧ s = v.s := by rcases hI with h' | h'; exact h'; omega
    simp (maxSteps := 4000000) (disch := omega) only [go_sem, w64, AndB_of, IfB_of, IfB_no, pickE_of, pickE_no, ite_of, ite_no, tdivE, tmodE, takeAll]
    refine DrawB.quiet (by kernel_rfl) ?_
    simp (maxSteps := 4000000) (disch := omega) only [go_sem, w64, AndB_of, IfB_of, IfB_no, pickE_of, pickE_no, ite_of, ite_no, tdivE, tmodE, takeAll]
    apply DCallB.q0 hf
    simp (maxSteps := 4000000) (disch := omega) only [go_sem, w64, AndB_of, IfB_of, IfB_no, pickE_of, pickE_no, ite_of, ite_no, tdivE, tmodE, takeAll]
    refine IfB.dec (fun h2 => ?_) (fun h2 => ?_)
    · have e : maxV v w = w := by unfold maxV; rw [if_pos (by omega)]
      simp (maxSteps := 4000000) (disch := omega) only [go_sem, w64, AndB_of, IfB_of, IfB_no, pickE_of, pickE_no, ite_of, ite_no, tdivE, tmodE, takeAll]
      ((repeat' apply And.intro) <;> first | (rw [e]) | (exact Weak.go (by (first | (simp [wkL]; done) | (simp [wkL]; omega))) (fun zi => by first | exact .inl rfl | exact .inr rfl | (simp only [upd]; repeat' split) <;> first | (rw [e]) | exact .inl rfl | exact .inr rfl | (exfalso; omega) | exact .inr (hd _ (by omega)) | (left; subst_vars; exact hH.symm) | (left; subst_vars; rfl) | (left; simp; done) | (left; simp; omega)) (by omega)) | omega | rfl | assumption | exact Flat.nil | exact ⟨_, rfl, rfl, by assumption⟩ | (simp; done) | (simp; omega))
    · have e : maxV v w = v := by unfold maxV; rw [if_neg (by omega)]
      simp (maxSteps := 4000000) (disch := omega) only [go_sem, w64, AndB_of, IfB_of, IfB_no, pickE_of, pickE_no, ite_of, ite_no, tdivE, tmodE, takeAll]
      ((repeat' apply And.intro) <;> first | (rw [e]) | (exact Weak.go (by (first | (simp [wkL]; done) | (simp [wkL]; omega))) (fun zi => by first | exact .inl rfl | exact .inr rfl | (simp only [upd]; repeat' split) <;> first | (rw [e]) | exact .inl rfl | exact .inr rfl | (exfalso; omega) | exact .inr (hd _ (by omega)) | (left; subst_vars; exact hH.symm) | (left; subst_vars; rfl) | (left; simp; done) | (left; simp; omega)) (by omega)) | omega | rfl | assumption | exact Flat.nil | exact ⟨_, rfl, rfl, by assumption⟩ | (simp; done) | (simp; omega))
  · obtain ⟨rfl, rfl, rfl, rfl⟩ : k = 2 ∧ a = (maxV v w).k ∧ b = (maxV v w).n ∧ s = (maxV v w).s := by rcases hI with h' | h'; omega; exact h'
    simp (maxSteps := 4000000) (disch := omega) only [go_sem, w64, AndB_of, IfB_of, IfB_no, pickE_of, pickE_no, ite_of, ite_no, tdivE, tmodE, takeAll]
theorem knBoth_no {a b : GKn} (h : ¬ (knOk a ∧ knOk b)) : knBoth a b = kn0 := by unfold knBoth; rw [if_pos h]
theorem knBoth_l {a b : GKn} (h1 : knOk a) (h2 : knOk b) (h : a.many = 0) : knBoth a b = b := by unfold knBoth; rw [if_neg (fun e => e ⟨h1, h2⟩), if_pos h]
theorem knBoth_r {a b : GKn} (h1 : knOk a) (h2 : knOk b) (h : ¬ a.many = 0) (h' : b.many = 0) : knBoth a b = a := by unfold knBoth; rw [if_neg (fun e => e ⟨h1, h2⟩), if_neg h, if_pos h']
theorem knBoth_x {a b : GKn} (h1 : knOk a) (h2 : knOk b) (h : ¬ a.many = 0) (h' : ¬ b.many = 0) (hc : a.least.k ≠ b.least.k ∨ 100 < a.many + b.many) : knBoth a b = kn0 := by unfold knBoth; rw [if_neg (fun e => e ⟨h1, h2⟩), if_neg h, if_neg h', if_pos hc]
theorem q_KnownBothI (a b : GKn) (ha : KnB a) (hb : KnB b) : QCall Try.prog 24 [.agg [.int .i64 a.many, .int .i64 a.sum, .int .i64 a.least.k, .int .i64 a.least.n, .str a.least.s, .int .i64 a.most.k, .int .i64 a.most.n, .str a.most.s], .agg [.int .i64 b.many, .int .i64 b.sum, .int .i64 b.least.k, .int .i64 b.least.n, .str b.least.s, .int .i64 b.most.k, .int .i64 b.most.n, .str b.most.s]] (.agg [.int .i64 (knBoth a b).many, .int .i64 (knBoth a b).sum, .int .i64 (knBoth a b).least.k, .int .i64 (knBoth a b).least.n, .str (knBoth a b).least.s, .int .i64 (knBoth a b).most.k, .int .i64 (knBoth a b).most.n, .str (knBoth a b).most.s]) := by
  refine qcall_body mixed Try.func24 _ (by unfold Try.f24; rfl) Try.ntmps24 Try.results24 (by decide) 0 (by simp) (by simp [pureL, pureA]) ?_
  simp (maxSteps := 4000000) (disch := omega) only [go_sem, w64, AndB_of, IfB_of, IfB_no, pickE_of, pickE_no, ite_of, ite_no, tdivE, tmodE, takeAll]
  apply CallB.q (q_KnownOkI _ ha)
  simp (maxSteps := 4000000) (disch := omega) only [go_sem, w64, AndB_of, IfB_of, IfB_no, pickE_of, pickE_no, ite_of, ite_no, tdivE, tmodE, takeAll]
  refine IfB.dec (fun h1 => ?_) (fun h1 => ?_)
  · simp (maxSteps := 4000000) (disch := omega) only [go_sem, w64, AndB_of, IfB_of, IfB_no, pickE_of, pickE_no, ite_of, ite_no, tdivE, tmodE, takeAll, h1]
    apply CallB.q (q_KnownOkI _ hb)
    simp (maxSteps := 4000000) (disch := omega) only [go_sem, w64, AndB_of, IfB_of, IfB_no, pickE_of, pickE_no, ite_of, ite_no, tdivE, tmodE, takeAll]
    refine IfB.dec (fun h2 => ?_) (fun h2 => ?_)
    · have b1 := knOk_many h1
      have b2 := knOk_many h2
      have b3 := knOk_sum h1
      have b4 := knOk_sum h2
      simp (maxSteps := 4000000) (disch := omega) only [go_sem, w64, AndB_of, IfB_of, IfB_no, pickE_of, pickE_no, ite_of, ite_no, tdivE, tmodE, takeAll, h2]
      refine IfB.dec (fun h3 => ?_) (fun h3 => ?_)
      · rw [knBoth_l h1 h2 h3]
        simp (maxSteps := 4000000) (disch := omega) only [go_sem, w64, AndB_of, IfB_of, IfB_no, pickE_of, pickE_no, ite_of, ite_no, tdivE, tmodE, takeAll]
      · simp (maxSteps := 4000000) (disch := omega) only [go_sem, w64, AndB_of, IfB_of, IfB_no, pickE_of, pickE_no, ite_of, ite_no, tdivE, tmodE, takeAll]
        refine IfB.dec (fun h4 => ?_) (fun h4 => ?_)
        · rw [knBoth_r h1 h2 h3 h4]
          simp (maxSteps := 4000000) (disch := omega) only [go_sem, w64, AndB_of, IfB_of, IfB_no, pickE_of, pickE_no, ite_of, ite_no, tdivE, tmodE, takeAll]
        · simp (maxSteps := 4000000) (disch := omega) only [go_sem, w64, AndB_of, IfB_of, IfB_no, pickE_of, pickE_no, ite_of, ite_no, tdivE, tmodE, takeAll]
          refine IfB.dec (fun h5 => ?_) (fun h5 => ?_)
          · simp (maxSteps := 4000000) (disch := omega) only [go_sem, w64, AndB_of, IfB_of, IfB_no, pickE_of, pickE_no, ite_of, ite_no, tdivE, tmodE, takeAll]
            refine IfB.dec (fun h6 => ?_) (fun h6 => ?_)
            · rw [knBoth_x h1 h2 h3 h4 (.inr (by omega))]
              simp (maxSteps := 4000000) (disch := omega) only [go_sem, w64, AndB_of, IfB_of, IfB_no, pickE_of, pickE_no, ite_of, ite_no, tdivE, tmodE, takeAll, kn0, v0]
            · rw [knBoth_eq h1 h2 h3 h4 h5 (by omega)]
              simp (maxSteps := 4000000) (disch := omega) only [go_sem, w64, AndB_of, IfB_of, IfB_no, pickE_of, pickE_no, ite_of, ite_no, tdivE, tmodE, takeAll]
              refine DrawB.intro [23] [23] (inS (2) (2) (2)) (by kernel_rfl) ?_
              simp (maxSteps := 4000000) (disch := omega) only [go_sem, w64, AndB_of, IfB_of, IfB_no, pickE_of, pickE_no, ite_of, ite_no, tdivE, tmodE, takeAll]
              apply DCallB.q0 (q_MinFunc a.least b.least _ (q_order _ _))
              simp (maxSteps := 4000000) (disch := omega) only [go_sem, w64, AndB_of, IfB_of, IfB_no, pickE_of, pickE_no, ite_of, ite_no, tdivE, tmodE, takeAll]
              apply DCallB.q0 (q_MaxFunc a.most b.most _ (q_order _ _))
              simp (maxSteps := 4000000) (disch := omega) only [go_sem, w64, AndB_of, IfB_of, IfB_no, pickE_of, pickE_no, ite_of, ite_no, tdivE, tmodE, takeAll]
          · rw [knBoth_x h1 h2 h3 h4 (.inl h5)]
            simp (maxSteps := 4000000) (disch := omega) only [go_sem, w64, AndB_of, IfB_of, IfB_no, pickE_of, pickE_no, ite_of, ite_no, tdivE, tmodE, takeAll, kn0, v0]
    · rw [knBoth_no (fun e => h2 e.2)]
      simp (maxSteps := 4000000) (disch := omega) only [go_sem, w64, AndB_of, IfB_of, IfB_no, pickE_of, pickE_no, ite_of, ite_no, tdivE, tmodE, takeAll, h2, kn0, v0]
  · rw [knBoth_no (fun e => h1 e.1)]
    simp (maxSteps := 4000000) (disch := omega) only [go_sem, w64, AndB_of, IfB_of, IfB_no, pickE_of, pickE_no, ite_of, ite_no, tdivE, tmodE, takeAll, h1, kn0, v0]
theorem q_KnownBothS (a b : GKn) (ha : KnB a) (hb : KnB b) : QCall Try.prog 22 [.agg [.int .i64 a.many, .int .i64 a.sum, .int .i64 a.least.k, .int .i64 a.least.n, .str a.least.s, .int .i64 a.most.k, .int .i64 a.most.n, .str a.most.s], .agg [.int .i64 b.many, .int .i64 b.sum, .int .i64 b.least.k, .int .i64 b.least.n, .str b.least.s, .int .i64 b.most.k, .int .i64 b.most.n, .str b.most.s]] (.agg [.int .i64 (knBoth a b).many, .int .i64 (knBoth a b).sum, .int .i64 (knBoth a b).least.k, .int .i64 (knBoth a b).least.n, .str (knBoth a b).least.s, .int .i64 (knBoth a b).most.k, .int .i64 (knBoth a b).most.n, .str (knBoth a b).most.s]) := by
  refine qcall_body mixed Try.func22 _ (by unfold Try.f22; rfl) Try.ntmps22 Try.results22 (by decide) 0 (by simp) (by simp [pureL, pureA]) ?_
  have sa := KnB_big ha
  have sb := KnB_big hb
  simp (maxSteps := 4000000) (disch := omega) only [go_sem, w64, AndB_of, IfB_of, IfB_no, pickE_of, pickE_no, ite_of, ite_no, tdivE, tmodE, takeAll]
  apply CallB.q (q_KnownOkS _ ha)
  simp (maxSteps := 4000000) (disch := omega) only [go_sem, w64, AndB_of, IfB_of, IfB_no, pickE_of, pickE_no, ite_of, ite_no, tdivE, tmodE, takeAll]
  refine IfB.dec (fun h1 => ?_) (fun h1 => ?_)
  · simp (maxSteps := 4000000) (disch := omega) only [go_sem, w64, AndB_of, IfB_of, IfB_no, pickE_of, pickE_no, ite_of, ite_no, tdivE, tmodE, takeAll, h1]
    apply CallB.q (q_KnownOkS _ hb)
    simp (maxSteps := 4000000) (disch := omega) only [go_sem, w64, AndB_of, IfB_of, IfB_no, pickE_of, pickE_no, ite_of, ite_no, tdivE, tmodE, takeAll]
    refine IfB.dec (fun h2 => ?_) (fun h2 => ?_)
    · have b1 := knOk_many h1
      have b2 := knOk_many h2
      have b3 := knOk_sum h1
      have b4 := knOk_sum h2
      simp (maxSteps := 4000000) (disch := omega) only [go_sem, w64, AndB_of, IfB_of, IfB_no, pickE_of, pickE_no, ite_of, ite_no, tdivE, tmodE, takeAll, h2]
      refine IfB.dec (fun h3 => ?_) (fun h3 => ?_)
      · rw [knBoth_l h1 h2 h3]
        simp (maxSteps := 4000000) (disch := omega) only [go_sem, w64, AndB_of, IfB_of, IfB_no, pickE_of, pickE_no, ite_of, ite_no, tdivE, tmodE, takeAll]
      · simp (maxSteps := 4000000) (disch := omega) only [go_sem, w64, AndB_of, IfB_of, IfB_no, pickE_of, pickE_no, ite_of, ite_no, tdivE, tmodE, takeAll]
        refine IfB.dec (fun h4 => ?_) (fun h4 => ?_)
        · rw [knBoth_r h1 h2 h3 h4]
          simp (maxSteps := 4000000) (disch := omega) only [go_sem, w64, AndB_of, IfB_of, IfB_no, pickE_of, pickE_no, ite_of, ite_no, tdivE, tmodE, takeAll]
        · simp (maxSteps := 4000000) (disch := omega) only [go_sem, w64, AndB_of, IfB_of, IfB_no, pickE_of, pickE_no, ite_of, ite_no, tdivE, tmodE, takeAll]
          refine IfB.dec (fun h5 => ?_) (fun h5 => ?_)
          · simp (maxSteps := 4000000) (disch := omega) only [go_sem, w64, AndB_of, IfB_of, IfB_no, pickE_of, pickE_no, ite_of, ite_no, tdivE, tmodE, takeAll]
            refine IfB.dec (fun h6 => ?_) (fun h6 => ?_)
            · rw [knBoth_x h1 h2 h3 h4 (.inr (by omega))]
              simp (maxSteps := 4000000) (disch := omega) only [go_sem, w64, AndB_of, IfB_of, IfB_no, pickE_of, pickE_no, ite_of, ite_no, tdivE, tmodE, takeAll, kn0, v0]
            · rw [knBoth_eq h1 h2 h3 h4 h5 (by omega)]
              have ka := knOk_nz h1 h3
              have kb := knOk_nz h2 h4
              have e1 : valOrd b.least a.least = b.least.ord a.least := by unfold valOrd; rw [if_pos ⟨kb.2.2.1, ka.2.2.1⟩]
              have e2 : valOrd b.most a.most = b.most.ord a.most := by unfold valOrd; rw [if_pos ⟨kb.2.2.2.1, ka.2.2.2.1⟩]
              simp (maxSteps := 4000000) (disch := omega) only [go_sem, w64, AndB_of, IfB_of, IfB_no, pickE_of, pickE_no, ite_of, ite_no, tdivE, tmodE, takeAll]
              apply CallB.q (q_ValueOrderS b.least a.least sb.1 sa.1)
              simp (maxSteps := 4000000) (disch := omega) only [go_sem, w64, AndB_of, IfB_of, IfB_no, pickE_of, pickE_no, ite_of, ite_no, tdivE, tmodE, takeAll, e1]
              unfold minV maxV
              refine IfB.dec (fun h7 => ?_) (fun h7 => ?_)
              · simp (maxSteps := 4000000) (disch := omega) only [go_sem, w64, AndB_of, IfB_of, IfB_no, pickE_of, pickE_no, ite_of, ite_no, tdivE, tmodE, takeAll, h7]
                apply CallB.q (q_ValueOrderS b.most a.most sb.2 sa.2)
                simp (maxSteps := 4000000) (disch := omega) only [go_sem, w64, AndB_of, IfB_of, IfB_no, pickE_of, pickE_no, ite_of, ite_no, tdivE, tmodE, takeAll, e2]
                refine IfB.dec (fun h8 => ?_) (fun h8 => ?_)
                · simp (maxSteps := 4000000) (disch := omega) only [go_sem, w64, AndB_of, IfB_of, IfB_no, pickE_of, pickE_no, ite_of, ite_no, tdivE, tmodE, takeAll, h8]
                · simp (maxSteps := 4000000) (disch := omega) only [go_sem, w64, AndB_of, IfB_of, IfB_no, pickE_of, pickE_no, ite_of, ite_no, tdivE, tmodE, takeAll, h8]
              · simp (maxSteps := 4000000) (disch := omega) only [go_sem, w64, AndB_of, IfB_of, IfB_no, pickE_of, pickE_no, ite_of, ite_no, tdivE, tmodE, takeAll, h7]
                apply CallB.q (q_ValueOrderS b.most a.most sb.2 sa.2)
                simp (maxSteps := 4000000) (disch := omega) only [go_sem, w64, AndB_of, IfB_of, IfB_no, pickE_of, pickE_no, ite_of, ite_no, tdivE, tmodE, takeAll, e2]
                refine IfB.dec (fun h8 => ?_) (fun h8 => ?_)
                · simp (maxSteps := 4000000) (disch := omega) only [go_sem, w64, AndB_of, IfB_of, IfB_no, pickE_of, pickE_no, ite_of, ite_no, tdivE, tmodE, takeAll, h8]
                · simp (maxSteps := 4000000) (disch := omega) only [go_sem, w64, AndB_of, IfB_of, IfB_no, pickE_of, pickE_no, ite_of, ite_no, tdivE, tmodE, takeAll, h8]
          · rw [knBoth_x h1 h2 h3 h4 (.inl h5)]
            simp (maxSteps := 4000000) (disch := omega) only [go_sem, w64, AndB_of, IfB_of, IfB_no, pickE_of, pickE_no, ite_of, ite_no, tdivE, tmodE, takeAll, kn0, v0]
    · rw [knBoth_no (fun e => h2 e.2)]
      simp (maxSteps := 4000000) (disch := omega) only [go_sem, w64, AndB_of, IfB_of, IfB_no, pickE_of, pickE_no, ite_of, ite_no, tdivE, tmodE, takeAll, h2, kn0, v0]
  · rw [knBoth_no (fun e => h1 e.1)]
    simp (maxSteps := 4000000) (disch := omega) only [go_sem, w64, AndB_of, IfB_of, IfB_no, pickE_of, pickE_no, ite_of, ite_no, tdivE, tmodE, takeAll, h1, kn0, v0]
theorem q_ValueOrderI (v w : GVal) (hv : v.s.size ≤ 9223372036854775807) (hw : w.s.size ≤ 9223372036854775807) : QCall Try.prog 45 [.agg [.int .i64 v.k, .int .i64 v.n, .str v.s], .agg [.int .i64 w.k, .int .i64 w.n, .str w.s]] (.int .i64 (valOrd v w)) := by
  refine qcall_body mixed Try.func45 _ (by unfold Try.f45; rfl) Try.ntmps45 Try.results45 (by decide) 0 (by simp) (by simp [pureL, pureA]) ?_
  simp (maxSteps := 4000000) (disch := omega) only [go_sem, w64, AndB_of, IfB_of, IfB_no, pickE_of, pickE_no, ite_of, ite_no, tdivE, tmodE, takeAll]
  repeat' (first | (refine IfB.dec2 (fun h hd => ?_) (fun h hd => ?_) <;> (try (have h2 := h; unfold inR at h2)) <;> (try simp (maxSteps := 4000000) (disch := omega) only [go_sem, w64, AndB_of, IfB_of, IfB_no, pickE_of, pickE_no, ite_of, ite_no, tdivE, tmodE, takeAll, hd])) | (refine IfB.split (fun h => ?_) (fun h => ?_) <;> (try simp (maxSteps := 4000000) (disch := omega) only [go_sem, w64, AndB_of, IfB_of, IfB_no, pickE_of, pickE_no, ite_of, ite_no, tdivE, tmodE, takeAll, h])) | (refine DrawB.quiet (by kernel_rfl) ?_; simp (maxSteps := 4000000) (disch := omega) only [go_sem, w64, AndB_of, IfB_of, IfB_no, pickE_of, pickE_no, ite_of, ite_no, tdivE, tmodE, takeAll]) | (apply CallB.q (q_ok _ hv); simp (maxSteps := 4000000) (disch := omega) only [go_sem, w64, AndB_of, IfB_of, IfB_no, pickE_of, pickE_no, ite_of, ite_no, tdivE, tmodE, takeAll]) | (apply CallB.q (q_ok _ hw); simp (maxSteps := 4000000) (disch := omega) only [go_sem, w64, AndB_of, IfB_of, IfB_no, pickE_of, pickE_no, ite_of, ite_no, tdivE, tmodE, takeAll]) | (apply CallB.q (q_order _ _); simp (maxSteps := 4000000) (disch := omega) only [go_sem, w64, AndB_of, IfB_of, IfB_no, pickE_of, pickE_no, ite_of, ite_no, tdivE, tmodE, takeAll]) | (apply DCallB.q0 (q_ok _ hv); simp (maxSteps := 4000000) (disch := omega) only [go_sem, w64, AndB_of, IfB_of, IfB_no, pickE_of, pickE_no, ite_of, ite_no, tdivE, tmodE, takeAll]) | (apply DCallB.q0 (q_ok _ hw); simp (maxSteps := 4000000) (disch := omega) only [go_sem, w64, AndB_of, IfB_of, IfB_no, pickE_of, pickE_no, ite_of, ite_no, tdivE, tmodE, takeAll]) | (apply DCallB.q0 (q_order _ _); simp (maxSteps := 4000000) (disch := omega) only [go_sem, w64, AndB_of, IfB_of, IfB_no, pickE_of, pickE_no, ite_of, ite_no, tdivE, tmodE, takeAll]))
  all_goals (unfold valOrd; first | rw [if_pos ⟨by assumption, by assumption⟩] | rw [if_neg (fun h => by have := h.1; have := h.2; contradiction)])
theorem q_numOf (n : Int) : QCall Try.prog 95 [.int .i64 n] (.agg [.int .i64 (numV n).k, .int .i64 (numV n).n, .str (numV n).s]) := by
  refine qcall_body mixed Try.func95 _ (by unfold Try.f95; rfl) Try.ntmps95 Try.results95 (by decide) 0 (by simp) (by simp [pureL, pureA]) ?_
  have e : (⟨1, n, ⟨#[]⟩⟩ : GVal).Ok ↔ inR n (-9999) 9999 := by unfold GVal.Ok; simp
  have c := q_ok ⟨1, n, ⟨#[]⟩⟩ (by simp)
  unfold numV
  simp (maxSteps := 4000000) (disch := omega) only [go_sem, w64, AndB_of, IfB_of, IfB_no, pickE_of, pickE_no, ite_of, ite_no, tdivE, tmodE, takeAll]
  apply CallB.q c
  simp (maxSteps := 4000000) (disch := omega) only [go_sem, w64, AndB_of, IfB_of, IfB_no, pickE_of, pickE_no, ite_of, ite_no, tdivE, tmodE, takeAll]
  refine IfB.dec (fun h1 => ?_) (fun h1 => ?_)
  · simp (maxSteps := 4000000) (disch := omega) only [go_sem, w64, AndB_of, IfB_of, IfB_no, pickE_of, pickE_no, ite_of, ite_no, tdivE, tmodE, takeAll, h1, e.1 h1]
  · simp (maxSteps := 4000000) (disch := omega) only [go_sem, w64, AndB_of, IfB_of, IfB_no, pickE_of, pickE_no, ite_of, ite_no, tdivE, tmodE, takeAll, h1, mt e.2 h1, v0]
theorem q_KnownTellI (k : GKn) (t : Int) (hb : KnB k) : QCall Try.prog 43 [.agg [.int .i64 k.many, .int .i64 k.sum, .int .i64 k.least.k, .int .i64 k.least.n, .str k.least.s, .int .i64 k.most.k, .int .i64 k.most.n, .str k.most.s], .int .i64 t] (.agg [.int .i64 (knTell k t).k, .int .i64 (knTell k t).n, .str (knTell k t).s]) := by
  refine qcall_body mixed Try.func43 _ (by unfold Try.f43; rfl) Try.ntmps43 Try.results43 (by decide) 0 (by simp) (by simp [pureL, pureA]) ?_
  simp (maxSteps := 4000000) (disch := omega) only [go_sem, w64, AndB_of, IfB_of, IfB_no, pickE_of, pickE_no, ite_of, ite_no, tdivE, tmodE, takeAll]
  apply CallB.q (q_KnownOkI k hb)
  simp (maxSteps := 4000000) (disch := omega) only [go_sem, w64, AndB_of, IfB_of, IfB_no, pickE_of, pickE_no, ite_of, ite_no, tdivE, tmodE, takeAll]
  refine IfB.dec (fun h1 => ?_) (fun h1 => ?_)
  · have e : knTell k t = if t = 1 then numV k.many else if t = 2 then (if k.least.k = 1 then numV k.sum else v0) else if t = 3 then k.least else if t = 4 then k.most else v0 := by unfold knTell; rw [if_neg (fun e => e h1)]
    rw [e]
    simp (maxSteps := 4000000) (disch := omega) only [go_sem, w64, AndB_of, IfB_of, IfB_no, pickE_of, pickE_no, ite_of, ite_no, tdivE, tmodE, takeAll, h1]
    repeat' (first | (refine IfB.dec2 (fun h hd => ?_) (fun h hd => ?_) <;> (try (have h2 := h; unfold inR at h2)) <;> (try simp (maxSteps := 4000000) (disch := omega) only [go_sem, w64, AndB_of, IfB_of, IfB_no, pickE_of, pickE_no, ite_of, ite_no, tdivE, tmodE, takeAll, hd])) | (refine IfB.split (fun h => ?_) (fun h => ?_) <;> (try simp (maxSteps := 4000000) (disch := omega) only [go_sem, w64, AndB_of, IfB_of, IfB_no, pickE_of, pickE_no, ite_of, ite_no, tdivE, tmodE, takeAll, h])) | (refine DrawB.quiet (by kernel_rfl) ?_; simp (maxSteps := 4000000) (disch := omega) only [go_sem, w64, AndB_of, IfB_of, IfB_no, pickE_of, pickE_no, ite_of, ite_no, tdivE, tmodE, takeAll]) | (apply CallB.q (q_numOf _); simp (maxSteps := 4000000) (disch := omega) only [go_sem, w64, AndB_of, IfB_of, IfB_no, pickE_of, pickE_no, ite_of, ite_no, tdivE, tmodE, takeAll]) | (apply DCallB.q0 (q_numOf _); simp (maxSteps := 4000000) (disch := omega) only [go_sem, w64, AndB_of, IfB_of, IfB_no, pickE_of, pickE_no, ite_of, ite_no, tdivE, tmodE, takeAll]))
    all_goals simp (maxSteps := 4000000) (disch := omega) only [go_sem, w64, AndB_of, IfB_of, IfB_no, pickE_of, pickE_no, ite_of, ite_no, tdivE, tmodE, takeAll, v0]
  · have e : knTell k t = v0 := by unfold knTell; rw [if_pos h1]
    rw [e]
    simp (maxSteps := 4000000) (disch := omega) only [go_sem, w64, AndB_of, IfB_of, IfB_no, pickE_of, pickE_no, ite_of, ite_no, tdivE, tmodE, takeAll, h1, v0]
theorem q_KnownTellS (k : GKn) (t : Int) (hb : KnB k) : QCall Try.prog 44 [.agg [.int .i64 k.many, .int .i64 k.sum, .int .i64 k.least.k, .int .i64 k.least.n, .str k.least.s, .int .i64 k.most.k, .int .i64 k.most.n, .str k.most.s], .int .i64 t] (.agg [.int .i64 (knTell k t).k, .int .i64 (knTell k t).n, .str (knTell k t).s]) := by
  refine qcall_body mixed Try.func44 _ (by unfold Try.f44; rfl) Try.ntmps44 Try.results44 (by decide) 0 (by simp) (by simp [pureL, pureA]) ?_
  simp (maxSteps := 4000000) (disch := omega) only [go_sem, w64, AndB_of, IfB_of, IfB_no, pickE_of, pickE_no, ite_of, ite_no, tdivE, tmodE, takeAll]
  apply CallB.q (q_KnownOkS k hb)
  simp (maxSteps := 4000000) (disch := omega) only [go_sem, w64, AndB_of, IfB_of, IfB_no, pickE_of, pickE_no, ite_of, ite_no, tdivE, tmodE, takeAll]
  refine IfB.dec (fun h1 => ?_) (fun h1 => ?_)
  · have e : knTell k t = if t = 1 then numV k.many else if t = 2 then (if k.least.k = 1 then numV k.sum else v0) else if t = 3 then k.least else if t = 4 then k.most else v0 := by unfold knTell; rw [if_neg (fun e => e h1)]
    have hm := knOk_many h1
    have em : numV k.many = ⟨1, k.many, ⟨#[]⟩⟩ := by unfold numV; rw [if_pos (show inR k.many (-9999) 9999 from ⟨by omega, by omega⟩)]
    rw [e, em]
    simp (maxSteps := 4000000) (disch := omega) only [go_sem, w64, AndB_of, IfB_of, IfB_no, pickE_of, pickE_no, ite_of, ite_no, tdivE, tmodE, takeAll, h1]
    repeat' (first | (refine IfB.dec2 (fun h hd => ?_) (fun h hd => ?_) <;> (try (have h2 := h; unfold inR at h2)) <;> (try simp (maxSteps := 4000000) (disch := omega) only [go_sem, w64, AndB_of, IfB_of, IfB_no, pickE_of, pickE_no, ite_of, ite_no, tdivE, tmodE, takeAll, hd])) | (refine IfB.split (fun h => ?_) (fun h => ?_) <;> (try simp (maxSteps := 4000000) (disch := omega) only [go_sem, w64, AndB_of, IfB_of, IfB_no, pickE_of, pickE_no, ite_of, ite_no, tdivE, tmodE, takeAll, h])) | (refine DrawB.quiet (by kernel_rfl) ?_; simp (maxSteps := 4000000) (disch := omega) only [go_sem, w64, AndB_of, IfB_of, IfB_no, pickE_of, pickE_no, ite_of, ite_no, tdivE, tmodE, takeAll]) | (apply CallB.q (q_l1In _ _ _); simp (maxSteps := 4000000) (disch := omega) only [go_sem, w64, AndB_of, IfB_of, IfB_no, pickE_of, pickE_no, ite_of, ite_no, tdivE, tmodE, takeAll]) | (apply DCallB.q0 (q_l1In _ _ _); simp (maxSteps := 4000000) (disch := omega) only [go_sem, w64, AndB_of, IfB_of, IfB_no, pickE_of, pickE_no, ite_of, ite_no, tdivE, tmodE, takeAll]))
    all_goals (try simp [numV, v0, *])
  · have e : knTell k t = v0 := by unfold knTell; rw [if_pos h1]
    rw [e]
    simp (maxSteps := 4000000) (disch := omega) only [go_sem, w64, AndB_of, IfB_of, IfB_no, pickE_of, pickE_no, ite_of, ite_no, tdivE, tmodE, takeAll, h1, v0]
theorem q_KnownOfI (v : GVal) (hv : v.s.size ≤ 1048576) : QCall Try.prog 47 [.agg [.int .i64 v.k, .int .i64 v.n, .str v.s]] (.agg [.int .i64 (knOf v).many, .int .i64 (knOf v).sum, .int .i64 (knOf v).least.k, .int .i64 (knOf v).least.n, .str (knOf v).least.s, .int .i64 (knOf v).most.k, .int .i64 (knOf v).most.n, .str (knOf v).most.s]) := by
  refine qcall_body mixed Try.func47 _ (by unfold Try.f47; rfl) Try.ntmps47 Try.results47 (by decide) 0 (by simp) (by simp [pureL, pureA]) ?_
  unfold knOf
  simp (maxSteps := 4000000) (disch := omega) only [go_sem, w64, AndB_of, IfB_of, IfB_no, pickE_of, pickE_no, ite_of, ite_no, tdivE, tmodE, takeAll]
  apply CallB.q (q_ok _ (by omega))
  simp (maxSteps := 4000000) (disch := omega) only [go_sem, w64, AndB_of, IfB_of, IfB_no, pickE_of, pickE_no, ite_of, ite_no, tdivE, tmodE, takeAll]
  refine IfB.dec (fun h1 => ?_) (fun h1 => ?_)
  · simp (maxSteps := 4000000) (disch := omega) only [go_sem, w64, AndB_of, IfB_of, IfB_no, pickE_of, pickE_no, ite_of, ite_no, tdivE, tmodE, takeAll, h1]
    refine IfB.dec (fun h2 => ?_) (fun h2 => ?_)
    · have h3 : ¬ (v.Ok ∧ v.k ≠ 0) := fun e => e.2 h2
      try simp only [if_neg h3]
      simp (maxSteps := 4000000) (disch := omega) only [go_sem, w64, AndB_of, IfB_of, IfB_no, pickE_of, pickE_no, ite_of, ite_no, tdivE, tmodE, takeAll, kn0, v0]
    · have h3 : v.Ok ∧ v.k ≠ 0 := ⟨h1, h2⟩
      simp only [if_pos h3]
      simp (maxSteps := 4000000) (disch := omega) only [go_sem, w64, AndB_of, IfB_of, IfB_no, pickE_of, pickE_no, ite_of, ite_no, tdivE, tmodE, takeAll]
      refine IfB.dec (fun h4 => ?_) (fun h4 => ?_)
      · simp only [if_pos h4]
        simp (maxSteps := 4000000) (disch := omega) only [go_sem, w64, AndB_of, IfB_of, IfB_no, pickE_of, pickE_no, ite_of, ite_no, tdivE, tmodE, takeAll]
      · simp only [if_neg h4]
        simp (maxSteps := 4000000) (disch := omega) only [go_sem, w64, AndB_of, IfB_of, IfB_no, pickE_of, pickE_no, ite_of, ite_no, tdivE, tmodE, takeAll]
  · have h3 : ¬ (v.Ok ∧ v.k ≠ 0) := fun e => h1 e.1
    try simp only [if_neg h3]
    simp (maxSteps := 4000000) (disch := omega) only [go_sem, w64, AndB_of, IfB_of, IfB_no, pickE_of, pickE_no, ite_of, ite_no, tdivE, tmodE, takeAll, h1, kn0, v0]
end Go.TH
