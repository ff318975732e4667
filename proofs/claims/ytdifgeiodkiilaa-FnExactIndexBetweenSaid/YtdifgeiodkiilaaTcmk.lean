/- TH: marks: the walks. Made by gen.py. -/
import Derived.Test.YtdifgeiodkiilaaTf3
import Derived.Test.YtdifgeiodkiilaaTco
import Derived.Test.YtdifgeiodkiilaaTcw
import Derived.Test.YtdifgeiodkiilaaTcsl
namespace Go.TH
open Go Go.Proofs
set_option linter.unusedSimpArgs false
set_option linter.unusedVariables false
set_option maxHeartbeats 20000000
set_option maxRecDepth 100000
theorem q_l31Less (a b : GMk) (ha : MkB a) (hb : MkB b) : QCall Try.prog 68 [.agg [.int .i64 a.v.k, .int .i64 a.v.n, .str a.v.s, .int .i64 a.key, .int .i64 a.born, .int .i64 a.died], .agg [.int .i64 b.v.k, .int .i64 b.v.n, .str b.v.s, .int .i64 b.key, .int .i64 b.born, .int .i64 b.died]] (.bool (decide (mkLtS a b))) := by
  unfold MkB VB at ha hb
  refine qcall_body mixed Try.func68 _ (by unfold Try.f68; rfl) Try.ntmps68 Try.results68 (by decide) 0 (by simp) (by simp [pureL, pureA]) ?_
  simp (maxSteps := 4000000) (disch := omega) only [go_sem, w64, AndB_of, IfB_of, IfB_no, pickE_of, pickE_no, ite_of, ite_no, tdivE, tmodE, takeAll]
  apply CallB.q (q_ValueOrderS a.v b.v (by omega) (by omega))
  simp (maxSteps := 4000000) (disch := omega) only [go_sem, w64, AndB_of, IfB_of, IfB_no, pickE_of, pickE_no, ite_of, ite_no, tdivE, tmodE, takeAll]
  repeat' (first | (refine IfB.dec (fun h => ?_) (fun h => ?_) <;> (try (have h2 := h; unfold inR at h2)) <;> (try simp (maxSteps := 4000000) (disch := omega) only [go_sem, w64, AndB_of, IfB_of, IfB_no, pickE_of, pickE_no, ite_of, ite_no, tdivE, tmodE, takeAll, h])) | (refine IfB.split (fun h => ?_) (fun h => ?_) <;> (try simp (maxSteps := 4000000) (disch := omega) only [go_sem, w64, AndB_of, IfB_of, IfB_no, pickE_of, pickE_no, ite_of, ite_no, tdivE, tmodE, takeAll, h])) | (refine DrawB.quiet (by kernel_rfl) ?_; simp (maxSteps := 4000000) (disch := omega) only [go_sem, w64, AndB_of, IfB_of, IfB_no, pickE_of, pickE_no, ite_of, ite_no, tdivE, tmodE, takeAll]) | (apply CallB.q (q_l1In _ _ _); simp (maxSteps := 4000000) (disch := omega) only [go_sem, w64, AndB_of, IfB_of, IfB_no, pickE_of, pickE_no, ite_of, ite_no, tdivE, tmodE, takeAll]) | (apply DCallB.q0 (q_l1In _ _ _); simp (maxSteps := 4000000) (disch := omega) only [go_sem, w64, AndB_of, IfB_of, IfB_no, pickE_of, pickE_no, ite_of, ite_no, tdivE, tmodE, takeAll]))
  all_goals (rw [AV.bool.injEq, Bool.eq_iff_iff]; (try simp only [decide_eq_true_iff]); unfold mkLtS; (try simp only [true_iff, Bool.false_eq_true, false_iff]); omega)
theorem q_l13Version0 (key born died : Int) : QCall Try.prog 67 [.agg [.int .i64 key, .int .i64 born, .int .i64 died, .sl 0 true []]] (.bool (decide (inR key 0 4 ∧ inR born 1 40 ∧ (died = 0 ∨ inR died (born + 1) 40)))) := by
  refine qcall_body mixed Try.func67 _ (by unfold Try.f67; rfl) Try.ntmps67 Try.results67 (by decide) 0 (by simp) (by simp [pureL, pureA]) ?_
  simp (maxSteps := 4000000) (disch := omega) only [go_sem, w64, AndB_of, IfB_of, IfB_no, pickE_of, pickE_no, ite_of, ite_no, tdivE, tmodE, takeAll]
  have e := QCall.tight (q_RowOkS [] (by simp) (by simp))
  rw [decide_eq_true (show rowOk [] by simp [rowOk])] at e
  repeat' (first | (refine IfB.dec (fun h => ?_) (fun h => ?_) <;> (try (have h2 := h; unfold inR at h2)) <;> (try simp (maxSteps := 4000000) (disch := omega) only [go_sem, w64, AndB_of, IfB_of, IfB_no, pickE_of, pickE_no, ite_of, ite_no, tdivE, tmodE, takeAll, h])) | (refine IfB.split (fun h => ?_) (fun h => ?_) <;> (try simp (maxSteps := 4000000) (disch := omega) only [go_sem, w64, AndB_of, IfB_of, IfB_no, pickE_of, pickE_no, ite_of, ite_no, tdivE, tmodE, takeAll, h])) | (refine DrawB.quiet (by kernel_rfl) ?_; simp (maxSteps := 4000000) (disch := omega) only [go_sem, w64, AndB_of, IfB_of, IfB_no, pickE_of, pickE_no, ite_of, ite_no, tdivE, tmodE, takeAll]) | (apply CallB.q (q_l1In _ _ _); simp (maxSteps := 4000000) (disch := omega) only [go_sem, w64, AndB_of, IfB_of, IfB_no, pickE_of, pickE_no, ite_of, ite_no, tdivE, tmodE, takeAll]) | (apply CallB.q (e); simp (maxSteps := 4000000) (disch := omega) only [go_sem, w64, AndB_of, IfB_of, IfB_no, pickE_of, pickE_no, ite_of, ite_no, tdivE, tmodE, takeAll]) | (apply DCallB.q0 (q_l1In _ _ _); simp (maxSteps := 4000000) (disch := omega) only [go_sem, w64, AndB_of, IfB_of, IfB_no, pickE_of, pickE_no, ite_of, ite_no, tdivE, tmodE, takeAll]) | (apply DCallB.q0 (e); simp (maxSteps := 4000000) (disch := omega) only [go_sem, w64, AndB_of, IfB_of, IfB_no, pickE_of, pickE_no, ite_of, ite_no, tdivE, tmodE, takeAll]))
  all_goals (rw [AV.bool.injEq, Bool.eq_iff_iff]; (try simp only [decide_eq_true_iff]); unfold inR at *; (try simp only [true_iff, Bool.false_eq_true, false_iff]); omega)
theorem q_IndexOkS (l : List GMk) (hl : l.length ≤ 1048576) (hs : ∀ t ∈ l, MkB t) : QCall Try.prog 16 [marksA l] (.bool (decide (marksOk l))) := by
  refine qcall_body mixed Try.func16 _ (by unfold Try.f16; rfl) Try.ntmps16 Try.results16 (by decide) 0 (by simp) (by simp [pureL, pureA]) ?_
  unfold marksA
  simp (maxSteps := 4000000) (disch := omega) only [go_sem, w64, AndB_of, IfB_of, IfB_no, pickE_of, pickE_no, ite_of, ite_no, tdivE, tmodE, takeAll]
  refine LoopB.auto (fun zs => (nxOf zs, (intOf (slotOf zs 3)).toNat)) (fun zz => [(0, none), (2, some (.int .i64 (zz.2 : Int)))]) (fun zz => noH) (fun zz => zz.1) (fun zz => l.length - zz.2) (fun zz => zz.2 ≤ l.length ∧ chK mkP mkLt l zz.2 ∧ noOv l zz.2) (by (first | simp (maxSteps := 4000000) (disch := omega) only [go_sem, w64, AndB_of, IfB_of, IfB_no, pickE_of, pickE_no, ite_of, ite_no, tdivE, tmodE, takeAll, hH] | simp (maxSteps := 4000000) (disch := omega) only [go_sem, w64, AndB_of, IfB_of, IfB_no, pickE_of, pickE_no, ite_of, ite_no, tdivE, tmodE, takeAll]); ((repeat' apply And.intro) <;> first | exact noOv.zero | (exact Weak.go (by (first | (simp [wkL]; done) | (simp [wkL]; omega))) (fun zi => by first | exact .inl rfl | exact .inr rfl | (simp only [upd]; repeat' split) <;> first | exact noOv.zero | exact .inl rfl | exact .inr rfl | (exfalso; omega) | exact .inr (hd _ (by omega)) | (left; subst_vars; exact hH.symm) | (left; subst_vars; rfl) | (left; simp; done) | (left; simp; omega)) (by omega)) | omega | rfl | assumption | exact Flat.nil | exact ⟨_, rfl, rfl, by assumption⟩ | (simp; done) | (simp; omega))) ?_
  intro zz zh
  obtain ⟨n, k⟩ := zz
  dsimp only at zh
  obtain ⟨hk, hch, hov⟩ := zh
  simp (maxSteps := 4000000) (disch := omega) only [go_sem, w64, AndB_of, IfB_of, IfB_no, pickE_of, pickE_no, ite_of, ite_no, tdivE, tmodE, takeAll]
  refine IfB.dec (fun h1 => ?_) (fun h1 => ?_)
  · have h1' : k < l.length := by omega
    have hb := hs _ (List.getElem_mem h1')
    have hz : l[k].v.s.size ≤ 9223372036854775807 := by unfold MkB VB at hb; omega
    have hsi : ∀ i (h : i < l.length), MkB l[i] := fun i h => hs _ (List.getElem_mem h)
    have hok : ∀ i (h : i < l.length), i < k → l[i].v.Ok := fun i h h2 => (hch.1 i h h2).1
    have no1 : ¬ mkP l[k] → decide (marksOk l) = false := fun e => decide_eq_false fun e2 => chain.no1 h1' e e2.2.1
    have no2 : ∀ (hb : ((k : Int) - 1).toNat < l.length), (0 : Int) < k → l[k].v.Ok → ¬ mkLtS l[((k : Int) - 1).toNat] l[k] → decide (marksOk l) = false := fun hb h0 ho h => decide_eq_false fun e2 => chain.no2 h1' hb h0 (fun e => h ((mkLtS_ok (hch.left hk hb h0).1 ho).2 e)) e2.2.1
    have yes2 : ∀ (hb : ((k : Int) - 1).toNat < l.length), (0 : Int) < k → l[k].v.Ok → mkLtS l[((k : Int) - 1).toNat] l[k] → mkLt l[((k : Int) - 1).toNat] l[k] := fun hb h0 ho h => (mkLtS_ok (hch.left hk hb h0).1 ho).1 h
    simp (maxSteps := 4000000) (disch := omega) only [go_sem, w64, AndB_of, IfB_of, IfB_no, pickE_of, pickE_no, ite_of, ite_no, tdivE, tmodE, takeAll]
    refine DrawB.quiet (by kernel_rfl) ?_
    simp (maxSteps := 4000000) (disch := omega) only [go_sem, w64, AndB_of, IfB_of, IfB_no, pickE_of, pickE_no, ite_of, ite_no, tdivE, tmodE, takeAll]
    repeat' (first | (refine IfB.dec (fun h => ?_) (fun h => ?_) <;> (try (have h2 := h; unfold inR at h2)) <;> (try simp (maxSteps := 4000000) (disch := omega) only [go_sem, w64, AndB_of, IfB_of, IfB_no, pickE_of, pickE_no, ite_of, ite_no, tdivE, tmodE, takeAll, h])) | (refine IfB.split (fun h => ?_) (fun h => ?_) <;> (try simp (maxSteps := 4000000) (disch := omega) only [go_sem, w64, AndB_of, IfB_of, IfB_no, pickE_of, pickE_no, ite_of, ite_no, tdivE, tmodE, takeAll, h])) | (refine DrawB.quiet (by kernel_rfl) ?_; simp (maxSteps := 4000000) (disch := omega) only [go_sem, w64, AndB_of, IfB_of, IfB_no, pickE_of, pickE_no, ite_of, ite_no, tdivE, tmodE, takeAll]) | (apply CallB.q (q_ValueOkS _ hz); simp (maxSteps := 4000000) (disch := omega) only [go_sem, w64, AndB_of, IfB_of, IfB_no, pickE_of, pickE_no, ite_of, ite_no, tdivE, tmodE, takeAll]) | (apply CallB.q (q_l31Less _ _ (hsi _ _) hb); simp (maxSteps := 4000000) (disch := omega) only [go_sem, w64, AndB_of, IfB_of, IfB_no, pickE_of, pickE_no, ite_of, ite_no, tdivE, tmodE, takeAll]) | (apply CallB.q (q_l13Version0 _ _ _); simp (maxSteps := 4000000) (disch := omega) only [go_sem, w64, AndB_of, IfB_of, IfB_no, pickE_of, pickE_no, ite_of, ite_no, tdivE, tmodE, takeAll]) | (apply DCallB.q0 (q_ValueOkS _ hz); simp (maxSteps := 4000000) (disch := omega) only [go_sem, w64, AndB_of, IfB_of, IfB_no, pickE_of, pickE_no, ite_of, ite_no, tdivE, tmodE, takeAll]) | (apply DCallB.q0 (q_l31Less _ _ (hsi _ _) hb); simp (maxSteps := 4000000) (disch := omega) only [go_sem, w64, AndB_of, IfB_of, IfB_no, pickE_of, pickE_no, ite_of, ite_no, tdivE, tmodE, takeAll]) | (apply DCallB.q0 (q_l13Version0 _ _ _); simp (maxSteps := 4000000) (disch := omega) only [go_sem, w64, AndB_of, IfB_of, IfB_no, pickE_of, pickE_no, ite_of, ite_no, tdivE, tmodE, takeAll]))
    all_goals first
      | (rw [no1 (fun e => by first | (have := e.1; contradiction) | (have := e.2; contradiction))]; done)
      | (rw [no2 (by omega) (by assumption) (by assumption) (by assumption)]; done)
      | (have hy := hch.step h1' ⟨by assumption, by assumption⟩ (by first | (left; assumption) | (right; refine ⟨by omega, yes2 (by omega) (by assumption) (by assumption) (by assumption)⟩)))
    all_goals
      refine LoopB.auto (fun zs => (nxOf zs, (intOf (slotOf zs 5)).toNat)) (fun zz => [(0, none), (2, none), (0, none), (0, some (.int .i64 (zz.2 : Int)))]) (fun zz => upd noH n (.live 0 [.int .i64 l[k].v.k, .int .i64 l[k].v.n, .str l[k].v.s, .int .i64 l[k].key, .int .i64 l[k].born, .int .i64 l[k].died])) (fun zz => zz.1) (fun zz => k - zz.2) (fun zz => zz.2 ≤ k ∧ n < zz.1 ∧ noOvj l l[k] zz.2) (by (first | simp (maxSteps := 4000000) (disch := omega) only [go_sem, w64, AndB_of, IfB_of, IfB_no, pickE_of, pickE_no, ite_of, ite_no, tdivE, tmodE, takeAll, hH] | simp (maxSteps := 4000000) (disch := omega) only [go_sem, w64, AndB_of, IfB_of, IfB_no, pickE_of, pickE_no, ite_of, ite_no, tdivE, tmodE, takeAll]); ((repeat' apply And.intro) <;> first | exact noOvj.zero | (exact Weak.go (by (first | (simp [wkL]; done) | (simp [wkL]; omega))) (fun zi => by first | exact .inl rfl | exact .inr rfl | (simp only [upd]; repeat' split) <;> first | exact noOvj.zero | exact .inl rfl | exact .inr rfl | (exfalso; omega) | exact .inr (hd _ (by omega)) | (left; subst_vars; exact hH.symm) | (left; subst_vars; rfl) | (left; simp; done) | (left; simp; omega)) (by omega)) | omega | rfl | assumption | exact Flat.nil | exact ⟨_, rfl, rfl, by assumption⟩ | (simp; done) | (simp; omega))) ?_
      intro zz zh
      obtain ⟨n2, j⟩ := zz
      dsimp only at zh
      obtain ⟨hj, hn2, hno⟩ := zh
      simp (maxSteps := 4000000) (disch := omega) only [go_sem, w64, AndB_of, IfB_of, IfB_no, pickE_of, pickE_no, ite_of, ite_no, tdivE, tmodE, takeAll]
      try (((repeat' apply And.intro) <;> first | exact hy | exact hy.1 | exact hy.2 | exact hov.stepj h1' hno (by omega) | (exact Weak.go (by (first | (simp [wkL]; done) | (simp [wkL]; omega))) (fun zi => by first | exact .inl rfl | exact .inr rfl | (simp only [upd]; repeat' split) <;> first | exact hy | exact hy.1 | exact hy.2 | exact hov.stepj h1' hno (by omega) | exact .inl rfl | exact .inr rfl | (exfalso; omega) | exact .inr (hd _ (by omega)) | (left; subst_vars; exact hH.symm) | (left; subst_vars; rfl) | (left; simp; done) | (left; simp; omega)) (by omega)) | omega | rfl | assumption | exact Flat.nil | exact ⟨_, rfl, rfl, by assumption⟩ | (simp; done) | (simp; omega)); done)
    refine IfB.dec (fun h3 => ?_) (fun h3 => ?_)
    · have h3' : j < l.length := by omega
      have hp := (hy.1 k h1' (by omega)).2.2
      have hp2 := (hy.1 j h3' (by omega)).2.2
      have no3 : mkOver l[j] l[k] → decide (marksOk l) = false := fun e => decide_eq_false (marksOk.no3 h1' (by omega) e)
      have yes3 : ¬ mkOver l[j] l[k] → noOvj l l[k] (j + 1) := fun e => hno.step h3' e
      unfold inR at hp hp2
      simp (maxSteps := 4000000) (disch := omega) only [go_sem, w64, AndB_of, IfB_of, IfB_no, pickE_of, pickE_no, ite_of, ite_no, tdivE, tmodE, takeAll]
      repeat' (first | (refine IfB.dec (fun h => ?_) (fun h => ?_) <;> (try (have h2 := h; unfold inR at h2)) <;> (try simp (maxSteps := 4000000) (disch := omega) only [go_sem, w64, AndB_of, IfB_of, IfB_no, pickE_of, pickE_no, ite_of, ite_no, tdivE, tmodE, takeAll, h])) | (refine IfB.split (fun h => ?_) (fun h => ?_) <;> (try simp (maxSteps := 4000000) (disch := omega) only [go_sem, w64, AndB_of, IfB_of, IfB_no, pickE_of, pickE_no, ite_of, ite_no, tdivE, tmodE, takeAll, h])) | (refine DrawB.quiet (by kernel_rfl) ?_; simp (maxSteps := 4000000) (disch := omega) only [go_sem, w64, AndB_of, IfB_of, IfB_no, pickE_of, pickE_no, ite_of, ite_no, tdivE, tmodE, takeAll]))
      all_goals first
        | (rw [no3 (by unfold mkOver mkEnd; repeat' split; all_goals omega)]; done)
        | (have hy3 := yes3 (by unfold mkOver mkEnd; repeat' split; all_goals omega)
           ((repeat' apply And.intro) <;> first | exact hy3 | (exact Weak.go (by (first | (simp [wkL]; done) | (simp [wkL]; omega))) (fun zi => by first | exact .inl rfl | exact .inr rfl | (simp only [upd]; repeat' split) <;> first | exact hy3 | exact .inl rfl | exact .inr rfl | (exfalso; omega) | exact .inr (hd _ (by omega)) | (left; subst_vars; exact hH.symm) | (left; subst_vars; rfl) | (left; simp; done) | (left; simp; omega)) (by omega)) | omega | rfl | assumption | exact Flat.nil | exact ⟨_, rfl, rfl, by assumption⟩ | (simp; done) | (simp; omega)))
    · simp (maxSteps := 4000000) (disch := omega) only [go_sem, w64, AndB_of, IfB_of, IfB_no, pickE_of, pickE_no, ite_of, ite_no, tdivE, tmodE, takeAll]
      ((repeat' apply And.intro) <;> first | exact hy | exact hy.1 | exact hy.2 | exact hov.stepj h1' hno (by omega) | (exact Weak.go (by (first | (simp [wkL]; done) | (simp [wkL]; omega))) (fun zi => by first | exact .inl rfl | exact .inr rfl | (simp only [upd]; repeat' split) <;> first | exact hy | exact hy.1 | exact hy.2 | exact hov.stepj h1' hno (by omega) | exact .inl rfl | exact .inr rfl | (exfalso; omega) | exact .inr (hd _ (by omega)) | (left; subst_vars; exact hH.symm) | (left; subst_vars; rfl) | (left; simp; done) | (left; simp; omega)) (by omega)) | omega | rfl | assumption | exact Flat.nil | exact ⟨_, rfl, rfl, by assumption⟩ | (simp; done) | (simp; omega))
  · simp (maxSteps := 4000000) (disch := omega) only [go_sem, w64, AndB_of, IfB_of, IfB_no, pickE_of, pickE_no, ite_of, ite_no, tdivE, tmodE, takeAll]
    rw [AV.bool.injEq, Bool.eq_iff_iff]; (try simp only [decide_eq_true_iff])
    exact ⟨fun h => marksOk_fin hch hov (by omega) (by omega), fun h => by have := h.1; omega⟩
theorem q_mkOrder (a b : GMk) : QCall Try.prog 73 [.agg [.int .i64 a.v.k, .int .i64 a.v.n, .str a.v.s, .int .i64 a.key, .int .i64 a.born, .int .i64 a.died], .agg [.int .i64 b.v.k, .int .i64 b.v.n, .str b.v.s, .int .i64 b.key, .int .i64 b.born, .int .i64 b.died]] (.int .i64 (mkOrd a b)) := by
  refine qcall_body mixed Try.func73 _ (by unfold Try.f73; rfl) Try.ntmps73 Try.results73 (by decide) 0 (by simp) (by simp [pureL, pureA]) ?_
  simp (maxSteps := 4000000) (disch := omega) only [go_sem, w64, AndB_of, IfB_of, IfB_no, pickE_of, pickE_no, ite_of, ite_no, tdivE, tmodE, takeAll]
  refine DrawB.intro [15, 16] [16] (inS (2) (2) (2)) (by kernel_rfl) ?_
  simp (maxSteps := 4000000) (disch := omega) only [go_sem, w64, AndB_of, IfB_of, IfB_no, pickE_of, pickE_no, ite_of, ite_no, tdivE, tmodE, takeAll]
  first | apply CallB.q (q_order a.v b.v) | apply DCallB.q0 (q_order a.v b.v)
  simp (maxSteps := 4000000) (disch := omega) only [go_sem, w64, AndB_of, IfB_of, IfB_no, pickE_of, pickE_no, ite_of, ite_no, tdivE, tmodE, takeAll]
  first | apply CallB.q (q_CompareI _ _) | apply DCallB.q0 (q_CompareI _ _)
  simp (maxSteps := 4000000) (disch := omega) only [go_sem, w64, AndB_of, IfB_of, IfB_no, pickE_of, pickE_no, ite_of, ite_no, tdivE, tmodE, takeAll]
  first | apply CallB.q (q_CompareI _ _) | apply DCallB.q0 (q_CompareI _ _)
  simp (maxSteps := 4000000) (disch := omega) only [go_sem, w64, AndB_of, IfB_of, IfB_no, pickE_of, pickE_no, ite_of, ite_no, tdivE, tmodE, takeAll]
  have e := q_Or [a.v.ord b.v, cmpI a.key b.key, cmpI a.born b.born] false (by simp)
  apply CallB.borrow 1 (r := .int .i64 (mkOrd a b)) _ rfl
  · simp (maxSteps := 4000000) (disch := omega) only [go_sem, w64, AndB_of, IfB_of, IfB_no, pickE_of, pickE_no, ite_of, ite_no, tdivE, tmodE, takeAll]
  · simp (maxSteps := 4000000) (disch := omega) only [go_sem, w64, AndB_of, IfB_of, IfB_no, pickE_of, pickE_no, ite_of, ite_no, tdivE, tmodE, takeAll]
    exact e
theorem q_mkEnd (a : GMk) : QCall Try.prog 76 [.agg [.int .i64 a.v.k, .int .i64 a.v.n, .str a.v.s, .int .i64 a.key, .int .i64 a.born, .int .i64 a.died]] (.int .i64 (mkEnd a)) := by
  refine qcall_body mixed Try.func76 _ (by unfold Try.f76; rfl) Try.ntmps76 Try.results76 (by decide) 0 (by simp) (by simp [pureL, pureA]) ?_
  unfold mkEnd
  simp (maxSteps := 4000000) (disch := omega) only [go_sem, w64, AndB_of, IfB_of, IfB_no, pickE_of, pickE_no, ite_of, ite_no, tdivE, tmodE, takeAll]
  repeat' (first | (refine IfB.dec (fun h => ?_) (fun h => ?_) <;> (try (have h2 := h; unfold inR at h2)) <;> (try simp (maxSteps := 4000000) (disch := omega) only [go_sem, w64, AndB_of, IfB_of, IfB_no, pickE_of, pickE_no, ite_of, ite_no, tdivE, tmodE, takeAll, h])) | (refine IfB.split (fun h => ?_) (fun h => ?_) <;> (try simp (maxSteps := 4000000) (disch := omega) only [go_sem, w64, AndB_of, IfB_of, IfB_no, pickE_of, pickE_no, ite_of, ite_no, tdivE, tmodE, takeAll, h])) | (refine DrawB.quiet (by kernel_rfl) ?_; simp (maxSteps := 4000000) (disch := omega) only [go_sem, w64, AndB_of, IfB_of, IfB_no, pickE_of, pickE_no, ite_of, ite_no, tdivE, tmodE, takeAll]))
theorem q_IndexOk1 (n m : GMk) : QCall Try.prog 75 [.agg [.int .i64 n.v.k, .int .i64 n.v.n, .str n.v.s, .int .i64 n.key, .int .i64 n.born, .int .i64 n.died], .ro [.int .i64 m.v.k, .int .i64 m.v.n, .str m.v.s, .int .i64 m.key, .int .i64 m.born, .int .i64 m.died]] (.bool (decide (mkOver n m))) := by
  refine qcall_body mixed Try.func75 _ (by unfold Try.f75; rfl) Try.ntmps75 Try.results75 (by decide) 0 (by simp) (by simp [pureL, pureA]) ?_
  simp (maxSteps := 4000000) (disch := omega) only [go_sem, w64, AndB_of, IfB_of, IfB_no, pickE_of, pickE_no, ite_of, ite_no, tdivE, tmodE, takeAll]
  repeat' (first | (refine IfB.dec2 (fun h hd => ?_) (fun h hd => ?_) <;> (try (have h2 := h; unfold inR at h2)) <;> (try simp (maxSteps := 4000000) (disch := omega) only [go_sem, w64, AndB_of, IfB_of, IfB_no, pickE_of, pickE_no, ite_of, ite_no, tdivE, tmodE, takeAll, hd])) | (refine IfB.split (fun h => ?_) (fun h => ?_) <;> (try simp (maxSteps := 4000000) (disch := omega) only [go_sem, w64, AndB_of, IfB_of, IfB_no, pickE_of, pickE_no, ite_of, ite_no, tdivE, tmodE, takeAll, h])) | (refine DrawB.quiet (by kernel_rfl) ?_; simp (maxSteps := 4000000) (disch := omega) only [go_sem, w64, AndB_of, IfB_of, IfB_no, pickE_of, pickE_no, ite_of, ite_no, tdivE, tmodE, takeAll]) | (apply CallB.q (q_mkEnd m); simp (maxSteps := 4000000) (disch := omega) only [go_sem, w64, AndB_of, IfB_of, IfB_no, pickE_of, pickE_no, ite_of, ite_no, tdivE, tmodE, takeAll]) | (apply CallB.q (q_mkEnd n); simp (maxSteps := 4000000) (disch := omega) only [go_sem, w64, AndB_of, IfB_of, IfB_no, pickE_of, pickE_no, ite_of, ite_no, tdivE, tmodE, takeAll]) | (apply DCallB.q0 (q_mkEnd m); simp (maxSteps := 4000000) (disch := omega) only [go_sem, w64, AndB_of, IfB_of, IfB_no, pickE_of, pickE_no, ite_of, ite_no, tdivE, tmodE, takeAll]) | (apply DCallB.q0 (q_mkEnd n); simp (maxSteps := 4000000) (disch := omega) only [go_sem, w64, AndB_of, IfB_of, IfB_no, pickE_of, pickE_no, ite_of, ite_no, tdivE, tmodE, takeAll]))
  all_goals (rw [AV.bool.injEq, Bool.eq_iff_iff]; (try simp only [decide_eq_true_iff]); unfold mkOver; (try simp only [true_iff, Bool.false_eq_true, false_iff]); omega)
theorem q_IndexOkI (l : List GMk) (hl : l.length ≤ 1048576) (hs : ∀ t ∈ l, MkB t) : QCall Try.prog 18 [marksA l] (.bool (decide (marksOk l))) := by
  refine qcall_body mixed Try.func18 _ (by unfold Try.f18; rfl) Try.ntmps18 Try.results18 (by decide) 0 (by simp) (by simp [pureL, pureA]) ?_
  unfold marksA
  simp (maxSteps := 4000000) (disch := omega) only [go_sem, w64, AndB_of, IfB_of, IfB_no, pickE_of, pickE_no, ite_of, ite_no, tdivE, tmodE, takeAll]
  refine LoopB.auto (fun zs => (nxOf zs, (intOf (slotOf zs 7)).toNat)) (fun zz => [(0, none), (4, none), (0, none), (0, some (.int .i64 (zz.2 : Int)))]) (fun zz => noH) (fun zz => zz.1) (fun zz => l.length - zz.2) (fun zz => zz.2 ≤ l.length ∧ chK mkP mkLt l zz.2 ∧ noOv l zz.2) (by (first | simp (maxSteps := 4000000) (disch := omega) only [go_sem, w64, AndB_of, IfB_of, IfB_no, pickE_of, pickE_no, ite_of, ite_no, tdivE, tmodE, takeAll, hH] | simp (maxSteps := 4000000) (disch := omega) only [go_sem, w64, AndB_of, IfB_of, IfB_no, pickE_of, pickE_no, ite_of, ite_no, tdivE, tmodE, takeAll]); ((repeat' apply And.intro) <;> first | exact noOv.zero | (exact Weak.go (by (first | (simp [wkL]; done) | (simp [wkL]; omega))) (fun zi => by first | exact .inl rfl | exact .inr rfl | (simp only [upd]; repeat' split) <;> first | exact noOv.zero | exact .inl rfl | exact .inr rfl | (exfalso; omega) | exact .inr (hd _ (by omega)) | (left; subst_vars; exact hH.symm) | (left; subst_vars; rfl) | (left; simp; done) | (left; simp; omega)) (by omega)) | omega | rfl | assumption | exact Flat.nil | exact ⟨_, rfl, rfl, by assumption⟩ | (simp; done) | (simp; omega))) ?_
  intro zz zh
  obtain ⟨n, k⟩ := zz
  dsimp only at zh
  obtain ⟨hk, hch, hov⟩ := zh
  simp (maxSteps := 4000000) (disch := omega) only [go_sem, w64, AndB_of, IfB_of, IfB_no, pickE_of, pickE_no, ite_of, ite_no, tdivE, tmodE, takeAll]
  refine IfB.dec (fun h1 => ?_) (fun h1 => ?_)
  · have h1' : k < l.length := by omega
    have hb := hs _ (List.getElem_mem h1')
    have hz : l[k].v.s.size ≤ 9223372036854775807 := by unfold MkB VB at hb; omega
    have no1 : ¬ mkP l[k] → decide (marksOk l) = false := fun e => decide_eq_false fun e2 => chain.no1 h1' e e2.2.1
    have no2 : ∀ (hb : ((k : Int) - 1).toNat < l.length), (0 : Int) < k → 0 < mkOrd l[((k : Int) - 1).toNat] l[k] → decide (marksOk l) = false := fun hb h0 h => decide_eq_false fun e2 => chain.no2 h1' hb h0 (mkOrd_pos.1 h).1 e2.2.1
    have no3 : ((l.take k).any fun n => decide (mkOver n l[k])) = true → decide (marksOk l) = false := fun e => decide_eq_false fun e2 => by
      have h5 := (noOvj_any (m := l[k]) hk).2 fun i hi hik => e2.2.2 k i h1' hik h1'
      rw [h5] at e
      cases e
    have yes2 : ∀ (hb : ((k : Int) - 1).toNat < l.length), (0 : Int) < k → mkP l[k] → ¬ 0 < mkOrd l[((k : Int) - 1).toNat] l[k] → noOvj l l[k] k → mkLt l[((k : Int) - 1).toNat] l[k] := fun hb h0 hp h hn => by
      rw [mkOrd_pos] at h
      by_cases g : mkLt l[((k : Int) - 1).toNat] l[k]
      · exact g
      · exfalso
        have g2 : l[((k : Int) - 1).toNat].key = l[k].key ∧ l[((k : Int) - 1).toNat].born = l[k].born := Classical.byContradiction fun c => h ⟨g, fun c2 => c c2.2⟩
        have hp2 := hch.left hk hb h0
        apply hn _ hb (by omega)
        have a1 := hp.2.2
        have a2 := hp2.2.2
        unfold inR at a1 a2
        unfold mkOver mkEnd
        repeat' split
        all_goals omega
    simp (maxSteps := 4000000) (disch := omega) only [go_sem, w64, AndB_of, IfB_of, IfB_no, pickE_of, pickE_no, ite_of, ite_no, tdivE, tmodE, takeAll]
    refine DrawB.quiet (by kernel_rfl) ?_
    simp (maxSteps := 4000000) (disch := omega) only [go_sem, w64, AndB_of, IfB_of, IfB_no, pickE_of, pickE_no, ite_of, ite_no, tdivE, tmodE, takeAll]
    repeat' (first | (refine IfB.dec2 (fun h hd => ?_) (fun h hd => ?_) <;> (try (have h2 := h; unfold inR at h2)) <;> (try simp (maxSteps := 4000000) (disch := omega) only [go_sem, w64, AndB_of, IfB_of, IfB_no, pickE_of, pickE_no, ite_of, ite_no, tdivE, tmodE, takeAll, hd])) | (refine IfB.split (fun h => ?_) (fun h => ?_) <;> (try simp (maxSteps := 4000000) (disch := omega) only [go_sem, w64, AndB_of, IfB_of, IfB_no, pickE_of, pickE_no, ite_of, ite_no, tdivE, tmodE, takeAll, h])) | (refine DrawB.quiet (by kernel_rfl) ?_; simp (maxSteps := 4000000) (disch := omega) only [go_sem, w64, AndB_of, IfB_of, IfB_no, pickE_of, pickE_no, ite_of, ite_no, tdivE, tmodE, takeAll]) | (apply CallB.q (q_ok _ hz); simp (maxSteps := 4000000) (disch := omega) only [go_sem, w64, AndB_of, IfB_of, IfB_no, pickE_of, pickE_no, ite_of, ite_no, tdivE, tmodE, takeAll]) | (apply CallB.q (q_keyOk _); simp (maxSteps := 4000000) (disch := omega) only [go_sem, w64, AndB_of, IfB_of, IfB_no, pickE_of, pickE_no, ite_of, ite_no, tdivE, tmodE, takeAll]) | (apply CallB.q (q_between _ _ _); simp (maxSteps := 4000000) (disch := omega) only [go_sem, w64, AndB_of, IfB_of, IfB_no, pickE_of, pickE_no, ite_of, ite_no, tdivE, tmodE, takeAll]) | (apply CallB.q (q_mkOrder _ _); simp (maxSteps := 4000000) (disch := omega) only [go_sem, w64, AndB_of, IfB_of, IfB_no, pickE_of, pickE_no, ite_of, ite_no, tdivE, tmodE, takeAll]) | (apply DCallB.q0 (q_ok _ hz); simp (maxSteps := 4000000) (disch := omega) only [go_sem, w64, AndB_of, IfB_of, IfB_no, pickE_of, pickE_no, ite_of, ite_no, tdivE, tmodE, takeAll]) | (apply DCallB.q0 (q_keyOk _); simp (maxSteps := 4000000) (disch := omega) only [go_sem, w64, AndB_of, IfB_of, IfB_no, pickE_of, pickE_no, ite_of, ite_no, tdivE, tmodE, takeAll]) | (apply DCallB.q0 (q_between _ _ _); simp (maxSteps := 4000000) (disch := omega) only [go_sem, w64, AndB_of, IfB_of, IfB_no, pickE_of, pickE_no, ite_of, ite_no, tdivE, tmodE, takeAll]) | (apply DCallB.q0 (q_mkOrder _ _); simp (maxSteps := 4000000) (disch := omega) only [go_sem, w64, AndB_of, IfB_of, IfB_no, pickE_of, pickE_no, ite_of, ite_no, tdivE, tmodE, takeAll]))
    all_goals first
      | (rw [no2 (by omega) (by assumption) (by assumption)]; done)
      | (rw [no1 (fun e => by unfold mkP at e; obtain ⟨a1, a2, a3, a4⟩ := e; first | contradiction | (rcases a4 with a4 | a4 <;> (first | contradiction | omega)))]; done)
      | skip
    all_goals
      have hp : mkP l[k] := ⟨by assumption, by assumption, by assumption, by first | (left; assumption) | (right; assumption)⟩
      have hlt : noOvj l l[k] k → (¬ (0 : Int) < k ∨ ∃ hb : ((k : Int) - 1).toNat < l.length, mkLt l[((k : Int) - 1).toNat] l[k]) := fun hn => by first | (left; assumption) | (right; exact ⟨by omega, yes2 (by omega) (by assumption) hp (by assumption) hn⟩)
      have e := q_ContainsFuncMk (l.take k) _ [.ro [.int .i64 l[k].v.k, .int .i64 l[k].v.n, .str l[k].v.s, .int .i64 l[k].key, .int .i64 l[k].born, .int .i64 l[k].died]] (by simp [pureL, pureA]) (fun n => decide (mkOver n l[k])) (by simp; omega) fun v hv => q_IndexOk1 v l[k]
      unfold marksA at e
      rw [len_take hk] at e
      simp (maxSteps := 4000000) (disch := omega) only [go_sem, w64, AndB_of, IfB_of, IfB_no, pickE_of, pickE_no, ite_of, ite_no, tdivE, tmodE, takeAll, flat_take GMk.len]
      apply CallB.borrow 2 (r := .bool ((l.take k).any fun n => decide (mkOver n l[k]))) _ rfl
      · simp (maxSteps := 4000000) (disch := omega) only [go_sem, w64, AndB_of, IfB_of, IfB_no, pickE_of, pickE_no, ite_of, ite_no, tdivE, tmodE, takeAll]
        refine IfB.split (fun g => ?_) (fun g => ?_)
        · simp (maxSteps := 4000000) (disch := omega) only [go_sem, w64, AndB_of, IfB_of, IfB_no, pickE_of, pickE_no, ite_of, ite_no, tdivE, tmodE, takeAll]
          rw [no3 g]
        · simp (maxSteps := 4000000) (disch := omega) only [go_sem, w64, AndB_of, IfB_of, IfB_no, pickE_of, pickE_no, ite_of, ite_no, tdivE, tmodE, takeAll]
          have hn := (noOvj_any hk).1 g
          have hy := hch.step h1' hp (hlt hn)
          ((repeat' apply And.intro) <;> first | exact hy | exact hy.1 | exact hy.2 | exact hov.stepj h1' hn (by omega) | (exact Weak.go (by (first | (simp [wkL]; done) | (simp [wkL]; omega))) (fun zi => by first | exact .inl rfl | exact .inr rfl | (simp only [upd]; repeat' split) <;> first | exact hy | exact hy.1 | exact hy.2 | exact hov.stepj h1' hn (by omega) | exact .inl rfl | exact .inr rfl | (exfalso; omega) | exact .inr (hd _ (by omega)) | (left; subst_vars; exact hH.symm) | (left; subst_vars; rfl) | (left; simp; done) | (left; simp; omega)) (by omega)) | omega | rfl | assumption | exact Flat.nil | exact ⟨_, rfl, rfl, by assumption⟩ | (simp; done) | (simp; omega))
      · simp (maxSteps := 4000000) (disch := omega) only [go_sem, w64, AndB_of, IfB_of, IfB_no, pickE_of, pickE_no, ite_of, ite_no, tdivE, tmodE, takeAll, flat_take GMk.len]
        exact e
  · simp (maxSteps := 4000000) (disch := omega) only [go_sem, w64, AndB_of, IfB_of, IfB_no, pickE_of, pickE_no, ite_of, ite_no, tdivE, tmodE, takeAll]
    rw [AV.bool.injEq, Bool.eq_iff_iff]; (try simp only [decide_eq_true_iff])
    exact ⟨fun h => marksOk_fin hch hov (by omega) (by omega), fun h => by have := h.1; omega⟩
end Go.TH
