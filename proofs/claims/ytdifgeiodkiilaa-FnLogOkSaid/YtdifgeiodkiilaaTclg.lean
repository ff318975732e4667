/- TH: logs: the walks. Made by gen.py. -/
import Derived.Test.YtdifgeiodkiilaaTf3
import Derived.Test.YtdifgeiodkiilaaTcwr
namespace Go.TH
open Go Go.Proofs
set_option linter.unusedSimpArgs false
set_option linter.unusedVariables false
set_option maxHeartbeats 20000000
set_option maxRecDepth 100000
theorem q_LogOkS (l : List GEn) (hl : l.length ≤ 1048576) (hs : ∀ t ∈ l, EnB t) : QCall Try.prog 22 [entsA l] (.bool (decide (logOk l))) := by
  refine qcall_body mixed Try.func22 _ (by unfold Try.f22; rfl) Try.ntmps22 Try.results22 (by decide) 0 (by simp) (by simp [pureL, pureA]) ?_
  unfold entsA
  simp (maxSteps := 4000000) (disch := omega) only [go_sem, w64, AndB_of, IfB_of, IfB_no, pickE_of, pickE_no, ite_of, ite_no, tdivE, tmodE, takeAll]
  refine LoopB.auto (fun zs => (intOf (slotOf zs 3)).toNat) (fun zz => [(0, none), (2, some (.int .i64 (zz : Int)))]) (fun zz => noH) (fun zz => 0) (fun zz => l.length - zz) (fun zz => zz ≤ l.length ∧ chK enOk enLt l zz) (by (first | simp (maxSteps := 4000000) (disch := omega) only [go_sem, w64, AndB_of, IfB_of, IfB_no, pickE_of, pickE_no, ite_of, ite_no, tdivE, tmodE, takeAll, hH] | simp (maxSteps := 4000000) (disch := omega) only [go_sem, w64, AndB_of, IfB_of, IfB_no, pickE_of, pickE_no, ite_of, ite_no, tdivE, tmodE, takeAll]); ((repeat' apply And.intro) <;> first | (exact Weak.go (by (first | (simp [wkL]; done) | (simp [wkL]; omega))) (fun zi => by first | exact .inl rfl | exact .inr rfl | (simp only [upd]; repeat' split) <;> first | exact .inl rfl | exact .inr rfl | (exfalso; omega) | exact .inr (hd _ (by omega)) | (left; subst_vars; exact hH.symm) | (left; subst_vars; rfl) | (left; simp; done) | (left; simp; omega)) (by omega)) | omega | rfl | assumption | exact Flat.nil | exact ⟨_, rfl, rfl, by assumption⟩ | (simp; done) | (simp; omega))) ?_
  intro k zh
  obtain ⟨hk, hch⟩ := zh
  simp (maxSteps := 4000000) (disch := omega) only [go_sem, w64, AndB_of, IfB_of, IfB_no, pickE_of, pickE_no, ite_of, ite_no, tdivE, tmodE, takeAll]
  refine IfB.dec (fun h1 => ?_) (fun h1 => ?_)
  · have h1' : k < l.length := by omega
    have hb := hs _ (List.getElem_mem h1')
    have hw : ∀ w ∈ l[k].ws, w.row.length ≤ 1048576 ∧ ∀ x ∈ w.row, x.s.size ≤ 140737488355328 := fun w hw => ⟨(hb.2 w hw).1, fun x hx => by have := (hb.2 w hw).2 x hx; unfold VB at this; omega⟩
    have no1 : ¬ enOk l[k] → decide (logOk l) = false := fun e => decide_eq_false fun e2 => chain.no1 h1' e e2.2
    have no2 : ∀ (hb : ((k : Int) - 1).toNat < l.length), (0 : Int) < k → l[k].time ≤ l[((k : Int) - 1).toNat].time → decide (logOk l) = false := fun hb h0 h => decide_eq_false fun e2 => chain.no2 h1' hb h0 (fun e => by
      unfold enLt at e; omega) e2.2
    have yes2 : ∀ (hb : ((k : Int) - 1).toNat < l.length), ¬ l[k].time ≤ l[((k : Int) - 1).toNat].time → enLt l[((k : Int) - 1).toNat] l[k] := fun hb h => by
      unfold enLt; omega
    simp (maxSteps := 4000000) (disch := omega) only [go_sem, w64, AndB_of, IfB_of, IfB_no, pickE_of, pickE_no, ite_of, ite_no, tdivE, tmodE, takeAll]
    refine DrawB.quiet (by kernel_rfl) ?_
    simp (maxSteps := 4000000) (disch := omega) only [go_sem, w64, AndB_of, IfB_of, IfB_no, pickE_of, pickE_no, ite_of, ite_no, tdivE, tmodE, takeAll]
    repeat' (first | (refine IfB.dec (fun h => ?_) (fun h => ?_) <;> (try (have h2 := h; unfold inR at h2)) <;> (try simp (maxSteps := 4000000) (disch := omega) only [go_sem, w64, AndB_of, IfB_of, IfB_no, pickE_of, pickE_no, ite_of, ite_no, tdivE, tmodE, takeAll, h])) | (refine IfB.split (fun h => ?_) (fun h => ?_) <;> (try simp (maxSteps := 4000000) (disch := omega) only [go_sem, w64, AndB_of, IfB_of, IfB_no, pickE_of, pickE_no, ite_of, ite_no, tdivE, tmodE, takeAll, h])) | (refine DrawB.quiet (by kernel_rfl) ?_; simp (maxSteps := 4000000) (disch := omega) only [go_sem, w64, AndB_of, IfB_of, IfB_no, pickE_of, pickE_no, ite_of, ite_no, tdivE, tmodE, takeAll]) | (apply CallB.q (q_l1In _ _ _); simp (maxSteps := 4000000) (disch := omega) only [go_sem, w64, AndB_of, IfB_of, IfB_no, pickE_of, pickE_no, ite_of, ite_no, tdivE, tmodE, takeAll]) | (apply CallB.q (q_WritesOkS _ hb.1 hw); simp (maxSteps := 4000000) (disch := omega) only [go_sem, w64, AndB_of, IfB_of, IfB_no, pickE_of, pickE_no, ite_of, ite_no, tdivE, tmodE, takeAll]) | (apply DCallB.q0 (q_l1In _ _ _); simp (maxSteps := 4000000) (disch := omega) only [go_sem, w64, AndB_of, IfB_of, IfB_no, pickE_of, pickE_no, ite_of, ite_no, tdivE, tmodE, takeAll]) | (apply DCallB.q0 (q_WritesOkS _ hb.1 hw); simp (maxSteps := 4000000) (disch := omega) only [go_sem, w64, AndB_of, IfB_of, IfB_no, pickE_of, pickE_no, ite_of, ite_no, tdivE, tmodE, takeAll]))
    all_goals first
      | (rw [no1 (fun e => by unfold enOk at e; obtain ⟨a1, a2⟩ := e; contradiction)]; done)
      | (rw [no2 (by omega) (by assumption) (by assumption)]; done)
      | (have hy := hch.step h1' ⟨by assumption, by assumption⟩ (by first | (left; assumption) | (right; refine ⟨by omega, yes2 (by omega) (by assumption)⟩))
         ((repeat' apply And.intro) <;> first | exact hy | exact hy.1 | exact hy.2 | (exact Weak.go (by (first | (simp [wkL]; done) | (simp [wkL]; omega))) (fun zi => by first | exact .inl rfl | exact .inr rfl | (simp only [upd]; repeat' split) <;> first | exact hy | exact hy.1 | exact hy.2 | exact .inl rfl | exact .inr rfl | (exfalso; omega) | exact .inr (hd _ (by omega)) | (left; subst_vars; exact hH.symm) | (left; subst_vars; rfl) | (left; simp; done) | (left; simp; omega)) (by omega)) | omega | rfl | assumption | exact Flat.nil | exact ⟨_, rfl, rfl, by assumption⟩ | (simp; done) | (simp; omega)))
  · simp (maxSteps := 4000000) (disch := omega) only [go_sem, w64, AndB_of, IfB_of, IfB_no, pickE_of, pickE_no, ite_of, ite_no, tdivE, tmodE, takeAll]
    have hc := hch.fin (by omega)
    rw [AV.bool.injEq, Bool.eq_iff_iff]; (try simp only [decide_eq_true_iff])
    exact ⟨fun h => ⟨by omega, hc⟩, fun h => by have := h.1; omega⟩
theorem q_LogOkI (l : List GEn) (hl : l.length ≤ 1048576) (hs : ∀ t ∈ l, EnB t) : QCall Try.prog 21 [entsA l] (.bool (decide (logOk l))) := by
  refine qcall_body mixed Try.func21 _ (by unfold Try.f21; rfl) Try.ntmps21 Try.results21 (by decide) 0 (by simp) (by simp [pureL, pureA]) ?_
  unfold entsA
  simp (maxSteps := 4000000) (disch := omega) only [go_sem, w64, AndB_of, IfB_of, IfB_no, pickE_of, pickE_no, ite_of, ite_no, tdivE, tmodE, takeAll]
  refine LoopB.auto (fun zs => (intOf (slotOf zs 7)).toNat) (fun zz => [(0, none), (4, none), (0, none), (0, some (.int .i64 (zz : Int)))]) (fun zz => noH) (fun zz => 4 * zz) (fun zz => l.length - zz) (fun zz => zz ≤ l.length ∧ chK enOk enLt l zz) (by (first | simp (maxSteps := 4000000) (disch := omega) only [go_sem, w64, AndB_of, IfB_of, IfB_no, pickE_of, pickE_no, ite_of, ite_no, tdivE, tmodE, takeAll, hH] | simp (maxSteps := 4000000) (disch := omega) only [go_sem, w64, AndB_of, IfB_of, IfB_no, pickE_of, pickE_no, ite_of, ite_no, tdivE, tmodE, takeAll]); ((repeat' apply And.intro) <;> first | (exact Weak.go (by (first | (simp [wkL]; done) | (simp [wkL]; omega))) (fun zi => by first | exact .inl rfl | exact .inr rfl | (simp only [upd]; repeat' split) <;> first | exact .inl rfl | exact .inr rfl | (exfalso; omega) | exact .inr (hd _ (by omega)) | (left; subst_vars; exact hH.symm) | (left; subst_vars; rfl) | (left; simp; done) | (left; simp; omega)) (by omega)) | omega | rfl | assumption | exact Flat.nil | exact ⟨_, rfl, rfl, by assumption⟩ | (simp; done) | (simp; omega))) ?_
  intro k zh
  obtain ⟨hk, hch⟩ := zh
  simp (maxSteps := 4000000) (disch := omega) only [go_sem, w64, AndB_of, IfB_of, IfB_no, pickE_of, pickE_no, ite_of, ite_no, tdivE, tmodE, takeAll]
  refine IfB.dec (fun h1 => ?_) (fun h1 => ?_)
  · have h1' : k < l.length := by omega
    have hb := hs _ (List.getElem_mem h1')
    have hw : ∀ w ∈ l[k].ws, w.row.length ≤ 1048576 ∧ ∀ x ∈ w.row, x.s.size ≤ 140737488355328 := fun w hw => ⟨(hb.2 w hw).1, fun x hx => by have := (hb.2 w hw).2 x hx; unfold VB at this; omega⟩
    have no1 : ¬ enOk l[k] → decide (logOk l) = false := fun e => decide_eq_false fun e2 => chain.no1 h1' e e2.2
    have no2 : ∀ (hb : ((k : Int) - 1).toNat < l.length), (0 : Int) < k → l[k].time ≤ l[((k : Int) - 1).toNat].time → decide (logOk l) = false := fun hb h0 h => decide_eq_false fun e2 => chain.no2 h1' hb h0 (fun e => by
      unfold enLt at e; omega) e2.2
    have yes2 : ∀ (hb : ((k : Int) - 1).toNat < l.length), ¬ l[k].time ≤ l[((k : Int) - 1).toNat].time → enLt l[((k : Int) - 1).toNat] l[k] := fun hb h => by
      unfold enLt; omega
    simp (maxSteps := 4000000) (disch := omega) only [go_sem, w64, AndB_of, IfB_of, IfB_no, pickE_of, pickE_no, ite_of, ite_no, tdivE, tmodE, takeAll]
    refine DrawB.quiet (by kernel_rfl) ?_
    simp (maxSteps := 4000000) (disch := omega) only [go_sem, w64, AndB_of, IfB_of, IfB_no, pickE_of, pickE_no, ite_of, ite_no, tdivE, tmodE, takeAll]
    repeat' (first | (refine IfB.dec (fun h => ?_) (fun h => ?_) <;> (try (have h2 := h; unfold inR at h2)) <;> (try simp (maxSteps := 4000000) (disch := omega) only [go_sem, w64, AndB_of, IfB_of, IfB_no, pickE_of, pickE_no, ite_of, ite_no, tdivE, tmodE, takeAll, h])) | (refine IfB.split (fun h => ?_) (fun h => ?_) <;> (try simp (maxSteps := 4000000) (disch := omega) only [go_sem, w64, AndB_of, IfB_of, IfB_no, pickE_of, pickE_no, ite_of, ite_no, tdivE, tmodE, takeAll, h])) | (refine DrawB.quiet (by kernel_rfl) ?_; simp (maxSteps := 4000000) (disch := omega) only [go_sem, w64, AndB_of, IfB_of, IfB_no, pickE_of, pickE_no, ite_of, ite_no, tdivE, tmodE, takeAll]) | (apply CallB.q (q_between _ _ _); simp (maxSteps := 4000000) (disch := omega) only [go_sem, w64, AndB_of, IfB_of, IfB_no, pickE_of, pickE_no, ite_of, ite_no, tdivE, tmodE, takeAll]) | (apply CallB.q (q_WritesOkI _ hb.1 hw); simp (maxSteps := 4000000) (disch := omega) only [go_sem, w64, AndB_of, IfB_of, IfB_no, pickE_of, pickE_no, ite_of, ite_no, tdivE, tmodE, takeAll]) | (apply DCallB.q0 (q_between _ _ _); simp (maxSteps := 4000000) (disch := omega) only [go_sem, w64, AndB_of, IfB_of, IfB_no, pickE_of, pickE_no, ite_of, ite_no, tdivE, tmodE, takeAll]) | (apply DCallB.q0 (q_WritesOkI _ hb.1 hw); simp (maxSteps := 4000000) (disch := omega) only [go_sem, w64, AndB_of, IfB_of, IfB_no, pickE_of, pickE_no, ite_of, ite_no, tdivE, tmodE, takeAll]))
    all_goals first
      | (rw [no1 (fun e => by unfold enOk at e; obtain ⟨a1, a2⟩ := e; contradiction)]; done)
      | (rw [no2 (by omega) (by assumption) (by assumption)]; done)
      | (have hy := hch.step h1' ⟨by assumption, by assumption⟩ (by first | (left; assumption) | (right; refine ⟨by omega, yes2 (by omega) (by assumption)⟩))
         ((repeat' apply And.intro) <;> first | exact hy | exact hy.1 | exact hy.2 | (exact Weak.go (by (first | (simp [wkL]; done) | (simp [wkL]; omega))) (fun zi => by first | exact .inl rfl | exact .inr rfl | (simp only [upd]; repeat' split) <;> first | exact hy | exact hy.1 | exact hy.2 | exact .inl rfl | exact .inr rfl | (exfalso; omega) | exact .inr (hd _ (by omega)) | (left; subst_vars; exact hH.symm) | (left; subst_vars; rfl) | (left; simp; done) | (left; simp; omega)) (by omega)) | omega | rfl | assumption | exact Flat.nil | exact ⟨_, rfl, rfl, by assumption⟩ | (simp; done) | (simp; omega)))
  · simp (maxSteps := 4000000) (disch := omega) only [go_sem, w64, AndB_of, IfB_of, IfB_no, pickE_of, pickE_no, ite_of, ite_no, tdivE, tmodE, takeAll]
    have hc := hch.fin (by omega)
    rw [AV.bool.injEq, Bool.eq_iff_iff]; (try simp only [decide_eq_true_iff])
    exact ⟨fun h => ⟨by omega, hc⟩, fun h => by have := h.1; omega⟩
end Go.TH
