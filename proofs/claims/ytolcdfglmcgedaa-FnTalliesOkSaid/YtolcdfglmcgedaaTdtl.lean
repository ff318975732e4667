/- TH: tallies: the walks. Made by gen.py. -/
import Derived.Test.YtolcdfglmcgedaaTf3
import Derived.Test.YtolcdfglmcgedaaTdo
import Derived.Test.YtolcdfglmcgedaaTdw
namespace Go.TH
open Go Go.Proofs
set_option linter.unusedSimpArgs false
set_option linter.unusedVariables false
set_option maxHeartbeats 20000000
set_option maxRecDepth 100000
theorem q_TalliesOkS (l : List GTl) (hl : l.length ≤ 1048576) (hs : ∀ t ∈ l, TlB t) : QCall Try.prog 34 [talsA l] (.bool (decide (talsOk l))) := by
  refine qcall_body mixed Try.func34 _ (by unfold Try.f34; rfl) Try.ntmps34 Try.results34 (by decide) 0 (by simp) (by simp [pureL, pureA]) ?_
  unfold talsA
  simp (maxSteps := 4000000) (disch := omega) only [go_sem, w64, AndB_of, IfB_of, IfB_no, pickE_of, pickE_no, ite_of, ite_no, tdivE, tmodE, takeAll]
  refine LoopB.auto (fun zs => (intOf (slotOf zs 3)).toNat) (fun zz => [(0, none), (2, some (.int .i64 (zz : Int)))]) (fun zz => noH) (fun zz => 6 * zz) (fun zz => l.length - zz) (fun zz => zz ≤ l.length ∧ chK tlOk tlLt l zz) (by (first | simp (maxSteps := 4000000) (disch := omega) only [go_sem, w64, AndB_of, IfB_of, IfB_no, pickE_of, pickE_no, ite_of, ite_no, tdivE, tmodE, takeAll, hH] | simp (maxSteps := 4000000) (disch := omega) only [go_sem, w64, AndB_of, IfB_of, IfB_no, pickE_of, pickE_no, ite_of, ite_no, tdivE, tmodE, takeAll]); ((repeat' apply And.intro) <;> first | (exact Weak.go (by (first | (simp [wkL]; done) | (simp [wkL]; omega))) (fun zi => by first | exact .inl rfl | exact .inr rfl | (simp only [upd]; repeat' split) <;> first | exact .inl rfl | exact .inr rfl | (exfalso; omega) | exact .inr (hd _ (by omega)) | (left; subst_vars; exact hH.symm) | (left; subst_vars; rfl) | (left; simp; done) | (left; simp; omega)) (by omega)) | omega | rfl | assumption | exact Flat.nil | exact ⟨_, rfl, rfl, by assumption⟩ | (simp; done) | (simp; omega))) ?_
  intro k zh
  obtain ⟨hk, hch⟩ := zh
  simp (maxSteps := 4000000) (disch := omega) only [go_sem, w64, AndB_of, IfB_of, IfB_no, pickE_of, pickE_no, ite_of, ite_no, tdivE, tmodE, takeAll]
  refine IfB.dec (fun h1 => ?_) (fun h1 => ?_)
  · have h1' : k < l.length := by omega
    have hb := hs _ (List.getElem_mem h1')
    have hr2 : ∀ x ∈ l[k].key, x.s.size ≤ 9223372036854775807 := fun x hx => by have := hb.2 x hx; unfold VB at this; omega
    have no1 : ¬ tlOk l[k] → decide (talsOk l) = false := fun e => decide_eq_false (chain.no1 h1' e)
    have hsk : ∀ i (h : i < l.length), l[i].key.length ≤ 1048576 := fun i h => (hs _ (List.getElem_mem h)).1
    have hss : ∀ i (h : i < l.length), ∀ x ∈ l[i].key, x.s.size ≤ 9223372036854775807 := fun i h x hx => by have := (hs _ (List.getElem_mem h)).2 x hx; unfold VB at this; omega
    have no2 : ∀ (hb : ((k : Int) - 1).toNat < l.length), (0 : Int) < k → rowOk l[k].key → 0 ≤ rowOrdOk l[((k : Int) - 1).toNat].key l[k].key → decide (talsOk l) = false := fun hb h0 ho h => decide_eq_false (chain.no2 h1' hb h0 fun e => by
      rw [rowOrdOk_ok (hch.left hk hb h0).1 ho] at h; unfold tlLt at e; omega)
    have yes2 : ∀ (hb : ((k : Int) - 1).toNat < l.length), (0 : Int) < k → rowOk l[k].key → ¬ 0 ≤ rowOrdOk l[((k : Int) - 1).toNat].key l[k].key → tlLt l[((k : Int) - 1).toNat] l[k] := fun hb h0 ho h => by
      rw [rowOrdOk_ok (hch.left hk hb h0).1 ho] at h; unfold tlLt; omega
    simp (maxSteps := 4000000) (disch := omega) only [go_sem, w64, AndB_of, IfB_of, IfB_no, pickE_of, pickE_no, ite_of, ite_no, tdivE, tmodE, takeAll]
    refine DrawB.quiet (by kernel_rfl) ?_
    simp (maxSteps := 4000000) (disch := omega) only [go_sem, w64, AndB_of, IfB_of, IfB_no, pickE_of, pickE_no, ite_of, ite_no, tdivE, tmodE, takeAll]
    repeat' (first | (refine IfB.dec (fun h => ?_) (fun h => ?_) <;> (try (have h2 := h; unfold inR at h2)) <;> (try simp (maxSteps := 4000000) (disch := omega) only [go_sem, w64, AndB_of, IfB_of, IfB_no, pickE_of, pickE_no, ite_of, ite_no, tdivE, tmodE, takeAll, h])) | (refine IfB.split (fun h => ?_) (fun h => ?_) <;> (try simp (maxSteps := 4000000) (disch := omega) only [go_sem, w64, AndB_of, IfB_of, IfB_no, pickE_of, pickE_no, ite_of, ite_no, tdivE, tmodE, takeAll, h])) | (refine DrawB.quiet (by kernel_rfl) ?_; simp (maxSteps := 4000000) (disch := omega) only [go_sem, w64, AndB_of, IfB_of, IfB_no, pickE_of, pickE_no, ite_of, ite_no, tdivE, tmodE, takeAll]) | (apply CallB.q (q_RowOkS _ hb.1 hr2); simp (maxSteps := 4000000) (disch := omega) only [go_sem, w64, AndB_of, IfB_of, IfB_no, pickE_of, pickE_no, ite_of, ite_no, tdivE, tmodE, takeAll]) | (apply CallB.q (q_l1In _ _ _); simp (maxSteps := 4000000) (disch := omega) only [go_sem, w64, AndB_of, IfB_of, IfB_no, pickE_of, pickE_no, ite_of, ite_no, tdivE, tmodE, takeAll]) | (apply CallB.q (q_RowOrderS _ _ (hsk _ _) (hsk _ _) (hss _ _) (hss _ _)); simp (maxSteps := 4000000) (disch := omega) only [go_sem, w64, AndB_of, IfB_of, IfB_no, pickE_of, pickE_no, ite_of, ite_no, tdivE, tmodE, takeAll]) | (apply DCallB.q0 (q_RowOkS _ hb.1 hr2); simp (maxSteps := 4000000) (disch := omega) only [go_sem, w64, AndB_of, IfB_of, IfB_no, pickE_of, pickE_no, ite_of, ite_no, tdivE, tmodE, takeAll]) | (apply DCallB.q0 (q_l1In _ _ _); simp (maxSteps := 4000000) (disch := omega) only [go_sem, w64, AndB_of, IfB_of, IfB_no, pickE_of, pickE_no, ite_of, ite_no, tdivE, tmodE, takeAll]) | (apply DCallB.q0 (q_RowOrderS _ _ (hsk _ _) (hsk _ _) (hss _ _) (hss _ _)); simp (maxSteps := 4000000) (disch := omega) only [go_sem, w64, AndB_of, IfB_of, IfB_no, pickE_of, pickE_no, ite_of, ite_no, tdivE, tmodE, takeAll]))
    all_goals first
      | (rw [no1 (fun e => by unfold tlOk at e; obtain ⟨a1, a2, a3, a4, a5⟩ := e; first | contradiction | omega)]; done)
      | (rw [no2 (by omega) (by assumption) (by assumption) (by assumption)]; done)
      | (have hy := hch.step h1' ⟨by assumption, by omega, by assumption, by assumption, by assumption⟩ (by first | (left; assumption) | (right; refine ⟨by omega, yes2 (by omega) (by assumption) (by assumption) (by assumption)⟩))
         ((repeat' apply And.intro) <;> first | exact hy | exact hy.1 | exact hy.2 | (exact Weak.go (by (first | (simp [wkL]; done) | (simp [wkL]; omega))) (fun zi => by first | exact .inl rfl | exact .inr rfl | (simp only [upd]; repeat' split) <;> first | exact hy | exact hy.1 | exact hy.2 | exact .inl rfl | exact .inr rfl | (exfalso; omega) | exact .inr (hd _ (by omega)) | (left; subst_vars; exact hH.symm) | (left; subst_vars; rfl) | (left; simp; done) | (left; simp; omega)) (by omega)) | omega | rfl | assumption | exact Flat.nil | exact ⟨_, rfl, rfl, by assumption⟩ | (simp; done) | (simp; omega)))
  · simp (maxSteps := 4000000) (disch := omega) only [go_sem, w64, AndB_of, IfB_of, IfB_no, pickE_of, pickE_no, ite_of, ite_no, tdivE, tmodE, takeAll]
    rw [decide_eq_true (show talsOk l from hch.fin (by omega))]
theorem q_tlOk (t : GTl) (hb : TlB t) : QCall Try.prog 96 [.agg [rowA t.key, .int .i64 t.rows, .int .i64 t.many, .int .i64 t.sum]] (.bool (decide (tlOk t))) := by
  have hr2 : ∀ x ∈ t.key, x.s.size ≤ 9223372036854775807 := fun x hx => by have := hb.2 x hx; unfold VB at this; omega
  refine qcall_body mixed Try.func96 _ (by unfold Try.f96; rfl) Try.ntmps96 Try.results96 (by decide) 0 (by simp) (by simp [pureL, pureA]) ?_
  simp (maxSteps := 4000000) (disch := omega) only [go_sem, w64, AndB_of, IfB_of, IfB_no, pickE_of, pickE_no, ite_of, ite_no, tdivE, tmodE, takeAll]
  repeat' (first | (refine IfB.dec (fun h => ?_) (fun h => ?_) <;> (try (have h2 := h; unfold inR at h2)) <;> (try simp (maxSteps := 4000000) (disch := omega) only [go_sem, w64, AndB_of, IfB_of, IfB_no, pickE_of, pickE_no, ite_of, ite_no, tdivE, tmodE, takeAll, h])) | (refine IfB.split (fun h => ?_) (fun h => ?_) <;> (try simp (maxSteps := 4000000) (disch := omega) only [go_sem, w64, AndB_of, IfB_of, IfB_no, pickE_of, pickE_no, ite_of, ite_no, tdivE, tmodE, takeAll, h])) | (refine DrawB.quiet (by kernel_rfl) ?_; simp (maxSteps := 4000000) (disch := omega) only [go_sem, w64, AndB_of, IfB_of, IfB_no, pickE_of, pickE_no, ite_of, ite_no, tdivE, tmodE, takeAll]) | (apply CallB.q (q_RowOkI _ hb.1 hr2); simp (maxSteps := 4000000) (disch := omega) only [go_sem, w64, AndB_of, IfB_of, IfB_no, pickE_of, pickE_no, ite_of, ite_no, tdivE, tmodE, takeAll]) | (apply CallB.q (q_between _ _ _); simp (maxSteps := 4000000) (disch := omega) only [go_sem, w64, AndB_of, IfB_of, IfB_no, pickE_of, pickE_no, ite_of, ite_no, tdivE, tmodE, takeAll]) | (apply DCallB.q0 (q_RowOkI _ hb.1 hr2); simp (maxSteps := 4000000) (disch := omega) only [go_sem, w64, AndB_of, IfB_of, IfB_no, pickE_of, pickE_no, ite_of, ite_no, tdivE, tmodE, takeAll]) | (apply DCallB.q0 (q_between _ _ _); simp (maxSteps := 4000000) (disch := omega) only [go_sem, w64, AndB_of, IfB_of, IfB_no, pickE_of, pickE_no, ite_of, ite_no, tdivE, tmodE, takeAll]))
  all_goals first
    | (rw [decide_eq_false (fun e : tlOk t => by unfold tlOk at e; obtain ⟨a1, a2, a3, a4, a5⟩ := e; first | contradiction | omega)]; done)
    | (congr 1; rw [decide_eq_decide]; exact ⟨fun e => ⟨by assumption, by omega, by assumption, by assumption, e⟩, fun e => e.2.2.2.2⟩)
theorem q_TalliesOkI (l : List GTl) (hl : l.length ≤ 1048576) (hs : ∀ t ∈ l, TlB t) : QCall Try.prog 36 [talsA l] (.bool (decide (talsOk l))) := by
  refine qcall_body mixed Try.func36 _ (by unfold Try.f36; rfl) Try.ntmps36 Try.results36 (by decide) 0 (by simp) (by simp [pureL, pureA]) ?_
  unfold talsA
  simp (maxSteps := 4000000) (disch := omega) only [go_sem, w64, AndB_of, IfB_of, IfB_no, pickE_of, pickE_no, ite_of, ite_no, tdivE, tmodE, takeAll]
  refine LoopB.auto (fun zs => (intOf (slotOf zs 7)).toNat) (fun zz => [(0, none), (4, none), (0, none), (0, some (.int .i64 (zz : Int)))]) (fun zz => noH) (fun zz => 6 * zz) (fun zz => l.length - zz) (fun zz => zz ≤ l.length ∧ chK tlOk tlLt l zz) (by (first | simp (maxSteps := 4000000) (disch := omega) only [go_sem, w64, AndB_of, IfB_of, IfB_no, pickE_of, pickE_no, ite_of, ite_no, tdivE, tmodE, takeAll, hH] | simp (maxSteps := 4000000) (disch := omega) only [go_sem, w64, AndB_of, IfB_of, IfB_no, pickE_of, pickE_no, ite_of, ite_no, tdivE, tmodE, takeAll]); ((repeat' apply And.intro) <;> first | (exact Weak.go (by (first | (simp [wkL]; done) | (simp [wkL]; omega))) (fun zi => by first | exact .inl rfl | exact .inr rfl | (simp only [upd]; repeat' split) <;> first | exact .inl rfl | exact .inr rfl | (exfalso; omega) | exact .inr (hd _ (by omega)) | (left; subst_vars; exact hH.symm) | (left; subst_vars; rfl) | (left; simp; done) | (left; simp; omega)) (by omega)) | omega | rfl | assumption | exact Flat.nil | exact ⟨_, rfl, rfl, by assumption⟩ | (simp; done) | (simp; omega))) ?_
  intro k zh
  obtain ⟨hk, hch⟩ := zh
  simp (maxSteps := 4000000) (disch := omega) only [go_sem, w64, AndB_of, IfB_of, IfB_no, pickE_of, pickE_no, ite_of, ite_no, tdivE, tmodE, takeAll]
  refine IfB.dec (fun h1 => ?_) (fun h1 => ?_)
  · have h1' : k < l.length := by omega
    have hb := hs _ (List.getElem_mem h1')
    have hr2 : ∀ x ∈ l[k].key, x.s.size ≤ 9223372036854775807 := fun x hx => by have := hb.2 x hx; unfold VB at this; omega
    have no1 : ¬ tlOk l[k] → decide (talsOk l) = false := fun e => decide_eq_false (chain.no1 h1' e)
    have hsk : ∀ i (h : i < l.length), l[i].key.length ≤ 1048576 := fun i h => (hs _ (List.getElem_mem h)).1
    have hss : ∀ i (h : i < l.length), ∀ x ∈ l[i].key, x.s.size ≤ 9223372036854775807 := fun i h x hx => by have := (hs _ (List.getElem_mem h)).2 x hx; unfold VB at this; omega
    have no2 : ∀ (hb : ((k : Int) - 1).toNat < l.length), (0 : Int) < k → 0 ≤ rowOrd l[((k : Int) - 1).toNat].key l[k].key → decide (talsOk l) = false := fun hb h0 h => decide_eq_false (chain.no2 h1' hb h0 fun e => by
      unfold tlLt at e; omega)
    have yes2 : ∀ (hb : ((k : Int) - 1).toNat < l.length), ¬ 0 ≤ rowOrd l[((k : Int) - 1).toNat].key l[k].key → tlLt l[((k : Int) - 1).toNat] l[k] := fun hb h => by
      unfold tlLt; omega
    simp (maxSteps := 4000000) (disch := omega) only [go_sem, w64, AndB_of, IfB_of, IfB_no, pickE_of, pickE_no, ite_of, ite_no, tdivE, tmodE, takeAll]
    refine DrawB.quiet (by kernel_rfl) ?_
    simp (maxSteps := 4000000) (disch := omega) only [go_sem, w64, AndB_of, IfB_of, IfB_no, pickE_of, pickE_no, ite_of, ite_no, tdivE, tmodE, takeAll]
    repeat' (first | (refine IfB.dec (fun h => ?_) (fun h => ?_) <;> (try (have h2 := h; unfold inR at h2)) <;> (try simp (maxSteps := 4000000) (disch := omega) only [go_sem, w64, AndB_of, IfB_of, IfB_no, pickE_of, pickE_no, ite_of, ite_no, tdivE, tmodE, takeAll, h])) | (refine IfB.split (fun h => ?_) (fun h => ?_) <;> (try simp (maxSteps := 4000000) (disch := omega) only [go_sem, w64, AndB_of, IfB_of, IfB_no, pickE_of, pickE_no, ite_of, ite_no, tdivE, tmodE, takeAll, h])) | (refine DrawB.quiet (by kernel_rfl) ?_; simp (maxSteps := 4000000) (disch := omega) only [go_sem, w64, AndB_of, IfB_of, IfB_no, pickE_of, pickE_no, ite_of, ite_no, tdivE, tmodE, takeAll]) | (apply CallB.q (q_tlOk _ hb); simp (maxSteps := 4000000) (disch := omega) only [go_sem, w64, AndB_of, IfB_of, IfB_no, pickE_of, pickE_no, ite_of, ite_no, tdivE, tmodE, takeAll]) | (apply CallB.q (q_rowOrder _ _ (hsk _ _) (hsk _ _)); simp (maxSteps := 4000000) (disch := omega) only [go_sem, w64, AndB_of, IfB_of, IfB_no, pickE_of, pickE_no, ite_of, ite_no, tdivE, tmodE, takeAll]) | (apply DCallB.q0 (q_tlOk _ hb); simp (maxSteps := 4000000) (disch := omega) only [go_sem, w64, AndB_of, IfB_of, IfB_no, pickE_of, pickE_no, ite_of, ite_no, tdivE, tmodE, takeAll]) | (apply DCallB.q0 (q_rowOrder _ _ (hsk _ _) (hsk _ _)); simp (maxSteps := 4000000) (disch := omega) only [go_sem, w64, AndB_of, IfB_of, IfB_no, pickE_of, pickE_no, ite_of, ite_no, tdivE, tmodE, takeAll]))
    all_goals first
      | (rw [no1 (by assumption)]; done)
      | (rw [no2 (by omega) (by assumption) (by assumption)]; done)
      | (have hy := hch.step h1' (by assumption) (by first | (left; assumption) | (right; refine ⟨by omega, yes2 (by omega) (by assumption)⟩))
         ((repeat' apply And.intro) <;> first | exact hy | exact hy.1 | exact hy.2 | (exact Weak.go (by (first | (simp [wkL]; done) | (simp [wkL]; omega))) (fun zi => by first | exact .inl rfl | exact .inr rfl | (simp only [upd]; repeat' split) <;> first | exact hy | exact hy.1 | exact hy.2 | exact .inl rfl | exact .inr rfl | (exfalso; omega) | exact .inr (hd _ (by omega)) | (left; subst_vars; exact hH.symm) | (left; subst_vars; rfl) | (left; simp; done) | (left; simp; omega)) (by omega)) | omega | rfl | assumption | exact Flat.nil | exact ⟨_, rfl, rfl, by assumption⟩ | (simp; done) | (simp; omega)))
  · simp (maxSteps := 4000000) (disch := omega) only [go_sem, w64, AndB_of, IfB_of, IfB_no, pickE_of, pickE_no, ite_of, ite_no, tdivE, tmodE, takeAll]
    rw [decide_eq_true (show talsOk l from hch.fin (by omega))]
end Go.TH
