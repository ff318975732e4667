/- TH: writes: the walks. Made by gen.py. -/
import Derived.Test.YtdifgeiodkiilaaTcw
import Derived.Test.YtdifgeiodkiilaaTf3
namespace Go.TH
open Go Go.Proofs
set_option linter.unusedSimpArgs false
set_option linter.unusedVariables false
set_option maxHeartbeats 20000000
set_option maxRecDepth 100000
theorem q_WritesOkS (l : List GWr) (hl : l.length ≤ 1048576) (hs : ∀ w ∈ l, w.row.length ≤ 1048576 ∧ ∀ x ∈ w.row, x.s.size ≤ 140737488355328) : QCall Try.prog 82 [wrsA l] (.bool (decide (wrsOk l))) := by
  refine qcall_body mixed Try.func82 _ (by unfold Try.f82; rfl) Try.ntmps82 Try.results82 (by decide) 0 (by simp) (by simp [pureL, pureA]) ?_
  unfold wrsA
  simp (maxSteps := 4000000) (disch := omega) only [go_sem, w64, AndB_of, IfB_of, IfB_no, pickE_of, pickE_no, ite_of, ite_no, tdivE, tmodE, takeAll]
  refine LoopB.auto (fun zs => (intOf (slotOf zs 3)).toNat) (fun zz => [(0, none), (2, some (.int .i64 (zz : Int)))]) (fun zz => noH) (fun zz => 5 * zz) (fun zz => l.length - zz) (fun zz => zz ≤ l.length ∧ (∀ j (h : j < l.length), j < zz → l[j].Ok) ∧ ∀ j (h : j + 1 < l.length), j + 1 < zz → l[j].key < l[j + 1].key) (by (first | simp (maxSteps := 4000000) (disch := omega) only [go_sem, w64, AndB_of, IfB_of, IfB_no, pickE_of, pickE_no, ite_of, ite_no, tdivE, tmodE, takeAll, hH] | simp (maxSteps := 4000000) (disch := omega) only [go_sem, w64, AndB_of, IfB_of, IfB_no, pickE_of, pickE_no, ite_of, ite_no, tdivE, tmodE, takeAll]); ((repeat' apply And.intro) <;> first | (exact Weak.go (by (first | (simp [wkL]; done) | (simp [wkL]; omega))) (fun zi => by first | exact .inl rfl | exact .inr rfl | (simp only [upd]; repeat' split) <;> first | exact .inl rfl | exact .inr rfl | (exfalso; omega) | exact .inr (hd _ (by omega)) | (left; subst_vars; exact hH.symm) | (left; subst_vars; rfl) | (left; simp; done) | (left; simp; omega)) (by omega)) | omega | rfl | assumption | exact Flat.nil | exact ⟨_, rfl, rfl, by assumption⟩ | (simp; done) | (simp; omega))) ?_
  intro k zh
  obtain ⟨hk, hall, hord⟩ := zh
  simp (maxSteps := 4000000) (disch := omega) only [go_sem, w64, AndB_of, IfB_of, IfB_no, pickE_of, pickE_no, ite_of, ite_no, tdivE, tmodE, takeAll]
  refine IfB.dec (fun h1 => ?_) (fun h1 => ?_)
  · have h1' : k < l.length := by omega
    have hr := hs _ (List.getElem_mem h1')
    have hr2 : ∀ x ∈ l[k].row, x.s.size ≤ 9223372036854775807 := fun x hx => by have := hr.2 x hx; omega
    have no1 : ¬ l[k].Ok → ¬ wrsOk l := fun e e2 => e (e2.1 k h1')
    have yes : l[k].Ok → (∀ j (h : j + 1 = k), l[j].key < l[k].key) → (∀ j (h : j < l.length), j < k + 1 → l[j].Ok) ∧ ∀ j (h : j + 1 < l.length), j + 1 < k + 1 → l[j].key < l[j + 1].key := fun a b =>
      ⟨fun j hj hjk => by
        by_cases e : j = k
        · subst e; exact a
        · exact hall j hj (by omega), fun j hj hjk => by
        by_cases e : j + 1 = k
        · subst e; exact b j rfl
        · exact hord j hj (by omega)⟩
    have e1 : ((k : Int) - 1).toNat = k - 1 := by omega
    have no2 : ∀ (hb : ((k : Int) - 1).toNat < l.length), (0 : Int) < k → l[k].key ≤ l[((k : Int) - 1).toNat].key → ¬ wrsOk l := fun hb h0 hle e => by
      have h2 := e.2 (k - 1) (by omega)
      have e2 : k - 1 + 1 = k := by omega
      simp only [e2] at h2
      simp only [e1] at hle
      omega
    have yes2 : ∀ (hb : ((k : Int) - 1).toNat < l.length), ¬ l[k].key ≤ l[((k : Int) - 1).toNat].key → ∀ j (h : j + 1 = k), l[j].key < l[k].key := fun hb hle j hj => by
      simp only [e1] at hle
      have e2 : j = k - 1 := by omega
      subst e2
      omega
    have yes0 : ¬ (0 : Int) < k → ∀ j (h : j + 1 = k), l[j].key < l[k].key := fun h j hj => by omega
    simp (maxSteps := 4000000) (disch := omega) only [go_sem, w64, AndB_of, IfB_of, IfB_no, pickE_of, pickE_no, ite_of, ite_no, tdivE, tmodE, takeAll]
    refine DrawB.quiet (by kernel_rfl) ?_
    simp (maxSteps := 4000000) (disch := omega) only [go_sem, w64, AndB_of, IfB_of, IfB_no, pickE_of, pickE_no, ite_of, ite_no, tdivE, tmodE, takeAll]
    repeat' (first | (refine IfB.dec (fun h => ?_) (fun h => ?_) <;> (try (have h2 := h; unfold inR at h2)) <;> (try simp (maxSteps := 4000000) (disch := omega) only [go_sem, w64, AndB_of, IfB_of, IfB_no, pickE_of, pickE_no, ite_of, ite_no, tdivE, tmodE, takeAll, h])) | (refine IfB.split (fun h => ?_) (fun h => ?_) <;> (try simp (maxSteps := 4000000) (disch := omega) only [go_sem, w64, AndB_of, IfB_of, IfB_no, pickE_of, pickE_no, ite_of, ite_no, tdivE, tmodE, takeAll, h])) | (refine DrawB.quiet (by kernel_rfl) ?_; simp (maxSteps := 4000000) (disch := omega) only [go_sem, w64, AndB_of, IfB_of, IfB_no, pickE_of, pickE_no, ite_of, ite_no, tdivE, tmodE, takeAll]) | (apply CallB.q (q_l1In _ _ _); simp (maxSteps := 4000000) (disch := omega) only [go_sem, w64, AndB_of, IfB_of, IfB_no, pickE_of, pickE_no, ite_of, ite_no, tdivE, tmodE, takeAll]) | (apply CallB.q (q_RowOkS _ hr.1 hr2); simp (maxSteps := 4000000) (disch := omega) only [go_sem, w64, AndB_of, IfB_of, IfB_no, pickE_of, pickE_no, ite_of, ite_no, tdivE, tmodE, takeAll]) | (apply DCallB.q0 (q_l1In _ _ _); simp (maxSteps := 4000000) (disch := omega) only [go_sem, w64, AndB_of, IfB_of, IfB_no, pickE_of, pickE_no, ite_of, ite_no, tdivE, tmodE, takeAll]) | (apply DCallB.q0 (q_RowOkS _ hr.1 hr2); simp (maxSteps := 4000000) (disch := omega) only [go_sem, w64, AndB_of, IfB_of, IfB_no, pickE_of, pickE_no, ite_of, ite_no, tdivE, tmodE, takeAll]))
    all_goals first
      | (rw [decide_eq_false (no2 (by omega) (by assumption) (by assumption))]; done)
      | (rw [decide_eq_false (no1 (fun e => by unfold GWr.Ok at e; have a1 := e.1; have a2 := e.2.1; have a3 := e.2.2; first | contradiction | (apply a3; exact ⟨by assumption, by omega⟩)))]; done)
      | (have hy := yes ⟨by assumption, by assumption, fun e => by have b1 := e.1; have b2 := e.2; first | omega | simp_all⟩ (by first | exact yes0 (by assumption) | exact yes2 (by omega) (by assumption))
         ((repeat' apply And.intro) <;> first | exact hy.1 | exact hy.2 | (exact Weak.go (by (first | (simp [wkL]; done) | (simp [wkL]; omega))) (fun zi => by first | exact .inl rfl | exact .inr rfl | (simp only [upd]; repeat' split) <;> first | exact hy.1 | exact hy.2 | exact .inl rfl | exact .inr rfl | (exfalso; omega) | exact .inr (hd _ (by omega)) | (left; subst_vars; exact hH.symm) | (left; subst_vars; rfl) | (left; simp; done) | (left; simp; omega)) (by omega)) | omega | rfl | assumption | exact Flat.nil | exact ⟨_, rfl, rfl, by assumption⟩ | (simp; done) | (simp; omega)))
  · simp (maxSteps := 4000000) (disch := omega) only [go_sem, w64, AndB_of, IfB_of, IfB_no, pickE_of, pickE_no, ite_of, ite_no, tdivE, tmodE, takeAll]
    have : wrsOk l := ⟨fun j hj => hall j hj (by omega), fun j hj => hord j hj (by omega)⟩
    have h5 := wrsOk_len this
    simp [this]
    try omega
theorem q_WritesOkI (l : List GWr) (hl : l.length ≤ 1048576) (hs : ∀ w ∈ l, w.row.length ≤ 1048576 ∧ ∀ x ∈ w.row, x.s.size ≤ 140737488355328) : QCall Try.prog 80 [wrsA l] (.bool (decide (wrsOk l))) := by
  refine qcall_body mixed Try.func80 _ (by unfold Try.f80; rfl) Try.ntmps80 Try.results80 (by decide) 0 (by simp) (by simp [pureL, pureA]) ?_
  unfold wrsA
  simp (maxSteps := 4000000) (disch := omega) only [go_sem, w64, AndB_of, IfB_of, IfB_no, pickE_of, pickE_no, ite_of, ite_no, tdivE, tmodE, takeAll]
  refine LoopB.auto (fun zs => (intOf (slotOf zs 7)).toNat) (fun zz => [(0, none), (4, none), (0, none), (0, some (.int .i64 (zz : Int)))]) (fun zz => noH) (fun zz => 5 * zz) (fun zz => l.length - zz) (fun zz => zz ≤ l.length ∧ (∀ j (h : j < l.length), j < zz → l[j].Ok) ∧ ∀ j (h : j + 1 < l.length), j + 1 < zz → l[j].key < l[j + 1].key) (by (first | simp (maxSteps := 4000000) (disch := omega) only [go_sem, w64, AndB_of, IfB_of, IfB_no, pickE_of, pickE_no, ite_of, ite_no, tdivE, tmodE, takeAll, hH] | simp (maxSteps := 4000000) (disch := omega) only [go_sem, w64, AndB_of, IfB_of, IfB_no, pickE_of, pickE_no, ite_of, ite_no, tdivE, tmodE, takeAll]); ((repeat' apply And.intro) <;> first | (exact Weak.go (by (first | (simp [wkL]; done) | (simp [wkL]; omega))) (fun zi => by first | exact .inl rfl | exact .inr rfl | (simp only [upd]; repeat' split) <;> first | exact .inl rfl | exact .inr rfl | (exfalso; omega) | exact .inr (hd _ (by omega)) | (left; subst_vars; exact hH.symm) | (left; subst_vars; rfl) | (left; simp; done) | (left; simp; omega)) (by omega)) | omega | rfl | assumption | exact Flat.nil | exact ⟨_, rfl, rfl, by assumption⟩ | (simp; done) | (simp; omega))) ?_
  intro k zh
  obtain ⟨hk, hall, hord⟩ := zh
  simp (maxSteps := 4000000) (disch := omega) only [go_sem, w64, AndB_of, IfB_of, IfB_no, pickE_of, pickE_no, ite_of, ite_no, tdivE, tmodE, takeAll]
  refine IfB.dec (fun h1 => ?_) (fun h1 => ?_)
  · have h1' : k < l.length := by omega
    have hr := hs _ (List.getElem_mem h1')
    have hr2 : ∀ x ∈ l[k].row, x.s.size ≤ 9223372036854775807 := fun x hx => by have := hr.2 x hx; omega
    have no1 : ¬ l[k].Ok → ¬ wrsOk l := fun e e2 => e (e2.1 k h1')
    have yes : l[k].Ok → (∀ j (h : j + 1 = k), l[j].key < l[k].key) → (∀ j (h : j < l.length), j < k + 1 → l[j].Ok) ∧ ∀ j (h : j + 1 < l.length), j + 1 < k + 1 → l[j].key < l[j + 1].key := fun a b =>
      ⟨fun j hj hjk => by
        by_cases e : j = k
        · subst e; exact a
        · exact hall j hj (by omega), fun j hj hjk => by
        by_cases e : j + 1 = k
        · subst e; exact b j rfl
        · exact hord j hj (by omega)⟩
    have e1 : ((k : Int) - 1).toNat = k - 1 := by omega
    have no2 : ∀ (hb : ((k : Int) - 1).toNat < l.length), (0 : Int) < k → l[k].key ≤ l[((k : Int) - 1).toNat].key → ¬ wrsOk l := fun hb h0 hle e => by
      have h2 := e.2 (k - 1) (by omega)
      have e2 : k - 1 + 1 = k := by omega
      simp only [e2] at h2
      simp only [e1] at hle
      omega
    have yes2 : ∀ (hb : ((k : Int) - 1).toNat < l.length), ¬ l[k].key ≤ l[((k : Int) - 1).toNat].key → ∀ j (h : j + 1 = k), l[j].key < l[k].key := fun hb hle j hj => by
      simp only [e1] at hle
      have e2 : j = k - 1 := by omega
      subst e2
      omega
    have yes0 : ¬ (0 : Int) < k → ∀ j (h : j + 1 = k), l[j].key < l[k].key := fun h j hj => by omega
    simp (maxSteps := 4000000) (disch := omega) only [go_sem, w64, AndB_of, IfB_of, IfB_no, pickE_of, pickE_no, ite_of, ite_no, tdivE, tmodE, takeAll]
    refine DrawB.quiet (by kernel_rfl) ?_
    simp (maxSteps := 4000000) (disch := omega) only [go_sem, w64, AndB_of, IfB_of, IfB_no, pickE_of, pickE_no, ite_of, ite_no, tdivE, tmodE, takeAll]
    repeat' (first | (refine IfB.dec (fun h => ?_) (fun h => ?_) <;> (try (have h2 := h; unfold inR at h2)) <;> (try simp (maxSteps := 4000000) (disch := omega) only [go_sem, w64, AndB_of, IfB_of, IfB_no, pickE_of, pickE_no, ite_of, ite_no, tdivE, tmodE, takeAll, h])) | (refine IfB.split (fun h => ?_) (fun h => ?_) <;> (try simp (maxSteps := 4000000) (disch := omega) only [go_sem, w64, AndB_of, IfB_of, IfB_no, pickE_of, pickE_no, ite_of, ite_no, tdivE, tmodE, takeAll, h])) | (refine DrawB.quiet (by kernel_rfl) ?_; simp (maxSteps := 4000000) (disch := omega) only [go_sem, w64, AndB_of, IfB_of, IfB_no, pickE_of, pickE_no, ite_of, ite_no, tdivE, tmodE, takeAll]) | (apply CallB.q (q_keyOk _); simp (maxSteps := 4000000) (disch := omega) only [go_sem, w64, AndB_of, IfB_of, IfB_no, pickE_of, pickE_no, ite_of, ite_no, tdivE, tmodE, takeAll]) | (apply CallB.q (q_RowOkI _ hr.1 hr2); simp (maxSteps := 4000000) (disch := omega) only [go_sem, w64, AndB_of, IfB_of, IfB_no, pickE_of, pickE_no, ite_of, ite_no, tdivE, tmodE, takeAll]) | (apply DCallB.q0 (q_keyOk _); simp (maxSteps := 4000000) (disch := omega) only [go_sem, w64, AndB_of, IfB_of, IfB_no, pickE_of, pickE_no, ite_of, ite_no, tdivE, tmodE, takeAll]) | (apply DCallB.q0 (q_RowOkI _ hr.1 hr2); simp (maxSteps := 4000000) (disch := omega) only [go_sem, w64, AndB_of, IfB_of, IfB_no, pickE_of, pickE_no, ite_of, ite_no, tdivE, tmodE, takeAll]))
    all_goals first
      | (rw [decide_eq_false (no2 (by omega) (by assumption) (by assumption))]; done)
      | (rw [decide_eq_false (no1 (fun e => by unfold GWr.Ok at e; have a1 := e.1; have a2 := e.2.1; have a3 := e.2.2; first | contradiction | (apply a3; exact ⟨by assumption, by omega⟩)))]; done)
      | (have hy := yes ⟨by assumption, by assumption, fun e => by have b1 := e.1; have b2 := e.2; first | omega | simp_all⟩ (by first | exact yes0 (by assumption) | exact yes2 (by omega) (by assumption))
         ((repeat' apply And.intro) <;> first | exact hy.1 | exact hy.2 | (exact Weak.go (by (first | (simp [wkL]; done) | (simp [wkL]; omega))) (fun zi => by first | exact .inl rfl | exact .inr rfl | (simp only [upd]; repeat' split) <;> first | exact hy.1 | exact hy.2 | exact .inl rfl | exact .inr rfl | (exfalso; omega) | exact .inr (hd _ (by omega)) | (left; subst_vars; exact hH.symm) | (left; subst_vars; rfl) | (left; simp; done) | (left; simp; omega)) (by omega)) | omega | rfl | assumption | exact Flat.nil | exact ⟨_, rfl, rfl, by assumption⟩ | (simp; done) | (simp; omega)))
  · simp (maxSteps := 4000000) (disch := omega) only [go_sem, w64, AndB_of, IfB_of, IfB_no, pickE_of, pickE_no, ite_of, ite_no, tdivE, tmodE, takeAll]
    have : wrsOk l := ⟨fun j hj => hall j hj (by omega), fun j hj => hord j hj (by omega)⟩
    have h5 := wrsOk_len this
    simp [this]
    try omega
end Go.TH
