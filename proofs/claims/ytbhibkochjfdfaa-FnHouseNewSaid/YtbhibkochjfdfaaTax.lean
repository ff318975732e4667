/- TH: versions that are ok: the walks. Made by gen.py. -/
import Derived.Test.YtbhibkochjfdfaaTf3
import Derived.Test.YtbhibkochjfdfaaTaw
import Derived.Test.YtbhibkochjfdfaaTar
namespace Go.TH
open Go Go.Proofs
set_option linter.unusedSimpArgs false
set_option linter.unusedVariables false
set_option maxHeartbeats 20000000
set_option maxRecDepth 100000
theorem q_l13Version (v : GVer) (hl : v.row.length ≤ 1048576) (hs : ∀ x ∈ v.row, x.s.size ≤ 9223372036854775807) : QCall Try.prog 76 [.agg [.int .i64 v.key, .int .i64 v.born, .int .i64 v.died, rowA v.row]] (.bool (decide v.Ok)) := by
  refine qcall_body mixed Try.func76 _ (by unfold Try.f76; rfl) Try.ntmps76 Try.results76 (by decide) 0 (by simp) (by simp [pureL, pureA]) ?_
  simp (maxSteps := 4000000) (disch := omega) only [go_sem, w64, AndB_of, IfB_of, IfB_no, pickE_of, pickE_no, ite_of, ite_no, tdivE, tmodE, takeAll]
  repeat' (first | (refine IfB.dec (fun h => ?_) (fun h => ?_) <;> (try (have h2 := h; unfold inR at h2)) <;> (try simp (maxSteps := 4000000) (disch := omega) only [go_sem, w64, AndB_of, IfB_of, IfB_no, pickE_of, pickE_no, ite_of, ite_no, tdivE, tmodE, takeAll, h])) | (refine IfB.split (fun h => ?_) (fun h => ?_) <;> (try simp (maxSteps := 4000000) (disch := omega) only [go_sem, w64, AndB_of, IfB_of, IfB_no, pickE_of, pickE_no, ite_of, ite_no, tdivE, tmodE, takeAll, h])) | (refine DrawB.quiet (by kernel_rfl) ?_; simp (maxSteps := 4000000) (disch := omega) only [go_sem, w64, AndB_of, IfB_of, IfB_no, pickE_of, pickE_no, ite_of, ite_no, tdivE, tmodE, takeAll]) | (apply CallB.q (q_l1In _ _ _); simp (maxSteps := 4000000) (disch := omega) only [go_sem, w64, AndB_of, IfB_of, IfB_no, pickE_of, pickE_no, ite_of, ite_no, tdivE, tmodE, takeAll]) | (apply CallB.q (q_RowOkS _ hl hs); simp (maxSteps := 4000000) (disch := omega) only [go_sem, w64, AndB_of, IfB_of, IfB_no, pickE_of, pickE_no, ite_of, ite_no, tdivE, tmodE, takeAll]) | (apply DCallB.q0 (q_l1In _ _ _); simp (maxSteps := 4000000) (disch := omega) only [go_sem, w64, AndB_of, IfB_of, IfB_no, pickE_of, pickE_no, ite_of, ite_no, tdivE, tmodE, takeAll]) | (apply DCallB.q0 (q_RowOkS _ hl hs); simp (maxSteps := 4000000) (disch := omega) only [go_sem, w64, AndB_of, IfB_of, IfB_no, pickE_of, pickE_no, ite_of, ite_no, tdivE, tmodE, takeAll]))
  all_goals (rw [AV.bool.injEq, Bool.eq_iff_iff]; (try simp only [decide_eq_true_iff]); unfold GVer.Ok; try simp_all)
  all_goals (unfold inR at *; try omega)
theorem q_VersionsOkS (l : List GVer) (hl : l.length ≤ 1048576) (hs : ∀ v ∈ l, v.row.length ≤ 1048576 ∧ ∀ x ∈ v.row, x.s.size ≤ 9223372036854775807) : QCall Try.prog 16 [versA l] (.bool (decide (versOk l))) := by
  refine qcall_body mixed Try.func16 _ (by unfold Try.f16; rfl) Try.ntmps16 Try.results16 (by decide) 0 (by simp) (by simp [pureL, pureA]) ?_
  unfold versA
  simp (maxSteps := 4000000) (disch := omega) only [go_sem, w64, AndB_of, IfB_of, IfB_no, pickE_of, pickE_no, ite_of, ite_no, tdivE, tmodE, takeAll]
  refine LoopB.intro (fun i : Nat => ⟨mkT 72 [(0, .sl l.length false (flat GVer.c l)), (2, .bool false), (3, .int .i64 i)], noH, 0⟩) (fun i => l.length - i)
    (fun i => i ≤ l.length ∧ (∀ j (h : j < l.length), j < i → l[j].Ok) ∧ ∀ j (h : j + 1 < l.length), j + 1 < i → ordP l[j] l[j + 1]) 0 (Weak.mk (by simp [wkL, mkT_eq, mkT_cons, mkT_nil, mkT_zero, kT_nil, kT_end, kT_keep, kT_put, kT_gap])) ⟨by omega, fun j h hj => by omega, fun j h hj => by omega⟩ ?_
  rintro i ⟨hi, hall, hord⟩
  simp only [mkT_eq, mkT_cons, mkT_nil, mkT_zero, Nat.reduceAdd, reduceIte, Nat.reduceEqDiff, reduceCtorEq]
  simp (maxSteps := 4000000) (disch := omega) only [go_sem, w64, AndB_of, IfB_of, IfB_no, pickE_of, pickE_no, ite_of, ite_no, tdivE, tmodE, takeAll]
  refine IfB.dec (fun hlt => ?_) (fun hlt => ?_)
  · have hlt : i < l.length := by omega
    simp (maxSteps := 4000000) (disch := omega) only [go_sem, w64, AndB_of, IfB_of, IfB_no, pickE_of, pickE_no, ite_of, ite_no, tdivE, tmodE, takeAll]
    refine CallB.q (q_l13Version _ (hs _ (List.getElem_mem _)).1 (hs _ (List.getElem_mem _)).2) ?_
    simp (maxSteps := 4000000) (disch := omega) only [go_sem, w64, AndB_of, IfB_of, IfB_no, pickE_of, pickE_no, ite_of, ite_no, tdivE, tmodE, takeAll]
    refine IfB.dec (fun hok => ?_) (fun hok => ?_)
    · simp (maxSteps := 4000000) (disch := omega) only [go_sem, w64, AndB_of, IfB_of, IfB_no, pickE_of, pickE_no, ite_of, ite_no, tdivE, tmodE, takeAll]
      refine DrawB.quiet (by kernel_rfl) ?_
      simp (maxSteps := 4000000) (disch := omega) only [go_sem, w64, AndB_of, IfB_of, IfB_no, pickE_of, pickE_no, ite_of, ite_no, tdivE, tmodE, takeAll]
      cases i with
      | zero =>
        simp (maxSteps := 4000000) (disch := omega) only [go_sem, w64, AndB_of, IfB_of, IfB_no, pickE_of, pickE_no, ite_of, ite_no, tdivE, tmodE, takeAll]
        refine LQ.next 1 ⟨by omega, fun j hj hji => ?_, fun j hj hji => by omega⟩ (by omega) (Weak.mk (by simp [wkL, mkT_eq, mkT_cons, mkT_nil, mkT_zero, kT_nil, kT_end, kT_keep, kT_put, kT_gap]))
        have : j = 0 := by omega
        subst this
        exact hok
      | succ i =>
        have hlt' : i < l.length := by omega
        simp (maxSteps := 4000000) (disch := omega) only [go_sem, w64, AndB_of, IfB_of, IfB_no, pickE_of, pickE_no, ite_of, ite_no, tdivE, tmodE, takeAll]
        repeat' (first | (refine IfB.dec (fun h => ?_) (fun h => ?_) <;> (try (have h2 := h; unfold inR at h2)) <;> (try simp (maxSteps := 4000000) (disch := omega) only [go_sem, w64, AndB_of, IfB_of, IfB_no, pickE_of, pickE_no, ite_of, ite_no, tdivE, tmodE, takeAll, h])) | (refine IfB.split (fun h => ?_) (fun h => ?_) <;> (try simp (maxSteps := 4000000) (disch := omega) only [go_sem, w64, AndB_of, IfB_of, IfB_no, pickE_of, pickE_no, ite_of, ite_no, tdivE, tmodE, takeAll, h])) | (refine DrawB.quiet (by kernel_rfl) ?_; simp (maxSteps := 4000000) (disch := omega) only [go_sem, w64, AndB_of, IfB_of, IfB_no, pickE_of, pickE_no, ite_of, ite_no, tdivE, tmodE, takeAll]))
        all_goals first
          | (refine LQ.next (i + 1 + 1) ⟨by omega, fun j hj hji => ?_, fun j hj hji => ?_⟩ (by omega) (Weak.mk (by simp [wkL, mkT_eq, mkT_cons, mkT_nil, mkT_zero, kT_nil, kT_end, kT_keep, kT_put, kT_gap]))
             · by_cases e : j = i + 1
               · subst e; exact hok
               · exact hall j hj (by omega)
             · by_cases e : j = i
               · subst e; unfold ordP; omega
               · exact hord j hj (by omega))
          | (have : ¬ versOk l := fun e => by
               have := e.2.1 i hlt
               unfold ordP at this
               omega
             simp [this])
    · simp (maxSteps := 4000000) (disch := omega) only [go_sem, w64, AndB_of, IfB_of, IfB_no, pickE_of, pickE_no, ite_of, ite_no, tdivE, tmodE, takeAll]
      have : ¬ versOk l := fun e => hok (e.1 _ _)
      simp [this]
  · simp (maxSteps := 4000000) (disch := omega) only [go_sem, w64, AndB_of, IfB_of, IfB_no, pickE_of, pickE_no, ite_of, ite_no, tdivE, tmodE, takeAll]
    rw [AV.bool.injEq, Bool.eq_iff_iff]; (try simp only [decide_eq_true_iff])
    unfold versOk
    exact ⟨fun h => ⟨fun j hj => hall j hj (by omega), fun j hj => hord j hj (by omega), by omega⟩, fun h => by have := h.2.2; omega⟩
end Go.TH
