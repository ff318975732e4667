/- TH: versions that are ok, the other one: the walk. Made by gen.py. -/
import Derived.Test.YtbhibkochjfdfaaTaw
import Derived.Test.YtbhibkochjfdfaaTar
namespace Go.TH
open Go Go.Proofs
set_option linter.unusedSimpArgs false
set_option linter.unusedVariables false
set_option maxHeartbeats 20000000
set_option maxRecDepth 100000
theorem q_VersionsOkI (l : List GVer) (hl : l.length ≤ 1048576) (hs : ∀ v ∈ l, v.row.length ≤ 1048576 ∧ ∀ x ∈ v.row, x.s.size ≤ 9223372036854775807) : QCall Try.prog 18 [versA l] (.bool (decide (versOk l))) := by
  refine qcall_body mixed Try.func18 _ (by unfold Try.f18; rfl) Try.ntmps18 Try.results18 (by decide) 0 (by simp) (by simp [pureL, pureA]) ?_
  unfold versA
  simp (maxSteps := 4000000) (disch := omega) only [go_sem, w64, AndB_of, IfB_of, IfB_no, pickE_of, pickE_no, ite_of, ite_no, tdivE, tmodE]
  refine LoopB.intro (fun i : Nat => ⟨mkT 85 [(0, .sl l.length false (flat GVer.c l)), (2, .bool false), (6, .sl l.length false (flat GVer.c l)), (7, .int .i64 l.length), (8, .int .i64 i)], noH, 2 * i⟩) (fun i => l.length - i)
    (fun i => i ≤ l.length ∧ (∀ j (h : j < l.length), j < i → l[j].Ok) ∧ ∀ j (h : j + 1 < l.length), j + 1 < i → ordP l[j] l[j + 1]) 0 (Weak.mk (by simp [wkL, mkT_eq, mkT_cons, mkT_nil, mkT_zero, kT_nil, kT_end, kT_keep, kT_put, kT_gap])) ⟨by omega, fun j h hj => by omega, fun j h hj => by omega⟩ ?_
  rintro i ⟨hi, hall, hord⟩
  simp only [mkT_eq, mkT_cons, mkT_nil, mkT_zero, Nat.reduceAdd, reduceIte, Nat.reduceEqDiff, reduceCtorEq]
  simp (maxSteps := 4000000) (disch := omega) only [go_sem, w64, AndB_of, IfB_of, IfB_no, pickE_of, pickE_no, ite_of, ite_no, tdivE, tmodE]
  refine IfB.dec (fun hlt => ?_) (fun hlt => ?_)
  · have hlt : i < l.length := by omega
    have hr := hs l[i] (List.getElem_mem _)
    simp (maxSteps := 4000000) (disch := omega) only [go_sem, w64, AndB_of, IfB_of, IfB_no, pickE_of, pickE_no, ite_of, ite_no, tdivE, tmodE]
    cases i with
    | zero =>
      simp (maxSteps := 4000000) (disch := omega) only [go_sem, w64, AndB_of, IfB_of, IfB_no, pickE_of, pickE_no, ite_of, ite_no, tdivE, tmodE]
      repeat' (first | (refine IfB.dec (fun h => ?_) (fun h => ?_) <;> (try (have h2 := h; unfold inR at h2)) <;> simp (maxSteps := 4000000) (disch := omega) only [go_sem, w64, AndB_of, IfB_of, IfB_no, pickE_of, pickE_no, ite_of, ite_no, tdivE, tmodE, h]) | (refine IfB.split (fun h => ?_) (fun h => ?_) <;> simp (maxSteps := 4000000) (disch := omega) only [go_sem, w64, AndB_of, IfB_of, IfB_no, pickE_of, pickE_no, ite_of, ite_no, tdivE, tmodE, h]) | (refine DrawB.quiet (by kernel_rfl) ?_; simp (maxSteps := 4000000) (disch := omega) only [go_sem, w64, AndB_of, IfB_of, IfB_no, pickE_of, pickE_no, ite_of, ite_no, tdivE, tmodE]) | (apply CallB.q (q_keyOk _); simp (maxSteps := 4000000) (disch := omega) only [go_sem, w64, AndB_of, IfB_of, IfB_no, pickE_of, pickE_no, ite_of, ite_no, tdivE, tmodE]) | (apply CallB.q (q_between _ _ _); simp (maxSteps := 4000000) (disch := omega) only [go_sem, w64, AndB_of, IfB_of, IfB_no, pickE_of, pickE_no, ite_of, ite_no, tdivE, tmodE]) | (apply CallB.q (q_RowOkI _ hr.1 hr.2); simp (maxSteps := 4000000) (disch := omega) only [go_sem, w64, AndB_of, IfB_of, IfB_no, pickE_of, pickE_no, ite_of, ite_no, tdivE, tmodE]) | (apply DCallB.q0 (q_keyOk _); simp (maxSteps := 4000000) (disch := omega) only [go_sem, w64, AndB_of, IfB_of, IfB_no, pickE_of, pickE_no, ite_of, ite_no, tdivE, tmodE]) | (apply DCallB.q0 (q_between _ _ _); simp (maxSteps := 4000000) (disch := omega) only [go_sem, w64, AndB_of, IfB_of, IfB_no, pickE_of, pickE_no, ite_of, ite_no, tdivE, tmodE]) | (apply DCallB.q0 (q_RowOkI _ hr.1 hr.2); simp (maxSteps := 4000000) (disch := omega) only [go_sem, w64, AndB_of, IfB_of, IfB_no, pickE_of, pickE_no, ite_of, ite_no, tdivE, tmodE]))
      all_goals first
        | (refine LQ.next 1 ⟨by omega, fun j hj hji => ?_, fun j hj hji => by omega⟩ (by omega) (Weak.noH (by simp [wkL, mkT_eq, mkT_cons, mkT_nil, mkT_zero]) (by omega))
           obtain rfl : j = 0 := by omega
           unfold GVer.Ok
           refine ⟨by assumption, by assumption, ?_, by assumption⟩
           first | (left; omega) | (right; assumption))
        | (have : ¬ versOk l := fun e => by
             have a := e.1 0 hlt
             unfold GVer.Ok at a
             obtain ⟨a1, a2, a3, a4⟩ := a
             first | contradiction | (rcases a3 with a3 | a3 <;> first | contradiction | omega)
           simp [this])
    | succ i =>
      have hlt' : i < l.length := by omega
      have hok' := hall i hlt' (by omega)
      repeat' (first | (refine IfB.dec (fun h => ?_) (fun h => ?_) <;> (try (have h2 := h; unfold inR at h2)) <;> simp (maxSteps := 4000000) (disch := omega) only [go_sem, w64, AndB_of, IfB_of, IfB_no, pickE_of, pickE_no, ite_of, ite_no, tdivE, tmodE, h]) | (refine IfB.split (fun h => ?_) (fun h => ?_) <;> simp (maxSteps := 4000000) (disch := omega) only [go_sem, w64, AndB_of, IfB_of, IfB_no, pickE_of, pickE_no, ite_of, ite_no, tdivE, tmodE, h]) | (refine DrawB.quiet (by kernel_rfl) ?_; simp (maxSteps := 4000000) (disch := omega) only [go_sem, w64, AndB_of, IfB_of, IfB_no, pickE_of, pickE_no, ite_of, ite_no, tdivE, tmodE]) | (apply CallB.q (q_keyOk _); simp (maxSteps := 4000000) (disch := omega) only [go_sem, w64, AndB_of, IfB_of, IfB_no, pickE_of, pickE_no, ite_of, ite_no, tdivE, tmodE]) | (apply CallB.q (q_between _ _ _); simp (maxSteps := 4000000) (disch := omega) only [go_sem, w64, AndB_of, IfB_of, IfB_no, pickE_of, pickE_no, ite_of, ite_no, tdivE, tmodE]) | (apply CallB.q (q_RowOkI _ hr.1 hr.2); simp (maxSteps := 4000000) (disch := omega) only [go_sem, w64, AndB_of, IfB_of, IfB_no, pickE_of, pickE_no, ite_of, ite_no, tdivE, tmodE]) | (apply DCallB.q0 (q_keyOk _); simp (maxSteps := 4000000) (disch := omega) only [go_sem, w64, AndB_of, IfB_of, IfB_no, pickE_of, pickE_no, ite_of, ite_no, tdivE, tmodE]) | (apply DCallB.q0 (q_between _ _ _); simp (maxSteps := 4000000) (disch := omega) only [go_sem, w64, AndB_of, IfB_of, IfB_no, pickE_of, pickE_no, ite_of, ite_no, tdivE, tmodE]) | (apply DCallB.q0 (q_RowOkI _ hr.1 hr.2); simp (maxSteps := 4000000) (disch := omega) only [go_sem, w64, AndB_of, IfB_of, IfB_no, pickE_of, pickE_no, ite_of, ite_no, tdivE, tmodE]))
      all_goals first
        | (have hok : l[i + 1].Ok := by
             unfold GVer.Ok
             refine ⟨by assumption, by assumption, ?_, by assumption⟩
             first | (left; omega) | (right; assumption)
           refine LQ.next (i + 1 + 1) ⟨by omega, fun j hj hji => ?_, fun j hj hji => ?_⟩ (by omega) (Weak.noH (by simp [wkL, mkT_eq, mkT_cons, mkT_nil, mkT_zero]) (by omega))
           · by_cases e : j = i + 1
             · subst e; exact hok
             · exact hall j hj (by omega)
           · by_cases e : j = i
             · subst e
               unfold GVer.Ok at hok hok'
               unfold ordP inR at *
               omega
             · exact hord j hj (by omega))
        | (have : ¬ versOk l := fun e => by
             have a := e.1 (i + 1) hlt
             have b := e.2.1 i hlt
             unfold GVer.Ok at a hok'
             unfold ordP at b
             obtain ⟨a1, a2, a3, a4⟩ := a
             obtain ⟨c1, c2, c3, c4⟩ := hok'
             first
               | contradiction
               | (rcases a3 with a3 | a3 <;> first | contradiction | (unfold inR at *; omega))
           simp [this])
  · simp (maxSteps := 4000000) (disch := omega) only [go_sem, w64, AndB_of, IfB_of, IfB_no, pickE_of, pickE_no, ite_of, ite_no, tdivE, tmodE]
    rw [AV.bool.injEq, Bool.eq_iff_iff]; try simp only [decide_eq_true_iff]
    unfold versOk
    exact ⟨fun h => ⟨fun j hj => hall j hj (by omega), fun j hj => hord j hj (by omega), by omega⟩, fun h => by have := h.2.2; omega⟩
end Go.TH
