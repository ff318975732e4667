/- TH: versions: the walks. Made by gen.py. -/
import Derived.Test.YtbhibkochjfdfaaTf3
import Derived.Test.YtbhibkochjfdfaaTav
namespace Go.TH
open Go Go.Proofs
set_option linter.unusedSimpArgs false
set_option linter.unusedVariables false
set_option maxHeartbeats 20000000
set_option maxRecDepth 100000
theorem q_toVersion (v : GVer) (hl : v.row.length ≤ 1048576) : QCall Try.prog 77 [.agg [.int .i64 v.key, .int .i64 v.born, .int .i64 v.died, rowA v.row]] (.agg [.int .i64 v.key, .int .i64 v.born, .int .i64 v.died, rowA v.row]) := by
  refine qcall_body mixed Try.func77 _ (by unfold Try.f77; rfl) Try.ntmps77 Try.results77 (by decide) 0 (by simp) (by simp [pureL, pureA]) ?_
  simp (maxSteps := 4000000) (disch := omega) only [go_sem, w64, AndB_of, IfB_of, IfB_no, pickE_of, pickE_no, ite_of, ite_no, tdivE, tmodE, takeAll]
  refine CallB.q (q_toValueS _ _ hl) ?_
  simp (maxSteps := 4000000) (disch := omega) only [go_sem, w64, AndB_of, IfB_of, IfB_no, pickE_of, pickE_no, ite_of, ite_no, tdivE, tmodE, takeAll]
theorem q_szVersion (v : GVer) (left : Int) (h0 : 0 ≤ left) (h1 : left ≤ 1048576) (hl : v.row.length ≤ 9223372036854775807) (hs : ∀ x ∈ v.row, x.s.size ≤ 9223372036854775807) : QCall Try.prog 75 [.agg [.int .i64 v.key, .int .i64 v.born, .int .i64 v.died, rowA v.row], .int .i64 left] (.int .i64 (szRow v.row left)) := by
  refine qcall_body mixed Try.func75 _ (by unfold Try.f75; rfl) Try.ntmps75 Try.results75 (by decide) 0 (by simp) (by simp [pureL, pureA]) ?_
  simp (maxSteps := 4000000) (disch := omega) only [go_sem, w64, AndB_of, IfB_of, IfB_no, pickE_of, pickE_no, ite_of, ite_no, tdivE, tmodE, takeAll]
  refine CallB.q (q_szValueS _ _ _ h0 h1 hl hs) ?_
  simp (maxSteps := 4000000) (disch := omega) only [go_sem, w64, AndB_of, IfB_of, IfB_no, pickE_of, pickE_no, ite_of, ite_no, tdivE, tmodE, takeAll]
  have := szRow_lo v.row h0
  repeat' (first | (refine IfB.dec (fun h => ?_) (fun h => ?_) <;> (try (have h2 := h; unfold inR at h2)) <;> (try simp (maxSteps := 4000000) (disch := omega) only [go_sem, w64, AndB_of, IfB_of, IfB_no, pickE_of, pickE_no, ite_of, ite_no, tdivE, tmodE, takeAll, h])) | (refine IfB.split (fun h => ?_) (fun h => ?_) <;> (try simp (maxSteps := 4000000) (disch := omega) only [go_sem, w64, AndB_of, IfB_of, IfB_no, pickE_of, pickE_no, ite_of, ite_no, tdivE, tmodE, takeAll, h])) | (refine DrawB.quiet (by kernel_rfl) ?_; simp (maxSteps := 4000000) (disch := omega) only [go_sem, w64, AndB_of, IfB_of, IfB_no, pickE_of, pickE_no, ite_of, ite_no, tdivE, tmodE, takeAll]))
  all_goals (try simp_all [size_zero, inR, Bool.decide_and])
  all_goals (try omega)
  all_goals (try (intros; omega))
  all_goals (try (rw [Bool.eq_iff_iff]; simp [inR]))
  all_goals (try exact decide_eq_true_iff)
theorem q_eqVersion (v w : GVer) (hl : v.row.length ≤ 1048576) : QCall Try.prog 81 [.agg [.int .i64 v.key, .int .i64 v.born, .int .i64 v.died, rowA v.row], .agg [.int .i64 w.key, .int .i64 w.born, .int .i64 w.died, rowA w.row]] (.bool (decide (v = w))) := by
  refine qcall_body mixed Try.func81 _ (by unfold Try.f81; rfl) Try.ntmps81 Try.results81 (by decide) 0 (by simp) (by simp [pureL, pureA]) ?_
  obtain ⟨a1, a2, a3, a4⟩ := v
  obtain ⟨b1, b2, b3, b4⟩ := w
  simp (maxSteps := 4000000) (disch := omega) only [go_sem, w64, AndB_of, IfB_of, IfB_no, pickE_of, pickE_no, ite_of, ite_no, tdivE, tmodE, takeAll]
  repeat' (first | (refine IfB.dec (fun h => ?_) (fun h => ?_) <;> (try (have h2 := h; unfold inR at h2)) <;> (try simp (maxSteps := 4000000) (disch := omega) only [go_sem, w64, AndB_of, IfB_of, IfB_no, pickE_of, pickE_no, ite_of, ite_no, tdivE, tmodE, takeAll, h])) | (refine IfB.split (fun h => ?_) (fun h => ?_) <;> (try simp (maxSteps := 4000000) (disch := omega) only [go_sem, w64, AndB_of, IfB_of, IfB_no, pickE_of, pickE_no, ite_of, ite_no, tdivE, tmodE, takeAll, h])) | (refine DrawB.quiet (by kernel_rfl) ?_; simp (maxSteps := 4000000) (disch := omega) only [go_sem, w64, AndB_of, IfB_of, IfB_no, pickE_of, pickE_no, ite_of, ite_no, tdivE, tmodE, takeAll]) | (apply CallB.q (q_eqValueS _ _ hl); simp (maxSteps := 4000000) (disch := omega) only [go_sem, w64, AndB_of, IfB_of, IfB_no, pickE_of, pickE_no, ite_of, ite_no, tdivE, tmodE, takeAll]) | (apply DCallB.q0 (q_eqValueS _ _ hl); simp (maxSteps := 4000000) (disch := omega) only [go_sem, w64, AndB_of, IfB_of, IfB_no, pickE_of, pickE_no, ite_of, ite_no, tdivE, tmodE, takeAll]))
  all_goals (try simp_all [size_zero, inR, Bool.decide_and])
  all_goals (try omega)
  all_goals (try (intros; omega))
  all_goals (try (rw [Bool.eq_iff_iff]; simp [inR]))
  all_goals (try exact decide_eq_true_iff)
theorem q_szVersionS (l : List GVer) (left : Int) (h0 : 0 ≤ left) (h1 : left ≤ 1048576) (hl : l.length ≤ 9223372036854775807) (hs : ∀ v ∈ l, v.row.length ≤ 9223372036854775807 ∧ ∀ x ∈ v.row, x.s.size ≤ 9223372036854775807) :
    QCall Try.prog 15 [versA l, .int .i64 left] (.int .i64 (szVers l left)) := by
  refine qcall_body mixed Try.func15 _ (by unfold Try.f15; rfl) Try.ntmps15 Try.results15 (by decide) 0 (by simp) (by simp [pureL, pureA]) ?_
  unfold szVers versA
  simp (maxSteps := 4000000) (disch := omega) only [go_sem, w64, AndB_of, IfB_of, IfB_no, pickE_of, pickE_no, ite_of, ite_no, tdivE, tmodE, takeAll]
  refine IfB.dec (fun h => ?_) (fun h => ?_)
  · simp (maxSteps := 4000000) (disch := omega) only [go_sem, w64, AndB_of, IfB_of, IfB_no, pickE_of, pickE_no, ite_of, ite_no, tdivE, tmodE, takeAll, h]
  · simp (maxSteps := 4000000) (disch := omega) only [go_sem, w64, AndB_of, IfB_of, IfB_no, pickE_of, pickE_no, ite_of, ite_no, tdivE, tmodE, takeAll, h]
    refine LoopB.intro (fun i : Nat × Int => ⟨mkT 27 [(0, .sl l.length false (flat GVer.c l)), (1, .int .i64 i.2), (4, .int .i64 0), (5, .int .i64 i.1)], noH, 0⟩) (fun i => l.length - i.1)
      (fun i => i.1 ≤ l.length ∧ 0 ≤ i.2 ∧ i.2 ≤ 1048576 ∧ szVerL (l.drop i.1) i.2 = szVerL l (left - l.length)) (0, left - l.length) (Weak.mk (by simp [wkL, mkT_eq, mkT_cons, mkT_nil, mkT_zero, kT_nil, kT_end, kT_keep, kT_put, kT_gap])) ⟨by omega, by omega, by omega, by simp⟩ ?_
    rintro ⟨i, cur⟩ ⟨hi, hc0, hc1, hsz⟩
    simp only at hi hc0 hc1 hsz
    simp only [mkT_eq, mkT_cons, mkT_nil, mkT_zero, Nat.reduceAdd, reduceIte, Nat.reduceEqDiff, reduceCtorEq]
    simp (maxSteps := 4000000) (disch := omega) only [go_sem, w64, AndB_of, IfB_of, IfB_no, pickE_of, pickE_no, ite_of, ite_no, tdivE, tmodE, takeAll]
    refine IfB.dec (fun hlt => ?_) (fun hlt => ?_)
    · have hlt : i < l.length := by omega
      simp (maxSteps := 4000000) (disch := omega) only [go_sem, w64, AndB_of, IfB_of, IfB_no, pickE_of, pickE_no, ite_of, ite_no, tdivE, tmodE, takeAll]
      have := hs l[i] (List.getElem_mem _)
      refine CallB.q (q_szVersion _ _ (by omega) (by omega) this.1 this.2) ?_
      rw [List.drop_eq_getElem_cons hlt, szVerL] at hsz
      have := szRow_lo l[i].row hc0
      simp (maxSteps := 4000000) (disch := omega) only [go_sem, w64, AndB_of, IfB_of, IfB_no, pickE_of, pickE_no, ite_of, ite_no, tdivE, tmodE, takeAll]
      refine IfB.dec (fun h => ?_) (fun h => ?_)
      · rw [if_pos h] at hsz
        simp (maxSteps := 4000000) (disch := omega) only [go_sem, w64, AndB_of, IfB_of, IfB_no, pickE_of, pickE_no, ite_of, ite_no, tdivE, tmodE, takeAll, ← hsz]
      · rw [if_neg h] at hsz
        simp (maxSteps := 4000000) (disch := omega) only [go_sem, w64, AndB_of, IfB_of, IfB_no, pickE_of, pickE_no, ite_of, ite_no, tdivE, tmodE, takeAll]
        refine LQ.next (i + 1, szRow l[i].row cur) ⟨by simp; omega, by simp; omega, by simp; omega, hsz⟩ (by simp; omega) (Weak.mk (by simp [wkL, mkT_eq, mkT_cons, mkT_nil, mkT_zero, kT_nil, kT_end, kT_keep, kT_put, kT_gap]))
    · have : i = l.length := by omega
      subst this
      simp [szVerL] at hsz
      subst hsz
      simp (maxSteps := 4000000) (disch := omega) only [go_sem, w64, AndB_of, IfB_of, IfB_no, pickE_of, pickE_no, ite_of, ite_no, tdivE, tmodE, takeAll]
theorem q_toVersionS (l : List GVer) (hl : l.length ≤ 1048576) (hr : ∀ v ∈ l, v.row.length ≤ 1048576) :
    QCall Try.prog 17 [versA l] (versA l) := by
  refine qcall_body mixed Try.func17 _ (by unfold Try.f17; rfl) Try.ntmps17 Try.results17 (by decide) 1 (by simp) (by simp [pureL, pureA]) ?_
  unfold versA
  simp (maxSteps := 4000000) (disch := omega) only [go_sem, w64, AndB_of, IfB_of, IfB_no, pickE_of, pickE_no, ite_of, ite_no, tdivE, tmodE, takeAll, fillL_zero (c := GVer.c) l]
  refine LoopB.intro (fun i : Nat => ⟨mkT 23 [(0, .sl l.length false (flat GVer.c l)), (3, .msl 0 0 4 0 l.length), (4, .int .i64 i)], upd noH 0 (.live 0 (fillL GVer.c zVer l i)), 1⟩) (fun i => l.length - i)
    (fun i => i ≤ l.length) 0 (Weak.mk (by simp [wkL, mkT_eq, mkT_cons, mkT_nil, mkT_zero, kT_nil, kT_end, kT_keep, kT_put, kT_gap])) (by omega) ?_
  rintro i hi
  simp only [mkT_eq, mkT_cons, mkT_nil, mkT_zero, Nat.reduceAdd, reduceIte, Nat.reduceEqDiff, reduceCtorEq]
  simp (maxSteps := 4000000) (disch := omega) only [go_sem, w64, AndB_of, IfB_of, IfB_no, pickE_of, pickE_no, ite_of, ite_no, tdivE, tmodE, takeAll]
  refine IfB.dec (fun hlt => ?_) (fun hlt => ?_)
  · have hlt : i < l.length := by omega
    simp (maxSteps := 4000000) (disch := omega) only [go_sem, w64, AndB_of, IfB_of, IfB_no, pickE_of, pickE_no, ite_of, ite_no, tdivE, tmodE, takeAll]
    refine CallB.q (q_toVersion _ (hr _ (List.getElem_mem _))) ?_
    simp (maxSteps := 4000000) (disch := omega) only [go_sem, w64, AndB_of, IfB_of, IfB_no, pickE_of, pickE_no, ite_of, ite_no, tdivE, tmodE, takeAll]
    exact LQ.next (i + 1) (by omega) (by omega) (Weak.mk (by simp [wkL, mkT_eq, mkT_cons, mkT_nil, mkT_zero, kT_nil, kT_end, kT_keep, kT_put, kT_gap]))
  · have : i = l.length := by omega
    subst this
    simp (maxSteps := 4000000) (disch := omega) only [go_sem, w64, AndB_of, IfB_of, IfB_no, pickE_of, pickE_no, ite_of, ite_no, tdivE, tmodE, takeAll, fillL_all]
    try rw [map_snap _ _ (by simp [pureL_take, flat_pure GVer.pure])]
    try rw [List.take_of_length_le (by rw [flat_len GVer.len]; omega)]
    try rfl
theorem q_eqVersionS (l m : List GVer) (hl : l.length ≤ 1048576) (hr : ∀ v ∈ l, v.row.length ≤ 1048576) : QCall Try.prog 19 [versA l, versA m] (.bool (decide (l = m))) := by
  refine qcall_body mixed Try.func19 _ (by unfold Try.f19; rfl) Try.ntmps19 Try.results19 (by decide) 0 (by simp) (by simp [pureL, pureA]) ?_
  unfold versA
  simp (maxSteps := 4000000) (disch := omega) only [go_sem, w64, AndB_of, IfB_of, IfB_no, pickE_of, pickE_no, ite_of, ite_no, tdivE, tmodE, takeAll]
  refine IfB.dec (fun h => ?_) (fun h => ?_)
  · have hlen : l.length = m.length := by omega
    simp (maxSteps := 4000000) (disch := omega) only [go_sem, w64, AndB_of, IfB_of, IfB_no, pickE_of, pickE_no, ite_of, ite_no, tdivE, tmodE, takeAll, h]
    refine LoopB.intro (fun i : Nat => ⟨mkT 27 [(0, .sl l.length false (flat GVer.c l)), (1, .sl m.length false (flat GVer.c m)), (4, .bool false), (5, .int .i64 i)], noH, 0⟩) (fun i => l.length - i)
      (fun i => i ≤ l.length ∧ l.take i = m.take i) 0 (Weak.mk (by simp [wkL, mkT_eq, mkT_cons, mkT_nil, mkT_zero, kT_nil, kT_end, kT_keep, kT_put, kT_gap])) ⟨by omega, by simp⟩ ?_
    rintro i ⟨hi, hall⟩
    simp only [mkT_eq, mkT_cons, mkT_nil, mkT_zero, Nat.reduceAdd, reduceIte, Nat.reduceEqDiff, reduceCtorEq]
    simp (maxSteps := 4000000) (disch := omega) only [go_sem, w64, AndB_of, IfB_of, IfB_no, pickE_of, pickE_no, ite_of, ite_no, tdivE, tmodE, takeAll]
    refine IfB.dec (fun hlt => ?_) (fun hlt => ?_)
    · have hlt : i < l.length := by omega
      have hlt2 : i < m.length := by omega
      simp (maxSteps := 4000000) (disch := omega) only [go_sem, w64, AndB_of, IfB_of, IfB_no, pickE_of, pickE_no, ite_of, ite_no, tdivE, tmodE, takeAll]
      refine DrawB.quiet (by kernel_rfl) ?_
      simp (maxSteps := 4000000) (disch := omega) only [go_sem, w64, AndB_of, IfB_of, IfB_no, pickE_of, pickE_no, ite_of, ite_no, tdivE, tmodE, takeAll]
      refine DCallB.q0 (q_eqVersion _ _ (hr _ (List.getElem_mem _))) ?_
      simp (maxSteps := 4000000) (disch := omega) only [go_sem, w64, AndB_of, IfB_of, IfB_no, pickE_of, pickE_no, ite_of, ite_no, tdivE, tmodE, takeAll]
      refine IfB.dec (fun h => ?_) (fun h => ?_)
      · simp (maxSteps := 4000000) (disch := omega) only [go_sem, w64, AndB_of, IfB_of, IfB_no, pickE_of, pickE_no, ite_of, ite_no, tdivE, tmodE, takeAll]
        exact LQ.next (i + 1) ⟨by omega, by rw [List.take_succ_eq_append_getElem hlt, List.take_succ_eq_append_getElem hlt2, hall, h]⟩ (by omega) (Weak.mk (by simp [wkL, mkT_eq, mkT_cons, mkT_nil, mkT_zero, kT_nil, kT_end, kT_keep, kT_put, kT_gap]))
      · simp (maxSteps := 4000000) (disch := omega) only [go_sem, w64, AndB_of, IfB_of, IfB_no, pickE_of, pickE_no, ite_of, ite_no, tdivE, tmodE, takeAll]
        have : l ≠ m := fun e => h (by subst e; rfl)
        simp [this]
    · simp (maxSteps := 4000000) (disch := omega) only [go_sem, w64, AndB_of, IfB_of, IfB_no, pickE_of, pickE_no, ite_of, ite_no, tdivE, tmodE, takeAll]
      have : l = m := by
        rw [List.take_of_length_le (by omega), List.take_of_length_le (by omega)] at hall
        exact hall
      simp [this]
  · simp (maxSteps := 4000000) (disch := omega) only [go_sem, w64, AndB_of, IfB_of, IfB_no, pickE_of, pickE_no, ite_of, ite_no, tdivE, tmodE, takeAll]
    have : l ≠ m := fun e => h (by rw [e])
    simp [this]
end Go.TH
