/- TH: what an expression rejects, 2: the walks. Made by gen.py. -/
import Derived.Test.YtfnflalnjigfkaaTf3
import Derived.Test.YtfnflalnjigfkaaTeek2
import Derived.Test.YtfnflalnjigfkaaTf4
namespace Go.TH
open Go Go.Proofs
set_option linter.unusedSimpArgs false
set_option linter.unusedVariables false
set_option maxHeartbeats 20000000
set_option maxRecDepth 100000
theorem two_of {α : Type} {l : List α} (h : l.length = 2) : ∃ a b, l = [a, b] := by
  match l, h with
  | [a, b], _ => exact ⟨a, b, rfl⟩
theorem one_of {α : Type} {l : List α} (h : l.length = 1) : ∃ a, l = [a] := by
  match l, h with
  | [a], _ => exact ⟨a, rfl⟩
theorem truth_v {v : GVal} (h : v.Ok) (c : Int) : (decide (v.k = 3) && (decide (v.n = c) && decide (v.s = ⟨#[]⟩))) = (decide (v.k = 3) && decide (v.n = c)) := by
  by_cases k : v.k = 3
  · have h0 : v.s.size = 0 := by unfold GVal.Ok at h; omega
    have h1 : v.s = ⟨#[]⟩ := ByteArray.ext (Array.eq_empty_of_size_eq_zero h0)
    simp [h1]
  · simp [k]
theorem q_ValueOf (n : Int) (hn : inR n 0 1) : QCall Try.prog 163 [.int .i64 n] (.agg [.int .i64 3, .int .i64 n, .str ⟨#[]⟩]) := by
  refine qcall_body mixed Try.func163 _ (by unfold Try.f163; rfl) Try.ntmps163 Try.results163 (by decide) 0 (by simp) (by simp [pureL, pureA]) ?_
  simp (maxSteps := 4000000) (disch := omega) only [go_sem, w64, AndB_of, IfB_of, IfB_no, pickE_of, pickE_no, ite_of, ite_no, tdivE, tmodE, takeAll]
  repeat' (first | (refine IfB.dec2 (fun h hd => ?_) (fun h hd => ?_) <;> (try (have h2 := h; unfold inR at h2)) <;> (try simp (maxSteps := 4000000) (disch := omega) only [go_sem, w64, AndB_of, IfB_of, IfB_no, pickE_of, pickE_no, ite_of, ite_no, tdivE, tmodE, takeAll, hd])) | (refine IfB.split (fun h => ?_) (fun h => ?_) <;> (try simp (maxSteps := 4000000) (disch := omega) only [go_sem, w64, AndB_of, IfB_of, IfB_no, pickE_of, pickE_no, ite_of, ite_no, tdivE, tmodE, takeAll, h])) | (refine DrawB.quiet (by kernel_rfl) ?_; simp (maxSteps := 4000000) (disch := omega) only [go_sem, w64, AndB_of, IfB_of, IfB_no, pickE_of, pickE_no, ite_of, ite_no, tdivE, tmodE, takeAll]) | (apply CallB.q (q_between _ _ _); simp (maxSteps := 4000000) (disch := omega) only [go_sem, w64, AndB_of, IfB_of, IfB_no, pickE_of, pickE_no, ite_of, ite_no, tdivE, tmodE, takeAll]) | (apply DCallB.q0 (q_between _ _ _); simp (maxSteps := 4000000) (disch := omega) only [go_sem, w64, AndB_of, IfB_of, IfB_no, pickE_of, pickE_no, ite_of, ite_no, tdivE, tmodE, takeAll]))
theorem q_find (p : GPt) (hp : p.v.s.size ≤ 9223372036854775807) (cols : List GCol) (fr : Int) (l : List GFt) (ht : pTells cols p) (hl : l.length = pTakes p) :
    QCall Try.prog 128 [.agg (GPt.c p), factsA l, .int .i64 fr] (.agg (GFt.c (findF p fr l))) := by
  have hk : 1 ≤ p.k ∧ p.k ≤ 8 := by unfold pTells at ht; omega
  unfold GPt.c
  refine qcall_body mixed Try.func128 _ (by unfold Try.f128; rfl) Try.ntmps128 Try.results128 (by decide) 0 (by simp) (by simp [pureL, pureA]) ?_
  simp (maxSteps := 4000000) (disch := omega) only [go_sem, w64, AndB_of, IfB_of, IfB_no, pickE_of, pickE_no, ite_of, ite_no, tdivE, tmodE, takeAll]
  refine IfB.dec (fun k1 => ?_) (fun k1 => ?_)
  · simp (maxSteps := 4000000) (disch := omega) only [go_sem, w64, AndB_of, IfB_of, IfB_no, pickE_of, pickE_no, ite_of, ite_no, tdivE, tmodE, takeAll]
    refine DrawB.intro [9] [] (inS (1) (1) (1)) (by kernel_rfl) ?_
    simp (maxSteps := 4000000) (disch := omega) only [go_sem, w64, AndB_of, IfB_of, IfB_no, pickE_of, pickE_no, ite_of, ite_no, tdivE, tmodE, takeAll]
    refine DCallB.q0 (q_ValueOf 0 (by decide)) ?_
    simp (maxSteps := 4000000) (disch := omega) only [go_sem, w64, AndB_of, IfB_of, IfB_no, pickE_of, pickE_no, ite_of, ite_no, tdivE, tmodE, takeAll]
    refine DCallB.q0 (q_ValueOf 1 (by decide)) ?_
    simp (maxSteps := 4000000) (disch := omega) only [go_sem, w64, AndB_of, IfB_of, IfB_no, pickE_of, pickE_no, ite_of, ite_no, tdivE, tmodE, takeAll]
    have hok : p.v.Ok := by
      unfold pTells at ht
      rcases ht with h | h | h | h
      · exact h.2.2.1
      all_goals (exfalso; have := h.1; omega)
    have e0 := truth_v hok 0
    have e1 := truth_v hok 1
    rw [e0, e1]
    unfold findF
    rw [if_pos k1]
    rfl
  simp (maxSteps := 4000000) (disch := omega) only [go_sem, w64, AndB_of, IfB_of, IfB_no, pickE_of, pickE_no, ite_of, ite_no, tdivE, tmodE, takeAll]
  refine IfB.dec (fun k2 => ?_) (fun k2 => ?_)
  · simp (maxSteps := 4000000) (disch := omega) only [go_sem, w64, AndB_of, IfB_of, IfB_no, pickE_of, pickE_no, ite_of, ite_no, tdivE, tmodE, takeAll]
    unfold findF
    rw [if_neg k1, if_pos k2]
    rfl
  simp (maxSteps := 4000000) (disch := omega) only [go_sem, w64, AndB_of, IfB_of, IfB_no, pickE_of, pickE_no, ite_of, ite_no, tdivE, tmodE, takeAll]
  refine IfB.dec (fun k3 => ?_) (fun k3 => ?_)
  · have t2 : l.length = 2 := by rw [hl]; unfold pTakes; rw [if_pos (by omega)]
    obtain ⟨⟨a0, a1, a2⟩, ⟨b0, b1, b2⟩, rfl⟩ := two_of t2
    unfold factsA
    cases a0 <;> cases b0
    all_goals simp (maxSteps := 4000000) (disch := omega) only [go_sem, w64, AndB_of, IfB_of, IfB_no, pickE_of, pickE_no, ite_of, ite_no, tdivE, tmodE, takeAll, flat, List.flatMap, GFt.c]
    all_goals (unfold findF; rw [if_neg k1, if_neg k2, if_pos (Or.inl k3)]; rfl)
  simp (maxSteps := 4000000) (disch := omega) only [go_sem, w64, AndB_of, IfB_of, IfB_no, pickE_of, pickE_no, ite_of, ite_no, tdivE, tmodE, takeAll]
  refine IfB.dec (fun k4 => ?_) (fun k4 => ?_)
  · have t2 : l.length = 2 := by rw [hl]; unfold pTakes; rw [if_pos (by omega)]
    obtain ⟨⟨a0, a1, a2⟩, ⟨b0, b1, b2⟩, rfl⟩ := two_of t2
    unfold factsA
    cases a0 <;> cases b0
    all_goals simp (maxSteps := 4000000) (disch := omega) only [go_sem, w64, AndB_of, IfB_of, IfB_no, pickE_of, pickE_no, ite_of, ite_no, tdivE, tmodE, takeAll, flat, List.flatMap, GFt.c]
    all_goals (unfold findF; rw [if_neg k1, if_neg k2, if_pos (Or.inr k4)]; rfl)
  simp (maxSteps := 4000000) (disch := omega) only [go_sem, w64, AndB_of, IfB_of, IfB_no, pickE_of, pickE_no, ite_of, ite_no, tdivE, tmodE, takeAll]
  refine IfB.dec (fun k5 => ?_) (fun k5 => ?_)
  · have t2 : l.length = 2 := by rw [hl]; unfold pTakes; rw [if_pos (by omega)]
    obtain ⟨⟨a0, a1, a2⟩, ⟨b0, b1, b2⟩, rfl⟩ := two_of t2
    unfold factsA
    cases a1 <;> cases b1 <;> cases a2 <;> cases b2
    all_goals
      simp (maxSteps := 4000000) (disch := omega) only [go_sem, w64, AndB_of, IfB_of, IfB_no, pickE_of, pickE_no, ite_of, ite_no, tdivE, tmodE, takeAll, flat, List.flatMap, GFt.c]
      refine DrawB.intro [21, 22] [] (inS (2) (2) (2)) (by kernel_rfl) ?_
      simp (maxSteps := 4000000) (disch := omega) only [go_sem, w64, AndB_of, IfB_of, IfB_no, pickE_of, pickE_no, ite_of, ite_no, tdivE, tmodE, takeAll, flat, List.flatMap, GFt.c]
    all_goals (unfold findF; rw [if_neg k1, if_neg k2, if_neg (fun h => h.elim k3 k4), if_pos k5]; rfl)
  simp (maxSteps := 4000000) (disch := omega) only [go_sem, w64, AndB_of, IfB_of, IfB_no, pickE_of, pickE_no, ite_of, ite_no, tdivE, tmodE, takeAll]
  refine IfB.dec (fun k6 => ?_) (fun k6 => ?_)
  · have t2 : l.length = 2 := by rw [hl]; unfold pTakes; rw [if_pos (by omega)]
    obtain ⟨⟨a0, a1, a2⟩, ⟨b0, b1, b2⟩, rfl⟩ := two_of t2
    unfold factsA
    cases a1 <;> cases b1 <;> cases a2 <;> cases b2
    all_goals
      simp (maxSteps := 4000000) (disch := omega) only [go_sem, w64, AndB_of, IfB_of, IfB_no, pickE_of, pickE_no, ite_of, ite_no, tdivE, tmodE, takeAll, flat, List.flatMap, GFt.c]
      refine DrawB.intro [21, 22] [] (inS (2) (2) (2)) (by kernel_rfl) ?_
      simp (maxSteps := 4000000) (disch := omega) only [go_sem, w64, AndB_of, IfB_of, IfB_no, pickE_of, pickE_no, ite_of, ite_no, tdivE, tmodE, takeAll, flat, List.flatMap, GFt.c]
    all_goals (unfold findF; rw [if_neg k1, if_neg k2, if_neg (fun h => h.elim k3 k4), if_neg k5, if_pos k6]; rfl)
  simp (maxSteps := 4000000) (disch := omega) only [go_sem, w64, AndB_of, IfB_of, IfB_no, pickE_of, pickE_no, ite_of, ite_no, tdivE, tmodE, takeAll]
  refine IfB.dec (fun k7 => ?_) (fun k7 => ?_)
  · have t1 : l.length = 1 := by rw [hl]; unfold pTakes; rw [if_neg (by omega), if_pos (by omega)]
    obtain ⟨⟨a0, a1, a2⟩, rfl⟩ := one_of t1
    unfold factsA
    simp (maxSteps := 4000000) (disch := omega) only [go_sem, w64, AndB_of, IfB_of, IfB_no, pickE_of, pickE_no, ite_of, ite_no, tdivE, tmodE, takeAll, flat, List.flatMap, GFt.c]
    refine DrawB.intro [13] [] (inS (1) (1) (1)) (by kernel_rfl) ?_
    simp (maxSteps := 4000000) (disch := omega) only [go_sem, w64, AndB_of, IfB_of, IfB_no, pickE_of, pickE_no, ite_of, ite_no, tdivE, tmodE, takeAll, flat, List.flatMap, GFt.c]
    (unfold findF; rw [if_neg k1, if_neg k2, if_neg (fun h => h.elim k3 k4), if_neg k5, if_neg k6, if_pos k7]; rfl)
  have t1 : l.length = 1 := by rw [hl]; unfold pTakes; rw [if_neg (by omega), if_pos (by omega)]
  obtain ⟨⟨a0, a1, a2⟩, rfl⟩ := one_of t1
  unfold factsA
  simp (maxSteps := 4000000) (disch := omega) only [go_sem, w64, AndB_of, IfB_of, IfB_no, pickE_of, pickE_no, ite_of, ite_no, tdivE, tmodE, takeAll, flat, List.flatMap, GFt.c]
  (unfold findF; rw [if_neg k1, if_neg k2, if_neg (fun h => h.elim k3 k4), if_neg k5, if_neg k6, if_neg k7]; rfl)
end Go.TH
