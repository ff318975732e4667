/- TH: rows: the walks. Made by gen.py. -/
import Derived.Test.YtfnflalnjigfkaaTf3
import Derived.Test.YtfnflalnjigfkaaTev
namespace Go.TH
open Go Go.Proofs
set_option linter.unusedSimpArgs false
set_option linter.unusedVariables false
set_option maxHeartbeats 20000000
set_option maxRecDepth 100000
theorem q_RowOkS (l : GRow) (hl : l.length ≤ 1048576) (hs : ∀ v ∈ l, v.s.size ≤ 9223372036854775807) : QCall Try.prog 63 [rowA l] (.bool (decide (rowOk l))) := by
  refine qcall_body mixed Try.func63 _ (by unfold Try.f63; rfl) Try.ntmps63 Try.results63 (by decide) 0 (by simp) (by simp [pureL, pureA]) ?_
  unfold rowA
  simp (maxSteps := 4000000) (disch := omega) only [go_sem, w64, AndB_of, IfB_of, IfB_no, pickE_of, pickE_no, ite_of, ite_no, tdivE, tmodE, takeAll]
  refine LoopB.intro (fun i : Nat => ⟨mkT 19 [(0, .sl l.length false (flat GVal.c l)), (2, .bool false), (3, .int .i64 i)], noH, 0⟩) (fun i => l.length - i)
    (fun i => i ≤ l.length ∧ ∀ j (h : j < l.length), j < i → l[j].Ok) 0 (Weak.mk (by simp [wkL, mkT_eq, mkT_cons, mkT_nil, mkT_zero, kT_nil, kT_end, kT_keep, kT_put, kT_gap])) ⟨by omega, fun j h hj => by omega⟩ ?_
  rintro i ⟨hi, hall⟩
  simp only [mkT_eq, mkT_cons, mkT_nil, mkT_zero, Nat.reduceAdd, reduceIte, Nat.reduceEqDiff, reduceCtorEq]
  simp (maxSteps := 4000000) (disch := omega) only [go_sem, w64, AndB_of, IfB_of, IfB_no, pickE_of, pickE_no, ite_of, ite_no, tdivE, tmodE, takeAll]
  refine IfB.dec (fun hlt => ?_) (fun hlt => ?_)
  · have hlt : i < l.length := by omega
    simp (maxSteps := 4000000) (disch := omega) only [go_sem, w64, AndB_of, IfB_of, IfB_no, pickE_of, pickE_no, ite_of, ite_no, tdivE, tmodE, takeAll]
    refine CallB.q (q_ValueOkS _ (hs _ (List.getElem_mem _))) ?_
    simp (maxSteps := 4000000) (disch := omega) only [go_sem, w64, AndB_of, IfB_of, IfB_no, pickE_of, pickE_no, ite_of, ite_no, tdivE, tmodE, takeAll]
    refine IfB.dec (fun h => ?_) (fun h => ?_)
    · simp (maxSteps := 4000000) (disch := omega) only [go_sem, w64, AndB_of, IfB_of, IfB_no, pickE_of, pickE_no, ite_of, ite_no, tdivE, tmodE, takeAll]
      refine LQ.next (i + 1) ⟨by omega, fun j hj hji => ?_⟩ (by omega) (Weak.mk (by simp [wkL, mkT_eq, mkT_cons, mkT_nil, mkT_zero, kT_nil, kT_end, kT_keep, kT_put, kT_gap]))
      by_cases e : j = i
      · subst e; exact h
      · exact hall j hj (by omega)
    · simp (maxSteps := 4000000) (disch := omega) only [go_sem, w64, AndB_of, IfB_of, IfB_no, pickE_of, pickE_no, ite_of, ite_no, tdivE, tmodE, takeAll]
      have : ¬ rowOk l := fun e => h (e.2 _ (List.getElem_mem _))
      simp [this]
  · simp (maxSteps := 4000000) (disch := omega) only [go_sem, w64, AndB_of, IfB_of, IfB_no, pickE_of, pickE_no, ite_of, ite_no, tdivE, tmodE, takeAll]
    have : ∀ v ∈ l, v.Ok := fun v hv => by
      obtain ⟨j, hj, rfl⟩ := List.getElem_of_mem hv
      exact hall j hj (by omega)
    rw [AV.bool.injEq, Bool.eq_iff_iff]; (try simp only [decide_eq_true_iff])
    unfold rowOk
    exact ⟨fun h => ⟨by omega, this⟩, fun h => by have := h.1; omega⟩
theorem c_IndexFuncV (l : GRow) (f : FuncId) (cap : List AV) (p : GVal → Bool) (hl : l.length ≤ 1048576) {H : AH} {nx : Nat} (hf : ∀ v ∈ l, CallC Try.prog f ([.agg [.int .i64 v.k, .int .i64 v.n, .str v.s]] ++ cap) H nx (.bool (p v)) H nx) :
    CallC Try.prog 137 [rowA l, .fn f cap] H nx (.int .i64 (idxF p l)) H nx := by
  refine call_body mixed Try.func137 _ (by unfold Try.f137; rfl) Try.ntmps137 Try.results137 (by decide) (by simp) ?_
  unfold rowA
  simp (maxSteps := 4000000) (disch := omega) only [go_sem, w64, AndB_of, IfB_of, IfB_no, pickE_of, pickE_no, ite_of, ite_no, tdivE, tmodE, takeAll]
  refine LoopB.intro (fun i : Nat => ⟨mkT 19 [(0, .sl l.length false (flat GVal.c l)), (1, .fn f cap), (4, .int .i64 0), (7, .int .i64 l.length), (8, .int .i64 i)], H, nx⟩) (fun i => l.length - i)
    (fun i => i ≤ l.length ∧ ∀ j (h : j < l.length), j < i → p l[j] = false) 0 (Weak.mk (by simp [wkL, mkT_eq, mkT_cons, mkT_nil, mkT_zero, kT_nil, kT_end, kT_keep, kT_put, kT_gap])) ⟨by omega, fun j h hj => by omega⟩ ?_
  rintro i ⟨hi, hall⟩
  simp only [mkT_eq, mkT_cons, mkT_nil, mkT_zero, Nat.reduceAdd, reduceIte, Nat.reduceEqDiff, reduceCtorEq]
  simp (maxSteps := 4000000) (disch := omega) only [go_sem, w64, AndB_of, IfB_of, IfB_no, pickE_of, pickE_no, ite_of, ite_no, tdivE, tmodE, takeAll]
  refine IfB.dec (fun hlt => ?_) (fun hlt => ?_)
  · have hlt : i < l.length := by omega
    simp (maxSteps := 4000000) (disch := omega) only [go_sem, w64, AndB_of, IfB_of, IfB_no, pickE_of, pickE_no, ite_of, ite_no, tdivE, tmodE, takeAll]
    refine CallB.of (hf l[i] (List.getElem_mem _)) ?_
    simp (maxSteps := 4000000) (disch := omega) only [go_sem, w64, AndB_of, IfB_of, IfB_no, pickE_of, pickE_no, ite_of, ite_no, tdivE, tmodE, takeAll]
    refine IfB.split (fun h => ?_) (fun h => ?_)
    · simp (maxSteps := 4000000) (disch := omega) only [go_sem, w64, AndB_of, IfB_of, IfB_no, pickE_of, pickE_no, ite_of, ite_no, tdivE, tmodE, takeAll, idxF_at hlt h hall]
    · simp (maxSteps := 4000000) (disch := omega) only [go_sem, w64, AndB_of, IfB_of, IfB_no, pickE_of, pickE_no, ite_of, ite_no, tdivE, tmodE, takeAll]
      refine LQ.next (i + 1) ⟨by omega, fun j hj hji => ?_⟩ (by omega) (Weak.mk (by simp [wkL, mkT_eq, mkT_cons, mkT_nil, mkT_zero, kT_nil, kT_end, kT_keep, kT_put, kT_gap]))
      by_cases e : j = i
      · subst e; exact h
      · exact hall j hj (by omega)
  · simp (maxSteps := 4000000) (disch := omega) only [go_sem, w64, AndB_of, IfB_of, IfB_no, pickE_of, pickE_no, ite_of, ite_no, tdivE, tmodE, takeAll, idxF_none (fun j hj => hall j hj (by omega))]
theorem c_ContainsFuncV (l : GRow) (f : FuncId) (cap : List AV) (p : GVal → Bool) (hl : l.length ≤ 1048576) {H : AH} {nx : Nat} (hf : ∀ v ∈ l, CallC Try.prog f ([.agg [.int .i64 v.k, .int .i64 v.n, .str v.s]] ++ cap) H nx (.bool (p v)) H nx) :
    CallC Try.prog 80 [rowA l, .fn f cap] H nx (.bool (l.any p)) H nx := by
  refine call_body mixed Try.func80 _ (by unfold Try.f80; rfl) Try.ntmps80 Try.results80 (by decide) (by simp) ?_
  simp (maxSteps := 4000000) (disch := omega) only [go_sem, w64, AndB_of, IfB_of, IfB_no, pickE_of, pickE_no, ite_of, ite_no, tdivE, tmodE, takeAll]
  refine CallB.of (c_IndexFuncV l f cap p hl hf) ?_
  simp (maxSteps := 4000000) (disch := omega) only [go_sem, w64, AndB_of, IfB_of, IfB_no, pickE_of, pickE_no, ite_of, ite_no, tdivE, tmodE, takeAll]
  have := @idxF_ge _ p l
  rw [AV.bool.injEq, Bool.eq_iff_iff]; (try simp only [decide_eq_true_iff])
  simp [this]
theorem q_RowOk1 (v : GVal) (hs : v.s.size ≤ 9223372036854775807) : QCall Try.prog 81 [.agg [.int .i64 v.k, .int .i64 v.n, .str v.s]] (.bool (!decide v.Ok)) := by
  refine qcall_body mixed Try.func81 _ (by unfold Try.f81; rfl) Try.ntmps81 Try.results81 (by decide) 0 (by simp) (by simp [pureL, pureA]) ?_
  simp (maxSteps := 4000000) (disch := omega) only [go_sem, w64, AndB_of, IfB_of, IfB_no, pickE_of, pickE_no, ite_of, ite_no, tdivE, tmodE, takeAll]
  repeat' (first | (refine IfB.dec (fun h => ?_) (fun h => ?_) <;> (try (have h2 := h; unfold inR at h2)) <;> (try simp (maxSteps := 4000000) (disch := omega) only [go_sem, w64, AndB_of, IfB_of, IfB_no, pickE_of, pickE_no, ite_of, ite_no, tdivE, tmodE, takeAll, h])) | (refine IfB.split (fun h => ?_) (fun h => ?_) <;> (try simp (maxSteps := 4000000) (disch := omega) only [go_sem, w64, AndB_of, IfB_of, IfB_no, pickE_of, pickE_no, ite_of, ite_no, tdivE, tmodE, takeAll, h])) | (refine DrawB.quiet (by kernel_rfl) ?_; simp (maxSteps := 4000000) (disch := omega) only [go_sem, w64, AndB_of, IfB_of, IfB_no, pickE_of, pickE_no, ite_of, ite_no, tdivE, tmodE, takeAll]) | (apply CallB.q (q_ok _ hs); simp (maxSteps := 4000000) (disch := omega) only [go_sem, w64, AndB_of, IfB_of, IfB_no, pickE_of, pickE_no, ite_of, ite_no, tdivE, tmodE, takeAll]) | (apply DCallB.q0 (q_ok _ hs); simp (maxSteps := 4000000) (disch := omega) only [go_sem, w64, AndB_of, IfB_of, IfB_no, pickE_of, pickE_no, ite_of, ite_no, tdivE, tmodE, takeAll]))
theorem q_RowOkI (l : GRow) (hl : l.length ≤ 1048576) (hs : ∀ v ∈ l, v.s.size ≤ 9223372036854775807) : QCall Try.prog 24 [rowA l] (.bool (decide (rowOk l))) := by
  refine qcall_body mixed Try.func24 _ (by unfold Try.f24; rfl) Try.ntmps24 Try.results24 (by decide) 0 (by simp) (by simp [pureL, pureA]) ?_
  rw [rowOk_iff]
  simp (maxSteps := 4000000) (disch := omega) only [go_sem, w64, AndB_of, IfB_of, IfB_no, pickE_of, pickE_no, ite_of, ite_no, tdivE, tmodE, takeAll]
  refine IfB.dec (fun h => ?_) (fun h => ?_)
  · simp (maxSteps := 4000000) (disch := omega) only [go_sem, w64, AndB_of, IfB_of, IfB_no, pickE_of, pickE_no, ite_of, ite_no, tdivE, tmodE, takeAll, h]
    refine CallB.of (c_ContainsFuncV l _ [] (fun v => !decide v.Ok) hl fun v hv => q_RowOk1 v (hs v hv) _ _) ?_
    simp (maxSteps := 4000000) (disch := omega) only [go_sem, w64, AndB_of, IfB_of, IfB_no, pickE_of, pickE_no, ite_of, ite_no, tdivE, tmodE, takeAll]
    simp
    omega
  · simp (maxSteps := 4000000) (disch := omega) only [go_sem, w64, AndB_of, IfB_of, IfB_no, pickE_of, pickE_no, ite_of, ite_no, tdivE, tmodE, takeAll, h]
    simp
    omega
end Go.TH
