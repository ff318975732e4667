/- TH: values: the walks. Made by gen.py. -/
import Derived.Test.YtfnflalnjigfkaaTf3
import Derived.Test.YtfnflalnjigfkaaTe0
namespace Go.TH
open Go Go.Proofs
set_option linter.unusedSimpArgs false
set_option linter.unusedVariables false
set_option maxHeartbeats 20000000
set_option maxRecDepth 100000
theorem mixed : Try.prog.follows .mixedOrders = true := by kernel_rfl

theorem q_l1In (n low high : Int) : QCall Try.prog 151 [.int .i64 n, .int .i64 low, .int .i64 high] (.bool (decide (inR n low high))) := by
  refine qcall_body mixed Try.func151 _ (by unfold Try.f151; rfl) Try.ntmps151 Try.results151 (by decide) 0 (by simp) (by simp [pureL, pureA]) ?_
  unfold inR
  simp (maxSteps := 4000000) (disch := omega) only [go_sem, w64, AndB_of, IfB_of, IfB_no, pickE_of, pickE_no, ite_of, ite_no, tdivE, tmodE, takeAll]
  refine IfB.dec (fun h => ?_) (fun h => ?_) <;> simp (maxSteps := 4000000) (disch := omega) only [go_sem, w64, AndB_of, IfB_of, IfB_no, pickE_of, pickE_no, ite_of, ite_no, tdivE, tmodE, takeAll, h] <;> simp [h]
theorem q_between (n low high : Int) : QCall Try.prog 119 [.int .i64 n, .int .i64 low, .int .i64 high] (.bool (decide (inR n low high))) := by
  refine qcall_body mixed Try.func119 _ (by unfold Try.f119; rfl) Try.ntmps119 Try.results119 (by decide) 0 (by simp) (by simp [pureL, pureA]) ?_
  unfold inR
  simp (maxSteps := 4000000) (disch := omega) only [go_sem, w64, AndB_of, IfB_of, IfB_no, pickE_of, pickE_no, ite_of, ite_no, tdivE, tmodE, takeAll]
  refine IfB.dec (fun h => ?_) (fun h => ?_) <;> simp (maxSteps := 4000000) (disch := omega) only [go_sem, w64, AndB_of, IfB_of, IfB_no, pickE_of, pickE_no, ite_of, ite_no, tdivE, tmodE, takeAll, h] <;> simp [h]
theorem q_l1Text (s : ByteArray) (hs : s.size ≤ 9223372036854775807) : QCall Try.prog 164 [.str s] (.bool (decide (s.size ≤ 6 ∧ lettersP s))) := by
  refine qcall_body mixed Try.func164 _ (by unfold Try.f164; rfl) Try.ntmps164 Try.results164 (by decide) 0 (by simp) (by simp [pureL, pureA]) ?_
  simp (maxSteps := 4000000) (disch := omega) only [go_sem, w64, AndB_of, IfB_of, IfB_no, pickE_of, pickE_no, ite_of, ite_no, tdivE, tmodE, takeAll]
  refine LoopB.intro (fun i : Nat => ⟨mkT 23 [(0, .str s), (2, .bool false), (3, .int .i64 i)], noH, 0⟩) (fun i => s.size - i)
    (fun i => i ≤ s.size ∧ ∀ j, j < i → 97 ≤ bAt s j ∧ bAt s j ≤ 122) 0 (Weak.mk (by simp [wkL, mkT_eq, mkT_cons, mkT_nil, mkT_zero, kT_nil, kT_end, kT_keep, kT_put, kT_gap])) ⟨by omega, fun j h => by omega⟩ ?_
  rintro i ⟨hi, hall⟩
  simp only [mkT_eq, mkT_cons, mkT_nil, mkT_zero, Nat.reduceAdd, reduceIte, Nat.reduceEqDiff, reduceCtorEq]
  simp (maxSteps := 4000000) (disch := omega) only [go_sem, w64, AndB_of, IfB_of, IfB_no, pickE_of, pickE_no, ite_of, ite_no, tdivE, tmodE, takeAll]
  refine IfB.dec (fun hlt => ?_) (fun hlt => ?_)
  · simp (maxSteps := 4000000) (disch := omega) only [go_sem, w64, AndB_of, IfB_of, IfB_no, pickE_of, pickE_no, ite_of, ite_no, tdivE, tmodE, takeAll]
    refine IfB.dec (fun h1 => ?_) (fun h1 => ?_)
    · simp (maxSteps := 4000000) (disch := omega) only [go_sem, w64, AndB_of, IfB_of, IfB_no, pickE_of, pickE_no, ite_of, ite_no, tdivE, tmodE, takeAll, h1]
      have : ¬ lettersP s := fun h => by have := h i (by omega); omega
      simp [this]
    · simp (maxSteps := 4000000) (disch := omega) only [go_sem, w64, AndB_of, IfB_of, IfB_no, pickE_of, pickE_no, ite_of, ite_no, tdivE, tmodE, takeAll, h1]
      refine IfB.dec (fun h2 => ?_) (fun h2 => ?_)
      · simp (maxSteps := 4000000) (disch := omega) only [go_sem, w64, AndB_of, IfB_of, IfB_no, pickE_of, pickE_no, ite_of, ite_no, tdivE, tmodE, takeAll]
        have : ¬ lettersP s := fun h => by have := h i (by omega); omega
        simp [this]
      · simp (maxSteps := 4000000) (disch := omega) only [go_sem, w64, AndB_of, IfB_of, IfB_no, pickE_of, pickE_no, ite_of, ite_no, tdivE, tmodE, takeAll]
        refine LQ.next (i + 1) ⟨by omega, fun j hj => ?_⟩ (by omega) (Weak.mk (by simp [wkL, mkT_eq, mkT_cons, mkT_nil, mkT_zero, kT_nil, kT_end, kT_keep, kT_put, kT_gap]))
        by_cases h : j < i
        · exact hall j h
        · have : j = i := by omega
          subst this
          omega
  · simp (maxSteps := 4000000) (disch := omega) only [go_sem, w64, AndB_of, IfB_of, IfB_no, pickE_of, pickE_no, ite_of, ite_no, tdivE, tmodE, takeAll]
    have : lettersP s := fun j hj => hall j (by omega)
    simp [this]
    omega
theorem q_letters (s : ByteArray) (hs : s.size ≤ 140737488355328) : QCall Try.prog 138 [.str s] (.bool (decide (lettersP s))) := by
  refine qcall_body mixed Try.func138 _ (by unfold Try.f138; rfl) Try.ntmps138 Try.results138 (by decide) 0 (by simp) (by simp [pureL, pureA]) ?_
  simp (maxSteps := 4000000) (disch := omega) only [go_sem, w64, AndB_of, IfB_of, IfB_no, pickE_of, pickE_no, ite_of, ite_no, tdivE, tmodE, takeAll]
  refine LoopB.intro (fun i : Nat => ⟨mkT 17 [(0, .str s), (2, .bool false), (6, .sl s.size false (bytesCells s)), (7, .int .i64 s.size), (8, .int .i64 i)], noH, 0⟩) (fun i => s.size - i)
    (fun i => i ≤ s.size ∧ ∀ j, j < i → 97 ≤ bAt s j ∧ bAt s j ≤ 122) 0 (Weak.mk (by simp [wkL, mkT_eq, mkT_cons, mkT_nil, mkT_zero, kT_nil, kT_end, kT_keep, kT_put, kT_gap])) ⟨by omega, fun j h => by omega⟩ ?_
  rintro i ⟨hi, hall⟩
  simp only [mkT_eq, mkT_cons, mkT_nil, mkT_zero, Nat.reduceAdd, reduceIte, Nat.reduceEqDiff, reduceCtorEq]
  simp (maxSteps := 4000000) (disch := omega) only [go_sem, w64, AndB_of, IfB_of, IfB_no, pickE_of, pickE_no, ite_of, ite_no, tdivE, tmodE, takeAll]
  refine IfB.dec (fun hlt => ?_) (fun hlt => ?_)
  · simp (maxSteps := 4000000) (disch := omega) only [go_sem, w64, AndB_of, IfB_of, IfB_no, pickE_of, pickE_no, ite_of, ite_no, tdivE, tmodE, takeAll]
    have hb : bAt s i < 256 := bAt_lt
    refine CallB.q (q_between _ _ _) ?_
    simp (maxSteps := 4000000) (disch := omega) only [go_sem, w64, AndB_of, IfB_of, IfB_no, pickE_of, pickE_no, ite_of, ite_no, tdivE, tmodE, takeAll]
    refine IfB.dec (fun h1 => ?_) (fun h1 => ?_)
    · simp (maxSteps := 4000000) (disch := omega) only [go_sem, w64, AndB_of, IfB_of, IfB_no, pickE_of, pickE_no, ite_of, ite_no, tdivE, tmodE, takeAll]
      refine LQ.next (i + 1) ⟨by omega, fun j hj => ?_⟩ (by omega) (Weak.mk (by simp [wkL, mkT_eq, mkT_cons, mkT_nil, mkT_zero, kT_nil, kT_end, kT_keep, kT_put, kT_gap]))
      by_cases h : j < i
      · exact hall j h
      · have : j = i := by omega
        subst this
        unfold inR at h1
        omega
    · simp (maxSteps := 4000000) (disch := omega) only [go_sem, w64, AndB_of, IfB_of, IfB_no, pickE_of, pickE_no, ite_of, ite_no, tdivE, tmodE, takeAll]
      have : ¬ lettersP s := fun h => by have := h i (by omega); unfold inR at h1; omega
      simp [this]
  · simp (maxSteps := 4000000) (disch := omega) only [go_sem, w64, AndB_of, IfB_of, IfB_no, pickE_of, pickE_no, ite_of, ite_no, tdivE, tmodE, takeAll]
    have : lettersP s := fun j hj => hall j (by omega)
    simp [this]
theorem q_ValueOkS (v : GVal) (hs : v.s.size ≤ 9223372036854775807) : QCall Try.prog 130 [.agg [.int .i64 v.k, .int .i64 v.n, .str v.s]] (.bool (decide v.Ok)) := by
  refine qcall_body mixed Try.func130 _ (by unfold Try.f130; rfl) Try.ntmps130 Try.results130 (by decide) 0 (by simp) (by simp [pureL, pureA]) ?_
  simp (maxSteps := 4000000) (disch := omega) only [go_sem, w64, AndB_of, IfB_of, IfB_no, pickE_of, pickE_no, ite_of, ite_no, tdivE, tmodE, takeAll]
  repeat' (first | (refine IfB.dec (fun h => ?_) (fun h => ?_) <;> (try (have h2 := h; unfold inR at h2)) <;> (try simp (maxSteps := 4000000) (disch := omega) only [go_sem, w64, AndB_of, IfB_of, IfB_no, pickE_of, pickE_no, ite_of, ite_no, tdivE, tmodE, takeAll, h])) | (refine IfB.split (fun h => ?_) (fun h => ?_) <;> (try simp (maxSteps := 4000000) (disch := omega) only [go_sem, w64, AndB_of, IfB_of, IfB_no, pickE_of, pickE_no, ite_of, ite_no, tdivE, tmodE, takeAll, h])) | (refine DrawB.quiet (by kernel_rfl) ?_; simp (maxSteps := 4000000) (disch := omega) only [go_sem, w64, AndB_of, IfB_of, IfB_no, pickE_of, pickE_no, ite_of, ite_no, tdivE, tmodE, takeAll]) | (apply CallB.q (q_l1In _ _ _); simp (maxSteps := 4000000) (disch := omega) only [go_sem, w64, AndB_of, IfB_of, IfB_no, pickE_of, pickE_no, ite_of, ite_no, tdivE, tmodE, takeAll]) | (apply CallB.q (q_l1Text _ hs); simp (maxSteps := 4000000) (disch := omega) only [go_sem, w64, AndB_of, IfB_of, IfB_no, pickE_of, pickE_no, ite_of, ite_no, tdivE, tmodE, takeAll]) | (apply DCallB.q0 (q_l1In _ _ _); simp (maxSteps := 4000000) (disch := omega) only [go_sem, w64, AndB_of, IfB_of, IfB_no, pickE_of, pickE_no, ite_of, ite_no, tdivE, tmodE, takeAll]) | (apply DCallB.q0 (q_l1Text _ hs); simp (maxSteps := 4000000) (disch := omega) only [go_sem, w64, AndB_of, IfB_of, IfB_no, pickE_of, pickE_no, ite_of, ite_no, tdivE, tmodE, takeAll]))
  all_goals (try simp_all [size_zero, inR, Bool.decide_and, GVal.Ok])
  all_goals (try omega)
  all_goals (try (intros; omega))
  all_goals (try (rw [Bool.eq_iff_iff]; simp [inR]))
  all_goals (try exact decide_eq_true_iff)
theorem q_ok (v : GVal) (hs : v.s.size ≤ 9223372036854775807) : QCall Try.prog 82 [.agg [.int .i64 v.k, .int .i64 v.n, .str v.s]] (.bool (decide v.Ok)) := by
  refine qcall_body mixed Try.func82 _ (by unfold Try.f82; rfl) Try.ntmps82 Try.results82 (by decide) 0 (by simp) (by simp [pureL, pureA]) ?_
  simp (maxSteps := 4000000) (disch := omega) only [go_sem, w64, AndB_of, IfB_of, IfB_no, pickE_of, pickE_no, ite_of, ite_no, tdivE, tmodE, takeAll]
  repeat' (first | (refine IfB.dec (fun h => ?_) (fun h => ?_) <;> (try (have h2 := h; unfold inR at h2)) <;> (try simp (maxSteps := 4000000) (disch := omega) only [go_sem, w64, AndB_of, IfB_of, IfB_no, pickE_of, pickE_no, ite_of, ite_no, tdivE, tmodE, takeAll, h])) | (refine IfB.split (fun h => ?_) (fun h => ?_) <;> (try simp (maxSteps := 4000000) (disch := omega) only [go_sem, w64, AndB_of, IfB_of, IfB_no, pickE_of, pickE_no, ite_of, ite_no, tdivE, tmodE, takeAll, h])) | (refine DrawB.quiet (by kernel_rfl) ?_; simp (maxSteps := 4000000) (disch := omega) only [go_sem, w64, AndB_of, IfB_of, IfB_no, pickE_of, pickE_no, ite_of, ite_no, tdivE, tmodE, takeAll]) | (apply CallB.q (q_between _ _ _); simp (maxSteps := 4000000) (disch := omega) only [go_sem, w64, AndB_of, IfB_of, IfB_no, pickE_of, pickE_no, ite_of, ite_no, tdivE, tmodE, takeAll]) | (apply CallB.q (q_letters _ (by omega)); simp (maxSteps := 4000000) (disch := omega) only [go_sem, w64, AndB_of, IfB_of, IfB_no, pickE_of, pickE_no, ite_of, ite_no, tdivE, tmodE, takeAll]) | (apply DCallB.q0 (q_between _ _ _); simp (maxSteps := 4000000) (disch := omega) only [go_sem, w64, AndB_of, IfB_of, IfB_no, pickE_of, pickE_no, ite_of, ite_no, tdivE, tmodE, takeAll]) | (apply DCallB.q0 (q_letters _ (by omega)); simp (maxSteps := 4000000) (disch := omega) only [go_sem, w64, AndB_of, IfB_of, IfB_no, pickE_of, pickE_no, ite_of, ite_no, tdivE, tmodE, takeAll]))
  all_goals (try simp_all [size_zero, inR, Bool.decide_and, GVal.Ok])
  all_goals (try omega)
  all_goals (try (intros; omega))
  all_goals (try (rw [Bool.eq_iff_iff]; simp [inR]))
  all_goals (try exact decide_eq_true_iff)
theorem q_ValueOkI (v : GVal) (hs : v.s.size ≤ 9223372036854775807) : QCall Try.prog 83 [.agg [.int .i64 v.k, .int .i64 v.n, .str v.s]] (.bool (decide v.Ok)) := by
  refine qcall_body mixed Try.func83 _ (by unfold Try.f83; rfl) Try.ntmps83 Try.results83 (by decide) 0 (by simp) (by simp [pureL, pureA]) ?_
  simp (maxSteps := 4000000) (disch := omega) only [go_sem, w64, AndB_of, IfB_of, IfB_no, pickE_of, pickE_no, ite_of, ite_no, tdivE, tmodE, takeAll]
  repeat' (first | (refine IfB.dec (fun h => ?_) (fun h => ?_) <;> (try (have h2 := h; unfold inR at h2)) <;> (try simp (maxSteps := 4000000) (disch := omega) only [go_sem, w64, AndB_of, IfB_of, IfB_no, pickE_of, pickE_no, ite_of, ite_no, tdivE, tmodE, takeAll, h])) | (refine IfB.split (fun h => ?_) (fun h => ?_) <;> (try simp (maxSteps := 4000000) (disch := omega) only [go_sem, w64, AndB_of, IfB_of, IfB_no, pickE_of, pickE_no, ite_of, ite_no, tdivE, tmodE, takeAll, h])) | (refine DrawB.quiet (by kernel_rfl) ?_; simp (maxSteps := 4000000) (disch := omega) only [go_sem, w64, AndB_of, IfB_of, IfB_no, pickE_of, pickE_no, ite_of, ite_no, tdivE, tmodE, takeAll]) | (apply CallB.q (q_ok _ hs); simp (maxSteps := 4000000) (disch := omega) only [go_sem, w64, AndB_of, IfB_of, IfB_no, pickE_of, pickE_no, ite_of, ite_no, tdivE, tmodE, takeAll]) | (apply DCallB.q0 (q_ok _ hs); simp (maxSteps := 4000000) (disch := omega) only [go_sem, w64, AndB_of, IfB_of, IfB_no, pickE_of, pickE_no, ite_of, ite_no, tdivE, tmodE, takeAll]))
theorem q_szValue (v : GVal) (left : Int) (h0 : 0 ≤ left) (h1 : left ≤ 1048576) (hs : v.s.size ≤ 9223372036854775807) : QCall Try.prog 129 [.agg [.int .i64 v.k, .int .i64 v.n, .str v.s], .int .i64 left] (.int .i64 (szVal v left)) := by
  refine qcall_body mixed Try.func129 _ (by unfold Try.f129; rfl) Try.ntmps129 Try.results129 (by decide) 0 (by simp) (by simp [pureL, pureA]) ?_
  unfold szVal
  simp (maxSteps := 4000000) (disch := omega) only [go_sem, w64, AndB_of, IfB_of, IfB_no, pickE_of, pickE_no, ite_of, ite_no, tdivE, tmodE, takeAll]
  repeat' (first | (refine IfB.dec (fun h => ?_) (fun h => ?_) <;> (try (have h2 := h; unfold inR at h2)) <;> (try simp (maxSteps := 4000000) (disch := omega) only [go_sem, w64, AndB_of, IfB_of, IfB_no, pickE_of, pickE_no, ite_of, ite_no, tdivE, tmodE, takeAll, h])) | (refine IfB.split (fun h => ?_) (fun h => ?_) <;> (try simp (maxSteps := 4000000) (disch := omega) only [go_sem, w64, AndB_of, IfB_of, IfB_no, pickE_of, pickE_no, ite_of, ite_no, tdivE, tmodE, takeAll, h])) | (refine DrawB.quiet (by kernel_rfl) ?_; simp (maxSteps := 4000000) (disch := omega) only [go_sem, w64, AndB_of, IfB_of, IfB_no, pickE_of, pickE_no, ite_of, ite_no, tdivE, tmodE, takeAll]))
  all_goals simp_all
theorem q_szValueS (l : GRow) (t : Bool) (left : Int) (h0 : 0 ≤ left) (h1 : left ≤ 1048576) (hl : l.length ≤ 9223372036854775807) (hs : ∀ v ∈ l, v.s.size ≤ 9223372036854775807) :
    QCall Try.prog 62 [.sl l.length t (flat GVal.c l), .int .i64 left] (.int .i64 (szRow l left)) := by
  refine qcall_body mixed Try.func62 _ (by unfold Try.f62; rfl) Try.ntmps62 Try.results62 (by decide) 0 (by simp) (by simp [pureL, pureA, flat_pure GVal.pure]) ?_
  unfold szRow
  simp (maxSteps := 4000000) (disch := omega) only [go_sem, w64, AndB_of, IfB_of, IfB_no, pickE_of, pickE_no, ite_of, ite_no, tdivE, tmodE, takeAll]
  refine IfB.dec (fun h => ?_) (fun h => ?_)
  · simp (maxSteps := 4000000) (disch := omega) only [go_sem, w64, AndB_of, IfB_of, IfB_no, pickE_of, pickE_no, ite_of, ite_no, tdivE, tmodE, takeAll, h]
  · simp (maxSteps := 4000000) (disch := omega) only [go_sem, w64, AndB_of, IfB_of, IfB_no, pickE_of, pickE_no, ite_of, ite_no, tdivE, tmodE, takeAll, h]
    refine LoopB.intro (fun i : Nat × Int => ⟨mkT 27 [(0, .sl l.length t (flat GVal.c l)), (1, .int .i64 i.2), (4, .int .i64 0), (5, .int .i64 i.1)], noH, 0⟩) (fun i => l.length - i.1)
      (fun i => i.1 ≤ l.length ∧ 0 ≤ i.2 ∧ i.2 ≤ 1048576 ∧ szVals (l.drop i.1) i.2 = szVals l (left - l.length)) (0, left - l.length) (Weak.mk (by simp [wkL, mkT_eq, mkT_cons, mkT_nil, mkT_zero, kT_nil, kT_end, kT_keep, kT_put, kT_gap])) ⟨by omega, by omega, by omega, by simp⟩ ?_
    rintro ⟨i, cur⟩ ⟨hi, hc0, hc1, hsz⟩
    simp only at hi hc0 hc1 hsz
    simp only [mkT_eq, mkT_cons, mkT_nil, mkT_zero, Nat.reduceAdd, reduceIte, Nat.reduceEqDiff, reduceCtorEq]
    simp (maxSteps := 4000000) (disch := omega) only [go_sem, w64, AndB_of, IfB_of, IfB_no, pickE_of, pickE_no, ite_of, ite_no, tdivE, tmodE, takeAll]
    refine IfB.dec (fun hlt => ?_) (fun hlt => ?_)
    · have hlt : i < l.length := by omega
      simp (maxSteps := 4000000) (disch := omega) only [go_sem, w64, AndB_of, IfB_of, IfB_no, pickE_of, pickE_no, ite_of, ite_no, tdivE, tmodE, takeAll]
      have := hs l[i] (List.getElem_mem _)
      refine CallB.q (q_szValue _ _ (by omega) (by omega) (by omega)) ?_
      rw [List.drop_eq_getElem_cons hlt, szVals] at hsz
      unfold szVal
      simp (maxSteps := 4000000) (disch := omega) only [go_sem, w64, AndB_of, IfB_of, IfB_no, pickE_of, pickE_no, ite_of, ite_no, tdivE, tmodE, takeAll]
      refine IfB.dec (fun h => ?_) (fun h => ?_)
      · have : cur - l[i].s.size < 0 := by split at h <;> omega
        rw [if_pos this] at hsz
        simp (maxSteps := 4000000) (disch := omega) only [go_sem, w64, AndB_of, IfB_of, IfB_no, pickE_of, pickE_no, ite_of, ite_no, tdivE, tmodE, takeAll, ← hsz]
      · have : ¬ cur - l[i].s.size < 0 := by split at h <;> omega
        rw [if_neg this] at hsz
        simp (maxSteps := 4000000) (disch := omega) only [go_sem, w64, AndB_of, IfB_of, IfB_no, pickE_of, pickE_no, ite_of, ite_no, tdivE, tmodE, takeAll, this]
        refine LQ.next (i + 1, cur - l[i].s.size) ⟨by simp; omega, by simp; omega, by simp; omega, hsz⟩ (by simp; omega) (Weak.mk (by simp [wkL, mkT_eq, mkT_cons, mkT_nil, mkT_zero, kT_nil, kT_end, kT_keep, kT_put, kT_gap]))
    · have : i = l.length := by omega
      subst this
      simp [szVals] at hsz
      subst hsz
      simp (maxSteps := 4000000) (disch := omega) only [go_sem, w64, AndB_of, IfB_of, IfB_no, pickE_of, pickE_no, ite_of, ite_no, tdivE, tmodE, takeAll]
theorem q_toValue (v : GVal) : QCall Try.prog 131 [.agg [.int .i64 v.k, .int .i64 v.n, .str v.s]] (.agg [.int .i64 v.k, .int .i64 v.n, .str v.s]) := by
  refine qcall_body mixed Try.func131 _ (by unfold Try.f131; rfl) Try.ntmps131 Try.results131 (by decide) 0 (by simp) (by simp [pureL, pureA]) ?_
  simp (maxSteps := 4000000) (disch := omega) only [go_sem, w64, AndB_of, IfB_of, IfB_no, pickE_of, pickE_no, ite_of, ite_no, tdivE, tmodE, takeAll]
theorem q_eqValue (v w : GVal) : QCall Try.prog 135 [.agg [.int .i64 v.k, .int .i64 v.n, .str v.s], .agg [.int .i64 w.k, .int .i64 w.n, .str w.s]] (.bool (decide (v = w))) := by
  refine qcall_body mixed Try.func135 _ (by unfold Try.f135; rfl) Try.ntmps135 Try.results135 (by decide) 0 (by simp) (by simp [pureL, pureA]) ?_
  obtain ⟨a1, a2, a3⟩ := v
  obtain ⟨b1, b2, b3⟩ := w
  simp (maxSteps := 4000000) (disch := omega) only [go_sem, w64, AndB_of, IfB_of, IfB_no, pickE_of, pickE_no, ite_of, ite_no, tdivE, tmodE, takeAll]
  repeat' (first | (refine IfB.dec (fun h => ?_) (fun h => ?_) <;> (try (have h2 := h; unfold inR at h2)) <;> (try simp (maxSteps := 4000000) (disch := omega) only [go_sem, w64, AndB_of, IfB_of, IfB_no, pickE_of, pickE_no, ite_of, ite_no, tdivE, tmodE, takeAll, h])) | (refine IfB.split (fun h => ?_) (fun h => ?_) <;> (try simp (maxSteps := 4000000) (disch := omega) only [go_sem, w64, AndB_of, IfB_of, IfB_no, pickE_of, pickE_no, ite_of, ite_no, tdivE, tmodE, takeAll, h])) | (refine DrawB.quiet (by kernel_rfl) ?_; simp (maxSteps := 4000000) (disch := omega) only [go_sem, w64, AndB_of, IfB_of, IfB_no, pickE_of, pickE_no, ite_of, ite_no, tdivE, tmodE, takeAll]))
  all_goals simp_all
theorem q_toValueS (l : GRow) (t : Bool) (hl : l.length ≤ 1048576) :
    QCall Try.prog 66 [.sl l.length t (flat GVal.c l)] (rowA l) := by
  refine qcall_body mixed Try.func66 _ (by unfold Try.f66; rfl) Try.ntmps66 Try.results66 (by decide) 1 (by simp) (by simp [pureL, pureA, flat_pure GVal.pure]) ?_
  simp (maxSteps := 4000000) (disch := omega) only [go_sem, w64, AndB_of, IfB_of, IfB_no, pickE_of, pickE_no, ite_of, ite_no, tdivE, tmodE, takeAll, fillL_zero (c := GVal.c) l]
  refine LoopB.intro (fun i : Nat => ⟨mkT 23 [(0, .sl l.length t (flat GVal.c l)), (3, .msl 0 0 3 0 l.length), (4, .int .i64 i)], upd noH 0 (.live 0 (fillL GVal.c zVal l i)), 1⟩) (fun i => l.length - i)
    (fun i => i ≤ l.length) 0 (Weak.mk (by simp [wkL, mkT_eq, mkT_cons, mkT_nil, mkT_zero, kT_nil, kT_end, kT_keep, kT_put, kT_gap])) (by omega) ?_
  rintro i hi
  simp only [mkT_eq, mkT_cons, mkT_nil, mkT_zero, Nat.reduceAdd, reduceIte, Nat.reduceEqDiff, reduceCtorEq]
  simp (maxSteps := 4000000) (disch := omega) only [go_sem, w64, AndB_of, IfB_of, IfB_no, pickE_of, pickE_no, ite_of, ite_no, tdivE, tmodE, takeAll]
  refine IfB.dec (fun hlt => ?_) (fun hlt => ?_)
  · have hlt : i < l.length := by omega
    simp (maxSteps := 4000000) (disch := omega) only [go_sem, w64, AndB_of, IfB_of, IfB_no, pickE_of, pickE_no, ite_of, ite_no, tdivE, tmodE, takeAll]
    refine CallB.q (q_toValue _) ?_
    simp (maxSteps := 4000000) (disch := omega) only [go_sem, w64, AndB_of, IfB_of, IfB_no, pickE_of, pickE_no, ite_of, ite_no, tdivE, tmodE, takeAll]
    exact LQ.next (i + 1) (by omega) (by omega) (Weak.mk (by simp [wkL, mkT_eq, mkT_cons, mkT_nil, mkT_zero, kT_nil, kT_end, kT_keep, kT_put, kT_gap]))
  · have : i = l.length := by omega
    subst this
    simp (maxSteps := 4000000) (disch := omega) only [go_sem, w64, AndB_of, IfB_of, IfB_no, pickE_of, pickE_no, ite_of, ite_no, tdivE, tmodE, takeAll, fillL_all]
    try rw [map_snap _ _ (by simp [pureL_take, flat_pure GVal.pure])]
    try unfold rowA
    try rw [List.take_of_length_le (by rw [flat_len GVal.len]; omega)]
    try rfl
theorem q_eqValueS (l m : GRow) (hl : l.length ≤ 1048576) : QCall Try.prog 72 [rowA l, rowA m] (.bool (decide (l = m))) := by
  refine qcall_body mixed Try.func72 _ (by unfold Try.f72; rfl) Try.ntmps72 Try.results72 (by decide) 0 (by simp) (by simp [pureL, pureA]) ?_
  unfold rowA
  simp (maxSteps := 4000000) (disch := omega) only [go_sem, w64, AndB_of, IfB_of, IfB_no, pickE_of, pickE_no, ite_of, ite_no, tdivE, tmodE, takeAll]
  refine IfB.dec (fun h => ?_) (fun h => ?_)
  · have hlen : l.length = m.length := by omega
    simp (maxSteps := 4000000) (disch := omega) only [go_sem, w64, AndB_of, IfB_of, IfB_no, pickE_of, pickE_no, ite_of, ite_no, tdivE, tmodE, takeAll, h]
    refine LoopB.intro (fun i : Nat => ⟨mkT 27 [(0, .sl l.length false (flat GVal.c l)), (1, .sl m.length false (flat GVal.c m)), (4, .bool false), (5, .int .i64 i)], noH, 0⟩) (fun i => l.length - i)
      (fun i => i ≤ l.length ∧ l.take i = m.take i) 0 (Weak.mk (by simp [wkL, mkT_eq, mkT_cons, mkT_nil, mkT_zero, kT_nil, kT_end, kT_keep, kT_put, kT_gap])) ⟨by omega, by simp⟩ ?_
    rintro i ⟨hi, hall⟩
    simp only [mkT_eq, mkT_cons, mkT_nil, mkT_zero, Nat.reduceAdd, reduceIte, Nat.reduceEqDiff, reduceCtorEq]
    simp (maxSteps := 4000000) (disch := omega) only [go_sem, w64, AndB_of, IfB_of, IfB_no, pickE_of, pickE_no, ite_of, ite_no, tdivE, tmodE, takeAll]
    refine IfB.dec (fun hlt => ?_) (fun hlt => ?_)
    · have hlt : i < l.length := by omega
      have hlt2 : i < m.length := by omega
      simp (maxSteps := 4000000) (disch := omega) only [go_sem, w64, AndB_of, IfB_of, IfB_no, pickE_of, pickE_no, ite_of, ite_no, tdivE, tmodE, takeAll]
      refine DrawB.quiet (by kernel_rfl) ?_
      simp (maxSteps := 4000000) (disch := omega) only [go_sem, w64, AndB_of, IfB_of, IfB_no, pickE_of, pickE_no, ite_of, ite_no, tdivE, tmodE, takeAll]
      refine DCallB.q0 (q_eqValue _ _) ?_
      simp (maxSteps := 4000000) (disch := omega) only [go_sem, w64, AndB_of, IfB_of, IfB_no, pickE_of, pickE_no, ite_of, ite_no, tdivE, tmodE, takeAll]
      refine IfB.dec (fun h => ?_) (fun h => ?_)
      · simp (maxSteps := 4000000) (disch := omega) only [go_sem, w64, AndB_of, IfB_of, IfB_no, pickE_of, pickE_no, ite_of, ite_no, tdivE, tmodE, takeAll]
        exact LQ.next (i + 1) ⟨by omega, by rw [List.take_succ_eq_append_getElem hlt, List.take_succ_eq_append_getElem hlt2, hall, h]⟩ (by omega) (Weak.mk (by simp [wkL, mkT_eq, mkT_cons, mkT_nil, mkT_zero, kT_nil, kT_end, kT_keep, kT_put, kT_gap]))
      · simp (maxSteps := 4000000) (disch := omega) only [go_sem, w64, AndB_of, IfB_of, IfB_no, pickE_of, pickE_no, ite_of, ite_no, tdivE, tmodE, takeAll]
        have : l ≠ m := fun e => h (by subst e; rfl)
        simp [this]
    · simp (maxSteps := 4000000) (disch := omega) only [go_sem, w64, AndB_of, IfB_of, IfB_no, pickE_of, pickE_no, ite_of, ite_no, tdivE, tmodE, takeAll]
      have : l = m := by
        rw [List.take_of_length_le (by omega), List.take_of_length_le (by omega)] at hall
        exact hall
      simp [this]
  · simp (maxSteps := 4000000) (disch := omega) only [go_sem, w64, AndB_of, IfB_of, IfB_no, pickE_of, pickE_no, ite_of, ite_no, tdivE, tmodE, takeAll]
    have : l ≠ m := fun e => h (by rw [e])
    simp [this]
end Go.TH
