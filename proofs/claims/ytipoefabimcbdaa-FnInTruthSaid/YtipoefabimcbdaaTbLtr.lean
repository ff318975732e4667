/- TH: the law FnInTruth. Made by gen.py. -/
import Derived.Test.YtipoefabimcbdaaTf3
import Derived.Test.YtipoefabimcbdaaTbtr
import Derived.Test.YtipoefabimcbdaaTbdkn
namespace Go.TH
open Go Go.Proofs
set_option linter.unusedSimpArgs false
set_option linter.unusedVariables false
set_option maxHeartbeats 20000000
set_option maxRecDepth 100000
theorem w_InTruth (s : ByteArray) (hs : s.size ≤ 9223372036854775807) :
    CallQ Try.prog 5 [.sl s.size false (bytesCells s)] noH 0 fun r _ _ => r = .bool true := by
  refine callQ_body mixed Try.func5 _ (by unfold Try.f5; rfl) Try.ntmps5 Try.results5 (by decide) (by simp) ?_
  simp (maxSteps := 4000000) (disch := omega) only [go_sem, w64, AndB_of, IfB_of, IfB_no, pickE_of, pickE_no, ite_of, ite_no, tdivE, tmodE, takeAll]
  refine IfB.dec (fun h => ?_) (fun h => ?_)
  · simp (maxSteps := 4000000) (disch := omega) only [go_sem, w64, AndB_of, IfB_of, IfB_no, pickE_of, pickE_no, ite_of, ite_no, tdivE, tmodE, takeAll]
  obtain ⟨R, ⟨v, l, hv, hl, hP, rfl⟩, hq⟩ := x_DrawInTruth s
  have hs1 : ∀ w ∈ l, w.s.size ≤ 1048576 := fun w hw => by have := (hP w hw).1; omega
  have e1 := inT_more (v := v) (l := l) (by omega)
  have hs2 : ∀ w ∈ l ++ [v0], w.s.size ≤ 1048576 := fun w hw => by
    rcases List.mem_append.1 hw with h | h
    · exact hs1 w h
    · simp at h; subst h; simp [v0]
  have c1 := q_InTruthI v (l ++ [v0]) (by simp; omega) (by omega) hs2
  have f1 : rowA (l ++ [v0]) = .sl (l.length + 1) false (flat GVal.c l ++ [.int .i64 0, .int .i64 0, .str ⟨#[]⟩]) := by simp [rowA, flat_append, flat_cons, flat_nil, GVal.c, v0]
  rw [f1] at c1
  have c3 := q_InTruthI v [] (by simp) (by omega) (by simp)
  have ht : ∀ x y z, (flat GVal.c l ++ [x, y, z]).take ((l.length + 1) * 3) = flat GVal.c l ++ [x, y, z] := fun x y z => takeAll (by simp [GVal.flen]; omega)
  simp (maxSteps := 4000000) (disch := omega) only [go_sem, w64, AndB_of, IfB_of, IfB_no, pickE_of, pickE_no, ite_of, ite_no, tdivE, tmodE, takeAll]
  apply CallB.q hq
  simp (maxSteps := 4000000) (disch := omega) only [go_sem, w64, AndB_of, IfB_of, IfB_no, pickE_of, pickE_no, ite_of, ite_no, tdivE, tmodE, takeAll]
  apply CallB.q (q_InTruthI v l (by omega) (by omega) hs1)
  simp (maxSteps := 4000000) (disch := omega) only [go_sem, w64, AndB_of, IfB_of, IfB_no, pickE_of, pickE_no, ite_of, ite_no, tdivE, tmodE, takeAll]
  apply CallB.q (q_InTruthS v l (by omega) (by omega) hs1)
  simp (maxSteps := 4000000) (disch := omega) only [go_sem, w64, AndB_of, IfB_of, IfB_no, pickE_of, pickE_no, ite_of, ite_no, tdivE, tmodE, takeAll]
  unfold rowA
  refine DrawB.intro [1, 3, 6, 7] [7] (inS (1) (1) (1)) (by kernel_rfl) ?_
  simp (maxSteps := 4000000) (disch := omega) only [go_sem, w64, AndB_of, IfB_of, IfB_no, pickE_of, pickE_no, ite_of, ite_no, tdivE, tmodE, takeAll]
  apply CallB.borrow 1 (r := .int .i64 (inT v (l ++ [v0]))) _ rfl
  rotate_left
  · simp (maxSteps := 4000000) (disch := omega) only [go_sem, w64, AndB_of, IfB_of, IfB_no, pickE_of, pickE_no, ite_of, ite_no, tdivE, tmodE, takeAll, List.map_append, ht]
    exact c1
  simp (maxSteps := 4000000) (disch := omega) only [go_sem, w64, AndB_of, IfB_of, IfB_no, pickE_of, pickE_no, ite_of, ite_no, tdivE, tmodE, takeAll]
  have fin : ∀ n, n = inT v l → (n = inT v l ∧ ((inT v l = 1) ↔ (inT v (l ++ [v0]) = 1)) ∧ ¬ inT v (l ++ [v0]) = 0) := fun n hn => ⟨hn, e1⟩
  have c3' : v.Ok → QCall Try.prog 27 [.agg [.int .i64 v.k, .int .i64 v.n, .str v.s], .sl 0 true []] (.int .i64 0) := fun h => by
    rw [inT_nil h] at c3
    exact (show QCall Try.prog _ [.agg [.int .i64 v.k, .int .i64 v.n, .str v.s], .sl 0 false []] _ from c3).tight1
  have hb : (decide (inT v l = 1) == decide (inT v (l ++ [v0]) = 1)) = true := by simp [e1.1]
  have hne : ¬ inT v (l ++ [v0]) = 0 := e1.2
  refine IfB.dec (fun h4 => ?_) (fun h4 => ?_)
  · have h4' : 0 < l.length := by omega
    have e2 := inT_twice (v := v) (w := l[0]) (l := l) (by omega) (List.getElem_mem h4')
    have c2 := q_InTruthI v (l ++ [l[0]]) (by simp; omega) (by omega) (fun x hx => by
      rcases List.mem_append.1 hx with h | h
      · exact hs1 x h
      · simp at h; subst h; exact hs1 _ (List.getElem_mem h4'))
    have f2 : rowA (l ++ [l[0]]) = .sl (l.length + 1) false (flat GVal.c l ++ [.int .i64 l[0].k, .int .i64 l[0].n, .str l[0].s]) := by simp [rowA, flat_append, flat_cons, flat_nil, GVal.c]
    rw [f2, e2] at c2
    have hx : (flat GVal.c l).take 3 = [.int .i64 l[0].k, .int .i64 l[0].n, .str l[0].s] := by
      have := flat_at GVal.len h4'
      simp only [Nat.zero_mul, List.drop_zero] at this
      rw [this]
      rfl
    simp (maxSteps := 4000000) (disch := omega) only [go_sem, w64, AndB_of, IfB_of, IfB_no, pickE_of, pickE_no, ite_of, ite_no, tdivE, tmodE, takeAll]
    refine DrawB.intro [1, 3, 8, 9] [9] (inS (2) (2) (2)) (by kernel_rfl) ?_
    simp (maxSteps := 4000000) (disch := omega) only [go_sem, w64, AndB_of, IfB_of, IfB_no, pickE_of, pickE_no, ite_of, ite_no, tdivE, tmodE, takeAll, hx]
    apply CallB.borrow 1 (r := .int .i64 (inT v l)) _ rfl
    rotate_left
    · simp (maxSteps := 4000000) (disch := omega) only [go_sem, w64, AndB_of, IfB_of, IfB_no, pickE_of, pickE_no, ite_of, ite_no, tdivE, tmodE, takeAll, List.map_append, ht]
      exact c2
    simp (maxSteps := 4000000) (disch := omega) only [go_sem, w64, AndB_of, IfB_of, IfB_no, pickE_of, pickE_no, ite_of, ite_no, tdivE, tmodE, takeAll, hb]
    repeat' (first | (refine IfB.dec2 (fun h hd => ?_) (fun h hd => ?_) <;> (try (have h2 := h; unfold inR at h2)) <;> (try simp (maxSteps := 4000000) (disch := omega) only [go_sem, w64, AndB_of, IfB_of, IfB_no, pickE_of, pickE_no, ite_of, ite_no, tdivE, tmodE, takeAll, hb, hd])) | (refine IfB.split (fun h => ?_) (fun h => ?_) <;> (try simp (maxSteps := 4000000) (disch := omega) only [go_sem, w64, AndB_of, IfB_of, IfB_no, pickE_of, pickE_no, ite_of, ite_no, tdivE, tmodE, takeAll, hb, h])) | (refine DrawB.quiet (by kernel_rfl) ?_; simp (maxSteps := 4000000) (disch := omega) only [go_sem, w64, AndB_of, IfB_of, IfB_no, pickE_of, pickE_no, ite_of, ite_no, tdivE, tmodE, takeAll, hb]) | (apply CallB.q (c3' (by assumption)); simp (maxSteps := 4000000) (disch := omega) only [go_sem, w64, AndB_of, IfB_of, IfB_no, pickE_of, pickE_no, ite_of, ite_no, tdivE, tmodE, takeAll, hb]) | (apply CallB.q (q_alive); simp (maxSteps := 4000000) (disch := omega) only [go_sem, w64, AndB_of, IfB_of, IfB_no, pickE_of, pickE_no, ite_of, ite_no, tdivE, tmodE, takeAll, hb]) | (apply CallB.q (q_ValueOkI v (by omega)); simp (maxSteps := 4000000) (disch := omega) only [go_sem, w64, AndB_of, IfB_of, IfB_no, pickE_of, pickE_no, ite_of, ite_no, tdivE, tmodE, takeAll, hb]) | (apply DCallB.q0 (c3' (by assumption)); simp (maxSteps := 4000000) (disch := omega) only [go_sem, w64, AndB_of, IfB_of, IfB_no, pickE_of, pickE_no, ite_of, ite_no, tdivE, tmodE, takeAll, hb]) | (apply DCallB.q0 (q_alive); simp (maxSteps := 4000000) (disch := omega) only [go_sem, w64, AndB_of, IfB_of, IfB_no, pickE_of, pickE_no, ite_of, ite_no, tdivE, tmodE, takeAll, hb]) | (apply DCallB.q0 (q_ValueOkI v (by omega)); simp (maxSteps := 4000000) (disch := omega) only [go_sem, w64, AndB_of, IfB_of, IfB_no, pickE_of, pickE_no, ite_of, ite_no, tdivE, tmodE, takeAll, hb]))
  · simp (maxSteps := 4000000) (disch := omega) only [go_sem, w64, AndB_of, IfB_of, IfB_no, pickE_of, pickE_no, ite_of, ite_no, tdivE, tmodE, takeAll, hb]
    repeat' (first | (refine IfB.dec2 (fun h hd => ?_) (fun h hd => ?_) <;> (try (have h2 := h; unfold inR at h2)) <;> (try simp (maxSteps := 4000000) (disch := omega) only [go_sem, w64, AndB_of, IfB_of, IfB_no, pickE_of, pickE_no, ite_of, ite_no, tdivE, tmodE, takeAll, hb, hd])) | (refine IfB.split (fun h => ?_) (fun h => ?_) <;> (try simp (maxSteps := 4000000) (disch := omega) only [go_sem, w64, AndB_of, IfB_of, IfB_no, pickE_of, pickE_no, ite_of, ite_no, tdivE, tmodE, takeAll, hb, h])) | (refine DrawB.quiet (by kernel_rfl) ?_; simp (maxSteps := 4000000) (disch := omega) only [go_sem, w64, AndB_of, IfB_of, IfB_no, pickE_of, pickE_no, ite_of, ite_no, tdivE, tmodE, takeAll, hb]) | (apply CallB.q (c3' (by assumption)); simp (maxSteps := 4000000) (disch := omega) only [go_sem, w64, AndB_of, IfB_of, IfB_no, pickE_of, pickE_no, ite_of, ite_no, tdivE, tmodE, takeAll, hb]) | (apply CallB.q (q_alive); simp (maxSteps := 4000000) (disch := omega) only [go_sem, w64, AndB_of, IfB_of, IfB_no, pickE_of, pickE_no, ite_of, ite_no, tdivE, tmodE, takeAll, hb]) | (apply CallB.q (q_ValueOkI v (by omega)); simp (maxSteps := 4000000) (disch := omega) only [go_sem, w64, AndB_of, IfB_of, IfB_no, pickE_of, pickE_no, ite_of, ite_no, tdivE, tmodE, takeAll, hb]) | (apply DCallB.q0 (c3' (by assumption)); simp (maxSteps := 4000000) (disch := omega) only [go_sem, w64, AndB_of, IfB_of, IfB_no, pickE_of, pickE_no, ite_of, ite_no, tdivE, tmodE, takeAll, hb]) | (apply DCallB.q0 (q_alive); simp (maxSteps := 4000000) (disch := omega) only [go_sem, w64, AndB_of, IfB_of, IfB_no, pickE_of, pickE_no, ite_of, ite_no, tdivE, tmodE, takeAll, hb]) | (apply DCallB.q0 (q_ValueOkI v (by omega)); simp (maxSteps := 4000000) (disch := omega) only [go_sem, w64, AndB_of, IfB_of, IfB_no, pickE_of, pickE_no, ite_of, ite_no, tdivE, tmodE, takeAll, hb]))
end Go.TH
