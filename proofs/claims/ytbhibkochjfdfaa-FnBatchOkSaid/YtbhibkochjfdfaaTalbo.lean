/- TH: the law FnBatchOk. Made by gen.py. -/
import Derived.Test.YtbhibkochjfdfaaTf3
import Derived.Test.YtbhibkochjfdfaaTadbt2
import Derived.Test.YtbhibkochjfdfaaTabt0
import Derived.Test.YtbhibkochjfdfaaTf4
namespace Go.TH
open Go Go.Proofs
set_option linter.unusedSimpArgs false
set_option linter.unusedVariables false
set_option maxHeartbeats 20000000
set_option maxRecDepth 100000
theorem BtS.of {b : GBt} (h1 : b.cols.length ≤ 12) (h2 : b.picked.length ≤ 9) (h3 : ∀ c ∈ b.cols, c.length ≤ 9 ∧ ∀ v ∈ c, PVx v) : BtS b :=
  ⟨by omega, by omega, fun c hc => ⟨by have := (h3 c hc).1; omega, fun x hx => by have : x.s.size ≤ 20 := (h3 c hc).2 x hx; omega⟩⟩
theorem w_BatchOk (s : ByteArray) (hs : s.size ≤ 9223372036854775807) : CallQ Try.prog 4 [.sl s.size false (bytesCells s)] noH 0 fun r _ _ => r = .bool true := by
  obtain ⟨_, ⟨b, h1, h2, h3, rfl⟩, hq⟩ := x_DrawBatchOk s
  have hb := BtS.of h1 h2 h3
  have eS := q_BatchOkS b hb
  have eI := q_BatchOkI b hb
  have e1 := q_BatchOkI ⟨[], b.picked⟩ ⟨by simp, hb.2.1, by simp⟩
  have d1 : decide (batchOk ⟨[], b.picked⟩) = decide ((b.picked.length : Int) ≤ 4) := by
    rw [decide_eq_decide]; unfold batchOk; simp; omega
  have e2 := q_BatchOkI ⟨[List.replicate (b.picked.length + 1) ⟨0, 0, ⟨#[]⟩⟩], b.picked⟩ ⟨by simp, hb.2.1, fun c hc => by simp at hc; subst hc; exact ⟨by simp; omega, fun x hx => by rw [List.eq_of_mem_replicate hx]; exact Nat.zero_le _⟩⟩
  have d2 : decide (batchOk ⟨[List.replicate (b.picked.length + 1) ⟨0, 0, ⟨#[]⟩⟩], b.picked⟩) = false := by
    refine decide_eq_false fun h => ?_
    have := (h.2.2 (List.replicate (b.picked.length + 1) ⟨0, 0, ⟨#[]⟩⟩) (by simp)).1
    rw [List.length_replicate] at this
    simp only at this
    omega
  rw [d1] at e1
  rw [d2] at e2
  refine callQ_body mixed Try.func4 _ (by unfold Try.f4; rfl) Try.ntmps4 Try.results4 (by decide) (by simp) ?_
  simp (maxSteps := 4000000) (disch := omega) only [go_sem, w64, AndB_of, IfB_of, IfB_no, pickE_of, pickE_no, ite_of, ite_no, tdivE, tmodE, takeAll]
  refine IfB.dec (fun h => ?_) (fun h => ?_)
  · simp (maxSteps := 4000000) (disch := omega) only [go_sem, w64, AndB_of, IfB_of, IfB_no, pickE_of, pickE_no, ite_of, ite_no, tdivE, tmodE, takeAll]
  simp (maxSteps := 4000000) (disch := omega) only [go_sem, w64, AndB_of, IfB_of, IfB_no, pickE_of, pickE_no, ite_of, ite_no, tdivE, tmodE, takeAll]
  apply CallB.q hq
  simp (maxSteps := 4000000) (disch := omega) only [go_sem, w64, AndB_of, IfB_of, IfB_no, pickE_of, pickE_no, ite_of, ite_no, tdivE, tmodE, takeAll]
  apply CallB.q eI
  simp (maxSteps := 4000000) (disch := omega) only [go_sem, w64, AndB_of, IfB_of, IfB_no, pickE_of, pickE_no, ite_of, ite_no, tdivE, tmodE, takeAll]
  apply CallB.q eS
  simp (maxSteps := 4000000) (disch := omega) only [go_sem, w64, AndB_of, IfB_of, IfB_no, pickE_of, pickE_no, ite_of, ite_no, tdivE, tmodE, takeAll]
  refine DrawB.float [10] 10 9 [.sl 0 true [], .sl 0 true []] (inS 1 1 1) (by kernel_rfl) (by simp [inS]) ?_
  have ez : AV.int .i64 0 :: AV.int .i64 0 :: AV.str ⟨#[]⟩ :: (List.replicate b.picked.length [AV.int .i64 0, AV.int .i64 0, AV.str ⟨#[]⟩]).flatten = flat GVal.c (List.replicate (b.picked.length + 1) ⟨0, 0, ⟨#[]⟩⟩) := by rw [List.replicate_succ, flat_cons]; simp [flat, GVal.c]
  simp (maxSteps := 4000000) (disch := omega) only [go_sem, w64, AndB_of, IfB_of, IfB_no, pickE_of, pickE_no, ite_of, ite_no, tdivE, tmodE, takeAll, ez]
  refine DrawB.quiet (by kernel_rfl) ?_
  have hp1 : ∀ H, Pict H [.agg [.sl 0 true [], boolsA b.picked]] [.agg [rowsA [], boolsA b.picked]] := fun H => by
    have h := Pict.looseP (H := H) (a := .agg [.sl 0 true [], boolsA b.picked]) (by simp [pureA, pureL])
    have e : looseA (.agg [.sl 0 true [], boolsA b.picked]) = .agg [rowsA [], boolsA b.picked] := by
      rw [looseA_agg]; simp only [List.map, looseA_sl, boolsA_loose]; rfl
    rwa [e] at h
  have hp2 : ∀ H, Pict H [.agg [.sl 1 true [.sl (b.picked.length + 1) false (flat GVal.c (List.replicate (b.picked.length + 1) ⟨0, 0, ⟨#[]⟩⟩))], boolsA b.picked]] [.agg [rowsA [List.replicate (b.picked.length + 1) ⟨0, 0, ⟨#[]⟩⟩], boolsA b.picked]] := fun H => by
    have h := Pict.looseP (H := H) (a := .agg [.sl 1 true [.sl (b.picked.length + 1) false (flat GVal.c (List.replicate (b.picked.length + 1) ⟨0, 0, ⟨#[]⟩⟩))], boolsA b.picked]) (by simp [pureA, pureL, flat_pure GVal.pure])
    have e : looseA (.agg [.sl 1 true [.sl (b.picked.length + 1) false (flat GVal.c (List.replicate (b.picked.length + 1) ⟨0, 0, ⟨#[]⟩⟩))], boolsA b.picked]) = .agg [rowsA [List.replicate (b.picked.length + 1) ⟨0, 0, ⟨#[]⟩⟩], boolsA b.picked] := by
      rw [looseA_agg]; simp only [List.map, looseA_sl, boolsA_loose, GVal.looseL]
      unfold rowsA
      simp [flat, cR, rowA]
    rwa [e] at h
  simp (maxSteps := 4000000) (disch := omega) only [go_sem, w64, AndB_of, IfB_of, IfB_no, pickE_of, pickE_no, ite_of, ite_no, tdivE, tmodE, takeAll, ez]
  refine DCallB.pic (hp1 _) e1 rfl ?_
  simp (maxSteps := 4000000) (disch := omega) only [go_sem, w64, AndB_of, IfB_of, IfB_no, pickE_of, pickE_no, ite_of, ite_no, tdivE, tmodE, takeAll, ez]
  refine DCallB.pic (hp2 _) e2 rfl ?_
  simp (maxSteps := 4000000) (disch := omega) only [go_sem, w64, AndB_of, IfB_of, IfB_no, pickE_of, pickE_no, ite_of, ite_no, tdivE, tmodE, takeAll, ez]
  refine DCallB.q0 q_alive ?_
  simp (maxSteps := 4000000) (disch := omega) only [go_sem, w64, AndB_of, IfB_of, IfB_no, pickE_of, pickE_no, ite_of, ite_no, tdivE, tmodE, takeAll, ez]
end Go.TH
