/- TH: draws, the beginning; two values. Made by gen.py. -/
import Derived.Test.YtipoefabimcbdaaDoorTf3
import Derived.Test.YtipoefabimcbdaaDoorTfd1
namespace Go.TH
open Go Go.Proofs
set_option linter.unusedSimpArgs false
set_option linter.unusedVariables false
set_option maxHeartbeats 20000000
set_option maxRecDepth 100000
theorem bytes_take (s : ByteArray) (n : Nat) : (bytesCells s).take n = bytesCells ⟨(s.data.toList.take n).toArray⟩ := by
  unfold bytesCells
  rw [← List.map_take]
theorem take_size (s : ByteArray) (n : Nat) : (⟨(s.data.toList.take n).toArray⟩ : ByteArray).size = min n s.size := by
  show ((s.data.toList.take n).toArray).size = _
  rw [List.size_toArray, List.length_take]
  rfl
theorem d_open {H : AH} {nx : Nat} (s : ByteArray) :
    ACallD Tryd.prog 19 [.sl s.size false (bytesCells s)] H nx (fun r H' nx' => ∃ bs : ByteArray, bs.size ≤ 2000 ∧ r = .ptr nx 0 0 ∧ H' = upd H nx (.live 0 [.sl bs.size false (bytesCells bs), .int .i64 (0)]) ∧ nx' = nx + 1) := by
  refine dcall_body mixed Tryd.func19 _ (by unfold Tryd.f19; rfl) Tryd.ntmps19 Tryd.results19 (by decide) (by simp) ?_
  simp (maxSteps := 4000000) (disch := omega) only [go_sem, w64, AndB_of, IfB_of, IfB_no, pickE_of, pickE_no, ite_of, ite_no, tdivE, tmodE, takeAll]
  refine IfB.dec (fun h => ?_) (fun h => ?_)
  · simp (maxSteps := 4000000) (disch := omega) only [go_sem, w64, AndB_of, IfB_of, IfB_no, pickE_of, pickE_no, ite_of, ite_no, tdivE, tmodE, takeAll]
    refine ⟨⟨(s.data.toList.take 2000).toArray⟩, ?_, ?_⟩
    · rw [take_size]; omega
    · rw [bytes_take, take_size, show min 2000 s.size = 2000 by omega]
  · simp (maxSteps := 4000000) (disch := omega) only [go_sem, w64, AndB_of, IfB_of, IfB_no, pickE_of, pickE_no, ite_of, ite_no, tdivE, tmodE, takeAll]
    exact ⟨s, by omega, rfl⟩
theorem q_alive : QCall Tryd.prog 13 [] (.bool true) := by
  refine qcall_body mixed Tryd.func13 _ (by unfold Tryd.f13; rfl) Tryd.ntmps13 Tryd.results13 (by decide) 0 (by simp) (by simp [pureL, pureA]) ?_
  simp (maxSteps := 4000000) (disch := omega) only [go_sem, w64, AndB_of, IfB_of, IfB_no, pickE_of, pickE_no, ite_of, ite_no, tdivE, tmodE, takeAll]
  have h1 : (⟨1, 3, ⟨#[]⟩⟩ : GVal).Ok := by decide
  have h2 : ¬ (⟨9, 0, ⟨#[]⟩⟩ : GVal).Ok := by decide
  have e1 := q_ValueOkI ⟨1, 3, ⟨#[]⟩⟩ (by decide)
  have e2 := q_ValueOkI ⟨9, 0, ⟨#[]⟩⟩ (by decide)
  rw [decide_eq_true h1] at e1
  rw [decide_eq_false h2] at e2
  apply CallB.q e1
  simp (maxSteps := 4000000) (disch := omega) only [go_sem, w64, AndB_of, IfB_of, IfB_no, pickE_of, pickE_no, ite_of, ite_no, tdivE, tmodE, takeAll]
  apply CallB.q e2
  simp (maxSteps := 4000000) (disch := omega) only [go_sem, w64, AndB_of, IfB_of, IfB_no, pickE_of, pickE_no, ite_of, ite_no, tdivE, tmodE, takeAll]
end Go.TH
