/- TH: the law FnExprKind. Made by gen.py. -/
import Derived.Test.YtfnflalnjigfkaaTf3
import Derived.Test.YtfnflalnjigfkaaTexd
import Derived.Test.YtfnflalnjigfkaaTeek2
import Derived.Test.YtfnflalnjigfkaaTf4
namespace Go.TH
open Go Go.Proofs
set_option linter.unusedSimpArgs false
set_option linter.unusedVariables false
set_option maxHeartbeats 20000000
set_option maxRecDepth 100000
theorem w_ExprKind (s : ByteArray) (hs : s.size ≤ 9223372036854775807) :
    CallQ Try.prog 9 [.sl s.size false (bytesCells s)] noH 0 fun r _ _ => r = .bool true := by
  refine callQ_body mixed Try.func9 _ (by unfold Try.f9; rfl) Try.ntmps9 Try.results9 (by decide) (by simp) ?_
  simp (maxSteps := 4000000) (disch := omega) only [go_sem, w64, AndB_of, IfB_of, IfB_no, pickE_of, pickE_no, ite_of, ite_no, tdivE, tmodE, takeAll]
  refine IfB.dec (fun h => ?_) (fun h => ?_)
  · simp (maxSteps := 4000000) (disch := omega) only [go_sem, w64, AndB_of, IfB_of, IfB_no, pickE_of, pickE_no, ite_of, ite_no, tdivE, tmodE, takeAll]
  obtain ⟨R, ⟨cols, e, hc, hl, hP, rfl⟩, hq⟩ := x_DrawExprKind s
  have hsm : ∀ p ∈ e, p.v.s.size ≤ 9223372036854775807 := fun p hp => by have := hP p hp; unfold PP at this; omega
  simp (maxSteps := 4000000) (disch := omega) only [go_sem, w64, AndB_of, IfB_of, IfB_no, pickE_of, pickE_no, ite_of, ite_no, tdivE, tmodE, takeAll]
  apply CallB.q hq
  simp (maxSteps := 4000000) (disch := omega) only [go_sem, w64, AndB_of, IfB_of, IfB_no, pickE_of, pickE_no, ite_of, ite_no, tdivE, tmodE, takeAll]
  apply CallB.q (q_ExprKindI cols (by omega) e (by omega) hsm)
  simp (maxSteps := 4000000) (disch := omega) only [go_sem, w64, AndB_of, IfB_of, IfB_no, pickE_of, pickE_no, ite_of, ite_no, tdivE, tmodE, takeAll]
  apply CallB.q (q_ExprKindS cols (by omega) e (by omega) hsm)
  simp (maxSteps := 4000000) (disch := omega) only [go_sem, w64, AndB_of, IfB_of, IfB_no, pickE_of, pickE_no, ite_of, ite_no, tdivE, tmodE, takeAll]
  refine IfB.dec (fun c1 => ?_) (fun c1 => ?_)
  · have hn := exprKind_neg c1
    simp (maxSteps := 4000000) (disch := omega) only [go_sem, w64, AndB_of, IfB_of, IfB_no, pickE_of, pickE_no, ite_of, ite_no, tdivE, tmodE, takeAll, hn]
    repeat' (first | (refine IfB.dec2 (fun h hd => ?_) (fun h hd => ?_) <;> (try (have h2 := h; unfold inR at h2)) <;> (try simp (maxSteps := 4000000) (disch := omega) only [go_sem, w64, AndB_of, IfB_of, IfB_no, pickE_of, pickE_no, ite_of, ite_no, tdivE, tmodE, takeAll, hd])) | (refine IfB.split (fun h => ?_) (fun h => ?_) <;> (try simp (maxSteps := 4000000) (disch := omega) only [go_sem, w64, AndB_of, IfB_of, IfB_no, pickE_of, pickE_no, ite_of, ite_no, tdivE, tmodE, takeAll, h])) | (refine DrawB.quiet (by kernel_rfl) ?_; simp (maxSteps := 4000000) (disch := omega) only [go_sem, w64, AndB_of, IfB_of, IfB_no, pickE_of, pickE_no, ite_of, ite_no, tdivE, tmodE, takeAll]) | (apply CallB.q (q_alive); simp (maxSteps := 4000000) (disch := omega) only [go_sem, w64, AndB_of, IfB_of, IfB_no, pickE_of, pickE_no, ite_of, ite_no, tdivE, tmodE, takeAll]) | (apply DCallB.q0 (q_alive); simp (maxSteps := 4000000) (disch := omega) only [go_sem, w64, AndB_of, IfB_of, IfB_no, pickE_of, pickE_no, ite_of, ite_no, tdivE, tmodE, takeAll]))
  have hne : exprKind cols e ≠ -1 := fun e2 => c1 (by rw [e2]; omega)
  obtain ⟨k1, k2, k3⟩ := exprKind_some hne
  obtain ⟨E1, e1⟩ : ∃ E1 : List GPt, E1 = e ++ e ++ [⟨4, 1, zV⟩] := ⟨_, rfl⟩
  obtain ⟨E2, e2⟩ : ∃ E2 : List GPt, E2 = e ++ [⟨8, 0, zV⟩] := ⟨_, rfl⟩
  have l1 : E1.length = e.length + e.length + 1 := by rw [e1]; simp; omega
  have l2 : E2.length = e.length + 1 := by rw [e2]; simp
  have hz : zV.s.size ≤ 9223372036854775807 := by show (⟨#[]⟩ : ByteArray).size ≤ 9223372036854775807; decide
  have s1 : ∀ p ∈ E1, p.v.s.size ≤ 9223372036854775807 := fun p hp => by
    rw [e1] at hp
    rcases List.mem_append.1 hp with h | h
    · rcases List.mem_append.1 h with h | h
      · exact hsm p h
      · exact hsm p h
    · simp at h; subst h; exact hz
  have s2 : ∀ p ∈ E2, p.v.s.size ≤ 9223372036854775807 := fun p hp => by
    rw [e2] at hp
    rcases List.mem_append.1 hp with h | h
    · exact hsm p h
    · simp at h; subst h; exact hz
  have q1 : ¬ (12 : Int) < ((e.length + e.length + 1 : Nat) : Int) → QCall Try.prog 41 [colsA cols, partsA E1] (.int .i64 3) := fun h => by
    have := exprKind_twice hne (by rw [← e1, l1]; omega)
    rw [← e1] at this
    rw [← this]
    exact q_ExprKindI cols (by omega) E1 (by omega) s1
  have q2 : ¬ (12 : Int) < ((e.length + 1 : Nat) : Int) → QCall Try.prog 41 [colsA cols, partsA E2] (.int .i64 3) := fun h => by
    have := exprKind_none hne (by rw [← e2, l2]; omega)
    rw [← e2] at this
    rw [← this]
    exact q_ExprKindI cols (by omega) E2 (by omega) s2
  have p1 : ∀ H : AH, H 0 = .live 3 (flat GPt.c E1) → Pict H [.msl 0 3 5 0 (e.length + e.length + 1)] [partsA E1] := fun H h => by
    rw [← l1]
    exact Pict.msl (rest := []) GPt.len GPt.pure (by rw [List.append_nil]; exact h)
  have p2 : ∀ H : AH, H 2 = .live 2 (flat GPt.c E2) → Pict H [.msl 2 2 5 0 (e.length + 1)] [partsA E2] := fun H h => by
    rw [← l2]
    exact Pict.msl (rest := []) GPt.len GPt.pure (by rw [List.append_nil]; exact h)
  have f1 : flat GPt.c (e ++ e ++ [⟨4, 1, ⟨0, 0, ⟨#[]⟩⟩⟩]) = flat GPt.c E1 := by rw [e1]; try rfl
  have f2 : flat GPt.c (e ++ [⟨8, 0, ⟨0, 0, ⟨#[]⟩⟩⟩]) = flat GPt.c E2 := by rw [e2]; try rfl
  unfold partsA
  simp (maxSteps := 4000000) (disch := omega) only [go_sem, w64, AndB_of, IfB_of, IfB_no, pickE_of, pickE_no, ite_of, ite_no, tdivE, tmodE, takeAll, GPt.snocE, GPt.appE, GPt.takeE, GPt.takeF, List.length_append, List.length_cons, List.length_nil]
  rw [f1, f2]
  refine IfB.dec2 (fun d1 f3 => ?_) (fun d1 f3 => ?_)
  · simp (maxSteps := 4000000) (disch := omega) only [go_sem, w64, AndB_of, IfB_of, IfB_no, pickE_of, pickE_no, ite_of, ite_no, tdivE, tmodE, takeAll, f3]
    refine IfB.dec (fun d2 => ?_) (fun d2 => ?_)
    · simp (maxSteps := 4000000) (disch := omega) only [go_sem, w64, AndB_of, IfB_of, IfB_no, pickE_of, pickE_no, ite_of, ite_no, tdivE, tmodE, takeAll]
    · simp (maxSteps := 4000000) (disch := omega) only [go_sem, w64, AndB_of, IfB_of, IfB_no, pickE_of, pickE_no, ite_of, ite_no, tdivE, tmodE, takeAll]
      refine CallB.pic (Pict.cons (Pict.pure (colsA_pure _)) (Pict.cons (p2 _ (by repeat (first | exact upd_same _ _ _ | rw [upd_ne _ _ (by omega)]))) Pict.nil)) (q2 d2) rfl ?_
      simp (maxSteps := 4000000) (disch := omega) only [go_sem, w64, AndB_of, IfB_of, IfB_no, pickE_of, pickE_no, ite_of, ite_no, tdivE, tmodE, takeAll]
  · simp (maxSteps := 4000000) (disch := omega) only [go_sem, w64, AndB_of, IfB_of, IfB_no, pickE_of, pickE_no, ite_of, ite_no, tdivE, tmodE, takeAll, f3]
    refine CallB.pic (Pict.cons (Pict.pure (colsA_pure _)) (Pict.cons (p1 _ (by repeat (first | exact upd_same _ _ _ | rw [upd_ne _ _ (by omega)]))) Pict.nil)) (q1 d1) rfl ?_
    simp (maxSteps := 4000000) (disch := omega) only [go_sem, w64, AndB_of, IfB_of, IfB_no, pickE_of, pickE_no, ite_of, ite_no, tdivE, tmodE, takeAll, f3]
    refine CallB.pic (Pict.cons (Pict.pure (colsA_pure _)) (Pict.cons (p2 _ (by repeat (first | exact upd_same _ _ _ | rw [upd_ne _ _ (by omega)]))) Pict.nil)) (q2 (by omega)) rfl ?_
    simp (maxSteps := 4000000) (disch := omega) only [go_sem, w64, AndB_of, IfB_of, IfB_no, pickE_of, pickE_no, ite_of, ite_no, tdivE, tmodE, takeAll]
end Go.TH
