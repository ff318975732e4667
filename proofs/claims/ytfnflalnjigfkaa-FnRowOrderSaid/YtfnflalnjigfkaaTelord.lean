/- TH: the law FnRowOrder. Made by gen.py. -/
import Derived.Test.YtfnflalnjigfkaaTf3
import Derived.Test.YtfnflalnjigfkaaTeo
import Derived.Test.YtfnflalnjigfkaaTen
import Derived.Test.YtfnflalnjigfkaaTed3
namespace Go.TH
open Go Go.Proofs
set_option linter.unusedSimpArgs false
set_option linter.unusedVariables false
set_option maxHeartbeats 20000000
set_option maxRecDepth 100000
theorem x_DrawRowOrder (s : ByteArray) : ∃ R, (∃ (a b : GRow), a.length ≤ 20 ∧ b.length ≤ 20 ∧ (∀ v ∈ a, PV v) ∧ (∀ v ∈ b, PV v) ∧ R = .tup [rowA a, rowA b]) ∧ QCall Try.prog 28 [.sl s.size false (bytesCells s)] R := by
  refine qex_of (by simp [pureL, pureA, bytesCells_pure]) 1 ?_
  refine dcall_body mixed Try.func28 _ (by unfold Try.f28; rfl) Try.ntmps28 Try.results28 (by decide) (by simp) ?_
  simp (maxSteps := 4000000) (disch := omega) only [go_sem, w64, AndB_of, IfB_of, IfB_no, pickE_of, pickE_no, ite_of, ite_no, tdivE, tmodE, takeAll]
  apply CallB.law; (focus (apply d_open; (repeat (first | exact hH | exact upd_same _ _ _ | rw [upd_ne _ _ (by omega)])); all_goals omega)); rintro _ _ _ ⟨bs, hbs, rfl, rfl, rfl⟩
  simp (maxSteps := 4000000) (disch := omega) only [go_sem, w64, AndB_of, IfB_of, IfB_no, pickE_of, pickE_no, ite_of, ite_no, tdivE, tmodE, takeAll]
  apply CallB.law; (focus (apply d_columns; omega; (repeat (first | exact hH | exact upd_same _ _ _ | rw [upd_ne _ _ (by omega)])); (first | exact fun i hi => hd i (by omega) | (intro i hi; repeat (first | exact hd i (by omega) | exact rfl | rw [upd_ne _ _ (by omega)]))); all_goals omega)); rintro _ _ _ ⟨cols, q, hq0, hq1, hc1, hc2, hcP, rfl, rfl, rfl⟩
  simp (maxSteps := 4000000) (disch := omega) only [go_sem, w64, AndB_of, IfB_of, IfB_no, pickE_of, pickE_no, ite_of, ite_no, tdivE, tmodE, takeAll]
  apply CallB.law; (focus (apply d_fit _; omega; (repeat (first | exact hH | exact upd_same _ _ _ | rw [upd_ne _ _ (by omega)])); (first | exact fun i hi => hd i (by omega) | (intro i hi; repeat (first | exact hd i (by omega) | exact rfl | rw [upd_ne _ _ (by omega)]))); all_goals omega)); rintro _ _ _ ⟨row, q, hq0, hq1, hr1, hr2, rfl, rfl, rfl⟩
  have ha1 := hr1
  have ha2 := hr2
  rename GRow => a
  simp (maxSteps := 4000000) (disch := omega) only [go_sem, w64, AndB_of, IfB_of, IfB_no, pickE_of, pickE_no, ite_of, ite_no, tdivE, tmodE, takeAll]
  apply CallB.law; (focus (apply d_fit _; omega; (repeat (first | exact hH | exact upd_same _ _ _ | rw [upd_ne _ _ (by omega)])); (first | exact fun i hi => hd i (by omega) | (intro i hi; repeat (first | exact hd i (by omega) | exact rfl | rw [upd_ne _ _ (by omega)]))); all_goals omega)); rintro _ _ _ ⟨row, q, hq0, hq1, hr1, hr2, rfl, rfl, rfl⟩
  simp (maxSteps := 4000000) (disch := omega) only [go_sem, w64, AndB_of, IfB_of, IfB_no, pickE_of, pickE_no, ite_of, ite_no, tdivE, tmodE, takeAll]
  apply CallB.law; (focus (apply d_pick; (repeat (first | exact hH | exact upd_same _ _ _ | rw [upd_ne _ _ (by omega)])); all_goals omega)); rintro _ _ _ ⟨x, hx0, hx1, rfl, rfl, rfl⟩
  simp (maxSteps := 4000000) (disch := omega) only [go_sem, w64, AndB_of, IfB_of, IfB_no, pickE_of, pickE_no, ite_of, ite_no, tdivE, tmodE, takeAll]
  refine IfB.dec (fun g => ?_) (fun g => ?_)
  · simp (maxSteps := 4000000) (disch := omega) only [go_sem, w64, AndB_of, IfB_of, IfB_no, pickE_of, pickE_no, ite_of, ite_no, tdivE, tmodE, takeAll]
    apply CallB.law; (focus (apply d_pick; (repeat (first | exact hH | exact upd_same _ _ _ | rw [upd_ne _ _ (by omega)])); all_goals omega)); rintro _ _ _ ⟨x, hx0, hx1, rfl, rfl, rfl⟩
    have hx2 : x.toNat ≤ row.length := by omega
    unfold rowA
    simp (maxSteps := 4000000) (disch := omega) only [go_sem, w64, AndB_of, IfB_of, IfB_no, pickE_of, pickE_no, ite_of, ite_no, tdivE, tmodE, takeAll, flat_take GVal.len]
    refine ⟨a, row.take x.toNat, by omega, by simp; omega, ha2, fun v hv => hr2 v (List.mem_of_mem_take hv), ?_⟩
    have e0 : (x - 0).toNat = x.toNat := by omega
    rw [e0, len_take hx2]
  · simp (maxSteps := 4000000) (disch := omega) only [go_sem, w64, AndB_of, IfB_of, IfB_no, pickE_of, pickE_no, ite_of, ite_no, tdivE, tmodE, takeAll]
    exact ⟨a, row, by omega, by omega, ha2, hr2, rfl⟩
theorem w_RowOrder (s : ByteArray) (hs : s.size ≤ 9223372036854775807) :
    CallQ Try.prog 5 [.sl s.size false (bytesCells s)] noH 0 fun r _ _ => r = .bool true := by
  refine callQ_body mixed Try.func5 _ (by unfold Try.f5; rfl) Try.ntmps5 Try.results5 (by decide) (by simp) ?_
  simp (maxSteps := 4000000) (disch := omega) only [go_sem, w64, AndB_of, IfB_of, IfB_no, pickE_of, pickE_no, ite_of, ite_no, tdivE, tmodE, takeAll]
  refine IfB.dec (fun h => ?_) (fun h => ?_)
  · simp (maxSteps := 4000000) (disch := omega) only [go_sem, w64, AndB_of, IfB_of, IfB_no, pickE_of, pickE_no, ite_of, ite_no, tdivE, tmodE, takeAll]
  obtain ⟨R, ⟨a, b, hl1, hl2, hP1, hP2, rfl⟩, hq⟩ := x_DrawRowOrder s
  have sa : ∀ v ∈ a, v.s.size ≤ 9223372036854775807 := fun v hv => by have := (hP1 v hv).1; omega
  have sb : ∀ v ∈ b, v.s.size ≤ 9223372036854775807 := fun v hv => by have := (hP2 v hv).1; omega
  have rg := rowOrdOk_range b a
  have ng := rowOrdOk_neg b a
  have q1 := q_RowOrderI a b (by omega) (by omega) sa sb
  have q2 := q_RowOrderI b a (by omega) (by omega) sb sa
  have q3 := q_RowOrderS a b (by omega) (by omega) sa sb
  rw [ng] at q1 q3
  have q4 := q_RowOrderI (a.take (a.length - 1)) a (by simp; omega) (by omega) (fun v hv => sa v (List.mem_of_mem_take hv)) sa
  have e1 : (a.length : Int) - 1 = ((a.length - 1 : Nat) : Int) ∨ a.length = 0 := by omega
  have e2 : ((a.length : Int) - 1 - 0).toNat = a.length - 1 := by omega
  have hlt : (a.take (a.length - 1)).length = a.length - 1 := len_take (by omega)
  unfold rowA at hq q1 q2 q3 q4
  rw [hlt] at q4
  simp (maxSteps := 4000000) (disch := omega) only [go_sem, w64, AndB_of, IfB_of, IfB_no, pickE_of, pickE_no, ite_of, ite_no, tdivE, tmodE, takeAll]
  apply CallB.q hq
  simp (maxSteps := 4000000) (disch := omega) only [go_sem, w64, AndB_of, IfB_of, IfB_no, pickE_of, pickE_no, ite_of, ite_no, tdivE, tmodE, takeAll]
  apply CallB.q q1
  simp (maxSteps := 4000000) (disch := omega) only [go_sem, w64, AndB_of, IfB_of, IfB_no, pickE_of, pickE_no, ite_of, ite_no, tdivE, tmodE, takeAll]
  apply CallB.q q3
  simp (maxSteps := 4000000) (disch := omega) only [go_sem, w64, AndB_of, IfB_of, IfB_no, pickE_of, pickE_no, ite_of, ite_no, tdivE, tmodE, takeAll]
  repeat' (first | (refine IfB.dec2 (fun h hd => ?_) (fun h hd => ?_) <;> (try (have h2 := h; unfold inR at h2)) <;> (try simp (maxSteps := 4000000) (disch := omega) only [go_sem, w64, AndB_of, IfB_of, IfB_no, pickE_of, pickE_no, ite_of, ite_no, tdivE, tmodE, takeAll, hd])) | (refine IfB.split (fun h => ?_) (fun h => ?_) <;> (try simp (maxSteps := 4000000) (disch := omega) only [go_sem, w64, AndB_of, IfB_of, IfB_no, pickE_of, pickE_no, ite_of, ite_no, tdivE, tmodE, takeAll, h])) | (refine DrawB.quiet (by kernel_rfl) ?_; simp (maxSteps := 4000000) (disch := omega) only [go_sem, w64, AndB_of, IfB_of, IfB_no, pickE_of, pickE_no, ite_of, ite_no, tdivE, tmodE, takeAll]) | (apply CallB.q (q1); simp (maxSteps := 4000000) (disch := omega) only [go_sem, w64, AndB_of, IfB_of, IfB_no, pickE_of, pickE_no, ite_of, ite_no, tdivE, tmodE, takeAll]) | (apply CallB.q (q2); simp (maxSteps := 4000000) (disch := omega) only [go_sem, w64, AndB_of, IfB_of, IfB_no, pickE_of, pickE_no, ite_of, ite_no, tdivE, tmodE, takeAll]) | (apply CallB.q (q3); simp (maxSteps := 4000000) (disch := omega) only [go_sem, w64, AndB_of, IfB_of, IfB_no, pickE_of, pickE_no, ite_of, ite_no, tdivE, tmodE, takeAll]) | (apply CallB.q (q_RowOkI a (by omega) sa); simp (maxSteps := 4000000) (disch := omega) only [go_sem, w64, AndB_of, IfB_of, IfB_no, pickE_of, pickE_no, ite_of, ite_no, tdivE, tmodE, takeAll]) | (apply CallB.q (q_RowOkI b (by omega) sb); simp (maxSteps := 4000000) (disch := omega) only [go_sem, w64, AndB_of, IfB_of, IfB_no, pickE_of, pickE_no, ite_of, ite_no, tdivE, tmodE, takeAll]) | (apply CallB.q (q_sameRow a b (by omega)); simp (maxSteps := 4000000) (disch := omega) only [go_sem, w64, AndB_of, IfB_of, IfB_no, pickE_of, pickE_no, ite_of, ite_no, tdivE, tmodE, takeAll]) | (apply CallB.q (q_alive); simp (maxSteps := 4000000) (disch := omega) only [go_sem, w64, AndB_of, IfB_of, IfB_no, pickE_of, pickE_no, ite_of, ite_no, tdivE, tmodE, takeAll]) | (apply DCallB.q0 (q1); simp (maxSteps := 4000000) (disch := omega) only [go_sem, w64, AndB_of, IfB_of, IfB_no, pickE_of, pickE_no, ite_of, ite_no, tdivE, tmodE, takeAll]) | (apply DCallB.q0 (q2); simp (maxSteps := 4000000) (disch := omega) only [go_sem, w64, AndB_of, IfB_of, IfB_no, pickE_of, pickE_no, ite_of, ite_no, tdivE, tmodE, takeAll]) | (apply DCallB.q0 (q3); simp (maxSteps := 4000000) (disch := omega) only [go_sem, w64, AndB_of, IfB_of, IfB_no, pickE_of, pickE_no, ite_of, ite_no, tdivE, tmodE, takeAll]) | (apply DCallB.q0 (q_RowOkI a (by omega) sa); simp (maxSteps := 4000000) (disch := omega) only [go_sem, w64, AndB_of, IfB_of, IfB_no, pickE_of, pickE_no, ite_of, ite_no, tdivE, tmodE, takeAll]) | (apply DCallB.q0 (q_RowOkI b (by omega) sb); simp (maxSteps := 4000000) (disch := omega) only [go_sem, w64, AndB_of, IfB_of, IfB_no, pickE_of, pickE_no, ite_of, ite_no, tdivE, tmodE, takeAll]) | (apply DCallB.q0 (q_sameRow a b (by omega)); simp (maxSteps := 4000000) (disch := omega) only [go_sem, w64, AndB_of, IfB_of, IfB_no, pickE_of, pickE_no, ite_of, ite_no, tdivE, tmodE, takeAll]) | (apply DCallB.q0 (q_alive); simp (maxSteps := 4000000) (disch := omega) only [go_sem, w64, AndB_of, IfB_of, IfB_no, pickE_of, pickE_no, ite_of, ite_no, tdivE, tmodE, takeAll]))
  all_goals first
    | (exfalso
       have o1 : rowOk a := by assumption
       have o2 : rowOk b := by assumption
       have c : ¬ decide (-rowOrdOk b a = 0) = decide (a = b) := by assumption
       apply c
       rw [decide_eq_decide, ← ng, rowOrdOk_ok o1 o2]
       exact rowOrd_zero a b)
    | skip
  all_goals
    have o1 : rowOk a := by assumption
    have hk : a.length - 1 < a.length := by omega
    rw [rowOrdOk_pre o1 hk] at q4
    simp (maxSteps := 4000000) (disch := omega) only [go_sem, w64, AndB_of, IfB_of, IfB_no, pickE_of, pickE_no, ite_of, ite_no, tdivE, tmodE, takeAll, e2, flat_take GVal.len, hlt]
    apply CallB.borrow 1 (r := .int .i64 (-1)) _ rfl
    · simp (maxSteps := 4000000) (disch := omega) only [go_sem, w64, AndB_of, IfB_of, IfB_no, pickE_of, pickE_no, ite_of, ite_no, tdivE, tmodE, takeAll]
      repeat' (first | (refine IfB.dec2 (fun h hd => ?_) (fun h hd => ?_) <;> (try (have h2 := h; unfold inR at h2)) <;> (try simp (maxSteps := 4000000) (disch := omega) only [go_sem, w64, AndB_of, IfB_of, IfB_no, pickE_of, pickE_no, ite_of, ite_no, tdivE, tmodE, takeAll, hd])) | (refine IfB.split (fun h => ?_) (fun h => ?_) <;> (try simp (maxSteps := 4000000) (disch := omega) only [go_sem, w64, AndB_of, IfB_of, IfB_no, pickE_of, pickE_no, ite_of, ite_no, tdivE, tmodE, takeAll, h])) | (refine DrawB.quiet (by kernel_rfl) ?_; simp (maxSteps := 4000000) (disch := omega) only [go_sem, w64, AndB_of, IfB_of, IfB_no, pickE_of, pickE_no, ite_of, ite_no, tdivE, tmodE, takeAll]) | (apply CallB.q (q_alive); simp (maxSteps := 4000000) (disch := omega) only [go_sem, w64, AndB_of, IfB_of, IfB_no, pickE_of, pickE_no, ite_of, ite_no, tdivE, tmodE, takeAll]) | (apply DCallB.q0 (q_alive); simp (maxSteps := 4000000) (disch := omega) only [go_sem, w64, AndB_of, IfB_of, IfB_no, pickE_of, pickE_no, ite_of, ite_no, tdivE, tmodE, takeAll]))
    · simp (maxSteps := 4000000) (disch := omega) only [go_sem, w64, AndB_of, IfB_of, IfB_no, pickE_of, pickE_no, ite_of, ite_no, tdivE, tmodE, takeAll, e2, flat_take GVal.len]
      exact q4
end Go.TH
