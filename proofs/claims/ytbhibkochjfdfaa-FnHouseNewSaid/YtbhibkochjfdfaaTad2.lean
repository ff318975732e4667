/- TH: draws, the beginning; two values. Made by gen.py. -/
import Derived.Test.YtbhibkochjfdfaaTf3
import Derived.Test.YtbhibkochjfdfaaTad1
namespace Go.TH
open Go Go.Proofs
set_option linter.unusedSimpArgs false
set_option linter.unusedVariables false
set_option maxHeartbeats 20000000
set_option maxRecDepth 100000
theorem bytes_take (s : ByteArray) (n : Nat) : (bytesCells s).take n = bytesCells ⟨(s.data.toList.take n).toArray⟩ := by
  unfold bytesCells
  rw [← List.map_take]
theorem take_size (s : ByteArray) (n : Nat) : (⟨(s.data.toList.take n).toArray⟩ : ByteArray).size = min n s.size := by
  show ((s.data.toList.take n).toArray).size = _
  rw [List.size_toArray, List.length_take]
  rfl
theorem d_open {H : AH} {nx : Nat} (s : ByteArray) :
    ACallD Try.prog 83 [.sl s.size false (bytesCells s)] H nx (fun r H' nx' => ∃ bs : ByteArray, bs.size ≤ 2000 ∧ r = .ptr nx 0 0 ∧ H' = upd H nx (.live 0 [.sl bs.size false (bytesCells bs), .int .i64 (0)]) ∧ nx' = nx + 1) := by
  refine dcall_body mixed Try.func83 _ (by unfold Try.f83; rfl) Try.ntmps83 Try.results83 (by decide) (by simp) ?_
  simp (maxSteps := 4000000) (disch := omega) only [go_sem, w64, AndB_of, IfB_of, IfB_no, pickE_of, pickE_no, ite_of, ite_no, tdivE, tmodE, takeAll]
  refine IfB.dec (fun h => ?_) (fun h => ?_)
  · simp (maxSteps := 4000000) (disch := omega) only [go_sem, w64, AndB_of, IfB_of, IfB_no, pickE_of, pickE_no, ite_of, ite_no, tdivE, tmodE, takeAll]
    refine ⟨⟨(s.data.toList.take 2000).toArray⟩, ?_, ?_⟩
    · rw [take_size]; omega
    · rw [bytes_take, take_size, show min 2000 s.size = 2000 by omega]
  · simp (maxSteps := 4000000) (disch := omega) only [go_sem, w64, AndB_of, IfB_of, IfB_no, pickE_of, pickE_no, ite_of, ite_no, tdivE, tmodE, takeAll]
    exact ⟨s, by omega, rfl⟩
theorem q_alive : QCall Try.prog 23 [] (.bool true) := by
  refine qcall_body mixed Try.func23 _ (by unfold Try.f23; rfl) Try.ntmps23 Try.results23 (by decide) 0 (by simp) (by simp [pureL, pureA]) ?_
  simp (maxSteps := 4000000) (disch := omega) only [go_sem, w64, AndB_of, IfB_of, IfB_no, pickE_of, pickE_no, ite_of, ite_no, tdivE, tmodE, takeAll]
  have h1 : (⟨1, 3, ⟨#[]⟩⟩ : GVal).Ok := by decide
  have h2 : ¬ (⟨9, 0, ⟨#[]⟩⟩ : GVal).Ok := by decide
  have e1 := q_ValueOkI ⟨1, 3, ⟨#[]⟩⟩ (by decide)
  have e2 := q_ValueOkI ⟨9, 0, ⟨#[]⟩⟩ (by decide)
  rw [decide_eq_true h1] at e1
  rw [decide_eq_false h2] at e2
  apply CallB.q e1
  simp (maxSteps := 4000000) (disch := omega) only [go_sem, w64, AndB_of, IfB_of, IfB_no, pickE_of, pickE_no, ite_of, ite_no, tdivE, tmodE, takeAll]
  apply CallB.q e2
  simp (maxSteps := 4000000) (disch := omega) only [go_sem, w64, AndB_of, IfB_of, IfB_no, pickE_of, pickE_no, ite_of, ite_no, tdivE, tmodE, takeAll]
theorem x_DrawCompare (s : ByteArray) : ∃ R, (∃ (k : Int) (v w : GVal), 1 ≤ k ∧ k ≤ 10 ∧ v.s.size ≤ 20 ∧ w.s.size ≤ 20 ∧ R = .tup [.int .i64 k, .agg [.int .i64 v.k, .int .i64 v.n, .str v.s], .agg [.int .i64 w.k, .int .i64 w.n, .str w.s]]) ∧ QCall Try.prog 38 [.sl s.size false (bytesCells s)] R := by
  refine qex_of (by simp [pureL, pureA, bytesCells_pure]) 1 ?_
  refine dcall_body mixed Try.func38 _ (by unfold Try.f38; rfl) Try.ntmps38 Try.results38 (by decide) (by simp) ?_
  simp (maxSteps := 4000000) (disch := omega) only [go_sem, w64, AndB_of, IfB_of, IfB_no, pickE_of, pickE_no, ite_of, ite_no, tdivE, tmodE, takeAll]
  apply CallB.law; (focus (apply d_open; (repeat (first | exact hH | exact upd_same _ _ _ | rw [upd_ne _ _ (by omega)])); all_goals omega)); rintro _ _ _ ⟨bs, hbs, rfl, rfl, rfl⟩
  simp (maxSteps := 4000000) (disch := omega) only [go_sem, w64, AndB_of, IfB_of, IfB_no, pickE_of, pickE_no, ite_of, ite_no, tdivE, tmodE, takeAll]
  apply CallB.law; (focus (apply d_pick; (repeat (first | exact hH | exact upd_same _ _ _ | rw [upd_ne _ _ (by omega)])); all_goals omega)); rintro _ _ _ ⟨x, hx0, hx1, rfl, rfl, rfl⟩
  simp (maxSteps := 4000000) (disch := omega) only [go_sem, w64, AndB_of, IfB_of, IfB_no, pickE_of, pickE_no, ite_of, ite_no, tdivE, tmodE, takeAll]
  apply CallB.law; (focus (apply d_pick; (repeat (first | exact hH | exact upd_same _ _ _ | rw [upd_ne _ _ (by omega)])); all_goals omega)); rintro _ _ _ ⟨x, hx0, hx1, rfl, rfl, rfl⟩
  simp (maxSteps := 4000000) (disch := omega) only [go_sem, w64, AndB_of, IfB_of, IfB_no, pickE_of, pickE_no, ite_of, ite_no, tdivE, tmodE, takeAll]
  apply CallB.law; (focus (apply d_value; omega; (repeat (first | exact hH | exact upd_same _ _ _ | rw [upd_ne _ _ (by omega)])); (first | exact fun i hi => hd i (by omega) | (intro i hi; repeat (first | exact hd i (by omega) | exact rfl | rw [upd_ne _ _ (by omega)]))); all_goals omega)); rintro _ _ _ ⟨v, q, hq0, hq1, hv1, hv2, rfl, rfl, rfl⟩
  simp (maxSteps := 4000000) (disch := omega) only [go_sem, w64, AndB_of, IfB_of, IfB_no, pickE_of, pickE_no, ite_of, ite_no, tdivE, tmodE, takeAll]
  apply CallB.law; (focus (apply d_value; omega; (repeat (first | exact hH | exact upd_same _ _ _ | rw [upd_ne _ _ (by omega)])); (first | exact fun i hi => hd i (by omega) | (intro i hi; repeat (first | exact hd i (by omega) | exact rfl | rw [upd_ne _ _ (by omega)]))); all_goals omega)); rintro _ _ _ ⟨v, q, hq0, hq1, hv1, hv2, rfl, rfl, rfl⟩
  simp (maxSteps := 4000000) (disch := omega) only [go_sem, w64, AndB_of, IfB_of, IfB_no, pickE_of, pickE_no, ite_of, ite_no, tdivE, tmodE, takeAll]
  refine LoopB.auto (fun zs => ((intOf (slotOf zs 9)).toNat, intOf (nthA (cellsOf (blkOf zs (3))) 0), intOf (nthA (cellsOf (blkOf zs (3))) 1), strOf (nthA (cellsOf (blkOf zs (3))) 2), intOf (nthA (cellsOf (blkOf zs (4))) 0), intOf (nthA (cellsOf (blkOf zs (4))) 1), strOf (nthA (cellsOf (blkOf zs (4))) 2), intOf (nthA (cellsOf (blkOf zs (2))) 1))) (fun zz => [(3, none), (0, none), (0, none), (0, none), (0, none), (0, none), (0, some (.int .i64 (zz.1 : Int)))]) (fun zz => upd (upd (upd (upd (upd noH 0 (.live 0 [.int .i64 0, .int .i64 0, .str ⟨#[]⟩])) 1 (.live 0 [.int .i64 0, .int .i64 0, .str ⟨#[]⟩])) 3 (.live 0 [.int .i64 zz.2.1, .int .i64 zz.2.2.1, .str zz.2.2.2.1])) 4 (.live 0 [.int .i64 zz.2.2.2.2.1, .int .i64 zz.2.2.2.2.2.1, .str zz.2.2.2.2.2.2.1])) 2 (.live 0 [.sl bs.size false (bytesCells bs), .int .i64 (zz.2.2.2.2.2.2.2)])) (fun zz => 5) (fun zz => 6 - zz.1) (fun zz => zz.2.2.2.1.size ≤ 20 ∧ zz.2.2.2.2.2.2.1.size ≤ 20 ∧ 0 ≤ zz.2.2.2.2.2.2.2 ∧ zz.2.2.2.2.2.2.2 ≤ 100 + 20 * zz.1) (by (first | simp (maxSteps := 4000000) (disch := omega) only [go_sem, w64, AndB_of, IfB_of, IfB_no, pickE_of, pickE_no, ite_of, ite_no, tdivE, tmodE, takeAll, hH] | simp (maxSteps := 4000000) (disch := omega) only [go_sem, w64, AndB_of, IfB_of, IfB_no, pickE_of, pickE_no, ite_of, ite_no, tdivE, tmodE, takeAll]); ((repeat' apply And.intro) <;> first | (exact Weak.go (by (first | (simp [wkL]; done) | (simp [wkL]; omega))) (fun zi => by first | exact .inl rfl | exact .inr rfl | (simp only [upd]; repeat' split) <;> first | exact .inl rfl | exact .inr rfl | (exfalso; omega) | exact .inr (hd _ (by omega)) | (left; subst_vars; exact hH.symm) | (left; subst_vars; rfl) | (left; simp; done) | (left; simp; omega)) (by omega)) | omega | rfl | assumption | exact Flat.nil | exact ⟨_, rfl, rfl, by assumption⟩ | (simp; done) | (simp; omega))) ?_
  intro zz zh
  obtain ⟨k, a1, b1, z1, a2, b2, z2, q⟩ := zz
  dsimp only at zh
  obtain ⟨hz1, hz2, hq0, hq1⟩ := zh
  simp (maxSteps := 4000000) (disch := omega) only [go_sem, w64, AndB_of, IfB_of, IfB_no, pickE_of, pickE_no, ite_of, ite_no, tdivE, tmodE, takeAll]
  refine IfB.dec (fun h1 => ?_) (fun h1 => ?_)
  · simp (maxSteps := 4000000) (disch := omega) only [go_sem, w64, AndB_of, IfB_of, IfB_no, pickE_of, pickE_no, ite_of, ite_no, tdivE, tmodE, takeAll]
    refine IfB.dec (fun h2 => ?_) (fun h2 => ?_)
    · simp (maxSteps := 4000000) (disch := omega) only [go_sem, w64, AndB_of, IfB_of, IfB_no, pickE_of, pickE_no, ite_of, ite_no, tdivE, tmodE, takeAll]
      refine DrawB.intro [4, 5] [] (inS (0) (1) (1)) (by kernel_rfl) ?_
      simp (maxSteps := 4000000) (disch := omega) only [go_sem, w64, AndB_of, IfB_of, IfB_no, pickE_of, pickE_no, ite_of, ite_no, tdivE, tmodE, takeAll]
      subst_vars
      exact ⟨_, ⟨_, b1, z1⟩, ⟨_, b2, z2⟩, by omega, by omega, hz1, hz2, rfl⟩
    · simp (maxSteps := 4000000) (disch := omega) only [go_sem, w64, AndB_of, IfB_of, IfB_no, pickE_of, pickE_no, ite_of, ite_no, tdivE, tmodE, takeAll]
      apply CallB.law; (focus (apply d_value; omega; (repeat (first | exact hH | exact upd_same _ _ _ | rw [upd_ne _ _ (by omega)])); (first | exact fun i hi => hd i (by omega) | (intro i hi; repeat (first | exact hd i (by omega) | exact rfl | rw [upd_ne _ _ (by omega)]))); all_goals omega)); rintro _ _ _ ⟨v, q, hq0, hq1, hv1, hv2, rfl, rfl, rfl⟩
      simp (maxSteps := 4000000) (disch := omega) only [go_sem, w64, AndB_of, IfB_of, IfB_no, pickE_of, pickE_no, ite_of, ite_no, tdivE, tmodE, takeAll]
      ((repeat' apply And.intro) <;> first | (exact Weak.go (by (first | (simp [wkL]; done) | (simp [wkL]; omega))) (fun zi => by first | exact .inl rfl | exact .inr rfl | (simp only [upd]; repeat' split) <;> first | exact .inl rfl | exact .inr rfl | (exfalso; omega) | exact .inr (hd _ (by omega)) | (left; subst_vars; exact hH.symm) | (left; subst_vars; rfl) | (left; simp; done) | (left; simp; omega)) (by omega)) | omega | rfl | assumption | exact Flat.nil | exact ⟨_, rfl, rfl, by assumption⟩ | (simp; done) | (simp; omega))
  · simp (maxSteps := 4000000) (disch := omega) only [go_sem, w64, AndB_of, IfB_of, IfB_no, pickE_of, pickE_no, ite_of, ite_no, tdivE, tmodE, takeAll]
    refine DrawB.intro [4, 5] [] (inS (0) (1) (1)) (by kernel_rfl) ?_
    simp (maxSteps := 4000000) (disch := omega) only [go_sem, w64, AndB_of, IfB_of, IfB_no, pickE_of, pickE_no, ite_of, ite_no, tdivE, tmodE, takeAll]
    exact ⟨_, ⟨a1, b1, z1⟩, ⟨a2, b2, z2⟩, by omega, by omega, hz1, hz2, rfl⟩
end Go.TH
