/- TH: the law FnRowsLess. Made by gen.py. -/
import Derived.Test.YtfnflalnjigfkaaTf3
import Derived.Test.YtfnflalnjigfkaaTegr
import Derived.Test.YtfnflalnjigfkaaTed2
namespace Go.TH
open Go Go.Proofs
set_option linter.unusedSimpArgs false
set_option linter.unusedVariables false
set_option maxHeartbeats 20000000
set_option maxRecDepth 100000
theorem w_RowsLess (s : ByteArray) (hs : s.size ≤ 9223372036854775807) : CallQ Try.prog 12 [.sl s.size false (bytesCells s)] noH 0 fun r _ _ => r = .bool true := by
  obtain ⟨_, ⟨a, b, ha, hb, pa, pb, rfl⟩, hq⟩ := x_DrawRowsLess s
  have sa : ∀ x ∈ a, smallR x := fun x hx => ⟨by have := (pa x hx).1; omega, fun v hv => by have := ((pa x hx).2 v hv).1; omega⟩
  have sb : ∀ x ∈ b, smallR x := fun x hx => ⟨by have := (pb x hx).1; omega, fun v hv => by have := ((pb x hx).2 v hv).1; omega⟩
  have sab : ∀ x ∈ a ++ b, smallR x := fun x hx => (List.mem_append.1 hx).elim (sa x) (sb x)
  have lab : (a ++ b).length = a.length + b.length := by simp
  have eI := q_RowsLessI a b (by omega) (by omega) sa sb
  have eS := q_RowsLessS a b (by omega) (by omega) sa sb
  have eJ := q_joined a b (by omega) (by omega)
  have eL := q_RowsLessI (a ++ b) b (by omega) (by omega) sab sb
  have l1 := lessL_len (b := b) a [] []
  have l2 := lessL_len (b := b) (a ++ b) [] []
  have c1 : ∀ r, cntR r (lessL b [] [] a) = max (cntR r a - cntR r b) 0 := fun r => by
    rw [lessL_cnt a [] [] (by rw [cntR_nil]; exact (cntR_le r b).1), cntR_nil]; omega
  have c2 : ∀ r, cntR r (lessL b [] [] (a ++ b)) = cntR r a := fun r => by
    have := (cntR_le r a).1
    rw [lessL_cnt (a ++ b) [] [] (by rw [cntR_nil]; exact (cntR_le r b).1), cntR_nil, cntR_app]; omega
  have m1 : ∀ x ∈ lessL b [] [] a, smallR x := fun x hx => (lessL_mem _ _ _ hx).elim (by simp) (sa x)
  have m2 : ∀ x ∈ lessL b [] [] (a ++ b), smallR x := fun x hx => (lessL_mem _ _ _ hx).elim (by simp) (sab x)
  simp only [List.length_nil, Nat.zero_add] at l1 l2
  obtain ⟨w, hw⟩ : ∃ w, w = lessL b [] [] a := ⟨_, rfl⟩
  obtain ⟨z, hz⟩ : ∃ z, z = lessL b [] [] (a ++ b) := ⟨_, rfl⟩
  rw [← hw] at eI eS l1 c1 m1
  rw [← hz] at eL l2 c2 m2
  have eB := q_SameBag z a (by omega) (by omega) m2 sa
  rw [decide_eq_true (fun r _ => c2 r)] at eB
  have e2 := q_sameRows w w (by omega) m1
  refine callQ_body mixed Try.func12 _ (by unfold Try.f12; rfl) Try.ntmps12 Try.results12 (by decide) (by simp) ?_
  simp (maxSteps := 4000000) (disch := omega) only [go_sem, w64, AndB_of, IfB_of, IfB_no, pickE_of, pickE_no, ite_of, ite_no, tdivE, tmodE, takeAll]
  refine IfB.dec (fun h => ?_) (fun h => ?_)
  · simp (maxSteps := 4000000) (disch := omega) only [go_sem, w64, AndB_of, IfB_of, IfB_no, pickE_of, pickE_no, ite_of, ite_no, tdivE, tmodE, takeAll]
  simp (maxSteps := 4000000) (disch := omega) only [go_sem, w64, AndB_of, IfB_of, IfB_no, pickE_of, pickE_no, ite_of, ite_no, tdivE, tmodE, takeAll]
  apply CallB.q hq
  simp (maxSteps := 4000000) (disch := omega) only [go_sem, w64, AndB_of, IfB_of, IfB_no, pickE_of, pickE_no, ite_of, ite_no, tdivE, tmodE, takeAll]
  apply CallB.q eI
  simp (maxSteps := 4000000) (disch := omega) only [go_sem, w64, AndB_of, IfB_of, IfB_no, pickE_of, pickE_no, ite_of, ite_no, tdivE, tmodE, takeAll]
  apply CallB.q eS
  simp (maxSteps := 4000000) (disch := omega) only [go_sem, w64, AndB_of, IfB_of, IfB_no, pickE_of, pickE_no, ite_of, ite_no, tdivE, tmodE, takeAll]
  apply CallB.q e2
  simp (maxSteps := 4000000) (disch := omega) only [go_sem, w64, AndB_of, IfB_of, IfB_no, pickE_of, pickE_no, ite_of, ite_no, tdivE, tmodE, takeAll]
  refine LoopB.auto (fun zs => (intOf (slotOf zs 6)).toNat) (fun zz => [(3, none), (0, none), (0, none), (0, some (.int .i64 (zz : Int)))]) (fun zz => noH) (fun zz => 0) (fun zz => a.length - zz) (fun zz => zz ≤ a.length) (by (first | simp (maxSteps := 4000000) (disch := omega) only [go_sem, w64, AndB_of, IfB_of, IfB_no, pickE_of, pickE_no, ite_of, ite_no, tdivE, tmodE, takeAll, hH] | simp (maxSteps := 4000000) (disch := omega) only [go_sem, w64, AndB_of, IfB_of, IfB_no, pickE_of, pickE_no, ite_of, ite_no, tdivE, tmodE, takeAll]); ((repeat' apply And.intro) <;> first | (exact Weak.go (by (first | (simp [wkL]; done) | (simp [wkL]; omega))) (fun zi => by first | exact .inl rfl | exact .inr rfl | (simp only [upd]; repeat' split) <;> first | exact .inl rfl | exact .inr rfl | (exfalso; omega) | exact .inr (hd _ (by omega)) | (left; subst_vars; exact hH.symm) | (left; subst_vars; rfl) | (left; simp; done) | (left; simp; omega)) (by omega)) | omega | rfl | assumption | exact Flat.nil | exact ⟨_, rfl, rfl, by assumption⟩ | (simp; done) | (simp; omega))) ?_
  intro k zh
  have hk := zh
  simp (maxSteps := 4000000) (disch := omega) only [go_sem, w64, AndB_of, IfB_of, IfB_no, pickE_of, pickE_no, ite_of, ite_no, tdivE, tmodE, takeAll]
  refine IfB.dec (fun g1 => ?_) (fun g1 => ?_)
  · have g1' : k < a.length := by omega
    have r1 := q_RowManyI w a[k] (by omega) m1
    have r2 := q_RowManyI a a[k] (by omega) sa
    have r3 := q_RowManyI b a[k] (by omega) sb
    have b1 := cntR_le a[k] a
    have b2 := cntR_le a[k] b
    rw [c1] at r1
    unfold rowsA at r2 ⊢
    simp (maxSteps := 4000000) (disch := omega) only [go_sem, w64, AndB_of, IfB_of, IfB_no, pickE_of, pickE_no, ite_of, ite_no, tdivE, tmodE, takeAll]
    refine DrawB.quiet (by kernel_rfl) ?_
    simp (maxSteps := 4000000) (disch := omega) only [go_sem, w64, AndB_of, IfB_of, IfB_no, pickE_of, pickE_no, ite_of, ite_no, tdivE, tmodE, takeAll]
    refine DCallB.q0 r1 ?_
    simp (maxSteps := 4000000) (disch := omega) only [go_sem, w64, AndB_of, IfB_of, IfB_no, pickE_of, pickE_no, ite_of, ite_no, tdivE, tmodE, takeAll]
    refine DCallB.q0 r2 ?_
    simp (maxSteps := 4000000) (disch := omega) only [go_sem, w64, AndB_of, IfB_of, IfB_no, pickE_of, pickE_no, ite_of, ite_no, tdivE, tmodE, takeAll]
    refine DCallB.q0 r3 ?_
    simp (maxSteps := 4000000) (disch := omega) only [go_sem, w64, AndB_of, IfB_of, IfB_no, pickE_of, pickE_no, ite_of, ite_no, tdivE, tmodE, takeAll]
    ((repeat' apply And.intro) <;> first | (exact Weak.go (by (first | (simp [wkL]; done) | (simp [wkL]; omega))) (fun zi => by first | exact .inl rfl | exact .inr rfl | (simp only [upd]; repeat' split) <;> first | exact .inl rfl | exact .inr rfl | (exfalso; omega) | exact .inr (hd _ (by omega)) | (left; subst_vars; exact hH.symm) | (left; subst_vars; rfl) | (left; simp; done) | (left; simp; omega)) (by omega)) | omega | rfl | assumption | exact Flat.nil | exact ⟨_, rfl, rfl, by assumption⟩ | (simp; done) | (simp; omega))
  simp (maxSteps := 4000000) (disch := omega) only [go_sem, w64, AndB_of, IfB_of, IfB_no, pickE_of, pickE_no, ite_of, ite_no, tdivE, tmodE, takeAll]
  apply CallB.q eJ
  simp (maxSteps := 4000000) (disch := omega) only [go_sem, w64, AndB_of, IfB_of, IfB_no, pickE_of, pickE_no, ite_of, ite_no, tdivE, tmodE, takeAll]
  apply CallB.q eL
  simp (maxSteps := 4000000) (disch := omega) only [go_sem, w64, AndB_of, IfB_of, IfB_no, pickE_of, pickE_no, ite_of, ite_no, tdivE, tmodE, takeAll]
  apply CallB.q eB
  simp (maxSteps := 4000000) (disch := omega) only [go_sem, w64, AndB_of, IfB_of, IfB_no, pickE_of, pickE_no, ite_of, ite_no, tdivE, tmodE, takeAll]
  apply CallB.q q_alive
  simp (maxSteps := 4000000) (disch := omega) only [go_sem, w64, AndB_of, IfB_of, IfB_no, pickE_of, pickE_no, ite_of, ite_no, tdivE, tmodE, takeAll]
end Go.TH
