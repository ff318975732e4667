/- TH: draws, values: the walks. Made by gen.py. -/
import Derived.Test.YtbhibkochjfdfaaTad0
namespace Go.TH
open Go Go.Proofs
set_option linter.unusedSimpArgs false
set_option linter.unusedVariables false
set_option maxHeartbeats 20000000
set_option maxRecDepth 100000
theorem d_value {H : AH} {nx rid : Nat} {bs : ByteArray} {p n : Int} (hr : rid < nx) (hH : H rid = .live 0 [.sl bs.size false (bytesCells bs), .int .i64 (p)]) (hd : ∀ i, nx ≤ i → H i = .dead) (hp0 : 0 ≤ p) (hp : p ≤ 900000000) (hb : bs.size ≤ 2000) (hn0 : -1000000000 ≤ n) (hn : n ≤ 1000000000) :
    ACallD Try.prog 105 [.ptr rid 0 0, .int .i64 n] H nx (fun r H' nx' => ∃ (v : GVal) (q : Int), p ≤ q ∧ q ≤ p + 20 ∧ v.s.size ≤ 20 ∧ (-10000 ≤ v.n ∧ v.n ≤ 10000) ∧ r = .agg [.int .i64 v.k, .int .i64 v.n, .str v.s] ∧ H' = upd H rid (.live 0 [.sl bs.size false (bytesCells bs), .int .i64 (q)]) ∧ nx' = nx) := by
  refine ACallD.finR 1 rid hr ?_
  refine wcall_body mixed Try.func105 _ (by unfold Try.f105; rfl) Try.ntmps105 Try.results105 (by decide) (by simp) ?_
  simp (maxSteps := 4000000) (disch := omega) only [go_sem, w64, AndB_of, IfB_of, IfB_no, pickE_of, pickE_no, ite_of, ite_no, tdivE, tmodE, takeAll]
  refine AW.step ?_
  simp (maxSteps := 4000000) (disch := omega) only [go_sem, w64, AndB_of, IfB_of, IfB_no, pickE_of, pickE_no, ite_of, ite_no, tdivE, tmodE, takeAll]
  refine AW.step ?_
  simp (maxSteps := 4000000) (disch := omega) only [go_sem, w64, AndB_of, IfB_of, IfB_no, pickE_of, pickE_no, ite_of, ite_no, tdivE, tmodE, takeAll]
  refine AW.cut (fun zs => (intOf (nthA (cellsOf (blkOf zs (nx+1))) 0), intOf (nthA (cellsOf (blkOf zs (nx+1))) 1), strOf (nthA (cellsOf (blkOf zs (nx+1))) 2), intOf (nthA (cellsOf (blkOf zs (rid))) 1))) (fun zz => [(0, none), (0, none), (2, none), (0, none)]) (fun zz => upd (upd (upd H nx (.live 0 [.int .i64 0, .int .i64 0, .str ⟨#[]⟩])) (nx + 1) (.live 0 [.int .i64 zz.1, .int .i64 zz.2.1, .str zz.2.2.1])) rid (.live 0 [.sl bs.size false (bytesCells bs), .int .i64 (zz.2.2.2)])) (fun zz => nx + 10) (fun zz => p ≤ zz.2.2.2 ∧ zz.2.2.2 ≤ p + 10 ∧ -10000 ≤ zz.2.1 ∧ zz.2.1 ≤ 10000 ∧ zz.2.2.1.size ≤ 5) ?zcut ?_
  case' zcut => simp (maxSteps := 4000000) (disch := omega) only [go_sem, w64, AndB_of, IfB_of, IfB_no, pickE_of, pickE_no, ite_of, ite_no, tdivE, tmodE, takeAll]
  · apply CallB.law; (focus (apply d_pick; (repeat (first | exact hH | exact upd_same _ _ _ | rw [upd_ne _ _ (by omega)])); all_goals omega)); rintro _ _ _ ⟨x, hx0, hx1, rfl, rfl, rfl⟩
    simp (maxSteps := 4000000) (disch := omega) only [go_sem, w64, AndB_of, IfB_of, IfB_no, pickE_of, pickE_no, ite_of, ite_no, tdivE, tmodE, takeAll]
    repeat' (first | (refine IfB.dec (fun h => ?_) (fun h => ?_) <;> (try (have h2 := h; unfold inR at h2)) <;> simp (maxSteps := 4000000) (disch := omega) only [go_sem, w64, AndB_of, IfB_of, IfB_no, pickE_of, pickE_no, ite_of, ite_no, tdivE, tmodE, takeAll, h]) | (refine IfB.split (fun h => ?_) (fun h => ?_) <;> simp (maxSteps := 4000000) (disch := omega) only [go_sem, w64, AndB_of, IfB_of, IfB_no, pickE_of, pickE_no, ite_of, ite_no, tdivE, tmodE, takeAll, h]) | (apply CallB.law; (focus (apply d_pick; (repeat (first | exact hH | exact upd_same _ _ _ | rw [upd_ne _ _ (by omega)])); all_goals omega)); rintro _ _ _ ⟨x, hx0, hx1, rfl, rfl, rfl⟩; simp (maxSteps := 4000000) (disch := omega) only [go_sem, w64, AndB_of, IfB_of, IfB_no, pickE_of, pickE_no, ite_of, ite_no, tdivE, tmodE, takeAll]))
    all_goals first
      | ((repeat' apply And.intro) <;> first | (exact Weak.go (by (first | (simp [wkL]; done) | (simp [wkL]; omega))) (fun zi => by first | exact .inl rfl | exact .inr rfl | (simp only [upd]; repeat' split) <;> first | exact .inl rfl | (exfalso; omega) | exact .inr (hd _ (by omega)) | (left; subst_vars; rfl) | (left; simp; done) | (left; simp; omega)) (by omega)) | omega | rfl | assumption | (simp; done) | (simp; omega))
      | (obtain ⟨m, hm, he⟩ := getD_ints [9999, -9999, 255, 256, -256] x.toNat (by simp; omega)
         simp only [List.map_cons, List.map_nil] at he
         have hm2 : -10000 ≤ m ∧ m ≤ 10000 := by simp at hm; omega
         simp (maxSteps := 4000000) (disch := omega) only [go_sem, w64, AndB_of, IfB_of, IfB_no, pickE_of, pickE_no, ite_of, ite_no, tdivE, tmodE, takeAll, he]
         ((repeat' apply And.intro) <;> first | (exact Weak.go (by (first | (simp [wkL]; done) | (simp [wkL]; omega))) (fun zi => by first | exact .inl rfl | exact .inr rfl | (simp only [upd]; repeat' split) <;> first | exact .inl rfl | (exfalso; omega) | exact .inr (hd _ (by omega)) | (left; subst_vars; rfl) | (left; simp; done) | (left; simp; omega)) (by omega)) | omega | rfl | assumption | (simp; done) | (simp; omega)))
      | skip
    · refine LoopB.auto (fun zs => (intOf (slotOf zs 6), strOf (nthA (cellsOf (blkOf zs (nx+1))) 2), intOf (nthA (cellsOf (blkOf zs (rid))) 1))) (fun zz => [(0, none), (0, none), (2, none), (0, none), (0, some (.int .i64 (zz.1 : Int)))]) (fun zz => upd (upd (upd H nx (.live 0 [.int .i64 0, .int .i64 0, .str ⟨#[]⟩])) (nx + 1) (.live 0 [.int .i64 2, .int .i64 0, .str zz.2.1])) rid (.live 0 [.sl bs.size false (bytesCells bs), .int .i64 (zz.2.2)])) (fun zz => nx + 2 + zz.2.1.size) (fun zz => zz.1.toNat) (fun zz => 0 ≤ zz.1 ∧ p + 2 ≤ zz.2.2 ∧ zz.2.2 + zz.1 ≤ p + 5 ∧ zz.2.1.size + zz.1 ≤ 3) (by simp (maxSteps := 4000000) (disch := omega) only [go_sem, w64, AndB_of, IfB_of, IfB_no, pickE_of, pickE_no, ite_of, ite_no, tdivE, tmodE, takeAll]; ((repeat' apply And.intro) <;> first | (exact Weak.go (by (first | (simp [wkL]; done) | (simp [wkL]; omega))) (fun zi => by first | exact .inl rfl | exact .inr rfl | (simp only [upd]; repeat' split) <;> first | exact .inl rfl | (exfalso; omega) | exact .inr (hd _ (by omega)) | (left; subst_vars; rfl) | (left; simp; done) | (left; simp; omega)) (by omega)) | omega | rfl | assumption | (simp; done) | (simp; omega))) ?_
      intro zz zh
      obtain ⟨j, s, q⟩ := zz
      dsimp only at zh
      obtain ⟨hj0, hq0, hq1, hs⟩ := zh
      simp (maxSteps := 4000000) (disch := omega) only [go_sem, w64, AndB_of, IfB_of, IfB_no, pickE_of, pickE_no, ite_of, ite_no, tdivE, tmodE, takeAll]
      refine IfB.dec (fun h => ?_) (fun h => ?_)
      · simp (maxSteps := 4000000) (disch := omega) only [go_sem, w64, AndB_of, IfB_of, IfB_no, pickE_of, pickE_no, ite_of, ite_no, tdivE, tmodE, takeAll]
        refine DrawB.intro [3, 10] [10] (inS (rid) (rid) (rid)) (by kernel_rfl) ?_
        simp (maxSteps := 4000000) (disch := omega) only [go_sem, w64, AndB_of, IfB_of, IfB_no, pickE_of, pickE_no, ite_of, ite_no, tdivE, tmodE, takeAll]
        apply CallB.law; (focus (apply d_pick; (repeat (first | exact hH | exact upd_same _ _ _ | rw [upd_ne _ _ (by omega)])); all_goals omega)); rintro _ _ _ ⟨x, hx0, hx1, rfl, rfl, rfl⟩
        simp (maxSteps := 4000000) (disch := omega) only [go_sem, w64, AndB_of, IfB_of, IfB_no, pickE_of, pickE_no, ite_of, ite_no, tdivE, tmodE, takeAll]
        ((repeat' apply And.intro) <;> first | (exact Weak.go (by (first | (simp [wkL]; done) | (simp [wkL]; omega))) (fun zi => by first | exact .inl rfl | exact .inr rfl | (simp only [upd]; repeat' split) <;> first | exact .inl rfl | (exfalso; omega) | exact .inr (hd _ (by omega)) | (left; subst_vars; rfl) | (left; simp; done) | (left; simp; omega)) (by omega)) | omega | rfl | assumption | (simp; done) | (simp; omega))
      · simp (maxSteps := 4000000) (disch := omega) only [go_sem, w64, AndB_of, IfB_of, IfB_no, pickE_of, pickE_no, ite_of, ite_no, tdivE, tmodE, takeAll]
        ((repeat' apply And.intro) <;> first | (exact Weak.go (by (first | (simp [wkL]; done) | (simp [wkL]; omega))) (fun zi => by first | exact .inl rfl | exact .inr rfl | (simp only [upd]; repeat' split) <;> first | exact .inl rfl | (exfalso; omega) | exact .inr (hd _ (by omega)) | (left; subst_vars; rfl) | (left; simp; done) | (left; simp; omega)) (by omega)) | omega | rfl | assumption | (simp; done) | (simp; omega))
    · refine LoopB.auto (fun zs => (intOf (slotOf zs 6), strOf (nthA (cellsOf (blkOf zs (nx+1))) 2), intOf (nthA (cellsOf (blkOf zs (rid))) 1))) (fun zz => [(0, none), (0, none), (2, none), (0, none), (0, some (.int .i64 (zz.1 : Int)))]) (fun zz => upd (upd (upd H nx (.live 0 [.int .i64 0, .int .i64 0, .str ⟨#[]⟩])) (nx + 1) (.live 0 [.int .i64 2, .int .i64 0, .str zz.2.1])) rid (.live 0 [.sl bs.size false (bytesCells bs), .int .i64 (zz.2.2)])) (fun zz => nx + 2 + zz.2.1.size) (fun zz => zz.1.toNat) (fun zz => 0 ≤ zz.1 ∧ p + 2 ≤ zz.2.2 ∧ zz.2.2 + zz.1 ≤ p + 5 ∧ zz.2.1.size + zz.1 ≤ 3) (by simp (maxSteps := 4000000) (disch := omega) only [go_sem, w64, AndB_of, IfB_of, IfB_no, pickE_of, pickE_no, ite_of, ite_no, tdivE, tmodE, takeAll]; ((repeat' apply And.intro) <;> first | (exact Weak.go (by (first | (simp [wkL]; done) | (simp [wkL]; omega))) (fun zi => by first | exact .inl rfl | exact .inr rfl | (simp only [upd]; repeat' split) <;> first | exact .inl rfl | (exfalso; omega) | exact .inr (hd _ (by omega)) | (left; subst_vars; rfl) | (left; simp; done) | (left; simp; omega)) (by omega)) | omega | rfl | assumption | (simp; done) | (simp; omega))) ?_
      intro zz zh
      obtain ⟨j, s, q⟩ := zz
      dsimp only at zh
      obtain ⟨hj0, hq0, hq1, hs⟩ := zh
      simp (maxSteps := 4000000) (disch := omega) only [go_sem, w64, AndB_of, IfB_of, IfB_no, pickE_of, pickE_no, ite_of, ite_no, tdivE, tmodE, takeAll]
      refine IfB.dec (fun h => ?_) (fun h => ?_)
      · simp (maxSteps := 4000000) (disch := omega) only [go_sem, w64, AndB_of, IfB_of, IfB_no, pickE_of, pickE_no, ite_of, ite_no, tdivE, tmodE, takeAll]
        refine DrawB.intro [3, 10] [10] (inS (rid) (rid) (rid)) (by kernel_rfl) ?_
        simp (maxSteps := 4000000) (disch := omega) only [go_sem, w64, AndB_of, IfB_of, IfB_no, pickE_of, pickE_no, ite_of, ite_no, tdivE, tmodE, takeAll]
        apply CallB.law; (focus (apply d_pick; (repeat (first | exact hH | exact upd_same _ _ _ | rw [upd_ne _ _ (by omega)])); all_goals omega)); rintro _ _ _ ⟨x, hx0, hx1, rfl, rfl, rfl⟩
        simp (maxSteps := 4000000) (disch := omega) only [go_sem, w64, AndB_of, IfB_of, IfB_no, pickE_of, pickE_no, ite_of, ite_no, tdivE, tmodE, takeAll]
        ((repeat' apply And.intro) <;> first | (exact Weak.go (by (first | (simp [wkL]; done) | (simp [wkL]; omega))) (fun zi => by first | exact .inl rfl | exact .inr rfl | (simp only [upd]; repeat' split) <;> first | exact .inl rfl | (exfalso; omega) | exact .inr (hd _ (by omega)) | (left; subst_vars; rfl) | (left; simp; done) | (left; simp; omega)) (by omega)) | omega | rfl | assumption | (simp; done) | (simp; omega))
      · simp (maxSteps := 4000000) (disch := omega) only [go_sem, w64, AndB_of, IfB_of, IfB_no, pickE_of, pickE_no, ite_of, ite_no, tdivE, tmodE, takeAll]
        ((repeat' apply And.intro) <;> first | (exact Weak.go (by (first | (simp [wkL]; done) | (simp [wkL]; omega))) (fun zi => by first | exact .inl rfl | exact .inr rfl | (simp only [upd]; repeat' split) <;> first | exact .inl rfl | (exfalso; omega) | exact .inr (hd _ (by omega)) | (left; subst_vars; rfl) | (left; simp; done) | (left; simp; omega)) (by omega)) | omega | rfl | assumption | (simp; done) | (simp; omega))
  intro zz zh
  obtain ⟨k, m, s, q⟩ := zz
  dsimp only at zh
  obtain ⟨hq0, hq1, hm0, hm1, hs⟩ := zh
  simp (maxSteps := 4000000) (disch := omega) only [go_sem, w64, AndB_of, IfB_of, IfB_no, pickE_of, pickE_no, ite_of, ite_no, tdivE, tmodE, takeAll]
  refine AW.step ?_
  simp (maxSteps := 4000000) (disch := omega) only [go_sem, w64, AndB_of, IfB_of, IfB_no, pickE_of, pickE_no, ite_of, ite_no, tdivE, tmodE, takeAll]
  repeat' (first | (refine IfB.dec (fun h => ?_) (fun h => ?_) <;> (try (have h2 := h; unfold inR at h2)) <;> simp (maxSteps := 4000000) (disch := omega) only [go_sem, w64, AndB_of, IfB_of, IfB_no, pickE_of, pickE_no, ite_of, ite_no, tdivE, tmodE, takeAll, h]) | (refine IfB.split (fun h => ?_) (fun h => ?_) <;> simp (maxSteps := 4000000) (disch := omega) only [go_sem, w64, AndB_of, IfB_of, IfB_no, pickE_of, pickE_no, ite_of, ite_no, tdivE, tmodE, takeAll, h]) | (apply CallB.law; (focus (apply d_pick; (repeat (first | exact hH | exact upd_same _ _ _ | rw [upd_ne _ _ (by omega)])); all_goals omega)); rintro _ _ _ ⟨x, hx0, hx1, rfl, rfl, rfl⟩; simp (maxSteps := 4000000) (disch := omega) only [go_sem, w64, AndB_of, IfB_of, IfB_no, pickE_of, pickE_no, ite_of, ite_no, tdivE, tmodE, takeAll]) | (apply CallB.law; (focus (apply d_odd; (repeat (first | exact hH | exact upd_same _ _ _ | rw [upd_ne _ _ (by omega)])); all_goals omega)); rintro _ _ _ ⟨x, q, hq0, hq1, rfl, rfl, rfl⟩; simp (maxSteps := 4000000) (disch := omega) only [go_sem, w64, AndB_of, IfB_of, IfB_no, pickE_of, pickE_no, ite_of, ite_no, tdivE, tmodE, takeAll]))
  all_goals (first | (refine AW.of ?_; simp (maxSteps := 4000000) (disch := omega) only [go_sem, w64, AndB_of, IfB_of, IfB_no, pickE_of, pickE_no, ite_of, ite_no, tdivE, tmodE, takeAll]) | skip)
  all_goals refine ⟨_, _, (by repeat (first | exact OldR.base hH | refine OldR.set ?_ | refine OldR.new (by omega) ?_ | exact OldW.refl | refine OldW.new (by omega) ?_ | refine OldW.rd ?_)), (by simp [pureL, pureA, bytesCells_pure]), ?_⟩
  all_goals exact ⟨⟨_, _, _⟩, _, by omega, by omega, by (first | omega | (simp; done) | (simp only [ByteArray.size_append, size_mk, List.size_toArray, List.length_cons, List.length_nil]; omega)), ⟨by (first | omega | (simp; done) | (simp only [ByteArray.size_append, size_mk, List.size_toArray, List.length_cons, List.length_nil]; omega)), by (first | omega | (simp; done) | (simp only [ByteArray.size_append, size_mk, List.size_toArray, List.length_cons, List.length_nil]; omega))⟩, rfl, rfl⟩
end Go.TH
