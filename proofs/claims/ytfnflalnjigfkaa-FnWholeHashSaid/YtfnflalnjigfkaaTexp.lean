/- TH: two lists of rows to be joined: the draw. Made by gen.py. -/
import Derived.Test.YtfnflalnjigfkaaTed3
import Derived.Test.YtfnflalnjigfkaaTen2
import Derived.Test.YtfnflalnjigfkaaTf3
import Derived.Test.YtfnflalnjigfkaaTf4
namespace Go.TH
open Go Go.Proofs
set_option linter.unusedSimpArgs false
set_option linter.unusedVariables false
set_option maxHeartbeats 20000000
set_option maxRecDepth 100000
theorem d_columnsO {H : AH} {nx rid : Nat} {bs : ByteArray} {p n : Int} (hr : rid < nx) (hH : H rid = .live 0 [.sl bs.size false (bytesCells bs), .int .i64 (p)]) (hd : ∀ i, nx ≤ i → H i = .dead) (hp0 : 0 ≤ p) (hp : p ≤ 900000000) (hb : bs.size ≤ 2000) (hn0 : -1000000000 ≤ n) (hn : n ≤ 1000000000) :
    ACallD Try.prog 86 [.ptr rid 0 0, .int .i64 n] H nx (fun r H' nx' => ∃ (l : List GCol) (q : Int), p ≤ q ∧ q ≤ p + 20 ∧ 1 ≤ l.length ∧ l.length ≤ 6 ∧ (∀ c ∈ l, PC c) ∧ r = .msl nx 0 2 0 l.length ∧ H' = upd (upd H rid (.live 0 [.sl bs.size false (bytesCells bs), .int .i64 (q)])) nx (.live 0 (flat GCol.c l)) ∧ nx' = nx + 1) := by
  refine ACallD.finR1 1 rid hr ?_
  refine wcall_body mixed Try.func86 _ (by unfold Try.f86; rfl) Try.ntmps86 Try.results86 (by decide) (by simp) ?_
  simp (maxSteps := 4000000) (disch := omega) only [go_sem, w64, AndB_of, IfB_of, IfB_no, pickE_of, pickE_no, ite_of, ite_no, tdivE, tmodE, takeAll]
  refine AW.step ?_
  simp (maxSteps := 4000000) (disch := omega) only [go_sem, w64, AndB_of, IfB_of, IfB_no, pickE_of, pickE_no, ite_of, ite_no, tdivE, tmodE, takeAll]
  refine AW.step ?_
  simp (maxSteps := 4000000) (disch := omega) only [go_sem, w64, AndB_of, IfB_of, IfB_no, pickE_of, pickE_no, ite_of, ite_no, tdivE, tmodE, takeAll]
  refine AW.cut (fun zs => (verOf (blkOf zs (nx)), cellsOf (blkOf zs (nx)), mlenOf (slotOf zs 5), intOf (nthA (cellsOf (blkOf zs (rid))) 1))) (fun zz => [(0, none), (0, none), (3, some (.msl nx zz.1 2 0 zz.2.2.1))]) (fun zz => upd (upd H nx (.live zz.1 zz.2.1)) rid (.live 0 [.sl bs.size false (bytesCells bs), .int .i64 (zz.2.2.2)])) (fun zz => nx + 1) (fun zz => Flat GCol.c PC zz.2.1 zz.2.2.1 ∧ 1 ≤ zz.2.2.1 ∧ zz.2.2.1 ≤ 3 ∧ p ≤ zz.2.2.2 ∧ zz.2.2.2 ≤ p + 10) ?zcut0 ?_
  case' zcut0 => simp (maxSteps := 4000000) (disch := omega) only [go_sem, w64, AndB_of, IfB_of, IfB_no, pickE_of, pickE_no, ite_of, ite_no, tdivE, tmodE, takeAll]
  · apply CallB.law; (focus (apply d_pick; (repeat (first | exact hH | exact upd_same _ _ _ | rw [upd_ne _ _ (by omega)])); all_goals omega)); rintro _ _ _ ⟨x, hx0, hx1, rfl, rfl, rfl⟩
    simp (maxSteps := 4000000) (disch := omega) only [go_sem, w64, AndB_of, IfB_of, IfB_no, pickE_of, pickE_no, ite_of, ite_no, tdivE, tmodE, takeAll]
    refine LoopB.auto (fun zs => (intOf (slotOf zs 6), verOf (blkOf zs (nx)), cellsOf (blkOf zs (nx)), mlenOf (slotOf zs 5), intOf (nthA (cellsOf (blkOf zs (rid))) 1))) (fun zz => [(0, none), (0, none), (3, some (.msl nx zz.2.1 2 0 zz.2.2.2.1)), (0, some (.int .i64 (zz.1 : Int)))]) (fun zz => upd (upd H nx (.live zz.2.1 zz.2.2.1)) rid (.live 0 [.sl bs.size false (bytesCells bs), .int .i64 (zz.2.2.2.2)])) (fun zz => nx + 1) (fun zz => zz.1.toNat) (fun zz => Flat GCol.c PC zz.2.2.1 zz.2.2.2.1 ∧ 0 ≤ zz.1 ∧ 1 ≤ zz.2.2.2.1 + zz.1 ∧ zz.2.2.2.1 + zz.1 ≤ 3 ∧ p ≤ zz.2.2.2.2 ∧ zz.2.2.2.2 + 2 * zz.1 ≤ p + 10) (by (first | simp (maxSteps := 4000000) (disch := omega) only [go_sem, w64, AndB_of, IfB_of, IfB_no, pickE_of, pickE_no, ite_of, ite_no, tdivE, tmodE, takeAll, hH] | simp (maxSteps := 4000000) (disch := omega) only [go_sem, w64, AndB_of, IfB_of, IfB_no, pickE_of, pickE_no, ite_of, ite_no, tdivE, tmodE, takeAll]); ((repeat' apply And.intro) <;> first | (exact Weak.go (by (first | (simp [wkL]; done) | (simp [wkL]; omega))) (fun zi => by first | exact .inl rfl | exact .inr rfl | (simp only [upd]; repeat' split) <;> first | exact .inl rfl | exact .inr rfl | (exfalso; omega) | exact .inr (hd _ (by omega)) | (left; subst_vars; exact hH.symm) | (left; subst_vars; rfl) | (left; simp; done) | (left; simp; omega)) (by omega)) | omega | rfl | assumption | exact Flat.nil | exact ⟨_, rfl, rfl, by assumption⟩ | (simp; done) | (simp; omega))) ?_
    intro zz zh
    obtain ⟨k, v, cells, m, q⟩ := zz
    dsimp only at zh
    obtain ⟨⟨cols, rfl, rfl, hP⟩, hk0, hm1, hm2, hq1, hq2⟩ := zh
    simp (maxSteps := 4000000) (disch := omega) only [go_sem, w64, AndB_of, IfB_of, IfB_no, pickE_of, pickE_no, ite_of, ite_no, tdivE, tmodE, takeAll]
    refine IfB.dec (fun h => ?_) (fun h => ?_)
    · simp (maxSteps := 4000000) (disch := omega) only [go_sem, w64, AndB_of, IfB_of, IfB_no, pickE_of, pickE_no, ite_of, ite_no, tdivE, tmodE, takeAll]
      refine DrawB.intro [3, 7, 11] [] (inS (rid) (nx) (nx)) (by kernel_rfl) ?_
      simp (maxSteps := 4000000) (disch := omega) only [go_sem, w64, AndB_of, IfB_of, IfB_no, pickE_of, pickE_no, ite_of, ite_no, tdivE, tmodE, takeAll]
      apply CallB.law; (focus (apply d_pick; (repeat (first | exact hH | exact upd_same _ _ _ | rw [upd_ne _ _ (by omega)])); all_goals omega)); rintro _ _ _ ⟨x, hx0, hx1, rfl, rfl, rfl⟩
      obtain ⟨m, hm, he⟩ := getD_ints [1, 1, 2, 3] x.toNat (by simp; omega)
      simp only [List.map_cons, List.map_nil] at he
      have hm2 : 1 ≤ m ∧ m ≤ 3 := by simp at hm; omega
      simp (maxSteps := 4000000) (disch := omega) only [go_sem, w64, AndB_of, IfB_of, IfB_no, pickE_of, pickE_no, ite_of, ite_no, tdivE, tmodE, takeAll, he]
      apply CallB.law; (focus (apply d_pick; (repeat (first | exact hH | exact upd_same _ _ _ | rw [upd_ne _ _ (by omega)])); all_goals omega)); rintro _ _ _ ⟨x, hx0, hx1, rfl, rfl, rfl⟩
      simp (maxSteps := 4000000) (disch := omega) only [go_sem, w64, AndB_of, IfB_of, IfB_no, pickE_of, pickE_no, ite_of, ite_no, tdivE, tmodE, takeAll, he]
      ((repeat' apply And.intro) <;> first | exact Flat.snocC ⟨cols, rfl, rfl, hP⟩ ⟨by dsimp only; omega, by dsimp only; omega⟩ | (exact Weak.go (by (first | (simp [wkL]; done) | (simp [wkL]; omega))) (fun zi => by first | exact .inl rfl | exact .inr rfl | (simp only [upd]; repeat' split) <;> first | exact Flat.snocC ⟨cols, rfl, rfl, hP⟩ ⟨by dsimp only; omega, by dsimp only; omega⟩ | exact .inl rfl | exact .inr rfl | (exfalso; omega) | exact .inr (hd _ (by omega)) | (left; subst_vars; exact hH.symm) | (left; subst_vars; rfl) | (left; simp; done) | (left; simp; omega)) (by omega)) | omega | rfl | assumption | exact Flat.nil | exact ⟨_, rfl, rfl, by assumption⟩ | (simp; done) | (simp; omega))
    · simp (maxSteps := 4000000) (disch := omega) only [go_sem, w64, AndB_of, IfB_of, IfB_no, pickE_of, pickE_no, ite_of, ite_no, tdivE, tmodE, takeAll]
      ((repeat' apply And.intro) <;> first | (exact Weak.go (by (first | (simp [wkL]; done) | (simp [wkL]; omega))) (fun zi => by first | exact .inl rfl | exact .inr rfl | (simp only [upd]; repeat' split) <;> first | exact .inl rfl | exact .inr rfl | (exfalso; omega) | exact .inr (hd _ (by omega)) | (left; subst_vars; exact hH.symm) | (left; subst_vars; rfl) | (left; simp; done) | (left; simp; omega)) (by omega)) | omega | rfl | assumption | exact Flat.nil | exact ⟨_, rfl, rfl, by assumption⟩ | (simp; done) | (simp; omega))
  intro zz zh
  obtain ⟨v, cells, m, q⟩ := zz
  dsimp only at zh
  obtain ⟨⟨cols, rfl, rfl, hP⟩, hm1, hm2, hq1, hq2⟩ := zh
  simp (maxSteps := 4000000) (disch := omega) only [go_sem, w64, AndB_of, IfB_of, IfB_no, pickE_of, pickE_no, ite_of, ite_no, tdivE, tmodE, takeAll]
  refine AW.cut (fun zs => (verOf (blkOf zs (nx)), cellsOf (blkOf zs (nx)), mlenOf (slotOf zs 5), intOf (nthA (cellsOf (blkOf zs (rid))) 1))) (fun zz => [(5, some (.msl nx zz.1 2 0 zz.2.2.1))]) (fun zz => upd (upd H nx (.live zz.1 zz.2.1)) rid (.live 0 [.sl bs.size false (bytesCells bs), .int .i64 (zz.2.2.2)])) (fun zz => nx + 2) (fun zz => Flat GCol.c PC zz.2.1 zz.2.2.1 ∧ 1 ≤ zz.2.2.1 ∧ zz.2.2.1 ≤ 6 ∧ p ≤ zz.2.2.2 ∧ zz.2.2.2 ≤ p + 12) ?zcut1 ?_
  case' zcut1 => simp (maxSteps := 4000000) (disch := omega) only [go_sem, w64, AndB_of, IfB_of, IfB_no, pickE_of, pickE_no, ite_of, ite_no, tdivE, tmodE, takeAll]
  · repeat' (first | (refine IfB.dec (fun h => ?_) (fun h => ?_) <;> (try (have h2 := h; unfold inR at h2)) <;> (try simp (maxSteps := 4000000) (disch := omega) only [go_sem, w64, AndB_of, IfB_of, IfB_no, pickE_of, pickE_no, ite_of, ite_no, tdivE, tmodE, takeAll, h])) | (refine IfB.split (fun h => ?_) (fun h => ?_) <;> (try simp (maxSteps := 4000000) (disch := omega) only [go_sem, w64, AndB_of, IfB_of, IfB_no, pickE_of, pickE_no, ite_of, ite_no, tdivE, tmodE, takeAll, h])) | (apply CallB.law; (focus (apply d_odd; (repeat (first | exact hH | exact upd_same _ _ _ | rw [upd_ne _ _ (by omega)])); all_goals omega)); rintro _ _ _ ⟨x, q, hq0, hq1, rfl, rfl, rfl⟩; simp (maxSteps := 4000000) (disch := omega) only [go_sem, w64, AndB_of, IfB_of, IfB_no, pickE_of, pickE_no, ite_of, ite_no, tdivE, tmodE, takeAll]) | (apply CallB.law; (focus (apply d_pick; (repeat (first | exact hH | exact upd_same _ _ _ | rw [upd_ne _ _ (by omega)])); all_goals omega)); rintro _ _ _ ⟨x, hx0, hx1, rfl, rfl, rfl⟩; simp (maxSteps := 4000000) (disch := omega) only [go_sem, w64, AndB_of, IfB_of, IfB_no, pickE_of, pickE_no, ite_of, ite_no, tdivE, tmodE, takeAll]))
    all_goals ((repeat' apply And.intro) <;> first | exact Flat.snoc3C ⟨cols, rfl, rfl, hP⟩ ⟨by dsimp only; omega, by dsimp only; omega⟩ ⟨by dsimp only; omega, by dsimp only; omega⟩ ⟨by dsimp only; omega, by dsimp only; omega⟩ | (exact Weak.go (by (first | (simp [wkL]; done) | (simp [wkL]; omega))) (fun zi => by first | exact .inl rfl | exact .inr rfl | (simp only [upd]; repeat' split) <;> first | exact Flat.snoc3C ⟨cols, rfl, rfl, hP⟩ ⟨by dsimp only; omega, by dsimp only; omega⟩ ⟨by dsimp only; omega, by dsimp only; omega⟩ ⟨by dsimp only; omega, by dsimp only; omega⟩ | exact .inl rfl | exact .inr rfl | (exfalso; omega) | exact .inr (hd _ (by omega)) | (left; subst_vars; exact hH.symm) | (left; subst_vars; rfl) | (left; simp; done) | (left; simp; omega)) (by omega)) | omega | rfl | assumption | exact Flat.nil | exact ⟨_, rfl, rfl, by assumption⟩ | (simp; done) | (simp; omega))
  intro zz zh
  obtain ⟨v, cells, m, q⟩ := zz
  dsimp only at zh
  obtain ⟨⟨cols, rfl, rfl, hP⟩, hm1, hm2, hq1, hq2⟩ := zh
  simp (maxSteps := 4000000) (disch := omega) only [go_sem, w64, AndB_of, IfB_of, IfB_no, pickE_of, pickE_no, ite_of, ite_no, tdivE, tmodE, takeAll]
  refine AW.of ?_
  simp (maxSteps := 4000000) (disch := omega) only [go_sem, w64, AndB_of, IfB_of, IfB_no, pickE_of, pickE_no, ite_of, ite_no, tdivE, tmodE, takeAll]
  refine ⟨_, _, nx, v, _, (by repeat (first | exact OldR.base hH | refine OldR.set ?_ | refine OldR.new (by omega) ?_ | exact OldW.refl | refine OldW.new (by omega) ?_ | refine OldW.rd ?_)), (by simp [pureL, pureA, bytesCells_pure]), Nat.le_refl _, (by rw [if_neg (by omega), if_pos rfl]), ?_⟩
  simp (maxSteps := 4000000) (disch := omega) only [go_sem, w64, AndB_of, IfB_of, IfB_no, pickE_of, pickE_no, ite_of, ite_no, tdivE, tmodE, takeAll]
  exact ⟨cols, q, by omega, by omega, by omega, by omega, hP, rfl, rfl⟩
theorem d_bagO {H : AH} {nx rid : Nat} {bs : ByteArray} {p n : Int} (cols : List GCol) (hr : rid < nx) (hH : H rid = .live 0 [.sl bs.size false (bytesCells bs), .int .i64 (p)]) (hd : ∀ i, nx ≤ i → H i = .dead) (hp0 : 0 ≤ p) (hp : p ≤ 700000000) (hb : bs.size ≤ 2000) (hn0 : -1000000000 ≤ n) (hn : n ≤ 1000000000) (hc : cols.length ≤ 10) :
    ACallD Try.prog 158 [.ptr rid 0 0, colsA cols, .int .i64 n] H nx (fun r H' nx' => ∃ (l : List GRow) (q : Int), p ≤ q ∧ q ≤ p + 2000 ∧ l.length ≤ 6 ∧ (∀ r ∈ l, PR (cols.length + 3) r) ∧ r = .msl nx 0 1 0 l.length ∧ H' = upd (upd H rid (.live 0 [.sl bs.size false (bytesCells bs), .int .i64 (q)])) nx (.live 0 (flat cR l)) ∧ nx' = nx + 1) := by
  refine ACallD.finR1 1 rid hr ?_
  refine wcall_body mixed Try.func158 _ (by unfold Try.f158; rfl) Try.ntmps158 Try.results158 (by decide) (by simp) ?_
  simp (maxSteps := 4000000) (disch := omega) only [go_sem, w64, AndB_of, IfB_of, IfB_no, pickE_of, pickE_no, ite_of, ite_no, tdivE, tmodE, takeAll]
  refine AW.step ?_
  simp (maxSteps := 4000000) (disch := omega) only [go_sem, w64, AndB_of, IfB_of, IfB_no, pickE_of, pickE_no, ite_of, ite_no, tdivE, tmodE, takeAll]
  refine AW.step ?_
  simp (maxSteps := 4000000) (disch := omega) only [go_sem, w64, AndB_of, IfB_of, IfB_no, pickE_of, pickE_no, ite_of, ite_no, tdivE, tmodE, takeAll]
  refine AW.cut (fun zs => (verOf (blkOf zs (nx)), cellsOf (blkOf zs (nx)), mlenOf (slotOf zs 7), intOf (nthA (cellsOf (blkOf zs (rid))) 1))) (fun zz => [(7, some (.msl nx zz.1 1 0 zz.2.2.1))]) (fun zz => upd (upd H nx (.live zz.1 zz.2.1)) rid (.live 0 [.sl bs.size false (bytesCells bs), .int .i64 (zz.2.2.2)])) (fun zz => nx + 20) (fun zz => Flat cR (PR (cols.length + 3)) zz.2.1 zz.2.2.1 ∧ zz.2.2.1 ≤ 6 ∧ p ≤ zz.2.2.2 ∧ zz.2.2.2 ≤ p + 2000) ?zcut2 ?_
  case' zcut2 => simp (maxSteps := 4000000) (disch := omega) only [go_sem, w64, AndB_of, IfB_of, IfB_no, pickE_of, pickE_no, ite_of, ite_no, tdivE, tmodE, takeAll]
  · apply CallB.law; (focus (apply d_pick; (repeat (first | exact hH | exact upd_same _ _ _ | rw [upd_ne _ _ (by omega)])); all_goals omega)); rintro _ _ _ ⟨x, hx0, hx1, rfl, rfl, rfl⟩
    simp (maxSteps := 4000000) (disch := omega) only [go_sem, w64, AndB_of, IfB_of, IfB_no, pickE_of, pickE_no, ite_of, ite_no, tdivE, tmodE, takeAll]
    refine LoopB.auto (fun zs => (intOf (slotOf zs 8), verOf (blkOf zs (nx)), cellsOf (blkOf zs (nx)), mlenOf (slotOf zs 7), intOf (nthA (cellsOf (blkOf zs (rid))) 1))) (fun zz => [(0, none), (0, none), (0, none), (4, some (.msl nx zz.2.1 1 0 zz.2.2.2.1)), (0, some (.int .i64 (zz.1 : Int)))]) (fun zz => upd (upd H nx (.live zz.2.1 zz.2.2.1)) rid (.live 0 [.sl bs.size false (bytesCells bs), .int .i64 (zz.2.2.2.2)])) (fun zz => nx + 1 + zz.2.2.2.1) (fun zz => zz.1.toNat) (fun zz => Flat cR (PR (cols.length + 3)) zz.2.2.1 zz.2.2.2.1 ∧ 0 ≤ zz.1 ∧ zz.2.2.2.1 + zz.1 ≤ 6 ∧ p ≤ zz.2.2.2.2 ∧ zz.2.2.2.2 ≤ p + 1 + 200 * zz.2.2.2.1) (by (first | simp (maxSteps := 4000000) (disch := omega) only [go_sem, w64, AndB_of, IfB_of, IfB_no, pickE_of, pickE_no, ite_of, ite_no, tdivE, tmodE, takeAll, hH] | simp (maxSteps := 4000000) (disch := omega) only [go_sem, w64, AndB_of, IfB_of, IfB_no, pickE_of, pickE_no, ite_of, ite_no, tdivE, tmodE, takeAll]); ((repeat' apply And.intro) <;> first | (exact Weak.go (by (first | (simp [wkL]; done) | (simp [wkL]; omega))) (fun zi => by first | exact .inl rfl | exact .inr rfl | (simp only [upd]; repeat' split) <;> first | exact .inl rfl | exact .inr rfl | (exfalso; omega) | exact .inr (hd _ (by omega)) | (left; subst_vars; exact hH.symm) | (left; subst_vars; rfl) | (left; simp; done) | (left; simp; omega)) (by omega)) | omega | rfl | assumption | exact Flat.nil | exact ⟨_, rfl, rfl, by assumption⟩ | (simp; done) | (simp; omega))) ?_
    intro zz zh
    obtain ⟨k, v, cells, m, q⟩ := zz
    dsimp only at zh
    obtain ⟨⟨rows, rfl, rfl, hP⟩, hk, hm, hq1, hq2⟩ := zh
    simp (maxSteps := 4000000) (disch := omega) only [go_sem, w64, AndB_of, IfB_of, IfB_no, pickE_of, pickE_no, ite_of, ite_no, tdivE, tmodE, takeAll]
    refine IfB.dec (fun h => ?_) (fun h => ?_)
    · simp (maxSteps := 4000000) (disch := omega) only [go_sem, w64, AndB_of, IfB_of, IfB_no, pickE_of, pickE_no, ite_of, ite_no, tdivE, tmodE, takeAll]
      repeat' (first | (refine IfB.dec (fun h => ?_) (fun h => ?_) <;> (try (have h2 := h; unfold inR at h2)) <;> (try simp (maxSteps := 4000000) (disch := omega) only [go_sem, w64, AndB_of, IfB_of, IfB_no, pickE_of, pickE_no, ite_of, ite_no, tdivE, tmodE, takeAll, h])) | (refine IfB.split (fun h => ?_) (fun h => ?_) <;> (try simp (maxSteps := 4000000) (disch := omega) only [go_sem, w64, AndB_of, IfB_of, IfB_no, pickE_of, pickE_no, ite_of, ite_no, tdivE, tmodE, takeAll, h])) | (apply CallB.law; (focus (apply d_pick; (repeat (first | exact hH | exact upd_same _ _ _ | rw [upd_ne _ _ (by omega)])); all_goals omega)); rintro _ _ _ ⟨x, hx0, hx1, rfl, rfl, rfl⟩; simp (maxSteps := 4000000) (disch := omega) only [go_sem, w64, AndB_of, IfB_of, IfB_no, pickE_of, pickE_no, ite_of, ite_no, tdivE, tmodE, takeAll]) | (apply CallB.law; (focus (apply d_fit _; omega; (repeat (first | exact hH | exact upd_same _ _ _ | rw [upd_ne _ _ (by omega)])); (first | exact fun i hi => hd i (by omega) | (intro i hi; repeat (first | exact hd i (by omega) | exact rfl | rw [upd_ne _ _ (by omega)]))); all_goals omega)); rintro _ _ _ ⟨row, q, hq0, hq1, hr1, hr2, rfl, rfl, rfl⟩; simp (maxSteps := 4000000) (disch := omega) only [go_sem, w64, AndB_of, IfB_of, IfB_no, pickE_of, pickE_no, ite_of, ite_no, tdivE, tmodE, takeAll]))
      all_goals (try (have hx : x.toNat < rows.length := by omega))
      all_goals (try (have hp1 := hP _ (List.getElem_mem hx)))
      all_goals first
        | (apply CallB.q (q_l3Own rows[x.toNat] (by have := hp1.1; omega))
           simp (maxSteps := 4000000) (disch := omega) only [go_sem, w64, AndB_of, IfB_of, IfB_no, pickE_of, pickE_no, ite_of, ite_no, tdivE, tmodE, takeAll]
           ((repeat' apply And.intro) <;> first | exact Flat.snocR ⟨rows, rfl, rfl, hP⟩ hp1 | (exact Weak.go (by (first | (simp [wkL]; done) | (simp [wkL]; omega))) (fun zi => by first | exact .inl rfl | exact .inr rfl | (simp only [upd]; repeat' split) <;> first | exact Flat.snocR ⟨rows, rfl, rfl, hP⟩ hp1 | exact .inl rfl | exact .inr rfl | (exfalso; omega) | exact .inr (hd _ (by omega)) | (left; subst_vars; exact hH.symm) | (left; subst_vars; rfl) | (left; simp; done) | (left; simp; omega)) (by omega)) | omega | rfl | assumption | exact Flat.nil | exact ⟨_, rfl, rfl, by assumption⟩ | (simp; done) | (simp; omega)))
        | ((repeat' apply And.intro) <;> first | exact Flat.snocR ⟨rows, rfl, rfl, hP⟩ ⟨by assumption, by assumption⟩ | (exact Weak.go (by (first | (simp [wkL]; done) | (simp [wkL]; omega))) (fun zi => by first | exact .inl rfl | exact .inr rfl | (simp only [upd]; repeat' split) <;> first | exact Flat.snocR ⟨rows, rfl, rfl, hP⟩ ⟨by assumption, by assumption⟩ | exact .inl rfl | exact .inr rfl | (exfalso; omega) | exact .inr (hd _ (by omega)) | (left; subst_vars; exact hH.symm) | (left; subst_vars; rfl) | (left; simp; done) | (left; simp; omega)) (by omega)) | omega | rfl | assumption | exact Flat.nil | exact ⟨_, rfl, rfl, by assumption⟩ | (simp; done) | (simp; omega))
    · simp (maxSteps := 4000000) (disch := omega) only [go_sem, w64, AndB_of, IfB_of, IfB_no, pickE_of, pickE_no, ite_of, ite_no, tdivE, tmodE, takeAll]
      ((repeat' apply And.intro) <;> first | (exact Weak.go (by (first | (simp [wkL]; done) | (simp [wkL]; omega))) (fun zi => by first | exact .inl rfl | exact .inr rfl | (simp only [upd]; repeat' split) <;> first | exact .inl rfl | exact .inr rfl | (exfalso; omega) | exact .inr (hd _ (by omega)) | (left; subst_vars; exact hH.symm) | (left; subst_vars; rfl) | (left; simp; done) | (left; simp; omega)) (by omega)) | omega | rfl | assumption | exact Flat.nil | exact ⟨_, rfl, rfl, by assumption⟩ | (simp; done) | (simp; omega))
  intro zz zh
  obtain ⟨v, cells, m, q⟩ := zz
  dsimp only at zh
  obtain ⟨⟨rows, rfl, rfl, hP⟩, hm, hq1, hq2⟩ := zh
  simp (maxSteps := 4000000) (disch := omega) only [go_sem, w64, AndB_of, IfB_of, IfB_no, pickE_of, pickE_no, ite_of, ite_no, tdivE, tmodE, takeAll]
  refine AW.of ?_
  simp (maxSteps := 4000000) (disch := omega) only [go_sem, w64, AndB_of, IfB_of, IfB_no, pickE_of, pickE_no, ite_of, ite_no, tdivE, tmodE, takeAll]
  refine ⟨_, _, nx, v, _, (by repeat (first | exact OldR.base hH | refine OldR.set ?_ | refine OldR.new (by omega) ?_ | exact OldW.refl | refine OldW.new (by omega) ?_ | refine OldW.rd ?_)), (by simp [pureL, pureA, bytesCells_pure]), Nat.le_refl _, (by rw [if_neg (by omega), if_pos rfl]), ?_⟩
  simp (maxSteps := 4000000) (disch := omega) only [go_sem, w64, AndB_of, IfB_of, IfB_no, pickE_of, pickE_no, ite_of, ite_no, tdivE, tmodE, takeAll]
  exact ⟨rows, q, by omega, by omega, by omega, hP, rfl, rfl⟩
theorem d_odd0 {H : AH} {nx rid : Nat} {bs : ByteArray} {p : Int} (hH : H rid = .live 0 [.sl bs.size false (bytesCells bs), .int .i64 (p)]) :
    ACallD Try.prog 140 [.ptr rid 0 0, .int .i64 0] H nx (fun r H' nx' => r = .bool false ∧ H' = H ∧ nx' = nx) := by
  refine dcall_body mixed Try.func140 _ (by unfold Try.f140; rfl) Try.ntmps140 Try.results140 (by decide) (by simp) ?_
  simp (maxSteps := 4000000) (disch := omega) only [go_sem, w64, AndB_of, IfB_of, IfB_no, pickE_of, pickE_no, ite_of, ite_no, tdivE, tmodE, takeAll, hH]
theorem some_of (y : Int) (n : Nat) (hy0 : 0 ≤ y) (hy1 : y < 2) (hn : 1 ≤ n) : ∃ k : Nat, 1 + y % n = (k : Int) ∧ 1 ≤ k ∧ k ≤ n := by
  have hy : y = 0 ∨ y = 1 := by omega
  rcases hy with rfl | rfl
  · exact ⟨1, by simp, by omega, hn⟩
  · by_cases h : n = 1
    · subst h; exact ⟨1, by simp, by omega, by omega⟩
    · exact ⟨2, by rw [Int.emod_eq_of_lt (by omega) (by omega)]; rfl, by omega, by omega⟩
theorem set_kind {l : List GCol} {j : Nat} (h : j < l.length) (k : Int) : List.take (j * 2) (flat GCol.c l) ++ [AV.int .i64 k] ++ List.drop (j * 2 + 1) (flat GCol.c l) = flat GCol.c (l.set j ⟨k, l[j].e⟩) := by
  have e1 : List.drop (j * 2 + 1) (flat GCol.c l) = .bool l[j].e :: flat GCol.c (l.drop (j + 1)) := by
    rw [← List.drop_drop, GCol.fat h]; rfl
  rw [e1, flat_take GCol.len, List.set_eq_take_append_cons_drop, if_pos h, flat_append, flat_cons]
  simp [GCol.c]
theorem d_pair {H : AH} {nx rid : Nat} {bs : ByteArray} {p : Int} (hr : rid < nx) (hH : H rid = .live 0 [.sl bs.size false (bytesCells bs), .int .i64 (p)]) (hd : ∀ i, nx ≤ i → H i = .dead) (hp0 : 0 ≤ p) (hp : p ≤ 500000000) (hb : bs.size ≤ 2000) :
    ACallD Try.prog 116 [.ptr rid 0 0, .int .i64 0] H nx (fun r H' nx' => ∃ (ca cb : List GCol) (a b : List GRow) (i j q : Int), p ≤ q ∧ q ≤ p + 10000 ∧ ca.length ≤ 10 ∧ cb.length ≤ 10 ∧ a.length ≤ 12 ∧ b.length ≤ 6 ∧ (∀ r ∈ a, PR 20 r) ∧ (∀ r ∈ b, PR 20 r) ∧ r = .tup [colsA ca, colsA cb, rowsA a, rowsA b, .int .i64 i, .int .i64 j] ∧ H' = upd H rid (.live 0 [.sl bs.size false (bytesCells bs), .int .i64 (q)]) ∧ nx' = nx) := by
  refine ACallD.finR 1 rid hr ?_
  refine wcall_body mixed Try.func116 _ (by unfold Try.f116; rfl) Try.ntmps116 Try.results116 (by decide) (by simp) ?_
  simp (maxSteps := 4000000) (disch := omega) only [go_sem, w64, AndB_of, IfB_of, IfB_no, pickE_of, pickE_no, ite_of, ite_no, tdivE, tmodE, takeAll]
  refine AW.step ?_
  simp (maxSteps := 4000000) (disch := omega) only [go_sem, w64, AndB_of, IfB_of, IfB_no, pickE_of, pickE_no, ite_of, ite_no, tdivE, tmodE, takeAll]
  refine AW.step ?_
  simp (maxSteps := 4000000) (disch := omega) only [go_sem, w64, AndB_of, IfB_of, IfB_no, pickE_of, pickE_no, ite_of, ite_no, tdivE, tmodE, takeAll]
  refine CallB.law (d_columns (p := p) (n := 0) hr hH hd (by omega) (by omega) hb (by omega) (by omega)) ?_
  rintro _ _ nx ⟨c1, q1, a1, a2, l1, l2, P1, rfl, rfl, rfl⟩
  simp (maxSteps := 4000000) (disch := omega) only [go_sem, w64, AndB_of, IfB_of, IfB_no, pickE_of, pickE_no, ite_of, ite_no, tdivE, tmodE, takeAll]
  refine AW.step ?_
  simp (maxSteps := 4000000) (disch := omega) only [go_sem, w64, AndB_of, IfB_of, IfB_no, pickE_of, pickE_no, ite_of, ite_no, tdivE, tmodE, takeAll]
  refine CallB.law (d_pick (p := q1) (by repeat (first | exact upd_same _ _ _ | rw [upd_ne _ _ (by omega)])) (by omega) (by omega) hb (by omega) (by omega)) ?_
  rintro _ _ nx ⟨y1, y10, y11, rfl, rfl, rfl⟩
  obtain ⟨k1, e1, k11, k12⟩ := some_of y1 c1.length y10 (by omega) (by omega)
  unfold colsA
  obtain ⟨cA, hcA⟩ : ∃ cA, cA = c1.take k1 := ⟨_, rfl⟩
  have lA : cA.length = k1 := by rw [hcA, List.length_take]; omega
  have PA : ∀ c ∈ cA, PC c := fun c hc => P1 c (by rw [hcA] at hc; exact List.mem_of_mem_take hc)
  have f1 : List.take (k1 * 2) (flat GCol.c c1) = flat GCol.c cA := by rw [flat_take GCol.len, hcA]
  simp (maxSteps := 4000000) (disch := omega) only [go_sem, w64, AndB_of, IfB_of, IfB_no, pickE_of, pickE_no, ite_of, ite_no, tdivE, tmodE, takeAll, e1, f1]
  rw [← lA]
  rw [← lA] at k11 k12
  clear f1 e1 hcA lA
  refine AW.step ?_
  simp (maxSteps := 4000000) (disch := omega) only [go_sem, w64, AndB_of, IfB_of, IfB_no, pickE_of, pickE_no, ite_of, ite_no, tdivE, tmodE, takeAll]
  refine CallB.law (d_columnsO (p := q1 + 1) (n := 0) hr (by repeat (first | exact upd_same _ _ _ | rw [upd_ne _ _ (by omega)])) (fun i hi => by repeat (first | exact hd i (by omega) | rw [upd_ne _ _ (by omega)])) (by omega) (by omega) hb (by omega) (by omega)) ?_
  rintro _ _ _ ⟨c2, q2, a3, a4, l3, l4, P2, rfl, rfl, rfl⟩
  simp (maxSteps := 4000000) (disch := omega) only [go_sem, w64, AndB_of, IfB_of, IfB_no, pickE_of, pickE_no, ite_of, ite_no, tdivE, tmodE, takeAll]
  refine AW.step ?_
  simp (maxSteps := 4000000) (disch := omega) only [go_sem, w64, AndB_of, IfB_of, IfB_no, pickE_of, pickE_no, ite_of, ite_no, tdivE, tmodE, takeAll]
  refine CallB.law (d_pick (p := q2) (by repeat (first | exact upd_same _ _ _ | rw [upd_ne _ _ (by omega)])) (by omega) (by omega) hb (by omega) (by omega)) ?_
  rintro _ _ _ ⟨y2, y20, y21, rfl, rfl, rfl⟩
  obtain ⟨k2, e2, k21, k22⟩ := some_of y2 c2.length y20 (by omega) (by omega)
  simp (maxSteps := 4000000) (disch := omega) only [go_sem, w64, AndB_of, IfB_of, IfB_no, pickE_of, pickE_no, ite_of, ite_no, tdivE, tmodE, takeAll, e2]
  refine AW.step ?_
  simp (maxSteps := 4000000) (disch := omega) only [go_sem, w64, AndB_of, IfB_of, IfB_no, pickE_of, pickE_no, ite_of, ite_no, tdivE, tmodE, takeAll]
  refine CallB.law (d_pick (p := q2 + 1) (by repeat (first | exact upd_same _ _ _ | rw [upd_ne _ _ (by omega)])) (by omega) (by omega) hb (by omega) (by omega)) ?_
  rintro _ _ _ ⟨i, i0, i1, rfl, rfl, rfl⟩
  simp (maxSteps := 4000000) (disch := omega) only [go_sem, w64, AndB_of, IfB_of, IfB_no, pickE_of, pickE_no, ite_of, ite_no, tdivE, tmodE, takeAll]
  refine AW.step ?_
  simp (maxSteps := 4000000) (disch := omega) only [go_sem, w64, AndB_of, IfB_of, IfB_no, pickE_of, pickE_no, ite_of, ite_no, tdivE, tmodE, takeAll]
  refine CallB.law (d_pick (p := q2 + 1 + 1) (by repeat (first | exact upd_same _ _ _ | rw [upd_ne _ _ (by omega)])) (by omega) (by omega) hb (by omega) (by omega)) ?_
  rintro _ _ _ ⟨j, j0, j1, rfl, rfl, rfl⟩
  simp (maxSteps := 4000000) (disch := omega) only [go_sem, w64, AndB_of, IfB_of, IfB_no, pickE_of, pickE_no, ite_of, ite_no, tdivE, tmodE, takeAll]
  have hi : i.toNat < cA.length := by omega
  have hj : j.toNat < c2.length := by omega
  have hsk := set_kind hj cA[i.toNat].k
  refine AW.step ?_
  simp (maxSteps := 4000000) (disch := omega) only [go_sem, w64, AndB_of, IfB_of, IfB_no, pickE_of, pickE_no, ite_of, ite_no, tdivE, tmodE, takeAll]
  simp (maxSteps := 4000000) (disch := omega) only [go_sem, w64, AndB_of, IfB_of, IfB_no, pickE_of, pickE_no, ite_of, ite_no, tdivE, tmodE, takeAll, hsk]
  obtain ⟨cB, hcB⟩ : ∃ cB, cB = c2.set j.toNat ⟨cA[i.toNat].k, c2[j.toNat].e⟩ := ⟨_, rfl⟩
  have lB : cB.length = c2.length := by rw [hcB, List.length_set]
  rw [← hcB]
  refine AW.step ?_
  simp (maxSteps := 4000000) (disch := omega) only [go_sem, w64, AndB_of, IfB_of, IfB_no, pickE_of, pickE_no, ite_of, ite_no, tdivE, tmodE, takeAll]
  refine CallB.law (d_bagO (p := q2 + 1 + 1 + 1) (n := 0) cA (by omega) (by repeat (first | exact upd_same _ _ _ | rw [upd_ne _ _ (by omega)])) (fun i hi => by repeat (first | exact hd i (by omega) | rw [upd_ne _ _ (by omega)])) (by omega) (by omega) hb (by omega) (by omega) (by omega)) ?_
  rintro _ _ _ ⟨ra, q3, a5, a6, l5, P5, rfl, rfl, rfl⟩
  simp (maxSteps := 4000000) (disch := omega) only [go_sem, w64, AndB_of, IfB_of, IfB_no, pickE_of, pickE_no, ite_of, ite_no, tdivE, tmodE, takeAll]
  refine CallB.law (d_bagO (p := q3) (n := 0) cA (by omega) (by repeat (first | exact upd_same _ _ _ | rw [upd_ne _ _ (by omega)])) (fun i hi => by repeat (first | exact hd i (by omega) | rw [upd_ne _ _ (by omega)])) (by omega) (by omega) hb (by omega) (by omega) (by omega)) ?_
  rintro _ _ _ ⟨rb, q4, a7, a8, l6, P6, rfl, rfl, rfl⟩
  simp (maxSteps := 4000000) (disch := omega) only [go_sem, w64, AndB_of, IfB_of, IfB_no, pickE_of, pickE_no, ite_of, ite_no, tdivE, tmodE, takeAll, cR_flen]
  obtain ⟨cC, hcC⟩ : ∃ cC, cC = cB.take k2 := ⟨_, rfl⟩
  have lC : cC.length = k2 := by rw [hcC, List.length_take]; omega
  have fC : List.take (k2 * 2) (List.drop 0 (flat GCol.c cB)) = flat GCol.c cC := by rw [List.drop_zero, flat_take GCol.len, hcC]
  refine AW.weak (Weak.freeze 11 nx 0 2 0 k2 (flat GCol.c cB) rfl (by repeat (first | exact upd_same _ _ _ | rw [upd_ne _ _ (by omega)]))) ?_
  rw [fC]
  simp only [List.set_cons_succ, List.set_cons_zero]
  rw [← lC]
  refine AW.step ?_
  simp (maxSteps := 4000000) (disch := omega) only [go_sem, w64, AndB_of, IfB_of, IfB_no, pickE_of, pickE_no, ite_of, ite_no, tdivE, tmodE, takeAll]
  refine CallB.law (d_bag (p := q4) (n := 0) cC (by omega) (by repeat (first | exact upd_same _ _ _ | rw [upd_ne _ _ (by omega)])) (fun i hi => by repeat (first | exact hd i (by omega) | exact rfl | rw [upd_ne _ _ (by omega)])) (by omega) (by omega) hb (by omega) (by omega) (by omega)) ?_
  rintro _ _ _ ⟨rc, q5, a9, a10, l7, P7, rfl, rfl, rfl⟩
  simp (maxSteps := 4000000) (disch := omega) only [go_sem, w64, AndB_of, IfB_of, IfB_no, pickE_of, pickE_no, ite_of, ite_no, tdivE, tmodE, takeAll]
  refine AW.step ?_
  simp (maxSteps := 4000000) (disch := omega) only [go_sem, w64, AndB_of, IfB_of, IfB_no, pickE_of, pickE_no, ite_of, ite_no, tdivE, tmodE, takeAll]
  refine CallB.law (d_odd0 (p := q5) (by repeat (first | exact upd_same _ _ _ | rw [upd_ne _ _ (by omega)]))) ?_
  rintro _ _ _ ⟨rfl, rfl, rfl⟩
  simp (maxSteps := 4000000) (disch := omega) only [go_sem, w64, AndB_of, IfB_of, IfB_no, pickE_of, pickE_no, ite_of, ite_no, tdivE, tmodE, takeAll]
  refine AW.of ?_
  simp (maxSteps := 4000000) (disch := omega) only [go_sem, w64, AndB_of, IfB_of, IfB_no, pickE_of, pickE_no, ite_of, ite_no, tdivE, tmodE, takeAll]
  refine ⟨_, _, (by repeat (first | exact OldR.base hH | refine OldR.set ?_ | refine OldR.new (by omega) ?_ | exact OldW.refl | refine OldW.new (by omega) ?_ | refine OldW.rd ?_)), (by simp [pureL, pureA, bytesCells_pure]), ?_⟩
  have fAB : List.take (ra.length + rb.length) (flat cR ra ++ flat cR rb) = flat cR (ra ++ rb) := by
    rw [← flat_append]
    exact List.take_of_length_le (by rw [cR_flen, List.length_append]; exact Nat.le_refl _)
  rw [fAB, map_keep (flat_pure cR_pure _)]
  have PRm : ∀ k (r : GRow), k ≤ 20 → PR k r → PR 20 r := fun k r hk h => ⟨Nat.le_trans h.1 hk, h.2⟩
  refine ⟨cA, cC, ra ++ rb, rc, i, j, q5, by omega, by omega, by omega, by omega, by rw [List.length_append]; omega, by omega, fun r hr => ?_, fun r hr => PRm _ r (by omega) (P7 r hr), by unfold rowsA; rw [List.length_append], rfl⟩
  rcases List.mem_append.1 hr with h | h
  · exact PRm _ r (by omega) (P5 r h)
  · exact PRm _ r (by omega) (P6 r h)
theorem onceL_len : ∀ (l out : List GRow), (onceL out l).length ≤ out.length + l.length
  | [], out => Nat.le_refl _
  | r :: l, out => by
    unfold onceL
    split
    · have := onceL_len l (out ++ [r])
      simp only [List.length_append, List.length_cons, List.length_nil] at this ⊢
      omega
    · have := onceL_len l out
      simp only [List.length_cons]
      omega
theorem onceL_all {P : GRow → Prop} : ∀ (l out : List GRow), (∀ x ∈ out, P x) → (∀ x ∈ l, P x) → ∀ x ∈ onceL out l, P x
  | [], out, h1, _ => h1
  | r :: l, out, h1, h2 => by
    unfold onceL
    split
    · refine onceL_all l (out ++ [r]) (fun x hx => ?_) (fun x hx => h2 x (by simp [hx]))
      rcases List.mem_append.1 hx with h | h
      · exact h1 x h
      · simp at h; subst h; exact h2 x (by simp)
    · exact onceL_all l out h1 (fun x hx => h2 x (by simp [hx]))
theorem x_DrawTwoLists (s : ByteArray) : ∃ R, (∃ (ca cb : List GCol) (a b : List GRow) (i j : Int), ca.length ≤ 10 ∧ cb.length ≤ 10 ∧ a.length ≤ 12 ∧ b.length ≤ 6 ∧ (∀ r ∈ a, smallR r) ∧ (∀ r ∈ b, smallR r) ∧ R = .tup [colsA ca, colsA cb, rowsA a, rowsA b, .int .i64 i, .int .i64 j]) ∧ QCall Try.prog 51 [.sl s.size false (bytesCells s)] R := by
  refine qex_of (by simp [pureL, pureA, bytesCells_pure]) 2 ?_
  refine dcall_body mixed Try.func51 _ (by unfold Try.f51; rfl) Try.ntmps51 Try.results51 (by decide) (by simp) ?_
  simp (maxSteps := 4000000) (disch := omega) only [go_sem, w64, AndB_of, IfB_of, IfB_no, pickE_of, pickE_no, ite_of, ite_no, tdivE, tmodE, takeAll]
  apply CallB.law; (focus (apply d_open; (repeat (first | exact hH | exact upd_same _ _ _ | rw [upd_ne _ _ (by omega)])); all_goals omega)); rintro _ _ _ ⟨bs, hbs, rfl, rfl, rfl⟩
  simp (maxSteps := 4000000) (disch := omega) only [go_sem, w64, AndB_of, IfB_of, IfB_no, pickE_of, pickE_no, ite_of, ite_no, tdivE, tmodE, takeAll]
  refine CallB.law (d_pair (by omega) (upd_same ..) (fun i hi => by rw [upd_ne _ _ (by omega)]; rfl) (by omega) (by omega) (by omega)) ?_
  rintro _ _ _ ⟨ca, cb, a, b, i, j, q, q1, q2, c1, c2, l1, l2, P1, P2, rfl, rfl, rfl⟩
  have sm : ∀ r : GRow, PR 20 r → smallR r := fun r h => ⟨by have := h.1; omega, fun v hv => by have := (h.2 v hv).1; omega⟩
  simp (maxSteps := 4000000) (disch := omega) only [go_sem, w64, AndB_of, IfB_of, IfB_no, pickE_of, pickE_no, ite_of, ite_no, tdivE, tmodE, takeAll]
  apply CallB.q (q_RowsOnceS a (by omega) (fun r hr => sm r (P1 r hr)))
  simp (maxSteps := 4000000) (disch := omega) only [go_sem, w64, AndB_of, IfB_of, IfB_no, pickE_of, pickE_no, ite_of, ite_no, tdivE, tmodE, takeAll]
  have h9 := onceL_len a []
  simp only [List.length_nil] at h9
  exact ⟨ca, cb, onceL [] a, b, i, j, c1, c2, by omega, l2, onceL_all a [] (fun x hx => by simp at hx) (fun r hr => sm r (P1 r hr)), fun r hr => sm r (P2 r hr), rfl⟩
end Go.TH
