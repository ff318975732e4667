/- TH: columns of groups: draws and walks. Made by gen.py. -/
import Derived.Test.YtipoefabimcbdaaTbd3
import Derived.Test.YtipoefabimcbdaaTbsl
import Derived.Test.YtipoefabimcbdaaTbrw
import Derived.Test.YtipoefabimcbdaaTf3
namespace Go.TH
open Go Go.Proofs
set_option linter.unusedSimpArgs false
set_option linter.unusedVariables false
set_option maxHeartbeats 20000000
set_option maxRecDepth 100000
theorem d_bagO {H : AH} {nx rid : Nat} {bs : ByteArray} {p n : Int} (cols : List GCol) (hr : rid < nx) (hH : H rid = .live 0 [.sl bs.size false (bytesCells bs), .int .i64 (p)]) (hd : ∀ i, nx ≤ i → H i = .dead) (hp0 : 0 ≤ p) (hp : p ≤ 700000000) (hb : bs.size ≤ 2000) (hn0 : -1000000000 ≤ n) (hn : n ≤ 1000000000) (hc : cols.length ≤ 10) :
    ACallD Try.prog 136 [.ptr rid 0 0, colsA cols, .int .i64 n] H nx (fun r H' nx' => ∃ (l : List GRow) (q : Int), p ≤ q ∧ q ≤ p + 2000 ∧ l.length ≤ 6 ∧ (∀ r ∈ l, PR (cols.length + 3) r) ∧ r = .msl nx 0 1 0 l.length ∧ H' = upd (upd H rid (.live 0 [.sl bs.size false (bytesCells bs), .int .i64 (q)])) nx (.live 0 (flat cR l)) ∧ nx' = nx + 1) := by
  refine ACallD.finR1 1 rid hr ?_
  refine wcall_body mixed Try.func136 _ (by unfold Try.f136; rfl) Try.ntmps136 Try.results136 (by decide) (by simp) ?_
  simp (maxSteps := 4000000) (disch := omega) only [go_sem, w64, AndB_of, IfB_of, IfB_no, pickE_of, pickE_no, ite_of, ite_no, tdivE, tmodE, takeAll]
  refine AW.step ?_
  simp (maxSteps := 4000000) (disch := omega) only [go_sem, w64, AndB_of, IfB_of, IfB_no, pickE_of, pickE_no, ite_of, ite_no, tdivE, tmodE, takeAll]
  refine AW.step ?_
  simp (maxSteps := 4000000) (disch := omega) only [go_sem, w64, AndB_of, IfB_of, IfB_no, pickE_of, pickE_no, ite_of, ite_no, tdivE, tmodE, takeAll]
  refine AW.cut (fun zs => (verOf (blkOf zs (nx)), cellsOf (blkOf zs (nx)), mlenOf (slotOf zs 7), intOf (nthA (cellsOf (blkOf zs (rid))) 1))) (fun zz => [(7, some (.msl nx zz.1 1 0 zz.2.2.1))]) (fun zz => upd (upd H nx (.live zz.1 zz.2.1)) rid (.live 0 [.sl bs.size false (bytesCells bs), .int .i64 (zz.2.2.2)])) (fun zz => nx + 20) (fun zz => Flat cR (PR (cols.length + 3)) zz.2.1 zz.2.2.1 ∧ zz.2.2.1 ≤ 6 ∧ p ≤ zz.2.2.2 ∧ zz.2.2.2 ≤ p + 2000) ?zcut0 ?_
  case' zcut0 => simp (maxSteps := 4000000) (disch := omega) only [go_sem, w64, AndB_of, IfB_of, IfB_no, pickE_of, pickE_no, ite_of, ite_no, tdivE, tmodE, takeAll]
  · apply CallB.law; (focus (apply d_pick; (repeat (first | exact hH | exact upd_same _ _ _ | rw [upd_ne _ _ (by omega)])); all_goals omega)); rintro _ _ _ ⟨x, hx0, hx1, rfl, rfl, rfl⟩
    simp (maxSteps := 4000000) (disch := omega) only [go_sem, w64, AndB_of, IfB_of, IfB_no, pickE_of, pickE_no, ite_of, ite_no, tdivE, tmodE, takeAll]
    refine LoopB.auto (fun zs => (intOf (slotOf zs 8), verOf (blkOf zs (nx)), cellsOf (blkOf zs (nx)), mlenOf (slotOf zs 7), intOf (nthA (cellsOf (blkOf zs (rid))) 1))) (fun zz => [(0, none), (0, none), (0, none), (4, some (.msl nx zz.2.1 1 0 zz.2.2.2.1)), (0, some (.int .i64 (zz.1 : Int)))]) (fun zz => upd (upd H nx (.live zz.2.1 zz.2.2.1)) rid (.live 0 [.sl bs.size false (bytesCells bs), .int .i64 (zz.2.2.2.2)])) (fun zz => nx + 1 + zz.2.2.2.1) (fun zz => zz.1.toNat) (fun zz => Flat cR (PR (cols.length + 3)) zz.2.2.1 zz.2.2.2.1 ∧ 0 ≤ zz.1 ∧ zz.2.2.2.1 + zz.1 ≤ 6 ∧ p ≤ zz.2.2.2.2 ∧ zz.2.2.2.2 ≤ p + 1 + 200 * zz.2.2.2.1) (by (first | simp (maxSteps := 4000000) (disch := omega) only [go_sem, w64, AndB_of, IfB_of, IfB_no, pickE_of, pickE_no, ite_of, ite_no, tdivE, tmodE, takeAll, hH] | simp (maxSteps := 4000000) (disch := omega) only [go_sem, w64, AndB_of, IfB_of, IfB_no, pickE_of, pickE_no, ite_of, ite_no, tdivE, tmodE, takeAll]); ((repeat' apply And.intro) <;> first | (exact Weak.go (by (first | (simp [wkL]; done) | (simp [wkL]; omega))) (fun zi => by first | exact .inl rfl | exact .inr rfl | (simp only [upd]; repeat' split) <;> first | exact .inl rfl | exact .inr rfl | (exfalso; omega) | exact .inr (hd _ (by omega)) | (left; subst_vars; exact hH.symm) | (left; subst_vars; rfl) | (left; simp; done) | (left; simp; omega)) (by omega)) | omega | rfl | assumption | exact Flat.nil | exact ⟨_, rfl, rfl, by assumption⟩ | (simp; done) | (simp; omega))) ?_
    intro zz zh
    obtain ⟨k, v, cells, m, q⟩ := zz
    dsimp only at zh
    obtain ⟨⟨rows, rfl, rfl, hP⟩, hk, hm, hq1, hq2⟩ := zh
    simp (maxSteps := 4000000) (disch := omega) only [go_sem, w64, AndB_of, IfB_of, IfB_no, pickE_of, pickE_no, ite_of, ite_no, tdivE, tmodE, takeAll]
    refine IfB.dec (fun h => ?_) (fun h => ?_)
    · simp (maxSteps := 4000000) (disch := omega) only [go_sem, w64, AndB_of, IfB_of, IfB_no, pickE_of, pickE_no, ite_of, ite_no, tdivE, tmodE, takeAll]
      repeat' (first | (refine IfB.dec (fun h => ?_) (fun h => ?_) <;> (try (have h2 := h; unfold inR at h2)) <;> (try simp (maxSteps := 4000000) (disch := omega) only [go_sem, w64, AndB_of, IfB_of, IfB_no, pickE_of, pickE_no, ite_of, ite_no, tdivE, tmodE, takeAll, h])) | (refine IfB.split (fun h => ?_) (fun h => ?_) <;> (try simp (maxSteps := 4000000) (disch := omega) only [go_sem, w64, AndB_of, IfB_of, IfB_no, pickE_of, pickE_no, ite_of, ite_no, tdivE, tmodE, takeAll, h])) | (apply CallB.law; (focus (apply d_pick; (repeat (first | exact hH | exact upd_same _ _ _ | rw [upd_ne _ _ (by omega)])); all_goals omega)); rintro _ _ _ ⟨x, hx0, hx1, rfl, rfl, rfl⟩; simp (maxSteps := 4000000) (disch := omega) only [go_sem, w64, AndB_of, IfB_of, IfB_no, pickE_of, pickE_no, ite_of, ite_no, tdivE, tmodE, takeAll]) | (apply CallB.law; (focus (apply d_fit _; omega; (repeat (first | exact hH | exact upd_same _ _ _ | rw [upd_ne _ _ (by omega)])); (first | exact fun i hi => hd i (by omega) | (intro i hi; repeat (first | exact hd i (by omega) | exact rfl | rw [upd_ne _ _ (by omega)]))); all_goals omega)); rintro _ _ _ ⟨row, q, hq0, hq1, hr1, hr2, rfl, rfl, rfl⟩; simp (maxSteps := 4000000) (disch := omega) only [go_sem, w64, AndB_of, IfB_of, IfB_no, pickE_of, pickE_no, ite_of, ite_no, tdivE, tmodE, takeAll]))
      all_goals (try (have hx : x.toNat < rows.length := by omega))
      all_goals (try (have hp1 := hP _ (List.getElem_mem hx)))
      all_goals first
        | (apply CallB.q (q_l3Own rows[x.toNat] (by have := hp1.1; omega))
           simp (maxSteps := 4000000) (disch := omega) only [go_sem, w64, AndB_of, IfB_of, IfB_no, pickE_of, pickE_no, ite_of, ite_no, tdivE, tmodE, takeAll]
           ((repeat' apply And.intro) <;> first | exact Flat.snocR ⟨rows, rfl, rfl, hP⟩ hp1 | (exact Weak.go (by (first | (simp [wkL]; done) | (simp [wkL]; omega))) (fun zi => by first | exact .inl rfl | exact .inr rfl | (simp only [upd]; repeat' split) <;> first | exact Flat.snocR ⟨rows, rfl, rfl, hP⟩ hp1 | exact .inl rfl | exact .inr rfl | (exfalso; omega) | exact .inr (hd _ (by omega)) | (left; subst_vars; exact hH.symm) | (left; subst_vars; rfl) | (left; simp; done) | (left; simp; omega)) (by omega)) | omega | rfl | assumption | exact Flat.nil | exact ⟨_, rfl, rfl, by assumption⟩ | (simp; done) | (simp; omega)))
        | ((repeat' apply And.intro) <;> first | exact Flat.snocR ⟨rows, rfl, rfl, hP⟩ ⟨by assumption, by assumption⟩ | (exact Weak.go (by (first | (simp [wkL]; done) | (simp [wkL]; omega))) (fun zi => by first | exact .inl rfl | exact .inr rfl | (simp only [upd]; repeat' split) <;> first | exact Flat.snocR ⟨rows, rfl, rfl, hP⟩ ⟨by assumption, by assumption⟩ | exact .inl rfl | exact .inr rfl | (exfalso; omega) | exact .inr (hd _ (by omega)) | (left; subst_vars; exact hH.symm) | (left; subst_vars; rfl) | (left; simp; done) | (left; simp; omega)) (by omega)) | omega | rfl | assumption | exact Flat.nil | exact ⟨_, rfl, rfl, by assumption⟩ | (simp; done) | (simp; omega))
    · simp (maxSteps := 4000000) (disch := omega) only [go_sem, w64, AndB_of, IfB_of, IfB_no, pickE_of, pickE_no, ite_of, ite_no, tdivE, tmodE, takeAll]
      ((repeat' apply And.intro) <;> first | (exact Weak.go (by (first | (simp [wkL]; done) | (simp [wkL]; omega))) (fun zi => by first | exact .inl rfl | exact .inr rfl | (simp only [upd]; repeat' split) <;> first | exact .inl rfl | exact .inr rfl | (exfalso; omega) | exact .inr (hd _ (by omega)) | (left; subst_vars; exact hH.symm) | (left; subst_vars; rfl) | (left; simp; done) | (left; simp; omega)) (by omega)) | omega | rfl | assumption | exact Flat.nil | exact ⟨_, rfl, rfl, by assumption⟩ | (simp; done) | (simp; omega))
  intro zz zh
  obtain ⟨v, cells, m, q⟩ := zz
  dsimp only at zh
  obtain ⟨⟨rows, rfl, rfl, hP⟩, hm, hq1, hq2⟩ := zh
  simp (maxSteps := 4000000) (disch := omega) only [go_sem, w64, AndB_of, IfB_of, IfB_no, pickE_of, pickE_no, ite_of, ite_no, tdivE, tmodE, takeAll]
  refine AW.of ?_
  simp (maxSteps := 4000000) (disch := omega) only [go_sem, w64, AndB_of, IfB_of, IfB_no, pickE_of, pickE_no, ite_of, ite_no, tdivE, tmodE, takeAll]
  refine ⟨_, _, nx, v, _, (by repeat (first | exact OldR.base hH | refine OldR.set ?_ | refine OldR.new (by omega) ?_ | exact OldW.refl | refine OldW.new (by omega) ?_ | refine OldW.rd ?_)), (by simp [pureL, pureA, bytesCells_pure]), Nat.le_refl _, (by rw [if_neg (by omega), if_pos rfl]), ?_⟩
  simp (maxSteps := 4000000) (disch := omega) only [go_sem, w64, AndB_of, IfB_of, IfB_no, pickE_of, pickE_no, ite_of, ite_no, tdivE, tmodE, takeAll]
  exact ⟨rows, q, by omega, by omega, by omega, hP, rfl, rfl⟩
theorem Flat.snocI {cells : List AV} {n : Nat} (h : Flat cI (fun _ => True) cells n) {k : Int} : Flat cI (fun _ => True) (cells ++ [.int .i64 k]) (n + 1) := h.snoc k trivial
theorem d_group {H : AH} {nx rid : Nat} {bs : ByteArray} {p n : Int} (hr : rid < nx) (hH : H rid = .live 0 [.sl bs.size false (bytesCells bs), .int .i64 (p)]) (hd : ∀ i, nx ≤ i → H i = .dead) (hp0 : 0 ≤ p) (hp : p ≤ 600000000) (hb : bs.size ≤ 2000) (hn0 : -100000000 ≤ n) (hn : n ≤ 100000000) :
    ACallD Try.prog 105 [.ptr rid 0 0, .int .i64 n] H nx (fun r H' nx' => ∃ (cols : List GCol) (R : AV) (ix : List Int) (of tell q : Int), 1 ≤ cols.length ∧ cols.length ≤ 6 ∧ (∀ c ∈ cols, PC c) ∧ ix.length ≤ 3 ∧ r = .tup [colsA cols, R, intsA ix, .int .i64 of, .int .i64 tell] ∧ H' = upd H rid (.live 0 [.sl bs.size false (bytesCells bs), .int .i64 (q)]) ∧ nx' = nx) := by
  have hdd := hd
  refine ACallD.loose ?_
  refine ACallD.finR 2 rid hr ?_
  refine wcall_body mixed Try.func105 _ (by unfold Try.f105; rfl) Try.ntmps105 Try.results105 (by decide) (by simp) ?_
  simp (maxSteps := 4000000) (disch := omega) only [go_sem, w64, AndB_of, IfB_of, IfB_no, pickE_of, pickE_no, ite_of, ite_no, tdivE, tmodE, takeAll]
  refine AW.step ?_
  simp (maxSteps := 4000000) (disch := omega) only [go_sem, w64, AndB_of, IfB_of, IfB_no, pickE_of, pickE_no, ite_of, ite_no, tdivE, tmodE, takeAll]
  refine AW.step ?_
  simp (maxSteps := 4000000) (disch := omega) only [go_sem, w64, AndB_of, IfB_of, IfB_no, pickE_of, pickE_no, ite_of, ite_no, tdivE, tmodE, takeAll]
  refine CallB.law (d_columns (p := p) (n := 0) hr hH hd (by omega) (by omega) hb (by omega) (by omega)) ?_
  rintro _ _ nx ⟨cols, q, q1, q2, c1, c2, cP, rfl, rfl, rfl⟩
  simp (maxSteps := 4000000) (disch := omega) only [go_sem, w64, AndB_of, IfB_of, IfB_no, pickE_of, pickE_no, ite_of, ite_no, tdivE, tmodE, takeAll]
  refine AW.step ?_
  simp (maxSteps := 4000000) (disch := omega) only [go_sem, w64, AndB_of, IfB_of, IfB_no, pickE_of, pickE_no, ite_of, ite_no, tdivE, tmodE, takeAll]
  refine CallB.law (d_bagO (p := q) (n := 0) cols hr (upd_same ..) (fun i hi => by rw [upd_ne _ _ (by omega)]; exact hdd i (by omega)) (by omega) (by omega) hb (by omega) (by omega) (by omega)) ?_
  rintro _ _ _ ⟨ra, qa, a1, a2, a3, a4, rfl, rfl, rfl⟩
  simp (maxSteps := 4000000) (disch := omega) only [go_sem, w64, AndB_of, IfB_of, IfB_no, pickE_of, pickE_no, ite_of, ite_no, tdivE, tmodE, takeAll]
  refine CallB.law (d_bagO (p := qa) (n := 0) cols (by omega) (by rw [upd_ne _ _ (by omega), upd_same]) (fun i hi => by repeat (first | exact hdd i (by omega) | rw [upd_ne _ _ (by omega)])) (by omega) (by omega) hb (by omega) (by omega) (by omega)) ?_
  rintro _ _ _ ⟨rb, qb, b1, b2, b3, b4, rfl, rfl, rfl⟩
  simp (maxSteps := 4000000) (disch := omega) only [go_sem, w64, AndB_of, IfB_of, IfB_no, pickE_of, pickE_no, ite_of, ite_no, tdivE, tmodE, takeAll, cR_flen]
  refine AW.step ?_
  simp (maxSteps := 4000000) (disch := omega) only [go_sem, w64, AndB_of, IfB_of, IfB_no, pickE_of, pickE_no, ite_of, ite_no, tdivE, tmodE, takeAll]
  refine AW.cut (fun zs => (verOf (blkOf zs (nx+2)), cellsOf (blkOf zs (nx+2)), mlenOf (slotOf zs 11), intOf (nthA (cellsOf (blkOf zs (rid))) 1))) (fun zz => [(0, none), (0, none), (7, none), (0, none), (0, some (.msl (nx+2) zz.1 1 0 zz.2.2.1))]) (fun zz => upd (upd (upd H nx (.live 1 (flat cR ra ++ flat cR rb))) (nx + 2) (.live zz.1 zz.2.1)) rid (.live 0 [.sl bs.size false (bytesCells bs), .int .i64 (zz.2.2.2)])) (fun zz => nx + 20) (fun zz => Flat cI (fun _ => True) zz.2.1 zz.2.2.1 ∧ zz.2.2.1 ≤ 2 ∧ p ≤ zz.2.2.2 ∧ zz.2.2.2 ≤ p + 5000) ?zcut1 ?_
  case' zcut1 => simp (maxSteps := 4000000) (disch := omega) only [go_sem, w64, AndB_of, IfB_of, IfB_no, pickE_of, pickE_no, ite_of, ite_no, tdivE, tmodE, takeAll]
  · apply CallB.law; (focus (apply d_pick; (repeat (first | exact hH | exact upd_same _ _ _ | rw [upd_ne _ _ (by omega)])); all_goals omega)); rintro _ _ _ ⟨x, hx0, hx1, rfl, rfl, rfl⟩
    simp (maxSteps := 4000000) (disch := omega) only [go_sem, w64, AndB_of, IfB_of, IfB_no, pickE_of, pickE_no, ite_of, ite_no, tdivE, tmodE, takeAll]
    refine LoopB.auto (fun zs => (intOf (slotOf zs 12), verOf (blkOf zs (nx+2)), cellsOf (blkOf zs (nx+2)), mlenOf (slotOf zs 11), intOf (nthA (cellsOf (blkOf zs (rid))) 1))) (fun zz => [(0, none), (0, none), (7, none), (0, none), (0, some (.msl (nx+2) zz.2.1 1 0 zz.2.2.2.1)), (0, some (.int .i64 (zz.1 : Int)))]) (fun zz => upd (upd (upd H nx (.live 1 (flat cR ra ++ flat cR rb))) (nx + 2) (.live zz.2.1 zz.2.2.1)) rid (.live 0 [.sl bs.size false (bytesCells bs), .int .i64 (zz.2.2.2.2)])) (fun zz => nx + 3 + zz.2.2.2.1) (fun zz => zz.1.toNat) (fun zz => Flat cI (fun _ => True) zz.2.2.1 zz.2.2.2.1 ∧ 0 ≤ zz.1 ∧ zz.2.2.2.1 + zz.1 ≤ 2 ∧ p ≤ zz.2.2.2.2 ∧ zz.2.2.2.2 ≤ p + 4100 + zz.2.2.2.1) (by (first | simp (maxSteps := 4000000) (disch := omega) only [go_sem, w64, AndB_of, IfB_of, IfB_no, pickE_of, pickE_no, ite_of, ite_no, tdivE, tmodE, takeAll, hH] | simp (maxSteps := 4000000) (disch := omega) only [go_sem, w64, AndB_of, IfB_of, IfB_no, pickE_of, pickE_no, ite_of, ite_no, tdivE, tmodE, takeAll]); ((repeat' apply And.intro) <;> first | (exact Weak.go (by (first | (simp [wkL]; done) | (simp [wkL]; omega))) (fun zi => by first | exact .inl rfl | exact .inr rfl | (simp only [upd]; repeat' split) <;> first | exact .inl rfl | exact .inr rfl | (exfalso; omega) | exact .inr (hd _ (by omega)) | (left; subst_vars; exact hH.symm) | (left; subst_vars; rfl) | (left; simp; done) | (left; simp; omega)) (by omega)) | omega | rfl | assumption | exact Flat.nil | exact ⟨_, rfl, rfl, by assumption⟩ | (simp; done) | (simp; omega))) ?_
    intro zz zh
    obtain ⟨k, v, cells, m, q⟩ := zz
    dsimp only at zh
    obtain ⟨⟨ix, rfl, rfl, hP⟩, hk, hm, hq1, hq2⟩ := zh
    simp (maxSteps := 4000000) (disch := omega) only [go_sem, w64, AndB_of, IfB_of, IfB_no, pickE_of, pickE_no, ite_of, ite_no, tdivE, tmodE, takeAll]
    refine IfB.dec (fun h => ?_) (fun h => ?_)
    · simp (maxSteps := 4000000) (disch := omega) only [go_sem, w64, AndB_of, IfB_of, IfB_no, pickE_of, pickE_no, ite_of, ite_no, tdivE, tmodE, takeAll]
      apply CallB.law; (focus (apply d_pick; (repeat (first | exact hH | exact upd_same _ _ _ | rw [upd_ne _ _ (by omega)])); all_goals omega)); rintro _ _ _ ⟨x, hx0, hx1, rfl, rfl, rfl⟩
      simp (maxSteps := 4000000) (disch := omega) only [go_sem, w64, AndB_of, IfB_of, IfB_no, pickE_of, pickE_no, ite_of, ite_no, tdivE, tmodE, takeAll]
      ((repeat' apply And.intro) <;> first | exact Flat.snocI ⟨ix, rfl, rfl, hP⟩ | (exact Weak.go (by (first | (simp [wkL]; done) | (simp [wkL]; omega))) (fun zi => by first | exact .inl rfl | exact .inr rfl | (simp only [upd]; repeat' split) <;> first | exact Flat.snocI ⟨ix, rfl, rfl, hP⟩ | exact .inl rfl | exact .inr rfl | (exfalso; omega) | exact .inr (hd _ (by omega)) | (left; subst_vars; exact hH.symm) | (left; subst_vars; rfl) | (left; simp; done) | (left; simp; omega)) (by omega)) | omega | rfl | assumption | exact Flat.nil | exact ⟨_, rfl, rfl, by assumption⟩ | (simp; done) | (simp; omega))
    · simp (maxSteps := 4000000) (disch := omega) only [go_sem, w64, AndB_of, IfB_of, IfB_no, pickE_of, pickE_no, ite_of, ite_no, tdivE, tmodE, takeAll]
      ((repeat' apply And.intro) <;> first | (exact Weak.go (by (first | (simp [wkL]; done) | (simp [wkL]; omega))) (fun zi => by first | exact .inl rfl | exact .inr rfl | (simp only [upd]; repeat' split) <;> first | exact .inl rfl | exact .inr rfl | (exfalso; omega) | exact .inr (hd _ (by omega)) | (left; subst_vars; exact hH.symm) | (left; subst_vars; rfl) | (left; simp; done) | (left; simp; omega)) (by omega)) | omega | rfl | assumption | exact Flat.nil | exact ⟨_, rfl, rfl, by assumption⟩ | (simp; done) | (simp; omega))
  intro zz zh
  obtain ⟨v, cells, m, q⟩ := zz
  dsimp only at zh
  obtain ⟨⟨ix, rfl, rfl, hP⟩, hm, hq1, hq2⟩ := zh
  simp (maxSteps := 4000000) (disch := omega) only [go_sem, w64, AndB_of, IfB_of, IfB_no, pickE_of, pickE_no, ite_of, ite_no, tdivE, tmodE, takeAll]
  refine AW.step ?_
  simp (maxSteps := 4000000) (disch := omega) only [go_sem, w64, AndB_of, IfB_of, IfB_no, pickE_of, pickE_no, ite_of, ite_no, tdivE, tmodE, takeAll]
  apply CallB.law; (focus (apply d_pick; (repeat (first | exact hH | exact upd_same _ _ _ | rw [upd_ne _ _ (by omega)])); all_goals omega)); rintro _ _ _ ⟨x, hx0, hx1, rfl, rfl, rfl⟩
  simp (maxSteps := 4000000) (disch := omega) only [go_sem, w64, AndB_of, IfB_of, IfB_no, pickE_of, pickE_no, ite_of, ite_no, tdivE, tmodE, takeAll]
  refine AW.step ?_
  simp (maxSteps := 4000000) (disch := omega) only [go_sem, w64, AndB_of, IfB_of, IfB_no, pickE_of, pickE_no, ite_of, ite_no, tdivE, tmodE, takeAll]
  apply CallB.law; (focus (apply d_pick; (repeat (first | exact hH | exact upd_same _ _ _ | rw [upd_ne _ _ (by omega)])); all_goals omega)); rintro _ _ _ ⟨x, hx0, hx1, rfl, rfl, rfl⟩
  simp (maxSteps := 4000000) (disch := omega) only [go_sem, w64, AndB_of, IfB_of, IfB_no, pickE_of, pickE_no, ite_of, ite_no, tdivE, tmodE, takeAll]
  refine AW.cut (fun zs => (verOf (blkOf zs (nx+2)), cellsOf (blkOf zs (nx+2)), mlenOf (slotOf zs 11), intOf (slotOf zs 13), intOf (slotOf zs 14), intOf (nthA (cellsOf (blkOf zs (rid))) 1))) (fun zz => [(9, none), (0, some (.junk)), (0, some (.msl (nx+2) zz.1 1 0 zz.2.2.1)), (1, some (.int .i64 zz.2.2.2.1)), (0, some (.int .i64 zz.2.2.2.2.1))]) (fun zz => upd (upd H (nx + 2) (.live zz.1 zz.2.1)) rid (.live 0 [.sl bs.size false (bytesCells bs), .int .i64 (zz.2.2.2.2.2)])) (fun zz => nx + 40) (fun zz => Flat cI (fun _ => True) zz.2.1 zz.2.2.1 ∧ zz.2.2.1 ≤ 3 ∧ p ≤ zz.2.2.2.2.2 ∧ zz.2.2.2.2.2 ≤ p + 6000) ?zcut2 ?_
  case' zcut2 => simp (maxSteps := 4000000) (disch := omega) only [go_sem, w64, AndB_of, IfB_of, IfB_no, pickE_of, pickE_no, ite_of, ite_no, tdivE, tmodE, takeAll]
  · repeat' (first | (refine IfB.dec (fun h => ?_) (fun h => ?_) <;> (try (have h2 := h; unfold inR at h2)) <;> (try simp (maxSteps := 4000000) (disch := omega) only [go_sem, w64, AndB_of, IfB_of, IfB_no, pickE_of, pickE_no, ite_of, ite_no, tdivE, tmodE, takeAll, h])) | (refine IfB.split (fun h => ?_) (fun h => ?_) <;> (try simp (maxSteps := 4000000) (disch := omega) only [go_sem, w64, AndB_of, IfB_of, IfB_no, pickE_of, pickE_no, ite_of, ite_no, tdivE, tmodE, takeAll, h])) | (apply CallB.law; (focus (apply d_odd; (repeat (first | exact hH | exact upd_same _ _ _ | rw [upd_ne _ _ (by omega)])); all_goals omega)); rintro _ _ _ ⟨x, q, hq0, hq1, rfl, rfl, rfl⟩; simp (maxSteps := 4000000) (disch := omega) only [go_sem, w64, AndB_of, IfB_of, IfB_no, pickE_of, pickE_no, ite_of, ite_no, tdivE, tmodE, takeAll]) | (apply CallB.law; (focus (apply d_pick; (repeat (first | exact hH | exact upd_same _ _ _ | rw [upd_ne _ _ (by omega)])); all_goals omega)); rintro _ _ _ ⟨x, hx0, hx1, rfl, rfl, rfl⟩; simp (maxSteps := 4000000) (disch := omega) only [go_sem, w64, AndB_of, IfB_of, IfB_no, pickE_of, pickE_no, ite_of, ite_no, tdivE, tmodE, takeAll]))
    all_goals (try simp (maxSteps := 4000000) (disch := omega) only [go_sem, w64, AndB_of, IfB_of, IfB_no, pickE_of, pickE_no, ite_of, ite_no, tdivE, tmodE, takeAll, List.length_append, cR_flen])
    all_goals ((repeat' apply And.intro) <;> first | exact Flat.snocI ⟨ix, rfl, rfl, hP⟩ | (exact Weak.go (by (first | (simp [wkL]; done) | (simp [wkL]; omega))) (fun zi => by first | exact .inl rfl | exact .inr rfl | (simp only [upd]; repeat' split) <;> first | exact Flat.snocI ⟨ix, rfl, rfl, hP⟩ | exact .inl rfl | exact .inr rfl | (exfalso; omega) | exact .inr (hd _ (by omega)) | (left; subst_vars; exact hH.symm) | (left; subst_vars; rfl) | (left; simp; done) | (left; simp; omega)) (by omega)) | omega | rfl | assumption | exact Flat.nil | exact ⟨_, rfl, rfl, by assumption⟩ | (simp; done) | (simp; omega))
  intro zz zh
  obtain ⟨v, cells, m, of, tell, q⟩ := zz
  dsimp only at zh
  obtain ⟨⟨ix, rfl, rfl, hP⟩, hm, hq1, hq2⟩ := zh
  simp (maxSteps := 4000000) (disch := omega) only [go_sem, w64, AndB_of, IfB_of, IfB_no, pickE_of, pickE_no, ite_of, ite_no, tdivE, tmodE, takeAll]
  refine AW.of ?_
  simp (maxSteps := 4000000) (disch := omega) only [go_sem, w64, AndB_of, IfB_of, IfB_no, pickE_of, pickE_no, ite_of, ite_no, tdivE, tmodE, takeAll]
  refine ⟨_, _, (by repeat (first | exact OldR.base hH | refine OldR.set ?_ | refine OldR.new (by omega) ?_ | exact OldW.refl | refine OldW.new (by omega) ?_ | refine OldW.rd ?_)), (by simp [pureL, pureA, bytesCells_pure]), ?_⟩
  exact ⟨cols, _, ix, of, tell, q, by omega, by omega, cP, by omega, rfl, rfl⟩
theorem x_DrawGroupColumns (s : ByteArray) : ∃ R, (∃ (cols : List GCol) (ix : List Int) (of tell : Int), 1 ≤ cols.length ∧ cols.length ≤ 6 ∧ (∀ c ∈ cols, PC c) ∧ ix.length ≤ 3 ∧ R = .tup [colsA cols, intsA ix, .int .i64 of, .int .i64 tell]) ∧ QCall Try.prog 55 [.sl s.size false (bytesCells s)] R := by
  refine qex_of (by simp [pureL, pureA, bytesCells_pure]) 2 ?_
  refine dcall_body mixed Try.func55 _ (by unfold Try.f55; rfl) Try.ntmps55 Try.results55 (by decide) (by simp) ?_
  simp (maxSteps := 4000000) (disch := omega) only [go_sem, w64, AndB_of, IfB_of, IfB_no, pickE_of, pickE_no, ite_of, ite_no, tdivE, tmodE, takeAll]
  apply CallB.law; (focus (apply d_open; (repeat (first | exact hH | exact upd_same _ _ _ | rw [upd_ne _ _ (by omega)])); all_goals omega)); rintro _ _ _ ⟨bs, hbs, rfl, rfl, rfl⟩
  simp (maxSteps := 4000000) (disch := omega) only [go_sem, w64, AndB_of, IfB_of, IfB_no, pickE_of, pickE_no, ite_of, ite_no, tdivE, tmodE, takeAll]
  refine CallB.law (d_group (by omega) (upd_same ..) (fun i hi => by rw [upd_ne _ _ (by omega)]; rfl) (by omega) (by omega) (by omega) (by omega) (by omega)) ?_
  rintro _ _ _ ⟨cols, R, ix, of, tell, q, c1, c2, cP, l1, rfl, rfl, rfl⟩
  simp (maxSteps := 4000000) (disch := omega) only [go_sem, w64, AndB_of, IfB_of, IfB_no, pickE_of, pickE_no, ite_of, ite_no, tdivE, tmodE, takeAll]
  exact ⟨cols, ix, of, tell, c1, c2, cP, l1, rfl⟩
end Go.TH
