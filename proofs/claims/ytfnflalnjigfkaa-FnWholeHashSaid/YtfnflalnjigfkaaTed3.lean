/- TH: draws, columns and rows. Made by gen.py. -/
import Derived.Test.YtfnflalnjigfkaaTed2
import Derived.Test.YtfnflalnjigfkaaTf3
namespace Go.TH
open Go Go.Proofs
set_option linter.unusedSimpArgs false
set_option linter.unusedVariables false
set_option maxHeartbeats 20000000
set_option maxRecDepth 100000
def PC (c : GCol) : Prop := -1 ≤ c.k ∧ c.k ≤ 4
def PV (v : GVal) : Prop := v.s.size ≤ 20 ∧ -10000 ≤ v.n ∧ v.n ≤ 10000
theorem d_columns {H : AH} {nx rid : Nat} {bs : ByteArray} {p n : Int} (hr : rid < nx) (hH : H rid = .live 0 [.sl bs.size false (bytesCells bs), .int .i64 (p)]) (hd : ∀ i, nx ≤ i → H i = .dead) (hp0 : 0 ≤ p) (hp : p ≤ 900000000) (hb : bs.size ≤ 2000) (hn0 : -1000000000 ≤ n) (hn : n ≤ 1000000000) :
    ACallD Try.prog 86 [.ptr rid 0 0, .int .i64 n] H nx (fun r H' nx' => ∃ (l : List GCol) (q : Int), p ≤ q ∧ q ≤ p + 20 ∧ 1 ≤ l.length ∧ l.length ≤ 6 ∧ (∀ c ∈ l, PC c) ∧ r = colsA l ∧ H' = upd H rid (.live 0 [.sl bs.size false (bytesCells bs), .int .i64 (q)]) ∧ nx' = nx) := by
  refine ACallD.finR 1 rid hr ?_
  refine wcall_body mixed Try.func86 _ (by unfold Try.f86; rfl) Try.ntmps86 Try.results86 (by decide) (by simp) ?_
  simp (maxSteps := 4000000) (disch := omega) only [go_sem, w64, AndB_of, IfB_of, IfB_no, pickE_of, pickE_no, ite_of, ite_no, tdivE, tmodE, takeAll]
  refine AW.step ?_
  simp (maxSteps := 4000000) (disch := omega) only [go_sem, w64, AndB_of, IfB_of, IfB_no, pickE_of, pickE_no, ite_of, ite_no, tdivE, tmodE, takeAll]
  refine AW.step ?_
  simp (maxSteps := 4000000) (disch := omega) only [go_sem, w64, AndB_of, IfB_of, IfB_no, pickE_of, pickE_no, ite_of, ite_no, tdivE, tmodE, takeAll]
  refine AW.cut (fun zs => (verOf (blkOf zs (nx)), cellsOf (blkOf zs (nx)), mlenOf (slotOf zs 5), intOf (nthA (cellsOf (blkOf zs (rid))) 1))) (fun zz => [(0, none), (0, none), (3, some (.msl nx zz.1 2 0 zz.2.2.1))]) (fun zz => upd (upd H nx (.live zz.1 zz.2.1)) rid (.live 0 [.sl bs.size false (bytesCells bs), .int .i64 (zz.2.2.2)])) (fun zz => nx + 1) (fun zz => Flat GCol.c PC zz.2.1 zz.2.2.1 ∧ 1 ≤ zz.2.2.1 ∧ zz.2.2.1 ≤ 3 ∧ p ≤ zz.2.2.2 ∧ zz.2.2.2 ≤ p + 10) ?zcut0 ?_
  case' zcut0 => simp (maxSteps := 4000000) (disch := omega) only [go_sem, w64, AndB_of, IfB_of, IfB_no, pickE_of, pickE_no, ite_of, ite_no, tdivE, tmodE, takeAll]
  · apply CallB.law; (focus (apply d_pick; (repeat (first | exact hH | exact upd_same _ _ _ | rw [upd_ne _ _ (by omega)])); all_goals omega)); rintro _ _ _ ⟨x, hx0, hx1, rfl, rfl, rfl⟩
    simp (maxSteps := 4000000) (disch := omega) only [go_sem, w64, AndB_of, IfB_of, IfB_no, pickE_of, pickE_no, ite_of, ite_no, tdivE, tmodE, takeAll]
    refine LoopB.auto (fun zs => (intOf (slotOf zs 6), verOf (blkOf zs (nx)), cellsOf (blkOf zs (nx)), mlenOf (slotOf zs 5), intOf (nthA (cellsOf (blkOf zs (rid))) 1))) (fun zz => [(0, none), (0, none), (3, some (.msl nx zz.2.1 2 0 zz.2.2.2.1)), (0, some (.int .i64 (zz.1 : Int)))]) (fun zz => upd (upd H nx (.live zz.2.1 zz.2.2.1)) rid (.live 0 [.sl bs.size false (bytesCells bs), .int .i64 (zz.2.2.2.2)])) (fun zz => nx + 1) (fun zz => zz.1.toNat) (fun zz => Flat GCol.c PC zz.2.2.1 zz.2.2.2.1 ∧ 0 ≤ zz.1 ∧ 1 ≤ zz.2.2.2.1 + zz.1 ∧ zz.2.2.2.1 + zz.1 ≤ 3 ∧ p ≤ zz.2.2.2.2 ∧ zz.2.2.2.2 + 2 * zz.1 ≤ p + 10) (by (first | simp (maxSteps := 4000000) (disch := omega) only [go_sem, w64, AndB_of, IfB_of, IfB_no, pickE_of, pickE_no, ite_of, ite_no, tdivE, tmodE, takeAll, hH] | simp (maxSteps := 4000000) (disch := omega) only [go_sem, w64, AndB_of, IfB_of, IfB_no, pickE_of, pickE_no, ite_of, ite_no, tdivE, tmodE, takeAll]); ((repeat' apply And.intro) <;> first | (exact Weak.go (by (first | (simp [wkL]; done) | (simp [wkL]; omega))) (fun zi => by first | exact .inl rfl | exact .inr rfl | (simp only [upd]; repeat' split) <;> first | exact .inl rfl | exact .inr rfl | (exfalso; omega) | exact .inr (hd _ (by omega)) | (left; subst_vars; exact hH.symm) | (left; subst_vars; rfl) | (left; simp; done) | (left; simp; omega)) (by omega)) | omega | rfl | assumption | exact Flat.nil | exact ⟨_, rfl, rfl, by assumption⟩ | (simp; done) | (simp; omega))) ?_
    intro zz zh
    obtain ⟨k, v, cells, m, q⟩ := zz
    dsimp only at zh
    obtain ⟨⟨cols, rfl, rfl, hP⟩, hk0, hm1, hm2, hq1, hq2⟩ := zh
    simp (maxSteps := 4000000) (disch := omega) only [go_sem, w64, AndB_of, IfB_of, IfB_no, pickE_of, pickE_no, ite_of, ite_no, tdivE, tmodE, takeAll]
    refine IfB.dec (fun h => ?_) (fun h => ?_)
    · simp (maxSteps := 4000000) (disch := omega) only [go_sem, w64, AndB_of, IfB_of, IfB_no, pickE_of, pickE_no, ite_of, ite_no, tdivE, tmodE, takeAll]
      refine DrawB.intro [3, 7, 11] [] (inS (rid) (nx) (nx)) (by kernel_rfl) ?_
      simp (maxSteps := 4000000) (disch := omega) only [go_sem, w64, AndB_of, IfB_of, IfB_no, pickE_of, pickE_no, ite_of, ite_no, tdivE, tmodE, takeAll]
      apply CallB.law; (focus (apply d_pick; (repeat (first | exact hH | exact upd_same _ _ _ | rw [upd_ne _ _ (by omega)])); all_goals omega)); rintro _ _ _ ⟨x, hx0, hx1, rfl, rfl, rfl⟩
      obtain ⟨m, hm, he⟩ := getD_ints [1, 1, 2, 3] x.toNat (by simp; omega)
      simp only [List.map_cons, List.map_nil] at he
      have hm2 : 1 ≤ m ∧ m ≤ 3 := by simp at hm; omega
      simp (maxSteps := 4000000) (disch := omega) only [go_sem, w64, AndB_of, IfB_of, IfB_no, pickE_of, pickE_no, ite_of, ite_no, tdivE, tmodE, takeAll, he]
      apply CallB.law; (focus (apply d_pick; (repeat (first | exact hH | exact upd_same _ _ _ | rw [upd_ne _ _ (by omega)])); all_goals omega)); rintro _ _ _ ⟨x, hx0, hx1, rfl, rfl, rfl⟩
      simp (maxSteps := 4000000) (disch := omega) only [go_sem, w64, AndB_of, IfB_of, IfB_no, pickE_of, pickE_no, ite_of, ite_no, tdivE, tmodE, takeAll, he]
      ((repeat' apply And.intro) <;> first | exact Flat.snocC ⟨cols, rfl, rfl, hP⟩ ⟨by dsimp only; omega, by dsimp only; omega⟩ | (exact Weak.go (by (first | (simp [wkL]; done) | (simp [wkL]; omega))) (fun zi => by first | exact .inl rfl | exact .inr rfl | (simp only [upd]; repeat' split) <;> first | exact Flat.snocC ⟨cols, rfl, rfl, hP⟩ ⟨by dsimp only; omega, by dsimp only; omega⟩ | exact .inl rfl | exact .inr rfl | (exfalso; omega) | exact .inr (hd _ (by omega)) | (left; subst_vars; exact hH.symm) | (left; subst_vars; rfl) | (left; simp; done) | (left; simp; omega)) (by omega)) | omega | rfl | assumption | exact Flat.nil | exact ⟨_, rfl, rfl, by assumption⟩ | (simp; done) | (simp; omega))
    · simp (maxSteps := 4000000) (disch := omega) only [go_sem, w64, AndB_of, IfB_of, IfB_no, pickE_of, pickE_no, ite_of, ite_no, tdivE, tmodE, takeAll]
      ((repeat' apply And.intro) <;> first | (exact Weak.go (by (first | (simp [wkL]; done) | (simp [wkL]; omega))) (fun zi => by first | exact .inl rfl | exact .inr rfl | (simp only [upd]; repeat' split) <;> first | exact .inl rfl | exact .inr rfl | (exfalso; omega) | exact .inr (hd _ (by omega)) | (left; subst_vars; exact hH.symm) | (left; subst_vars; rfl) | (left; simp; done) | (left; simp; omega)) (by omega)) | omega | rfl | assumption | exact Flat.nil | exact ⟨_, rfl, rfl, by assumption⟩ | (simp; done) | (simp; omega))
  intro zz zh
  obtain ⟨v, cells, m, q⟩ := zz
  dsimp only at zh
  obtain ⟨⟨cols, rfl, rfl, hP⟩, hm1, hm2, hq1, hq2⟩ := zh
  simp (maxSteps := 4000000) (disch := omega) only [go_sem, w64, AndB_of, IfB_of, IfB_no, pickE_of, pickE_no, ite_of, ite_no, tdivE, tmodE, takeAll]
  refine AW.cut (fun zs => (verOf (blkOf zs (nx)), cellsOf (blkOf zs (nx)), mlenOf (slotOf zs 5), intOf (nthA (cellsOf (blkOf zs (rid))) 1))) (fun zz => [(5, some (.msl nx zz.1 2 0 zz.2.2.1))]) (fun zz => upd (upd H nx (.live zz.1 zz.2.1)) rid (.live 0 [.sl bs.size false (bytesCells bs), .int .i64 (zz.2.2.2)])) (fun zz => nx + 2) (fun zz => Flat GCol.c PC zz.2.1 zz.2.2.1 ∧ 1 ≤ zz.2.2.1 ∧ zz.2.2.1 ≤ 6 ∧ p ≤ zz.2.2.2 ∧ zz.2.2.2 ≤ p + 12) ?zcut1 ?_
  case' zcut1 => simp (maxSteps := 4000000) (disch := omega) only [go_sem, w64, AndB_of, IfB_of, IfB_no, pickE_of, pickE_no, ite_of, ite_no, tdivE, tmodE, takeAll]
  · repeat' (first | (refine IfB.dec (fun h => ?_) (fun h => ?_) <;> (try (have h2 := h; unfold inR at h2)) <;> (try simp (maxSteps := 4000000) (disch := omega) only [go_sem, w64, AndB_of, IfB_of, IfB_no, pickE_of, pickE_no, ite_of, ite_no, tdivE, tmodE, takeAll, h])) | (refine IfB.split (fun h => ?_) (fun h => ?_) <;> (try simp (maxSteps := 4000000) (disch := omega) only [go_sem, w64, AndB_of, IfB_of, IfB_no, pickE_of, pickE_no, ite_of, ite_no, tdivE, tmodE, takeAll, h])) | (apply CallB.law; (focus (apply d_odd; (repeat (first | exact hH | exact upd_same _ _ _ | rw [upd_ne _ _ (by omega)])); all_goals omega)); rintro _ _ _ ⟨x, q, hq0, hq1, rfl, rfl, rfl⟩; simp (maxSteps := 4000000) (disch := omega) only [go_sem, w64, AndB_of, IfB_of, IfB_no, pickE_of, pickE_no, ite_of, ite_no, tdivE, tmodE, takeAll]) | (apply CallB.law; (focus (apply d_pick; (repeat (first | exact hH | exact upd_same _ _ _ | rw [upd_ne _ _ (by omega)])); all_goals omega)); rintro _ _ _ ⟨x, hx0, hx1, rfl, rfl, rfl⟩; simp (maxSteps := 4000000) (disch := omega) only [go_sem, w64, AndB_of, IfB_of, IfB_no, pickE_of, pickE_no, ite_of, ite_no, tdivE, tmodE, takeAll]))
    all_goals ((repeat' apply And.intro) <;> first | exact Flat.snoc3C ⟨cols, rfl, rfl, hP⟩ ⟨by dsimp only; omega, by dsimp only; omega⟩ ⟨by dsimp only; omega, by dsimp only; omega⟩ ⟨by dsimp only; omega, by dsimp only; omega⟩ | (exact Weak.go (by (first | (simp [wkL]; done) | (simp [wkL]; omega))) (fun zi => by first | exact .inl rfl | exact .inr rfl | (simp only [upd]; repeat' split) <;> first | exact Flat.snoc3C ⟨cols, rfl, rfl, hP⟩ ⟨by dsimp only; omega, by dsimp only; omega⟩ ⟨by dsimp only; omega, by dsimp only; omega⟩ ⟨by dsimp only; omega, by dsimp only; omega⟩ | exact .inl rfl | exact .inr rfl | (exfalso; omega) | exact .inr (hd _ (by omega)) | (left; subst_vars; exact hH.symm) | (left; subst_vars; rfl) | (left; simp; done) | (left; simp; omega)) (by omega)) | omega | rfl | assumption | exact Flat.nil | exact ⟨_, rfl, rfl, by assumption⟩ | (simp; done) | (simp; omega))
  intro zz zh
  obtain ⟨v, cells, m, q⟩ := zz
  dsimp only at zh
  obtain ⟨⟨cols, rfl, rfl, hP⟩, hm1, hm2, hq1, hq2⟩ := zh
  simp (maxSteps := 4000000) (disch := omega) only [go_sem, w64, AndB_of, IfB_of, IfB_no, pickE_of, pickE_no, ite_of, ite_no, tdivE, tmodE, takeAll]
  refine AW.of ?_
  simp (maxSteps := 4000000) (disch := omega) only [go_sem, w64, AndB_of, IfB_of, IfB_no, pickE_of, pickE_no, ite_of, ite_no, tdivE, tmodE, takeAll]
  refine ⟨_, _, (by repeat (first | exact OldR.base hH | refine OldR.set ?_ | refine OldR.new (by omega) ?_ | exact OldW.refl | refine OldW.new (by omega) ?_ | refine OldW.rd ?_)), (by simp [pureL, pureA, bytesCells_pure]), ?_⟩
  exact ⟨cols, q, by omega, by omega, by omega, by omega, hP, rfl, rfl⟩
theorem like_text : ∀ s ∈ ([⟨#[]⟩, ⟨#[97]⟩, ⟨#[98]⟩, ⟨#[97, 98]⟩] : List ByteArray), (⟨2, 0, s⟩ : GVal).Ok ∧ s.size ≤ 2 := by decide
theorem d_like {H : AH} {nx rid : Nat} {bs : ByteArray} {p : Int} (c : GCol) (hr : rid < nx) (hH : H rid = .live 0 [.sl bs.size false (bytesCells bs), .int .i64 (p)]) (hd : ∀ i, nx ≤ i → H i = .dead) (hp0 : 0 ≤ p) (hp : p ≤ 900000000) (hb : bs.size ≤ 2000) :
    ACallD Try.prog 141 [.ptr rid 0 0, .agg [.int .i64 c.k, .bool c.e]] H nx (fun r H' nx' => ∃ (v : GVal) (q : Int), p ≤ q ∧ q ≤ p + 2 ∧ v.Ok ∧ v.s.size ≤ 2 ∧ (0 ≤ v.n ∧ v.n ≤ 3) ∧ r = .agg [.int .i64 v.k, .int .i64 v.n, .str v.s] ∧ H' = upd H rid (.live 0 [.sl bs.size false (bytesCells bs), .int .i64 (q)]) ∧ nx' = nx) := by
  refine ACallD.finR 1 rid hr ?_
  refine dcall_body mixed Try.func141 _ (by unfold Try.f141; rfl) Try.ntmps141 Try.results141 (by decide) (by simp) ?_
  simp (maxSteps := 4000000) (disch := omega) only [go_sem, w64, AndB_of, IfB_of, IfB_no, pickE_of, pickE_no, ite_of, ite_no, tdivE, tmodE, takeAll]
  repeat' (first | (refine IfB.dec (fun h => ?_) (fun h => ?_) <;> (try (have h2 := h; unfold inR at h2)) <;> (try simp (maxSteps := 4000000) (disch := omega) only [go_sem, w64, AndB_of, IfB_of, IfB_no, pickE_of, pickE_no, ite_of, ite_no, tdivE, tmodE, takeAll, h])) | (refine IfB.split (fun h => ?_) (fun h => ?_) <;> (try simp (maxSteps := 4000000) (disch := omega) only [go_sem, w64, AndB_of, IfB_of, IfB_no, pickE_of, pickE_no, ite_of, ite_no, tdivE, tmodE, takeAll, h])) | (apply CallB.law; (focus (apply d_pick; (repeat (first | exact hH | exact upd_same _ _ _ | rw [upd_ne _ _ (by omega)])); all_goals omega)); rintro _ _ _ ⟨x, hx0, hx1, rfl, rfl, rfl⟩; simp (maxSteps := 4000000) (disch := omega) only [go_sem, w64, AndB_of, IfB_of, IfB_no, pickE_of, pickE_no, ite_of, ite_no, tdivE, tmodE, takeAll]))
  all_goals first
    | (obtain ⟨z, hz, he⟩ := getD_strs [⟨#[]⟩, ⟨#[97]⟩, ⟨#[98]⟩, ⟨#[97, 98]⟩] x.toNat (by simp; omega)
       simp only [List.map_cons, List.map_nil] at he
       have hz2 := like_text z hz
       simp (maxSteps := 4000000) (disch := omega) only [go_sem, w64, AndB_of, IfB_of, IfB_no, pickE_of, pickE_no, ite_of, ite_no, tdivE, tmodE, takeAll, he]
       refine ⟨_, _, (by repeat (first | exact OldR.base hH | refine OldR.set ?_ | refine OldR.new (by omega) ?_ | exact OldW.refl | refine OldW.new (by omega) ?_ | refine OldW.rd ?_)), (by simp [pureL, pureA, bytesCells_pure]), ?_⟩
       exact ⟨⟨_, _, _⟩, _, by omega, by omega, hz2.1, hz2.2, ⟨by (first | omega | (simp; done)), by (first | omega | (simp; done))⟩, rfl, rfl⟩)
    | (refine ⟨_, _, (by repeat (first | exact OldR.base hH | refine OldR.set ?_ | refine OldR.new (by omega) ?_ | exact OldW.refl | refine OldW.new (by omega) ?_ | refine OldW.rd ?_)), (by simp [pureL, pureA, bytesCells_pure]), ?_⟩
       exact ⟨⟨_, _, _⟩, _, by omega, by omega, by (unfold GVal.Ok inR; first | (simp; done) | (simp; omega)), by simp, ⟨by (first | omega | (simp; done) | (simp; omega)), by (first | omega | (simp; done) | (simp; omega))⟩, rfl, rfl⟩)
theorem d_fit {H : AH} {nx rid : Nat} {bs : ByteArray} {p n : Int} (cols : List GCol) (hr : rid < nx) (hH : H rid = .live 0 [.sl bs.size false (bytesCells bs), .int .i64 (p)]) (hd : ∀ i, nx ≤ i → H i = .dead) (hp0 : 0 ≤ p) (hp : p ≤ 800000000) (hb : bs.size ≤ 2000) (hn0 : -1000000000 ≤ n) (hn : n ≤ 1000000000) (hc : cols.length ≤ 10) :
    ACallD Try.prog 87 [.ptr rid 0 0, colsA cols, .int .i64 n] H nx (fun r H' nx' => ∃ (l : GRow) (q : Int), p ≤ q ∧ q ≤ p + 100 ∧ l.length ≤ cols.length + 3 ∧ (∀ v ∈ l, PV v) ∧ r = rowA l ∧ H' = upd H rid (.live 0 [.sl bs.size false (bytesCells bs), .int .i64 (q)]) ∧ nx' = nx) := by
  refine ACallD.finR 1 rid hr ?_
  refine wcall_body mixed Try.func87 _ (by unfold Try.f87; rfl) Try.ntmps87 Try.results87 (by decide) (by simp) ?_
  unfold colsA
  simp (maxSteps := 4000000) (disch := omega) only [go_sem, w64, AndB_of, IfB_of, IfB_no, pickE_of, pickE_no, ite_of, ite_no, tdivE, tmodE, takeAll]
  refine AW.step ?_
  simp (maxSteps := 4000000) (disch := omega) only [go_sem, w64, AndB_of, IfB_of, IfB_no, pickE_of, pickE_no, ite_of, ite_no, tdivE, tmodE, takeAll]
  refine AW.step ?_
  simp (maxSteps := 4000000) (disch := omega) only [go_sem, w64, AndB_of, IfB_of, IfB_no, pickE_of, pickE_no, ite_of, ite_no, tdivE, tmodE, takeAll]
  refine AW.cut (fun zs => (verOf (blkOf zs (nx)), cellsOf (blkOf zs (nx)), mlenOf (slotOf zs 7), intOf (nthA (cellsOf (blkOf zs (rid))) 1))) (fun zz => [(0, none), (1, none), (4, some (.msl nx zz.1 3 0 zz.2.2.1))]) (fun zz => upd (upd H nx (.live zz.1 zz.2.1)) rid (.live 0 [.sl bs.size false (bytesCells bs), .int .i64 (zz.2.2.2)])) (fun zz => nx + 20) (fun zz => Flat GVal.c PV zz.2.1 zz.2.2.1 ∧ zz.2.2.1 ≤ cols.length ∧ p ≤ zz.2.2.2 ∧ zz.2.2.2 ≤ p + 20) ?zcut2 ?_
  case' zcut2 => simp (maxSteps := 4000000) (disch := omega) only [go_sem, w64, AndB_of, IfB_of, IfB_no, pickE_of, pickE_no, ite_of, ite_no, tdivE, tmodE, takeAll]
  · refine LoopB.auto (fun zs => ((intOf (slotOf zs 8)).toNat, verOf (blkOf zs (nx)), cellsOf (blkOf zs (nx)), intOf (nthA (cellsOf (blkOf zs (rid))) 1))) (fun zz => [(0, none), (0, none), (0, none), (4, some (.msl nx zz.2.1 3 0 zz.1)), (0, some (.int .i64 (zz.1 : Int)))]) (fun zz => upd (upd H nx (.live zz.2.1 zz.2.2.1)) rid (.live 0 [.sl bs.size false (bytesCells bs), .int .i64 (zz.2.2.2)])) (fun zz => nx + 1 + zz.1) (fun zz => cols.length - zz.1) (fun zz => Flat GVal.c PV zz.2.2.1 zz.1 ∧ zz.1 ≤ cols.length ∧ p ≤ zz.2.2.2 ∧ zz.2.2.2 ≤ p + 2 * zz.1) (by (first | simp (maxSteps := 4000000) (disch := omega) only [go_sem, w64, AndB_of, IfB_of, IfB_no, pickE_of, pickE_no, ite_of, ite_no, tdivE, tmodE, takeAll, hH] | simp (maxSteps := 4000000) (disch := omega) only [go_sem, w64, AndB_of, IfB_of, IfB_no, pickE_of, pickE_no, ite_of, ite_no, tdivE, tmodE, takeAll]); ((repeat' apply And.intro) <;> first | (exact Weak.go (by (first | (simp [wkL]; done) | (simp [wkL]; omega))) (fun zi => by first | exact .inl rfl | exact .inr rfl | (simp only [upd]; repeat' split) <;> first | exact .inl rfl | exact .inr rfl | (exfalso; omega) | exact .inr (hd _ (by omega)) | (left; subst_vars; exact hH.symm) | (left; subst_vars; rfl) | (left; simp; done) | (left; simp; omega)) (by omega)) | omega | rfl | assumption | exact Flat.nil | exact ⟨_, rfl, rfl, by assumption⟩ | (simp; done) | (simp; omega))) ?_
    intro zz zh
    obtain ⟨k, v, cells, q⟩ := zz
    dsimp only at zh
    obtain ⟨⟨row, rfl, rfl, hP⟩, hk, hq1, hq2⟩ := zh
    simp (maxSteps := 4000000) (disch := omega) only [go_sem, w64, AndB_of, IfB_of, IfB_no, pickE_of, pickE_no, ite_of, ite_no, tdivE, tmodE, takeAll]
    refine IfB.dec (fun h => ?_) (fun h => ?_)
    · have h1 : row.length < cols.length := by omega
      simp (maxSteps := 4000000) (disch := omega) only [go_sem, w64, AndB_of, IfB_of, IfB_no, pickE_of, pickE_no, ite_of, ite_no, tdivE, tmodE, takeAll]
      apply CallB.law; (focus (apply d_like _; omega; (repeat (first | exact hH | exact upd_same _ _ _ | rw [upd_ne _ _ (by omega)])); (first | exact fun i hi => hd i (by omega) | (intro i hi; repeat (first | exact hd i (by omega) | exact rfl | rw [upd_ne _ _ (by omega)]))); all_goals omega)); rintro _ _ _ ⟨v, q, hq0, hq1, hv1, hv2, hv3, rfl, rfl, rfl⟩
      simp (maxSteps := 4000000) (disch := omega) only [go_sem, w64, AndB_of, IfB_of, IfB_no, pickE_of, pickE_no, ite_of, ite_no, tdivE, tmodE, takeAll]
      ((repeat' apply And.intro) <;> first | exact Flat.snocV ⟨row, rfl, rfl, hP⟩ ⟨by dsimp only; omega, by dsimp only; omega, by dsimp only; omega⟩ | (exact Weak.go (by (first | (simp [wkL]; done) | (simp [wkL]; omega))) (fun zi => by first | exact .inl rfl | exact .inr rfl | (simp only [upd]; repeat' split) <;> first | exact Flat.snocV ⟨row, rfl, rfl, hP⟩ ⟨by dsimp only; omega, by dsimp only; omega, by dsimp only; omega⟩ | exact .inl rfl | exact .inr rfl | (exfalso; omega) | exact .inr (hd _ (by omega)) | (left; subst_vars; exact hH.symm) | (left; subst_vars; rfl) | (left; simp; done) | (left; simp; omega)) (by omega)) | omega | rfl | assumption | exact Flat.nil | exact ⟨_, rfl, rfl, by assumption⟩ | (simp; done) | (simp; omega))
    · simp (maxSteps := 4000000) (disch := omega) only [go_sem, w64, AndB_of, IfB_of, IfB_no, pickE_of, pickE_no, ite_of, ite_no, tdivE, tmodE, takeAll]
      ((repeat' apply And.intro) <;> first | (exact Weak.go (by (first | (simp [wkL]; done) | (simp [wkL]; omega))) (fun zi => by first | exact .inl rfl | exact .inr rfl | (simp only [upd]; repeat' split) <;> first | exact .inl rfl | exact .inr rfl | (exfalso; omega) | exact .inr (hd _ (by omega)) | (left; subst_vars; exact hH.symm) | (left; subst_vars; rfl) | (left; simp; done) | (left; simp; omega)) (by omega)) | omega | rfl | assumption | exact Flat.nil | exact ⟨_, rfl, rfl, by assumption⟩ | (simp; done) | (simp; omega))
  intro zz zh
  obtain ⟨v, cells, m, q⟩ := zz
  dsimp only at zh
  obtain ⟨⟨row, rfl, rfl, hP⟩, hm, hq1, hq2⟩ := zh
  simp (maxSteps := 4000000) (disch := omega) only [go_sem, w64, AndB_of, IfB_of, IfB_no, pickE_of, pickE_no, ite_of, ite_no, tdivE, tmodE, takeAll]
  refine AW.cut (fun zs => (verOf (blkOf zs (nx)), cellsOf (blkOf zs (nx)), mlenOf (slotOf zs 7), intOf (nthA (cellsOf (blkOf zs (rid))) 1))) (fun zz => [(7, some (.msl nx zz.1 3 0 zz.2.2.1))]) (fun zz => upd (upd H nx (.live zz.1 zz.2.1)) rid (.live 0 [.sl bs.size false (bytesCells bs), .int .i64 (zz.2.2.2)])) (fun zz => nx + 40) (fun zz => Flat GVal.c PV zz.2.1 zz.2.2.1 ∧ zz.2.2.1 ≤ cols.length + 3 ∧ p ≤ zz.2.2.2 ∧ zz.2.2.2 ≤ p + 100) ?zcut3 ?_
  case' zcut3 => simp (maxSteps := 4000000) (disch := omega) only [go_sem, w64, AndB_of, IfB_of, IfB_no, pickE_of, pickE_no, ite_of, ite_no, tdivE, tmodE, takeAll]
  · repeat' (first | (refine IfB.dec (fun h => ?_) (fun h => ?_) <;> (try (have h2 := h; unfold inR at h2)) <;> (try simp (maxSteps := 4000000) (disch := omega) only [go_sem, w64, AndB_of, IfB_of, IfB_no, pickE_of, pickE_no, ite_of, ite_no, tdivE, tmodE, takeAll, h])) | (refine IfB.split (fun h => ?_) (fun h => ?_) <;> (try simp (maxSteps := 4000000) (disch := omega) only [go_sem, w64, AndB_of, IfB_of, IfB_no, pickE_of, pickE_no, ite_of, ite_no, tdivE, tmodE, takeAll, h])) | (apply CallB.law; (focus (apply d_odd; (repeat (first | exact hH | exact upd_same _ _ _ | rw [upd_ne _ _ (by omega)])); all_goals omega)); rintro _ _ _ ⟨x, q, hq0, hq1, rfl, rfl, rfl⟩; simp (maxSteps := 4000000) (disch := omega) only [go_sem, w64, AndB_of, IfB_of, IfB_no, pickE_of, pickE_no, ite_of, ite_no, tdivE, tmodE, takeAll]) | (apply CallB.law; (focus (apply d_pick; (repeat (first | exact hH | exact upd_same _ _ _ | rw [upd_ne _ _ (by omega)])); all_goals omega)); rintro _ _ _ ⟨x, hx0, hx1, rfl, rfl, rfl⟩; simp (maxSteps := 4000000) (disch := omega) only [go_sem, w64, AndB_of, IfB_of, IfB_no, pickE_of, pickE_no, ite_of, ite_no, tdivE, tmodE, takeAll]) | (apply CallB.law; (focus (apply d_value; omega; (repeat (first | exact hH | exact upd_same _ _ _ | rw [upd_ne _ _ (by omega)])); (first | exact fun i hi => hd i (by omega) | (intro i hi; repeat (first | exact hd i (by omega) | exact rfl | rw [upd_ne _ _ (by omega)]))); all_goals omega)); rintro _ _ _ ⟨v, q, hq0, hq1, hv1, hv2, rfl, rfl, rfl⟩; simp (maxSteps := 4000000) (disch := omega) only [go_sem, w64, AndB_of, IfB_of, IfB_no, pickE_of, pickE_no, ite_of, ite_no, tdivE, tmodE, takeAll]))
    all_goals ((repeat' apply And.intro) <;> first | exact Flat.snocV ⟨row, rfl, rfl, hP⟩ ⟨by simp, by simp, by simp⟩ | exact Flat.snoc3V ⟨row, rfl, rfl, hP⟩ ⟨by assumption, by assumption⟩ ⟨by assumption, by assumption⟩ ⟨by assumption, by assumption⟩ | exact Flat.put (sz := 3) GVal.len ⟨row, rfl, rfl, hP⟩ (by omega) _ ⟨by assumption, by assumption⟩ | (exact Weak.go (by (first | (simp [wkL]; done) | (simp [wkL]; omega))) (fun zi => by first | exact .inl rfl | exact .inr rfl | (simp only [upd]; repeat' split) <;> first | exact Flat.snocV ⟨row, rfl, rfl, hP⟩ ⟨by simp, by simp, by simp⟩ | exact Flat.snoc3V ⟨row, rfl, rfl, hP⟩ ⟨by assumption, by assumption⟩ ⟨by assumption, by assumption⟩ ⟨by assumption, by assumption⟩ | exact Flat.put (sz := 3) GVal.len ⟨row, rfl, rfl, hP⟩ (by omega) _ ⟨by assumption, by assumption⟩ | exact .inl rfl | exact .inr rfl | (exfalso; omega) | exact .inr (hd _ (by omega)) | (left; subst_vars; exact hH.symm) | (left; subst_vars; rfl) | (left; simp; done) | (left; simp; omega)) (by omega)) | omega | rfl | assumption | exact Flat.nil | exact ⟨_, rfl, rfl, by assumption⟩ | (simp; done) | (simp; omega))
  intro zz zh
  obtain ⟨v, cells, m, q⟩ := zz
  dsimp only at zh
  obtain ⟨⟨row, rfl, rfl, hP⟩, hm, hq1, hq2⟩ := zh
  simp (maxSteps := 4000000) (disch := omega) only [go_sem, w64, AndB_of, IfB_of, IfB_no, pickE_of, pickE_no, ite_of, ite_no, tdivE, tmodE, takeAll]
  refine AW.of ?_
  simp (maxSteps := 4000000) (disch := omega) only [go_sem, w64, AndB_of, IfB_of, IfB_no, pickE_of, pickE_no, ite_of, ite_no, tdivE, tmodE, takeAll]
  refine ⟨_, _, (by repeat (first | exact OldR.base hH | refine OldR.set ?_ | refine OldR.new (by omega) ?_ | exact OldW.refl | refine OldW.new (by omega) ?_ | refine OldW.rd ?_)), (by simp [pureL, pureA, bytesCells_pure]), ?_⟩
  exact ⟨row, q, by omega, by omega, by omega, hP, rfl, rfl⟩
theorem q_l3Own (l : GRow) (hl : l.length ≤ 1048576) : QCall Try.prog 65 [rowA l] (rowA l) := by
  refine qcall_body mixed Try.func65 _ (by unfold Try.f65; rfl) Try.ntmps65 Try.results65 (by decide) 1 (by simp) (by simp [pureL, pureA]) ?_
  unfold rowA
  simp (maxSteps := 4000000) (disch := omega) only [go_sem, w64, AndB_of, IfB_of, IfB_no, pickE_of, pickE_no, ite_of, ite_no, tdivE, tmodE, takeAll]
def PR (k : Nat) (r : GRow) : Prop := r.length ≤ k ∧ ∀ v ∈ r, PV v
theorem d_bag {H : AH} {nx rid : Nat} {bs : ByteArray} {p n : Int} (cols : List GCol) (hr : rid < nx) (hH : H rid = .live 0 [.sl bs.size false (bytesCells bs), .int .i64 (p)]) (hd : ∀ i, nx ≤ i → H i = .dead) (hp0 : 0 ≤ p) (hp : p ≤ 700000000) (hb : bs.size ≤ 2000) (hn0 : -1000000000 ≤ n) (hn : n ≤ 1000000000) (hc : cols.length ≤ 10) :
    ACallD Try.prog 158 [.ptr rid 0 0, colsA cols, .int .i64 n] H nx (fun r H' nx' => ∃ (l : List GRow) (q : Int), p ≤ q ∧ q ≤ p + 2000 ∧ l.length ≤ 6 ∧ (∀ r ∈ l, PR (cols.length + 3) r) ∧ r = rowsA l ∧ H' = upd H rid (.live 0 [.sl bs.size false (bytesCells bs), .int .i64 (q)]) ∧ nx' = nx) := by
  refine ACallD.finR 1 rid hr ?_
  refine wcall_body mixed Try.func158 _ (by unfold Try.f158; rfl) Try.ntmps158 Try.results158 (by decide) (by simp) ?_
  simp (maxSteps := 4000000) (disch := omega) only [go_sem, w64, AndB_of, IfB_of, IfB_no, pickE_of, pickE_no, ite_of, ite_no, tdivE, tmodE, takeAll]
  refine AW.step ?_
  simp (maxSteps := 4000000) (disch := omega) only [go_sem, w64, AndB_of, IfB_of, IfB_no, pickE_of, pickE_no, ite_of, ite_no, tdivE, tmodE, takeAll]
  refine AW.step ?_
  simp (maxSteps := 4000000) (disch := omega) only [go_sem, w64, AndB_of, IfB_of, IfB_no, pickE_of, pickE_no, ite_of, ite_no, tdivE, tmodE, takeAll]
  refine AW.cut (fun zs => (verOf (blkOf zs (nx)), cellsOf (blkOf zs (nx)), mlenOf (slotOf zs 7), intOf (nthA (cellsOf (blkOf zs (rid))) 1))) (fun zz => [(7, some (.msl nx zz.1 1 0 zz.2.2.1))]) (fun zz => upd (upd H nx (.live zz.1 zz.2.1)) rid (.live 0 [.sl bs.size false (bytesCells bs), .int .i64 (zz.2.2.2)])) (fun zz => nx + 20) (fun zz => Flat cR (PR (cols.length + 3)) zz.2.1 zz.2.2.1 ∧ zz.2.2.1 ≤ 6 ∧ p ≤ zz.2.2.2 ∧ zz.2.2.2 ≤ p + 2000) ?zcut4 ?_
  case' zcut4 => simp (maxSteps := 4000000) (disch := omega) only [go_sem, w64, AndB_of, IfB_of, IfB_no, pickE_of, pickE_no, ite_of, ite_no, tdivE, tmodE, takeAll]
  · apply CallB.law; (focus (apply d_pick; (repeat (first | exact hH | exact upd_same _ _ _ | rw [upd_ne _ _ (by omega)])); all_goals omega)); rintro _ _ _ ⟨x, hx0, hx1, rfl, rfl, rfl⟩
    simp (maxSteps := 4000000) (disch := omega) only [go_sem, w64, AndB_of, IfB_of, IfB_no, pickE_of, pickE_no, ite_of, ite_no, tdivE, tmodE, takeAll]
    refine LoopB.auto (fun zs => (intOf (slotOf zs 8), verOf (blkOf zs (nx)), cellsOf (blkOf zs (nx)), mlenOf (slotOf zs 7), intOf (nthA (cellsOf (blkOf zs (rid))) 1))) (fun zz => [(0, none), (0, none), (0, none), (4, some (.msl nx zz.2.1 1 0 zz.2.2.2.1)), (0, some (.int .i64 (zz.1 : Int)))]) (fun zz => upd (upd H nx (.live zz.2.1 zz.2.2.1)) rid (.live 0 [.sl bs.size false (bytesCells bs), .int .i64 (zz.2.2.2.2)])) (fun zz => nx + 1 + zz.2.2.2.1) (fun zz => zz.1.toNat) (fun zz => Flat cR (PR (cols.length + 3)) zz.2.2.1 zz.2.2.2.1 ∧ 0 ≤ zz.1 ∧ zz.2.2.2.1 + zz.1 ≤ 6 ∧ p ≤ zz.2.2.2.2 ∧ zz.2.2.2.2 ≤ p + 1 + 200 * zz.2.2.2.1) (by (first | simp (maxSteps := 4000000) (disch := omega) only [go_sem, w64, AndB_of, IfB_of, IfB_no, pickE_of, pickE_no, ite_of, ite_no, tdivE, tmodE, takeAll, hH] | simp (maxSteps := 4000000) (disch := omega) only [go_sem, w64, AndB_of, IfB_of, IfB_no, pickE_of, pickE_no, ite_of, ite_no, tdivE, tmodE, takeAll]); ((repeat' apply And.intro) <;> first | (exact Weak.go (by (first | (simp [wkL]; done) | (simp [wkL]; omega))) (fun zi => by first | exact .inl rfl | exact .inr rfl | (simp only [upd]; repeat' split) <;> first | exact .inl rfl | exact .inr rfl | (exfalso; omega) | exact .inr (hd _ (by omega)) | (left; subst_vars; exact hH.symm) | (left; subst_vars; rfl) | (left; simp; done) | (left; simp; omega)) (by omega)) | omega | rfl | assumption | exact Flat.nil | exact ⟨_, rfl, rfl, by assumption⟩ | (simp; done) | (simp; omega))) ?_
    intro zz zh
    obtain ⟨k, v, cells, m, q⟩ := zz
    dsimp only at zh
    obtain ⟨⟨rows, rfl, rfl, hP⟩, hk, hm, hq1, hq2⟩ := zh
    simp (maxSteps := 4000000) (disch := omega) only [go_sem, w64, AndB_of, IfB_of, IfB_no, pickE_of, pickE_no, ite_of, ite_no, tdivE, tmodE, takeAll]
    refine IfB.dec (fun h => ?_) (fun h => ?_)
    · simp (maxSteps := 4000000) (disch := omega) only [go_sem, w64, AndB_of, IfB_of, IfB_no, pickE_of, pickE_no, ite_of, ite_no, tdivE, tmodE, takeAll]
      repeat' (first | (refine IfB.dec (fun h => ?_) (fun h => ?_) <;> (try (have h2 := h; unfold inR at h2)) <;> (try simp (maxSteps := 4000000) (disch := omega) only [go_sem, w64, AndB_of, IfB_of, IfB_no, pickE_of, pickE_no, ite_of, ite_no, tdivE, tmodE, takeAll, h])) | (refine IfB.split (fun h => ?_) (fun h => ?_) <;> (try simp (maxSteps := 4000000) (disch := omega) only [go_sem, w64, AndB_of, IfB_of, IfB_no, pickE_of, pickE_no, ite_of, ite_no, tdivE, tmodE, takeAll, h])) | (apply CallB.law; (focus (apply d_pick; (repeat (first | exact hH | exact upd_same _ _ _ | rw [upd_ne _ _ (by omega)])); all_goals omega)); rintro _ _ _ ⟨x, hx0, hx1, rfl, rfl, rfl⟩; simp (maxSteps := 4000000) (disch := omega) only [go_sem, w64, AndB_of, IfB_of, IfB_no, pickE_of, pickE_no, ite_of, ite_no, tdivE, tmodE, takeAll]) | (apply CallB.law; (focus (apply d_fit _; omega; (repeat (first | exact hH | exact upd_same _ _ _ | rw [upd_ne _ _ (by omega)])); (first | exact fun i hi => hd i (by omega) | (intro i hi; repeat (first | exact hd i (by omega) | exact rfl | rw [upd_ne _ _ (by omega)]))); all_goals omega)); rintro _ _ _ ⟨row, q, hq0, hq1, hr1, hr2, rfl, rfl, rfl⟩; simp (maxSteps := 4000000) (disch := omega) only [go_sem, w64, AndB_of, IfB_of, IfB_no, pickE_of, pickE_no, ite_of, ite_no, tdivE, tmodE, takeAll]))
      all_goals (try (have hx : x.toNat < rows.length := by omega))
      all_goals (try (have hp1 := hP _ (List.getElem_mem hx)))
      all_goals first
        | (apply CallB.q (q_l3Own rows[x.toNat] (by have := hp1.1; omega))
           simp (maxSteps := 4000000) (disch := omega) only [go_sem, w64, AndB_of, IfB_of, IfB_no, pickE_of, pickE_no, ite_of, ite_no, tdivE, tmodE, takeAll]
           ((repeat' apply And.intro) <;> first | exact Flat.snocR ⟨rows, rfl, rfl, hP⟩ hp1 | (exact Weak.go (by (first | (simp [wkL]; done) | (simp [wkL]; omega))) (fun zi => by first | exact .inl rfl | exact .inr rfl | (simp only [upd]; repeat' split) <;> first | exact Flat.snocR ⟨rows, rfl, rfl, hP⟩ hp1 | exact .inl rfl | exact .inr rfl | (exfalso; omega) | exact .inr (hd _ (by omega)) | (left; subst_vars; exact hH.symm) | (left; subst_vars; rfl) | (left; simp; done) | (left; simp; omega)) (by omega)) | omega | rfl | assumption | exact Flat.nil | exact ⟨_, rfl, rfl, by assumption⟩ | (simp; done) | (simp; omega)))
        | ((repeat' apply And.intro) <;> first | exact Flat.snocR ⟨rows, rfl, rfl, hP⟩ ⟨by assumption, by assumption⟩ | (exact Weak.go (by (first | (simp [wkL]; done) | (simp [wkL]; omega))) (fun zi => by first | exact .inl rfl | exact .inr rfl | (simp only [upd]; repeat' split) <;> first | exact Flat.snocR ⟨rows, rfl, rfl, hP⟩ ⟨by assumption, by assumption⟩ | exact .inl rfl | exact .inr rfl | (exfalso; omega) | exact .inr (hd _ (by omega)) | (left; subst_vars; exact hH.symm) | (left; subst_vars; rfl) | (left; simp; done) | (left; simp; omega)) (by omega)) | omega | rfl | assumption | exact Flat.nil | exact ⟨_, rfl, rfl, by assumption⟩ | (simp; done) | (simp; omega))
    · simp (maxSteps := 4000000) (disch := omega) only [go_sem, w64, AndB_of, IfB_of, IfB_no, pickE_of, pickE_no, ite_of, ite_no, tdivE, tmodE, takeAll]
      ((repeat' apply And.intro) <;> first | (exact Weak.go (by (first | (simp [wkL]; done) | (simp [wkL]; omega))) (fun zi => by first | exact .inl rfl | exact .inr rfl | (simp only [upd]; repeat' split) <;> first | exact .inl rfl | exact .inr rfl | (exfalso; omega) | exact .inr (hd _ (by omega)) | (left; subst_vars; exact hH.symm) | (left; subst_vars; rfl) | (left; simp; done) | (left; simp; omega)) (by omega)) | omega | rfl | assumption | exact Flat.nil | exact ⟨_, rfl, rfl, by assumption⟩ | (simp; done) | (simp; omega))
  intro zz zh
  obtain ⟨v, cells, m, q⟩ := zz
  dsimp only at zh
  obtain ⟨⟨rows, rfl, rfl, hP⟩, hm, hq1, hq2⟩ := zh
  simp (maxSteps := 4000000) (disch := omega) only [go_sem, w64, AndB_of, IfB_of, IfB_no, pickE_of, pickE_no, ite_of, ite_no, tdivE, tmodE, takeAll]
  refine AW.of ?_
  simp (maxSteps := 4000000) (disch := omega) only [go_sem, w64, AndB_of, IfB_of, IfB_no, pickE_of, pickE_no, ite_of, ite_no, tdivE, tmodE, takeAll]
  refine ⟨_, _, (by repeat (first | exact OldR.base hH | refine OldR.set ?_ | refine OldR.new (by omega) ?_ | exact OldW.refl | refine OldW.new (by omega) ?_ | refine OldW.rd ?_)), (by simp [pureL, pureA, bytesCells_pure]), ?_⟩
  exact ⟨rows, q, by omega, by omega, by omega, hP, rfl, rfl⟩
end Go.TH
