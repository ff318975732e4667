/- TH: draws: rows that fit just so; batches. Made by gen.py. -/
import Derived.Test.YtbhibkochjfdfaaTf3
import Derived.Test.YtbhibkochjfdfaaTad3
import Derived.Test.YtbhibkochjfdfaaTf4
namespace Go.TH
open Go Go.Proofs
set_option linter.unusedSimpArgs false
set_option linter.unusedVariables false
set_option maxHeartbeats 20000000
set_option maxRecDepth 100000
theorem d_odd0 {H : AH} {nx rid : Nat} {bs : ByteArray} {p : Int} (hH : H rid = .live 0 [.sl bs.size false (bytesCells bs), .int .i64 (p)]) :
    ACallD Try.prog 141 [.ptr rid 0 0, .int .i64 0] H nx (fun r H' nx' => r = .bool false ∧ H' = H ∧ nx' = nx) := by
  refine dcall_body mixed Try.func141 _ (by unfold Try.f141; rfl) Try.ntmps141 Try.results141 (by decide) (by simp) ?_
  simp (maxSteps := 4000000) (disch := omega) only [go_sem, w64, AndB_of, IfB_of, IfB_no, pickE_of, pickE_no, ite_of, ite_no, tdivE, tmodE, takeAll, hH]
theorem d_fit0 {H : AH} {nx rid : Nat} {bs : ByteArray} {p : Int} (cols : List GCol) (hr : rid < nx) (hH : H rid = .live 0 [.sl bs.size false (bytesCells bs), .int .i64 (p)]) (hd : ∀ i, nx ≤ i → H i = .dead) (hp0 : 0 ≤ p) (hp : p ≤ 800000000) (hb : bs.size ≤ 2000) (hc : cols.length ≤ 10) :
    ACallD Try.prog 139 [.ptr rid 0 0, colsA cols, .int .i64 0] H nx (fun r H' nx' => ∃ (l : GRow) (q : Int), p ≤ q ∧ q ≤ p + 20 ∧ l.length = cols.length ∧ (∀ v ∈ l, PV v) ∧ r = rowA l ∧ H' = upd H rid (.live 0 [.sl bs.size false (bytesCells bs), .int .i64 (q)]) ∧ nx' = nx) := by
  refine ACallD.finR 1 rid hr ?_
  refine wcall_body mixed Try.func139 _ (by unfold Try.f139; rfl) Try.ntmps139 Try.results139 (by decide) (by simp) ?_
  unfold colsA
  simp (maxSteps := 4000000) (disch := omega) only [go_sem, w64, AndB_of, IfB_of, IfB_no, pickE_of, pickE_no, ite_of, ite_no, tdivE, tmodE, takeAll]
  refine AW.step ?_
  simp (maxSteps := 4000000) (disch := omega) only [go_sem, w64, AndB_of, IfB_of, IfB_no, pickE_of, pickE_no, ite_of, ite_no, tdivE, tmodE, takeAll]
  refine AW.step ?_
  simp (maxSteps := 4000000) (disch := omega) only [go_sem, w64, AndB_of, IfB_of, IfB_no, pickE_of, pickE_no, ite_of, ite_no, tdivE, tmodE, takeAll]
  refine AW.cut (fun zs => (verOf (blkOf zs (nx)), cellsOf (blkOf zs (nx)), mlenOf (slotOf zs 7), intOf (nthA (cellsOf (blkOf zs (rid))) 1))) (fun zz => [(0, none), (1, none), (4, some (.msl nx zz.1 3 0 zz.2.2.1))]) (fun zz => upd (upd H nx (.live zz.1 zz.2.1)) rid (.live 0 [.sl bs.size false (bytesCells bs), .int .i64 (zz.2.2.2)])) (fun zz => nx + 20) (fun zz => Flat GVal.c PV zz.2.1 zz.2.2.1 ∧ zz.2.2.1 = cols.length ∧ p ≤ zz.2.2.2 ∧ zz.2.2.2 ≤ p + 20) ?zcut0 ?_
  case' zcut0 => simp (maxSteps := 4000000) (disch := omega) only [go_sem, w64, AndB_of, IfB_of, IfB_no, pickE_of, pickE_no, ite_of, ite_no, tdivE, tmodE, takeAll]
  · refine LoopB.auto (fun zs => ((intOf (slotOf zs 8)).toNat, verOf (blkOf zs (nx)), cellsOf (blkOf zs (nx)), intOf (nthA (cellsOf (blkOf zs (rid))) 1))) (fun zz => [(0, none), (0, none), (0, none), (4, some (.msl nx zz.2.1 3 0 zz.1)), (0, some (.int .i64 (zz.1 : Int)))]) (fun zz => upd (upd H nx (.live zz.2.1 zz.2.2.1)) rid (.live 0 [.sl bs.size false (bytesCells bs), .int .i64 (zz.2.2.2)])) (fun zz => nx + 1 + zz.1) (fun zz => cols.length - zz.1) (fun zz => Flat GVal.c PV zz.2.2.1 zz.1 ∧ zz.1 ≤ cols.length ∧ p ≤ zz.2.2.2 ∧ zz.2.2.2 ≤ p + 2 * zz.1) (by (first | simp (maxSteps := 4000000) (disch := omega) only [go_sem, w64, AndB_of, IfB_of, IfB_no, pickE_of, pickE_no, ite_of, ite_no, tdivE, tmodE, takeAll, hH] | simp (maxSteps := 4000000) (disch := omega) only [go_sem, w64, AndB_of, IfB_of, IfB_no, pickE_of, pickE_no, ite_of, ite_no, tdivE, tmodE, takeAll]); ((repeat' apply And.intro) <;> first | (exact Weak.go (by (first | (simp [wkL]; done) | (simp [wkL]; omega))) (fun zi => by first | exact .inl rfl | exact .inr rfl | (simp only [upd]; repeat' split) <;> first | exact .inl rfl | exact .inr rfl | (exfalso; omega) | exact .inr (hd _ (by omega)) | (left; subst_vars; exact hH.symm) | (left; subst_vars; rfl) | (left; simp; done) | (left; simp; omega)) (by omega)) | omega | rfl | assumption | exact Flat.nil | exact ⟨_, rfl, rfl, by assumption⟩ | (simp; done) | (simp; omega))) ?_
    intro zz zh
    obtain ⟨k, v, cells, q⟩ := zz
    dsimp only at zh
    obtain ⟨⟨row, rfl, rfl, hP⟩, hk, hq1, hq2⟩ := zh
    simp (maxSteps := 4000000) (disch := omega) only [go_sem, w64, AndB_of, IfB_of, IfB_no, pickE_of, pickE_no, ite_of, ite_no, tdivE, tmodE, takeAll]
    refine IfB.dec (fun h => ?_) (fun h => ?_)
    · have h1 : row.length < cols.length := by omega
      simp (maxSteps := 4000000) (disch := omega) only [go_sem, w64, AndB_of, IfB_of, IfB_no, pickE_of, pickE_no, ite_of, ite_no, tdivE, tmodE, takeAll]
      apply CallB.law; (focus (apply d_like _; omega; (repeat (first | exact hH | exact upd_same _ _ _ | rw [upd_ne _ _ (by omega)])); (first | exact fun i hi => hd i (by omega) | (intro i hi; repeat (first | exact hd i (by omega) | exact rfl | rw [upd_ne _ _ (by omega)]))); all_goals omega)); rintro _ _ _ ⟨v, q, hq0, hq1, hv1, hv2, hv3, rfl, rfl, rfl⟩
      simp (maxSteps := 4000000) (disch := omega) only [go_sem, w64, AndB_of, IfB_of, IfB_no, pickE_of, pickE_no, ite_of, ite_no, tdivE, tmodE, takeAll]
      ((repeat' apply And.intro) <;> first | exact Flat.snocV ⟨row, rfl, rfl, hP⟩ ⟨by dsimp only; omega, by dsimp only; omega, by dsimp only; omega⟩ | (exact Weak.go (by (first | (simp [wkL]; done) | (simp [wkL]; omega))) (fun zi => by first | exact .inl rfl | exact .inr rfl | (simp only [upd]; repeat' split) <;> first | exact Flat.snocV ⟨row, rfl, rfl, hP⟩ ⟨by dsimp only; omega, by dsimp only; omega, by dsimp only; omega⟩ | exact .inl rfl | exact .inr rfl | (exfalso; omega) | exact .inr (hd _ (by omega)) | (left; subst_vars; exact hH.symm) | (left; subst_vars; rfl) | (left; simp; done) | (left; simp; omega)) (by omega)) | omega | rfl | assumption | exact Flat.nil | exact ⟨_, rfl, rfl, by assumption⟩ | (simp; done) | (simp; omega))
    · simp (maxSteps := 4000000) (disch := omega) only [go_sem, w64, AndB_of, IfB_of, IfB_no, pickE_of, pickE_no, ite_of, ite_no, tdivE, tmodE, takeAll]
      ((repeat' apply And.intro) <;> first | (exact Weak.go (by (first | (simp [wkL]; done) | (simp [wkL]; omega))) (fun zi => by first | exact .inl rfl | exact .inr rfl | (simp only [upd]; repeat' split) <;> first | exact .inl rfl | exact .inr rfl | (exfalso; omega) | exact .inr (hd _ (by omega)) | (left; subst_vars; exact hH.symm) | (left; subst_vars; rfl) | (left; simp; done) | (left; simp; omega)) (by omega)) | omega | rfl | assumption | exact Flat.nil | exact ⟨_, rfl, rfl, by assumption⟩ | (simp; done) | (simp; omega))
  intro zz zh
  obtain ⟨v, cells, m, q⟩ := zz
  dsimp only at zh
  obtain ⟨⟨row, rfl, rfl, hP⟩, hm, hq1, hq2⟩ := zh
  simp (maxSteps := 4000000) (disch := omega) only [go_sem, w64, AndB_of, IfB_of, IfB_no, pickE_of, pickE_no, ite_of, ite_no, tdivE, tmodE, takeAll]
  refine AW.step ?_
  simp (maxSteps := 4000000) (disch := omega) only [go_sem, w64, AndB_of, IfB_of, IfB_no, pickE_of, pickE_no, ite_of, ite_no, tdivE, tmodE, takeAll]
  refine CallB.law (d_odd0 (by first | exact upd_same _ _ _ | rw [upd_ne _ _ (by omega), upd_same])) ?_
  rintro _ _ _ ⟨rfl, rfl, rfl⟩
  simp (maxSteps := 4000000) (disch := omega) only [go_sem, w64, AndB_of, IfB_of, IfB_no, pickE_of, pickE_no, ite_of, ite_no, tdivE, tmodE, takeAll]
  refine AW.of ?_
  simp (maxSteps := 4000000) (disch := omega) only [go_sem, w64, AndB_of, IfB_of, IfB_no, pickE_of, pickE_no, ite_of, ite_no, tdivE, tmodE, takeAll]
  refine ⟨_, _, (by repeat (first | exact OldR.base hH | refine OldR.set ?_ | refine OldR.new (by omega) ?_ | exact OldW.refl | refine OldW.new (by omega) ?_ | refine OldW.rd ?_)), (by simp [pureL, pureA, bytesCells_pure]), ?_⟩
  exact ⟨row, q, by omega, by omega, by omega, hP, rfl, rfl⟩
structure L9I (H hp : AH) (nx x cv pv N k : Nat) (cells : List AV) (pk : List Bool) : Prop where
  hx : nx + 4 ≤ x
  e0 : hp nx = .live 0 [.sl 0 true [], .sl 0 true []]
  e1 : hp (nx + 1) = .live 0 [.msl (nx + 2) cv 1 0 k, .msl (nx + 3) pv 1 0 pk.length]
  hB : BtO hp (nx + 2) x (nx + 2) cv (nx + 3) pv cells pk
  hcl : cells.length = k
  hcs : ∀ a ∈ cells, ∃ i w, a = .msl i w 3 0 N
  old : ∀ i, i < nx → hp i = H i
  dead : ∀ i, x ≤ i → hp i = .dead
theorem d_l9Batch {H : AH} {nx id v : Nat} (wide : Nat) (rows : List GRow) (hw : wide ≤ 9) (hl : rows.length ≤ 8) (hs : ∀ r ∈ rows, r.length = wide ∧ ∀ v ∈ r, PVx v) (hid : id < nx) (hH : H id = .live v (flat cR rows)) (hd : ∀ i, nx ≤ i → H i = .dead) :
    ACallD Try.prog 140 [.int .i64 wide, .msl id v 1 0 rows.length] H nx (fun r H' nx' => ∃ cid cv pid pv cells pk, BtO H' nx nx' cid cv pid pv cells pk ∧ cells.length = wide ∧ pk.length = rows.length ∧ nx ≤ nx' ∧ (∀ i, i < nx → H' i = H i) ∧ (∀ i, nx' ≤ i → H' i = .dead) ∧ (∀ a ∈ cells, ∃ i w, a = .msl i w 3 0 rows.length) ∧ r = .agg [.msl cid cv 1 0 cells.length, .msl pid pv 1 0 pk.length]) := by
  have hdd := hd
  refine dcall_body mixed Try.func140 _ (by unfold Try.f140; rfl) Try.ntmps140 Try.results140 (by decide) (by simp) ?_
  simp (maxSteps := 4000000) (disch := omega) only [go_sem, w64, AndB_of, IfB_of, IfB_no, pickE_of, pickE_no, ite_of, ite_no, tdivE, tmodE, takeAll]
  refine LoopB.weak (Weak.nilH (nx + 1) 0 1 (upd_same ..) rfl) ?_
  refine LoopB.weak (Weak.nilH (nx + 1) 1 1 (by rw [upd_ne _ _ (by omega), upd_same]) rfl) ?_
  simp only [List.set_cons_succ, List.set_cons_zero]
  refine LoopB.auto (fun zs => (heapOf zs, nxOf zs, (intOf (slotOf zs 6)).toNat, verOf (blkOf zs (nx+2)), cellsOf (blkOf zs (nx+2)))) (fun zz => [(0, none), (0, none), (2, none), (0, none), (0, some (.int .i64 (zz.2.2.1 : Int)))]) (fun zz => zz.1) (fun zz => zz.2.1) (fun zz => wide - zz.2.2.1) (fun zz => zz.2.2.1 ≤ wide ∧ L9I H zz.1 nx zz.2.1 zz.2.2.2.1 0 rows.length zz.2.2.1 zz.2.2.2.2 []) (by (first | simp (maxSteps := 4000000) (disch := omega) only [go_sem, w64, AndB_of, IfB_of, IfB_no, pickE_of, pickE_no, ite_of, ite_no, tdivE, tmodE, takeAll, hH] | simp (maxSteps := 4000000) (disch := omega) only [go_sem, w64, AndB_of, IfB_of, IfB_no, pickE_of, pickE_no, ite_of, ite_no, tdivE, tmodE, takeAll]); ((repeat' apply And.intro) <;> first | exact ⟨by omega, (by simp only [upd]; repeat' (first | rfl | rw [if_pos (by omega)] | rw [if_neg (by omega)])), (by simp only [upd]; repeat' (first | rfl | rw [if_pos (by omega)] | rw [if_neg (by omega)])), ⟨(by simp only [upd]; repeat' (first | rfl | rw [if_pos (by omega)] | rw [if_neg (by omega)])), (by simp only [upd]; repeat' (first | rfl | rw [if_pos (by omega)] | rw [if_neg (by omega)])), by omega, by omega, by omega, by simp, by simp, by simp⟩, rfl, by simp, fun i hi => (by simp only [upd]; repeat' (first | rfl | rw [if_pos (by omega)] | rw [if_neg (by omega)])), fun i hi => (by rw [upd_ne _ _ (by omega), upd_ne _ _ (by omega), upd_ne _ _ (by omega), upd_ne _ _ (by omega), upd_ne _ _ (by omega)]; exact hdd _ (by omega))⟩ | (exact Weak.go (by (first | (simp [wkL]; done) | (simp [wkL]; omega))) (fun zi => by first | exact .inl rfl | exact .inr rfl | (simp only [upd]; repeat' split) <;> first | exact ⟨by omega, (by simp only [upd]; repeat' (first | rfl | rw [if_pos (by omega)] | rw [if_neg (by omega)])), (by simp only [upd]; repeat' (first | rfl | rw [if_pos (by omega)] | rw [if_neg (by omega)])), ⟨(by simp only [upd]; repeat' (first | rfl | rw [if_pos (by omega)] | rw [if_neg (by omega)])), (by simp only [upd]; repeat' (first | rfl | rw [if_pos (by omega)] | rw [if_neg (by omega)])), by omega, by omega, by omega, by simp, by simp, by simp⟩, rfl, by simp, fun i hi => (by simp only [upd]; repeat' (first | rfl | rw [if_pos (by omega)] | rw [if_neg (by omega)])), fun i hi => (by rw [upd_ne _ _ (by omega), upd_ne _ _ (by omega), upd_ne _ _ (by omega), upd_ne _ _ (by omega), upd_ne _ _ (by omega)]; exact hdd _ (by omega))⟩ | exact .inl rfl | exact .inr rfl | (exfalso; omega) | exact .inr (hd _ (by omega)) | (left; subst_vars; exact hH.symm) | (left; subst_vars; rfl) | (left; simp; done) | (left; simp; omega)) (by omega)) | omega | rfl | assumption | exact Flat.nil | exact ⟨_, rfl, rfl, by assumption⟩ | (simp; done) | (simp; omega))) ?_
  intro zz zh
  obtain ⟨hp, x, k, cv, cells⟩ := zz
  dsimp only at zh
  obtain ⟨hk, hI⟩ := zh
  simp (maxSteps := 4000000) (disch := omega) only [go_sem, w64, AndB_of, IfB_of, IfB_no, pickE_of, pickE_no, ite_of, ite_no, tdivE, tmodE, takeAll]
  have eid : hp id = .live v (flat cR rows) := by rw [hI.old id hid]; exact hH
  have e1 := hI.e1
  have hx4 := hI.hx
  have hB := hI.hB
  have hd := hI.dead
  refine IfB.dec (fun h1 => ?_) (fun h1 => ?_)
  · have h1' : k < wide := by omega
    simp (maxSteps := 4000000) (disch := omega) only [go_sem, w64, AndB_of, IfB_of, IfB_no, pickE_of, pickE_no, ite_of, ite_no, tdivE, tmodE, takeAll]
    refine LoopB.auto (fun zs => (verOf (blkOf zs (x)), cellsOf (blkOf zs (x)), nxOf zs, (intOf (slotOf zs 8)).toNat)) (fun zz => [(0, none), (0, none), (2, none), (0, none), (0, none), (0, some (.msl x zz.1 3 0 zz.2.2.2)), (0, some (.int .i64 (zz.2.2.2 : Int)))]) (fun zz => upd hp x (.live zz.1 zz.2.1)) (fun zz => zz.2.2.1) (fun zz => rows.length - zz.2.2.2) (fun zz => zz.2.2.2 ≤ rows.length ∧ x < zz.2.2.1 ∧ Flat GVal.c PVx zz.2.1 zz.2.2.2) (by (first | simp (maxSteps := 4000000) (disch := omega) only [go_sem, w64, AndB_of, IfB_of, IfB_no, pickE_of, pickE_no, ite_of, ite_no, tdivE, tmodE, takeAll, hH] | simp (maxSteps := 4000000) (disch := omega) only [go_sem, w64, AndB_of, IfB_of, IfB_no, pickE_of, pickE_no, ite_of, ite_no, tdivE, tmodE, takeAll]); ((repeat' apply And.intro) <;> first | exact Flat.nil | (exact Weak.go (by (first | (simp [wkL]; done) | (simp [wkL]; omega))) (fun zi => by first | exact .inl rfl | exact .inr rfl | (simp only [upd]; repeat' split) <;> first | exact Flat.nil | exact .inl rfl | exact .inr rfl | (exfalso; omega) | exact .inr (hd _ (by omega)) | (left; subst_vars; exact hH.symm) | (left; subst_vars; rfl) | (left; simp; done) | (left; simp; omega)) (by omega)) | omega | rfl | assumption | exact Flat.nil | exact ⟨_, rfl, rfl, by assumption⟩ | (simp; done) | (simp; omega))) ?_
    intro zz zh
    obtain ⟨w, cs, y, j⟩ := zz
    dsimp only at zh
    obtain ⟨hj, hy, hF⟩ := zh
    simp (maxSteps := 4000000) (disch := omega) only [go_sem, w64, AndB_of, IfB_of, IfB_no, pickE_of, pickE_no, ite_of, ite_no, tdivE, tmodE, takeAll]
    have eid2 : upd hp x (.live w cs) id = .live v (flat cR rows) := by rw [upd_ne _ _ (by omega)]; exact eid
    have hlen := hF.len GVal.len
    simp (maxSteps := 4000000) (disch := omega) only [go_sem, w64, AndB_of, IfB_of, IfB_no, pickE_of, pickE_no, ite_of, ite_no, tdivE, tmodE, takeAll, eid]
    refine IfB.dec (fun h2 => ?_) (fun h2 => ?_)
    · have h2' : j < rows.length := by omega
      have hr := hs _ (List.getElem_mem h2')
      have hrl : rows[j].length = wide := hr.1
      have hk3 : k < rows[j].length := by omega
      have hP := hr.2 _ (List.getElem_mem hk3)
      have er : rowA rows[j] = .sl rows[j].length false (flat GVal.c rows[j]) := rfl
      simp (maxSteps := 4000000) (disch := omega) only [go_sem, w64, AndB_of, IfB_of, IfB_no, pickE_of, pickE_no, ite_of, ite_no, tdivE, tmodE, takeAll, eid, er]
      ((repeat' apply And.intro) <;> first | exact hF.snocV hP | (exact Weak.go (by (first | (simp [wkL]; done) | (simp [wkL]; omega))) (fun zi => by first | exact .inl rfl | exact .inr rfl | (simp only [upd]; repeat' split) <;> first | exact hF.snocV hP | exact .inl rfl | exact .inr rfl | (exfalso; omega) | exact .inr (hd _ (by omega)) | (left; subst_vars; exact hH.symm) | (left; subst_vars; rfl) | (left; simp; done) | (left; simp; omega)) (by omega)) | omega | rfl | assumption | exact Flat.nil | exact ⟨_, rfl, rfl, by assumption⟩ | (simp; done) | (simp; omega))
    · obtain rfl : j = rows.length := by omega
      obtain ⟨col, rfl, hcl, hcP⟩ := hF
      have e1x : upd hp x (.live w (flat GVal.c col)) (nx + 1) = .live 0 [.msl (nx + 2) cv 1 0 k, .msl (nx + 3) 0 1 0 0] := by rw [upd_ne _ _ (by omega)]; exact e1
      have hc := hB.hc
      have hcl2 := hI.hcl
      simp (maxSteps := 4000000) (disch := omega) only [go_sem, w64, AndB_of, IfB_of, IfB_no, pickE_of, pickE_no, ite_of, ite_no, tdivE, tmodE, takeAll, e1, hc]
      have e9 : ∀ i, i ≠ x → i ≠ y → i ≠ nx + 2 → i ≠ nx + 1 → upd (upd (upd (upd hp x (.live w (flat GVal.c col))) y (.live 0 [.msl x w 3 0 rows.length])) (nx + 2) (.live (cv + 1) (cells ++ [.msl x w 3 0 rows.length]))) (nx + 1) (.live 0 [.msl (nx + 2) (cv + 1) 1 0 (k + 1), .msl (nx + 3) 0 1 0 0]) i = hp i := fun i a b c d => by rw [upd_ne _ _ d, upd_ne _ _ c, upd_ne _ _ b, upd_ne _ _ a]
      have hI2 : L9I H (upd (upd (upd (upd hp x (.live w (flat GVal.c col))) y (.live 0 [.msl x w 3 0 rows.length])) (nx + 2) (.live (cv + 1) (cells ++ [.msl x w 3 0 rows.length]))) (nx + 1) (.live 0 [.msl (nx + 2) (cv + 1) 1 0 (k + 1), .msl (nx + 3) 0 1 0 0])) nx (y + 1) (cv + 1) 0 rows.length (k + 1) (cells ++ [.msl x w 3 0 rows.length]) [] := by
        refine ⟨by omega, by rw [e9 _ (by omega) (by omega) (by omega) (by omega)]; exact hI.e0, upd_same .., ?_, by rw [List.length_append, hcl2]; rfl, fun a ha => ?_, fun i hi => by rw [e9 _ (by omega) (by omega) (by omega) (by omega)]; exact hI.old i hi, fun i hi => by rw [e9 _ (by omega) (by omega) (by omega) (by omega)]; exact hI.dead i (by omega)⟩
        · refine hB.put (by omega) (fun i a b c => ?_) (by rw [upd_ne _ _ (by omega)]; exact upd_same ..) (by rw [List.length_append]; have := List.length_singleton (a := AV.msl x w 3 0 rows.length); omega) (fun a ha => ?_)
          · by_cases d : i = nx + 1
            · omega
            · exact e9 i (by omega) (by omega) c d
          · rcases List.mem_append.1 ha with ha | ha
            · exact .inl ha
            · right
              rw [List.mem_singleton.1 ha, hcl]
              exact ⟨col, x, w, by omega, hcP, rfl, by omega, by omega, by omega, by omega, by rw [upd_ne _ _ (by omega), upd_ne _ _ (by omega), upd_ne _ _ (by omega)]; exact upd_same ..⟩
        · rcases List.mem_append.1 ha with ha | ha
          · exact hI.hcs a ha
          · exact ⟨x, w, List.mem_singleton.1 ha⟩
      ((repeat' apply And.intro) <;> first | exact hI2 | (exact Weak.go (by (first | (simp [wkL]; done) | (simp [wkL]; omega))) (fun zi => by first | exact .inl rfl | exact .inr rfl | (simp only [upd]; repeat' split) <;> first | exact hI2 | exact .inl rfl | exact .inr rfl | (exfalso; omega) | exact .inr (hd _ (by omega)) | (left; subst_vars; exact hH.symm) | (left; subst_vars; rfl) | (left; simp; done) | (left; simp; omega)) (by omega)) | omega | rfl | assumption | exact Flat.nil | exact ⟨_, rfl, rfl, by assumption⟩ | (simp; done) | (simp; omega))
  · obtain rfl : k = wide := by omega
    simp (maxSteps := 4000000) (disch := omega) only [go_sem, w64, AndB_of, IfB_of, IfB_no, pickE_of, pickE_no, ite_of, ite_no, tdivE, tmodE, takeAll]
    have hH1 := hH
    have hH := hI.hB.hp
    refine LoopB.auto (fun zs => (heapOf zs, nxOf zs, (intOf (slotOf zs 9)).toNat, verOf (blkOf zs (nx+3)))) (fun zz => [(1, none), (2, none), (0, none), (3, some (.int .i64 (zz.2.2.1 : Int)))]) (fun zz => zz.1) (fun zz => zz.2.1) (fun zz => rows.length - zz.2.2.1) (fun zz => zz.2.2.1 ≤ rows.length ∧ L9I H zz.1 nx zz.2.1 cv zz.2.2.2 rows.length k cells (List.replicate zz.2.2.1 true)) (by (first | simp (maxSteps := 4000000) (disch := omega) only [go_sem, w64, AndB_of, IfB_of, IfB_no, pickE_of, pickE_no, ite_of, ite_no, tdivE, tmodE, takeAll, hH] | simp (maxSteps := 4000000) (disch := omega) only [go_sem, w64, AndB_of, IfB_of, IfB_no, pickE_of, pickE_no, ite_of, ite_no, tdivE, tmodE, takeAll]); ((repeat' apply And.intro) <;> first | exact hI | (exact Weak.go (by (first | (simp [wkL]; done) | (simp [wkL]; omega))) (fun zi => by first | exact .inl rfl | exact .inr rfl | (simp only [upd]; repeat' split) <;> first | exact hI | exact .inl rfl | exact .inr rfl | (exfalso; omega) | exact .inr (hd _ (by omega)) | (left; subst_vars; exact hH.symm) | (left; subst_vars; rfl) | (left; simp; done) | (left; simp; omega)) (by omega)) | omega | rfl | assumption | exact Flat.nil | exact ⟨_, rfl, rfl, by assumption⟩ | (simp; done) | (simp; omega))) ?_
    intro zz zh
    obtain ⟨hp2, x2, j, pv⟩ := zz
    dsimp only at zh
    obtain ⟨hj, hI2⟩ := zh
    simp (maxSteps := 4000000) (disch := omega) only [go_sem, w64, AndB_of, IfB_of, IfB_no, pickE_of, pickE_no, ite_of, ite_no, tdivE, tmodE, takeAll]
    have f1 := hI2.e1
    have fp := hI2.hB.hp
    have hx2 := hI2.hx
    rw [List.length_replicate] at f1
    have eid2 : hp2 id = .live v (flat cR rows) := by rw [hI2.old id hid]; exact hH1
    simp (maxSteps := 4000000) (disch := omega) only [go_sem, w64, AndB_of, IfB_of, IfB_no, pickE_of, pickE_no, ite_of, ite_no, tdivE, tmodE, takeAll, eid2]
    refine IfB.dec (fun h2 => ?_) (fun h2 => ?_)
    · have h2' : j < rows.length := by omega
      have el : (flat cBo (List.replicate j true)).length = j := by rw [cBo_flen, List.length_replicate]
      have lr : (List.replicate j true).length = j := List.length_replicate
      simp (maxSteps := 4000000) (disch := omega) only [go_sem, w64, AndB_of, IfB_of, IfB_no, pickE_of, pickE_no, ite_of, ite_no, tdivE, tmodE, takeAll, f1, fp, lr, el]
      have e9 : ∀ i, i ≠ x2 → i ≠ nx + 3 → i ≠ nx + 1 → upd (upd (upd hp2 x2 (.live 0 [.bool true])) (nx + 3) (.live (pv + 1) (flat cBo (List.replicate j true) ++ [.bool true]))) (nx + 1) (.live 0 [.msl (nx + 2) cv 1 0 k, .msl (nx + 3) (pv + 1) 1 0 (j + 1)]) i = hp2 i := fun i a b c => by rw [upd_ne _ _ c, upd_ne _ _ b, upd_ne _ _ a]
      have er : flat cBo (List.replicate j true) ++ [AV.bool true] = flat cBo (List.replicate (j + 1) true) := by
        rw [List.replicate_succ', flat_append]; rfl
      have hI3 : L9I H (upd (upd (upd hp2 x2 (.live 0 [.bool true])) (nx + 3) (.live (pv + 1) (flat cBo (List.replicate j true) ++ [.bool true]))) (nx + 1) (.live 0 [.msl (nx + 2) cv 1 0 k, .msl (nx + 3) (pv + 1) 1 0 (j + 1)])) nx (x2 + 1) cv (pv + 1) rows.length k cells (List.replicate (j + 1) true) := by
        refine ⟨by omega, by rw [e9 _ (by omega) (by omega) (by omega)]; exact hI2.e0, by rw [upd_same, List.length_replicate], ?_, hI2.hcl, hI2.hcs, fun i hi => by rw [e9 _ (by omega) (by omega) (by omega)]; exact hI2.old i hi, fun i hi => by rw [e9 _ (by omega) (by omega) (by omega)]; exact hI2.dead i (by omega)⟩
        exact hI2.hB.pick (by omega) (fun i a b c => e9 i (by omega) c (by omega)) (by rw [upd_ne _ _ (by omega), upd_same, er]) (by rw [List.length_replicate]; omega)
      ((repeat' apply And.intro) <;> first | exact hI3 | (exact Weak.go (by (first | (simp [wkL]; done) | (simp [wkL]; omega))) (fun zi => by first | exact .inl rfl | exact .inr rfl | (simp only [upd]; repeat' split) <;> first | exact hI3 | exact .inl rfl | exact .inr rfl | (exfalso; omega) | exact .inr (hd _ (by omega)) | (left; subst_vars; exact hH.symm) | (left; subst_vars; rfl) | (left; simp; done) | (left; simp; omega)) (by omega)) | omega | rfl | assumption | exact Flat.nil | exact ⟨_, rfl, rfl, by assumption⟩ | (simp; done) | (simp; omega))
    · obtain rfl : j = rows.length := by omega
      simp (maxSteps := 4000000) (disch := omega) only [go_sem, w64, AndB_of, IfB_of, IfB_no, pickE_of, pickE_no, ite_of, ite_no, tdivE, tmodE, takeAll, f1, hI2.e0, fp, hI2.hB.hc]
      refine ⟨nx + 2, cv, nx + 3, pv, cells, List.replicate rows.length true, (hI2.hB.congr (Nat.le_refl _) (fun i a b => ?_)).low (by omega), hI2.hcl, List.length_replicate, by omega, fun i hi => ?_, fun i hi => ?_, hI2.hcs, ?_⟩
      · rw [upd_ne _ _ (by omega)]
      · rw [if_neg (by omega)]; exact hI2.old i hi
      · rw [if_neg (by omega)]; exact hI2.dead i hi
      · rw [hI2.hcl, List.length_replicate]
end Go.TH
