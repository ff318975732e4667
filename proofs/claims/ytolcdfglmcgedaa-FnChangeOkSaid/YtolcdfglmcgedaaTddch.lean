/- TH: draws: changes. Made by gen.py. -/
import Derived.Test.YtolcdfglmcgedaaTf3
import Derived.Test.YtolcdfglmcgedaaTddtb2
import Derived.Test.YtolcdfglmcgedaaTdch
namespace Go.TH
open Go Go.Proofs
set_option linter.unusedSimpArgs false
set_option linter.unusedVariables false
set_option maxHeartbeats 20000000
set_option maxRecDepth 100000
def PTb (t : GTb) : Prop := t.cols.length ≤ 10 ∧ t.rows.length ≤ 10 ∧ ∀ r ∈ t.rows, PRt r
theorem d_fitO {H : AH} {nx rid : Nat} {bs : ByteArray} {p : Int} (cols : List GCol) (hr : rid < nx) (hH : H rid = .live 0 [.sl bs.size false (bytesCells bs), .int .i64 (p)]) (hd : ∀ i, nx ≤ i → H i = .dead) (hp0 : 0 ≤ p) (hp : p ≤ 800000000) (hb : bs.size ≤ 2000) (hc : cols.length ≤ 10) :
    ACallD Try.prog 160 [.ptr rid 0 0, colsA cols, .int .i64 0] H nx (fun r H' nx' => ∃ (l : GRow) (q : Int), p ≤ q ∧ q ≤ p + 20 ∧ l.length = cols.length ∧ (∀ v ∈ l, PV v) ∧ r = .msl nx 0 3 0 l.length ∧ H' = upd (upd H rid (.live 0 [.sl bs.size false (bytesCells bs), .int .i64 (q)])) nx (.live 0 (flat GVal.c l)) ∧ nx' = nx + 1) := by
  refine ACallD.finR1 1 rid hr ?_
  refine wcall_body mixed Try.func160 _ (by unfold Try.f160; rfl) Try.ntmps160 Try.results160 (by decide) (by simp) ?_
  unfold colsA
  simp (maxSteps := 4000000) (disch := omega) only [go_sem, w64, AndB_of, IfB_of, IfB_no, pickE_of, pickE_no, ite_of, ite_no, tdivE, tmodE, takeAll]
  refine AW.step ?_
  simp (maxSteps := 4000000) (disch := omega) only [go_sem, w64, AndB_of, IfB_of, IfB_no, pickE_of, pickE_no, ite_of, ite_no, tdivE, tmodE, takeAll]
  refine AW.step ?_
  simp (maxSteps := 4000000) (disch := omega) only [go_sem, w64, AndB_of, IfB_of, IfB_no, pickE_of, pickE_no, ite_of, ite_no, tdivE, tmodE, takeAll]
  refine AW.cut (fun zs => (verOf (blkOf zs (nx)), cellsOf (blkOf zs (nx)), mlenOf (slotOf zs 7), intOf (nthA (cellsOf (blkOf zs (rid))) 1))) (fun zz => [(0, none), (1, none), (4, some (.msl nx zz.1 3 0 zz.2.2.1))]) (fun zz => upd (upd H nx (.live zz.1 zz.2.1)) rid (.live 0 [.sl bs.size false (bytesCells bs), .int .i64 (zz.2.2.2)])) (fun zz => nx + 20) (fun zz => Flat GVal.c PV zz.2.1 zz.2.2.1 ∧ zz.2.2.1 = cols.length ∧ p ≤ zz.2.2.2 ∧ zz.2.2.2 ≤ p + 20) ?zcut0 ?_
  case' zcut0 => simp (maxSteps := 4000000) (disch := omega) only [go_sem, w64, AndB_of, IfB_of, IfB_no, pickE_of, pickE_no, ite_of, ite_no, tdivE, tmodE, takeAll]
  · refine LoopB.auto (fun zs => ((intOf (slotOf zs 8)).toNat, verOf (blkOf zs (nx)), cellsOf (blkOf zs (nx)), intOf (nthA (cellsOf (blkOf zs (rid))) 1))) (fun zz => [(0, none), (0, none), (0, none), (4, some (.msl nx zz.2.1 3 0 zz.1)), (0, some (.int .i64 (zz.1 : Int)))]) (fun zz => upd (upd H nx (.live zz.2.1 zz.2.2.1)) rid (.live 0 [.sl bs.size false (bytesCells bs), .int .i64 (zz.2.2.2)])) (fun zz => nx + 1 + zz.1) (fun zz => cols.length - zz.1) (fun zz => Flat GVal.c PV zz.2.2.1 zz.1 ∧ zz.1 ≤ cols.length ∧ p ≤ zz.2.2.2 ∧ zz.2.2.2 ≤ p + 2 * zz.1) (by (first | simp (maxSteps := 4000000) (disch := omega) only [go_sem, w64, AndB_of, IfB_of, IfB_no, pickE_of, pickE_no, ite_of, ite_no, tdivE, tmodE, takeAll, hH] | simp (maxSteps := 4000000) (disch := omega) only [go_sem, w64, AndB_of, IfB_of, IfB_no, pickE_of, pickE_no, ite_of, ite_no, tdivE, tmodE, takeAll]); ((repeat' apply And.intro) <;> first | (exact Weak.go (by (first | (simp [wkL]; done) | (simp [wkL]; omega))) (fun zi => by first | exact .inl rfl | exact .inr rfl | (simp only [upd]; repeat' split) <;> first | exact .inl rfl | exact .inr rfl | (exfalso; omega) | exact .inr (hd _ (by omega)) | (left; subst_vars; exact hH.symm) | (left; subst_vars; rfl) | (left; simp; done) | (left; simp; omega)) (by omega)) | omega | rfl | assumption | exact Flat.nil | exact ⟨_, rfl, rfl, by assumption⟩ | (simp; done) | (simp; omega))) ?_
    intro zz zh
    obtain ⟨k, v, cells, q⟩ := zz
    dsimp only at zh
    obtain ⟨⟨row, rfl, rfl, hP⟩, hk, hq1, hq2⟩ := zh
    simp (maxSteps := 4000000) (disch := omega) only [go_sem, w64, AndB_of, IfB_of, IfB_no, pickE_of, pickE_no, ite_of, ite_no, tdivE, tmodE, takeAll]
    refine IfB.dec (fun h => ?_) (fun h => ?_)
    · have h1 : row.length < cols.length := by omega
      simp (maxSteps := 4000000) (disch := omega) only [go_sem, w64, AndB_of, IfB_of, IfB_no, pickE_of, pickE_no, ite_of, ite_no, tdivE, tmodE, takeAll]
      apply CallB.law; (focus (apply d_like _; omega; (repeat (first | exact hH | exact upd_same _ _ _ | rw [upd_ne _ _ (by omega)])); (first | exact fun i hi => hd i (by omega) | (intro i hi; repeat (first | exact hd i (by omega) | exact rfl | rw [upd_ne _ _ (by omega)]))); all_goals omega)); rintro _ _ _ ⟨v, q, hq0, hq1, hv1, hv2, hv3, rfl, rfl, rfl⟩
      simp (maxSteps := 4000000) (disch := omega) only [go_sem, w64, AndB_of, IfB_of, IfB_no, pickE_of, pickE_no, ite_of, ite_no, tdivE, tmodE, takeAll]
      ((repeat' apply And.intro) <;> first | exact Flat.snocV ⟨row, rfl, rfl, hP⟩ ⟨by dsimp only; omega, by dsimp only; omega, by dsimp only; omega⟩ | (exact Weak.go (by (first | (simp [wkL]; done) | (simp [wkL]; omega))) (fun zi => by first | exact .inl rfl | exact .inr rfl | (simp only [upd]; repeat' split) <;> first | exact Flat.snocV ⟨row, rfl, rfl, hP⟩ ⟨by dsimp only; omega, by dsimp only; omega, by dsimp only; omega⟩ | exact .inl rfl | exact .inr rfl | (exfalso; omega) | exact .inr (hd _ (by omega)) | (left; subst_vars; exact hH.symm) | (left; subst_vars; rfl) | (left; simp; done) | (left; simp; omega)) (by omega)) | omega | rfl | assumption | exact Flat.nil | exact ⟨_, rfl, rfl, by assumption⟩ | (simp; done) | (simp; omega))
    · simp (maxSteps := 4000000) (disch := omega) only [go_sem, w64, AndB_of, IfB_of, IfB_no, pickE_of, pickE_no, ite_of, ite_no, tdivE, tmodE, takeAll]
      ((repeat' apply And.intro) <;> first | (exact Weak.go (by (first | (simp [wkL]; done) | (simp [wkL]; omega))) (fun zi => by first | exact .inl rfl | exact .inr rfl | (simp only [upd]; repeat' split) <;> first | exact .inl rfl | exact .inr rfl | (exfalso; omega) | exact .inr (hd _ (by omega)) | (left; subst_vars; exact hH.symm) | (left; subst_vars; rfl) | (left; simp; done) | (left; simp; omega)) (by omega)) | omega | rfl | assumption | exact Flat.nil | exact ⟨_, rfl, rfl, by assumption⟩ | (simp; done) | (simp; omega))
  intro zz zh
  obtain ⟨v, cells, m, q⟩ := zz
  dsimp only at zh
  obtain ⟨⟨row, rfl, rfl, hP⟩, hm, hq1, hq2⟩ := zh
  simp (maxSteps := 4000000) (disch := omega) only [go_sem, w64, AndB_of, IfB_of, IfB_no, pickE_of, pickE_no, ite_of, ite_no, tdivE, tmodE, takeAll]
  refine AW.step ?_
  simp (maxSteps := 4000000) (disch := omega) only [go_sem, w64, AndB_of, IfB_of, IfB_no, pickE_of, pickE_no, ite_of, ite_no, tdivE, tmodE, takeAll]
  refine CallB.law (d_odd0 (by first | exact upd_same _ _ _ | rw [upd_ne _ _ (by omega), upd_same])) ?_
  rintro _ _ _ ⟨rfl, rfl, rfl⟩
  simp (maxSteps := 4000000) (disch := omega) only [go_sem, w64, AndB_of, IfB_of, IfB_no, pickE_of, pickE_no, ite_of, ite_no, tdivE, tmodE, takeAll]
  refine AW.of ?_
  simp (maxSteps := 4000000) (disch := omega) only [go_sem, w64, AndB_of, IfB_of, IfB_no, pickE_of, pickE_no, ite_of, ite_no, tdivE, tmodE, takeAll]
  refine ⟨_, _, nx, v, _, (by repeat (first | exact OldR.base hH | refine OldR.set ?_ | refine OldR.new (by omega) ?_ | exact OldW.refl | refine OldW.new (by omega) ?_ | refine OldW.rd ?_)), (by simp [pureL, pureA, bytesCells_pure]), Nat.le_refl _, (by rw [if_neg (by omega), if_pos rfl]), ?_⟩
  simp (maxSteps := 4000000) (disch := omega) only [go_sem, w64, AndB_of, IfB_of, IfB_no, pickE_of, pickE_no, ite_of, ite_no, tdivE, tmodE, takeAll]
  exact ⟨row, q, by omega, by omega, by omega, hP, rfl, rfl⟩
theorem o_l3Own {H : AH} {nx : Nat} (l : GRow) (hl : l.length ≤ 1048576) : ACallD Try.prog 161 [rowA l] H nx (fun r H' nx' => r = .msl nx 0 3 0 l.length ∧ H' = upd H nx (.live 0 (flat GVal.c l)) ∧ nx' = nx + 1) := by
  refine ACallD.fin1 1 ?_
  refine dcall_body mixed Try.func161 _ (by unfold Try.f161; rfl) Try.ntmps161 Try.results161 (by decide) (by simp) ?_
  unfold rowA
  simp (maxSteps := 4000000) (disch := omega) only [go_sem, w64, AndB_of, IfB_of, IfB_no, pickE_of, pickE_no, ite_of, ite_no, tdivE, tmodE, takeAll]
  refine ⟨nx, 1, _, (by repeat (first | exact OldN.refl | refine OldN.new (by omega) ?_)), Nat.le_refl _, if_pos rfl, ?_⟩
  simp (maxSteps := 4000000) (disch := omega) only [go_sem, w64, AndB_of, IfB_of, IfB_no, pickE_of, pickE_no, ite_of, ite_no, tdivE, tmodE, takeAll]
structure CI (H hp : AH) (nx rid x : Nat) (bs : ByteArray) (q : Int) (t : GTb) (c : GCh) (r w : Nat) : Prop where
  hr : hp rid = .live 0 [.sl bs.size false (bytesCells bs), .int .i64 (q)]
  old : ∀ i, i < nx → i ≠ rid → hp i = H i
  dead : ∀ i, x ≤ i → hp i = .dead
  c6 : hp nx = .live 0 [.int .i64 0, .sl 0 true [], .bool false]
  c7 : hp (nx + 1) = .live 0 [.int .i64 c.tin, .msl r w 3 0 c.row.length, .bool c.come]
  c8 : hp (nx + 2) = .live 0 [colsA t.cols, rowsA t.rows]
  cr : hp r = .live w (flat GVal.c c.row)
  r1 : nx + 3 ≤ r
  r2 : r < x
  b1 : c.row.length ≤ 100
  b2 : ∀ x ∈ c.row, x.s.size ≤ 1000
theorem CI.come {H hp : AH} {nx rid x : Nat} {bs : ByteArray} {q : Int} {t : GTb} {c : GCh} {r w : Nat} (h : CI H hp nx rid x bs q t c r w) (hr : rid < nx) (b : Bool) : CI H (upd hp (nx + 1) (.live 0 [.int .i64 c.tin, .msl r w 3 0 c.row.length, .bool b])) nx rid x bs q t ⟨c.tin, c.row, b⟩ r w := by
  obtain ⟨h1, h2, h3, h4, h5, h6, h7, h8, h9, h10, h11⟩ := h
  exact ⟨by rw [upd_ne _ _ (by omega)]; exact h1, fun i a b => by rw [upd_ne _ _ (by omega)]; exact h2 i a b, fun i a => by rw [upd_ne _ _ (by omega)]; exact h3 i a, by rw [upd_ne _ _ (by omega)]; exact h4, upd_same .., by rw [upd_ne _ _ (by omega)]; exact h6, by rw [upd_ne _ _ (by omega)]; exact h7, h8, h9, h10, h11⟩
theorem CI.tin {H hp : AH} {nx rid x : Nat} {bs : ByteArray} {q : Int} {t : GTb} {c : GCh} {r w : Nat} (h : CI H hp nx rid x bs q t c r w) (hr : rid < nx) (b : Int) : CI H (upd hp (nx + 1) (.live 0 [.int .i64 b, .msl r w 3 0 c.row.length, .bool c.come])) nx rid x bs q t ⟨b, c.row, c.come⟩ r w := by
  obtain ⟨h1, h2, h3, h4, h5, h6, h7, h8, h9, h10, h11⟩ := h
  exact ⟨by rw [upd_ne _ _ (by omega)]; exact h1, fun i a b => by rw [upd_ne _ _ (by omega)]; exact h2 i a b, fun i a => by rw [upd_ne _ _ (by omega)]; exact h3 i a, by rw [upd_ne _ _ (by omega)]; exact h4, upd_same .., by rw [upd_ne _ _ (by omega)]; exact h6, by rw [upd_ne _ _ (by omega)]; exact h7, h8, h9, h10, h11⟩
theorem CI.rd {H hp : AH} {nx rid x : Nat} {bs : ByteArray} {q : Int} {t : GTb} {c : GCh} {r w : Nat} (h : CI H hp nx rid x bs q t c r w) (hr : rid < nx) (q' : Int) : CI H (upd hp rid (.live 0 [.sl bs.size false (bytesCells bs), .int .i64 (q')])) nx rid x bs q' t c r w := by
  obtain ⟨h1, h2, h3, h4, h5, h6, h7, h8, h9, h10, h11⟩ := h
  exact ⟨upd_same .., fun i a b => by rw [upd_ne _ _ (by omega)]; exact h2 i a b, fun i a => by rw [upd_ne _ _ (by omega)]; exact h3 i a, by rw [upd_ne _ _ (by omega)]; exact h4, by rw [upd_ne _ _ (by omega)]; exact h5, by rw [upd_ne _ _ (by omega)]; exact h6, by rw [upd_ne _ _ (by omega)]; exact h7, h8, h9, h10, h11⟩
theorem CI.put {H hp : AH} {nx rid x : Nat} {bs : ByteArray} {q : Int} {t : GTb} {c : GCh} {r w : Nat} (h : CI H hp nx rid x bs q t c r w) (hr : rid < nx) (l : GRow) (b1 : l.length ≤ 100) (b2 : ∀ x ∈ l, x.s.size ≤ 1000) : CI H (upd (upd hp x (.live 0 (flat GVal.c l))) (nx + 1) (.live 0 [.int .i64 c.tin, .msl x 0 3 0 l.length, .bool c.come])) nx rid (x + 1) bs q t ⟨c.tin, l, c.come⟩ x 0 := by
  obtain ⟨h1, h2, h3, h4, h5, h6, h7, h8, h9, h10, h11⟩ := h
  exact ⟨by rw [upd_ne _ _ (by omega), upd_ne _ _ (by omega)]; exact h1, fun i a b => by rw [upd_ne _ _ (by omega), upd_ne _ _ (by omega)]; exact h2 i a b, fun i a => by rw [upd_ne _ _ (by omega), upd_ne _ _ (by omega)]; exact h3 i (by omega), by rw [upd_ne _ _ (by omega), upd_ne _ _ (by omega)]; exact h4, upd_same .., by rw [upd_ne _ _ (by omega), upd_ne _ _ (by omega)]; exact h6, by rw [upd_ne _ _ (by omega), upd_same], by omega, by omega, b1, b2⟩
theorem CI.app {H hp : AH} {nx rid x : Nat} {bs : ByteArray} {q : Int} {t : GTb} {c : GCh} {r w : Nat} (h : CI H hp nx rid x bs q t c r w) (hr : rid < nx) (hb : c.row.length ≤ 99) : CI H (upd (upd (upd hp x (.live 0 [.int .i64 0, .int .i64 0, .str ⟨#[]⟩])) r (.live (w + 1) (flat GVal.c c.row ++ [.int .i64 0, .int .i64 0, .str ⟨#[]⟩]))) (nx + 1) (.live 0 [.int .i64 c.tin, .msl r (w + 1) 3 0 (c.row.length + 1), .bool c.come])) nx rid (x + 1) bs q t ⟨c.tin, c.row ++ [⟨0, 0, ⟨#[]⟩⟩], c.come⟩ r (w + 1) := by
  obtain ⟨h1, h2, h3, h4, h5, h6, h7, h8, h9, h10, h11⟩ := h
  exact ⟨by rw [upd_ne _ _ (by omega), upd_ne _ _ (by omega), upd_ne _ _ (by omega)]; exact h1, fun i a b => by rw [upd_ne _ _ (by omega), upd_ne _ _ (by omega), upd_ne _ _ (by omega)]; exact h2 i a b, fun i a => by rw [upd_ne _ _ (by omega), upd_ne _ _ (by omega), upd_ne _ _ (by omega)]; exact h3 i (by omega), by rw [upd_ne _ _ (by omega), upd_ne _ _ (by omega), upd_ne _ _ (by omega)]; exact h4, by rw [upd_same, List.length_append]; rfl, by rw [upd_ne _ _ (by omega), upd_ne _ _ (by omega), upd_ne _ _ (by omega)]; exact h6, by rw [upd_ne _ _ (by omega), upd_same, flat_append]; rfl, by omega, by omega, by simp; omega, fun x hx => (List.mem_append.1 hx).elim (h11 x) fun h => by simp at h; subst h; decide⟩
theorem d_change {H : AH} {nx rid : Nat} {bs : ByteArray} {p n : Int} (ts : List GTb) (h1 : 1 ≤ ts.length) (h6 : ts.length ≤ 6) (hP : ∀ t ∈ ts, PTb t) (hr : rid < nx) (hH : H rid = .live 0 [.sl bs.size false (bytesCells bs), .int .i64 (p)]) (hd : ∀ i, nx ≤ i → H i = .dead) (hp0 : 0 ≤ p) (hp : p ≤ 700000000) (hb : bs.size ≤ 2000) (hn0 : -1000000000 ≤ n) (hn : n ≤ 1000000000) :
    ACallD Try.prog 110 [.ptr rid 0 0, tabsA ts, .int .i64 n] H nx (fun r H' nx' => ∃ (c : GCh) (q : Int), ChB c ∧ r = .agg [.int .i64 c.tin, rowA c.row, .bool c.come] ∧ H' = upd H rid (.live 0 [.sl bs.size false (bytesCells bs), .int .i64 (q)]) ∧ nx' = nx) := by
  have hdd := hd
  refine ACallD.finR 1 rid hr ?_
  refine wcall_body mixed Try.func110 _ (by unfold Try.f110; rfl) Try.ntmps110 Try.results110 (by decide) (by simp) ?_
  unfold tabsA
  simp (maxSteps := 4000000) (disch := omega) only [go_sem, w64, AndB_of, IfB_of, IfB_no, pickE_of, pickE_no, ite_of, ite_no, tdivE, tmodE, takeAll]
  refine AW.step ?_
  simp (maxSteps := 4000000) (disch := omega) only [go_sem, w64, AndB_of, IfB_of, IfB_no, pickE_of, pickE_no, ite_of, ite_no, tdivE, tmodE, takeAll]
  refine AW.step ?_
  simp (maxSteps := 4000000) (disch := omega) only [go_sem, w64, AndB_of, IfB_of, IfB_no, pickE_of, pickE_no, ite_of, ite_no, tdivE, tmodE, takeAll]
  refine CallB.law (d_pick (p := p) (by rw [upd_ne _ _ (by omega)]; exact hH) (by omega) (by omega) hb (by omega) (by omega)) ?_
  rintro _ _ _ ⟨tin, ht0, ht1, rfl, rfl, rfl⟩
  simp (maxSteps := 4000000) (disch := omega) only [go_sem, w64, AndB_of, IfB_of, IfB_no, pickE_of, pickE_no, ite_of, ite_no, tdivE, tmodE, takeAll]
  refine CallB.law (d_pick (p := p + 1) (upd_same ..) (by omega) (by omega) hb (by omega) (by omega)) ?_
  rintro _ _ _ ⟨y, hy0, hy1, rfl, rfl, rfl⟩
  have hti : tin.toNat < ts.length := by omega
  obtain ⟨pt1, pt2, pt3⟩ := hP _ (List.getElem_mem hti)
  simp (maxSteps := 4000000) (disch := omega) only [go_sem, w64, AndB_of, IfB_of, IfB_no, pickE_of, pickE_no, ite_of, ite_no, tdivE, tmodE, takeAll]
  refine AW.step ?_
  simp (maxSteps := 4000000) (disch := omega) only [go_sem, w64, AndB_of, IfB_of, IfB_no, pickE_of, pickE_no, ite_of, ite_no, tdivE, tmodE, takeAll]
  refine AW.step ?_
  simp (maxSteps := 4000000) (disch := omega) only [go_sem, w64, AndB_of, IfB_of, IfB_no, pickE_of, pickE_no, ite_of, ite_no, tdivE, tmodE, takeAll]
  refine CallB.law (d_fitO (p := p + 1 + 1) ts[tin.toNat].cols (by omega) (by first | exact upd_same .. | rw [upd_ne _ _ (by omega), upd_same] | rw [upd_ne _ _ (by omega), upd_ne _ _ (by omega), upd_same] | rw [upd_ne _ _ (by omega), upd_ne _ _ (by omega), upd_ne _ _ (by omega), upd_same]) (fun i hi => by repeat (first | exact hdd i (by omega) | rw [upd_ne _ _ (by omega)])) (by omega) (by omega) hb (by omega)) ?_
  rintro _ _ _ ⟨row, q, q1, q2, rl, rP, rfl, rfl, rfl⟩
  simp (maxSteps := 4000000) (disch := omega) only [go_sem, w64, AndB_of, IfB_of, IfB_no, pickE_of, pickE_no, ite_of, ite_no, tdivE, tmodE, takeAll]
  have rP' : ∀ x ∈ row, x.s.size ≤ 1000 := fun x hx => by have := rP x hx; unfold PV at this; omega
  have hI : ∀ b : Bool, CI H (upd (upd (upd (upd (upd (upd (upd H nx (.live 0 [.int .i64 0, .sl 0 true [], .bool false])) rid (.live 0 [.sl bs.size false (bytesCells bs), .int .i64 (p + 1 + 1)])) (nx + 1) (.live 0 [.int .i64 tin, .sl 0 true [], .bool (decide (y = 0))])) (nx + 1 + 1) (.live 0 [colsA ts[tin.toNat].cols, rowsA ts[tin.toNat].rows])) rid (.live 0 [.sl bs.size false (bytesCells bs), .int .i64 (q)])) (nx + 1 + 1 + 1) (.live 0 (flat GVal.c row))) (nx + 1) (.live 0 [.int .i64 tin, .msl (nx + 1 + 1 + 1) 0 3 0 row.length, .bool b])) nx rid (nx + 1 + 1 + 1 + 1) bs q ts[tin.toNat] ⟨tin, row, b⟩ (nx + 1 + 1 + 1) 0 := fun b =>
    ⟨by rw [upd_ne _ _ (by omega), upd_ne _ _ (by omega), upd_same], fun i a b => by rw [upd_ne _ _ (by omega), upd_ne _ _ (by omega), upd_ne _ _ (by omega), upd_ne _ _ (by omega), upd_ne _ _ (by omega), upd_ne _ _ (by omega), upd_ne _ _ (by omega)],
      fun i a => by rw [upd_ne _ _ (by omega), upd_ne _ _ (by omega), upd_ne _ _ (by omega), upd_ne _ _ (by omega), upd_ne _ _ (by omega), upd_ne _ _ (by omega), upd_ne _ _ (by omega)]; exact hdd i (by omega),
      by rw [upd_ne _ _ (by omega), upd_ne _ _ (by omega), upd_ne _ _ (by omega), upd_ne _ _ (by omega), upd_ne _ _ (by omega), upd_ne _ _ (by omega), upd_same], upd_same .., by rw [upd_ne _ _ (by omega), upd_ne _ _ (by omega), upd_ne _ _ (by omega)]; exact upd_same .., by rw [upd_ne _ _ (by omega), upd_same], by omega, by omega, by show row.length ≤ 100; omega, rP'⟩
  refine AW.cut (fun zs => (heapOf zs, nxOf zs, intOf (nthA (cellsOf (blkOf zs (rid))) 1))) (fun zz => [(0, none), (1, none), (3, none), (0, none), (0, none)]) (fun zz => zz.1) (fun zz => zz.2.1) (fun zz => p ≤ zz.2.2 ∧ zz.2.2 ≤ p + 200 ∧ ∃ c r w, c.row.length ≤ 90 ∧ CI H zz.1 nx rid zz.2.1 bs zz.2.2 ts[tin.toNat] c r w) ?zcut1 ?_
  case' zcut1 => simp (maxSteps := 4000000) (disch := omega) only [go_sem, w64, AndB_of, IfB_of, IfB_no, pickE_of, pickE_no, ite_of, ite_no, tdivE, tmodE, takeAll]
  · refine IfB.dec (fun c1 => ?_) (fun c1 => ?_)
    · simp (maxSteps := 4000000) (disch := omega) only [go_sem, w64, AndB_of, IfB_of, IfB_no, pickE_of, pickE_no, ite_of, ite_no, tdivE, tmodE, takeAll]
      ((repeat' apply And.intro) <;> first | exact ⟨_, _, _, by show row.length ≤ 90; omega, hI _⟩ | (exact Weak.go (by (first | (simp [wkL]; done) | (simp [wkL]; omega))) (fun zi => by first | exact .inl rfl | exact .inr rfl | (simp only [upd]; repeat' split) <;> first | exact ⟨_, _, _, by show row.length ≤ 90; omega, hI _⟩ | exact .inl rfl | exact .inr rfl | (exfalso; omega) | exact .inr (hd _ (by omega)) | (left; subst_vars; exact hH.symm) | (left; subst_vars; rfl) | (left; simp; done) | (left; simp; omega)) (by omega)) | omega | rfl | assumption | exact Flat.nil | exact ⟨_, rfl, rfl, by assumption⟩ | (simp; done) | (simp; omega))
    · simp (maxSteps := 4000000) (disch := omega) only [go_sem, w64, AndB_of, IfB_of, IfB_no, pickE_of, pickE_no, ite_of, ite_no, tdivE, tmodE, takeAll]
      ((repeat' apply And.intro) <;> first | exact ⟨_, _, _, by show row.length ≤ 90; omega, hI _⟩ | (exact Weak.go (by (first | (simp [wkL]; done) | (simp [wkL]; omega))) (fun zi => by first | exact .inl rfl | exact .inr rfl | (simp only [upd]; repeat' split) <;> first | exact ⟨_, _, _, by show row.length ≤ 90; omega, hI _⟩ | exact .inl rfl | exact .inr rfl | (exfalso; omega) | exact .inr (hd _ (by omega)) | (left; subst_vars; exact hH.symm) | (left; subst_vars; rfl) | (left; simp; done) | (left; simp; omega)) (by omega)) | omega | rfl | assumption | exact Flat.nil | exact ⟨_, rfl, rfl, by assumption⟩ | (simp; done) | (simp; omega))
  intro zz zh
  obtain ⟨hp, x, q⟩ := zz
  dsimp only at zh
  obtain ⟨hq1, hq2, c, r, w, hcl, hC⟩ := zh
  simp (maxSteps := 4000000) (disch := omega) only [go_sem, w64, AndB_of, IfB_of, IfB_no, pickE_of, pickE_no, ite_of, ite_no, tdivE, tmodE, takeAll]
  refine AW.cut (fun zs => (heapOf zs, nxOf zs, intOf (nthA (cellsOf (blkOf zs (rid))) 1))) (fun zz => [(0, none), (1, none), (3, none), (0, none), (0, none)]) (fun zz => zz.1) (fun zz => zz.2.1) (fun zz => p ≤ zz.2.2 ∧ zz.2.2 ≤ p + 300 ∧ ∃ c r w, c.row.length ≤ 90 ∧ CI H zz.1 nx rid zz.2.1 bs zz.2.2 ts[tin.toNat] c r w) ?zcut2 ?_
  case' zcut2 => simp (maxSteps := 4000000) (disch := omega) only [go_sem, w64, AndB_of, IfB_of, IfB_no, pickE_of, pickE_no, ite_of, ite_no, tdivE, tmodE, takeAll]
  · have hr1 := hC.r1
    have hr2 := hC.r2
    simp (maxSteps := 4000000) (disch := omega) only [go_sem, w64, AndB_of, IfB_of, IfB_no, pickE_of, pickE_no, ite_of, ite_no, tdivE, tmodE, takeAll, hC.c7, hC.c8]
    refine IfB.split (fun e1 => ?_) (fun e1 => ?_)
    · simp (maxSteps := 4000000) (disch := omega) only [go_sem, w64, AndB_of, IfB_of, IfB_no, pickE_of, pickE_no, ite_of, ite_no, tdivE, tmodE, takeAll, hC.c7, hC.c8, e1, hC.hr]
      ((repeat' apply And.intro) <;> first | exact ⟨_, _, _, hcl, hC⟩ | (exact Weak.go (by (first | (simp [wkL]; done) | (simp [wkL]; omega))) (fun zi => by first | exact .inl rfl | exact .inr rfl | (simp only [upd]; repeat' split) <;> first | exact ⟨_, _, _, hcl, hC⟩ | exact .inl rfl | exact .inr rfl | (exfalso; omega) | exact .inr (hd _ (by omega)) | (left; subst_vars; exact hH.symm) | (left; subst_vars; rfl) | (left; simp; done) | (left; simp; omega)) (by omega)) | omega | rfl | assumption | exact Flat.nil | exact ⟨_, rfl, rfl, by assumption⟩ | (simp; done) | (simp; omega))
    · simp (maxSteps := 4000000) (disch := omega) only [go_sem, w64, AndB_of, IfB_of, IfB_no, pickE_of, pickE_no, ite_of, ite_no, tdivE, tmodE, takeAll, hC.c7, hC.c8, e1]
      refine IfB.dec (fun c1 => ?_) (fun c1 => ?_)
      · simp (maxSteps := 4000000) (disch := omega) only [go_sem, w64, AndB_of, IfB_of, IfB_no, pickE_of, pickE_no, ite_of, ite_no, tdivE, tmodE, takeAll, hC.c7, hC.c8, e1]
        refine DrawB.intro [6, 9, 10, 11] [11] (inS (rid) (x) (nx + 1)) (by kernel_rfl) ?_
        simp (maxSteps := 4000000) (disch := omega) only [go_sem, w64, AndB_of, IfB_of, IfB_no, pickE_of, pickE_no, ite_of, ite_no, tdivE, tmodE, takeAll, hC.c7, hC.c8, e1]
        refine CallB.law (d_pick (p := q) hC.hr (by omega) (by omega) hb (by omega) (by omega)) ?_
        rintro _ _ xx ⟨y, hy0, hy1, rfl, rfl, rfl⟩
        have hy2 : y.toNat < ts[tin.toNat].rows.length := by omega
        have hy3 := pt3 _ (List.getElem_mem hy2)
        have hy4 := hy3.1
        unfold rowsA
        simp (maxSteps := 4000000) (disch := omega) only [go_sem, w64, AndB_of, IfB_of, IfB_no, pickE_of, pickE_no, ite_of, ite_no, tdivE, tmodE, takeAll, hC.c7, hC.c8, e1]
        refine CallB.law (o_l3Own ts[tin.toNat].rows[y.toNat] (by omega)) ?_
        rintro _ _ _ ⟨rfl, rfl, rfl⟩
        simp (maxSteps := 4000000) (disch := omega) only [go_sem, w64, AndB_of, IfB_of, IfB_no, pickE_of, pickE_no, ite_of, ite_no, tdivE, tmodE, takeAll, hC.c7, hC.c8, e1]
        have hC2 := (hC.rd hr (q + 1)).put hr ts[tin.toNat].rows[y.toNat] (by omega) (fun v hv => by have := hy3.2 v hv; omega)
        rw [e1] at hC2
        ((repeat' apply And.intro) <;> first | exact ⟨⟨c.tin, ts[tin.toNat].rows[y.toNat], false⟩, _, _, by show ts[tin.toNat].rows[y.toNat].length ≤ 90; omega, hC2⟩ | (exact Weak.go (by (first | (simp [wkL]; done) | (simp [wkL]; omega))) (fun zi => by first | exact .inl rfl | exact .inr rfl | (simp only [upd]; repeat' split) <;> first | exact ⟨⟨c.tin, ts[tin.toNat].rows[y.toNat], false⟩, _, _, by show ts[tin.toNat].rows[y.toNat].length ≤ 90; omega, hC2⟩ | exact .inl rfl | exact .inr rfl | (exfalso; omega) | exact .inr (hd _ (by omega)) | (left; subst_vars; exact hH.symm) | (left; subst_vars; rfl) | (left; simp; done) | (left; simp; omega)) (by omega)) | omega | rfl | assumption | exact Flat.nil | exact ⟨_, rfl, rfl, by assumption⟩ | (simp; done) | (simp; omega))
      · simp (maxSteps := 4000000) (disch := omega) only [go_sem, w64, AndB_of, IfB_of, IfB_no, pickE_of, pickE_no, ite_of, ite_no, tdivE, tmodE, takeAll, hC.c7, hC.c8, e1, hC.hr]
        ((repeat' apply And.intro) <;> first | exact ⟨_, _, _, hcl, hC⟩ | (exact Weak.go (by (first | (simp [wkL]; done) | (simp [wkL]; omega))) (fun zi => by first | exact .inl rfl | exact .inr rfl | (simp only [upd]; repeat' split) <;> first | exact ⟨_, _, _, hcl, hC⟩ | exact .inl rfl | exact .inr rfl | (exfalso; omega) | exact .inr (hd _ (by omega)) | (left; subst_vars; exact hH.symm) | (left; subst_vars; rfl) | (left; simp; done) | (left; simp; omega)) (by omega)) | omega | rfl | assumption | exact Flat.nil | exact ⟨_, rfl, rfl, by assumption⟩ | (simp; done) | (simp; omega))
  intro zz zh
  obtain ⟨hp, x, q⟩ := zz
  dsimp only at zh
  obtain ⟨hq1, hq2, c, r, w, hcl, hC⟩ := zh
  simp (maxSteps := 4000000) (disch := omega) only [go_sem, w64, AndB_of, IfB_of, IfB_no, pickE_of, pickE_no, ite_of, ite_no, tdivE, tmodE, takeAll]
  refine AW.cut (fun zs => (heapOf zs, nxOf zs, intOf (nthA (cellsOf (blkOf zs (rid))) 1))) (fun zz => [(0, none), (1, none), (3, none), (0, none)]) (fun zz => zz.1) (fun zz => zz.2.1) (fun zz => p ≤ zz.2.2 ∧ zz.2.2 ≤ p + 400 ∧ ∃ c r w, c.row.length ≤ 90 ∧ CI H zz.1 nx rid zz.2.1 bs zz.2.2 ts[tin.toNat] c r w) ?zcut3 ?_
  case' zcut3 => simp (maxSteps := 4000000) (disch := omega) only [go_sem, w64, AndB_of, IfB_of, IfB_no, pickE_of, pickE_no, ite_of, ite_no, tdivE, tmodE, takeAll]
  · simp (maxSteps := 4000000) (disch := omega) only [go_sem, w64, AndB_of, IfB_of, IfB_no, pickE_of, pickE_no, ite_of, ite_no, tdivE, tmodE, takeAll, hC.c7, hC.c8]
    refine IfB.dec (fun c1 => ?_) (fun c1 => ?_)
    · simp (maxSteps := 4000000) (disch := omega) only [go_sem, w64, AndB_of, IfB_of, IfB_no, pickE_of, pickE_no, ite_of, ite_no, tdivE, tmodE, takeAll, hC.c7, hC.c8, hC.hr]
      have hC2 := hC.come hr true
      ((repeat' apply And.intro) <;> first | exact ⟨⟨c.tin, c.row, true⟩, _, _, hcl, hC2⟩ | (exact Weak.go (by (first | (simp [wkL]; done) | (simp [wkL]; omega))) (fun zi => by first | exact .inl rfl | exact .inr rfl | (simp only [upd]; repeat' split) <;> first | exact ⟨⟨c.tin, c.row, true⟩, _, _, hcl, hC2⟩ | exact .inl rfl | exact .inr rfl | (exfalso; omega) | exact .inr (hd _ (by omega)) | (left; subst_vars; exact hH.symm) | (left; subst_vars; rfl) | (left; simp; done) | (left; simp; omega)) (by omega)) | omega | rfl | assumption | exact Flat.nil | exact ⟨_, rfl, rfl, by assumption⟩ | (simp; done) | (simp; omega))
    · simp (maxSteps := 4000000) (disch := omega) only [go_sem, w64, AndB_of, IfB_of, IfB_no, pickE_of, pickE_no, ite_of, ite_no, tdivE, tmodE, takeAll, hC.c7, hC.c8, hC.hr]
      ((repeat' apply And.intro) <;> first | exact ⟨_, _, _, hcl, hC⟩ | (exact Weak.go (by (first | (simp [wkL]; done) | (simp [wkL]; omega))) (fun zi => by first | exact .inl rfl | exact .inr rfl | (simp only [upd]; repeat' split) <;> first | exact ⟨_, _, _, hcl, hC⟩ | exact .inl rfl | exact .inr rfl | (exfalso; omega) | exact .inr (hd _ (by omega)) | (left; subst_vars; exact hH.symm) | (left; subst_vars; rfl) | (left; simp; done) | (left; simp; omega)) (by omega)) | omega | rfl | assumption | exact Flat.nil | exact ⟨_, rfl, rfl, by assumption⟩ | (simp; done) | (simp; omega))
  intro zz zh
  obtain ⟨hp, x, q⟩ := zz
  dsimp only at zh
  obtain ⟨hq1, hq2, c, r, w, hcl, hC⟩ := zh
  simp (maxSteps := 4000000) (disch := omega) only [go_sem, w64, AndB_of, IfB_of, IfB_no, pickE_of, pickE_no, ite_of, ite_no, tdivE, tmodE, takeAll]
  refine AW.cut (fun zs => (heapOf zs, nxOf zs, intOf (nthA (cellsOf (blkOf zs (rid))) 1))) (fun zz => [(6, none), (0, none)]) (fun zz => zz.1) (fun zz => zz.2.1) (fun zz => p ≤ zz.2.2 ∧ zz.2.2 ≤ p + 500 ∧ ∃ c r w, CI H zz.1 nx rid zz.2.1 bs zz.2.2 ts[tin.toNat] c r w) ?zcut4 ?_
  case' zcut4 => simp (maxSteps := 4000000) (disch := omega) only [go_sem, w64, AndB_of, IfB_of, IfB_no, pickE_of, pickE_no, ite_of, ite_no, tdivE, tmodE, takeAll]
  · have hr1 := hC.r1
    have hr2 := hC.r2
    refine CallB.law (d_odd (p := q) hC.hr (by omega) (by omega) hb hn0 hn) ?_
    rintro _ _ xx ⟨z, q3, y1, y2, rfl, rfl, rfl⟩
    simp (maxSteps := 4000000) (disch := omega) only [go_sem, w64, AndB_of, IfB_of, IfB_no, pickE_of, pickE_no, ite_of, ite_no, tdivE, tmodE, takeAll]
    refine IfB.split (fun e1 => ?_) (fun e1 => ?_)
    · simp (maxSteps := 4000000) (disch := omega) only [go_sem, w64, AndB_of, IfB_of, IfB_no, pickE_of, pickE_no, ite_of, ite_no, tdivE, tmodE, takeAll]
      refine CallB.law (d_pick (p := q3) (upd_same ..) (by omega) (by omega) hb (by omega) (by omega)) ?_
      rintro _ _ xx ⟨y, hy0, hy1, rfl, rfl, rfl⟩
      simp (maxSteps := 4000000) (disch := omega) only [go_sem, w64, AndB_of, IfB_of, IfB_no, pickE_of, pickE_no, ite_of, ite_no, tdivE, tmodE, takeAll]
      refine IfB.dec (fun c1 => ?_) (fun c1 => ?_)
      · simp (maxSteps := 4000000) (disch := omega) only [go_sem, w64, AndB_of, IfB_of, IfB_no, pickE_of, pickE_no, ite_of, ite_no, tdivE, tmodE, takeAll]
        refine CallB.law (d_pick (p := q3 + 1) (upd_same ..) (by omega) (by omega) hb (by omega) (by omega)) ?_
        rintro _ _ xx ⟨y2, hy20, hy21, rfl, rfl, rfl⟩
        simp (maxSteps := 4000000) (disch := omega) only [go_sem, w64, AndB_of, IfB_of, IfB_no, pickE_of, pickE_no, ite_of, ite_no, tdivE, tmodE, takeAll, hC.c7, hC.c8]
        have hC2 := (hC.rd hr (q3 + 1 + 1)).tin hr (y2 - 1)
        ((repeat' apply And.intro) <;> first | exact ⟨_, _, _, hC2⟩ | (exact Weak.go (by (first | (simp [wkL]; done) | (simp [wkL]; omega))) (fun zi => by first | exact .inl rfl | exact .inr rfl | (simp only [upd]; repeat' split) <;> first | exact ⟨_, _, _, hC2⟩ | exact .inl rfl | exact .inr rfl | (exfalso; omega) | exact .inr (hd _ (by omega)) | (left; subst_vars; exact hH.symm) | (left; subst_vars; rfl) | (left; simp; done) | (left; simp; omega)) (by omega)) | omega | rfl | assumption | exact Flat.nil | exact ⟨_, rfl, rfl, by assumption⟩ | (simp; done) | (simp; omega))
      · simp (maxSteps := 4000000) (disch := omega) only [go_sem, w64, AndB_of, IfB_of, IfB_no, pickE_of, pickE_no, ite_of, ite_no, tdivE, tmodE, takeAll]
        refine IfB.dec (fun c2 => ?_) (fun c2 => ?_)
        · simp (maxSteps := 4000000) (disch := omega) only [go_sem, w64, AndB_of, IfB_of, IfB_no, pickE_of, pickE_no, ite_of, ite_no, tdivE, tmodE, takeAll, hC.c7, hC.c8, hC.cr, flat_len GVal.len]
          have hC2 := (hC.rd hr (q3 + 1)).app hr (by omega)
          ((repeat' apply And.intro) <;> first | exact ⟨_, _, _, hC2⟩ | (exact Weak.go (by (first | (simp [wkL]; done) | (simp [wkL]; omega))) (fun zi => by first | exact .inl rfl | exact .inr rfl | (simp only [upd]; repeat' split) <;> first | exact ⟨_, _, _, hC2⟩ | exact .inl rfl | exact .inr rfl | (exfalso; omega) | exact .inr (hd _ (by omega)) | (left; subst_vars; exact hH.symm) | (left; subst_vars; rfl) | (left; simp; done) | (left; simp; omega)) (by omega)) | omega | rfl | assumption | exact Flat.nil | exact ⟨_, rfl, rfl, by assumption⟩ | (simp; done) | (simp; omega))
        · simp (maxSteps := 4000000) (disch := omega) only [go_sem, w64, AndB_of, IfB_of, IfB_no, pickE_of, pickE_no, ite_of, ite_no, tdivE, tmodE, takeAll, hC.c7, hC.c8]
          have hC2 := (hC.rd hr (q3 + 1)).come hr (!c.come)
          ((repeat' apply And.intro) <;> first | exact ⟨_, _, _, hC2⟩ | (exact Weak.go (by (first | (simp [wkL]; done) | (simp [wkL]; omega))) (fun zi => by first | exact .inl rfl | exact .inr rfl | (simp only [upd]; repeat' split) <;> first | exact ⟨_, _, _, hC2⟩ | exact .inl rfl | exact .inr rfl | (exfalso; omega) | exact .inr (hd _ (by omega)) | (left; subst_vars; exact hH.symm) | (left; subst_vars; rfl) | (left; simp; done) | (left; simp; omega)) (by omega)) | omega | rfl | assumption | exact Flat.nil | exact ⟨_, rfl, rfl, by assumption⟩ | (simp; done) | (simp; omega))
    · simp (maxSteps := 4000000) (disch := omega) only [go_sem, w64, AndB_of, IfB_of, IfB_no, pickE_of, pickE_no, ite_of, ite_no, tdivE, tmodE, takeAll]
      have hC2 := hC.rd hr q3
      ((repeat' apply And.intro) <;> first | exact ⟨_, _, _, hC2⟩ | (exact Weak.go (by (first | (simp [wkL]; done) | (simp [wkL]; omega))) (fun zi => by first | exact .inl rfl | exact .inr rfl | (simp only [upd]; repeat' split) <;> first | exact ⟨_, _, _, hC2⟩ | exact .inl rfl | exact .inr rfl | (exfalso; omega) | exact .inr (hd _ (by omega)) | (left; subst_vars; exact hH.symm) | (left; subst_vars; rfl) | (left; simp; done) | (left; simp; omega)) (by omega)) | omega | rfl | assumption | exact Flat.nil | exact ⟨_, rfl, rfl, by assumption⟩ | (simp; done) | (simp; omega))
  intro zz zh
  obtain ⟨hp, x, q⟩ := zz
  dsimp only at zh
  obtain ⟨hq1, hq2, c, r, w, hC⟩ := zh
  simp (maxSteps := 4000000) (disch := omega) only [go_sem, w64, AndB_of, IfB_of, IfB_no, pickE_of, pickE_no, ite_of, ite_no, tdivE, tmodE, takeAll]
  have hc7 := hC.c7
  have hcr := hC.cr
  have hr1 := hC.r1
  have hcl := flat_len GVal.len c.row
  have hb1 := hC.b1
  refine AW.of ?_
  simp (maxSteps := 4000000) (disch := omega) only [go_sem, w64, AndB_of, IfB_of, IfB_no, pickE_of, pickE_no, ite_of, ite_no, tdivE, tmodE, takeAll, hc7, hC.c6]
  refine ⟨0, [.sl bs.size false (bytesCells bs), .int .i64 (q)], fun i hi => ?_, (by simp [pureL, pureA, bytesCells_pure]), c, q, ⟨by omega, fun v hv => by have := hC.b2 v hv; unfold VB; omega⟩, ?_, rfl⟩
  · split
    · next h => rw [h, upd_ne _ _ (by omega)]; exact hC.hr
    · next h => rw [upd_ne _ _ (by omega)]; exact hC.old i hi h
  · rw [hcr, keepM1_none (by omega), if_pos rfl, List.drop_zero, ← hcl, List.take_length, GVal.keepL]
    rfl
end Go.TH
