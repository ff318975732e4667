/- TH: draws: tables, 2. Made by gen.py. -/
import Derived.Test.YtolcdfglmcgedaaTf3
import Derived.Test.YtolcdfglmcgedaaTddtb
import Derived.Test.YtolcdfglmcgedaaTf4
namespace Go.TH
open Go Go.Proofs
set_option linter.unusedSimpArgs false
set_option linter.unusedVariables false
set_option maxHeartbeats 20000000
set_option maxRecDepth 100000
structure TFin (H hp : AH) (nx rid x v m : Nat) (bs : ByteArray) (q : Int) : Prop where
  hr : hp rid = .live 0 [.sl bs.size false (bytesCells bs), .int .i64 (q)]
  old : ∀ i, i < nx → i ≠ rid → hp i = H i
  ex : ∃ (cells : List AV) (tabs : List GTb), hp nx = .live v cells ∧ cells.length = m * 2 ∧ tabs.length = m ∧ TPic hp nx cells tabs
theorem d_tables {H : AH} {nx rid : Nat} {bs : ByteArray} {p n : Int} (hr : rid < nx) (hH : H rid = .live 0 [.sl bs.size false (bytesCells bs), .int .i64 (p)]) (hd : ∀ i, nx ≤ i → H i = .dead) (hp0 : 0 ≤ p) (hp : p ≤ 600000000) (hb : bs.size ≤ 2000) (hn0 : -1000000000 ≤ n) (hn : n ≤ 1000000000) :
    ACallD Try.prog 74 [.ptr rid 0 0, .int .i64 n] H nx (fun r H' nx' => ∃ (l : List GTb) (q : Int), p ≤ q ∧ q ≤ p + 10000 ∧ 1 ≤ l.length ∧ l.length ≤ 6 ∧ (∀ t ∈ l, t.cols.length ≤ 10 ∧ t.rows.length ≤ 10 ∧ ∀ r ∈ t.rows, PRt r) ∧ r = tabsA l ∧ H' = upd H rid (.live 0 [.sl bs.size false (bytesCells bs), .int .i64 (q)]) ∧ nx' = nx) := by
  have hdd := hd
  refine ACallD.loose ?_
  refine ACallD.finR 3 rid hr ?_
  refine wcall_body mixed Try.func74 _ (by unfold Try.f74; rfl) Try.ntmps74 Try.results74 (by decide) (by simp) ?_
  simp (maxSteps := 4000000) (disch := omega) only [go_sem, w64, AndB_of, IfB_of, IfB_no, pickE_of, pickE_no, ite_of, ite_no, tdivE, tmodE, takeAll]
  refine AW.step ?_
  simp (maxSteps := 4000000) (disch := omega) only [go_sem, w64, AndB_of, IfB_of, IfB_no, pickE_of, pickE_no, ite_of, ite_no, tdivE, tmodE, takeAll]
  refine AW.step ?_
  simp (maxSteps := 4000000) (disch := omega) only [go_sem, w64, AndB_of, IfB_of, IfB_no, pickE_of, pickE_no, ite_of, ite_no, tdivE, tmodE, takeAll]
  refine AW.cut (fun zs => (heapOf zs, nxOf zs, verOf (blkOf zs (nx)), mlenOf (slotOf zs 5), intOf (nthA (cellsOf (blkOf zs (rid))) 1))) (fun zz => [(0, none), (0, none), (3, some (.msl nx zz.2.2.1 2 0 zz.2.2.2.1))]) (fun zz => zz.1) (fun zz => zz.2.1) (fun zz => 1 ≤ zz.2.2.2.1 ∧ zz.2.2.2.1 ≤ 3 ∧ p ≤ zz.2.2.2.2 ∧ zz.2.2.2.2 ≤ p + 9000 ∧ TInv H zz.1 nx rid zz.2.1 zz.2.2.1 zz.2.2.2.1 bs zz.2.2.2.2) ?zcut0 ?_
  case' zcut0 => simp (maxSteps := 4000000) (disch := omega) only [go_sem, w64, AndB_of, IfB_of, IfB_no, pickE_of, pickE_no, ite_of, ite_no, tdivE, tmodE, takeAll]
  · apply CallB.law; (focus (apply d_pick; (repeat (first | exact hH | exact upd_same _ _ _ | rw [upd_ne _ _ (by omega)])); all_goals omega)); rintro _ _ _ ⟨x, hx0, hx1, rfl, rfl, rfl⟩
    simp (maxSteps := 4000000) (disch := omega) only [go_sem, w64, AndB_of, IfB_of, IfB_no, pickE_of, pickE_no, ite_of, ite_no, tdivE, tmodE, takeAll]
    refine LoopB.auto (fun zs => (heapOf zs, nxOf zs, intOf (slotOf zs 6), verOf (blkOf zs (nx)), mlenOf (slotOf zs 5), intOf (nthA (cellsOf (blkOf zs (rid))) 1))) (fun zz => [(0, none), (0, none), (3, some (.msl nx zz.2.2.2.1 2 0 zz.2.2.2.2.1)), (0, some (.int .i64 (zz.2.2.1 : Int)))]) (fun zz => zz.1) (fun zz => zz.2.1) (fun zz => zz.2.2.1.toNat) (fun zz => 0 ≤ zz.2.2.1 ∧ 1 ≤ zz.2.2.2.2.1 + zz.2.2.1 ∧ zz.2.2.2.2.1 + zz.2.2.1 ≤ 3 ∧ p ≤ zz.2.2.2.2.2 ∧ zz.2.2.2.2.2 ≤ p + 1 + 2500 * zz.2.2.2.2.1 ∧ TInv H zz.1 nx rid zz.2.1 zz.2.2.2.1 zz.2.2.2.2.1 bs zz.2.2.2.2.2) (by (first | simp (maxSteps := 4000000) (disch := omega) only [go_sem, w64, AndB_of, IfB_of, IfB_no, pickE_of, pickE_no, ite_of, ite_no, tdivE, tmodE, takeAll, hH] | simp (maxSteps := 4000000) (disch := omega) only [go_sem, w64, AndB_of, IfB_of, IfB_no, pickE_of, pickE_no, ite_of, ite_no, tdivE, tmodE, takeAll]); ((repeat' apply And.intro) <;> first | exact TInv.nil (by rw [upd_same]) (fun i a b => by rw [upd_ne _ _ b, upd_ne _ _ (by omega)]) (fun i hi => by rw [upd_ne _ _ (by omega), upd_ne _ _ (by omega)]; exact hdd i (by omega)) (by omega) (by rw [upd_ne _ _ (by omega), upd_same]) | (exact Weak.go (by (first | (simp [wkL]; done) | (simp [wkL]; omega))) (fun zi => by first | exact .inl rfl | exact .inr rfl | (simp only [upd]; repeat' split) <;> first | exact TInv.nil (by rw [upd_same]) (fun i a b => by rw [upd_ne _ _ b, upd_ne _ _ (by omega)]) (fun i hi => by rw [upd_ne _ _ (by omega), upd_ne _ _ (by omega)]; exact hdd i (by omega)) (by omega) (by rw [upd_ne _ _ (by omega), upd_same]) | exact .inl rfl | exact .inr rfl | (exfalso; omega) | exact .inr (hd _ (by omega)) | (left; subst_vars; exact hH.symm) | (left; subst_vars; rfl) | (left; simp; done) | (left; simp; omega)) (by omega)) | omega | rfl | assumption | exact Flat.nil | exact ⟨_, rfl, rfl, by assumption⟩ | (simp; done) | (simp; omega))) ?_
    intro zz zh
    obtain ⟨hp, x, k, v, m, q⟩ := zz
    dsimp only at zh
    obtain ⟨hk0, hm1, hm2, hq0, hq1, hI⟩ := zh
    simp (maxSteps := 4000000) (disch := omega) only [go_sem, w64, AndB_of, IfB_of, IfB_no, pickE_of, pickE_no, ite_of, ite_no, tdivE, tmodE, takeAll]
    have hrx := hI.hx
    obtain ⟨ts, t1, t2, t3, t4⟩ := hI.ex
    have tl : (flat TSpec.c ts).length = m * 2 := by rw [flat_len TSpec.len, t2]
    refine IfB.dec (fun h => ?_) (fun h => ?_)
    · simp (maxSteps := 4000000) (disch := omega) only [go_sem, w64, AndB_of, IfB_of, IfB_no, pickE_of, pickE_no, ite_of, ite_no, tdivE, tmodE, takeAll]
      refine CallB.law (d_columnsO (p := q) (by omega) hI.hr hI.dead (by omega) (by omega) hb (by omega) (by omega)) ?_
      rintro _ _ _ ⟨cols, q2, c1, c2, c3, c4, c5, rfl, rfl, rfl⟩
      simp (maxSteps := 4000000) (disch := omega) only [go_sem, w64, AndB_of, IfB_of, IfB_no, pickE_of, pickE_no, ite_of, ite_no, tdivE, tmodE, takeAll]
      refine CallB.law (d_pick (p := q2) (by rw [upd_ne _ _ (by omega), upd_same]) (by omega) (by omega) hb (by omega) (by omega)) ?_
      rintro _ _ _ ⟨y, hy0, hy1, rfl, rfl, rfl⟩
      have hy2 : 0 ≤ y % (cols.length : Int) := Int.emod_nonneg _ (by omega)
      have hy3 : y % (cols.length : Int) < cols.length := Int.emod_lt_of_pos _ (by omega)
      simp (maxSteps := 4000000) (disch := omega) only [go_sem, w64, AndB_of, IfB_of, IfB_no, pickE_of, pickE_no, ite_of, ite_no, tdivE, tmodE, takeAll]
      obtain ⟨k1, ek1⟩ : ∃ k1, k1 = (1 + y % (cols.length : Int) - 0).toNat := ⟨_, rfl⟩
      rw [← ek1]
      have hk1 : 1 ≤ k1 ∧ k1 ≤ cols.length := by omega
      have lt : (cols.take k1).length = k1 := len_take hk1.2
      have hbag := d_bagM (H := upd (upd (upd hp rid (.live 0 [.sl bs.size false (bytesCells bs), .int .i64 (q2)])) x (.live 0 (flat GCol.c cols))) rid (.live 0 [.sl bs.size false (bytesCells bs), .int .i64 (q2 + 1)])) (nx := x + 1) (rid := rid) (bs := bs) (p := q2 + 1) (cid := x) (cv := 0) (rest := flat GCol.c (cols.drop k1)) (cols.take k1)
        (by rw [upd_ne _ _ (by omega), upd_same, ← flat_append, List.take_append_drop]) (by omega) (by omega) (by omega) (upd_same ..) (fun i hi => by rw [upd_ne _ _ (by omega), upd_ne _ _ (by omega), upd_ne _ _ (by omega)]; exact hI.dead i (by omega)) (by omega) (by omega) hb (by omega)
      rw [lt] at hbag
      refine CallB.law hbag ?_
      rintro _ _ _ ⟨rows, q3, b1, b2, b3, b4, rfl, rfl, rfl⟩
      simp (maxSteps := 4000000) (disch := omega) only [go_sem, w64, AndB_of, IfB_of, IfB_no, pickE_of, pickE_no, ite_of, ite_no, tdivE, tmodE, takeAll, t1, tl]
      have hI2 : TInv H (upd (upd (upd (upd (upd (upd (upd hp rid (.live 0 [.sl bs.size false (bytesCells bs), .int .i64 (q2)])) x (.live 0 (flat GCol.c cols))) rid (.live 0 [.sl bs.size false (bytesCells bs), .int .i64 (q3)])) (x + 1) (.live 0 (flat cR rows))) (x + 1 + 1) (.live 0 [.msl x 0 2 0 k1, .msl (x + 1) 0 1 0 rows.length])) (x + 1 + 1 + 1) (.live 0 [.msl x 0 2 0 k1, .msl (x + 1) 0 1 0 rows.length])) nx (.live (v + 1) (flat TSpec.c ts ++ [.msl x 0 2 0 k1, .msl (x + 1) 0 1 0 rows.length]))) nx rid (x + 1 + 1 + 1 + 1) (v + 1) (m + 1) bs q3 :=
        hI.snoc (t := ⟨x, 0, cols.take k1, flat GCol.c (cols.drop k1), x + 1, 0, rows⟩) hr (by rw [upd_ne _ _ (by omega), upd_ne _ _ (by omega), upd_ne _ _ (by omega), upd_ne _ _ (by omega), upd_same]) (fun i a b c => by rw [upd_ne _ _ c, upd_ne _ _ (by omega), upd_ne _ _ (by omega), upd_ne _ _ (by omega), upd_ne _ _ b, upd_ne _ _ (by omega), upd_ne _ _ b])
          (fun i hi => by rw [upd_ne _ _ (by omega), upd_ne _ _ (by omega), upd_ne _ _ (by omega), upd_ne _ _ (by omega), upd_ne _ _ (by omega), upd_ne _ _ (by omega), upd_ne _ _ (by omega)]; exact hI.dead i (by omega)) (by omega)
          (fun ts' e1 e2 => by rw [upd_same]; have e3 := t1.symm.trans e1; injection e3 with _ e4; rw [e4, TSpec.c]; simp only [lt])
          ⟨by simp only; rw [upd_ne _ _ (by omega), upd_ne _ _ (by omega), upd_ne _ _ (by omega), upd_ne _ _ (by omega), upd_ne _ _ (by omega), upd_same, ← flat_append, List.take_append_drop], by simp only; rw [upd_ne _ _ (by omega), upd_ne _ _ (by omega), upd_ne _ _ (by omega), upd_same], by simp only; omega, by simp only; omega, by simp only; omega, by simp only; omega, by simp only; omega, fun r hr => ⟨by have := (b4 r hr).1; omega, fun v hv => ((b4 r hr).2 v hv).1⟩⟩ (by simp only; omega) (by simp only; omega)
      ((repeat' apply And.intro) <;> first | exact hI2 | (exact Weak.go (by (first | (simp [wkL]; done) | (simp [wkL]; omega))) (fun zi => by first | exact .inl rfl | exact .inr rfl | (simp only [upd]; repeat' split) <;> first | exact hI2 | exact .inl rfl | exact .inr rfl | (exfalso; omega) | exact .inr (hd _ (by omega)) | (left; subst_vars; exact hH.symm) | (left; subst_vars; rfl) | (left; simp; done) | (left; simp; omega)) (by omega)) | omega | rfl | assumption | exact Flat.nil | exact ⟨_, rfl, rfl, by assumption⟩ | (simp; done) | (simp; omega))
    · simp (maxSteps := 4000000) (disch := omega) only [go_sem, w64, AndB_of, IfB_of, IfB_no, pickE_of, pickE_no, ite_of, ite_no, tdivE, tmodE, takeAll, hI.hr, t1]
      ((repeat' apply And.intro) <;> first | exact hI | (exact Weak.go (by (first | (simp [wkL]; done) | (simp [wkL]; omega))) (fun zi => by first | exact .inl rfl | exact .inr rfl | (simp only [upd]; repeat' split) <;> first | exact hI | exact .inl rfl | exact .inr rfl | (exfalso; omega) | exact .inr (hd _ (by omega)) | (left; subst_vars; exact hH.symm) | (left; subst_vars; rfl) | (left; simp; done) | (left; simp; omega)) (by omega)) | omega | rfl | assumption | exact Flat.nil | exact ⟨_, rfl, rfl, by assumption⟩ | (simp; done) | (simp; omega))
  intro zz zh
  obtain ⟨hp, x, v, m, q⟩ := zz
  dsimp only at zh
  obtain ⟨hm1, hm2, hq0, hq1, hI⟩ := zh
  simp (maxSteps := 4000000) (disch := omega) only [go_sem, w64, AndB_of, IfB_of, IfB_no, pickE_of, pickE_no, ite_of, ite_no, tdivE, tmodE, takeAll]
  have hrx := hI.hx
  obtain ⟨ts, t1, t2, t3, t4⟩ := hI.ex
  have tl : (flat TSpec.c ts).length = m * 2 := by rw [flat_len TSpec.len, t2]
  obtain ⟨t0, tr, etr⟩ : ∃ t0 tr, ts = t0 :: tr := by
    match ts, t2 with
    | [], e => simp at e; omega
    | a :: l, _ => exact ⟨a, l, rfl⟩
  have k0 := t3 t0 (by rw [etr]; simp)
  have kb1 := k0.b1
  have kb2 := k0.b2
  have kl1 := k0.l1
  have kl2 := k0.l2
  have kne := k0.ne
  have hcell : hp nx = .live v (.msl t0.cid t0.cv 2 0 t0.cols.length :: .msl t0.rid t0.rv 1 0 t0.rows.length :: flat TSpec.c tr) := by rw [t1, etr, flat_cons]; rfl
  have hap : ∀ t ∈ tr, TSpec.ap t0 t := fun t ht => (List.pairwise_cons.1 (etr ▸ t4)).1 t ht
  have hlc : (flat GCol.c t0.cols ++ t0.crest).length = t0.cols.length * 2 + t0.crest.length := by rw [List.length_append, flat_len GCol.len]
  have htk : (flat GCol.c t0.cols ++ t0.crest).take (t0.cols.length * 2) = flat GCol.c t0.cols := by rw [← flat_len GCol.len t0.cols, List.take_left]
  have trl : (flat TSpec.c tr).length + 2 = m * 2 := by rw [← tl, etr, flat_cons, List.length_append]; simp; omega
  refine AW.cut (fun zs => (heapOf zs, nxOf zs, verOf (blkOf zs (nx)), mlenOf (slotOf zs 5), intOf (nthA (cellsOf (blkOf zs (rid))) 1))) (fun zz => [(5, some (.msl nx zz.2.2.1 2 0 zz.2.2.2.1))]) (fun zz => zz.1) (fun zz => zz.2.1) (fun zz => 1 ≤ zz.2.2.2.1 ∧ zz.2.2.2.1 ≤ 6 ∧ q ≤ zz.2.2.2.2 ∧ zz.2.2.2.2 ≤ q + 900 ∧ TFin H zz.1 nx rid zz.2.1 zz.2.2.1 zz.2.2.2.1 bs zz.2.2.2.2) ?zcut1 ?_
  case' zcut1 => simp (maxSteps := 4000000) (disch := omega) only [go_sem, w64, AndB_of, IfB_of, IfB_no, pickE_of, pickE_no, ite_of, ite_no, tdivE, tmodE, takeAll]
  · refine CallB.law (d_odd (p := q) hI.hr (by omega) (by omega) hb hn0 hn) ?_
    rintro _ _ xx ⟨z, q3, y1, y2, rfl, rfl, rfl⟩
    simp (maxSteps := 4000000) (disch := omega) only [go_sem, w64, AndB_of, IfB_of, IfB_no, pickE_of, pickE_no, ite_of, ite_no, tdivE, tmodE, takeAll]
    refine IfB.split (fun c => ?_) (fun c => ?_)
    · simp (maxSteps := 4000000) (disch := omega) only [go_sem, w64, AndB_of, IfB_of, IfB_no, pickE_of, pickE_no, ite_of, ite_no, tdivE, tmodE, takeAll]
      refine CallB.law (d_pick (p := q3) (upd_same ..) (by omega) (by omega) hb (by omega) (by omega)) ?_
      rintro _ _ xx ⟨y, hy0, hy1, rfl, rfl, rfl⟩
      simp (maxSteps := 4000000) (disch := omega) only [go_sem, w64, AndB_of, IfB_of, IfB_no, pickE_of, pickE_no, ite_of, ite_no, tdivE, tmodE, takeAll]
      refine IfB.dec (fun c1 => ?_) (fun c1 => ?_)
      · simp (maxSteps := 4000000) (disch := omega) only [go_sem, w64, AndB_of, IfB_of, IfB_no, pickE_of, pickE_no, ite_of, ite_no, tdivE, tmodE, takeAll, t1, tl]
        have hF : TFin H (upd (upd (upd hp rid (.live 0 [.sl bs.size false (bytesCells bs), .int .i64 (q3 + 1)])) xx (.live 0 [.sl 0 true [], .sl 0 true [], .sl 0 true [], .sl 0 true [], .sl 0 true [], .sl 0 true []])) nx (.live (v + 1) (flat TSpec.c ts ++ [.sl 0 true [], .sl 0 true [], .sl 0 true [], .sl 0 true [], .sl 0 true [], .sl 0 true []]))) nx rid (xx + 1) (v + 1) (m + 3) bs (q3 + 1) :=
          ⟨by rw [upd_ne _ _ (by omega), upd_ne _ _ (by omega), upd_same], fun i a b => by rw [upd_ne _ _ (by omega), upd_ne _ _ (by omega), upd_ne _ _ b]; exact hI.old i a b, _, ts.map (fun t => ⟨t.cols, t.rows⟩) ++ [⟨[], []⟩, ⟨[], []⟩, ⟨[], []⟩], upd_same .., by rw [List.length_append, tl]; simp; omega, by simp [t2],
            TPic.app (pics (lo := nx + 1) (hi := xx + 1) (by omega) fun t ht => (t3 t ht).congr (by omega) fun i p1 p2 _ => by rw [upd_ne _ _ (by omega), upd_ne _ _ (by omega), upd_ne _ _ (by omega)]) TPic.three⟩
        ((repeat' apply And.intro) <;> first | exact hF | (exact Weak.go (by (first | (simp [wkL]; done) | (simp [wkL]; omega))) (fun zi => by first | exact .inl rfl | exact .inr rfl | (simp only [upd]; repeat' split) <;> first | exact hF | exact .inl rfl | exact .inr rfl | (exfalso; omega) | exact .inr (hd _ (by omega)) | (left; subst_vars; exact hH.symm) | (left; subst_vars; rfl) | (left; simp; done) | (left; simp; omega)) (by omega)) | omega | rfl | assumption | exact Flat.nil | exact ⟨_, rfl, rfl, by assumption⟩ | (simp; done) | (simp; omega))
      · simp (maxSteps := 4000000) (disch := omega) only [go_sem, w64, AndB_of, IfB_of, IfB_no, pickE_of, pickE_no, ite_of, ite_no, tdivE, tmodE, takeAll]
        refine IfB.dec (fun c2 => ?_) (fun c2 => ?_)
        · simp (maxSteps := 4000000) (disch := omega) only [go_sem, w64, AndB_of, IfB_of, IfB_no, pickE_of, pickE_no, ite_of, ite_no, tdivE, tmodE, takeAll, hcell, k0.hr, cR_flen]
          have hF : TFin H (upd (upd (upd (upd (upd hp rid (.live 0 [.sl bs.size false (bytesCells bs), .int .i64 (q3 + 1)])) xx (.live 0 [.int .i64 9, .int .i64 0, .str ⟨#[]⟩])) (xx + 1) (.live 0 [.msl xx 0 3 0 1])) t0.rid (.live (t0.rv + 1) (flat cR t0.rows ++ [.msl xx 0 3 0 1]))) nx (.live v (.msl t0.cid t0.cv 2 0 t0.cols.length :: .msl t0.rid (t0.rv + 1) 1 0 (t0.rows.length + 1) :: flat TSpec.c tr))) nx rid (xx + 1 + 1) v m bs (q3 + 1) :=
            ⟨by rw [upd_ne _ _ (by omega), upd_ne _ _ (by omega), upd_ne _ _ (by omega), upd_ne _ _ (by omega), upd_same], fun i a b => by rw [upd_ne _ _ (by omega), upd_ne _ _ (by omega), upd_ne _ _ (by omega), upd_ne _ _ (by omega), upd_ne _ _ b]; exact hI.old i a b, _, ⟨t0.cols, t0.rows ++ [[⟨9, 0, ⟨#[]⟩⟩]]⟩ :: tr.map (fun t => ⟨t.cols, t.rows⟩), upd_same .., by simp only [List.length_cons]; omega, by rw [← t2, etr]; simp,
              TPic.app (t1 := [_]) (TPic.one (pic_cols (rest := t0.crest) (by rw [upd_ne _ _ (by omega), upd_ne _ _ (by omega), upd_ne _ _ (by omega), upd_ne _ _ (by omega), upd_ne _ _ (by omega)]; exact k0.hc) (by omega)) (pic_row9 (x := xx) (by rw [upd_ne _ _ (by omega), upd_same]) (by rw [upd_ne _ _ (by omega), upd_ne _ _ (by omega), upd_ne _ _ (by omega), upd_same]; rfl) (by omega) (by omega)) (by omega) (by simp; omega) fun r hr => (List.mem_append.1 hr).elim (k0.l3 r) fun h => by simp at h; subst h; exact ⟨by simp, by intro w hw; simp at hw; subst hw; decide⟩)
                (pics (lo := nx + 1) (hi := xx + 1 + 1) (by omega) fun t ht => (t3 t (by rw [etr]; simp [ht])).congr (by omega) fun i p1 p2 p3 => by
                  have ap := hap t ht
                  unfold TSpec.ap at ap
                  rw [upd_ne _ _ (by omega), upd_ne _ _ (by omega), upd_ne _ _ (by omega), upd_ne _ _ (by omega), upd_ne _ _ (by omega)])⟩
          ((repeat' apply And.intro) <;> first | exact hF | (exact Weak.go (by (first | (simp [wkL]; done) | (simp [wkL]; omega))) (fun zi => by first | exact .inl rfl | exact .inr rfl | (simp only [upd]; repeat' split) <;> first | exact hF | exact .inl rfl | exact .inr rfl | (exfalso; omega) | exact .inr (hd _ (by omega)) | (left; subst_vars; exact hH.symm) | (left; subst_vars; rfl) | (left; simp; done) | (left; simp; omega)) (by omega)) | omega | rfl | assumption | exact Flat.nil | exact ⟨_, rfl, rfl, by assumption⟩ | (simp; done) | (simp; omega))
        · simp (maxSteps := 4000000) (disch := omega) only [go_sem, w64, AndB_of, IfB_of, IfB_no, pickE_of, pickE_no, ite_of, ite_no, tdivE, tmodE, takeAll, hcell, k0.hc, flat_len GCol.len, htk, hlc]
          have hF : TFin H (upd (upd (upd (upd hp rid (.live 0 [.sl bs.size false (bytesCells bs), .int .i64 (q3 + 1)])) xx (.live 0 [.int .i64 1, .bool false])) t0.cid (.live (t0.cv + 1) (flat GCol.c t0.cols ++ [.int .i64 1, .bool false]))) nx (.live v (.msl t0.cid (t0.cv + 1) 2 0 (t0.cols.length + 1) :: .msl t0.rid t0.rv 1 0 t0.rows.length :: flat TSpec.c tr))) nx rid (xx + 1) v m bs (q3 + 1) :=
            ⟨by rw [upd_ne _ _ (by omega), upd_ne _ _ (by omega), upd_ne _ _ (by omega), upd_same], fun i a b => by rw [upd_ne _ _ (by omega), upd_ne _ _ (by omega), upd_ne _ _ (by omega), upd_ne _ _ b]; exact hI.old i a b, _, ⟨t0.cols ++ [⟨1, false⟩], t0.rows⟩ :: tr.map (fun t => ⟨t.cols, t.rows⟩), upd_same .., by simp only [List.length_cons]; omega, by rw [← t2, etr]; simp,
              TPic.app (t1 := [_]) (TPic.one (pic_col9 (g := ⟨1, false⟩) (by rw [upd_ne _ _ (by omega), upd_same]; rfl) (by omega)) (pic_rows (by rw [upd_ne _ _ (by omega), upd_ne _ _ (by omega), upd_ne _ _ (by omega), upd_ne _ _ (by omega)]; exact k0.hr) (by omega)) (by simp; omega) (by omega) k0.l3)
                (pics (lo := nx + 1) (hi := xx + 1) (by omega) fun t ht => (t3 t (by rw [etr]; simp [ht])).congr (by omega) fun i p1 p2 p3 => by
                  have ap := hap t ht
                  unfold TSpec.ap at ap
                  rw [upd_ne _ _ (by omega), upd_ne _ _ (by omega), upd_ne _ _ (by omega), upd_ne _ _ (by omega)])⟩
          ((repeat' apply And.intro) <;> first | exact hF | (exact Weak.go (by (first | (simp [wkL]; done) | (simp [wkL]; omega))) (fun zi => by first | exact .inl rfl | exact .inr rfl | (simp only [upd]; repeat' split) <;> first | exact hF | exact .inl rfl | exact .inr rfl | (exfalso; omega) | exact .inr (hd _ (by omega)) | (left; subst_vars; exact hH.symm) | (left; subst_vars; rfl) | (left; simp; done) | (left; simp; omega)) (by omega)) | omega | rfl | assumption | exact Flat.nil | exact ⟨_, rfl, rfl, by assumption⟩ | (simp; done) | (simp; omega))
    · simp (maxSteps := 4000000) (disch := omega) only [go_sem, w64, AndB_of, IfB_of, IfB_no, pickE_of, pickE_no, ite_of, ite_no, tdivE, tmodE, takeAll, t1, tl]
      have hF : TFin H (upd hp rid (.live 0 [.sl bs.size false (bytesCells bs), .int .i64 (q3)])) nx rid xx v m bs q3 :=
        ⟨upd_same .., fun i a b => by rw [upd_ne _ _ b]; exact hI.old i a b, _, ts.map (fun t => ⟨t.cols, t.rows⟩), by rw [upd_ne _ _ (by omega)]; exact t1, tl, by simp [t2], pics (lo := nx + 1) (hi := xx) (by omega) fun t ht => (t3 t ht).congr (by omega) fun i p1 p2 _ => by rw [upd_ne _ _ (by omega)]⟩
      ((repeat' apply And.intro) <;> first | exact hF | (exact Weak.go (by (first | (simp [wkL]; done) | (simp [wkL]; omega))) (fun zi => by first | exact .inl rfl | exact .inr rfl | (simp only [upd]; repeat' split) <;> first | exact hF | exact .inl rfl | exact .inr rfl | (exfalso; omega) | exact .inr (hd _ (by omega)) | (left; subst_vars; exact hH.symm) | (left; subst_vars; rfl) | (left; simp; done) | (left; simp; omega)) (by omega)) | omega | rfl | assumption | exact Flat.nil | exact ⟨_, rfl, rfl, by assumption⟩ | (simp; done) | (simp; omega))
  intro zz zh
  obtain ⟨hp3, x3, v3, m3, q3⟩ := zz
  dsimp only at zh
  obtain ⟨hm3, hm4, hq2, hq3, hJ⟩ := zh
  simp (maxSteps := 4000000) (disch := omega) only [go_sem, w64, AndB_of, IfB_of, IfB_no, pickE_of, pickE_no, ite_of, ite_no, tdivE, tmodE, takeAll]
  obtain ⟨cells, tabs, f1, f2, f3, f4⟩ := hJ.ex
  refine AW.of ?_
  simp (maxSteps := 4000000) (disch := omega) only [go_sem, w64, AndB_of, IfB_of, IfB_no, pickE_of, pickE_no, ite_of, ite_no, tdivE, tmodE, takeAll]
  refine ⟨0, [.sl bs.size false (bytesCells bs), .int .i64 (q3)], fun i hi => ?_, (by simp [pureL, pureA, bytesCells_pure]), tabs, q3, by omega, by omega, by omega, by omega, f4.2, TPic.ret f1 f2 f3 f4, rfl⟩
  split
  · next h => rw [h]; exact hJ.hr
  · next h => exact hJ.old i hi h
end Go.TH
