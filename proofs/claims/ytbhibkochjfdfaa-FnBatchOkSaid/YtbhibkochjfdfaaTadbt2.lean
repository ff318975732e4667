/- TH: draws: batches. Made by gen.py. -/
import Derived.Test.YtbhibkochjfdfaaTf3
import Derived.Test.YtbhibkochjfdfaaTadbt
import Derived.Test.YtbhibkochjfdfaaTf4
namespace Go.TH
open Go Go.Proofs
set_option linter.unusedSimpArgs false
set_option linter.unusedVariables false
set_option maxHeartbeats 20000000
set_option maxRecDepth 100000
def PRw (n : Nat) (r : GRow) : Prop := r.length = n ∧ ∀ v ∈ r, PVx v
structure B3 (H hp : AH) (nx rid lo n2 x : Nat) (bs : ByteArray) (q : Int) : Prop where
  hr : hp rid = .live 0 [.sl bs.size false (bytesCells bs), .int .i64 (q)]
  hz : hp nx = .live 0 [.sl 0 true [], .sl 0 true []]
  old : ∀ i, i < nx → i ≠ rid → hp i = H i
  dead : ∀ i, x ≤ i → hp i = .dead
  hlo : lo ≤ n2 ∧ n2 < x
  ex : ∃ cid cv pid pv cells pk, hp n2 = .live 0 [.msl cid cv 1 0 cells.length, .msl pid pv 1 0 pk.length] ∧ BtO hp lo x cid cv pid pv cells pk ∧ cid ≠ n2 ∧ pid ≠ n2
structure B2 (H hp : AH) (nx rid lo n2 cid cv pid pv N : Nat) (cells : List AV) (bs : ByteArray) (q : Int) : Prop where
  hr : hp rid = .live 0 [.sl bs.size false (bytesCells bs), .int .i64 (q)]
  hz : hp nx = .live 0 [.sl 0 true [], .sl 0 true []]
  old : ∀ i, i < nx → i ≠ rid → hp i = H i
  dead : ∀ i, n2 + 1 ≤ i → hp i = .dead
  e : hp n2 = .live 0 [.msl cid cv 1 0 cells.length, .msl pid pv 1 0 N]
  ex : ∃ pk, pk.length = N ∧ BtO hp lo n2 cid cv pid pv cells pk
theorem B3.of {H hp h' : AH} {nx rid lo n2 cid cv pid pv N x cid' cv' pid' pv' : Nat} {cells cells' : List AV} {pk' : List Bool} {bs : ByteArray} {q q3 : Int} (hI : B2 H hp nx rid lo n2 cid cv pid pv N cells bs q) (hr : rid < nx) (hlo : nx < lo ∧ lo ≤ n2 ∧ n2 < x) (hr' : h' rid = .live 0 [.sl bs.size false (bytesCells bs), .int .i64 (q3)])
    (e : ∀ i, i ≠ rid → i ≠ n2 → (i ≤ nx ∨ x ≤ i) → h' i = hp i) (en : h' n2 = .live 0 [.msl cid' cv' 1 0 cells'.length, .msl pid' pv' 1 0 pk'.length]) (hB : BtO h' lo x cid' cv' pid' pv' cells' pk') (h1 : cid' ≠ n2) (h2 : pid' ≠ n2) : B3 H h' nx rid lo n2 x bs q3 :=
  ⟨hr', by rw [e nx (by omega) (by omega) (by omega)]; exact hI.hz, fun i a b => by rw [e i b (by omega) (by omega)]; exact hI.old i a b, fun i hi => by rw [e i (by omega) (by omega) (by omega)]; exact hI.dead i (by omega), by omega, cid', cv', pid', pv', cells', pk', en, hB, h1, h2⟩
theorem put_bool {l : List Bool} {k : Nat} (hk : k < l.length) (b : Bool) : (flat cBo l).take k ++ [.bool b] ++ (flat cBo l).drop (k + 1) = flat cBo (l.set k b) := by
  have := flat_put (c := cBo) (sz := 1) (fun _ => rfl) hk b []
  simpa [cBo] using this
theorem d_batch {H : AH} {nx rid : Nat} {bs : ByteArray} {p n : Int} (hr : rid < nx) (hH : H rid = .live 0 [.sl bs.size false (bytesCells bs), .int .i64 (p)]) (hd : ∀ i, nx ≤ i → H i = .dead) (hp0 : 0 ≤ p) (hp : p ≤ 600000000) (hb : bs.size ≤ 2000) (hn0 : -1000000000 ≤ n) (hn : n ≤ 1000000000) :
    ACallD Try.prog 82 [.ptr rid 0 0, .int .i64 n] H nx (fun r H' nx' => ∃ (c : List GCol) (b : GBt) (q : Int), p ≤ q ∧ q ≤ p + 1000 ∧ b.cols.length ≤ 12 ∧ b.picked.length ≤ 9 ∧ (∀ c ∈ b.cols, c.length ≤ 9 ∧ ∀ v ∈ c, PVx v) ∧ r = .tup [colsA c, .agg [rowsA b.cols, boolsA b.picked]] ∧ H' = upd H rid (.live 0 [.sl bs.size false (bytesCells bs), .int .i64 (q)]) ∧ nx' = nx) := by
  have hdd := hd
  refine ACallD.finR 2 rid hr ?_
  refine wcall_body mixed Try.func82 _ (by unfold Try.f82; rfl) Try.ntmps82 Try.results82 (by decide) (by simp) ?_
  simp (maxSteps := 4000000) (disch := omega) only [go_sem, w64, AndB_of, IfB_of, IfB_no, pickE_of, pickE_no, ite_of, ite_no, tdivE, tmodE, takeAll]
  refine AW.step ?_
  simp (maxSteps := 4000000) (disch := omega) only [go_sem, w64, AndB_of, IfB_of, IfB_no, pickE_of, pickE_no, ite_of, ite_no, tdivE, tmodE, takeAll]
  refine AW.step ?_
  simp (maxSteps := 4000000) (disch := omega) only [go_sem, w64, AndB_of, IfB_of, IfB_no, pickE_of, pickE_no, ite_of, ite_no, tdivE, tmodE, takeAll]
  apply CallB.law; (focus (apply d_columns; omega; (repeat (first | exact hH | exact upd_same _ _ _ | rw [upd_ne _ _ (by omega)])); (first | exact fun i hi => hd i (by omega) | (intro i hi; repeat (first | exact hd i (by omega) | exact rfl | rw [upd_ne _ _ (by omega)]))); all_goals omega)); rintro _ _ _ ⟨cols, q, hq0, hq1, hc1, hc2, hcP, rfl, rfl, rfl⟩
  simp (maxSteps := 4000000) (disch := omega) only [go_sem, w64, AndB_of, IfB_of, IfB_no, pickE_of, pickE_no, ite_of, ite_no, tdivE, tmodE, takeAll]
  refine AW.step ?_
  simp (maxSteps := 4000000) (disch := omega) only [go_sem, w64, AndB_of, IfB_of, IfB_no, pickE_of, pickE_no, ite_of, ite_no, tdivE, tmodE, takeAll]
  refine AW.cut (fun zs => (verOf (blkOf zs (nx+1)), cellsOf (blkOf zs (nx+1)), mlenOf (slotOf zs 7), intOf (nthA (cellsOf (blkOf zs (rid))) 1))) (fun zz => [(0, none), (0, none), (3, none), (0, none), (0, some (.msl (nx+1) zz.1 1 0 zz.2.2.1))]) (fun zz => upd (upd (upd H nx (.live 0 [.sl 0 true [], .sl 0 true []])) (nx + 1) (.live zz.1 zz.2.1)) rid (.live 0 [.sl bs.size false (bytesCells bs), .int .i64 (zz.2.2.2)])) (fun zz => nx + 20) (fun zz => Flat cR (PRw cols.length) zz.2.1 zz.2.2.1 ∧ zz.2.2.1 ≤ 4 ∧ p ≤ zz.2.2.2 ∧ zz.2.2.2 ≤ p + 200) ?zcut0 ?_
  case' zcut0 => simp (maxSteps := 4000000) (disch := omega) only [go_sem, w64, AndB_of, IfB_of, IfB_no, pickE_of, pickE_no, ite_of, ite_no, tdivE, tmodE, takeAll]
  · apply CallB.law; (focus (apply d_pick; (repeat (first | exact hH | exact upd_same _ _ _ | rw [upd_ne _ _ (by omega)])); all_goals omega)); rintro _ _ _ ⟨x, hx0, hx1, rfl, rfl, rfl⟩
    simp (maxSteps := 4000000) (disch := omega) only [go_sem, w64, AndB_of, IfB_of, IfB_no, pickE_of, pickE_no, ite_of, ite_no, tdivE, tmodE, takeAll]
    refine LoopB.auto (fun zs => (intOf (slotOf zs 8), verOf (blkOf zs (nx+1)), cellsOf (blkOf zs (nx+1)), mlenOf (slotOf zs 7), intOf (nthA (cellsOf (blkOf zs (rid))) 1))) (fun zz => [(0, none), (0, none), (3, none), (0, none), (0, some (.msl (nx+1) zz.2.1 1 0 zz.2.2.2.1)), (0, some (.int .i64 (zz.1 : Int)))]) (fun zz => upd (upd (upd H nx (.live 0 [.sl 0 true [], .sl 0 true []])) (nx + 1) (.live zz.2.1 zz.2.2.1)) rid (.live 0 [.sl bs.size false (bytesCells bs), .int .i64 (zz.2.2.2.2)])) (fun zz => nx + 2 + zz.2.2.2.1) (fun zz => zz.1.toNat) (fun zz => Flat cR (PRw cols.length) zz.2.2.1 zz.2.2.2.1 ∧ 0 ≤ zz.1 ∧ zz.2.2.2.1 + zz.1 ≤ 4 ∧ p ≤ zz.2.2.2.2 ∧ zz.2.2.2.2 ≤ q + 1 + 20 * zz.2.2.2.1) (by (first | simp (maxSteps := 4000000) (disch := omega) only [go_sem, w64, AndB_of, IfB_of, IfB_no, pickE_of, pickE_no, ite_of, ite_no, tdivE, tmodE, takeAll, hH] | simp (maxSteps := 4000000) (disch := omega) only [go_sem, w64, AndB_of, IfB_of, IfB_no, pickE_of, pickE_no, ite_of, ite_no, tdivE, tmodE, takeAll]); ((repeat' apply And.intro) <;> first | (exact Weak.go (by (first | (simp [wkL]; done) | (simp [wkL]; omega))) (fun zi => by first | exact .inl rfl | exact .inr rfl | (simp only [upd]; repeat' split) <;> first | exact .inl rfl | exact .inr rfl | (exfalso; omega) | exact .inr (hd _ (by omega)) | (left; subst_vars; exact hH.symm) | (left; subst_vars; rfl) | (left; simp; done) | (left; simp; omega)) (by omega)) | omega | rfl | assumption | exact Flat.nil | exact ⟨_, rfl, rfl, by assumption⟩ | (simp; done) | (simp; omega))) ?_
    intro zz zh
    obtain ⟨k, v, cells, m, q2⟩ := zz
    dsimp only at zh
    obtain ⟨⟨rows, rfl, rfl, hP⟩, hk, hm, hq2, hq3⟩ := zh
    simp (maxSteps := 4000000) (disch := omega) only [go_sem, w64, AndB_of, IfB_of, IfB_no, pickE_of, pickE_no, ite_of, ite_no, tdivE, tmodE, takeAll]
    refine IfB.dec (fun h => ?_) (fun h => ?_)
    · simp (maxSteps := 4000000) (disch := omega) only [go_sem, w64, AndB_of, IfB_of, IfB_no, pickE_of, pickE_no, ite_of, ite_no, tdivE, tmodE, takeAll]
      refine CallB.law (d_fit0 (p := q2) cols (by omega) (upd_same ..) (fun i hi => by rw [upd_ne _ _ (by omega), upd_ne _ _ (by omega), upd_ne _ _ (by omega)]; exact hdd i (by omega)) (by omega) (by omega) hb (by omega)) ?_
      rintro _ _ _ ⟨row, q3, g1, g2, g3, g4, rfl, rfl, rfl⟩
      simp (maxSteps := 4000000) (disch := omega) only [go_sem, w64, AndB_of, IfB_of, IfB_no, pickE_of, pickE_no, ite_of, ite_no, tdivE, tmodE, takeAll]
      ((repeat' apply And.intro) <;> first | exact Flat.snocR ⟨rows, rfl, rfl, hP⟩ ⟨g3, fun v hv => (g4 v hv).1⟩ | (exact Weak.go (by (first | (simp [wkL]; done) | (simp [wkL]; omega))) (fun zi => by first | exact .inl rfl | exact .inr rfl | (simp only [upd]; repeat' split) <;> first | exact Flat.snocR ⟨rows, rfl, rfl, hP⟩ ⟨g3, fun v hv => (g4 v hv).1⟩ | exact .inl rfl | exact .inr rfl | (exfalso; omega) | exact .inr (hd _ (by omega)) | (left; subst_vars; exact hH.symm) | (left; subst_vars; rfl) | (left; simp; done) | (left; simp; omega)) (by omega)) | omega | rfl | assumption | exact Flat.nil | exact ⟨_, rfl, rfl, by assumption⟩ | (simp; done) | (simp; omega))
    · simp (maxSteps := 4000000) (disch := omega) only [go_sem, w64, AndB_of, IfB_of, IfB_no, pickE_of, pickE_no, ite_of, ite_no, tdivE, tmodE, takeAll]
      ((repeat' apply And.intro) <;> first | (exact Weak.go (by (first | (simp [wkL]; done) | (simp [wkL]; omega))) (fun zi => by first | exact .inl rfl | exact .inr rfl | (simp only [upd]; repeat' split) <;> first | exact .inl rfl | exact .inr rfl | (exfalso; omega) | exact .inr (hd _ (by omega)) | (left; subst_vars; exact hH.symm) | (left; subst_vars; rfl) | (left; simp; done) | (left; simp; omega)) (by omega)) | omega | rfl | assumption | exact Flat.nil | exact ⟨_, rfl, rfl, by assumption⟩ | (simp; done) | (simp; omega))
  intro zz zh
  obtain ⟨v, cells, m, q1⟩ := zz
  dsimp only at zh
  obtain ⟨⟨rows, rfl, rfl, hP⟩, hm, hq2, hq3⟩ := zh
  simp (maxSteps := 4000000) (disch := omega) only [go_sem, w64, AndB_of, IfB_of, IfB_no, pickE_of, pickE_no, ite_of, ite_no, tdivE, tmodE, takeAll]
  refine AW.step ?_
  simp (maxSteps := 4000000) (disch := omega) only [go_sem, w64, AndB_of, IfB_of, IfB_no, pickE_of, pickE_no, ite_of, ite_no, tdivE, tmodE, takeAll]
  have hold0 : ∀ i, i < nx → i ≠ rid → upd (upd (upd H nx (.live 0 [.sl 0 true [], .sl 0 true []])) (nx + 1) (.live v (flat cR rows))) rid (.live 0 [.sl bs.size false (bytesCells bs), .int .i64 (q1)]) i = H i := fun i a b => by rw [upd_ne _ _ b, upd_ne _ _ (by omega), upd_ne _ _ (by omega)]
  have hz0 : upd (upd (upd H nx (.live 0 [.sl 0 true [], .sl 0 true []])) (nx + 1) (.live v (flat cR rows))) rid (.live 0 [.sl bs.size false (bytesCells bs), .int .i64 (q1)]) nx = .live 0 [.sl 0 true [], .sl 0 true []] := by rw [upd_ne _ _ (by omega), upd_ne _ _ (by omega), upd_same]
  refine CallB.law (d_l9Batch cols.length rows (by omega) (by omega) hP (by omega) (by rw [upd_ne _ _ (by omega), upd_same]) (fun i hi => by rw [upd_ne _ _ (by omega), upd_ne _ _ (by omega), upd_ne _ _ (by omega)]; exact hdd i (by omega))) ?_
  rintro _ H2 n2 ⟨cid, cv, pid, pv, cells, pk, hB, hcl, hpk, hn2, hold, hdead, hcs, rfl⟩
  have hrid : H2 rid = .live 0 [.sl bs.size false (bytesCells bs), .int .i64 (q1)] := by rw [hold rid (by omega), upd_same]
  have hz2 : H2 nx = .live 0 [.sl 0 true [], .sl 0 true []] := by rw [hold nx (by omega), hz0]
  have hb1 := hB.h1
  have hb2 := hB.h2
  simp (maxSteps := 4000000) (disch := omega) only [go_sem, w64, AndB_of, IfB_of, IfB_no, pickE_of, pickE_no, ite_of, ite_no, tdivE, tmodE, takeAll, hB.hc, hB.hp]
  have hH0 := hH
  have hH := hrid
  have hI0 : B2 H (upd H2 n2 (.live 0 [.msl cid cv 1 0 cells.length, .msl pid pv 1 0 pk.length])) nx rid (nx + 20) n2 cid cv pid pv pk.length cells bs q1 :=
    ⟨by rw [upd_ne _ _ (by omega)]; exact hrid, by rw [upd_ne _ _ (by omega)]; exact hz2, fun i a b => by rw [upd_ne _ _ (by omega), hold i (by omega)]; exact hold0 i a b, fun i hi => by rw [upd_ne _ _ (by omega)]; exact hdead i (by omega), upd_same .., pk, rfl, hB.congr (Nat.le_refl _) fun i a b => upd_ne _ _ (by omega)⟩
  refine AW.cut (fun zs => (heapOf zs, intOf (nthA (cellsOf (blkOf zs (rid))) 1))) (fun zz => [(0, none), (0, none), (3, none), (0, none), (2, none)]) (fun zz => zz.1) (fun zz => n2 + 1) (fun zz => q1 ≤ zz.2 ∧ zz.2 ≤ q1 + pk.length ∧ B2 H zz.1 nx rid (nx + 20) n2 cid cv pid pv pk.length cells bs zz.2) ?zcut1 ?_
  case' zcut1 => simp (maxSteps := 4000000) (disch := omega) only [go_sem, w64, AndB_of, IfB_of, IfB_no, pickE_of, pickE_no, ite_of, ite_no, tdivE, tmodE, takeAll]
  · refine LoopB.auto (fun zs => (heapOf zs, (intOf (slotOf zs 10)).toNat, intOf (nthA (cellsOf (blkOf zs (rid))) 1))) (fun zz => [(0, none), (0, none), (3, none), (0, none), (2, none), (0, some (.int .i64 (zz.2.1 : Int)))]) (fun zz => zz.1) (fun zz => n2 + 1) (fun zz => pk.length - zz.2.1) (fun zz => zz.2.1 ≤ pk.length ∧ q1 ≤ zz.2.2 ∧ zz.2.2 ≤ q1 + zz.2.1 ∧ B2 H zz.1 nx rid (nx + 20) n2 cid cv pid pv pk.length cells bs zz.2.2) (by (first | simp (maxSteps := 4000000) (disch := omega) only [go_sem, w64, AndB_of, IfB_of, IfB_no, pickE_of, pickE_no, ite_of, ite_no, tdivE, tmodE, takeAll, hH] | simp (maxSteps := 4000000) (disch := omega) only [go_sem, w64, AndB_of, IfB_of, IfB_no, pickE_of, pickE_no, ite_of, ite_no, tdivE, tmodE, takeAll]); ((repeat' apply And.intro) <;> first | exact hI0 | (exact Weak.go (by (first | (simp [wkL]; done) | (simp [wkL]; omega))) (fun zi => by first | exact .inl rfl | exact .inr rfl | (simp only [upd]; repeat' split) <;> first | exact hI0 | exact .inl rfl | exact .inr rfl | (exfalso; omega) | exact .inr (hd _ (by omega)) | (left; subst_vars; exact hH.symm) | (left; subst_vars; rfl) | (left; simp; done) | (left; simp; omega)) (by omega)) | omega | rfl | assumption | exact Flat.nil | exact ⟨_, rfl, rfl, by assumption⟩ | (simp; done) | (simp; omega))) ?_
    intro zz zh
    obtain ⟨hp2, k, q2⟩ := zz
    dsimp only at zh
    obtain ⟨hk, hq4, hq5, hI⟩ := zh
    simp (maxSteps := 4000000) (disch := omega) only [go_sem, w64, AndB_of, IfB_of, IfB_no, pickE_of, pickE_no, ite_of, ite_no, tdivE, tmodE, takeAll]
    obtain ⟨pk2, hl2, hB2⟩ := hI.ex
    have hc2 := hB2.hp
    simp (maxSteps := 4000000) (disch := omega) only [go_sem, w64, AndB_of, IfB_of, IfB_no, pickE_of, pickE_no, ite_of, ite_no, tdivE, tmodE, takeAll, hI.e, hc2]
    refine IfB.dec (fun c1 => ?_) (fun c1 => ?_)
    · have c1' : k < pk2.length := by omega
      simp (maxSteps := 4000000) (disch := omega) only [go_sem, w64, AndB_of, IfB_of, IfB_no, pickE_of, pickE_no, ite_of, ite_no, tdivE, tmodE, takeAll]
      refine DrawB.intro [4, 7] [7] (inS (rid) (rid) (rid)) (by kernel_rfl) ?_
      simp (maxSteps := 4000000) (disch := omega) only [go_sem, w64, AndB_of, IfB_of, IfB_no, pickE_of, pickE_no, ite_of, ite_no, tdivE, tmodE, takeAll, hI.e, hc2]
      refine CallB.law (d_pick (p := q2) hI.hr (by omega) (by omega) hb (by omega) (by omega)) ?_
      rintro _ _ _ ⟨y, hy0, hy1, rfl, rfl, rfl⟩
      simp (maxSteps := 4000000) (disch := omega) only [go_sem, w64, AndB_of, IfB_of, IfB_no, pickE_of, pickE_no, ite_of, ite_no, tdivE, tmodE, takeAll, hI.e, hc2]
      rw [put_bool c1']
      have hI2 : B2 H (upd (upd hp2 rid (.live 0 [.sl bs.size false (bytesCells bs), .int .i64 (q2+1)])) pid (.live pv (flat cBo (pk2.set k (decide (0 < y)))))) nx rid (nx + 20) n2 cid cv pid pv pk.length cells bs (q2 + 1) :=
        ⟨by rw [upd_ne _ _ (by omega), upd_same], by rw [upd_ne _ _ (by omega), upd_ne _ _ (by omega)]; exact hI.hz, fun i a b => by rw [upd_ne _ _ (by omega), upd_ne _ _ b]; exact hI.old i a b, fun i hi => by rw [upd_ne _ _ (by omega), upd_ne _ _ (by omega)]; exact hI.dead i hi,
         by rw [upd_ne _ _ (by omega), upd_ne _ _ (by omega)]; exact hI.e, pk2.set k (decide (0 < y)), by rw [List.length_set]; exact hl2, hB2.pick (Nat.le_refl _) (fun i a b c => by rw [upd_ne _ _ c, upd_ne _ _ (by omega)]) (upd_same ..) (by rw [List.length_set]; exact hB2.h4)⟩
      ((repeat' apply And.intro) <;> first | exact hI2 | (exact Weak.go (by (first | (simp [wkL]; done) | (simp [wkL]; omega))) (fun zi => by first | exact .inl rfl | exact .inr rfl | (simp only [upd]; repeat' split) <;> first | exact hI2 | exact .inl rfl | exact .inr rfl | (exfalso; omega) | exact .inr (hd _ (by omega)) | (left; subst_vars; exact hH.symm) | (left; subst_vars; rfl) | (left; simp; done) | (left; simp; omega)) (by omega)) | omega | rfl | assumption | exact Flat.nil | exact ⟨_, rfl, rfl, by assumption⟩ | (simp; done) | (simp; omega))
    · simp (maxSteps := 4000000) (disch := omega) only [go_sem, w64, AndB_of, IfB_of, IfB_no, pickE_of, pickE_no, ite_of, ite_no, tdivE, tmodE, takeAll, hI.e, hI.hr]
      ((repeat' apply And.intro) <;> first | exact hI | (exact Weak.go (by (first | (simp [wkL]; done) | (simp [wkL]; omega))) (fun zi => by first | exact .inl rfl | exact .inr rfl | (simp only [upd]; repeat' split) <;> first | exact hI | exact .inl rfl | exact .inr rfl | (exfalso; omega) | exact .inr (hd _ (by omega)) | (left; subst_vars; exact hH.symm) | (left; subst_vars; rfl) | (left; simp; done) | (left; simp; omega)) (by omega)) | omega | rfl | assumption | exact Flat.nil | exact ⟨_, rfl, rfl, by assumption⟩ | (simp; done) | (simp; omega))
  intro zz zh
  obtain ⟨hp2, q2⟩ := zz
  dsimp only at zh
  obtain ⟨hq4, hq5, hI⟩ := zh
  simp (maxSteps := 4000000) (disch := omega) only [go_sem, w64, AndB_of, IfB_of, IfB_no, pickE_of, pickE_no, ite_of, ite_no, tdivE, tmodE, takeAll]
  obtain ⟨pk2, hl2, hB2⟩ := hI.ex
  have hc2 := hB2.hp
  have hcc := hB2.hc
  have hcl2 := hB2.h5
  have hpl2 := hB2.h4
  have hw1 : 1 ≤ cells.length := by omega
  refine AW.cut (fun zs => (heapOf zs, nxOf zs, intOf (nthA (cellsOf (blkOf zs (rid))) 1))) (fun zz => [(5, none), (0, none), (2, none)]) (fun zz => zz.1) (fun zz => zz.2.1) (fun zz => q2 ≤ zz.2.2 ∧ zz.2.2 ≤ q2 + 40 ∧ B3 H zz.1 nx rid (nx + 20) n2 zz.2.1 bs zz.2.2) ?zcut2 ?_
  case' zcut2 => simp (maxSteps := 4000000) (disch := omega) only [go_sem, w64, AndB_of, IfB_of, IfB_no, pickE_of, pickE_no, ite_of, ite_no, tdivE, tmodE, takeAll]
  · refine CallB.law (d_odd (p := q2) hI.hr (by omega) (by omega) hb hn0 hn) ?_
    rintro _ _ _ ⟨z, q3, k1, k2, rfl, rfl, rfl⟩
    simp (maxSteps := 4000000) (disch := omega) only [go_sem, w64, AndB_of, IfB_of, IfB_no, pickE_of, pickE_no, ite_of, ite_no, tdivE, tmodE, takeAll]
    refine IfB.split (fun c => ?_) (fun c => ?_)
    · simp (maxSteps := 4000000) (disch := omega) only [go_sem, w64, AndB_of, IfB_of, IfB_no, pickE_of, pickE_no, ite_of, ite_no, tdivE, tmodE, takeAll]
      refine CallB.law (d_pick (p := q3) (upd_same ..) (by omega) (by omega) hb (by omega) (by omega)) ?_
      rintro _ _ _ ⟨y, hy0, hy1, rfl, rfl, rfl⟩
      simp (maxSteps := 4000000) (disch := omega) only [go_sem, w64, AndB_of, IfB_of, IfB_no, pickE_of, pickE_no, ite_of, ite_no, tdivE, tmodE, takeAll]
      have t0 : (flat cBo pk2).take pk.length = flat cBo pk2 := takeAll (by rw [cBo_flen]; omega)
      refine IfB.dec (fun c1 => ?_) (fun c1 => ?_)
      · simp (maxSteps := 4000000) (disch := omega) only [go_sem, w64, AndB_of, IfB_of, IfB_no, pickE_of, pickE_no, ite_of, ite_no, tdivE, tmodE, takeAll, hI.e, hc2, hcc, cBo_flen, hl2, t0]
        have er : flat cBo pk2 ++ [AV.bool true] = flat cBo (pk2 ++ [true]) := by rw [flat_append]; rfl
        have el : pk.length + 1 = (pk2 ++ [true]).length := by rw [List.length_append, hl2]; rfl
        rw [er, el]
        have hJ := B3.of (x := n2 + 1 + 1) (h' := upd (upd (upd (upd hp2 rid (.live 0 [.sl bs.size false (bytesCells bs), .int .i64 (q3+1)])) (n2 + 1) (.live 0 [.bool true])) pid (.live (pv + 1) (flat cBo (pk2 ++ [true])))) n2 (.live 0 [.msl cid cv 1 0 cells.length, .msl pid (pv + 1) 1 0 (pk2 ++ [true]).length])) (q3 := q3 + 1) hI hr (by omega)
          (by rw [upd_ne _ _ (by omega), upd_ne _ _ (by omega), upd_ne _ _ (by omega), upd_same]) (fun i a b c => by rw [upd_ne _ _ b, upd_ne _ _ (by omega), upd_ne _ _ (by omega), upd_ne _ _ a]) (upd_same ..)
          (hB2.pick (by omega) (fun i a b c => by rw [upd_ne _ _ (by omega), upd_ne _ _ c, upd_ne _ _ (by omega), upd_ne _ _ (by omega)]) (by rw [upd_ne _ _ (by omega), upd_same]) (by rw [← el]; omega)) (by omega) (by omega)
        ((repeat' apply And.intro) <;> first | exact hJ | (exact Weak.go (by (first | (simp [wkL]; done) | (simp [wkL]; omega))) (fun zi => by first | exact .inl rfl | exact .inr rfl | (simp only [upd]; repeat' split) <;> first | exact hJ | exact .inl rfl | exact .inr rfl | (exfalso; omega) | exact .inr (hd _ (by omega)) | (left; subst_vars; exact hH.symm) | (left; subst_vars; rfl) | (left; simp; done) | (left; simp; omega)) (by omega)) | omega | rfl | assumption | exact Flat.nil | exact ⟨_, rfl, rfl, by assumption⟩ | (simp; done) | (simp; omega))
      · simp (maxSteps := 4000000) (disch := omega) only [go_sem, w64, AndB_of, IfB_of, IfB_no, pickE_of, pickE_no, ite_of, ite_no, tdivE, tmodE, takeAll]
        refine IfB.dec (fun c2 => ?_) (fun c2 => ?_)
        · simp (maxSteps := 4000000) (disch := omega) only [go_sem, w64, AndB_of, IfB_of, IfB_no, pickE_of, pickE_no, ite_of, ite_no, tdivE, tmodE, takeAll, hI.e, hc2, hcc, cBo_flen, hl2]
          have hJ := B3.of (x := n2 + 1 + 1 + 1) (h' := upd (upd (upd (upd (upd hp2 rid (.live 0 [.sl bs.size false (bytesCells bs), .int .i64 (q3+1)])) (n2 + 1) (.live 0 [.int .i64 0, .int .i64 0, .str ⟨#[]⟩])) (n2 + 1 + 1) (.live 0 [.msl (n2 + 1) 0 3 0 1])) cid (.live (cv + 1) (cells ++ [.msl (n2 + 1) 0 3 0 1]))) n2 (.live 0 [.msl cid (cv + 1) 1 0 (cells.length + 1), .msl pid pv 1 0 pk.length])) (q3 := q3 + 1) (cells' := cells ++ [.msl (n2 + 1) 0 3 0 1]) (pk' := pk2) (pid' := pid) (pv' := pv) hI hr (by omega)
            (by rw [upd_ne _ _ (by omega), upd_ne _ _ (by omega), upd_ne _ _ (by omega), upd_ne _ _ (by omega), upd_same]) (fun i a b c => by rw [upd_ne _ _ b, upd_ne _ _ (by omega), upd_ne _ _ (by omega), upd_ne _ _ (by omega), upd_ne _ _ a]) (by rw [upd_same, hl2, List.length_append]; rfl)
            (hB2.put (by omega) (fun i a b c => by rw [upd_ne _ _ (by omega), upd_ne _ _ c, upd_ne _ _ (by omega), upd_ne _ _ (by omega), upd_ne _ _ (by omega)]) (by rw [upd_ne _ _ (by omega), upd_same]) (by rw [List.length_append]; have := List.length_singleton (a := AV.msl (n2 + 1) 0 3 0 1); omega)
              (fun a ha => (List.mem_append.1 ha).imp id fun ha => by
                rw [List.mem_singleton.1 ha]
                exact ⟨[⟨0, 0, ⟨#[]⟩⟩], n2 + 1, 0, by simp, fun v hv => by simp at hv; subst hv; simp [PVx], rfl, by omega, by omega, by omega, by omega, by rw [upd_ne _ _ (by omega), upd_ne _ _ (by omega), upd_ne _ _ (by omega), upd_same]; rfl⟩)) (by omega) (by omega)
          ((repeat' apply And.intro) <;> first | exact hJ | (exact Weak.go (by (first | (simp [wkL]; done) | (simp [wkL]; omega))) (fun zi => by first | exact .inl rfl | exact .inr rfl | (simp only [upd]; repeat' split) <;> first | exact hJ | exact .inl rfl | exact .inr rfl | (exfalso; omega) | exact .inr (hd _ (by omega)) | (left; subst_vars; exact hH.symm) | (left; subst_vars; rfl) | (left; simp; done) | (left; simp; omega)) (by omega)) | omega | rfl | assumption | exact Flat.nil | exact ⟨_, rfl, rfl, by assumption⟩ | (simp; done) | (simp; omega))
        · simp (maxSteps := 4000000) (disch := omega) only [go_sem, w64, AndB_of, IfB_of, IfB_no, pickE_of, pickE_no, ite_of, ite_no, tdivE, tmodE, takeAll]
          refine IfB.dec (fun c3 => ?_) (fun c3 => ?_)
          · simp (maxSteps := 4000000) (disch := omega) only [go_sem, w64, AndB_of, IfB_of, IfB_no, pickE_of, pickE_no, ite_of, ite_no, tdivE, tmodE, takeAll, hI.e, hc2, hcc, cBo_flen, hl2]
            refine IfB.dec (fun c4 => ?_) (fun c4 => ?_)
            · obtain ⟨a0, cs, ecs⟩ : ∃ a0 cs, cells = a0 :: cs := by
                match hq : cells, hw1 with
                | a :: l, _ => exact ⟨a, l, rfl⟩
              obtain ⟨col, id0, v0, g1, g2, ea, g4, g5, g6, g7, g8⟩ := hB2.cols a0 (by rw [ecs]; simp)
              obtain ⟨i0, w0, ea2⟩ := hcs a0 (by rw [ecs]; simp)
              have hcl0 : col.length = rows.length := by rw [ea] at ea2; injection ea2
              have hcpos : 0 < col.length := by omega
              have hcc0 : hp2 cid = .live cv (.msl id0 v0 3 0 col.length :: cs) := by rw [hcc, ecs, ea]
              simp (maxSteps := 4000000) (disch := omega) only [go_sem, w64, AndB_of, IfB_of, IfB_no, pickE_of, pickE_no, ite_of, ite_no, tdivE, tmodE, takeAll]
              refine DrawB.intro [5, 7] [7] (inS (rid) (rid) (rid)) (by kernel_rfl) ?_
              simp (maxSteps := 4000000) (disch := omega) only [go_sem, w64, AndB_of, IfB_of, IfB_no, pickE_of, pickE_no, ite_of, ite_no, tdivE, tmodE, takeAll, hI.e, hcc0, g8]
              refine CallB.law (d_value (p := q3 + 1) (by omega) (upd_same ..) (fun i hi => by rw [upd_ne _ _ (by omega)]; exact hI.dead i hi) (by omega) (by omega) hb (by omega) (by omega)) ?_
              rintro _ _ _ ⟨w, q4, w1, w2, w3, w4, rfl, rfl, rfl⟩
              simp (maxSteps := 4000000) (disch := omega) only [go_sem, w64, AndB_of, IfB_of, IfB_no, pickE_of, pickE_no, ite_of, ite_no, tdivE, tmodE, takeAll, hI.e, hcc0, g8]
              have er : AV.int .i64 w.k :: AV.int .i64 w.n :: AV.str w.s :: (flat GVal.c col).drop 3 = flat GVal.c (col.set 0 w) := by
                match col, hcpos with
                | c0 :: cs0, _ => simp [flat_cons, GVal.c]
              rw [er]
              have hJ := B3.of (x := n2 + 1) (h' := upd (upd hp2 rid (.live 0 [.sl bs.size false (bytesCells bs), .int .i64 (q4)])) id0 (.live v0 (flat GVal.c (col.set 0 w)))) (q3 := q4) (pk' := pk2) hI hr (by omega) (by rw [upd_ne _ _ (by omega), upd_same]) (fun i a b c => by rw [upd_ne _ _ (by omega), upd_ne _ _ a]) (by rw [upd_ne _ _ (by omega), upd_ne _ _ (by omega), hl2]; exact hI.e)
                (hB2.set (by omega) ⟨g6, g7⟩ g8 (fun i a b c => by rw [upd_ne _ _ c, upd_ne _ _ (by omega)]) List.length_set g1 (fun v hv => by rcases List.mem_or_eq_of_mem_set hv with h | h; exact g2 v h; subst h; exact w3) (upd_same ..)) (by omega) (by omega)
              ((repeat' apply And.intro) <;> first | exact hJ | (exact Weak.go (by (first | (simp [wkL]; done) | (simp [wkL]; omega))) (fun zi => by first | exact .inl rfl | exact .inr rfl | (simp only [upd]; repeat' split) <;> first | exact hJ | exact .inl rfl | exact .inr rfl | (exfalso; omega) | exact .inr (hd _ (by omega)) | (left; subst_vars; exact hH.symm) | (left; subst_vars; rfl) | (left; simp; done) | (left; simp; omega)) (by omega)) | omega | rfl | assumption | exact Flat.nil | exact ⟨_, rfl, rfl, by assumption⟩ | (simp; done) | (simp; omega))
            · simp (maxSteps := 4000000) (disch := omega) only [go_sem, w64, AndB_of, IfB_of, IfB_no, pickE_of, pickE_no, ite_of, ite_no, tdivE, tmodE, takeAll]
              have hJ := B3.of (x := n2 + 1) (h' := upd hp2 rid (.live 0 [.sl bs.size false (bytesCells bs), .int .i64 (q3+1)])) (q3 := q3 + 1) (pk' := pk2) hI hr (by omega) (upd_same ..) (fun i a b c => by rw [upd_ne _ _ a]) (by rw [upd_ne _ _ (by omega), hl2]; exact hI.e) (hB2.congr (by omega) fun i a b => by rw [upd_ne _ _ (by omega)]) (by omega) (by omega)
              ((repeat' apply And.intro) <;> first | exact hJ | (exact Weak.go (by (first | (simp [wkL]; done) | (simp [wkL]; omega))) (fun zi => by first | exact .inl rfl | exact .inr rfl | (simp only [upd]; repeat' split) <;> first | exact hJ | exact .inl rfl | exact .inr rfl | (exfalso; omega) | exact .inr (hd _ (by omega)) | (left; subst_vars; exact hH.symm) | (left; subst_vars; rfl) | (left; simp; done) | (left; simp; omega)) (by omega)) | omega | rfl | assumption | exact Flat.nil | exact ⟨_, rfl, rfl, by assumption⟩ | (simp; done) | (simp; omega))
          · simp (maxSteps := 4000000) (disch := omega) only [go_sem, w64, AndB_of, IfB_of, IfB_no, pickE_of, pickE_no, ite_of, ite_no, tdivE, tmodE, takeAll, hI.e, hc2, hcc, cBo_flen, hl2]
            have hJ := B3.of (x := n2 + 1) (h' := upd (upd (upd hp2 rid (.live 0 [.sl bs.size false (bytesCells bs), .int .i64 (q3+1)])) cid (.live (cv + 1) (cells ++ cells))) n2 (.live 0 [.msl cid (cv + 1) 1 0 (cells.length + cells.length), .msl pid pv 1 0 pk.length])) (q3 := q3 + 1) (cells' := cells ++ cells) (pk' := pk2) (pid' := pid) (pv' := pv) hI hr (by omega)
              (by rw [upd_ne _ _ (by omega), upd_ne _ _ (by omega), upd_same]) (fun i a b c => by rw [upd_ne _ _ b, upd_ne _ _ (by omega), upd_ne _ _ a]) (by rw [upd_same, hl2, List.length_append])
              (hB2.put (by omega) (fun i a b c => by rw [upd_ne _ _ (by omega), upd_ne _ _ c, upd_ne _ _ (by omega)]) (by rw [upd_ne _ _ (by omega), upd_same]) (by rw [List.length_append]; omega)
                (fun a ha => .inl ((List.mem_append.1 ha).elim id id))) (by omega) (by omega)
            ((repeat' apply And.intro) <;> first | exact hJ | (exact Weak.go (by (first | (simp [wkL]; done) | (simp [wkL]; omega))) (fun zi => by first | exact .inl rfl | exact .inr rfl | (simp only [upd]; repeat' split) <;> first | exact hJ | exact .inl rfl | exact .inr rfl | (exfalso; omega) | exact .inr (hd _ (by omega)) | (left; subst_vars; exact hH.symm) | (left; subst_vars; rfl) | (left; simp; done) | (left; simp; omega)) (by omega)) | omega | rfl | assumption | exact Flat.nil | exact ⟨_, rfl, rfl, by assumption⟩ | (simp; done) | (simp; omega))
    · simp (maxSteps := 4000000) (disch := omega) only [go_sem, w64, AndB_of, IfB_of, IfB_no, pickE_of, pickE_no, ite_of, ite_no, tdivE, tmodE, takeAll]
      have hJ := B3.of (x := n2 + 1) (h' := upd hp2 rid (.live 0 [.sl bs.size false (bytesCells bs), .int .i64 (q3)])) (q3 := q3) (pk' := pk2) hI hr (by omega) (upd_same ..) (fun i a b c => by rw [upd_ne _ _ a]) (by rw [upd_ne _ _ (by omega), hl2]; exact hI.e) (hB2.congr (by omega) fun i a b => by rw [upd_ne _ _ (by omega)]) (by omega) (by omega)
      ((repeat' apply And.intro) <;> first | exact hJ | (exact Weak.go (by (first | (simp [wkL]; done) | (simp [wkL]; omega))) (fun zi => by first | exact .inl rfl | exact .inr rfl | (simp only [upd]; repeat' split) <;> first | exact hJ | exact .inl rfl | exact .inr rfl | (exfalso; omega) | exact .inr (hd _ (by omega)) | (left; subst_vars; exact hH.symm) | (left; subst_vars; rfl) | (left; simp; done) | (left; simp; omega)) (by omega)) | omega | rfl | assumption | exact Flat.nil | exact ⟨_, rfl, rfl, by assumption⟩ | (simp; done) | (simp; omega))
  intro zz zh
  obtain ⟨hp3, x, q3⟩ := zz
  dsimp only at zh
  obtain ⟨hq6, hq7, hJ⟩ := zh
  simp (maxSteps := 4000000) (disch := omega) only [go_sem, w64, AndB_of, IfB_of, IfB_no, pickE_of, pickE_no, ite_of, ite_no, tdivE, tmodE, takeAll]
  obtain ⟨cid3, cv3, pid3, pv3, cells3, pk3, en3, hB3, hne1, hne2⟩ := hJ.ex
  have hlo3 := hJ.hlo
  refine AW.of ?_
  simp (maxSteps := 4000000) (disch := omega) only [go_sem, w64, AndB_of, IfB_of, IfB_no, pickE_of, pickE_no, ite_of, ite_no, tdivE, tmodE, takeAll]
  refine DrawB.intro [3] [3] (inS (x) (x) (x)) (by kernel_rfl) ?_
  have hb31 := hB3.h1
  have hb32 := hB3.h2
  have hb33 := hB3.h4
  simp (maxSteps := 4000000) (disch := omega) only [go_sem, w64, AndB_of, IfB_of, IfB_no, pickE_of, pickE_no, ite_of, ite_no, tdivE, tmodE, takeAll, en3, hB3.hc, hB3.hp, hJ.hz]
  obtain ⟨cols3, j1, j2, j3⟩ := cols_keep (d := 0) (nx := nx) (by omega) (hB3.congr (H' := upd hp3 nx (.live 0 [.msl cid3 cv3 1 0 cells3.length, .msl pid3 pv3 1 0 pk3.length])) (Nat.le_refl _) fun i a b => upd_ne _ _ (by omega)).cols
  have hc5 := hB3.h5
  rw [j3, ← j1]
  refine ⟨0, [.sl bs.size false (bytesCells bs), .int .i64 (q3)], fun i hi => ?_, by simp [pureL, pureA, bytesCells_pure], cols, ⟨cols3, pk3⟩, q3, by omega, by omega, by simp only; omega, hb33, j2, rfl, rfl⟩
  rw [upd_ne _ _ (by omega)]
  split
  · rename_i e; rw [e]; exact hJ.hr
  · rename_i e; exact hJ.old i hi e
theorem x_DrawBatchOk (s : ByteArray) : ∃ R, (∃ b : GBt, b.cols.length ≤ 12 ∧ b.picked.length ≤ 9 ∧ (∀ c ∈ b.cols, c.length ≤ 9 ∧ ∀ v ∈ c, PVx v) ∧ R = .agg [rowsA b.cols, boolsA b.picked]) ∧ QCall Try.prog 20 [.sl s.size false (bytesCells s)] R := by
  refine qex_of (by simp [pureL, pureA, bytesCells_pure]) 1 ?_
  refine dcall_body mixed Try.func20 _ (by unfold Try.f20; rfl) Try.ntmps20 Try.results20 (by decide) (by simp) ?_
  simp (maxSteps := 4000000) (disch := omega) only [go_sem, w64, AndB_of, IfB_of, IfB_no, pickE_of, pickE_no, ite_of, ite_no, tdivE, tmodE, takeAll]
  apply CallB.law; (focus (apply d_open; (repeat (first | exact hH | exact upd_same _ _ _ | rw [upd_ne _ _ (by omega)])); all_goals omega)); rintro _ _ _ ⟨bs, hbs, rfl, rfl, rfl⟩
  simp (maxSteps := 4000000) (disch := omega) only [go_sem, w64, AndB_of, IfB_of, IfB_no, pickE_of, pickE_no, ite_of, ite_no, tdivE, tmodE, takeAll]
  refine CallB.law (d_batch (p := 0) (by omega) (upd_same _ _ _) (fun i hi => by rw [upd_ne _ _ (by omega), upd_ne _ _ (by omega)]; rfl) (by omega) (by omega) hbs (by omega) (by omega)) ?_
  rintro _ _ _ ⟨c, b, q, h1, h2, h3, h4, h5, rfl, rfl, rfl⟩
  simp (maxSteps := 4000000) (disch := omega) only [go_sem, w64, AndB_of, IfB_of, IfB_no, pickE_of, pickE_no, ite_of, ite_no, tdivE, tmodE, takeAll]
  exact ⟨b, h3, h4, h5, rfl⟩
end Go.TH
