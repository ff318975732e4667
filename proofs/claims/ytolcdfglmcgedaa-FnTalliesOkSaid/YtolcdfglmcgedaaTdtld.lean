/- TH: draws: tallies. Made by gen.py. -/
import Derived.Test.YtolcdfglmcgedaaTdd3
import Derived.Test.YtolcdfglmcgedaaTdtl
import Derived.Test.YtolcdfglmcgedaaTf3
import Derived.Test.YtolcdfglmcgedaaTf4
namespace Go.TH
open Go Go.Proofs
set_option linter.unusedSimpArgs false
set_option linter.unusedVariables false
set_option maxHeartbeats 20000000
set_option maxRecDepth 100000
theorem d_bagO {H : AH} {nx rid : Nat} {bs : ByteArray} {p n : Int} (cols : List GCol) (hr : rid < nx) (hH : H rid = .live 0 [.sl bs.size false (bytesCells bs), .int .i64 (p)]) (hd : ∀ i, nx ≤ i → H i = .dead) (hp0 : 0 ≤ p) (hp : p ≤ 700000000) (hb : bs.size ≤ 2000) (hn0 : -1000000000 ≤ n) (hn : n ≤ 1000000000) (hc : cols.length ≤ 10) :
    ACallD Try.prog 128 [.ptr rid 0 0, colsA cols, .int .i64 n] H nx (fun r H' nx' => ∃ (l : List GRow) (q : Int), p ≤ q ∧ q ≤ p + 2000 ∧ l.length ≤ 6 ∧ (∀ r ∈ l, PR (cols.length + 3) r) ∧ r = .msl nx 0 1 0 l.length ∧ H' = upd (upd H rid (.live 0 [.sl bs.size false (bytesCells bs), .int .i64 (q)])) nx (.live 0 (flat cR l)) ∧ nx' = nx + 1) := by
  refine ACallD.finR1 1 rid hr ?_
  refine wcall_body mixed Try.func128 _ (by unfold Try.f128; rfl) Try.ntmps128 Try.results128 (by decide) (by simp) ?_
  simp (maxSteps := 4000000) (disch := omega) only [go_sem, w64, AndB_of, IfB_of, IfB_no, pickE_of, pickE_no, ite_of, ite_no, tdivE, tmodE, takeAll]
  refine AW.step ?_
  simp (maxSteps := 4000000) (disch := omega) only [go_sem, w64, AndB_of, IfB_of, IfB_no, pickE_of, pickE_no, ite_of, ite_no, tdivE, tmodE, takeAll]
  refine AW.step ?_
  simp (maxSteps := 4000000) (disch := omega) only [go_sem, w64, AndB_of, IfB_of, IfB_no, pickE_of, pickE_no, ite_of, ite_no, tdivE, tmodE, takeAll]
  refine AW.cut (fun zs => (verOf (blkOf zs (nx)), cellsOf (blkOf zs (nx)), mlenOf (slotOf zs 7), intOf (nthA (cellsOf (blkOf zs (rid))) 1))) (fun zz => [(7, some (.msl nx zz.1 1 0 zz.2.2.1))]) (fun zz => upd (upd H nx (.live zz.1 zz.2.1)) rid (.live 0 [.sl bs.size false (bytesCells bs), .int .i64 (zz.2.2.2)])) (fun zz => nx + 20) (fun zz => Flat cR (PR (cols.length + 3)) zz.2.1 zz.2.2.1 ∧ zz.2.2.1 ≤ 6 ∧ p ≤ zz.2.2.2 ∧ zz.2.2.2 ≤ p + 2000) ?zcut0 ?_
  case' zcut0 => simp (maxSteps := 4000000) (disch := omega) only [go_sem, w64, AndB_of, IfB_of, IfB_no, pickE_of, pickE_no, ite_of, ite_no, tdivE, tmodE, takeAll]
  · apply CallB.law; (focus (apply d_pick; (repeat (first | exact hH | exact upd_same _ _ _ | rw [upd_ne _ _ (by omega)])); all_goals omega)); rintro _ _ _ ⟨x, hx0, hx1, rfl, rfl, rfl⟩
    simp (maxSteps := 4000000) (disch := omega) only [go_sem, w64, AndB_of, IfB_of, IfB_no, pickE_of, pickE_no, ite_of, ite_no, tdivE, tmodE, takeAll]
    refine LoopB.auto (fun zs => (intOf (slotOf zs 8), verOf (blkOf zs (nx)), cellsOf (blkOf zs (nx)), mlenOf (slotOf zs 7), intOf (nthA (cellsOf (blkOf zs (rid))) 1))) (fun zz => [(0, none), (0, none), (0, none), (4, some (.msl nx zz.2.1 1 0 zz.2.2.2.1)), (0, some (.int .i64 (zz.1 : Int)))]) (fun zz => upd (upd H nx (.live zz.2.1 zz.2.2.1)) rid (.live 0 [.sl bs.size false (bytesCells bs), .int .i64 (zz.2.2.2.2)])) (fun zz => nx + 1 + zz.2.2.2.1) (fun zz => zz.1.toNat) (fun zz => Flat cR (PR (cols.length + 3)) zz.2.2.1 zz.2.2.2.1 ∧ 0 ≤ zz.1 ∧ zz.2.2.2.1 + zz.1 ≤ 6 ∧ p ≤ zz.2.2.2.2 ∧ zz.2.2.2.2 ≤ p + 1 + 200 * zz.2.2.2.1) (by (first | simp (maxSteps := 4000000) (disch := omega) only [go_sem, w64, AndB_of, IfB_of, IfB_no, pickE_of, pickE_no, ite_of, ite_no, tdivE, tmodE, takeAll, hH] | simp (maxSteps := 4000000) (disch := omega) only [go_sem, w64, AndB_of, IfB_of, IfB_no, pickE_of, pickE_no, ite_of, ite_no, tdivE, tmodE, takeAll]); ((repeat' apply And.intro) <;> first | (exact Weak.go (by (first | (simp [wkL]; done) | (simp [wkL]; omega))) (fun zi => by first | exact .inl rfl | exact .inr rfl | (simp only [upd]; repeat' split) <;> first | exact .inl rfl | exact .inr rfl | (exfalso; omega) | exact .inr (hd _ (by omega)) | (left; subst_vars; exact hH.symm) | (left; subst_vars; rfl) | (left; simp; done) | (left; simp; omega)) (by omega)) | omega | rfl | assumption | exact Flat.nil | exact ⟨_, rfl, rfl, by assumption⟩ | (simp; done) | (simp; omega))) ?_
    intro zz zh
    obtain ⟨k, v, cells, m, q⟩ := zz
    dsimp only at zh
    obtain ⟨⟨rows, rfl, rfl, hP⟩, hk, hm, hq1, hq2⟩ := zh
    simp (maxSteps := 4000000) (disch := omega) only [go_sem, w64, AndB_of, IfB_of, IfB_no, pickE_of, pickE_no, ite_of, ite_no, tdivE, tmodE, takeAll]
    refine IfB.dec (fun h => ?_) (fun h => ?_)
    · simp (maxSteps := 4000000) (disch := omega) only [go_sem, w64, AndB_of, IfB_of, IfB_no, pickE_of, pickE_no, ite_of, ite_no, tdivE, tmodE, takeAll]
      repeat' (first | (refine IfB.dec (fun h => ?_) (fun h => ?_) <;> (try (have h2 := h; unfold inR at h2)) <;> (try simp (maxSteps := 4000000) (disch := omega) only [go_sem, w64, AndB_of, IfB_of, IfB_no, pickE_of, pickE_no, ite_of, ite_no, tdivE, tmodE, takeAll, h])) | (refine IfB.split (fun h => ?_) (fun h => ?_) <;> (try simp (maxSteps := 4000000) (disch := omega) only [go_sem, w64, AndB_of, IfB_of, IfB_no, pickE_of, pickE_no, ite_of, ite_no, tdivE, tmodE, takeAll, h])) | (apply CallB.law; (focus (apply d_pick; (repeat (first | exact hH | exact upd_same _ _ _ | rw [upd_ne _ _ (by omega)])); all_goals omega)); rintro _ _ _ ⟨x, hx0, hx1, rfl, rfl, rfl⟩; simp (maxSteps := 4000000) (disch := omega) only [go_sem, w64, AndB_of, IfB_of, IfB_no, pickE_of, pickE_no, ite_of, ite_no, tdivE, tmodE, takeAll]) | (apply CallB.law; (focus (apply d_fit _; omega; (repeat (first | exact hH | exact upd_same _ _ _ | rw [upd_ne _ _ (by omega)])); (first | exact fun i hi => hd i (by omega) | (intro i hi; repeat (first | exact hd i (by omega) | exact rfl | rw [upd_ne _ _ (by omega)]))); all_goals omega)); rintro _ _ _ ⟨row, q, hq0, hq1, hr1, hr2, rfl, rfl, rfl⟩; simp (maxSteps := 4000000) (disch := omega) only [go_sem, w64, AndB_of, IfB_of, IfB_no, pickE_of, pickE_no, ite_of, ite_no, tdivE, tmodE, takeAll]))
      all_goals (try (have hx : x.toNat < rows.length := by omega))
      all_goals (try (have hp1 := hP _ (List.getElem_mem hx)))
      all_goals first
        | (apply CallB.q (q_l3Own rows[x.toNat] (by have := hp1.1; omega))
           simp (maxSteps := 4000000) (disch := omega) only [go_sem, w64, AndB_of, IfB_of, IfB_no, pickE_of, pickE_no, ite_of, ite_no, tdivE, tmodE, takeAll]
           ((repeat' apply And.intro) <;> first | exact Flat.snocR ⟨rows, rfl, rfl, hP⟩ hp1 | (exact Weak.go (by (first | (simp [wkL]; done) | (simp [wkL]; omega))) (fun zi => by first | exact .inl rfl | exact .inr rfl | (simp only [upd]; repeat' split) <;> first | exact Flat.snocR ⟨rows, rfl, rfl, hP⟩ hp1 | exact .inl rfl | exact .inr rfl | (exfalso; omega) | exact .inr (hd _ (by omega)) | (left; subst_vars; exact hH.symm) | (left; subst_vars; rfl) | (left; simp; done) | (left; simp; omega)) (by omega)) | omega | rfl | assumption | exact Flat.nil | exact ⟨_, rfl, rfl, by assumption⟩ | (simp; done) | (simp; omega)))
        | ((repeat' apply And.intro) <;> first | exact Flat.snocR ⟨rows, rfl, rfl, hP⟩ ⟨by assumption, by assumption⟩ | (exact Weak.go (by (first | (simp [wkL]; done) | (simp [wkL]; omega))) (fun zi => by first | exact .inl rfl | exact .inr rfl | (simp only [upd]; repeat' split) <;> first | exact Flat.snocR ⟨rows, rfl, rfl, hP⟩ ⟨by assumption, by assumption⟩ | exact .inl rfl | exact .inr rfl | (exfalso; omega) | exact .inr (hd _ (by omega)) | (left; subst_vars; exact hH.symm) | (left; subst_vars; rfl) | (left; simp; done) | (left; simp; omega)) (by omega)) | omega | rfl | assumption | exact Flat.nil | exact ⟨_, rfl, rfl, by assumption⟩ | (simp; done) | (simp; omega))
    · simp (maxSteps := 4000000) (disch := omega) only [go_sem, w64, AndB_of, IfB_of, IfB_no, pickE_of, pickE_no, ite_of, ite_no, tdivE, tmodE, takeAll]
      ((repeat' apply And.intro) <;> first | (exact Weak.go (by (first | (simp [wkL]; done) | (simp [wkL]; omega))) (fun zi => by first | exact .inl rfl | exact .inr rfl | (simp only [upd]; repeat' split) <;> first | exact .inl rfl | exact .inr rfl | (exfalso; omega) | exact .inr (hd _ (by omega)) | (left; subst_vars; exact hH.symm) | (left; subst_vars; rfl) | (left; simp; done) | (left; simp; omega)) (by omega)) | omega | rfl | assumption | exact Flat.nil | exact ⟨_, rfl, rfl, by assumption⟩ | (simp; done) | (simp; omega))
  intro zz zh
  obtain ⟨v, cells, m, q⟩ := zz
  dsimp only at zh
  obtain ⟨⟨rows, rfl, rfl, hP⟩, hm, hq1, hq2⟩ := zh
  simp (maxSteps := 4000000) (disch := omega) only [go_sem, w64, AndB_of, IfB_of, IfB_no, pickE_of, pickE_no, ite_of, ite_no, tdivE, tmodE, takeAll]
  refine AW.of ?_
  simp (maxSteps := 4000000) (disch := omega) only [go_sem, w64, AndB_of, IfB_of, IfB_no, pickE_of, pickE_no, ite_of, ite_no, tdivE, tmodE, takeAll]
  refine ⟨_, _, nx, v, _, (by repeat (first | exact OldR.base hH | refine OldR.set ?_ | refine OldR.new (by omega) ?_ | exact OldW.refl | refine OldW.new (by omega) ?_ | refine OldW.rd ?_)), (by simp [pureL, pureA, bytesCells_pure]), Nat.le_refl _, (by rw [if_neg (by omega), if_pos rfl]), ?_⟩
  simp (maxSteps := 4000000) (disch := omega) only [go_sem, w64, AndB_of, IfB_of, IfB_no, pickE_of, pickE_no, ite_of, ite_no, tdivE, tmodE, takeAll]
  exact ⟨rows, q, by omega, by omega, by omega, hP, rfl, rfl⟩
theorem d_twos {H : AH} {nx rid : Nat} {bs : ByteArray} {p n : Int} (hr : rid < nx) (hH : H rid = .live 0 [.sl bs.size false (bytesCells bs), .int .i64 (p)]) (hd : ∀ i, nx ≤ i → H i = .dead) (hp0 : 0 ≤ p) (hp : p ≤ 600000000) (hb : bs.size ≤ 2000) (hn0 : -1000000000 ≤ n) (hn : n ≤ 1000000000) :
    ACallD Try.prog 156 [.ptr rid 0 0, .int .i64 n] H nx (fun r H' nx' => ∃ (l : List GRow) (q : Int), p ≤ q ∧ q ≤ p + 5000 ∧ l.length ≤ 12 ∧ (∀ r ∈ l, PR 5 r) ∧ r = rowsA l ∧ H' = upd H rid (.live 0 [.sl bs.size false (bytesCells bs), .int .i64 (q)]) ∧ nx' = nx) := by
  have hdd := hd
  refine ACallD.finR 1 rid hr ?_
  refine wcall_body mixed Try.func156 _ (by unfold Try.f156; rfl) Try.ntmps156 Try.results156 (by decide) (by simp) ?_
  simp (maxSteps := 4000000) (disch := omega) only [go_sem, w64, AndB_of, IfB_of, IfB_no, pickE_of, pickE_no, ite_of, ite_no, tdivE, tmodE, takeAll]
  refine AW.step ?_
  simp (maxSteps := 4000000) (disch := omega) only [go_sem, w64, AndB_of, IfB_of, IfB_no, pickE_of, pickE_no, ite_of, ite_no, tdivE, tmodE, takeAll]
  refine AW.step ?_
  simp (maxSteps := 4000000) (disch := omega) only [go_sem, w64, AndB_of, IfB_of, IfB_no, pickE_of, pickE_no, ite_of, ite_no, tdivE, tmodE, takeAll]
  refine AW.cut (fun zs => (intOf (nthA (cellsOf (blkOf zs (nx))) 0), intOf (nthA (cellsOf (blkOf zs (rid))) 1))) (fun zz => [(0, none), (0, none), (3, none)]) (fun zz => upd (upd H nx (.live 0 [.int .i64 zz.1, .bool true, .int .i64 1, .bool true])) rid (.live 0 [.sl bs.size false (bytesCells bs), .int .i64 (zz.2)])) (fun zz => nx + 1) (fun zz => zz.2 = p + 1) ?zcut1 ?_
  case' zcut1 => simp (maxSteps := 4000000) (disch := omega) only [go_sem, w64, AndB_of, IfB_of, IfB_no, pickE_of, pickE_no, ite_of, ite_no, tdivE, tmodE, takeAll]
  · apply CallB.law; (focus (apply d_pick; (repeat (first | exact hH | exact upd_same _ _ _ | rw [upd_ne _ _ (by omega)])); all_goals omega)); rintro _ _ _ ⟨x, hx0, hx1, rfl, rfl, rfl⟩
    simp (maxSteps := 4000000) (disch := omega) only [go_sem, w64, AndB_of, IfB_of, IfB_no, pickE_of, pickE_no, ite_of, ite_no, tdivE, tmodE, takeAll]
    repeat' (first | (refine IfB.dec2 (fun h hd => ?_) (fun h hd => ?_) <;> (try (have h2 := h; unfold inR at h2)) <;> (try simp (maxSteps := 4000000) (disch := omega) only [go_sem, w64, AndB_of, IfB_of, IfB_no, pickE_of, pickE_no, ite_of, ite_no, tdivE, tmodE, takeAll, hd])) | (refine IfB.split (fun h => ?_) (fun h => ?_) <;> (try simp (maxSteps := 4000000) (disch := omega) only [go_sem, w64, AndB_of, IfB_of, IfB_no, pickE_of, pickE_no, ite_of, ite_no, tdivE, tmodE, takeAll, h])) | (refine DrawB.quiet (by kernel_rfl) ?_; simp (maxSteps := 4000000) (disch := omega) only [go_sem, w64, AndB_of, IfB_of, IfB_no, pickE_of, pickE_no, ite_of, ite_no, tdivE, tmodE, takeAll]))
    all_goals ((repeat' apply And.intro) <;> first | (exact Weak.go (by (first | (simp [wkL]; done) | (simp [wkL]; omega))) (fun zi => by first | exact .inl rfl | exact .inr rfl | (simp only [upd]; repeat' split) <;> first | exact .inl rfl | exact .inr rfl | (exfalso; omega) | exact .inr (hd _ (by omega)) | (left; subst_vars; exact hH.symm) | (left; subst_vars; rfl) | (left; simp; done) | (left; simp; omega)) (by omega)) | omega | rfl | assumption | exact Flat.nil | exact ⟨_, rfl, rfl, by assumption⟩ | (simp; done) | (simp; omega))
  intro zz zh
  obtain ⟨a, q⟩ := zz
  dsimp only at zh
  have hq := zh
  simp (maxSteps := 4000000) (disch := omega) only [go_sem, w64, AndB_of, IfB_of, IfB_no, pickE_of, pickE_no, ite_of, ite_no, tdivE, tmodE, takeAll]
  refine AW.weak (Weak.freeze0 5 nx 0 2 2 _ rfl (by rw [upd_ne _ _ (by omega)]; exact upd_same _ _ _) rfl) ?_
  simp only [List.set_cons_succ, List.set_cons_zero]
  refine AW.of ?_
  simp (maxSteps := 4000000) (disch := omega) only [go_sem, w64, AndB_of, IfB_of, IfB_no, pickE_of, pickE_no, ite_of, ite_no, tdivE, tmodE, takeAll]
  have ec : AV.sl 2 false [.int .i64 a, .bool true, .int .i64 1, .bool true] = colsA [⟨a, true⟩, ⟨1, true⟩] := rfl
  (try simp only [ec])
  refine CallB.law (d_bagO (p := q) [⟨a, true⟩, ⟨1, true⟩] (by omega) (by rw [upd_ne _ _ (by omega), upd_same]) (fun i hi => by rw [upd_ne _ _ (by omega), upd_ne _ _ (by omega), upd_ne _ _ (by omega)]; exact hdd i (by omega)) (by omega) (by omega) hb (by omega) (by omega) (by simp)) ?_
  rintro _ _ _ ⟨l1, q1, h1, h2, h3, h4, rfl, rfl, rfl⟩
  simp (maxSteps := 4000000) (disch := omega) only [go_sem, w64, AndB_of, IfB_of, IfB_no, pickE_of, pickE_no, ite_of, ite_no, tdivE, tmodE, takeAll]
  (try simp only [ec])
  refine CallB.law (d_bagO (p := q1) [⟨a, true⟩, ⟨1, true⟩] (by omega) (by rw [upd_ne _ _ (by omega), upd_same]) (fun i hi => by rw [upd_ne _ _ (by omega), upd_ne _ _ (by omega), upd_ne _ _ (by omega), upd_ne _ _ (by omega), upd_ne _ _ (by omega)]; exact hdd i (by omega)) (by omega) (by omega) hb (by omega) (by omega) (by simp)) ?_
  rintro _ _ _ ⟨l2, q2, k1, k2, k3, k4, rfl, rfl, rfl⟩
  simp (maxSteps := 4000000) (disch := omega) only [go_sem, w64, AndB_of, IfB_of, IfB_no, pickE_of, pickE_no, ite_of, ite_no, tdivE, tmodE, takeAll]
  refine ⟨_, _, (by repeat (first | exact OldR.base hH | refine OldR.set ?_ | refine OldR.new (by omega) ?_ | exact OldW.refl | refine OldW.new (by omega) ?_ | refine OldW.rd ?_)), (by simp [pureL, pureA, bytesCells_pure]), ?_⟩
  refine ⟨l1 ++ l2, q2, by omega, by omega, by rw [List.length_append]; omega, fun r hr => (List.mem_append.1 hr).elim (fun h => h4 r h) (fun h => k4 r h), ?_, rfl⟩
  have el : (l1 ++ l2).length = l1.length + l2.length := List.length_append
  rw [← flat_append, takeAll (by rw [cR_flen, el]; exact Nat.le_refl _), cR_keepL, ← el]
  rfl
theorem q_l32Row (r : GRow) (hl : r.length ≤ 1048576) (hs : ∀ v ∈ r, v.s.size ≤ 9223372036854775807) : ∃ b : Bool, (b = true → r.length = 2) ∧ QCall Try.prog 176 [rowA r] (.bool b) := by
  by_cases h0 : rowOk r
  · by_cases h2 : r.length = 2
    · match r, h2 with
      | [x, y], _ =>
      refine ⟨decide (y.k = 1) || decide (y.k = 0), fun h => rfl, ?_⟩
      refine qcall_body mixed Try.func176 _ (by unfold Try.f176; rfl) Try.ntmps176 Try.results176 (by decide) 0 (by simp) (by simp [pureL, pureA]) ?_
      simp (maxSteps := 4000000) (disch := omega) only [go_sem, w64, AndB_of, IfB_of, IfB_no, pickE_of, pickE_no, ite_of, ite_no, tdivE, tmodE, takeAll]
      apply CallB.q (q_RowOkS [x, y] hl hs)
      have e : flat GVal.c [x, y] = [.int .i64 x.k, .int .i64 x.n, .str x.s, .int .i64 y.k, .int .i64 y.n, .str y.s] := rfl
      unfold rowA
      simp (maxSteps := 4000000) (disch := omega) only [go_sem, w64, AndB_of, IfB_of, IfB_no, pickE_of, pickE_no, ite_of, ite_no, tdivE, tmodE, takeAll, e]
      repeat' (first | (refine IfB.dec2 (fun h hd => ?_) (fun h hd => ?_) <;> (try (have h2 := h; unfold inR at h2)) <;> (try simp (maxSteps := 4000000) (disch := omega) only [go_sem, w64, AndB_of, IfB_of, IfB_no, pickE_of, pickE_no, ite_of, ite_no, tdivE, tmodE, takeAll, hd])) | (refine IfB.split (fun h => ?_) (fun h => ?_) <;> (try simp (maxSteps := 4000000) (disch := omega) only [go_sem, w64, AndB_of, IfB_of, IfB_no, pickE_of, pickE_no, ite_of, ite_no, tdivE, tmodE, takeAll, h])) | (refine DrawB.quiet (by kernel_rfl) ?_; simp (maxSteps := 4000000) (disch := omega) only [go_sem, w64, AndB_of, IfB_of, IfB_no, pickE_of, pickE_no, ite_of, ite_no, tdivE, tmodE, takeAll]))
      all_goals (simp_all; done)
    · refine ⟨false, fun h => by simp at h, ?_⟩
      refine qcall_body mixed Try.func176 _ (by unfold Try.f176; rfl) Try.ntmps176 Try.results176 (by decide) 0 (by simp) (by simp [pureL, pureA]) ?_
      simp (maxSteps := 4000000) (disch := omega) only [go_sem, w64, AndB_of, IfB_of, IfB_no, pickE_of, pickE_no, ite_of, ite_no, tdivE, tmodE, takeAll]
      apply CallB.q (q_RowOkS r hl hs)
      unfold rowA
      simp (maxSteps := 4000000) (disch := omega) only [go_sem, w64, AndB_of, IfB_of, IfB_no, pickE_of, pickE_no, ite_of, ite_no, tdivE, tmodE, takeAll]
      repeat' (first | (refine IfB.dec2 (fun h hd => ?_) (fun h hd => ?_) <;> (try (have h2 := h; unfold inR at h2)) <;> (try simp (maxSteps := 4000000) (disch := omega) only [go_sem, w64, AndB_of, IfB_of, IfB_no, pickE_of, pickE_no, ite_of, ite_no, tdivE, tmodE, takeAll, hd])) | (refine IfB.split (fun h => ?_) (fun h => ?_) <;> (try simp (maxSteps := 4000000) (disch := omega) only [go_sem, w64, AndB_of, IfB_of, IfB_no, pickE_of, pickE_no, ite_of, ite_no, tdivE, tmodE, takeAll, h])) | (refine DrawB.quiet (by kernel_rfl) ?_; simp (maxSteps := 4000000) (disch := omega) only [go_sem, w64, AndB_of, IfB_of, IfB_no, pickE_of, pickE_no, ite_of, ite_no, tdivE, tmodE, takeAll]))
  · refine ⟨false, fun h => by simp at h, ?_⟩
    refine qcall_body mixed Try.func176 _ (by unfold Try.f176; rfl) Try.ntmps176 Try.results176 (by decide) 0 (by simp) (by simp [pureL, pureA]) ?_
    simp (maxSteps := 4000000) (disch := omega) only [go_sem, w64, AndB_of, IfB_of, IfB_no, pickE_of, pickE_no, ite_of, ite_no, tdivE, tmodE, takeAll]
    apply CallB.q (q_RowOkS r hl hs)
    simp (maxSteps := 4000000) (disch := omega) only [go_sem, w64, AndB_of, IfB_of, IfB_no, pickE_of, pickE_no, ite_of, ite_no, tdivE, tmodE, takeAll]
theorem Flat.snocTl {cells : List AV} {n : Nat} (h : Flat GTl.c PTl cells n) {key : GRow} (h1 : key.length ≤ 9 ∧ ∀ v ∈ key, v.s.size ≤ 20) {a b c : Int} : Flat GTl.c PTl (cells ++ [rowA key, .int .i64 a, .int .i64 b, .int .i64 c]) (n + 1) := h.snoc ⟨key, a, b, c⟩ h1
theorem d_l32Turn {H : AH} {nx id v : Nat} (l : List GTl) (hl : l.length ≤ 1000) (hs : ∀ t ∈ l, PTl t) (x y : GVal) (hx : x.s.size ≤ 20) (many : Int) (hid : id < nx) (hH : H id = .live v (flat GTl.c l)) (hd : ∀ i, nx ≤ i → H i = .dead) :
    ACallD Try.prog 177 [.msl id v 4 0 l.length, .agg [.int .i64 x.k, .int .i64 x.n, .str x.s], .agg [.int .i64 y.k, .int .i64 y.n, .str y.s], .int .i64 many] H nx (fun r H' nx' => ∃ l' : List GTl, l'.length ≤ l.length + 1 ∧ (∀ t ∈ l', PTl t) ∧ r = .msl nx 0 4 0 l'.length ∧ H' = upd H nx (.live 0 (flat GTl.c l')) ∧ nx' = nx + 1) := by
  have hdd := hd
  refine ACallD.fin1 1 ?_
  refine wcall_body mixed Try.func177 _ (by unfold Try.f177; rfl) Try.ntmps177 Try.results177 (by decide) (by simp) ?_
  simp (maxSteps := 4000000) (disch := omega) only [go_sem, w64, AndB_of, IfB_of, IfB_no, pickE_of, pickE_no, ite_of, ite_no, tdivE, tmodE, takeAll]
  refine AW.step ?_
  simp (maxSteps := 4000000) (disch := omega) only [go_sem, w64, AndB_of, IfB_of, IfB_no, pickE_of, pickE_no, ite_of, ite_no, tdivE, tmodE, takeAll]
  refine AW.step ?_
  simp (maxSteps := 4000000) (disch := omega) only [go_sem, w64, AndB_of, IfB_of, IfB_no, pickE_of, pickE_no, ite_of, ite_no, tdivE, tmodE, takeAll]
  refine AW.weak (Weak.freezeH (nx + 3) 0 0 (nx + 2) 0 3 0 1 _ _ (by rw [upd_same]) (by omega) rfl (by rw [upd_ne _ _ (by omega), upd_same])) ?_
  simp only [List.set_cons_succ, List.set_cons_zero, List.drop_zero, List.take_succ_cons, List.take_zero]
  refine AW.cut (fun zs => (intOf (nthA (cellsOf (blkOf zs (nx+3))) 2), intOf (nthA (cellsOf (blkOf zs (nx+3))) 3))) (fun zz => [(0, none), (8, none)]) (fun zz => upd H (nx + 3) (.live 0 [rowA [x], .int .i64 many, .int .i64 zz.1, .int .i64 zz.2])) (fun zz => nx + 4) (fun zz => zz.1 = zz.1 ∧ zz.2 = zz.2) ?zcut2 ?_
  case' zcut2 => simp (maxSteps := 4000000) (disch := omega) only [go_sem, w64, AndB_of, IfB_of, IfB_no, pickE_of, pickE_no, ite_of, ite_no, tdivE, tmodE, takeAll]
  · repeat' (first | (refine IfB.dec2 (fun h hd => ?_) (fun h hd => ?_) <;> (try (have h2 := h; unfold inR at h2)) <;> (try simp (maxSteps := 4000000) (disch := omega) only [go_sem, w64, AndB_of, IfB_of, IfB_no, pickE_of, pickE_no, ite_of, ite_no, tdivE, tmodE, takeAll, hd])) | (refine IfB.split (fun h => ?_) (fun h => ?_) <;> (try simp (maxSteps := 4000000) (disch := omega) only [go_sem, w64, AndB_of, IfB_of, IfB_no, pickE_of, pickE_no, ite_of, ite_no, tdivE, tmodE, takeAll, h])) | (refine DrawB.quiet (by kernel_rfl) ?_; simp (maxSteps := 4000000) (disch := omega) only [go_sem, w64, AndB_of, IfB_of, IfB_no, pickE_of, pickE_no, ite_of, ite_no, tdivE, tmodE, takeAll]))
    all_goals (have hd := hdd)
    all_goals ((repeat' apply And.intro) <;> first | (exact Weak.go (by (first | (simp [wkL]; done) | (simp [wkL]; omega))) (fun zi => by first | exact .inl rfl | exact .inr rfl | (simp only [upd]; repeat' split) <;> first | exact .inl rfl | exact .inr rfl | (exfalso; omega) | exact .inr (hd _ (by omega)) | (left; subst_vars; exact hH.symm) | (left; subst_vars; rfl) | (left; simp; done) | (left; simp; omega)) (by omega)) | omega | rfl | assumption | exact Flat.nil | exact ⟨_, rfl, rfl, by assumption⟩ | (simp; done) | (simp; omega))
  intro zz zh
  obtain ⟨b, c⟩ := zz
  dsimp only at zh
  have hT := zh
  simp (maxSteps := 4000000) (disch := omega) only [go_sem, w64, AndB_of, IfB_of, IfB_no, pickE_of, pickE_no, ite_of, ite_no, tdivE, tmodE, takeAll]
  refine AW.step ?_
  simp (maxSteps := 4000000) (disch := omega) only [go_sem, w64, AndB_of, IfB_of, IfB_no, pickE_of, pickE_no, ite_of, ite_no, tdivE, tmodE, takeAll]
  refine AW.step ?_
  simp (maxSteps := 4000000) (disch := omega) only [go_sem, w64, AndB_of, IfB_of, IfB_no, pickE_of, pickE_no, ite_of, ite_no, tdivE, tmodE, takeAll]
  have hH3 : (3 : Nat) + 1 = 4 := rfl
  refine AW.of ?_
  simp (maxSteps := 4000000) (disch := omega) only [go_sem, w64, AndB_of, IfB_of, IfB_no, pickE_of, pickE_no, ite_of, ite_no, tdivE, tmodE, takeAll]
  refine LoopB.auto (fun zs => (nxOf zs, (intOf (slotOf zs 12)).toNat, verOf (blkOf zs (nx+4)), cellsOf (blkOf zs (nx+4)), mlenOf (slotOf zs 10), boolOf (slotOf zs 11))) (fun zz => [(0, none), (8, none), (0, some (.msl (nx+4) zz.2.2.1 4 0 zz.2.2.2.2.1)), (0, some (.bool zz.2.2.2.2.2)), (0, some (.int .i64 (zz.2.1 : Int)))]) (fun zz => upd (upd H (nx + 3) (.live 0 [rowA [x], .int .i64 many, .int .i64 b, .int .i64 c])) (nx + 4) (.live zz.2.2.1 zz.2.2.2.1)) (fun zz => zz.1) (fun zz => l.length - zz.2.1) (fun zz => zz.2.1 ≤ l.length ∧ nx + 4 < zz.1 ∧ zz.2.2.2.2.1 ≤ zz.2.1 + 1 ∧ (zz.2.2.2.2.2 = false → zz.2.2.2.2.1 ≤ zz.2.1) ∧ Flat GTl.c PTl zz.2.2.2.1 zz.2.2.2.2.1) (by (first | simp (maxSteps := 4000000) (disch := omega) only [go_sem, w64, AndB_of, IfB_of, IfB_no, pickE_of, pickE_no, ite_of, ite_no, tdivE, tmodE, takeAll, hH] | simp (maxSteps := 4000000) (disch := omega) only [go_sem, w64, AndB_of, IfB_of, IfB_no, pickE_of, pickE_no, ite_of, ite_no, tdivE, tmodE, takeAll]); ((repeat' apply And.intro) <;> first | exact Flat.nil | exact fun _ => Nat.le_refl _ | (exact Weak.go (by (first | (simp [wkL]; done) | (simp [wkL]; omega))) (fun zi => by first | exact .inl rfl | exact .inr rfl | (simp only [upd]; repeat' split) <;> first | exact Flat.nil | exact fun _ => Nat.le_refl _ | exact .inl rfl | exact .inr rfl | (exfalso; omega) | exact .inr (hd _ (by omega)) | (left; subst_vars; exact hH.symm) | (left; subst_vars; rfl) | (left; simp; done) | (left; simp; omega)) (by omega)) | omega | rfl | assumption | exact Flat.nil | exact ⟨_, rfl, rfl, by assumption⟩ | (simp; done) | (simp; omega))) ?_
  intro zz zh
  obtain ⟨x1, k, w, cells, m, dn⟩ := zz
  dsimp only at zh
  obtain ⟨hk, hx1, hm, hmd, hF⟩ := zh
  simp (maxSteps := 4000000) (disch := omega) only [go_sem, w64, AndB_of, IfB_of, IfB_no, pickE_of, pickE_no, ite_of, ite_no, tdivE, tmodE, takeAll]
  have hlen := hF.len GTl.len
  simp (maxSteps := 4000000) (disch := omega) only [go_sem, w64, AndB_of, IfB_of, IfB_no, pickE_of, pickE_no, ite_of, ite_no, tdivE, tmodE, takeAll, hH]
  have px : ([x] : GRow).length ≤ 9 ∧ ∀ v ∈ ([x] : GRow), v.s.size ≤ 20 := ⟨by simp, fun v hv => by simp at hv; rw [hv]; exact hx⟩
  have hl2 : (cells ++ [rowA [x], AV.int .i64 many, AV.int .i64 b, AV.int .i64 c]).length = (m + 1) * 4 := by simp [hlen]; omega
  refine IfB.dec (fun h1 => ?_) (fun h1 => ?_)
  · have h1' : k < l.length := by omega
    have ht := hs _ (List.getElem_mem h1')
    simp (maxSteps := 4000000) (disch := omega) only [go_sem, w64, AndB_of, IfB_of, IfB_no, pickE_of, pickE_no, ite_of, ite_no, tdivE, tmodE, takeAll, hH]
    apply CallB.q (q_RowOrderS l[k].key [x] (by have := ht.1; omega) (by simp) (fun v hv => by have := ht.2 v hv; omega) (fun v hv => by have := px.2 v hv; omega))
    simp (maxSteps := 4000000) (disch := omega) only [go_sem, w64, AndB_of, IfB_of, IfB_no, pickE_of, pickE_no, ite_of, ite_no, tdivE, tmodE, takeAll, hH]
    repeat' (first | (refine IfB.dec2 (fun h hd => ?_) (fun h hd => ?_) <;> (try (have h2 := h; unfold inR at h2)) <;> (try simp (maxSteps := 4000000) (disch := omega) only [go_sem, w64, AndB_of, IfB_of, IfB_no, pickE_of, pickE_no, ite_of, ite_no, tdivE, tmodE, takeAll, hd])) | (refine IfB.split (fun h => ?_) (fun h => ?_) <;> (try simp (maxSteps := 4000000) (disch := omega) only [go_sem, w64, AndB_of, IfB_of, IfB_no, pickE_of, pickE_no, ite_of, ite_no, tdivE, tmodE, takeAll, h])) | (refine DrawB.quiet (by kernel_rfl) ?_; simp (maxSteps := 4000000) (disch := omega) only [go_sem, w64, AndB_of, IfB_of, IfB_no, pickE_of, pickE_no, ite_of, ite_no, tdivE, tmodE, takeAll]))
    all_goals (have hd := hdd)
    all_goals (try have hmk : m ≤ k := hmd (by assumption))
    all_goals ((repeat' apply And.intro) <;> first | exact hF | exact hF.snocTl ht | exact hF.snocTl px | exact (hF.snocTl px).snocTl ht | exact (fun e => by first | (have := hmd e; omega) | (have := hmd (by assumption); omega) | (exact e.elim) | (simp at e) | omega) | (exact Weak.go (by (first | (simp [wkL]; done) | (simp [wkL]; omega))) (fun zi => by first | exact .inl rfl | exact .inr rfl | (simp only [upd]; repeat' split) <;> first | exact hF | exact hF.snocTl ht | exact hF.snocTl px | exact (hF.snocTl px).snocTl ht | exact (fun e => by first | (have := hmd e; omega) | (have := hmd (by assumption); omega) | (exact e.elim) | (simp at e) | omega) | exact .inl rfl | exact .inr rfl | (exfalso; omega) | exact .inr (hd _ (by omega)) | (left; subst_vars; exact hH.symm) | (left; subst_vars; rfl) | (left; simp; done) | (left; simp; omega)) (by omega)) | omega | rfl | assumption | exact Flat.nil | exact ⟨_, rfl, rfl, by assumption⟩ | (simp; done) | (simp; omega))
  · simp (maxSteps := 4000000) (disch := omega) only [go_sem, w64, AndB_of, IfB_of, IfB_no, pickE_of, pickE_no, ite_of, ite_no, tdivE, tmodE, takeAll]
    repeat' (first | (refine IfB.dec2 (fun h hd => ?_) (fun h hd => ?_) <;> (try (have h2 := h; unfold inR at h2)) <;> (try simp (maxSteps := 4000000) (disch := omega) only [go_sem, w64, AndB_of, IfB_of, IfB_no, pickE_of, pickE_no, ite_of, ite_no, tdivE, tmodE, takeAll, hd])) | (refine IfB.split (fun h => ?_) (fun h => ?_) <;> (try simp (maxSteps := 4000000) (disch := omega) only [go_sem, w64, AndB_of, IfB_of, IfB_no, pickE_of, pickE_no, ite_of, ite_no, tdivE, tmodE, takeAll, h])) | (refine DrawB.quiet (by kernel_rfl) ?_; simp (maxSteps := 4000000) (disch := omega) only [go_sem, w64, AndB_of, IfB_of, IfB_no, pickE_of, pickE_no, ite_of, ite_no, tdivE, tmodE, takeAll]))
    all_goals (have hd := hdd)
    · obtain ⟨l', rfl, rfl, hP⟩ := hF
      refine ⟨nx + 4, w, _, (by repeat (first | exact OldN.refl | refine OldN.new (by omega) ?_)), by omega, if_pos rfl, l', by omega, hP, ?_⟩
      simp (maxSteps := 4000000) (disch := omega) only [go_sem, w64, AndB_of, IfB_of, IfB_no, pickE_of, pickE_no, ite_of, ite_no, tdivE, tmodE, takeAll]
    · have hmk : m ≤ k := by first | (exact hmd rfl) | (apply hmd; assumption)
      obtain ⟨l', e1, e2, hP⟩ := hF.snocTl px (a := many) (b := b) (c := c)
      rw [e1, e2]
      refine ⟨nx + 4, w + 1, _, (by repeat (first | exact OldN.refl | refine OldN.new (by omega) ?_)), by omega, if_pos rfl, l', by omega, hP, ?_⟩
      simp (maxSteps := 4000000) (disch := omega) only [go_sem, w64, AndB_of, IfB_of, IfB_no, pickE_of, pickE_no, ite_of, ite_no, tdivE, tmodE, takeAll]
end Go.TH
