/- TH: draws: tallies of rows, the draw, the law FnTalliesOk. Made by gen.py. -/
import Derived.Test.YtolcdfglmcgedaaTf3
import Derived.Test.YtolcdfglmcgedaaTdtld
import Derived.Test.YtolcdfglmcgedaaTf4
namespace Go.TH
open Go Go.Proofs
set_option linter.unusedSimpArgs false
set_option linter.unusedVariables false
set_option maxHeartbeats 20000000
set_option maxRecDepth 100000
theorem d_TalliesOf {H : AH} {nx : Nat} (rows : List GRow) (hl : rows.length ≤ 100) (hs : ∀ r ∈ rows, PR 5 r) (hd : ∀ i, nx ≤ i → H i = .dead) :
    ACallD Try.prog 155 [rowsA rows] H nx (fun r H' nx' => ∃ l : List GTl, l.length ≤ rows.length ∧ (∀ t ∈ l, PTl t) ∧ r = .msl nx 0 4 0 l.length ∧ H' = upd H nx (.live 0 (flat GTl.c l)) ∧ nx' = nx + 1) := by
  have hdd := hd
  refine ACallD.fin1 1 ?_
  refine dcall_body mixed Try.func155 _ (by unfold Try.f155; rfl) Try.ntmps155 Try.results155 (by decide) (by simp) ?_
  unfold rowsA
  simp (maxSteps := 4000000) (disch := omega) only [go_sem, w64, AndB_of, IfB_of, IfB_no, pickE_of, pickE_no, ite_of, ite_no, tdivE, tmodE, takeAll]
  refine LoopB.auto (fun zs => (intOf (slotOf zs 4)).toNat) (fun zz => [(0, none), (2, none), (0, some (.int .i64 (zz : Int)))]) (fun zz => upd H nx (.live 0 [])) (fun zz => nx + 1) (fun zz => rows.length - zz) (fun zz => zz ≤ rows.length ∧ ∀ j (h : j < rows.length), j < zz → rows[j].length = 2) (by (first | simp (maxSteps := 4000000) (disch := omega) only [go_sem, w64, AndB_of, IfB_of, IfB_no, pickE_of, pickE_no, ite_of, ite_no, tdivE, tmodE, takeAll, hH] | simp (maxSteps := 4000000) (disch := omega) only [go_sem, w64, AndB_of, IfB_of, IfB_no, pickE_of, pickE_no, ite_of, ite_no, tdivE, tmodE, takeAll]); ((repeat' apply And.intro) <;> first | (exact Weak.go (by (first | (simp [wkL]; done) | (simp [wkL]; omega))) (fun zi => by first | exact .inl rfl | exact .inr rfl | (simp only [upd]; repeat' split) <;> first | exact .inl rfl | exact .inr rfl | (exfalso; omega) | exact .inr (hd _ (by omega)) | (left; subst_vars; exact hH.symm) | (left; subst_vars; rfl) | (left; simp; done) | (left; simp; omega)) (by omega)) | omega | rfl | assumption | exact Flat.nil | exact ⟨_, rfl, rfl, by assumption⟩ | (simp; done) | (simp; omega))) ?_
  intro k zh
  obtain ⟨hk, hall⟩ := zh
  simp (maxSteps := 4000000) (disch := omega) only [go_sem, w64, AndB_of, IfB_of, IfB_no, pickE_of, pickE_no, ite_of, ite_no, tdivE, tmodE, takeAll]
  refine IfB.dec (fun h1 => ?_) (fun h1 => ?_)
  · have h1' : k < rows.length := by omega
    have hr := hs _ (List.getElem_mem h1')
    obtain ⟨b, hb, hq⟩ := q_l32Row rows[k] (by have := hr.1; omega) (fun v hv => by have := (hr.2 v hv).1; omega)
    simp (maxSteps := 4000000) (disch := omega) only [go_sem, w64, AndB_of, IfB_of, IfB_no, pickE_of, pickE_no, ite_of, ite_no, tdivE, tmodE, takeAll]
    apply CallB.q hq
    simp (maxSteps := 4000000) (disch := omega) only [go_sem, w64, AndB_of, IfB_of, IfB_no, pickE_of, pickE_no, ite_of, ite_no, tdivE, tmodE, takeAll]
    cases b
    · simp (maxSteps := 4000000) (disch := omega) only [go_sem, w64, AndB_of, IfB_of, IfB_no, pickE_of, pickE_no, ite_of, ite_no, tdivE, tmodE, takeAll]
      refine ⟨nx + 1, 0, [], (by repeat (first | exact OldN.refl | refine OldN.new (by omega) ?_)), by omega, if_pos rfl, [], by simp, by simp, ?_⟩
      simp (maxSteps := 4000000) (disch := omega) only [go_sem, w64, AndB_of, IfB_of, IfB_no, pickE_of, pickE_no, ite_of, ite_no, tdivE, tmodE, takeAll]
      rfl
    · have e2 := hb rfl
      simp (maxSteps := 4000000) (disch := omega) only [go_sem, w64, AndB_of, IfB_of, IfB_no, pickE_of, pickE_no, ite_of, ite_no, tdivE, tmodE, takeAll]
      ((repeat' apply And.intro) <;> first | exact (fun j hj hjk => by by_cases e : j = k; (subst e; exact e2); exact hall j hj (by omega)) | (exact Weak.go (by (first | (simp [wkL]; done) | (simp [wkL]; omega))) (fun zi => by first | exact .inl rfl | exact .inr rfl | (simp only [upd]; repeat' split) <;> first | exact (fun j hj hjk => by by_cases e : j = k; (subst e; exact e2); exact hall j hj (by omega)) | exact .inl rfl | exact .inr rfl | (exfalso; omega) | exact .inr (hd _ (by omega)) | (left; subst_vars; exact hH.symm) | (left; subst_vars; rfl) | (left; simp; done) | (left; simp; omega)) (by omega)) | omega | rfl | assumption | exact Flat.nil | exact ⟨_, rfl, rfl, by assumption⟩ | (simp; done) | (simp; omega))
  · simp (maxSteps := 4000000) (disch := omega) only [go_sem, w64, AndB_of, IfB_of, IfB_no, pickE_of, pickE_no, ite_of, ite_no, tdivE, tmodE, takeAll]
    refine LoopB.auto (fun zs => (nxOf zs, (intOf (slotOf zs 5)).toNat, midOf (slotOf zs 3), mlenOf (slotOf zs 3), cellsOf (blkOf zs (midOf (slotOf zs 3))))) (fun zz => [(0, none), (2, some (.msl zz.2.2.1 0 4 0 zz.2.2.2.1)), (1, some (.int .i64 (zz.2.1 : Int)))]) (fun zz => upd H zz.2.2.1 (.live 0 zz.2.2.2.2)) (fun zz => zz.1) (fun zz => rows.length - zz.2.1) (fun zz => zz.2.1 ≤ rows.length ∧ nx ≤ zz.2.2.1 ∧ zz.2.2.1 < zz.1 ∧ zz.2.2.2.1 ≤ zz.2.1 ∧ Flat GTl.c PTl zz.2.2.2.2 zz.2.2.2.1) (by (first | simp (maxSteps := 4000000) (disch := omega) only [go_sem, w64, AndB_of, IfB_of, IfB_no, pickE_of, pickE_no, ite_of, ite_no, tdivE, tmodE, takeAll, hH] | simp (maxSteps := 4000000) (disch := omega) only [go_sem, w64, AndB_of, IfB_of, IfB_no, pickE_of, pickE_no, ite_of, ite_no, tdivE, tmodE, takeAll]); ((repeat' apply And.intro) <;> first | exact Flat.nil | (exact Weak.go (by (first | (simp [wkL]; done) | (simp [wkL]; omega))) (fun zi => by first | exact .inl rfl | exact .inr rfl | (simp only [upd]; repeat' split) <;> first | exact Flat.nil | exact .inl rfl | exact .inr rfl | (exfalso; omega) | exact .inr (hd _ (by omega)) | (left; subst_vars; exact hH.symm) | (left; subst_vars; rfl) | (left; simp; done) | (left; simp; omega)) (by omega)) | omega | rfl | assumption | exact Flat.nil | exact ⟨_, rfl, rfl, by assumption⟩ | (simp; done) | (simp; omega))) ?_
    intro zz zh
    obtain ⟨y, k2, o, m, cells⟩ := zz
    dsimp only at zh
    obtain ⟨hk2, ho, hoy, hm, hF⟩ := zh
    simp (maxSteps := 4000000) (disch := omega) only [go_sem, w64, AndB_of, IfB_of, IfB_no, pickE_of, pickE_no, ite_of, ite_no, tdivE, tmodE, takeAll]
    have hlen := hF.len GTl.len
    obtain ⟨l', rfl, rfl, hP⟩ := hF
    refine IfB.dec (fun c2 => ?_) (fun c2 => ?_)
    · have c2' : k2 < rows.length := by omega
      have hr := hs _ (List.getElem_mem c2')
      have e2 := hall k2 c2' (by omega)
      obtain ⟨a, b, e⟩ : ∃ a b, rows[k2] = [a, b] := by
        match hq : rows[k2], e2 with
        | [a, b], _ => exact ⟨a, b, rfl⟩
      have pa := hr.2 a (by rw [e]; simp)
      have e3 : rowA rows[k2] = .sl 2 false [.int .i64 a.k, .int .i64 a.n, .str a.s, .int .i64 b.k, .int .i64 b.n, .str b.s] := by rw [e]; rfl
      simp (maxSteps := 4000000) (disch := omega) only [go_sem, w64, AndB_of, IfB_of, IfB_no, pickE_of, pickE_no, ite_of, ite_no, tdivE, tmodE, takeAll]
      refine DrawB.intro [13] [13] (inS (y) (y) (y)) (by kernel_rfl) ?_
      simp (maxSteps := 4000000) (disch := omega) only [go_sem, w64, AndB_of, IfB_of, IfB_no, pickE_of, pickE_no, ite_of, ite_no, tdivE, tmodE, takeAll, e3]
      refine CallB.law (d_l32Turn (H := upd H o (.live 0 (flat GTl.c l'))) (nx := y) (id := o) (v := 0) l' (by omega) hP a b pa.1 1 hoy (upd_same ..) (fun i hi => by rw [upd_ne _ _ (by omega)]; exact hdd i (by omega))) ?_
      rintro _ _ _ ⟨l2, q1, q2, rfl, rfl, rfl⟩
      simp (maxSteps := 4000000) (disch := omega) only [go_sem, w64, AndB_of, IfB_of, IfB_no, pickE_of, pickE_no, ite_of, ite_no, tdivE, tmodE, takeAll]
      ((repeat' apply And.intro) <;> first | exact ⟨l2, rfl, rfl, q2⟩ | (exact Weak.go (by (first | (simp [wkL]; done) | (simp [wkL]; omega))) (fun zi => by first | exact .inl rfl | exact .inr rfl | (simp only [upd]; repeat' split) <;> first | exact ⟨l2, rfl, rfl, q2⟩ | exact .inl rfl | exact .inr rfl | (exfalso; omega) | exact .inr (hd _ (by omega)) | (left; subst_vars; exact hH.symm) | (left; subst_vars; rfl) | (left; simp; done) | (left; simp; omega)) (by omega)) | omega | rfl | assumption | exact Flat.nil | exact ⟨_, rfl, rfl, by assumption⟩ | (simp; done) | (simp; omega))
    · simp (maxSteps := 4000000) (disch := omega) only [go_sem, w64, AndB_of, IfB_of, IfB_no, pickE_of, pickE_no, ite_of, ite_no, tdivE, tmodE, takeAll]
      refine ⟨o, 0, _, (by repeat (first | exact OldN.refl | refine OldN.new (by omega) ?_)), by omega, if_pos rfl, l', by omega, hP, ?_⟩
      simp (maxSteps := 4000000) (disch := omega) only [go_sem, w64, AndB_of, IfB_of, IfB_no, pickE_of, pickE_no, ite_of, ite_no, tdivE, tmodE, takeAll]
theorem d_tallies {H : AH} {nx rid : Nat} {bs : ByteArray} {p n : Int} (hr : rid < nx) (hH : H rid = .live 0 [.sl bs.size false (bytesCells bs), .int .i64 (p)]) (hd : ∀ i, nx ≤ i → H i = .dead) (hp0 : 0 ≤ p) (hp : p ≤ 500000000) (hb : bs.size ≤ 2000) (hn0 : -1000000000 ≤ n) (hn : n ≤ 1000000000) :
    ACallD Try.prog 106 [.ptr rid 0 0, .int .i64 n] H nx (fun r H' nx' => ∃ (l : List GTl) (q : Int), p ≤ q ∧ q ≤ p + 6000 ∧ l.length ≤ 13 ∧ (∀ t ∈ l, PTl t) ∧ r = talsA l ∧ H' = upd H rid (.live 0 [.sl bs.size false (bytesCells bs), .int .i64 (q)]) ∧ nx' = nx) := by
  have hdd := hd
  refine ACallD.finR 1 rid hr ?_
  refine wcall_body mixed Try.func106 _ (by unfold Try.f106; rfl) Try.ntmps106 Try.results106 (by decide) (by simp) ?_
  simp (maxSteps := 4000000) (disch := omega) only [go_sem, w64, AndB_of, IfB_of, IfB_no, pickE_of, pickE_no, ite_of, ite_no, tdivE, tmodE, takeAll]
  refine AW.step ?_
  simp (maxSteps := 4000000) (disch := omega) only [go_sem, w64, AndB_of, IfB_of, IfB_no, pickE_of, pickE_no, ite_of, ite_no, tdivE, tmodE, takeAll]
  refine AW.cut (fun zs => (mlenOf (slotOf zs 5), cellsOf (blkOf zs (nx)), intOf (nthA (cellsOf (blkOf zs (rid))) 1))) (fun zz => [(0, none), (0, none), (3, some (.msl nx 0 4 0 zz.1))]) (fun zz => upd (upd H rid (.live 0 [.sl bs.size false (bytesCells bs), .int .i64 (zz.2.2)])) nx (.live 0 zz.2.1)) (fun zz => nx + 1) (fun zz => Flat GTl.c PTl zz.2.1 zz.1 ∧ zz.1 ≤ 12 ∧ p ≤ zz.2.2 ∧ zz.2.2 ≤ p + 5000) ?zcut0 ?_
  case' zcut0 => simp (maxSteps := 4000000) (disch := omega) only [go_sem, w64, AndB_of, IfB_of, IfB_no, pickE_of, pickE_no, ite_of, ite_no, tdivE, tmodE, takeAll]
  · refine CallB.law (d_twos (p := p) hr hH hdd hp0 (by omega) hb (by omega) (by omega)) ?_
    rintro _ _ _ ⟨rows, q, h1, h2, h3, h4, rfl, rfl, rfl⟩
    simp (maxSteps := 4000000) (disch := omega) only [go_sem, w64, AndB_of, IfB_of, IfB_no, pickE_of, pickE_no, ite_of, ite_no, tdivE, tmodE, takeAll]
    refine CallB.law (d_TalliesOf rows (by omega) h4 (fun i hi => by rw [upd_ne _ _ (by omega)]; exact hdd i hi)) ?_
    rintro _ _ _ ⟨l, k1, k2, rfl, rfl, rfl⟩
    simp (maxSteps := 4000000) (disch := omega) only [go_sem, w64, AndB_of, IfB_of, IfB_no, pickE_of, pickE_no, ite_of, ite_no, tdivE, tmodE, takeAll]
    ((repeat' apply And.intro) <;> first | exact ⟨l, rfl, rfl, k2⟩ | (exact Weak.go (by (first | (simp [wkL]; done) | (simp [wkL]; omega))) (fun zi => by first | exact .inl rfl | exact .inr rfl | (simp only [upd]; repeat' split) <;> first | exact ⟨l, rfl, rfl, k2⟩ | exact .inl rfl | exact .inr rfl | (exfalso; omega) | exact .inr (hd _ (by omega)) | (left; subst_vars; exact hH.symm) | (left; subst_vars; rfl) | (left; simp; done) | (left; simp; omega)) (by omega)) | omega | rfl | assumption | exact Flat.nil | exact ⟨_, rfl, rfl, by assumption⟩ | (simp; done) | (simp; omega))
  intro zz zh
  obtain ⟨m, cells, q⟩ := zz
  dsimp only at zh
  obtain ⟨hF, hm, hq0, hq1⟩ := zh
  simp (maxSteps := 4000000) (disch := omega) only [go_sem, w64, AndB_of, IfB_of, IfB_no, pickE_of, pickE_no, ite_of, ite_no, tdivE, tmodE, takeAll]
  obtain ⟨l, rfl, rfl, hP⟩ := hF
  refine AW.cut (fun zs => (mlenOf (slotOf zs 5), verOf (blkOf zs (nx)), cellsOf (blkOf zs (nx)), intOf (nthA (cellsOf (blkOf zs (rid))) 1))) (fun zz => [(5, some (.msl nx zz.2.1 4 0 zz.1))]) (fun zz => upd (upd H rid (.live 0 [.sl bs.size false (bytesCells bs), .int .i64 (zz.2.2.2)])) nx (.live zz.2.1 zz.2.2.1)) (fun zz => nx + 9) (fun zz => Flat GTl.c PTl zz.2.2.1 zz.1 ∧ zz.1 ≤ 13 ∧ p ≤ zz.2.2.2 ∧ zz.2.2.2 ≤ p + 6000) ?zcut1 ?_
  case' zcut1 => simp (maxSteps := 4000000) (disch := omega) only [go_sem, w64, AndB_of, IfB_of, IfB_no, pickE_of, pickE_no, ite_of, ite_no, tdivE, tmodE, takeAll]
  · have hF0 : Flat GTl.c PTl (flat GTl.c l) l.length := ⟨l, rfl, rfl, hP⟩
    have c1 : ∀ (i : Nat) (y : Int), i < l.length → Flat GTl.c PTl ((flat GTl.c l).take (i * 4 + 1) ++ [.int .i64 y] ++ (flat GTl.c l).drop (i * 4 + 1 + 1)) l.length := fun i y hi => Flat.cell GTl.len hP (i := i) 1 rfl hi (by omega) ⟨l[i].key, y, l[i].many, l[i].sum⟩ rfl (show PTl l[i] from hP _ (List.getElem_mem hi))
    have c2 : ∀ (i : Nat) (y : Int), i < l.length → Flat GTl.c PTl ((flat GTl.c l).take (i * 4 + 2) ++ [.int .i64 y] ++ (flat GTl.c l).drop (i * 4 + 2 + 1)) l.length := fun i y hi => Flat.cell GTl.len hP (i := i) 2 rfl hi (by omega) ⟨l[i].key, l[i].rows, y, l[i].sum⟩ rfl (show PTl l[i] from hP _ (List.getElem_mem hi))
    have c3 : ∀ (i : Nat) (y : Int), i < l.length → Flat GTl.c PTl ((flat GTl.c l).take (i * 4 + 3) ++ [.int .i64 y] ++ (flat GTl.c l).drop (i * 4 + 3 + 1)) l.length := fun i y hi => Flat.cell GTl.len hP (i := i) 3 rfl hi (by omega) ⟨l[i].key, l[i].rows, l[i].many, y⟩ rfl (show PTl l[i] from hP _ (List.getElem_mem hi))
    have c4 : ∀ (i : Nat) (hi : i < l.length), Flat GTl.c PTl (flat GTl.c l ++ [rowA l[i].key, .int .i64 l[i].rows, .int .i64 l[i].many, .int .i64 l[i].sum]) (l.length + 1) := fun i hi => hF0.snocTl (hP _ (List.getElem_mem hi))
    repeat' (first | (refine IfB.dec (fun h => ?_) (fun h => ?_) <;> (try (have h2 := h; unfold inR at h2)) <;> (try simp (maxSteps := 4000000) (disch := omega) only [go_sem, w64, AndB_of, IfB_of, IfB_no, pickE_of, pickE_no, ite_of, ite_no, tdivE, tmodE, takeAll, h])) | (refine IfB.split (fun h => ?_) (fun h => ?_) <;> (try simp (maxSteps := 4000000) (disch := omega) only [go_sem, w64, AndB_of, IfB_of, IfB_no, pickE_of, pickE_no, ite_of, ite_no, tdivE, tmodE, takeAll, h])) | (apply CallB.law; (focus (apply d_odd; (repeat (first | exact hH | exact upd_same _ _ _ | rw [upd_ne _ _ (by omega)])); all_goals omega)); rintro _ _ _ ⟨x, q, hq0, hq1, rfl, rfl, rfl⟩; simp (maxSteps := 4000000) (disch := omega) only [go_sem, w64, AndB_of, IfB_of, IfB_no, pickE_of, pickE_no, ite_of, ite_no, tdivE, tmodE, takeAll]) | (apply CallB.law; (focus (apply d_pick; (repeat (first | exact hH | exact upd_same _ _ _ | rw [upd_ne _ _ (by omega)])); all_goals omega)); rintro _ _ _ ⟨x, hx0, hx1, rfl, rfl, rfl⟩; simp (maxSteps := 4000000) (disch := omega) only [go_sem, w64, AndB_of, IfB_of, IfB_no, pickE_of, pickE_no, ite_of, ite_no, tdivE, tmodE, takeAll]))
    all_goals ((repeat' apply And.intro) <;> first | exact hF0 | exact c1 _ _ (by omega) | exact c2 _ _ (by omega) | exact c3 _ _ (by omega) | exact c4 _ (by omega) | (exact Weak.go (by (first | (simp [wkL]; done) | (simp [wkL]; omega))) (fun zi => by first | exact .inl rfl | exact .inr rfl | (simp only [upd]; repeat' split) <;> first | exact hF0 | exact c1 _ _ (by omega) | exact c2 _ _ (by omega) | exact c3 _ _ (by omega) | exact c4 _ (by omega) | exact .inl rfl | exact .inr rfl | (exfalso; omega) | exact .inr (hd _ (by omega)) | (left; subst_vars; exact hH.symm) | (left; subst_vars; rfl) | (left; simp; done) | (left; simp; omega)) (by omega)) | omega | rfl | assumption | exact Flat.nil | exact ⟨_, rfl, rfl, by assumption⟩ | (simp; done) | (simp; omega))
  intro zz zh
  obtain ⟨m, v, cells, q2⟩ := zz
  dsimp only at zh
  obtain ⟨hF, hm2, hq2, hq3⟩ := zh
  simp (maxSteps := 4000000) (disch := omega) only [go_sem, w64, AndB_of, IfB_of, IfB_no, pickE_of, pickE_no, ite_of, ite_no, tdivE, tmodE, takeAll]
  obtain ⟨l2, rfl, rfl, hP2⟩ := hF
  refine AW.of ?_
  simp (maxSteps := 4000000) (disch := omega) only [go_sem, w64, AndB_of, IfB_of, IfB_no, pickE_of, pickE_no, ite_of, ite_no, tdivE, tmodE, takeAll]
  refine ⟨_, _, (by repeat (first | exact OldR.base hH | refine OldR.set ?_ | refine OldR.new (by omega) ?_ | exact OldW.refl | refine OldW.new (by omega) ?_ | refine OldW.rd ?_)), (by simp [pureL, pureA, bytesCells_pure]), ?_⟩
  exact ⟨l2, q2, by omega, by omega, by omega, hP2, rfl, rfl⟩
theorem x_DrawTalliesOk (s : ByteArray) : ∃ R, (∃ l : List GTl, l.length ≤ 13 ∧ (∀ t ∈ l, PTl t) ∧ R = talsA l) ∧ QCall Try.prog 47 [.sl s.size false (bytesCells s)] R := by
  refine qex_of (by simp [pureL, pureA, bytesCells_pure]) 1 ?_
  refine dcall_body mixed Try.func47 _ (by unfold Try.f47; rfl) Try.ntmps47 Try.results47 (by decide) (by simp) ?_
  simp (maxSteps := 4000000) (disch := omega) only [go_sem, w64, AndB_of, IfB_of, IfB_no, pickE_of, pickE_no, ite_of, ite_no, tdivE, tmodE, takeAll]
  apply CallB.law; (focus (apply d_open; (repeat (first | exact hH | exact upd_same _ _ _ | rw [upd_ne _ _ (by omega)])); all_goals omega)); rintro _ _ _ ⟨bs, hbs, rfl, rfl, rfl⟩
  simp (maxSteps := 4000000) (disch := omega) only [go_sem, w64, AndB_of, IfB_of, IfB_no, pickE_of, pickE_no, ite_of, ite_no, tdivE, tmodE, takeAll]
  refine CallB.law (d_tallies (p := 0) (by omega) (upd_same _ _ _) (fun i hi => by rw [upd_ne _ _ (by omega)]; rfl) (by omega) (by omega) hbs (by omega) (by omega)) ?_
  rintro _ _ _ ⟨l, q, h1, h2, h3, h4, rfl, rfl, rfl⟩
  simp (maxSteps := 4000000) (disch := omega) only [go_sem, w64, AndB_of, IfB_of, IfB_no, pickE_of, pickE_no, ite_of, ite_no, tdivE, tmodE, takeAll]
  exact ⟨l, h3, h4, rfl⟩
end Go.TH
