/- TH: tables after a change: the walk. Made by gen.py. -/
import Derived.Test.YtolcdfglmcgedaaTf3
import Derived.Test.YtolcdfglmcgedaaTdcp
import Derived.Test.YtolcdfglmcgedaaTddel2
import Derived.Test.YtolcdfglmcgedaaTdch
import Derived.Test.YtolcdfglmcgedaaTf4
namespace Go.TH
open Go Go.Proofs
set_option linter.unusedSimpArgs false
set_option linter.unusedVariables false
set_option maxHeartbeats 20000000
set_option maxRecDepth 100000
theorem at2_len {A B : List AV} {y z : AV} {n : Nat} (h : A.length = n) : (A ++ y :: z :: B).length = n + 2 + B.length := by simp [h]; omega
theorem at2_get {A B : List AV} {y z : AV} {n : Nat} (h : A.length = n) : (A ++ y :: z :: B).getD (n + 1) AV.junk = z := by
  subst h
  rw [List.getD_eq_getElem?_getD, List.getElem?_append_right (by omega)]
  simp
theorem at2_take {A B : List AV} {y z : AV} {n : Nat} (h : A.length = n) : (A ++ y :: z :: B).take (n + 1) = A ++ [y] := by
  subst h
  rw [List.take_length_add_append]
  rfl
theorem at2_drop {A B : List AV} {y z : AV} {n : Nat} (h : A.length = n) : (A ++ y :: z :: B).drop (n + 1 + 1) = B := by
  subst h
  rw [Nat.add_assoc, List.drop_length_add_append]
  rfl
theorem at2_set {A B : List AV} {y z w : AV} {n : Nat} (h : A.length = n) : (A ++ y :: z :: B).set (n + 1) w = A ++ y :: w :: B := by
  subst h
  rw [List.set_append_right _ _ (by omega), Nat.add_sub_cancel_left]
  rfl
theorem at2_at {A B : List AV} {y z : AV} {n : Nat} (h : A.length = n) : (A ++ y :: z :: B)[n + 1]? = some z := by
  subst h
  rw [List.getElem?_append_right (by omega), Nat.add_sub_cancel_left]
  rfl
structure TA (H hp : AH) (nx x rr : Nat) (ts : List GTb) (j v w : Nat) (rows : List GRow) (t : GTb) : Prop where
  old : ∀ i, i < nx → hp i = H i
  dead : ∀ i, x ≤ i → hp i = .dead
  out : hp (nx + 1) = .live v (flat GTb.c (ts.take j) ++ ([colsA t.cols, .msl rr w 1 0 rows.length] ++ flat GTb.c (ts.drop (j + 1))))
  row : ∃ rest, hp rr = .live w (flat cR rows ++ rest)
  r1 : nx + 1 < rr
  r2 : rr < x
theorem o_tablesAfter {H : AH} {nx : Nat} (ts : List GTb) (c : GCh) (hl : ts.length ≤ 1048576) (hs : ∀ t ∈ ts, TbB t) (hc : ChB c) (j : Nat) (hj : j < ts.length) (ht : c.tin = j) (rows : List GRow) (hr : ts[j].rows.length ≤ 100)
    (h1 : c.come = true → rows = ts[j].rows ++ [c.row]) (h2 : c.come = false → ∃ i, i < ts[j].rows.length ∧ idxF (fun x => decide (x = c.row)) ts[j].rows = (i : Int) ∧ rows = ts[j].rows.eraseIdx i) (hd : ∀ i, nx ≤ i → H i = .dead) :
    ACallD Try.prog 60 [tabsA ts, .agg [.int .i64 c.tin, rowA c.row, .bool c.come]] H nx (fun r H' nx' => r = tabsA (ts.set j ⟨ts[j].cols, rows⟩) ∧ H' = H ∧ nx' = nx) := by
  have hc1 := hc.1
  have hd0 := hd
  refine ACallD.loose ?_
  refine ACallD.fin0 2 ?_
  refine wcall_body mixed Try.func60 _ (by unfold Try.f60; rfl) Try.ntmps60 Try.results60 (by decide) (by simp) ?_
  simp (maxSteps := 4000000) (disch := omega) only [go_sem, w64, AndB_of, IfB_of, IfB_no, pickE_of, pickE_no, ite_of, ite_no, tdivE, tmodE, takeAll]
  refine AW.step ?_
  simp (maxSteps := 4000000) (disch := omega) only [go_sem, w64, AndB_of, IfB_of, IfB_no, pickE_of, pickE_no, ite_of, ite_no, tdivE, tmodE, takeAll]
  refine AW.step ?_
  simp (maxSteps := 4000000) (disch := omega) only [go_sem, w64, AndB_of, IfB_of, IfB_no, pickE_of, pickE_no, ite_of, ite_no, tdivE, tmodE, takeAll]
  refine CallB.law (o_tablesCopy ts hl hs j hj (fun i hi => by rw [upd_ne _ _ (by omega)]; exact hd0 i (by omega))) ?_
  rintro _ H2 n2 ⟨v, rfl, hT⟩
  obtain ⟨rr, r1, r2, r3, r4⟩ := hT.ex
  have r2 := r2 hj
  have r4 := r4 hj
  have hlc : (tcC ts j rr 0 ts.length ts[j]).length = ts.length * 2 := tcC_len (Nat.le_refl _)
  have ho : H2 nx = .live 0 [.int .i64 c.tin, rowA c.row, .bool c.come] := by rw [hT.old nx (by omega), upd_same]
  simp (maxSteps := 4000000) (disch := omega) only [go_sem, w64, AndB_of, IfB_of, IfB_no, pickE_of, pickE_no, ite_of, ite_no, tdivE, tmodE, takeAll]
  refine AW.step ?_
  simp (maxSteps := 4000000) (disch := omega) only [go_sem, w64, AndB_of, IfB_of, IfB_no, pickE_of, pickE_no, ite_of, ite_no, tdivE, tmodE, takeAll]
  simp (maxSteps := 4000000) (disch := omega) only [go_sem, w64, AndB_of, IfB_of, IfB_no, pickE_of, pickE_no, ite_of, ite_no, tdivE, tmodE, takeAll, ho, r3, hlc, ht]
  refine AW.cut (fun zs => (heapOf zs, nxOf zs, verOf (blkOf zs (nx+1)), verOf (blkOf zs (rr)))) (fun zz => [(5, some (.msl (nx+1) zz.2.2.1 2 0 ts.length)), (0, some (.ptr (nx+1) zz.2.2.1 (j * 2)))]) (fun zz => zz.1) (fun zz => zz.2.1) (fun zz => TA H zz.1 nx zz.2.1 rr ts j zz.2.2.1 zz.2.2.2 rows ts[j]) ?zcut0 ?_
  case' zcut0 => simp (maxSteps := 4000000) (disch := omega) only [go_sem, w64, AndB_of, IfB_of, IfB_no, pickE_of, pickE_no, ite_of, ite_no, tdivE, tmodE, takeAll]
  · have r3' : H2 (nx + 1) = .live v (flat GTb.c (ts.take j) ++ ([colsA ts[j].cols, .msl rr 0 1 0 ts[j].rows.length] ++ flat GTb.c (ts.drop (j + 1)))) := by rw [r3]; unfold tcC; rw [if_neg (by omega), List.take_length]
    have hlt : (flat GTb.c (ts.take j)).length = j * 2 := by rw [flat_len GTb.len, List.length_take]; omega
    have g1 := fun y z B => at2_len (B := B) (y := y) (z := z) hlt
    have g2 := fun y z B => at2_get (B := B) (y := y) (z := z) hlt
    have g3 := fun y z B => at2_take (B := B) (y := y) (z := z) hlt
    have g4 := fun y z B => at2_drop (B := B) (y := y) (z := z) hlt
    simp (maxSteps := 4000000) (disch := omega) only [go_sem, w64, AndB_of, IfB_of, IfB_no, pickE_of, pickE_no, ite_of, ite_no, tdivE, tmodE, takeAll, ho]
    refine IfB.split (fun e1 => ?_) (fun e1 => ?_)
    · simp (maxSteps := 4000000) (disch := omega) only [go_sem, w64, AndB_of, IfB_of, IfB_no, pickE_of, pickE_no, ite_of, ite_no, tdivE, tmodE, takeAll, ho, e1]
      refine DrawB.intro [8, 9, 12] [12] (inS (n2) (rr) (rr)) (by kernel_rfl) ?_
      simp (maxSteps := 4000000) (disch := omega) only [go_sem, w64, AndB_of, IfB_of, IfB_no, pickE_of, pickE_no, ite_of, ite_no, tdivE, tmodE, takeAll, ho, e1, r3', g1, g2, g3, g4]
      refine DCallB.q0 (q_clone c.row hc1) ?_
      simp (maxSteps := 4000000) (disch := omega) only [go_sem, w64, AndB_of, IfB_of, IfB_no, pickE_of, pickE_no, ite_of, ite_no, tdivE, tmodE, takeAll, ho, e1, r3', r4, cR_flen, g1, g2, g3, g4]
      have hA2 : TA H (upd (upd (upd H2 n2 (.live 0 [rowA c.row])) rr (.live 1 (flat cR ts[j].rows ++ [rowA c.row]))) (nx + 1) (.live v (flat GTb.c (ts.take j) ++ [colsA ts[j].cols] ++ [.msl rr 1 1 0 (ts[j].rows.length + 1)] ++ flat GTb.c (ts.drop (j + 1))))) nx (n2 + 1) rr ts j v 1 rows ts[j] :=
        ⟨fun i hi => by rw [upd_ne _ _ (by omega), upd_ne _ _ (by omega), upd_ne _ _ (by omega), hT.old i (by omega), upd_ne _ _ (by omega)], fun i hi => by rw [upd_ne _ _ (by omega), upd_ne _ _ (by omega), upd_ne _ _ (by omega)]; exact hT.dead i (by omega),
          by rw [upd_same, h1 e1, List.length_append]; simp, ⟨[], by rw [upd_ne _ _ (by omega), upd_same, h1 e1, flat_append, List.append_nil]; rfl⟩, by omega, by omega⟩
      ((repeat' apply And.intro) <;> first | exact hA2 | (exact Weak.go (by (first | (simp [wkL]; done) | (simp [wkL]; omega))) (fun zi => by first | exact .inl rfl | exact .inr rfl | (simp only [upd]; repeat' split) <;> first | exact hA2 | exact .inl rfl | exact .inr rfl | (exfalso; omega) | exact .inr (hd _ (by omega)) | (left; subst_vars; exact hH.symm) | (left; subst_vars; rfl) | (left; simp; done) | (left; simp; omega)) (by omega)) | omega | rfl | assumption | exact Flat.nil | exact ⟨_, rfl, rfl, by assumption⟩ | (simp; done) | (simp; omega))
    · simp (maxSteps := 4000000) (disch := omega) only [go_sem, w64, AndB_of, IfB_of, IfB_no, pickE_of, pickE_no, ite_of, ite_no, tdivE, tmodE, takeAll, ho, e1]
      refine DrawB.intro [7] [7] (inS (n2) (n2) (n2)) (by kernel_rfl) ?_
      simp (maxSteps := 4000000) (disch := omega) only [go_sem, w64, AndB_of, IfB_of, IfB_no, pickE_of, pickE_no, ite_of, ite_no, tdivE, tmodE, takeAll, ho, e1, r3', g1, g2, g3, g4]
      obtain ⟨i, i1, i2, i3⟩ := h2 e1
      have hnm : inS n2 n2 n2 rr = false := by simp [inS]; omega
      refine DCallB.pic (Pict.cons (Pict.msl (l := ts[j].rows) (rest := []) cR_len cR_pure (by rw [List.append_nil]; simp [maskH, hnm, r4])) (Pict.cons (Pict.pure (rowA_pure _)) Pict.nil)) (q_rowAt ts[j].rows c.row (by omega) (smallB (hs _ (List.getElem_mem hj)).2.2)) rfl ?_
      simp (maxSteps := 4000000) (disch := omega) only [go_sem, w64, AndB_of, IfB_of, IfB_no, pickE_of, pickE_no, ite_of, ite_no, tdivE, tmodE, takeAll, ho, e1, r3', i2, g1, g2, g3, g4]
      refine CallB.of (c_DeleteRw ts[j].rows [] i i1 (by rw [List.append_nil]; exact r4)) ?_
      simp (maxSteps := 4000000) (disch := omega) only [go_sem, w64, AndB_of, IfB_of, IfB_no, pickE_of, pickE_no, ite_of, ite_no, tdivE, tmodE, takeAll, ho, e1, r3', i2, g1, g2, g3, g4]
      have hA2 : TA H (upd (upd H2 rr (.live 0 (flat cR (ts[j].rows.eraseIdx i) ++ [.sl 0 true []]))) (nx + 1) (.live v (flat GTb.c (ts.take j) ++ [colsA ts[j].cols] ++ [.msl rr 0 1 0 (ts[j].rows.length - 1)] ++ flat GTb.c (ts.drop (j + 1))))) nx n2 rr ts j v 0 rows ts[j] :=
        ⟨fun i hi => by rw [upd_ne _ _ (by omega), upd_ne _ _ (by omega), hT.old i (by omega), upd_ne _ _ (by omega)], fun i hi => by rw [upd_ne _ _ (by omega), upd_ne _ _ (by omega)]; exact hT.dead i (by omega),
          by rw [upd_same, i3, List.length_eraseIdx, if_pos i1]; simp, ⟨_, by rw [upd_ne _ _ (by omega), upd_same, i3]⟩, by omega, by omega⟩
      ((repeat' apply And.intro) <;> first | exact hA2 | (exact Weak.go (by (first | (simp [wkL]; done) | (simp [wkL]; omega))) (fun zi => by first | exact .inl rfl | exact .inr rfl | (simp only [upd]; repeat' split) <;> first | exact hA2 | exact .inl rfl | exact .inr rfl | (exfalso; omega) | exact .inr (hd _ (by omega)) | (left; subst_vars; exact hH.symm) | (left; subst_vars; rfl) | (left; simp; done) | (left; simp; omega)) (by omega)) | omega | rfl | assumption | exact Flat.nil | exact ⟨_, rfl, rfl, by assumption⟩ | (simp; done) | (simp; omega))
  intro zz zh
  obtain ⟨hp, x, v, w⟩ := zz
  dsimp only at zh
  have hA := zh
  simp (maxSteps := 4000000) (disch := omega) only [go_sem, w64, AndB_of, IfB_of, IfB_no, pickE_of, pickE_no, ite_of, ite_no, tdivE, tmodE, takeAll]
  have hlt : (flat GTb.c (ts.take j)).length = j * 2 := by rw [flat_len GTb.len, List.length_take]; omega
  have ha1 := hA.r1
  have ha2 := hA.r2
  obtain ⟨rest, ha3⟩ := hA.row
  have hcs : (((flat cR rows ++ rest).drop 0).take (rows.length * 1)) = flat cR rows := by rw [List.drop_zero, Nat.mul_one, ← cR_flen rows, List.take_left]
  refine AW.weak (Weak.freezeH (nx + 1) (j * 2 + 1) v rr w 1 0 rows.length _ _ hA.out (by omega) (at2_at hlt) ha3) ?_
  obtain ⟨H3, hH3⟩ : ∃ H3 : AH, H3 = upd (upd hp rr .dead) (nx + 1) (.live v ((flat GTb.c (ts.take j) ++ ([colsA ts[j].cols, .msl rr w 1 0 rows.length] ++ flat GTb.c (ts.drop (j + 1)))).set (j * 2 + 1) (.sl rows.length false (((flat cR rows ++ rest).drop 0).take (rows.length * 1))))) := ⟨_, rfl⟩
  rw [← hH3]
  have ho3 : H3 (nx + 1) = .live v (flat GTb.c (ts.take j) ++ colsA ts[j].cols :: rowsA rows :: flat GTb.c (ts.drop (j + 1))) := by
    rw [hH3, upd_same, hcs]
    congr 1
    exact at2_set hlt
  have old3 : ∀ i, i < nx → H3 i = H i := fun i hi => by rw [hH3, upd_ne _ _ (by omega), upd_ne _ _ (by omega)]; exact hA.old i hi
  have g1 := fun y z B => at2_len (B := B) (y := y) (z := z) hlt
  have g2 := fun y z B => at2_get (B := B) (y := y) (z := z) hlt
  have g3 := fun y z B => at2_take (B := B) (y := y) (z := z) hlt
  have g4 := fun y z B => at2_drop (B := B) (y := y) (z := z) hlt
  have hrl : rows.length ≤ 1048576 ∧ ∀ x ∈ rows, x.length ≤ 1048576 := by
    have hb := hs _ (List.getElem_mem hj)
    cases e : c.come with
    | true =>
      rw [h1 e]
      exact ⟨by simp; omega, fun x hx => (List.mem_append.1 hx).elim (fun h => (hb.2.2 x h).1) fun h => by simp at h; subst h; exact hc1⟩
    | false =>
      obtain ⟨i, i1, i2, i3⟩ := h2 e
      rw [i3]
      exact ⟨by rw [List.length_eraseIdx, if_pos i1]; omega, fun x hx => (hb.2.2 x (List.mem_of_mem_eraseIdx hx)).1⟩
  refine AW.step ?_
  simp (maxSteps := 4000000) (disch := omega) only [go_sem, w64, AndB_of, IfB_of, IfB_no, pickE_of, pickE_no, ite_of, ite_no, tdivE, tmodE, takeAll]
  simp (maxSteps := 4000000) (disch := omega) only [go_sem, w64, AndB_of, IfB_of, IfB_no, pickE_of, pickE_no, ite_of, ite_no, tdivE, tmodE, takeAll, ho3, g1, g2, g3, g4]
  refine CallB.q (q_rowsCopy rows hrl.1 hrl.2) ?_
  simp (maxSteps := 4000000) (disch := omega) only [go_sem, w64, AndB_of, IfB_of, IfB_no, pickE_of, pickE_no, ite_of, ite_no, tdivE, tmodE, takeAll, ho3, g1, g2, g3, g4]
  refine AW.of ?_
  simp (maxSteps := 4000000) (disch := omega) only [go_sem, w64, AndB_of, IfB_of, IfB_no, pickE_of, pickE_no, ite_of, ite_no, tdivE, tmodE, takeAll]
  have hce : flat GTb.c (ts.take j) ++ [colsA ts[j].cols] ++ [rowsA rows] ++ flat GTb.c (ts.drop (j + 1)) = flat GTb.c (ts.set j ⟨ts[j].cols, rows⟩) := by
    rw [List.set_eq_take_append_cons_drop, if_pos hj, flat_append, flat_cons]
    simp [GTb.c]
  rw [hce]
  refine ⟨fun i hi => by rw [upd_ne _ _ (by omega)]; exact old3 i hi, ?_⟩
  rw [List.take_of_length_le (by rw [flat_len GTb.len, List.length_set]; omega), map_keep (flat_pure GTb.pure _), GTb.looseL, tabsA, List.length_set]
/-- What a change makes of the rows. -/
noncomputable def rowsAfter (c : GCh) (t : GTb) : List GRow := if c.come then t.rows ++ [c.row] else t.rows.eraseIdx (idxF (fun x => decide (x = c.row)) t.rows).toNat
theorem o_TablesAfter {H : AH} {nx : Nat} (ts : List GTb) (c : GCh) (hl : ts.length ≤ 1048576) (hs : ∀ t ∈ ts, TbB t) (hc : ChB c) (hk : chOk ts c) (j : Nat) (hj : j < ts.length) (ht : c.tin = j) (hd : ∀ i, nx ≤ i → H i = .dead) :
    ACallD Try.prog 18 [tabsA ts, .agg [.int .i64 c.tin, rowA c.row, .bool c.come]] H nx (fun r H' nx' => r = .tup [tabsA (ts.set j ⟨ts[j].cols, rowsAfter c ts[j]⟩), .bool true] ∧ H' = H ∧ nx' = nx) := by
  have hd0 := hd
  have hq := q_ChangeOkI ts c hl hs hc
  rw [decide_eq_true hk] at hq
  obtain ⟨k1, hb, k2, k3⟩ := hk
  have hjj : c.tin.toNat = j := by omega
  simp only [hjj] at k3
  have k4 := (k1.2 _ (List.getElem_mem hj)).1
  refine ACallD.loose ?_
  refine ACallD.fin0 2 ?_
  refine dcall_body mixed Try.func18 _ (by unfold Try.f18; rfl) Try.ntmps18 Try.results18 (by decide) (by simp) ?_
  simp (maxSteps := 4000000) (disch := omega) only [go_sem, w64, AndB_of, IfB_of, IfB_no, pickE_of, pickE_no, ite_of, ite_no, tdivE, tmodE, takeAll]
  refine CallB.q hq ?_
  simp (maxSteps := 4000000) (disch := omega) only [go_sem, w64, AndB_of, IfB_of, IfB_no, pickE_of, pickE_no, ite_of, ite_no, tdivE, tmodE, takeAll]
  refine CallB.law (o_tablesAfter ts c hl hs hc j hj ht (rowsAfter c ts[j]) (by omega) (fun e => by unfold rowsAfter; rw [e]; rfl) (fun e => ?_) (fun i hi => by rw [upd_ne _ _ (by omega)]; exact hd0 i (by omega))) ?_
  · rcases k3 with k3 | k3
    · rw [e] at k3; cases k3.1
    · have h0 : 0 ≤ idxF (fun x => decide (x = c.row)) ts[j].rows := (idx_cnt c.row ts[j].rows).2 k3.2
      have h5 := idxF_spec (fun x => decide (x = c.row)) ts[j].rows
      generalize hI : idxF (fun x => decide (x = c.row)) ts[j].rows = I at h0 h5 ⊢
      have h6 : I.toNat < ts[j].rows.length := by rcases h5 with ⟨a, _⟩ | ⟨i, hi, a, _, _⟩ <;> omega
      refine ⟨I.toNat, h6, by omega, ?_⟩
      unfold rowsAfter
      rw [if_neg (by rw [e]; simp), hI]
  · rintro _ _ _ ⟨rfl, rfl, rfl⟩
    simp (maxSteps := 4000000) (disch := omega) only [go_sem, w64, AndB_of, IfB_of, IfB_no, pickE_of, pickE_no, ite_of, ite_no, tdivE, tmodE, takeAll]
    exact (by repeat (first | exact OldN.refl | refine OldN.new (by omega) ?_))
end Go.TH
