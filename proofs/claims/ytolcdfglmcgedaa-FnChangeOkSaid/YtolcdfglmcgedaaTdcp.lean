/- TH: copies of rows and of tables. Made by gen.py. -/
import Derived.Test.YtolcdfglmcgedaaTf3
import Derived.Test.YtolcdfglmcgedaaTdsl
import Derived.Test.YtolcdfglmcgedaaTdd3
namespace Go.TH
open Go Go.Proofs
set_option linter.unusedSimpArgs false
set_option linter.unusedVariables false
set_option maxHeartbeats 20000000
set_option maxRecDepth 100000
theorem c_ClipV {H : AH} {nx id ver n : Nat} {cells : List AV} (h : H id = .live ver cells) : CallC Try.prog 167 [.msl id ver 3 0 n] H nx (.msl id ver 3 0 n) H nx := by
  refine call_body mixed Try.func167 _ (by unfold Try.f167; rfl) Try.ntmps167 Try.results167 (by decide) (by simp) ?_
  simp (maxSteps := 4000000) (disch := omega) only [go_sem, w64, AndB_of, IfB_of, IfB_no, pickE_of, pickE_no, ite_of, ite_no, tdivE, tmodE, takeAll, h]
theorem c_ClipR {H : AH} {nx id ver n : Nat} {cells : List AV} (h : H id = .live ver cells) : CallC Try.prog 168 [.msl id ver 1 0 n] H nx (.msl id ver 1 0 n) H nx := by
  refine call_body mixed Try.func168 _ (by unfold Try.f168; rfl) Try.ntmps168 Try.results168 (by decide) (by simp) ?_
  simp (maxSteps := 4000000) (disch := omega) only [go_sem, w64, AndB_of, IfB_of, IfB_no, pickE_of, pickE_no, ite_of, ite_no, tdivE, tmodE, takeAll, h]
theorem c_ClipC {H : AH} {nx id ver n : Nat} {cells : List AV} (h : H id = .live ver cells) : CallC Try.prog 183 [.msl id ver 2 0 n] H nx (.msl id ver 2 0 n) H nx := by
  refine call_body mixed Try.func183 _ (by unfold Try.f183; rfl) Try.ntmps183 Try.results183 (by decide) (by simp) ?_
  simp (maxSteps := 4000000) (disch := omega) only [go_sem, w64, AndB_of, IfB_of, IfB_no, pickE_of, pickE_no, ite_of, ite_no, tdivE, tmodE, takeAll, h]
theorem q_clone (l : GRow) (hl : l.length ≤ 1048576) : QCall Try.prog 119 [rowA l] (rowA l) := by
  refine qcall_bodyL mixed Try.func119 _ (by unfold Try.f119; rfl) Try.ntmps119 Try.results119 (by decide) 1 (by simp) (by simp [pureL, pureA]) ?_
  simp (maxSteps := 4000000) (disch := omega) only [go_sem, w64, AndB_of, IfB_of, IfB_no, pickE_of, pickE_no, ite_of, ite_no, tdivE, tmodE, takeAll]
  refine IfB.dec (fun h => ?_) (fun h => ?_)
  · obtain rfl : l = [] := List.eq_nil_of_length_eq_zero (by omega)
    simp (maxSteps := 4000000) (disch := omega) only [go_sem, w64, AndB_of, IfB_of, IfB_no, pickE_of, pickE_no, ite_of, ite_no, tdivE, tmodE, takeAll]
    rfl
  · unfold rowA
    simp (maxSteps := 4000000) (disch := omega) only [go_sem, w64, AndB_of, IfB_of, IfB_no, pickE_of, pickE_no, ite_of, ite_no, tdivE, tmodE, takeAll]
    refine CallB.of (c_ClipV (cells := flat GVal.c l) (by simp (maxSteps := 4000000) (disch := omega) only [go_sem, w64, AndB_of, IfB_of, IfB_no, pickE_of, pickE_no, ite_of, ite_no, tdivE, tmodE, takeAll])) ?_
    simp (maxSteps := 4000000) (disch := omega) only [go_sem, w64, AndB_of, IfB_of, IfB_no, pickE_of, pickE_no, ite_of, ite_no, tdivE, tmodE, takeAll]
theorem q_cloneC (l : List GCol) (hl : l.length ≤ 1048576) : QCall Try.prog 181 [colsA l] (colsA l) := by
  refine qcall_bodyL mixed Try.func181 _ (by unfold Try.f181; rfl) Try.ntmps181 Try.results181 (by decide) 1 (by simp) (by simp [pureL, pureA]) ?_
  simp (maxSteps := 4000000) (disch := omega) only [go_sem, w64, AndB_of, IfB_of, IfB_no, pickE_of, pickE_no, ite_of, ite_no, tdivE, tmodE, takeAll]
  refine IfB.dec (fun h => ?_) (fun h => ?_)
  · obtain rfl : l = [] := List.eq_nil_of_length_eq_zero (by omega)
    simp (maxSteps := 4000000) (disch := omega) only [go_sem, w64, AndB_of, IfB_of, IfB_no, pickE_of, pickE_no, ite_of, ite_no, tdivE, tmodE, takeAll]
    rfl
  · unfold colsA
    simp (maxSteps := 4000000) (disch := omega) only [go_sem, w64, AndB_of, IfB_of, IfB_no, pickE_of, pickE_no, ite_of, ite_no, tdivE, tmodE, takeAll]
    refine CallB.of (c_ClipC (cells := flat GCol.c l) (by simp (maxSteps := 4000000) (disch := omega) only [go_sem, w64, AndB_of, IfB_of, IfB_no, pickE_of, pickE_no, ite_of, ite_no, tdivE, tmodE, takeAll])) ?_
    simp (maxSteps := 4000000) (disch := omega) only [go_sem, w64, AndB_of, IfB_of, IfB_no, pickE_of, pickE_no, ite_of, ite_no, tdivE, tmodE, takeAll]
theorem q_rowsCopy (l : List GRow) (hl : l.length ≤ 1048576) (hs : ∀ x ∈ l, x.length ≤ 1048576) : QCall Try.prog 121 [rowsA l] (rowsA l) := by
  refine qcall_bodyL mixed Try.func121 _ (by unfold Try.f121; rfl) Try.ntmps121 Try.results121 (by decide) 1 (by simp) (by simp [pureL, pureA]) ?_
  unfold rowsA
  simp (maxSteps := 4000000) (disch := omega) only [go_sem, w64, AndB_of, IfB_of, IfB_no, pickE_of, pickE_no, ite_of, ite_no, tdivE, tmodE, takeAll]
  refine LoopB.weak (Weak.nil 3 1 rfl) ?_
  simp only [List.set_cons_succ, List.set_cons_zero]
  refine LoopB.auto (fun zs => ((intOf (slotOf zs 8)).toNat, verOf (blkOf zs (0)), cellsOf (blkOf zs (0)))) (fun zz => [(3, some (.msl 0 zz.2.1 1 0 zz.1)), (2, none), (0, none), (0, some (.int .i64 (zz.1 : Int)))]) (fun zz => upd noH 0 (.live zz.2.1 zz.2.2)) (fun zz => 1 + 5 * zz.1) (fun zz => l.length - zz.1) (fun zz => zz.1 ≤ l.length ∧ zz.2.2 = flat cR (l.take zz.1)) (by (first | simp (maxSteps := 4000000) (disch := omega) only [go_sem, w64, AndB_of, IfB_of, IfB_no, pickE_of, pickE_no, ite_of, ite_no, tdivE, tmodE, takeAll, hH] | simp (maxSteps := 4000000) (disch := omega) only [go_sem, w64, AndB_of, IfB_of, IfB_no, pickE_of, pickE_no, ite_of, ite_no, tdivE, tmodE, takeAll]); ((repeat' apply And.intro) <;> first | (exact Weak.go (by (first | (simp [wkL]; done) | (simp [wkL]; omega))) (fun zi => by first | exact .inl rfl | exact .inr rfl | (simp only [upd]; repeat' split) <;> first | exact .inl rfl | exact .inr rfl | (exfalso; omega) | exact .inr (hd _ (by omega)) | (left; subst_vars; exact hH.symm) | (left; subst_vars; rfl) | (left; simp; done) | (left; simp; omega)) (by omega)) | omega | rfl | assumption | exact Flat.nil | exact ⟨_, rfl, rfl, by assumption⟩ | (simp; done) | (simp; omega))) ?_
  intro zz zh
  obtain ⟨k, v, cells⟩ := zz
  dsimp only at zh
  obtain ⟨hk, rfl⟩ := zh
  simp (maxSteps := 4000000) (disch := omega) only [go_sem, w64, AndB_of, IfB_of, IfB_no, pickE_of, pickE_no, ite_of, ite_no, tdivE, tmodE, takeAll]
  refine IfB.dec (fun h1 => ?_) (fun h1 => ?_)
  · have h1' : k < l.length := by omega
    have hc : (flat cR (l.take k)).length = k := by rw [flat_len cR_len]; simp; omega
    have hlt : (l.take k).length = k := by simp; omega
    have hn : flat cR (l.take (k + 1)) = flat cR (l.take k) ++ [rowA l[k]] := by rw [List.take_succ_eq_append_getElem h1', flat_append]; rfl
    simp (maxSteps := 4000000) (disch := omega) only [go_sem, w64, AndB_of, IfB_of, IfB_no, pickE_of, pickE_no, ite_of, ite_no, tdivE, tmodE, takeAll]
    apply CallB.q (q_clone _ (hs _ (List.getElem_mem h1')))
    simp (maxSteps := 4000000) (disch := omega) only [go_sem, w64, AndB_of, IfB_of, IfB_no, pickE_of, pickE_no, ite_of, ite_no, tdivE, tmodE, takeAll]
    ((repeat' apply And.intro) <;> first | exact hn.symm | (exact Weak.go (by (first | (simp [wkL]; done) | (simp [wkL]; omega))) (fun zi => by first | exact .inl rfl | exact .inr rfl | (simp only [upd]; repeat' split) <;> first | exact hn.symm | exact .inl rfl | exact .inr rfl | (exfalso; omega) | exact .inr (hd _ (by omega)) | (left; subst_vars; exact hH.symm) | (left; subst_vars; rfl) | (left; simp; done) | (left; simp; omega)) (by omega)) | omega | rfl | assumption | exact Flat.nil | exact ⟨_, rfl, rfl, by assumption⟩ | (simp; done) | (simp; omega))
  · obtain rfl : k = l.length := by omega
    have ht : l.take l.length = l := List.take_of_length_le (Nat.le_refl _)
    rw [ht]
    simp (maxSteps := 4000000) (disch := omega) only [go_sem, w64, AndB_of, IfB_of, IfB_no, pickE_of, pickE_no, ite_of, ite_no, tdivE, tmodE, takeAll]
    refine CallB.of (c_ClipR (cells := flat cR l) (by simp (maxSteps := 4000000) (disch := omega) only [go_sem, w64, AndB_of, IfB_of, IfB_no, pickE_of, pickE_no, ite_of, ite_no, tdivE, tmodE, takeAll])) ?_
    simp (maxSteps := 4000000) (disch := omega) only [go_sem, w64, AndB_of, IfB_of, IfB_no, pickE_of, pickE_no, ite_of, ite_no, tdivE, tmodE, takeAll]
theorem o_rowsCopy {H : AH} {nx : Nat} (l : List GRow) (hl : l.length ≤ 1048576) (hs : ∀ x ∈ l, x.length ≤ 1048576) (hd : ∀ i, nx ≤ i → H i = .dead) : ACallD Try.prog 121 [rowsA l] H nx (fun r H' nx' => r = .msl nx 0 1 0 l.length ∧ H' = upd H nx (.live 0 (flat cR l)) ∧ nx' = nx + 1) := by
  refine ACallD.fin1 1 ?_
  refine dcall_body mixed Try.func121 _ (by unfold Try.f121; rfl) Try.ntmps121 Try.results121 (by decide) (by simp) ?_
  unfold rowsA
  simp (maxSteps := 4000000) (disch := omega) only [go_sem, w64, AndB_of, IfB_of, IfB_no, pickE_of, pickE_no, ite_of, ite_no, tdivE, tmodE, takeAll]
  refine LoopB.weak (Weak.nil 3 1 rfl) ?_
  simp only [List.set_cons_succ, List.set_cons_zero]
  refine LoopB.auto (fun zs => (nxOf zs, (intOf (slotOf zs 8)).toNat, verOf (blkOf zs (nx)), cellsOf (blkOf zs (nx)))) (fun zz => [(3, some (.msl nx zz.2.2.1 1 0 zz.2.1)), (2, none), (0, none), (0, some (.int .i64 (zz.2.1 : Int)))]) (fun zz => upd H nx (.live zz.2.2.1 zz.2.2.2)) (fun zz => zz.1) (fun zz => l.length - zz.2.1) (fun zz => zz.2.1 ≤ l.length ∧ nx < zz.1 ∧ zz.2.2.2 = flat cR (l.take zz.2.1)) (by (first | simp (maxSteps := 4000000) (disch := omega) only [go_sem, w64, AndB_of, IfB_of, IfB_no, pickE_of, pickE_no, ite_of, ite_no, tdivE, tmodE, takeAll, hH] | simp (maxSteps := 4000000) (disch := omega) only [go_sem, w64, AndB_of, IfB_of, IfB_no, pickE_of, pickE_no, ite_of, ite_no, tdivE, tmodE, takeAll]); ((repeat' apply And.intro) <;> first | (exact Weak.go (by (first | (simp [wkL]; done) | (simp [wkL]; omega))) (fun zi => by first | exact .inl rfl | exact .inr rfl | (simp only [upd]; repeat' split) <;> first | exact .inl rfl | exact .inr rfl | (exfalso; omega) | exact .inr (hd _ (by omega)) | (left; subst_vars; exact hH.symm) | (left; subst_vars; rfl) | (left; simp; done) | (left; simp; omega)) (by omega)) | omega | rfl | assumption | exact Flat.nil | exact ⟨_, rfl, rfl, by assumption⟩ | (simp; done) | (simp; omega))) ?_
  intro zz zh
  obtain ⟨x, k, v, cells⟩ := zz
  dsimp only at zh
  obtain ⟨hk, hx, rfl⟩ := zh
  simp (maxSteps := 4000000) (disch := omega) only [go_sem, w64, AndB_of, IfB_of, IfB_no, pickE_of, pickE_no, ite_of, ite_no, tdivE, tmodE, takeAll]
  refine IfB.dec (fun h1 => ?_) (fun h1 => ?_)
  · have h1' : k < l.length := by omega
    have hc : (flat cR (l.take k)).length = k := by rw [flat_len cR_len]; simp; omega
    have hlt : (l.take k).length = k := by simp; omega
    have hn : flat cR (l.take (k + 1)) = flat cR (l.take k) ++ [rowA l[k]] := by rw [List.take_succ_eq_append_getElem h1', flat_append]; rfl
    simp (maxSteps := 4000000) (disch := omega) only [go_sem, w64, AndB_of, IfB_of, IfB_no, pickE_of, pickE_no, ite_of, ite_no, tdivE, tmodE, takeAll]
    apply CallB.q (q_clone _ (hs _ (List.getElem_mem h1')))
    simp (maxSteps := 4000000) (disch := omega) only [go_sem, w64, AndB_of, IfB_of, IfB_no, pickE_of, pickE_no, ite_of, ite_no, tdivE, tmodE, takeAll]
    ((repeat' apply And.intro) <;> first | exact hn.symm | (exact Weak.go (by (first | (simp [wkL]; done) | (simp [wkL]; omega))) (fun zi => by first | exact .inl rfl | exact .inr rfl | (simp only [upd]; repeat' split) <;> first | exact hn.symm | exact .inl rfl | exact .inr rfl | (exfalso; omega) | exact .inr (hd _ (by omega)) | (left; subst_vars; exact hH.symm) | (left; subst_vars; rfl) | (left; simp; done) | (left; simp; omega)) (by omega)) | omega | rfl | assumption | exact Flat.nil | exact ⟨_, rfl, rfl, by assumption⟩ | (simp; done) | (simp; omega))
  · obtain rfl : k = l.length := by omega
    have ht : l.take l.length = l := List.take_of_length_le (Nat.le_refl _)
    rw [ht]
    simp (maxSteps := 4000000) (disch := omega) only [go_sem, w64, AndB_of, IfB_of, IfB_no, pickE_of, pickE_no, ite_of, ite_no, tdivE, tmodE, takeAll]
    refine CallB.of (c_ClipR (cells := flat cR l) (by simp (maxSteps := 4000000) (disch := omega) only [go_sem, w64, AndB_of, IfB_of, IfB_no, pickE_of, pickE_no, ite_of, ite_no, tdivE, tmodE, takeAll])) ?_
    simp (maxSteps := 4000000) (disch := omega) only [go_sem, w64, AndB_of, IfB_of, IfB_no, pickE_of, pickE_no, ite_of, ite_no, tdivE, tmodE, takeAll]
    refine ⟨nx, v, _, (by repeat (first | exact OldN.refl | refine OldN.new (by omega) ?_)), Nat.le_refl _, upd_same .., ?_⟩
    simp (maxSteps := 4000000) (disch := omega) only [go_sem, w64, AndB_of, IfB_of, IfB_no, pickE_of, pickE_no, ite_of, ite_no, tdivE, tmodE, takeAll]
theorem q_tableCopy (t : GTb) (hb : TbB t) : QCall Try.prog 165 [.agg [colsA t.cols, rowsA t.rows]] (.agg [colsA t.cols, rowsA t.rows]) := by
  have b1 := hb.1
  have b2 := hb.2.1
  refine qcall_bodyL mixed Try.func165 _ (by unfold Try.f165; rfl) Try.ntmps165 Try.results165 (by decide) 1 (by simp) (by simp [pureL, pureA]) ?_
  simp (maxSteps := 4000000) (disch := omega) only [go_sem, w64, AndB_of, IfB_of, IfB_no, pickE_of, pickE_no, ite_of, ite_no, tdivE, tmodE, takeAll]
  refine DrawB.intro [6, 7] [7] (inS (1) (1) (1)) (by kernel_rfl) ?_
  simp (maxSteps := 4000000) (disch := omega) only [go_sem, w64, AndB_of, IfB_of, IfB_no, pickE_of, pickE_no, ite_of, ite_no, tdivE, tmodE, takeAll]
  refine DCallB.q0 (q_cloneC _ b1) ?_
  simp (maxSteps := 4000000) (disch := omega) only [go_sem, w64, AndB_of, IfB_of, IfB_no, pickE_of, pickE_no, ite_of, ite_no, tdivE, tmodE, takeAll]
  refine DCallB.q0 (q_rowsCopy _ b2 fun x hx => (hb.2.2 x hx).1) ?_
  simp (maxSteps := 4000000) (disch := omega) only [go_sem, w64, AndB_of, IfB_of, IfB_no, pickE_of, pickE_no, ite_of, ite_no, tdivE, tmodE, takeAll]
theorem o_tableCopy {H : AH} {nx : Nat} (t : GTb) (hb : TbB t) (hd : ∀ i, nx ≤ i → H i = .dead) : ACallD Try.prog 165 [.agg [colsA t.cols, rowsA t.rows]] H nx (fun r H' nx' => r = .agg [colsA t.cols, .msl nx 0 1 0 t.rows.length] ∧ H' = upd H nx (.live 0 (flat cR t.rows)) ∧ nx' = nx + 1) := by
  have b1 := hb.1
  have b2 := hb.2.1
  refine ACallD.fin1 1 ?_
  refine dcall_body mixed Try.func165 _ (by unfold Try.f165; rfl) Try.ntmps165 Try.results165 (by decide) (by simp) ?_
  simp (maxSteps := 4000000) (disch := omega) only [go_sem, w64, AndB_of, IfB_of, IfB_no, pickE_of, pickE_no, ite_of, ite_no, tdivE, tmodE, takeAll]
  refine DrawB.intro [5, 6, 7] [7] (inS (nx + 1) (nx + 2) (nx + 2)) (by kernel_rfl) ?_
  simp (maxSteps := 4000000) (disch := omega) only [go_sem, w64, AndB_of, IfB_of, IfB_no, pickE_of, pickE_no, ite_of, ite_no, tdivE, tmodE, takeAll]
  refine DCallB.q0 (q_cloneC _ b1) ?_
  simp (maxSteps := 4000000) (disch := omega) only [go_sem, w64, AndB_of, IfB_of, IfB_no, pickE_of, pickE_no, ite_of, ite_no, tdivE, tmodE, takeAll]
  refine CallB.law (o_rowsCopy t.rows b2 (fun x hx => (hb.2.2 x hx).1) (fun i hi => by rw [upd_ne _ _ (by omega), upd_ne _ _ (by omega)]; exact hd i (by omega))) ?_
  rintro _ _ _ ⟨rfl, rfl, rfl⟩
  simp (maxSteps := 4000000) (disch := omega) only [go_sem, w64, AndB_of, IfB_of, IfB_no, pickE_of, pickE_no, ite_of, ite_no, tdivE, tmodE, takeAll]
  refine ⟨nx + 1 + 1, 0, _, (by repeat (first | exact OldN.refl | refine OldN.new (by omega) ?_)), by omega, (by rw [if_neg (by omega), if_pos rfl]), ?_⟩
  simp (maxSteps := 4000000) (disch := omega) only [go_sem, w64, AndB_of, IfB_of, IfB_no, pickE_of, pickE_no, ite_of, ite_no, tdivE, tmodE, takeAll]
/-- The copy, of which one table's rows are still one's own. -/
def tcC (ts : List GTb) (j rr w k : Nat) (t : GTb) : List AV := if k ≤ j then flat GTb.c (ts.take k) else flat GTb.c (ts.take j) ++ ([colsA t.cols, .msl rr w 1 0 t.rows.length] ++ flat GTb.c ((ts.take k).drop (j + 1)))
structure TC (ts : List GTb) (H hp : AH) (nx x k j v : Nat) (t : GTb) : Prop where
  hx : nx < x
  old : ∀ i, i < nx → hp i = H i
  dead : ∀ i, x ≤ i → hp i = .dead
  ex : ∃ rr, nx < rr ∧ (j < k → rr < x) ∧ hp nx = .live v (tcC ts j rr 0 k t) ∧ (j < k → hp rr = .live 0 (flat cR t.rows))
theorem tcC_len {ts : List GTb} {j rr w k : Nat} {t : GTb} (h : k ≤ ts.length) : (tcC ts j rr w k t).length = k * 2 := by
  unfold tcC
  split
  · rw [flat_len GTb.len]; simp; omega
  · simp only [List.length_append, flat_len GTb.len, List.length_cons, List.length_nil, List.length_take, List.length_drop]
    omega
theorem tcC_lt {ts : List GTb} {j rr w k : Nat} {t : GTb} (h : k < ts.length) (hk : k < j) : tcC ts j rr w (k + 1) t = tcC ts j rr w k t ++ [colsA ts[k].cols, rowsA ts[k].rows] := by
  unfold tcC
  rw [if_pos (by omega), if_pos (by omega), List.take_succ_eq_append_getElem h, flat_append]
  rfl
theorem tcC_eq {ts : List GTb} {rr rr0 w k : Nat} {t : GTb} (h : k < ts.length) : tcC ts k rr w (k + 1) t = tcC ts k rr0 w k t ++ [colsA t.cols, .msl rr w 1 0 t.rows.length] := by
  unfold tcC
  rw [if_neg (by omega), if_pos (by omega), List.drop_of_length_le (by simp; omega)]
  rfl
theorem tcC_gt {ts : List GTb} {j rr w k : Nat} {t : GTb} (h : k < ts.length) (hk : j < k) : tcC ts j rr w (k + 1) t = tcC ts j rr w k t ++ [colsA ts[k].cols, rowsA ts[k].rows] := by
  unfold tcC
  rw [if_neg (by omega), if_neg (by omega), List.take_succ_eq_append_getElem h, List.drop_append_of_le_length (by simp; omega), flat_append]
  simp only [List.append_assoc]
  rfl
theorem o_tablesCopy {H : AH} {nx : Nat} (ts : List GTb) (hl : ts.length ≤ 1048576) (hs : ∀ t ∈ ts, TbB t) (j : Nat) (hj : j < ts.length) (hd : ∀ i, nx ≤ i → H i = .dead) :
    ACallD Try.prog 118 [tabsA ts] H nx (fun r H' nx' => ∃ v, r = .msl nx v 2 0 ts.length ∧ TC ts H H' nx nx' ts.length j v ts[j]) := by
  have hd0 := hd
  refine dcall_body mixed Try.func118 _ (by unfold Try.f118; rfl) Try.ntmps118 Try.results118 (by decide) (by simp) ?_
  unfold tabsA
  simp (maxSteps := 4000000) (disch := omega) only [go_sem, w64, AndB_of, IfB_of, IfB_no, pickE_of, pickE_no, ite_of, ite_no, tdivE, tmodE, takeAll]
  refine LoopB.weak (Weak.nil 3 2 rfl) ?_
  simp only [List.set_cons_succ, List.set_cons_zero]
  refine LoopB.auto (fun zs => (heapOf zs, nxOf zs, (intOf (slotOf zs 8)).toNat, verOf (blkOf zs (nx)))) (fun zz => [(3, some (.msl nx zz.2.2.2 2 0 zz.2.2.1)), (2, none), (0, none), (0, some (.int .i64 (zz.2.2.1 : Int)))]) (fun zz => zz.1) (fun zz => zz.2.1) (fun zz => ts.length - zz.2.2.1) (fun zz => zz.2.2.1 ≤ ts.length ∧ TC ts H zz.1 nx zz.2.1 zz.2.2.1 j zz.2.2.2 ts[j]) (by (first | simp (maxSteps := 4000000) (disch := omega) only [go_sem, w64, AndB_of, IfB_of, IfB_no, pickE_of, pickE_no, ite_of, ite_no, tdivE, tmodE, takeAll, hH] | simp (maxSteps := 4000000) (disch := omega) only [go_sem, w64, AndB_of, IfB_of, IfB_no, pickE_of, pickE_no, ite_of, ite_no, tdivE, tmodE, takeAll]); ((repeat' apply And.intro) <;> first | exact ⟨by omega, fun i hi => by rw [upd_ne _ _ (by omega)], fun i hi => by rw [upd_ne _ _ (by omega)]; exact hd0 i (by omega), nx + 1, by omega, fun h => by omega, by rw [upd_same]; unfold tcC; rw [if_pos (by omega)]; rfl, fun h => by omega⟩ | (exact Weak.go (by (first | (simp [wkL]; done) | (simp [wkL]; omega))) (fun zi => by first | exact .inl rfl | exact .inr rfl | (simp only [upd]; repeat' split) <;> first | exact ⟨by omega, fun i hi => by rw [upd_ne _ _ (by omega)], fun i hi => by rw [upd_ne _ _ (by omega)]; exact hd0 i (by omega), nx + 1, by omega, fun h => by omega, by rw [upd_same]; unfold tcC; rw [if_pos (by omega)]; rfl, fun h => by omega⟩ | exact .inl rfl | exact .inr rfl | (exfalso; omega) | exact .inr (hd _ (by omega)) | (left; subst_vars; exact hH.symm) | (left; subst_vars; rfl) | (left; simp; done) | (left; simp; omega)) (by omega)) | omega | rfl | assumption | exact Flat.nil | exact ⟨_, rfl, rfl, by assumption⟩ | (simp; done) | (simp; omega))) ?_
  intro zz zh
  obtain ⟨hp, x, k, v⟩ := zz
  dsimp only at zh
  obtain ⟨hk, hT⟩ := zh
  simp (maxSteps := 4000000) (disch := omega) only [go_sem, w64, AndB_of, IfB_of, IfB_no, pickE_of, pickE_no, ite_of, ite_no, tdivE, tmodE, takeAll]
  have hx := hT.hx
  have hdd := hT.dead
  obtain ⟨rr, r1, r2, r3, r4⟩ := hT.ex
  have hlc : (tcC ts j rr 0 k ts[j]).length = k * 2 := tcC_len hk
  refine IfB.dec (fun h1 => ?_) (fun h1 => ?_)
  · have h1' : k < ts.length := by omega
    simp (maxSteps := 4000000) (disch := omega) only [go_sem, w64, AndB_of, IfB_of, IfB_no, pickE_of, pickE_no, ite_of, ite_no, tdivE, tmodE, takeAll, r3]
    by_cases e : k = j
    · subst e
      refine CallB.law (o_tableCopy ts[k] (hs _ (List.getElem_mem h1')) (fun i hi => by rw [upd_ne _ _ (by omega)]; exact hdd i (by omega))) ?_
      rintro _ _ _ ⟨rfl, rfl, rfl⟩
      simp (maxSteps := 4000000) (disch := omega) only [go_sem, w64, AndB_of, IfB_of, IfB_no, pickE_of, pickE_no, ite_of, ite_no, tdivE, tmodE, takeAll, r3]
      have hT2 : TC ts H (upd (upd (upd (upd hp x (.live 0 [colsA ts[k].cols, rowsA ts[k].rows])) (x + 1) (.live 0 (flat cR ts[k].rows))) (x + 1 + 1) (.live 0 [colsA ts[k].cols, .msl (x + 1) 0 1 0 ts[k].rows.length])) nx (.live (v + 1) (tcC ts k rr 0 k ts[k] ++ [colsA ts[k].cols, .msl (x + 1) 0 1 0 ts[k].rows.length]))) nx (x + 1 + 1 + 1) (k + 1) k (v + 1) ts[k] :=
        ⟨by omega, fun i hi => by rw [upd_ne _ _ (by omega), upd_ne _ _ (by omega), upd_ne _ _ (by omega), upd_ne _ _ (by omega)]; exact hT.old i hi, fun i hi => by rw [upd_ne _ _ (by omega), upd_ne _ _ (by omega), upd_ne _ _ (by omega), upd_ne _ _ (by omega)]; exact hdd i (by omega), x + 1, by omega, fun _ => by omega, by rw [upd_same, tcC_eq h1'], fun _ => by rw [upd_ne _ _ (by omega), upd_ne _ _ (by omega), upd_same]⟩
      ((repeat' apply And.intro) <;> first | exact hT2 | (exact Weak.go (by (first | (simp [wkL]; done) | (simp [wkL]; omega))) (fun zi => by first | exact .inl rfl | exact .inr rfl | (simp only [upd]; repeat' split) <;> first | exact hT2 | exact .inl rfl | exact .inr rfl | (exfalso; omega) | exact .inr (hd _ (by omega)) | (left; subst_vars; exact hH.symm) | (left; subst_vars; rfl) | (left; simp; done) | (left; simp; omega)) (by omega)) | omega | rfl | assumption | exact Flat.nil | exact ⟨_, rfl, rfl, by assumption⟩ | (simp; done) | (simp; omega))
    · apply CallB.q (q_tableCopy ts[k] (hs _ (List.getElem_mem h1')))
      simp (maxSteps := 4000000) (disch := omega) only [go_sem, w64, AndB_of, IfB_of, IfB_no, pickE_of, pickE_no, ite_of, ite_no, tdivE, tmodE, takeAll, r3]
      have hT2 : TC ts H (upd (upd (upd hp x (.live 0 [colsA ts[k].cols, rowsA ts[k].rows])) (x + 1) (.live 0 [colsA ts[k].cols, rowsA ts[k].rows])) nx (.live (v + 1) (tcC ts j rr 0 k ts[j] ++ [colsA ts[k].cols, rowsA ts[k].rows]))) nx (x + 1 + 1) (k + 1) j (v + 1) ts[j] :=
        ⟨by omega, fun i hi => by rw [upd_ne _ _ (by omega), upd_ne _ _ (by omega), upd_ne _ _ (by omega)]; exact hT.old i hi, fun i hi => by rw [upd_ne _ _ (by omega), upd_ne _ _ (by omega), upd_ne _ _ (by omega)]; exact hdd i (by omega), rr, r1, fun h => by have := r2 (by omega); omega, by
          rw [upd_same]
          rcases Nat.lt_or_gt_of_ne e with e | e
          · rw [tcC_lt h1' e]
          · rw [tcC_gt h1' e], fun h => by have := r2 (by omega); rw [upd_ne _ _ (by omega), upd_ne _ _ (by omega), upd_ne _ _ (by omega)]; exact r4 (by omega)⟩
      ((repeat' apply And.intro) <;> first | exact hT2 | (exact Weak.go (by (first | (simp [wkL]; done) | (simp [wkL]; omega))) (fun zi => by first | exact .inl rfl | exact .inr rfl | (simp only [upd]; repeat' split) <;> first | exact hT2 | exact .inl rfl | exact .inr rfl | (exfalso; omega) | exact .inr (hd _ (by omega)) | (left; subst_vars; exact hH.symm) | (left; subst_vars; rfl) | (left; simp; done) | (left; simp; omega)) (by omega)) | omega | rfl | assumption | exact Flat.nil | exact ⟨_, rfl, rfl, by assumption⟩ | (simp; done) | (simp; omega))
  · obtain rfl : k = ts.length := by omega
    simp (maxSteps := 4000000) (disch := omega) only [go_sem, w64, AndB_of, IfB_of, IfB_no, pickE_of, pickE_no, ite_of, ite_no, tdivE, tmodE, takeAll, r3]
    apply CallB.of (c_ClipTb r3)
    simp (maxSteps := 4000000) (disch := omega) only [go_sem, w64, AndB_of, IfB_of, IfB_no, pickE_of, pickE_no, ite_of, ite_no, tdivE, tmodE, takeAll]
    exact ⟨v, rfl, hT⟩
end Go.TH
