/- TH: rows less others: the walks. Made by gen.py. -/
import Derived.Test.YtfnflalnjigfkaaTf3
import Derived.Test.YtfnflalnjigfkaaTen2
import Derived.Test.YtfnflalnjigfkaaTf4
namespace Go.TH
open Go Go.Proofs
set_option linter.unusedSimpArgs false
set_option linter.unusedVariables false
set_option maxHeartbeats 20000000
set_option maxRecDepth 100000
/-- Rows without others: gone ones, kept ones. -/
def lessL (b : List GRow) : List GRow → List GRow → List GRow → List GRow
  | _, o, [] => o
  | g, o, r :: l => if cntR r g < cntR r b then lessL b (g ++ [r]) o l else lessL b g (o ++ [r]) l
structure LessI (b a : List GRow) (k : Nat) (cells cellz : List AV) (m g : Nat) : Prop where
  ex : ∃ out gone : List GRow, cells = flat cR out ∧ m = out.length ∧ cellz = flat cR gone ∧ g = gone.length ∧ m ≤ k ∧ g ≤ k ∧ (∀ x ∈ out, smallR x) ∧ (∀ x ∈ gone, smallR x) ∧ lessL b [] [] a = lessL b gone out (a.drop k)
theorem LessI.zero {b a : List GRow} : LessI b a 0 [] [] 0 0 := ⟨[], [], rfl, rfl, rfl, rfl, Nat.le_refl _, Nat.le_refl _, by simp, by simp, rfl⟩
theorem LessI.gone {b a : List GRow} {k : Nat} {out gone : List GRow} (h1 : k < a.length) (hm : out.length ≤ k) (hg : gone.length ≤ k) (ho : ∀ x ∈ out, smallR x) (hz : ∀ x ∈ gone, smallR x) (hr : smallR a[k]) (he : lessL b [] [] a = lessL b gone out (a.drop k)) (c : cntR a[k] gone < cntR a[k] b) : LessI b a (k + 1) (flat cR out) (flat cR gone ++ [rowA a[k]]) out.length (gone.length + 1) := by
  refine ⟨out, gone ++ [a[k]], rfl, rfl, by rw [flat_append]; rfl, by simp, by omega, by omega, ho, fun x hx => (List.mem_append.1 hx).elim (hz x) (fun h => by simp at h; subst h; exact hr), ?_⟩
  rw [he, List.drop_eq_getElem_cons h1, lessL, if_pos c]
theorem LessI.kept {b a : List GRow} {k : Nat} {out gone : List GRow} (h1 : k < a.length) (hm : out.length ≤ k) (hg : gone.length ≤ k) (ho : ∀ x ∈ out, smallR x) (hz : ∀ x ∈ gone, smallR x) (hr : smallR a[k]) (he : lessL b [] [] a = lessL b gone out (a.drop k)) (c : ¬ cntR a[k] gone < cntR a[k] b) : LessI b a (k + 1) (flat cR out ++ [rowA a[k]]) (flat cR gone) (out.length + 1) gone.length := by
  refine ⟨out ++ [a[k]], gone, by rw [flat_append]; rfl, by simp, rfl, rfl, by omega, by omega, fun x hx => (List.mem_append.1 hx).elim (ho x) (fun h => by simp at h; subst h; exact hr), hz, ?_⟩
  rw [he, List.drop_eq_getElem_cons h1, lessL, if_neg c]
theorem q_RowsLessI (a b : List GRow) (ha : a.length ≤ 1000000) (hb : b.length ≤ 1000000) (hsa : ∀ x ∈ a, smallR x) (hsb : ∀ x ∈ b, smallR x) : QCall Try.prog 56 [rowsA a, rowsA b] (rowsA (lessL b [] [] a)) := by
  refine qcall_bodyL mixed Try.func56 _ (by unfold Try.f56; rfl) Try.ntmps56 Try.results56 (by decide) 1 (by simp) (by simp [pureL, pureA]) ?_
  unfold rowsA
  simp (maxSteps := 4000000) (disch := omega) only [go_sem, w64, AndB_of, IfB_of, IfB_no, pickE_of, pickE_no, ite_of, ite_no, tdivE, tmodE, takeAll]
  refine LoopB.weak (Weak.nil 5 1 rfl) ?_
  simp only [List.set_cons_succ, List.set_cons_zero]
  refine LoopB.weak (Weak.nil 6 1 rfl) ?_
  simp only [List.set_cons_succ, List.set_cons_zero]
  refine LoopB.auto (fun zs => ((intOf (slotOf zs 11)).toNat, verOf (blkOf zs (0)), cellsOf (blkOf zs (0)), mlenOf (slotOf zs 5), verOf (blkOf zs (1)), cellsOf (blkOf zs (1)), mlenOf (slotOf zs 6))) (fun zz => [(1, none), (3, some (.msl 0 zz.2.1 1 0 zz.2.2.2.1)), (0, some (.msl 1 zz.2.2.2.2.1 1 0 zz.2.2.2.2.2.2)), (2, none), (0, none), (0, some (.int .i64 (zz.1 : Int)))]) (fun zz => upd (upd noH 0 (.live zz.2.1 zz.2.2.1)) 1 (.live zz.2.2.2.2.1 zz.2.2.2.2.2.1)) (fun zz => 2 + 20 * zz.1) (fun zz => a.length - zz.1) (fun zz => zz.1 ≤ a.length ∧ LessI b a zz.1 zz.2.2.1 zz.2.2.2.2.2.1 zz.2.2.2.1 zz.2.2.2.2.2.2) (by (first | simp (maxSteps := 4000000) (disch := omega) only [go_sem, w64, AndB_of, IfB_of, IfB_no, pickE_of, pickE_no, ite_of, ite_no, tdivE, tmodE, takeAll, hH] | simp (maxSteps := 4000000) (disch := omega) only [go_sem, w64, AndB_of, IfB_of, IfB_no, pickE_of, pickE_no, ite_of, ite_no, tdivE, tmodE, takeAll]); ((repeat' apply And.intro) <;> first | exact LessI.zero | (exact Weak.go (by (first | (simp [wkL]; done) | (simp [wkL]; omega))) (fun zi => by first | exact .inl rfl | exact .inr rfl | (simp only [upd]; repeat' split) <;> first | exact LessI.zero | exact .inl rfl | exact .inr rfl | (exfalso; omega) | exact .inr (hd _ (by omega)) | (left; subst_vars; exact hH.symm) | (left; subst_vars; rfl) | (left; simp; done) | (left; simp; omega)) (by omega)) | omega | rfl | assumption | exact Flat.nil | exact ⟨_, rfl, rfl, by assumption⟩ | (simp; done) | (simp; omega))) ?_
  intro zz zh
  obtain ⟨k, v, cells, m, w, cellz, g⟩ := zz
  dsimp only at zh
  obtain ⟨hk, hI⟩ := zh
  simp (maxSteps := 4000000) (disch := omega) only [go_sem, w64, AndB_of, IfB_of, IfB_no, pickE_of, pickE_no, ite_of, ite_no, tdivE, tmodE, takeAll]
  obtain ⟨out, gone, rfl, rfl, rfl, rfl, hm, hg, ho, hz, he⟩ := hI.ex
  refine IfB.dec (fun h1 => ?_) (fun h1 => ?_)
  · have h1' : k < a.length := by omega
    have hr := hsa _ (List.getElem_mem h1')
    simp (maxSteps := 4000000) (disch := omega) only [go_sem, w64, AndB_of, IfB_of, IfB_no, pickE_of, pickE_no, ite_of, ite_no, tdivE, tmodE, takeAll]
    apply CallB.borrow 1 (r := .int .i64 (cntR a[k] gone)) _ rfl
    · simp (maxSteps := 4000000) (disch := omega) only [go_sem, w64, AndB_of, IfB_of, IfB_no, pickE_of, pickE_no, ite_of, ite_no, tdivE, tmodE, takeAll]
      apply CallB.q (q_RowManyI b a[k] (by omega) hsb)
      simp (maxSteps := 4000000) (disch := omega) only [go_sem, w64, AndB_of, IfB_of, IfB_no, pickE_of, pickE_no, ite_of, ite_no, tdivE, tmodE, takeAll]
      refine IfB.dec (fun h2 => ?_) (fun h2 => ?_)
      · simp (maxSteps := 4000000) (disch := omega) only [go_sem, w64, AndB_of, IfB_of, IfB_no, pickE_of, pickE_no, ite_of, ite_no, tdivE, tmodE, takeAll]
        ((repeat' apply And.intro) <;> first | exact LessI.gone h1' hm hg ho hz hr he h2 | (exact Weak.go (by (first | (simp [wkL]; done) | (simp [wkL]; omega))) (fun zi => by first | exact .inl rfl | exact .inr rfl | (simp only [upd]; repeat' split) <;> first | exact LessI.gone h1' hm hg ho hz hr he h2 | exact .inl rfl | exact .inr rfl | (exfalso; omega) | exact .inr (hd _ (by omega)) | (left; subst_vars; exact hH.symm) | (left; subst_vars; rfl) | (left; simp; done) | (left; simp; omega)) (by omega)) | omega | rfl | assumption | exact Flat.nil | exact ⟨_, rfl, rfl, by assumption⟩ | (simp; done) | (simp; omega))
      · simp (maxSteps := 4000000) (disch := omega) only [go_sem, w64, AndB_of, IfB_of, IfB_no, pickE_of, pickE_no, ite_of, ite_no, tdivE, tmodE, takeAll]
        ((repeat' apply And.intro) <;> first | exact LessI.kept h1' hm hg ho hz hr he h2 | (exact Weak.go (by (first | (simp [wkL]; done) | (simp [wkL]; omega))) (fun zi => by first | exact .inl rfl | exact .inr rfl | (simp only [upd]; repeat' split) <;> first | exact LessI.kept h1' hm hg ho hz hr he h2 | exact .inl rfl | exact .inr rfl | (exfalso; omega) | exact .inr (hd _ (by omega)) | (left; subst_vars; exact hH.symm) | (left; subst_vars; rfl) | (left; simp; done) | (left; simp; omega)) (by omega)) | omega | rfl | assumption | exact Flat.nil | exact ⟨_, rfl, rfl, by assumption⟩ | (simp; done) | (simp; omega))
    · simp (maxSteps := 4000000) (disch := omega) only [go_sem, w64, AndB_of, IfB_of, IfB_no, pickE_of, pickE_no, ite_of, ite_no, tdivE, tmodE, takeAll]
      exact q_RowManyI gone a[k] (by omega) hz
  · obtain rfl : k = a.length := by omega
    rw [List.drop_length, lessL] at he
    rw [he]
    simp (maxSteps := 4000000) (disch := omega) only [go_sem, w64, AndB_of, IfB_of, IfB_no, pickE_of, pickE_no, ite_of, ite_no, tdivE, tmodE, takeAll]
    apply CallB.lend 1 (r := rowsA out) _ (rowsA_pure out)
    · simp (maxSteps := 4000000) (disch := omega) only [go_sem, w64, AndB_of, IfB_of, IfB_no, pickE_of, pickE_no, ite_of, ite_no, tdivE, tmodE, takeAll]
      rfl
    · simp (maxSteps := 4000000) (disch := omega) only [go_sem, w64, AndB_of, IfB_of, IfB_no, pickE_of, pickE_no, ite_of, ite_no, tdivE, tmodE, takeAll]
      exact q_rowsCopy out (by omega) ho
theorem q_RowsLessS (a b : List GRow) (ha : a.length ≤ 1000000) (hb : b.length ≤ 1000000) (hsa : ∀ x ∈ a, smallR x) (hsb : ∀ x ∈ b, smallR x) : QCall Try.prog 57 [rowsA a, rowsA b] (rowsA (lessL b [] [] a)) := by
  refine qcall_bodyL mixed Try.func57 _ (by unfold Try.f57; rfl) Try.ntmps57 Try.results57 (by decide) 1 (by simp) (by simp [pureL, pureA]) ?_
  unfold rowsA
  simp (maxSteps := 4000000) (disch := omega) only [go_sem, w64, AndB_of, IfB_of, IfB_no, pickE_of, pickE_no, ite_of, ite_no, tdivE, tmodE, takeAll]
  refine LoopB.auto (fun zs => ((intOf (slotOf zs 7)).toNat, verOf (blkOf zs (0)), cellsOf (blkOf zs (0)), mlenOf (slotOf zs 5), verOf (blkOf zs (1)), cellsOf (blkOf zs (1)), mlenOf (slotOf zs 6))) (fun zz => [(0, none), (0, none), (3, some (.msl 0 zz.2.1 1 0 zz.2.2.2.1)), (0, some (.msl 1 zz.2.2.2.2.1 1 0 zz.2.2.2.2.2.2)), (0, some (.int .i64 (zz.1 : Int)))]) (fun zz => upd (upd noH 0 (.live zz.2.1 zz.2.2.1)) 1 (.live zz.2.2.2.2.1 zz.2.2.2.2.2.1)) (fun zz => 2 + 20 * zz.1) (fun zz => a.length - zz.1) (fun zz => zz.1 ≤ a.length ∧ LessI b a zz.1 zz.2.2.1 zz.2.2.2.2.2.1 zz.2.2.2.1 zz.2.2.2.2.2.2) (by (first | simp (maxSteps := 4000000) (disch := omega) only [go_sem, w64, AndB_of, IfB_of, IfB_no, pickE_of, pickE_no, ite_of, ite_no, tdivE, tmodE, takeAll, hH] | simp (maxSteps := 4000000) (disch := omega) only [go_sem, w64, AndB_of, IfB_of, IfB_no, pickE_of, pickE_no, ite_of, ite_no, tdivE, tmodE, takeAll]); ((repeat' apply And.intro) <;> first | exact LessI.zero | (exact Weak.go (by (first | (simp [wkL]; done) | (simp [wkL]; omega))) (fun zi => by first | exact .inl rfl | exact .inr rfl | (simp only [upd]; repeat' split) <;> first | exact LessI.zero | exact .inl rfl | exact .inr rfl | (exfalso; omega) | exact .inr (hd _ (by omega)) | (left; subst_vars; exact hH.symm) | (left; subst_vars; rfl) | (left; simp; done) | (left; simp; omega)) (by omega)) | omega | rfl | assumption | exact Flat.nil | exact ⟨_, rfl, rfl, by assumption⟩ | (simp; done) | (simp; omega))) ?_
  intro zz zh
  obtain ⟨k, v, cells, m, w, cellz, g⟩ := zz
  dsimp only at zh
  obtain ⟨hk, hI⟩ := zh
  simp (maxSteps := 4000000) (disch := omega) only [go_sem, w64, AndB_of, IfB_of, IfB_no, pickE_of, pickE_no, ite_of, ite_no, tdivE, tmodE, takeAll]
  obtain ⟨out, gone, rfl, rfl, rfl, rfl, hm, hg, ho, hz, he⟩ := hI.ex
  refine IfB.dec (fun h1 => ?_) (fun h1 => ?_)
  · have h1' : k < a.length := by omega
    have hr := hsa _ (List.getElem_mem h1')
    have e1 := q_RowManyS gone a[k] (by omega) hz
    have e2 := q_RowManyS b a[k] (by omega) hsb
    unfold rowsA at e1 e2
    have hP : Pict (upd (upd noH 0 (.live v (flat cR out))) 1 (.live w (flat cR gone))) [.msl 1 w 1 0 gone.length] [.sl gone.length false (flat cR gone)] := Pict.msl (rest := []) cR_len cR_pure (by rw [List.append_nil, upd_same])
    simp (maxSteps := 4000000) (disch := omega) only [go_sem, w64, AndB_of, IfB_of, IfB_no, pickE_of, pickE_no, ite_of, ite_no, tdivE, tmodE, takeAll]
    refine DrawB.quiet (by kernel_rfl) ?_
    simp (maxSteps := 4000000) (disch := omega) only [go_sem, w64, AndB_of, IfB_of, IfB_no, pickE_of, pickE_no, ite_of, ite_no, tdivE, tmodE, takeAll]
    refine DCallB.pic (Pict.cons (by rw [maskH_noS]; exact hP) (Pict.cons (Pict.pure (by simp)) Pict.nil)) e1 rfl ?_
    simp (maxSteps := 4000000) (disch := omega) only [go_sem, w64, AndB_of, IfB_of, IfB_no, pickE_of, pickE_no, ite_of, ite_no, tdivE, tmodE, takeAll]
    refine DCallB.q0 e2 ?_
    simp (maxSteps := 4000000) (disch := omega) only [go_sem, w64, AndB_of, IfB_of, IfB_no, pickE_of, pickE_no, ite_of, ite_no, tdivE, tmodE, takeAll]
    refine IfB.dec (fun h2 => ?_) (fun h2 => ?_)
    · simp (maxSteps := 4000000) (disch := omega) only [go_sem, w64, AndB_of, IfB_of, IfB_no, pickE_of, pickE_no, ite_of, ite_no, tdivE, tmodE, takeAll]
      ((repeat' apply And.intro) <;> first | exact LessI.gone h1' hm hg ho hz hr he h2 | (exact Weak.go (by (first | (simp [wkL]; done) | (simp [wkL]; omega))) (fun zi => by first | exact .inl rfl | exact .inr rfl | (simp only [upd]; repeat' split) <;> first | exact LessI.gone h1' hm hg ho hz hr he h2 | exact .inl rfl | exact .inr rfl | (exfalso; omega) | exact .inr (hd _ (by omega)) | (left; subst_vars; exact hH.symm) | (left; subst_vars; rfl) | (left; simp; done) | (left; simp; omega)) (by omega)) | omega | rfl | assumption | exact Flat.nil | exact ⟨_, rfl, rfl, by assumption⟩ | (simp; done) | (simp; omega))
    · simp (maxSteps := 4000000) (disch := omega) only [go_sem, w64, AndB_of, IfB_of, IfB_no, pickE_of, pickE_no, ite_of, ite_no, tdivE, tmodE, takeAll]
      apply CallB.q (q_l3Own a[k] hr.1)
      simp (maxSteps := 4000000) (disch := omega) only [go_sem, w64, AndB_of, IfB_of, IfB_no, pickE_of, pickE_no, ite_of, ite_no, tdivE, tmodE, takeAll]
      ((repeat' apply And.intro) <;> first | exact LessI.kept h1' hm hg ho hz hr he h2 | (exact Weak.go (by (first | (simp [wkL]; done) | (simp [wkL]; omega))) (fun zi => by first | exact .inl rfl | exact .inr rfl | (simp only [upd]; repeat' split) <;> first | exact LessI.kept h1' hm hg ho hz hr he h2 | exact .inl rfl | exact .inr rfl | (exfalso; omega) | exact .inr (hd _ (by omega)) | (left; subst_vars; exact hH.symm) | (left; subst_vars; rfl) | (left; simp; done) | (left; simp; omega)) (by omega)) | omega | rfl | assumption | exact Flat.nil | exact ⟨_, rfl, rfl, by assumption⟩ | (simp; done) | (simp; omega))
  · obtain rfl : k = a.length := by omega
    rw [List.drop_length, lessL] at he
    rw [he]
    simp (maxSteps := 4000000) (disch := omega) only [go_sem, w64, AndB_of, IfB_of, IfB_no, pickE_of, pickE_no, ite_of, ite_no, tdivE, tmodE, takeAll]
end Go.TH
