/- TH: columns of groups: the walks. Made by gen.py. -/
import Derived.Test.YtipoefabimcbdaaTf3
import Derived.Test.YtipoefabimcbdaaTbrw
import Derived.Test.YtipoefabimcbdaaTbsl
namespace Go.TH
open Go Go.Proofs
set_option linter.unusedSimpArgs false
set_option linter.unusedVariables false
set_option maxHeartbeats 20000000
set_option maxRecDepth 100000
def gOk (cols : List GCol) (ix : List Int) (of tell : Int) : Prop := colsOk cols ∧ (∀ x ∈ ix, inR x 0 (cols.length - 1)) ∧ ix.length < 4 ∧ inR of 0 (cols.length - 1) ∧ inR tell 1 4 ∧ (tell ≠ 2 ∨ (cols.getD of.toNat ⟨0, false⟩).k = 1)
noncomputable instance (cols : List GCol) (ix : List Int) (of tell : Int) : Decidable (gOk cols ix of tell) := Classical.propDecidable _
theorem getD_in {cols : List GCol} {of : Int} (h : inR of 0 (cols.length - 1)) : ∃ h : of.toNat < cols.length, cols.getD of.toNat ⟨0, false⟩ = cols[of.toNat] := by
  unfold inR at h
  have h1 : of.toNat < cols.length := by omega
  exact ⟨h1, by simp [List.getD, h1]⟩
theorem q_l10Ready (cols : List GCol) (ix : List Int) (of tell : Int) (hc : cols.length ≤ 1000) (hi : ix.length ≤ 1000) : QCall Try.prog 108 [colsA cols, rowsA [], intsA ix, .int .i64 of, .int .i64 tell] (.bool (decide (gOk cols ix of tell))) := by
  refine qcall_body mixed Try.func108 _ (by unfold Try.f108; rfl) Try.ntmps108 Try.results108 (by decide) 0 (by simp) (by simp [pureL, pureA]) ?_
  unfold intsA
  simp (maxSteps := 4000000) (disch := omega) only [go_sem, w64, AndB_of, IfB_of, IfB_no, pickE_of, pickE_no, ite_of, ite_no, tdivE, tmodE, takeAll]
  refine LoopB.auto (fun zs => (intOf (slotOf zs 11)).toNat) (fun zz => [(0, none), (0, none), (0, none), (0, none), (0, none), (6, some (.int .i64 (zz : Int)))]) (fun zz => noH) (fun zz => 0) (fun zz => ix.length - zz) (fun zz => zz ≤ ix.length ∧ ∀ x ∈ ix.take zz, inR x 0 (cols.length - 1)) (by (first | simp (maxSteps := 4000000) (disch := omega) only [go_sem, w64, AndB_of, IfB_of, IfB_no, pickE_of, pickE_no, ite_of, ite_no, tdivE, tmodE, takeAll, hH] | simp (maxSteps := 4000000) (disch := omega) only [go_sem, w64, AndB_of, IfB_of, IfB_no, pickE_of, pickE_no, ite_of, ite_no, tdivE, tmodE, takeAll]); ((repeat' apply And.intro) <;> first | (exact Weak.go (by (first | (simp [wkL]; done) | (simp [wkL]; omega))) (fun zi => by first | exact .inl rfl | exact .inr rfl | (simp only [upd]; repeat' split) <;> first | exact .inl rfl | exact .inr rfl | (exfalso; omega) | exact .inr (hd _ (by omega)) | (left; subst_vars; exact hH.symm) | (left; subst_vars; rfl) | (left; simp; done) | (left; simp; omega)) (by omega)) | omega | rfl | assumption | exact Flat.nil | exact ⟨_, rfl, rfl, by assumption⟩ | (simp; done) | (simp; omega))) ?_
  intro k zh
  obtain ⟨hk, hall⟩ := zh
  simp (maxSteps := 4000000) (disch := omega) only [go_sem, w64, AndB_of, IfB_of, IfB_no, pickE_of, pickE_no, ite_of, ite_no, tdivE, tmodE, takeAll]
  refine IfB.dec (fun h1 => ?_) (fun h1 => ?_)
  · have h1' : k < ix.length := by omega
    simp (maxSteps := 4000000) (disch := omega) only [go_sem, w64, AndB_of, IfB_of, IfB_no, pickE_of, pickE_no, ite_of, ite_no, tdivE, tmodE, takeAll]
    apply CallB.q (q_l1In _ _ _)
    simp (maxSteps := 4000000) (disch := omega) only [go_sem, w64, AndB_of, IfB_of, IfB_no, pickE_of, pickE_no, ite_of, ite_no, tdivE, tmodE, takeAll]
    refine IfB.dec (fun h2 => ?_) (fun h2 => ?_)
    · simp (maxSteps := 4000000) (disch := omega) only [go_sem, w64, AndB_of, IfB_of, IfB_no, pickE_of, pickE_no, ite_of, ite_no, tdivE, tmodE, takeAll]
      ((repeat' apply And.intro) <;> first | exact allTake h1' hall h2 | (exact Weak.go (by (first | (simp [wkL]; done) | (simp [wkL]; omega))) (fun zi => by first | exact .inl rfl | exact .inr rfl | (simp only [upd]; repeat' split) <;> first | exact allTake h1' hall h2 | exact .inl rfl | exact .inr rfl | (exfalso; omega) | exact .inr (hd _ (by omega)) | (left; subst_vars; exact hH.symm) | (left; subst_vars; rfl) | (left; simp; done) | (left; simp; omega)) (by omega)) | omega | rfl | assumption | exact Flat.nil | exact ⟨_, rfl, rfl, by assumption⟩ | (simp; done) | (simp; omega))
    · simp (maxSteps := 4000000) (disch := omega) only [go_sem, w64, AndB_of, IfB_of, IfB_no, pickE_of, pickE_no, ite_of, ite_no, tdivE, tmodE, takeAll]
      rw [decide_eq_false (fun e : gOk cols ix of tell => h2 (e.2.1 _ (List.getElem_mem h1')))]
  · have hall2 := allEnd (by omega) hall
    have hrk : rowsOk cols [] ↔ colsOk cols := ⟨fun h => h.1, fun h => ⟨h, by simp⟩⟩
    simp (maxSteps := 4000000) (disch := omega) only [go_sem, w64, AndB_of, IfB_of, IfB_no, pickE_of, pickE_no, ite_of, ite_no, tdivE, tmodE, takeAll]
    apply CallB.q (q_RowsOkS cols [] (by omega) (by simp) (by simp))
    simp (maxSteps := 4000000) (disch := omega) only [go_sem, w64, AndB_of, IfB_of, IfB_no, pickE_of, pickE_no, ite_of, ite_no, tdivE, tmodE, takeAll]
    simp only [hrk]
    repeat' (first | (refine IfB.dec2 (fun h hd => ?_) (fun h hd => ?_) <;> (try (have h2 := h; unfold inR at h2)) <;> (try simp (maxSteps := 4000000) (disch := omega) only [go_sem, w64, AndB_of, IfB_of, IfB_no, pickE_of, pickE_no, ite_of, ite_no, tdivE, tmodE, takeAll, hd])) | (refine IfB.split (fun h => ?_) (fun h => ?_) <;> (try simp (maxSteps := 4000000) (disch := omega) only [go_sem, w64, AndB_of, IfB_of, IfB_no, pickE_of, pickE_no, ite_of, ite_no, tdivE, tmodE, takeAll, h])) | (refine DrawB.quiet (by kernel_rfl) ?_; simp (maxSteps := 4000000) (disch := omega) only [go_sem, w64, AndB_of, IfB_of, IfB_no, pickE_of, pickE_no, ite_of, ite_no, tdivE, tmodE, takeAll]) | (apply CallB.q (q_l1In _ _ _); simp (maxSteps := 4000000) (disch := omega) only [go_sem, w64, AndB_of, IfB_of, IfB_no, pickE_of, pickE_no, ite_of, ite_no, tdivE, tmodE, takeAll]) | (apply DCallB.q0 (q_l1In _ _ _); simp (maxSteps := 4000000) (disch := omega) only [go_sem, w64, AndB_of, IfB_of, IfB_no, pickE_of, pickE_no, ite_of, ite_no, tdivE, tmodE, takeAll]))
    all_goals first
      | (exact absurd (hrk.1 (by assumption)) (by assumption))
      | (rw [decide_eq_true (show gOk cols ix of tell from ⟨by assumption, hall2, by omega, by assumption, by assumption, .inl (by omega)⟩)]; done)
      | (rw [decide_eq_false (fun e : gOk cols ix of tell => by obtain ⟨e1, e2, e3, e4, e5, e6⟩ := e; first | contradiction | omega | (exact absurd (hrk.2 e1) (by assumption)))]; done)
      | (obtain ⟨hb, hg⟩ := getD_in (cols := cols) (of := of) (by assumption)
         unfold colsA
         simp (maxSteps := 4000000) (disch := omega) only [go_sem, w64, AndB_of, IfB_of, IfB_no, pickE_of, pickE_no, ite_of, ite_no, tdivE, tmodE, takeAll]
         rw [AV.bool.injEq, decide_eq_decide]
         exact ⟨fun h => ⟨by assumption, hall2, by omega, by assumption, by assumption, .inr (by rw [hg]; exact h)⟩, fun e => (e.2.2.2.2.2.resolve_left (by omega)).symm.trans (by rw [hg]) |>.symm⟩)
theorem q_groupsOk1 (cols : List GCol) (n : Int) (hc : cols.length ≤ 1000) : QCall Try.prog 138 ([.int .i64 n] ++ [.ro [colsA cols]]) (.bool (!decide (inR n 0 (cols.length - 1)))) := by
  refine qcall_body mixed Try.func138 _ (by unfold Try.f138; rfl) Try.ntmps138 Try.results138 (by decide) 0 (by simp) (by simp [pureL, pureA]) ?_
  simp (maxSteps := 4000000) (disch := omega) only [go_sem, w64, AndB_of, IfB_of, IfB_no, pickE_of, pickE_no, ite_of, ite_no, tdivE, tmodE, takeAll]
  apply CallB.q (q_between _ _ _)
  simp (maxSteps := 4000000) (disch := omega) only [go_sem, w64, AndB_of, IfB_of, IfB_no, pickE_of, pickE_no, ite_of, ite_no, tdivE, tmodE, takeAll]
theorem q_groupsOk (cols : List GCol) (ix : List Int) (of tell : Int) (hc : cols.length ≤ 1000) (hi : ix.length ≤ 1000) : QCall Try.prog 106 [colsA cols, intsA ix, .int .i64 of, .int .i64 tell] (.bool (decide (gOk cols ix of tell))) := by
  have e2 := q_ContainsFuncZ ix _ [.ro [colsA cols]] (by simp [pureL, pureA]) (fun v => !decide (inR v 0 (cols.length - 1))) (by omega) fun v hv => q_groupsOk1 cols v hc
  have hany : (ix.any fun v => !decide (inR v 0 ((cols.length : Int) - 1))) = !decide (∀ x ∈ ix, inR x 0 ((cols.length : Int) - 1)) := by
    rw [Bool.eq_iff_iff]
    simp
  rw [hany] at e2
  refine qcall_body mixed Try.func106 _ (by unfold Try.f106; rfl) Try.ntmps106 Try.results106 (by decide) 0 (by simp) (by simp [pureL, pureA]) ?_
  simp (maxSteps := 4000000) (disch := omega) only [go_sem, w64, AndB_of, IfB_of, IfB_no, pickE_of, pickE_no, ite_of, ite_no, tdivE, tmodE, takeAll]
  apply CallB.q (q_ColumnsOkI cols (by omega))
  simp (maxSteps := 4000000) (disch := omega) only [go_sem, w64, AndB_of, IfB_of, IfB_no, pickE_of, pickE_no, ite_of, ite_no, tdivE, tmodE, takeAll]
  refine IfB.dec (fun g => ?_) (fun g => ?_)
  · simp (maxSteps := 4000000) (disch := omega) only [go_sem, w64, AndB_of, IfB_of, IfB_no, pickE_of, pickE_no, ite_of, ite_no, tdivE, tmodE, takeAll]
    refine IfB.dec (fun g2 => ?_) (fun g2 => ?_)
    · simp (maxSteps := 4000000) (disch := omega) only [go_sem, w64, AndB_of, IfB_of, IfB_no, pickE_of, pickE_no, ite_of, ite_no, tdivE, tmodE, takeAll]
      apply CallB.borrow 2 (r := .bool (!decide (∀ x ∈ ix, inR x 0 ((cols.length : Int) - 1)))) _ rfl
      · simp (maxSteps := 4000000) (disch := omega) only [go_sem, w64, AndB_of, IfB_of, IfB_no, pickE_of, pickE_no, ite_of, ite_no, tdivE, tmodE, takeAll]
        repeat' (first | (refine IfB.dec2 (fun h hd => ?_) (fun h hd => ?_) <;> (try (have h2 := h; unfold inR at h2)) <;> (try simp (maxSteps := 4000000) (disch := omega) only [go_sem, w64, AndB_of, IfB_of, IfB_no, pickE_of, pickE_no, ite_of, ite_no, tdivE, tmodE, takeAll, hd])) | (refine IfB.split (fun h => ?_) (fun h => ?_) <;> (try simp (maxSteps := 4000000) (disch := omega) only [go_sem, w64, AndB_of, IfB_of, IfB_no, pickE_of, pickE_no, ite_of, ite_no, tdivE, tmodE, takeAll, h])) | (refine DrawB.quiet (by kernel_rfl) ?_; simp (maxSteps := 4000000) (disch := omega) only [go_sem, w64, AndB_of, IfB_of, IfB_no, pickE_of, pickE_no, ite_of, ite_no, tdivE, tmodE, takeAll]) | (apply CallB.q (q_between _ _ _); simp (maxSteps := 4000000) (disch := omega) only [go_sem, w64, AndB_of, IfB_of, IfB_no, pickE_of, pickE_no, ite_of, ite_no, tdivE, tmodE, takeAll]) | (apply DCallB.q0 (q_between _ _ _); simp (maxSteps := 4000000) (disch := omega) only [go_sem, w64, AndB_of, IfB_of, IfB_no, pickE_of, pickE_no, ite_of, ite_no, tdivE, tmodE, takeAll]))
        all_goals first
          | (rw [decide_eq_true (show gOk cols ix of tell from ⟨g, by assumption, by omega, by assumption, by assumption, .inl (by omega)⟩)]; done)
          | (rw [decide_eq_false (fun e : gOk cols ix of tell => by obtain ⟨e1, e3, e4, e5, e6, e7⟩ := e; first | contradiction | omega)]; done)
          | (obtain ⟨hb, hg⟩ := getD_in (cols := cols) (of := of) (by assumption)
             unfold colsA
             simp (maxSteps := 4000000) (disch := omega) only [go_sem, w64, AndB_of, IfB_of, IfB_no, pickE_of, pickE_no, ite_of, ite_no, tdivE, tmodE, takeAll]
             rw [AV.bool.injEq, decide_eq_decide]
             exact ⟨fun h => ⟨g, by assumption, by omega, by assumption, by assumption, .inr (by rw [hg]; exact h)⟩, fun e => by have := e.2.2.2.2.2.resolve_left (by omega); rwa [hg] at this⟩)
      · simp (maxSteps := 4000000) (disch := omega) only [go_sem, w64, AndB_of, IfB_of, IfB_no, pickE_of, pickE_no, ite_of, ite_no, tdivE, tmodE, takeAll]
        exact e2
    · simp (maxSteps := 4000000) (disch := omega) only [go_sem, w64, AndB_of, IfB_of, IfB_no, pickE_of, pickE_no, ite_of, ite_no, tdivE, tmodE, takeAll]
      repeat' (first | (refine IfB.dec2 (fun h hd => ?_) (fun h hd => ?_) <;> (try (have h2 := h; unfold inR at h2)) <;> (try simp (maxSteps := 4000000) (disch := omega) only [go_sem, w64, AndB_of, IfB_of, IfB_no, pickE_of, pickE_no, ite_of, ite_no, tdivE, tmodE, takeAll, hd])) | (refine IfB.split (fun h => ?_) (fun h => ?_) <;> (try simp (maxSteps := 4000000) (disch := omega) only [go_sem, w64, AndB_of, IfB_of, IfB_no, pickE_of, pickE_no, ite_of, ite_no, tdivE, tmodE, takeAll, h])) | (refine DrawB.quiet (by kernel_rfl) ?_; simp (maxSteps := 4000000) (disch := omega) only [go_sem, w64, AndB_of, IfB_of, IfB_no, pickE_of, pickE_no, ite_of, ite_no, tdivE, tmodE, takeAll]) | (apply CallB.q (q_between _ _ _); simp (maxSteps := 4000000) (disch := omega) only [go_sem, w64, AndB_of, IfB_of, IfB_no, pickE_of, pickE_no, ite_of, ite_no, tdivE, tmodE, takeAll]) | (apply DCallB.q0 (q_between _ _ _); simp (maxSteps := 4000000) (disch := omega) only [go_sem, w64, AndB_of, IfB_of, IfB_no, pickE_of, pickE_no, ite_of, ite_no, tdivE, tmodE, takeAll]))
      all_goals (rw [decide_eq_false (fun e : gOk cols ix of tell => by obtain ⟨e1, e3, e4, e5, e6, e7⟩ := e; first | contradiction | omega)]; done)
  · simp (maxSteps := 4000000) (disch := omega) only [go_sem, w64, AndB_of, IfB_of, IfB_no, pickE_of, pickE_no, ite_of, ite_no, tdivE, tmodE, takeAll]
    repeat' (first | (refine IfB.dec2 (fun h hd => ?_) (fun h hd => ?_) <;> (try (have h2 := h; unfold inR at h2)) <;> (try simp (maxSteps := 4000000) (disch := omega) only [go_sem, w64, AndB_of, IfB_of, IfB_no, pickE_of, pickE_no, ite_of, ite_no, tdivE, tmodE, takeAll, hd])) | (refine IfB.split (fun h => ?_) (fun h => ?_) <;> (try simp (maxSteps := 4000000) (disch := omega) only [go_sem, w64, AndB_of, IfB_of, IfB_no, pickE_of, pickE_no, ite_of, ite_no, tdivE, tmodE, takeAll, h])) | (refine DrawB.quiet (by kernel_rfl) ?_; simp (maxSteps := 4000000) (disch := omega) only [go_sem, w64, AndB_of, IfB_of, IfB_no, pickE_of, pickE_no, ite_of, ite_no, tdivE, tmodE, takeAll]) | (apply CallB.q (q_between _ _ _); simp (maxSteps := 4000000) (disch := omega) only [go_sem, w64, AndB_of, IfB_of, IfB_no, pickE_of, pickE_no, ite_of, ite_no, tdivE, tmodE, takeAll]) | (apply DCallB.q0 (q_between _ _ _); simp (maxSteps := 4000000) (disch := omega) only [go_sem, w64, AndB_of, IfB_of, IfB_no, pickE_of, pickE_no, ite_of, ite_no, tdivE, tmodE, takeAll]))
    all_goals (rw [decide_eq_false (fun e : gOk cols ix of tell => by obtain ⟨e1, e3, e4, e5, e6, e7⟩ := e; first | contradiction | omega)]; done)
def gPick (cols : List GCol) (ix : List Int) : List GCol := ix.map fun x => cols.getD x.toNat ⟨0, false⟩
def gCols (cols : List GCol) (ix : List Int) (of tell : Int) : List GCol := gPick cols ix ++ [if tell = 1 then ⟨1, false⟩ else ⟨(cols.getD of.toNat ⟨0, false⟩).k, true⟩]
theorem gPick_succ {cols : List GCol} {ix : List Int} {k : Nat} (hk : k < ix.length) (h : ∀ x ∈ ix, inR x 0 ((cols.length : Int) - 1)) : ∃ hb : (ix[k]).toNat < cols.length, flat GCol.c (gPick cols (ix.take (k + 1))) = flat GCol.c (gPick cols (ix.take k)) ++ [.int .i64 (cols[(ix[k]).toNat]'hb).k, .bool (cols[(ix[k]).toNat]'hb).e] := by
  obtain ⟨hb, hg⟩ := getD_in (h _ (List.getElem_mem hk))
  refine ⟨hb, ?_⟩
  unfold gPick
  rw [List.take_succ_eq_append_getElem hk, List.map_append, flat_append, List.map_cons, hg]
  rfl
theorem gPick_len {cols : List GCol} {ix : List Int} : (gPick cols ix).length = ix.length := List.length_map ..
theorem q_GroupColumnsS (cols : List GCol) (ix : List Int) (of tell : Int) (hc : cols.length ≤ 1000) (hi : ix.length ≤ 1000) : QCall Try.prog 57 [colsA cols, intsA ix, .int .i64 of, .int .i64 tell] (colsA (if gOk cols ix of tell then gCols cols ix of tell else [])) := by
  refine qcall_bodyL mixed Try.func57 _ (by unfold Try.f57; rfl) Try.ntmps57 Try.results57 (by decide) 1 (by simp) (by simp [pureL, pureA]) ?_
  simp (maxSteps := 4000000) (disch := omega) only [go_sem, w64, AndB_of, IfB_of, IfB_no, pickE_of, pickE_no, ite_of, ite_no, tdivE, tmodE, takeAll]
  apply CallB.borrow 1 (r := .bool (decide (gOk cols ix of tell))) _ rfl
  rotate_left
  · simp (maxSteps := 4000000) (disch := omega) only [go_sem, w64, AndB_of, IfB_of, IfB_no, pickE_of, pickE_no, ite_of, ite_no, tdivE, tmodE, takeAll]
    exact q_l10Ready cols ix of tell hc hi
  simp (maxSteps := 4000000) (disch := omega) only [go_sem, w64, AndB_of, IfB_of, IfB_no, pickE_of, pickE_no, ite_of, ite_no, tdivE, tmodE, takeAll]
  refine IfB.dec (fun g => ?_) (fun g => ?_)
  · have g2 := g.2.1
    have g3 := g.2.2.1
    simp (maxSteps := 4000000) (disch := omega) only [go_sem, w64, AndB_of, IfB_of, IfB_no, pickE_of, pickE_no, ite_of, ite_no, tdivE, tmodE, takeAll]
    unfold colsA intsA
    refine LoopB.auto (fun zs => (nxOf zs, (intOf (slotOf zs 10)).toNat, verOf (blkOf zs (0)), cellsOf (blkOf zs (0)))) (fun zz => [(0, none), (0, none), (0, none), (0, none), (5, some (.msl 0 zz.2.2.1 2 0 zz.2.1)), (0, some (.int .i64 (zz.2.1 : Int)))]) (fun zz => upd noH 0 (.live zz.2.2.1 zz.2.2.2)) (fun zz => zz.1) (fun zz => ix.length - zz.2.1) (fun zz => zz.2.1 ≤ ix.length ∧ 0 < zz.1 ∧ zz.2.2.2 = flat GCol.c (gPick cols (ix.take zz.2.1))) (by (first | simp (maxSteps := 4000000) (disch := omega) only [go_sem, w64, AndB_of, IfB_of, IfB_no, pickE_of, pickE_no, ite_of, ite_no, tdivE, tmodE, takeAll, hH] | simp (maxSteps := 4000000) (disch := omega) only [go_sem, w64, AndB_of, IfB_of, IfB_no, pickE_of, pickE_no, ite_of, ite_no, tdivE, tmodE, takeAll]); ((repeat' apply And.intro) <;> first | (exact Weak.go (by (first | (simp [wkL]; done) | (simp [wkL]; omega))) (fun zi => by first | exact .inl rfl | exact .inr rfl | (simp only [upd]; repeat' split) <;> first | exact .inl rfl | exact .inr rfl | (exfalso; omega) | exact .inr (hd _ (by omega)) | (left; subst_vars; exact hH.symm) | (left; subst_vars; rfl) | (left; simp; done) | (left; simp; omega)) (by omega)) | omega | rfl | assumption | exact Flat.nil | exact ⟨_, rfl, rfl, by assumption⟩ | (simp; done) | (simp; omega))) ?_
    intro zz zh
    obtain ⟨x, k, v, cells⟩ := zz
    dsimp only at zh
    obtain ⟨hk, hx, rfl⟩ := zh
    simp (maxSteps := 4000000) (disch := omega) only [go_sem, w64, AndB_of, IfB_of, IfB_no, pickE_of, pickE_no, ite_of, ite_no, tdivE, tmodE, takeAll]
    have hl : (flat GCol.c (gPick cols (ix.take k))).length = k * 2 := by rw [flat_len GCol.len, gPick_len, List.length_take]; omega
    refine IfB.dec (fun h1 => ?_) (fun h1 => ?_)
    · have h1' : k < ix.length := by omega
      obtain ⟨hb, hg⟩ := gPick_succ h1' g2
      have hin := g2 _ (List.getElem_mem h1')
      unfold inR at hin
      simp (maxSteps := 4000000) (disch := omega) only [go_sem, w64, AndB_of, IfB_of, IfB_no, pickE_of, pickE_no, ite_of, ite_no, tdivE, tmodE, takeAll, hl]
      ((repeat' apply And.intro) <;> first | exact hg.symm | (exact Weak.go (by (first | (simp [wkL]; done) | (simp [wkL]; omega))) (fun zi => by first | exact .inl rfl | exact .inr rfl | (simp only [upd]; repeat' split) <;> first | exact hg.symm | exact .inl rfl | exact .inr rfl | (exfalso; omega) | exact .inr (hd _ (by omega)) | (left; subst_vars; exact hH.symm) | (left; subst_vars; rfl) | (left; simp; done) | (left; simp; omega)) (by omega)) | omega | rfl | assumption | exact Flat.nil | exact ⟨_, rfl, rfl, by assumption⟩ | (simp; done) | (simp; omega))
    · obtain rfl : k = ix.length := by omega
      rw [List.take_length] at *
      simp (maxSteps := 4000000) (disch := omega) only [go_sem, w64, AndB_of, IfB_of, IfB_no, pickE_of, pickE_no, ite_of, ite_no, tdivE, tmodE, takeAll]
      refine IfB.dec (fun t1 => ?_) (fun t1 => ?_)
      · simp (maxSteps := 4000000) (disch := omega) only [go_sem, w64, AndB_of, IfB_of, IfB_no, pickE_of, pickE_no, ite_of, ite_no, tdivE, tmodE, takeAll, hl]
        have e : flat GCol.c (gPick cols ix) ++ [.int .i64 1, .bool false] = flat GCol.c (gPick cols ix ++ [⟨1, false⟩]) := by rw [flat_append]; rfl
        have e2 : (flat GCol.c (gPick cols ix ++ [⟨1, false⟩])).length = (ix.length + 1) * 2 := by rw [flat_len GCol.len, List.length_append, gPick_len]; rfl
        rw [e, takeAll (by omega), map_snap 0 _ (flat_pure GCol.pure _), GCol.looseL]
        unfold gCols
        rw [if_pos t1, List.length_append, gPick_len]
        rfl
      · obtain ⟨hb, hg⟩ := getD_in g.2.2.2.1
        have hof := g.2.2.2.1
        unfold inR at hof
        simp (maxSteps := 4000000) (disch := omega) only [go_sem, w64, AndB_of, IfB_of, IfB_no, pickE_of, pickE_no, ite_of, ite_no, tdivE, tmodE, takeAll, hl]
        have e : flat GCol.c (gPick cols ix) ++ [.int .i64 cols[of.toNat].k, .bool true] = flat GCol.c (gPick cols ix ++ [⟨cols[of.toNat].k, true⟩]) := by rw [flat_append]; rfl
        have e2 : (flat GCol.c (gPick cols ix ++ [⟨cols[of.toNat].k, true⟩])).length = (ix.length + 1) * 2 := by rw [flat_len GCol.len, List.length_append, gPick_len]; rfl
        rw [e, takeAll (by omega), map_snap 0 _ (flat_pure GCol.pure _), GCol.looseL]
        unfold gCols
        rw [if_neg t1, List.length_append, gPick_len, hg]
        rfl
  · simp (maxSteps := 4000000) (disch := omega) only [go_sem, w64, AndB_of, IfB_of, IfB_no, pickE_of, pickE_no, ite_of, ite_no, tdivE, tmodE, takeAll]
    rfl
theorem q_GroupColumnsI (cols : List GCol) (ix : List Int) (of tell : Int) (hc : cols.length ≤ 1000) (hi : ix.length ≤ 1000) : QCall Try.prog 56 [colsA cols, intsA ix, .int .i64 of, .int .i64 tell] (colsA (if gOk cols ix of tell then gCols cols ix of tell else [])) := by
  refine qcall_bodyL mixed Try.func56 _ (by unfold Try.f56; rfl) Try.ntmps56 Try.results56 (by decide) 1 (by simp) (by simp [pureL, pureA]) ?_
  simp (maxSteps := 4000000) (disch := omega) only [go_sem, w64, AndB_of, IfB_of, IfB_no, pickE_of, pickE_no, ite_of, ite_no, tdivE, tmodE, takeAll]
  apply CallB.q (q_groupsOk cols ix of tell hc hi)
  simp (maxSteps := 4000000) (disch := omega) only [go_sem, w64, AndB_of, IfB_of, IfB_no, pickE_of, pickE_no, ite_of, ite_no, tdivE, tmodE, takeAll]
  refine IfB.dec (fun g => ?_) (fun g => ?_)
  · have g2 := g.2.1
    have g3 := g.2.2.1
    simp (maxSteps := 4000000) (disch := omega) only [go_sem, w64, AndB_of, IfB_of, IfB_no, pickE_of, pickE_no, ite_of, ite_no, tdivE, tmodE, takeAll]
    unfold colsA intsA
    refine LoopB.weak (Weak.nil 9 2 rfl) ?_
    simp only [List.set_cons_succ, List.set_cons_zero]
    refine LoopB.auto (fun zs => (nxOf zs, (intOf (slotOf zs 20)).toNat, verOf (blkOf zs (0)), cellsOf (blkOf zs (0)))) (fun zz => [(0, none), (1, none), (0, none), (5, some (.msl 0 zz.2.2.1 2 0 zz.2.1)), (8, none), (0, none), (0, some (.int .i64 (zz.2.1 : Int)))]) (fun zz => upd noH 0 (.live zz.2.2.1 zz.2.2.2)) (fun zz => zz.1) (fun zz => ix.length - zz.2.1) (fun zz => zz.2.1 ≤ ix.length ∧ 0 < zz.1 ∧ zz.2.2.2 = flat GCol.c (gPick cols (ix.take zz.2.1))) (by (first | simp (maxSteps := 4000000) (disch := omega) only [go_sem, w64, AndB_of, IfB_of, IfB_no, pickE_of, pickE_no, ite_of, ite_no, tdivE, tmodE, takeAll, hH] | simp (maxSteps := 4000000) (disch := omega) only [go_sem, w64, AndB_of, IfB_of, IfB_no, pickE_of, pickE_no, ite_of, ite_no, tdivE, tmodE, takeAll]); ((repeat' apply And.intro) <;> first | (exact Weak.go (by (first | (simp [wkL]; done) | (simp [wkL]; omega))) (fun zi => by first | exact .inl rfl | exact .inr rfl | (simp only [upd]; repeat' split) <;> first | exact .inl rfl | exact .inr rfl | (exfalso; omega) | exact .inr (hd _ (by omega)) | (left; subst_vars; exact hH.symm) | (left; subst_vars; rfl) | (left; simp; done) | (left; simp; omega)) (by omega)) | omega | rfl | assumption | exact Flat.nil | exact ⟨_, rfl, rfl, by assumption⟩ | (simp; done) | (simp; omega))) ?_
    intro zz zh
    obtain ⟨x, k, v, cells⟩ := zz
    dsimp only at zh
    obtain ⟨hk, hx, rfl⟩ := zh
    simp (maxSteps := 4000000) (disch := omega) only [go_sem, w64, AndB_of, IfB_of, IfB_no, pickE_of, pickE_no, ite_of, ite_no, tdivE, tmodE, takeAll]
    have hl : (flat GCol.c (gPick cols (ix.take k))).length = k * 2 := by rw [flat_len GCol.len, gPick_len, List.length_take]; omega
    refine IfB.dec (fun h1 => ?_) (fun h1 => ?_)
    · have h1' : k < ix.length := by omega
      obtain ⟨hb, hg⟩ := gPick_succ h1' g2
      have hin := g2 _ (List.getElem_mem h1')
      unfold inR at hin
      simp (maxSteps := 4000000) (disch := omega) only [go_sem, w64, AndB_of, IfB_of, IfB_no, pickE_of, pickE_no, ite_of, ite_no, tdivE, tmodE, takeAll, hl]
      ((repeat' apply And.intro) <;> first | exact hg.symm | (exact Weak.go (by (first | (simp [wkL]; done) | (simp [wkL]; omega))) (fun zi => by first | exact .inl rfl | exact .inr rfl | (simp only [upd]; repeat' split) <;> first | exact hg.symm | exact .inl rfl | exact .inr rfl | (exfalso; omega) | exact .inr (hd _ (by omega)) | (left; subst_vars; exact hH.symm) | (left; subst_vars; rfl) | (left; simp; done) | (left; simp; omega)) (by omega)) | omega | rfl | assumption | exact Flat.nil | exact ⟨_, rfl, rfl, by assumption⟩ | (simp; done) | (simp; omega))
    · obtain rfl : k = ix.length := by omega
      rw [List.take_length] at *
      simp (maxSteps := 4000000) (disch := omega) only [go_sem, w64, AndB_of, IfB_of, IfB_no, pickE_of, pickE_no, ite_of, ite_no, tdivE, tmodE, takeAll]
      refine IfB.dec (fun t1 => ?_) (fun t1 => ?_)
      · simp (maxSteps := 4000000) (disch := omega) only [go_sem, w64, AndB_of, IfB_of, IfB_no, pickE_of, pickE_no, ite_of, ite_no, tdivE, tmodE, takeAll, hl]
        have e : flat GCol.c (gPick cols ix) ++ [.int .i64 1, .bool false] = flat GCol.c (gPick cols ix ++ [⟨1, false⟩]) := by rw [flat_append]; rfl
        have e2 : (flat GCol.c (gPick cols ix ++ [⟨1, false⟩])).length = (ix.length + 1) * 2 := by rw [flat_len GCol.len, List.length_append, gPick_len]; rfl
        have e3 : gCols cols ix of tell = gPick cols ix ++ [⟨1, false⟩] := by unfold gCols; rw [if_pos t1]
        have hq := q_cloneC (gPick cols ix ++ [(⟨1, false⟩ : GCol)]) (by rw [List.length_append, gPick_len]; simp; omega)
        have e4 : (gPick cols ix ++ [(⟨1, false⟩ : GCol)]).length = ix.length + 1 := by rw [List.length_append, gPick_len]; rfl
        unfold colsA at hq
        rw [e4] at hq
        rw [e]
        apply CallB.lend 1 (r := .sl (ix.length + 1) false (flat GCol.c (gPick cols ix ++ [⟨1, false⟩]))) _ (by rw [← e4]; exact colsA_pure _)
        · simp (maxSteps := 4000000) (disch := omega) only [go_sem, w64, AndB_of, IfB_of, IfB_no, pickE_of, pickE_no, ite_of, ite_no, tdivE, tmodE, takeAll]
          rw [e3, e4]
        · simp (maxSteps := 4000000) (disch := omega) only [go_sem, w64, AndB_of, IfB_of, IfB_no, pickE_of, pickE_no, ite_of, ite_no, tdivE, tmodE, takeAll]
          exact hq
      · obtain ⟨hb, hg⟩ := getD_in g.2.2.2.1
        have hof := g.2.2.2.1
        unfold inR at hof
        simp (maxSteps := 4000000) (disch := omega) only [go_sem, w64, AndB_of, IfB_of, IfB_no, pickE_of, pickE_no, ite_of, ite_no, tdivE, tmodE, takeAll, hl]
        have e : flat GCol.c (gPick cols ix) ++ [.int .i64 cols[of.toNat].k, .bool true] = flat GCol.c (gPick cols ix ++ [⟨cols[of.toNat].k, true⟩]) := by rw [flat_append]; rfl
        have e2 : (flat GCol.c (gPick cols ix ++ [⟨cols[of.toNat].k, true⟩])).length = (ix.length + 1) * 2 := by rw [flat_len GCol.len, List.length_append, gPick_len]; rfl
        have e3 : gCols cols ix of tell = gPick cols ix ++ [⟨cols[of.toNat].k, true⟩] := by unfold gCols; rw [if_neg t1, hg]
        have hq := q_cloneC (gPick cols ix ++ [(⟨cols[of.toNat].k, true⟩ : GCol)]) (by rw [List.length_append, gPick_len]; simp; omega)
        have e4 : (gPick cols ix ++ [(⟨cols[of.toNat].k, true⟩ : GCol)]).length = ix.length + 1 := by rw [List.length_append, gPick_len]; rfl
        unfold colsA at hq
        rw [e4] at hq
        rw [e]
        apply CallB.lend 1 (r := .sl (ix.length + 1) false (flat GCol.c (gPick cols ix ++ [⟨cols[of.toNat].k, true⟩]))) _ (by rw [← e4]; exact colsA_pure _)
        · simp (maxSteps := 4000000) (disch := omega) only [go_sem, w64, AndB_of, IfB_of, IfB_no, pickE_of, pickE_no, ite_of, ite_no, tdivE, tmodE, takeAll]
          rw [e3, e4]
        · simp (maxSteps := 4000000) (disch := omega) only [go_sem, w64, AndB_of, IfB_of, IfB_no, pickE_of, pickE_no, ite_of, ite_no, tdivE, tmodE, takeAll]
          exact hq
  · simp (maxSteps := 4000000) (disch := omega) only [go_sem, w64, AndB_of, IfB_of, IfB_no, pickE_of, pickE_no, ite_of, ite_no, tdivE, tmodE, takeAll]
    rfl
end Go.TH
