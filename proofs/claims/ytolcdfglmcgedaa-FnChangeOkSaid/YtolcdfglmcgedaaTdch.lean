/- TH: changes: the walks. Made by gen.py. -/
import Derived.Test.YtolcdfglmcgedaaTf3
import Derived.Test.YtolcdfglmcgedaaTdtb
import Derived.Test.YtolcdfglmcgedaaTdn
import Derived.Test.YtolcdfglmcgedaaTdbo
namespace Go.TH
open Go Go.Proofs
set_option linter.unusedSimpArgs false
set_option linter.unusedVariables false
set_option maxHeartbeats 20000000
set_option maxRecDepth 100000
def chOk (ts : List GTb) (c : GCh) : Prop := tabsOk ts ∧ ∃ h : 0 ≤ c.tin ∧ c.tin < ts.length, rowFits (ts[c.tin.toNat]'(by omega)).cols c.row ∧
  ((c.come = true ∧ (ts[c.tin.toNat]'(by omega)).rows.length < 6) ∨ (c.come = false ∧ 0 < cntR c.row (ts[c.tin.toNat]'(by omega)).rows))
noncomputable instance (ts : List GTb) (c : GCh) : Decidable (chOk ts c) := Classical.propDecidable _
theorem chOk_t {ts : List GTb} {c : GCh} (a : tabsOk ts) (h : inR c.tin 0 (ts.length - 1)) (hb : c.tin.toNat < ts.length) (b : rowFits ts[c.tin.toNat].cols c.row) (e : c.come = true) : chOk ts c ↔ (ts[c.tin.toNat].rows.length : Int) < 6 := by
  unfold inR at h
  constructor
  · rintro ⟨_, _, _, g | g⟩
    · have := g.2; omega
    · rw [e] at g; cases g.1
  · intro g
    exact ⟨a, ⟨by omega, by omega⟩, b, .inl ⟨e, by omega⟩⟩
theorem chOk_f {ts : List GTb} {c : GCh} (a : tabsOk ts) (h : inR c.tin 0 (ts.length - 1)) (hb : c.tin.toNat < ts.length) (b : rowFits ts[c.tin.toNat].cols c.row) (e : c.come = false) : chOk ts c ↔ 0 < cntR c.row ts[c.tin.toNat].rows := by
  unfold inR at h
  constructor
  · rintro ⟨_, _, _, g | g⟩
    · rw [e] at g; cases g.1
    · exact g.2
  · intro g
    exact ⟨a, ⟨by omega, by omega⟩, b, .inr ⟨e, g⟩⟩
theorem idx_cnt (r : GRow) (l : List GRow) : 0 ≤ idxF (fun x => decide (x = r)) l ↔ 0 < cntR r l := by
  unfold cntR
  rcases idxF_spec (fun x => decide (x = r)) l with ⟨h1, h2⟩ | ⟨i, hi, h1, h2, _⟩
  · have : (l.filter fun x => decide (x = r)) = [] := by
      rw [List.filter_eq_nil_iff]
      intro x hx
      obtain ⟨j, hj, rfl⟩ := List.mem_iff_getElem.1 hx
      have := h2 j hj
      simpa using this
    rw [this, h1]
    simp
  · have : 0 < (l.filter fun x => decide (x = r)).length := List.length_pos_of_mem (List.mem_filter.2 ⟨List.getElem_mem hi, h2⟩)
    constructor <;> intro <;> omega
theorem q_rowAt (l : List GRow) (r : GRow) (hl : l.length ≤ 1048576) (hs : ∀ x ∈ l, smallR x) : QCall Try.prog 55 [rowsA l, rowA r] (.int .i64 (idxF (fun x => decide (x = r)) l)) := by
  have e : ∀ v ∈ l, QCall Try.prog 113 ([rowA v] ++ [.ro [rowA r]]) (.bool (decide (v = r))) := fun v hv => by
    refine qcall_body mixed Try.func113 _ (by unfold Try.f113; rfl) Try.ntmps113 Try.results113 (by decide) 0 (by simp) (by simp [pureL, pureA]) ?_
    simp (maxSteps := 4000000) (disch := omega) only [go_sem, w64, AndB_of, IfB_of, IfB_no, pickE_of, pickE_no, ite_of, ite_no, tdivE, tmodE, takeAll]
    apply CallB.q (q_Equal v r (hs v hv).1)
    simp (maxSteps := 4000000) (disch := omega) only [go_sem, w64, AndB_of, IfB_of, IfB_no, pickE_of, pickE_no, ite_of, ite_no, tdivE, tmodE, takeAll]
  have e2 := q_IndexFuncR l _ [.ro [rowA r]] (by simp [pureL, pureA]) (fun x => decide (x = r)) hl e
  refine qcall_body mixed Try.func55 _ (by unfold Try.f55; rfl) Try.ntmps55 Try.results55 (by decide) 0 (by simp) (by simp [pureL, pureA]) ?_
  simp (maxSteps := 4000000) (disch := omega) only [go_sem, w64, AndB_of, IfB_of, IfB_no, pickE_of, pickE_no, ite_of, ite_no, tdivE, tmodE, takeAll]
  apply CallB.borrow 2 (r := .int .i64 (idxF (fun x => decide (x = r)) l)) _ rfl
  · simp (maxSteps := 4000000) (disch := omega) only [go_sem, w64, AndB_of, IfB_of, IfB_no, pickE_of, pickE_no, ite_of, ite_no, tdivE, tmodE, takeAll]
  · simp (maxSteps := 4000000) (disch := omega) only [go_sem, w64, AndB_of, IfB_of, IfB_no, pickE_of, pickE_no, ite_of, ite_no, tdivE, tmodE, takeAll]
    exact e2
theorem q_ChangeOkS (ts : List GTb) (c : GCh) (hl : ts.length ≤ 1048576) (hs : ∀ t ∈ ts, TbB t) (hc : ChB c) : QCall Try.prog 16 [tabsA ts, .agg [.int .i64 c.tin, rowA c.row, .bool c.come]] (.bool (decide (chOk ts c))) := by
  have hr2 : ∀ x ∈ c.row, x.s.size ≤ 140737488355328 := fun x hx => by have := hc.2 x hx; unfold VB at this; omega
  have hfc : ∀ i (h : i < ts.length), ts[i].cols.length ≤ 1048576 := fun i h => (hs _ (List.getElem_mem h)).1
  have hfr : ∀ i (h : i < ts.length), ts[i].rows.length ≤ 1048576 := fun i h => (hs _ (List.getElem_mem h)).2.1
  have hfs : ∀ i (h : i < ts.length), ∀ x ∈ ts[i].rows, smallR x := fun i h => smallB (hs _ (List.getElem_mem h)).2.2
  refine qcall_body mixed Try.func16 _ (by unfold Try.f16; rfl) Try.ntmps16 Try.results16 (by decide) 0 (by simp) (by simp [pureL, pureA]) ?_
  unfold tabsA
  simp (maxSteps := 4000000) (disch := omega) only [go_sem, w64, AndB_of, IfB_of, IfB_no, pickE_of, pickE_no, ite_of, ite_no, tdivE, tmodE, takeAll]
  repeat' (first | (refine IfB.dec2 (fun h hd => ?_) (fun h hd => ?_) <;> (try (have h2 := h; unfold inR at h2)) <;> (try simp (maxSteps := 4000000) (disch := omega) only [go_sem, w64, AndB_of, IfB_of, IfB_no, pickE_of, pickE_no, ite_of, ite_no, tdivE, tmodE, takeAll, hd])) | (refine IfB.split (fun h => ?_) (fun h => ?_) <;> (try simp (maxSteps := 4000000) (disch := omega) only [go_sem, w64, AndB_of, IfB_of, IfB_no, pickE_of, pickE_no, ite_of, ite_no, tdivE, tmodE, takeAll, h])) | (refine DrawB.quiet (by kernel_rfl) ?_; simp (maxSteps := 4000000) (disch := omega) only [go_sem, w64, AndB_of, IfB_of, IfB_no, pickE_of, pickE_no, ite_of, ite_no, tdivE, tmodE, takeAll]) | (apply CallB.q (q_TablesOkS ts hl hs); simp (maxSteps := 4000000) (disch := omega) only [go_sem, w64, AndB_of, IfB_of, IfB_no, pickE_of, pickE_no, ite_of, ite_no, tdivE, tmodE, takeAll]) | (apply CallB.q (q_l1In _ _ _); simp (maxSteps := 4000000) (disch := omega) only [go_sem, w64, AndB_of, IfB_of, IfB_no, pickE_of, pickE_no, ite_of, ite_no, tdivE, tmodE, takeAll]) | (apply CallB.q (q_RowFitsS _ c.row (hfc _ _) hc.1 hr2); simp (maxSteps := 4000000) (disch := omega) only [go_sem, w64, AndB_of, IfB_of, IfB_no, pickE_of, pickE_no, ite_of, ite_no, tdivE, tmodE, takeAll]) | (apply CallB.q (q_RowManyS _ c.row (hfr _ _) (hfs _ _)); simp (maxSteps := 4000000) (disch := omega) only [go_sem, w64, AndB_of, IfB_of, IfB_no, pickE_of, pickE_no, ite_of, ite_no, tdivE, tmodE, takeAll]) | (apply DCallB.q0 (q_TablesOkS ts hl hs); simp (maxSteps := 4000000) (disch := omega) only [go_sem, w64, AndB_of, IfB_of, IfB_no, pickE_of, pickE_no, ite_of, ite_no, tdivE, tmodE, takeAll]) | (apply DCallB.q0 (q_l1In _ _ _); simp (maxSteps := 4000000) (disch := omega) only [go_sem, w64, AndB_of, IfB_of, IfB_no, pickE_of, pickE_no, ite_of, ite_no, tdivE, tmodE, takeAll]) | (apply DCallB.q0 (q_RowFitsS _ c.row (hfc _ _) hc.1 hr2); simp (maxSteps := 4000000) (disch := omega) only [go_sem, w64, AndB_of, IfB_of, IfB_no, pickE_of, pickE_no, ite_of, ite_no, tdivE, tmodE, takeAll]) | (apply DCallB.q0 (q_RowManyS _ c.row (hfr _ _) (hfs _ _)); simp (maxSteps := 4000000) (disch := omega) only [go_sem, w64, AndB_of, IfB_of, IfB_no, pickE_of, pickE_no, ite_of, ite_no, tdivE, tmodE, takeAll]))
  all_goals first
    | (rw [AV.bool.injEq, decide_eq_decide, chOk_t (by assumption) (by assumption) (by omega) (by assumption) (by assumption)]; done)
    | (rw [AV.bool.injEq, decide_eq_decide, chOk_f (by assumption) (by assumption) (by omega) (by assumption) (by assumption)]; done)
    | (rw [AV.bool.injEq, decide_eq_decide, chOk_f (by assumption) (by assumption) (by omega) (by assumption) (by assumption)]; exact idx_cnt _ _)
    | (rw [decide_eq_true ((chOk_t (by assumption) (by assumption) (by omega) (by assumption) (by assumption)).2 (by omega))]; done)
    | (rw [decide_eq_false (fun e : chOk ts c => by have := (chOk_t (by assumption) (by assumption) (by omega) (by assumption) (by assumption)).1 e; omega)]; done)
    | (rw [decide_eq_false (fun e : chOk ts c => by obtain ⟨e1, hb, e2, _⟩ := e; first | contradiction | omega)]; done)
theorem q_ChangeOkI (ts : List GTb) (c : GCh) (hl : ts.length ≤ 1048576) (hs : ∀ t ∈ ts, TbB t) (hc : ChB c) : QCall Try.prog 15 [tabsA ts, .agg [.int .i64 c.tin, rowA c.row, .bool c.come]] (.bool (decide (chOk ts c))) := by
  have hr2 : ∀ x ∈ c.row, x.s.size ≤ 140737488355328 := fun x hx => by have := hc.2 x hx; unfold VB at this; omega
  have hfc : ∀ i (h : i < ts.length), ts[i].cols.length ≤ 1048576 := fun i h => (hs _ (List.getElem_mem h)).1
  have hfr : ∀ i (h : i < ts.length), ts[i].rows.length ≤ 1048576 := fun i h => (hs _ (List.getElem_mem h)).2.1
  have hfs : ∀ i (h : i < ts.length), ∀ x ∈ ts[i].rows, smallR x := fun i h => smallB (hs _ (List.getElem_mem h)).2.2
  refine qcall_body mixed Try.func15 _ (by unfold Try.f15; rfl) Try.ntmps15 Try.results15 (by decide) 0 (by simp) (by simp [pureL, pureA]) ?_
  unfold tabsA
  simp (maxSteps := 4000000) (disch := omega) only [go_sem, w64, AndB_of, IfB_of, IfB_no, pickE_of, pickE_no, ite_of, ite_no, tdivE, tmodE, takeAll]
  repeat' (first | (refine IfB.dec2 (fun h hd => ?_) (fun h hd => ?_) <;> (try (have h2 := h; unfold inR at h2)) <;> (try simp (maxSteps := 4000000) (disch := omega) only [go_sem, w64, AndB_of, IfB_of, IfB_no, pickE_of, pickE_no, ite_of, ite_no, tdivE, tmodE, takeAll, hd])) | (refine IfB.split (fun h => ?_) (fun h => ?_) <;> (try simp (maxSteps := 4000000) (disch := omega) only [go_sem, w64, AndB_of, IfB_of, IfB_no, pickE_of, pickE_no, ite_of, ite_no, tdivE, tmodE, takeAll, h])) | (refine DrawB.quiet (by kernel_rfl) ?_; simp (maxSteps := 4000000) (disch := omega) only [go_sem, w64, AndB_of, IfB_of, IfB_no, pickE_of, pickE_no, ite_of, ite_no, tdivE, tmodE, takeAll]) | (apply CallB.q (q_TablesOkI ts hl hs); simp (maxSteps := 4000000) (disch := omega) only [go_sem, w64, AndB_of, IfB_of, IfB_no, pickE_of, pickE_no, ite_of, ite_no, tdivE, tmodE, takeAll]) | (apply CallB.q (q_between _ _ _); simp (maxSteps := 4000000) (disch := omega) only [go_sem, w64, AndB_of, IfB_of, IfB_no, pickE_of, pickE_no, ite_of, ite_no, tdivE, tmodE, takeAll]) | (apply CallB.q (q_RowFitsI _ c.row (hfc _ _) hc.1 hr2); simp (maxSteps := 4000000) (disch := omega) only [go_sem, w64, AndB_of, IfB_of, IfB_no, pickE_of, pickE_no, ite_of, ite_no, tdivE, tmodE, takeAll]) | (apply CallB.q (q_rowAt _ c.row (hfr _ _) (hfs _ _)); simp (maxSteps := 4000000) (disch := omega) only [go_sem, w64, AndB_of, IfB_of, IfB_no, pickE_of, pickE_no, ite_of, ite_no, tdivE, tmodE, takeAll]) | (apply DCallB.q0 (q_TablesOkI ts hl hs); simp (maxSteps := 4000000) (disch := omega) only [go_sem, w64, AndB_of, IfB_of, IfB_no, pickE_of, pickE_no, ite_of, ite_no, tdivE, tmodE, takeAll]) | (apply DCallB.q0 (q_between _ _ _); simp (maxSteps := 4000000) (disch := omega) only [go_sem, w64, AndB_of, IfB_of, IfB_no, pickE_of, pickE_no, ite_of, ite_no, tdivE, tmodE, takeAll]) | (apply DCallB.q0 (q_RowFitsI _ c.row (hfc _ _) hc.1 hr2); simp (maxSteps := 4000000) (disch := omega) only [go_sem, w64, AndB_of, IfB_of, IfB_no, pickE_of, pickE_no, ite_of, ite_no, tdivE, tmodE, takeAll]) | (apply DCallB.q0 (q_rowAt _ c.row (hfr _ _) (hfs _ _)); simp (maxSteps := 4000000) (disch := omega) only [go_sem, w64, AndB_of, IfB_of, IfB_no, pickE_of, pickE_no, ite_of, ite_no, tdivE, tmodE, takeAll]))
  all_goals first
    | (rw [AV.bool.injEq, decide_eq_decide, chOk_t (by assumption) (by assumption) (by omega) (by assumption) (by assumption)]; done)
    | (rw [AV.bool.injEq, decide_eq_decide, chOk_f (by assumption) (by assumption) (by omega) (by assumption) (by assumption)]; done)
    | (rw [AV.bool.injEq, decide_eq_decide, chOk_f (by assumption) (by assumption) (by omega) (by assumption) (by assumption)]; exact idx_cnt _ _)
    | (rw [decide_eq_true ((chOk_t (by assumption) (by assumption) (by omega) (by assumption) (by assumption)).2 (by omega))]; done)
    | (rw [decide_eq_false (fun e : chOk ts c => by have := (chOk_t (by assumption) (by assumption) (by omega) (by assumption) (by assumption)).1 e; omega)]; done)
    | (rw [decide_eq_false (fun e : chOk ts c => by obtain ⟨e1, hb, e2, _⟩ := e; first | contradiction | omega)]; done)
end Go.TH
