/- TH: columns, rows that fit: the walks. Made by gen.py. -/
import Derived.Test.YtfnflalnjigfkaaTew
import Derived.Test.YtfnflalnjigfkaaTf3
namespace Go.TH
open Go Go.Proofs
set_option linter.unusedSimpArgs false
set_option linter.unusedVariables false
set_option maxHeartbeats 20000000
set_option maxRecDepth 100000
theorem q_ColumnsOkS (l : List GCol) (hl : l.length ≤ 1048576) : QCall Try.prog 100 [colsA l] (.bool (decide (colsOk l))) := by
  refine qcall_body mixed Try.func100 _ (by unfold Try.f100; rfl) Try.ntmps100 Try.results100 (by decide) 0 (by simp) (by simp [pureL, pureA]) ?_
  unfold colsA
  simp (maxSteps := 4000000) (disch := omega) only [go_sem, w64, AndB_of, IfB_of, IfB_no, pickE_of, pickE_no, ite_of, ite_no, tdivE, tmodE, takeAll]
  refine LoopB.auto (fun zs => (intOf (slotOf zs 3)).toNat) (fun zz => [(0, none), (2, some (.int .i64 (zz : Int)))]) (fun zz => noH) (fun zz => 0) (fun zz => l.length - zz) (fun zz => zz ≤ l.length ∧ ∀ c ∈ l.take zz, inR c.k 1 3) (by (first | simp (maxSteps := 4000000) (disch := omega) only [go_sem, w64, AndB_of, IfB_of, IfB_no, pickE_of, pickE_no, ite_of, ite_no, tdivE, tmodE, takeAll, hH] | simp (maxSteps := 4000000) (disch := omega) only [go_sem, w64, AndB_of, IfB_of, IfB_no, pickE_of, pickE_no, ite_of, ite_no, tdivE, tmodE, takeAll]); ((repeat' apply And.intro) <;> first | (exact Weak.go (by (first | (simp [wkL]; done) | (simp [wkL]; omega))) (fun zi => by first | exact .inl rfl | exact .inr rfl | (simp only [upd]; repeat' split) <;> first | exact .inl rfl | exact .inr rfl | (exfalso; omega) | exact .inr (hd _ (by omega)) | (left; subst_vars; exact hH.symm) | (left; subst_vars; rfl) | (left; simp; done) | (left; simp; omega)) (by omega)) | omega | rfl | assumption | exact Flat.nil | exact ⟨_, rfl, rfl, by assumption⟩ | (simp; done) | (simp; omega))) ?_
  intro k zh
  obtain ⟨hk, hall⟩ := zh
  simp (maxSteps := 4000000) (disch := omega) only [go_sem, w64, AndB_of, IfB_of, IfB_no, pickE_of, pickE_no, ite_of, ite_no, tdivE, tmodE, takeAll]
  refine IfB.dec (fun h1 => ?_) (fun h1 => ?_)
  · have h1' : k < l.length := by omega
    simp (maxSteps := 4000000) (disch := omega) only [go_sem, w64, AndB_of, IfB_of, IfB_no, pickE_of, pickE_no, ite_of, ite_no, tdivE, tmodE, takeAll]
    apply CallB.q (q_l1In _ _ _)
    simp (maxSteps := 4000000) (disch := omega) only [go_sem, w64, AndB_of, IfB_of, IfB_no, pickE_of, pickE_no, ite_of, ite_no, tdivE, tmodE, takeAll]
    refine IfB.dec (fun h2 => ?_) (fun h2 => ?_)
    · simp (maxSteps := 4000000) (disch := omega) only [go_sem, w64, AndB_of, IfB_of, IfB_no, pickE_of, pickE_no, ite_of, ite_no, tdivE, tmodE, takeAll]
      ((repeat' apply And.intro) <;> first | exact allTake h1' hall h2 | (exact Weak.go (by (first | (simp [wkL]; done) | (simp [wkL]; omega))) (fun zi => by first | exact .inl rfl | exact .inr rfl | (simp only [upd]; repeat' split) <;> first | exact allTake h1' hall h2 | exact .inl rfl | exact .inr rfl | (exfalso; omega) | exact .inr (hd _ (by omega)) | (left; subst_vars; exact hH.symm) | (left; subst_vars; rfl) | (left; simp; done) | (left; simp; omega)) (by omega)) | omega | rfl | assumption | exact Flat.nil | exact ⟨_, rfl, rfl, by assumption⟩ | (simp; done) | (simp; omega))
    · simp (maxSteps := 4000000) (disch := omega) only [go_sem, w64, AndB_of, IfB_of, IfB_no, pickE_of, pickE_no, ite_of, ite_no, tdivE, tmodE, takeAll]
      have : ¬ colsOk l := fun e => h2 (e.2 _ (List.getElem_mem h1'))
      simp [this]
  · simp (maxSteps := 4000000) (disch := omega) only [go_sem, w64, AndB_of, IfB_of, IfB_no, pickE_of, pickE_no, ite_of, ite_no, tdivE, tmodE, takeAll]
    have := allEnd (by omega) hall
    rw [AV.bool.injEq, Bool.eq_iff_iff]; (try simp only [decide_eq_true_iff])
    unfold colsOk
    exact ⟨fun h => ⟨by omega, this⟩, fun h => by have := h.1; omega⟩
theorem q_IndexFuncC (l : List GCol) (f : FuncId) (cap : List AV) (hcap : pureL cap = true) (p : GCol → Bool) (hl : l.length ≤ 1048576) (hf : ∀ v ∈ l, QCall Try.prog f ([.agg [.int .i64 v.k, .bool v.e]] ++ cap) (.bool (p v))) :
    QCall Try.prog 168 [colsA l, .fn f cap] (.int .i64 (idxF p l)) := by
  refine qcall_body mixed Try.func168 _ (by unfold Try.f168; rfl) Try.ntmps168 Try.results168 (by decide) 0 (by simp) (by simp [pureL, pureA, hcap]) ?_
  unfold colsA
  simp (maxSteps := 4000000) (disch := omega) only [go_sem, w64, AndB_of, IfB_of, IfB_no, pickE_of, pickE_no, ite_of, ite_no, tdivE, tmodE, takeAll]
  refine LoopB.auto (fun zs => (intOf (slotOf zs 8)).toNat) (fun zz => [(0, none), (0, none), (5, none), (0, some (.int .i64 (zz : Int)))]) (fun zz => noH) (fun zz => 5 * zz) (fun zz => l.length - zz) (fun zz => zz ≤ l.length ∧ ∀ j (h : j < l.length), j < zz → p l[j] = false) (by (first | simp (maxSteps := 4000000) (disch := omega) only [go_sem, w64, AndB_of, IfB_of, IfB_no, pickE_of, pickE_no, ite_of, ite_no, tdivE, tmodE, takeAll, hH] | simp (maxSteps := 4000000) (disch := omega) only [go_sem, w64, AndB_of, IfB_of, IfB_no, pickE_of, pickE_no, ite_of, ite_no, tdivE, tmodE, takeAll]); ((repeat' apply And.intro) <;> first | (exact Weak.go (by (first | (simp [wkL]; done) | (simp [wkL]; omega))) (fun zi => by first | exact .inl rfl | exact .inr rfl | (simp only [upd]; repeat' split) <;> first | exact .inl rfl | exact .inr rfl | (exfalso; omega) | exact .inr (hd _ (by omega)) | (left; subst_vars; exact hH.symm) | (left; subst_vars; rfl) | (left; simp; done) | (left; simp; omega)) (by omega)) | omega | rfl | assumption | exact Flat.nil | exact ⟨_, rfl, rfl, by assumption⟩ | (simp; done) | (simp; omega))) ?_
  intro k zh
  obtain ⟨hk, hall⟩ := zh
  simp (maxSteps := 4000000) (disch := omega) only [go_sem, w64, AndB_of, IfB_of, IfB_no, pickE_of, pickE_no, ite_of, ite_no, tdivE, tmodE, takeAll]
  refine IfB.dec (fun h1 => ?_) (fun h1 => ?_)
  · have h1' : k < l.length := by omega
    simp (maxSteps := 4000000) (disch := omega) only [go_sem, w64, AndB_of, IfB_of, IfB_no, pickE_of, pickE_no, ite_of, ite_no, tdivE, tmodE, takeAll]
    apply CallB.q (hf l[k] (List.getElem_mem _))
    simp (maxSteps := 4000000) (disch := omega) only [go_sem, w64, AndB_of, IfB_of, IfB_no, pickE_of, pickE_no, ite_of, ite_no, tdivE, tmodE, takeAll]
    refine IfB.split (fun h => ?_) (fun h => ?_)
    · simp (maxSteps := 4000000) (disch := omega) only [go_sem, w64, AndB_of, IfB_of, IfB_no, pickE_of, pickE_no, ite_of, ite_no, tdivE, tmodE, takeAll, idxF_at h1' h hall]
    · simp (maxSteps := 4000000) (disch := omega) only [go_sem, w64, AndB_of, IfB_of, IfB_no, pickE_of, pickE_no, ite_of, ite_no, tdivE, tmodE, takeAll]
      ((repeat' apply And.intro) <;> first | exact fun j hj hji => by by_cases e : j = k; exact (by subst e; exact h); exact hall j hj (by omega) | (exact Weak.go (by (first | (simp [wkL]; done) | (simp [wkL]; omega))) (fun zi => by first | exact .inl rfl | exact .inr rfl | (simp only [upd]; repeat' split) <;> first | exact fun j hj hji => by by_cases e : j = k; exact (by subst e; exact h); exact hall j hj (by omega) | exact .inl rfl | exact .inr rfl | (exfalso; omega) | exact .inr (hd _ (by omega)) | (left; subst_vars; exact hH.symm) | (left; subst_vars; rfl) | (left; simp; done) | (left; simp; omega)) (by omega)) | omega | rfl | assumption | exact Flat.nil | exact ⟨_, rfl, rfl, by assumption⟩ | (simp; done) | (simp; omega))
  · simp (maxSteps := 4000000) (disch := omega) only [go_sem, w64, AndB_of, IfB_of, IfB_no, pickE_of, pickE_no, ite_of, ite_no, tdivE, tmodE, takeAll, idxF_none (fun j hj => hall j hj (by omega))]
theorem q_ContainsFuncC (l : List GCol) (f : FuncId) (cap : List AV) (hcap : pureL cap = true) (p : GCol → Bool) (hl : l.length ≤ 1048576) (hf : ∀ v ∈ l, QCall Try.prog f ([.agg [.int .i64 v.k, .bool v.e]] ++ cap) (.bool (p v))) :
    QCall Try.prog 152 [colsA l, .fn f cap] (.bool (l.any p)) := by
  refine qcall_body mixed Try.func152 _ (by unfold Try.f152; rfl) Try.ntmps152 Try.results152 (by decide) 0 (by simp) (by simp [pureL, pureA, hcap]) ?_
  simp (maxSteps := 4000000) (disch := omega) only [go_sem, w64, AndB_of, IfB_of, IfB_no, pickE_of, pickE_no, ite_of, ite_no, tdivE, tmodE, takeAll]
  apply CallB.q (q_IndexFuncC l f cap hcap p hl hf)
  simp (maxSteps := 4000000) (disch := omega) only [go_sem, w64, AndB_of, IfB_of, IfB_no, pickE_of, pickE_no, ite_of, ite_no, tdivE, tmodE, takeAll]
  have := @idxF_ge _ p l
  rw [AV.bool.injEq, Bool.eq_iff_iff]; (try simp only [decide_eq_true_iff])
  simp [this]
theorem q_ColumnsOk1 (v : GCol) : QCall Try.prog 153 [.agg [.int .i64 v.k, .bool v.e]] (.bool (!decide (inR v.k 1 3))) := by
  refine qcall_body mixed Try.func153 _ (by unfold Try.f153; rfl) Try.ntmps153 Try.results153 (by decide) 0 (by simp) (by simp [pureL, pureA]) ?_
  simp (maxSteps := 4000000) (disch := omega) only [go_sem, w64, AndB_of, IfB_of, IfB_no, pickE_of, pickE_no, ite_of, ite_no, tdivE, tmodE, takeAll]
  repeat' (first | (refine IfB.dec (fun h => ?_) (fun h => ?_) <;> (try (have h2 := h; unfold inR at h2)) <;> (try simp (maxSteps := 4000000) (disch := omega) only [go_sem, w64, AndB_of, IfB_of, IfB_no, pickE_of, pickE_no, ite_of, ite_no, tdivE, tmodE, takeAll, h])) | (refine IfB.split (fun h => ?_) (fun h => ?_) <;> (try simp (maxSteps := 4000000) (disch := omega) only [go_sem, w64, AndB_of, IfB_of, IfB_no, pickE_of, pickE_no, ite_of, ite_no, tdivE, tmodE, takeAll, h])) | (refine DrawB.quiet (by kernel_rfl) ?_; simp (maxSteps := 4000000) (disch := omega) only [go_sem, w64, AndB_of, IfB_of, IfB_no, pickE_of, pickE_no, ite_of, ite_no, tdivE, tmodE, takeAll]) | (apply CallB.q (q_between _ _ _); simp (maxSteps := 4000000) (disch := omega) only [go_sem, w64, AndB_of, IfB_of, IfB_no, pickE_of, pickE_no, ite_of, ite_no, tdivE, tmodE, takeAll]) | (apply DCallB.q0 (q_between _ _ _); simp (maxSteps := 4000000) (disch := omega) only [go_sem, w64, AndB_of, IfB_of, IfB_no, pickE_of, pickE_no, ite_of, ite_no, tdivE, tmodE, takeAll]))
theorem q_ColumnsOkI (l : List GCol) (hl : l.length ≤ 1048576) : QCall Try.prog 104 [colsA l] (.bool (decide (colsOk l))) := by
  refine qcall_body mixed Try.func104 _ (by unfold Try.f104; rfl) Try.ntmps104 Try.results104 (by decide) 0 (by simp) (by simp [pureL, pureA]) ?_
  have e : decide (colsOk l) = (decide (l.length ≤ 4) && !(l.any fun v => !decide (inR v.k 1 3))) := by
    rw [Bool.eq_iff_iff, decide_eq_true_iff]
    simp [colsOk]
  rw [e]
  simp (maxSteps := 4000000) (disch := omega) only [go_sem, w64, AndB_of, IfB_of, IfB_no, pickE_of, pickE_no, ite_of, ite_no, tdivE, tmodE, takeAll]
  refine IfB.dec (fun h => ?_) (fun h => ?_)
  · simp (maxSteps := 4000000) (disch := omega) only [go_sem, w64, AndB_of, IfB_of, IfB_no, pickE_of, pickE_no, ite_of, ite_no, tdivE, tmodE, takeAll, h]
    apply CallB.q (q_ContainsFuncC l _ [] rfl (fun v => !decide (inR v.k 1 3)) hl fun v hv => q_ColumnsOk1 v)
    simp (maxSteps := 4000000) (disch := omega) only [go_sem, w64, AndB_of, IfB_of, IfB_no, pickE_of, pickE_no, ite_of, ite_no, tdivE, tmodE, takeAll]
    simp
    omega
  · simp (maxSteps := 4000000) (disch := omega) only [go_sem, w64, AndB_of, IfB_of, IfB_no, pickE_of, pickE_no, ite_of, ite_no, tdivE, tmodE, takeAll, h]
    simp
    omega
theorem q_RowFitsI (cols : List GCol) (l : GRow) (hc : cols.length ≤ 1048576) (hl : l.length ≤ 1048576) (hs : ∀ v ∈ l, v.s.size ≤ 140737488355328) : QCall Try.prog 176 [colsA cols, rowA l] (.bool (decide (rowFits cols l))) := by
  refine qcall_body mixed Try.func176 _ (by unfold Try.f176; rfl) Try.ntmps176 Try.results176 (by decide) 0 (by simp) (by simp [pureL, pureA]) ?_
  have hs2 : ∀ v ∈ l, v.s.size ≤ 9223372036854775807 := fun v hv => by have := hs v hv; omega
  simp (maxSteps := 4000000) (disch := omega) only [go_sem, w64, AndB_of, IfB_of, IfB_no, pickE_of, pickE_no, ite_of, ite_no, tdivE, tmodE, takeAll]
  repeat' (first | (refine IfB.dec (fun h => ?_) (fun h => ?_) <;> (try (have h2 := h; unfold inR at h2)) <;> (try simp (maxSteps := 4000000) (disch := omega) only [go_sem, w64, AndB_of, IfB_of, IfB_no, pickE_of, pickE_no, ite_of, ite_no, tdivE, tmodE, takeAll, h])) | (refine IfB.split (fun h => ?_) (fun h => ?_) <;> (try simp (maxSteps := 4000000) (disch := omega) only [go_sem, w64, AndB_of, IfB_of, IfB_no, pickE_of, pickE_no, ite_of, ite_no, tdivE, tmodE, takeAll, h])) | (refine DrawB.quiet (by kernel_rfl) ?_; simp (maxSteps := 4000000) (disch := omega) only [go_sem, w64, AndB_of, IfB_of, IfB_no, pickE_of, pickE_no, ite_of, ite_no, tdivE, tmodE, takeAll]) | (apply CallB.q (q_ColumnsOkI cols hc); simp (maxSteps := 4000000) (disch := omega) only [go_sem, w64, AndB_of, IfB_of, IfB_no, pickE_of, pickE_no, ite_of, ite_no, tdivE, tmodE, takeAll]) | (apply CallB.q (q_RowOkI l hl hs2); simp (maxSteps := 4000000) (disch := omega) only [go_sem, w64, AndB_of, IfB_of, IfB_no, pickE_of, pickE_no, ite_of, ite_no, tdivE, tmodE, takeAll]) | (apply DCallB.q0 (q_ColumnsOkI cols hc); simp (maxSteps := 4000000) (disch := omega) only [go_sem, w64, AndB_of, IfB_of, IfB_no, pickE_of, pickE_no, ite_of, ite_no, tdivE, tmodE, takeAll]) | (apply DCallB.q0 (q_RowOkI l hl hs2); simp (maxSteps := 4000000) (disch := omega) only [go_sem, w64, AndB_of, IfB_of, IfB_no, pickE_of, pickE_no, ite_of, ite_no, tdivE, tmodE, takeAll]))
  all_goals try (have : ¬ rowFits cols l := fun e => by have e1 := e.1; have e2 := e.2.1; have e3 := e.2.2.1; first | contradiction | omega)
  all_goals try (rw [decide_eq_false this]; done)
  unfold colsA rowA
  refine LoopB.auto (fun zs => (intOf (slotOf zs 24)).toNat) (fun zz => [(0, none), (21, none), (0, none), (0, some (.int .i64 (zz : Int)))]) (fun zz => noH) (fun zz => 5 * zz) (fun zz => l.length - zz) (fun zz => zz ≤ l.length ∧ ∀ i (h : i < l.length) (h' : i < cols.length), i < zz → fitP l[i] cols[i]) (by (first | simp (maxSteps := 4000000) (disch := omega) only [go_sem, w64, AndB_of, IfB_of, IfB_no, pickE_of, pickE_no, ite_of, ite_no, tdivE, tmodE, takeAll, hH] | simp (maxSteps := 4000000) (disch := omega) only [go_sem, w64, AndB_of, IfB_of, IfB_no, pickE_of, pickE_no, ite_of, ite_no, tdivE, tmodE, takeAll]); ((repeat' apply And.intro) <;> first | (exact Weak.go (by (first | (simp [wkL]; done) | (simp [wkL]; omega))) (fun zi => by first | exact .inl rfl | exact .inr rfl | (simp only [upd]; repeat' split) <;> first | exact .inl rfl | exact .inr rfl | (exfalso; omega) | exact .inr (hd _ (by omega)) | (left; subst_vars; exact hH.symm) | (left; subst_vars; rfl) | (left; simp; done) | (left; simp; omega)) (by omega)) | omega | rfl | assumption | exact Flat.nil | exact ⟨_, rfl, rfl, by assumption⟩ | (simp; done) | (simp; omega))) ?_
  intro k zh
  obtain ⟨hk, hall⟩ := zh
  simp (maxSteps := 4000000) (disch := omega) only [go_sem, w64, AndB_of, IfB_of, IfB_no, pickE_of, pickE_no, ite_of, ite_no, tdivE, tmodE, takeAll]
  have hok : colsOk cols := by assumption
  have hrk : rowOk l := by assumption
  have hlen : l.length = cols.length := by omega
  refine IfB.dec (fun h1 => ?_) (fun h1 => ?_)
  · have h1' : k < l.length := by omega
    have h2' : k < cols.length := by omega
    simp (maxSteps := 4000000) (disch := omega) only [go_sem, w64, AndB_of, IfB_of, IfB_no, pickE_of, pickE_no, ite_of, ite_no, tdivE, tmodE, takeAll]
    refine DrawB.quiet (by kernel_rfl) ?_
    simp (maxSteps := 4000000) (disch := omega) only [go_sem, w64, AndB_of, IfB_of, IfB_no, pickE_of, pickE_no, ite_of, ite_no, tdivE, tmodE, takeAll]
    have yes : fitP l[k] cols[k] → ∀ i (h : i < l.length) (h' : i < cols.length), i < k + 1 → fitP l[i] cols[i] := fun e i h h' hi => by
      by_cases hik : i = k
      · subst hik; exact e
      · exact hall i h h' (by omega)
    have no : ¬ fitP l[k] cols[k] → ¬ rowFits cols l := fun e e2 => e (e2.2.2.2 k h1' h2')
    repeat' (first | (refine IfB.dec (fun h => ?_) (fun h => ?_) <;> (try (have h2 := h; unfold inR at h2)) <;> (try simp (maxSteps := 4000000) (disch := omega) only [go_sem, w64, AndB_of, IfB_of, IfB_no, pickE_of, pickE_no, ite_of, ite_no, tdivE, tmodE, takeAll, h])) | (refine IfB.split (fun h => ?_) (fun h => ?_) <;> (try simp (maxSteps := 4000000) (disch := omega) only [go_sem, w64, AndB_of, IfB_of, IfB_no, pickE_of, pickE_no, ite_of, ite_no, tdivE, tmodE, takeAll, h])) | (refine DrawB.quiet (by kernel_rfl) ?_; simp (maxSteps := 4000000) (disch := omega) only [go_sem, w64, AndB_of, IfB_of, IfB_no, pickE_of, pickE_no, ite_of, ite_no, tdivE, tmodE, takeAll]))
    all_goals first
      | (rw [decide_eq_false (no (fun e => by unfold fitP at e; first | omega | (rcases e with e | e <;> simp_all)))]; done)
      | ((repeat' apply And.intro) <;> first | exact yes (.inl (by assumption)) | exact yes (.inr ⟨by assumption, by assumption⟩) | (exact Weak.go (by (first | (simp [wkL]; done) | (simp [wkL]; omega))) (fun zi => by first | exact .inl rfl | exact .inr rfl | (simp only [upd]; repeat' split) <;> first | exact yes (.inl (by assumption)) | exact yes (.inr ⟨by assumption, by assumption⟩) | exact .inl rfl | exact .inr rfl | (exfalso; omega) | exact .inr (hd _ (by omega)) | (left; subst_vars; exact hH.symm) | (left; subst_vars; rfl) | (left; simp; done) | (left; simp; omega)) (by omega)) | omega | rfl | assumption | exact Flat.nil | exact ⟨_, rfl, rfl, by assumption⟩ | (simp; done) | (simp; omega))
  · simp (maxSteps := 4000000) (disch := omega) only [go_sem, w64, AndB_of, IfB_of, IfB_no, pickE_of, pickE_no, ite_of, ite_no, tdivE, tmodE, takeAll]
    have : rowFits cols l := ⟨hok, hrk, hlen, fun i h h' => hall i h h' (by omega)⟩
    simp [this]
end Go.TH
