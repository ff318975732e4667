/- TH: sizes, copies, comparisons: the walks. Made by boil.py and gen.py. -/
import Derived.Test.YtipoefabimcbdaaTbv
import Derived.Test.YtipoefabimcbdaaTb0
import Derived.Test.YtipoefabimcbdaaTf3
namespace Go.TH
open Go Go.Proofs
set_option linter.unusedSimpArgs false
set_option linter.unusedVariables false
set_option maxHeartbeats 20000000
set_option maxRecDepth 100000
theorem x_szValue (v : GVal) (left : Int) (h0 : 0 ≤ left) (h1 : left ≤ 1048576) (hL : VBL v) : ∃ R, (∃ r : Int, R = .int .i64 r ∧ r ≤ left ∧ (0 ≤ r → VB v)) ∧ QCall Try.prog 48 [.agg [.int .i64 v.k, .int .i64 v.n, .str v.s], .int .i64 left] R :=
  ⟨_, ⟨szVal v left, rfl, by unfold szVal; split <;> omega, fun h => by unfold szVal at h; unfold VB; split at h <;> omega⟩, q_szValue v left h0 h1 hL⟩
theorem t_toValue (v : GVal) (hb : VB v) : QCall Try.prog 50 [.agg [.int .i64 v.k, .int .i64 v.n, .str v.s]] (.agg [.int .i64 v.k, .int .i64 v.n, .str v.s]) := q_toValue v
theorem e_eqValue (v : GVal) (hb : VB v) : QCall Try.prog 73 [.agg [.int .i64 v.k, .int .i64 v.n, .str v.s], .agg [.int .i64 v.k, .int .i64 v.n, .str v.s]] (.bool true) := by
  have := q_eqValue v v
  rwa [decide_eq_true rfl] at this
theorem x_szValueS (l : List GVal) (left : Int) (h0 : 0 ≤ left) (h1 : left ≤ 1048576) (hL : l.length ≤ 9223372036854775807 ∧ ∀ v ∈ l, VBL v) : ∃ R, (∃ r : Int, R = .int .i64 r ∧ r ≤ left ∧ (0 ≤ r → l.length ≤ 1048576 ∧ ∀ v ∈ l, VB v)) ∧ QCall Try.prog 59 [rowA l, .int .i64 left] R := by
  have hLl := hL.1
  refine qex_of (by simp [pureL, pureA]) 1 ?_
  refine dcall_body mixed Try.func59 _ (by unfold Try.f59; rfl) Try.ntmps59 Try.results59 (by decide) (by simp) ?_
  unfold rowA
  simp (maxSteps := 4000000) (disch := omega) only [go_sem, w64, AndB_of, IfB_of, IfB_no, pickE_of, pickE_no, ite_of, ite_no, tdivE, tmodE, takeAll]
  refine IfB.dec (fun h => ?_) (fun h => ?_)
  · simp (maxSteps := 4000000) (disch := omega) only [go_sem, w64, AndB_of, IfB_of, IfB_no, pickE_of, pickE_no, ite_of, ite_no, tdivE, tmodE, takeAll]
    exact ⟨-1, rfl, by omega, fun h => by omega⟩
  · simp (maxSteps := 4000000) (disch := omega) only [go_sem, w64, AndB_of, IfB_of, IfB_no, pickE_of, pickE_no, ite_of, ite_no, tdivE, tmodE, takeAll]
    refine LoopB.auto (fun zs => (intOf (slotOf zs 1), (intOf (slotOf zs 5)).toNat)) (fun zz => [(0, none), (0, some (.int .i64 (zz.1 : Int))), (3, some (.int .i64 (zz.2 : Int)))]) (fun zz => noH) (fun zz => 0) (fun zz => l.length - zz.2) (fun zz => zz.2 ≤ l.length ∧ 0 ≤ zz.1 ∧ zz.1 ≤ left ∧ ∀ v ∈ l.take zz.2, VB v) (by (first | simp (maxSteps := 4000000) (disch := omega) only [go_sem, w64, AndB_of, IfB_of, IfB_no, pickE_of, pickE_no, ite_of, ite_no, tdivE, tmodE, takeAll, hH] | simp (maxSteps := 4000000) (disch := omega) only [go_sem, w64, AndB_of, IfB_of, IfB_no, pickE_of, pickE_no, ite_of, ite_no, tdivE, tmodE, takeAll]); ((repeat' apply And.intro) <;> first | (exact Weak.go (by (first | (simp [wkL]; done) | (simp [wkL]; omega))) (fun zi => by first | exact .inl rfl | exact .inr rfl | (simp only [upd]; repeat' split) <;> first | exact .inl rfl | exact .inr rfl | (exfalso; omega) | exact .inr (hd _ (by omega)) | (left; subst_vars; exact hH.symm) | (left; subst_vars; rfl) | (left; simp; done) | (left; simp; omega)) (by omega)) | omega | rfl | assumption | exact Flat.nil | exact ⟨_, rfl, rfl, by assumption⟩ | (simp; done) | (simp; omega))) ?_
    intro zz zh
    obtain ⟨cur, k⟩ := zz
    dsimp only at zh
    obtain ⟨hk, hc0, hc1, hall⟩ := zh
    simp (maxSteps := 4000000) (disch := omega) only [go_sem, w64, AndB_of, IfB_of, IfB_no, pickE_of, pickE_no, ite_of, ite_no, tdivE, tmodE, takeAll]
    refine IfB.dec (fun hlt => ?_) (fun hlt => ?_)
    · have hlt' : k < l.length := by omega
      obtain ⟨_, ⟨r, rfl, hr1, hr2⟩, hq⟩ := x_szValue l[k] cur hc0 (by omega) (hL.2 _ (List.getElem_mem hlt'))
      simp (maxSteps := 4000000) (disch := omega) only [go_sem, w64, AndB_of, IfB_of, IfB_no, pickE_of, pickE_no, ite_of, ite_no, tdivE, tmodE, takeAll]
      apply CallB.q hq
      simp (maxSteps := 4000000) (disch := omega) only [go_sem, w64, AndB_of, IfB_of, IfB_no, pickE_of, pickE_no, ite_of, ite_no, tdivE, tmodE, takeAll]
      refine IfB.dec (fun h => ?_) (fun h => ?_)
      · simp (maxSteps := 4000000) (disch := omega) only [go_sem, w64, AndB_of, IfB_of, IfB_no, pickE_of, pickE_no, ite_of, ite_no, tdivE, tmodE, takeAll]
        exact ⟨-1, rfl, by omega, fun h => by omega⟩
      · simp (maxSteps := 4000000) (disch := omega) only [go_sem, w64, AndB_of, IfB_of, IfB_no, pickE_of, pickE_no, ite_of, ite_no, tdivE, tmodE, takeAll]
        ((repeat' apply And.intro) <;> first | exact allTake hlt' hall (hr2 (by omega)) | exact allTake0 | (exact Weak.go (by (first | (simp [wkL]; done) | (simp [wkL]; omega))) (fun zi => by first | exact .inl rfl | exact .inr rfl | (simp only [upd]; repeat' split) <;> first | exact allTake hlt' hall (hr2 (by omega)) | exact allTake0 | exact .inl rfl | exact .inr rfl | (exfalso; omega) | exact .inr (hd _ (by omega)) | (left; subst_vars; exact hH.symm) | (left; subst_vars; rfl) | (left; simp; done) | (left; simp; omega)) (by omega)) | omega | rfl | assumption | exact Flat.nil | exact ⟨_, rfl, rfl, by assumption⟩ | (simp; done) | (simp; omega))
    · simp (maxSteps := 4000000) (disch := omega) only [go_sem, w64, AndB_of, IfB_of, IfB_no, pickE_of, pickE_no, ite_of, ite_no, tdivE, tmodE, takeAll]
      exact ⟨cur, rfl, by omega, fun _ => ⟨by omega, allEnd (by omega) hall⟩⟩
theorem t_toValueS (l : List GVal) (hb : l.length ≤ 1048576 ∧ ∀ v ∈ l, VB v) : QCall Try.prog 63 [rowA l] (rowA l) := by
  have hl : l.length ≤ 1048576 := hb.1
  refine qcall_body mixed Try.func63 _ (by unfold Try.f63; rfl) Try.ntmps63 Try.results63 (by decide) 1 (by simp) (by simp [pureL, pureA]) ?_
  unfold rowA
  simp (maxSteps := 4000000) (disch := omega) only [go_sem, w64, AndB_of, IfB_of, IfB_no, pickE_of, pickE_no, ite_of, ite_no, tdivE, tmodE, takeAll, fillL_zero (c := GVal.c) l]
  refine LoopB.auto (fun zs => (intOf (slotOf zs 4)).toNat) (fun zz => [(0, none), (2, none), (0, some (.int .i64 (zz : Int)))]) (fun zz => upd noH 0 (.live 0 (fillL GVal.c zVal l zz))) (fun zz => 1) (fun zz => l.length - zz) (fun zz => zz ≤ l.length) (by (first | simp (maxSteps := 4000000) (disch := omega) only [go_sem, w64, AndB_of, IfB_of, IfB_no, pickE_of, pickE_no, ite_of, ite_no, tdivE, tmodE, takeAll, hH] | simp (maxSteps := 4000000) (disch := omega) only [go_sem, w64, AndB_of, IfB_of, IfB_no, pickE_of, pickE_no, ite_of, ite_no, tdivE, tmodE, takeAll]); ((repeat' apply And.intro) <;> first | (exact Weak.go (by (first | (simp [wkL]; done) | (simp [wkL]; omega))) (fun zi => by first | exact .inl rfl | exact .inr rfl | (simp only [upd]; repeat' split) <;> first | exact .inl rfl | exact .inr rfl | (exfalso; omega) | exact .inr (hd _ (by omega)) | (left; subst_vars; exact hH.symm) | (left; subst_vars; rfl) | (left; simp; done) | (left; simp; omega)) (by omega)) | omega | rfl | assumption | exact Flat.nil | exact ⟨_, rfl, rfl, by assumption⟩ | (simp; done) | (simp; omega))) ?_
  intro k zh
  have hk := zh
  simp (maxSteps := 4000000) (disch := omega) only [go_sem, w64, AndB_of, IfB_of, IfB_no, pickE_of, pickE_no, ite_of, ite_no, tdivE, tmodE, takeAll]
  refine IfB.dec (fun hlt => ?_) (fun hlt => ?_)
  · have hlt' : k < l.length := by omega
    simp (maxSteps := 4000000) (disch := omega) only [go_sem, w64, AndB_of, IfB_of, IfB_no, pickE_of, pickE_no, ite_of, ite_no, tdivE, tmodE, takeAll]
    apply CallB.q (t_toValue l[k] (hb.2 _ (List.getElem_mem hlt')))
    simp (maxSteps := 4000000) (disch := omega) only [go_sem, w64, AndB_of, IfB_of, IfB_no, pickE_of, pickE_no, ite_of, ite_no, tdivE, tmodE, takeAll]
    ((repeat' apply And.intro) <;> first | (exact Weak.go (by (first | (simp [wkL]; done) | (simp [wkL]; omega))) (fun zi => by first | exact .inl rfl | exact .inr rfl | (simp only [upd]; repeat' split) <;> first | exact .inl rfl | exact .inr rfl | (exfalso; omega) | exact .inr (hd _ (by omega)) | (left; subst_vars; exact hH.symm) | (left; subst_vars; rfl) | (left; simp; done) | (left; simp; omega)) (by omega)) | omega | rfl | assumption | exact Flat.nil | exact ⟨_, rfl, rfl, by assumption⟩ | (simp; done) | (simp; omega))
  · have : k = l.length := by omega
    subst this
    simp (maxSteps := 4000000) (disch := omega) only [go_sem, w64, AndB_of, IfB_of, IfB_no, pickE_of, pickE_no, ite_of, ite_no, tdivE, tmodE, takeAll, fillL_all]
theorem e_eqValueS (l : List GVal) (hb : l.length ≤ 1048576 ∧ ∀ v ∈ l, VB v) : QCall Try.prog 68 [rowA l, rowA l] (.bool true) := by
  have hl : l.length ≤ 1048576 := hb.1
  refine qcall_body mixed Try.func68 _ (by unfold Try.f68; rfl) Try.ntmps68 Try.results68 (by decide) 0 (by simp) (by simp [pureL, pureA]) ?_
  unfold rowA
  simp (maxSteps := 4000000) (disch := omega) only [go_sem, w64, AndB_of, IfB_of, IfB_no, pickE_of, pickE_no, ite_of, ite_no, tdivE, tmodE, takeAll]
  refine LoopB.auto (fun zs => (intOf (slotOf zs 5)).toNat) (fun zz => [(0, none), (0, none), (3, some (.int .i64 (zz : Int)))]) (fun zz => noH) (fun zz => 0) (fun zz => l.length - zz) (fun zz => zz ≤ l.length) (by (first | simp (maxSteps := 4000000) (disch := omega) only [go_sem, w64, AndB_of, IfB_of, IfB_no, pickE_of, pickE_no, ite_of, ite_no, tdivE, tmodE, takeAll, hH] | simp (maxSteps := 4000000) (disch := omega) only [go_sem, w64, AndB_of, IfB_of, IfB_no, pickE_of, pickE_no, ite_of, ite_no, tdivE, tmodE, takeAll]); ((repeat' apply And.intro) <;> first | (exact Weak.go (by (first | (simp [wkL]; done) | (simp [wkL]; omega))) (fun zi => by first | exact .inl rfl | exact .inr rfl | (simp only [upd]; repeat' split) <;> first | exact .inl rfl | exact .inr rfl | (exfalso; omega) | exact .inr (hd _ (by omega)) | (left; subst_vars; exact hH.symm) | (left; subst_vars; rfl) | (left; simp; done) | (left; simp; omega)) (by omega)) | omega | rfl | assumption | exact Flat.nil | exact ⟨_, rfl, rfl, by assumption⟩ | (simp; done) | (simp; omega))) ?_
  intro k zh
  have hk := zh
  simp (maxSteps := 4000000) (disch := omega) only [go_sem, w64, AndB_of, IfB_of, IfB_no, pickE_of, pickE_no, ite_of, ite_no, tdivE, tmodE, takeAll]
  refine IfB.dec (fun hlt => ?_) (fun hlt => ?_)
  · have hlt' : k < l.length := by omega
    simp (maxSteps := 4000000) (disch := omega) only [go_sem, w64, AndB_of, IfB_of, IfB_no, pickE_of, pickE_no, ite_of, ite_no, tdivE, tmodE, takeAll]
    refine DrawB.quiet (by kernel_rfl) ?_
    simp (maxSteps := 4000000) (disch := omega) only [go_sem, w64, AndB_of, IfB_of, IfB_no, pickE_of, pickE_no, ite_of, ite_no, tdivE, tmodE, takeAll]
    refine DCallB.q0 (e_eqValue l[k] (hb.2 _ (List.getElem_mem hlt'))) ?_
    simp (maxSteps := 4000000) (disch := omega) only [go_sem, w64, AndB_of, IfB_of, IfB_no, pickE_of, pickE_no, ite_of, ite_no, tdivE, tmodE, takeAll]
    ((repeat' apply And.intro) <;> first | (exact Weak.go (by (first | (simp [wkL]; done) | (simp [wkL]; omega))) (fun zi => by first | exact .inl rfl | exact .inr rfl | (simp only [upd]; repeat' split) <;> first | exact .inl rfl | exact .inr rfl | (exfalso; omega) | exact .inr (hd _ (by omega)) | (left; subst_vars; exact hH.symm) | (left; subst_vars; rfl) | (left; simp; done) | (left; simp; omega)) (by omega)) | omega | rfl | assumption | exact Flat.nil | exact ⟨_, rfl, rfl, by assumption⟩ | (simp; done) | (simp; omega))
  · simp (maxSteps := 4000000) (disch := omega) only [go_sem, w64, AndB_of, IfB_of, IfB_no, pickE_of, pickE_no, ite_of, ite_no, tdivE, tmodE, takeAll]
theorem x_szValueSS (l : List GRow) (left : Int) (h0 : 0 ≤ left) (h1 : left ≤ 1048576) (hL : l.length ≤ 9223372036854775807 ∧ ∀ v ∈ l, (v.length ≤ 9223372036854775807 ∧ ∀ x ∈ v, VBL x)) : ∃ R, (∃ r : Int, R = .int .i64 r ∧ r ≤ left ∧ (0 ≤ r → l.length ≤ 1048576 ∧ ∀ v ∈ l, (v.length ≤ 1048576 ∧ ∀ x ∈ v, VB x))) ∧ QCall Try.prog 14 [rowsA l, .int .i64 left] R := by
  have hLl := hL.1
  refine qex_of (by simp [pureL, pureA]) 1 ?_
  refine dcall_body mixed Try.func14 _ (by unfold Try.f14; rfl) Try.ntmps14 Try.results14 (by decide) (by simp) ?_
  unfold rowsA
  simp (maxSteps := 4000000) (disch := omega) only [go_sem, w64, AndB_of, IfB_of, IfB_no, pickE_of, pickE_no, ite_of, ite_no, tdivE, tmodE, takeAll]
  refine IfB.dec (fun h => ?_) (fun h => ?_)
  · simp (maxSteps := 4000000) (disch := omega) only [go_sem, w64, AndB_of, IfB_of, IfB_no, pickE_of, pickE_no, ite_of, ite_no, tdivE, tmodE, takeAll]
    exact ⟨-1, rfl, by omega, fun h => by omega⟩
  · simp (maxSteps := 4000000) (disch := omega) only [go_sem, w64, AndB_of, IfB_of, IfB_no, pickE_of, pickE_no, ite_of, ite_no, tdivE, tmodE, takeAll]
    refine LoopB.auto (fun zs => (intOf (slotOf zs 1), (intOf (slotOf zs 5)).toNat)) (fun zz => [(0, none), (0, some (.int .i64 (zz.1 : Int))), (3, some (.int .i64 (zz.2 : Int)))]) (fun zz => noH) (fun zz => 0) (fun zz => l.length - zz.2) (fun zz => zz.2 ≤ l.length ∧ 0 ≤ zz.1 ∧ zz.1 ≤ left ∧ ∀ v ∈ l.take zz.2, (v.length ≤ 1048576 ∧ ∀ x ∈ v, VB x)) (by (first | simp (maxSteps := 4000000) (disch := omega) only [go_sem, w64, AndB_of, IfB_of, IfB_no, pickE_of, pickE_no, ite_of, ite_no, tdivE, tmodE, takeAll, hH] | simp (maxSteps := 4000000) (disch := omega) only [go_sem, w64, AndB_of, IfB_of, IfB_no, pickE_of, pickE_no, ite_of, ite_no, tdivE, tmodE, takeAll]); ((repeat' apply And.intro) <;> first | (exact Weak.go (by (first | (simp [wkL]; done) | (simp [wkL]; omega))) (fun zi => by first | exact .inl rfl | exact .inr rfl | (simp only [upd]; repeat' split) <;> first | exact .inl rfl | exact .inr rfl | (exfalso; omega) | exact .inr (hd _ (by omega)) | (left; subst_vars; exact hH.symm) | (left; subst_vars; rfl) | (left; simp; done) | (left; simp; omega)) (by omega)) | omega | rfl | assumption | exact Flat.nil | exact ⟨_, rfl, rfl, by assumption⟩ | (simp; done) | (simp; omega))) ?_
    intro zz zh
    obtain ⟨cur, k⟩ := zz
    dsimp only at zh
    obtain ⟨hk, hc0, hc1, hall⟩ := zh
    simp (maxSteps := 4000000) (disch := omega) only [go_sem, w64, AndB_of, IfB_of, IfB_no, pickE_of, pickE_no, ite_of, ite_no, tdivE, tmodE, takeAll]
    refine IfB.dec (fun hlt => ?_) (fun hlt => ?_)
    · have hlt' : k < l.length := by omega
      obtain ⟨_, ⟨r, rfl, hr1, hr2⟩, hq⟩ := x_szValueS l[k] cur hc0 (by omega) (hL.2 _ (List.getElem_mem hlt'))
      simp (maxSteps := 4000000) (disch := omega) only [go_sem, w64, AndB_of, IfB_of, IfB_no, pickE_of, pickE_no, ite_of, ite_no, tdivE, tmodE, takeAll]
      apply CallB.q hq
      simp (maxSteps := 4000000) (disch := omega) only [go_sem, w64, AndB_of, IfB_of, IfB_no, pickE_of, pickE_no, ite_of, ite_no, tdivE, tmodE, takeAll]
      refine IfB.dec (fun h => ?_) (fun h => ?_)
      · simp (maxSteps := 4000000) (disch := omega) only [go_sem, w64, AndB_of, IfB_of, IfB_no, pickE_of, pickE_no, ite_of, ite_no, tdivE, tmodE, takeAll]
        exact ⟨-1, rfl, by omega, fun h => by omega⟩
      · simp (maxSteps := 4000000) (disch := omega) only [go_sem, w64, AndB_of, IfB_of, IfB_no, pickE_of, pickE_no, ite_of, ite_no, tdivE, tmodE, takeAll]
        ((repeat' apply And.intro) <;> first | exact allTake hlt' hall (hr2 (by omega)) | exact allTake0 | (exact Weak.go (by (first | (simp [wkL]; done) | (simp [wkL]; omega))) (fun zi => by first | exact .inl rfl | exact .inr rfl | (simp only [upd]; repeat' split) <;> first | exact allTake hlt' hall (hr2 (by omega)) | exact allTake0 | exact .inl rfl | exact .inr rfl | (exfalso; omega) | exact .inr (hd _ (by omega)) | (left; subst_vars; exact hH.symm) | (left; subst_vars; rfl) | (left; simp; done) | (left; simp; omega)) (by omega)) | omega | rfl | assumption | exact Flat.nil | exact ⟨_, rfl, rfl, by assumption⟩ | (simp; done) | (simp; omega))
    · simp (maxSteps := 4000000) (disch := omega) only [go_sem, w64, AndB_of, IfB_of, IfB_no, pickE_of, pickE_no, ite_of, ite_no, tdivE, tmodE, takeAll]
      exact ⟨cur, rfl, by omega, fun _ => ⟨by omega, allEnd (by omega) hall⟩⟩
theorem t_toValueSS (l : List GRow) (hb : l.length ≤ 1048576 ∧ ∀ v ∈ l, (v.length ≤ 1048576 ∧ ∀ x ∈ v, VB x)) : QCall Try.prog 17 [rowsA l] (rowsA l) := by
  have hl : l.length ≤ 1048576 := hb.1
  refine qcall_body mixed Try.func17 _ (by unfold Try.f17; rfl) Try.ntmps17 Try.results17 (by decide) 1 (by simp) (by simp [pureL, pureA]) ?_
  unfold rowsA
  simp (maxSteps := 4000000) (disch := omega) only [go_sem, w64, AndB_of, IfB_of, IfB_no, pickE_of, pickE_no, ite_of, ite_no, tdivE, tmodE, takeAll, fillL_zero (c := cR) l]
  refine LoopB.auto (fun zs => (intOf (slotOf zs 4)).toNat) (fun zz => [(0, none), (2, none), (0, some (.int .i64 (zz : Int)))]) (fun zz => upd noH 0 (.live 0 (fillL cR [.sl 0 true []] l zz))) (fun zz => 1) (fun zz => l.length - zz) (fun zz => zz ≤ l.length) (by (first | simp (maxSteps := 4000000) (disch := omega) only [go_sem, w64, AndB_of, IfB_of, IfB_no, pickE_of, pickE_no, ite_of, ite_no, tdivE, tmodE, takeAll, hH] | simp (maxSteps := 4000000) (disch := omega) only [go_sem, w64, AndB_of, IfB_of, IfB_no, pickE_of, pickE_no, ite_of, ite_no, tdivE, tmodE, takeAll]); ((repeat' apply And.intro) <;> first | (exact Weak.go (by (first | (simp [wkL]; done) | (simp [wkL]; omega))) (fun zi => by first | exact .inl rfl | exact .inr rfl | (simp only [upd]; repeat' split) <;> first | exact .inl rfl | exact .inr rfl | (exfalso; omega) | exact .inr (hd _ (by omega)) | (left; subst_vars; exact hH.symm) | (left; subst_vars; rfl) | (left; simp; done) | (left; simp; omega)) (by omega)) | omega | rfl | assumption | exact Flat.nil | exact ⟨_, rfl, rfl, by assumption⟩ | (simp; done) | (simp; omega))) ?_
  intro k zh
  have hk := zh
  simp (maxSteps := 4000000) (disch := omega) only [go_sem, w64, AndB_of, IfB_of, IfB_no, pickE_of, pickE_no, ite_of, ite_no, tdivE, tmodE, takeAll]
  refine IfB.dec (fun hlt => ?_) (fun hlt => ?_)
  · have hlt' : k < l.length := by omega
    simp (maxSteps := 4000000) (disch := omega) only [go_sem, w64, AndB_of, IfB_of, IfB_no, pickE_of, pickE_no, ite_of, ite_no, tdivE, tmodE, takeAll]
    apply CallB.q (t_toValueS l[k] (hb.2 _ (List.getElem_mem hlt')))
    simp (maxSteps := 4000000) (disch := omega) only [go_sem, w64, AndB_of, IfB_of, IfB_no, pickE_of, pickE_no, ite_of, ite_no, tdivE, tmodE, takeAll]
    ((repeat' apply And.intro) <;> first | (exact Weak.go (by (first | (simp [wkL]; done) | (simp [wkL]; omega))) (fun zi => by first | exact .inl rfl | exact .inr rfl | (simp only [upd]; repeat' split) <;> first | exact .inl rfl | exact .inr rfl | (exfalso; omega) | exact .inr (hd _ (by omega)) | (left; subst_vars; exact hH.symm) | (left; subst_vars; rfl) | (left; simp; done) | (left; simp; omega)) (by omega)) | omega | rfl | assumption | exact Flat.nil | exact ⟨_, rfl, rfl, by assumption⟩ | (simp; done) | (simp; omega))
  · have : k = l.length := by omega
    subst this
    simp (maxSteps := 4000000) (disch := omega) only [go_sem, w64, AndB_of, IfB_of, IfB_no, pickE_of, pickE_no, ite_of, ite_no, tdivE, tmodE, takeAll, fillL_all]
theorem e_eqValueSS (l : List GRow) (hb : l.length ≤ 1048576 ∧ ∀ v ∈ l, (v.length ≤ 1048576 ∧ ∀ x ∈ v, VB x)) : QCall Try.prog 20 [rowsA l, rowsA l] (.bool true) := by
  have hl : l.length ≤ 1048576 := hb.1
  refine qcall_body mixed Try.func20 _ (by unfold Try.f20; rfl) Try.ntmps20 Try.results20 (by decide) 0 (by simp) (by simp [pureL, pureA]) ?_
  unfold rowsA
  simp (maxSteps := 4000000) (disch := omega) only [go_sem, w64, AndB_of, IfB_of, IfB_no, pickE_of, pickE_no, ite_of, ite_no, tdivE, tmodE, takeAll]
  refine LoopB.auto (fun zs => (intOf (slotOf zs 5)).toNat) (fun zz => [(0, none), (0, none), (3, some (.int .i64 (zz : Int)))]) (fun zz => noH) (fun zz => 0) (fun zz => l.length - zz) (fun zz => zz ≤ l.length) (by (first | simp (maxSteps := 4000000) (disch := omega) only [go_sem, w64, AndB_of, IfB_of, IfB_no, pickE_of, pickE_no, ite_of, ite_no, tdivE, tmodE, takeAll, hH] | simp (maxSteps := 4000000) (disch := omega) only [go_sem, w64, AndB_of, IfB_of, IfB_no, pickE_of, pickE_no, ite_of, ite_no, tdivE, tmodE, takeAll]); ((repeat' apply And.intro) <;> first | (exact Weak.go (by (first | (simp [wkL]; done) | (simp [wkL]; omega))) (fun zi => by first | exact .inl rfl | exact .inr rfl | (simp only [upd]; repeat' split) <;> first | exact .inl rfl | exact .inr rfl | (exfalso; omega) | exact .inr (hd _ (by omega)) | (left; subst_vars; exact hH.symm) | (left; subst_vars; rfl) | (left; simp; done) | (left; simp; omega)) (by omega)) | omega | rfl | assumption | exact Flat.nil | exact ⟨_, rfl, rfl, by assumption⟩ | (simp; done) | (simp; omega))) ?_
  intro k zh
  have hk := zh
  simp (maxSteps := 4000000) (disch := omega) only [go_sem, w64, AndB_of, IfB_of, IfB_no, pickE_of, pickE_no, ite_of, ite_no, tdivE, tmodE, takeAll]
  refine IfB.dec (fun hlt => ?_) (fun hlt => ?_)
  · have hlt' : k < l.length := by omega
    simp (maxSteps := 4000000) (disch := omega) only [go_sem, w64, AndB_of, IfB_of, IfB_no, pickE_of, pickE_no, ite_of, ite_no, tdivE, tmodE, takeAll]
    refine DrawB.quiet (by kernel_rfl) ?_
    simp (maxSteps := 4000000) (disch := omega) only [go_sem, w64, AndB_of, IfB_of, IfB_no, pickE_of, pickE_no, ite_of, ite_no, tdivE, tmodE, takeAll]
    refine DCallB.q0 (e_eqValueS l[k] (hb.2 _ (List.getElem_mem hlt'))) ?_
    simp (maxSteps := 4000000) (disch := omega) only [go_sem, w64, AndB_of, IfB_of, IfB_no, pickE_of, pickE_no, ite_of, ite_no, tdivE, tmodE, takeAll]
    ((repeat' apply And.intro) <;> first | (exact Weak.go (by (first | (simp [wkL]; done) | (simp [wkL]; omega))) (fun zi => by first | exact .inl rfl | exact .inr rfl | (simp only [upd]; repeat' split) <;> first | exact .inl rfl | exact .inr rfl | (exfalso; omega) | exact .inr (hd _ (by omega)) | (left; subst_vars; exact hH.symm) | (left; subst_vars; rfl) | (left; simp; done) | (left; simp; omega)) (by omega)) | omega | rfl | assumption | exact Flat.nil | exact ⟨_, rfl, rfl, by assumption⟩ | (simp; done) | (simp; omega))
  · simp (maxSteps := 4000000) (disch := omega) only [go_sem, w64, AndB_of, IfB_of, IfB_no, pickE_of, pickE_no, ite_of, ite_no, tdivE, tmodE, takeAll]
theorem t_toColumn (v : GCol)  : QCall Try.prog 62 [.agg [.int .i64 v.k, .bool v.e]] (.agg [.int .i64 v.k, .bool v.e]) := by
  refine qcall_body mixed Try.func62 _ (by unfold Try.f62; rfl) Try.ntmps62 Try.results62 (by decide) 0 (by simp) (by simp [pureL, pureA]) ?_
  simp (maxSteps := 4000000) (disch := omega) only [go_sem, w64, AndB_of, IfB_of, IfB_no, pickE_of, pickE_no, ite_of, ite_no, tdivE, tmodE, takeAll]
theorem e_eqColumn (v : GCol)  : QCall Try.prog 67 [.agg [.int .i64 v.k, .bool v.e], .agg [.int .i64 v.k, .bool v.e]] (.bool true) := by
  refine qcall_body mixed Try.func67 _ (by unfold Try.f67; rfl) Try.ntmps67 Try.results67 (by decide) 0 (by simp) (by simp [pureL, pureA]) ?_
  simp (maxSteps := 4000000) (disch := omega) only [go_sem, w64, AndB_of, IfB_of, IfB_no, pickE_of, pickE_no, ite_of, ite_no, tdivE, tmodE, takeAll]
theorem x_szColumnS (l : List GCol) (left : Int) (h0 : 0 ≤ left) (h1 : left ≤ 1048576) (hL : l.length ≤ 9223372036854775807) : ∃ R, (∃ r : Int, R = .int .i64 r ∧ r ≤ left ∧ (0 ≤ r → l.length ≤ 1048576)) ∧ QCall Try.prog 13 [colsA l, .int .i64 left] R := by
  refine qex_of (by simp [pureL, pureA]) 1 ?_
  refine dcall_body mixed Try.func13 _ (by unfold Try.f13; rfl) Try.ntmps13 Try.results13 (by decide) (by simp) ?_
  simp (maxSteps := 4000000) (disch := omega) only [go_sem, w64, AndB_of, IfB_of, IfB_no, pickE_of, pickE_no, ite_of, ite_no, tdivE, tmodE, takeAll]
  refine IfB.dec (fun h => ?_) (fun h => ?_)
  · simp (maxSteps := 4000000) (disch := omega) only [go_sem, w64, AndB_of, IfB_of, IfB_no, pickE_of, pickE_no, ite_of, ite_no, tdivE, tmodE, takeAll]
    exact ⟨-1, rfl, by omega, fun h => by omega⟩
  · simp (maxSteps := 4000000) (disch := omega) only [go_sem, w64, AndB_of, IfB_of, IfB_no, pickE_of, pickE_no, ite_of, ite_no, tdivE, tmodE, takeAll]
    exact ⟨_, rfl, by omega, fun _ => by omega⟩
theorem t_toColumnS (l : List GCol) (hb : l.length ≤ 1048576) : QCall Try.prog 16 [colsA l] (colsA l) := by
  have hl : l.length ≤ 1048576 := hb
  refine qcall_body mixed Try.func16 _ (by unfold Try.f16; rfl) Try.ntmps16 Try.results16 (by decide) 1 (by simp) (by simp [pureL, pureA]) ?_
  unfold colsA
  simp (maxSteps := 4000000) (disch := omega) only [go_sem, w64, AndB_of, IfB_of, IfB_no, pickE_of, pickE_no, ite_of, ite_no, tdivE, tmodE, takeAll, fillL_zero (c := GCol.c) l]
  refine LoopB.auto (fun zs => (intOf (slotOf zs 4)).toNat) (fun zz => [(0, none), (2, none), (0, some (.int .i64 (zz : Int)))]) (fun zz => upd noH 0 (.live 0 (fillL GCol.c zCol l zz))) (fun zz => 1) (fun zz => l.length - zz) (fun zz => zz ≤ l.length) (by (first | simp (maxSteps := 4000000) (disch := omega) only [go_sem, w64, AndB_of, IfB_of, IfB_no, pickE_of, pickE_no, ite_of, ite_no, tdivE, tmodE, takeAll, hH] | simp (maxSteps := 4000000) (disch := omega) only [go_sem, w64, AndB_of, IfB_of, IfB_no, pickE_of, pickE_no, ite_of, ite_no, tdivE, tmodE, takeAll]); ((repeat' apply And.intro) <;> first | (exact Weak.go (by (first | (simp [wkL]; done) | (simp [wkL]; omega))) (fun zi => by first | exact .inl rfl | exact .inr rfl | (simp only [upd]; repeat' split) <;> first | exact .inl rfl | exact .inr rfl | (exfalso; omega) | exact .inr (hd _ (by omega)) | (left; subst_vars; exact hH.symm) | (left; subst_vars; rfl) | (left; simp; done) | (left; simp; omega)) (by omega)) | omega | rfl | assumption | exact Flat.nil | exact ⟨_, rfl, rfl, by assumption⟩ | (simp; done) | (simp; omega))) ?_
  intro k zh
  have hk := zh
  simp (maxSteps := 4000000) (disch := omega) only [go_sem, w64, AndB_of, IfB_of, IfB_no, pickE_of, pickE_no, ite_of, ite_no, tdivE, tmodE, takeAll]
  refine IfB.dec (fun hlt => ?_) (fun hlt => ?_)
  · have hlt' : k < l.length := by omega
    simp (maxSteps := 4000000) (disch := omega) only [go_sem, w64, AndB_of, IfB_of, IfB_no, pickE_of, pickE_no, ite_of, ite_no, tdivE, tmodE, takeAll]
    apply CallB.q (t_toColumn l[k])
    simp (maxSteps := 4000000) (disch := omega) only [go_sem, w64, AndB_of, IfB_of, IfB_no, pickE_of, pickE_no, ite_of, ite_no, tdivE, tmodE, takeAll]
    ((repeat' apply And.intro) <;> first | (exact Weak.go (by (first | (simp [wkL]; done) | (simp [wkL]; omega))) (fun zi => by first | exact .inl rfl | exact .inr rfl | (simp only [upd]; repeat' split) <;> first | exact .inl rfl | exact .inr rfl | (exfalso; omega) | exact .inr (hd _ (by omega)) | (left; subst_vars; exact hH.symm) | (left; subst_vars; rfl) | (left; simp; done) | (left; simp; omega)) (by omega)) | omega | rfl | assumption | exact Flat.nil | exact ⟨_, rfl, rfl, by assumption⟩ | (simp; done) | (simp; omega))
  · have : k = l.length := by omega
    subst this
    simp (maxSteps := 4000000) (disch := omega) only [go_sem, w64, AndB_of, IfB_of, IfB_no, pickE_of, pickE_no, ite_of, ite_no, tdivE, tmodE, takeAll, fillL_all]
theorem e_eqColumnS (l : List GCol) (hb : l.length ≤ 1048576) : QCall Try.prog 19 [colsA l, colsA l] (.bool true) := by
  have hl : l.length ≤ 1048576 := hb
  refine qcall_body mixed Try.func19 _ (by unfold Try.f19; rfl) Try.ntmps19 Try.results19 (by decide) 0 (by simp) (by simp [pureL, pureA]) ?_
  unfold colsA
  simp (maxSteps := 4000000) (disch := omega) only [go_sem, w64, AndB_of, IfB_of, IfB_no, pickE_of, pickE_no, ite_of, ite_no, tdivE, tmodE, takeAll]
  refine LoopB.auto (fun zs => (intOf (slotOf zs 5)).toNat) (fun zz => [(0, none), (0, none), (3, some (.int .i64 (zz : Int)))]) (fun zz => noH) (fun zz => 0) (fun zz => l.length - zz) (fun zz => zz ≤ l.length) (by (first | simp (maxSteps := 4000000) (disch := omega) only [go_sem, w64, AndB_of, IfB_of, IfB_no, pickE_of, pickE_no, ite_of, ite_no, tdivE, tmodE, takeAll, hH] | simp (maxSteps := 4000000) (disch := omega) only [go_sem, w64, AndB_of, IfB_of, IfB_no, pickE_of, pickE_no, ite_of, ite_no, tdivE, tmodE, takeAll]); ((repeat' apply And.intro) <;> first | (exact Weak.go (by (first | (simp [wkL]; done) | (simp [wkL]; omega))) (fun zi => by first | exact .inl rfl | exact .inr rfl | (simp only [upd]; repeat' split) <;> first | exact .inl rfl | exact .inr rfl | (exfalso; omega) | exact .inr (hd _ (by omega)) | (left; subst_vars; exact hH.symm) | (left; subst_vars; rfl) | (left; simp; done) | (left; simp; omega)) (by omega)) | omega | rfl | assumption | exact Flat.nil | exact ⟨_, rfl, rfl, by assumption⟩ | (simp; done) | (simp; omega))) ?_
  intro k zh
  have hk := zh
  simp (maxSteps := 4000000) (disch := omega) only [go_sem, w64, AndB_of, IfB_of, IfB_no, pickE_of, pickE_no, ite_of, ite_no, tdivE, tmodE, takeAll]
  refine IfB.dec (fun hlt => ?_) (fun hlt => ?_)
  · have hlt' : k < l.length := by omega
    simp (maxSteps := 4000000) (disch := omega) only [go_sem, w64, AndB_of, IfB_of, IfB_no, pickE_of, pickE_no, ite_of, ite_no, tdivE, tmodE, takeAll]
    refine DrawB.quiet (by kernel_rfl) ?_
    simp (maxSteps := 4000000) (disch := omega) only [go_sem, w64, AndB_of, IfB_of, IfB_no, pickE_of, pickE_no, ite_of, ite_no, tdivE, tmodE, takeAll]
    refine DCallB.q0 (e_eqColumn l[k]) ?_
    simp (maxSteps := 4000000) (disch := omega) only [go_sem, w64, AndB_of, IfB_of, IfB_no, pickE_of, pickE_no, ite_of, ite_no, tdivE, tmodE, takeAll]
    ((repeat' apply And.intro) <;> first | (exact Weak.go (by (first | (simp [wkL]; done) | (simp [wkL]; omega))) (fun zi => by first | exact .inl rfl | exact .inr rfl | (simp only [upd]; repeat' split) <;> first | exact .inl rfl | exact .inr rfl | (exfalso; omega) | exact .inr (hd _ (by omega)) | (left; subst_vars; exact hH.symm) | (left; subst_vars; rfl) | (left; simp; done) | (left; simp; omega)) (by omega)) | omega | rfl | assumption | exact Flat.nil | exact ⟨_, rfl, rfl, by assumption⟩ | (simp; done) | (simp; omega))
  · simp (maxSteps := 4000000) (disch := omega) only [go_sem, w64, AndB_of, IfB_of, IfB_no, pickE_of, pickE_no, ite_of, ite_no, tdivE, tmodE, takeAll]
theorem x_szKnown (v : GKn) (left : Int) (h0 : 0 ≤ left) (h1 : left ≤ 1048576) (hL : KnBL v) : ∃ R, (∃ r : Int, R = .int .i64 r ∧ r ≤ left ∧ (0 ≤ r → KnB v)) ∧ QCall Try.prog 21 [.agg [.int .i64 v.many, .int .i64 v.sum, .int .i64 v.least.k, .int .i64 v.least.n, .str v.least.s, .int .i64 v.most.k, .int .i64 v.most.n, .str v.most.s], .int .i64 left] R := by
  unfold KnBL at hL
  refine qex_of (by simp [pureL, pureA]) 1 ?_
  refine dcall_body mixed Try.func21 _ (by unfold Try.f21; rfl) Try.ntmps21 Try.results21 (by decide) (by simp) ?_
  simp (maxSteps := 4000000) (disch := omega) only [go_sem, w64, AndB_of, IfB_of, IfB_no, pickE_of, pickE_no, ite_of, ite_no, tdivE, tmodE, takeAll]
  obtain ⟨_, ⟨r0, rfl, hr0, hs0⟩, hq0⟩ := x_szValue v.least left (by omega) (by omega) hL.1
  apply CallB.q hq0
  simp (maxSteps := 4000000) (disch := omega) only [go_sem, w64, AndB_of, IfB_of, IfB_no, pickE_of, pickE_no, ite_of, ite_no, tdivE, tmodE, takeAll]
  refine IfB.dec (fun h => ?_) (fun g0 => ?_)
  · simp (maxSteps := 4000000) (disch := omega) only [go_sem, w64, AndB_of, IfB_of, IfB_no, pickE_of, pickE_no, ite_of, ite_no, tdivE, tmodE, takeAll]
    exact ⟨-1, rfl, by omega, fun h => by omega⟩
  simp (maxSteps := 4000000) (disch := omega) only [go_sem, w64, AndB_of, IfB_of, IfB_no, pickE_of, pickE_no, ite_of, ite_no, tdivE, tmodE, takeAll]
  obtain ⟨_, ⟨r1, rfl, hr1, hs1⟩, hq1⟩ := x_szValue v.most r0 (by omega) (by omega) hL.2
  apply CallB.q hq1
  simp (maxSteps := 4000000) (disch := omega) only [go_sem, w64, AndB_of, IfB_of, IfB_no, pickE_of, pickE_no, ite_of, ite_no, tdivE, tmodE, takeAll]
  refine IfB.dec (fun h => ?_) (fun g1 => ?_)
  · simp (maxSteps := 4000000) (disch := omega) only [go_sem, w64, AndB_of, IfB_of, IfB_no, pickE_of, pickE_no, ite_of, ite_no, tdivE, tmodE, takeAll]
    exact ⟨-1, rfl, by omega, fun h => by omega⟩
  simp (maxSteps := 4000000) (disch := omega) only [go_sem, w64, AndB_of, IfB_of, IfB_no, pickE_of, pickE_no, ite_of, ite_no, tdivE, tmodE, takeAll]
  exact ⟨r1, rfl, by omega, fun _ => ⟨hs0 (by omega), hs1 (by omega)⟩⟩
theorem t_toKnown (v : GKn) (hb : KnB v) : QCall Try.prog 23 [.agg [.int .i64 v.many, .int .i64 v.sum, .int .i64 v.least.k, .int .i64 v.least.n, .str v.least.s, .int .i64 v.most.k, .int .i64 v.most.n, .str v.most.s]] (.agg [.int .i64 v.many, .int .i64 v.sum, .int .i64 v.least.k, .int .i64 v.least.n, .str v.least.s, .int .i64 v.most.k, .int .i64 v.most.n, .str v.most.s]) := by
  refine qcall_body mixed Try.func23 _ (by unfold Try.f23; rfl) Try.ntmps23 Try.results23 (by decide) 0 (by simp) (by simp [pureL, pureA]) ?_
  simp (maxSteps := 4000000) (disch := omega) only [go_sem, w64, AndB_of, IfB_of, IfB_no, pickE_of, pickE_no, ite_of, ite_no, tdivE, tmodE, takeAll]
  apply CallB.q (t_toValue v.least (hb.1))
  simp (maxSteps := 4000000) (disch := omega) only [go_sem, w64, AndB_of, IfB_of, IfB_no, pickE_of, pickE_no, ite_of, ite_no, tdivE, tmodE, takeAll]
  apply CallB.q (t_toValue v.most (hb.2))
  simp (maxSteps := 4000000) (disch := omega) only [go_sem, w64, AndB_of, IfB_of, IfB_no, pickE_of, pickE_no, ite_of, ite_no, tdivE, tmodE, takeAll]
theorem e_eqKnown (v : GKn) (hb : KnB v) : QCall Try.prog 25 [.agg [.int .i64 v.many, .int .i64 v.sum, .int .i64 v.least.k, .int .i64 v.least.n, .str v.least.s, .int .i64 v.most.k, .int .i64 v.most.n, .str v.most.s], .agg [.int .i64 v.many, .int .i64 v.sum, .int .i64 v.least.k, .int .i64 v.least.n, .str v.least.s, .int .i64 v.most.k, .int .i64 v.most.n, .str v.most.s]] (.bool true) := by
  refine qcall_body mixed Try.func25 _ (by unfold Try.f25; rfl) Try.ntmps25 Try.results25 (by decide) 0 (by simp) (by simp [pureL, pureA]) ?_
  simp (maxSteps := 4000000) (disch := omega) only [go_sem, w64, AndB_of, IfB_of, IfB_no, pickE_of, pickE_no, ite_of, ite_no, tdivE, tmodE, takeAll]
  apply CallB.q (e_eqValue v.least (hb.1))
  simp (maxSteps := 4000000) (disch := omega) only [go_sem, w64, AndB_of, IfB_of, IfB_no, pickE_of, pickE_no, ite_of, ite_no, tdivE, tmodE, takeAll]
  apply CallB.q (e_eqValue v.most (hb.2))
  simp (maxSteps := 4000000) (disch := omega) only [go_sem, w64, AndB_of, IfB_of, IfB_no, pickE_of, pickE_no, ite_of, ite_no, tdivE, tmodE, takeAll]
end Go.TH
