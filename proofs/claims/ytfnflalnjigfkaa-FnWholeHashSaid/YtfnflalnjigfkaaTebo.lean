/- TH: sizes, copies, comparisons: the walks. Made by boil.py and gen.py. -/
import Derived.Test.YtfnflalnjigfkaaTev
import Derived.Test.YtfnflalnjigfkaaTe0
import Derived.Test.YtfnflalnjigfkaaTf3
namespace Go.TH
open Go Go.Proofs
set_option linter.unusedSimpArgs false
set_option linter.unusedVariables false
set_option maxHeartbeats 20000000
set_option maxRecDepth 100000
theorem x_szValue (v : GVal) (left : Int) (h0 : 0 ≤ left) (h1 : left ≤ 1048576) (hL : VBL v) : ∃ R, (∃ r : Int, R = .int .i64 r ∧ r ≤ left ∧ (0 ≤ r → VB v)) ∧ QCall Try.prog 129 [.agg [.int .i64 v.k, .int .i64 v.n, .str v.s], .int .i64 left] R :=
  ⟨_, ⟨szVal v left, rfl, by unfold szVal; split <;> omega, fun h => by unfold szVal at h; unfold VB; split at h <;> omega⟩, q_szValue v left h0 h1 hL⟩
theorem t_toValue (v : GVal) (hb : VB v) : QCall Try.prog 131 [.agg [.int .i64 v.k, .int .i64 v.n, .str v.s]] (.agg [.int .i64 v.k, .int .i64 v.n, .str v.s]) := q_toValue v
theorem e_eqValue (v : GVal) (hb : VB v) : QCall Try.prog 135 [.agg [.int .i64 v.k, .int .i64 v.n, .str v.s], .agg [.int .i64 v.k, .int .i64 v.n, .str v.s]] (.bool true) := by
  have := q_eqValue v v
  rwa [decide_eq_true rfl] at this
theorem x_szValueS (l : List GVal) (left : Int) (h0 : 0 ≤ left) (h1 : left ≤ 1048576) (hL : l.length ≤ 9223372036854775807 ∧ ∀ v ∈ l, VBL v) : ∃ R, (∃ r : Int, R = .int .i64 r ∧ r ≤ left ∧ (0 ≤ r → l.length ≤ 1048576 ∧ ∀ v ∈ l, VB v)) ∧ QCall Try.prog 62 [rowA l, .int .i64 left] R := by
  have hLl := hL.1
  refine qex_of (by simp [pureL, pureA]) 1 ?_
  refine dcall_body mixed Try.func62 _ (by unfold Try.f62; rfl) Try.ntmps62 Try.results62 (by decide) (by simp) ?_
  unfold rowA
  simp (maxSteps := 4000000) (disch := omega) only [go_sem, w64, AndB_of, IfB_of, IfB_no, pickE_of, pickE_no, ite_of, ite_no, tdivE, tmodE, takeAll]
  refine IfB.dec (fun h => ?_) (fun h => ?_)
  · simp (maxSteps := 4000000) (disch := omega) only [go_sem, w64, AndB_of, IfB_of, IfB_no, pickE_of, pickE_no, ite_of, ite_no, tdivE, tmodE, takeAll]
    exact ⟨-1, rfl, by omega, fun h => by omega⟩
  · simp (maxSteps := 4000000) (disch := omega) only [go_sem, w64, AndB_of, IfB_of, IfB_no, pickE_of, pickE_no, ite_of, ite_no, tdivE, tmodE, takeAll]
    refine LoopB.auto (fun zs => (intOf (slotOf zs 1), (intOf (slotOf zs 5)).toNat)) (fun zz => [(0, none), (0, some (.int .i64 (zz.1 : Int))), (3, some (.int .i64 (zz.2 : Int)))]) (fun zz => noH) (fun zz => 0) (fun zz => l.length - zz.2) (fun zz => zz.2 ≤ l.length ∧ 0 ≤ zz.1 ∧ zz.1 ≤ left ∧ ∀ v ∈ l.take zz.2, VB v) (by (first | simp (maxSteps := 4000000) (disch := omega) only [go_sem, w64, AndB_of, IfB_of, IfB_no, pickE_of, pickE_no, ite_of, ite_no, tdivE, tmodE, takeAll, hH] | simp (maxSteps := 4000000) (disch := omega) only [go_sem, w64, AndB_of, IfB_of, IfB_no, pickE_of, pickE_no, ite_of, ite_no, tdivE, tmodE, takeAll]); ((repeat' apply And.intro) <;> first | (exact Weak.go (by (first | (simp [wkL]; done) | (simp [wkL]; omega))) (fun zi => by first | exact .inl rfl | exact .inr rfl | (simp only [upd]; repeat' split) <;> first | exact .inl rfl | exact .inr rfl | (exfalso; omega) | exact .inr (hd _ (by omega)) | (left; subst_vars; exact hH.symm) | (left; subst_vars; rfl) | (left; simp; done) | (left; simp; omega)) (by omega)) | omega | rfl | assumption | exact Flat.nil | exact ⟨_, rfl, rfl, by assumption⟩ | (simp; done) | (simp; omega))) ?_
    intro zz zh
    obtain ⟨cur, k⟩ := zz
    dsimp only at zh
    obtain ⟨hk, hc0, hc1, hall⟩ := zh
    simp (maxSteps := 4000000) (disch := omega) only [go_sem, w64, AndB_of, IfB_of, IfB_no, pickE_of, pickE_no, ite_of, ite_no, tdivE, tmodE, takeAll]
    refine IfB.dec (fun hlt => ?_) (fun hlt => ?_)
    · have hlt' : k < l.length := by omega
      obtain ⟨_, ⟨r, rfl, hr1, hr2⟩, hq⟩ := x_szValue l[k] cur hc0 (by omega) (hL.2 _ (List.getElem_mem hlt'))
      simp (maxSteps := 4000000) (disch := omega) only [go_sem, w64, AndB_of, IfB_of, IfB_no, pickE_of, pickE_no, ite_of, ite_no, tdivE, tmodE, takeAll]
      apply CallB.q hq
      simp (maxSteps := 4000000) (disch := omega) only [go_sem, w64, AndB_of, IfB_of, IfB_no, pickE_of, pickE_no, ite_of, ite_no, tdivE, tmodE, takeAll]
      refine IfB.dec (fun h => ?_) (fun h => ?_)
      · simp (maxSteps := 4000000) (disch := omega) only [go_sem, w64, AndB_of, IfB_of, IfB_no, pickE_of, pickE_no, ite_of, ite_no, tdivE, tmodE, takeAll]
        exact ⟨-1, rfl, by omega, fun h => by omega⟩
      · simp (maxSteps := 4000000) (disch := omega) only [go_sem, w64, AndB_of, IfB_of, IfB_no, pickE_of, pickE_no, ite_of, ite_no, tdivE, tmodE, takeAll]
        ((repeat' apply And.intro) <;> first | exact allTake hlt' hall (hr2 (by omega)) | exact allTake0 | (exact Weak.go (by (first | (simp [wkL]; done) | (simp [wkL]; omega))) (fun zi => by first | exact .inl rfl | exact .inr rfl | (simp only [upd]; repeat' split) <;> first | exact allTake hlt' hall (hr2 (by omega)) | exact allTake0 | exact .inl rfl | exact .inr rfl | (exfalso; omega) | exact .inr (hd _ (by omega)) | (left; subst_vars; exact hH.symm) | (left; subst_vars; rfl) | (left; simp; done) | (left; simp; omega)) (by omega)) | omega | rfl | assumption | exact Flat.nil | exact ⟨_, rfl, rfl, by assumption⟩ | (simp; done) | (simp; omega))
    · simp (maxSteps := 4000000) (disch := omega) only [go_sem, w64, AndB_of, IfB_of, IfB_no, pickE_of, pickE_no, ite_of, ite_no, tdivE, tmodE, takeAll]
      exact ⟨cur, rfl, by omega, fun _ => ⟨by omega, allEnd (by omega) hall⟩⟩
theorem t_toValueS (l : List GVal) (hb : l.length ≤ 1048576 ∧ ∀ v ∈ l, VB v) : QCall Try.prog 66 [rowA l] (rowA l) := by
  have hl : l.length ≤ 1048576 := hb.1
  refine qcall_body mixed Try.func66 _ (by unfold Try.f66; rfl) Try.ntmps66 Try.results66 (by decide) 1 (by simp) (by simp [pureL, pureA]) ?_
  unfold rowA
  simp (maxSteps := 4000000) (disch := omega) only [go_sem, w64, AndB_of, IfB_of, IfB_no, pickE_of, pickE_no, ite_of, ite_no, tdivE, tmodE, takeAll, fillL_zero (c := GVal.c) l]
  refine LoopB.auto (fun zs => (intOf (slotOf zs 4)).toNat) (fun zz => [(0, none), (2, none), (0, some (.int .i64 (zz : Int)))]) (fun zz => upd noH 0 (.live 0 (fillL GVal.c zVal l zz))) (fun zz => 1) (fun zz => l.length - zz) (fun zz => zz ≤ l.length) (by (first | simp (maxSteps := 4000000) (disch := omega) only [go_sem, w64, AndB_of, IfB_of, IfB_no, pickE_of, pickE_no, ite_of, ite_no, tdivE, tmodE, takeAll, hH] | simp (maxSteps := 4000000) (disch := omega) only [go_sem, w64, AndB_of, IfB_of, IfB_no, pickE_of, pickE_no, ite_of, ite_no, tdivE, tmodE, takeAll]); ((repeat' apply And.intro) <;> first | (exact Weak.go (by (first | (simp [wkL]; done) | (simp [wkL]; omega))) (fun zi => by first | exact .inl rfl | exact .inr rfl | (simp only [upd]; repeat' split) <;> first | exact .inl rfl | exact .inr rfl | (exfalso; omega) | exact .inr (hd _ (by omega)) | (left; subst_vars; exact hH.symm) | (left; subst_vars; rfl) | (left; simp; done) | (left; simp; omega)) (by omega)) | omega | rfl | assumption | exact Flat.nil | exact ⟨_, rfl, rfl, by assumption⟩ | (simp; done) | (simp; omega))) ?_
  intro k zh
  have hk := zh
  simp (maxSteps := 4000000) (disch := omega) only [go_sem, w64, AndB_of, IfB_of, IfB_no, pickE_of, pickE_no, ite_of, ite_no, tdivE, tmodE, takeAll]
  refine IfB.dec (fun hlt => ?_) (fun hlt => ?_)
  · have hlt' : k < l.length := by omega
    simp (maxSteps := 4000000) (disch := omega) only [go_sem, w64, AndB_of, IfB_of, IfB_no, pickE_of, pickE_no, ite_of, ite_no, tdivE, tmodE, takeAll]
    apply CallB.q (t_toValue l[k] (hb.2 _ (List.getElem_mem hlt')))
    simp (maxSteps := 4000000) (disch := omega) only [go_sem, w64, AndB_of, IfB_of, IfB_no, pickE_of, pickE_no, ite_of, ite_no, tdivE, tmodE, takeAll]
    ((repeat' apply And.intro) <;> first | (exact Weak.go (by (first | (simp [wkL]; done) | (simp [wkL]; omega))) (fun zi => by first | exact .inl rfl | exact .inr rfl | (simp only [upd]; repeat' split) <;> first | exact .inl rfl | exact .inr rfl | (exfalso; omega) | exact .inr (hd _ (by omega)) | (left; subst_vars; exact hH.symm) | (left; subst_vars; rfl) | (left; simp; done) | (left; simp; omega)) (by omega)) | omega | rfl | assumption | exact Flat.nil | exact ⟨_, rfl, rfl, by assumption⟩ | (simp; done) | (simp; omega))
  · have : k = l.length := by omega
    subst this
    simp (maxSteps := 4000000) (disch := omega) only [go_sem, w64, AndB_of, IfB_of, IfB_no, pickE_of, pickE_no, ite_of, ite_no, tdivE, tmodE, takeAll, fillL_all]
theorem e_eqValueS (l : List GVal) (hb : l.length ≤ 1048576 ∧ ∀ v ∈ l, VB v) : QCall Try.prog 72 [rowA l, rowA l] (.bool true) := by
  have hl : l.length ≤ 1048576 := hb.1
  refine qcall_body mixed Try.func72 _ (by unfold Try.f72; rfl) Try.ntmps72 Try.results72 (by decide) 0 (by simp) (by simp [pureL, pureA]) ?_
  unfold rowA
  simp (maxSteps := 4000000) (disch := omega) only [go_sem, w64, AndB_of, IfB_of, IfB_no, pickE_of, pickE_no, ite_of, ite_no, tdivE, tmodE, takeAll]
  refine LoopB.auto (fun zs => (intOf (slotOf zs 5)).toNat) (fun zz => [(0, none), (0, none), (3, some (.int .i64 (zz : Int)))]) (fun zz => noH) (fun zz => 0) (fun zz => l.length - zz) (fun zz => zz ≤ l.length) (by (first | simp (maxSteps := 4000000) (disch := omega) only [go_sem, w64, AndB_of, IfB_of, IfB_no, pickE_of, pickE_no, ite_of, ite_no, tdivE, tmodE, takeAll, hH] | simp (maxSteps := 4000000) (disch := omega) only [go_sem, w64, AndB_of, IfB_of, IfB_no, pickE_of, pickE_no, ite_of, ite_no, tdivE, tmodE, takeAll]); ((repeat' apply And.intro) <;> first | (exact Weak.go (by (first | (simp [wkL]; done) | (simp [wkL]; omega))) (fun zi => by first | exact .inl rfl | exact .inr rfl | (simp only [upd]; repeat' split) <;> first | exact .inl rfl | exact .inr rfl | (exfalso; omega) | exact .inr (hd _ (by omega)) | (left; subst_vars; exact hH.symm) | (left; subst_vars; rfl) | (left; simp; done) | (left; simp; omega)) (by omega)) | omega | rfl | assumption | exact Flat.nil | exact ⟨_, rfl, rfl, by assumption⟩ | (simp; done) | (simp; omega))) ?_
  intro k zh
  have hk := zh
  simp (maxSteps := 4000000) (disch := omega) only [go_sem, w64, AndB_of, IfB_of, IfB_no, pickE_of, pickE_no, ite_of, ite_no, tdivE, tmodE, takeAll]
  refine IfB.dec (fun hlt => ?_) (fun hlt => ?_)
  · have hlt' : k < l.length := by omega
    simp (maxSteps := 4000000) (disch := omega) only [go_sem, w64, AndB_of, IfB_of, IfB_no, pickE_of, pickE_no, ite_of, ite_no, tdivE, tmodE, takeAll]
    refine DrawB.quiet (by kernel_rfl) ?_
    simp (maxSteps := 4000000) (disch := omega) only [go_sem, w64, AndB_of, IfB_of, IfB_no, pickE_of, pickE_no, ite_of, ite_no, tdivE, tmodE, takeAll]
    refine DCallB.q0 (e_eqValue l[k] (hb.2 _ (List.getElem_mem hlt'))) ?_
    simp (maxSteps := 4000000) (disch := omega) only [go_sem, w64, AndB_of, IfB_of, IfB_no, pickE_of, pickE_no, ite_of, ite_no, tdivE, tmodE, takeAll]
    ((repeat' apply And.intro) <;> first | (exact Weak.go (by (first | (simp [wkL]; done) | (simp [wkL]; omega))) (fun zi => by first | exact .inl rfl | exact .inr rfl | (simp only [upd]; repeat' split) <;> first | exact .inl rfl | exact .inr rfl | (exfalso; omega) | exact .inr (hd _ (by omega)) | (left; subst_vars; exact hH.symm) | (left; subst_vars; rfl) | (left; simp; done) | (left; simp; omega)) (by omega)) | omega | rfl | assumption | exact Flat.nil | exact ⟨_, rfl, rfl, by assumption⟩ | (simp; done) | (simp; omega))
  · simp (maxSteps := 4000000) (disch := omega) only [go_sem, w64, AndB_of, IfB_of, IfB_no, pickE_of, pickE_no, ite_of, ite_no, tdivE, tmodE, takeAll]
theorem x_szValueSS (l : List GRow) (left : Int) (h0 : 0 ≤ left) (h1 : left ≤ 1048576) (hL : l.length ≤ 9223372036854775807 ∧ ∀ v ∈ l, (v.length ≤ 9223372036854775807 ∧ ∀ x ∈ v, VBL x)) : ∃ R, (∃ r : Int, R = .int .i64 r ∧ r ≤ left ∧ (0 ≤ r → l.length ≤ 1048576 ∧ ∀ v ∈ l, (v.length ≤ 1048576 ∧ ∀ x ∈ v, VB x))) ∧ QCall Try.prog 14 [rowsA l, .int .i64 left] R := by
  have hLl := hL.1
  refine qex_of (by simp [pureL, pureA]) 1 ?_
  refine dcall_body mixed Try.func14 _ (by unfold Try.f14; rfl) Try.ntmps14 Try.results14 (by decide) (by simp) ?_
  unfold rowsA
  simp (maxSteps := 4000000) (disch := omega) only [go_sem, w64, AndB_of, IfB_of, IfB_no, pickE_of, pickE_no, ite_of, ite_no, tdivE, tmodE, takeAll]
  refine IfB.dec (fun h => ?_) (fun h => ?_)
  · simp (maxSteps := 4000000) (disch := omega) only [go_sem, w64, AndB_of, IfB_of, IfB_no, pickE_of, pickE_no, ite_of, ite_no, tdivE, tmodE, takeAll]
    exact ⟨-1, rfl, by omega, fun h => by omega⟩
  · simp (maxSteps := 4000000) (disch := omega) only [go_sem, w64, AndB_of, IfB_of, IfB_no, pickE_of, pickE_no, ite_of, ite_no, tdivE, tmodE, takeAll]
    refine LoopB.auto (fun zs => (intOf (slotOf zs 1), (intOf (slotOf zs 5)).toNat)) (fun zz => [(0, none), (0, some (.int .i64 (zz.1 : Int))), (3, some (.int .i64 (zz.2 : Int)))]) (fun zz => noH) (fun zz => 0) (fun zz => l.length - zz.2) (fun zz => zz.2 ≤ l.length ∧ 0 ≤ zz.1 ∧ zz.1 ≤ left ∧ ∀ v ∈ l.take zz.2, (v.length ≤ 1048576 ∧ ∀ x ∈ v, VB x)) (by (first | simp (maxSteps := 4000000) (disch := omega) only [go_sem, w64, AndB_of, IfB_of, IfB_no, pickE_of, pickE_no, ite_of, ite_no, tdivE, tmodE, takeAll, hH] | simp (maxSteps := 4000000) (disch := omega) only [go_sem, w64, AndB_of, IfB_of, IfB_no, pickE_of, pickE_no, ite_of, ite_no, tdivE, tmodE, takeAll]); ((repeat' apply And.intro) <;> first | (exact Weak.go (by (first | (simp [wkL]; done) | (simp [wkL]; omega))) (fun zi => by first | exact .inl rfl | exact .inr rfl | (simp only [upd]; repeat' split) <;> first | exact .inl rfl | exact .inr rfl | (exfalso; omega) | exact .inr (hd _ (by omega)) | (left; subst_vars; exact hH.symm) | (left; subst_vars; rfl) | (left; simp; done) | (left; simp; omega)) (by omega)) | omega | rfl | assumption | exact Flat.nil | exact ⟨_, rfl, rfl, by assumption⟩ | (simp; done) | (simp; omega))) ?_
    intro zz zh
    obtain ⟨cur, k⟩ := zz
    dsimp only at zh
    obtain ⟨hk, hc0, hc1, hall⟩ := zh
    simp (maxSteps := 4000000) (disch := omega) only [go_sem, w64, AndB_of, IfB_of, IfB_no, pickE_of, pickE_no, ite_of, ite_no, tdivE, tmodE, takeAll]
    refine IfB.dec (fun hlt => ?_) (fun hlt => ?_)
    · have hlt' : k < l.length := by omega
      obtain ⟨_, ⟨r, rfl, hr1, hr2⟩, hq⟩ := x_szValueS l[k] cur hc0 (by omega) (hL.2 _ (List.getElem_mem hlt'))
      simp (maxSteps := 4000000) (disch := omega) only [go_sem, w64, AndB_of, IfB_of, IfB_no, pickE_of, pickE_no, ite_of, ite_no, tdivE, tmodE, takeAll]
      apply CallB.q hq
      simp (maxSteps := 4000000) (disch := omega) only [go_sem, w64, AndB_of, IfB_of, IfB_no, pickE_of, pickE_no, ite_of, ite_no, tdivE, tmodE, takeAll]
      refine IfB.dec (fun h => ?_) (fun h => ?_)
      · simp (maxSteps := 4000000) (disch := omega) only [go_sem, w64, AndB_of, IfB_of, IfB_no, pickE_of, pickE_no, ite_of, ite_no, tdivE, tmodE, takeAll]
        exact ⟨-1, rfl, by omega, fun h => by omega⟩
      · simp (maxSteps := 4000000) (disch := omega) only [go_sem, w64, AndB_of, IfB_of, IfB_no, pickE_of, pickE_no, ite_of, ite_no, tdivE, tmodE, takeAll]
        ((repeat' apply And.intro) <;> first | exact allTake hlt' hall (hr2 (by omega)) | exact allTake0 | (exact Weak.go (by (first | (simp [wkL]; done) | (simp [wkL]; omega))) (fun zi => by first | exact .inl rfl | exact .inr rfl | (simp only [upd]; repeat' split) <;> first | exact allTake hlt' hall (hr2 (by omega)) | exact allTake0 | exact .inl rfl | exact .inr rfl | (exfalso; omega) | exact .inr (hd _ (by omega)) | (left; subst_vars; exact hH.symm) | (left; subst_vars; rfl) | (left; simp; done) | (left; simp; omega)) (by omega)) | omega | rfl | assumption | exact Flat.nil | exact ⟨_, rfl, rfl, by assumption⟩ | (simp; done) | (simp; omega))
    · simp (maxSteps := 4000000) (disch := omega) only [go_sem, w64, AndB_of, IfB_of, IfB_no, pickE_of, pickE_no, ite_of, ite_no, tdivE, tmodE, takeAll]
      exact ⟨cur, rfl, by omega, fun _ => ⟨by omega, allEnd (by omega) hall⟩⟩
theorem t_toValueSS (l : List GRow) (hb : l.length ≤ 1048576 ∧ ∀ v ∈ l, (v.length ≤ 1048576 ∧ ∀ x ∈ v, VB x)) : QCall Try.prog 16 [rowsA l] (rowsA l) := by
  have hl : l.length ≤ 1048576 := hb.1
  refine qcall_body mixed Try.func16 _ (by unfold Try.f16; rfl) Try.ntmps16 Try.results16 (by decide) 1 (by simp) (by simp [pureL, pureA]) ?_
  unfold rowsA
  simp (maxSteps := 4000000) (disch := omega) only [go_sem, w64, AndB_of, IfB_of, IfB_no, pickE_of, pickE_no, ite_of, ite_no, tdivE, tmodE, takeAll, fillL_zero (c := cR) l]
  refine LoopB.auto (fun zs => (intOf (slotOf zs 4)).toNat) (fun zz => [(0, none), (2, none), (0, some (.int .i64 (zz : Int)))]) (fun zz => upd noH 0 (.live 0 (fillL cR [.sl 0 true []] l zz))) (fun zz => 1) (fun zz => l.length - zz) (fun zz => zz ≤ l.length) (by (first | simp (maxSteps := 4000000) (disch := omega) only [go_sem, w64, AndB_of, IfB_of, IfB_no, pickE_of, pickE_no, ite_of, ite_no, tdivE, tmodE, takeAll, hH] | simp (maxSteps := 4000000) (disch := omega) only [go_sem, w64, AndB_of, IfB_of, IfB_no, pickE_of, pickE_no, ite_of, ite_no, tdivE, tmodE, takeAll]); ((repeat' apply And.intro) <;> first | (exact Weak.go (by (first | (simp [wkL]; done) | (simp [wkL]; omega))) (fun zi => by first | exact .inl rfl | exact .inr rfl | (simp only [upd]; repeat' split) <;> first | exact .inl rfl | exact .inr rfl | (exfalso; omega) | exact .inr (hd _ (by omega)) | (left; subst_vars; exact hH.symm) | (left; subst_vars; rfl) | (left; simp; done) | (left; simp; omega)) (by omega)) | omega | rfl | assumption | exact Flat.nil | exact ⟨_, rfl, rfl, by assumption⟩ | (simp; done) | (simp; omega))) ?_
  intro k zh
  have hk := zh
  simp (maxSteps := 4000000) (disch := omega) only [go_sem, w64, AndB_of, IfB_of, IfB_no, pickE_of, pickE_no, ite_of, ite_no, tdivE, tmodE, takeAll]
  refine IfB.dec (fun hlt => ?_) (fun hlt => ?_)
  · have hlt' : k < l.length := by omega
    simp (maxSteps := 4000000) (disch := omega) only [go_sem, w64, AndB_of, IfB_of, IfB_no, pickE_of, pickE_no, ite_of, ite_no, tdivE, tmodE, takeAll]
    apply CallB.q (t_toValueS l[k] (hb.2 _ (List.getElem_mem hlt')))
    simp (maxSteps := 4000000) (disch := omega) only [go_sem, w64, AndB_of, IfB_of, IfB_no, pickE_of, pickE_no, ite_of, ite_no, tdivE, tmodE, takeAll]
    ((repeat' apply And.intro) <;> first | (exact Weak.go (by (first | (simp [wkL]; done) | (simp [wkL]; omega))) (fun zi => by first | exact .inl rfl | exact .inr rfl | (simp only [upd]; repeat' split) <;> first | exact .inl rfl | exact .inr rfl | (exfalso; omega) | exact .inr (hd _ (by omega)) | (left; subst_vars; exact hH.symm) | (left; subst_vars; rfl) | (left; simp; done) | (left; simp; omega)) (by omega)) | omega | rfl | assumption | exact Flat.nil | exact ⟨_, rfl, rfl, by assumption⟩ | (simp; done) | (simp; omega))
  · have : k = l.length := by omega
    subst this
    simp (maxSteps := 4000000) (disch := omega) only [go_sem, w64, AndB_of, IfB_of, IfB_no, pickE_of, pickE_no, ite_of, ite_no, tdivE, tmodE, takeAll, fillL_all]
theorem e_eqValueSS (l : List GRow) (hb : l.length ≤ 1048576 ∧ ∀ v ∈ l, (v.length ≤ 1048576 ∧ ∀ x ∈ v, VB x)) : QCall Try.prog 18 [rowsA l, rowsA l] (.bool true) := by
  have hl : l.length ≤ 1048576 := hb.1
  refine qcall_body mixed Try.func18 _ (by unfold Try.f18; rfl) Try.ntmps18 Try.results18 (by decide) 0 (by simp) (by simp [pureL, pureA]) ?_
  unfold rowsA
  simp (maxSteps := 4000000) (disch := omega) only [go_sem, w64, AndB_of, IfB_of, IfB_no, pickE_of, pickE_no, ite_of, ite_no, tdivE, tmodE, takeAll]
  refine LoopB.auto (fun zs => (intOf (slotOf zs 5)).toNat) (fun zz => [(0, none), (0, none), (3, some (.int .i64 (zz : Int)))]) (fun zz => noH) (fun zz => 0) (fun zz => l.length - zz) (fun zz => zz ≤ l.length) (by (first | simp (maxSteps := 4000000) (disch := omega) only [go_sem, w64, AndB_of, IfB_of, IfB_no, pickE_of, pickE_no, ite_of, ite_no, tdivE, tmodE, takeAll, hH] | simp (maxSteps := 4000000) (disch := omega) only [go_sem, w64, AndB_of, IfB_of, IfB_no, pickE_of, pickE_no, ite_of, ite_no, tdivE, tmodE, takeAll]); ((repeat' apply And.intro) <;> first | (exact Weak.go (by (first | (simp [wkL]; done) | (simp [wkL]; omega))) (fun zi => by first | exact .inl rfl | exact .inr rfl | (simp only [upd]; repeat' split) <;> first | exact .inl rfl | exact .inr rfl | (exfalso; omega) | exact .inr (hd _ (by omega)) | (left; subst_vars; exact hH.symm) | (left; subst_vars; rfl) | (left; simp; done) | (left; simp; omega)) (by omega)) | omega | rfl | assumption | exact Flat.nil | exact ⟨_, rfl, rfl, by assumption⟩ | (simp; done) | (simp; omega))) ?_
  intro k zh
  have hk := zh
  simp (maxSteps := 4000000) (disch := omega) only [go_sem, w64, AndB_of, IfB_of, IfB_no, pickE_of, pickE_no, ite_of, ite_no, tdivE, tmodE, takeAll]
  refine IfB.dec (fun hlt => ?_) (fun hlt => ?_)
  · have hlt' : k < l.length := by omega
    simp (maxSteps := 4000000) (disch := omega) only [go_sem, w64, AndB_of, IfB_of, IfB_no, pickE_of, pickE_no, ite_of, ite_no, tdivE, tmodE, takeAll]
    refine DrawB.quiet (by kernel_rfl) ?_
    simp (maxSteps := 4000000) (disch := omega) only [go_sem, w64, AndB_of, IfB_of, IfB_no, pickE_of, pickE_no, ite_of, ite_no, tdivE, tmodE, takeAll]
    refine DCallB.q0 (e_eqValueS l[k] (hb.2 _ (List.getElem_mem hlt'))) ?_
    simp (maxSteps := 4000000) (disch := omega) only [go_sem, w64, AndB_of, IfB_of, IfB_no, pickE_of, pickE_no, ite_of, ite_no, tdivE, tmodE, takeAll]
    ((repeat' apply And.intro) <;> first | (exact Weak.go (by (first | (simp [wkL]; done) | (simp [wkL]; omega))) (fun zi => by first | exact .inl rfl | exact .inr rfl | (simp only [upd]; repeat' split) <;> first | exact .inl rfl | exact .inr rfl | (exfalso; omega) | exact .inr (hd _ (by omega)) | (left; subst_vars; exact hH.symm) | (left; subst_vars; rfl) | (left; simp; done) | (left; simp; omega)) (by omega)) | omega | rfl | assumption | exact Flat.nil | exact ⟨_, rfl, rfl, by assumption⟩ | (simp; done) | (simp; omega))
  · simp (maxSteps := 4000000) (disch := omega) only [go_sem, w64, AndB_of, IfB_of, IfB_no, pickE_of, pickE_no, ite_of, ite_no, tdivE, tmodE, takeAll]
theorem x_szBoolS (l : List Bool) (left : Int) (h0 : 0 ≤ left) (h1 : left ≤ 1048576) (hL : l.length ≤ 9223372036854775807) : ∃ R, (∃ r : Int, R = .int .i64 r ∧ r ≤ left ∧ (0 ≤ r → l.length ≤ 1048576)) ∧ QCall Try.prog 112 [boolsA l, .int .i64 left] R := by
  refine qex_of (by simp [pureL, pureA]) 1 ?_
  refine dcall_body mixed Try.func112 _ (by unfold Try.f112; rfl) Try.ntmps112 Try.results112 (by decide) (by simp) ?_
  simp (maxSteps := 4000000) (disch := omega) only [go_sem, w64, AndB_of, IfB_of, IfB_no, pickE_of, pickE_no, ite_of, ite_no, tdivE, tmodE, takeAll]
  refine IfB.dec (fun h => ?_) (fun h => ?_)
  · simp (maxSteps := 4000000) (disch := omega) only [go_sem, w64, AndB_of, IfB_of, IfB_no, pickE_of, pickE_no, ite_of, ite_no, tdivE, tmodE, takeAll]
    exact ⟨-1, rfl, by omega, fun h => by omega⟩
  · simp (maxSteps := 4000000) (disch := omega) only [go_sem, w64, AndB_of, IfB_of, IfB_no, pickE_of, pickE_no, ite_of, ite_no, tdivE, tmodE, takeAll]
    exact ⟨_, rfl, by omega, fun _ => by omega⟩
theorem t_toBoolS (l : List Bool) (hb : l.length ≤ 1048576) : QCall Try.prog 113 [boolsA l] (boolsA l) := by
  have hl : l.length ≤ 1048576 := hb
  refine qcall_body mixed Try.func113 _ (by unfold Try.f113; rfl) Try.ntmps113 Try.results113 (by decide) 1 (by simp) (by simp [pureL, pureA]) ?_
  unfold boolsA
  simp (maxSteps := 4000000) (disch := omega) only [go_sem, w64, AndB_of, IfB_of, IfB_no, pickE_of, pickE_no, ite_of, ite_no, tdivE, tmodE, takeAll, fillL_zero (c := cBo) l]
  refine LoopB.auto (fun zs => (intOf (slotOf zs 4)).toNat) (fun zz => [(0, none), (2, none), (0, some (.int .i64 (zz : Int)))]) (fun zz => upd noH 0 (.live 0 (fillL cBo [.bool false] l zz))) (fun zz => 1) (fun zz => l.length - zz) (fun zz => zz ≤ l.length) (by (first | simp (maxSteps := 4000000) (disch := omega) only [go_sem, w64, AndB_of, IfB_of, IfB_no, pickE_of, pickE_no, ite_of, ite_no, tdivE, tmodE, takeAll, hH] | simp (maxSteps := 4000000) (disch := omega) only [go_sem, w64, AndB_of, IfB_of, IfB_no, pickE_of, pickE_no, ite_of, ite_no, tdivE, tmodE, takeAll]); ((repeat' apply And.intro) <;> first | (exact Weak.go (by (first | (simp [wkL]; done) | (simp [wkL]; omega))) (fun zi => by first | exact .inl rfl | exact .inr rfl | (simp only [upd]; repeat' split) <;> first | exact .inl rfl | exact .inr rfl | (exfalso; omega) | exact .inr (hd _ (by omega)) | (left; subst_vars; exact hH.symm) | (left; subst_vars; rfl) | (left; simp; done) | (left; simp; omega)) (by omega)) | omega | rfl | assumption | exact Flat.nil | exact ⟨_, rfl, rfl, by assumption⟩ | (simp; done) | (simp; omega))) ?_
  intro k zh
  have hk := zh
  simp (maxSteps := 4000000) (disch := omega) only [go_sem, w64, AndB_of, IfB_of, IfB_no, pickE_of, pickE_no, ite_of, ite_no, tdivE, tmodE, takeAll]
  refine IfB.dec (fun hlt => ?_) (fun hlt => ?_)
  · have hlt' : k < l.length := by omega
    simp (maxSteps := 4000000) (disch := omega) only [go_sem, w64, AndB_of, IfB_of, IfB_no, pickE_of, pickE_no, ite_of, ite_no, tdivE, tmodE, takeAll]
    ((repeat' apply And.intro) <;> first | (exact Weak.go (by (first | (simp [wkL]; done) | (simp [wkL]; omega))) (fun zi => by first | exact .inl rfl | exact .inr rfl | (simp only [upd]; repeat' split) <;> first | exact .inl rfl | exact .inr rfl | (exfalso; omega) | exact .inr (hd _ (by omega)) | (left; subst_vars; exact hH.symm) | (left; subst_vars; rfl) | (left; simp; done) | (left; simp; omega)) (by omega)) | omega | rfl | assumption | exact Flat.nil | exact ⟨_, rfl, rfl, by assumption⟩ | (simp; done) | (simp; omega))
  · have : k = l.length := by omega
    subst this
    simp (maxSteps := 4000000) (disch := omega) only [go_sem, w64, AndB_of, IfB_of, IfB_no, pickE_of, pickE_no, ite_of, ite_no, tdivE, tmodE, takeAll, fillL_all]
theorem e_eqBoolS (l : List Bool) (hb : l.length ≤ 1048576) : QCall Try.prog 114 [boolsA l, boolsA l] (.bool true) := by
  have hl : l.length ≤ 1048576 := hb
  refine qcall_body mixed Try.func114 _ (by unfold Try.f114; rfl) Try.ntmps114 Try.results114 (by decide) 0 (by simp) (by simp [pureL, pureA]) ?_
  unfold boolsA
  simp (maxSteps := 4000000) (disch := omega) only [go_sem, w64, AndB_of, IfB_of, IfB_no, pickE_of, pickE_no, ite_of, ite_no, tdivE, tmodE, takeAll]
  refine LoopB.auto (fun zs => (intOf (slotOf zs 5)).toNat) (fun zz => [(0, none), (0, none), (3, some (.int .i64 (zz : Int)))]) (fun zz => noH) (fun zz => 0) (fun zz => l.length - zz) (fun zz => zz ≤ l.length) (by (first | simp (maxSteps := 4000000) (disch := omega) only [go_sem, w64, AndB_of, IfB_of, IfB_no, pickE_of, pickE_no, ite_of, ite_no, tdivE, tmodE, takeAll, hH] | simp (maxSteps := 4000000) (disch := omega) only [go_sem, w64, AndB_of, IfB_of, IfB_no, pickE_of, pickE_no, ite_of, ite_no, tdivE, tmodE, takeAll]); ((repeat' apply And.intro) <;> first | (exact Weak.go (by (first | (simp [wkL]; done) | (simp [wkL]; omega))) (fun zi => by first | exact .inl rfl | exact .inr rfl | (simp only [upd]; repeat' split) <;> first | exact .inl rfl | exact .inr rfl | (exfalso; omega) | exact .inr (hd _ (by omega)) | (left; subst_vars; exact hH.symm) | (left; subst_vars; rfl) | (left; simp; done) | (left; simp; omega)) (by omega)) | omega | rfl | assumption | exact Flat.nil | exact ⟨_, rfl, rfl, by assumption⟩ | (simp; done) | (simp; omega))) ?_
  intro k zh
  have hk := zh
  simp (maxSteps := 4000000) (disch := omega) only [go_sem, w64, AndB_of, IfB_of, IfB_no, pickE_of, pickE_no, ite_of, ite_no, tdivE, tmodE, takeAll]
  refine IfB.dec (fun hlt => ?_) (fun hlt => ?_)
  · have hlt' : k < l.length := by omega
    simp (maxSteps := 4000000) (disch := omega) only [go_sem, w64, AndB_of, IfB_of, IfB_no, pickE_of, pickE_no, ite_of, ite_no, tdivE, tmodE, takeAll]
    refine DrawB.quiet (by kernel_rfl) ?_
    simp (maxSteps := 4000000) (disch := omega) only [go_sem, w64, AndB_of, IfB_of, IfB_no, pickE_of, pickE_no, ite_of, ite_no, tdivE, tmodE, takeAll]
    ((repeat' apply And.intro) <;> first | (exact Weak.go (by (first | (simp [wkL]; done) | (simp [wkL]; omega))) (fun zi => by first | exact .inl rfl | exact .inr rfl | (simp only [upd]; repeat' split) <;> first | exact .inl rfl | exact .inr rfl | (exfalso; omega) | exact .inr (hd _ (by omega)) | (left; subst_vars; exact hH.symm) | (left; subst_vars; rfl) | (left; simp; done) | (left; simp; omega)) (by omega)) | omega | rfl | assumption | exact Flat.nil | exact ⟨_, rfl, rfl, by assumption⟩ | (simp; done) | (simp; omega))
  · simp (maxSteps := 4000000) (disch := omega) only [go_sem, w64, AndB_of, IfB_of, IfB_no, pickE_of, pickE_no, ite_of, ite_no, tdivE, tmodE, takeAll]
theorem x_szBatch (v : GBt) (left : Int) (h0 : 0 ≤ left) (h1 : left ≤ 1048576) (hL : BtBL v) : ∃ R, (∃ r : Int, R = .int .i64 r ∧ r ≤ left ∧ (0 ≤ r → BtB v)) ∧ QCall Try.prog 47 [.agg [rowsA v.cols, boolsA v.picked], .int .i64 left] R := by
  unfold BtBL at hL
  refine qex_of (by simp [pureL, pureA]) 1 ?_
  refine dcall_body mixed Try.func47 _ (by unfold Try.f47; rfl) Try.ntmps47 Try.results47 (by decide) (by simp) ?_
  simp (maxSteps := 4000000) (disch := omega) only [go_sem, w64, AndB_of, IfB_of, IfB_no, pickE_of, pickE_no, ite_of, ite_no, tdivE, tmodE, takeAll]
  obtain ⟨_, ⟨r0, rfl, hr0, hs0⟩, hq0⟩ := x_szValueSS v.cols left (by omega) (by omega) hL.1
  apply CallB.q hq0
  simp (maxSteps := 4000000) (disch := omega) only [go_sem, w64, AndB_of, IfB_of, IfB_no, pickE_of, pickE_no, ite_of, ite_no, tdivE, tmodE, takeAll]
  refine IfB.dec (fun h => ?_) (fun g0 => ?_)
  · simp (maxSteps := 4000000) (disch := omega) only [go_sem, w64, AndB_of, IfB_of, IfB_no, pickE_of, pickE_no, ite_of, ite_no, tdivE, tmodE, takeAll]
    exact ⟨-1, rfl, by omega, fun h => by omega⟩
  simp (maxSteps := 4000000) (disch := omega) only [go_sem, w64, AndB_of, IfB_of, IfB_no, pickE_of, pickE_no, ite_of, ite_no, tdivE, tmodE, takeAll]
  obtain ⟨_, ⟨r1, rfl, hr1, hs1⟩, hq1⟩ := x_szBoolS v.picked r0 (by omega) (by omega) hL.2
  apply CallB.q hq1
  simp (maxSteps := 4000000) (disch := omega) only [go_sem, w64, AndB_of, IfB_of, IfB_no, pickE_of, pickE_no, ite_of, ite_no, tdivE, tmodE, takeAll]
  refine IfB.dec (fun h => ?_) (fun g1 => ?_)
  · simp (maxSteps := 4000000) (disch := omega) only [go_sem, w64, AndB_of, IfB_of, IfB_no, pickE_of, pickE_no, ite_of, ite_no, tdivE, tmodE, takeAll]
    exact ⟨-1, rfl, by omega, fun h => by omega⟩
  simp (maxSteps := 4000000) (disch := omega) only [go_sem, w64, AndB_of, IfB_of, IfB_no, pickE_of, pickE_no, ite_of, ite_no, tdivE, tmodE, takeAll]
  exact ⟨r1, rfl, by omega, fun _ => ⟨hs0 (by omega), hs1 (by omega)⟩⟩
theorem t_toBatch (v : GBt) (hb : BtB v) : QCall Try.prog 48 [.agg [rowsA v.cols, boolsA v.picked]] (.agg [rowsA v.cols, boolsA v.picked]) := by
  refine qcall_body mixed Try.func48 _ (by unfold Try.f48; rfl) Try.ntmps48 Try.results48 (by decide) 0 (by simp) (by simp [pureL, pureA]) ?_
  simp (maxSteps := 4000000) (disch := omega) only [go_sem, w64, AndB_of, IfB_of, IfB_no, pickE_of, pickE_no, ite_of, ite_no, tdivE, tmodE, takeAll]
  apply CallB.q (t_toValueSS v.cols (hb.1))
  simp (maxSteps := 4000000) (disch := omega) only [go_sem, w64, AndB_of, IfB_of, IfB_no, pickE_of, pickE_no, ite_of, ite_no, tdivE, tmodE, takeAll]
  apply CallB.q (t_toBoolS v.picked (hb.2))
  simp (maxSteps := 4000000) (disch := omega) only [go_sem, w64, AndB_of, IfB_of, IfB_no, pickE_of, pickE_no, ite_of, ite_no, tdivE, tmodE, takeAll]
theorem e_eqBatch (v : GBt) (hb : BtB v) : QCall Try.prog 49 [.agg [rowsA v.cols, boolsA v.picked], .agg [rowsA v.cols, boolsA v.picked]] (.bool true) := by
  refine qcall_body mixed Try.func49 _ (by unfold Try.f49; rfl) Try.ntmps49 Try.results49 (by decide) 0 (by simp) (by simp [pureL, pureA]) ?_
  simp (maxSteps := 4000000) (disch := omega) only [go_sem, w64, AndB_of, IfB_of, IfB_no, pickE_of, pickE_no, ite_of, ite_no, tdivE, tmodE, takeAll]
  apply CallB.q (e_eqValueSS v.cols (hb.1))
  simp (maxSteps := 4000000) (disch := omega) only [go_sem, w64, AndB_of, IfB_of, IfB_no, pickE_of, pickE_no, ite_of, ite_no, tdivE, tmodE, takeAll]
  apply CallB.q (e_eqBoolS v.picked (hb.2))
  simp (maxSteps := 4000000) (disch := omega) only [go_sem, w64, AndB_of, IfB_of, IfB_no, pickE_of, pickE_no, ite_of, ite_no, tdivE, tmodE, takeAll]
theorem t_toColumn (v : GCol)  : QCall Try.prog 102 [.agg [.int .i64 v.k, .bool v.e]] (.agg [.int .i64 v.k, .bool v.e]) := by
  refine qcall_body mixed Try.func102 _ (by unfold Try.f102; rfl) Try.ntmps102 Try.results102 (by decide) 0 (by simp) (by simp [pureL, pureA]) ?_
  simp (maxSteps := 4000000) (disch := omega) only [go_sem, w64, AndB_of, IfB_of, IfB_no, pickE_of, pickE_no, ite_of, ite_no, tdivE, tmodE, takeAll]
theorem e_eqColumn (v : GCol)  : QCall Try.prog 108 [.agg [.int .i64 v.k, .bool v.e], .agg [.int .i64 v.k, .bool v.e]] (.bool true) := by
  refine qcall_body mixed Try.func108 _ (by unfold Try.f108; rfl) Try.ntmps108 Try.results108 (by decide) 0 (by simp) (by simp [pureL, pureA]) ?_
  simp (maxSteps := 4000000) (disch := omega) only [go_sem, w64, AndB_of, IfB_of, IfB_no, pickE_of, pickE_no, ite_of, ite_no, tdivE, tmodE, takeAll]
theorem x_szColumnS (l : List GCol) (left : Int) (h0 : 0 ≤ left) (h1 : left ≤ 1048576) (hL : l.length ≤ 9223372036854775807) : ∃ R, (∃ r : Int, R = .int .i64 r ∧ r ≤ left ∧ (0 ≤ r → l.length ≤ 1048576)) ∧ QCall Try.prog 36 [colsA l, .int .i64 left] R := by
  refine qex_of (by simp [pureL, pureA]) 1 ?_
  refine dcall_body mixed Try.func36 _ (by unfold Try.f36; rfl) Try.ntmps36 Try.results36 (by decide) (by simp) ?_
  simp (maxSteps := 4000000) (disch := omega) only [go_sem, w64, AndB_of, IfB_of, IfB_no, pickE_of, pickE_no, ite_of, ite_no, tdivE, tmodE, takeAll]
  refine IfB.dec (fun h => ?_) (fun h => ?_)
  · simp (maxSteps := 4000000) (disch := omega) only [go_sem, w64, AndB_of, IfB_of, IfB_no, pickE_of, pickE_no, ite_of, ite_no, tdivE, tmodE, takeAll]
    exact ⟨-1, rfl, by omega, fun h => by omega⟩
  · simp (maxSteps := 4000000) (disch := omega) only [go_sem, w64, AndB_of, IfB_of, IfB_no, pickE_of, pickE_no, ite_of, ite_no, tdivE, tmodE, takeAll]
    exact ⟨_, rfl, by omega, fun _ => by omega⟩
theorem t_toColumnS (l : List GCol) (hb : l.length ≤ 1048576) : QCall Try.prog 39 [colsA l] (colsA l) := by
  have hl : l.length ≤ 1048576 := hb
  refine qcall_body mixed Try.func39 _ (by unfold Try.f39; rfl) Try.ntmps39 Try.results39 (by decide) 1 (by simp) (by simp [pureL, pureA]) ?_
  unfold colsA
  simp (maxSteps := 4000000) (disch := omega) only [go_sem, w64, AndB_of, IfB_of, IfB_no, pickE_of, pickE_no, ite_of, ite_no, tdivE, tmodE, takeAll, fillL_zero (c := GCol.c) l]
  refine LoopB.auto (fun zs => (intOf (slotOf zs 4)).toNat) (fun zz => [(0, none), (2, none), (0, some (.int .i64 (zz : Int)))]) (fun zz => upd noH 0 (.live 0 (fillL GCol.c zCol l zz))) (fun zz => 1) (fun zz => l.length - zz) (fun zz => zz ≤ l.length) (by (first | simp (maxSteps := 4000000) (disch := omega) only [go_sem, w64, AndB_of, IfB_of, IfB_no, pickE_of, pickE_no, ite_of, ite_no, tdivE, tmodE, takeAll, hH] | simp (maxSteps := 4000000) (disch := omega) only [go_sem, w64, AndB_of, IfB_of, IfB_no, pickE_of, pickE_no, ite_of, ite_no, tdivE, tmodE, takeAll]); ((repeat' apply And.intro) <;> first | (exact Weak.go (by (first | (simp [wkL]; done) | (simp [wkL]; omega))) (fun zi => by first | exact .inl rfl | exact .inr rfl | (simp only [upd]; repeat' split) <;> first | exact .inl rfl | exact .inr rfl | (exfalso; omega) | exact .inr (hd _ (by omega)) | (left; subst_vars; exact hH.symm) | (left; subst_vars; rfl) | (left; simp; done) | (left; simp; omega)) (by omega)) | omega | rfl | assumption | exact Flat.nil | exact ⟨_, rfl, rfl, by assumption⟩ | (simp; done) | (simp; omega))) ?_
  intro k zh
  have hk := zh
  simp (maxSteps := 4000000) (disch := omega) only [go_sem, w64, AndB_of, IfB_of, IfB_no, pickE_of, pickE_no, ite_of, ite_no, tdivE, tmodE, takeAll]
  refine IfB.dec (fun hlt => ?_) (fun hlt => ?_)
  · have hlt' : k < l.length := by omega
    simp (maxSteps := 4000000) (disch := omega) only [go_sem, w64, AndB_of, IfB_of, IfB_no, pickE_of, pickE_no, ite_of, ite_no, tdivE, tmodE, takeAll]
    apply CallB.q (t_toColumn l[k])
    simp (maxSteps := 4000000) (disch := omega) only [go_sem, w64, AndB_of, IfB_of, IfB_no, pickE_of, pickE_no, ite_of, ite_no, tdivE, tmodE, takeAll]
    ((repeat' apply And.intro) <;> first | (exact Weak.go (by (first | (simp [wkL]; done) | (simp [wkL]; omega))) (fun zi => by first | exact .inl rfl | exact .inr rfl | (simp only [upd]; repeat' split) <;> first | exact .inl rfl | exact .inr rfl | (exfalso; omega) | exact .inr (hd _ (by omega)) | (left; subst_vars; exact hH.symm) | (left; subst_vars; rfl) | (left; simp; done) | (left; simp; omega)) (by omega)) | omega | rfl | assumption | exact Flat.nil | exact ⟨_, rfl, rfl, by assumption⟩ | (simp; done) | (simp; omega))
  · have : k = l.length := by omega
    subst this
    simp (maxSteps := 4000000) (disch := omega) only [go_sem, w64, AndB_of, IfB_of, IfB_no, pickE_of, pickE_no, ite_of, ite_no, tdivE, tmodE, takeAll, fillL_all]
theorem e_eqColumnS (l : List GCol) (hb : l.length ≤ 1048576) : QCall Try.prog 42 [colsA l, colsA l] (.bool true) := by
  have hl : l.length ≤ 1048576 := hb
  refine qcall_body mixed Try.func42 _ (by unfold Try.f42; rfl) Try.ntmps42 Try.results42 (by decide) 0 (by simp) (by simp [pureL, pureA]) ?_
  unfold colsA
  simp (maxSteps := 4000000) (disch := omega) only [go_sem, w64, AndB_of, IfB_of, IfB_no, pickE_of, pickE_no, ite_of, ite_no, tdivE, tmodE, takeAll]
  refine LoopB.auto (fun zs => (intOf (slotOf zs 5)).toNat) (fun zz => [(0, none), (0, none), (3, some (.int .i64 (zz : Int)))]) (fun zz => noH) (fun zz => 0) (fun zz => l.length - zz) (fun zz => zz ≤ l.length) (by (first | simp (maxSteps := 4000000) (disch := omega) only [go_sem, w64, AndB_of, IfB_of, IfB_no, pickE_of, pickE_no, ite_of, ite_no, tdivE, tmodE, takeAll, hH] | simp (maxSteps := 4000000) (disch := omega) only [go_sem, w64, AndB_of, IfB_of, IfB_no, pickE_of, pickE_no, ite_of, ite_no, tdivE, tmodE, takeAll]); ((repeat' apply And.intro) <;> first | (exact Weak.go (by (first | (simp [wkL]; done) | (simp [wkL]; omega))) (fun zi => by first | exact .inl rfl | exact .inr rfl | (simp only [upd]; repeat' split) <;> first | exact .inl rfl | exact .inr rfl | (exfalso; omega) | exact .inr (hd _ (by omega)) | (left; subst_vars; exact hH.symm) | (left; subst_vars; rfl) | (left; simp; done) | (left; simp; omega)) (by omega)) | omega | rfl | assumption | exact Flat.nil | exact ⟨_, rfl, rfl, by assumption⟩ | (simp; done) | (simp; omega))) ?_
  intro k zh
  have hk := zh
  simp (maxSteps := 4000000) (disch := omega) only [go_sem, w64, AndB_of, IfB_of, IfB_no, pickE_of, pickE_no, ite_of, ite_no, tdivE, tmodE, takeAll]
  refine IfB.dec (fun hlt => ?_) (fun hlt => ?_)
  · have hlt' : k < l.length := by omega
    simp (maxSteps := 4000000) (disch := omega) only [go_sem, w64, AndB_of, IfB_of, IfB_no, pickE_of, pickE_no, ite_of, ite_no, tdivE, tmodE, takeAll]
    refine DrawB.quiet (by kernel_rfl) ?_
    simp (maxSteps := 4000000) (disch := omega) only [go_sem, w64, AndB_of, IfB_of, IfB_no, pickE_of, pickE_no, ite_of, ite_no, tdivE, tmodE, takeAll]
    refine DCallB.q0 (e_eqColumn l[k]) ?_
    simp (maxSteps := 4000000) (disch := omega) only [go_sem, w64, AndB_of, IfB_of, IfB_no, pickE_of, pickE_no, ite_of, ite_no, tdivE, tmodE, takeAll]
    ((repeat' apply And.intro) <;> first | (exact Weak.go (by (first | (simp [wkL]; done) | (simp [wkL]; omega))) (fun zi => by first | exact .inl rfl | exact .inr rfl | (simp only [upd]; repeat' split) <;> first | exact .inl rfl | exact .inr rfl | (exfalso; omega) | exact .inr (hd _ (by omega)) | (left; subst_vars; exact hH.symm) | (left; subst_vars; rfl) | (left; simp; done) | (left; simp; omega)) (by omega)) | omega | rfl | assumption | exact Flat.nil | exact ⟨_, rfl, rfl, by assumption⟩ | (simp; done) | (simp; omega))
  · simp (maxSteps := 4000000) (disch := omega) only [go_sem, w64, AndB_of, IfB_of, IfB_no, pickE_of, pickE_no, ite_of, ite_no, tdivE, tmodE, takeAll]
theorem x_szPart (v : GPt) (left : Int) (h0 : 0 ≤ left) (h1 : left ≤ 1048576) (hL : PtBL v) : ∃ R, (∃ r : Int, R = .int .i64 r ∧ r ≤ left ∧ (0 ≤ r → PtB v)) ∧ QCall Try.prog 99 [.agg [.int .i64 v.k, .int .i64 v.n, .int .i64 v.v.k, .int .i64 v.v.n, .str v.v.s], .int .i64 left] R := by
  unfold PtBL at hL
  refine qex_of (by simp [pureL, pureA]) 1 ?_
  refine dcall_body mixed Try.func99 _ (by unfold Try.f99; rfl) Try.ntmps99 Try.results99 (by decide) (by simp) ?_
  simp (maxSteps := 4000000) (disch := omega) only [go_sem, w64, AndB_of, IfB_of, IfB_no, pickE_of, pickE_no, ite_of, ite_no, tdivE, tmodE, takeAll]
  obtain ⟨_, ⟨r0, rfl, hr0, hs0⟩, hq0⟩ := x_szValue v.v left (by omega) (by omega) hL
  apply CallB.q hq0
  simp (maxSteps := 4000000) (disch := omega) only [go_sem, w64, AndB_of, IfB_of, IfB_no, pickE_of, pickE_no, ite_of, ite_no, tdivE, tmodE, takeAll]
  refine IfB.dec (fun h => ?_) (fun g0 => ?_)
  · simp (maxSteps := 4000000) (disch := omega) only [go_sem, w64, AndB_of, IfB_of, IfB_no, pickE_of, pickE_no, ite_of, ite_no, tdivE, tmodE, takeAll]
    exact ⟨-1, rfl, by omega, fun h => by omega⟩
  simp (maxSteps := 4000000) (disch := omega) only [go_sem, w64, AndB_of, IfB_of, IfB_no, pickE_of, pickE_no, ite_of, ite_no, tdivE, tmodE, takeAll]
  exact ⟨r0, rfl, by omega, fun _ => hs0 (by omega)⟩
theorem t_toPart (v : GPt) (hb : PtB v) : QCall Try.prog 103 [.agg [.int .i64 v.k, .int .i64 v.n, .int .i64 v.v.k, .int .i64 v.v.n, .str v.v.s]] (.agg [.int .i64 v.k, .int .i64 v.n, .int .i64 v.v.k, .int .i64 v.v.n, .str v.v.s]) := by
  refine qcall_body mixed Try.func103 _ (by unfold Try.f103; rfl) Try.ntmps103 Try.results103 (by decide) 0 (by simp) (by simp [pureL, pureA]) ?_
  simp (maxSteps := 4000000) (disch := omega) only [go_sem, w64, AndB_of, IfB_of, IfB_no, pickE_of, pickE_no, ite_of, ite_no, tdivE, tmodE, takeAll]
  apply CallB.q (t_toValue v.v (hb))
  simp (maxSteps := 4000000) (disch := omega) only [go_sem, w64, AndB_of, IfB_of, IfB_no, pickE_of, pickE_no, ite_of, ite_no, tdivE, tmodE, takeAll]
theorem e_eqPart (v : GPt) (hb : PtB v) : QCall Try.prog 109 [.agg [.int .i64 v.k, .int .i64 v.n, .int .i64 v.v.k, .int .i64 v.v.n, .str v.v.s], .agg [.int .i64 v.k, .int .i64 v.n, .int .i64 v.v.k, .int .i64 v.v.n, .str v.v.s]] (.bool true) := by
  refine qcall_body mixed Try.func109 _ (by unfold Try.f109; rfl) Try.ntmps109 Try.results109 (by decide) 0 (by simp) (by simp [pureL, pureA]) ?_
  simp (maxSteps := 4000000) (disch := omega) only [go_sem, w64, AndB_of, IfB_of, IfB_no, pickE_of, pickE_no, ite_of, ite_no, tdivE, tmodE, takeAll]
  apply CallB.q (e_eqValue v.v (hb))
  simp (maxSteps := 4000000) (disch := omega) only [go_sem, w64, AndB_of, IfB_of, IfB_no, pickE_of, pickE_no, ite_of, ite_no, tdivE, tmodE, takeAll]
theorem x_szPartS (l : List GPt) (left : Int) (h0 : 0 ≤ left) (h1 : left ≤ 1048576) (hL : l.length ≤ 9223372036854775807 ∧ ∀ v ∈ l, PtBL v) : ∃ R, (∃ r : Int, R = .int .i64 r ∧ r ≤ left ∧ (0 ≤ r → l.length ≤ 1048576 ∧ ∀ v ∈ l, PtB v)) ∧ QCall Try.prog 37 [partsA l, .int .i64 left] R := by
  have hLl := hL.1
  refine qex_of (by simp [pureL, pureA]) 1 ?_
  refine dcall_body mixed Try.func37 _ (by unfold Try.f37; rfl) Try.ntmps37 Try.results37 (by decide) (by simp) ?_
  unfold partsA
  simp (maxSteps := 4000000) (disch := omega) only [go_sem, w64, AndB_of, IfB_of, IfB_no, pickE_of, pickE_no, ite_of, ite_no, tdivE, tmodE, takeAll]
  refine IfB.dec (fun h => ?_) (fun h => ?_)
  · simp (maxSteps := 4000000) (disch := omega) only [go_sem, w64, AndB_of, IfB_of, IfB_no, pickE_of, pickE_no, ite_of, ite_no, tdivE, tmodE, takeAll]
    exact ⟨-1, rfl, by omega, fun h => by omega⟩
  · simp (maxSteps := 4000000) (disch := omega) only [go_sem, w64, AndB_of, IfB_of, IfB_no, pickE_of, pickE_no, ite_of, ite_no, tdivE, tmodE, takeAll]
    refine LoopB.auto (fun zs => (intOf (slotOf zs 1), (intOf (slotOf zs 5)).toNat)) (fun zz => [(0, none), (0, some (.int .i64 (zz.1 : Int))), (3, some (.int .i64 (zz.2 : Int)))]) (fun zz => noH) (fun zz => 0) (fun zz => l.length - zz.2) (fun zz => zz.2 ≤ l.length ∧ 0 ≤ zz.1 ∧ zz.1 ≤ left ∧ ∀ v ∈ l.take zz.2, PtB v) (by (first | simp (maxSteps := 4000000) (disch := omega) only [go_sem, w64, AndB_of, IfB_of, IfB_no, pickE_of, pickE_no, ite_of, ite_no, tdivE, tmodE, takeAll, hH] | simp (maxSteps := 4000000) (disch := omega) only [go_sem, w64, AndB_of, IfB_of, IfB_no, pickE_of, pickE_no, ite_of, ite_no, tdivE, tmodE, takeAll]); ((repeat' apply And.intro) <;> first | (exact Weak.go (by (first | (simp [wkL]; done) | (simp [wkL]; omega))) (fun zi => by first | exact .inl rfl | exact .inr rfl | (simp only [upd]; repeat' split) <;> first | exact .inl rfl | exact .inr rfl | (exfalso; omega) | exact .inr (hd _ (by omega)) | (left; subst_vars; exact hH.symm) | (left; subst_vars; rfl) | (left; simp; done) | (left; simp; omega)) (by omega)) | omega | rfl | assumption | exact Flat.nil | exact ⟨_, rfl, rfl, by assumption⟩ | (simp; done) | (simp; omega))) ?_
    intro zz zh
    obtain ⟨cur, k⟩ := zz
    dsimp only at zh
    obtain ⟨hk, hc0, hc1, hall⟩ := zh
    simp (maxSteps := 4000000) (disch := omega) only [go_sem, w64, AndB_of, IfB_of, IfB_no, pickE_of, pickE_no, ite_of, ite_no, tdivE, tmodE, takeAll]
    refine IfB.dec (fun hlt => ?_) (fun hlt => ?_)
    · have hlt' : k < l.length := by omega
      obtain ⟨_, ⟨r, rfl, hr1, hr2⟩, hq⟩ := x_szPart l[k] cur hc0 (by omega) (hL.2 _ (List.getElem_mem hlt'))
      simp (maxSteps := 4000000) (disch := omega) only [go_sem, w64, AndB_of, IfB_of, IfB_no, pickE_of, pickE_no, ite_of, ite_no, tdivE, tmodE, takeAll]
      apply CallB.q hq
      simp (maxSteps := 4000000) (disch := omega) only [go_sem, w64, AndB_of, IfB_of, IfB_no, pickE_of, pickE_no, ite_of, ite_no, tdivE, tmodE, takeAll]
      refine IfB.dec (fun h => ?_) (fun h => ?_)
      · simp (maxSteps := 4000000) (disch := omega) only [go_sem, w64, AndB_of, IfB_of, IfB_no, pickE_of, pickE_no, ite_of, ite_no, tdivE, tmodE, takeAll]
        exact ⟨-1, rfl, by omega, fun h => by omega⟩
      · simp (maxSteps := 4000000) (disch := omega) only [go_sem, w64, AndB_of, IfB_of, IfB_no, pickE_of, pickE_no, ite_of, ite_no, tdivE, tmodE, takeAll]
        ((repeat' apply And.intro) <;> first | exact allTake hlt' hall (hr2 (by omega)) | exact allTake0 | (exact Weak.go (by (first | (simp [wkL]; done) | (simp [wkL]; omega))) (fun zi => by first | exact .inl rfl | exact .inr rfl | (simp only [upd]; repeat' split) <;> first | exact allTake hlt' hall (hr2 (by omega)) | exact allTake0 | exact .inl rfl | exact .inr rfl | (exfalso; omega) | exact .inr (hd _ (by omega)) | (left; subst_vars; exact hH.symm) | (left; subst_vars; rfl) | (left; simp; done) | (left; simp; omega)) (by omega)) | omega | rfl | assumption | exact Flat.nil | exact ⟨_, rfl, rfl, by assumption⟩ | (simp; done) | (simp; omega))
    · simp (maxSteps := 4000000) (disch := omega) only [go_sem, w64, AndB_of, IfB_of, IfB_no, pickE_of, pickE_no, ite_of, ite_no, tdivE, tmodE, takeAll]
      exact ⟨cur, rfl, by omega, fun _ => ⟨by omega, allEnd (by omega) hall⟩⟩
theorem t_toPartS (l : List GPt) (hb : l.length ≤ 1048576 ∧ ∀ v ∈ l, PtB v) : QCall Try.prog 40 [partsA l] (partsA l) := by
  have hl : l.length ≤ 1048576 := hb.1
  refine qcall_body mixed Try.func40 _ (by unfold Try.f40; rfl) Try.ntmps40 Try.results40 (by decide) 1 (by simp) (by simp [pureL, pureA]) ?_
  unfold partsA
  simp (maxSteps := 4000000) (disch := omega) only [go_sem, w64, AndB_of, IfB_of, IfB_no, pickE_of, pickE_no, ite_of, ite_no, tdivE, tmodE, takeAll, fillL_zero (c := GPt.c) l]
  refine LoopB.auto (fun zs => (intOf (slotOf zs 4)).toNat) (fun zz => [(0, none), (2, none), (0, some (.int .i64 (zz : Int)))]) (fun zz => upd noH 0 (.live 0 (fillL GPt.c zPt l zz))) (fun zz => 1) (fun zz => l.length - zz) (fun zz => zz ≤ l.length) (by (first | simp (maxSteps := 4000000) (disch := omega) only [go_sem, w64, AndB_of, IfB_of, IfB_no, pickE_of, pickE_no, ite_of, ite_no, tdivE, tmodE, takeAll, hH] | simp (maxSteps := 4000000) (disch := omega) only [go_sem, w64, AndB_of, IfB_of, IfB_no, pickE_of, pickE_no, ite_of, ite_no, tdivE, tmodE, takeAll]); ((repeat' apply And.intro) <;> first | (exact Weak.go (by (first | (simp [wkL]; done) | (simp [wkL]; omega))) (fun zi => by first | exact .inl rfl | exact .inr rfl | (simp only [upd]; repeat' split) <;> first | exact .inl rfl | exact .inr rfl | (exfalso; omega) | exact .inr (hd _ (by omega)) | (left; subst_vars; exact hH.symm) | (left; subst_vars; rfl) | (left; simp; done) | (left; simp; omega)) (by omega)) | omega | rfl | assumption | exact Flat.nil | exact ⟨_, rfl, rfl, by assumption⟩ | (simp; done) | (simp; omega))) ?_
  intro k zh
  have hk := zh
  simp (maxSteps := 4000000) (disch := omega) only [go_sem, w64, AndB_of, IfB_of, IfB_no, pickE_of, pickE_no, ite_of, ite_no, tdivE, tmodE, takeAll]
  refine IfB.dec (fun hlt => ?_) (fun hlt => ?_)
  · have hlt' : k < l.length := by omega
    simp (maxSteps := 4000000) (disch := omega) only [go_sem, w64, AndB_of, IfB_of, IfB_no, pickE_of, pickE_no, ite_of, ite_no, tdivE, tmodE, takeAll]
    apply CallB.q (t_toPart l[k] (hb.2 _ (List.getElem_mem hlt')))
    simp (maxSteps := 4000000) (disch := omega) only [go_sem, w64, AndB_of, IfB_of, IfB_no, pickE_of, pickE_no, ite_of, ite_no, tdivE, tmodE, takeAll]
    ((repeat' apply And.intro) <;> first | (exact Weak.go (by (first | (simp [wkL]; done) | (simp [wkL]; omega))) (fun zi => by first | exact .inl rfl | exact .inr rfl | (simp only [upd]; repeat' split) <;> first | exact .inl rfl | exact .inr rfl | (exfalso; omega) | exact .inr (hd _ (by omega)) | (left; subst_vars; exact hH.symm) | (left; subst_vars; rfl) | (left; simp; done) | (left; simp; omega)) (by omega)) | omega | rfl | assumption | exact Flat.nil | exact ⟨_, rfl, rfl, by assumption⟩ | (simp; done) | (simp; omega))
  · have : k = l.length := by omega
    subst this
    simp (maxSteps := 4000000) (disch := omega) only [go_sem, w64, AndB_of, IfB_of, IfB_no, pickE_of, pickE_no, ite_of, ite_no, tdivE, tmodE, takeAll, fillL_all]
theorem e_eqPartS (l : List GPt) (hb : l.length ≤ 1048576 ∧ ∀ v ∈ l, PtB v) : QCall Try.prog 43 [partsA l, partsA l] (.bool true) := by
  have hl : l.length ≤ 1048576 := hb.1
  refine qcall_body mixed Try.func43 _ (by unfold Try.f43; rfl) Try.ntmps43 Try.results43 (by decide) 0 (by simp) (by simp [pureL, pureA]) ?_
  unfold partsA
  simp (maxSteps := 4000000) (disch := omega) only [go_sem, w64, AndB_of, IfB_of, IfB_no, pickE_of, pickE_no, ite_of, ite_no, tdivE, tmodE, takeAll]
  refine LoopB.auto (fun zs => (intOf (slotOf zs 5)).toNat) (fun zz => [(0, none), (0, none), (3, some (.int .i64 (zz : Int)))]) (fun zz => noH) (fun zz => 0) (fun zz => l.length - zz) (fun zz => zz ≤ l.length) (by (first | simp (maxSteps := 4000000) (disch := omega) only [go_sem, w64, AndB_of, IfB_of, IfB_no, pickE_of, pickE_no, ite_of, ite_no, tdivE, tmodE, takeAll, hH] | simp (maxSteps := 4000000) (disch := omega) only [go_sem, w64, AndB_of, IfB_of, IfB_no, pickE_of, pickE_no, ite_of, ite_no, tdivE, tmodE, takeAll]); ((repeat' apply And.intro) <;> first | (exact Weak.go (by (first | (simp [wkL]; done) | (simp [wkL]; omega))) (fun zi => by first | exact .inl rfl | exact .inr rfl | (simp only [upd]; repeat' split) <;> first | exact .inl rfl | exact .inr rfl | (exfalso; omega) | exact .inr (hd _ (by omega)) | (left; subst_vars; exact hH.symm) | (left; subst_vars; rfl) | (left; simp; done) | (left; simp; omega)) (by omega)) | omega | rfl | assumption | exact Flat.nil | exact ⟨_, rfl, rfl, by assumption⟩ | (simp; done) | (simp; omega))) ?_
  intro k zh
  have hk := zh
  simp (maxSteps := 4000000) (disch := omega) only [go_sem, w64, AndB_of, IfB_of, IfB_no, pickE_of, pickE_no, ite_of, ite_no, tdivE, tmodE, takeAll]
  refine IfB.dec (fun hlt => ?_) (fun hlt => ?_)
  · have hlt' : k < l.length := by omega
    simp (maxSteps := 4000000) (disch := omega) only [go_sem, w64, AndB_of, IfB_of, IfB_no, pickE_of, pickE_no, ite_of, ite_no, tdivE, tmodE, takeAll]
    refine DrawB.quiet (by kernel_rfl) ?_
    simp (maxSteps := 4000000) (disch := omega) only [go_sem, w64, AndB_of, IfB_of, IfB_no, pickE_of, pickE_no, ite_of, ite_no, tdivE, tmodE, takeAll]
    refine DCallB.q0 (e_eqPart l[k] (hb.2 _ (List.getElem_mem hlt'))) ?_
    simp (maxSteps := 4000000) (disch := omega) only [go_sem, w64, AndB_of, IfB_of, IfB_no, pickE_of, pickE_no, ite_of, ite_no, tdivE, tmodE, takeAll]
    ((repeat' apply And.intro) <;> first | (exact Weak.go (by (first | (simp [wkL]; done) | (simp [wkL]; omega))) (fun zi => by first | exact .inl rfl | exact .inr rfl | (simp only [upd]; repeat' split) <;> first | exact .inl rfl | exact .inr rfl | (exfalso; omega) | exact .inr (hd _ (by omega)) | (left; subst_vars; exact hH.symm) | (left; subst_vars; rfl) | (left; simp; done) | (left; simp; omega)) (by omega)) | omega | rfl | assumption | exact Flat.nil | exact ⟨_, rfl, rfl, by assumption⟩ | (simp; done) | (simp; omega))
  · simp (maxSteps := 4000000) (disch := omega) only [go_sem, w64, AndB_of, IfB_of, IfB_no, pickE_of, pickE_no, ite_of, ite_no, tdivE, tmodE, takeAll]
end Go.TH
