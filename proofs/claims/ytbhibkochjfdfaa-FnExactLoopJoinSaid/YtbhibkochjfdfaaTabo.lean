/- TH: sizes, copies, comparisons: the walks. Made by boil.py and gen.py. -/
import Derived.Test.YtbhibkochjfdfaaTav
import Derived.Test.YtbhibkochjfdfaaTa0
import Derived.Test.YtbhibkochjfdfaaTf3
namespace Go.TH
open Go Go.Proofs
set_option linter.unusedSimpArgs false
set_option linter.unusedVariables false
set_option maxHeartbeats 20000000
set_option maxRecDepth 100000
theorem x_szValue (v : GVal) (left : Int) (h0 : 0 ≤ left) (h1 : left ≤ 1048576) (hL : VBL v) : ∃ R, (∃ r : Int, R = .int .i64 r ∧ r ≤ left ∧ (0 ≤ r → VB v)) ∧ QCall Try.prog 94 [.agg [.int .i64 v.k, .int .i64 v.n, .str v.s], .int .i64 left] R :=
  ⟨_, ⟨szVal v left, rfl, by unfold szVal; split <;> omega, fun h => by unfold szVal at h; unfold VB; split at h <;> omega⟩, q_szValue v left h0 h1 hL⟩
theorem t_toValue (v : GVal) (hb : VB v) : QCall Try.prog 97 [.agg [.int .i64 v.k, .int .i64 v.n, .str v.s]] (.agg [.int .i64 v.k, .int .i64 v.n, .str v.s]) := q_toValue v
theorem e_eqValue (v : GVal) (hb : VB v) : QCall Try.prog 99 [.agg [.int .i64 v.k, .int .i64 v.n, .str v.s], .agg [.int .i64 v.k, .int .i64 v.n, .str v.s]] (.bool true) := by
  have := q_eqValue v v
  rwa [decide_eq_true rfl] at this
theorem x_szValueS (l : List GVal) (left : Int) (h0 : 0 ≤ left) (h1 : left ≤ 1048576) (hL : l.length ≤ 9223372036854775807 ∧ ∀ v ∈ l, VBL v) : ∃ R, (∃ r : Int, R = .int .i64 r ∧ r ≤ left ∧ (0 ≤ r → l.length ≤ 1048576 ∧ ∀ v ∈ l, VB v)) ∧ QCall Try.prog 27 [rowA l, .int .i64 left] R := by
  have hLl := hL.1
  refine qex_of (by simp [pureL, pureA]) 1 ?_
  refine dcall_body mixed Try.func27 _ (by unfold Try.f27; rfl) Try.ntmps27 Try.results27 (by decide) (by simp) ?_
  unfold rowA
  simp (maxSteps := 4000000) (disch := omega) only [go_sem, w64, AndB_of, IfB_of, IfB_no, pickE_of, pickE_no, ite_of, ite_no, tdivE, tmodE, takeAll]
  refine IfB.dec (fun h => ?_) (fun h => ?_)
  · simp (maxSteps := 4000000) (disch := omega) only [go_sem, w64, AndB_of, IfB_of, IfB_no, pickE_of, pickE_no, ite_of, ite_no, tdivE, tmodE, takeAll]
    exact ⟨-1, rfl, by omega, fun h => by omega⟩
  · simp (maxSteps := 4000000) (disch := omega) only [go_sem, w64, AndB_of, IfB_of, IfB_no, pickE_of, pickE_no, ite_of, ite_no, tdivE, tmodE, takeAll]
    refine LoopB.auto (fun zs => (intOf (slotOf zs 1), (intOf (slotOf zs 5)).toNat)) (fun zz => [(0, none), (0, some (.int .i64 (zz.1 : Int))), (3, some (.int .i64 (zz.2 : Int)))]) (fun zz => noH) (fun zz => 0) (fun zz => l.length - zz.2) (fun zz => zz.2 ≤ l.length ∧ 0 ≤ zz.1 ∧ zz.1 ≤ left ∧ ∀ v ∈ l.take zz.2, VB v) (by (first | simp (maxSteps := 4000000) (disch := omega) only [go_sem, w64, AndB_of, IfB_of, IfB_no, pickE_of, pickE_no, ite_of, ite_no, tdivE, tmodE, takeAll, hH] | simp (maxSteps := 4000000) (disch := omega) only [go_sem, w64, AndB_of, IfB_of, IfB_no, pickE_of, pickE_no, ite_of, ite_no, tdivE, tmodE, takeAll]); ((repeat' apply And.intro) <;> first | (exact Weak.go (by (first | (simp [wkL]; done) | (simp [wkL]; omega))) (fun zi => by first | exact .inl rfl | exact .inr rfl | (simp only [upd]; repeat' split) <;> first | exact .inl rfl | exact .inr rfl | (exfalso; omega) | exact .inr (hd _ (by omega)) | (left; subst_vars; exact hH.symm) | (left; subst_vars; rfl) | (left; simp; done) | (left; simp; omega)) (by omega)) | omega | rfl | assumption | exact Flat.nil | exact ⟨_, rfl, rfl, by assumption⟩ | (simp; done) | (simp; omega))) ?_
    intro zz zh
    obtain ⟨cur, k⟩ := zz
    dsimp only at zh
    obtain ⟨hk, hc0, hc1, hall⟩ := zh
    simp (maxSteps := 4000000) (disch := omega) only [go_sem, w64, AndB_of, IfB_of, IfB_no, pickE_of, pickE_no, ite_of, ite_no, tdivE, tmodE, takeAll]
    refine IfB.dec (fun hlt => ?_) (fun hlt => ?_)
    · have hlt' : k < l.length := by omega
      obtain ⟨_, ⟨r, rfl, hr1, hr2⟩, hq⟩ := x_szValue l[k] cur hc0 (by omega) (hL.2 _ (List.getElem_mem hlt'))
      simp (maxSteps := 4000000) (disch := omega) only [go_sem, w64, AndB_of, IfB_of, IfB_no, pickE_of, pickE_no, ite_of, ite_no, tdivE, tmodE, takeAll]
      apply CallB.q hq
      simp (maxSteps := 4000000) (disch := omega) only [go_sem, w64, AndB_of, IfB_of, IfB_no, pickE_of, pickE_no, ite_of, ite_no, tdivE, tmodE, takeAll]
      refine IfB.dec (fun h => ?_) (fun h => ?_)
      · simp (maxSteps := 4000000) (disch := omega) only [go_sem, w64, AndB_of, IfB_of, IfB_no, pickE_of, pickE_no, ite_of, ite_no, tdivE, tmodE, takeAll]
        exact ⟨-1, rfl, by omega, fun h => by omega⟩
      · simp (maxSteps := 4000000) (disch := omega) only [go_sem, w64, AndB_of, IfB_of, IfB_no, pickE_of, pickE_no, ite_of, ite_no, tdivE, tmodE, takeAll]
        ((repeat' apply And.intro) <;> first | exact allTake hlt' hall (hr2 (by omega)) | exact allTake0 | (exact Weak.go (by (first | (simp [wkL]; done) | (simp [wkL]; omega))) (fun zi => by first | exact .inl rfl | exact .inr rfl | (simp only [upd]; repeat' split) <;> first | exact allTake hlt' hall (hr2 (by omega)) | exact allTake0 | exact .inl rfl | exact .inr rfl | (exfalso; omega) | exact .inr (hd _ (by omega)) | (left; subst_vars; exact hH.symm) | (left; subst_vars; rfl) | (left; simp; done) | (left; simp; omega)) (by omega)) | omega | rfl | assumption | exact Flat.nil | exact ⟨_, rfl, rfl, by assumption⟩ | (simp; done) | (simp; omega))
    · simp (maxSteps := 4000000) (disch := omega) only [go_sem, w64, AndB_of, IfB_of, IfB_no, pickE_of, pickE_no, ite_of, ite_no, tdivE, tmodE, takeAll]
      exact ⟨cur, rfl, by omega, fun _ => ⟨by omega, allEnd (by omega) hall⟩⟩
theorem t_toValueS (l : List GVal) (hb : l.length ≤ 1048576 ∧ ∀ v ∈ l, VB v) : QCall Try.prog 29 [rowA l] (rowA l) := by
  have hl : l.length ≤ 1048576 := hb.1
  refine qcall_body mixed Try.func29 _ (by unfold Try.f29; rfl) Try.ntmps29 Try.results29 (by decide) 1 (by simp) (by simp [pureL, pureA]) ?_
  unfold rowA
  simp (maxSteps := 4000000) (disch := omega) only [go_sem, w64, AndB_of, IfB_of, IfB_no, pickE_of, pickE_no, ite_of, ite_no, tdivE, tmodE, takeAll, fillL_zero (c := GVal.c) l]
  refine LoopB.auto (fun zs => (intOf (slotOf zs 4)).toNat) (fun zz => [(0, none), (2, none), (0, some (.int .i64 (zz : Int)))]) (fun zz => upd noH 0 (.live 0 (fillL GVal.c zVal l zz))) (fun zz => 1) (fun zz => l.length - zz) (fun zz => zz ≤ l.length) (by (first | simp (maxSteps := 4000000) (disch := omega) only [go_sem, w64, AndB_of, IfB_of, IfB_no, pickE_of, pickE_no, ite_of, ite_no, tdivE, tmodE, takeAll, hH] | simp (maxSteps := 4000000) (disch := omega) only [go_sem, w64, AndB_of, IfB_of, IfB_no, pickE_of, pickE_no, ite_of, ite_no, tdivE, tmodE, takeAll]); ((repeat' apply And.intro) <;> first | (exact Weak.go (by (first | (simp [wkL]; done) | (simp [wkL]; omega))) (fun zi => by first | exact .inl rfl | exact .inr rfl | (simp only [upd]; repeat' split) <;> first | exact .inl rfl | exact .inr rfl | (exfalso; omega) | exact .inr (hd _ (by omega)) | (left; subst_vars; exact hH.symm) | (left; subst_vars; rfl) | (left; simp; done) | (left; simp; omega)) (by omega)) | omega | rfl | assumption | exact Flat.nil | exact ⟨_, rfl, rfl, by assumption⟩ | (simp; done) | (simp; omega))) ?_
  intro k zh
  have hk := zh
  simp (maxSteps := 4000000) (disch := omega) only [go_sem, w64, AndB_of, IfB_of, IfB_no, pickE_of, pickE_no, ite_of, ite_no, tdivE, tmodE, takeAll]
  refine IfB.dec (fun hlt => ?_) (fun hlt => ?_)
  · have hlt' : k < l.length := by omega
    simp (maxSteps := 4000000) (disch := omega) only [go_sem, w64, AndB_of, IfB_of, IfB_no, pickE_of, pickE_no, ite_of, ite_no, tdivE, tmodE, takeAll]
    apply CallB.q (t_toValue l[k] (hb.2 _ (List.getElem_mem hlt')))
    simp (maxSteps := 4000000) (disch := omega) only [go_sem, w64, AndB_of, IfB_of, IfB_no, pickE_of, pickE_no, ite_of, ite_no, tdivE, tmodE, takeAll]
    ((repeat' apply And.intro) <;> first | (exact Weak.go (by (first | (simp [wkL]; done) | (simp [wkL]; omega))) (fun zi => by first | exact .inl rfl | exact .inr rfl | (simp only [upd]; repeat' split) <;> first | exact .inl rfl | exact .inr rfl | (exfalso; omega) | exact .inr (hd _ (by omega)) | (left; subst_vars; exact hH.symm) | (left; subst_vars; rfl) | (left; simp; done) | (left; simp; omega)) (by omega)) | omega | rfl | assumption | exact Flat.nil | exact ⟨_, rfl, rfl, by assumption⟩ | (simp; done) | (simp; omega))
  · have : k = l.length := by omega
    subst this
    simp (maxSteps := 4000000) (disch := omega) only [go_sem, w64, AndB_of, IfB_of, IfB_no, pickE_of, pickE_no, ite_of, ite_no, tdivE, tmodE, takeAll, fillL_all]
theorem e_eqValueS (l : List GVal) (hb : l.length ≤ 1048576 ∧ ∀ v ∈ l, VB v) : QCall Try.prog 31 [rowA l, rowA l] (.bool true) := by
  have hl : l.length ≤ 1048576 := hb.1
  refine qcall_body mixed Try.func31 _ (by unfold Try.f31; rfl) Try.ntmps31 Try.results31 (by decide) 0 (by simp) (by simp [pureL, pureA]) ?_
  unfold rowA
  simp (maxSteps := 4000000) (disch := omega) only [go_sem, w64, AndB_of, IfB_of, IfB_no, pickE_of, pickE_no, ite_of, ite_no, tdivE, tmodE, takeAll]
  refine LoopB.auto (fun zs => (intOf (slotOf zs 5)).toNat) (fun zz => [(0, none), (0, none), (3, some (.int .i64 (zz : Int)))]) (fun zz => noH) (fun zz => 0) (fun zz => l.length - zz) (fun zz => zz ≤ l.length) (by (first | simp (maxSteps := 4000000) (disch := omega) only [go_sem, w64, AndB_of, IfB_of, IfB_no, pickE_of, pickE_no, ite_of, ite_no, tdivE, tmodE, takeAll, hH] | simp (maxSteps := 4000000) (disch := omega) only [go_sem, w64, AndB_of, IfB_of, IfB_no, pickE_of, pickE_no, ite_of, ite_no, tdivE, tmodE, takeAll]); ((repeat' apply And.intro) <;> first | (exact Weak.go (by (first | (simp [wkL]; done) | (simp [wkL]; omega))) (fun zi => by first | exact .inl rfl | exact .inr rfl | (simp only [upd]; repeat' split) <;> first | exact .inl rfl | exact .inr rfl | (exfalso; omega) | exact .inr (hd _ (by omega)) | (left; subst_vars; exact hH.symm) | (left; subst_vars; rfl) | (left; simp; done) | (left; simp; omega)) (by omega)) | omega | rfl | assumption | exact Flat.nil | exact ⟨_, rfl, rfl, by assumption⟩ | (simp; done) | (simp; omega))) ?_
  intro k zh
  have hk := zh
  simp (maxSteps := 4000000) (disch := omega) only [go_sem, w64, AndB_of, IfB_of, IfB_no, pickE_of, pickE_no, ite_of, ite_no, tdivE, tmodE, takeAll]
  refine IfB.dec (fun hlt => ?_) (fun hlt => ?_)
  · have hlt' : k < l.length := by omega
    simp (maxSteps := 4000000) (disch := omega) only [go_sem, w64, AndB_of, IfB_of, IfB_no, pickE_of, pickE_no, ite_of, ite_no, tdivE, tmodE, takeAll]
    refine DrawB.quiet (by kernel_rfl) ?_
    simp (maxSteps := 4000000) (disch := omega) only [go_sem, w64, AndB_of, IfB_of, IfB_no, pickE_of, pickE_no, ite_of, ite_no, tdivE, tmodE, takeAll]
    refine DCallB.q0 (e_eqValue l[k] (hb.2 _ (List.getElem_mem hlt'))) ?_
    simp (maxSteps := 4000000) (disch := omega) only [go_sem, w64, AndB_of, IfB_of, IfB_no, pickE_of, pickE_no, ite_of, ite_no, tdivE, tmodE, takeAll]
    ((repeat' apply And.intro) <;> first | (exact Weak.go (by (first | (simp [wkL]; done) | (simp [wkL]; omega))) (fun zi => by first | exact .inl rfl | exact .inr rfl | (simp only [upd]; repeat' split) <;> first | exact .inl rfl | exact .inr rfl | (exfalso; omega) | exact .inr (hd _ (by omega)) | (left; subst_vars; exact hH.symm) | (left; subst_vars; rfl) | (left; simp; done) | (left; simp; omega)) (by omega)) | omega | rfl | assumption | exact Flat.nil | exact ⟨_, rfl, rfl, by assumption⟩ | (simp; done) | (simp; omega))
  · simp (maxSteps := 4000000) (disch := omega) only [go_sem, w64, AndB_of, IfB_of, IfB_no, pickE_of, pickE_no, ite_of, ite_no, tdivE, tmodE, takeAll]
theorem x_szValueSS (l : List GRow) (left : Int) (h0 : 0 ≤ left) (h1 : left ≤ 1048576) (hL : l.length ≤ 9223372036854775807 ∧ ∀ v ∈ l, (v.length ≤ 9223372036854775807 ∧ ∀ x ∈ v, VBL x)) : ∃ R, (∃ r : Int, R = .int .i64 r ∧ r ≤ left ∧ (0 ≤ r → l.length ≤ 1048576 ∧ ∀ v ∈ l, (v.length ≤ 1048576 ∧ ∀ x ∈ v, VB x))) ∧ QCall Try.prog 43 [rowsA l, .int .i64 left] R := by
  have hLl := hL.1
  refine qex_of (by simp [pureL, pureA]) 1 ?_
  refine dcall_body mixed Try.func43 _ (by unfold Try.f43; rfl) Try.ntmps43 Try.results43 (by decide) (by simp) ?_
  unfold rowsA
  simp (maxSteps := 4000000) (disch := omega) only [go_sem, w64, AndB_of, IfB_of, IfB_no, pickE_of, pickE_no, ite_of, ite_no, tdivE, tmodE, takeAll]
  refine IfB.dec (fun h => ?_) (fun h => ?_)
  · simp (maxSteps := 4000000) (disch := omega) only [go_sem, w64, AndB_of, IfB_of, IfB_no, pickE_of, pickE_no, ite_of, ite_no, tdivE, tmodE, takeAll]
    exact ⟨-1, rfl, by omega, fun h => by omega⟩
  · simp (maxSteps := 4000000) (disch := omega) only [go_sem, w64, AndB_of, IfB_of, IfB_no, pickE_of, pickE_no, ite_of, ite_no, tdivE, tmodE, takeAll]
    refine LoopB.auto (fun zs => (intOf (slotOf zs 1), (intOf (slotOf zs 5)).toNat)) (fun zz => [(0, none), (0, some (.int .i64 (zz.1 : Int))), (3, some (.int .i64 (zz.2 : Int)))]) (fun zz => noH) (fun zz => 0) (fun zz => l.length - zz.2) (fun zz => zz.2 ≤ l.length ∧ 0 ≤ zz.1 ∧ zz.1 ≤ left ∧ ∀ v ∈ l.take zz.2, (v.length ≤ 1048576 ∧ ∀ x ∈ v, VB x)) (by (first | simp (maxSteps := 4000000) (disch := omega) only [go_sem, w64, AndB_of, IfB_of, IfB_no, pickE_of, pickE_no, ite_of, ite_no, tdivE, tmodE, takeAll, hH] | simp (maxSteps := 4000000) (disch := omega) only [go_sem, w64, AndB_of, IfB_of, IfB_no, pickE_of, pickE_no, ite_of, ite_no, tdivE, tmodE, takeAll]); ((repeat' apply And.intro) <;> first | (exact Weak.go (by (first | (simp [wkL]; done) | (simp [wkL]; omega))) (fun zi => by first | exact .inl rfl | exact .inr rfl | (simp only [upd]; repeat' split) <;> first | exact .inl rfl | exact .inr rfl | (exfalso; omega) | exact .inr (hd _ (by omega)) | (left; subst_vars; exact hH.symm) | (left; subst_vars; rfl) | (left; simp; done) | (left; simp; omega)) (by omega)) | omega | rfl | assumption | exact Flat.nil | exact ⟨_, rfl, rfl, by assumption⟩ | (simp; done) | (simp; omega))) ?_
    intro zz zh
    obtain ⟨cur, k⟩ := zz
    dsimp only at zh
    obtain ⟨hk, hc0, hc1, hall⟩ := zh
    simp (maxSteps := 4000000) (disch := omega) only [go_sem, w64, AndB_of, IfB_of, IfB_no, pickE_of, pickE_no, ite_of, ite_no, tdivE, tmodE, takeAll]
    refine IfB.dec (fun hlt => ?_) (fun hlt => ?_)
    · have hlt' : k < l.length := by omega
      obtain ⟨_, ⟨r, rfl, hr1, hr2⟩, hq⟩ := x_szValueS l[k] cur hc0 (by omega) (hL.2 _ (List.getElem_mem hlt'))
      simp (maxSteps := 4000000) (disch := omega) only [go_sem, w64, AndB_of, IfB_of, IfB_no, pickE_of, pickE_no, ite_of, ite_no, tdivE, tmodE, takeAll]
      apply CallB.q hq
      simp (maxSteps := 4000000) (disch := omega) only [go_sem, w64, AndB_of, IfB_of, IfB_no, pickE_of, pickE_no, ite_of, ite_no, tdivE, tmodE, takeAll]
      refine IfB.dec (fun h => ?_) (fun h => ?_)
      · simp (maxSteps := 4000000) (disch := omega) only [go_sem, w64, AndB_of, IfB_of, IfB_no, pickE_of, pickE_no, ite_of, ite_no, tdivE, tmodE, takeAll]
        exact ⟨-1, rfl, by omega, fun h => by omega⟩
      · simp (maxSteps := 4000000) (disch := omega) only [go_sem, w64, AndB_of, IfB_of, IfB_no, pickE_of, pickE_no, ite_of, ite_no, tdivE, tmodE, takeAll]
        ((repeat' apply And.intro) <;> first | exact allTake hlt' hall (hr2 (by omega)) | exact allTake0 | (exact Weak.go (by (first | (simp [wkL]; done) | (simp [wkL]; omega))) (fun zi => by first | exact .inl rfl | exact .inr rfl | (simp only [upd]; repeat' split) <;> first | exact allTake hlt' hall (hr2 (by omega)) | exact allTake0 | exact .inl rfl | exact .inr rfl | (exfalso; omega) | exact .inr (hd _ (by omega)) | (left; subst_vars; exact hH.symm) | (left; subst_vars; rfl) | (left; simp; done) | (left; simp; omega)) (by omega)) | omega | rfl | assumption | exact Flat.nil | exact ⟨_, rfl, rfl, by assumption⟩ | (simp; done) | (simp; omega))
    · simp (maxSteps := 4000000) (disch := omega) only [go_sem, w64, AndB_of, IfB_of, IfB_no, pickE_of, pickE_no, ite_of, ite_no, tdivE, tmodE, takeAll]
      exact ⟨cur, rfl, by omega, fun _ => ⟨by omega, allEnd (by omega) hall⟩⟩
theorem t_toValueSS (l : List GRow) (hb : l.length ≤ 1048576 ∧ ∀ v ∈ l, (v.length ≤ 1048576 ∧ ∀ x ∈ v, VB x)) : QCall Try.prog 46 [rowsA l] (rowsA l) := by
  have hl : l.length ≤ 1048576 := hb.1
  refine qcall_body mixed Try.func46 _ (by unfold Try.f46; rfl) Try.ntmps46 Try.results46 (by decide) 1 (by simp) (by simp [pureL, pureA]) ?_
  unfold rowsA
  simp (maxSteps := 4000000) (disch := omega) only [go_sem, w64, AndB_of, IfB_of, IfB_no, pickE_of, pickE_no, ite_of, ite_no, tdivE, tmodE, takeAll, fillL_zero (c := cR) l]
  refine LoopB.auto (fun zs => (intOf (slotOf zs 4)).toNat) (fun zz => [(0, none), (2, none), (0, some (.int .i64 (zz : Int)))]) (fun zz => upd noH 0 (.live 0 (fillL cR [.sl 0 true []] l zz))) (fun zz => 1) (fun zz => l.length - zz) (fun zz => zz ≤ l.length) (by (first | simp (maxSteps := 4000000) (disch := omega) only [go_sem, w64, AndB_of, IfB_of, IfB_no, pickE_of, pickE_no, ite_of, ite_no, tdivE, tmodE, takeAll, hH] | simp (maxSteps := 4000000) (disch := omega) only [go_sem, w64, AndB_of, IfB_of, IfB_no, pickE_of, pickE_no, ite_of, ite_no, tdivE, tmodE, takeAll]); ((repeat' apply And.intro) <;> first | (exact Weak.go (by (first | (simp [wkL]; done) | (simp [wkL]; omega))) (fun zi => by first | exact .inl rfl | exact .inr rfl | (simp only [upd]; repeat' split) <;> first | exact .inl rfl | exact .inr rfl | (exfalso; omega) | exact .inr (hd _ (by omega)) | (left; subst_vars; exact hH.symm) | (left; subst_vars; rfl) | (left; simp; done) | (left; simp; omega)) (by omega)) | omega | rfl | assumption | exact Flat.nil | exact ⟨_, rfl, rfl, by assumption⟩ | (simp; done) | (simp; omega))) ?_
  intro k zh
  have hk := zh
  simp (maxSteps := 4000000) (disch := omega) only [go_sem, w64, AndB_of, IfB_of, IfB_no, pickE_of, pickE_no, ite_of, ite_no, tdivE, tmodE, takeAll]
  refine IfB.dec (fun hlt => ?_) (fun hlt => ?_)
  · have hlt' : k < l.length := by omega
    simp (maxSteps := 4000000) (disch := omega) only [go_sem, w64, AndB_of, IfB_of, IfB_no, pickE_of, pickE_no, ite_of, ite_no, tdivE, tmodE, takeAll]
    apply CallB.q (t_toValueS l[k] (hb.2 _ (List.getElem_mem hlt')))
    simp (maxSteps := 4000000) (disch := omega) only [go_sem, w64, AndB_of, IfB_of, IfB_no, pickE_of, pickE_no, ite_of, ite_no, tdivE, tmodE, takeAll]
    ((repeat' apply And.intro) <;> first | (exact Weak.go (by (first | (simp [wkL]; done) | (simp [wkL]; omega))) (fun zi => by first | exact .inl rfl | exact .inr rfl | (simp only [upd]; repeat' split) <;> first | exact .inl rfl | exact .inr rfl | (exfalso; omega) | exact .inr (hd _ (by omega)) | (left; subst_vars; exact hH.symm) | (left; subst_vars; rfl) | (left; simp; done) | (left; simp; omega)) (by omega)) | omega | rfl | assumption | exact Flat.nil | exact ⟨_, rfl, rfl, by assumption⟩ | (simp; done) | (simp; omega))
  · have : k = l.length := by omega
    subst this
    simp (maxSteps := 4000000) (disch := omega) only [go_sem, w64, AndB_of, IfB_of, IfB_no, pickE_of, pickE_no, ite_of, ite_no, tdivE, tmodE, takeAll, fillL_all]
theorem e_eqValueSS (l : List GRow) (hb : l.length ≤ 1048576 ∧ ∀ v ∈ l, (v.length ≤ 1048576 ∧ ∀ x ∈ v, VB x)) : QCall Try.prog 48 [rowsA l, rowsA l] (.bool true) := by
  have hl : l.length ≤ 1048576 := hb.1
  refine qcall_body mixed Try.func48 _ (by unfold Try.f48; rfl) Try.ntmps48 Try.results48 (by decide) 0 (by simp) (by simp [pureL, pureA]) ?_
  unfold rowsA
  simp (maxSteps := 4000000) (disch := omega) only [go_sem, w64, AndB_of, IfB_of, IfB_no, pickE_of, pickE_no, ite_of, ite_no, tdivE, tmodE, takeAll]
  refine LoopB.auto (fun zs => (intOf (slotOf zs 5)).toNat) (fun zz => [(0, none), (0, none), (3, some (.int .i64 (zz : Int)))]) (fun zz => noH) (fun zz => 0) (fun zz => l.length - zz) (fun zz => zz ≤ l.length) (by (first | simp (maxSteps := 4000000) (disch := omega) only [go_sem, w64, AndB_of, IfB_of, IfB_no, pickE_of, pickE_no, ite_of, ite_no, tdivE, tmodE, takeAll, hH] | simp (maxSteps := 4000000) (disch := omega) only [go_sem, w64, AndB_of, IfB_of, IfB_no, pickE_of, pickE_no, ite_of, ite_no, tdivE, tmodE, takeAll]); ((repeat' apply And.intro) <;> first | (exact Weak.go (by (first | (simp [wkL]; done) | (simp [wkL]; omega))) (fun zi => by first | exact .inl rfl | exact .inr rfl | (simp only [upd]; repeat' split) <;> first | exact .inl rfl | exact .inr rfl | (exfalso; omega) | exact .inr (hd _ (by omega)) | (left; subst_vars; exact hH.symm) | (left; subst_vars; rfl) | (left; simp; done) | (left; simp; omega)) (by omega)) | omega | rfl | assumption | exact Flat.nil | exact ⟨_, rfl, rfl, by assumption⟩ | (simp; done) | (simp; omega))) ?_
  intro k zh
  have hk := zh
  simp (maxSteps := 4000000) (disch := omega) only [go_sem, w64, AndB_of, IfB_of, IfB_no, pickE_of, pickE_no, ite_of, ite_no, tdivE, tmodE, takeAll]
  refine IfB.dec (fun hlt => ?_) (fun hlt => ?_)
  · have hlt' : k < l.length := by omega
    simp (maxSteps := 4000000) (disch := omega) only [go_sem, w64, AndB_of, IfB_of, IfB_no, pickE_of, pickE_no, ite_of, ite_no, tdivE, tmodE, takeAll]
    refine DrawB.quiet (by kernel_rfl) ?_
    simp (maxSteps := 4000000) (disch := omega) only [go_sem, w64, AndB_of, IfB_of, IfB_no, pickE_of, pickE_no, ite_of, ite_no, tdivE, tmodE, takeAll]
    refine DCallB.q0 (e_eqValueS l[k] (hb.2 _ (List.getElem_mem hlt'))) ?_
    simp (maxSteps := 4000000) (disch := omega) only [go_sem, w64, AndB_of, IfB_of, IfB_no, pickE_of, pickE_no, ite_of, ite_no, tdivE, tmodE, takeAll]
    ((repeat' apply And.intro) <;> first | (exact Weak.go (by (first | (simp [wkL]; done) | (simp [wkL]; omega))) (fun zi => by first | exact .inl rfl | exact .inr rfl | (simp only [upd]; repeat' split) <;> first | exact .inl rfl | exact .inr rfl | (exfalso; omega) | exact .inr (hd _ (by omega)) | (left; subst_vars; exact hH.symm) | (left; subst_vars; rfl) | (left; simp; done) | (left; simp; omega)) (by omega)) | omega | rfl | assumption | exact Flat.nil | exact ⟨_, rfl, rfl, by assumption⟩ | (simp; done) | (simp; omega))
  · simp (maxSteps := 4000000) (disch := omega) only [go_sem, w64, AndB_of, IfB_of, IfB_no, pickE_of, pickE_no, ite_of, ite_no, tdivE, tmodE, takeAll]
end Go.TH
