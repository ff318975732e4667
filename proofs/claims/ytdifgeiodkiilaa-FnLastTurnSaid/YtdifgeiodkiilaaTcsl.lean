/- TH: the library on slices: the walks. Made by slib.py and gen.py. -/
import Derived.Test.YtdifgeiodkiilaaTco
import Derived.Test.YtdifgeiodkiilaaTcbo
import Derived.Test.YtdifgeiodkiilaaTf3
namespace Go.TH
open Go Go.Proofs
set_option linter.unusedSimpArgs false
set_option linter.unusedVariables false
set_option maxHeartbeats 20000000
set_option maxRecDepth 100000
theorem c_ClipZ {H : AH} {nx id ver n : Nat} {cells : List AV} (h : H id = .live ver cells) : CallC Try.prog 149 [.msl id ver 1 0 n] H nx (.msl id ver 1 0 n) H nx := by
  refine call_body mixed Try.func149 _ (by unfold Try.f149; rfl) Try.ntmps149 Try.results149 (by decide) (by simp) ?_
  simp (maxSteps := 4000000) (disch := omega) only [go_sem, w64, AndB_of, IfB_of, IfB_no, pickE_of, pickE_no, ite_of, ite_no, tdivE, tmodE, takeAll, h]
theorem q_cloneZ (l : List Int) (hl : l.length ≤ 1048576) : QCall Try.prog 137 [intsA l] (intsA l) := by
  refine qcall_bodyL mixed Try.func137 _ (by unfold Try.f137; rfl) Try.ntmps137 Try.results137 (by decide) 1 (by simp) (by simp [pureL, pureA]) ?_
  unfold intsA
  simp (maxSteps := 4000000) (disch := omega) only [go_sem, w64, AndB_of, IfB_of, IfB_no, pickE_of, pickE_no, ite_of, ite_no, tdivE, tmodE, takeAll]
  refine IfB.dec (fun h => ?_) (fun h => ?_)
  · obtain rfl : l = [] := List.eq_nil_of_length_eq_zero (by omega)
    simp (maxSteps := 4000000) (disch := omega) only [go_sem, w64, AndB_of, IfB_of, IfB_no, pickE_of, pickE_no, ite_of, ite_no, tdivE, tmodE, takeAll, flat_nil]
  · simp (maxSteps := 4000000) (disch := omega) only [go_sem, w64, AndB_of, IfB_of, IfB_no, pickE_of, pickE_no, ite_of, ite_no, tdivE, tmodE, takeAll]
    apply CallB.of (c_ClipZ (by repeat (first | exact hH | exact upd_same _ _ _ | rw [upd_ne _ _ (by omega)])))
    simp (maxSteps := 4000000) (disch := omega) only [go_sem, w64, AndB_of, IfB_of, IfB_no, pickE_of, pickE_no, ite_of, ite_no, tdivE, tmodE, takeAll]
theorem d_cloneZ {H : AH} {nx : Nat} (l : List Int) (hl : l.length ≤ 1048576) : ACallD Try.prog 137 [intsA l] H nx (fun r H' nx' => r = .msl nx 0 1 0 l.length ∧ H' = upd H nx (.live 0 (flat cI l)) ∧ nx' = nx + 1) := by
  by_cases h0 : 0 < l.length
  · refine dcall_body mixed Try.func137 _ (by unfold Try.f137; rfl) Try.ntmps137 Try.results137 (by decide) (by simp) ?_
    unfold intsA
    simp (maxSteps := 4000000) (disch := omega) only [go_sem, w64, AndB_of, IfB_of, IfB_no, pickE_of, pickE_no, ite_of, ite_no, tdivE, tmodE, takeAll]
    apply CallB.of (c_ClipZ (by repeat (first | exact hH | exact upd_same _ _ _ | rw [upd_ne _ _ (by omega)])))
    simp (maxSteps := 4000000) (disch := omega) only [go_sem, w64, AndB_of, IfB_of, IfB_no, pickE_of, pickE_no, ite_of, ite_no, tdivE, tmodE, takeAll]
  · obtain rfl : l = [] := List.eq_nil_of_length_eq_zero (by omega)
    refine ⟨_, _, _, ?_, rfl, rfl, rfl⟩
    refine ncall_body mixed Try.func137 _ (by unfold Try.f137; rfl) Try.ntmps137 Try.results137 (by decide) (by simp) ?_
    unfold intsA
    simp (maxSteps := 4000000) (disch := omega) only [go_sem, w64, AndB_of, IfB_of, IfB_no, pickE_of, pickE_no, ite_of, ite_no, tdivE, tmodE, takeAll, flat_nil]
    refine NW.step ?_
    simp (maxSteps := 4000000) (disch := omega) only [go_sem, w64, AndB_of, IfB_of, IfB_no, pickE_of, pickE_no, ite_of, ite_no, tdivE, tmodE, takeAll]
    refine NW.then ?_
    refine NW.step ?_
    simp (maxSteps := 4000000) (disch := omega) only [go_sem, w64, AndB_of, IfB_of, IfB_no, pickE_of, pickE_no, ite_of, ite_no, tdivE, tmodE, takeAll]
    refine NW.yes rfl ?_
    refine NW.step ?_
    simp (maxSteps := 4000000) (disch := omega) only [go_sem, w64, AndB_of, IfB_of, IfB_no, pickE_of, pickE_no, ite_of, ite_no, tdivE, tmodE, takeAll]
    refine NW.weak (Weak.nil 2 1 rfl) (NW.ofw ?_)
    simp (maxSteps := 4000000) (disch := omega) only [go_sem, w64, AndB_of, IfB_of, IfB_no, pickE_of, pickE_no, ite_of, ite_no, tdivE, tmodE, takeAll, List.set_cons_succ, List.set_cons_zero]
theorem q_IndexFuncV (l : List GVal) (f : FuncId) (cap : List AV) (hcap : pureL cap = true) (p : GVal → Bool) (hl : l.length ≤ 1048576) (hf : ∀ v ∈ l, QCall Try.prog f ([.agg [.int .i64 v.k, .int .i64 v.n, .str v.s]] ++ cap) (.bool (p v))) :
    QCall Try.prog 148 [rowA l, .fn f cap] (.int .i64 (idxF p l)) := by
  refine qcall_body mixed Try.func148 _ (by unfold Try.f148; rfl) Try.ntmps148 Try.results148 (by decide) 0 (by simp) (by simp [pureL, pureA, hcap]) ?_
  unfold rowA
  simp (maxSteps := 4000000) (disch := omega) only [go_sem, w64, AndB_of, IfB_of, IfB_no, pickE_of, pickE_no, ite_of, ite_no, tdivE, tmodE, takeAll]
  refine LoopB.auto (fun zs => (intOf (slotOf zs 8)).toNat) (fun zz => [(0, none), (0, none), (5, none), (0, some (.int .i64 (zz : Int)))]) (fun zz => noH) (fun zz => 5 * zz) (fun zz => l.length - zz) (fun zz => zz ≤ l.length ∧ ∀ j (h : j < l.length), j < zz → p l[j] = false) (by (first | simp (maxSteps := 4000000) (disch := omega) only [go_sem, w64, AndB_of, IfB_of, IfB_no, pickE_of, pickE_no, ite_of, ite_no, tdivE, tmodE, takeAll, hH] | simp (maxSteps := 4000000) (disch := omega) only [go_sem, w64, AndB_of, IfB_of, IfB_no, pickE_of, pickE_no, ite_of, ite_no, tdivE, tmodE, takeAll]); ((repeat' apply And.intro) <;> first | (exact Weak.go (by (first | (simp [wkL]; done) | (simp [wkL]; omega))) (fun zi => by first | exact .inl rfl | exact .inr rfl | (simp only [upd]; repeat' split) <;> first | exact .inl rfl | exact .inr rfl | (exfalso; omega) | exact .inr (hd _ (by omega)) | (left; subst_vars; exact hH.symm) | (left; subst_vars; rfl) | (left; simp; done) | (left; simp; omega)) (by omega)) | omega | rfl | assumption | exact Flat.nil | exact ⟨_, rfl, rfl, by assumption⟩ | (simp; done) | (simp; omega))) ?_
  intro k zh
  obtain ⟨hk, hall⟩ := zh
  simp (maxSteps := 4000000) (disch := omega) only [go_sem, w64, AndB_of, IfB_of, IfB_no, pickE_of, pickE_no, ite_of, ite_no, tdivE, tmodE, takeAll]
  refine IfB.dec (fun h1 => ?_) (fun h1 => ?_)
  · have h1' : k < l.length := by omega
    simp (maxSteps := 4000000) (disch := omega) only [go_sem, w64, AndB_of, IfB_of, IfB_no, pickE_of, pickE_no, ite_of, ite_no, tdivE, tmodE, takeAll]
    apply CallB.q (hf l[k] (List.getElem_mem _))
    simp (maxSteps := 4000000) (disch := omega) only [go_sem, w64, AndB_of, IfB_of, IfB_no, pickE_of, pickE_no, ite_of, ite_no, tdivE, tmodE, takeAll]
    refine IfB.split (fun h => ?_) (fun h => ?_)
    · simp (maxSteps := 4000000) (disch := omega) only [go_sem, w64, AndB_of, IfB_of, IfB_no, pickE_of, pickE_no, ite_of, ite_no, tdivE, tmodE, takeAll, idxF_at h1' h hall]
    · simp (maxSteps := 4000000) (disch := omega) only [go_sem, w64, AndB_of, IfB_of, IfB_no, pickE_of, pickE_no, ite_of, ite_no, tdivE, tmodE, takeAll]
      ((repeat' apply And.intro) <;> first | exact fun j hj hji => by by_cases e : j = k; exact (by subst e; exact h); exact hall j hj (by omega) | (exact Weak.go (by (first | (simp [wkL]; done) | (simp [wkL]; omega))) (fun zi => by first | exact .inl rfl | exact .inr rfl | (simp only [upd]; repeat' split) <;> first | exact fun j hj hji => by by_cases e : j = k; exact (by subst e; exact h); exact hall j hj (by omega) | exact .inl rfl | exact .inr rfl | (exfalso; omega) | exact .inr (hd _ (by omega)) | (left; subst_vars; exact hH.symm) | (left; subst_vars; rfl) | (left; simp; done) | (left; simp; omega)) (by omega)) | omega | rfl | assumption | exact Flat.nil | exact ⟨_, rfl, rfl, by assumption⟩ | (simp; done) | (simp; omega))
  · simp (maxSteps := 4000000) (disch := omega) only [go_sem, w64, AndB_of, IfB_of, IfB_no, pickE_of, pickE_no, ite_of, ite_no, tdivE, tmodE, takeAll, idxF_none (fun j hj => hall j hj (by omega))]
theorem q_ContainsFuncV (l : List GVal) (f : FuncId) (cap : List AV) (hcap : pureL cap = true) (p : GVal → Bool) (hl : l.length ≤ 1048576) (hf : ∀ v ∈ l, QCall Try.prog f ([.agg [.int .i64 v.k, .int .i64 v.n, .str v.s]] ++ cap) (.bool (p v))) :
    QCall Try.prog 130 [rowA l, .fn f cap] (.bool (l.any p)) := by
  refine qcall_body mixed Try.func130 _ (by unfold Try.f130; rfl) Try.ntmps130 Try.results130 (by decide) 0 (by simp) (by simp [pureL, pureA, hcap]) ?_
  simp (maxSteps := 4000000) (disch := omega) only [go_sem, w64, AndB_of, IfB_of, IfB_no, pickE_of, pickE_no, ite_of, ite_no, tdivE, tmodE, takeAll]
  apply CallB.q (q_IndexFuncV l f cap hcap p hl hf)
  simp (maxSteps := 4000000) (disch := omega) only [go_sem, w64, AndB_of, IfB_of, IfB_no, pickE_of, pickE_no, ite_of, ite_no, tdivE, tmodE, takeAll]
  have := @idxF_ge _ p l
  rw [AV.bool.injEq, Bool.eq_iff_iff]; (try simp only [decide_eq_true_iff])
  simp [this]
theorem c_ClipV {H : AH} {nx id ver n : Nat} {cells : List AV} (h : H id = .live ver cells) : CallC Try.prog 128 [.msl id ver 3 0 n] H nx (.msl id ver 3 0 n) H nx := by
  refine call_body mixed Try.func128 _ (by unfold Try.f128; rfl) Try.ntmps128 Try.results128 (by decide) (by simp) ?_
  simp (maxSteps := 4000000) (disch := omega) only [go_sem, w64, AndB_of, IfB_of, IfB_no, pickE_of, pickE_no, ite_of, ite_no, tdivE, tmodE, takeAll, h]
theorem q_cloneV (l : List GVal) (hl : l.length ≤ 1048576) : QCall Try.prog 92 [rowA l] (rowA l) := by
  refine qcall_bodyL mixed Try.func92 _ (by unfold Try.f92; rfl) Try.ntmps92 Try.results92 (by decide) 1 (by simp) (by simp [pureL, pureA]) ?_
  unfold rowA
  simp (maxSteps := 4000000) (disch := omega) only [go_sem, w64, AndB_of, IfB_of, IfB_no, pickE_of, pickE_no, ite_of, ite_no, tdivE, tmodE, takeAll]
  refine IfB.dec (fun h => ?_) (fun h => ?_)
  · obtain rfl : l = [] := List.eq_nil_of_length_eq_zero (by omega)
    simp (maxSteps := 4000000) (disch := omega) only [go_sem, w64, AndB_of, IfB_of, IfB_no, pickE_of, pickE_no, ite_of, ite_no, tdivE, tmodE, takeAll, flat_nil]
  · simp (maxSteps := 4000000) (disch := omega) only [go_sem, w64, AndB_of, IfB_of, IfB_no, pickE_of, pickE_no, ite_of, ite_no, tdivE, tmodE, takeAll]
    apply CallB.of (c_ClipV (by repeat (first | exact hH | exact upd_same _ _ _ | rw [upd_ne _ _ (by omega)])))
    simp (maxSteps := 4000000) (disch := omega) only [go_sem, w64, AndB_of, IfB_of, IfB_no, pickE_of, pickE_no, ite_of, ite_no, tdivE, tmodE, takeAll]
theorem d_cloneV {H : AH} {nx : Nat} (l : List GVal) (hl : l.length ≤ 1048576) : ACallD Try.prog 92 [rowA l] H nx (fun r H' nx' => r = .msl nx 0 3 0 l.length ∧ H' = upd H nx (.live 0 (flat GVal.c l)) ∧ nx' = nx + 1) := by
  by_cases h0 : 0 < l.length
  · refine dcall_body mixed Try.func92 _ (by unfold Try.f92; rfl) Try.ntmps92 Try.results92 (by decide) (by simp) ?_
    unfold rowA
    simp (maxSteps := 4000000) (disch := omega) only [go_sem, w64, AndB_of, IfB_of, IfB_no, pickE_of, pickE_no, ite_of, ite_no, tdivE, tmodE, takeAll]
    apply CallB.of (c_ClipV (by repeat (first | exact hH | exact upd_same _ _ _ | rw [upd_ne _ _ (by omega)])))
    simp (maxSteps := 4000000) (disch := omega) only [go_sem, w64, AndB_of, IfB_of, IfB_no, pickE_of, pickE_no, ite_of, ite_no, tdivE, tmodE, takeAll]
  · obtain rfl : l = [] := List.eq_nil_of_length_eq_zero (by omega)
    refine ⟨_, _, _, ?_, rfl, rfl, rfl⟩
    refine ncall_body mixed Try.func92 _ (by unfold Try.f92; rfl) Try.ntmps92 Try.results92 (by decide) (by simp) ?_
    unfold rowA
    simp (maxSteps := 4000000) (disch := omega) only [go_sem, w64, AndB_of, IfB_of, IfB_no, pickE_of, pickE_no, ite_of, ite_no, tdivE, tmodE, takeAll, flat_nil]
    refine NW.step ?_
    simp (maxSteps := 4000000) (disch := omega) only [go_sem, w64, AndB_of, IfB_of, IfB_no, pickE_of, pickE_no, ite_of, ite_no, tdivE, tmodE, takeAll]
    refine NW.then ?_
    refine NW.step ?_
    simp (maxSteps := 4000000) (disch := omega) only [go_sem, w64, AndB_of, IfB_of, IfB_no, pickE_of, pickE_no, ite_of, ite_no, tdivE, tmodE, takeAll]
    refine NW.yes rfl ?_
    refine NW.step ?_
    simp (maxSteps := 4000000) (disch := omega) only [go_sem, w64, AndB_of, IfB_of, IfB_no, pickE_of, pickE_no, ite_of, ite_no, tdivE, tmodE, takeAll]
    refine NW.weak (Weak.nil 2 3 rfl) (NW.ofw ?_)
    simp (maxSteps := 4000000) (disch := omega) only [go_sem, w64, AndB_of, IfB_of, IfB_no, pickE_of, pickE_no, ite_of, ite_no, tdivE, tmodE, takeAll, List.set_cons_succ, List.set_cons_zero]
theorem q_IndexFuncMk (l : List GMk) (f : FuncId) (cap : List AV) (hcap : pureL cap = true) (p : GMk → Bool) (hl : l.length ≤ 1048576) (hf : ∀ v ∈ l, QCall Try.prog f ([.agg [.int .i64 v.v.k, .int .i64 v.v.n, .str v.v.s, .int .i64 v.key, .int .i64 v.born, .int .i64 v.died]] ++ cap) (.bool (p v))) :
    QCall Try.prog 120 [marksA l, .fn f cap] (.int .i64 (idxF p l)) := by
  refine qcall_body mixed Try.func120 _ (by unfold Try.f120; rfl) Try.ntmps120 Try.results120 (by decide) 0 (by simp) (by simp [pureL, pureA, hcap]) ?_
  unfold marksA
  simp (maxSteps := 4000000) (disch := omega) only [go_sem, w64, AndB_of, IfB_of, IfB_no, pickE_of, pickE_no, ite_of, ite_no, tdivE, tmodE, takeAll]
  refine LoopB.auto (fun zs => (intOf (slotOf zs 8)).toNat) (fun zz => [(0, none), (0, none), (5, none), (0, some (.int .i64 (zz : Int)))]) (fun zz => noH) (fun zz => 5 * zz) (fun zz => l.length - zz) (fun zz => zz ≤ l.length ∧ ∀ j (h : j < l.length), j < zz → p l[j] = false) (by (first | simp (maxSteps := 4000000) (disch := omega) only [go_sem, w64, AndB_of, IfB_of, IfB_no, pickE_of, pickE_no, ite_of, ite_no, tdivE, tmodE, takeAll, hH] | simp (maxSteps := 4000000) (disch := omega) only [go_sem, w64, AndB_of, IfB_of, IfB_no, pickE_of, pickE_no, ite_of, ite_no, tdivE, tmodE, takeAll]); ((repeat' apply And.intro) <;> first | (exact Weak.go (by (first | (simp [wkL]; done) | (simp [wkL]; omega))) (fun zi => by first | exact .inl rfl | exact .inr rfl | (simp only [upd]; repeat' split) <;> first | exact .inl rfl | exact .inr rfl | (exfalso; omega) | exact .inr (hd _ (by omega)) | (left; subst_vars; exact hH.symm) | (left; subst_vars; rfl) | (left; simp; done) | (left; simp; omega)) (by omega)) | omega | rfl | assumption | exact Flat.nil | exact ⟨_, rfl, rfl, by assumption⟩ | (simp; done) | (simp; omega))) ?_
  intro k zh
  obtain ⟨hk, hall⟩ := zh
  simp (maxSteps := 4000000) (disch := omega) only [go_sem, w64, AndB_of, IfB_of, IfB_no, pickE_of, pickE_no, ite_of, ite_no, tdivE, tmodE, takeAll]
  refine IfB.dec (fun h1 => ?_) (fun h1 => ?_)
  · have h1' : k < l.length := by omega
    simp (maxSteps := 4000000) (disch := omega) only [go_sem, w64, AndB_of, IfB_of, IfB_no, pickE_of, pickE_no, ite_of, ite_no, tdivE, tmodE, takeAll]
    apply CallB.q (hf l[k] (List.getElem_mem _))
    simp (maxSteps := 4000000) (disch := omega) only [go_sem, w64, AndB_of, IfB_of, IfB_no, pickE_of, pickE_no, ite_of, ite_no, tdivE, tmodE, takeAll]
    refine IfB.split (fun h => ?_) (fun h => ?_)
    · simp (maxSteps := 4000000) (disch := omega) only [go_sem, w64, AndB_of, IfB_of, IfB_no, pickE_of, pickE_no, ite_of, ite_no, tdivE, tmodE, takeAll, idxF_at h1' h hall]
    · simp (maxSteps := 4000000) (disch := omega) only [go_sem, w64, AndB_of, IfB_of, IfB_no, pickE_of, pickE_no, ite_of, ite_no, tdivE, tmodE, takeAll]
      ((repeat' apply And.intro) <;> first | exact fun j hj hji => by by_cases e : j = k; exact (by subst e; exact h); exact hall j hj (by omega) | (exact Weak.go (by (first | (simp [wkL]; done) | (simp [wkL]; omega))) (fun zi => by first | exact .inl rfl | exact .inr rfl | (simp only [upd]; repeat' split) <;> first | exact fun j hj hji => by by_cases e : j = k; exact (by subst e; exact h); exact hall j hj (by omega) | exact .inl rfl | exact .inr rfl | (exfalso; omega) | exact .inr (hd _ (by omega)) | (left; subst_vars; exact hH.symm) | (left; subst_vars; rfl) | (left; simp; done) | (left; simp; omega)) (by omega)) | omega | rfl | assumption | exact Flat.nil | exact ⟨_, rfl, rfl, by assumption⟩ | (simp; done) | (simp; omega))
  · simp (maxSteps := 4000000) (disch := omega) only [go_sem, w64, AndB_of, IfB_of, IfB_no, pickE_of, pickE_no, ite_of, ite_no, tdivE, tmodE, takeAll, idxF_none (fun j hj => hall j hj (by omega))]
theorem q_ContainsFuncMk (l : List GMk) (f : FuncId) (cap : List AV) (hcap : pureL cap = true) (p : GMk → Bool) (hl : l.length ≤ 1048576) (hf : ∀ v ∈ l, QCall Try.prog f ([.agg [.int .i64 v.v.k, .int .i64 v.v.n, .str v.v.s, .int .i64 v.key, .int .i64 v.born, .int .i64 v.died]] ++ cap) (.bool (p v))) :
    QCall Try.prog 74 [marksA l, .fn f cap] (.bool (l.any p)) := by
  refine qcall_body mixed Try.func74 _ (by unfold Try.f74; rfl) Try.ntmps74 Try.results74 (by decide) 0 (by simp) (by simp [pureL, pureA, hcap]) ?_
  simp (maxSteps := 4000000) (disch := omega) only [go_sem, w64, AndB_of, IfB_of, IfB_no, pickE_of, pickE_no, ite_of, ite_no, tdivE, tmodE, takeAll]
  apply CallB.q (q_IndexFuncMk l f cap hcap p hl hf)
  simp (maxSteps := 4000000) (disch := omega) only [go_sem, w64, AndB_of, IfB_of, IfB_no, pickE_of, pickE_no, ite_of, ite_no, tdivE, tmodE, takeAll]
  have := @idxF_ge _ p l
  rw [AV.bool.injEq, Bool.eq_iff_iff]; (try simp only [decide_eq_true_iff])
  simp [this]
theorem c_ClipMk {H : AH} {nx id ver n : Nat} {cells : List AV} (h : H id = .live ver cells) : CallC Try.prog 139 [.msl id ver 6 0 n] H nx (.msl id ver 6 0 n) H nx := by
  refine call_body mixed Try.func139 _ (by unfold Try.f139; rfl) Try.ntmps139 Try.results139 (by decide) (by simp) ?_
  simp (maxSteps := 4000000) (disch := omega) only [go_sem, w64, AndB_of, IfB_of, IfB_no, pickE_of, pickE_no, ite_of, ite_no, tdivE, tmodE, takeAll, h]
theorem c_CloneMk {H : AH} {nx : Nat} (l : List GMk) (t : Bool) (hl : l.length ≤ 1048576) : CallC Try.prog 111 [.sl l.length t (flat GMk.c l)] H nx (.msl nx 1 6 0 l.length) (upd H nx (.live 1 (flat GMk.c l))) (nx + 1) := by
  by_cases h0 : 0 < l.length
  · refine call_body mixed Try.func111 _ (by unfold Try.f111; rfl) Try.ntmps111 Try.results111 (by decide) (by simp) ?_
    simp (maxSteps := 4000000) (disch := omega) only [go_sem, w64, AndB_of, IfB_of, IfB_no, pickE_of, pickE_no, ite_of, ite_no, tdivE, tmodE, takeAll, upd_upd]
  · obtain rfl : l = [] := List.eq_nil_of_length_eq_zero (by omega)
    refine ncall_body mixed Try.func111 _ (by unfold Try.f111; rfl) Try.ntmps111 Try.results111 (by decide) (by simp) ?_
    simp (maxSteps := 4000000) (disch := omega) only [go_sem, w64, AndB_of, IfB_of, IfB_no, pickE_of, pickE_no, ite_of, ite_no, tdivE, tmodE, takeAll, flat_nil]
    refine NW.step ?_
    simp (maxSteps := 4000000) (disch := omega) only [go_sem, w64, AndB_of, IfB_of, IfB_no, pickE_of, pickE_no, ite_of, ite_no, tdivE, tmodE, takeAll]
    refine NW.then ?_
    refine NW.step ?_
    simp (maxSteps := 4000000) (disch := omega) only [go_sem, w64, AndB_of, IfB_of, IfB_no, pickE_of, pickE_no, ite_of, ite_no, tdivE, tmodE, takeAll]
    refine NW.fork rfl ?_ ?_
    · refine NW.step ?_
      simp (maxSteps := 4000000) (disch := omega) only [go_sem, w64, AndB_of, IfB_of, IfB_no, pickE_of, pickE_no, ite_of, ite_no, tdivE, tmodE, takeAll]
      refine NW.weak (Weak.nilV 2 6 1 rfl) (NW.ofw ?_)
      simp (maxSteps := 4000000) (disch := omega) only [go_sem, w64, AndB_of, IfB_of, IfB_no, pickE_of, pickE_no, ite_of, ite_no, tdivE, tmodE, takeAll, List.set_cons_succ, List.set_cons_zero]
    · refine NW.ofw ?_
      simp (maxSteps := 4000000) (disch := omega) only [go_sem, w64, AndB_of, IfB_of, IfB_no, pickE_of, pickE_no, ite_of, ite_no, tdivE, tmodE, takeAll]
      refine NW.ofw ?_
      simp (maxSteps := 4000000) (disch := omega) only [go_sem, w64, AndB_of, IfB_of, IfB_no, pickE_of, pickE_no, ite_of, ite_no, tdivE, tmodE, takeAll, upd_upd]
theorem q_cloneMk (l : List GMk) (hl : l.length ≤ 1048576) : QCall Try.prog 109 [marksA l] (marksA l) := by
  refine qcall_bodyL mixed Try.func109 _ (by unfold Try.f109; rfl) Try.ntmps109 Try.results109 (by decide) 1 (by simp) (by simp [pureL, pureA]) ?_
  unfold marksA
  simp (maxSteps := 4000000) (disch := omega) only [go_sem, w64, AndB_of, IfB_of, IfB_no, pickE_of, pickE_no, ite_of, ite_no, tdivE, tmodE, takeAll]
  refine IfB.dec (fun h => ?_) (fun h => ?_)
  · obtain rfl : l = [] := List.eq_nil_of_length_eq_zero (by omega)
    simp (maxSteps := 4000000) (disch := omega) only [go_sem, w64, AndB_of, IfB_of, IfB_no, pickE_of, pickE_no, ite_of, ite_no, tdivE, tmodE, takeAll, flat_nil]
  · simp (maxSteps := 4000000) (disch := omega) only [go_sem, w64, AndB_of, IfB_of, IfB_no, pickE_of, pickE_no, ite_of, ite_no, tdivE, tmodE, takeAll]
    apply CallB.of (c_ClipMk (by repeat (first | exact hH | exact upd_same _ _ _ | rw [upd_ne _ _ (by omega)])))
    simp (maxSteps := 4000000) (disch := omega) only [go_sem, w64, AndB_of, IfB_of, IfB_no, pickE_of, pickE_no, ite_of, ite_no, tdivE, tmodE, takeAll]
theorem d_cloneMk {H : AH} {nx : Nat} (l : List GMk) (hl : l.length ≤ 1048576) : ACallD Try.prog 109 [marksA l] H nx (fun r H' nx' => r = .msl nx 0 6 0 l.length ∧ H' = upd H nx (.live 0 (flat GMk.c l)) ∧ nx' = nx + 1) := by
  by_cases h0 : 0 < l.length
  · refine dcall_body mixed Try.func109 _ (by unfold Try.f109; rfl) Try.ntmps109 Try.results109 (by decide) (by simp) ?_
    unfold marksA
    simp (maxSteps := 4000000) (disch := omega) only [go_sem, w64, AndB_of, IfB_of, IfB_no, pickE_of, pickE_no, ite_of, ite_no, tdivE, tmodE, takeAll]
    apply CallB.of (c_ClipMk (by repeat (first | exact hH | exact upd_same _ _ _ | rw [upd_ne _ _ (by omega)])))
    simp (maxSteps := 4000000) (disch := omega) only [go_sem, w64, AndB_of, IfB_of, IfB_no, pickE_of, pickE_no, ite_of, ite_no, tdivE, tmodE, takeAll]
  · obtain rfl : l = [] := List.eq_nil_of_length_eq_zero (by omega)
    refine ⟨_, _, _, ?_, rfl, rfl, rfl⟩
    refine ncall_body mixed Try.func109 _ (by unfold Try.f109; rfl) Try.ntmps109 Try.results109 (by decide) (by simp) ?_
    unfold marksA
    simp (maxSteps := 4000000) (disch := omega) only [go_sem, w64, AndB_of, IfB_of, IfB_no, pickE_of, pickE_no, ite_of, ite_no, tdivE, tmodE, takeAll, flat_nil]
    refine NW.step ?_
    simp (maxSteps := 4000000) (disch := omega) only [go_sem, w64, AndB_of, IfB_of, IfB_no, pickE_of, pickE_no, ite_of, ite_no, tdivE, tmodE, takeAll]
    refine NW.then ?_
    refine NW.step ?_
    simp (maxSteps := 4000000) (disch := omega) only [go_sem, w64, AndB_of, IfB_of, IfB_no, pickE_of, pickE_no, ite_of, ite_no, tdivE, tmodE, takeAll]
    refine NW.yes rfl ?_
    refine NW.step ?_
    simp (maxSteps := 4000000) (disch := omega) only [go_sem, w64, AndB_of, IfB_of, IfB_no, pickE_of, pickE_no, ite_of, ite_no, tdivE, tmodE, takeAll]
    refine NW.weak (Weak.nil 2 6 rfl) (NW.ofw ?_)
    simp (maxSteps := 4000000) (disch := omega) only [go_sem, w64, AndB_of, IfB_of, IfB_no, pickE_of, pickE_no, ite_of, ite_no, tdivE, tmodE, takeAll, List.set_cons_succ, List.set_cons_zero]
theorem d_DeleteFuncMk {H : AH} {nx id ver : Nat} (l : List GMk) (f : FuncId) (cap : List AV) (p : GMk → Bool) (hl : l.length ≤ 1048576) (hid : id < nx) (hd : ∀ i, nx ≤ i → H i = .dead) (hH : H id = .live ver (flat GMk.c l)) (hcap : ∀ H', pureL (cap.map (snapA 1 H')) = true)
    (hf : ∀ H' : AH, (∀ i, i < nx → i ≠ id → H' i = H i) → ∀ v ∈ l, QCall Try.prog f (.agg [.int .i64 v.v.k, .int .i64 v.v.n, .str v.v.s, .int .i64 v.key, .int .i64 v.born, .int .i64 v.died] :: cap.map (snapA 1 H')) (.bool (p v))) :
    ACallD Try.prog 110 [.msl id ver 6 0 l.length, .fn f cap] H nx (fun r H' nx' => r = .msl id ver 6 0 (keptL p l).length ∧ H' = upd H id (.live ver (flat GMk.c (keptL p l) ++ (List.replicate (l.length - (keptL p l).length) zMk).flatten)) ∧ nx ≤ nx') := by
  refine dcall_body mixed Try.func110 _ (by unfold Try.f110; rfl) Try.ntmps110 Try.results110 (by decide) (by simp) ?_
  simp (maxSteps := 4000000) (disch := omega) only [go_sem, w64, AndB_of, IfB_of, IfB_no, pickE_of, pickE_no, ite_of, ite_no, tdivE, tmodE, takeAll]
  have hq := q_IndexFuncMk l f (cap.map (snapA 1 H)) (hcap H) p hl (hf H fun _ _ _ => rfl)
  apply CallB.borrow 1 (r := .int .i64 (idxF p l)) _ rfl
  rotate_left
  · simp (maxSteps := 4000000) (disch := omega) only [go_sem, w64, AndB_of, IfB_of, IfB_no, pickE_of, pickE_no, ite_of, ite_no, tdivE, tmodE, takeAll, hH]
    exact hq
  rcases idxF_spec p l with ⟨e, hn⟩ | ⟨i, hi, e, hp, hn⟩
  · simp (maxSteps := 4000000) (disch := omega) only [go_sem, w64, AndB_of, IfB_of, IfB_no, pickE_of, pickE_no, ite_of, ite_no, tdivE, tmodE, takeAll, e]
    rw [keptL_none hn]
    simp only [Nat.sub_self, List.replicate_zero, List.flatten_nil, List.append_nil]
    rw [upd_val hH]
    exact ⟨trivial, rfl, Nat.le_refl _⟩ 
  · simp (maxSteps := 4000000) (disch := omega) only [go_sem, w64, AndB_of, IfB_of, IfB_no, pickE_of, pickE_no, ite_of, ite_no, tdivE, tmodE, takeAll, e]
    refine LoopB.auto (fun zs => (nxOf zs, (intOf (slotOf zs 5)).toNat, (intOf (slotOf zs 6)).toNat, cellsOf (blkOf zs (id)))) (fun zz => [(0, none), (0, none), (3, some (.int .i64 (zz.2.1 : Int))), (0, some (.int .i64 (zz.2.2.1 : Int)))]) (fun zz => upd H id (.live ver zz.2.2.2)) (fun zz => zz.1) (fun zz => l.length - zz.2.2.1) (fun zz => nx ≤ zz.1 ∧ DelI GMk.c 6 p l zz.2.2.1 zz.2.1 zz.2.2.2) (by (first | simp (maxSteps := 4000000) (disch := omega) only [go_sem, w64, AndB_of, IfB_of, IfB_no, pickE_of, pickE_no, ite_of, ite_no, tdivE, tmodE, takeAll, hH] | simp (maxSteps := 4000000) (disch := omega) only [go_sem, w64, AndB_of, IfB_of, IfB_no, pickE_of, pickE_no, ite_of, ite_no, tdivE, tmodE, takeAll]); ((repeat' apply And.intro) <;> first | exact DelI.first GMk.len hi hp hn | (exact Weak.go (by (first | (simp [wkL]; done) | (simp [wkL]; omega))) (fun zi => by first | exact .inl rfl | exact .inr rfl | (simp only [upd]; repeat' split) <;> first | exact DelI.first GMk.len hi hp hn | exact .inl rfl | exact .inr rfl | (exfalso; omega) | exact .inr (hd _ (by omega)) | (left; subst_vars; exact hH.symm) | (left; subst_vars; rfl) | (left; simp; done) | (left; simp; omega)) (by omega)) | omega | rfl | assumption | exact Flat.nil | exact ⟨_, rfl, rfl, by assumption⟩ | (simp; done) | (simp; omega))) ?_
    intro zz zh
    obtain ⟨x, i, j, cells⟩ := zz
    dsimp only at zh
    obtain ⟨hx, hI⟩ := zh
    simp (maxSteps := 4000000) (disch := omega) only [go_sem, w64, AndB_of, IfB_of, IfB_no, pickE_of, pickE_no, ite_of, ite_no, tdivE, tmodE, takeAll]
    have hle := hI.le
    have hlen := hI.len
    refine IfB.dec (fun h1 => ?_) (fun h1 => ?_)
    · have h1' : j < l.length := by omega
      have hat := hI.at GMk.len h1'
      change cells.drop (j * 6) = .int .i64 l[j].v.k :: .int .i64 l[j].v.n :: .str l[j].v.s :: .int .i64 l[j].key :: .int .i64 l[j].born :: .int .i64 l[j].died :: flat GMk.c (l.drop (j + 1)) at hat
      simp (maxSteps := 4000000) (disch := omega) only [go_sem, w64, AndB_of, IfB_of, IfB_no, pickE_of, pickE_no, ite_of, ite_no, tdivE, tmodE, takeAll, hat]
      apply CallB.borrow 1 (r := .bool (p l[j])) _ rfl
      rotate_left
      · simp (maxSteps := 4000000) (disch := omega) only [go_sem, w64, AndB_of, IfB_of, IfB_no, pickE_of, pickE_no, ite_of, ite_no, tdivE, tmodE, takeAll]
        refine hf _ (fun q h1 h2 => ?_) _ (List.getElem_mem h1')
        (repeat rw [upd_ne _ _ (by omega)])
      simp (maxSteps := 4000000) (disch := omega) only [go_sem, w64, AndB_of, IfB_of, IfB_no, pickE_of, pickE_no, ite_of, ite_no, tdivE, tmodE, takeAll]
      refine IfB.split (fun h => ?_) (fun h => ?_)
      · simp (maxSteps := 4000000) (disch := omega) only [go_sem, w64, AndB_of, IfB_of, IfB_no, pickE_of, pickE_no, ite_of, ite_no, tdivE, tmodE, takeAll]
        ((repeat' apply And.intro) <;> first | exact hI.skip GMk.len h1' h | (exact Weak.go (by (first | (simp [wkL]; done) | (simp [wkL]; omega))) (fun zi => by first | exact .inl rfl | exact .inr rfl | (simp only [upd]; repeat' split) <;> first | exact hI.skip GMk.len h1' h | exact .inl rfl | exact .inr rfl | (exfalso; omega) | exact .inr (hd _ (by omega)) | (left; subst_vars; exact hH.symm) | (left; subst_vars; rfl) | (left; simp; done) | (left; simp; omega)) (by omega)) | omega | rfl | assumption | exact Flat.nil | exact ⟨_, rfl, rfl, by assumption⟩ | (simp; done) | (simp; omega))
      · simp (maxSteps := 4000000) (disch := omega) only [go_sem, w64, AndB_of, IfB_of, IfB_no, pickE_of, pickE_no, ite_of, ite_no, tdivE, tmodE, takeAll]
        ((repeat' apply And.intro) <;> first | exact hI.keep GMk.len h1' h | (have h5 := hI.keep GMk.len h1' h; rw [Nat.mul_one] at h5; exact h5) | (exact Weak.go (by (first | (simp [wkL]; done) | (simp [wkL]; omega))) (fun zi => by first | exact .inl rfl | exact .inr rfl | (simp only [upd]; repeat' split) <;> first | exact hI.keep GMk.len h1' h | (have h5 := hI.keep GMk.len h1' h; rw [Nat.mul_one] at h5; exact h5) | exact .inl rfl | exact .inr rfl | (exfalso; omega) | exact .inr (hd _ (by omega)) | (left; subst_vars; exact hH.symm) | (left; subst_vars; rfl) | (left; simp; done) | (left; simp; omega)) (by omega)) | omega | rfl | assumption | exact Flat.nil | exact ⟨_, rfl, rfl, by assumption⟩ | (simp; done) | (simp; omega))
    · obtain rfl : j = l.length := by have := hI.hj; omega
      obtain ⟨e1, e2⟩ := hI.all GMk.len 0 []
      have hkl := keptL_le (p := p) (l := l)
      subst e1
      have hsub : ((l.length : Int) - ((keptL p l).length : Nat)).toNat = l.length - (keptL p l).length := by omega
      have hdrop : cells.drop (l.length * 6) = [] := List.drop_of_length_le (by omega)
      have hadd : (keptL p l).length * 6 + (l.length - (keptL p l).length) * 6 = l.length * 6 := by omega
      skip
      simp (maxSteps := 4000000) (disch := omega) only [go_sem, w64, AndB_of, IfB_of, IfB_no, pickE_of, pickE_no, ite_of, ite_no, tdivE, tmodE, takeAll, e2, upd_upd, hsub, hadd, hdrop, List.append_nil]
      exact hx
theorem q_IndexFuncVr (l : List GVer) (f : FuncId) (cap : List AV) (hcap : pureL cap = true) (p : GVer → Bool) (hl : l.length ≤ 1048576) (hf : ∀ v ∈ l, QCall Try.prog f ([.agg [.int .i64 v.key, .int .i64 v.born, .int .i64 v.died, rowA v.row]] ++ cap) (.bool (p v))) :
    QCall Try.prog 133 [versA l, .fn f cap] (.int .i64 (idxF p l)) := by
  refine qcall_body mixed Try.func133 _ (by unfold Try.f133; rfl) Try.ntmps133 Try.results133 (by decide) 0 (by simp) (by simp [pureL, pureA, hcap]) ?_
  unfold versA
  simp (maxSteps := 4000000) (disch := omega) only [go_sem, w64, AndB_of, IfB_of, IfB_no, pickE_of, pickE_no, ite_of, ite_no, tdivE, tmodE, takeAll]
  refine LoopB.auto (fun zs => (intOf (slotOf zs 8)).toNat) (fun zz => [(0, none), (0, none), (5, none), (0, some (.int .i64 (zz : Int)))]) (fun zz => noH) (fun zz => 5 * zz) (fun zz => l.length - zz) (fun zz => zz ≤ l.length ∧ ∀ j (h : j < l.length), j < zz → p l[j] = false) (by (first | simp (maxSteps := 4000000) (disch := omega) only [go_sem, w64, AndB_of, IfB_of, IfB_no, pickE_of, pickE_no, ite_of, ite_no, tdivE, tmodE, takeAll, hH] | simp (maxSteps := 4000000) (disch := omega) only [go_sem, w64, AndB_of, IfB_of, IfB_no, pickE_of, pickE_no, ite_of, ite_no, tdivE, tmodE, takeAll]); ((repeat' apply And.intro) <;> first | (exact Weak.go (by (first | (simp [wkL]; done) | (simp [wkL]; omega))) (fun zi => by first | exact .inl rfl | exact .inr rfl | (simp only [upd]; repeat' split) <;> first | exact .inl rfl | exact .inr rfl | (exfalso; omega) | exact .inr (hd _ (by omega)) | (left; subst_vars; exact hH.symm) | (left; subst_vars; rfl) | (left; simp; done) | (left; simp; omega)) (by omega)) | omega | rfl | assumption | exact Flat.nil | exact ⟨_, rfl, rfl, by assumption⟩ | (simp; done) | (simp; omega))) ?_
  intro k zh
  obtain ⟨hk, hall⟩ := zh
  simp (maxSteps := 4000000) (disch := omega) only [go_sem, w64, AndB_of, IfB_of, IfB_no, pickE_of, pickE_no, ite_of, ite_no, tdivE, tmodE, takeAll]
  refine IfB.dec (fun h1 => ?_) (fun h1 => ?_)
  · have h1' : k < l.length := by omega
    simp (maxSteps := 4000000) (disch := omega) only [go_sem, w64, AndB_of, IfB_of, IfB_no, pickE_of, pickE_no, ite_of, ite_no, tdivE, tmodE, takeAll]
    apply CallB.q (hf l[k] (List.getElem_mem _))
    simp (maxSteps := 4000000) (disch := omega) only [go_sem, w64, AndB_of, IfB_of, IfB_no, pickE_of, pickE_no, ite_of, ite_no, tdivE, tmodE, takeAll]
    refine IfB.split (fun h => ?_) (fun h => ?_)
    · simp (maxSteps := 4000000) (disch := omega) only [go_sem, w64, AndB_of, IfB_of, IfB_no, pickE_of, pickE_no, ite_of, ite_no, tdivE, tmodE, takeAll, idxF_at h1' h hall]
    · simp (maxSteps := 4000000) (disch := omega) only [go_sem, w64, AndB_of, IfB_of, IfB_no, pickE_of, pickE_no, ite_of, ite_no, tdivE, tmodE, takeAll]
      ((repeat' apply And.intro) <;> first | exact fun j hj hji => by by_cases e : j = k; exact (by subst e; exact h); exact hall j hj (by omega) | (exact Weak.go (by (first | (simp [wkL]; done) | (simp [wkL]; omega))) (fun zi => by first | exact .inl rfl | exact .inr rfl | (simp only [upd]; repeat' split) <;> first | exact fun j hj hji => by by_cases e : j = k; exact (by subst e; exact h); exact hall j hj (by omega) | exact .inl rfl | exact .inr rfl | (exfalso; omega) | exact .inr (hd _ (by omega)) | (left; subst_vars; exact hH.symm) | (left; subst_vars; rfl) | (left; simp; done) | (left; simp; omega)) (by omega)) | omega | rfl | assumption | exact Flat.nil | exact ⟨_, rfl, rfl, by assumption⟩ | (simp; done) | (simp; omega))
  · simp (maxSteps := 4000000) (disch := omega) only [go_sem, w64, AndB_of, IfB_of, IfB_no, pickE_of, pickE_no, ite_of, ite_no, tdivE, tmodE, takeAll, idxF_none (fun j hj => hall j hj (by omega))]
theorem c_ClipVr {H : AH} {nx id ver n : Nat} {cells : List AV} (h : H id = .live ver cells) : CallC Try.prog 132 [.msl id ver 4 0 n] H nx (.msl id ver 4 0 n) H nx := by
  refine call_body mixed Try.func132 _ (by unfold Try.f132; rfl) Try.ntmps132 Try.results132 (by decide) (by simp) ?_
  simp (maxSteps := 4000000) (disch := omega) only [go_sem, w64, AndB_of, IfB_of, IfB_no, pickE_of, pickE_no, ite_of, ite_no, tdivE, tmodE, takeAll, h]
theorem c_CloneVr {H : AH} {nx : Nat} (l : List GVer) (t : Bool) (hl : l.length ≤ 1048576) : CallC Try.prog 100 [.sl l.length t (flat GVer.c l)] H nx (.msl nx 1 4 0 l.length) (upd H nx (.live 1 (flat GVer.c l))) (nx + 1) := by
  by_cases h0 : 0 < l.length
  · refine call_body mixed Try.func100 _ (by unfold Try.f100; rfl) Try.ntmps100 Try.results100 (by decide) (by simp) ?_
    simp (maxSteps := 4000000) (disch := omega) only [go_sem, w64, AndB_of, IfB_of, IfB_no, pickE_of, pickE_no, ite_of, ite_no, tdivE, tmodE, takeAll, upd_upd]
  · obtain rfl : l = [] := List.eq_nil_of_length_eq_zero (by omega)
    refine ncall_body mixed Try.func100 _ (by unfold Try.f100; rfl) Try.ntmps100 Try.results100 (by decide) (by simp) ?_
    simp (maxSteps := 4000000) (disch := omega) only [go_sem, w64, AndB_of, IfB_of, IfB_no, pickE_of, pickE_no, ite_of, ite_no, tdivE, tmodE, takeAll, flat_nil]
    refine NW.step ?_
    simp (maxSteps := 4000000) (disch := omega) only [go_sem, w64, AndB_of, IfB_of, IfB_no, pickE_of, pickE_no, ite_of, ite_no, tdivE, tmodE, takeAll]
    refine NW.then ?_
    refine NW.step ?_
    simp (maxSteps := 4000000) (disch := omega) only [go_sem, w64, AndB_of, IfB_of, IfB_no, pickE_of, pickE_no, ite_of, ite_no, tdivE, tmodE, takeAll]
    refine NW.fork rfl ?_ ?_
    · refine NW.step ?_
      simp (maxSteps := 4000000) (disch := omega) only [go_sem, w64, AndB_of, IfB_of, IfB_no, pickE_of, pickE_no, ite_of, ite_no, tdivE, tmodE, takeAll]
      refine NW.weak (Weak.nilV 2 4 1 rfl) (NW.ofw ?_)
      simp (maxSteps := 4000000) (disch := omega) only [go_sem, w64, AndB_of, IfB_of, IfB_no, pickE_of, pickE_no, ite_of, ite_no, tdivE, tmodE, takeAll, List.set_cons_succ, List.set_cons_zero]
    · refine NW.ofw ?_
      simp (maxSteps := 4000000) (disch := omega) only [go_sem, w64, AndB_of, IfB_of, IfB_no, pickE_of, pickE_no, ite_of, ite_no, tdivE, tmodE, takeAll]
      refine NW.ofw ?_
      simp (maxSteps := 4000000) (disch := omega) only [go_sem, w64, AndB_of, IfB_of, IfB_no, pickE_of, pickE_no, ite_of, ite_no, tdivE, tmodE, takeAll, upd_upd]
theorem d_DeleteFuncVr {H : AH} {nx id ver : Nat} (l : List GVer) (f : FuncId) (cap : List AV) (p : GVer → Bool) (hl : l.length ≤ 1048576) (hid : id < nx) (hd : ∀ i, nx ≤ i → H i = .dead) (hH : H id = .live ver (flat GVer.c l)) (hcap : ∀ H', pureL (cap.map (snapA 1 H')) = true)
    (hf : ∀ H' : AH, (∀ i, i < nx → i ≠ id → H' i = H i) → ∀ v ∈ l, QCall Try.prog f (.agg [.int .i64 v.key, .int .i64 v.born, .int .i64 v.died, rowA v.row] :: cap.map (snapA 1 H')) (.bool (p v))) :
    ACallD Try.prog 99 [.msl id ver 4 0 l.length, .fn f cap] H nx (fun r H' nx' => r = .msl id ver 4 0 (keptL p l).length ∧ H' = upd H id (.live ver (flat GVer.c (keptL p l) ++ (List.replicate (l.length - (keptL p l).length) zVer).flatten)) ∧ nx ≤ nx') := by
  refine dcall_body mixed Try.func99 _ (by unfold Try.f99; rfl) Try.ntmps99 Try.results99 (by decide) (by simp) ?_
  simp (maxSteps := 4000000) (disch := omega) only [go_sem, w64, AndB_of, IfB_of, IfB_no, pickE_of, pickE_no, ite_of, ite_no, tdivE, tmodE, takeAll]
  have hq := q_IndexFuncVr l f (cap.map (snapA 1 H)) (hcap H) p hl (hf H fun _ _ _ => rfl)
  apply CallB.borrow 1 (r := .int .i64 (idxF p l)) _ rfl
  rotate_left
  · simp (maxSteps := 4000000) (disch := omega) only [go_sem, w64, AndB_of, IfB_of, IfB_no, pickE_of, pickE_no, ite_of, ite_no, tdivE, tmodE, takeAll, hH]
    exact hq
  rcases idxF_spec p l with ⟨e, hn⟩ | ⟨i, hi, e, hp, hn⟩
  · simp (maxSteps := 4000000) (disch := omega) only [go_sem, w64, AndB_of, IfB_of, IfB_no, pickE_of, pickE_no, ite_of, ite_no, tdivE, tmodE, takeAll, e]
    rw [keptL_none hn]
    simp only [Nat.sub_self, List.replicate_zero, List.flatten_nil, List.append_nil]
    rw [upd_val hH]
    exact ⟨trivial, rfl, Nat.le_refl _⟩ 
  · simp (maxSteps := 4000000) (disch := omega) only [go_sem, w64, AndB_of, IfB_of, IfB_no, pickE_of, pickE_no, ite_of, ite_no, tdivE, tmodE, takeAll, e]
    refine LoopB.auto (fun zs => (nxOf zs, (intOf (slotOf zs 5)).toNat, (intOf (slotOf zs 6)).toNat, cellsOf (blkOf zs (id)))) (fun zz => [(0, none), (0, none), (3, some (.int .i64 (zz.2.1 : Int))), (0, some (.int .i64 (zz.2.2.1 : Int)))]) (fun zz => upd H id (.live ver zz.2.2.2)) (fun zz => zz.1) (fun zz => l.length - zz.2.2.1) (fun zz => nx ≤ zz.1 ∧ DelI GVer.c 4 p l zz.2.2.1 zz.2.1 zz.2.2.2) (by (first | simp (maxSteps := 4000000) (disch := omega) only [go_sem, w64, AndB_of, IfB_of, IfB_no, pickE_of, pickE_no, ite_of, ite_no, tdivE, tmodE, takeAll, hH] | simp (maxSteps := 4000000) (disch := omega) only [go_sem, w64, AndB_of, IfB_of, IfB_no, pickE_of, pickE_no, ite_of, ite_no, tdivE, tmodE, takeAll]); ((repeat' apply And.intro) <;> first | exact DelI.first GVer.len hi hp hn | (exact Weak.go (by (first | (simp [wkL]; done) | (simp [wkL]; omega))) (fun zi => by first | exact .inl rfl | exact .inr rfl | (simp only [upd]; repeat' split) <;> first | exact DelI.first GVer.len hi hp hn | exact .inl rfl | exact .inr rfl | (exfalso; omega) | exact .inr (hd _ (by omega)) | (left; subst_vars; exact hH.symm) | (left; subst_vars; rfl) | (left; simp; done) | (left; simp; omega)) (by omega)) | omega | rfl | assumption | exact Flat.nil | exact ⟨_, rfl, rfl, by assumption⟩ | (simp; done) | (simp; omega))) ?_
    intro zz zh
    obtain ⟨x, i, j, cells⟩ := zz
    dsimp only at zh
    obtain ⟨hx, hI⟩ := zh
    simp (maxSteps := 4000000) (disch := omega) only [go_sem, w64, AndB_of, IfB_of, IfB_no, pickE_of, pickE_no, ite_of, ite_no, tdivE, tmodE, takeAll]
    have hle := hI.le
    have hlen := hI.len
    refine IfB.dec (fun h1 => ?_) (fun h1 => ?_)
    · have h1' : j < l.length := by omega
      have hat := hI.at GVer.len h1'
      change cells.drop (j * 4) = .int .i64 l[j].key :: .int .i64 l[j].born :: .int .i64 l[j].died :: rowA l[j].row :: flat GVer.c (l.drop (j + 1)) at hat
      simp (maxSteps := 4000000) (disch := omega) only [go_sem, w64, AndB_of, IfB_of, IfB_no, pickE_of, pickE_no, ite_of, ite_no, tdivE, tmodE, takeAll, hat]
      apply CallB.borrow 1 (r := .bool (p l[j])) _ rfl
      rotate_left
      · simp (maxSteps := 4000000) (disch := omega) only [go_sem, w64, AndB_of, IfB_of, IfB_no, pickE_of, pickE_no, ite_of, ite_no, tdivE, tmodE, takeAll]
        refine hf _ (fun q h1 h2 => ?_) _ (List.getElem_mem h1')
        (repeat rw [upd_ne _ _ (by omega)])
      simp (maxSteps := 4000000) (disch := omega) only [go_sem, w64, AndB_of, IfB_of, IfB_no, pickE_of, pickE_no, ite_of, ite_no, tdivE, tmodE, takeAll]
      refine IfB.split (fun h => ?_) (fun h => ?_)
      · simp (maxSteps := 4000000) (disch := omega) only [go_sem, w64, AndB_of, IfB_of, IfB_no, pickE_of, pickE_no, ite_of, ite_no, tdivE, tmodE, takeAll]
        ((repeat' apply And.intro) <;> first | exact hI.skip GVer.len h1' h | (exact Weak.go (by (first | (simp [wkL]; done) | (simp [wkL]; omega))) (fun zi => by first | exact .inl rfl | exact .inr rfl | (simp only [upd]; repeat' split) <;> first | exact hI.skip GVer.len h1' h | exact .inl rfl | exact .inr rfl | (exfalso; omega) | exact .inr (hd _ (by omega)) | (left; subst_vars; exact hH.symm) | (left; subst_vars; rfl) | (left; simp; done) | (left; simp; omega)) (by omega)) | omega | rfl | assumption | exact Flat.nil | exact ⟨_, rfl, rfl, by assumption⟩ | (simp; done) | (simp; omega))
      · simp (maxSteps := 4000000) (disch := omega) only [go_sem, w64, AndB_of, IfB_of, IfB_no, pickE_of, pickE_no, ite_of, ite_no, tdivE, tmodE, takeAll]
        ((repeat' apply And.intro) <;> first | exact hI.keep GVer.len h1' h | (have h5 := hI.keep GVer.len h1' h; rw [Nat.mul_one] at h5; exact h5) | (exact Weak.go (by (first | (simp [wkL]; done) | (simp [wkL]; omega))) (fun zi => by first | exact .inl rfl | exact .inr rfl | (simp only [upd]; repeat' split) <;> first | exact hI.keep GVer.len h1' h | (have h5 := hI.keep GVer.len h1' h; rw [Nat.mul_one] at h5; exact h5) | exact .inl rfl | exact .inr rfl | (exfalso; omega) | exact .inr (hd _ (by omega)) | (left; subst_vars; exact hH.symm) | (left; subst_vars; rfl) | (left; simp; done) | (left; simp; omega)) (by omega)) | omega | rfl | assumption | exact Flat.nil | exact ⟨_, rfl, rfl, by assumption⟩ | (simp; done) | (simp; omega))
    · obtain rfl : j = l.length := by have := hI.hj; omega
      obtain ⟨e1, e2⟩ := hI.all GVer.len 0 []
      have hkl := keptL_le (p := p) (l := l)
      subst e1
      have hsub : ((l.length : Int) - ((keptL p l).length : Nat)).toNat = l.length - (keptL p l).length := by omega
      have hdrop : cells.drop (l.length * 4) = [] := List.drop_of_length_le (by omega)
      have hadd : (keptL p l).length * 4 + (l.length - (keptL p l).length) * 4 = l.length * 4 := by omega
      skip
      simp (maxSteps := 4000000) (disch := omega) only [go_sem, w64, AndB_of, IfB_of, IfB_no, pickE_of, pickE_no, ite_of, ite_no, tdivE, tmodE, takeAll, e2, upd_upd, hsub, hadd, hdrop, List.append_nil]
      exact hx
theorem c_ClipR {H : AH} {nx id ver n : Nat} {cells : List AV} (h : H id = .live ver cells) : CallC Try.prog 134 [.msl id ver 1 0 n] H nx (.msl id ver 1 0 n) H nx := by
  refine call_body mixed Try.func134 _ (by unfold Try.f134; rfl) Try.ntmps134 Try.results134 (by decide) (by simp) ?_
  simp (maxSteps := 4000000) (disch := omega) only [go_sem, w64, AndB_of, IfB_of, IfB_no, pickE_of, pickE_no, ite_of, ite_no, tdivE, tmodE, takeAll, h]
end Go.TH
