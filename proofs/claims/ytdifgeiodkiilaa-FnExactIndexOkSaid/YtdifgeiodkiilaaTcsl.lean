/- TH: the library on slices: the walks. Made by slib.py and gen.py. -/
import Derived.Test.YtdifgeiodkiilaaTco
import Derived.Test.YtdifgeiodkiilaaTcbo
import Derived.Test.YtdifgeiodkiilaaTf3
namespace Go.TH
open Go Go.Proofs
set_option linter.unusedSimpArgs false
set_option linter.unusedVariables false
set_option maxHeartbeats 20000000
set_option maxRecDepth 100000
theorem q_IndexFuncMk (l : List GMk) (f : FuncId) (cap : List AV) (hcap : pureL cap = true) (p : GMk → Bool) (hl : l.length ≤ 1048576) (hf : ∀ v ∈ l, QCall Try.prog f ([.agg [.int .i64 v.v.k, .int .i64 v.v.n, .str v.v.s, .int .i64 v.key, .int .i64 v.born, .int .i64 v.died]] ++ cap) (.bool (p v))) :
    QCall Try.prog 120 [marksA l, .fn f cap] (.int .i64 (idxF p l)) := by
  refine qcall_body mixed Try.func120 _ (by unfold Try.f120; rfl) Try.ntmps120 Try.results120 (by decide) 0 (by simp) (by simp [pureL, pureA, hcap]) ?_
  unfold marksA
  simp (maxSteps := 4000000) (disch := omega) only [go_sem, w64, AndB_of, IfB_of, IfB_no, pickE_of, pickE_no, ite_of, ite_no, tdivE, tmodE, takeAll]
  refine LoopB.auto (fun zs => (intOf (slotOf zs 8)).toNat) (fun zz => [(0, none), (0, none), (5, none), (0, some (.int .i64 (zz : Int)))]) (fun zz => noH) (fun zz => 5 * zz) (fun zz => l.length - zz) (fun zz => zz ≤ l.length ∧ ∀ j (h : j < l.length), j < zz → p l[j] = false) (by (first | simp (maxSteps := 4000000) (disch := omega) only [go_sem, w64, AndB_of, IfB_of, IfB_no, pickE_of, pickE_no, ite_of, ite_no, tdivE, tmodE, takeAll, hH] | simp (maxSteps := 4000000) (disch := omega) only [go_sem, w64, AndB_of, IfB_of, IfB_no, pickE_of, pickE_no, ite_of, ite_no, tdivE, tmodE, takeAll]); ((repeat' apply And.intro) <;> first | (exact Weak.go (by (first | (simp [wkL]; done) | (simp [wkL]; omega))) (fun zi => by first | exact .inl rfl | exact .inr rfl | (simp only [upd]; repeat' split) <;> first | exact .inl rfl | exact .inr rfl | (exfalso; omega) | exact .inr (hd _ (by omega)) | (left; subst_vars; exact hH.symm) | (left; subst_vars; rfl) | (left; simp; done) | (left; simp; omega)) (by omega)) | omega | rfl | assumption | exact Flat.nil | exact ⟨_, rfl, rfl, by assumption⟩ | (simp; done) | (simp; omega))) ?_
  intro k zh
  obtain ⟨hk, hall⟩ := zh
  simp (maxSteps := 4000000) (disch := omega) only [go_sem, w64, AndB_of, IfB_of, IfB_no, pickE_of, pickE_no, ite_of, ite_no, tdivE, tmodE, takeAll]
  refine IfB.dec (fun h1 => ?_) (fun h1 => ?_)
  · have h1' : k < l.length := by omega
    simp (maxSteps := 4000000) (disch := omega) only [go_sem, w64, AndB_of, IfB_of, IfB_no, pickE_of, pickE_no, ite_of, ite_no, tdivE, tmodE, takeAll]
    apply CallB.q (hf l[k] (List.getElem_mem _))
    simp (maxSteps := 4000000) (disch := omega) only [go_sem, w64, AndB_of, IfB_of, IfB_no, pickE_of, pickE_no, ite_of, ite_no, tdivE, tmodE, takeAll]
    refine IfB.split (fun h => ?_) (fun h => ?_)
    · simp (maxSteps := 4000000) (disch := omega) only [go_sem, w64, AndB_of, IfB_of, IfB_no, pickE_of, pickE_no, ite_of, ite_no, tdivE, tmodE, takeAll, idxF_at h1' h hall]
    · simp (maxSteps := 4000000) (disch := omega) only [go_sem, w64, AndB_of, IfB_of, IfB_no, pickE_of, pickE_no, ite_of, ite_no, tdivE, tmodE, takeAll]
      ((repeat' apply And.intro) <;> first | exact fun j hj hji => by by_cases e : j = k; exact (by subst e; exact h); exact hall j hj (by omega) | (exact Weak.go (by (first | (simp [wkL]; done) | (simp [wkL]; omega))) (fun zi => by first | exact .inl rfl | exact .inr rfl | (simp only [upd]; repeat' split) <;> first | exact fun j hj hji => by by_cases e : j = k; exact (by subst e; exact h); exact hall j hj (by omega) | exact .inl rfl | exact .inr rfl | (exfalso; omega) | exact .inr (hd _ (by omega)) | (left; subst_vars; exact hH.symm) | (left; subst_vars; rfl) | (left; simp; done) | (left; simp; omega)) (by omega)) | omega | rfl | assumption | exact Flat.nil | exact ⟨_, rfl, rfl, by assumption⟩ | (simp; done) | (simp; omega))
  · simp (maxSteps := 4000000) (disch := omega) only [go_sem, w64, AndB_of, IfB_of, IfB_no, pickE_of, pickE_no, ite_of, ite_no, tdivE, tmodE, takeAll, idxF_none (fun j hj => hall j hj (by omega))]
theorem q_ContainsFuncMk (l : List GMk) (f : FuncId) (cap : List AV) (hcap : pureL cap = true) (p : GMk → Bool) (hl : l.length ≤ 1048576) (hf : ∀ v ∈ l, QCall Try.prog f ([.agg [.int .i64 v.v.k, .int .i64 v.v.n, .str v.v.s, .int .i64 v.key, .int .i64 v.born, .int .i64 v.died]] ++ cap) (.bool (p v))) :
    QCall Try.prog 74 [marksA l, .fn f cap] (.bool (l.any p)) := by
  refine qcall_body mixed Try.func74 _ (by unfold Try.f74; rfl) Try.ntmps74 Try.results74 (by decide) 0 (by simp) (by simp [pureL, pureA, hcap]) ?_
  simp (maxSteps := 4000000) (disch := omega) only [go_sem, w64, AndB_of, IfB_of, IfB_no, pickE_of, pickE_no, ite_of, ite_no, tdivE, tmodE, takeAll]
  apply CallB.q (q_IndexFuncMk l f cap hcap p hl hf)
  simp (maxSteps := 4000000) (disch := omega) only [go_sem, w64, AndB_of, IfB_of, IfB_no, pickE_of, pickE_no, ite_of, ite_no, tdivE, tmodE, takeAll]
  have := @idxF_ge _ p l
  rw [AV.bool.injEq, Bool.eq_iff_iff]; (try simp only [decide_eq_true_iff])
  simp [this]
theorem c_ClipMk {H : AH} {nx id ver n : Nat} {cells : List AV} (h : H id = .live ver cells) : CallC Try.prog 139 [.msl id ver 6 0 n] H nx (.msl id ver 6 0 n) H nx := by
  refine call_body mixed Try.func139 _ (by unfold Try.f139; rfl) Try.ntmps139 Try.results139 (by decide) (by simp) ?_
  simp (maxSteps := 4000000) (disch := omega) only [go_sem, w64, AndB_of, IfB_of, IfB_no, pickE_of, pickE_no, ite_of, ite_no, tdivE, tmodE, takeAll, h]
theorem c_CloneMk {H : AH} {nx : Nat} (l : List GMk) (t : Bool) (hl : l.length ≤ 1048576) : CallC Try.prog 111 [.sl l.length t (flat GMk.c l)] H nx (.msl nx 1 6 0 l.length) (upd H nx (.live 1 (flat GMk.c l))) (nx + 1) := by
  by_cases h0 : 0 < l.length
  · refine call_body mixed Try.func111 _ (by unfold Try.f111; rfl) Try.ntmps111 Try.results111 (by decide) (by simp) ?_
    simp (maxSteps := 4000000) (disch := omega) only [go_sem, w64, AndB_of, IfB_of, IfB_no, pickE_of, pickE_no, ite_of, ite_no, tdivE, tmodE, takeAll, upd_upd]
  · obtain rfl : l = [] := List.eq_nil_of_length_eq_zero (by omega)
    refine ncall_body mixed Try.func111 _ (by unfold Try.f111; rfl) Try.ntmps111 Try.results111 (by decide) (by simp) ?_
    simp (maxSteps := 4000000) (disch := omega) only [go_sem, w64, AndB_of, IfB_of, IfB_no, pickE_of, pickE_no, ite_of, ite_no, tdivE, tmodE, takeAll, flat_nil]
    refine NW.step ?_
    simp (maxSteps := 4000000) (disch := omega) only [go_sem, w64, AndB_of, IfB_of, IfB_no, pickE_of, pickE_no, ite_of, ite_no, tdivE, tmodE, takeAll]
    refine NW.then ?_
    refine NW.step ?_
    simp (maxSteps := 4000000) (disch := omega) only [go_sem, w64, AndB_of, IfB_of, IfB_no, pickE_of, pickE_no, ite_of, ite_no, tdivE, tmodE, takeAll]
    refine NW.fork rfl ?_ ?_
    · refine NW.step ?_
      simp (maxSteps := 4000000) (disch := omega) only [go_sem, w64, AndB_of, IfB_of, IfB_no, pickE_of, pickE_no, ite_of, ite_no, tdivE, tmodE, takeAll]
      refine NW.weak (Weak.nilV 2 6 1 rfl) (NW.ofw ?_)
      simp (maxSteps := 4000000) (disch := omega) only [go_sem, w64, AndB_of, IfB_of, IfB_no, pickE_of, pickE_no, ite_of, ite_no, tdivE, tmodE, takeAll, List.set_cons_succ, List.set_cons_zero]
    · refine NW.ofw ?_
      simp (maxSteps := 4000000) (disch := omega) only [go_sem, w64, AndB_of, IfB_of, IfB_no, pickE_of, pickE_no, ite_of, ite_no, tdivE, tmodE, takeAll]
      refine NW.ofw ?_
      simp (maxSteps := 4000000) (disch := omega) only [go_sem, w64, AndB_of, IfB_of, IfB_no, pickE_of, pickE_no, ite_of, ite_no, tdivE, tmodE, takeAll, upd_upd]
theorem q_cloneMk (l : List GMk) (hl : l.length ≤ 1048576) : QCall Try.prog 109 [marksA l] (marksA l) := by
  refine qcall_bodyL mixed Try.func109 _ (by unfold Try.f109; rfl) Try.ntmps109 Try.results109 (by decide) 1 (by simp) (by simp [pureL, pureA]) ?_
  unfold marksA
  simp (maxSteps := 4000000) (disch := omega) only [go_sem, w64, AndB_of, IfB_of, IfB_no, pickE_of, pickE_no, ite_of, ite_no, tdivE, tmodE, takeAll]
  refine IfB.dec (fun h => ?_) (fun h => ?_)
  · obtain rfl : l = [] := List.eq_nil_of_length_eq_zero (by omega)
    simp (maxSteps := 4000000) (disch := omega) only [go_sem, w64, AndB_of, IfB_of, IfB_no, pickE_of, pickE_no, ite_of, ite_no, tdivE, tmodE, takeAll, flat_nil]
  · simp (maxSteps := 4000000) (disch := omega) only [go_sem, w64, AndB_of, IfB_of, IfB_no, pickE_of, pickE_no, ite_of, ite_no, tdivE, tmodE, takeAll]
    apply CallB.of (c_ClipMk (by repeat (first | exact hH | exact upd_same _ _ _ | rw [upd_ne _ _ (by omega)])))
    simp (maxSteps := 4000000) (disch := omega) only [go_sem, w64, AndB_of, IfB_of, IfB_no, pickE_of, pickE_no, ite_of, ite_no, tdivE, tmodE, takeAll]
theorem d_cloneMk {H : AH} {nx : Nat} (l : List GMk) (hl : l.length ≤ 1048576) : ACallD Try.prog 109 [marksA l] H nx (fun r H' nx' => r = .msl nx 0 6 0 l.length ∧ H' = upd H nx (.live 0 (flat GMk.c l)) ∧ nx' = nx + 1) := by
  by_cases h0 : 0 < l.length
  · refine dcall_body mixed Try.func109 _ (by unfold Try.f109; rfl) Try.ntmps109 Try.results109 (by decide) (by simp) ?_
    unfold marksA
    simp (maxSteps := 4000000) (disch := omega) only [go_sem, w64, AndB_of, IfB_of, IfB_no, pickE_of, pickE_no, ite_of, ite_no, tdivE, tmodE, takeAll]
    apply CallB.of (c_ClipMk (by repeat (first | exact hH | exact upd_same _ _ _ | rw [upd_ne _ _ (by omega)])))
    simp (maxSteps := 4000000) (disch := omega) only [go_sem, w64, AndB_of, IfB_of, IfB_no, pickE_of, pickE_no, ite_of, ite_no, tdivE, tmodE, takeAll]
  · obtain rfl : l = [] := List.eq_nil_of_length_eq_zero (by omega)
    refine ⟨_, _, _, ?_, rfl, rfl, rfl⟩
    refine ncall_body mixed Try.func109 _ (by unfold Try.f109; rfl) Try.ntmps109 Try.results109 (by decide) (by simp) ?_
    unfold marksA
    simp (maxSteps := 4000000) (disch := omega) only [go_sem, w64, AndB_of, IfB_of, IfB_no, pickE_of, pickE_no, ite_of, ite_no, tdivE, tmodE, takeAll, flat_nil]
    refine NW.step ?_
    simp (maxSteps := 4000000) (disch := omega) only [go_sem, w64, AndB_of, IfB_of, IfB_no, pickE_of, pickE_no, ite_of, ite_no, tdivE, tmodE, takeAll]
    refine NW.then ?_
    refine NW.step ?_
    simp (maxSteps := 4000000) (disch := omega) only [go_sem, w64, AndB_of, IfB_of, IfB_no, pickE_of, pickE_no, ite_of, ite_no, tdivE, tmodE, takeAll]
    refine NW.yes rfl ?_
    refine NW.step ?_
    simp (maxSteps := 4000000) (disch := omega) only [go_sem, w64, AndB_of, IfB_of, IfB_no, pickE_of, pickE_no, ite_of, ite_no, tdivE, tmodE, takeAll]
    refine NW.weak (Weak.nil 2 6 rfl) (NW.ofw ?_)
    simp (maxSteps := 4000000) (disch := omega) only [go_sem, w64, AndB_of, IfB_of, IfB_no, pickE_of, pickE_no, ite_of, ite_no, tdivE, tmodE, takeAll, List.set_cons_succ, List.set_cons_zero]
end Go.TH
