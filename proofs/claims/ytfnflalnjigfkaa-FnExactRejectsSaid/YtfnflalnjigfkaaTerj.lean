/- TH: what an expression rejects: the walks. Made by gen.py. -/
import Derived.Test.YtfnflalnjigfkaaTf3
import Derived.Test.YtfnflalnjigfkaaTeek2
import Derived.Test.YtfnflalnjigfkaaTf4
namespace Go.TH
open Go Go.Proofs
set_option linter.unusedSimpArgs false
set_option linter.unusedVariables false
set_option maxHeartbeats 20000000
set_option maxRecDepth 100000
theorem d_l24Next {H : AH} {nx id v : Nat} (fs : List GFt) (hfs : fs.length ≤ 20) (p : GPt) (fr : Int) (hk : 1 ≤ p.k ∧ p.k ≤ 8) (ht : pTakes p ≤ fs.length) (hid : id < nx) (hH : H id = .live v (flat GFt.c fs)) :
    ACallD Try.prog 127 [.msl id v 3 0 fs.length, .agg (GPt.c p), .int .i64 fr] H nx (StepFQ H nx id fr fs p) := by
  have e1 : ((fs.length : Int) - 1).toNat = fs.length - 1 := by omega
  have e2 : ((fs.length : Int) - 2).toNat = fs.length - 2 := by omega
  unfold GPt.c
  refine dcall_body mixed Try.func127 _ (by unfold Try.f127; rfl) Try.ntmps127 Try.results127 (by decide) (by simp) ?_
  simp (maxSteps := 4000000) (disch := omega) only [go_sem, w64, AndB_of, IfB_of, IfB_no, pickE_of, pickE_no, ite_of, ite_no, tdivE, tmodE, takeAll, hH]
  refine IfB.dec (fun k1 => ?_) (fun k1 => ?_)
  · have t0 : pTakes p = 0 := by unfold pTakes; rw [if_neg (by omega), if_neg (by omega)]
    simp (maxSteps := 4000000) (disch := omega) only [go_sem, w64, AndB_of, IfB_of, IfB_no, pickE_of, pickE_no, ite_of, ite_no, tdivE, tmodE, takeAll]
    repeat' (first | (refine IfB.dec2 (fun h hd => ?_) (fun h hd => ?_) <;> (try (have h2 := h; unfold inR at h2)) <;> (try simp (maxSteps := 4000000) (disch := omega) only [go_sem, w64, AndB_of, IfB_of, IfB_no, pickE_of, pickE_no, ite_of, ite_no, tdivE, tmodE, takeAll, hH, hd])) | (refine IfB.split (fun h => ?_) (fun h => ?_) <;> (try simp (maxSteps := 4000000) (disch := omega) only [go_sem, w64, AndB_of, IfB_of, IfB_no, pickE_of, pickE_no, ite_of, ite_no, tdivE, tmodE, takeAll, hH, h])) | (refine DrawB.quiet (by kernel_rfl) ?_; simp (maxSteps := 4000000) (disch := omega) only [go_sem, w64, AndB_of, IfB_of, IfB_no, pickE_of, pickE_no, ite_of, ite_no, tdivE, tmodE, takeAll, hH]))
    all_goals (refine StepFQ.mk0 t0 rfl (fun i h1 h2 => by simp only [upd_ne _ _ (show i ≠ nx by omega), upd_ne _ _ (show i ≠ nx + 1 by omega), upd_ne _ _ (show i ≠ nx + 1 + 1 by omega)]) (by omega) ?_)
    all_goals (unfold findF; rw [if_pos k1]; simp_all)
  simp (maxSteps := 4000000) (disch := omega) only [go_sem, w64, AndB_of, IfB_of, IfB_no, pickE_of, pickE_no, ite_of, ite_no, tdivE, tmodE, takeAll]
  refine IfB.dec (fun k2 => ?_) (fun k2 => ?_)
  · have t0 : pTakes p = 0 := by unfold pTakes; rw [if_neg (by omega), if_neg (by omega)]
    simp (maxSteps := 4000000) (disch := omega) only [go_sem, w64, AndB_of, IfB_of, IfB_no, pickE_of, pickE_no, ite_of, ite_no, tdivE, tmodE, takeAll]
    repeat' (first | (refine IfB.dec2 (fun h hd => ?_) (fun h hd => ?_) <;> (try (have h2 := h; unfold inR at h2)) <;> (try simp (maxSteps := 4000000) (disch := omega) only [go_sem, w64, AndB_of, IfB_of, IfB_no, pickE_of, pickE_no, ite_of, ite_no, tdivE, tmodE, takeAll, hH, hd])) | (refine IfB.split (fun h => ?_) (fun h => ?_) <;> (try simp (maxSteps := 4000000) (disch := omega) only [go_sem, w64, AndB_of, IfB_of, IfB_no, pickE_of, pickE_no, ite_of, ite_no, tdivE, tmodE, takeAll, hH, h])) | (refine DrawB.quiet (by kernel_rfl) ?_; simp (maxSteps := 4000000) (disch := omega) only [go_sem, w64, AndB_of, IfB_of, IfB_no, pickE_of, pickE_no, ite_of, ite_no, tdivE, tmodE, takeAll, hH]))
    all_goals (refine StepFQ.mk0 t0 rfl (fun i h1 h2 => by simp only [upd_ne _ _ (show i ≠ nx by omega), upd_ne _ _ (show i ≠ nx + 1 by omega), upd_ne _ _ (show i ≠ nx + 1 + 1 by omega)]) (by omega) ?_)
    all_goals (unfold findF; rw [if_neg k1, if_pos k2]; simp_all)
  simp (maxSteps := 4000000) (disch := omega) only [go_sem, w64, AndB_of, IfB_of, IfB_no, pickE_of, pickE_no, ite_of, ite_no, tdivE, tmodE, takeAll]
  refine IfB.dec (fun k3 => ?_) (fun k3 => ?_)
  · have t0 : pTakes p = 2 := by unfold pTakes; rw [if_pos (by omega)]
    have hn1 : fs.length - 1 < fs.length := by omega
    have hn2 : fs.length - 2 < fs.length := by omega
    have hdr := dropF_two (l := fs) (by omega)
    have f0 := GFt.at0 hn2
    have f1 := GFt.at0 hn1
    generalize h0 : (fs.getD (fs.length - 2) zF).no = x0 at f0
    generalize h1 : (fs.getD (fs.length - 1) zF).no = x1 at f1
    have en : ((fs.length : Int) - 2 - 0).toNat = fs.length - 2 := by omega
    cases x0 <;> cases x1
    all_goals simp (maxSteps := 4000000) (disch := omega) only [go_sem, w64, AndB_of, IfB_of, IfB_no, pickE_of, pickE_no, ite_of, ite_no, tdivE, tmodE, takeAll, hH, e1, e2, f0, f1, en, GFt.take]
    case false.false =>
      refine StepFQ.mk (by omega) rfl (fun i h1 h2 => by simp only [upd_ne _ _ (show i ≠ nx by omega), upd_ne _ _ (show i ≠ nx + 1 by omega), upd_ne _ _ (show i ≠ nx + 1 + 1 by omega), upd_ne _ _ (show i ≠ nx + 1 + 1 + 1 by omega), upd_ne _ _ h2]) (by omega) ?_
      rw [hdr]
      unfold findF; rw [if_neg k1, if_neg k2, if_pos (Or.inl k3)]; simp only [List.getD_cons_zero, List.getD_cons_succ, h0, h1]; rfl
    all_goals
      refine DrawB.intro [5, 6] [6] (inS (nx + 2) (nx + 3) (nx + 4)) (by kernel_rfl) ?_
      simp (maxSteps := 4000000) (disch := omega) only [go_sem, w64, AndB_of, IfB_of, IfB_no, pickE_of, pickE_no, ite_of, ite_no, tdivE, tmodE, takeAll, hH, e1, e2, en, GFt.take]
      refine StepFQ.mk (by omega) rfl (fun i h1 h2 => by simp only [upd_ne _ _ (show i ≠ nx by omega), upd_ne _ _ (show i ≠ nx + 1 by omega), upd_ne _ _ (show i ≠ nx + 1 + 1 by omega), upd_ne _ _ (show i ≠ nx + 1 + 1 + 1 by omega), upd_ne _ _ h2]) (by omega) ?_
      rw [hdr]
      unfold findF; rw [if_neg k1, if_neg k2, if_pos (Or.inl k3)]; simp only [List.getD_cons_zero, List.getD_cons_succ, h0, h1]; rfl
  simp (maxSteps := 4000000) (disch := omega) only [go_sem, w64, AndB_of, IfB_of, IfB_no, pickE_of, pickE_no, ite_of, ite_no, tdivE, tmodE, takeAll]
  refine IfB.dec (fun k4 => ?_) (fun k4 => ?_)
  · have t0 : pTakes p = 2 := by unfold pTakes; rw [if_pos (by omega)]
    have hn1 : fs.length - 1 < fs.length := by omega
    have hn2 : fs.length - 2 < fs.length := by omega
    have hdr := dropF_two (l := fs) (by omega)
    have f0 := GFt.at0 hn2
    have f1 := GFt.at0 hn1
    generalize h0 : (fs.getD (fs.length - 2) zF).no = x0 at f0
    generalize h1 : (fs.getD (fs.length - 1) zF).no = x1 at f1
    have en : ((fs.length : Int) - 2 - 0).toNat = fs.length - 2 := by omega
    cases x0 <;> cases x1
    all_goals simp (maxSteps := 4000000) (disch := omega) only [go_sem, w64, AndB_of, IfB_of, IfB_no, pickE_of, pickE_no, ite_of, ite_no, tdivE, tmodE, takeAll, hH, e1, e2, f0, f1, en, GFt.take]
    case false.false =>
      refine StepFQ.mk (by omega) rfl (fun i h1 h2 => by simp only [upd_ne _ _ (show i ≠ nx by omega), upd_ne _ _ (show i ≠ nx + 1 by omega), upd_ne _ _ (show i ≠ nx + 1 + 1 by omega), upd_ne _ _ (show i ≠ nx + 1 + 1 + 1 by omega), upd_ne _ _ h2]) (by omega) ?_
      rw [hdr]
      unfold findF; rw [if_neg k1, if_neg k2, if_pos (Or.inr k4)]; simp only [List.getD_cons_zero, List.getD_cons_succ, h0, h1]; rfl
    all_goals
      refine DrawB.intro [5, 6] [6] (inS (nx + 2) (nx + 3) (nx + 4)) (by kernel_rfl) ?_
      simp (maxSteps := 4000000) (disch := omega) only [go_sem, w64, AndB_of, IfB_of, IfB_no, pickE_of, pickE_no, ite_of, ite_no, tdivE, tmodE, takeAll, hH, e1, e2, en, GFt.take]
      refine StepFQ.mk (by omega) rfl (fun i h1 h2 => by simp only [upd_ne _ _ (show i ≠ nx by omega), upd_ne _ _ (show i ≠ nx + 1 by omega), upd_ne _ _ (show i ≠ nx + 1 + 1 by omega), upd_ne _ _ (show i ≠ nx + 1 + 1 + 1 by omega), upd_ne _ _ h2]) (by omega) ?_
      rw [hdr]
      unfold findF; rw [if_neg k1, if_neg k2, if_pos (Or.inr k4)]; simp only [List.getD_cons_zero, List.getD_cons_succ, h0, h1]; rfl
  simp (maxSteps := 4000000) (disch := omega) only [go_sem, w64, AndB_of, IfB_of, IfB_no, pickE_of, pickE_no, ite_of, ite_no, tdivE, tmodE, takeAll]
  refine IfB.dec (fun k5 => ?_) (fun k5 => ?_)
  · have t0 : pTakes p = 2 := by unfold pTakes; rw [if_pos (by omega)]
    have hn1 : fs.length - 1 < fs.length := by omega
    have hn2 : fs.length - 2 < fs.length := by omega
    have hdr := dropF_two (l := fs) (by omega)
    have f0 := GFt.at1 hn2
    have f1 := GFt.at1 hn1
    have f2 := GFt.at2 hn2
    have f3 := GFt.at2 hn1
    generalize h0 : (fs.getD (fs.length - 2) zF).nt = x0 at f0
    generalize h1 : (fs.getD (fs.length - 1) zF).nt = x1 at f1
    generalize h2 : (fs.getD (fs.length - 2) zF).nf = x2 at f2
    generalize h3 : (fs.getD (fs.length - 1) zF).nf = x3 at f3
    have en : ((fs.length : Int) - 2 - 0).toNat = fs.length - 2 := by omega
    cases x0 <;> cases x2
    all_goals
      simp (maxSteps := 4000000) (disch := omega) only [go_sem, w64, AndB_of, IfB_of, IfB_no, pickE_of, pickE_no, ite_of, ite_no, tdivE, tmodE, takeAll, hH, e1, e2, f0, f1, f2, f3, en, GFt.take]
      refine DrawB.intro [29, 30] [] (inS (nx + 2) (nx + 3) (nx + 4)) (by kernel_rfl) ?_
      simp (maxSteps := 4000000) (disch := omega) only [go_sem, w64, AndB_of, IfB_of, IfB_no, pickE_of, pickE_no, ite_of, ite_no, tdivE, tmodE, takeAll, hH, e1, e2, f0, f1, f2, f3, en, GFt.take]
    all_goals cases x1
    all_goals try simp (maxSteps := 4000000) (disch := omega) only [go_sem, w64, AndB_of, IfB_of, IfB_no, pickE_of, pickE_no, ite_of, ite_no, tdivE, tmodE, takeAll, hH, e1, e2, en, GFt.take]
    all_goals
      refine DrawB.intro [5, 6] [6] (inS (nx + 3) (nx + 4) (nx + 5)) (by kernel_rfl) ?_
      simp (maxSteps := 4000000) (disch := omega) only [go_sem, w64, AndB_of, IfB_of, IfB_no, pickE_of, pickE_no, ite_of, ite_no, tdivE, tmodE, takeAll, hH, e1, e2, en, GFt.take]
      refine StepFQ.mk (by omega) rfl (fun i h1 h2 => by simp only [upd_ne _ _ (show i ≠ nx by omega), upd_ne _ _ (show i ≠ nx + 1 by omega), upd_ne _ _ (show i ≠ nx + 1 + 1 by omega), upd_ne _ _ (show i ≠ nx + 1 + 1 + 1 by omega), upd_ne _ _ h2]) (by omega) ?_
      rw [hdr]
      unfold findF; rw [if_neg k1, if_neg k2, if_neg (fun h => h.elim k3 k4), if_pos k5]; simp only [List.getD_cons_zero, List.getD_cons_succ, h0, h1, h2, h3]; rfl
  simp (maxSteps := 4000000) (disch := omega) only [go_sem, w64, AndB_of, IfB_of, IfB_no, pickE_of, pickE_no, ite_of, ite_no, tdivE, tmodE, takeAll]
  refine IfB.dec (fun k6 => ?_) (fun k6 => ?_)
  · have t0 : pTakes p = 2 := by unfold pTakes; rw [if_pos (by omega)]
    have hn1 : fs.length - 1 < fs.length := by omega
    have hn2 : fs.length - 2 < fs.length := by omega
    have hdr := dropF_two (l := fs) (by omega)
    have f0 := GFt.at1 hn2
    have f1 := GFt.at1 hn1
    have f2 := GFt.at2 hn2
    have f3 := GFt.at2 hn1
    generalize h0 : (fs.getD (fs.length - 2) zF).nt = x0 at f0
    generalize h1 : (fs.getD (fs.length - 1) zF).nt = x1 at f1
    generalize h2 : (fs.getD (fs.length - 2) zF).nf = x2 at f2
    generalize h3 : (fs.getD (fs.length - 1) zF).nf = x3 at f3
    have en : ((fs.length : Int) - 2 - 0).toNat = fs.length - 2 := by omega
    cases x0 <;> cases x2
    all_goals
      simp (maxSteps := 4000000) (disch := omega) only [go_sem, w64, AndB_of, IfB_of, IfB_no, pickE_of, pickE_no, ite_of, ite_no, tdivE, tmodE, takeAll, hH, e1, e2, f0, f1, f2, f3, en, GFt.take]
      refine DrawB.intro [29, 30] [] (inS (nx + 2) (nx + 3) (nx + 4)) (by kernel_rfl) ?_
      simp (maxSteps := 4000000) (disch := omega) only [go_sem, w64, AndB_of, IfB_of, IfB_no, pickE_of, pickE_no, ite_of, ite_no, tdivE, tmodE, takeAll, hH, e1, e2, f0, f1, f2, f3, en, GFt.take]
    all_goals cases x1
    all_goals try simp (maxSteps := 4000000) (disch := omega) only [go_sem, w64, AndB_of, IfB_of, IfB_no, pickE_of, pickE_no, ite_of, ite_no, tdivE, tmodE, takeAll, hH, e1, e2, en, GFt.take]
    all_goals
      refine DrawB.intro [5, 6] [6] (inS (nx + 3) (nx + 4) (nx + 5)) (by kernel_rfl) ?_
      simp (maxSteps := 4000000) (disch := omega) only [go_sem, w64, AndB_of, IfB_of, IfB_no, pickE_of, pickE_no, ite_of, ite_no, tdivE, tmodE, takeAll, hH, e1, e2, en, GFt.take]
      refine StepFQ.mk (by omega) rfl (fun i h1 h2 => by simp only [upd_ne _ _ (show i ≠ nx by omega), upd_ne _ _ (show i ≠ nx + 1 by omega), upd_ne _ _ (show i ≠ nx + 1 + 1 by omega), upd_ne _ _ (show i ≠ nx + 1 + 1 + 1 by omega), upd_ne _ _ h2]) (by omega) ?_
      rw [hdr]
      unfold findF; rw [if_neg k1, if_neg k2, if_neg (fun h => h.elim k3 k4), if_neg k5, if_pos k6]; simp only [List.getD_cons_zero, List.getD_cons_succ, h0, h1, h2, h3]; rfl
  simp (maxSteps := 4000000) (disch := omega) only [go_sem, w64, AndB_of, IfB_of, IfB_no, pickE_of, pickE_no, ite_of, ite_no, tdivE, tmodE, takeAll]
  refine IfB.dec (fun k7 => ?_) (fun k7 => ?_)
  · have t0 : pTakes p = 1 := by unfold pTakes; rw [if_neg (by omega), if_pos (by omega)]
    have hn1 : fs.length - 1 < fs.length := by omega
    have hdr := dropF_one (l := fs) (by omega)
    have f0 := GFt.at0 hn1
    have f1 := GFt.at1 hn1
    have f2 := GFt.at2 hn1
    have en : ((fs.length : Int) - 1 - 0).toNat = fs.length - 1 := by omega
    simp (maxSteps := 4000000) (disch := omega) only [go_sem, w64, AndB_of, IfB_of, IfB_no, pickE_of, pickE_no, ite_of, ite_no, tdivE, tmodE, takeAll, hH, e1, e2, f0, f1, f2, en, GFt.take]
    refine DrawB.intro [23, 24] [24] (inS (nx + 2) (nx + 3) (nx + 4)) (by kernel_rfl) ?_
    simp (maxSteps := 4000000) (disch := omega) only [go_sem, w64, AndB_of, IfB_of, IfB_no, pickE_of, pickE_no, ite_of, ite_no, tdivE, tmodE, takeAll, hH, e1, e2, f0, f1, f2, en, GFt.take]
    refine StepFQ.mk (by omega) rfl (fun i h1 h2 => by simp only [upd_ne _ _ (show i ≠ nx by omega), upd_ne _ _ (show i ≠ nx + 1 by omega), upd_ne _ _ (show i ≠ nx + 1 + 1 by omega), upd_ne _ _ (show i ≠ nx + 1 + 1 + 1 by omega), upd_ne _ _ h2]) (by omega) ?_
    rw [hdr]
    unfold findF; rw [if_neg k1, if_neg k2, if_neg (fun h => h.elim k3 k4), if_neg k5, if_neg k6, if_pos k7]; rfl
  have t0 : pTakes p = 1 := by unfold pTakes; rw [if_neg (by omega), if_pos (by omega)]
  have hn1 : fs.length - 1 < fs.length := by omega
  have hdr := dropF_one (l := fs) (by omega)
  have f0 := GFt.at0 hn1
  have en : ((fs.length : Int) - 1 - 0).toNat = fs.length - 1 := by omega
  simp (maxSteps := 4000000) (disch := omega) only [go_sem, w64, AndB_of, IfB_of, IfB_no, pickE_of, pickE_no, ite_of, ite_no, tdivE, tmodE, takeAll, hH, e1, e2, f0, en, GFt.take]
  refine DrawB.intro [11, 12] [12] (inS (nx + 2) (nx + 3) (nx + 4)) (by kernel_rfl) ?_
  simp (maxSteps := 4000000) (disch := omega) only [go_sem, w64, AndB_of, IfB_of, IfB_no, pickE_of, pickE_no, ite_of, ite_no, tdivE, tmodE, takeAll, hH, e1, e2, f0, en, GFt.take]
  refine StepFQ.mk (by omega) rfl (fun i h1 h2 => by simp only [upd_ne _ _ (show i ≠ nx by omega), upd_ne _ _ (show i ≠ nx + 1 by omega), upd_ne _ _ (show i ≠ nx + 1 + 1 by omega), upd_ne _ _ (show i ≠ nx + 1 + 1 + 1 by omega), upd_ne _ _ h2]) (by omega) ?_
  rw [hdr]
  unfold findF; rw [if_neg k1, if_neg k2, if_neg (fun h => h.elim k3 k4), if_neg k5, if_neg k6, if_neg k7]; rfl
end Go.TH
