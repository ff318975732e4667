/- TH: locks, 5: what is left behind an ask: the walks. Made by gen.py. -/
import Derived.Test.YtolcdfglmcgedaaTf3
import Derived.Test.YtolcdfglmcgedaaTdlk4
namespace Go.TH
open Go Go.Proofs
set_option linter.unusedSimpArgs false
set_option linter.unusedVariables false
set_option maxHeartbeats 20000000
set_option maxRecDepth 100000
theorem o_l17Grant (l : List GAk) (hl : l.length ≤ 1048576) (a : GAk) : ACallD Try.prog 82 [asksA l, .agg (GAk.c a)] noH 0 (fun r H' n' => OwnR H' 0 n' (asksA (grantL l a)) r ∧ slOk 3 r = true) := by
  rw [grantL_eq]
  refine dcall_body mixed Try.func82 _ (by unfold Try.f82; rfl) Try.ntmps82 Try.results82 (by decide) (by simp) ?_
  unfold asksA
  simp (maxSteps := 4000000) (disch := omega) only [go_sem, w64, AndB_of, IfB_of, IfB_no, pickE_of, pickE_no, ite_of, ite_no, tdivE, tmodE, takeAll]
  refine LoopB.auto (fun zs => (nxOf zs, (intOf (slotOf zs 7)).toNat, verOf (blkOf zs (1)), cellsOf (blkOf zs (1)), boolOf (slotOf zs 6))) (fun zz => [(0, none), (2, none), (1, some (.msl 1 zz.2.2.1 3 0 zz.2.1)), (0, some (.bool zz.2.2.2.2)), (0, some (.int .i64 (zz.2.1 : Int)))]) (fun zz => upd (upd noH 0 (.live 0 (GAk.c a))) 1 (.live zz.2.2.1 zz.2.2.2.1)) (fun zz => zz.1) (fun zz => l.length - zz.2.1) (fun zz => zz.2.1 ≤ l.length ∧ 1 < zz.1 ∧ zz.2.2.2.1 = flat GAk.c ((l.take zz.2.1).map (gA a)) ∧ zz.2.2.2.2 = (l.take zz.2.1).any (fun b => decide (sameK b a))) (by (first | simp (maxSteps := 4000000) (disch := omega) only [go_sem, w64, AndB_of, IfB_of, IfB_no, pickE_of, pickE_no, ite_of, ite_no, tdivE, tmodE, takeAll, hH] | simp (maxSteps := 4000000) (disch := omega) only [go_sem, w64, AndB_of, IfB_of, IfB_no, pickE_of, pickE_no, ite_of, ite_no, tdivE, tmodE, takeAll]); ((repeat' apply And.intro) <;> first | exact rfl | (exact Weak.go (by (first | (simp [wkL]; done) | (simp [wkL]; omega))) (fun zi => by first | exact .inl rfl | exact .inr rfl | (simp only [upd]; repeat' split) <;> first | exact rfl | exact .inl rfl | exact .inr rfl | (exfalso; omega) | exact .inr (hd _ (by omega)) | (left; subst_vars; exact hH.symm) | (left; subst_vars; rfl) | (left; simp; done) | (left; simp; omega)) (by omega)) | omega | rfl | assumption | exact Flat.nil | exact ⟨_, rfl, rfl, by assumption⟩ | (simp; done) | (simp; omega))) ?_
  intro zz zh
  obtain ⟨x, k, w, cells, dn⟩ := zz
  dsimp only at zh
  obtain ⟨hk, hx, hc, hd⟩ := zh
  simp (maxSteps := 4000000) (disch := omega) only [go_sem, w64, AndB_of, IfB_of, IfB_no, pickE_of, pickE_no, ite_of, ite_no, tdivE, tmodE, takeAll]
  have hlen : cells.length = k * 3 := by rw [hc, flat_len GAk.len, List.length_map, len_take hk]
  refine IfB.dec (fun h1 => ?_) (fun h1 => ?_)
  · have h1' : k < l.length := by omega
    have hst := gA_step (a := a) h1'
    have han := any_step (p := fun b => decide (sameK b a)) h1'
    rw [← hc] at hst
    rw [← hd] at han
    by_cases c : sameK l[k] a
    · have e1 : gA a l[k] = a := if_pos c
      rw [e1] at hst
      rw [decide_eq_true c, Bool.or_true] at han
      have c1 := c.1
      have c2 := c.2
      simp (maxSteps := 4000000) (disch := omega) only [go_sem, w64, AndB_of, IfB_of, IfB_no, pickE_of, pickE_no, ite_of, ite_no, tdivE, tmodE, takeAll, GAk.c, c1, c2]
      ((repeat' apply And.intro) <;> first | exact hst.symm | exact han.symm | (exact Weak.go (by (first | (simp [wkL]; done) | (simp [wkL]; omega))) (fun zi => by first | exact .inl rfl | exact .inr rfl | (simp only [upd]; repeat' split) <;> first | exact hst.symm | exact han.symm | exact .inl rfl | exact .inr rfl | (exfalso; omega) | exact .inr (hd _ (by omega)) | (left; subst_vars; exact hH.symm) | (left; subst_vars; rfl) | (left; simp; done) | (left; simp; omega)) (by omega)) | omega | rfl | assumption | exact Flat.nil | exact ⟨_, rfl, rfl, by assumption⟩ | (simp; done) | (simp; omega))
    · have e1 : gA a l[k] = l[k] := if_neg c
      rw [e1] at hst
      rw [decide_eq_false c, Bool.or_false] at han
      simp (maxSteps := 4000000) (disch := omega) only [go_sem, w64, AndB_of, IfB_of, IfB_no, pickE_of, pickE_no, ite_of, ite_no, tdivE, tmodE, takeAll, GAk.c]
      repeat' (first | (refine IfB.dec2 (fun h hd => ?_) (fun h hd => ?_) <;> (try (have h2 := h; unfold inR at h2)) <;> (try simp (maxSteps := 4000000) (disch := omega) only [go_sem, w64, AndB_of, IfB_of, IfB_no, pickE_of, pickE_no, ite_of, ite_no, tdivE, tmodE, takeAll, hd])) | (refine IfB.split (fun h => ?_) (fun h => ?_) <;> (try simp (maxSteps := 4000000) (disch := omega) only [go_sem, w64, AndB_of, IfB_of, IfB_no, pickE_of, pickE_no, ite_of, ite_no, tdivE, tmodE, takeAll, h])) | (refine DrawB.quiet (by kernel_rfl) ?_; simp (maxSteps := 4000000) (disch := omega) only [go_sem, w64, AndB_of, IfB_of, IfB_no, pickE_of, pickE_no, ite_of, ite_no, tdivE, tmodE, takeAll]))
      all_goals first
        | (exfalso; exact c ⟨by assumption, by assumption⟩)
        | ((repeat' apply And.intro) <;> first | exact hst.symm | exact han.symm | (exact Weak.go (by (first | (simp [wkL]; done) | (simp [wkL]; omega))) (fun zi => by first | exact .inl rfl | exact .inr rfl | (simp only [upd]; repeat' split) <;> first | exact hst.symm | exact han.symm | exact .inl rfl | exact .inr rfl | (exfalso; omega) | exact .inr (hd _ (by omega)) | (left; subst_vars; exact hH.symm) | (left; subst_vars; rfl) | (left; simp; done) | (left; simp; omega)) (by omega)) | omega | rfl | assumption | exact Flat.nil | exact ⟨_, rfl, rfl, by assumption⟩ | (simp; done) | (simp; omega))
  · obtain rfl : k = l.length := by omega
    rw [List.take_length] at hc hd
    subst hc
    rw [← hd]
    cases dn
    · simp (maxSteps := 4000000) (disch := omega) only [go_sem, w64, AndB_of, IfB_of, IfB_no, pickE_of, pickE_no, ite_of, ite_no, tdivE, tmodE, takeAll, GAk.c, List.length_map]
      have e : flat GAk.c (l.map (gA a)) ++ [.int .i64 a.who, .int .i64 a.key, .int .i64 a.kind] = flat GAk.c (l.map (gA a) ++ [a]) := by rw [flat_append]; simp [flat, GAk.c]
      have e2 : (l.map (gA a) ++ [a]).length = l.length + 1 := by simp
      refine ⟨?_, rfl⟩
      rw [e, ← e2]
      exact OwnR.flat GAk.len GAk.plain (upd_same ..) (by omega) (by omega)
    · simp (maxSteps := 4000000) (disch := omega) only [go_sem, w64, AndB_of, IfB_of, IfB_no, pickE_of, pickE_no, ite_of, ite_no, tdivE, tmodE, takeAll, GAk.c]
      have e2 : (l.map (gA a)).length = l.length := by simp
      refine ⟨?_, rfl⟩
      rw [← e2]
      exact OwnR.flat GAk.len GAk.plain (upd_same ..) (by omega) (by omega)
end Go.TH
