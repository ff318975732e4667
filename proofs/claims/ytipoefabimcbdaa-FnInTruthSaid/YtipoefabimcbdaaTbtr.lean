/- TH: in a list: the walks. Made by gen.py. -/
import Derived.Test.YtipoefabimcbdaaTbk
import Derived.Test.YtipoefabimcbdaaTf3
namespace Go.TH
open Go Go.Proofs
set_option linter.unusedSimpArgs false
set_option linter.unusedVariables false
set_option maxHeartbeats 20000000
set_option maxRecDepth 100000
theorem q_IndexV (l : GRow) (v : GVal) (hl : l.length ≤ 1048576) : QCall Try.prog 122 [rowA l, .agg [.int .i64 v.k, .int .i64 v.n, .str v.s]] (.int .i64 (idxF (fun w => decide (v = w)) l)) := by
  refine qcall_body mixed Try.func122 _ (by unfold Try.f122; rfl) Try.ntmps122 Try.results122 (by decide) 0 (by simp) (by simp [pureL, pureA]) ?_
  unfold rowA
  simp (maxSteps := 4000000) (disch := omega) only [go_sem, w64, AndB_of, IfB_of, IfB_no, pickE_of, pickE_no, ite_of, ite_no, tdivE, tmodE, takeAll]
  refine LoopB.auto (fun zs => (intOf (slotOf zs 8)).toNat) (fun zz => [(0, none), (2, none), (3, none), (0, some (.int .i64 (zz : Int)))]) (fun zz => upd noH 0 (.live 0 [.int .i64 v.k, .int .i64 v.n, .str v.s])) (fun zz => 1) (fun zz => l.length - zz) (fun zz => zz ≤ l.length ∧ ∀ j (h : j < l.length), j < zz → decide (v = l[j]) = false) (by (first | simp (maxSteps := 4000000) (disch := omega) only [go_sem, w64, AndB_of, IfB_of, IfB_no, pickE_of, pickE_no, ite_of, ite_no, tdivE, tmodE, takeAll, hH] | simp (maxSteps := 4000000) (disch := omega) only [go_sem, w64, AndB_of, IfB_of, IfB_no, pickE_of, pickE_no, ite_of, ite_no, tdivE, tmodE, takeAll]); ((repeat' apply And.intro) <;> first | (exact Weak.go (by (first | (simp [wkL]; done) | (simp [wkL]; omega))) (fun zi => by first | exact .inl rfl | exact .inr rfl | (simp only [upd]; repeat' split) <;> first | exact .inl rfl | exact .inr rfl | (exfalso; omega) | exact .inr (hd _ (by omega)) | (left; subst_vars; exact hH.symm) | (left; subst_vars; rfl) | (left; simp; done) | (left; simp; omega)) (by omega)) | omega | rfl | assumption | exact Flat.nil | exact ⟨_, rfl, rfl, by assumption⟩ | (simp; done) | (simp; omega))) ?_
  intro k zh
  obtain ⟨hk, hall⟩ := zh
  simp (maxSteps := 4000000) (disch := omega) only [go_sem, w64, AndB_of, IfB_of, IfB_no, pickE_of, pickE_no, ite_of, ite_no, tdivE, tmodE, takeAll]
  refine IfB.dec (fun h1 => ?_) (fun h1 => ?_)
  · have h1' : k < l.length := by omega
    simp (maxSteps := 4000000) (disch := omega) only [go_sem, w64, AndB_of, IfB_of, IfB_no, pickE_of, pickE_no, ite_of, ite_no, tdivE, tmodE, takeAll]
    refine DrawB.quiet (by kernel_rfl) ?_
    simp (maxSteps := 4000000) (disch := omega) only [go_sem, w64, AndB_of, IfB_of, IfB_no, pickE_of, pickE_no, ite_of, ite_no, tdivE, tmodE, takeAll]
    have hx : v = l[k] ↔ v.k = l[k].k ∧ v.n = l[k].n ∧ v.s = l[k].s := ⟨fun e => by rw [← e]; exact ⟨rfl, rfl, rfl⟩, fun e => GVal.eq3' e.1 e.2.1 e.2.2⟩
    repeat' (first | (refine IfB.dec (fun h => ?_) (fun h => ?_) <;> (try (have h2 := h; unfold inR at h2)) <;> (try simp (maxSteps := 4000000) (disch := omega) only [go_sem, w64, AndB_of, IfB_of, IfB_no, pickE_of, pickE_no, ite_of, ite_no, tdivE, tmodE, takeAll, h])) | (refine IfB.split (fun h => ?_) (fun h => ?_) <;> (try simp (maxSteps := 4000000) (disch := omega) only [go_sem, w64, AndB_of, IfB_of, IfB_no, pickE_of, pickE_no, ite_of, ite_no, tdivE, tmodE, takeAll, h])) | (refine DrawB.quiet (by kernel_rfl) ?_; simp (maxSteps := 4000000) (disch := omega) only [go_sem, w64, AndB_of, IfB_of, IfB_no, pickE_of, pickE_no, ite_of, ite_no, tdivE, tmodE, takeAll]))
    all_goals first
      | (have e : decide (v = l[k]) = true := decide_eq_true (hx.2 ⟨by assumption, by assumption, by assumption⟩)
         simp (maxSteps := 4000000) (disch := omega) only [go_sem, w64, AndB_of, IfB_of, IfB_no, pickE_of, pickE_no, ite_of, ite_no, tdivE, tmodE, takeAll, idxF_at (p := fun w => decide (v = w)) h1' e hall]
         done)
      | (have e : decide (v = l[k]) = false := decide_eq_false (fun e => by have e1 := hx.1 e; have e2 := e1.1; have e3 := e1.2.1; have e4 := e1.2.2; contradiction)
         ((repeat' apply And.intro) <;> first | exact fun j hj hji => by by_cases e2 : j = k; exact (by subst e2; exact e); exact hall j hj (by omega) | (exact Weak.go (by (first | (simp [wkL]; done) | (simp [wkL]; omega))) (fun zi => by first | exact .inl rfl | exact .inr rfl | (simp only [upd]; repeat' split) <;> first | exact fun j hj hji => by by_cases e2 : j = k; exact (by subst e2; exact e); exact hall j hj (by omega) | exact .inl rfl | exact .inr rfl | (exfalso; omega) | exact .inr (hd _ (by omega)) | (left; subst_vars; exact hH.symm) | (left; subst_vars; rfl) | (left; simp; done) | (left; simp; omega)) (by omega)) | omega | rfl | assumption | exact Flat.nil | exact ⟨_, rfl, rfl, by assumption⟩ | (simp; done) | (simp; omega)))
  · simp (maxSteps := 4000000) (disch := omega) only [go_sem, w64, AndB_of, IfB_of, IfB_no, pickE_of, pickE_no, ite_of, ite_no, tdivE, tmodE, takeAll, idxF_none (p := fun w => decide (v = w)) (fun j hj => hall j hj (by omega))]
theorem q_ContainsV (l : GRow) (v : GVal) (hl : l.length ≤ 1048576) : QCall Try.prog 81 [rowA l, .agg [.int .i64 v.k, .int .i64 v.n, .str v.s]] (.bool (decide (v ∈ l))) := by
  refine qcall_body mixed Try.func81 _ (by unfold Try.f81; rfl) Try.ntmps81 Try.results81 (by decide) 0 (by simp) (by simp [pureL, pureA]) ?_
  simp (maxSteps := 4000000) (disch := omega) only [go_sem, w64, AndB_of, IfB_of, IfB_no, pickE_of, pickE_no, ite_of, ite_no, tdivE, tmodE, takeAll]
  apply CallB.q (q_IndexV l v hl)
  simp (maxSteps := 4000000) (disch := omega) only [go_sem, w64, AndB_of, IfB_of, IfB_no, pickE_of, pickE_no, ite_of, ite_no, tdivE, tmodE, takeAll]
  have := @idxF_ge _ (fun w => decide (v = w)) l
  rw [AV.bool.injEq, Bool.eq_iff_iff]; (try simp only [decide_eq_true_iff])
  rw [this]
  simp
theorem q_InTruth1 (v w : GVal) (hs : w.s.size ≤ 9223372036854775807) : QCall Try.prog 80 [.agg [.int .i64 w.k, .int .i64 w.n, .str w.s], .ro [.int .i64 v.k, .int .i64 v.n, .str v.s]] (.bool (badV v w)) := by
  refine qcall_body mixed Try.func80 _ (by unfold Try.f80; rfl) Try.ntmps80 Try.results80 (by decide) 0 (by simp) (by simp [pureL, pureA]) ?_
  unfold badV
  simp (maxSteps := 4000000) (disch := omega) only [go_sem, w64, AndB_of, IfB_of, IfB_no, pickE_of, pickE_no, ite_of, ite_no, tdivE, tmodE, takeAll]
  repeat' (first | (refine IfB.dec (fun h => ?_) (fun h => ?_) <;> (try (have h2 := h; unfold inR at h2)) <;> (try simp (maxSteps := 4000000) (disch := omega) only [go_sem, w64, AndB_of, IfB_of, IfB_no, pickE_of, pickE_no, ite_of, ite_no, tdivE, tmodE, takeAll, h])) | (refine IfB.split (fun h => ?_) (fun h => ?_) <;> (try simp (maxSteps := 4000000) (disch := omega) only [go_sem, w64, AndB_of, IfB_of, IfB_no, pickE_of, pickE_no, ite_of, ite_no, tdivE, tmodE, takeAll, h])) | (refine DrawB.quiet (by kernel_rfl) ?_; simp (maxSteps := 4000000) (disch := omega) only [go_sem, w64, AndB_of, IfB_of, IfB_no, pickE_of, pickE_no, ite_of, ite_no, tdivE, tmodE, takeAll]) | (apply CallB.q (q_ok _ hs); simp (maxSteps := 4000000) (disch := omega) only [go_sem, w64, AndB_of, IfB_of, IfB_no, pickE_of, pickE_no, ite_of, ite_no, tdivE, tmodE, takeAll]) | (apply DCallB.q0 (q_ok _ hs); simp (maxSteps := 4000000) (disch := omega) only [go_sem, w64, AndB_of, IfB_of, IfB_no, pickE_of, pickE_no, ite_of, ite_no, tdivE, tmodE, takeAll]))
  all_goals (first | (simp [*]; done) | (simp_all; done))
theorem q_InTruthI (v : GVal) (l : GRow) (hl : l.length ≤ 1048576) (hv : v.s.size ≤ 1048576) (hs : ∀ w ∈ l, w.s.size ≤ 1048576) : QCall Try.prog 27 [.agg [.int .i64 v.k, .int .i64 v.n, .str v.s], rowA l] (.int .i64 (inT v l)) := by
  refine qcall_body mixed Try.func27 _ (by unfold Try.f27; rfl) Try.ntmps27 Try.results27 (by decide) 0 (by simp) (by simp [pureL, pureA]) ?_
  have e0 : (.agg [.int .i64 v0.k, .int .i64 v0.n, .str v0.s] : AV) = .agg [.int .i64 0, .int .i64 0, .str ⟨#[]⟩] := rfl
  have c0 := q_ContainsV l v0 hl
  rw [e0] at c0
  simp (maxSteps := 4000000) (disch := omega) only [go_sem, w64, AndB_of, IfB_of, IfB_no, pickE_of, pickE_no, ite_of, ite_no, tdivE, tmodE, takeAll]
  apply CallB.q (q_ok _ (by omega))
  simp (maxSteps := 4000000) (disch := omega) only [go_sem, w64, AndB_of, IfB_of, IfB_no, pickE_of, pickE_no, ite_of, ite_no, tdivE, tmodE, takeAll]
  refine IfB.dec (fun h1 => ?_) (fun h1 => ?_)
  · simp (maxSteps := 4000000) (disch := omega) only [go_sem, w64, AndB_of, IfB_of, IfB_no, pickE_of, pickE_no, ite_of, ite_no, tdivE, tmodE, takeAll, h1]
    refine IfB.dec (fun h2 => ?_) (fun h2 => ?_)
    · simp (maxSteps := 4000000) (disch := omega) only [go_sem, w64, AndB_of, IfB_of, IfB_no, pickE_of, pickE_no, ite_of, ite_no, tdivE, tmodE, takeAll, h2]
      unfold inT
      rw [if_pos (.inr (.inl (by omega)))]
    · simp (maxSteps := 4000000) (disch := omega) only [go_sem, w64, AndB_of, IfB_of, IfB_no, pickE_of, pickE_no, ite_of, ite_no, tdivE, tmodE, takeAll, h2]
      apply CallB.of (c_ContainsFuncV l _ [.ptr 0 0 0] (badV v) hl fun w hw => ?_)
      · simp (maxSteps := 4000000) (disch := omega) only [go_sem, w64, AndB_of, IfB_of, IfB_no, pickE_of, pickE_no, ite_of, ite_no, tdivE, tmodE, takeAll]
        refine IfB.split (fun h3 => ?_) (fun h3 => ?_)
        · simp (maxSteps := 4000000) (disch := omega) only [go_sem, w64, AndB_of, IfB_of, IfB_no, pickE_of, pickE_no, ite_of, ite_no, tdivE, tmodE, takeAll, h3]
          unfold inT
          rw [if_pos (.inr (.inr h3))]
        · have hn : ¬ (¬ v.Ok ∨ 30 < l.length ∨ l.any (badV v) = true) := by rintro (a | a | a); exact a h1; omega; rw [a] at h3; cases h3
          unfold inT
          rw [if_neg hn]
          simp (maxSteps := 4000000) (disch := omega) only [go_sem, w64, AndB_of, IfB_of, IfB_no, pickE_of, pickE_no, ite_of, ite_no, tdivE, tmodE, takeAll, h3]
          refine IfB.dec (fun h4 => ?_) (fun h4 => ?_)
          · simp (maxSteps := 4000000) (disch := omega) only [go_sem, w64, AndB_of, IfB_of, IfB_no, pickE_of, pickE_no, ite_of, ite_no, tdivE, tmodE, takeAll]
          · simp (maxSteps := 4000000) (disch := omega) only [go_sem, w64, AndB_of, IfB_of, IfB_no, pickE_of, pickE_no, ite_of, ite_no, tdivE, tmodE, takeAll]
            refine IfB.dec (fun h5 => ?_) (fun h5 => ?_)
            · simp (maxSteps := 4000000) (disch := omega) only [go_sem, w64, AndB_of, IfB_of, IfB_no, pickE_of, pickE_no, ite_of, ite_no, tdivE, tmodE, takeAll, h5]
            · simp (maxSteps := 4000000) (disch := omega) only [go_sem, w64, AndB_of, IfB_of, IfB_no, pickE_of, pickE_no, ite_of, ite_no, tdivE, tmodE, takeAll]
              apply CallB.q (q_ContainsV l v hl)
              simp (maxSteps := 4000000) (disch := omega) only [go_sem, w64, AndB_of, IfB_of, IfB_no, pickE_of, pickE_no, ite_of, ite_no, tdivE, tmodE, takeAll]
              refine IfB.dec (fun h6 => ?_) (fun h6 => ?_)
              · simp (maxSteps := 4000000) (disch := omega) only [go_sem, w64, AndB_of, IfB_of, IfB_no, pickE_of, pickE_no, ite_of, ite_no, tdivE, tmodE, takeAll, h6]
              · simp (maxSteps := 4000000) (disch := omega) only [go_sem, w64, AndB_of, IfB_of, IfB_no, pickE_of, pickE_no, ite_of, ite_no, tdivE, tmodE, takeAll, h6]
                apply CallB.q c0
                simp (maxSteps := 4000000) (disch := omega) only [go_sem, w64, AndB_of, IfB_of, IfB_no, pickE_of, pickE_no, ite_of, ite_no, tdivE, tmodE, takeAll]
                refine IfB.dec (fun h7 => ?_) (fun h7 => ?_)
                · simp (maxSteps := 4000000) (disch := omega) only [go_sem, w64, AndB_of, IfB_of, IfB_no, pickE_of, pickE_no, ite_of, ite_no, tdivE, tmodE, takeAll, h7]
                · simp (maxSteps := 4000000) (disch := omega) only [go_sem, w64, AndB_of, IfB_of, IfB_no, pickE_of, pickE_no, ite_of, ite_no, tdivE, tmodE, takeAll, h7]
      · refine callC_borrow 1 ?_ rfl
        simp (maxSteps := 4000000) (disch := omega) only [go_sem, w64, AndB_of, IfB_of, IfB_no, pickE_of, pickE_no, ite_of, ite_no, tdivE, tmodE, takeAll]
        exact q_InTruth1 v w (by have := hs w hw; omega)
  · simp (maxSteps := 4000000) (disch := omega) only [go_sem, w64, AndB_of, IfB_of, IfB_no, pickE_of, pickE_no, ite_of, ite_no, tdivE, tmodE, takeAll, h1]
    unfold inT
    rw [if_pos (.inl h1)]
theorem q_TruthOkS (n : Int) : QCall Try.prog 124 [.int .i64 n] (.bool (decide (inR n 0 2))) := by
  refine qcall_body mixed Try.func124 _ (by unfold Try.f124; rfl) Try.ntmps124 Try.results124 (by decide) 0 (by simp) (by simp [pureL, pureA]) ?_
  simp (maxSteps := 4000000) (disch := omega) only [go_sem, w64, AndB_of, IfB_of, IfB_no, pickE_of, pickE_no, ite_of, ite_no, tdivE, tmodE, takeAll]
  repeat' (first | (refine IfB.dec (fun h => ?_) (fun h => ?_) <;> (try (have h2 := h; unfold inR at h2)) <;> (try simp (maxSteps := 4000000) (disch := omega) only [go_sem, w64, AndB_of, IfB_of, IfB_no, pickE_of, pickE_no, ite_of, ite_no, tdivE, tmodE, takeAll, h])) | (refine IfB.split (fun h => ?_) (fun h => ?_) <;> (try simp (maxSteps := 4000000) (disch := omega) only [go_sem, w64, AndB_of, IfB_of, IfB_no, pickE_of, pickE_no, ite_of, ite_no, tdivE, tmodE, takeAll, h])) | (refine DrawB.quiet (by kernel_rfl) ?_; simp (maxSteps := 4000000) (disch := omega) only [go_sem, w64, AndB_of, IfB_of, IfB_no, pickE_of, pickE_no, ite_of, ite_no, tdivE, tmodE, takeAll]) | (apply CallB.q (q_l1In _ _ _); simp (maxSteps := 4000000) (disch := omega) only [go_sem, w64, AndB_of, IfB_of, IfB_no, pickE_of, pickE_no, ite_of, ite_no, tdivE, tmodE, takeAll]) | (apply DCallB.q0 (q_l1In _ _ _); simp (maxSteps := 4000000) (disch := omega) only [go_sem, w64, AndB_of, IfB_of, IfB_no, pickE_of, pickE_no, ite_of, ite_no, tdivE, tmodE, takeAll]))
theorem q_l2Sure (n : Int) (h : inR n 0 2) : QCall Try.prog 125 [.int .i64 n] (.int .i64 (if n = 0 then 0 else if n = 1 then 2 else 1)) := by
  refine qcall_body mixed Try.func125 _ (by unfold Try.f125; rfl) Try.ntmps125 Try.results125 (by decide) 0 (by simp) (by simp [pureL, pureA]) ?_
  unfold inR at h
  obtain rfl | rfl | rfl : n = 0 ∨ n = 1 ∨ n = 2 := by omega
  · simp (maxSteps := 4000000) (disch := omega) only [go_sem, w64, AndB_of, IfB_of, IfB_no, pickE_of, pickE_no, ite_of, ite_no, tdivE, tmodE, takeAll]
  · simp (maxSteps := 4000000) (disch := omega) only [go_sem, w64, AndB_of, IfB_of, IfB_no, pickE_of, pickE_no, ite_of, ite_no, tdivE, tmodE, takeAll]
  · simp (maxSteps := 4000000) (disch := omega) only [go_sem, w64, AndB_of, IfB_of, IfB_no, pickE_of, pickE_no, ite_of, ite_no, tdivE, tmodE, takeAll]
theorem q_OrOfS (a b : Int) : QCall Try.prog 83 [.int .i64 a, .int .i64 b] (.int .i64 (orT a b)) := by
  refine qcall_body mixed Try.func83 _ (by unfold Try.f83; rfl) Try.ntmps83 Try.results83 (by decide) 0 (by simp) (by simp [pureL, pureA]) ?_
  simp (maxSteps := 4000000) (disch := omega) only [go_sem, w64, AndB_of, IfB_of, IfB_no, pickE_of, pickE_no, ite_of, ite_no, tdivE, tmodE, takeAll]
  apply CallB.q (q_TruthOkS a)
  simp (maxSteps := 4000000) (disch := omega) only [go_sem, w64, AndB_of, IfB_of, IfB_no, pickE_of, pickE_no, ite_of, ite_no, tdivE, tmodE, takeAll]
  refine IfB.dec (fun h1 => ?_) (fun h1 => ?_)
  · simp (maxSteps := 4000000) (disch := omega) only [go_sem, w64, AndB_of, IfB_of, IfB_no, pickE_of, pickE_no, ite_of, ite_no, tdivE, tmodE, takeAll, h1]
    apply CallB.q (q_TruthOkS b)
    simp (maxSteps := 4000000) (disch := omega) only [go_sem, w64, AndB_of, IfB_of, IfB_no, pickE_of, pickE_no, ite_of, ite_no, tdivE, tmodE, takeAll]
    refine IfB.dec (fun h2 => ?_) (fun h2 => ?_)
    · simp (maxSteps := 4000000) (disch := omega) only [go_sem, w64, AndB_of, IfB_of, IfB_no, pickE_of, pickE_no, ite_of, ite_no, tdivE, tmodE, takeAll, h2]
      apply CallB.q (q_l2Sure a h1)
      simp (maxSteps := 4000000) (disch := omega) only [go_sem, w64, AndB_of, IfB_of, IfB_no, pickE_of, pickE_no, ite_of, ite_no, tdivE, tmodE, takeAll]
      apply CallB.q (q_l2Sure b h2)
      simp (maxSteps := 4000000) (disch := omega) only [go_sem, w64, AndB_of, IfB_of, IfB_no, pickE_of, pickE_no, ite_of, ite_no, tdivE, tmodE, takeAll]
      unfold inR at h1 h2
      obtain rfl | rfl | rfl : a = 0 ∨ a = 1 ∨ a = 2 := by omega
      all_goals (obtain rfl | rfl | rfl : b = 0 ∨ b = 1 ∨ b = 2 := by omega)
      all_goals (simp (maxSteps := 4000000) (disch := omega) only [go_sem, w64, AndB_of, IfB_of, IfB_no, pickE_of, pickE_no, ite_of, ite_no, tdivE, tmodE, takeAll]; apply CallB.q (q_l2Sure _ (by decide)); simp (maxSteps := 4000000) (disch := omega) only [go_sem, w64, AndB_of, IfB_of, IfB_no, pickE_of, pickE_no, ite_of, ite_no, tdivE, tmodE, takeAll])
      all_goals simp [orT, inR]
    · simp (maxSteps := 4000000) (disch := omega) only [go_sem, w64, AndB_of, IfB_of, IfB_no, pickE_of, pickE_no, ite_of, ite_no, tdivE, tmodE, takeAll, h2]
      unfold orT
      rw [if_pos (fun e => h2 e.2)]
  · simp (maxSteps := 4000000) (disch := omega) only [go_sem, w64, AndB_of, IfB_of, IfB_no, pickE_of, pickE_no, ite_of, ite_no, tdivE, tmodE, takeAll, h1]
    unfold orT
    rw [if_pos (fun e => h1 e.1)]
theorem q_InTruthS (v : GVal) (l : GRow) (hl : l.length ≤ 1048576) (hv : v.s.size ≤ 1048576) (hs : ∀ w ∈ l, w.s.size ≤ 1048576) : QCall Try.prog 28 [.agg [.int .i64 v.k, .int .i64 v.n, .str v.s], rowA l] (.int .i64 (inT v l)) := by
  refine qcall_body mixed Try.func28 _ (by unfold Try.f28; rfl) Try.ntmps28 Try.results28 (by decide) 0 (by simp) (by simp [pureL, pureA]) ?_
  unfold rowA
  simp (maxSteps := 4000000) (disch := omega) only [go_sem, w64, AndB_of, IfB_of, IfB_no, pickE_of, pickE_no, ite_of, ite_no, tdivE, tmodE, takeAll]
  apply CallB.q (q_ValueOkS _ (by omega))
  simp (maxSteps := 4000000) (disch := omega) only [go_sem, w64, AndB_of, IfB_of, IfB_no, pickE_of, pickE_no, ite_of, ite_no, tdivE, tmodE, takeAll]
  refine IfB.dec (fun h1 => ?_) (fun h1 => ?_)
  · simp (maxSteps := 4000000) (disch := omega) only [go_sem, w64, AndB_of, IfB_of, IfB_no, pickE_of, pickE_no, ite_of, ite_no, tdivE, tmodE, takeAll, h1]
    refine IfB.dec (fun h2 => ?_) (fun h2 => ?_)
    · simp (maxSteps := 4000000) (disch := omega) only [go_sem, w64, AndB_of, IfB_of, IfB_no, pickE_of, pickE_no, ite_of, ite_no, tdivE, tmodE, takeAll, h2]
      unfold inT
      rw [if_pos (.inr (.inl (by omega)))]
    · simp (maxSteps := 4000000) (disch := omega) only [go_sem, w64, AndB_of, IfB_of, IfB_no, pickE_of, pickE_no, ite_of, ite_no, tdivE, tmodE, takeAll, h2]
      refine LoopB.auto (fun zs => ((intOf (slotOf zs 6)).toNat, intOf (slotOf zs 5))) (fun zz => [(1, none), (0, none), (2, some (.int .i64 (zz.2 : Int))), (0, some (.int .i64 (zz.1 : Int)))]) (fun zz => upd noH 0 (.live 0 [.int .i64 v.k, .int .i64 v.n, .str v.s])) (fun zz => 1 + 2 * zz.1) (fun zz => l.length - zz.1) (fun zz => zz.1 ≤ l.length ∧ zz.2 = outS v (l.take zz.1) ∧ ∀ w ∈ l.take zz.1, ¬ bad2 v w) (by (first | simp (maxSteps := 4000000) (disch := omega) only [go_sem, w64, AndB_of, IfB_of, IfB_no, pickE_of, pickE_no, ite_of, ite_no, tdivE, tmodE, takeAll, hH] | simp (maxSteps := 4000000) (disch := omega) only [go_sem, w64, AndB_of, IfB_of, IfB_no, pickE_of, pickE_no, ite_of, ite_no, tdivE, tmodE, takeAll]); ((repeat' apply And.intro) <;> first | (unfold outS; simp) | exact allTake0 | (exact Weak.go (by (first | (simp [wkL]; done) | (simp [wkL]; omega))) (fun zi => by first | exact .inl rfl | exact .inr rfl | (simp only [upd]; repeat' split) <;> first | (unfold outS; simp) | exact allTake0 | exact .inl rfl | exact .inr rfl | (exfalso; omega) | exact .inr (hd _ (by omega)) | (left; subst_vars; exact hH.symm) | (left; subst_vars; rfl) | (left; simp; done) | (left; simp; omega)) (by omega)) | omega | rfl | assumption | exact Flat.nil | exact ⟨_, rfl, rfl, by assumption⟩ | (simp; done) | (simp; omega))) ?_
      intro zz zh
      obtain ⟨k, out⟩ := zz
      dsimp only at zh
      obtain ⟨hk, ho, hall⟩ := zh
      simp (maxSteps := 4000000) (disch := omega) only [go_sem, w64, AndB_of, IfB_of, IfB_no, pickE_of, pickE_no, ite_of, ite_no, tdivE, tmodE, takeAll]
      refine IfB.dec (fun h3 => ?_) (fun h3 => ?_)
      · have h3' : k < l.length := by omega
        have hsz := hs _ (List.getElem_mem h3')
        simp (maxSteps := 4000000) (disch := omega) only [go_sem, w64, AndB_of, IfB_of, IfB_no, pickE_of, pickE_no, ite_of, ite_no, tdivE, tmodE, takeAll]
        refine DrawB.quiet (by kernel_rfl) ?_
        simp (maxSteps := 4000000) (disch := omega) only [go_sem, w64, AndB_of, IfB_of, IfB_no, pickE_of, pickE_no, ite_of, ite_no, tdivE, tmodE, takeAll]
        apply DCallB.q0 (q_ValueOkS l[k] (by omega))
        simp (maxSteps := 4000000) (disch := omega) only [go_sem, w64, AndB_of, IfB_of, IfB_no, pickE_of, pickE_no, ite_of, ite_no, tdivE, tmodE, takeAll]
        refine IfB.dec (fun h4 => ?_) (fun h4 => ?_)
        · simp (maxSteps := 4000000) (disch := omega) only [go_sem, w64, AndB_of, IfB_of, IfB_no, pickE_of, pickE_no, ite_of, ite_no, tdivE, tmodE, takeAll, h4]
          by_cases hb : bad2 v l[k]
          · have hb2 : v.k ≠ 0 ∧ l[k].k ≠ 0 ∧ v.k ≠ l[k].k := hb.resolve_left (fun e => e h4)
            have hx := inT_bad (v := v) (l := l) ⟨l[k], List.getElem_mem h3', hb⟩
            simp (maxSteps := 4000000) (disch := omega) only [go_sem, w64, AndB_of, IfB_of, IfB_no, pickE_of, pickE_no, ite_of, ite_no, tdivE, tmodE, takeAll, hx]
          · have hb2 : ¬ (v.k ≠ 0 ∧ l[k].k ≠ 0 ∧ v.k ≠ l[k].k) := fun e => hb (.inr e)
            have hx := outS_snoc (l := l.take k) h1 h4 hb
            repeat' (first | (refine IfB.dec2 (fun h hd => ?_) (fun h hd => ?_) <;> (try (have h2 := h; unfold inR at h2)) <;> (try simp (maxSteps := 4000000) (disch := omega) only [go_sem, w64, AndB_of, IfB_of, IfB_no, pickE_of, pickE_no, ite_of, ite_no, tdivE, tmodE, takeAll, hd])) | (refine IfB.split (fun h => ?_) (fun h => ?_) <;> (try simp (maxSteps := 4000000) (disch := omega) only [go_sem, w64, AndB_of, IfB_of, IfB_no, pickE_of, pickE_no, ite_of, ite_no, tdivE, tmodE, takeAll, h])) | (refine DrawB.quiet (by kernel_rfl) ?_; simp (maxSteps := 4000000) (disch := omega) only [go_sem, w64, AndB_of, IfB_of, IfB_no, pickE_of, pickE_no, ite_of, ite_no, tdivE, tmodE, takeAll]) | (apply CallB.q (q_CompareKS _ _ _ (by omega) (by omega)); simp (maxSteps := 4000000) (disch := omega) only [go_sem, w64, AndB_of, IfB_of, IfB_no, pickE_of, pickE_no, ite_of, ite_no, tdivE, tmodE, takeAll]) | (apply CallB.q (q_OrOfS _ _); simp (maxSteps := 4000000) (disch := omega) only [go_sem, w64, AndB_of, IfB_of, IfB_no, pickE_of, pickE_no, ite_of, ite_no, tdivE, tmodE, takeAll]) | (apply DCallB.q0 (q_CompareKS _ _ _ (by omega) (by omega)); simp (maxSteps := 4000000) (disch := omega) only [go_sem, w64, AndB_of, IfB_of, IfB_no, pickE_of, pickE_no, ite_of, ite_no, tdivE, tmodE, takeAll]) | (apply DCallB.q0 (q_OrOfS _ _); simp (maxSteps := 4000000) (disch := omega) only [go_sem, w64, AndB_of, IfB_of, IfB_no, pickE_of, pickE_no, ite_of, ite_no, tdivE, tmodE, takeAll]))
            all_goals first
              | (exfalso; omega)
              | ((repeat' apply And.intro) <;> first | (rw [ho, hx, List.take_succ_eq_append_getElem h3']) | exact allTake h3' hall hb | (exact Weak.go (by (first | (simp [wkL]; done) | (simp [wkL]; omega))) (fun zi => by first | exact .inl rfl | exact .inr rfl | (simp only [upd]; repeat' split) <;> first | (rw [ho, hx, List.take_succ_eq_append_getElem h3']) | exact allTake h3' hall hb | exact .inl rfl | exact .inr rfl | (exfalso; omega) | exact .inr (hd _ (by omega)) | (left; subst_vars; exact hH.symm) | (left; subst_vars; rfl) | (left; simp; done) | (left; simp; omega)) (by omega)) | omega | rfl | assumption | exact Flat.nil | exact ⟨_, rfl, rfl, by assumption⟩ | (simp; done) | (simp; omega))
        · have hx := inT_bad (v := v) (l := l) ⟨l[k], List.getElem_mem h3', Or.inl h4⟩
          simp (maxSteps := 4000000) (disch := omega) only [go_sem, w64, AndB_of, IfB_of, IfB_no, pickE_of, pickE_no, ite_of, ite_no, tdivE, tmodE, takeAll, h4, hx]
      · simp (maxSteps := 4000000) (disch := omega) only [go_sem, w64, AndB_of, IfB_of, IfB_no, pickE_of, pickE_no, ite_of, ite_no, tdivE, tmodE, takeAll]
        rw [ho, List.take_of_length_le (by omega), inT_outS h1 (by omega) (allEnd (by omega) hall)]
  · simp (maxSteps := 4000000) (disch := omega) only [go_sem, w64, AndB_of, IfB_of, IfB_no, pickE_of, pickE_no, ite_of, ite_no, tdivE, tmodE, takeAll, h1]
    unfold inT
    rw [if_pos (.inl h1)]
end Go.TH
