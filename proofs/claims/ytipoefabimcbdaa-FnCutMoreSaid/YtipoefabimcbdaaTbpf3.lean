/- TH: parts for a comparison: the spec. Made by gen.py. -/
import Derived.Test.YtipoefabimcbdaaTf3
import Derived.Test.YtipoefabimcbdaaTbpf
namespace Go.TH
open Go Go.Proofs
set_option linter.unusedSimpArgs false
set_option linter.unusedVariables false
set_option maxHeartbeats 20000000
set_option maxRecDepth 100000
theorem cutsOk_mono {l : List Int} (h : cutsOk l) {i : Nat} (hi : i < l.length) : ∀ d (hj : i + d < l.length), l[i] ≤ l[i + d]
  | 0, _ => Int.le_refl _
  | d + 1, hj => by
    have h1 := cutsOk_mono h hi d (by omega)
    have h2 := h.2.1 (i + d) (by omega)
    have h3 : l[i + d] < l[i + (d + 1)] := h2
    omega
theorem below_stop {l : List Int} {n : Int} {k : Nat} (h : cutsOk l) (hk : k ≤ l.length) (h1 : ∀ j (h : j < l.length), j < k → l[j] ≤ n) (h2 : ∀ h : k < l.length, n < l[k]) : belowL l n = k :=
  belowL_at hk h1 fun j hj hkj => by
    have h3 := cutsOk_mono h (i := k) (by omega) (j - k) (by omega)
    have h4 := h2 (by omega)
    have e : k + (j - k) = j := by omega
    simp only [e] at h3
    omega
theorem q_PartsForSN (l : List Int) (kind n : Int) (hl : l.length ≤ 1000) (hg : ¬ (cutsOk l ∧ inR n (-9999) 9999 ∧ inR kind 1 4)) :
    QCall Try.prog 34 [intsA l, .int .i64 kind, .int .i64 n] (intsA []) := by
  refine qcall_bodyL mixed Try.func34 _ (by unfold Try.f34; rfl) Try.ntmps34 Try.results34 (by decide) 1 (by simp) (by simp [pureL, pureA]) ?_
  simp (maxSteps := 4000000) (disch := omega) only [go_sem, w64, AndB_of, IfB_of, IfB_no, pickE_of, pickE_no, ite_of, ite_no, tdivE, tmodE, takeAll]
  repeat' (first | (refine IfB.dec2 (fun h hd => ?_) (fun h hd => ?_) <;> (try (have h2 := h; unfold inR at h2)) <;> (try simp (maxSteps := 4000000) (disch := omega) only [go_sem, w64, AndB_of, IfB_of, IfB_no, pickE_of, pickE_no, ite_of, ite_no, tdivE, tmodE, takeAll, hd])) | (refine IfB.split (fun h => ?_) (fun h => ?_) <;> (try simp (maxSteps := 4000000) (disch := omega) only [go_sem, w64, AndB_of, IfB_of, IfB_no, pickE_of, pickE_no, ite_of, ite_no, tdivE, tmodE, takeAll, h])) | (refine DrawB.quiet (by kernel_rfl) ?_; simp (maxSteps := 4000000) (disch := omega) only [go_sem, w64, AndB_of, IfB_of, IfB_no, pickE_of, pickE_no, ite_of, ite_no, tdivE, tmodE, takeAll]) | (apply CallB.q (q_CutsOkS l (by omega)); simp (maxSteps := 4000000) (disch := omega) only [go_sem, w64, AndB_of, IfB_of, IfB_no, pickE_of, pickE_no, ite_of, ite_no, tdivE, tmodE, takeAll]) | (apply CallB.q (q_l1In _ _ _); simp (maxSteps := 4000000) (disch := omega) only [go_sem, w64, AndB_of, IfB_of, IfB_no, pickE_of, pickE_no, ite_of, ite_no, tdivE, tmodE, takeAll]) | (apply DCallB.q0 (q_CutsOkS l (by omega)); simp (maxSteps := 4000000) (disch := omega) only [go_sem, w64, AndB_of, IfB_of, IfB_no, pickE_of, pickE_no, ite_of, ite_no, tdivE, tmodE, takeAll]) | (apply DCallB.q0 (q_l1In _ _ _); simp (maxSteps := 4000000) (disch := omega) only [go_sem, w64, AndB_of, IfB_of, IfB_no, pickE_of, pickE_no, ite_of, ite_no, tdivE, tmodE, takeAll]))
  all_goals first | rfl | (exact absurd ⟨by assumption, by assumption, by assumption⟩ hg)
theorem rangeK_no {a k h : Nat} (hn : ¬ (a ≤ k ∧ k ≤ h)) (hah : a ≤ h) : rangeK a (min (k + 1) (h + 1)) = rangeK a (min k (h + 1)) := by
  unfold rangeK
  rcases Nat.lt_or_ge k a with e | e
  · rw [show min (k + 1) (h + 1) - a = 0 by omega, show min k (h + 1) - a = 0 by omega]
  · rw [show min (k + 1) (h + 1) = min k (h + 1) by omega]
theorem rangeK_yes {a k h : Nat} (hy : a ≤ k ∧ k ≤ h) : flat cI (rangeK a (min (k + 1) (h + 1))) = flat cI (rangeK a (min k (h + 1))) ++ [.int .i64 (k : Int)] := by
  rw [show min (k + 1) (h + 1) = k + 1 by omega, show min k (h + 1) = k by omega]
  exact rangeK_snoc hy.1
theorem x_PartsForS (l : List Int) (kind n : Int) (hl : l.length ≤ 1000) (hg : cutsOk l ∧ inR n (-9999) 9999 ∧ inR kind 1 4) :
    ∃ R, looseA R = intsA (partsL l kind n) ∧ QCall Try.prog 34 [intsA l, .int .i64 kind, .int .i64 n] R := by
  have hb1 := belowL_le l n
  have hb2 := belowL_le l (n - 1)
  have qc := q_CutsOkS l (by omega)
  have qn := q_l1In n (-9999) 9999
  have qk := q_l1In kind 1 4
  rw [decide_eq_true hg.1] at qc
  rw [decide_eq_true hg.2.1] at qn
  rw [decide_eq_true hg.2.2] at qk
  have hn := hg.2.1
  have hk4 := hg.2.2
  unfold inR at hn hk4
  refine qex_of (by simp [pureL, pureA]) 1 ?_
  refine wcall_body mixed Try.func34 _ (by unfold Try.f34; rfl) Try.ntmps34 Try.results34 (by decide) (by simp) ?_
  unfold intsA
  simp (maxSteps := 4000000) (disch := omega) only [go_sem, w64, AndB_of, IfB_of, IfB_no, pickE_of, pickE_no, ite_of, ite_no, tdivE, tmodE, takeAll]
  refine AW.step ?_
  simp (maxSteps := 4000000) (disch := omega) only [go_sem, w64, AndB_of, IfB_of, IfB_no, pickE_of, pickE_no, ite_of, ite_no, tdivE, tmodE, takeAll]
  refine AW.step ?_
  simp (maxSteps := 4000000) (disch := omega) only [go_sem, w64, AndB_of, IfB_of, IfB_no, pickE_of, pickE_no, ite_of, ite_no, tdivE, tmodE, takeAll]
  refine AW.step ?_
  simp (maxSteps := 4000000) (disch := omega) only [go_sem, w64, AndB_of, IfB_of, IfB_no, pickE_of, pickE_no, ite_of, ite_no, tdivE, tmodE, takeAll]
  apply CallB.q qc
  simp (maxSteps := 4000000) (disch := omega) only [go_sem, w64, AndB_of, IfB_of, IfB_no, pickE_of, pickE_no, ite_of, ite_no, tdivE, tmodE, takeAll]
  apply CallB.q qn
  simp (maxSteps := 4000000) (disch := omega) only [go_sem, w64, AndB_of, IfB_of, IfB_no, pickE_of, pickE_no, ite_of, ite_no, tdivE, tmodE, takeAll]
  apply CallB.q qk
  simp (maxSteps := 4000000) (disch := omega) only [go_sem, w64, AndB_of, IfB_of, IfB_no, pickE_of, pickE_no, ite_of, ite_no, tdivE, tmodE, takeAll]
  refine AW.step ?_
  simp (maxSteps := 4000000) (disch := omega) only [go_sem, w64, AndB_of, IfB_of, IfB_no, pickE_of, pickE_no, ite_of, ite_no, tdivE, tmodE, takeAll]
  refine AW.step ?_
  simp (maxSteps := 4000000) (disch := omega) only [go_sem, w64, AndB_of, IfB_of, IfB_no, pickE_of, pickE_no, ite_of, ite_no, tdivE, tmodE, takeAll]
  refine AW.cut (fun zs => (intOf (slotOf zs 8)).toNat) (fun zz => [(0, none), (0, none), (0, none), (4, none), (0, some (.int .i64 zz)), (0, none)]) (fun zz => upd noH 0 (.live 0 [])) (fun zz => 1) (fun zz => zz = belowL l n) ?zcut0 ?_
  case' zcut0 => simp (maxSteps := 4000000) (disch := omega) only [go_sem, w64, AndB_of, IfB_of, IfB_no, pickE_of, pickE_no, ite_of, ite_no, tdivE, tmodE, takeAll]
  · refine LoopB.auto (fun zs => (intOf (slotOf zs 8)).toNat) (fun zz => [(0, none), (0, none), (0, none), (4, none), (0, some (.int .i64 (zz : Int))), (0, none)]) (fun zz => upd noH 0 (.live 0 [])) (fun zz => 1) (fun zz => l.length - zz) (fun zz => zz ≤ l.length ∧ ∀ j (h : j < l.length), j < zz → l[j] ≤ n) (by (first | simp (maxSteps := 4000000) (disch := omega) only [go_sem, w64, AndB_of, IfB_of, IfB_no, pickE_of, pickE_no, ite_of, ite_no, tdivE, tmodE, takeAll, hH] | simp (maxSteps := 4000000) (disch := omega) only [go_sem, w64, AndB_of, IfB_of, IfB_no, pickE_of, pickE_no, ite_of, ite_no, tdivE, tmodE, takeAll]); ((repeat' apply And.intro) <;> first | (exact Weak.go (by (first | (simp [wkL]; done) | (simp [wkL]; omega))) (fun zi => by first | exact .inl rfl | exact .inr rfl | (simp only [upd]; repeat' split) <;> first | exact .inl rfl | exact .inr rfl | (exfalso; omega) | exact .inr (hd _ (by omega)) | (left; subst_vars; exact hH.symm) | (left; subst_vars; rfl) | (left; simp; done) | (left; simp; omega)) (by omega)) | omega | rfl | assumption | exact Flat.nil | exact ⟨_, rfl, rfl, by assumption⟩ | (simp; done) | (simp; omega))) ?_
    intro k zh
    obtain ⟨hk, hall⟩ := zh
    simp (maxSteps := 4000000) (disch := omega) only [go_sem, w64, AndB_of, IfB_of, IfB_no, pickE_of, pickE_no, ite_of, ite_no, tdivE, tmodE, takeAll]
    refine IfB.dec (fun h1 => ?_) (fun h1 => ?_)
    · have h1' : k < l.length := by omega
      simp (maxSteps := 4000000) (disch := omega) only [go_sem, w64, AndB_of, IfB_of, IfB_no, pickE_of, pickE_no, ite_of, ite_no, tdivE, tmodE, takeAll]
      refine IfB.dec (fun h2 => ?_) (fun h2 => ?_)
      · simp (maxSteps := 4000000) (disch := omega) only [go_sem, w64, AndB_of, IfB_of, IfB_no, pickE_of, pickE_no, ite_of, ite_no, tdivE, tmodE, takeAll]
        ((repeat' apply And.intro) <;> first | exact fun j hj hjk => by by_cases e : j = k; exact (by subst e; exact h2); exact hall j hj (by omega) | (exact Weak.go (by (first | (simp [wkL]; done) | (simp [wkL]; omega))) (fun zi => by first | exact .inl rfl | exact .inr rfl | (simp only [upd]; repeat' split) <;> first | exact fun j hj hjk => by by_cases e : j = k; exact (by subst e; exact h2); exact hall j hj (by omega) | exact .inl rfl | exact .inr rfl | (exfalso; omega) | exact .inr (hd _ (by omega)) | (left; subst_vars; exact hH.symm) | (left; subst_vars; rfl) | (left; simp; done) | (left; simp; omega)) (by omega)) | omega | rfl | assumption | exact Flat.nil | exact ⟨_, rfl, rfl, by assumption⟩ | (simp; done) | (simp; omega))
      · simp (maxSteps := 4000000) (disch := omega) only [go_sem, w64, AndB_of, IfB_of, IfB_no, pickE_of, pickE_no, ite_of, ite_no, tdivE, tmodE, takeAll]
        ((repeat' apply And.intro) <;> first | exact (below_stop hg.1 hk hall fun _ => by omega).symm | (exact Weak.go (by (first | (simp [wkL]; done) | (simp [wkL]; omega))) (fun zi => by first | exact .inl rfl | exact .inr rfl | (simp only [upd]; repeat' split) <;> first | exact (below_stop hg.1 hk hall fun _ => by omega).symm | exact .inl rfl | exact .inr rfl | (exfalso; omega) | exact .inr (hd _ (by omega)) | (left; subst_vars; exact hH.symm) | (left; subst_vars; rfl) | (left; simp; done) | (left; simp; omega)) (by omega)) | omega | rfl | assumption | exact Flat.nil | exact ⟨_, rfl, rfl, by assumption⟩ | (simp; done) | (simp; omega))
    · simp (maxSteps := 4000000) (disch := omega) only [go_sem, w64, AndB_of, IfB_of, IfB_no, pickE_of, pickE_no, ite_of, ite_no, tdivE, tmodE, takeAll]
      ((repeat' apply And.intro) <;> first | exact (below_stop hg.1 hk hall fun _ => by omega).symm | (exact Weak.go (by (first | (simp [wkL]; done) | (simp [wkL]; omega))) (fun zi => by first | exact .inl rfl | exact .inr rfl | (simp only [upd]; repeat' split) <;> first | exact (below_stop hg.1 hk hall fun _ => by omega).symm | exact .inl rfl | exact .inr rfl | (exfalso; omega) | exact .inr (hd _ (by omega)) | (left; subst_vars; exact hH.symm) | (left; subst_vars; rfl) | (left; simp; done) | (left; simp; omega)) (by omega)) | omega | rfl | assumption | exact Flat.nil | exact ⟨_, rfl, rfl, by assumption⟩ | (simp; done) | (simp; omega))
  intro k zh
  have hA := zh
  simp (maxSteps := 4000000) (disch := omega) only [go_sem, w64, AndB_of, IfB_of, IfB_no, pickE_of, pickE_no, ite_of, ite_no, tdivE, tmodE, takeAll]
  refine AW.cut (fun zs => (intOf (slotOf zs 9)).toNat) (fun zz => [(0, none), (0, none), (5, none), (0, none), (0, some (.int .i64 zz))]) (fun zz => upd noH 0 (.live 0 [])) (fun zz => 1) (fun zz => zz = belowL l (n - 1)) ?zcut1 ?_
  case' zcut1 => simp (maxSteps := 4000000) (disch := omega) only [go_sem, w64, AndB_of, IfB_of, IfB_no, pickE_of, pickE_no, ite_of, ite_no, tdivE, tmodE, takeAll]
  · refine LoopB.auto (fun zs => (intOf (slotOf zs 9)).toNat) (fun zz => [(0, none), (0, none), (0, none), (4, none), (0, none), (0, some (.int .i64 (zz : Int)))]) (fun zz => upd noH 0 (.live 0 [])) (fun zz => 1) (fun zz => l.length - zz) (fun zz => zz ≤ l.length ∧ ∀ i (h : i < l.length), i < zz → l[i] ≤ n - 1) (by (first | simp (maxSteps := 4000000) (disch := omega) only [go_sem, w64, AndB_of, IfB_of, IfB_no, pickE_of, pickE_no, ite_of, ite_no, tdivE, tmodE, takeAll, hH] | simp (maxSteps := 4000000) (disch := omega) only [go_sem, w64, AndB_of, IfB_of, IfB_no, pickE_of, pickE_no, ite_of, ite_no, tdivE, tmodE, takeAll]); ((repeat' apply And.intro) <;> first | (exact Weak.go (by (first | (simp [wkL]; done) | (simp [wkL]; omega))) (fun zi => by first | exact .inl rfl | exact .inr rfl | (simp only [upd]; repeat' split) <;> first | exact .inl rfl | exact .inr rfl | (exfalso; omega) | exact .inr (hd _ (by omega)) | (left; subst_vars; exact hH.symm) | (left; subst_vars; rfl) | (left; simp; done) | (left; simp; omega)) (by omega)) | omega | rfl | assumption | exact Flat.nil | exact ⟨_, rfl, rfl, by assumption⟩ | (simp; done) | (simp; omega))) ?_
    intro j zh
    obtain ⟨hj, hall⟩ := zh
    simp (maxSteps := 4000000) (disch := omega) only [go_sem, w64, AndB_of, IfB_of, IfB_no, pickE_of, pickE_no, ite_of, ite_no, tdivE, tmodE, takeAll]
    refine IfB.dec (fun h1 => ?_) (fun h1 => ?_)
    · have h1' : j < l.length := by omega
      simp (maxSteps := 4000000) (disch := omega) only [go_sem, w64, AndB_of, IfB_of, IfB_no, pickE_of, pickE_no, ite_of, ite_no, tdivE, tmodE, takeAll]
      refine IfB.dec (fun h2 => ?_) (fun h2 => ?_)
      · simp (maxSteps := 4000000) (disch := omega) only [go_sem, w64, AndB_of, IfB_of, IfB_no, pickE_of, pickE_no, ite_of, ite_no, tdivE, tmodE, takeAll]
        ((repeat' apply And.intro) <;> first | exact fun i hi hij => by by_cases e : i = j; exact (by subst e; omega); exact hall i hi (by omega) | (exact Weak.go (by (first | (simp [wkL]; done) | (simp [wkL]; omega))) (fun zi => by first | exact .inl rfl | exact .inr rfl | (simp only [upd]; repeat' split) <;> first | exact fun i hi hij => by by_cases e : i = j; exact (by subst e; omega); exact hall i hi (by omega) | exact .inl rfl | exact .inr rfl | (exfalso; omega) | exact .inr (hd _ (by omega)) | (left; subst_vars; exact hH.symm) | (left; subst_vars; rfl) | (left; simp; done) | (left; simp; omega)) (by omega)) | omega | rfl | assumption | exact Flat.nil | exact ⟨_, rfl, rfl, by assumption⟩ | (simp; done) | (simp; omega))
      · simp (maxSteps := 4000000) (disch := omega) only [go_sem, w64, AndB_of, IfB_of, IfB_no, pickE_of, pickE_no, ite_of, ite_no, tdivE, tmodE, takeAll]
        ((repeat' apply And.intro) <;> first | exact (below_stop hg.1 hj hall fun _ => by omega).symm | (exact Weak.go (by (first | (simp [wkL]; done) | (simp [wkL]; omega))) (fun zi => by first | exact .inl rfl | exact .inr rfl | (simp only [upd]; repeat' split) <;> first | exact (below_stop hg.1 hj hall fun _ => by omega).symm | exact .inl rfl | exact .inr rfl | (exfalso; omega) | exact .inr (hd _ (by omega)) | (left; subst_vars; exact hH.symm) | (left; subst_vars; rfl) | (left; simp; done) | (left; simp; omega)) (by omega)) | omega | rfl | assumption | exact Flat.nil | exact ⟨_, rfl, rfl, by assumption⟩ | (simp; done) | (simp; omega))
    · simp (maxSteps := 4000000) (disch := omega) only [go_sem, w64, AndB_of, IfB_of, IfB_no, pickE_of, pickE_no, ite_of, ite_no, tdivE, tmodE, takeAll]
      ((repeat' apply And.intro) <;> first | exact (below_stop hg.1 hj hall fun _ => by omega).symm | (exact Weak.go (by (first | (simp [wkL]; done) | (simp [wkL]; omega))) (fun zi => by first | exact .inl rfl | exact .inr rfl | (simp only [upd]; repeat' split) <;> first | exact (below_stop hg.1 hj hall fun _ => by omega).symm | exact .inl rfl | exact .inr rfl | (exfalso; omega) | exact .inr (hd _ (by omega)) | (left; subst_vars; exact hH.symm) | (left; subst_vars; rfl) | (left; simp; done) | (left; simp; omega)) (by omega)) | omega | rfl | assumption | exact Flat.nil | exact ⟨_, rfl, rfl, by assumption⟩ | (simp; done) | (simp; omega))
  intro j zh
  have hB := zh
  simp (maxSteps := 4000000) (disch := omega) only [go_sem, w64, AndB_of, IfB_of, IfB_no, pickE_of, pickE_no, ite_of, ite_no, tdivE, tmodE, takeAll]
  obtain ⟨lo, hi, e1, e2, e3, e6, e4⟩ : ∃ lo hi : Nat, partsL l kind n = rangeL lo hi ∧ lo ≤ hi ∧ hi ≤ l.length ∧ (kind ≠ 2 ∨ hi = l.length) ∧ ∀ i : Nat, (kind = 2 ∨ (kind = 1 ∧ i = k) ∨ (kind = 3 ∧ i ≤ j) ∨ (kind = 4 ∧ i ≤ k)) ↔ (lo ≤ i ∧ i ≤ hi ∨ kind = 2 ∧ hi < i) := by
    unfold partsL
    rw [if_pos ⟨hg.1, hg.2.1⟩, ← hA, ← hB]
    have : kind = 1 ∨ kind = 2 ∨ kind = 3 ∨ kind = 4 := by omega
    rcases this with rfl | rfl | rfl | rfl
    · exact ⟨k, k, by rw [if_pos rfl], by omega, by omega, by omega, fun i => by omega⟩
    · exact ⟨0, l.length, by rw [if_neg (by omega), if_pos rfl], by omega, by omega, by omega, fun i => by omega⟩
    · exact ⟨0, j, by rw [if_neg (by omega), if_neg (by omega), if_pos rfl], by omega, by omega, by omega, fun i => by omega⟩
    · exact ⟨0, k, by rw [if_neg (by omega), if_neg (by omega), if_neg (by omega), if_pos rfl], by omega, by omega, by omega, fun i => by omega⟩
  refine AW.cut (fun zs => (verOf (blkOf zs (0)), cellsOf (blkOf zs (0)), mlenOf (slotOf zs 7))) (fun zz => [(7, some (.msl 0 zz.1 1 0 zz.2.2))]) (fun zz => upd noH 0 (.live zz.1 zz.2.1)) (fun zz => 4000) (fun zz => zz.2.2 + lo = hi + 1 ∧ zz.2.1 = flat cI (rangeL lo hi)) ?zcut2 ?_
  case' zcut2 => simp (maxSteps := 4000000) (disch := omega) only [go_sem, w64, AndB_of, IfB_of, IfB_no, pickE_of, pickE_no, ite_of, ite_no, tdivE, tmodE, takeAll]
  · refine LoopB.auto (fun zs => (nxOf zs, (intOf (slotOf zs 10)).toNat, verOf (blkOf zs (0)), cellsOf (blkOf zs (0)), mlenOf (slotOf zs 7))) (fun zz => [(0, none), (0, none), (5, some (.msl 0 zz.2.2.1 1 0 zz.2.2.2.2)), (0, none), (0, none), (0, some (.int .i64 (zz.2.1 : Int)))]) (fun zz => upd noH 0 (.live zz.2.2.1 zz.2.2.2.1)) (fun zz => zz.1) (fun zz => l.length + 1 - zz.2.1) (fun zz => zz.2.1 ≤ l.length + 1 ∧ 0 < zz.1 ∧ zz.1 ≤ zz.2.1 + 1 ∧ zz.2.2.2.2 = min zz.2.1 (hi + 1) - lo ∧ zz.2.2.2.1 = flat cI (rangeK lo (min zz.2.1 (hi + 1)))) (by (first | simp (maxSteps := 4000000) (disch := omega) only [go_sem, w64, AndB_of, IfB_of, IfB_no, pickE_of, pickE_no, ite_of, ite_no, tdivE, tmodE, takeAll, hH] | simp (maxSteps := 4000000) (disch := omega) only [go_sem, w64, AndB_of, IfB_of, IfB_no, pickE_of, pickE_no, ite_of, ite_no, tdivE, tmodE, takeAll]); ((repeat' apply And.intro) <;> first | exact (by unfold rangeK; rw [show min 0 (hi + 1) - lo = 0 by omega]; rfl) | (exact Weak.go (by (first | (simp [wkL]; done) | (simp [wkL]; omega))) (fun zi => by first | exact .inl rfl | exact .inr rfl | (simp only [upd]; repeat' split) <;> first | exact (by unfold rangeK; rw [show min 0 (hi + 1) - lo = 0 by omega]; rfl) | exact .inl rfl | exact .inr rfl | (exfalso; omega) | exact .inr (hd _ (by omega)) | (left; subst_vars; exact hH.symm) | (left; subst_vars; rfl) | (left; simp; done) | (left; simp; omega)) (by omega)) | omega | rfl | assumption | exact Flat.nil | exact ⟨_, rfl, rfl, by assumption⟩ | (simp; done) | (simp; omega))) ?_
    intro zz zh
    obtain ⟨x, i, v, cells, m⟩ := zz
    dsimp only at zh
    obtain ⟨hi1, hx, hxi, hm, rfl⟩ := zh
    simp (maxSteps := 4000000) (disch := omega) only [go_sem, w64, AndB_of, IfB_of, IfB_no, pickE_of, pickE_no, ite_of, ite_no, tdivE, tmodE, takeAll]
    have hl2 : (flat cI (rangeK lo (min i (hi + 1)))).length = m := by rw [cI_flen, rangeK_len]; omega
    have hl3 : (rangeK lo (min i (hi + 1))).length = m := by rw [rangeK_len]; omega
    have e5 := e4 i
    refine IfB.dec (fun h1 => ?_) (fun h1 => ?_)
    · simp (maxSteps := 4000000) (disch := omega) only [go_sem, w64, AndB_of, IfB_of, IfB_no, pickE_of, pickE_no, ite_of, ite_no, tdivE, tmodE, takeAll]
      repeat' (first | (refine IfB.dec2 (fun h hd => ?_) (fun h hd => ?_) <;> (try (have h2 := h; unfold inR at h2)) <;> (try simp (maxSteps := 4000000) (disch := omega) only [go_sem, w64, AndB_of, IfB_of, IfB_no, pickE_of, pickE_no, ite_of, ite_no, tdivE, tmodE, takeAll, hd])) | (refine IfB.split (fun h => ?_) (fun h => ?_) <;> (try simp (maxSteps := 4000000) (disch := omega) only [go_sem, w64, AndB_of, IfB_of, IfB_no, pickE_of, pickE_no, ite_of, ite_no, tdivE, tmodE, takeAll, h])) | (refine DrawB.quiet (by kernel_rfl) ?_; simp (maxSteps := 4000000) (disch := omega) only [go_sem, w64, AndB_of, IfB_of, IfB_no, pickE_of, pickE_no, ite_of, ite_no, tdivE, tmodE, takeAll]))
      all_goals (try simp (maxSteps := 4000000) (disch := omega) only [go_sem, w64, AndB_of, IfB_of, IfB_no, pickE_of, pickE_no, ite_of, ite_no, tdivE, tmodE, takeAll, hl3])
      all_goals ((repeat' apply And.intro) <;> first | exact (rangeK_yes (by omega)).symm | exact (congrArg (flat cI) (rangeK_no (by omega) e2)).symm | (exact Weak.go (by (first | (simp [wkL]; done) | (simp [wkL]; omega))) (fun zi => by first | exact .inl rfl | exact .inr rfl | (simp only [upd]; repeat' split) <;> first | exact (rangeK_yes (by omega)).symm | exact (congrArg (flat cI) (rangeK_no (by omega) e2)).symm | exact .inl rfl | exact .inr rfl | (exfalso; omega) | exact .inr (hd _ (by omega)) | (left; subst_vars; exact hH.symm) | (left; subst_vars; rfl) | (left; simp; done) | (left; simp; omega)) (by omega)) | omega | rfl | assumption | exact Flat.nil | exact ⟨_, rfl, rfl, by assumption⟩ | (simp; done) | (simp; omega))
    · obtain rfl : i = l.length + 1 := by omega
      simp (maxSteps := 4000000) (disch := omega) only [go_sem, w64, AndB_of, IfB_of, IfB_no, pickE_of, pickE_no, ite_of, ite_no, tdivE, tmodE, takeAll]
      ((repeat' apply And.intro) <;> first | exact (by rw [show min (l.length + 1) (hi + 1) = hi + 1 by omega]; rfl) | (exact Weak.go (by (first | (simp [wkL]; done) | (simp [wkL]; omega))) (fun zi => by first | exact .inl rfl | exact .inr rfl | (simp only [upd]; repeat' split) <;> first | exact (by rw [show min (l.length + 1) (hi + 1) = hi + 1 by omega]; rfl) | exact .inl rfl | exact .inr rfl | (exfalso; omega) | exact .inr (hd _ (by omega)) | (left; subst_vars; exact hH.symm) | (left; subst_vars; rfl) | (left; simp; done) | (left; simp; omega)) (by omega)) | omega | rfl | assumption | exact Flat.nil | exact ⟨_, rfl, rfl, by assumption⟩ | (simp; done) | (simp; omega))
  intro zz zh
  obtain ⟨v, cells, m⟩ := zz
  dsimp only at zh
  obtain ⟨hm, rfl⟩ := zh
  simp (maxSteps := 4000000) (disch := omega) only [go_sem, w64, AndB_of, IfB_of, IfB_no, pickE_of, pickE_no, ite_of, ite_no, tdivE, tmodE, takeAll]
  have hlr : (rangeL lo hi).length = m := by unfold rangeL; rw [rangeK_len]; omega
  refine AW.of ?_
  simp (maxSteps := 4000000) (disch := omega) only [go_sem, w64, AndB_of, IfB_of, IfB_no, pickE_of, pickE_no, ite_of, ite_no, tdivE, tmodE, takeAll]
  rw [e1, takeAll (by rw [cI_flen, hlr]; omega), cI_snapL, cI_looseL, hlr]
theorem q_PartsForS (l : List Int) (kind n : Int) (hl : l.length ≤ 1000) : QCall Try.prog 34 [intsA l, .int .i64 kind, .int .i64 n] (intsA (partsL l kind n)) := by
  by_cases hg : cutsOk l ∧ inR n (-9999) 9999 ∧ inR kind 1 4
  · obtain ⟨R, h1, h2⟩ := x_PartsForS l kind n hl hg
    rw [← h1]
    exact h2.loose
  · have hpe : partsL l kind n = [] := by
      unfold partsL
      split
      · next h =>
        have hk : ¬ inR kind 1 4 := fun e => hg ⟨h.1, h.2, e⟩
        unfold inR at hk
        repeat rw [if_neg (by omega)]
      · rfl
    rw [hpe]
    exact q_PartsForSN l kind n hl hg
end Go.TH
