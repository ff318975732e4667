/- TH: parts for a comparison: the walks. Made by gen.py. -/
import Derived.Test.YtipoefabimcbdaaTf3
import Derived.Test.YtipoefabimcbdaaTbpt
namespace Go.TH
open Go Go.Proofs
set_option linter.unusedSimpArgs false
set_option linter.unusedVariables false
set_option maxHeartbeats 20000000
set_option maxRecDepth 100000
/-- How many cuts are not above a number. -/
def belowL (l : List Int) (n : Int) : Nat := (keptL (fun c => decide (n < c)) l).length
theorem belowL_le (l : List Int) (n : Int) : belowL l n ≤ l.length := List.length_filter_le _ _
theorem belowL_at {l : List Int} {n : Int} {k : Nat} (hk : k ≤ l.length) (h1 : ∀ j (h : j < l.length), j < k → l[j] ≤ n) (h2 : ∀ j (h : j < l.length), k ≤ j → n < l[j]) : belowL l n = k := by
  unfold belowL keptL
  rw [← List.take_append_drop k l, List.filter_append, List.length_append]
  have e1 : (l.take k).filter (fun a => !decide (n < a)) = l.take k := by
    rw [List.filter_eq_self]
    intro a ha
    obtain ⟨j, hj, rfl⟩ := List.mem_iff_getElem.1 ha
    rw [List.length_take] at hj
    have := h1 j (by omega) (by omega)
    simp only [List.getElem_take]
    simp
    omega
  have e2 : (l.drop k).filter (fun a => !decide (n < a)) = [] := by
    rw [List.filter_eq_nil_iff]
    intro a ha
    obtain ⟨j, hj, rfl⟩ := List.mem_iff_getElem.1 ha
    rw [List.length_drop] at hj
    have := h2 (k + j) (by omega) (by omega)
    simp only [List.getElem_drop]
    simp
    omega
  rw [e1, e2, List.length_take]
  simp
  omega
theorem q_below1 (c n : Int) : QCall Try.prog 128 [.int .i64 c, .ro [.int .i64 n]] (.bool (decide (n < c))) := by
  refine qcall_body mixed Try.func128 _ (by unfold Try.f128; rfl) Try.ntmps128 Try.results128 (by decide) 0 (by simp) (by simp [pureL, pureA]) ?_
  simp (maxSteps := 4000000) (disch := omega) only [go_sem, w64, AndB_of, IfB_of, IfB_no, pickE_of, pickE_no, ite_of, ite_no, tdivE, tmodE, takeAll]
theorem q_below (l : List Int) (n : Int) (hl : l.length ≤ 1048576) : QCall Try.prog 87 [intsA l, .int .i64 n] (.int .i64 (belowL l n)) := by
  refine qcall_body mixed Try.func87 _ (by unfold Try.f87; rfl) Try.ntmps87 Try.results87 (by decide) 0 (by simp) (by simp [pureL, pureA]) ?_
  unfold intsA
  simp (maxSteps := 4000000) (disch := omega) only [go_sem, w64, AndB_of, IfB_of, IfB_no, pickE_of, pickE_no, ite_of, ite_no, tdivE, tmodE, takeAll]
  refine CallB.of (c_CloneZ l false (by omega)) ?_
  simp (maxSteps := 4000000) (disch := omega) only [go_sem, w64, AndB_of, IfB_of, IfB_no, pickE_of, pickE_no, ite_of, ite_no, tdivE, tmodE, takeAll]
  refine CallB.of (c_DeleteFuncZ l _ _ (fun c => decide (n < c)) (by omega) (by simp (maxSteps := 4000000) (disch := omega) only [go_sem, w64, AndB_of, IfB_of, IfB_no, pickE_of, pickE_no, ite_of, ite_no, tdivE, tmodE, takeAll]) (by simp (maxSteps := 4000000) (disch := omega) only [go_sem, w64, AndB_of, IfB_of, IfB_no, pickE_of, pickE_no, ite_of, ite_no, tdivE, tmodE, takeAll]; rfl) (fun cells => by simp (maxSteps := 4000000) (disch := omega) only [go_sem, w64, AndB_of, IfB_of, IfB_no, pickE_of, pickE_no, ite_of, ite_no, tdivE, tmodE, takeAll]) (fun v hv => by simp (maxSteps := 4000000) (disch := omega) only [go_sem, w64, AndB_of, IfB_of, IfB_no, pickE_of, pickE_no, ite_of, ite_no, tdivE, tmodE, takeAll]; exact q_below1 v n)) ?_
  simp (maxSteps := 4000000) (disch := omega) only [go_sem, w64, AndB_of, IfB_of, IfB_no, pickE_of, pickE_no, ite_of, ite_no, tdivE, tmodE, takeAll]
  rfl
def rangeK (a k : Nat) : List Int := (List.range (k - a)).map fun i => ((a + i : Nat) : Int)
def rangeL (a b : Nat) : List Int := rangeK a (b + 1)
theorem rangeK_len (a k : Nat) : (rangeK a k).length = k - a := by unfold rangeK; simp
theorem rangeK_snoc {a k : Nat} (h : a ≤ k) : flat cI (rangeK a (k + 1)) = flat cI (rangeK a k) ++ [.int .i64 (k : Int)] := by
  unfold rangeK
  rw [show k + 1 - a = (k - a) + 1 by omega, List.range_succ, List.map_append, flat_append]
  congr 1
  simp [flat, cI]
  omega
noncomputable def partsL (l : List Int) (kind n : Int) : List Int := if cutsOk l ∧ inR n (-9999) 9999 then (if kind = 1 then rangeL (belowL l n) (belowL l n) else if kind = 2 then rangeL 0 l.length else if kind = 3 then rangeL 0 (belowL l (n - 1)) else if kind = 4 then rangeL 0 (belowL l n) else []) else []
theorem q_PartsForN (l : List Int) (kind n : Int) (hl : l.length ≤ 1000) (hg : ¬ (cutsOk l ∧ inR n (-9999) 9999)) :
    QCall Try.prog 32 [intsA l, .int .i64 kind, .int .i64 n] (intsA []) := by
  refine qcall_bodyL mixed Try.func32 _ (by unfold Try.f32; rfl) Try.ntmps32 Try.results32 (by decide) 1 (by simp) (by simp [pureL, pureA]) ?_
  simp (maxSteps := 4000000) (disch := omega) only [go_sem, w64, AndB_of, IfB_of, IfB_no, pickE_of, pickE_no, ite_of, ite_no, tdivE, tmodE, takeAll]
  apply CallB.q (q_CutsOkI l (by omega))
  simp (maxSteps := 4000000) (disch := omega) only [go_sem, w64, AndB_of, IfB_of, IfB_no, pickE_of, pickE_no, ite_of, ite_no, tdivE, tmodE, takeAll]
  refine IfB.dec (fun g1 => ?_) (fun g1 => ?_)
  · simp (maxSteps := 4000000) (disch := omega) only [go_sem, w64, AndB_of, IfB_of, IfB_no, pickE_of, pickE_no, ite_of, ite_no, tdivE, tmodE, takeAll]
    apply CallB.q (q_numOk n)
    simp (maxSteps := 4000000) (disch := omega) only [go_sem, w64, AndB_of, IfB_of, IfB_no, pickE_of, pickE_no, ite_of, ite_no, tdivE, tmodE, takeAll]
    refine IfB.dec (fun g2 => ?_) (fun g2 => ?_)
    · exact absurd ⟨g1, g2⟩ hg
    · simp (maxSteps := 4000000) (disch := omega) only [go_sem, w64, AndB_of, IfB_of, IfB_no, pickE_of, pickE_no, ite_of, ite_no, tdivE, tmodE, takeAll]
      rfl
  · simp (maxSteps := 4000000) (disch := omega) only [go_sem, w64, AndB_of, IfB_of, IfB_no, pickE_of, pickE_no, ite_of, ite_no, tdivE, tmodE, takeAll]
    rfl
theorem x_PartsForI (l : List Int) (kind n : Int) (hl : l.length ≤ 1000) (hg : cutsOk l ∧ inR n (-9999) 9999) :
    ∃ R, looseA R = intsA (partsL l kind n) ∧ QCall Try.prog 32 [intsA l, .int .i64 kind, .int .i64 n] R := by
  have hb1 := belowL_le l n
  have hb2 := belowL_le l (n - 1)
  have qc := q_CutsOkI l (by omega)
  have qn := q_numOk n
  rw [decide_eq_true hg.1] at qc
  rw [decide_eq_true hg.2] at qn
  have hn := hg.2
  unfold inR at hn
  refine qex_of (by simp [pureL, pureA]) 1 ?_
  refine wcall_body mixed Try.func32 _ (by unfold Try.f32; rfl) Try.ntmps32 Try.results32 (by decide) (by simp) ?_
  simp (maxSteps := 4000000) (disch := omega) only [go_sem, w64, AndB_of, IfB_of, IfB_no, pickE_of, pickE_no, ite_of, ite_no, tdivE, tmodE, takeAll]
  refine AW.step ?_
  simp (maxSteps := 4000000) (disch := omega) only [go_sem, w64, AndB_of, IfB_of, IfB_no, pickE_of, pickE_no, ite_of, ite_no, tdivE, tmodE, takeAll]
  refine AW.step ?_
  simp (maxSteps := 4000000) (disch := omega) only [go_sem, w64, AndB_of, IfB_of, IfB_no, pickE_of, pickE_no, ite_of, ite_no, tdivE, tmodE, takeAll]
  apply CallB.q qc
  simp (maxSteps := 4000000) (disch := omega) only [go_sem, w64, AndB_of, IfB_of, IfB_no, pickE_of, pickE_no, ite_of, ite_no, tdivE, tmodE, takeAll]
  apply CallB.q qn
  simp (maxSteps := 4000000) (disch := omega) only [go_sem, w64, AndB_of, IfB_of, IfB_no, pickE_of, pickE_no, ite_of, ite_no, tdivE, tmodE, takeAll]
  refine AW.step ?_
  simp (maxSteps := 4000000) (disch := omega) only [go_sem, w64, AndB_of, IfB_of, IfB_no, pickE_of, pickE_no, ite_of, ite_no, tdivE, tmodE, takeAll]
  refine AW.cut (fun zs => ((intOf (slotOf zs 7)).toNat, (intOf (slotOf zs 8)).toNat)) (fun zz => [(7, some (.int .i64 zz.1)), (0, some (.int .i64 zz.2))]) (fun zz => noH) (fun zz => 0) (fun zz => partsL l kind n = rangeL zz.1 zz.2 ∧ zz.1 ≤ zz.2 ∧ zz.2 ≤ l.length) ?zcut0 ?_
  case' zcut0 => simp (maxSteps := 4000000) (disch := omega) only [go_sem, w64, AndB_of, IfB_of, IfB_no, pickE_of, pickE_no, ite_of, ite_no, tdivE, tmodE, takeAll]
  · repeat' (first | (refine IfB.dec2 (fun h hd => ?_) (fun h hd => ?_) <;> (try (have h2 := h; unfold inR at h2)) <;> (try simp (maxSteps := 4000000) (disch := omega) only [go_sem, w64, AndB_of, IfB_of, IfB_no, pickE_of, pickE_no, ite_of, ite_no, tdivE, tmodE, takeAll, hd])) | (refine IfB.split (fun h => ?_) (fun h => ?_) <;> (try simp (maxSteps := 4000000) (disch := omega) only [go_sem, w64, AndB_of, IfB_of, IfB_no, pickE_of, pickE_no, ite_of, ite_no, tdivE, tmodE, takeAll, h])) | (refine DrawB.quiet (by kernel_rfl) ?_; simp (maxSteps := 4000000) (disch := omega) only [go_sem, w64, AndB_of, IfB_of, IfB_no, pickE_of, pickE_no, ite_of, ite_no, tdivE, tmodE, takeAll]) | (apply CallB.q (q_below l n (by omega)); simp (maxSteps := 4000000) (disch := omega) only [go_sem, w64, AndB_of, IfB_of, IfB_no, pickE_of, pickE_no, ite_of, ite_no, tdivE, tmodE, takeAll]) | (apply CallB.q (q_below l (n - 1) (by omega)); simp (maxSteps := 4000000) (disch := omega) only [go_sem, w64, AndB_of, IfB_of, IfB_no, pickE_of, pickE_no, ite_of, ite_no, tdivE, tmodE, takeAll]) | (apply DCallB.q0 (q_below l n (by omega)); simp (maxSteps := 4000000) (disch := omega) only [go_sem, w64, AndB_of, IfB_of, IfB_no, pickE_of, pickE_no, ite_of, ite_no, tdivE, tmodE, takeAll]) | (apply DCallB.q0 (q_below l (n - 1) (by omega)); simp (maxSteps := 4000000) (disch := omega) only [go_sem, w64, AndB_of, IfB_of, IfB_no, pickE_of, pickE_no, ite_of, ite_no, tdivE, tmodE, takeAll]))
    all_goals first
      | (have hpe : partsL l kind n = [] := by unfold partsL; rw [if_pos hg]; repeat rw [if_neg (by omega)]
         rw [hpe]
         rfl)
      | ((repeat' apply And.intro) <;> first | exact (by unfold partsL; rw [if_pos hg]; repeat (first | rw [if_pos (by omega)] | rw [if_neg (by omega)])) | (exact Weak.go (by (first | (simp [wkL]; done) | (simp [wkL]; omega))) (fun zi => by first | exact .inl rfl | exact .inr rfl | (simp only [upd]; repeat' split) <;> first | exact (by unfold partsL; rw [if_pos hg]; repeat (first | rw [if_pos (by omega)] | rw [if_neg (by omega)])) | exact .inl rfl | exact .inr rfl | (exfalso; omega) | exact .inr (hd _ (by omega)) | (left; subst_vars; exact hH.symm) | (left; subst_vars; rfl) | (left; simp; done) | (left; simp; omega)) (by omega)) | omega | rfl | assumption | exact Flat.nil | exact ⟨_, rfl, rfl, by assumption⟩ | (simp; done) | (simp; omega))
  intro zz zh
  obtain ⟨a, b⟩ := zz
  dsimp only at zh
  obtain ⟨hp, hab, hbl⟩ := zh
  simp (maxSteps := 4000000) (disch := omega) only [go_sem, w64, AndB_of, IfB_of, IfB_no, pickE_of, pickE_no, ite_of, ite_no, tdivE, tmodE, takeAll]
  refine AW.step ?_
  simp (maxSteps := 4000000) (disch := omega) only [go_sem, w64, AndB_of, IfB_of, IfB_no, pickE_of, pickE_no, ite_of, ite_no, tdivE, tmodE, takeAll]
  refine AW.of ?_
  simp (maxSteps := 4000000) (disch := omega) only [go_sem, w64, AndB_of, IfB_of, IfB_no, pickE_of, pickE_no, ite_of, ite_no, tdivE, tmodE, takeAll]
  refine LoopB.weak (Weak.nil 9 1 rfl) ?_
  simp only [List.set_cons_succ, List.set_cons_zero]
  refine LoopB.auto (fun zs => (nxOf zs, (intOf (slotOf zs 10)).toNat, verOf (blkOf zs (0)), mlenOf (slotOf zs 9), cellsOf (blkOf zs (0)))) (fun zz => [(8, none), (0, some (.msl 0 zz.2.2.1 1 0 zz.2.2.2.1)), (0, some (.int .i64 (zz.2.1 : Int)))]) (fun zz => upd noH 0 (.live zz.2.2.1 zz.2.2.2.2)) (fun zz => zz.1) (fun zz => b + 1 - zz.2.1) (fun zz => a ≤ zz.2.1 ∧ zz.2.1 ≤ b + 1 ∧ 0 < zz.1 ∧ zz.2.2.2.1 + a = zz.2.1 ∧ zz.2.2.2.2 = flat cI (rangeK a zz.2.1)) (by (first | simp (maxSteps := 4000000) (disch := omega) only [go_sem, w64, AndB_of, IfB_of, IfB_no, pickE_of, pickE_no, ite_of, ite_no, tdivE, tmodE, takeAll, hH] | simp (maxSteps := 4000000) (disch := omega) only [go_sem, w64, AndB_of, IfB_of, IfB_no, pickE_of, pickE_no, ite_of, ite_no, tdivE, tmodE, takeAll]); ((repeat' apply And.intro) <;> first | exact (by unfold rangeK; rw [Nat.sub_self]; rfl) | (exact Weak.go (by (first | (simp [wkL]; done) | (simp [wkL]; omega))) (fun zi => by first | exact .inl rfl | exact .inr rfl | (simp only [upd]; repeat' split) <;> first | exact (by unfold rangeK; rw [Nat.sub_self]; rfl) | exact .inl rfl | exact .inr rfl | (exfalso; omega) | exact .inr (hd _ (by omega)) | (left; subst_vars; exact hH.symm) | (left; subst_vars; rfl) | (left; simp; done) | (left; simp; omega)) (by omega)) | omega | rfl | assumption | exact Flat.nil | exact ⟨_, rfl, rfl, by assumption⟩ | (simp; done) | (simp; omega))) ?_
  intro zz zh
  obtain ⟨x, k, v, m, cells⟩ := zz
  dsimp only at zh
  obtain ⟨hk1, hk2, hx, hm, rfl⟩ := zh
  simp (maxSteps := 4000000) (disch := omega) only [go_sem, w64, AndB_of, IfB_of, IfB_no, pickE_of, pickE_no, ite_of, ite_no, tdivE, tmodE, takeAll]
  have hl2 : (flat cI (rangeK a k)).length = m := by rw [cI_flen, rangeK_len]; omega
  refine IfB.dec (fun h1 => ?_) (fun h1 => ?_)
  · simp (maxSteps := 4000000) (disch := omega) only [go_sem, w64, AndB_of, IfB_of, IfB_no, pickE_of, pickE_no, ite_of, ite_no, tdivE, tmodE, takeAll, hl2]
    ((repeat' apply And.intro) <;> first | exact (rangeK_snoc (by omega)).symm | (exact Weak.go (by (first | (simp [wkL]; done) | (simp [wkL]; omega))) (fun zi => by first | exact .inl rfl | exact .inr rfl | (simp only [upd]; repeat' split) <;> first | exact (rangeK_snoc (by omega)).symm | exact .inl rfl | exact .inr rfl | (exfalso; omega) | exact .inr (hd _ (by omega)) | (left; subst_vars; exact hH.symm) | (left; subst_vars; rfl) | (left; simp; done) | (left; simp; omega)) (by omega)) | omega | rfl | assumption | exact Flat.nil | exact ⟨_, rfl, rfl, by assumption⟩ | (simp; done) | (simp; omega))
  · obtain rfl : k = b + 1 := by omega
    have hq := q_cloneZ (rangeK a (b + 1)) (by rw [rangeK_len]; omega)
    have hlm : (rangeK a (b + 1)).length = m := by rw [rangeK_len]; omega
    unfold intsA at hq
    rw [hlm] at hq
    simp (maxSteps := 4000000) (disch := omega) only [go_sem, w64, AndB_of, IfB_of, IfB_no, pickE_of, pickE_no, ite_of, ite_no, tdivE, tmodE, takeAll, hl2]
    apply CallB.lend 1 (r := .sl m false (flat cI (rangeK a (b + 1)))) _ (by rw [← hlm]; exact intsA_pure _)
    · simp (maxSteps := 4000000) (disch := omega) only [go_sem, w64, AndB_of, IfB_of, IfB_no, pickE_of, pickE_no, ite_of, ite_no, tdivE, tmodE, takeAll]
      rw [hp]
      unfold rangeL intsA
      rw [hlm]
    · simp (maxSteps := 4000000) (disch := omega) only [go_sem, w64, AndB_of, IfB_of, IfB_no, pickE_of, pickE_no, ite_of, ite_no, tdivE, tmodE, takeAll]
      exact hq
theorem q_PartsForI (l : List Int) (kind n : Int) (hl : l.length ≤ 1000) : QCall Try.prog 32 [intsA l, .int .i64 kind, .int .i64 n] (intsA (partsL l kind n)) := by
  by_cases hg : cutsOk l ∧ inR n (-9999) 9999
  · obtain ⟨R, h1, h2⟩ := x_PartsForI l kind n hl hg
    rw [← h1]
    exact h2.loose
  · have hpe : partsL l kind n = [] := by unfold partsL; rw [if_neg hg]
    rw [hpe]
    exact q_PartsForN l kind n hl hg
end Go.TH
