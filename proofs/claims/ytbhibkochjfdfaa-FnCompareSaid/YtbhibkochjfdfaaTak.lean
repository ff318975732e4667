/- TH: comparisons: the walks. Made by gen.py. -/
import Derived.Test.YtbhibkochjfdfaaTao
namespace Go.TH
open Go Go.Proofs
set_option linter.unusedSimpArgs false
set_option linter.unusedVariables false
set_option maxHeartbeats 20000000
set_option maxRecDepth 100000
def truthB (b : Prop) [Decidable b] : Int := if b then 1 else 0
def cmpT (kind c : Int) : Int := if (kind = 1 ∧ c = 0) ∨ (kind = 2 ∧ c ≠ 0) ∨ (kind = 3 ∧ c < 0) ∨ (kind = 4 ∧ c ≤ 0) then 1 else 0
def cmpV (kind : Int) (v w : GVal) : Int :=
  if ¬ (inR kind 1 4 ∧ v.Ok ∧ w.Ok) then -1 else if v.k = 0 ∨ w.k = 0 then 2 else if v.k ≠ w.k then -1 else cmpT kind (v.ord w)
def notT (a : Int) : Int := if a = 0 then 1 else if a = 1 then 0 else if a = 2 then 2 else -1
theorem q_truthIf (b : Bool) : QCall Try.prog 107 [.bool b] (.int .i64 (if b = true then 1 else 0)) := by
  refine qcall_body mixed Try.func107 _ (by unfold Try.f107; rfl) Try.ntmps107 Try.results107 (by decide) 0 (by simp) (by simp [pureL, pureA]) ?_
  simp (maxSteps := 4000000) (disch := omega) only [go_sem, w64, AndB_of, IfB_of, IfB_no, pickE_of, pickE_no, ite_of, ite_no, tdivE, tmodE, takeAll]
  repeat' (first | (refine IfB.dec (fun h => ?_) (fun h => ?_) <;> (try (have h2 := h; unfold inR at h2)) <;> simp (maxSteps := 4000000) (disch := omega) only [go_sem, w64, AndB_of, IfB_of, IfB_no, pickE_of, pickE_no, ite_of, ite_no, tdivE, tmodE, takeAll, h]) | (refine IfB.split (fun h => ?_) (fun h => ?_) <;> simp (maxSteps := 4000000) (disch := omega) only [go_sem, w64, AndB_of, IfB_of, IfB_no, pickE_of, pickE_no, ite_of, ite_no, tdivE, tmodE, takeAll, h]) | (refine DrawB.quiet (by kernel_rfl) ?_; simp (maxSteps := 4000000) (disch := omega) only [go_sem, w64, AndB_of, IfB_of, IfB_no, pickE_of, pickE_no, ite_of, ite_no, tdivE, tmodE, takeAll]))
  all_goals simp_all
theorem q_l2Bool (b : Bool) : QCall Try.prog 108 [.bool b] (.int .i64 (if b = true then 1 else 0)) := by
  refine qcall_body mixed Try.func108 _ (by unfold Try.f108; rfl) Try.ntmps108 Try.results108 (by decide) 0 (by simp) (by simp [pureL, pureA]) ?_
  simp (maxSteps := 4000000) (disch := omega) only [go_sem, w64, AndB_of, IfB_of, IfB_no, pickE_of, pickE_no, ite_of, ite_no, tdivE, tmodE, takeAll]
  repeat' (first | (refine IfB.dec (fun h => ?_) (fun h => ?_) <;> (try (have h2 := h; unfold inR at h2)) <;> simp (maxSteps := 4000000) (disch := omega) only [go_sem, w64, AndB_of, IfB_of, IfB_no, pickE_of, pickE_no, ite_of, ite_no, tdivE, tmodE, takeAll, h]) | (refine IfB.split (fun h => ?_) (fun h => ?_) <;> simp (maxSteps := 4000000) (disch := omega) only [go_sem, w64, AndB_of, IfB_of, IfB_no, pickE_of, pickE_no, ite_of, ite_no, tdivE, tmodE, takeAll, h]) | (refine DrawB.quiet (by kernel_rfl) ?_; simp (maxSteps := 4000000) (disch := omega) only [go_sem, w64, AndB_of, IfB_of, IfB_no, pickE_of, pickE_no, ite_of, ite_no, tdivE, tmodE, takeAll]))
  all_goals simp_all
theorem q_NotOf (a : Int) : QCall Try.prog 41 [.int .i64 a] (.int .i64 (notT a)) := by
  refine qcall_body mixed Try.func41 _ (by unfold Try.f41; rfl) Try.ntmps41 Try.results41 (by decide) 0 (by simp) (by simp [pureL, pureA]) ?_
  unfold notT
  simp (maxSteps := 4000000) (disch := omega) only [go_sem, w64, AndB_of, IfB_of, IfB_no, pickE_of, pickE_no, ite_of, ite_no, tdivE, tmodE, takeAll]
  repeat' (first | (refine IfB.dec (fun h => ?_) (fun h => ?_) <;> (try (have h2 := h; unfold inR at h2)) <;> simp (maxSteps := 4000000) (disch := omega) only [go_sem, w64, AndB_of, IfB_of, IfB_no, pickE_of, pickE_no, ite_of, ite_no, tdivE, tmodE, takeAll, h]) | (refine IfB.split (fun h => ?_) (fun h => ?_) <;> simp (maxSteps := 4000000) (disch := omega) only [go_sem, w64, AndB_of, IfB_of, IfB_no, pickE_of, pickE_no, ite_of, ite_no, tdivE, tmodE, takeAll, h]) | (refine DrawB.quiet (by kernel_rfl) ?_; simp (maxSteps := 4000000) (disch := omega) only [go_sem, w64, AndB_of, IfB_of, IfB_no, pickE_of, pickE_no, ite_of, ite_no, tdivE, tmodE, takeAll]))
  all_goals simp_all
theorem bl_anti : ∀ x y : List UInt8, Op.bytesLess x y = true → Op.bytesLess y x = false ∧ x ≠ y
  | _, [], h => by simp [Op.bytesLess] at h
  | [], b :: y, _ => by simp [Op.bytesLess]
  | a :: x, b :: y, h => by
    simp only [Op.bytesLess, Bool.or_eq_true, decide_eq_true_eq, Bool.and_eq_true, beq_iff_eq] at h
    rcases h with h | ⟨rfl, h⟩
    · have h1 : a.toNat < b.toNat := h
      have h2 : ¬ b < a := fun h3 => by have h4 : b.toNat < a.toNat := h3; omega
      have h3 : a ≠ b := fun e => by subst e; omega
      refine ⟨?_, fun e => h3 (by injection e)⟩
      simp [Op.bytesLess, h2, Ne.symm h3]
    · have ih := bl_anti x y h
      have h2 : ¬ a < a := fun h3 => by have h4 : a.toNat < a.toNat := h3; omega
      refine ⟨by simp [Op.bytesLess, h2, ih.1], fun e => ih.2 (by injection e)⟩
theorem bl_total : ∀ x y : List UInt8, Op.bytesLess x y = false → x ≠ y → Op.bytesLess y x = true
  | [], [], _, h => absurd rfl h
  | a :: x, [], _, _ => by simp [Op.bytesLess]
  | [], b :: y, h, _ => by simp [Op.bytesLess] at h
  | a :: x, b :: y, h, hne => by
    simp only [Op.bytesLess, Bool.or_eq_false_iff, decide_eq_false_iff_not, Bool.and_eq_false_iff, beq_eq_false_iff_ne] at h
    obtain ⟨h1, h2⟩ := h
    simp only [Op.bytesLess, Bool.or_eq_true, decide_eq_true_eq, Bool.and_eq_true, beq_iff_eq]
    by_cases e : a = b
    · subst e
      right
      refine ⟨rfl, bl_total x y ?_ (fun h => hne (by rw [h]))⟩
      rcases h2 with h2 | h2
      · exact absurd rfl h2
      · exact h2
    · left
      have h3 : a.toNat ≠ b.toNat := fun h => e (UInt8.toNat_inj.1 h)
      have h4 : ¬ a.toNat < b.toNat := h1
      show b.toNat < a.toNat
      omega
theorem cmpS_neg (a b : ByteArray) : cmpS b a = - cmpS a b := by
  have key : ∀ a b : ByteArray, Op.bytesLess a.data.toList b.data.toList = true → cmpS b a = 1 ∧ cmpS a b = -1 := by
    intro a b h
    obtain ⟨h1, h2⟩ := bl_anti _ _ h
    have h3 : ¬ b = a := fun e => h2 (by rw [e])
    unfold cmpS
    simp [h, h1, h3]
  by_cases h : Op.bytesLess a.data.toList b.data.toList = true
  · obtain ⟨h1, h2⟩ := key a b h
    rw [h1, h2]; rfl
  · by_cases h' : Op.bytesLess b.data.toList a.data.toList = true
    · obtain ⟨h1, h2⟩ := key b a h'
      rw [h1, h2]
    · have e : a.data.toList = b.data.toList := Decidable.byContradiction fun hne => h' (bl_total _ _ (by simpa using h) hne)
      have e2 : a = b := by
        obtain ⟨⟨x⟩⟩ := a
        obtain ⟨⟨y⟩⟩ := b
        simp at e
        rw [e]
      subst e2
      unfold cmpS
      simp at h
      simp [h]
theorem cmpI_neg (a b : Int) : cmpI b a = - cmpI a b := by
  unfold cmpI
  repeat' split
  all_goals omega
theorem ord_neg (v w : GVal) : w.ord v = - v.ord w := by
  unfold GVal.ord
  simp only [orF]
  rw [cmpI_neg v.k w.k, cmpI_neg v.n w.n, cmpS_neg v.s w.s]
  repeat' split
  all_goals omega
theorem cmpV_range (k : Int) (v w : GVal) : cmpV k v w = -1 ∨ cmpV k v w = 0 ∨ cmpV k v w = 1 ∨ cmpV k v w = 2 := by
  unfold cmpV cmpT
  repeat' split
  all_goals omega
theorem cmpV_same (v w : GVal) : cmpV 1 v w = notT (cmpV 2 v w) := by
  unfold cmpV cmpT notT inR
  by_cases h : v.Ok ∧ w.Ok
  · repeat' split
    all_goals (simp_all <;> omega)
  · have h1 : ¬ ((1 : Int) ≤ 1 ∧ (1 : Int) ≤ 4 ∧ v.Ok ∧ w.Ok) := fun e => h e.2.2
    rw [if_pos (fun e => h e.2), if_pos (fun e => h e.2)]
    rfl
theorem cmpV_ok {kind : Int} {v w : GVal} (h : inR kind 1 4) (hv : v.Ok) (hw : w.Ok) : cmpV kind v w = (if v.k = 0 ∨ w.k = 0 then 2 else if v.k ≠ w.k then -1 else cmpT kind (v.ord w)) := if_neg (fun e => e ⟨h, hv, hw⟩)
theorem cmpV_bad {kind : Int} {v w : GVal} (h : ¬ (v.Ok ∧ w.Ok)) : cmpV kind v w = -1 := if_pos (fun e => h e.2)
theorem cmpV_less (v w : GVal) : cmpV 3 v w = notT (cmpV 4 w v) := by
  by_cases h : v.Ok ∧ w.Ok
  · rw [cmpV_ok ⟨by omega, by omega⟩ h.1 h.2, cmpV_ok ⟨by omega, by omega⟩ h.2 h.1, ord_neg v w]
    unfold cmpT notT
    repeat' split
    all_goals omega
  · rw [cmpV_bad h, cmpV_bad (fun e => h e.symm)]
    rfl
theorem q_CompareKI (kind : Int) (v w : GVal) (hv : v.s.size ≤ 140737488355328) (hw : w.s.size ≤ 140737488355328) : QCall Try.prog 39 [.int .i64 kind, .agg [.int .i64 v.k, .int .i64 v.n, .str v.s], .agg [.int .i64 w.k, .int .i64 w.n, .str w.s]] (.int .i64 (cmpV kind v w)) := by
  refine qcall_body mixed Try.func39 _ (by unfold Try.f39; rfl) Try.ntmps39 Try.results39 (by decide) 0 (by simp) (by simp [pureL, pureA]) ?_
  simp (maxSteps := 4000000) (disch := omega) only [go_sem, w64, AndB_of, IfB_of, IfB_no, pickE_of, pickE_no, ite_of, ite_no, tdivE, tmodE, takeAll]
  repeat' (first | (refine IfB.dec (fun h => ?_) (fun h => ?_) <;> (try (have h2 := h; unfold inR at h2)) <;> simp (maxSteps := 4000000) (disch := omega) only [go_sem, w64, AndB_of, IfB_of, IfB_no, pickE_of, pickE_no, ite_of, ite_no, tdivE, tmodE, takeAll, h]) | (refine IfB.split (fun h => ?_) (fun h => ?_) <;> simp (maxSteps := 4000000) (disch := omega) only [go_sem, w64, AndB_of, IfB_of, IfB_no, pickE_of, pickE_no, ite_of, ite_no, tdivE, tmodE, takeAll, h]) | (refine DrawB.quiet (by kernel_rfl) ?_; simp (maxSteps := 4000000) (disch := omega) only [go_sem, w64, AndB_of, IfB_of, IfB_no, pickE_of, pickE_no, ite_of, ite_no, tdivE, tmodE, takeAll]) | (apply CallB.q (q_between _ _ _); simp (maxSteps := 4000000) (disch := omega) only [go_sem, w64, AndB_of, IfB_of, IfB_no, pickE_of, pickE_no, ite_of, ite_no, tdivE, tmodE, takeAll]) | (apply CallB.q (q_ok _ (by omega)); simp (maxSteps := 4000000) (disch := omega) only [go_sem, w64, AndB_of, IfB_of, IfB_no, pickE_of, pickE_no, ite_of, ite_no, tdivE, tmodE, takeAll]) | (apply DCallB.q0 (q_between _ _ _); simp (maxSteps := 4000000) (disch := omega) only [go_sem, w64, AndB_of, IfB_of, IfB_no, pickE_of, pickE_no, ite_of, ite_no, tdivE, tmodE, takeAll]) | (apply DCallB.q0 (q_ok _ (by omega)); simp (maxSteps := 4000000) (disch := omega) only [go_sem, w64, AndB_of, IfB_of, IfB_no, pickE_of, pickE_no, ite_of, ite_no, tdivE, tmodE, takeAll]))
  case refine_1.refine_1.refine_1.refine_2.refine_2.refine_1 =>
    rename_i hk h1 h2 h3 h4 h5
    have e := q_order v w
    have e2 : cmpV kind v w = cmpT kind (v.ord w) := by
      unfold cmpV
      rw [if_neg (fun e => e ⟨by assumption, by assumption, by assumption⟩), if_neg (by omega), if_neg (by omega)]
    rw [e2]
    have hvk : v.k = w.k := by omega
    rw [hvk] at e
    apply CallB.q e
    unfold cmpT
    simp (maxSteps := 4000000) (disch := omega) only [go_sem, w64, AndB_of, IfB_of, IfB_no, pickE_of, pickE_no, ite_of, ite_no, tdivE, tmodE, takeAll]
    repeat' (first | (refine IfB.dec (fun h => ?_) (fun h => ?_) <;> (try (have h2 := h; unfold inR at h2)) <;> simp (maxSteps := 4000000) (disch := omega) only [go_sem, w64, AndB_of, IfB_of, IfB_no, pickE_of, pickE_no, ite_of, ite_no, tdivE, tmodE, takeAll, h]) | (refine IfB.split (fun h => ?_) (fun h => ?_) <;> simp (maxSteps := 4000000) (disch := omega) only [go_sem, w64, AndB_of, IfB_of, IfB_no, pickE_of, pickE_no, ite_of, ite_no, tdivE, tmodE, takeAll, h]) | (refine DrawB.quiet (by kernel_rfl) ?_; simp (maxSteps := 4000000) (disch := omega) only [go_sem, w64, AndB_of, IfB_of, IfB_no, pickE_of, pickE_no, ite_of, ite_no, tdivE, tmodE, takeAll]) | (apply CallB.q (q_truthIf _); simp (maxSteps := 4000000) (disch := omega) only [go_sem, w64, AndB_of, IfB_of, IfB_no, pickE_of, pickE_no, ite_of, ite_no, tdivE, tmodE, takeAll]) | (apply DCallB.q0 (q_truthIf _); simp (maxSteps := 4000000) (disch := omega) only [go_sem, w64, AndB_of, IfB_of, IfB_no, pickE_of, pickE_no, ite_of, ite_no, tdivE, tmodE, takeAll]))
    all_goals (rw [AV.int.injEq]; refine ⟨rfl, ?_⟩; simp only [decide_eq_true_eq])
    all_goals (repeat' split)
    all_goals omega
  all_goals (unfold cmpV; simp_all)
theorem q_CompareKS (kind : Int) (v w : GVal) (hv : v.s.size ≤ 140737488355328) (hw : w.s.size ≤ 140737488355328) : QCall Try.prog 40 [.int .i64 kind, .agg [.int .i64 v.k, .int .i64 v.n, .str v.s], .agg [.int .i64 w.k, .int .i64 w.n, .str w.s]] (.int .i64 (cmpV kind v w)) := by
  refine qcall_body mixed Try.func40 _ (by unfold Try.f40; rfl) Try.ntmps40 Try.results40 (by decide) 0 (by simp) (by simp [pureL, pureA]) ?_
  simp (maxSteps := 4000000) (disch := omega) only [go_sem, w64, AndB_of, IfB_of, IfB_no, pickE_of, pickE_no, ite_of, ite_no, tdivE, tmodE, takeAll]
  have e := q_ValueOrderS v w (by omega) (by omega)
  repeat' (first | (refine IfB.dec (fun h => ?_) (fun h => ?_) <;> (try (have h2 := h; unfold inR at h2)) <;> simp (maxSteps := 4000000) (disch := omega) only [go_sem, w64, AndB_of, IfB_of, IfB_no, pickE_of, pickE_no, ite_of, ite_no, tdivE, tmodE, takeAll, h]) | (refine IfB.split (fun h => ?_) (fun h => ?_) <;> simp (maxSteps := 4000000) (disch := omega) only [go_sem, w64, AndB_of, IfB_of, IfB_no, pickE_of, pickE_no, ite_of, ite_no, tdivE, tmodE, takeAll, h]) | (refine DrawB.quiet (by kernel_rfl) ?_; simp (maxSteps := 4000000) (disch := omega) only [go_sem, w64, AndB_of, IfB_of, IfB_no, pickE_of, pickE_no, ite_of, ite_no, tdivE, tmodE, takeAll]) | (apply CallB.q (q_l1In _ _ _); simp (maxSteps := 4000000) (disch := omega) only [go_sem, w64, AndB_of, IfB_of, IfB_no, pickE_of, pickE_no, ite_of, ite_no, tdivE, tmodE, takeAll]) | (apply CallB.q (q_ValueOkS _ (by omega)); simp (maxSteps := 4000000) (disch := omega) only [go_sem, w64, AndB_of, IfB_of, IfB_no, pickE_of, pickE_no, ite_of, ite_no, tdivE, tmodE, takeAll]) | (apply DCallB.q0 (q_l1In _ _ _); simp (maxSteps := 4000000) (disch := omega) only [go_sem, w64, AndB_of, IfB_of, IfB_no, pickE_of, pickE_no, ite_of, ite_no, tdivE, tmodE, takeAll]) | (apply DCallB.q0 (q_ValueOkS _ (by omega)); simp (maxSteps := 4000000) (disch := omega) only [go_sem, w64, AndB_of, IfB_of, IfB_no, pickE_of, pickE_no, ite_of, ite_no, tdivE, tmodE, takeAll]))
  all_goals (try subst_vars)
  all_goals first
    | (rw [AV.int.injEq]; refine ⟨rfl, ?_⟩; unfold cmpV; simp_all; done)
    | (have e2 := cmpV_ok (v := v) (w := w) (by assumption) (by assumption) (by assumption)
       rw [if_neg (by omega), if_neg (by omega)] at e2
       have e3 : valOrd v w = v.ord w := if_pos ⟨by assumption, by assumption⟩
       have hvk : v.k = w.k := by omega
       rw [e3, hvk] at e
       apply CallB.q e
       rw [e2]
       unfold cmpT
       simp (maxSteps := 4000000) (disch := omega) only [go_sem, w64, AndB_of, IfB_of, IfB_no, pickE_of, pickE_no, ite_of, ite_no, tdivE, tmodE, takeAll]
       apply CallB.q (q_l2Bool _)
       simp (maxSteps := 4000000) (disch := omega) only [go_sem, w64, AndB_of, IfB_of, IfB_no, pickE_of, pickE_no, ite_of, ite_no, tdivE, tmodE, takeAll]
       try simp only [decide_eq_true_eq, Bool.not_eq_true', decide_eq_false_iff_not]
       all_goals ((try rw [AV.int.injEq]); (try refine ⟨rfl, ?_⟩); (repeat' split) <;> first | omega | (simp_all; done) | (simp_all; omega)))
end Go.TH
