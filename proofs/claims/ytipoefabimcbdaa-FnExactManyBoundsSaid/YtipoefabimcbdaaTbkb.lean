/- TH: bounds of what is known: the walks. Made by gen.py. -/
import Derived.Test.YtipoefabimcbdaaTbkn
import Derived.Test.YtipoefabimcbdaaTbk
import Derived.Test.YtipoefabimcbdaaTf3
import Derived.Test.YtipoefabimcbdaaTbbo
namespace Go.TH
open Go Go.Proofs
set_option linter.unusedSimpArgs false
set_option linter.unusedVariables false
set_option maxHeartbeats 20000000
set_option maxRecDepth 100000
theorem q_asks (k : GKn) (kind : Int) (v : GVal) (hb : KnB k) (hv : v.s.size ≤ 1048576) : QCall Try.prog 99 [.agg [.int .i64 k.many, .int .i64 k.sum, .int .i64 k.least.k, .int .i64 k.least.n, .str k.least.s, .int .i64 k.most.k, .int .i64 k.most.n, .str k.most.s], .int .i64 kind, .agg [.int .i64 v.k, .int .i64 v.n, .str v.s]] (.bool (decide (asksK k kind v))) := by
  refine qcall_body mixed Try.func99 _ (by unfold Try.f99; rfl) Try.ntmps99 Try.results99 (by decide) 0 (by simp) (by simp [pureL, pureA]) ?_
  have hv2 : v.s.size ≤ 9223372036854775807 := by omega
  simp (maxSteps := 4000000) (disch := omega) only [go_sem, w64, AndB_of, IfB_of, IfB_no, pickE_of, pickE_no, ite_of, ite_no, tdivE, tmodE, takeAll]
  repeat' (first | (refine IfB.dec2 (fun h hd => ?_) (fun h hd => ?_) <;> (try (have h2 := h; unfold inR at h2)) <;> (try simp (maxSteps := 4000000) (disch := omega) only [go_sem, w64, AndB_of, IfB_of, IfB_no, pickE_of, pickE_no, ite_of, ite_no, tdivE, tmodE, takeAll, hd])) | (refine IfB.split (fun h => ?_) (fun h => ?_) <;> (try simp (maxSteps := 4000000) (disch := omega) only [go_sem, w64, AndB_of, IfB_of, IfB_no, pickE_of, pickE_no, ite_of, ite_no, tdivE, tmodE, takeAll, h])) | (refine DrawB.quiet (by kernel_rfl) ?_; simp (maxSteps := 4000000) (disch := omega) only [go_sem, w64, AndB_of, IfB_of, IfB_no, pickE_of, pickE_no, ite_of, ite_no, tdivE, tmodE, takeAll]) | (apply CallB.q (q_KnownOkI k hb); simp (maxSteps := 4000000) (disch := omega) only [go_sem, w64, AndB_of, IfB_of, IfB_no, pickE_of, pickE_no, ite_of, ite_no, tdivE, tmodE, takeAll]) | (apply CallB.q (q_between _ _ _); simp (maxSteps := 4000000) (disch := omega) only [go_sem, w64, AndB_of, IfB_of, IfB_no, pickE_of, pickE_no, ite_of, ite_no, tdivE, tmodE, takeAll]) | (apply CallB.q (q_ok v hv2); simp (maxSteps := 4000000) (disch := omega) only [go_sem, w64, AndB_of, IfB_of, IfB_no, pickE_of, pickE_no, ite_of, ite_no, tdivE, tmodE, takeAll]) | (apply DCallB.q0 (q_KnownOkI k hb); simp (maxSteps := 4000000) (disch := omega) only [go_sem, w64, AndB_of, IfB_of, IfB_no, pickE_of, pickE_no, ite_of, ite_no, tdivE, tmodE, takeAll]) | (apply DCallB.q0 (q_between _ _ _); simp (maxSteps := 4000000) (disch := omega) only [go_sem, w64, AndB_of, IfB_of, IfB_no, pickE_of, pickE_no, ite_of, ite_no, tdivE, tmodE, takeAll]) | (apply DCallB.q0 (q_ok v hv2); simp (maxSteps := 4000000) (disch := omega) only [go_sem, w64, AndB_of, IfB_of, IfB_no, pickE_of, pickE_no, ite_of, ite_no, tdivE, tmodE, takeAll]))
  all_goals (rw [AV.bool.injEq, Bool.eq_iff_iff]; (try simp only [decide_eq_true_iff]); unfold asksK; first | (simp [*]; done) | (simp_all; done) | (simp_all; omega))
theorem q_MayHoldI (k : GKn) (kind : Int) (v : GVal) (hb : KnB k) (hv : v.s.size ≤ 1048576) : QCall Try.prog 100 [.agg [.int .i64 k.many, .int .i64 k.sum, .int .i64 k.least.k, .int .i64 k.least.n, .str k.least.s, .int .i64 k.most.k, .int .i64 k.most.n, .str k.most.s], .int .i64 kind, .agg [.int .i64 v.k, .int .i64 v.n, .str v.s]] (.bool (decide (mayH k kind v))) := by
  refine qcall_body mixed Try.func100 _ (by unfold Try.f100; rfl) Try.ntmps100 Try.results100 (by decide) 0 (by simp) (by simp [pureL, pureA]) ?_
  simp (maxSteps := 4000000) (disch := omega) only [go_sem, w64, AndB_of, IfB_of, IfB_no, pickE_of, pickE_no, ite_of, ite_no, tdivE, tmodE, takeAll]
  apply CallB.q (q_asks k kind v hb hv)
  simp (maxSteps := 4000000) (disch := omega) only [go_sem, w64, AndB_of, IfB_of, IfB_no, pickE_of, pickE_no, ite_of, ite_no, tdivE, tmodE, takeAll]
  refine IfB.dec2 (fun h1 d1 => ?_) (fun h1 d1 => ?_)
  · have hk := h1.2.2.1
    unfold inR at hk
    have e : mayH k kind v ↔ mayC kind (k.least.ord v) (k.most.ord v) := ⟨fun h => h.2, fun h => ⟨h1, h⟩⟩
    unfold mayC at e
    simp (maxSteps := 4000000) (disch := omega) only [go_sem, w64, AndB_of, IfB_of, IfB_no, pickE_of, pickE_no, ite_of, ite_no, tdivE, tmodE, takeAll, d1]
    repeat' (first | (refine IfB.dec2 (fun h hd => ?_) (fun h hd => ?_) <;> (try (have h2 := h; unfold inR at h2)) <;> (try simp (maxSteps := 4000000) (disch := omega) only [go_sem, w64, AndB_of, IfB_of, IfB_no, pickE_of, pickE_no, ite_of, ite_no, tdivE, tmodE, takeAll, hd])) | (refine IfB.split (fun h => ?_) (fun h => ?_) <;> (try simp (maxSteps := 4000000) (disch := omega) only [go_sem, w64, AndB_of, IfB_of, IfB_no, pickE_of, pickE_no, ite_of, ite_no, tdivE, tmodE, takeAll, h])) | (refine DrawB.quiet (by kernel_rfl) ?_; simp (maxSteps := 4000000) (disch := omega) only [go_sem, w64, AndB_of, IfB_of, IfB_no, pickE_of, pickE_no, ite_of, ite_no, tdivE, tmodE, takeAll]) | (apply CallB.q (q_order k.least v); simp (maxSteps := 4000000) (disch := omega) only [go_sem, w64, AndB_of, IfB_of, IfB_no, pickE_of, pickE_no, ite_of, ite_no, tdivE, tmodE, takeAll]) | (apply CallB.q (q_order k.most v); simp (maxSteps := 4000000) (disch := omega) only [go_sem, w64, AndB_of, IfB_of, IfB_no, pickE_of, pickE_no, ite_of, ite_no, tdivE, tmodE, takeAll]) | (apply DCallB.q0 (q_order k.least v); simp (maxSteps := 4000000) (disch := omega) only [go_sem, w64, AndB_of, IfB_of, IfB_no, pickE_of, pickE_no, ite_of, ite_no, tdivE, tmodE, takeAll]) | (apply DCallB.q0 (q_order k.most v); simp (maxSteps := 4000000) (disch := omega) only [go_sem, w64, AndB_of, IfB_of, IfB_no, pickE_of, pickE_no, ite_of, ite_no, tdivE, tmodE, takeAll]))
    all_goals (rw [AV.bool.injEq, Bool.eq_iff_iff]; (try simp only [decide_eq_true_iff]); rw [e]; first | omega | (simp; done) | (simp; omega))
  · have e : ¬ mayH k kind v := fun h => h1 h.1
    simp (maxSteps := 4000000) (disch := omega) only [go_sem, w64, AndB_of, IfB_of, IfB_no, pickE_of, pickE_no, ite_of, ite_no, tdivE, tmodE, takeAll, d1]
    simp [e]
theorem q_MustHoldI (k : GKn) (kind : Int) (v : GVal) (hb : KnB k) (hv : v.s.size ≤ 1048576) : QCall Try.prog 101 [.agg [.int .i64 k.many, .int .i64 k.sum, .int .i64 k.least.k, .int .i64 k.least.n, .str k.least.s, .int .i64 k.most.k, .int .i64 k.most.n, .str k.most.s], .int .i64 kind, .agg [.int .i64 v.k, .int .i64 v.n, .str v.s]] (.bool (decide (mustH k kind v))) := by
  refine qcall_body mixed Try.func101 _ (by unfold Try.f101; rfl) Try.ntmps101 Try.results101 (by decide) 0 (by simp) (by simp [pureL, pureA]) ?_
  simp (maxSteps := 4000000) (disch := omega) only [go_sem, w64, AndB_of, IfB_of, IfB_no, pickE_of, pickE_no, ite_of, ite_no, tdivE, tmodE, takeAll]
  apply CallB.q (q_asks k kind v hb hv)
  simp (maxSteps := 4000000) (disch := omega) only [go_sem, w64, AndB_of, IfB_of, IfB_no, pickE_of, pickE_no, ite_of, ite_no, tdivE, tmodE, takeAll]
  refine IfB.dec2 (fun h1 d1 => ?_) (fun h1 d1 => ?_)
  · have hk := h1.2.2.1
    unfold inR at hk
    have e : mustH k kind v ↔ mustC kind (k.least.ord v) (k.most.ord v) := ⟨fun h => h.2, fun h => ⟨h1, h⟩⟩
    unfold mustC at e
    simp (maxSteps := 4000000) (disch := omega) only [go_sem, w64, AndB_of, IfB_of, IfB_no, pickE_of, pickE_no, ite_of, ite_no, tdivE, tmodE, takeAll, d1]
    repeat' (first | (refine IfB.dec2 (fun h hd => ?_) (fun h hd => ?_) <;> (try (have h2 := h; unfold inR at h2)) <;> (try simp (maxSteps := 4000000) (disch := omega) only [go_sem, w64, AndB_of, IfB_of, IfB_no, pickE_of, pickE_no, ite_of, ite_no, tdivE, tmodE, takeAll, hd])) | (refine IfB.split (fun h => ?_) (fun h => ?_) <;> (try simp (maxSteps := 4000000) (disch := omega) only [go_sem, w64, AndB_of, IfB_of, IfB_no, pickE_of, pickE_no, ite_of, ite_no, tdivE, tmodE, takeAll, h])) | (refine DrawB.quiet (by kernel_rfl) ?_; simp (maxSteps := 4000000) (disch := omega) only [go_sem, w64, AndB_of, IfB_of, IfB_no, pickE_of, pickE_no, ite_of, ite_no, tdivE, tmodE, takeAll]) | (apply CallB.q (q_order k.least v); simp (maxSteps := 4000000) (disch := omega) only [go_sem, w64, AndB_of, IfB_of, IfB_no, pickE_of, pickE_no, ite_of, ite_no, tdivE, tmodE, takeAll]) | (apply CallB.q (q_order k.most v); simp (maxSteps := 4000000) (disch := omega) only [go_sem, w64, AndB_of, IfB_of, IfB_no, pickE_of, pickE_no, ite_of, ite_no, tdivE, tmodE, takeAll]) | (apply DCallB.q0 (q_order k.least v); simp (maxSteps := 4000000) (disch := omega) only [go_sem, w64, AndB_of, IfB_of, IfB_no, pickE_of, pickE_no, ite_of, ite_no, tdivE, tmodE, takeAll]) | (apply DCallB.q0 (q_order k.most v); simp (maxSteps := 4000000) (disch := omega) only [go_sem, w64, AndB_of, IfB_of, IfB_no, pickE_of, pickE_no, ite_of, ite_no, tdivE, tmodE, takeAll]))
    all_goals (rw [AV.bool.injEq, Bool.eq_iff_iff]; (try simp only [decide_eq_true_iff]); rw [e]; first | omega | (simp; done) | (simp; omega))
  · have e : ¬ mustH k kind v := fun h => h1 h.1
    simp (maxSteps := 4000000) (disch := omega) only [go_sem, w64, AndB_of, IfB_of, IfB_no, pickE_of, pickE_no, ite_of, ite_no, tdivE, tmodE, takeAll, d1]
    simp [e]
theorem asks_no {k : GKn} {kind : Int} {v : GVal} (h : ¬ (knOk k ∧ k.many ≠ 0 ∧ v.Ok ∧ v.k = k.least.k)) : ¬ mayH k kind v ∧ ¬ mustH k kind v :=
  ⟨fun e => h ⟨e.1.1, by have := e.1.2.1; omega, e.1.2.2.2.1, e.1.2.2.2.2⟩, fun e => h ⟨e.1.1, by have := e.1.2.1; omega, e.1.2.2.2.1, e.1.2.2.2.2⟩⟩
theorem asks_yes {k : GKn} {kind : Int} {v : GVal} (h1 : knOk k) (h2 : ¬ k.many = 0) (h3 : v.Ok) (h4 : v.k = k.least.k) :
    (mayH k kind v ↔ mayC kind (k.least.ord v) (k.most.ord v)) ∧ (mustH k kind v ↔ mustC kind (k.least.ord v) (k.most.ord v)) ∧ valOrd k.least v = k.least.ord v ∧ valOrd v k.most = v.ord k.most ∧ valOrd v k.least = v.ord k.least ∧ valOrd k.most v = k.most.ord v := by
  have hm := knOk_many h1
  have he := knOk_ends h1
  have ha : ∀ kind, inR kind 1 4 → asksK k kind v := fun kind h => ⟨h1, by omega, h, h3, h4⟩
  refine ⟨⟨fun h => h.2, fun h => ⟨ha _ ?_, h⟩⟩, ⟨fun h => h.2, fun h => ⟨ha _ ?_, h⟩⟩, ?_, ?_, ?_, ?_⟩
  · unfold mayC at h; unfold inR; omega
  · unfold mustC at h; unfold inR; omega
  all_goals (unfold valOrd; rw [if_pos ⟨by first | exact he.1 | exact he.2.1 | exact h3, by first | exact he.1 | exact he.2.1 | exact h3⟩])
theorem q_MayHoldS (k : GKn) (kind : Int) (v : GVal) (hb : KnB k) (hv : v.s.size ≤ 1048576) : QCall Try.prog 96 [.agg [.int .i64 k.many, .int .i64 k.sum, .int .i64 k.least.k, .int .i64 k.least.n, .str k.least.s, .int .i64 k.most.k, .int .i64 k.most.n, .str k.most.s], .int .i64 kind, .agg [.int .i64 v.k, .int .i64 v.n, .str v.s]] (.bool (decide (mayH k kind v))) := by
  refine qcall_body mixed Try.func96 _ (by unfold Try.f96; rfl) Try.ntmps96 Try.results96 (by decide) 0 (by simp) (by simp [pureL, pureA]) ?_
  obtain ⟨s1, s2⟩ := KnB_big hb
  have hv2 : v.s.size ≤ 9223372036854775807 := by omega
  by_cases ha : knOk k ∧ k.many ≠ 0 ∧ v.Ok ∧ v.k = k.least.k
  · obtain ⟨h1, h2, h3, h4⟩ := ha
    obtain ⟨e, _, o1, o2, _, _⟩ := asks_yes (kind := kind) h1 h2 h3 h4
    have n1 := ord_neg v k.most
    have z1 := @ord_zero k.least v
    have z2 := @ord_zero k.most v
    unfold mayC at e
    simp (maxSteps := 4000000) (disch := omega) only [go_sem, w64, AndB_of, IfB_of, IfB_no, pickE_of, pickE_no, ite_of, ite_no, tdivE, tmodE, takeAll]
    repeat' (first | (refine IfB.dec2 (fun h hd => ?_) (fun h hd => ?_) <;> (try (have h2 := h; unfold inR at h2)) <;> (try simp (maxSteps := 4000000) (disch := omega) only [go_sem, w64, AndB_of, IfB_of, IfB_no, pickE_of, pickE_no, ite_of, ite_no, tdivE, tmodE, takeAll, eqv k.least v, eqv k.most v, hd])) | (refine IfB.split (fun h => ?_) (fun h => ?_) <;> (try simp (maxSteps := 4000000) (disch := omega) only [go_sem, w64, AndB_of, IfB_of, IfB_no, pickE_of, pickE_no, ite_of, ite_no, tdivE, tmodE, takeAll, eqv k.least v, eqv k.most v, h])) | (refine DrawB.quiet (by kernel_rfl) ?_; simp (maxSteps := 4000000) (disch := omega) only [go_sem, w64, AndB_of, IfB_of, IfB_no, pickE_of, pickE_no, ite_of, ite_no, tdivE, tmodE, takeAll, eqv k.least v, eqv k.most v]) | (apply CallB.q (q_KnownOkS k hb); simp (maxSteps := 4000000) (disch := omega) only [go_sem, w64, AndB_of, IfB_of, IfB_no, pickE_of, pickE_no, ite_of, ite_no, tdivE, tmodE, takeAll, eqv k.least v, eqv k.most v]) | (apply CallB.q (q_ValueOkS v hv2); simp (maxSteps := 4000000) (disch := omega) only [go_sem, w64, AndB_of, IfB_of, IfB_no, pickE_of, pickE_no, ite_of, ite_no, tdivE, tmodE, takeAll, eqv k.least v, eqv k.most v]) | (apply CallB.q (q_ValueOrderS k.least v s1 hv2); simp (maxSteps := 4000000) (disch := omega) only [go_sem, w64, AndB_of, IfB_of, IfB_no, pickE_of, pickE_no, ite_of, ite_no, tdivE, tmodE, takeAll, eqv k.least v, eqv k.most v]) | (apply CallB.q (q_ValueOrderS v k.most hv2 s2); simp (maxSteps := 4000000) (disch := omega) only [go_sem, w64, AndB_of, IfB_of, IfB_no, pickE_of, pickE_no, ite_of, ite_no, tdivE, tmodE, takeAll, eqv k.least v, eqv k.most v]) | (apply DCallB.q0 (q_KnownOkS k hb); simp (maxSteps := 4000000) (disch := omega) only [go_sem, w64, AndB_of, IfB_of, IfB_no, pickE_of, pickE_no, ite_of, ite_no, tdivE, tmodE, takeAll, eqv k.least v, eqv k.most v]) | (apply DCallB.q0 (q_ValueOkS v hv2); simp (maxSteps := 4000000) (disch := omega) only [go_sem, w64, AndB_of, IfB_of, IfB_no, pickE_of, pickE_no, ite_of, ite_no, tdivE, tmodE, takeAll, eqv k.least v, eqv k.most v]) | (apply DCallB.q0 (q_ValueOrderS k.least v s1 hv2); simp (maxSteps := 4000000) (disch := omega) only [go_sem, w64, AndB_of, IfB_of, IfB_no, pickE_of, pickE_no, ite_of, ite_no, tdivE, tmodE, takeAll, eqv k.least v, eqv k.most v]) | (apply DCallB.q0 (q_ValueOrderS v k.most hv2 s2); simp (maxSteps := 4000000) (disch := omega) only [go_sem, w64, AndB_of, IfB_of, IfB_no, pickE_of, pickE_no, ite_of, ite_no, tdivE, tmodE, takeAll, eqv k.least v, eqv k.most v]))
    all_goals first
      | contradiction
      | (exfalso; omega)
      | (rw [AV.bool.injEq, Bool.eq_iff_iff]; (try simp only [decide_eq_true_iff]); rw [e]; omega)
      | (rw [AV.bool.injEq, Bool.eq_iff_iff]; (try simp only [decide_eq_true_iff]); rw [e]; simp; omega)
      | (rw [AV.bool.injEq, Bool.eq_iff_iff]; (try simp only [decide_eq_true_iff]); rw [e]; simp only [← z1, ← z2] at *; first | omega | (simp; done) | (simp; omega))
  · have e := (asks_no (kind := kind) ha).1
    simp (maxSteps := 4000000) (disch := omega) only [go_sem, w64, AndB_of, IfB_of, IfB_no, pickE_of, pickE_no, ite_of, ite_no, tdivE, tmodE, takeAll]
    repeat' (first | (refine IfB.dec2 (fun h hd => ?_) (fun h hd => ?_) <;> (try (have h2 := h; unfold inR at h2)) <;> (try simp (maxSteps := 4000000) (disch := omega) only [go_sem, w64, AndB_of, IfB_of, IfB_no, pickE_of, pickE_no, ite_of, ite_no, tdivE, tmodE, takeAll, hd])) | (refine IfB.split (fun h => ?_) (fun h => ?_) <;> (try simp (maxSteps := 4000000) (disch := omega) only [go_sem, w64, AndB_of, IfB_of, IfB_no, pickE_of, pickE_no, ite_of, ite_no, tdivE, tmodE, takeAll, h])) | (refine DrawB.quiet (by kernel_rfl) ?_; simp (maxSteps := 4000000) (disch := omega) only [go_sem, w64, AndB_of, IfB_of, IfB_no, pickE_of, pickE_no, ite_of, ite_no, tdivE, tmodE, takeAll]) | (apply CallB.q (q_KnownOkS k hb); simp (maxSteps := 4000000) (disch := omega) only [go_sem, w64, AndB_of, IfB_of, IfB_no, pickE_of, pickE_no, ite_of, ite_no, tdivE, tmodE, takeAll]) | (apply CallB.q (q_ValueOkS v hv2); simp (maxSteps := 4000000) (disch := omega) only [go_sem, w64, AndB_of, IfB_of, IfB_no, pickE_of, pickE_no, ite_of, ite_no, tdivE, tmodE, takeAll]) | (apply DCallB.q0 (q_KnownOkS k hb); simp (maxSteps := 4000000) (disch := omega) only [go_sem, w64, AndB_of, IfB_of, IfB_no, pickE_of, pickE_no, ite_of, ite_no, tdivE, tmodE, takeAll]) | (apply DCallB.q0 (q_ValueOkS v hv2); simp (maxSteps := 4000000) (disch := omega) only [go_sem, w64, AndB_of, IfB_of, IfB_no, pickE_of, pickE_no, ite_of, ite_no, tdivE, tmodE, takeAll]))
    all_goals first
      | (simp [e]; done)
      | (exfalso; apply ha; refine ⟨by assumption, by assumption, by assumption, by first | assumption | omega⟩)
theorem q_MustHoldS (k : GKn) (kind : Int) (v : GVal) (hb : KnB k) (hv : v.s.size ≤ 1048576) : QCall Try.prog 97 [.agg [.int .i64 k.many, .int .i64 k.sum, .int .i64 k.least.k, .int .i64 k.least.n, .str k.least.s, .int .i64 k.most.k, .int .i64 k.most.n, .str k.most.s], .int .i64 kind, .agg [.int .i64 v.k, .int .i64 v.n, .str v.s]] (.bool (decide (mustH k kind v))) := by
  refine qcall_body mixed Try.func97 _ (by unfold Try.f97; rfl) Try.ntmps97 Try.results97 (by decide) 0 (by simp) (by simp [pureL, pureA]) ?_
  obtain ⟨s1, s2⟩ := KnB_big hb
  have hv2 : v.s.size ≤ 9223372036854775807 := by omega
  by_cases ha : knOk k ∧ k.many ≠ 0 ∧ v.Ok ∧ v.k = k.least.k
  · obtain ⟨h1, h2, h3, h4⟩ := ha
    obtain ⟨_, e, _, _, o1, o2⟩ := asks_yes (kind := kind) h1 h2 h3 h4
    have n1 := ord_neg v k.least
    have z1 := @ord_zero k.least v
    have z2 := @ord_zero k.most v
    unfold mustC at e
    simp (maxSteps := 4000000) (disch := omega) only [go_sem, w64, AndB_of, IfB_of, IfB_no, pickE_of, pickE_no, ite_of, ite_no, tdivE, tmodE, takeAll]
    repeat' (first | (refine IfB.dec2 (fun h hd => ?_) (fun h hd => ?_) <;> (try (have h2 := h; unfold inR at h2)) <;> (try simp (maxSteps := 4000000) (disch := omega) only [go_sem, w64, AndB_of, IfB_of, IfB_no, pickE_of, pickE_no, ite_of, ite_no, tdivE, tmodE, takeAll, eqv k.least v, eqv k.most v, hd])) | (refine IfB.split (fun h => ?_) (fun h => ?_) <;> (try simp (maxSteps := 4000000) (disch := omega) only [go_sem, w64, AndB_of, IfB_of, IfB_no, pickE_of, pickE_no, ite_of, ite_no, tdivE, tmodE, takeAll, eqv k.least v, eqv k.most v, h])) | (refine DrawB.quiet (by kernel_rfl) ?_; simp (maxSteps := 4000000) (disch := omega) only [go_sem, w64, AndB_of, IfB_of, IfB_no, pickE_of, pickE_no, ite_of, ite_no, tdivE, tmodE, takeAll, eqv k.least v, eqv k.most v]) | (apply CallB.q (q_KnownOkS k hb); simp (maxSteps := 4000000) (disch := omega) only [go_sem, w64, AndB_of, IfB_of, IfB_no, pickE_of, pickE_no, ite_of, ite_no, tdivE, tmodE, takeAll, eqv k.least v, eqv k.most v]) | (apply CallB.q (q_ValueOkS v hv2); simp (maxSteps := 4000000) (disch := omega) only [go_sem, w64, AndB_of, IfB_of, IfB_no, pickE_of, pickE_no, ite_of, ite_no, tdivE, tmodE, takeAll, eqv k.least v, eqv k.most v]) | (apply CallB.q (q_ValueOrderS v k.least hv2 s1); simp (maxSteps := 4000000) (disch := omega) only [go_sem, w64, AndB_of, IfB_of, IfB_no, pickE_of, pickE_no, ite_of, ite_no, tdivE, tmodE, takeAll, eqv k.least v, eqv k.most v]) | (apply CallB.q (q_ValueOrderS k.most v s2 hv2); simp (maxSteps := 4000000) (disch := omega) only [go_sem, w64, AndB_of, IfB_of, IfB_no, pickE_of, pickE_no, ite_of, ite_no, tdivE, tmodE, takeAll, eqv k.least v, eqv k.most v]) | (apply DCallB.q0 (q_KnownOkS k hb); simp (maxSteps := 4000000) (disch := omega) only [go_sem, w64, AndB_of, IfB_of, IfB_no, pickE_of, pickE_no, ite_of, ite_no, tdivE, tmodE, takeAll, eqv k.least v, eqv k.most v]) | (apply DCallB.q0 (q_ValueOkS v hv2); simp (maxSteps := 4000000) (disch := omega) only [go_sem, w64, AndB_of, IfB_of, IfB_no, pickE_of, pickE_no, ite_of, ite_no, tdivE, tmodE, takeAll, eqv k.least v, eqv k.most v]) | (apply DCallB.q0 (q_ValueOrderS v k.least hv2 s1); simp (maxSteps := 4000000) (disch := omega) only [go_sem, w64, AndB_of, IfB_of, IfB_no, pickE_of, pickE_no, ite_of, ite_no, tdivE, tmodE, takeAll, eqv k.least v, eqv k.most v]) | (apply DCallB.q0 (q_ValueOrderS k.most v s2 hv2); simp (maxSteps := 4000000) (disch := omega) only [go_sem, w64, AndB_of, IfB_of, IfB_no, pickE_of, pickE_no, ite_of, ite_no, tdivE, tmodE, takeAll, eqv k.least v, eqv k.most v]))
    all_goals first
      | contradiction
      | (exfalso; omega)
      | (rw [AV.bool.injEq, Bool.eq_iff_iff]; (try simp only [decide_eq_true_iff]); rw [e]; omega)
      | (rw [AV.bool.injEq, Bool.eq_iff_iff]; (try simp only [decide_eq_true_iff]); rw [e]; simp; omega)
      | (rw [AV.bool.injEq, Bool.eq_iff_iff]; (try simp only [decide_eq_true_iff]); rw [e]; simp only [← z1, ← z2] at *; first | omega | (simp; done) | (simp; omega))
  · have e := (asks_no (kind := kind) ha).2
    simp (maxSteps := 4000000) (disch := omega) only [go_sem, w64, AndB_of, IfB_of, IfB_no, pickE_of, pickE_no, ite_of, ite_no, tdivE, tmodE, takeAll]
    repeat' (first | (refine IfB.dec2 (fun h hd => ?_) (fun h hd => ?_) <;> (try (have h2 := h; unfold inR at h2)) <;> (try simp (maxSteps := 4000000) (disch := omega) only [go_sem, w64, AndB_of, IfB_of, IfB_no, pickE_of, pickE_no, ite_of, ite_no, tdivE, tmodE, takeAll, hd])) | (refine IfB.split (fun h => ?_) (fun h => ?_) <;> (try simp (maxSteps := 4000000) (disch := omega) only [go_sem, w64, AndB_of, IfB_of, IfB_no, pickE_of, pickE_no, ite_of, ite_no, tdivE, tmodE, takeAll, h])) | (refine DrawB.quiet (by kernel_rfl) ?_; simp (maxSteps := 4000000) (disch := omega) only [go_sem, w64, AndB_of, IfB_of, IfB_no, pickE_of, pickE_no, ite_of, ite_no, tdivE, tmodE, takeAll]) | (apply CallB.q (q_KnownOkS k hb); simp (maxSteps := 4000000) (disch := omega) only [go_sem, w64, AndB_of, IfB_of, IfB_no, pickE_of, pickE_no, ite_of, ite_no, tdivE, tmodE, takeAll]) | (apply CallB.q (q_ValueOkS v hv2); simp (maxSteps := 4000000) (disch := omega) only [go_sem, w64, AndB_of, IfB_of, IfB_no, pickE_of, pickE_no, ite_of, ite_no, tdivE, tmodE, takeAll]) | (apply DCallB.q0 (q_KnownOkS k hb); simp (maxSteps := 4000000) (disch := omega) only [go_sem, w64, AndB_of, IfB_of, IfB_no, pickE_of, pickE_no, ite_of, ite_no, tdivE, tmodE, takeAll]) | (apply DCallB.q0 (q_ValueOkS v hv2); simp (maxSteps := 4000000) (disch := omega) only [go_sem, w64, AndB_of, IfB_of, IfB_no, pickE_of, pickE_no, ite_of, ite_no, tdivE, tmodE, takeAll]))
    all_goals first
      | (simp [e]; done)
      | (exfalso; apply ha; refine ⟨by assumption, by assumption, by assumption, by first | assumption | omega⟩)
end Go.TH
