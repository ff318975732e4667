/- TH: locks, 4: the walks. Made by gen.py. -/
import Derived.Test.YtolcdfglmcgedaaTf3
import Derived.Test.YtolcdfglmcgedaaTdlk3
import Derived.Test.YtolcdfglmcgedaaTf4
namespace Go.TH
open Go Go.Proofs
set_option linter.unusedSimpArgs false
set_option linter.unusedVariables false
set_option maxHeartbeats 20000000
set_option maxRecDepth 100000
theorem q_IndexFuncAkB (l : List GAk) (f : FuncId) (bnd : List AV) (hcap : pureL bnd = true) (p : GAk → Bool) (hl : l.length ≤ 1048576) (hf : ∀ v ∈ l, QCall Try.prog f (bnd ++ [.agg [.int .i64 v.who, .int .i64 v.key, .int .i64 v.kind]]) (.bool (p v))) :
    QCall Try.prog 124 [asksA l, .bfn f bnd] (.int .i64 (idxF p l)) := by
  refine qcall_body mixed Try.func124 _ (by unfold Try.f124; rfl) Try.ntmps124 Try.results124 (by decide) 0 (by simp) (by simp [pureL, pureA, hcap]) ?_
  unfold asksA
  simp (maxSteps := 4000000) (disch := omega) only [go_sem, w64, AndB_of, IfB_of, IfB_no, pickE_of, pickE_no, ite_of, ite_no, tdivE, tmodE, takeAll]
  refine LoopB.auto (fun zs => (intOf (slotOf zs 8)).toNat) (fun zz => [(0, none), (0, none), (5, none), (0, some (.int .i64 (zz : Int)))]) (fun zz => noH) (fun zz => 5 * zz) (fun zz => l.length - zz) (fun zz => zz ≤ l.length ∧ ∀ j (h : j < l.length), j < zz → p l[j] = false) (by (first | simp (maxSteps := 4000000) (disch := omega) only [go_sem, w64, AndB_of, IfB_of, IfB_no, pickE_of, pickE_no, ite_of, ite_no, tdivE, tmodE, takeAll, hH] | simp (maxSteps := 4000000) (disch := omega) only [go_sem, w64, AndB_of, IfB_of, IfB_no, pickE_of, pickE_no, ite_of, ite_no, tdivE, tmodE, takeAll]); ((repeat' apply And.intro) <;> first | (exact Weak.go (by (first | (simp [wkL]; done) | (simp [wkL]; omega))) (fun zi => by first | exact .inl rfl | exact .inr rfl | (simp only [upd]; repeat' split) <;> first | exact .inl rfl | exact .inr rfl | (exfalso; omega) | exact .inr (hd _ (by omega)) | (left; subst_vars; exact hH.symm) | (left; subst_vars; rfl) | (left; simp; done) | (left; simp; omega)) (by omega)) | omega | rfl | assumption | exact Flat.nil | exact ⟨_, rfl, rfl, by assumption⟩ | (simp; done) | (simp; omega))) ?_
  intro k zh
  obtain ⟨hk, hall⟩ := zh
  simp (maxSteps := 4000000) (disch := omega) only [go_sem, w64, AndB_of, IfB_of, IfB_no, pickE_of, pickE_no, ite_of, ite_no, tdivE, tmodE, takeAll]
  refine IfB.dec (fun h1 => ?_) (fun h1 => ?_)
  · have h1' : k < l.length := by omega
    simp (maxSteps := 4000000) (disch := omega) only [go_sem, w64, AndB_of, IfB_of, IfB_no, pickE_of, pickE_no, ite_of, ite_no, tdivE, tmodE, takeAll]
    apply CallB.q (hf l[k] (List.getElem_mem _))
    simp (maxSteps := 4000000) (disch := omega) only [go_sem, w64, AndB_of, IfB_of, IfB_no, pickE_of, pickE_no, ite_of, ite_no, tdivE, tmodE, takeAll]
    refine IfB.split (fun h => ?_) (fun h => ?_)
    · simp (maxSteps := 4000000) (disch := omega) only [go_sem, w64, AndB_of, IfB_of, IfB_no, pickE_of, pickE_no, ite_of, ite_no, tdivE, tmodE, takeAll, idxF_at h1' h hall]
    · simp (maxSteps := 4000000) (disch := omega) only [go_sem, w64, AndB_of, IfB_of, IfB_no, pickE_of, pickE_no, ite_of, ite_no, tdivE, tmodE, takeAll]
      ((repeat' apply And.intro) <;> first | exact fun j hj hji => by by_cases e : j = k; exact (by subst e; exact h); exact hall j hj (by omega) | (exact Weak.go (by (first | (simp [wkL]; done) | (simp [wkL]; omega))) (fun zi => by first | exact .inl rfl | exact .inr rfl | (simp only [upd]; repeat' split) <;> first | exact fun j hj hji => by by_cases e : j = k; exact (by subst e; exact h); exact hall j hj (by omega) | exact .inl rfl | exact .inr rfl | (exfalso; omega) | exact .inr (hd _ (by omega)) | (left; subst_vars; exact hH.symm) | (left; subst_vars; rfl) | (left; simp; done) | (left; simp; omega)) (by omega)) | omega | rfl | assumption | exact Flat.nil | exact ⟨_, rfl, rfl, by assumption⟩ | (simp; done) | (simp; omega))
  · simp (maxSteps := 4000000) (disch := omega) only [go_sem, w64, AndB_of, IfB_of, IfB_no, pickE_of, pickE_no, ite_of, ite_no, tdivE, tmodE, takeAll, idxF_none (fun j hj => hall j hj (by omega))]
theorem q_ContainsFuncAkB (l : List GAk) (f : FuncId) (bnd : List AV) (hcap : pureL bnd = true) (p : GAk → Bool) (hl : l.length ≤ 1048576) (hf : ∀ v ∈ l, QCall Try.prog f (bnd ++ [.agg [.int .i64 v.who, .int .i64 v.key, .int .i64 v.kind]]) (.bool (p v))) :
    QCall Try.prog 63 [asksA l, .bfn f bnd] (.bool (l.any p)) := by
  refine qcall_body mixed Try.func63 _ (by unfold Try.f63; rfl) Try.ntmps63 Try.results63 (by decide) 0 (by simp) (by simp [pureL, pureA, hcap]) ?_
  simp (maxSteps := 4000000) (disch := omega) only [go_sem, w64, AndB_of, IfB_of, IfB_no, pickE_of, pickE_no, ite_of, ite_no, tdivE, tmodE, takeAll]
  apply CallB.q (q_IndexFuncAkB l f bnd hcap p hl hf)
  simp (maxSteps := 4000000) (disch := omega) only [go_sem, w64, AndB_of, IfB_of, IfB_no, pickE_of, pickE_no, ite_of, ite_no, tdivE, tmodE, takeAll]
  have := @idxF_ge _ p l
  rw [AV.bool.injEq, Bool.eq_iff_iff]; (try simp only [decide_eq_true_iff])
  simp [this]
theorem q_free (l : GLk) (hh : l.held.length ≤ 1048576) (a : GAk) (q : List GAk) (hq : q.length ≤ 1048576) : QCall Try.prog 69 [.agg (GLk.c l), .agg (GAk.c a), asksA q] (.bool (decide (freeP l.held q a))) := by
  have e : decide (freeP l.held q a) = (!(l.held.any fun b => decide (agn a b)) && !(q.any fun b => decide (b.key = a.key ∧ b.who ≠ a.who))) := by
    rw [Bool.eq_iff_iff, decide_eq_true_iff]
    simp [freeP, agn_comm (a := a)]
  rw [e]
  have e1 := q_ContainsFuncAkB l.held 65 [.agg (GAk.c a)] (by simp [pureL, pureA]) (fun b => decide (agn a b)) hh (fun v _ => q_against a v)
  have e2 := q_ContainsFuncAk q 125 [.ro (GAk.c a)] (by simp [pureL, pureA]) (fun b => decide (b.key = a.key ∧ b.who ≠ a.who)) hq (fun v _ => q_free1 v a)
  generalize l.held.any (fun b => decide (agn a b)) = x1 at e1 ⊢
  generalize q.any (fun b => decide (b.key = a.key ∧ b.who ≠ a.who)) = x2 at e2 ⊢
  refine qcall_body mixed Try.func69 _ (by unfold Try.f69; rfl) Try.ntmps69 Try.results69 (by decide) 0 (by simp) (by simp [pureL, pureA]) ?_
  simp (maxSteps := 4000000) (disch := omega) only [go_sem, w64, AndB_of, IfB_of, IfB_no, pickE_of, pickE_no, ite_of, ite_no, tdivE, tmodE, takeAll, GLk.c]
  unfold GAk.c at e1 e2 ⊢
  simp (maxSteps := 4000000) (disch := omega) only [go_sem, w64, AndB_of, IfB_of, IfB_no, pickE_of, pickE_no, ite_of, ite_no, tdivE, tmodE, takeAll]
  apply CallB.q e1
  simp (maxSteps := 4000000) (disch := omega) only [go_sem, w64, AndB_of, IfB_of, IfB_no, pickE_of, pickE_no, ite_of, ite_no, tdivE, tmodE, takeAll]
  cases x1
  · simp (maxSteps := 4000000) (disch := omega) only [go_sem, w64, AndB_of, IfB_of, IfB_no, pickE_of, pickE_no, ite_of, ite_no, tdivE, tmodE, takeAll]
    apply CallB.borrow 1 (r := .bool x2) _ rfl
    rotate_left
    · simp (maxSteps := 4000000) (disch := omega) only [go_sem, w64, AndB_of, IfB_of, IfB_no, pickE_of, pickE_no, ite_of, ite_no, tdivE, tmodE, takeAll]
      exact e2
    · simp (maxSteps := 4000000) (disch := omega) only [go_sem, w64, AndB_of, IfB_of, IfB_no, pickE_of, pickE_no, ite_of, ite_no, tdivE, tmodE, takeAll]
  · simp (maxSteps := 4000000) (disch := omega) only [go_sem, w64, AndB_of, IfB_of, IfB_no, pickE_of, pickE_no, ite_of, ite_no, tdivE, tmodE, takeAll]
theorem q_waits (l : GLk) (hq : l.queue.length ≤ 1048576) (w : Int) : QCall Try.prog 85 [.agg (GLk.c l), .int .i64 w] (.bool (l.queue.any fun b => decide (b.who = w))) := by
  have e2 := q_ContainsFuncAk l.queue 135 [.ro [.int .i64 w]] (by simp [pureL, pureA]) (fun b => decide (b.who = w)) hq (fun v _ => q_waits1 v w)
  refine qcall_body mixed Try.func85 _ (by unfold Try.f85; rfl) Try.ntmps85 Try.results85 (by decide) 0 (by simp) (by simp [pureL, pureA]) ?_
  simp (maxSteps := 4000000) (disch := omega) only [go_sem, w64, AndB_of, IfB_of, IfB_no, pickE_of, pickE_no, ite_of, ite_no, tdivE, tmodE, takeAll, GLk.c]
  apply CallB.borrow 1 (r := .bool (l.queue.any fun b => decide (b.who = w))) _ rfl
  rotate_left
  · simp (maxSteps := 4000000) (disch := omega) only [go_sem, w64, AndB_of, IfB_of, IfB_no, pickE_of, pickE_no, ite_of, ite_no, tdivE, tmodE, takeAll]
    exact e2
  · simp (maxSteps := 4000000) (disch := omega) only [go_sem, w64, AndB_of, IfB_of, IfB_no, pickE_of, pickE_no, ite_of, ite_no, tdivE, tmodE, takeAll]
theorem q_LocksOkI (l : GLk) (hh : l.held.length ≤ 1048576) (hq : l.queue.length ≤ 1048576) : QCall Try.prog 20 [.agg (GLk.c l)] (.bool (decide (locksOk l))) := by
  refine qcall_body mixed Try.func20 _ (by unfold Try.f20; rfl) Try.ntmps20 Try.results20 (by decide) 0 (by simp) (by simp [pureL, pureA]) ?_
  simp (maxSteps := 4000000) (disch := omega) only [go_sem, w64, AndB_of, IfB_of, IfB_no, pickE_of, pickE_no, ite_of, ite_no, tdivE, tmodE, takeAll, GLk.c]
  refine LoopB.auto (fun zs => (nxOf zs, (intOf (slotOf zs 10)).toNat)) (fun zz => [(1, none), (6, none), (0, none), (0, some (.int .i64 (zz.2 : Int)))]) (fun zz => upd noH 0 (.live 0 [asksA l.held, asksA l.queue])) (fun zz => zz.1) (fun zz => l.held.length - zz.2) (fun zz => zz.2 ≤ l.held.length ∧ 0 < zz.1 ∧ heldOk l.held zz.2) (by (first | simp (maxSteps := 4000000) (disch := omega) only [go_sem, w64, AndB_of, IfB_of, IfB_no, pickE_of, pickE_no, ite_of, ite_no, tdivE, tmodE, takeAll, hH] | simp (maxSteps := 4000000) (disch := omega) only [go_sem, w64, AndB_of, IfB_of, IfB_no, pickE_of, pickE_no, ite_of, ite_no, tdivE, tmodE, takeAll]); ((repeat' apply And.intro) <;> first | exact fun i h hi => by omega | (exact Weak.go (by (first | (simp [wkL]; done) | (simp [wkL]; omega))) (fun zi => by first | exact .inl rfl | exact .inr rfl | (simp only [upd]; repeat' split) <;> first | exact fun i h hi => by omega | exact .inl rfl | exact .inr rfl | (exfalso; omega) | exact .inr (hd _ (by omega)) | (left; subst_vars; exact hH.symm) | (left; subst_vars; rfl) | (left; simp; done) | (left; simp; omega)) (by omega)) | omega | rfl | assumption | exact Flat.nil | exact ⟨_, rfl, rfl, by assumption⟩ | (simp; done) | (simp; omega))) ?_
  intro zz zh
  obtain ⟨x, k⟩ := zz
  dsimp only at zh
  obtain ⟨hk, hx, hS⟩ := zh
  simp (maxSteps := 4000000) (disch := omega) only [go_sem, w64, AndB_of, IfB_of, IfB_no, pickE_of, pickE_no, ite_of, ite_no, tdivE, tmodE, takeAll]
  refine IfB.dec (fun h1 => ?_) (fun h1 => ?_)
  · have h1' : k < l.held.length := by omega
    have e1 := q_ContainsFuncAk (l.held.take k) 64 [.ro (GAk.c l.held[k])] (by simp [pureL, pureA]) (fun b => decide (sameK b l.held[k] ∨ agn b l.held[k])) (by simp; omega) (fun v _ => q_LocksOk1 v _)
    have ft : (flat GAk.c l.held).take (k * 3) = flat GAk.c (l.held.take k) := flat_take GAk.len l.held k
    have eo := q_askOk l.held[k]
    unfold asksA at e1 ⊢
    simp only [GAk.c] at e1 eo
    rw [len_take hk] at e1
    simp (maxSteps := 4000000) (disch := omega) only [go_sem, w64, AndB_of, IfB_of, IfB_no, pickE_of, pickE_no, ite_of, ite_no, tdivE, tmodE, takeAll]
    apply CallB.q eo
    simp (maxSteps := 4000000) (disch := omega) only [go_sem, w64, AndB_of, IfB_of, IfB_no, pickE_of, pickE_no, ite_of, ite_no, tdivE, tmodE, takeAll]
    refine IfB.dec (fun c1 => ?_) (fun c1 => ?_)
    · simp (maxSteps := 4000000) (disch := omega) only [go_sem, w64, AndB_of, IfB_of, IfB_no, pickE_of, pickE_no, ite_of, ite_no, tdivE, tmodE, takeAll, ft]
      apply CallB.borrow 1 (r := .bool ((l.held.take k).any fun b => decide (sameK b l.held[k] ∨ agn b l.held[k]))) _ rfl
      rotate_left
      · simp (maxSteps := 4000000) (disch := omega) only [go_sem, w64, AndB_of, IfB_of, IfB_no, pickE_of, pickE_no, ite_of, ite_no, tdivE, tmodE, takeAll]
        exact e1
      simp (maxSteps := 4000000) (disch := omega) only [go_sem, w64, AndB_of, IfB_of, IfB_no, pickE_of, pickE_no, ite_of, ite_no, tdivE, tmodE, takeAll]
      cases c2 : (l.held.take k).any fun b => decide (sameK b l.held[k] ∨ agn b l.held[k])
      · simp (maxSteps := 4000000) (disch := omega) only [go_sem, w64, AndB_of, IfB_of, IfB_no, pickE_of, pickE_no, ite_of, ite_no, tdivE, tmodE, takeAll]
        have hS2 := hS.step h1' ⟨c1, fun b hb => by
          have := List.any_eq_false.1 c2 b hb
          simp only [decide_eq_true_eq, not_or] at this
          exact this⟩
        ((repeat' apply And.intro) <;> first | exact hS2 | (exact Weak.go (by (first | (simp [wkL]; done) | (simp [wkL]; omega))) (fun zi => by first | exact .inl rfl | exact .inr rfl | (simp only [upd]; repeat' split) <;> first | exact hS2 | exact .inl rfl | exact .inr rfl | (exfalso; omega) | exact .inr (hd _ (by omega)) | (left; subst_vars; exact hH.symm) | (left; subst_vars; rfl) | (left; simp; done) | (left; simp; omega)) (by omega)) | omega | rfl | assumption | exact Flat.nil | exact ⟨_, rfl, rfl, by assumption⟩ | (simp; done) | (simp; omega))
      · simp (maxSteps := 4000000) (disch := omega) only [go_sem, w64, AndB_of, IfB_of, IfB_no, pickE_of, pickE_no, ite_of, ite_no, tdivE, tmodE, takeAll, heldOk.no h1' (fun e => by
          obtain ⟨b, hb, c3⟩ := List.any_eq_true.1 c2
          have := of_decide_eq_true c3
          rcases this with c | c
          · exact (e.2 b hb).1 c
          · exact (e.2 b hb).2 c)]
    · simp (maxSteps := 4000000) (disch := omega) only [go_sem, w64, AndB_of, IfB_of, IfB_no, pickE_of, pickE_no, ite_of, ite_no, tdivE, tmodE, takeAll, heldOk.no h1' (fun e => c1 e.1)]
  have hS2 : heldOk l.held l.held.length := by
    have : k = l.held.length := by omega
    rw [this] at hS; exact hS
  simp (maxSteps := 4000000) (disch := omega) only [go_sem, w64, AndB_of, IfB_of, IfB_no, pickE_of, pickE_no, ite_of, ite_no, tdivE, tmodE, takeAll]
  refine LoopB.auto (fun zs => (nxOf zs, (intOf (slotOf zs 30)).toNat)) (fun zz => [(1, none), (26, none), (0, none), (0, some (.int .i64 (zz.2 : Int)))]) (fun zz => upd noH 0 (.live 0 [asksA l.held, asksA l.queue])) (fun zz => zz.1) (fun zz => l.queue.length - zz.2) (fun zz => zz.2 ≤ l.queue.length ∧ 0 < zz.1 ∧ queOk l.held l.queue zz.2) (by (first | simp (maxSteps := 4000000) (disch := omega) only [go_sem, w64, AndB_of, IfB_of, IfB_no, pickE_of, pickE_no, ite_of, ite_no, tdivE, tmodE, takeAll, hH] | simp (maxSteps := 4000000) (disch := omega) only [go_sem, w64, AndB_of, IfB_of, IfB_no, pickE_of, pickE_no, ite_of, ite_no, tdivE, tmodE, takeAll]); ((repeat' apply And.intro) <;> first | exact fun i h hi => by omega | (exact Weak.go (by (first | (simp [wkL]; done) | (simp [wkL]; omega))) (fun zi => by first | exact .inl rfl | exact .inr rfl | (simp only [upd]; repeat' split) <;> first | exact fun i h hi => by omega | exact .inl rfl | exact .inr rfl | (exfalso; omega) | exact .inr (hd _ (by omega)) | (left; subst_vars; exact hH.symm) | (left; subst_vars; rfl) | (left; simp; done) | (left; simp; omega)) (by omega)) | omega | rfl | assumption | exact Flat.nil | exact ⟨_, rfl, rfl, by assumption⟩ | (simp; done) | (simp; omega))) ?_
  intro zz zh
  obtain ⟨x, k⟩ := zz
  dsimp only at zh
  obtain ⟨hk, hx, hQ⟩ := zh
  simp (maxSteps := 4000000) (disch := omega) only [go_sem, w64, AndB_of, IfB_of, IfB_no, pickE_of, pickE_no, ite_of, ite_no, tdivE, tmodE, takeAll]
  refine IfB.dec (fun h2 => ?_) (fun h2 => ?_)
  · have h2' : k < l.queue.length := by omega
    have e1 := q_ContainsFuncAk (l.queue.take k) 66 [.ro (GAk.c l.queue[k])] (by simp [pureL, pureA]) (fun b => decide (b.who = l.queue[k].who)) (by simp; omega) (fun v _ => q_LocksOk2 v _)
    have e2 := q_ContainsFuncAk l.held 67 [.ro (GAk.c l.queue[k])] (by simp [pureL, pureA]) (fun b => decide (covers b l.queue[k])) hh (fun v _ => q_LocksOk3 v _)
    have e3 := q_free l hh l.queue[k] (l.queue.take k) (by simp; omega)
    have ft : (flat GAk.c l.queue).take (k * 3) = flat GAk.c (l.queue.take k) := flat_take GAk.len l.queue k
    have eo := q_askOk l.queue[k]
    unfold GLk.c at e3
    unfold asksA at e1 e2 e3 ⊢
    simp only [GAk.c] at e1 e2 e3 eo
    rw [len_take hk] at e1 e3
    simp (maxSteps := 4000000) (disch := omega) only [go_sem, w64, AndB_of, IfB_of, IfB_no, pickE_of, pickE_no, ite_of, ite_no, tdivE, tmodE, takeAll]
    refine DrawB.quiet (by kernel_rfl) ?_
    simp (maxSteps := 4000000) (disch := omega) only [go_sem, w64, AndB_of, IfB_of, IfB_no, pickE_of, pickE_no, ite_of, ite_no, tdivE, tmodE, takeAll]
    refine DCallB.q0 eo ?_
    simp (maxSteps := 4000000) (disch := omega) only [go_sem, w64, AndB_of, IfB_of, IfB_no, pickE_of, pickE_no, ite_of, ite_no, tdivE, tmodE, takeAll]
    refine IfB.dec (fun c1 => ?_) (fun c1 => ?_)
    case refine_2 => simp (maxSteps := 4000000) (disch := omega) only [go_sem, w64, AndB_of, IfB_of, IfB_no, pickE_of, pickE_no, ite_of, ite_no, tdivE, tmodE, takeAll, queOk.no h2' (fun e => c1 e.1)]
    simp (maxSteps := 4000000) (disch := omega) only [go_sem, w64, AndB_of, IfB_of, IfB_no, pickE_of, pickE_no, ite_of, ite_no, tdivE, tmodE, takeAll, ft]
    apply DCallB.borrow 1 (r := .bool ((l.queue.take k).any fun b => decide (b.who = l.queue[k].who))) _ rfl
    rotate_left
    · simp (maxSteps := 4000000) (disch := omega) only [go_sem, w64, AndB_of, IfB_of, IfB_no, pickE_of, pickE_no, ite_of, ite_no, tdivE, tmodE, takeAll]
      exact e1
    simp (maxSteps := 4000000) (disch := omega) only [go_sem, w64, AndB_of, IfB_of, IfB_no, pickE_of, pickE_no, ite_of, ite_no, tdivE, tmodE, takeAll]
    cases c2 : (l.queue.take k).any fun b => decide (b.who = l.queue[k].who)
    case true =>
      simp (maxSteps := 4000000) (disch := omega) only [go_sem, w64, AndB_of, IfB_of, IfB_no, pickE_of, pickE_no, ite_of, ite_no, tdivE, tmodE, takeAll, queOk.no h2' (fun e => by
          obtain ⟨b, hb, c3⟩ := List.any_eq_true.1 c2
          exact e.2.1 b hb (of_decide_eq_true c3))]
    simp (maxSteps := 4000000) (disch := omega) only [go_sem, w64, AndB_of, IfB_of, IfB_no, pickE_of, pickE_no, ite_of, ite_no, tdivE, tmodE, takeAll]
    apply DCallB.borrow 1 (r := .bool (l.held.any fun b => decide (covers b l.queue[k]))) _ rfl
    rotate_left
    · simp (maxSteps := 4000000) (disch := omega) only [go_sem, w64, AndB_of, IfB_of, IfB_no, pickE_of, pickE_no, ite_of, ite_no, tdivE, tmodE, takeAll]
      exact e2
    simp (maxSteps := 4000000) (disch := omega) only [go_sem, w64, AndB_of, IfB_of, IfB_no, pickE_of, pickE_no, ite_of, ite_no, tdivE, tmodE, takeAll]
    cases c3 : l.held.any fun b => decide (covers b l.queue[k])
    case true =>
      simp (maxSteps := 4000000) (disch := omega) only [go_sem, w64, AndB_of, IfB_of, IfB_no, pickE_of, pickE_no, ite_of, ite_no, tdivE, tmodE, takeAll, queOk.no h2' (fun e => by
          obtain ⟨b, hb, c4⟩ := List.any_eq_true.1 c3
          exact e.2.2.1 b hb (of_decide_eq_true c4))]
    simp (maxSteps := 4000000) (disch := omega) only [go_sem, w64, AndB_of, IfB_of, IfB_no, pickE_of, pickE_no, ite_of, ite_no, tdivE, tmodE, takeAll, ft]
    refine DCallB.q0 e3 ?_
    simp (maxSteps := 4000000) (disch := omega) only [go_sem, w64, AndB_of, IfB_of, IfB_no, pickE_of, pickE_no, ite_of, ite_no, tdivE, tmodE, takeAll]
    refine IfB.dec (fun c4 => ?_) (fun c4 => ?_)
    case refine_1 => simp (maxSteps := 4000000) (disch := omega) only [go_sem, w64, AndB_of, IfB_of, IfB_no, pickE_of, pickE_no, ite_of, ite_no, tdivE, tmodE, takeAll, queOk.no h2' (fun e => e.2.2.2 c4)]
    simp (maxSteps := 4000000) (disch := omega) only [go_sem, w64, AndB_of, IfB_of, IfB_no, pickE_of, pickE_no, ite_of, ite_no, tdivE, tmodE, takeAll]
    have hQ3 := hQ.step h2' ⟨c1, fun b hb => by
        have := List.any_eq_false.1 c2 b hb
        simpa using this, fun b hb => by
        have := List.any_eq_false.1 c3 b hb
        simpa using this, c4⟩
    ((repeat' apply And.intro) <;> first | exact hQ3 | (exact Weak.go (by (first | (simp [wkL]; done) | (simp [wkL]; omega))) (fun zi => by first | exact .inl rfl | exact .inr rfl | (simp only [upd]; repeat' split) <;> first | exact hQ3 | exact .inl rfl | exact .inr rfl | (exfalso; omega) | exact .inr (hd _ (by omega)) | (left; subst_vars; exact hH.symm) | (left; subst_vars; rfl) | (left; simp; done) | (left; simp; omega)) (by omega)) | omega | rfl | assumption | exact Flat.nil | exact ⟨_, rfl, rfl, by assumption⟩ | (simp; done) | (simp; omega))
  · have hQ2 : queOk l.held l.queue l.queue.length := by
      have e : k = l.queue.length := by omega
      rw [e] at hQ; exact hQ
    simp (maxSteps := 4000000) (disch := omega) only [go_sem, w64, AndB_of, IfB_of, IfB_no, pickE_of, pickE_no, ite_of, ite_no, tdivE, tmodE, takeAll, decide_eq_true (show locksOk l from ⟨hS2, hQ2⟩)]
end Go.TH
