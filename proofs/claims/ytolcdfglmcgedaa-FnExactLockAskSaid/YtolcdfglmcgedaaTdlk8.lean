/- TH: locks, 8: one is done: the walks. Made by gen.py. -/
import Derived.Test.YtolcdfglmcgedaaTf3
import Derived.Test.YtolcdfglmcgedaaTdlk7
namespace Go.TH
open Go Go.Proofs
set_option linter.unusedSimpArgs false
set_option linter.unusedVariables false
set_option maxHeartbeats 20000000
set_option maxRecDepth 100000
def noW (w : Int) (a : GAk) : Bool := decide (a.who ≠ w)
theorem noW_step {l : List GAk} {w : Int} {k : Nat} (hk : k < l.length) (h : l[k].who ≠ w) : (l.take (k + 1)).filter (noW w) = (l.take k).filter (noW w) ++ [l[k]] := by
  rw [List.take_add_one, List.getElem?_eq_getElem hk, List.filter_append]
  simp [noW, h]
theorem noW_skip {l : List GAk} {w : Int} {k : Nat} (hk : k < l.length) (h : l[k].who = w) : (l.take (k + 1)).filter (noW w) = (l.take k).filter (noW w) := by
  rw [List.take_add_one, List.getElem?_eq_getElem hk, List.filter_append]
  simp [noW, h]
theorem o_LockFreeS (l : GLk) (hn : l.held.length + l.queue.length ≤ 1000000) (w : Int) : ACallD Try.prog 44 [.agg (GLk.c l), .int .i64 w] noH 0 (fun r H' n' => OwnR H' 0 n' (.agg (GLk.c (lockFree l w))) r ∧ slOk 3 r = true) := by
  have e1 := q_LocksOkS l (by omega) (by omega)
  simp only [GLk.c] at e1
  refine dcall_body mixed Try.func44 _ (by unfold Try.f44; rfl) Try.ntmps44 Try.results44 (by decide) (by simp) ?_
  simp (maxSteps := 4000000) (disch := omega) only [go_sem, w64, AndB_of, IfB_of, IfB_no, pickE_of, pickE_no, ite_of, ite_no, tdivE, tmodE, takeAll, GLk.c]
  apply CallB.q e1
  simp (maxSteps := 4000000) (disch := omega) only [go_sem, w64, AndB_of, IfB_of, IfB_no, pickE_of, pickE_no, ite_of, ite_no, tdivE, tmodE, takeAll]
  refine IfB.dec (fun c1 => ?_) (fun c1 => ?_)
  case refine_2 =>
    simp (maxSteps := 4000000) (disch := omega) only [go_sem, w64, AndB_of, IfB_of, IfB_no, pickE_of, pickE_no, ite_of, ite_no, tdivE, tmodE, takeAll]
    rw [lockFree_bad (.inl c1)]
    exact (Lks.nil (lo := 0) (hi := 2)).own
  simp (maxSteps := 4000000) (disch := omega) only [go_sem, w64, AndB_of, IfB_of, IfB_no, pickE_of, pickE_no, ite_of, ite_no, tdivE, tmodE, takeAll]
  apply CallB.q (q_l1In w 0 3)
  simp (maxSteps := 4000000) (disch := omega) only [go_sem, w64, AndB_of, IfB_of, IfB_no, pickE_of, pickE_no, ite_of, ite_no, tdivE, tmodE, takeAll]
  refine IfB.dec (fun c2 => ?_) (fun c2 => ?_)
  case refine_2 =>
    simp (maxSteps := 4000000) (disch := omega) only [go_sem, w64, AndB_of, IfB_of, IfB_no, pickE_of, pickE_no, ite_of, ite_no, tdivE, tmodE, takeAll]
    rw [lockFree_bad (.inr c2)]
    exact (Lks.nil (lo := 0) (hi := 2)).own
  simp (maxSteps := 4000000) (disch := omega) only [go_sem, w64, AndB_of, IfB_of, IfB_no, pickE_of, pickE_no, ite_of, ite_no, tdivE, tmodE, takeAll]
  refine LoopB.weak (Weak.nilH 2 0 3 (upd_same _ _ _) rfl) ?_
  simp (maxSteps := 4000000) (disch := omega) only [go_sem, w64, AndB_of, IfB_of, IfB_no, pickE_of, pickE_no, ite_of, ite_no, tdivE, tmodE, takeAll]
  refine LoopB.weak (Weak.nilH 2 1 3 (by rw [upd_ne _ _ (by omega), upd_same]) rfl) ?_
  simp (maxSteps := 4000000) (disch := omega) only [go_sem, w64, AndB_of, IfB_of, IfB_no, pickE_of, pickE_no, ite_of, ite_no, tdivE, tmodE, takeAll, List.set_cons_succ, List.set_cons_zero]
  refine LoopB.auto (fun zs => (nxOf zs, (intOf (slotOf zs 6)).toNat, verOf (blkOf zs (3)), cellsOf (blkOf zs (3)))) (fun zz => [(1, none), (0, none), (1, none), (0, none), (0, some (.int .i64 (zz.2.1 : Int)))]) (fun zz => upd (upd (upd (upd (upd noH 0 (.live 0 [asksA l.held, asksA l.queue])) 1 (.live 0 [.sl 0 true [], .sl 0 true []])) 2 (.live 0 [.msl 3 zz.2.2.1 3 0 ((l.held.take zz.2.1).filter (noW w)).length, .msl 4 0 3 0 0])) 3 (.live zz.2.2.1 zz.2.2.2)) 4 (.live 0 [])) (fun zz => zz.1) (fun zz => l.held.length - zz.2.1) (fun zz => zz.2.1 ≤ l.held.length ∧ 4 < zz.1 ∧ zz.2.2.2 = flat GAk.c ((l.held.take zz.2.1).filter (noW w))) (by (first | simp (maxSteps := 4000000) (disch := omega) only [go_sem, w64, AndB_of, IfB_of, IfB_no, pickE_of, pickE_no, ite_of, ite_no, tdivE, tmodE, takeAll, hH] | simp (maxSteps := 4000000) (disch := omega) only [go_sem, w64, AndB_of, IfB_of, IfB_no, pickE_of, pickE_no, ite_of, ite_no, tdivE, tmodE, takeAll]); ((repeat' apply And.intro) <;> first | exact rfl | (exact Weak.go (by (first | (simp [wkL]; done) | (simp [wkL]; omega))) (fun zi => by first | exact .inl rfl | exact .inr rfl | (simp only [upd]; repeat' split) <;> first | exact rfl | exact .inl rfl | exact .inr rfl | (exfalso; omega) | exact .inr (hd _ (by omega)) | (left; subst_vars; exact hH.symm) | (left; subst_vars; rfl) | (left; simp; done) | (left; simp; omega)) (by omega)) | omega | rfl | assumption | exact Flat.nil | exact ⟨_, rfl, rfl, by assumption⟩ | (simp; done) | (simp; omega))) ?_
  intro zz zh
  obtain ⟨x, k, v, cells⟩ := zz
  dsimp only at zh
  obtain ⟨hk, hx, hc⟩ := zh
  simp (maxSteps := 4000000) (disch := omega) only [go_sem, w64, AndB_of, IfB_of, IfB_no, pickE_of, pickE_no, ite_of, ite_no, tdivE, tmodE, takeAll]
  have hlen : cells.length = ((l.held.take k).filter (noW w)).length * 3 := by rw [hc, flat_len GAk.len]
  have hle : ((l.held.take k).filter (noW w)).length ≤ k := by have := List.length_filter_le (noW w) (l.held.take k); rw [len_take hk] at this; exact this
  refine IfB.dec (fun h1 => ?_) (fun h1 => ?_)
  · have h1' : k < l.held.length := by omega
    unfold asksA
    simp (maxSteps := 4000000) (disch := omega) only [go_sem, w64, AndB_of, IfB_of, IfB_no, pickE_of, pickE_no, ite_of, ite_no, tdivE, tmodE, takeAll]
    refine IfB.dec (fun h2 => ?_) (fun h2 => ?_)
    · have hst := noW_skip (l := l.held) h1' h2
      simp (maxSteps := 4000000) (disch := omega) only [go_sem, w64, AndB_of, IfB_of, IfB_no, pickE_of, pickE_no, ite_of, ite_no, tdivE, tmodE, takeAll]
      rw [hst]
      ((repeat' apply And.intro) <;> first | exact hc | (exact Weak.go (by (first | (simp [wkL]; done) | (simp [wkL]; omega))) (fun zi => by first | exact .inl rfl | exact .inr rfl | (simp only [upd]; repeat' split) <;> first | exact hc | exact .inl rfl | exact .inr rfl | (exfalso; omega) | exact .inr (hd _ (by omega)) | (left; subst_vars; exact hH.symm) | (left; subst_vars; rfl) | (left; simp; done) | (left; simp; omega)) (by omega)) | omega | rfl | assumption | exact Flat.nil | exact ⟨_, rfl, rfl, by assumption⟩ | (simp; done) | (simp; omega))
    · have hst := noW_step (l := l.held) h1' h2
      have hfl : flat GAk.c ((l.held.take (k + 1)).filter (noW w)) = cells ++ [.int .i64 l.held[k].who, .int .i64 l.held[k].key, .int .i64 l.held[k].kind] := by rw [hst, flat_append, hc]; simp [flat, GAk.c]
      have hsl : ((l.held.take (k + 1)).filter (noW w)).length = ((l.held.take k).filter (noW w)).length + 1 := by rw [hst]; simp
      simp (maxSteps := 4000000) (disch := omega) only [go_sem, w64, AndB_of, IfB_of, IfB_no, pickE_of, pickE_no, ite_of, ite_no, tdivE, tmodE, takeAll]
      refine DrawB.intro [7, 8, 10] [10] (inS (x) (3) (3)) (by kernel_rfl) ?_
      simp (maxSteps := 4000000) (disch := omega) only [go_sem, w64, AndB_of, IfB_of, IfB_no, pickE_of, pickE_no, ite_of, ite_no, tdivE, tmodE, takeAll]
      rw [← hsl]
      ((repeat' apply And.intro) <;> first | exact hfl.symm | (exact Weak.go (by (first | (simp [wkL]; done) | (simp [wkL]; omega))) (fun zi => by first | exact .inl rfl | exact .inr rfl | (simp only [upd]; repeat' split) <;> first | exact hfl.symm | exact .inl rfl | exact .inr rfl | (exfalso; omega) | exact .inr (hd _ (by omega)) | (left; subst_vars; exact hH.symm) | (left; subst_vars; rfl) | (left; simp; done) | (left; simp; omega)) (by omega)) | omega | rfl | assumption | exact Flat.nil | exact ⟨_, rfl, rfl, by assumption⟩ | (simp; done) | (simp; omega))
  obtain rfl : k = l.held.length := by omega
  rw [List.take_length] at hc hle hlen ⊢
  simp (maxSteps := 4000000) (disch := omega) only [go_sem, w64, AndB_of, IfB_of, IfB_no, pickE_of, pickE_no, ite_of, ite_no, tdivE, tmodE, takeAll]
  refine LoopB.auto (fun zs => (nxOf zs, (intOf (slotOf zs 7)).toNat, verOf (blkOf zs (4)), cellsOf (blkOf zs (4)))) (fun zz => [(1, none), (0, none), (1, none), (0, none), (1, some (.int .i64 (zz.2.1 : Int)))]) (fun zz => upd (upd (upd (upd (upd noH 0 (.live 0 [asksA l.held, asksA l.queue])) 1 (.live 0 [.sl 0 true [], .sl 0 true []])) 2 (.live 0 [.msl 3 v 3 0 (l.held.filter (noW w)).length, .msl 4 zz.2.2.1 3 0 ((l.queue.take zz.2.1).filter (noW w)).length])) 3 (.live v cells)) 4 (.live zz.2.2.1 zz.2.2.2)) (fun zz => zz.1) (fun zz => l.queue.length - zz.2.1) (fun zz => zz.2.1 ≤ l.queue.length ∧ 4 < zz.1 ∧ zz.2.2.2 = flat GAk.c ((l.queue.take zz.2.1).filter (noW w))) (by (first | simp (maxSteps := 4000000) (disch := omega) only [go_sem, w64, AndB_of, IfB_of, IfB_no, pickE_of, pickE_no, ite_of, ite_no, tdivE, tmodE, takeAll, hH] | simp (maxSteps := 4000000) (disch := omega) only [go_sem, w64, AndB_of, IfB_of, IfB_no, pickE_of, pickE_no, ite_of, ite_no, tdivE, tmodE, takeAll]); ((repeat' apply And.intro) <;> first | exact rfl | (exact Weak.go (by (first | (simp [wkL]; done) | (simp [wkL]; omega))) (fun zi => by first | exact .inl rfl | exact .inr rfl | (simp only [upd]; repeat' split) <;> first | exact rfl | exact .inl rfl | exact .inr rfl | (exfalso; omega) | exact .inr (hd _ (by omega)) | (left; subst_vars; exact hH.symm) | (left; subst_vars; rfl) | (left; simp; done) | (left; simp; omega)) (by omega)) | omega | rfl | assumption | exact Flat.nil | exact ⟨_, rfl, rfl, by assumption⟩ | (simp; done) | (simp; omega))) ?_
  intro zz zh
  obtain ⟨x, k, v2, cells2⟩ := zz
  dsimp only at zh
  obtain ⟨hk2, hx2, hc2⟩ := zh
  simp (maxSteps := 4000000) (disch := omega) only [go_sem, w64, AndB_of, IfB_of, IfB_no, pickE_of, pickE_no, ite_of, ite_no, tdivE, tmodE, takeAll]
  have hlen2 : cells2.length = ((l.queue.take k).filter (noW w)).length * 3 := by rw [hc2, flat_len GAk.len]
  have hle2 : ((l.queue.take k).filter (noW w)).length ≤ k := by have := List.length_filter_le (noW w) (l.queue.take k); rw [len_take hk2] at this; exact this
  refine IfB.dec (fun h3 => ?_) (fun h3 => ?_)
  · have h3' : k < l.queue.length := by omega
    unfold asksA
    simp (maxSteps := 4000000) (disch := omega) only [go_sem, w64, AndB_of, IfB_of, IfB_no, pickE_of, pickE_no, ite_of, ite_no, tdivE, tmodE, takeAll]
    refine IfB.dec (fun h2 => ?_) (fun h2 => ?_)
    · have hst := noW_skip (l := l.queue) h3' h2
      simp (maxSteps := 4000000) (disch := omega) only [go_sem, w64, AndB_of, IfB_of, IfB_no, pickE_of, pickE_no, ite_of, ite_no, tdivE, tmodE, takeAll]
      rw [hst]
      ((repeat' apply And.intro) <;> first | exact hc2 | (exact Weak.go (by (first | (simp [wkL]; done) | (simp [wkL]; omega))) (fun zi => by first | exact .inl rfl | exact .inr rfl | (simp only [upd]; repeat' split) <;> first | exact hc2 | exact .inl rfl | exact .inr rfl | (exfalso; omega) | exact .inr (hd _ (by omega)) | (left; subst_vars; exact hH.symm) | (left; subst_vars; rfl) | (left; simp; done) | (left; simp; omega)) (by omega)) | omega | rfl | assumption | exact Flat.nil | exact ⟨_, rfl, rfl, by assumption⟩ | (simp; done) | (simp; omega))
    · have hst := noW_step (l := l.queue) h3' h2
      have hfl : flat GAk.c ((l.queue.take (k + 1)).filter (noW w)) = cells2 ++ [.int .i64 l.queue[k].who, .int .i64 l.queue[k].key, .int .i64 l.queue[k].kind] := by rw [hst, flat_append, hc2]; simp [flat, GAk.c]
      have hsl : ((l.queue.take (k + 1)).filter (noW w)).length = ((l.queue.take k).filter (noW w)).length + 1 := by rw [hst]; simp
      simp (maxSteps := 4000000) (disch := omega) only [go_sem, w64, AndB_of, IfB_of, IfB_no, pickE_of, pickE_no, ite_of, ite_no, tdivE, tmodE, takeAll]
      refine DrawB.intro [7, 8, 10] [10] (inS (x) (4) (4)) (by kernel_rfl) ?_
      simp (maxSteps := 4000000) (disch := omega) only [go_sem, w64, AndB_of, IfB_of, IfB_no, pickE_of, pickE_no, ite_of, ite_no, tdivE, tmodE, takeAll]
      rw [← hsl]
      ((repeat' apply And.intro) <;> first | exact hfl.symm | (exact Weak.go (by (first | (simp [wkL]; done) | (simp [wkL]; omega))) (fun zi => by first | exact .inl rfl | exact .inr rfl | (simp only [upd]; repeat' split) <;> first | exact hfl.symm | exact .inl rfl | exact .inr rfl | (exfalso; omega) | exact .inr (hd _ (by omega)) | (left; subst_vars; exact hH.symm) | (left; subst_vars; rfl) | (left; simp; done) | (left; simp; omega)) (by omega)) | omega | rfl | assumption | exact Flat.nil | exact ⟨_, rfl, rfl, by assumption⟩ | (simp; done) | (simp; omega))
  obtain rfl : k = l.queue.length := by omega
  rw [List.take_length] at hc2 hle2 hlen2 ⊢
  subst hc hc2
  simp (maxSteps := 4000000) (disch := omega) only [go_sem, w64, AndB_of, IfB_of, IfB_no, pickE_of, pickE_no, ite_of, ite_no, tdivE, tmodE, takeAll]
  have hL : ∀ z : AV, z = z → ∀ h : AH, h 3 = .live v (flat GAk.c (l.held.filter (noW w))) → h 4 = .live v2 (flat GAk.c (l.queue.filter (noW w))) → Lks h 3 5 ⟨l.held.filter (noW w), l.queue.filter (noW w)⟩ (.msl 3 v 3 0 (l.held.filter (noW w)).length) (.msl 4 v2 3 0 (l.queue.filter (noW w)).length) := fun _ _ h a b =>
    ⟨[3], [4], .msl a, .msl b, by simp, by simp, by simp⟩
  have e5 := o_Settle ⟨l.held.filter (noW w), l.queue.filter (noW w)⟩ (by have := List.length_filter_le (noW w) l.queue; simp only; omega)
  have ef : lockFree l w = settle (l.held.filter (noW w)) (l.queue.filter (noW w)) 0 := by
    unfold lockFree
    rw [if_neg (by intro e; rcases e with e | e; exact e c1; exact e c2)]
    rfl
  refine CallB.freshS (hL .nilp rfl _ (by rw [upd_ne _ _ (by omega), upd_same]) (upd_same ..)).own.1.pict e5 fun r H2 n2 hO hs hn2 hH2 => ?_
  obtain ⟨xr, yr, rfl, hLr⟩ := Lks.of hO hs
  have g1 : H2 1 = .live 0 [.sl 0 true [], .sl 0 true []] := by rw [hH2 1 (by omega)]; rfl
  simp (maxSteps := 4000000) (disch := omega) only [go_sem, w64, AndB_of, IfB_of, IfB_no, pickE_of, pickE_no, ite_of, ite_no, tdivE, tmodE, takeAll, g1]
  rw [ef]
  exact ((hLr.congr (h' := upd H2 1 (.live 0 [xr, yr])) fun j q1 q2 => upd_ne _ _ (by omega)).mono (by omega) (by omega)).own
end Go.TH
