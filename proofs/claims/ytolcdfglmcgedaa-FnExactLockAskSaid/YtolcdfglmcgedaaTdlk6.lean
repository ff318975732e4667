/- TH: locks, 6: the other side of an ask: the walks. Made by gen.py. -/
import Derived.Test.YtolcdfglmcgedaaTf3
import Derived.Test.YtolcdfglmcgedaaTdlk5
import Derived.Test.YtolcdfglmcgedaaTf4
namespace Go.TH
open Go Go.Proofs
set_option linter.unusedSimpArgs false
set_option linter.unusedVariables false
set_option maxHeartbeats 20000000
set_option maxRecDepth 100000
theorem o_LockAskS (l : GLk) (hh : l.held.length ≤ 1048575) (hq : l.queue.length ≤ 1048575) (a : GAk) : ACallD Try.prog 26 [.agg (GLk.c l), .agg (GAk.c a)] noH 0 (fun r H' n' => OwnR H' 0 n' (.tup [.agg (GLk.c (lockAsk l a).1), .bool (lockAsk l a).2]) r ∧ slOk 3 r = true) := by
  have eo := q_l17Ask a
  have e1 := q_LocksOkS l (by omega) (by omega)
  have e2 := q_l17Waits l (by omega) a.who
  have e3 := q_l17Held l.held (by omega) a.who a.key
  have e4 := q_l17Ready l.held l.queue (by omega) (by omega) a
  have e5 := o_l17Grant l.held (by omega) a
  have hbad : ¬ locksOk l ∨ ¬ a.ok → OwnR (upd (upd (upd noH 0 (.live 0 [asksA l.held, asksA l.queue])) 1 (.live 0 [.int .i64 a.who, .int .i64 a.key, .int .i64 a.kind])) 2 (.live 0 [.sl 0 true [], .sl 0 true []])) 0 3 (.tup [.agg (GLk.c (lockAsk l a).1), .bool (lockAsk l a).2]) (.tup [.agg [.sl 0 true [], .sl 0 true []], .bool false]) := fun h => by
    rw [lockAsk_bad h]
    exact OwnR.tup2mk (Lks.nil (lo := 0) (hi := 3)).own.1 rfl
  simp only [GLk.c, GAk.c] at e1 e2 e4 e5 eo
  refine wcall_body mixed Try.func26 _ (by unfold Try.f26; rfl) Try.ntmps26 Try.results26 (by decide) (by simp) ?_
  simp (maxSteps := 4000000) (disch := omega) only [go_sem, w64, AndB_of, IfB_of, IfB_no, pickE_of, pickE_no, ite_of, ite_no, tdivE, tmodE, takeAll, GLk.c, GAk.c]
  refine AW.step ?_
  simp (maxSteps := 4000000) (disch := omega) only [go_sem, w64, AndB_of, IfB_of, IfB_no, pickE_of, pickE_no, ite_of, ite_no, tdivE, tmodE, takeAll]
  refine AW.step ?_
  simp (maxSteps := 4000000) (disch := omega) only [go_sem, w64, AndB_of, IfB_of, IfB_no, pickE_of, pickE_no, ite_of, ite_no, tdivE, tmodE, takeAll]
  apply CallB.q e1
  simp (maxSteps := 4000000) (disch := omega) only [go_sem, w64, AndB_of, IfB_of, IfB_no, pickE_of, pickE_no, ite_of, ite_no, tdivE, tmodE, takeAll]
  refine IfB.dec (fun c1 => ?_) (fun c1 => ?_)
  case refine_2 =>
    simp (maxSteps := 4000000) (disch := omega) only [go_sem, w64, AndB_of, IfB_of, IfB_no, pickE_of, pickE_no, ite_of, ite_no, tdivE, tmodE, takeAll]
    exact ⟨hbad (.inl c1), rfl⟩
  simp (maxSteps := 4000000) (disch := omega) only [go_sem, w64, AndB_of, IfB_of, IfB_no, pickE_of, pickE_no, ite_of, ite_no, tdivE, tmodE, takeAll]
  apply CallB.q eo
  simp (maxSteps := 4000000) (disch := omega) only [go_sem, w64, AndB_of, IfB_of, IfB_no, pickE_of, pickE_no, ite_of, ite_no, tdivE, tmodE, takeAll]
  refine IfB.dec (fun c2 => ?_) (fun c2 => ?_)
  case refine_2 =>
    simp (maxSteps := 4000000) (disch := omega) only [go_sem, w64, AndB_of, IfB_of, IfB_no, pickE_of, pickE_no, ite_of, ite_no, tdivE, tmodE, takeAll]
    exact ⟨hbad (.inr c2), rfl⟩
  simp (maxSteps := 4000000) (disch := omega) only [go_sem, w64, AndB_of, IfB_of, IfB_no, pickE_of, pickE_no, ite_of, ite_no, tdivE, tmodE, takeAll]
  refine AW.cut (fun zs => (heapOf zs, nxOf zs)) (fun zz => [(2, none), (0, none), (0, none), (1, some (.ptr 3 1 0))]) (fun zz => zz.1) (fun zz => zz.2) (fun zz => zz.1 0 = .live 0 [asksA l.held, asksA l.queue] ∧ zz.1 1 = .live 0 [.int .i64 a.who, .int .i64 a.key, .int .i64 a.kind] ∧ zz.1 2 = .live 0 [.sl 0 true [], .sl 0 true []] ∧ 4 ≤ zz.2 ∧ ∃ xv yv, zz.1 3 = .live 1 [xv, yv] ∧ Lks zz.1 4 zz.2 l xv yv) ?zcut0 ?_
  case' zcut0 => simp (maxSteps := 4000000) (disch := omega) only [go_sem, w64, AndB_of, IfB_of, IfB_no, pickE_of, pickE_no, ite_of, ite_no, tdivE, tmodE, takeAll]
  · refine DrawB.float [3, 7, 8, 10] 10 9 [.sl 0 true [], .sl 0 true []] (inS 3 4 5) (by kernel_rfl) (by simp [inS]) ?_
    unfold asksA
    rcases Nat.eq_zero_or_pos l.held.length with d1 | d1 <;> rcases Nat.eq_zero_or_pos l.queue.length with d2 | d2
    · simp (maxSteps := 4000000) (disch := omega) only [go_sem, w64, AndB_of, IfB_of, IfB_no, pickE_of, pickE_no, ite_of, ite_no, tdivE, tmodE, takeAll]
      refine ⟨⟨_, _, rfl, ⟨[], [], .nil (List.eq_nil_of_length_eq_zero d1), .nil (List.eq_nil_of_length_eq_zero d2), by simp, by simp, by simp⟩⟩, ?_⟩
      ((repeat' apply And.intro) <;> first | (exact Weak.go (by (first | (simp [wkL]; done) | (simp [wkL]; omega))) (fun zi => by first | exact .inl rfl | exact .inr rfl | (simp only [upd]; repeat' split) <;> first | exact .inl rfl | exact .inr rfl | (exfalso; omega) | exact .inr (hd _ (by omega)) | (left; subst_vars; exact hH.symm) | (left; subst_vars; rfl) | (left; simp; done) | (left; simp; omega)) (by omega)) | omega | rfl | assumption | exact Flat.nil | exact ⟨_, rfl, rfl, by assumption⟩ | (simp; done) | (simp; omega))
    · simp (maxSteps := 4000000) (disch := omega) only [go_sem, w64, AndB_of, IfB_of, IfB_no, pickE_of, pickE_no, ite_of, ite_no, tdivE, tmodE, takeAll]
      refine ⟨⟨_, _, rfl, ⟨[], [4], .nil (List.eq_nil_of_length_eq_zero d1), .msl (by repeat (first | exact upd_same _ _ _ | rw [upd_ne _ _ (by omega)])), by simp, by simp, by simp⟩⟩, ?_⟩
      ((repeat' apply And.intro) <;> first | (exact Weak.go (by (first | (simp [wkL]; done) | (simp [wkL]; omega))) (fun zi => by first | exact .inl rfl | exact .inr rfl | (simp only [upd]; repeat' split) <;> first | exact .inl rfl | exact .inr rfl | (exfalso; omega) | exact .inr (hd _ (by omega)) | (left; subst_vars; exact hH.symm) | (left; subst_vars; rfl) | (left; simp; done) | (left; simp; omega)) (by omega)) | omega | rfl | assumption | exact Flat.nil | exact ⟨_, rfl, rfl, by assumption⟩ | (simp; done) | (simp; omega))
    · simp (maxSteps := 4000000) (disch := omega) only [go_sem, w64, AndB_of, IfB_of, IfB_no, pickE_of, pickE_no, ite_of, ite_no, tdivE, tmodE, takeAll]
      refine ⟨⟨_, _, rfl, ⟨[4], [], .msl (by repeat (first | exact upd_same _ _ _ | rw [upd_ne _ _ (by omega)])), .nil (List.eq_nil_of_length_eq_zero d2), by simp, by simp, by simp⟩⟩, ?_⟩
      ((repeat' apply And.intro) <;> first | (exact Weak.go (by (first | (simp [wkL]; done) | (simp [wkL]; omega))) (fun zi => by first | exact .inl rfl | exact .inr rfl | (simp only [upd]; repeat' split) <;> first | exact .inl rfl | exact .inr rfl | (exfalso; omega) | exact .inr (hd _ (by omega)) | (left; subst_vars; exact hH.symm) | (left; subst_vars; rfl) | (left; simp; done) | (left; simp; omega)) (by omega)) | omega | rfl | assumption | exact Flat.nil | exact ⟨_, rfl, rfl, by assumption⟩ | (simp; done) | (simp; omega))
    · simp (maxSteps := 4000000) (disch := omega) only [go_sem, w64, AndB_of, IfB_of, IfB_no, pickE_of, pickE_no, ite_of, ite_no, tdivE, tmodE, takeAll]
      refine ⟨⟨_, _, rfl, ⟨[4], [5], .msl (by repeat (first | exact upd_same _ _ _ | rw [upd_ne _ _ (by omega)])), .msl (by repeat (first | exact upd_same _ _ _ | rw [upd_ne _ _ (by omega)])), by simp, by simp, by simp⟩⟩, ?_⟩
      ((repeat' apply And.intro) <;> first | (exact Weak.go (by (first | (simp [wkL]; done) | (simp [wkL]; omega))) (fun zi => by first | exact .inl rfl | exact .inr rfl | (simp only [upd]; repeat' split) <;> first | exact .inl rfl | exact .inr rfl | (exfalso; omega) | exact .inr (hd _ (by omega)) | (left; subst_vars; exact hH.symm) | (left; subst_vars; rfl) | (left; simp; done) | (left; simp; omega)) (by omega)) | omega | rfl | assumption | exact Flat.nil | exact ⟨_, rfl, rfl, by assumption⟩ | (simp; done) | (simp; omega))
  intro zz zh
  obtain ⟨h, x⟩ := zz
  dsimp only at zh
  obtain ⟨h0, h1, h2, hx, xv, yv, h3, hL⟩ := zh
  simp (maxSteps := 4000000) (disch := omega) only [go_sem, w64, AndB_of, IfB_of, IfB_no, pickE_of, pickE_no, ite_of, ite_no, tdivE, tmodE, takeAll]
  have hcx := hL.cells.1
  have hcy := hL.cells.2
  refine AW.of ?_
  simp (maxSteps := 4000000) (disch := omega) only [go_sem, w64, AndB_of, IfB_of, IfB_no, pickE_of, pickE_no, ite_of, ite_no, tdivE, tmodE, takeAll, h0, h1, h2, h3]
  apply CallB.q e2
  simp (maxSteps := 4000000) (disch := omega) only [go_sem, w64, AndB_of, IfB_of, IfB_no, pickE_of, pickE_no, ite_of, ite_no, tdivE, tmodE, takeAll]
  refine IfB.dec (fun c3 => ?_) (fun c3 => ?_)
  case refine_1 =>
    simp (maxSteps := 4000000) (disch := omega) only [go_sem, w64, AndB_of, IfB_of, IfB_no, pickE_of, pickE_no, ite_of, ite_no, tdivE, tmodE, takeAll, h2, h3]
    exact ((hL.congr (h' := upd h 2 (.live 0 [xv, yv])) fun i g1 g2 => upd_ne _ _ (by omega)).mono (by omega) (by omega)).ret (lockAsk_1 c1 c2 (idxF_any.1 c3))
  simp (maxSteps := 4000000) (disch := omega) only [go_sem, w64, AndB_of, IfB_of, IfB_no, pickE_of, pickE_no, ite_of, ite_no, tdivE, tmodE, takeAll, h0, h1]
  refine DrawB.quiet (by kernel_rfl) ?_
  simp (maxSteps := 4000000) (disch := omega) only [go_sem, w64, AndB_of, IfB_of, IfB_no, pickE_of, pickE_no, ite_of, ite_no, tdivE, tmodE, takeAll, h0, h1]
  refine DCallB.q0 e3 ?_
  simp (maxSteps := 4000000) (disch := omega) only [go_sem, w64, AndB_of, IfB_of, IfB_no, pickE_of, pickE_no, ite_of, ite_no, tdivE, tmodE, takeAll, h0, h1]
  refine IfB.dec (fun c4 => ?_) (fun c4 => ?_)
  case refine_1 =>
    simp (maxSteps := 4000000) (disch := omega) only [go_sem, w64, AndB_of, IfB_of, IfB_no, pickE_of, pickE_no, ite_of, ite_no, tdivE, tmodE, takeAll, h2, h3]
    exact ((hL.congr (h' := upd h 2 (.live 0 [xv, yv])) fun i g1 g2 => upd_ne _ _ (by omega)).mono (by omega) (by omega)).ret (lockAsk_2 c1 c2 (fun e => c3 (idxF_any.2 e)) ((heldK_any c1 c2).1 c4))
  simp (maxSteps := 4000000) (disch := omega) only [go_sem, w64, AndB_of, IfB_of, IfB_no, pickE_of, pickE_no, ite_of, ite_no, tdivE, tmodE, takeAll, h0, h1]
  apply CallB.q e4
  simp (maxSteps := 4000000) (disch := omega) only [go_sem, w64, AndB_of, IfB_of, IfB_no, pickE_of, pickE_no, ite_of, ite_no, tdivE, tmodE, takeAll]
  refine IfB.dec (fun c5 => ?_) (fun c5 => ?_)
  case refine_1 =>
    simp (maxSteps := 4000000) (disch := omega) only [go_sem, w64, AndB_of, IfB_of, IfB_no, pickE_of, pickE_no, ite_of, ite_no, tdivE, tmodE, takeAll, h1, h3]
    refine CallB.freshS (Pict.cons hL.pict1 (Pict.cons (Pict.pure rfl) Pict.nil)) e5 fun r H2 n2 hO hs hn hH => ?_
    have g2 : H2 2 = .live 0 [.sl 0 true [], .sl 0 true []] := by rw [hH 2 (by omega)]; exact h2
    have g3 : H2 3 = .live 1 [xv, yv] := by rw [hH 3 (by omega)]; exact h3
    have hcr : cellsA H2 r = some [r] := by obtain ⟨S, hO', _, _⟩ := hO; exact hO'.cellsA
    simp (maxSteps := 4000000) (disch := omega) only [go_sem, w64, AndB_of, IfB_of, IfB_no, pickE_of, pickE_no, ite_of, ite_no, tdivE, tmodE, takeAll, g2, g3, hcr]
    have k1 : Lks (upd (upd H2 3 (.live 1 [r, yv])) 2 (.live 0 [r, yv])) 4 n2 ⟨grantL l.held a, l.queue⟩ r yv := hL.set1 (fun i q1 q2 => by rw [upd_ne _ _ (by omega), upd_ne _ _ (by omega), hH i q2]) (hO.congr fun i q1 q2 => by rw [upd_ne _ _ (by omega), upd_ne _ _ (by omega)]) hs (by omega) hn
    exact (k1.mono (by omega) (by omega)).ret (lockAsk_3 c1 c2 (fun e => c3 (idxF_any.2 e)) (fun e => c4 ((heldK_any c1 c2).2 e)) c5)
  have e : lockAsk l a = (⟨l.held, l.queue ++ [a]⟩, false) := lockAsk_4 c1 c2 (fun e => c3 (idxF_any.2 e)) (fun e => c4 ((heldK_any c1 c2).2 e)) c5
  have ef : flat GAk.c (l.queue ++ [a]) = flat GAk.c l.queue ++ [.int .i64 a.who, .int .i64 a.key, .int .i64 a.kind] := by rw [flat_append]; simp [flat, GAk.c]
  have el : (l.queue ++ [a]).length = l.queue.length + 1 := by simp
  have hL0 := hL
  obtain ⟨S1, S2, k1, k2, k3, k4, k5⟩ := hL0.ex
  cases k2 with
  | @msl i v ei =>
    have ki := k4 i (by simp)
    have hx2 : ∀ j w, xv = .msl j w 3 0 l.held.length → j ≠ i := by
      intro j w e2
      subst e2
      cases k1
      exact fun e3 => k5 j (by simp) (by simp [e3])
    simp (maxSteps := 4000000) (disch := omega) only [go_sem, w64, AndB_of, IfB_of, IfB_no, pickE_of, pickE_no, ite_of, ite_no, tdivE, tmodE, takeAll, h1, h2, h3, ei]
    rw [← ef, ← el]
    exact ((hL.set2 (i := i) (v := v + 1) (q := l.queue ++ [a]) (hi' := x + 1) (fun j q1 q2 q3 => by rw [upd_ne _ _ (by omega), upd_ne _ _ (by omega), upd_ne _ _ q3, upd_ne _ _ (by omega)]) hx2 (by rw [upd_ne _ _ (by omega), upd_ne _ _ (by omega), upd_same]) (by omega) (by omega)).mono (by omega) (by omega)).ret e
  | nil eq =>
    have hx2 : ∀ j w, xv = .msl j w 3 0 l.held.length → j ≠ x + 1 := by
      intro j w e2
      subst e2
      cases k1
      have := k3 j (by simp)
      omega
    simp (maxSteps := 4000000) (disch := omega) only [go_sem, w64, AndB_of, IfB_of, IfB_no, pickE_of, pickE_no, ite_of, ite_no, tdivE, tmodE, takeAll, h1, h2, h3]
    have ef2 : flat GAk.c (l.queue ++ [a]) = [.int .i64 a.who, .int .i64 a.key, .int .i64 a.kind] := by rw [ef, eq]; rfl
    have el2 : (l.queue ++ [a]).length = 1 := by rw [el, eq]; rfl
    rw [show AV.msl (x + 1) 0 3 0 1 = AV.msl (x + 1) 0 3 0 (l.queue ++ [a]).length by rw [el2]]
    exact ((hL.set2 (i := x + 1) (v := 0) (q := l.queue ++ [a]) (hi' := x + 2) (fun j q1 q2 q3 => by rw [upd_ne _ _ (by omega), upd_ne _ _ (by omega), upd_ne _ _ (by omega), upd_ne _ _ (by omega)]) hx2 (by rw [upd_ne _ _ (by omega), upd_ne _ _ (by omega), upd_same, ef2]) (by omega) (by omega)).mono (by omega) (by omega)).ret e
end Go.TH
