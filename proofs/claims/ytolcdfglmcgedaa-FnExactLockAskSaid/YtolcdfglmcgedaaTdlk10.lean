/- TH: locks, 10: an ask of the program: the walks. Made by gen.py. -/
import Derived.Test.YtolcdfglmcgedaaTf3
import Derived.Test.YtolcdfglmcgedaaTdlk9
namespace Go.TH
open Go Go.Proofs
set_option linter.unusedSimpArgs false
set_option linter.unusedVariables false
set_option maxHeartbeats 20000000
set_option maxRecDepth 100000
theorem o_LockAskI (l : GLk) (hh : l.held.length ≤ 1048575) (hq : l.queue.length ≤ 1048575) (a : GAk) : ACallD Try.prog 29 [.agg (GLk.c l), .agg (GAk.c a)] noH 0 (fun r H' n' => OwnR H' 0 n' (.tup [.agg (GLk.c (lockAsk l a).1), .bool (lockAsk l a).2]) r ∧ slOk 3 r = true) := by
  have eo := q_askOk a
  have e1 := q_LocksOkI l (by omega) (by omega)
  have e2 := q_waits l (by omega) a.who
  have e3 := q_ContainsFuncAk l.held 86 [.ro (GAk.c a)] (by simp [pureL, pureA]) (fun b => decide (covers b a)) (by omega) (fun v _ => q_LockAsk1 v a)
  have e4 := q_free l (by omega) a l.queue (by omega)
  have e5 := o_copyI l (by omega) (by omega)
  simp only [GLk.c, GAk.c] at e1 e2 e3 e4 e5 eo
  refine dcall_body mixed Try.func29 _ (by unfold Try.f29; rfl) Try.ntmps29 Try.results29 (by decide) (by simp) ?_
  simp (maxSteps := 4000000) (disch := omega) only [go_sem, w64, AndB_of, IfB_of, IfB_no, pickE_of, pickE_no, ite_of, ite_no, tdivE, tmodE, takeAll, GLk.c, GAk.c]
  apply CallB.q e1
  simp (maxSteps := 4000000) (disch := omega) only [go_sem, w64, AndB_of, IfB_of, IfB_no, pickE_of, pickE_no, ite_of, ite_no, tdivE, tmodE, takeAll]
  refine IfB.dec (fun c1 => ?_) (fun c1 => ?_)
  case refine_2 =>
    simp (maxSteps := 4000000) (disch := omega) only [go_sem, w64, AndB_of, IfB_of, IfB_no, pickE_of, pickE_no, ite_of, ite_no, tdivE, tmodE, takeAll]
    exact (Lks.nil (lo := 0) (hi := 3)).ret (lockAsk_bad (.inl c1))
  simp (maxSteps := 4000000) (disch := omega) only [go_sem, w64, AndB_of, IfB_of, IfB_no, pickE_of, pickE_no, ite_of, ite_no, tdivE, tmodE, takeAll]
  refine CallB.freshS (Pict.cons (Pict.pure (by simp [pureL, pureA])) Pict.nil) e5 fun r H2 n2 hO hs hn2 hH2 => ?_
  obtain ⟨xv, yv, rfl, hL2⟩ := Lks.of hO hs
  simp (maxSteps := 4000000) (disch := omega) only [go_sem, w64, AndB_of, IfB_of, IfB_no, pickE_of, pickE_no, ite_of, ite_no, tdivE, tmodE, takeAll]
  obtain ⟨h, eh⟩ : ∃ h : AH, h = upd H2 n2 (.live 0 [xv, yv]) := ⟨_, rfl⟩
  rw [← eh]
  have h0 : h 0 = .live 0 [asksA l.held, asksA l.queue] := by rw [eh, upd_ne _ _ (by omega), hH2 0 (by omega)]; rfl
  have h1 : h 1 = .live 0 [.int .i64 a.who, .int .i64 a.key, .int .i64 a.kind] := by rw [eh, upd_ne _ _ (by omega), hH2 1 (by omega)]; rfl
  have h2 : h 2 = .live 0 [.sl 0 true [], .sl 0 true []] := by rw [eh, upd_ne _ _ (by omega), hH2 2 (by omega)]; rfl
  have h3 : h n2 = .live 0 [xv, yv] := by rw [eh, upd_same]
  have hL : Lks h 3 n2 l xv yv := hL2.congr fun i g1 g2 => by rw [eh, upd_ne _ _ (by omega)]
  have hcx := hL.cells.1
  have hcy := hL.cells.2
  have g1 : H2 1 = .live 0 [.int .i64 a.who, .int .i64 a.key, .int .i64 a.kind] := by rw [hH2 1 (by omega)]; rfl
  clear hH2 hL2 hO hs
  simp (maxSteps := 4000000) (disch := omega) only [go_sem, w64, AndB_of, IfB_of, IfB_no, pickE_of, pickE_no, ite_of, ite_no, tdivE, tmodE, takeAll, g1, h0, h1, h2, h3]
  apply CallB.q eo
  simp (maxSteps := 4000000) (disch := omega) only [go_sem, w64, AndB_of, IfB_of, IfB_no, pickE_of, pickE_no, ite_of, ite_no, tdivE, tmodE, takeAll]
  refine IfB.dec (fun c2 => ?_) (fun c2 => ?_)
  case refine_2 =>
    simp (maxSteps := 4000000) (disch := omega) only [go_sem, w64, AndB_of, IfB_of, IfB_no, pickE_of, pickE_no, ite_of, ite_no, tdivE, tmodE, takeAll, h2]
    exact (Lks.nil (lo := 0) (hi := n2 + 1)).ret (lockAsk_bad (.inr c2))
  have hLr : Lks (upd h 2 (.live 0 [xv, yv])) 0 (n2 + 1) l xv yv := (hL.congr (h' := upd h 2 (.live 0 [xv, yv])) fun i g1 g2 => upd_ne _ _ (by omega)).mono (by omega) (by omega)
  simp (maxSteps := 4000000) (disch := omega) only [go_sem, w64, AndB_of, IfB_of, IfB_no, pickE_of, pickE_no, ite_of, ite_no, tdivE, tmodE, takeAll, h0, h1]
  apply CallB.q e2
  simp (maxSteps := 4000000) (disch := omega) only [go_sem, w64, AndB_of, IfB_of, IfB_no, pickE_of, pickE_no, ite_of, ite_no, tdivE, tmodE, takeAll]
  cases c3 : l.queue.any fun b => decide (b.who = a.who)
  case true =>
    simp (maxSteps := 4000000) (disch := omega) only [go_sem, w64, AndB_of, IfB_of, IfB_no, pickE_of, pickE_no, ite_of, ite_no, tdivE, tmodE, takeAll, h2, h3]
    exact hLr.ret (lockAsk_1 c1 c2 c3)
  have c3' : ¬ (l.queue.any fun b => decide (b.who = a.who)) = true := by rw [c3]; exact Bool.noConfusion
  simp (maxSteps := 4000000) (disch := omega) only [go_sem, w64, AndB_of, IfB_of, IfB_no, pickE_of, pickE_no, ite_of, ite_no, tdivE, tmodE, takeAll, h0]
  apply CallB.borrow 1 (r := .bool (l.held.any fun b => decide (covers b a))) _ rfl
  rotate_left
  · simp (maxSteps := 4000000) (disch := omega) only [go_sem, w64, AndB_of, IfB_of, IfB_no, pickE_of, pickE_no, ite_of, ite_no, tdivE, tmodE, takeAll, h1]
    exact e3
  simp (maxSteps := 4000000) (disch := omega) only [go_sem, w64, AndB_of, IfB_of, IfB_no, pickE_of, pickE_no, ite_of, ite_no, tdivE, tmodE, takeAll]
  cases c4 : l.held.any fun b => decide (covers b a)
  case true =>
    simp (maxSteps := 4000000) (disch := omega) only [go_sem, w64, AndB_of, IfB_of, IfB_no, pickE_of, pickE_no, ite_of, ite_no, tdivE, tmodE, takeAll, h2, h3]
    exact hLr.ret (lockAsk_2 c1 c2 c3' c4)
  have c4' : ¬ (l.held.any fun b => decide (covers b a)) = true := by rw [c4]; exact Bool.noConfusion
  simp (maxSteps := 4000000) (disch := omega) only [go_sem, w64, AndB_of, IfB_of, IfB_no, pickE_of, pickE_no, ite_of, ite_no, tdivE, tmodE, takeAll, h0, h1]
  apply CallB.q e4
  simp (maxSteps := 4000000) (disch := omega) only [go_sem, w64, AndB_of, IfB_of, IfB_no, pickE_of, pickE_no, ite_of, ite_no, tdivE, tmodE, takeAll]
  refine IfB.dec (fun c5 => ?_) (fun c5 => ?_)
  case refine_1 =>
    simp (maxSteps := 4000000) (disch := omega) only [go_sem, w64, AndB_of, IfB_of, IfB_no, pickE_of, pickE_no, ite_of, ite_no, tdivE, tmodE, takeAll, h1]
    refine CallB.law (d_grant (ex := true) (P := fun i => 3 ≤ i ∧ i < n2) l xv yv a hL.toR (fun i hi => by omega) h3 (by omega) c1.1.uniq (by omega)) ?_
    rintro _ H4 n4 ⟨x', g3, hL4, hfr, hn4⟩
    have g2 : H4 2 = .live 0 [.sl 0 true [], .sl 0 true []] := by rw [hfr 2 (by omega) (by omega) (by omega)]; exact h2
    simp (maxSteps := 4000000) (disch := omega) only [go_sem, w64, AndB_of, IfB_of, IfB_no, pickE_of, pickE_no, ite_of, ite_no, tdivE, tmodE, takeAll, g2, g3]
    exact ((hL4.congr (h' := upd H4 2 (.live 0 [x', yv])) fun i g => upd_ne _ _ (by omega)).toL (lo := 0) (hi := n4) (fun i g => by omega)).ret (lockAsk_3 c1 c2 c3' c4' c5)
  have e : lockAsk l a = (⟨l.held, l.queue ++ [a]⟩, false) := lockAsk_4 c1 c2 c3' c4' c5
  have ef : flat GAk.c (l.queue ++ [a]) = flat GAk.c l.queue ++ [.int .i64 a.who, .int .i64 a.key, .int .i64 a.kind] := by rw [flat_append]; simp [flat, GAk.c]
  have el : (l.queue ++ [a]).length = l.queue.length + 1 := by simp
  have hL0 := hL
  obtain ⟨S1, S2, k1, k2, k3, k4, k5⟩ := hL0.ex
  cases k2 with
  | @msl i v ei =>
    have ki := k4 i (by simp)
    have hx2 : ∀ j w, xv = .msl j w 3 0 l.held.length → j ≠ i := by
      intro j w e2
      subst e2
      cases k1
      exact fun e3 => k5 j (by simp) (by simp [e3])
    simp (maxSteps := 4000000) (disch := omega) only [go_sem, w64, AndB_of, IfB_of, IfB_no, pickE_of, pickE_no, ite_of, ite_no, tdivE, tmodE, takeAll, h1, h3, ei]
    apply CallB.of (c_ClipAk (upd_same _ _ _))
    simp (maxSteps := 4000000) (disch := omega) only [go_sem, w64, AndB_of, IfB_of, IfB_no, pickE_of, pickE_no, ite_of, ite_no, tdivE, tmodE, takeAll, h2, h3]
    rw [← ef, ← el]
    exact ((hL.set2 (i := i) (v := v + 1) (q := l.queue ++ [a]) (hi' := n2 + 2) (fun j q1 q2 q3 => by rw [upd_ne _ _ (by omega), upd_ne _ _ (by omega), upd_ne _ _ q3, upd_ne _ _ (by omega)]) hx2 (by rw [upd_ne _ _ (by omega), upd_ne _ _ (by omega), upd_same]) (by omega) (by omega)).mono (by omega) (by omega)).ret e
  | nil eq =>
    have hx2 : ∀ j w, xv = .msl j w 3 0 l.held.length → j ≠ n2 + 2 := by
      intro j w e2
      subst e2
      cases k1
      have := k3 j (by simp)
      omega
    simp (maxSteps := 4000000) (disch := omega) only [go_sem, w64, AndB_of, IfB_of, IfB_no, pickE_of, pickE_no, ite_of, ite_no, tdivE, tmodE, takeAll, h1, h3]
    apply CallB.of (c_ClipAk (upd_same _ _ _))
    simp (maxSteps := 4000000) (disch := omega) only [go_sem, w64, AndB_of, IfB_of, IfB_no, pickE_of, pickE_no, ite_of, ite_no, tdivE, tmodE, takeAll, h2, h3]
    have ef2 : flat GAk.c (l.queue ++ [a]) = [.int .i64 a.who, .int .i64 a.key, .int .i64 a.kind] := by rw [ef, eq]; rfl
    have el2 : (l.queue ++ [a]).length = 1 := by rw [el, eq]; rfl
    rw [show AV.msl (n2 + 1 + 1) 0 3 0 1 = AV.msl (n2 + 1 + 1) 0 3 0 (l.queue ++ [a]).length by rw [el2]]
    exact ((hL.set2 (i := n2 + 1 + 1) (v := 0) (q := l.queue ++ [a]) (hi' := n2 + 3) (fun j q1 q2 q3 => by rw [upd_ne _ _ (by omega), upd_ne _ _ (by omega), upd_ne _ _ (by omega), upd_ne _ _ (by omega)]) hx2 (by rw [upd_ne _ _ (by omega), upd_ne _ _ (by omega), upd_same, ef2]) (by omega) (by omega)).mono (by omega) (by omega)).ret e
end Go.TH
