/- TH: what is one's own: locks, marks; locks of any size. Made by gen.py. -/
import Derived.Test.YtolcdfglmcgedaaTf3
import Derived.Test.YtolcdfglmcgedaaTdlk11
import Derived.Test.YtolcdfglmcgedaaTdow
import Derived.Test.YtolcdfglmcgedaaTdbo2
import Derived.Test.YtolcdfglmcgedaaTf4
namespace Go.TH
open Go Go.Proofs
set_option linter.unusedSimpArgs false
set_option linter.unusedVariables false
set_option maxHeartbeats 20000000
set_option maxRecDepth 100000
theorem o_LockFreeI2 (l : GLk) (hh : l.held.length ≤ 1048576) (hq : l.queue.length ≤ 1048576) (w : Int) : ACallD Try.prog 45 [.agg [asksA l.held, asksA l.queue], .int .i64 w] noH 0 (fun r H' n' => OwnR H' 0 n' (.agg [asksA (lockFree l w).held, asksA (lockFree l w).queue]) r) := by
  by_cases c : locksOk l
  · exact (o_LockFreeI l (by have := locks_len c; omega) w).mono fun _ _ _ h => h.1
  have e1 := q_LocksOkI l hh hq
  rw [decide_eq_false c] at e1
  simp only [GLk.c] at e1
  refine dcall_body mixed Try.func45 _ (by unfold Try.f45; rfl) Try.ntmps45 Try.results45 (by decide) (by simp) ?_
  simp (maxSteps := 4000000) (disch := omega) only [go_sem, w64, AndB_of, IfB_of, IfB_no, pickE_of, pickE_no, ite_of, ite_no, tdivE, tmodE, takeAll]
  apply CallB.q e1
  simp (maxSteps := 4000000) (disch := omega) only [go_sem, w64, AndB_of, IfB_of, IfB_no, pickE_of, pickE_no, ite_of, ite_no, tdivE, tmodE, takeAll]
  rw [lockFree_bad (.inl c)]
  exact (Lks.nil (lo := 0) (hi := 2)).own.1
theorem o_LockFreeS2 (l : GLk) (hh : l.held.length ≤ 1048576) (hq : l.queue.length ≤ 1048576) (w : Int) : ACallD Try.prog 44 [.agg [asksA l.held, asksA l.queue], .int .i64 w] noH 0 (fun r H' n' => OwnR H' 0 n' (.agg [asksA (lockFree l w).held, asksA (lockFree l w).queue]) r) := by
  by_cases c : locksOk l
  · exact (o_LockFreeS l (by have := locks_len c; omega) w).mono fun _ _ _ h => h.1
  have e1 := q_LocksOkS l hh hq
  rw [decide_eq_false c] at e1
  simp only [GLk.c] at e1
  refine dcall_body mixed Try.func44 _ (by unfold Try.f44; rfl) Try.ntmps44 Try.results44 (by decide) (by simp) ?_
  simp (maxSteps := 4000000) (disch := omega) only [go_sem, w64, AndB_of, IfB_of, IfB_no, pickE_of, pickE_no, ite_of, ite_no, tdivE, tmodE, takeAll]
  apply CallB.q e1
  simp (maxSteps := 4000000) (disch := omega) only [go_sem, w64, AndB_of, IfB_of, IfB_no, pickE_of, pickE_no, ite_of, ite_no, tdivE, tmodE, takeAll]
  rw [lockFree_bad (.inl c)]
  exact (Lks.nil (lo := 0) (hi := 2)).own.1
theorem o_LockAskI2 (l : GLk) (hh : l.held.length ≤ 1048576) (hq : l.queue.length ≤ 1048576) (a : GAk) : ACallD Try.prog 29 [.agg [asksA l.held, asksA l.queue], .agg [.int .i64 a.who, .int .i64 a.key, .int .i64 a.kind]] noH 0 (fun r H' n' => OwnR H' 0 n' (.tup [.agg [asksA (lockAsk l a).1.held, asksA (lockAsk l a).1.queue], .bool (lockAsk l a).2]) r ∧ slOk 3 r = true) := by
  by_cases c : locksOk l
  · exact o_LockAskI l (by have := locks_len c; omega) (by have := locks_len c; omega) a
  have e1 := q_LocksOkI l hh hq
  rw [decide_eq_false c] at e1
  simp only [GLk.c] at e1
  refine dcall_body mixed Try.func29 _ (by unfold Try.f29; rfl) Try.ntmps29 Try.results29 (by decide) (by simp) ?_
  simp (maxSteps := 4000000) (disch := omega) only [go_sem, w64, AndB_of, IfB_of, IfB_no, pickE_of, pickE_no, ite_of, ite_no, tdivE, tmodE, takeAll]
  apply CallB.q e1
  simp (maxSteps := 4000000) (disch := omega) only [go_sem, w64, AndB_of, IfB_of, IfB_no, pickE_of, pickE_no, ite_of, ite_no, tdivE, tmodE, takeAll]
  rw [lockAsk_bad (.inl c)]
  exact ⟨OwnR.tup2mk (Lks.nil (lo := 0) (hi := 3)).own.1 rfl, rfl⟩
theorem o_LockAskS2 (l : GLk) (hh : l.held.length ≤ 1048576) (hq : l.queue.length ≤ 1048576) (a : GAk) : ACallD Try.prog 26 [.agg [asksA l.held, asksA l.queue], .agg [.int .i64 a.who, .int .i64 a.key, .int .i64 a.kind]] noH 0 (fun r H' n' => OwnR H' 0 n' (.tup [.agg [asksA (lockAsk l a).1.held, asksA (lockAsk l a).1.queue], .bool (lockAsk l a).2]) r) := by
  by_cases c : locksOk l
  · exact (o_LockAskS l (by have := locks_len c; omega) (by have := locks_len c; omega) a).mono fun _ _ _ h => h.1
  have e1 := q_LocksOkS l hh hq
  rw [decide_eq_false c] at e1
  simp only [GLk.c] at e1
  refine dcall_body mixed Try.func26 _ (by unfold Try.f26; rfl) Try.ntmps26 Try.results26 (by decide) (by simp) ?_
  simp (maxSteps := 4000000) (disch := omega) only [go_sem, w64, AndB_of, IfB_of, IfB_no, pickE_of, pickE_no, ite_of, ite_no, tdivE, tmodE, takeAll]
  apply CallB.q e1
  simp (maxSteps := 4000000) (disch := omega) only [go_sem, w64, AndB_of, IfB_of, IfB_no, pickE_of, pickE_no, ite_of, ite_no, tdivE, tmodE, takeAll]
  rw [lockAsk_bad (.inl c)]
  exact OwnR.tup2mk (Lks.nil (lo := 0) (hi := 3)).own.1 rfl
theorem lockFree_b {l : GLk} {w : Int} : LkB (lockFree l w) := by
  by_cases c : locksOk l
  · have := locks_len c
    have := lockFree_len (l := l) (w := w)
    exact ⟨by omega, by omega⟩
  · rw [lockFree_bad (.inl c)]; exact ⟨by simp, by simp⟩
theorem lockAsk_b {l : GLk} {a : GAk} : LkB (lockAsk l a).1 := by
  by_cases c : locksOk l
  · have := locks_len c
    have := lockAsk_len (l := l) (a := a)
    exact ⟨by omega, by omega⟩
  · rw [lockAsk_bad (.inl c)]; exact ⟨by simp, by simp⟩
theorem o_toLocks (v : GLk) (hb : LkB v) : ACallD Try.prog 27 [.agg [asksA v.held, asksA v.queue]] noH 0 (fun r H' n' => OwnR H' 0 n' (.agg [asksA v.held, asksA v.queue]) r) := by
  refine dcall_body mixed Try.func27 _ (by unfold Try.f27; rfl) Try.ntmps27 Try.results27 (by decide) (by simp) ?_
  simp (maxSteps := 4000000) (disch := omega) only [go_sem, w64, AndB_of, IfB_of, IfB_no, pickE_of, pickE_no, ite_of, ite_no, tdivE, tmodE, takeAll]
  refine CallB.fresh (Pict.cons (Pict.pure (asksA_pure _)) Pict.nil) (o_toAskS v.held hb.1) fun ra H2 n2 hO hn hH => ?_
  obtain ⟨S, h1, hN, hr⟩ := hO
  have hca : cellsA H2 ra = some [ra] := h1.cellsA
  have b0 : H2 0 = .live 0 [asksA v.held, asksA v.queue] := by rw [hH 0 (by omega)]; rfl
  have b1 : H2 1 = .live 0 [.sl 0 true [], .sl 0 true []] := by rw [hH 1 (by omega)]; rfl
  have b2 : H2 2 = .live 0 [.sl 0 true [], .sl 0 true []] := by rw [hH 2 (by omega)]; rfl
  simp (maxSteps := 4000000) (disch := omega) only [go_sem, w64, AndB_of, IfB_of, IfB_no, pickE_of, pickE_no, ite_of, ite_no, tdivE, tmodE, takeAll, b0, b1, b2, hca]
  refine CallB.fresh (Pict.cons (Pict.pure (asksA_pure _)) Pict.nil) (o_toAskS v.queue hb.2) fun rb H3 n3 hO3 hn3 hH3 => ?_
  obtain ⟨S3, k1, kN, kr⟩ := hO3
  have hcb : cellsA H3 rb = some [rb] := k1.cellsA
  have c1 : H3 1 = .live 0 [.sl 0 true [], .sl 0 true []] := by rw [hH3 1 (by omega), upd_ne _ _ (by omega), b1]
  have c2 : H3 2 = .live 0 [ra, .sl 0 true []] := by rw [hH3 2 (by omega), upd_same]
  simp (maxSteps := 4000000) (disch := omega) only [go_sem, w64, AndB_of, IfB_of, IfB_no, pickE_of, pickE_no, ite_of, ite_no, tdivE, tmodE, takeAll, c1, c2, hcb]
  have g1 := (h1.congr (H' := upd (upd H3 2 (.live 0 [ra, rb])) 1 (.live 0 [ra, rb])) fun j hj => by have := hr j hj; rw [upd_ne _ _ (by omega), upd_ne _ _ (by omega), hH3 j (by omega), upd_ne _ _ (by omega)])
  have g2 := (k1.congr (H' := upd (upd H3 2 (.live 0 [ra, rb])) 1 (.live 0 [ra, rb])) fun j hj => by have := kr j hj; rw [upd_ne _ _ (by omega), upd_ne _ _ (by omega)])
  exact OwnR.agg2 g1 g2 hN kN (fun i hi => by have := hr i hi; omega) (fun i hi => by have := kr i hi; omega) (fun i hi hj => by have := hr i hi; have := kr i hj; omega)
theorem m_markLocks {H : AH} {lo hi nx : Nat} {a : AV} (b : GLk) (hb : LkB b) (k : Int) (hk0 : 0 ≤ k) (hk1 : k ≤ 1125899906842) (h : OwnR H lo hi (.agg [asksA b.held, asksA b.queue]) a) (hhi : hi ≤ nx) :
    ACallD Try.prog 31 [a, .int .i64 k] H nx (fun r H' nx' => r = .int .i64 (k + 3 * b.held.length + 3 * b.queue.length) ∧ OwnR H' lo hi (.agg [asksA (mks mkGAk 3 b.held.length k), asksA (mks mkGAk 3 b.queue.length (k + 3 * b.held.length))]) a ∧ (∀ i, i < nx → ¬ (lo ≤ i ∧ i < hi) → H' i = H i) ∧ nx ≤ nx') := by
  have hb1 := hb.1
  have hb2 := hb.2
  obtain ⟨S, hO, hN, hr⟩ := h
  obtain ⟨as0, rfl, h1⟩ := hO.unagg
  obtain ⟨S1, S2, x, as', rfl, rfl, h2, h3⟩ := h1.uncons
  obtain ⟨y, rfl, h4⟩ := h3.one
  have hN' := List.nodup_append.1 hN
  have n1 : ∀ i ∈ S1, lo ≤ i ∧ i < hi := fun i hi => hr i (by simp [hi])
  have n2 : ∀ i ∈ S2, lo ≤ i ∧ i < hi := fun i hi => hr i (by simp [hi])
  have hc1 : cellsA H x = some [x] := h2.cellsA
  have hc2 : cellsA H y = some [y] := h4.cellsA
  refine dcall_body mixed Try.func31 _ (by unfold Try.f31; rfl) Try.ntmps31 Try.results31 (by decide) (by simp) ?_
  simp (maxSteps := 4000000) (disch := omega) only [go_sem, w64, AndB_of, IfB_of, IfB_no, pickE_of, pickE_no, ite_of, ite_no, tdivE, tmodE, takeAll, hc1, hc2]
  refine CallB.law (s_markAskS b.held hb.1 k (by omega) (by omega) (h2.congr fun j hj => upd_ne _ _ (by have := n1 j hj; omega))) ?_
  rintro _ H2 nx2 ⟨rfl, o2, f2, rfl⟩
  have hb2 : H2 nx = .live 0 [x, y] := by rw [f2 nx (fun h => by have := n1 _ h; omega), upd_same]
  simp (maxSteps := 4000000) (disch := omega) only [go_sem, w64, AndB_of, IfB_of, IfB_no, pickE_of, pickE_no, ite_of, ite_no, tdivE, tmodE, takeAll, hb2]
  refine CallB.law (s_markAskS b.queue hb.2 (k + 3 * b.held.length) (by omega) (by omega) (h4.congr fun j hj => by rw [f2 j (fun h => hN'.2.2 j h j hj rfl), upd_ne _ _ (by have := n2 j hj; omega)])) ?_
  rintro _ H3 nx3 ⟨rfl, o3, f3, rfl⟩
  simp (maxSteps := 4000000) (disch := omega) only [go_sem, w64, AndB_of, IfB_of, IfB_no, pickE_of, pickE_no, ite_of, ite_no, tdivE, tmodE, takeAll]
  refine ⟨?_, ?_, by omega⟩
  · exact OwnR.agg2 (o2.congr fun j hj => f3 j (fun h => hN'.2.2 j hj j h rfl)) o3 hN'.1 hN'.2.1 n1 n2 (fun i hi hj => hN'.2.2 i hi i hj rfl)
  · intro i hi hni
    rw [f3 i (fun h => hni (n2 i h)), f2 i (fun h => hni (n1 i h)), upd_ne _ _ (by omega)]
theorem h_heldLocks (n m : Nat) (hn : n ≤ 1048576) (hm : m ≤ 1048576) (k : Int) (hk0 : 0 ≤ k) (hk1 : k ≤ 1125899906842) : QCall Try.prog 32 [.agg [asksA (mks mkGAk 3 n k), asksA (mks mkGAk 3 m (k + 3 * n))], .int .i64 k] (.int .i64 (k + 3 * n + 3 * m)) := by
  refine qcall_body mixed Try.func32 _ (by unfold Try.f32; rfl) Try.ntmps32 Try.results32 (by decide) 0 (by simp) (by simp [pureL, pureA]) ?_
  simp (maxSteps := 4000000) (disch := omega) only [go_sem, w64, AndB_of, IfB_of, IfB_no, pickE_of, pickE_no, ite_of, ite_no, tdivE, tmodE, takeAll]
  apply CallB.q (h_heldAskS n hn k hk0 (by omega))
  simp (maxSteps := 4000000) (disch := omega) only [go_sem, w64, AndB_of, IfB_of, IfB_no, pickE_of, pickE_no, ite_of, ite_no, tdivE, tmodE, takeAll]
  apply CallB.q (h_heldAskS m hm (k + 3 * n) (by omega) (by omega))
  simp (maxSteps := 4000000) (disch := omega) only [go_sem, w64, AndB_of, IfB_of, IfB_no, pickE_of, pickE_no, ite_of, ite_no, tdivE, tmodE, takeAll]
end Go.TH
