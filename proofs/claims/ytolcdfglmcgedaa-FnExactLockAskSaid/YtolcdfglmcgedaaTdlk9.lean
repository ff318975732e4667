/- TH: locks, 9: an ask: the walks. Made by gen.py. -/
import Derived.Test.YtolcdfglmcgedaaTf3
import Derived.Test.YtolcdfglmcgedaaTdlk8
import Derived.Test.YtolcdfglmcgedaaTf4
namespace Go.TH
open Go Go.Proofs
set_option linter.unusedSimpArgs false
set_option linter.unusedVariables false
set_option maxHeartbeats 20000000
set_option maxRecDepth 100000
theorem o_copyI (l : GLk) (hh : l.held.length ≤ 1048576) (hq : l.queue.length ≤ 1048576) : ACallD Try.prog 84 [.agg (GLk.c l)] noH 0 (fun r H' n' => OwnR H' 0 n' (.agg (GLk.c l)) r ∧ slOk 3 r = true) := by
  refine dcall_body mixed Try.func84 _ (by unfold Try.f84; rfl) Try.ntmps84 Try.results84 (by decide) (by simp) ?_
  simp (maxSteps := 4000000) (disch := omega) only [go_sem, w64, AndB_of, IfB_of, IfB_no, pickE_of, pickE_no, ite_of, ite_no, tdivE, tmodE, takeAll, GLk.c]
  refine DrawB.intro [2, 5, 6, 7] [7] (inS (2) (3) (3)) (by kernel_rfl) ?_
  simp (maxSteps := 4000000) (disch := omega) only [go_sem, w64, AndB_of, IfB_of, IfB_no, pickE_of, pickE_no, ite_of, ite_no, tdivE, tmodE, takeAll]
  refine CallB.law (d_cloneAk l.held hh) ?_
  rintro _ _ _ ⟨rfl, rfl, rfl⟩
  simp (maxSteps := 4000000) (disch := omega) only [go_sem, w64, AndB_of, IfB_of, IfB_no, pickE_of, pickE_no, ite_of, ite_no, tdivE, tmodE, takeAll]
  refine CallB.law (d_cloneAk l.queue hq) ?_
  rintro _ _ _ ⟨rfl, rfl, rfl⟩
  simp (maxSteps := 4000000) (disch := omega) only [go_sem, w64, AndB_of, IfB_of, IfB_no, pickE_of, pickE_no, ite_of, ite_no, tdivE, tmodE, takeAll]
  exact (show Lks _ 2 4 l _ _ from ⟨[2], [3], .msl (by repeat (first | exact upd_same _ _ _ | rw [upd_ne _ _ (by omega)])), .msl (by repeat (first | exact upd_same _ _ _ | rw [upd_ne _ _ (by omega)])), by simp, by simp, by simp⟩).mono (by omega) (by omega) |>.own
theorem q_grant1 (b a : GAk) : QCall Try.prog 136 [.agg (GAk.c b), .ro (GAk.c a)] (.bool (decide (sameK b a))) := by
  unfold GAk.c
  refine qcall_body mixed Try.func136 _ (by unfold Try.f136; rfl) Try.ntmps136 Try.results136 (by decide) 0 (by simp) (by simp [pureL, pureA]) ?_
  simp (maxSteps := 4000000) (disch := omega) only [go_sem, w64, AndB_of, IfB_of, IfB_no, pickE_of, pickE_no, ite_of, ite_no, tdivE, tmodE, takeAll]
  repeat' (first | (refine IfB.dec (fun h => ?_) (fun h => ?_) <;> (try (have h2 := h; unfold inR at h2)) <;> (try simp (maxSteps := 4000000) (disch := omega) only [go_sem, w64, AndB_of, IfB_of, IfB_no, pickE_of, pickE_no, ite_of, ite_no, tdivE, tmodE, takeAll, h])) | (refine IfB.split (fun h => ?_) (fun h => ?_) <;> (try simp (maxSteps := 4000000) (disch := omega) only [go_sem, w64, AndB_of, IfB_of, IfB_no, pickE_of, pickE_no, ite_of, ite_no, tdivE, tmodE, takeAll, h])) | (refine DrawB.quiet (by kernel_rfl) ?_; simp (maxSteps := 4000000) (disch := omega) only [go_sem, w64, AndB_of, IfB_of, IfB_no, pickE_of, pickE_no, ite_of, ite_no, tdivE, tmodE, takeAll]))
  all_goals (rw [AV.bool.injEq, Bool.eq_iff_iff]; (try simp only [decide_eq_true_iff]); unfold sameK; simp_all)
theorem q_LockAsk1 (b a : GAk) : QCall Try.prog 86 [.agg (GAk.c b), .ro (GAk.c a)] (.bool (decide (covers b a))) := by
  have e := q_covers b a
  unfold GAk.c at e ⊢
  refine qcall_body mixed Try.func86 _ (by unfold Try.f86; rfl) Try.ntmps86 Try.results86 (by decide) 0 (by simp) (by simp [pureL, pureA]) ?_
  simp (maxSteps := 4000000) (disch := omega) only [go_sem, w64, AndB_of, IfB_of, IfB_no, pickE_of, pickE_no, ite_of, ite_no, tdivE, tmodE, takeAll]
  repeat' (first | (refine IfB.dec2 (fun h hd => ?_) (fun h hd => ?_) <;> (try (have h2 := h; unfold inR at h2)) <;> (try simp (maxSteps := 4000000) (disch := omega) only [go_sem, w64, AndB_of, IfB_of, IfB_no, pickE_of, pickE_no, ite_of, ite_no, tdivE, tmodE, takeAll, hd])) | (refine IfB.split (fun h => ?_) (fun h => ?_) <;> (try simp (maxSteps := 4000000) (disch := omega) only [go_sem, w64, AndB_of, IfB_of, IfB_no, pickE_of, pickE_no, ite_of, ite_no, tdivE, tmodE, takeAll, h])) | (refine DrawB.quiet (by kernel_rfl) ?_; simp (maxSteps := 4000000) (disch := omega) only [go_sem, w64, AndB_of, IfB_of, IfB_no, pickE_of, pickE_no, ite_of, ite_no, tdivE, tmodE, takeAll]) | (apply CallB.q (e); simp (maxSteps := 4000000) (disch := omega) only [go_sem, w64, AndB_of, IfB_of, IfB_no, pickE_of, pickE_no, ite_of, ite_no, tdivE, tmodE, takeAll]) | (apply DCallB.q0 (e); simp (maxSteps := 4000000) (disch := omega) only [go_sem, w64, AndB_of, IfB_of, IfB_no, pickE_of, pickE_no, ite_of, ite_no, tdivE, tmodE, takeAll]))
theorem d_grant {ex : Bool} {H : AH} {nx oid ov : Nat} {P : Nat → Prop} (L : GLk) (x y : AV) (a : GAk) (hL : LksR ex H P L x y) (hP : ∀ i, P i → i < nx ∧ i ≠ oid) (hH : H oid = .live ov [x, y]) (hid : oid < nx) (hu : uniq L.held) (hl : L.held.length ≤ 1048575) :
    ACallD Try.prog 87 [.ptr oid ov 0, .agg (GAk.c a)] H nx (fun r H' nx' => ∃ x', H' oid = .live ov [x', y] ∧ LksR ex H' (fun i => P i ∨ (nx ≤ i ∧ i < nx')) ⟨grantL L.held a, L.queue⟩ x' y ∧ (∀ j, j < nx → j ≠ oid → ¬ P j → H' j = H j) ∧ nx ≤ nx') := by
  have hq := q_IndexFuncAk L.held 136 [.ro (GAk.c a)] (by simp [pureL, pureA]) (fun b => decide (sameK b a)) (by omega) (fun v _ => q_grant1 v a)
  obtain ⟨S1, S2, k1, k2, k3, k4, k5⟩ := hL.ex
  have hcy := hL.cells.2
  simp only [GAk.c] at hq
  cases k1 with
  | @msl i v rest ei hr =>
    have hi := hP i (k3 i (by simp))
    have hni : i ∉ S2 := k5 i (by simp)
    have fr := flat_takeR GAk.len L.held rest
    have hfl : (flat GAk.c L.held ++ rest).length = L.held.length * 3 + rest.length := by rw [List.length_append, flat_len GAk.len]
    have hoi : (oid = i) = False := by simp; omega
    have hon : (oid = nx) = False := by simp; omega
    refine dcall_body mixed Try.func87 _ (by unfold Try.f87; rfl) Try.ntmps87 Try.results87 (by decide) (by simp) ?_
    simp (maxSteps := 4000000) (disch := omega) only [go_sem, w64, AndB_of, IfB_of, IfB_no, pickE_of, pickE_no, ite_of, ite_no, tdivE, tmodE, takeAll, hH, ei, GAk.c]
    apply CallB.borrow 1 (r := .int .i64 (idxF (fun b => decide (sameK b a)) L.held)) _ rfl
    rotate_left
    · simp (maxSteps := 4000000) (disch := omega) only [go_sem, w64, AndB_of, IfB_of, IfB_no, pickE_of, pickE_no, ite_of, ite_no, tdivE, tmodE, takeAll, ei, fr]
      exact hq
    rcases idxF_spec (fun b => decide (sameK b a)) L.held with ⟨e, hn⟩ | ⟨q, hq1, e, hp, hn⟩
    · have hn2 : ∀ b ∈ L.held, ¬ sameK b a := fun b hb => by
        obtain ⟨j, hj, rfl⟩ := List.getElem_of_mem hb
        exact of_decide_eq_false (hn j hj)
      have hg := grantL_new hn2
      simp (maxSteps := 4000000) (disch := omega) only [go_sem, w64, AndB_of, IfB_of, IfB_no, pickE_of, pickE_no, ite_of, ite_no, tdivE, tmodE, takeAll, e, hH, ei]
      refine DrawB.intro [6, 7, 8, 11] [11] (inS (nx + 1) (i) (i)) (by kernel_rfl) ?_
      simp (maxSteps := 4000000) (disch := omega) only [go_sem, w64, AndB_of, IfB_of, IfB_no, pickE_of, pickE_no, ite_of, ite_no, tdivE, tmodE, takeAll, hH, ei, hfl, fr]
      apply CallB.of (c_ClipAk (by repeat (first | exact hH | exact upd_same _ _ _ | rw [upd_ne _ _ (by omega)])))
      simp (maxSteps := 4000000) (disch := omega) only [go_sem, w64, AndB_of, IfB_of, IfB_no, pickE_of, pickE_no, ite_of, ite_no, tdivE, tmodE, takeAll, hH, ei, hoi, hon]
      have ef : flat GAk.c L.held ++ [.int .i64 a.who, .int .i64 a.key, .int .i64 a.kind] = flat GAk.c (grantL L.held a) := by rw [← hg, flat_append]; simp [flat, GAk.c]
      have el : L.held.length + 1 = (grantL L.held a).length := by rw [← hg]; simp
      rw [ef, el]
      refine ⟨_, rfl, ⟨[i], S2, .msl (rest := []) (by rw [upd_ne _ _ (by omega), upd_same, List.append_nil]) (fun _ => rfl), k2.congr (fun j hj => ?_), fun j hj => .inl (k3 j hj), fun j hj => .inl (k4 j hj), fun j a b => k5 j a b⟩, fun j g1 g2 g3 => ?_, by omega⟩
      · have g4 := hP j (k4 j hj)
        have g5 : j ≠ i := fun e2 => hni (e2 ▸ hj)
        rw [upd_ne _ _ g4.2, upd_ne _ _ g5, upd_ne _ _ (by omega), upd_ne _ _ (by omega)]
      · have g5 : j ≠ i := fun e2 => g3 (e2 ▸ k3 i (by simp))
        rw [if_neg g2, if_neg g5, if_neg (by omega), if_neg (by omega)]
    · have hs : sameK L.held[q] a := of_decide_eq_true hp
      have hg := grantL_set hu hq1 hs
      have hfp := flat_put GAk.len hq1 a rest
      simp only [GAk.c] at hfp
      simp (maxSteps := 4000000) (disch := omega) only [go_sem, w64, AndB_of, IfB_of, IfB_no, pickE_of, pickE_no, ite_of, ite_no, tdivE, tmodE, takeAll, e, hH, ei]
      refine DrawB.intro [7] [7] (inS (nx + 7) (nx + 7) (nx + 7)) (by kernel_rfl) ?_
      simp (maxSteps := 4000000) (disch := omega) only [go_sem, w64, AndB_of, IfB_of, IfB_no, pickE_of, pickE_no, ite_of, ite_no, tdivE, tmodE, takeAll, hH, ei, hfl, hoi, hon, hfp]
      have el : L.held.length = (grantL L.held a).length := by rw [← hg]; simp
      rw [hg, el]
      refine ⟨_, rfl, ⟨[i], S2, .msl (rest := rest) (by rw [upd_same]) hr, k2.congr (fun j hj => ?_), fun j hj => .inl (k3 j hj), fun j hj => .inl (k4 j hj), fun j a b => k5 j a b⟩, fun j g1 g2 g3 => ?_, by omega⟩
      · have g4 := hP j (k4 j hj)
        have g5 : j ≠ i := fun e2 => hni (e2 ▸ hj)
        rw [upd_ne _ _ g5, upd_ne _ _ (by omega)]
      · have g5 : j ≠ i := fun e2 => g3 (e2 ▸ k3 i (by simp))
        rw [if_neg g5, if_neg (by omega)]
  | nil eq =>
    change L.held = [] at eq
    refine dcall_body mixed Try.func87 _ (by unfold Try.f87; rfl) Try.ntmps87 Try.results87 (by decide) (by simp) ?_
    simp (maxSteps := 4000000) (disch := omega) only [go_sem, w64, AndB_of, IfB_of, IfB_no, pickE_of, pickE_no, ite_of, ite_no, tdivE, tmodE, takeAll, hH, GAk.c]
    apply CallB.borrow 1 (r := .int .i64 (idxF (fun b => decide (sameK b a)) L.held)) _ rfl
    rotate_left
    · simp (maxSteps := 4000000) (disch := omega) only [go_sem, w64, AndB_of, IfB_of, IfB_no, pickE_of, pickE_no, ite_of, ite_no, tdivE, tmodE, takeAll]
      have hq2 := hq
      rw [eq] at hq2 ⊢
      exact QCall.tight0 hq2
    have e : idxF (fun b => decide (sameK b a)) L.held = -1 := by rw [eq]; rfl
    simp (maxSteps := 4000000) (disch := omega) only [go_sem, w64, AndB_of, IfB_of, IfB_no, pickE_of, pickE_no, ite_of, ite_no, tdivE, tmodE, takeAll, e, hH]
    refine DrawB.intro [6, 7, 8, 11] [11] (inS (nx + 1) (nx + 2) (nx + 2)) (by kernel_rfl) ?_
    simp (maxSteps := 4000000) (disch := omega) only [go_sem, w64, AndB_of, IfB_of, IfB_no, pickE_of, pickE_no, ite_of, ite_no, tdivE, tmodE, takeAll, hH]
    apply CallB.of (c_ClipAk (by repeat (first | exact hH | exact upd_same _ _ _ | rw [upd_ne _ _ (by omega)])))
    have hon : (oid = nx) = False := by simp; omega
    have ho1 : (oid = nx + 1) = False := by simp; omega
    have ho2 : (oid = nx + 1 + 1) = False := by simp; omega
    simp (maxSteps := 4000000) (disch := omega) only [go_sem, w64, AndB_of, IfB_of, IfB_no, pickE_of, pickE_no, ite_of, ite_no, tdivE, tmodE, takeAll, hH, hon, ho1, ho2]
    have hg : grantL L.held a = [a] := by rw [eq]; rfl
    rw [hg]
    refine ⟨_, rfl, ⟨[nx + 1 + 1], S2, .msl (l := [a]) (rest := []) (by rw [upd_ne _ _ (by omega), upd_same, List.append_nil]; simp [flat, GAk.c]) (fun _ => rfl), k2.congr (fun j hj => ?_), fun j hj => by simp at hj; subst hj; exact .inr (by omega), fun j hj => .inl (k4 j hj), fun j a b => by simp at a; subst a; have := hP _ (k4 _ b); omega⟩, fun j g1 g2 g3 => ?_, by omega⟩
    · have g4 := hP j (k4 j hj)
      rw [upd_ne _ _ g4.2, upd_ne _ _ (by omega), upd_ne _ _ (by omega), upd_ne _ _ (by omega)]
    · rw [if_neg g2, if_neg (by omega), if_neg (by omega), if_neg (by omega)]
end Go.TH
