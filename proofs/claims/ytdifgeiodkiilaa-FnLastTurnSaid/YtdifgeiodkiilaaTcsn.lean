/- TH: what is seen: the walks. Made by gen.py. -/
import Derived.Test.YtdifgeiodkiilaaTf3
import Derived.Test.YtdifgeiodkiilaaTclt
import Derived.Test.YtdifgeiodkiilaaTcsl
import Derived.Test.YtdifgeiodkiilaaTcd3
import Derived.Test.YtdifgeiodkiilaaTcow2
import Derived.Test.YtdifgeiodkiilaaTcow3
namespace Go.TH
open Go Go.Proofs
set_option linter.unusedSimpArgs false
set_option linter.unusedVariables false
set_option maxHeartbeats 20000000
set_option maxRecDepth 100000
theorem q_l13Seen (v : GVer) (time : Int) : QCall Try.prog 88 [.agg [.int .i64 v.key, .int .i64 v.born, .int .i64 v.died, rowA v.row], .int .i64 time] (.bool (decide (v.at time))) := by
  refine qcall_body mixed Try.func88 _ (by unfold Try.f88; rfl) Try.ntmps88 Try.results88 (by decide) 0 (by simp) (by simp [pureL, pureA]) ?_
  simp (maxSteps := 4000000) (disch := omega) only [go_sem, w64, AndB_of, IfB_of, IfB_no, pickE_of, pickE_no, ite_of, ite_no, tdivE, tmodE, takeAll]
  repeat' (first | (refine IfB.dec (fun h => ?_) (fun h => ?_) <;> (try (have h2 := h; unfold inR at h2)) <;> (try simp (maxSteps := 4000000) (disch := omega) only [go_sem, w64, AndB_of, IfB_of, IfB_no, pickE_of, pickE_no, ite_of, ite_no, tdivE, tmodE, takeAll, h])) | (refine IfB.split (fun h => ?_) (fun h => ?_) <;> (try simp (maxSteps := 4000000) (disch := omega) only [go_sem, w64, AndB_of, IfB_of, IfB_no, pickE_of, pickE_no, ite_of, ite_no, tdivE, tmodE, takeAll, h])) | (refine DrawB.quiet (by kernel_rfl) ?_; simp (maxSteps := 4000000) (disch := omega) only [go_sem, w64, AndB_of, IfB_of, IfB_no, pickE_of, pickE_no, ite_of, ite_no, tdivE, tmodE, takeAll]))
  all_goals (rw [AV.bool.injEq, Bool.eq_iff_iff]; (try simp only [decide_eq_true_iff]); unfold GVer.at; (try simp only [true_iff, Bool.false_eq_true, false_iff]); omega)
theorem q_SeenAtS (l : List GVer) (key time : Int) (hl : l.length ≤ 1048576) (hs : ∀ v ∈ l, v.row.length ≤ 1048576 ∧ ∀ x ∈ v.row, x.s.size ≤ 9223372036854775807) : QCall Try.prog 28 [versA l, .int .i64 key, .int .i64 time] (.tup [rowA (seenRow l key time), .bool (seenIs l key time)]) := by
  refine qcall_bodyL mixed Try.func28 _ (by unfold Try.f28; rfl) Try.ntmps28 Try.results28 (by decide) 1 (by simp) (by simp [pureL, pureA]) ?_
  unfold versA
  simp (maxSteps := 4000000) (disch := omega) only [go_sem, w64, AndB_of, IfB_of, IfB_no, pickE_of, pickE_no, ite_of, ite_no, tdivE, tmodE, takeAll]
  refine LoopB.auto (fun zs => (intOf (slotOf zs 8)).toNat) (fun zz => [(0, none), (0, none), (0, none), (5, some (.int .i64 (zz : Int)))]) (fun zz => noH) (fun zz => 0) (fun zz => l.length - zz) (fun zz => zz ≤ l.length ∧ (∀ j (h : j < l.length), j < zz → ¬ (l[j].key = key ∧ l[j].at time))) (by (first | simp (maxSteps := 4000000) (disch := omega) only [go_sem, w64, AndB_of, IfB_of, IfB_no, pickE_of, pickE_no, ite_of, ite_no, tdivE, tmodE, takeAll, hH] | simp (maxSteps := 4000000) (disch := omega) only [go_sem, w64, AndB_of, IfB_of, IfB_no, pickE_of, pickE_no, ite_of, ite_no, tdivE, tmodE, takeAll]); ((repeat' apply And.intro) <;> first | exact fun j h hj => by omega | (exact Weak.go (by (first | (simp [wkL]; done) | (simp [wkL]; omega))) (fun zi => by first | exact .inl rfl | exact .inr rfl | (simp only [upd]; repeat' split) <;> first | exact fun j h hj => by omega | exact .inl rfl | exact .inr rfl | (exfalso; omega) | exact .inr (hd _ (by omega)) | (left; subst_vars; exact hH.symm) | (left; subst_vars; rfl) | (left; simp; done) | (left; simp; omega)) (by omega)) | omega | rfl | assumption | exact Flat.nil | exact ⟨_, rfl, rfl, by assumption⟩ | (simp; done) | (simp; omega))) ?_
  intro k zh
  obtain ⟨hk, hno⟩ := zh
  simp (maxSteps := 4000000) (disch := omega) only [go_sem, w64, AndB_of, IfB_of, IfB_no, pickE_of, pickE_no, ite_of, ite_no, tdivE, tmodE, takeAll]
  refine IfB.dec (fun h1 => ?_) (fun h1 => ?_)
  · have h1' : k < l.length := by omega
    simp (maxSteps := 4000000) (disch := omega) only [go_sem, w64, AndB_of, IfB_of, IfB_no, pickE_of, pickE_no, ite_of, ite_no, tdivE, tmodE, takeAll]
    apply CallB.q (q_VersionsOkS l hl hs)
    simp (maxSteps := 4000000) (disch := omega) only [go_sem, w64, AndB_of, IfB_of, IfB_no, pickE_of, pickE_no, ite_of, ite_no, tdivE, tmodE, takeAll]
    refine IfB.dec (fun h2 => ?_) (fun h2 => ?_)
    · simp (maxSteps := 4000000) (disch := omega) only [go_sem, w64, AndB_of, IfB_of, IfB_no, pickE_of, pickE_no, ite_of, ite_no, tdivE, tmodE, takeAll]
      refine IfB.dec (fun h3 => ?_) (fun h3 => ?_)
      · simp (maxSteps := 4000000) (disch := omega) only [go_sem, w64, AndB_of, IfB_of, IfB_no, pickE_of, pickE_no, ite_of, ite_no, tdivE, tmodE, takeAll]
        apply CallB.q (q_l13Seen l[k] time)
        simp (maxSteps := 4000000) (disch := omega) only [go_sem, w64, AndB_of, IfB_of, IfB_no, pickE_of, pickE_no, ite_of, ite_no, tdivE, tmodE, takeAll]
        refine IfB.dec (fun h4 => ?_) (fun h4 => ?_)
        · have e := seenV_ok (key := key) (time := time) h2
          rw [seenF_at h1' ⟨h3, h4⟩ hno] at e
          simp (maxSteps := 4000000) (disch := omega) only [go_sem, w64, AndB_of, IfB_of, IfB_no, pickE_of, pickE_no, ite_of, ite_no, tdivE, tmodE, takeAll]
          apply CallB.q (q_l3Own l[k].row (hs _ (List.getElem_mem h1')).1)
          simp (maxSteps := 4000000) (disch := omega) only [go_sem, w64, AndB_of, IfB_of, IfB_no, pickE_of, pickE_no, ite_of, ite_no, tdivE, tmodE, takeAll]
          unfold seenRow seenIs
          rw [e]
          rfl
        · simp (maxSteps := 4000000) (disch := omega) only [go_sem, w64, AndB_of, IfB_of, IfB_no, pickE_of, pickE_no, ite_of, ite_no, tdivE, tmodE, takeAll]
          ((repeat' apply And.intro) <;> first | exact fun j hj hjk => by by_cases e : j = k; (subst e; exact fun e => h4 e.2); exact hno j hj (by omega) | (exact Weak.go (by (first | (simp [wkL]; done) | (simp [wkL]; omega))) (fun zi => by first | exact .inl rfl | exact .inr rfl | (simp only [upd]; repeat' split) <;> first | exact fun j hj hjk => by by_cases e : j = k; (subst e; exact fun e => h4 e.2); exact hno j hj (by omega) | exact .inl rfl | exact .inr rfl | (exfalso; omega) | exact .inr (hd _ (by omega)) | (left; subst_vars; exact hH.symm) | (left; subst_vars; rfl) | (left; simp; done) | (left; simp; omega)) (by omega)) | omega | rfl | assumption | exact Flat.nil | exact ⟨_, rfl, rfl, by assumption⟩ | (simp; done) | (simp; omega))
      · simp (maxSteps := 4000000) (disch := omega) only [go_sem, w64, AndB_of, IfB_of, IfB_no, pickE_of, pickE_no, ite_of, ite_no, tdivE, tmodE, takeAll]
        ((repeat' apply And.intro) <;> first | exact fun j hj hjk => by by_cases e : j = k; (subst e; exact fun e => h3 e.1); exact hno j hj (by omega) | (exact Weak.go (by (first | (simp [wkL]; done) | (simp [wkL]; omega))) (fun zi => by first | exact .inl rfl | exact .inr rfl | (simp only [upd]; repeat' split) <;> first | exact fun j hj hjk => by by_cases e : j = k; (subst e; exact fun e => h3 e.1); exact hno j hj (by omega) | exact .inl rfl | exact .inr rfl | (exfalso; omega) | exact .inr (hd _ (by omega)) | (left; subst_vars; exact hH.symm) | (left; subst_vars; rfl) | (left; simp; done) | (left; simp; omega)) (by omega)) | omega | rfl | assumption | exact Flat.nil | exact ⟨_, rfl, rfl, by assumption⟩ | (simp; done) | (simp; omega))
    · simp (maxSteps := 4000000) (disch := omega) only [go_sem, w64, AndB_of, IfB_of, IfB_no, pickE_of, pickE_no, ite_of, ite_no, tdivE, tmodE, takeAll]
      unfold seenRow seenIs
      rw [seenV_no h2]
      rfl
  · have e : seenV l key time = none := by
      by_cases h : versOk l
      · rw [seenV_ok h, seenF_none fun j hj => hno j hj (by omega)]
      · exact seenV_no h
    simp (maxSteps := 4000000) (disch := omega) only [go_sem, w64, AndB_of, IfB_of, IfB_no, pickE_of, pickE_no, ite_of, ite_no, tdivE, tmodE, takeAll]
    unfold seenRow seenIs
    rw [e]
    rfl
theorem q_seen (l : List GVer) (key time : Int) (hl : l.length ≤ 1048576) : QCall Try.prog 91 [versA l, .int .i64 key, .int .i64 time] (.tup [.agg (GVer.c ((seenF l key time).getD ⟨0, 0, 0, []⟩)), .bool (seenF l key time).isSome]) := by
  refine qcall_bodyL mixed Try.func91 _ (by unfold Try.f91; rfl) Try.ntmps91 Try.results91 (by decide) 1 (by simp) (by simp [pureL, pureA]) ?_
  unfold versA
  simp (maxSteps := 4000000) (disch := omega) only [go_sem, w64, AndB_of, IfB_of, IfB_no, pickE_of, pickE_no, ite_of, ite_no, tdivE, tmodE, takeAll]
  refine LoopB.auto (fun zs => (nxOf zs, (intOf (slotOf zs 12)).toNat)) (fun zz => [(1, none), (0, none), (3, none), (3, none), (0, none), (0, some (.int .i64 (zz.2 : Int)))]) (fun zz => upd noH 0 (.live 0 [.int .i64 0, .int .i64 0, .int .i64 0, .sl 0 true []])) (fun zz => zz.1) (fun zz => l.length - zz.2) (fun zz => zz.2 ≤ l.length ∧ 0 < zz.1 ∧ (∀ j (h : j < l.length), j < zz.2 → ¬ (l[j].key = key ∧ l[j].at time))) (by (first | simp (maxSteps := 4000000) (disch := omega) only [go_sem, w64, AndB_of, IfB_of, IfB_no, pickE_of, pickE_no, ite_of, ite_no, tdivE, tmodE, takeAll, hH] | simp (maxSteps := 4000000) (disch := omega) only [go_sem, w64, AndB_of, IfB_of, IfB_no, pickE_of, pickE_no, ite_of, ite_no, tdivE, tmodE, takeAll]); ((repeat' apply And.intro) <;> first | exact fun j h hj => by omega | (exact Weak.go (by (first | (simp [wkL]; done) | (simp [wkL]; omega))) (fun zi => by first | exact .inl rfl | exact .inr rfl | (simp only [upd]; repeat' split) <;> first | exact fun j h hj => by omega | exact .inl rfl | exact .inr rfl | (exfalso; omega) | exact .inr (hd _ (by omega)) | (left; subst_vars; exact hH.symm) | (left; subst_vars; rfl) | (left; simp; done) | (left; simp; omega)) (by omega)) | omega | rfl | assumption | exact Flat.nil | exact ⟨_, rfl, rfl, by assumption⟩ | (simp; done) | (simp; omega))) ?_
  intro zz zh
  obtain ⟨x, k⟩ := zz
  dsimp only at zh
  obtain ⟨hk, hx, hno⟩ := zh
  simp (maxSteps := 4000000) (disch := omega) only [go_sem, w64, AndB_of, IfB_of, IfB_no, pickE_of, pickE_no, ite_of, ite_no, tdivE, tmodE, takeAll]
  refine IfB.dec (fun h1 => ?_) (fun h1 => ?_)
  · have h1' : k < l.length := by omega
    simp (maxSteps := 4000000) (disch := omega) only [go_sem, w64, AndB_of, IfB_of, IfB_no, pickE_of, pickE_no, ite_of, ite_no, tdivE, tmodE, takeAll]
    repeat' (first | (refine IfB.dec2 (fun h hd => ?_) (fun h hd => ?_) <;> (try (have h2 := h; unfold inR at h2)) <;> (try simp (maxSteps := 4000000) (disch := omega) only [go_sem, w64, AndB_of, IfB_of, IfB_no, pickE_of, pickE_no, ite_of, ite_no, tdivE, tmodE, takeAll, hd])) | (refine IfB.split (fun h => ?_) (fun h => ?_) <;> (try simp (maxSteps := 4000000) (disch := omega) only [go_sem, w64, AndB_of, IfB_of, IfB_no, pickE_of, pickE_no, ite_of, ite_no, tdivE, tmodE, takeAll, h])) | (refine DrawB.quiet (by kernel_rfl) ?_; simp (maxSteps := 4000000) (disch := omega) only [go_sem, w64, AndB_of, IfB_of, IfB_no, pickE_of, pickE_no, ite_of, ite_no, tdivE, tmodE, takeAll]))
    all_goals first
      | (have hp : l[k].key = key ∧ l[k].at time := ⟨by assumption, by omega, by omega⟩
         have e := seenF_at h1' hp hno
         rw [e]
         rfl)
      | (have hp : ¬ (l[k].key = key ∧ l[k].at time) := fun e => by obtain ⟨e1, e2, e3⟩ := e; first | contradiction | omega
         ((repeat' apply And.intro) <;> first | exact fun j hj hjk => by by_cases e : j = k; (subst e; exact hp); exact hno j hj (by omega) | (exact Weak.go (by (first | (simp [wkL]; done) | (simp [wkL]; omega))) (fun zi => by first | exact .inl rfl | exact .inr rfl | (simp only [upd]; repeat' split) <;> first | exact fun j hj hjk => by by_cases e : j = k; (subst e; exact hp); exact hno j hj (by omega) | exact .inl rfl | exact .inr rfl | (exfalso; omega) | exact .inr (hd _ (by omega)) | (left; subst_vars; exact hH.symm) | (left; subst_vars; rfl) | (left; simp; done) | (left; simp; omega)) (by omega)) | omega | rfl | assumption | exact Flat.nil | exact ⟨_, rfl, rfl, by assumption⟩ | (simp; done) | (simp; omega)))
  · simp (maxSteps := 4000000) (disch := omega) only [go_sem, w64, AndB_of, IfB_of, IfB_no, pickE_of, pickE_no, ite_of, ite_no, tdivE, tmodE, takeAll]
    rw [seenF_none fun j hj => hno j hj (by omega)]
    rfl
theorem GVal_plain : ∀ a, ∀ p ∈ GVal.c a, plainA p = true := fun a p hp => by simp [GVal.c] at hp; rcases hp with rfl | rfl | rfl <;> rfl
theorem f_cloneV (l : List GVal) (hl : l.length ≤ 1048576) : ACallD Try.prog 92 [rowA l] noH 0 (fun r H' n' => OwnR H' 0 n' (rowA l) r) :=
  (d_cloneV l hl).mono fun r H' n' ⟨e1, e2, e3⟩ => by
    subst e1 e2 e3
    exact OwnR.flat GVal.len GVal_plain (upd_same ..) (by omega) (by omega)
theorem f_SeenAtI (l : List GVer) (key time : Int) (hl : l.length ≤ 1048576) (hs : ∀ v ∈ l, v.row.length ≤ 1048576 ∧ ∀ x ∈ v.row, x.s.size ≤ 9223372036854775807) : ACallD Try.prog 30 [versA l, .int .i64 key, .int .i64 time] noH 0 (fun r H' n' => OwnR H' 0 n' (.tup [rowA (seenRow l key time), .bool (seenIs l key time)]) r) := by
  refine dcall_body mixed Try.func30 _ (by unfold Try.f30; rfl) Try.ntmps30 Try.results30 (by decide) (by simp) ?_
  simp (maxSteps := 4000000) (disch := omega) only [go_sem, w64, AndB_of, IfB_of, IfB_no, pickE_of, pickE_no, ite_of, ite_no, tdivE, tmodE, takeAll]
  apply CallB.q (q_VersionsOkI l hl hs)
  simp (maxSteps := 4000000) (disch := omega) only [go_sem, w64, AndB_of, IfB_of, IfB_no, pickE_of, pickE_no, ite_of, ite_no, tdivE, tmodE, takeAll]
  refine IfB.dec (fun h2 => ?_) (fun h2 => ?_)
  · simp (maxSteps := 4000000) (disch := omega) only [go_sem, w64, AndB_of, IfB_of, IfB_no, pickE_of, pickE_no, ite_of, ite_no, tdivE, tmodE, takeAll]
    apply CallB.q (q_seen l key time hl)
    obtain ⟨v, hv⟩ : ∃ v, v = (seenF l key time).getD ⟨0, 0, 0, []⟩ := ⟨_, rfl⟩
    have hvl : v.row.length ≤ 1048576 := by rw [hv]; exact seenF_len fun v h => (hs v h).1
    have e1 : seenRow l key time = v.row := by
      unfold seenRow
      rw [seenV_ok h2, hv]
      cases seenF l key time <;> rfl
    have e2 : seenIs l key time = (seenF l key time).isSome := by unfold seenIs; rw [seenV_ok h2]
    rw [← hv]
    unfold GVer.c
    simp (maxSteps := 4000000) (disch := omega) only [go_sem, w64, AndB_of, IfB_of, IfB_no, pickE_of, pickE_no, ite_of, ite_no, tdivE, tmodE, takeAll]
    refine CallB.fresh (Pict.cons (Pict.pure (rowA_pure _)) Pict.nil) (f_cloneV v.row hvl) fun r H2 n2 hO hn hH => ?_
    simp (maxSteps := 4000000) (disch := omega) only [go_sem, w64, AndB_of, IfB_of, IfB_no, pickE_of, pickE_no, ite_of, ite_no, tdivE, tmodE, takeAll]
    rw [e1, e2]
    exact (hO.mono (by omega) (by omega)).tup2mk rfl
  · simp (maxSteps := 4000000) (disch := omega) only [go_sem, w64, AndB_of, IfB_of, IfB_no, pickE_of, pickE_no, ite_of, ite_no, tdivE, tmodE, takeAll]
    unfold seenRow seenIs
    rw [seenV_no h2]
    exact (OwnR.nilS).tup2mk rfl
end Go.TH
