/- TH: reading rows: the walks. Made by gen.py. -/
import Derived.Test.YtbhibkochjfdfaaTf3
import Derived.Test.YtbhibkochjfdfaaTaby2
import Derived.Test.YtbhibkochjfdfaaTarc
namespace Go.TH
open Go Go.Proofs
set_option linter.unusedSimpArgs false
set_option linter.unusedVariables false
set_option maxHeartbeats 20000000
set_option maxRecDepth 100000
theorem rdK_none {b : List UInt8} {k : Nat} (h : rdK b k = none) : ∀ m, k ≤ m → rdK b m = none := by
  intro m hm
  induction m with
  | zero => have : k = 0 := by omega
            rw [this] at h; exact h
  | succ m ih =>
    by_cases e : k = m + 1
    · rw [← e]; exact h
    · unfold rdK
      rw [ih (by omega)]
theorem rowFrom_none {b : List UInt8} {k : Nat} (h : rdK b k = none) (hk : (k : Int) ≤ gB b 0) : rowFrom b = ([], 0) := by
  unfold rowFrom
  split
  · rfl
  · rw [rdK_none h _ (by omega)]
theorem rowFrom_some {b : List UInt8} {k t : Nat} {row : List GVal} (hb : b ≠ []) (h4 : gB b 0 ≤ 4) (h : rdK b k = some (row, t)) (hk : (k : Int) = gB b 0) : rowFrom b = (row, t) := by
  unfold rowFrom
  rw [if_neg (by intro e; rcases e with e | e; exact hb e; omega), show (gB b 0).toNat = k by omega, h]
theorem rdK_next {b : List UInt8} {k t : Nat} {row : List GVal} (h : rdK b k = some (row, t)) (hn : (valFrom (b.drop t)).2 ≠ 0) : rdK b (k + 1) = some (row ++ [(valFrom (b.drop t)).1], t + (valFrom (b.drop t)).2) := by
  rw [rdK, h]
  simp only
  rw [if_neg hn]
theorem rdK_stop {b : List UInt8} {k t : Nat} {row : List GVal} (h : rdK b k = some (row, t)) (hn : (valFrom (b.drop t)).2 = 0) : rdK b (k + 1) = none := by
  rw [rdK, h]
  simp only
  rw [if_pos hn]
theorem q_RowFromS (b : List UInt8) (hl : b.length ≤ 140737488355328) : QCall Try.prog 53 [bysA b] (.tup [rowA (rowFrom b).1, .int .i64 (rowFrom b).2]) := by
  have b0 := gB_range b 0
  refine qcall_bodyL mixed Try.func53 _ (by unfold Try.f53; rfl) Try.ntmps53 Try.results53 (by decide) 1 (by simp) (by simp [pureL, pureA]) ?_
  unfold bysA
  simp (maxSteps := 4000000) (disch := omega) only [go_sem, w64, AndB_of, IfB_of, IfB_no, pickE_of, pickE_no, ite_of, ite_no, tdivE, tmodE, takeAll]
  refine IfB.dec (fun c1 => ?_) (fun c1 => ?_)
  case refine_1 =>
    simp (maxSteps := 4000000) (disch := omega) only [go_sem, w64, AndB_of, IfB_of, IfB_no, pickE_of, pickE_no, ite_of, ite_no, tdivE, tmodE, takeAll]
    have hb : b = [] := List.eq_nil_of_length_eq_zero (by omega)
    rw [show rowFrom b = ([], 0) from if_pos (.inl hb)]
    rfl
  have hb : b ≠ [] := fun e => by subst e; simp at c1
  have g0 := bts_get0 (l := b) (by omega)
  simp (maxSteps := 4000000) (disch := omega) only [go_sem, w64, AndB_of, IfB_of, IfB_no, pickE_of, pickE_no, ite_of, ite_no, tdivE, tmodE, takeAll, g0]
  refine IfB.dec (fun c2 => ?_) (fun c2 => ?_)
  case refine_1 =>
    simp (maxSteps := 4000000) (disch := omega) only [go_sem, w64, AndB_of, IfB_of, IfB_no, pickE_of, pickE_no, ite_of, ite_no, tdivE, tmodE, takeAll]
    rw [show rowFrom b = ([], 0) from if_pos (.inr c2)]
    rfl
  simp (maxSteps := 4000000) (disch := omega) only [go_sem, w64, AndB_of, IfB_of, IfB_no, pickE_of, pickE_no, ite_of, ite_no, tdivE, tmodE, takeAll]
  refine LoopB.auto (fun zs => (nxOf zs, (intOf (slotOf zs 6)).toNat, (intOf (slotOf zs 5)).toNat, verOf (blkOf zs (0)), cellsOf (blkOf zs (0)))) (fun zz => [(0, none), (3, some (.msl 0 zz.2.2.2.1 3 0 zz.2.1)), (0, some (.int .i64 (zz.2.2.1 : Int))), (0, some (.int .i64 (zz.2.1 : Int)))]) (fun zz => upd noH 0 (.live zz.2.2.2.1 zz.2.2.2.2)) (fun zz => zz.1) (fun zz => 4 - zz.2.1) (fun zz => (zz.2.1 : Int) ≤ gB b 0 ∧ 0 < zz.1 ∧ ∃ row, rdK b zz.2.1 = some (row, zz.2.2.1) ∧ zz.2.2.2.2 = flat GVal.c row) (by (first | simp (maxSteps := 4000000) (disch := omega) only [go_sem, w64, AndB_of, IfB_of, IfB_no, pickE_of, pickE_no, ite_of, ite_no, tdivE, tmodE, takeAll, hH] | simp (maxSteps := 4000000) (disch := omega) only [go_sem, w64, AndB_of, IfB_of, IfB_no, pickE_of, pickE_no, ite_of, ite_no, tdivE, tmodE, takeAll]); ((repeat' apply And.intro) <;> first | exact ⟨[], rfl, rfl⟩ | (exact Weak.go (by (first | (simp [wkL]; done) | (simp [wkL]; omega))) (fun zi => by first | exact .inl rfl | exact .inr rfl | (simp only [upd]; repeat' split) <;> first | exact ⟨[], rfl, rfl⟩ | exact .inl rfl | exact .inr rfl | (exfalso; omega) | exact .inr (hd _ (by omega)) | (left; subst_vars; exact hH.symm) | (left; subst_vars; rfl) | (left; simp; done) | (left; simp; omega)) (by omega)) | omega | rfl | assumption | exact Flat.nil | exact ⟨_, rfl, rfl, by assumption⟩ | (simp; done) | (simp; omega))) ?_
  intro zz zh
  obtain ⟨x, k, t, v, cells⟩ := zz
  dsimp only at zh
  obtain ⟨hk, hx, row, hr, hc⟩ := zh
  simp (maxSteps := 4000000) (disch := omega) only [go_sem, w64, AndB_of, IfB_of, IfB_no, pickE_of, pickE_no, ite_of, ite_no, tdivE, tmodE, takeAll]
  obtain ⟨r1, r2, r3, r4, r5, r6⟩ := rdK_some hb hr
  have hlen : cells.length = k * 3 := by rw [hc, flat_len GVal.len, r1]
  simp (maxSteps := 4000000) (disch := omega) only [go_sem, w64, AndB_of, IfB_of, IfB_no, pickE_of, pickE_no, ite_of, ite_no, tdivE, tmodE, takeAll, g0]
  refine IfB.dec (fun c3 => ?_) (fun c3 => ?_)
  · have ld : (b.drop t).length = b.length - t := List.length_drop ..
    have en : ((b.length : Int) - (t : Int)).toNat = b.length - t := by omega
    have fa : (b.drop t).take (b.length - t) = b.drop t := takeAll (by rw [ld]; exact Nat.le_refl _)
    have e := q_ValueFromS (b.drop t) (by omega)
    have hvl := valFrom_len (b := b.drop t)
    unfold bysA at e
    rw [ld] at e
    simp (maxSteps := 4000000) (disch := omega) only [go_sem, w64, AndB_of, IfB_of, IfB_no, pickE_of, pickE_no, ite_of, ite_no, tdivE, tmodE, takeAll, en, fa]
    apply CallB.q e
    simp (maxSteps := 4000000) (disch := omega) only [go_sem, w64, AndB_of, IfB_of, IfB_no, pickE_of, pickE_no, ite_of, ite_no, tdivE, tmodE, takeAll]
    refine IfB.dec (fun c4 => ?_) (fun c4 => ?_)
    · simp (maxSteps := 4000000) (disch := omega) only [go_sem, w64, AndB_of, IfB_of, IfB_no, pickE_of, pickE_no, ite_of, ite_no, tdivE, tmodE, takeAll]
      rw [rowFrom_none (rdK_stop hr (by omega)) (by omega)]
      rfl
    · have hn := rdK_next hr (show (valFrom (b.drop t)).2 ≠ 0 by omega)
      simp (maxSteps := 4000000) (disch := omega) only [go_sem, w64, AndB_of, IfB_of, IfB_no, pickE_of, pickE_no, ite_of, ite_no, tdivE, tmodE, takeAll]
      ((repeat' apply And.intro) <;> first | exact ⟨_, hn, by rw [flat_append, hc]; simp [flat, GVal.c]⟩ | (exact Weak.go (by (first | (simp [wkL]; done) | (simp [wkL]; omega))) (fun zi => by first | exact .inl rfl | exact .inr rfl | (simp only [upd]; repeat' split) <;> first | exact ⟨_, hn, by rw [flat_append, hc]; simp [flat, GVal.c]⟩ | exact .inl rfl | exact .inr rfl | (exfalso; omega) | exact .inr (hd _ (by omega)) | (left; subst_vars; exact hH.symm) | (left; subst_vars; rfl) | (left; simp; done) | (left; simp; omega)) (by omega)) | omega | rfl | assumption | exact Flat.nil | exact ⟨_, rfl, rfl, by assumption⟩ | (simp; done) | (simp; omega))
  · have hv := rowFrom_some hb (by omega) hr (by omega)
    rw [hv]
    simp (maxSteps := 4000000) (disch := omega) only [go_sem, w64, AndB_of, IfB_of, IfB_no, pickE_of, pickE_no, ite_of, ite_no, tdivE, tmodE, takeAll]
    rw [hc, GVal.snapL, GVal.looseL, ← r1]
    rfl
theorem f_RowFromI (b : List UInt8) (hl : b.length ≤ 140737488355328) : ACallD Try.prog 55 [bysA b] noH 0 (fun r H' n' => OwnR H' 0 n' (.tup [rowA (rowFrom b).1, .int .i64 (rowFrom b).2]) r) := by
  have b0 := gB_range b 0
  refine dcall_body mixed Try.func55 _ (by unfold Try.f55; rfl) Try.ntmps55 Try.results55 (by decide) (by simp) ?_
  unfold bysA
  simp (maxSteps := 4000000) (disch := omega) only [go_sem, w64, AndB_of, IfB_of, IfB_no, pickE_of, pickE_no, ite_of, ite_no, tdivE, tmodE, takeAll]
  refine IfB.dec (fun c1 => ?_) (fun c1 => ?_)
  case refine_1 =>
    simp (maxSteps := 4000000) (disch := omega) only [go_sem, w64, AndB_of, IfB_of, IfB_no, pickE_of, pickE_no, ite_of, ite_no, tdivE, tmodE, takeAll]
    have hb : b = [] := List.eq_nil_of_length_eq_zero (by omega)
    rw [show rowFrom b = ([], 0) from if_pos (.inl hb)]
    exact OwnR.tup2mk OwnR.nilS rfl
  have hb : b ≠ [] := fun e => by subst e; simp at c1
  have g0 := bts_get0 (l := b) (by omega)
  simp (maxSteps := 4000000) (disch := omega) only [go_sem, w64, AndB_of, IfB_of, IfB_no, pickE_of, pickE_no, ite_of, ite_no, tdivE, tmodE, takeAll, g0]
  refine IfB.dec (fun c2 => ?_) (fun c2 => ?_)
  case refine_1 =>
    simp (maxSteps := 4000000) (disch := omega) only [go_sem, w64, AndB_of, IfB_of, IfB_no, pickE_of, pickE_no, ite_of, ite_no, tdivE, tmodE, takeAll]
    rw [show rowFrom b = ([], 0) from if_pos (.inr c2)]
    exact OwnR.tup2mk OwnR.nilS rfl
  simp (maxSteps := 4000000) (disch := omega) only [go_sem, w64, AndB_of, IfB_of, IfB_no, pickE_of, pickE_no, ite_of, ite_no, tdivE, tmodE, takeAll, g0]
  refine LoopB.weak (Weak.nil 5 3 rfl) ?_
  simp only [List.set_cons_succ, List.set_cons_zero]
  refine LoopB.auto (fun zs => (nxOf zs, (intOf (slotOf zs 21)).toNat, (intOf (slotOf zs 4)).toNat, verOf (blkOf zs (0)), cellsOf (blkOf zs (0)))) (fun zz => [(0, none), (3, some (.int .i64 (zz.2.2.1 : Int))), (0, some (.msl 0 zz.2.2.2.1 3 0 zz.2.1)), (14, none), (0, some (.int .i64 (zz.2.1 : Int)))]) (fun zz => upd noH 0 (.live zz.2.2.2.1 zz.2.2.2.2)) (fun zz => zz.1) (fun zz => 4 - zz.2.1) (fun zz => (zz.2.1 : Int) ≤ gB b 0 ∧ 0 < zz.1 ∧ ∃ row, rdK b zz.2.1 = some (row, zz.2.2.1) ∧ zz.2.2.2.2 = flat GVal.c row) (by (first | simp (maxSteps := 4000000) (disch := omega) only [go_sem, w64, AndB_of, IfB_of, IfB_no, pickE_of, pickE_no, ite_of, ite_no, tdivE, tmodE, takeAll, hH] | simp (maxSteps := 4000000) (disch := omega) only [go_sem, w64, AndB_of, IfB_of, IfB_no, pickE_of, pickE_no, ite_of, ite_no, tdivE, tmodE, takeAll]); ((repeat' apply And.intro) <;> first | exact ⟨[], rfl, rfl⟩ | (exact Weak.go (by (first | (simp [wkL]; done) | (simp [wkL]; omega))) (fun zi => by first | exact .inl rfl | exact .inr rfl | (simp only [upd]; repeat' split) <;> first | exact ⟨[], rfl, rfl⟩ | exact .inl rfl | exact .inr rfl | (exfalso; omega) | exact .inr (hd _ (by omega)) | (left; subst_vars; exact hH.symm) | (left; subst_vars; rfl) | (left; simp; done) | (left; simp; omega)) (by omega)) | omega | rfl | assumption | exact Flat.nil | exact ⟨_, rfl, rfl, by assumption⟩ | (simp; done) | (simp; omega))) ?_
  intro zz zh
  obtain ⟨x, k, t, v, cells⟩ := zz
  dsimp only at zh
  obtain ⟨hk, hx, row, hr, hc⟩ := zh
  simp (maxSteps := 4000000) (disch := omega) only [go_sem, w64, AndB_of, IfB_of, IfB_no, pickE_of, pickE_no, ite_of, ite_no, tdivE, tmodE, takeAll]
  obtain ⟨r1, r2, r3, r4, r5, r6⟩ := rdK_some hb hr
  have hlen : cells.length = k * 3 := by rw [hc, flat_len GVal.len, r1]
  refine IfB.dec (fun c3 => ?_) (fun c3 => ?_)
  · have ld : (b.drop t).length = b.length - t := List.length_drop ..
    have en : ((b.length : Int) - (t : Int)).toNat = b.length - t := by omega
    have fa : (b.drop t).take (b.length - t) = b.drop t := takeAll (by rw [ld]; exact Nat.le_refl _)
    have e := q_ValueFromI (b.drop t) (by omega)
    have hvl := valFrom_len (b := b.drop t)
    unfold bysA at e
    rw [ld] at e
    simp (maxSteps := 4000000) (disch := omega) only [go_sem, w64, AndB_of, IfB_of, IfB_no, pickE_of, pickE_no, ite_of, ite_no, tdivE, tmodE, takeAll, en, fa]
    apply CallB.q e
    simp (maxSteps := 4000000) (disch := omega) only [go_sem, w64, AndB_of, IfB_of, IfB_no, pickE_of, pickE_no, ite_of, ite_no, tdivE, tmodE, takeAll]
    refine IfB.dec (fun c4 => ?_) (fun c4 => ?_)
    · simp (maxSteps := 4000000) (disch := omega) only [go_sem, w64, AndB_of, IfB_of, IfB_no, pickE_of, pickE_no, ite_of, ite_no, tdivE, tmodE, takeAll]
      rw [rowFrom_none (rdK_stop hr (by omega)) (by omega)]
      exact OwnR.tup2mk OwnR.nilS rfl
    · have hn := rdK_next hr (show (valFrom (b.drop t)).2 ≠ 0 by omega)
      simp (maxSteps := 4000000) (disch := omega) only [go_sem, w64, AndB_of, IfB_of, IfB_no, pickE_of, pickE_no, ite_of, ite_no, tdivE, tmodE, takeAll]
      ((repeat' apply And.intro) <;> first | exact ⟨_, hn, by rw [flat_append, hc]; simp [flat, GVal.c]⟩ | (exact Weak.go (by (first | (simp [wkL]; done) | (simp [wkL]; omega))) (fun zi => by first | exact .inl rfl | exact .inr rfl | (simp only [upd]; repeat' split) <;> first | exact ⟨_, hn, by rw [flat_append, hc]; simp [flat, GVal.c]⟩ | exact .inl rfl | exact .inr rfl | (exfalso; omega) | exact .inr (hd _ (by omega)) | (left; subst_vars; exact hH.symm) | (left; subst_vars; rfl) | (left; simp; done) | (left; simp; omega)) (by omega)) | omega | rfl | assumption | exact Flat.nil | exact ⟨_, rfl, rfl, by assumption⟩ | (simp; done) | (simp; omega))
  · have hv := rowFrom_some hb (by omega) hr (by omega)
    rw [hv]
    simp (maxSteps := 4000000) (disch := omega) only [go_sem, w64, AndB_of, IfB_of, IfB_no, pickE_of, pickE_no, ite_of, ite_no, tdivE, tmodE, takeAll]
    have hP := Pict.msl (H := upd noH 0 (.live v cells)) (id := 0) (ver := v) (l := row) (rest := []) GVal.len GVal.pure (by rw [List.append_nil, ← hc, upd_same])
    rw [r1] at hP
    have ef := f_cloneV row (by omega)
    unfold rowA at ef
    rw [r1] at ef
    refine CallB.fresh hP ef fun ra H2 n2 hO hn hH => ?_
    simp (maxSteps := 4000000) (disch := omega) only [go_sem, w64, AndB_of, IfB_of, IfB_no, pickE_of, pickE_no, ite_of, ite_no, tdivE, tmodE, takeAll]
    unfold rowA
    rw [r1]
    exact OwnR.tup2mk (hO.mono (by omega) (Nat.le_refl _)) rfl
end Go.TH
