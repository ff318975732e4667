/- TH: locks, 7: settling: the walks. Made by gen.py. -/
import Derived.Test.YtolcdfglmcgedaaTf3
import Derived.Test.YtolcdfglmcgedaaTdlk6
import Derived.Test.YtolcdfglmcgedaaTf4
namespace Go.TH
open Go Go.Proofs
set_option linter.unusedSimpArgs false
set_option linter.unusedVariables false
set_option maxHeartbeats 20000000
set_option maxRecDepth 100000
theorem o_Settle (l : GLk) (hn : l.held.length + l.queue.length ≤ 1000000) : ACallD Try.prog 103 [.agg (GLk.c l)] noH 0 (fun r H' n' => OwnR H' 0 n' (.agg (GLk.c (settle l.held l.queue 0))) r ∧ slOk 3 r = true) := by
  obtain ⟨tgt, htgt⟩ : ∃ t, t = settle l.held l.queue 0 := ⟨_, rfl⟩
  rw [← htgt]
  refine wcall_body mixed Try.func103 _ (by unfold Try.f103; rfl) Try.ntmps103 Try.results103 (by decide) (by simp) ?_
  simp (maxSteps := 4000000) (disch := omega) only [go_sem, w64, AndB_of, IfB_of, IfB_no, pickE_of, pickE_no, ite_of, ite_no, tdivE, tmodE, takeAll, GLk.c]
  refine AW.step ?_
  simp (maxSteps := 4000000) (disch := omega) only [go_sem, w64, AndB_of, IfB_of, IfB_no, pickE_of, pickE_no, ite_of, ite_no, tdivE, tmodE, takeAll]
  refine AW.cut (fun zs => (heapOf zs, nxOf zs)) (fun zz => [(2, none), (0, some (.ptr 2 1 0))]) (fun zz => zz.1) (fun zz => zz.2) (fun zz => zz.1 1 = .live 0 [.sl 0 true [], .sl 0 true []] ∧ 3 ≤ zz.2 ∧ ∃ xv yv, zz.1 2 = .live 1 [xv, yv] ∧ SetI tgt 1000000 zz.1 3 zz.2 0 xv yv) ?zcut0 ?_
  case' zcut0 => simp (maxSteps := 4000000) (disch := omega) only [go_sem, w64, AndB_of, IfB_of, IfB_no, pickE_of, pickE_no, ite_of, ite_no, tdivE, tmodE, takeAll]
  · refine DrawB.float [3, 7, 8, 10] 10 9 [.sl 0 true [], .sl 0 true []] (inS 2 3 4) (by kernel_rfl) (by simp [inS]) ?_
    unfold asksA
    rcases Nat.eq_zero_or_pos l.held.length with d1 | d1 <;> rcases Nat.eq_zero_or_pos l.queue.length with d2 | d2
    · simp (maxSteps := 4000000) (disch := omega) only [go_sem, w64, AndB_of, IfB_of, IfB_no, pickE_of, pickE_no, ite_of, ite_no, tdivE, tmodE, takeAll]
      refine ⟨⟨_, _, rfl, SetI.mk' ⟨[], [], .nil (List.eq_nil_of_length_eq_zero d1), .nil (List.eq_nil_of_length_eq_zero d2), by simp, by simp, by simp⟩ (by omega) hn htgt.symm⟩, ?_⟩
      ((repeat' apply And.intro) <;> first | (exact Weak.go (by (first | (simp [wkL]; done) | (simp [wkL]; omega))) (fun zi => by first | exact .inl rfl | exact .inr rfl | (simp only [upd]; repeat' split) <;> first | exact .inl rfl | exact .inr rfl | (exfalso; omega) | exact .inr (hd _ (by omega)) | (left; subst_vars; exact hH.symm) | (left; subst_vars; rfl) | (left; simp; done) | (left; simp; omega)) (by omega)) | omega | rfl | assumption | exact Flat.nil | exact ⟨_, rfl, rfl, by assumption⟩ | (simp; done) | (simp; omega))
    · simp (maxSteps := 4000000) (disch := omega) only [go_sem, w64, AndB_of, IfB_of, IfB_no, pickE_of, pickE_no, ite_of, ite_no, tdivE, tmodE, takeAll]
      refine ⟨⟨_, _, rfl, SetI.mk' ⟨[], [3], .nil (List.eq_nil_of_length_eq_zero d1), .msl (by repeat (first | exact upd_same _ _ _ | rw [upd_ne _ _ (by omega)])), by simp, by simp, by simp⟩ (by omega) hn htgt.symm⟩, ?_⟩
      ((repeat' apply And.intro) <;> first | (exact Weak.go (by (first | (simp [wkL]; done) | (simp [wkL]; omega))) (fun zi => by first | exact .inl rfl | exact .inr rfl | (simp only [upd]; repeat' split) <;> first | exact .inl rfl | exact .inr rfl | (exfalso; omega) | exact .inr (hd _ (by omega)) | (left; subst_vars; exact hH.symm) | (left; subst_vars; rfl) | (left; simp; done) | (left; simp; omega)) (by omega)) | omega | rfl | assumption | exact Flat.nil | exact ⟨_, rfl, rfl, by assumption⟩ | (simp; done) | (simp; omega))
    · simp (maxSteps := 4000000) (disch := omega) only [go_sem, w64, AndB_of, IfB_of, IfB_no, pickE_of, pickE_no, ite_of, ite_no, tdivE, tmodE, takeAll]
      refine ⟨⟨_, _, rfl, SetI.mk' ⟨[3], [], .msl (by repeat (first | exact upd_same _ _ _ | rw [upd_ne _ _ (by omega)])), .nil (List.eq_nil_of_length_eq_zero d2), by simp, by simp, by simp⟩ (by omega) hn htgt.symm⟩, ?_⟩
      ((repeat' apply And.intro) <;> first | (exact Weak.go (by (first | (simp [wkL]; done) | (simp [wkL]; omega))) (fun zi => by first | exact .inl rfl | exact .inr rfl | (simp only [upd]; repeat' split) <;> first | exact .inl rfl | exact .inr rfl | (exfalso; omega) | exact .inr (hd _ (by omega)) | (left; subst_vars; exact hH.symm) | (left; subst_vars; rfl) | (left; simp; done) | (left; simp; omega)) (by omega)) | omega | rfl | assumption | exact Flat.nil | exact ⟨_, rfl, rfl, by assumption⟩ | (simp; done) | (simp; omega))
    · simp (maxSteps := 4000000) (disch := omega) only [go_sem, w64, AndB_of, IfB_of, IfB_no, pickE_of, pickE_no, ite_of, ite_no, tdivE, tmodE, takeAll]
      refine ⟨⟨_, _, rfl, SetI.mk' ⟨[3], [4], .msl (by repeat (first | exact upd_same _ _ _ | rw [upd_ne _ _ (by omega)])), .msl (by repeat (first | exact upd_same _ _ _ | rw [upd_ne _ _ (by omega)])), by simp, by simp, by simp⟩ (by omega) hn htgt.symm⟩, ?_⟩
      ((repeat' apply And.intro) <;> first | (exact Weak.go (by (first | (simp [wkL]; done) | (simp [wkL]; omega))) (fun zi => by first | exact .inl rfl | exact .inr rfl | (simp only [upd]; repeat' split) <;> first | exact .inl rfl | exact .inr rfl | (exfalso; omega) | exact .inr (hd _ (by omega)) | (left; subst_vars; exact hH.symm) | (left; subst_vars; rfl) | (left; simp; done) | (left; simp; omega)) (by omega)) | omega | rfl | assumption | exact Flat.nil | exact ⟨_, rfl, rfl, by assumption⟩ | (simp; done) | (simp; omega))
  intro zz zh
  obtain ⟨h, x⟩ := zz
  dsimp only at zh
  obtain ⟨h1, hx, xv, yv, hH, hL⟩ := zh
  simp (maxSteps := 4000000) (disch := omega) only [go_sem, w64, AndB_of, IfB_of, IfB_no, pickE_of, pickE_no, ite_of, ite_no, tdivE, tmodE, takeAll]
  refine AW.of ?_
  simp (maxSteps := 4000000) (disch := omega) only [go_sem, w64, AndB_of, IfB_of, IfB_no, pickE_of, pickE_no, ite_of, ite_no, tdivE, tmodE, takeAll, h1, hH]
  refine LoopB.auto (fun zs => (heapOf zs, nxOf zs, (intOf (slotOf zs 4)).toNat, nthA (cellsOf (blkOf zs (2))) 0, nthA (cellsOf (blkOf zs (2))) 1)) (fun zz => [(2, none), (0, none), (0, some (.int .i64 (zz.2.2.1 : Int)))]) (fun zz => zz.1) (fun zz => zz.2.1) (fun zz => mlenOf zz.2.2.2.2 * (mlenOf zz.2.2.2.2 + 1) + (mlenOf zz.2.2.2.2 - zz.2.2.1)) (fun zz => zz.1 1 = .live 0 [.sl 0 true [], .sl 0 true []] ∧ 3 ≤ zz.2.1 ∧ zz.1 2 = .live 1 [zz.2.2.2.1, zz.2.2.2.2] ∧ SetI tgt 1000000 zz.1 3 zz.2.1 zz.2.2.1 zz.2.2.2.1 zz.2.2.2.2) (by (first | simp (maxSteps := 4000000) (disch := omega) only [go_sem, w64, AndB_of, IfB_of, IfB_no, pickE_of, pickE_no, ite_of, ite_no, tdivE, tmodE, takeAll, hH] | simp (maxSteps := 4000000) (disch := omega) only [go_sem, w64, AndB_of, IfB_of, IfB_no, pickE_of, pickE_no, ite_of, ite_no, tdivE, tmodE, takeAll]); ((repeat' apply And.intro) <;> first | exact hL | exact hH | exact h1 | (exact Weak.go (by (first | (simp [wkL]; done) | (simp [wkL]; omega))) (fun zi => by first | exact .inl rfl | exact .inr rfl | (simp only [upd]; repeat' split) <;> first | exact hL | exact hH | exact h1 | exact .inl rfl | exact .inr rfl | (exfalso; omega) | exact .inr (hd _ (by omega)) | (left; subst_vars; exact hH.symm) | (left; subst_vars; rfl) | (left; simp; done) | (left; simp; omega)) (by omega)) | omega | rfl | assumption | exact Flat.nil | exact ⟨_, rfl, rfl, by assumption⟩ | (simp; done) | (simp; omega))) ?_
  intro zz zh
  obtain ⟨h, x, k, xv, yv⟩ := zz
  dsimp only at zh
  obtain ⟨h1, hx, hH, hL⟩ := zh
  simp (maxSteps := 4000000) (disch := omega) only [go_sem, w64, AndB_of, IfB_of, IfB_no, pickE_of, pickE_no, ite_of, ite_no, tdivE, tmodE, takeAll]
  obtain ⟨H, Q, hK, hm, hkq, hN, hset⟩ := hL.ex
  have hcx := hK.cells.1
  have hcy := hK.cells.2
  have hK0 := hK
  obtain ⟨S1, S2, k1, k2, k3, k4, k5⟩ := hK0.ex
  cases k2 with
  | nil eq =>
    change Q = [] at eq
    have hk0 : k = 0 := by rw [eq] at hkq; simpa using hkq
    subst hk0
    simp (maxSteps := 4000000) (disch := omega) only [go_sem, w64, AndB_of, IfB_of, IfB_no, pickE_of, pickE_no, ite_of, ite_no, tdivE, tmodE, takeAll, hH]
    rw [settle_end (by rw [eq]; simp)] at hset
    simp (maxSteps := 4000000) (disch := omega) only [go_sem, w64, AndB_of, IfB_of, IfB_no, pickE_of, pickE_no, ite_of, ite_no, tdivE, tmodE, takeAll, h1, hH]
    subst hset
    exact ((hK.congr (h' := upd h 1 (.live 0 [xv, .sl 0 true []])) fun j q1 q2 => upd_ne _ _ (by omega)).mono (by omega) (by omega)).own
  | @msl i v ei =>
    change h i = .live v (flat GAk.c Q) at ei
    have ki := k4 i (by simp)
    simp (maxSteps := 4000000) (disch := omega) only [go_sem, w64, AndB_of, IfB_of, IfB_no, pickE_of, pickE_no, ite_of, ite_no, tdivE, tmodE, takeAll, hH, ei]
    refine IfB.dec (fun c1 => ?_) (fun c1 => ?_)
    case refine_2 =>
      simp (maxSteps := 4000000) (disch := omega) only [go_sem, w64, AndB_of, IfB_of, IfB_no, pickE_of, pickE_no, ite_of, ite_no, tdivE, tmodE, takeAll, h1, hH]
      rw [settle_end (by omega)] at hset
      subst hset
      exact ((hK.congr (h' := upd h 1 (.live 0 [xv, .msl i v 3 0 Q.length])) fun j q1 q2 => upd_ne _ _ (by omega)).mono (by omega) (by omega)).own
    have hk' : k < Q.length := by omega
    have e3 := q_l17Ready H (Q.take k) (by omega) (by simp; omega) Q[k]
    have e5 := o_l17Grant H (by omega) Q[k]
    simp only [GAk.c] at e3 e5
    have hK' := hK.congr (h' := upd h x (.live 0 [.int .i64 Q[k].who, .int .i64 Q[k].key, .int .i64 Q[k].kind])) fun j q1 q2 => upd_ne _ _ (by omega)
    have hP2 : Pict (upd h x (.live 0 [.int .i64 Q[k].who, .int .i64 Q[k].key, .int .i64 Q[k].kind])) [.msl i v 3 0 k] [asksA (Q.take k)] := by
      have := Pict.msl (l := Q.take k) (rest := flat GAk.c (Q.drop k)) (H := upd h x (.live 0 [.int .i64 Q[k].who, .int .i64 Q[k].key, .int .i64 Q[k].kind])) (id := i) (ver := v) GAk.len GAk.pure (by rw [upd_ne _ _ (by omega), ei, ← flat_append, List.take_append_drop])
      unfold asksA
      rw [len_take hkq] at this ⊢
      exact this
    simp (maxSteps := 4000000) (disch := omega) only [go_sem, w64, AndB_of, IfB_of, IfB_no, pickE_of, pickE_no, ite_of, ite_no, tdivE, tmodE, takeAll, hH, ei]
    refine DrawB.quiet (by kernel_rfl) ?_
    simp (maxSteps := 4000000) (disch := omega) only [go_sem, w64, AndB_of, IfB_of, IfB_no, pickE_of, pickE_no, ite_of, ite_no, tdivE, tmodE, takeAll, hH, ei]
    refine DCallB.pic (ps := [asksA H, asksA (Q.take k), .agg [.int .i64 Q[k].who, .int .i64 Q[k].key, .int .i64 Q[k].kind]]) ?_ e3 rfl ?_
    · rw [maskH_noS]
      exact Pict.cons hK'.pict1 (Pict.cons hP2 (Pict.cons (Pict.pure rfl) Pict.nil))
    simp (maxSteps := 4000000) (disch := omega) only [go_sem, w64, AndB_of, IfB_of, IfB_no, pickE_of, pickE_no, ite_of, ite_no, tdivE, tmodE, takeAll]
    refine IfB.dec (fun c2 => ?_) (fun c2 => ?_)
    case refine_2 =>
      simp (maxSteps := 4000000) (disch := omega) only [go_sem, w64, AndB_of, IfB_of, IfB_no, pickE_of, pickE_no, ite_of, ite_no, tdivE, tmodE, takeAll, hH]
      have hSI : SetI tgt 1000000 (upd h x (.live 0 [.int .i64 Q[k].who, .int .i64 Q[k].key, .int .i64 Q[k].kind])) 3 (x + 1) (k + 1) xv (.msl i v 3 0 Q.length) := SetI.mk' (hK'.mono (by omega) (by omega)) (by omega) hN ((settle_no hk' c2).symm.trans hset)
      ((repeat' apply And.intro) <;> first | exact hSI | exact hH | exact h1 | (exact Weak.go (by (first | (simp [wkL]; done) | (simp [wkL]; omega))) (fun zi => by first | exact .inl rfl | exact .inr rfl | (simp only [upd]; repeat' split) <;> first | exact hSI | exact hH | exact h1 | exact .inl rfl | exact .inr rfl | (exfalso; omega) | exact .inr (hd _ (by omega)) | (left; subst_vars; exact hH.symm) | (left; subst_vars; rfl) | (left; simp; done) | (left; simp; omega)) (by omega)) | omega | rfl | assumption | exact Flat.nil | exact ⟨_, rfl, rfl, by assumption⟩ | (simp; done) | (simp; omega))
    simp (maxSteps := 4000000) (disch := omega) only [go_sem, w64, AndB_of, IfB_of, IfB_no, pickE_of, pickE_no, ite_of, ite_no, tdivE, tmodE, takeAll, hH, ei]
    refine CallB.freshS (Pict.cons hK'.pict1 (Pict.cons (Pict.pure rfl) Pict.nil)) e5 fun r H2 n2 hO hs hn2 hH2 => ?_
    have g1 : H2 1 = .live 0 [.sl 0 true [], .sl 0 true []] := by rw [hH2 1 (by omega), upd_ne _ _ (by omega)]; exact h1
    have g2 : H2 2 = .live 1 [xv, .msl i v 3 0 Q.length] := by rw [hH2 2 (by omega), upd_ne _ _ (by omega)]; exact hH
    have gi : H2 i = .live v (flat GAk.c Q) := by rw [hH2 i (by omega), upd_ne _ _ (by omega)]; exact ei
    have hcr : cellsA H2 r = some [r] := by obtain ⟨S, hO', _, _⟩ := hO; exact hO'.cellsA
    have ft : (flat GAk.c Q).take (k * 3) = flat GAk.c (Q.take k) := flat_take GAk.len Q k
    have lt : (Q.take k).length = k := len_take hkq
    have fd : (flat GAk.c Q).drop ((k + 1) * 3) = flat GAk.c (Q.drop (k + 1)) := flat_drop GAk.len Q (k + 1)
    have ld : (Q.drop (k + 1)).length = Q.length - (k + 1) := List.length_drop ..
    have en : ((Q.length : Int) - ((k : Int) + 1)).toNat = Q.length - (k + 1) := by omega
    have fa : (flat GAk.c (Q.drop (k + 1))).take ((Q.length - (k + 1)) * 3) = flat GAk.c (Q.drop (k + 1)) := takeAll (by rw [flat_len GAk.len, ld]; omega)
    have ft2 : (flat GAk.c (Q.take k)).take (k * 3) = flat GAk.c (Q.take k) := takeAll (by rw [flat_len GAk.len, lt]; omega)
    simp (maxSteps := 4000000) (disch := omega) only [go_sem, w64, AndB_of, IfB_of, IfB_no, pickE_of, pickE_no, ite_of, ite_no, tdivE, tmodE, takeAll, g1, g2, gi, hcr, ft, lt, fd, ld, en, fa, ft2]
    have le : (Q.eraseIdx k).length = k + (Q.length - (k + 1)) := by rw [List.length_eraseIdx_of_lt hk']; omega
    have fe := flat_erase hk'
    have gl := grantL_len (l := H) (a := Q[k])
    have hme := set_meas (n := Q.length) (m := (Q.eraseIdx k).length) (k := k) (by omega)
    rw [← fe, ← le]
    have L1 := (hK'.mono (lo' := 3) (hi' := x + 1) (by omega) (by omega)).set1 (fun i q1 q2 => hH2 i q2) hO hs (by omega) hn2
    have L2 := L1.set2 (h' := upd (upd (upd H2 2 (.live 1 [r, .msl i v 3 0 Q.length])) n2 (.live 2 (flat GAk.c (Q.eraseIdx k)))) 2 (.live 1 [r, .msl n2 2 3 0 (Q.eraseIdx k).length])) (i := n2) (v := 2) (q := Q.eraseIdx k) (hi' := n2 + 1)
      (fun j q1 q2 q3 => by rw [upd_ne _ _ (by omega), upd_ne _ _ q3, upd_ne _ _ (by omega)]) (fun j w e => by have := L1.lt1 e; omega) (by rw [upd_ne _ _ (by omega), upd_same]) (by omega) (by omega)
    have hSI := SetI.mk' (N := 1000000) (k := 0) L2 (Nat.zero_le _) (by simp only; omega) ((settle_go hk' c2).symm.trans hset)
    ((repeat' apply And.intro) <;> first | exact hSI | exact hme | (exact Weak.go (by (first | (simp [wkL]; done) | (simp [wkL]; omega))) (fun zi => by first | exact .inl rfl | exact .inr rfl | (simp only [upd]; repeat' split) <;> first | exact hSI | exact hme | exact .inl rfl | exact .inr rfl | (exfalso; omega) | exact .inr (hd _ (by omega)) | (left; subst_vars; exact hH.symm) | (left; subst_vars; rfl) | (left; simp; done) | (left; simp; omega)) (by omega)) | omega | rfl | assumption | exact Flat.nil | exact ⟨_, rfl, rfl, by assumption⟩ | (simp; done) | (simp; omega))
end Go.TH
