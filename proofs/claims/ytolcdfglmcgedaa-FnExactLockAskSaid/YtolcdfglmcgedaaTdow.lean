/- TH: what is one's own: copies, marks: the walks. Made by own.py and gen.py. -/
import Derived.Test.YtolcdfglmcgedaaTf3
import Derived.Test.YtolcdfglmcgedaaTdbo2
import Derived.Test.YtolcdfglmcgedaaTf4
namespace Go.TH
open Go Go.Proofs
set_option linter.unusedSimpArgs false
set_option linter.unusedVariables false
set_option maxHeartbeats 20000000
set_option maxRecDepth 100000
theorem m0_markAskS {H : AH} {id ver nx : Nat} (l : List GAk) (hl : l.length ≤ 1048576) (k : Int) (hk0 : 0 ≤ k) (hk1 : k ≤ 2305843009213693952) (hH : H id = .live ver (flat GAk.c l)) :
    ACallD Try.prog 90 [.msl id ver 3 0 l.length, .int .i64 k] H nx (fun r H' nx' => r = .int .i64 (k + 3 * l.length) ∧ H' = upd H id (.live ver (flat GAk.c (mks mkGAk 3 l.length k))) ∧ nx' = nx) := by
  refine dcall_body mixed Try.func90 _ (by unfold Try.f90; rfl) Try.ntmps90 Try.results90 (by decide) (by simp) ?_
  simp (maxSteps := 4000000) (disch := omega) only [go_sem, w64, AndB_of, IfB_of, IfB_no, pickE_of, pickE_no, ite_of, ite_no, tdivE, tmodE, takeAll]
  refine LoopB.auto (fun zs => ((intOf (slotOf zs 5)).toNat, intOf (slotOf zs 1), cellsOf (blkOf zs (id)))) (fun zz => [(0, none), (0, some (.int .i64 (zz.2.1 : Int))), (3, some (.int .i64 (zz.1 : Int)))]) (fun zz => upd H id (.live ver zz.2.2)) (fun zz => nx) (fun zz => l.length - zz.1) (fun zz => zz.1 ≤ l.length ∧ zz.2.1 = k + 3 * zz.1 ∧ zz.2.2 = flat GAk.c (mixL (mks mkGAk 3 l.length k) l zz.1)) (by (first | simp (maxSteps := 4000000) (disch := omega) only [go_sem, w64, AndB_of, IfB_of, IfB_no, pickE_of, pickE_no, ite_of, ite_no, tdivE, tmodE, takeAll, hH] | simp (maxSteps := 4000000) (disch := omega) only [go_sem, w64, AndB_of, IfB_of, IfB_no, pickE_of, pickE_no, ite_of, ite_no, tdivE, tmodE, takeAll]); ((repeat' apply And.intro) <;> first | (exact Weak.go (by (first | (simp [wkL]; done) | (simp [wkL]; omega))) (fun zi => by first | exact .inl rfl | exact .inr rfl | (simp only [upd]; repeat' split) <;> first | exact .inl rfl | exact .inr rfl | (exfalso; omega) | exact .inr (hd _ (by omega)) | (left; subst_vars; exact hH.symm) | (left; subst_vars; rfl) | (left; simp; done) | (left; simp; omega)) (by omega)) | omega | rfl | assumption | exact Flat.nil | exact ⟨_, rfl, rfl, by assumption⟩ | (simp; done) | (simp; omega))) ?_
  intro zz zh
  obtain ⟨i, cur, cells⟩ := zz
  dsimp only at zh
  obtain ⟨hi, hcur, hc⟩ := zh
  simp (maxSteps := 4000000) (disch := omega) only [go_sem, w64, AndB_of, IfB_of, IfB_no, pickE_of, pickE_no, ite_of, ite_no, tdivE, tmodE, takeAll]
  have hlen : cells.length = l.length * 3 := by rw [hc, flat_mix_len GAk.len (mks_len ..)]
  refine IfB.dec (fun h1 => ?_) (fun h1 => ?_)
  · have h1' : i < l.length := by omega
    simp (maxSteps := 4000000) (disch := omega) only [go_sem, w64, AndB_of, IfB_of, IfB_no, pickE_of, pickE_no, ite_of, ite_no, tdivE, tmodE, takeAll, put_1, put_1z, put_2, put_3, put_4, put_5, put_6, put_7, setL_len1, setL_len2, setL_len3, setL_len4, setL_len5, setL_len6]
    repeat' (first | (refine IfB.dec2 (fun h hd => ?_) (fun h hd => ?_) <;> (try (have h2 := h; unfold inR at h2)) <;> (try simp (maxSteps := 4000000) (disch := omega) only [go_sem, w64, AndB_of, IfB_of, IfB_no, pickE_of, pickE_no, ite_of, ite_no, tdivE, tmodE, takeAll, put_1, put_1z, put_2, put_3, put_4, put_5, put_6, put_7, setL_len1, setL_len2, setL_len3, setL_len4, setL_len5, setL_len6, hd])) | (refine IfB.split (fun h => ?_) (fun h => ?_) <;> (try simp (maxSteps := 4000000) (disch := omega) only [go_sem, w64, AndB_of, IfB_of, IfB_no, pickE_of, pickE_no, ite_of, ite_no, tdivE, tmodE, takeAll, put_1, put_1z, put_2, put_3, put_4, put_5, put_6, put_7, setL_len1, setL_len2, setL_len3, setL_len4, setL_len5, setL_len6, h])) | (refine DrawB.quiet (by kernel_rfl) ?_; simp (maxSteps := 4000000) (disch := omega) only [go_sem, w64, AndB_of, IfB_of, IfB_no, pickE_of, pickE_no, ite_of, ite_no, tdivE, tmodE, takeAll, put_1, put_1z, put_2, put_3, put_4, put_5, put_6, put_7, setL_len1, setL_len2, setL_len3, setL_len4, setL_len5, setL_len6]))
    rw [hc]
    have hi2 : i < (mks mkGAk 3 l.length k).length := by simpa using h1'
    ((repeat' apply And.intro) <;> first | exact setL_mix GAk.len (mks_len ..) hi2 (by rw [mks_get, ← hcur]; first | rfl | (simp only [GAk.c, mkGAk, Int.add_assoc]; rfl)) | (exact Weak.go (by (first | (simp [wkL]; done) | (simp [wkL]; omega))) (fun zi => by first | exact .inl rfl | exact .inr rfl | (simp only [upd]; repeat' split) <;> first | exact setL_mix GAk.len (mks_len ..) hi2 (by rw [mks_get, ← hcur]; first | rfl | (simp only [GAk.c, mkGAk, Int.add_assoc]; rfl)) | exact .inl rfl | exact .inr rfl | (exfalso; omega) | exact .inr (hd _ (by omega)) | (left; subst_vars; exact hH.symm) | (left; subst_vars; rfl) | (left; simp; done) | (left; simp; omega)) (by omega)) | omega | rfl | assumption | exact Flat.nil | exact ⟨_, rfl, rfl, by assumption⟩ | (simp; done) | (simp; omega))
  · obtain rfl : i = l.length := by omega
    rw [mixL_all (mks_len ..) rfl] at hc
    simp (maxSteps := 4000000) (disch := omega) only [go_sem, w64, AndB_of, IfB_of, IfB_no, pickE_of, pickE_no, ite_of, ite_no, tdivE, tmodE, takeAll, hc]
    rw [hcur]
theorem z_markAskS {H : AH} {nx : Nat} (a : AV) (k : Int) (ha : Empty0 H a) : ACallD Try.prog 90 [a, .int .i64 k] H nx (fun r H' nx' => r = .int .i64 k ∧ H' = H ∧ nx' = nx) := by
  rcases ha with ⟨t, rfl⟩ | ⟨id, ver, sz, rfl, hH⟩
  · refine dcall_body mixed Try.func90 _ (by unfold Try.f90; rfl) Try.ntmps90 Try.results90 (by decide) (by simp) ?_
    simp (maxSteps := 4000000) (disch := omega) only [go_sem, w64, AndB_of, IfB_of, IfB_no, pickE_of, pickE_no, ite_of, ite_no, tdivE, tmodE, takeAll]
    refine LoopB.unroll ?_
    simp (maxSteps := 4000000) (disch := omega) only [go_sem, w64, AndB_of, IfB_of, IfB_no, pickE_of, pickE_no, ite_of, ite_no, tdivE, tmodE, takeAll]
  · refine dcall_body mixed Try.func90 _ (by unfold Try.f90; rfl) Try.ntmps90 Try.results90 (by decide) (by simp) ?_
    simp (maxSteps := 4000000) (disch := omega) only [go_sem, w64, AndB_of, IfB_of, IfB_no, pickE_of, pickE_no, ite_of, ite_no, tdivE, tmodE, takeAll, hH]
    refine LoopB.unroll ?_
    simp (maxSteps := 4000000) (disch := omega) only [go_sem, w64, AndB_of, IfB_of, IfB_no, pickE_of, pickE_no, ite_of, ite_no, tdivE, tmodE, takeAll, hH]
theorem s_markAskS {H : AH} {S : List Nat} {nx : Nat} {a : AV} (l : List GAk) (hl : l.length ≤ 1048576) (k : Int) (hk0 : 0 ≤ k) (hk1 : k ≤ 2305843009213693952) (h : OwnL false H S [asksA l] [a]) :
    ACallD Try.prog 90 [a, .int .i64 k] H nx (fun r H' nx' => r = .int .i64 (k + 3 * l.length) ∧ OwnL false H' S [asksA (mks mkGAk 3 l.length k)] [a] ∧ (∀ i, i ∉ S → H' i = H i) ∧ nx' = nx) :=
  mark_flat GAk.len (fun a p hp => by simp [GAk.c] at hp; rcases hp with rfl | rfl | rfl <;> rfl) (by omega) l k (fun a ha => z_markAskS a k ha) (fun id ver hH => m0_markAskS l hl k hk0 hk1 hH) h
theorem m_markAskS {H : AH} {lo hi nx : Nat} {a : AV} (l : List GAk) (hl : l.length ≤ 1048576) (k : Int) (hk0 : 0 ≤ k) (hk1 : k ≤ 2305843009213693952) (h : OwnR H lo hi (asksA l) a) :
    ACallD Try.prog 90 [a, .int .i64 k] H nx (fun r H' nx' => r = .int .i64 (k + 3 * l.length) ∧ OwnR H' lo hi (asksA (mks mkGAk 3 l.length k)) a ∧ (∀ i, ¬ (lo ≤ i ∧ i < hi) → H' i = H i) ∧ nx' = nx) :=
  ACallD.stretch (Q := fun r => r = .int .i64 (k + 3 * l.length)) (fun S hO _ => s_markAskS l hl k hk0 hk1 hO) h
theorem h_heldAskS (n : Nat) (hn : n ≤ 1048576) (k : Int) (hk0 : 0 ≤ k) (hk1 : k ≤ 2305843009213693952) : QCall Try.prog 91 [asksA (mks mkGAk 3 n k), .int .i64 k] (.int .i64 (k + 3 * n)) := by
  refine qcall_body mixed Try.func91 _ (by unfold Try.f91; rfl) Try.ntmps91 Try.results91 (by decide) 0 (by simp) (by simp [pureL, pureA]) ?_
  unfold asksA
  simp (maxSteps := 4000000) (disch := omega) only [go_sem, w64, AndB_of, IfB_of, IfB_no, pickE_of, pickE_no, ite_of, ite_no, tdivE, tmodE, takeAll, mks_len]
  refine LoopB.auto (fun zs => ((intOf (slotOf zs 5)).toNat, intOf (slotOf zs 1))) (fun zz => [(0, none), (0, some (.int .i64 (zz.2 : Int))), (3, some (.int .i64 (zz.1 : Int)))]) (fun zz => noH) (fun zz => 0) (fun zz => n - zz.1) (fun zz => zz.1 ≤ n ∧ zz.2 = k + 3 * zz.1) (by (first | simp (maxSteps := 4000000) (disch := omega) only [go_sem, w64, AndB_of, IfB_of, IfB_no, pickE_of, pickE_no, ite_of, ite_no, tdivE, tmodE, takeAll, hH] | simp (maxSteps := 4000000) (disch := omega) only [go_sem, w64, AndB_of, IfB_of, IfB_no, pickE_of, pickE_no, ite_of, ite_no, tdivE, tmodE, takeAll]); ((repeat' apply And.intro) <;> first | (exact Weak.go (by (first | (simp [wkL]; done) | (simp [wkL]; omega))) (fun zi => by first | exact .inl rfl | exact .inr rfl | (simp only [upd]; repeat' split) <;> first | exact .inl rfl | exact .inr rfl | (exfalso; omega) | exact .inr (hd _ (by omega)) | (left; subst_vars; exact hH.symm) | (left; subst_vars; rfl) | (left; simp; done) | (left; simp; omega)) (by omega)) | omega | rfl | assumption | exact Flat.nil | exact ⟨_, rfl, rfl, by assumption⟩ | (simp; done) | (simp; omega))) ?_
  intro zz zh
  obtain ⟨i, cur⟩ := zz
  dsimp only at zh
  obtain ⟨hi, hcur⟩ := zh
  simp (maxSteps := 4000000) (disch := omega) only [go_sem, w64, AndB_of, IfB_of, IfB_no, pickE_of, pickE_no, ite_of, ite_no, tdivE, tmodE, takeAll]
  refine IfB.dec (fun h1 => ?_) (fun h1 => ?_)
  · have h1' : i < n := by omega
    have hi2 : i < (mks mkGAk 3 n k).length := by simpa using h1'
    have e : (mks mkGAk 3 n k)[i] = ⟨cur, cur + 1, cur + 1 + 1⟩ := by rw [mks_get, ← hcur]; first | rfl | (simp only [mkGAk, Int.add_assoc]; rfl)
    simp (maxSteps := 4000000) (disch := omega) only [go_sem, w64, AndB_of, IfB_of, IfB_no, pickE_of, pickE_no, ite_of, ite_no, tdivE, tmodE, takeAll, e, mks_len]
    repeat' (first | (refine IfB.dec2 (fun h hd => ?_) (fun h hd => ?_) <;> (try (have h2 := h; unfold inR at h2)) <;> (try simp (maxSteps := 4000000) (disch := omega) only [go_sem, w64, AndB_of, IfB_of, IfB_no, pickE_of, pickE_no, ite_of, ite_no, tdivE, tmodE, takeAll, hd])) | (refine IfB.split (fun h => ?_) (fun h => ?_) <;> (try simp (maxSteps := 4000000) (disch := omega) only [go_sem, w64, AndB_of, IfB_of, IfB_no, pickE_of, pickE_no, ite_of, ite_no, tdivE, tmodE, takeAll, h])) | (refine DrawB.quiet (by kernel_rfl) ?_; simp (maxSteps := 4000000) (disch := omega) only [go_sem, w64, AndB_of, IfB_of, IfB_no, pickE_of, pickE_no, ite_of, ite_no, tdivE, tmodE, takeAll]))
    all_goals first
      | exact absurd (by rw [e]) h
      | ((repeat' apply And.intro) <;> first | (exact Weak.go (by (first | (simp [wkL]; done) | (simp [wkL]; omega))) (fun zi => by first | exact .inl rfl | exact .inr rfl | (simp only [upd]; repeat' split) <;> first | exact .inl rfl | exact .inr rfl | (exfalso; omega) | exact .inr (hd _ (by omega)) | (left; subst_vars; exact hH.symm) | (left; subst_vars; rfl) | (left; simp; done) | (left; simp; omega)) (by omega)) | omega | rfl | assumption | exact Flat.nil | exact ⟨_, rfl, rfl, by assumption⟩ | (simp; done) | (simp; omega))
  · simp (maxSteps := 4000000) (disch := omega) only [go_sem, w64, AndB_of, IfB_of, IfB_no, pickE_of, pickE_no, ite_of, ite_no, tdivE, tmodE, takeAll]
    rw [hcur, show i = n by omega]
theorem o_toAskS (l : List GAk) (hb : l.length ≤ 1048576) : ACallD Try.prog 83 [asksA l] noH 0 (fun r H' n' => OwnR H' 0 n' (asksA l) r) := by
  have hl : l.length ≤ 1048576 := hb
  refine dcall_body mixed Try.func83 _ (by unfold Try.f83; rfl) Try.ntmps83 Try.results83 (by decide) (by simp) ?_
  unfold asksA
  simp (maxSteps := 4000000) (disch := omega) only [go_sem, w64, AndB_of, IfB_of, IfB_no, pickE_of, pickE_no, ite_of, ite_no, tdivE, tmodE, takeAll, fillL_zero (c := GAk.c) l]
  refine LoopB.auto (fun zs => (intOf (slotOf zs 4)).toNat) (fun zz => [(0, none), (2, none), (0, some (.int .i64 (zz : Int)))]) (fun zz => upd noH 0 (.live 0 (fillL GAk.c zAk l zz))) (fun zz => 1) (fun zz => l.length - zz) (fun zz => zz ≤ l.length) (by (first | simp (maxSteps := 4000000) (disch := omega) only [go_sem, w64, AndB_of, IfB_of, IfB_no, pickE_of, pickE_no, ite_of, ite_no, tdivE, tmodE, takeAll, hH] | simp (maxSteps := 4000000) (disch := omega) only [go_sem, w64, AndB_of, IfB_of, IfB_no, pickE_of, pickE_no, ite_of, ite_no, tdivE, tmodE, takeAll]); ((repeat' apply And.intro) <;> first | (exact Weak.go (by (first | (simp [wkL]; done) | (simp [wkL]; omega))) (fun zi => by first | exact .inl rfl | exact .inr rfl | (simp only [upd]; repeat' split) <;> first | exact .inl rfl | exact .inr rfl | (exfalso; omega) | exact .inr (hd _ (by omega)) | (left; subst_vars; exact hH.symm) | (left; subst_vars; rfl) | (left; simp; done) | (left; simp; omega)) (by omega)) | omega | rfl | assumption | exact Flat.nil | exact ⟨_, rfl, rfl, by assumption⟩ | (simp; done) | (simp; omega))) ?_
  intro k zh
  have hk := zh
  simp (maxSteps := 4000000) (disch := omega) only [go_sem, w64, AndB_of, IfB_of, IfB_no, pickE_of, pickE_no, ite_of, ite_no, tdivE, tmodE, takeAll]
  refine IfB.dec (fun hlt => ?_) (fun hlt => ?_)
  · have hlt' : k < l.length := by omega
    simp (maxSteps := 4000000) (disch := omega) only [go_sem, w64, AndB_of, IfB_of, IfB_no, pickE_of, pickE_no, ite_of, ite_no, tdivE, tmodE, takeAll]
    apply CallB.q (t_toAsk l[k])
    simp (maxSteps := 4000000) (disch := omega) only [go_sem, w64, AndB_of, IfB_of, IfB_no, pickE_of, pickE_no, ite_of, ite_no, tdivE, tmodE, takeAll]
    ((repeat' apply And.intro) <;> first | (exact Weak.go (by (first | (simp [wkL]; done) | (simp [wkL]; omega))) (fun zi => by first | exact .inl rfl | exact .inr rfl | (simp only [upd]; repeat' split) <;> first | exact .inl rfl | exact .inr rfl | (exfalso; omega) | exact .inr (hd _ (by omega)) | (left; subst_vars; exact hH.symm) | (left; subst_vars; rfl) | (left; simp; done) | (left; simp; omega)) (by omega)) | omega | rfl | assumption | exact Flat.nil | exact ⟨_, rfl, rfl, by assumption⟩ | (simp; done) | (simp; omega))
  · have : k = l.length := by omega
    subst this
    simp (maxSteps := 4000000) (disch := omega) only [go_sem, w64, AndB_of, IfB_of, IfB_no, pickE_of, pickE_no, ite_of, ite_no, tdivE, tmodE, takeAll, fillL_all]
    exact OwnR.flat GAk.len (fun a p hp => by simp [GAk.c] at hp; rcases hp with rfl | rfl | rfl <;> rfl) (upd_same ..) (by omega) (by omega)
end Go.TH
