/- TH: what is one's own: copies, marks: the walks. Made by own.py and gen.py. -/
import Derived.Test.YtfnflalnjigfkaaTf3
import Derived.Test.YtfnflalnjigfkaaTebo
import Derived.Test.YtfnflalnjigfkaaTf4
namespace Go.TH
open Go Go.Proofs
set_option linter.unusedSimpArgs false
set_option linter.unusedVariables false
set_option maxHeartbeats 20000000
set_option maxRecDepth 100000
theorem q_markText (k : Int) (h0 : 0 ≤ k) (h1 : k ≤ 4611686018427387904) : QCall Try.prog 136 [.int .i64 k] (.str (mText k)) := by
  refine qcall_body mixed Try.func136 _ (by unfold Try.f136; rfl) Try.ntmps136 Try.results136 (by decide) 0 (by simp) (by simp [pureL, pureA]) ?_
  unfold mText
  simp (maxSteps := 4000000) (disch := omega) only [go_sem, w64, AndB_of, IfB_of, IfB_no, pickE_of, pickE_no, ite_of, ite_no, tdivE, tmodE, takeAll]
  refine IfB.dec (fun h => ?_) (fun h => ?_)
  · simp (maxSteps := 4000000) (disch := omega) only [go_sem, w64, AndB_of, IfB_of, IfB_no, pickE_of, pickE_no, ite_of, ite_no, tdivE, tmodE, takeAll]
  · simp (maxSteps := 4000000) (disch := omega) only [go_sem, w64, AndB_of, IfB_of, IfB_no, pickE_of, pickE_no, ite_of, ite_no, tdivE, tmodE, takeAll]
    refine LoopB.auto (fun zs => (intOf (slotOf zs 0), strOf (slotOf zs 3), nxOf zs)) (fun zz => [(0, some (.int .i64 (zz.1 : Int))), (2, some (.str zz.2.1))]) (fun zz => noH) (fun zz => zz.2.2) (fun zz => zz.1.toNat) (fun zz => 0 ≤ zz.1 ∧ zz.1 ≤ 4611686018427387904 ∧ digL k.toNat = digL zz.1.toNat ++ zz.2.1.data.toList) (by (first | simp (maxSteps := 4000000) (disch := omega) only [go_sem, w64, AndB_of, IfB_of, IfB_no, pickE_of, pickE_no, ite_of, ite_no, tdivE, tmodE, takeAll, hH] | simp (maxSteps := 4000000) (disch := omega) only [go_sem, w64, AndB_of, IfB_of, IfB_no, pickE_of, pickE_no, ite_of, ite_no, tdivE, tmodE, takeAll]); ((repeat' apply And.intro) <;> first | exact (List.append_nil _).symm | (exact Weak.go (by (first | (simp [wkL]; done) | (simp [wkL]; omega))) (fun zi => by first | exact .inl rfl | exact .inr rfl | (simp only [upd]; repeat' split) <;> first | exact (List.append_nil _).symm | exact .inl rfl | exact .inr rfl | (exfalso; omega) | exact .inr (hd _ (by omega)) | (left; subst_vars; exact hH.symm) | (left; subst_vars; rfl) | (left; simp; done) | (left; simp; omega)) (by omega)) | omega | rfl | assumption | exact Flat.nil | exact ⟨_, rfl, rfl, by assumption⟩ | (simp; done) | (simp; omega))) ?_
    intro zz zh
    obtain ⟨n, o, x⟩ := zz
    dsimp only at zh
    obtain ⟨hn0, hn1, hd⟩ := zh
    simp (maxSteps := 4000000) (disch := omega) only [go_sem, w64, AndB_of, IfB_of, IfB_no, pickE_of, pickE_no, ite_of, ite_no, tdivE, tmodE, takeAll]
    have hsz := dig_size hd
    refine IfB.dec (fun h2 => ?_) (fun h2 => ?_)
    · simp (maxSteps := 4000000) (disch := omega) only [go_sem, w64, AndB_of, IfB_of, IfB_no, pickE_of, pickE_no, ite_of, ite_no, tdivE, tmodE, takeAll]
      ((repeat' apply And.intro) <;> first | exact dig_step hd h2 | (exact Weak.go (by (first | (simp [wkL]; done) | (simp [wkL]; omega))) (fun zi => by first | exact .inl rfl | exact .inr rfl | (simp only [upd]; repeat' split) <;> first | exact dig_step hd h2 | exact .inl rfl | exact .inr rfl | (exfalso; omega) | exact .inr (hd _ (by omega)) | (left; subst_vars; exact hH.symm) | (left; subst_vars; rfl) | (left; simp; done) | (left; simp; omega)) (by omega)) | omega | rfl | assumption | exact Flat.nil | exact ⟨_, rfl, rfl, by assumption⟩ | (simp; done) | (simp; omega))
    · obtain rfl : n = 0 := by omega
      simp (maxSteps := 4000000) (disch := omega) only [go_sem, w64, AndB_of, IfB_of, IfB_no, pickE_of, pickE_no, ite_of, ite_no, tdivE, tmodE, takeAll]
      rw [Int.toNat_zero, digL_zero, List.nil_append] at hd
      rw [hd]
      congr 1
theorem m0_markValueS {H : AH} {id ver nx : Nat} (l : List GVal) (hl : l.length ≤ 1048576) (k : Int) (hk0 : 0 ≤ k) (hk1 : k ≤ 2305843009213693952) (hH : H id = .live ver (flat GVal.c l)) :
    ACallD Try.prog 73 [.msl id ver 3 0 l.length, .int .i64 k] H nx (fun r H' nx' => r = .int .i64 (k + 3 * l.length) ∧ H' = upd H id (.live ver (flat GVal.c (mks mkGVal 3 l.length k))) ∧ nx' = nx) := by
  refine dcall_body mixed Try.func73 _ (by unfold Try.f73; rfl) Try.ntmps73 Try.results73 (by decide) (by simp) ?_
  simp (maxSteps := 4000000) (disch := omega) only [go_sem, w64, AndB_of, IfB_of, IfB_no, pickE_of, pickE_no, ite_of, ite_no, tdivE, tmodE, takeAll]
  refine LoopB.auto (fun zs => ((intOf (slotOf zs 5)).toNat, intOf (slotOf zs 1), cellsOf (blkOf zs (id)))) (fun zz => [(0, none), (0, some (.int .i64 (zz.2.1 : Int))), (3, some (.int .i64 (zz.1 : Int)))]) (fun zz => upd H id (.live ver zz.2.2)) (fun zz => nx) (fun zz => l.length - zz.1) (fun zz => zz.1 ≤ l.length ∧ zz.2.1 = k + 3 * zz.1 ∧ zz.2.2 = flat GVal.c (mixL (mks mkGVal 3 l.length k) l zz.1)) (by (first | simp (maxSteps := 4000000) (disch := omega) only [go_sem, w64, AndB_of, IfB_of, IfB_no, pickE_of, pickE_no, ite_of, ite_no, tdivE, tmodE, takeAll, hH] | simp (maxSteps := 4000000) (disch := omega) only [go_sem, w64, AndB_of, IfB_of, IfB_no, pickE_of, pickE_no, ite_of, ite_no, tdivE, tmodE, takeAll]); ((repeat' apply And.intro) <;> first | (exact Weak.go (by (first | (simp [wkL]; done) | (simp [wkL]; omega))) (fun zi => by first | exact .inl rfl | exact .inr rfl | (simp only [upd]; repeat' split) <;> first | exact .inl rfl | exact .inr rfl | (exfalso; omega) | exact .inr (hd _ (by omega)) | (left; subst_vars; exact hH.symm) | (left; subst_vars; rfl) | (left; simp; done) | (left; simp; omega)) (by omega)) | omega | rfl | assumption | exact Flat.nil | exact ⟨_, rfl, rfl, by assumption⟩ | (simp; done) | (simp; omega))) ?_
  intro zz zh
  obtain ⟨i, cur, cells⟩ := zz
  dsimp only at zh
  obtain ⟨hi, hcur, hc⟩ := zh
  simp (maxSteps := 4000000) (disch := omega) only [go_sem, w64, AndB_of, IfB_of, IfB_no, pickE_of, pickE_no, ite_of, ite_no, tdivE, tmodE, takeAll]
  have hlen : cells.length = l.length * 3 := by rw [hc, flat_mix_len GVal.len (mks_len ..)]
  refine IfB.dec (fun h1 => ?_) (fun h1 => ?_)
  · have h1' : i < l.length := by omega
    simp (maxSteps := 4000000) (disch := omega) only [go_sem, w64, AndB_of, IfB_of, IfB_no, pickE_of, pickE_no, ite_of, ite_no, tdivE, tmodE, takeAll, put_1, put_1z, put_2, put_3, put_4, put_5, put_6, put_7, setL_len1, setL_len2, setL_len3, setL_len4, setL_len5, setL_len6]
    repeat' (first | (refine IfB.dec2 (fun h hd => ?_) (fun h hd => ?_) <;> (try (have h2 := h; unfold inR at h2)) <;> (try simp (maxSteps := 4000000) (disch := omega) only [go_sem, w64, AndB_of, IfB_of, IfB_no, pickE_of, pickE_no, ite_of, ite_no, tdivE, tmodE, takeAll, put_1, put_1z, put_2, put_3, put_4, put_5, put_6, put_7, setL_len1, setL_len2, setL_len3, setL_len4, setL_len5, setL_len6, hd])) | (refine IfB.split (fun h => ?_) (fun h => ?_) <;> (try simp (maxSteps := 4000000) (disch := omega) only [go_sem, w64, AndB_of, IfB_of, IfB_no, pickE_of, pickE_no, ite_of, ite_no, tdivE, tmodE, takeAll, put_1, put_1z, put_2, put_3, put_4, put_5, put_6, put_7, setL_len1, setL_len2, setL_len3, setL_len4, setL_len5, setL_len6, h])) | (refine DrawB.quiet (by kernel_rfl) ?_; simp (maxSteps := 4000000) (disch := omega) only [go_sem, w64, AndB_of, IfB_of, IfB_no, pickE_of, pickE_no, ite_of, ite_no, tdivE, tmodE, takeAll, put_1, put_1z, put_2, put_3, put_4, put_5, put_6, put_7, setL_len1, setL_len2, setL_len3, setL_len4, setL_len5, setL_len6]) | (apply CallB.q (q_markText (cur + 1 + 1) (by omega) (by omega)); simp (maxSteps := 4000000) (disch := omega) only [go_sem, w64, AndB_of, IfB_of, IfB_no, pickE_of, pickE_no, ite_of, ite_no, tdivE, tmodE, takeAll, put_1, put_1z, put_2, put_3, put_4, put_5, put_6, put_7, setL_len1, setL_len2, setL_len3, setL_len4, setL_len5, setL_len6]) | (apply DCallB.q0 (q_markText (cur + 1 + 1) (by omega) (by omega)); simp (maxSteps := 4000000) (disch := omega) only [go_sem, w64, AndB_of, IfB_of, IfB_no, pickE_of, pickE_no, ite_of, ite_no, tdivE, tmodE, takeAll, put_1, put_1z, put_2, put_3, put_4, put_5, put_6, put_7, setL_len1, setL_len2, setL_len3, setL_len4, setL_len5, setL_len6]))
    rw [hc]
    have hi2 : i < (mks mkGVal 3 l.length k).length := by simpa using h1'
    ((repeat' apply And.intro) <;> first | exact setL_mix GVal.len (mks_len ..) hi2 (by rw [mks_get, ← hcur]; first | rfl | (simp only [GVal.c, mkGVal, Int.add_assoc]; rfl)) | (exact Weak.go (by (first | (simp [wkL]; done) | (simp [wkL]; omega))) (fun zi => by first | exact .inl rfl | exact .inr rfl | (simp only [upd]; repeat' split) <;> first | exact setL_mix GVal.len (mks_len ..) hi2 (by rw [mks_get, ← hcur]; first | rfl | (simp only [GVal.c, mkGVal, Int.add_assoc]; rfl)) | exact .inl rfl | exact .inr rfl | (exfalso; omega) | exact .inr (hd _ (by omega)) | (left; subst_vars; exact hH.symm) | (left; subst_vars; rfl) | (left; simp; done) | (left; simp; omega)) (by omega)) | omega | rfl | assumption | exact Flat.nil | exact ⟨_, rfl, rfl, by assumption⟩ | (simp; done) | (simp; omega))
  · obtain rfl : i = l.length := by omega
    rw [mixL_all (mks_len ..) rfl] at hc
    simp (maxSteps := 4000000) (disch := omega) only [go_sem, w64, AndB_of, IfB_of, IfB_no, pickE_of, pickE_no, ite_of, ite_no, tdivE, tmodE, takeAll, hc]
    rw [hcur]
theorem z_markValueS {H : AH} {nx : Nat} (a : AV) (k : Int) (ha : Empty0 H a) : ACallD Try.prog 73 [a, .int .i64 k] H nx (fun r H' nx' => r = .int .i64 k ∧ H' = H ∧ nx' = nx) := by
  rcases ha with ⟨t, rfl⟩ | ⟨id, ver, sz, rfl, hH⟩
  · refine dcall_body mixed Try.func73 _ (by unfold Try.f73; rfl) Try.ntmps73 Try.results73 (by decide) (by simp) ?_
    simp (maxSteps := 4000000) (disch := omega) only [go_sem, w64, AndB_of, IfB_of, IfB_no, pickE_of, pickE_no, ite_of, ite_no, tdivE, tmodE, takeAll]
    refine LoopB.unroll ?_
    simp (maxSteps := 4000000) (disch := omega) only [go_sem, w64, AndB_of, IfB_of, IfB_no, pickE_of, pickE_no, ite_of, ite_no, tdivE, tmodE, takeAll]
  · refine dcall_body mixed Try.func73 _ (by unfold Try.f73; rfl) Try.ntmps73 Try.results73 (by decide) (by simp) ?_
    simp (maxSteps := 4000000) (disch := omega) only [go_sem, w64, AndB_of, IfB_of, IfB_no, pickE_of, pickE_no, ite_of, ite_no, tdivE, tmodE, takeAll, hH]
    refine LoopB.unroll ?_
    simp (maxSteps := 4000000) (disch := omega) only [go_sem, w64, AndB_of, IfB_of, IfB_no, pickE_of, pickE_no, ite_of, ite_no, tdivE, tmodE, takeAll, hH]
theorem s_markValueS {H : AH} {S : List Nat} {nx : Nat} {a : AV} (l : List GVal) (hl : l.length ≤ 1048576) (k : Int) (hk0 : 0 ≤ k) (hk1 : k ≤ 2305843009213693952) (h : OwnL false H S [rowA l] [a]) :
    ACallD Try.prog 73 [a, .int .i64 k] H nx (fun r H' nx' => r = .int .i64 (k + 3 * l.length) ∧ OwnL false H' S [rowA (mks mkGVal 3 l.length k)] [a] ∧ (∀ i, i ∉ S → H' i = H i) ∧ nx' = nx) :=
  mark_flat GVal.len (fun a p hp => by simp [GVal.c] at hp; rcases hp with rfl | rfl | rfl <;> rfl) (by omega) l k (fun a ha => z_markValueS a k ha) (fun id ver hH => m0_markValueS l hl k hk0 hk1 hH) h
theorem m_markValueS {H : AH} {lo hi nx : Nat} {a : AV} (l : List GVal) (hl : l.length ≤ 1048576) (k : Int) (hk0 : 0 ≤ k) (hk1 : k ≤ 2305843009213693952) (h : OwnR H lo hi (rowA l) a) :
    ACallD Try.prog 73 [a, .int .i64 k] H nx (fun r H' nx' => r = .int .i64 (k + 3 * l.length) ∧ OwnR H' lo hi (rowA (mks mkGVal 3 l.length k)) a ∧ (∀ i, ¬ (lo ≤ i ∧ i < hi) → H' i = H i) ∧ nx' = nx) :=
  ACallD.stretch (Q := fun r => r = .int .i64 (k + 3 * l.length)) (fun S hO _ => s_markValueS l hl k hk0 hk1 hO) h
theorem h_heldValueS (n : Nat) (hn : n ≤ 1048576) (k : Int) (hk0 : 0 ≤ k) (hk1 : k ≤ 2305843009213693952) : QCall Try.prog 74 [rowA (mks mkGVal 3 n k), .int .i64 k] (.int .i64 (k + 3 * n)) := by
  refine qcall_body mixed Try.func74 _ (by unfold Try.f74; rfl) Try.ntmps74 Try.results74 (by decide) 0 (by simp) (by simp [pureL, pureA]) ?_
  unfold rowA
  simp (maxSteps := 4000000) (disch := omega) only [go_sem, w64, AndB_of, IfB_of, IfB_no, pickE_of, pickE_no, ite_of, ite_no, tdivE, tmodE, takeAll, mks_len]
  refine LoopB.auto (fun zs => ((intOf (slotOf zs 5)).toNat, intOf (slotOf zs 1))) (fun zz => [(0, none), (0, some (.int .i64 (zz.2 : Int))), (3, some (.int .i64 (zz.1 : Int)))]) (fun zz => noH) (fun zz => 0) (fun zz => n - zz.1) (fun zz => zz.1 ≤ n ∧ zz.2 = k + 3 * zz.1) (by (first | simp (maxSteps := 4000000) (disch := omega) only [go_sem, w64, AndB_of, IfB_of, IfB_no, pickE_of, pickE_no, ite_of, ite_no, tdivE, tmodE, takeAll, hH] | simp (maxSteps := 4000000) (disch := omega) only [go_sem, w64, AndB_of, IfB_of, IfB_no, pickE_of, pickE_no, ite_of, ite_no, tdivE, tmodE, takeAll]); ((repeat' apply And.intro) <;> first | (exact Weak.go (by (first | (simp [wkL]; done) | (simp [wkL]; omega))) (fun zi => by first | exact .inl rfl | exact .inr rfl | (simp only [upd]; repeat' split) <;> first | exact .inl rfl | exact .inr rfl | (exfalso; omega) | exact .inr (hd _ (by omega)) | (left; subst_vars; exact hH.symm) | (left; subst_vars; rfl) | (left; simp; done) | (left; simp; omega)) (by omega)) | omega | rfl | assumption | exact Flat.nil | exact ⟨_, rfl, rfl, by assumption⟩ | (simp; done) | (simp; omega))) ?_
  intro zz zh
  obtain ⟨i, cur⟩ := zz
  dsimp only at zh
  obtain ⟨hi, hcur⟩ := zh
  simp (maxSteps := 4000000) (disch := omega) only [go_sem, w64, AndB_of, IfB_of, IfB_no, pickE_of, pickE_no, ite_of, ite_no, tdivE, tmodE, takeAll]
  refine IfB.dec (fun h1 => ?_) (fun h1 => ?_)
  · have h1' : i < n := by omega
    have hi2 : i < (mks mkGVal 3 n k).length := by simpa using h1'
    have e : (mks mkGVal 3 n k)[i] = ⟨cur, cur + 1, mText (cur + 1 + 1)⟩ := by rw [mks_get, ← hcur]; first | rfl | (simp only [mkGVal, Int.add_assoc]; rfl)
    simp (maxSteps := 4000000) (disch := omega) only [go_sem, w64, AndB_of, IfB_of, IfB_no, pickE_of, pickE_no, ite_of, ite_no, tdivE, tmodE, takeAll, e, mks_len]
    repeat' (first | (refine IfB.dec2 (fun h hd => ?_) (fun h hd => ?_) <;> (try (have h2 := h; unfold inR at h2)) <;> (try simp (maxSteps := 4000000) (disch := omega) only [go_sem, w64, AndB_of, IfB_of, IfB_no, pickE_of, pickE_no, ite_of, ite_no, tdivE, tmodE, takeAll, hd])) | (refine IfB.split (fun h => ?_) (fun h => ?_) <;> (try simp (maxSteps := 4000000) (disch := omega) only [go_sem, w64, AndB_of, IfB_of, IfB_no, pickE_of, pickE_no, ite_of, ite_no, tdivE, tmodE, takeAll, h])) | (refine DrawB.quiet (by kernel_rfl) ?_; simp (maxSteps := 4000000) (disch := omega) only [go_sem, w64, AndB_of, IfB_of, IfB_no, pickE_of, pickE_no, ite_of, ite_no, tdivE, tmodE, takeAll]) | (apply CallB.q (q_markText (cur + 1 + 1) (by omega) (by omega)); simp (maxSteps := 4000000) (disch := omega) only [go_sem, w64, AndB_of, IfB_of, IfB_no, pickE_of, pickE_no, ite_of, ite_no, tdivE, tmodE, takeAll]) | (apply DCallB.q0 (q_markText (cur + 1 + 1) (by omega) (by omega)); simp (maxSteps := 4000000) (disch := omega) only [go_sem, w64, AndB_of, IfB_of, IfB_no, pickE_of, pickE_no, ite_of, ite_no, tdivE, tmodE, takeAll]))
    all_goals first
      | exact absurd (by rw [e]) h
      | ((repeat' apply And.intro) <;> first | (exact Weak.go (by (first | (simp [wkL]; done) | (simp [wkL]; omega))) (fun zi => by first | exact .inl rfl | exact .inr rfl | (simp only [upd]; repeat' split) <;> first | exact .inl rfl | exact .inr rfl | (exfalso; omega) | exact .inr (hd _ (by omega)) | (left; subst_vars; exact hH.symm) | (left; subst_vars; rfl) | (left; simp; done) | (left; simp; omega)) (by omega)) | omega | rfl | assumption | exact Flat.nil | exact ⟨_, rfl, rfl, by assumption⟩ | (simp; done) | (simp; omega))
  · simp (maxSteps := 4000000) (disch := omega) only [go_sem, w64, AndB_of, IfB_of, IfB_no, pickE_of, pickE_no, ite_of, ite_no, tdivE, tmodE, takeAll]
    rw [hcur, show i = n by omega]
theorem o_toValueS (l : List GVal) (hb : l.length ≤ 1048576 ∧ ∀ x ∈ l, VB x) : ACallD Try.prog 66 [rowA l] noH 0 (fun r H' n' => OwnR H' 0 n' (rowA l) r) := by
  have hl : l.length ≤ 1048576 := hb.1
  refine dcall_body mixed Try.func66 _ (by unfold Try.f66; rfl) Try.ntmps66 Try.results66 (by decide) (by simp) ?_
  unfold rowA
  simp (maxSteps := 4000000) (disch := omega) only [go_sem, w64, AndB_of, IfB_of, IfB_no, pickE_of, pickE_no, ite_of, ite_no, tdivE, tmodE, takeAll, fillL_zero (c := GVal.c) l]
  refine LoopB.auto (fun zs => (intOf (slotOf zs 4)).toNat) (fun zz => [(0, none), (2, none), (0, some (.int .i64 (zz : Int)))]) (fun zz => upd noH 0 (.live 0 (fillL GVal.c zVal l zz))) (fun zz => 1) (fun zz => l.length - zz) (fun zz => zz ≤ l.length) (by (first | simp (maxSteps := 4000000) (disch := omega) only [go_sem, w64, AndB_of, IfB_of, IfB_no, pickE_of, pickE_no, ite_of, ite_no, tdivE, tmodE, takeAll, hH] | simp (maxSteps := 4000000) (disch := omega) only [go_sem, w64, AndB_of, IfB_of, IfB_no, pickE_of, pickE_no, ite_of, ite_no, tdivE, tmodE, takeAll]); ((repeat' apply And.intro) <;> first | (exact Weak.go (by (first | (simp [wkL]; done) | (simp [wkL]; omega))) (fun zi => by first | exact .inl rfl | exact .inr rfl | (simp only [upd]; repeat' split) <;> first | exact .inl rfl | exact .inr rfl | (exfalso; omega) | exact .inr (hd _ (by omega)) | (left; subst_vars; exact hH.symm) | (left; subst_vars; rfl) | (left; simp; done) | (left; simp; omega)) (by omega)) | omega | rfl | assumption | exact Flat.nil | exact ⟨_, rfl, rfl, by assumption⟩ | (simp; done) | (simp; omega))) ?_
  intro k zh
  have hk := zh
  simp (maxSteps := 4000000) (disch := omega) only [go_sem, w64, AndB_of, IfB_of, IfB_no, pickE_of, pickE_no, ite_of, ite_no, tdivE, tmodE, takeAll]
  refine IfB.dec (fun hlt => ?_) (fun hlt => ?_)
  · have hlt' : k < l.length := by omega
    simp (maxSteps := 4000000) (disch := omega) only [go_sem, w64, AndB_of, IfB_of, IfB_no, pickE_of, pickE_no, ite_of, ite_no, tdivE, tmodE, takeAll]
    apply CallB.q (t_toValue l[k] (hb.2 _ (List.getElem_mem hlt')))
    simp (maxSteps := 4000000) (disch := omega) only [go_sem, w64, AndB_of, IfB_of, IfB_no, pickE_of, pickE_no, ite_of, ite_no, tdivE, tmodE, takeAll]
    ((repeat' apply And.intro) <;> first | (exact Weak.go (by (first | (simp [wkL]; done) | (simp [wkL]; omega))) (fun zi => by first | exact .inl rfl | exact .inr rfl | (simp only [upd]; repeat' split) <;> first | exact .inl rfl | exact .inr rfl | (exfalso; omega) | exact .inr (hd _ (by omega)) | (left; subst_vars; exact hH.symm) | (left; subst_vars; rfl) | (left; simp; done) | (left; simp; omega)) (by omega)) | omega | rfl | assumption | exact Flat.nil | exact ⟨_, rfl, rfl, by assumption⟩ | (simp; done) | (simp; omega))
  · have : k = l.length := by omega
    subst this
    simp (maxSteps := 4000000) (disch := omega) only [go_sem, w64, AndB_of, IfB_of, IfB_no, pickE_of, pickE_no, ite_of, ite_no, tdivE, tmodE, takeAll, fillL_all]
    exact OwnR.flat GVal.len (fun a p hp => by simp [GVal.c] at hp; rcases hp with rfl | rfl | rfl <;> rfl) (upd_same ..) (by omega) (by omega)
theorem m0_markBoolS {H : AH} {id ver nx : Nat} (l : List Bool) (hl : l.length ≤ 1048576) (k : Int) (hk0 : 0 ≤ k) (hk1 : k ≤ 2305843009213693952) (hH : H id = .live ver (flat cBo l)) :
    ACallD Try.prog 115 [.msl id ver 1 0 l.length, .int .i64 k] H nx (fun r H' nx' => r = .int .i64 (k + 1 * l.length) ∧ H' = upd H id (.live ver (flat cBo (mks mkBo 1 l.length k))) ∧ nx' = nx) := by
  refine dcall_body mixed Try.func115 _ (by unfold Try.f115; rfl) Try.ntmps115 Try.results115 (by decide) (by simp) ?_
  simp (maxSteps := 4000000) (disch := omega) only [go_sem, w64, AndB_of, IfB_of, IfB_no, pickE_of, pickE_no, ite_of, ite_no, tdivE, tmodE, takeAll]
  refine LoopB.auto (fun zs => ((intOf (slotOf zs 5)).toNat, intOf (slotOf zs 1), cellsOf (blkOf zs (id)))) (fun zz => [(0, none), (0, some (.int .i64 (zz.2.1 : Int))), (3, some (.int .i64 (zz.1 : Int)))]) (fun zz => upd H id (.live ver zz.2.2)) (fun zz => nx) (fun zz => l.length - zz.1) (fun zz => zz.1 ≤ l.length ∧ zz.2.1 = k + 1 * zz.1 ∧ zz.2.2 = flat cBo (mixL (mks mkBo 1 l.length k) l zz.1)) (by (first | simp (maxSteps := 4000000) (disch := omega) only [go_sem, w64, AndB_of, IfB_of, IfB_no, pickE_of, pickE_no, ite_of, ite_no, tdivE, tmodE, takeAll, hH] | simp (maxSteps := 4000000) (disch := omega) only [go_sem, w64, AndB_of, IfB_of, IfB_no, pickE_of, pickE_no, ite_of, ite_no, tdivE, tmodE, takeAll]); ((repeat' apply And.intro) <;> first | (exact Weak.go (by (first | (simp [wkL]; done) | (simp [wkL]; omega))) (fun zi => by first | exact .inl rfl | exact .inr rfl | (simp only [upd]; repeat' split) <;> first | exact .inl rfl | exact .inr rfl | (exfalso; omega) | exact .inr (hd _ (by omega)) | (left; subst_vars; exact hH.symm) | (left; subst_vars; rfl) | (left; simp; done) | (left; simp; omega)) (by omega)) | omega | rfl | assumption | exact Flat.nil | exact ⟨_, rfl, rfl, by assumption⟩ | (simp; done) | (simp; omega))) ?_
  intro zz zh
  obtain ⟨i, cur, cells⟩ := zz
  dsimp only at zh
  obtain ⟨hi, hcur, hc⟩ := zh
  simp (maxSteps := 4000000) (disch := omega) only [go_sem, w64, AndB_of, IfB_of, IfB_no, pickE_of, pickE_no, ite_of, ite_no, tdivE, tmodE, takeAll]
  have hlen : cells.length = l.length * 1 := by rw [hc, flat_mix_len (show ∀ a, (cBo a).length = 1 from fun _ => rfl) (mks_len ..)]
  refine IfB.dec (fun h1 => ?_) (fun h1 => ?_)
  · have h1' : i < l.length := by omega
    simp (maxSteps := 4000000) (disch := omega) only [go_sem, w64, AndB_of, IfB_of, IfB_no, pickE_of, pickE_no, ite_of, ite_no, tdivE, tmodE, takeAll, put_1, put_1z, put_2, put_3, put_4, put_5, put_6, put_7, setL_len1, setL_len2, setL_len3, setL_len4, setL_len5, setL_len6]
    repeat' (first | (refine IfB.dec2 (fun h hd => ?_) (fun h hd => ?_) <;> (try (have h2 := h; unfold inR at h2)) <;> (try simp (maxSteps := 4000000) (disch := omega) only [go_sem, w64, AndB_of, IfB_of, IfB_no, pickE_of, pickE_no, ite_of, ite_no, tdivE, tmodE, takeAll, put_1, put_1z, put_2, put_3, put_4, put_5, put_6, put_7, setL_len1, setL_len2, setL_len3, setL_len4, setL_len5, setL_len6, hd])) | (refine IfB.split (fun h => ?_) (fun h => ?_) <;> (try simp (maxSteps := 4000000) (disch := omega) only [go_sem, w64, AndB_of, IfB_of, IfB_no, pickE_of, pickE_no, ite_of, ite_no, tdivE, tmodE, takeAll, put_1, put_1z, put_2, put_3, put_4, put_5, put_6, put_7, setL_len1, setL_len2, setL_len3, setL_len4, setL_len5, setL_len6, h])) | (refine DrawB.quiet (by kernel_rfl) ?_; simp (maxSteps := 4000000) (disch := omega) only [go_sem, w64, AndB_of, IfB_of, IfB_no, pickE_of, pickE_no, ite_of, ite_no, tdivE, tmodE, takeAll, put_1, put_1z, put_2, put_3, put_4, put_5, put_6, put_7, setL_len1, setL_len2, setL_len3, setL_len4, setL_len5, setL_len6]))
    rw [hc]
    have hi2 : i < (mks mkBo 1 l.length k).length := by simpa using h1'
    ((repeat' apply And.intro) <;> first | exact setL_mix1 (mks_len ..) hi2 (by rw [mks_get, ← hcur]; first | rfl | (simp only [cBo, mkBo, Int.add_assoc]; rfl)) (fun _ => rfl) | (exact Weak.go (by (first | (simp [wkL]; done) | (simp [wkL]; omega))) (fun zi => by first | exact .inl rfl | exact .inr rfl | (simp only [upd]; repeat' split) <;> first | exact setL_mix1 (mks_len ..) hi2 (by rw [mks_get, ← hcur]; first | rfl | (simp only [cBo, mkBo, Int.add_assoc]; rfl)) (fun _ => rfl) | exact .inl rfl | exact .inr rfl | (exfalso; omega) | exact .inr (hd _ (by omega)) | (left; subst_vars; exact hH.symm) | (left; subst_vars; rfl) | (left; simp; done) | (left; simp; omega)) (by omega)) | omega | rfl | assumption | exact Flat.nil | exact ⟨_, rfl, rfl, by assumption⟩ | (simp; done) | (simp; omega))
  · obtain rfl : i = l.length := by omega
    rw [mixL_all (mks_len ..) rfl] at hc
    simp (maxSteps := 4000000) (disch := omega) only [go_sem, w64, AndB_of, IfB_of, IfB_no, pickE_of, pickE_no, ite_of, ite_no, tdivE, tmodE, takeAll, hc]
    rw [hcur]
theorem z_markBoolS {H : AH} {nx : Nat} (a : AV) (k : Int) (ha : Empty0 H a) : ACallD Try.prog 115 [a, .int .i64 k] H nx (fun r H' nx' => r = .int .i64 k ∧ H' = H ∧ nx' = nx) := by
  rcases ha with ⟨t, rfl⟩ | ⟨id, ver, sz, rfl, hH⟩
  · refine dcall_body mixed Try.func115 _ (by unfold Try.f115; rfl) Try.ntmps115 Try.results115 (by decide) (by simp) ?_
    simp (maxSteps := 4000000) (disch := omega) only [go_sem, w64, AndB_of, IfB_of, IfB_no, pickE_of, pickE_no, ite_of, ite_no, tdivE, tmodE, takeAll]
    refine LoopB.unroll ?_
    simp (maxSteps := 4000000) (disch := omega) only [go_sem, w64, AndB_of, IfB_of, IfB_no, pickE_of, pickE_no, ite_of, ite_no, tdivE, tmodE, takeAll]
  · refine dcall_body mixed Try.func115 _ (by unfold Try.f115; rfl) Try.ntmps115 Try.results115 (by decide) (by simp) ?_
    simp (maxSteps := 4000000) (disch := omega) only [go_sem, w64, AndB_of, IfB_of, IfB_no, pickE_of, pickE_no, ite_of, ite_no, tdivE, tmodE, takeAll, hH]
    refine LoopB.unroll ?_
    simp (maxSteps := 4000000) (disch := omega) only [go_sem, w64, AndB_of, IfB_of, IfB_no, pickE_of, pickE_no, ite_of, ite_no, tdivE, tmodE, takeAll, hH]
theorem s_markBoolS {H : AH} {S : List Nat} {nx : Nat} {a : AV} (l : List Bool) (hl : l.length ≤ 1048576) (k : Int) (hk0 : 0 ≤ k) (hk1 : k ≤ 2305843009213693952) (h : OwnL false H S [boolsA l] [a]) :
    ACallD Try.prog 115 [a, .int .i64 k] H nx (fun r H' nx' => r = .int .i64 (k + 1 * l.length) ∧ OwnL false H' S [boolsA (mks mkBo 1 l.length k)] [a] ∧ (∀ i, i ∉ S → H' i = H i) ∧ nx' = nx) :=
  mark_flat (show ∀ a, (cBo a).length = 1 from fun _ => rfl) (fun a p hp => by simp [cBo] at hp; subst hp; rfl) (by omega) l k (fun a ha => z_markBoolS a k ha) (fun id ver hH => m0_markBoolS l hl k hk0 hk1 hH) h
theorem m_markBoolS {H : AH} {lo hi nx : Nat} {a : AV} (l : List Bool) (hl : l.length ≤ 1048576) (k : Int) (hk0 : 0 ≤ k) (hk1 : k ≤ 2305843009213693952) (h : OwnR H lo hi (boolsA l) a) :
    ACallD Try.prog 115 [a, .int .i64 k] H nx (fun r H' nx' => r = .int .i64 (k + 1 * l.length) ∧ OwnR H' lo hi (boolsA (mks mkBo 1 l.length k)) a ∧ (∀ i, ¬ (lo ≤ i ∧ i < hi) → H' i = H i) ∧ nx' = nx) :=
  ACallD.stretch (Q := fun r => r = .int .i64 (k + 1 * l.length)) (fun S hO _ => s_markBoolS l hl k hk0 hk1 hO) h
theorem o_toBoolS (l : List Bool) (hb : l.length ≤ 1048576) : ACallD Try.prog 113 [boolsA l] noH 0 (fun r H' n' => OwnR H' 0 n' (boolsA l) r) := by
  have hl : l.length ≤ 1048576 := hb
  refine dcall_body mixed Try.func113 _ (by unfold Try.f113; rfl) Try.ntmps113 Try.results113 (by decide) (by simp) ?_
  unfold boolsA
  simp (maxSteps := 4000000) (disch := omega) only [go_sem, w64, AndB_of, IfB_of, IfB_no, pickE_of, pickE_no, ite_of, ite_no, tdivE, tmodE, takeAll, fillL_zero (c := cBo) l]
  refine LoopB.auto (fun zs => (intOf (slotOf zs 4)).toNat) (fun zz => [(0, none), (2, none), (0, some (.int .i64 (zz : Int)))]) (fun zz => upd noH 0 (.live 0 (fillL cBo [.bool false] l zz))) (fun zz => 1) (fun zz => l.length - zz) (fun zz => zz ≤ l.length) (by (first | simp (maxSteps := 4000000) (disch := omega) only [go_sem, w64, AndB_of, IfB_of, IfB_no, pickE_of, pickE_no, ite_of, ite_no, tdivE, tmodE, takeAll, hH] | simp (maxSteps := 4000000) (disch := omega) only [go_sem, w64, AndB_of, IfB_of, IfB_no, pickE_of, pickE_no, ite_of, ite_no, tdivE, tmodE, takeAll]); ((repeat' apply And.intro) <;> first | (exact Weak.go (by (first | (simp [wkL]; done) | (simp [wkL]; omega))) (fun zi => by first | exact .inl rfl | exact .inr rfl | (simp only [upd]; repeat' split) <;> first | exact .inl rfl | exact .inr rfl | (exfalso; omega) | exact .inr (hd _ (by omega)) | (left; subst_vars; exact hH.symm) | (left; subst_vars; rfl) | (left; simp; done) | (left; simp; omega)) (by omega)) | omega | rfl | assumption | exact Flat.nil | exact ⟨_, rfl, rfl, by assumption⟩ | (simp; done) | (simp; omega))) ?_
  intro k zh
  have hk := zh
  simp (maxSteps := 4000000) (disch := omega) only [go_sem, w64, AndB_of, IfB_of, IfB_no, pickE_of, pickE_no, ite_of, ite_no, tdivE, tmodE, takeAll]
  refine IfB.dec (fun hlt => ?_) (fun hlt => ?_)
  · have hlt' : k < l.length := by omega
    simp (maxSteps := 4000000) (disch := omega) only [go_sem, w64, AndB_of, IfB_of, IfB_no, pickE_of, pickE_no, ite_of, ite_no, tdivE, tmodE, takeAll]
    ((repeat' apply And.intro) <;> first | (exact Weak.go (by (first | (simp [wkL]; done) | (simp [wkL]; omega))) (fun zi => by first | exact .inl rfl | exact .inr rfl | (simp only [upd]; repeat' split) <;> first | exact .inl rfl | exact .inr rfl | (exfalso; omega) | exact .inr (hd _ (by omega)) | (left; subst_vars; exact hH.symm) | (left; subst_vars; rfl) | (left; simp; done) | (left; simp; omega)) (by omega)) | omega | rfl | assumption | exact Flat.nil | exact ⟨_, rfl, rfl, by assumption⟩ | (simp; done) | (simp; omega))
  · have : k = l.length := by omega
    subst this
    simp (maxSteps := 4000000) (disch := omega) only [go_sem, w64, AndB_of, IfB_of, IfB_no, pickE_of, pickE_no, ite_of, ite_no, tdivE, tmodE, takeAll, fillL_all]
    exact OwnR.flat (show ∀ a, (cBo a).length = 1 from fun _ => rfl) (fun a p hp => by simp [cBo] at hp; subst hp; rfl) (upd_same ..) (by omega) (by omega)
end Go.TH
