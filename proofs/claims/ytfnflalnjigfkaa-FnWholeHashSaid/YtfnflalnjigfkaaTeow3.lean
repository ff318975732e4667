/- TH: what is one's own: rows: the walks. Made by gen.py. -/
import Derived.Test.YtfnflalnjigfkaaTf3
import Derived.Test.YtfnflalnjigfkaaTeow
import Derived.Test.YtfnflalnjigfkaaTf4
namespace Go.TH
open Go Go.Proofs
set_option linter.unusedSimpArgs false
set_option linter.unusedVariables false
set_option maxHeartbeats 20000000
set_option maxRecDepth 100000
def mkRo (n : Nat) (k : Int) : GRow := mks mkGVal 3 n k
def wRo (n : Nat) : Int := 3 * n
theorem z_markValueSS {H : AH} {nx : Nat} (a : AV) (k : Int) (ha : Empty0 H a) : ACallD Try.prog 19 [a, .int .i64 k] H nx (fun r H' nx' => r = .int .i64 k ∧ H' = H ∧ nx' = nx) := by
  rcases ha with ⟨t, rfl⟩ | ⟨id, ver, sz, rfl, hH⟩
  · refine dcall_body mixed Try.func19 _ (by unfold Try.f19; rfl) Try.ntmps19 Try.results19 (by decide) (by simp) ?_
    simp (maxSteps := 4000000) (disch := omega) only [go_sem, w64, AndB_of, IfB_of, IfB_no, pickE_of, pickE_no, ite_of, ite_no, tdivE, tmodE, takeAll]
    refine LoopB.unroll ?_
    simp (maxSteps := 4000000) (disch := omega) only [go_sem, w64, AndB_of, IfB_of, IfB_no, pickE_of, pickE_no, ite_of, ite_no, tdivE, tmodE, takeAll]
  · refine dcall_body mixed Try.func19 _ (by unfold Try.f19; rfl) Try.ntmps19 Try.results19 (by decide) (by simp) ?_
    simp (maxSteps := 4000000) (disch := omega) only [go_sem, w64, AndB_of, IfB_of, IfB_no, pickE_of, pickE_no, ite_of, ite_no, tdivE, tmodE, takeAll, hH]
    refine LoopB.unroll ?_
    simp (maxSteps := 4000000) (disch := omega) only [go_sem, w64, AndB_of, IfB_of, IfB_no, pickE_of, pickE_no, ite_of, ite_no, tdivE, tmodE, takeAll, hH]
theorem m0_markValueSS {H : AH} {S : List Nat} {id ver nx : Nat} (l : List GRow) (hl : l.length ≤ 1048576 ∧ ∀ v ∈ l, v.length ≤ 1048576) (k : Int) (hk0 : 0 ≤ k) (hk1 : k ≤ 1125899906842624) (hO : OwnL false H S [rowsA l] [.msl id ver 1 0 l.length]) (hN : S.Nodup) :
    ACallD Try.prog 19 [.msl id ver 1 0 l.length, .int .i64 k] H nx (fun r H' nx' => r = .int .i64 (k + gcnt wRo (l.map fun v => v.length)) ∧ OwnL false H' S [rowsA (genL mkRo wRo (l.map fun v => v.length) k)] [.msl id ver 1 0 l.length] ∧ (∀ i, i ∉ S → H' i = H i) ∧ nx' = nx) := by
  obtain ⟨ns, hns⟩ : ∃ ns, ns = l.map fun v => v.length := ⟨_, rfl⟩
  obtain ⟨M, hM⟩ : ∃ M, M = genL mkRo wRo ns k := ⟨_, rfl⟩
  have hnl : ns.length = l.length := by rw [hns]; simp
  have hMl : M.length = l.length := by rw [hM, genL_len, hnl]
  have hb := gcnt_bound2 (w := wRo) (B := 3145731) (N := 1048576) (ns := ns) (by omega) (by omega) fun n hn => by
    rw [hns] at hn
    obtain ⟨v, hv, rfl⟩ := List.mem_map.1 hn
    have := hl.2 v hv
    unfold wRo
    omega
  rw [← hns, ← hM]
  have hO0 : OwnL false H S [.sl l.length false (flat cR (mixL M l 0))] [.msl id ver 1 0 l.length] := by rw [mixL_zero]; exact hO
  have hk00 : k = k + gcnt wRo (ns.take 0) := by simp [gcnt]
  refine dcall_body mixed Try.func19 _ (by unfold Try.f19; rfl) Try.ntmps19 Try.results19 (by decide) (by simp) ?_
  simp (maxSteps := 4000000) (disch := omega) only [go_sem, w64, AndB_of, IfB_of, IfB_no, pickE_of, pickE_no, ite_of, ite_no, tdivE, tmodE, takeAll]
  refine LoopB.auto (fun zs => ((intOf (slotOf zs 5)).toNat, intOf (slotOf zs 1), heapOf zs)) (fun zz => [(0, none), (0, some (.int .i64 (zz.2.1 : Int))), (3, some (.int .i64 (zz.1 : Int)))]) (fun zz => zz.2.2) (fun zz => nx) (fun zz => l.length - zz.1) (fun zz => zz.1 ≤ l.length ∧ zz.2.1 = k + gcnt wRo (ns.take zz.1) ∧ OwnL false zz.2.2 S [.sl l.length false (flat cR (mixL M l zz.1))] [.msl id ver 1 0 l.length] ∧ (∀ j, j ∉ S → zz.2.2 j = H j)) (by (first | simp (maxSteps := 4000000) (disch := omega) only [go_sem, w64, AndB_of, IfB_of, IfB_no, pickE_of, pickE_no, ite_of, ite_no, tdivE, tmodE, takeAll, hH] | simp (maxSteps := 4000000) (disch := omega) only [go_sem, w64, AndB_of, IfB_of, IfB_no, pickE_of, pickE_no, ite_of, ite_no, tdivE, tmodE, takeAll]); ((repeat' apply And.intro) <;> first | exact hO0 | exact hk00 | exact fun _ _ => rfl | (exact Weak.go (by (first | (simp [wkL]; done) | (simp [wkL]; omega))) (fun zi => by first | exact .inl rfl | exact .inr rfl | (simp only [upd]; repeat' split) <;> first | exact hO0 | exact hk00 | exact fun _ _ => rfl | exact .inl rfl | exact .inr rfl | (exfalso; omega) | exact .inr (hd _ (by omega)) | (left; subst_vars; exact hH.symm) | (left; subst_vars; rfl) | (left; simp; done) | (left; simp; omega)) (by omega)) | omega | rfl | assumption | exact Flat.nil | exact ⟨_, rfl, rfl, by assumption⟩ | (simp; done) | (simp; omega))) ?_
  intro zz zh
  obtain ⟨i, cur, h⟩ := zz
  dsimp only at zh
  obtain ⟨hi, hcur, hO2, hfr⟩ := zh
  simp (maxSteps := 4000000) (disch := omega) only [go_sem, w64, AndB_of, IfB_of, IfB_no, pickE_of, pickE_no, ite_of, ite_no, tdivE, tmodE, takeAll]
  have hbi := hb i
  obtain ⟨ac, hac⟩ := hO2.top
  simp (maxSteps := 4000000) (disch := omega) only [go_sem, w64, AndB_of, IfB_of, IfB_no, pickE_of, pickE_no, ite_of, ite_no, tdivE, tmodE, takeAll, hac]
  refine IfB.dec (fun h1 => ?_) (fun h1 => ?_)
  · have h1' : i < l.length := by omega
    have h2' : i < (mixL M l i).length := by rw [mixL_len hMl]; omega
    obtain ⟨b1, ai, b3, S1, Si, S3, o⟩ := hO2.open1 h2'
    obtain ⟨ra, rfl, oR⟩ := (o.oi h2').one
    have hb1 : b1.length = i := by rw [← o.o1.len, cR_flen]; simp; omega
    have hac2 := hac.symm.trans o.hl
    injection hac2 with _ hac3
    have hal : ac.length = l.length := by
      rw [hac3, List.length_append, List.length_append, hb1, ← o.o3.len, cR_flen]
      simp [mixL_len hMl]
      omega
    have em : (mixL M l i)[i] = l[i] := mixL_get hMl h1' h2'
    have eg : ac.getD i .junk = ra := by rw [hac3]; exact getD_mid (xs := []) hb1 rfl
    obtain ⟨n1, n2, n3, n4, n5⟩ := o.nd hN
    rw [em] at oR
    have hrl := hl.2 _ (List.getElem_mem h1')
    have hni : ns[i]'(by omega) = l[i].length := by simp [hns]
    have hsu := gcnt_succ wRo (ns := ns) (i := i) (by omega)
    rw [hni] at hsu
    have hbn := hb (i + 1)
    have hw : wRo l[i].length = 3 * l[i].length := rfl
    rw [hw] at hsu
    simp (maxSteps := 4000000) (disch := omega) only [go_sem, w64, AndB_of, IfB_of, IfB_no, pickE_of, pickE_no, ite_of, ite_no, tdivE, tmodE, takeAll, hac, eg]
    refine CallB.law (s_markValueS l[i] hrl cur (by omega) (by omega) oR) ?_
    rintro _ H3 n3' ⟨rfl, oR3, hf3, rfl⟩
    have hid3 : H3 id = .live ver (b1 ++ ([ra] ++ b3)) := by
      rw [hf3 id n1, hac, hac3]
    have hMi : M[i]'(by omega) = mks mkGVal 3 l[i].length cur := by
      simp only [hM]
      rw [genL_get mkRo wRo ns k i (by simp; omega) (by omega), hni, ← hcur]
      rfl
    have hcl := o.close h2' hN (H' := H3) (y := M[i]'(by omega)) (n := l.length) cR_len (mixL_len hMl i).symm hid3
      (fun j hj => by rw [hf3 j (n5 j hj)])
      (by rw [hMi]; exact oR3)
    rw [mixL_parts hMl (by omega), ← o.e] at hcl
    simp (maxSteps := 4000000) (disch := omega) only [go_sem, w64, AndB_of, IfB_of, IfB_no, pickE_of, pickE_no, ite_of, ite_no, tdivE, tmodE, takeAll]
    refine ⟨⟨by omega, by omega, hcl, fun j hj => ?_⟩, by omega, ?_⟩
    · rw [o.e] at hj
      simp only [List.mem_cons, List.mem_append, not_or] at hj
      rw [hf3 j hj.2.2.1]
      exact hfr j (by rw [o.e]; simp [hj])
    · ((repeat' apply And.intro) <;> first | (exact Weak.go (by (first | (simp [wkL]; done) | (simp [wkL]; omega))) (fun zi => by first | exact .inl rfl | exact .inr rfl | (simp only [upd]; repeat' split) <;> first | exact .inl rfl | exact .inr rfl | (exfalso; omega) | exact .inr (hd _ (by omega)) | (left; subst_vars; exact hH.symm) | (left; subst_vars; rfl) | (left; simp; done) | (left; simp; omega)) (by omega)) | omega | rfl | assumption | exact Flat.nil | exact ⟨_, rfl, rfl, by assumption⟩ | (simp; done) | (simp; omega))
  · obtain rfl : i = l.length := by omega
    simp (maxSteps := 4000000) (disch := omega) only [go_sem, w64, AndB_of, IfB_of, IfB_no, pickE_of, pickE_no, ite_of, ite_no, tdivE, tmodE, takeAll]
    rw [mixL_all hMl rfl] at hO2
    rw [hcur, List.take_of_length_le (by omega)]
    unfold rowsA
    rw [hMl]
    exact ⟨rfl, hO2, hfr⟩
theorem cntRo (l : List GRow) (hl : l.length ≤ 1048576 ∧ ∀ v ∈ l, v.length ≤ 1048576) : 0 ≤ gcnt wRo (l.map fun v => v.length) ∧ gcnt wRo (l.map fun v => v.length) ≤ 3298538029056 := by
  have hb := gcnt_bound2 (w := wRo) (B := 3145731) (N := 1048576) (ns := l.map fun v => v.length) (by omega) (by simp; exact hl.1) (fun n hn => by
    obtain ⟨v, hv, rfl⟩ := List.mem_map.1 hn
    have := hl.2 v hv
    unfold wRo
    omega) l.length
  rw [List.take_of_length_le (by simp)] at hb
  omega
theorem s_markValueSS {H : AH} {S : List Nat} {nx : Nat} {a : AV} (l : List GRow) (hl : l.length ≤ 1048576 ∧ ∀ v ∈ l, v.length ≤ 1048576) (k : Int) (hk0 : 0 ≤ k) (hk1 : k ≤ 1125899906842624) (h : OwnL false H S [rowsA l] [a]) (hN : S.Nodup) :
    ACallD Try.prog 19 [a, .int .i64 k] H nx (fun r H' nx' => r = .int .i64 (k + gcnt wRo (l.map fun v => v.length)) ∧ OwnL false H' S [rowsA (genL mkRo wRo (l.map fun v => v.length) k)] [a] ∧ (∀ i, i ∉ S → H' i = H i) ∧ nx' = nx) :=
  mark_nest cR_len (by omega) l _ (by simp) k (fun e => by subst e; simp [gcnt]) (fun a ha => z_markValueSS a k ha) (fun id ver hO => m0_markValueSS l hl k hk0 hk1 hO hN) h
theorem m_markValueSS {H : AH} {lo hi nx : Nat} {a : AV} (l : List GRow) (hl : l.length ≤ 1048576 ∧ ∀ v ∈ l, v.length ≤ 1048576) (k : Int) (hk0 : 0 ≤ k) (hk1 : k ≤ 1125899906842624) (h : OwnR H lo hi (rowsA l) a) :
    ACallD Try.prog 19 [a, .int .i64 k] H nx (fun r H' nx' => r = .int .i64 (k + gcnt wRo (l.map fun v => v.length)) ∧ OwnR H' lo hi (rowsA (genL mkRo wRo (l.map fun v => v.length) k)) a ∧ (∀ i, ¬ (lo ≤ i ∧ i < hi) → H' i = H i) ∧ nx' = nx) :=
  ACallD.stretch (Q := fun r => r = .int .i64 (k + gcnt wRo (l.map fun v => v.length))) (fun S hO hN => s_markValueSS l hl k hk0 hk1 hO hN) h
theorem h_heldValueSS (ns : List Nat) (hn : ns.length ≤ 1048576 ∧ ∀ n ∈ ns, n ≤ 1048576) (k : Int) (hk0 : 0 ≤ k) (hk1 : k ≤ 1125899906842624) : QCall Try.prog 20 [rowsA (genL mkRo wRo ns k), .int .i64 k] (.int .i64 (k + gcnt wRo ns)) := by
  have hb := gcnt_bound2 (w := wRo) (B := 3145731) (N := 1048576) (ns := ns) (by omega) (by omega) fun n h => by
    have := hn.2 n h
    unfold wRo
    omega
  have hk00 : k = k + gcnt wRo (ns.take 0) := by simp [gcnt]
  refine qcall_body mixed Try.func20 _ (by unfold Try.f20; rfl) Try.ntmps20 Try.results20 (by decide) 0 (by simp) (by simp [pureL, pureA]) ?_
  unfold rowsA
  simp (maxSteps := 4000000) (disch := omega) only [go_sem, w64, AndB_of, IfB_of, IfB_no, pickE_of, pickE_no, ite_of, ite_no, tdivE, tmodE, takeAll, genL_len]
  refine LoopB.auto (fun zs => ((intOf (slotOf zs 5)).toNat, intOf (slotOf zs 1))) (fun zz => [(0, none), (0, some (.int .i64 (zz.2 : Int))), (3, some (.int .i64 (zz.1 : Int)))]) (fun zz => noH) (fun zz => 0) (fun zz => ns.length - zz.1) (fun zz => zz.1 ≤ ns.length ∧ zz.2 = k + gcnt wRo (ns.take zz.1)) (by (first | simp (maxSteps := 4000000) (disch := omega) only [go_sem, w64, AndB_of, IfB_of, IfB_no, pickE_of, pickE_no, ite_of, ite_no, tdivE, tmodE, takeAll, hH] | simp (maxSteps := 4000000) (disch := omega) only [go_sem, w64, AndB_of, IfB_of, IfB_no, pickE_of, pickE_no, ite_of, ite_no, tdivE, tmodE, takeAll]); ((repeat' apply And.intro) <;> first | exact hk00 | (exact Weak.go (by (first | (simp [wkL]; done) | (simp [wkL]; omega))) (fun zi => by first | exact .inl rfl | exact .inr rfl | (simp only [upd]; repeat' split) <;> first | exact hk00 | exact .inl rfl | exact .inr rfl | (exfalso; omega) | exact .inr (hd _ (by omega)) | (left; subst_vars; exact hH.symm) | (left; subst_vars; rfl) | (left; simp; done) | (left; simp; omega)) (by omega)) | omega | rfl | assumption | exact Flat.nil | exact ⟨_, rfl, rfl, by assumption⟩ | (simp; done) | (simp; omega))) ?_
  intro zz zh
  obtain ⟨i, cur⟩ := zz
  dsimp only at zh
  obtain ⟨hi, hcur⟩ := zh
  simp (maxSteps := 4000000) (disch := omega) only [go_sem, w64, AndB_of, IfB_of, IfB_no, pickE_of, pickE_no, ite_of, ite_no, tdivE, tmodE, takeAll]
  have hbi := hb i
  refine IfB.dec (fun h1 => ?_) (fun h1 => ?_)
  · have h1' : i < ns.length := by omega
    have hi2 : i < (genL mkRo wRo ns k).length := by simpa using h1'
    have e : (genL mkRo wRo ns k)[i] = mks mkGVal 3 ns[i] cur := by
      rw [genL_get mkRo wRo ns k i hi2 h1', ← hcur]
      rfl
    have hni := hn.2 _ (List.getElem_mem h1')
    have hsu := gcnt_succ wRo h1'
    have hw : wRo ns[i] = 3 * ns[i] := rfl
    rw [hw] at hsu
    have hbn := hb (i + 1)
    simp (maxSteps := 4000000) (disch := omega) only [go_sem, w64, AndB_of, IfB_of, IfB_no, pickE_of, pickE_no, ite_of, ite_no, tdivE, tmodE, takeAll, e, genL_len]
    repeat' (first | (refine IfB.dec2 (fun h hd => ?_) (fun h hd => ?_) <;> (try (have h2 := h; unfold inR at h2)) <;> (try simp (maxSteps := 4000000) (disch := omega) only [go_sem, w64, AndB_of, IfB_of, IfB_no, pickE_of, pickE_no, ite_of, ite_no, tdivE, tmodE, takeAll, hd])) | (refine IfB.split (fun h => ?_) (fun h => ?_) <;> (try simp (maxSteps := 4000000) (disch := omega) only [go_sem, w64, AndB_of, IfB_of, IfB_no, pickE_of, pickE_no, ite_of, ite_no, tdivE, tmodE, takeAll, h])) | (refine DrawB.quiet (by kernel_rfl) ?_; simp (maxSteps := 4000000) (disch := omega) only [go_sem, w64, AndB_of, IfB_of, IfB_no, pickE_of, pickE_no, ite_of, ite_no, tdivE, tmodE, takeAll]) | (apply CallB.q (h_heldValueS ns[i] hni cur (by omega) (by omega)); simp (maxSteps := 4000000) (disch := omega) only [go_sem, w64, AndB_of, IfB_of, IfB_no, pickE_of, pickE_no, ite_of, ite_no, tdivE, tmodE, takeAll]) | (apply DCallB.q0 (h_heldValueS ns[i] hni cur (by omega) (by omega)); simp (maxSteps := 4000000) (disch := omega) only [go_sem, w64, AndB_of, IfB_of, IfB_no, pickE_of, pickE_no, ite_of, ite_no, tdivE, tmodE, takeAll]))
    ((repeat' apply And.intro) <;> first | (exact Weak.go (by (first | (simp [wkL]; done) | (simp [wkL]; omega))) (fun zi => by first | exact .inl rfl | exact .inr rfl | (simp only [upd]; repeat' split) <;> first | exact .inl rfl | exact .inr rfl | (exfalso; omega) | exact .inr (hd _ (by omega)) | (left; subst_vars; exact hH.symm) | (left; subst_vars; rfl) | (left; simp; done) | (left; simp; omega)) (by omega)) | omega | rfl | assumption | exact Flat.nil | exact ⟨_, rfl, rfl, by assumption⟩ | (simp; done) | (simp; omega))
  · simp (maxSteps := 4000000) (disch := omega) only [go_sem, w64, AndB_of, IfB_of, IfB_no, pickE_of, pickE_no, ite_of, ite_no, tdivE, tmodE, takeAll]
    rw [hcur, List.take_of_length_le (by omega)]
theorem zRo_own {H : AH} : OwnL false H [] (cR []) [.sl 0 true []] := .leaf rfl rfl .nil
theorem o_toValueSS (l : List GRow) (hb : l.length ≤ 1048576 ∧ ∀ v ∈ l, v.length ≤ 1048576 ∧ ∀ x ∈ v, VB x) : ACallD Try.prog 16 [rowsA l] noH 0 (fun r H' n' => OwnR H' 0 n' (rowsA l) r) := by
  obtain ⟨Z, hZ⟩ : ∃ Z : List GRow, Z = List.replicate l.length [] := ⟨_, rfl⟩
  have hZl : l.length = Z.length := by rw [hZ]; simp
  have hO0 : ∀ ver, OwnR (upd noH 0 (.live ver (fillL cR [.sl 0 true []] l 0))) 0 1 (.sl l.length false (flat cR (mixL l Z 0))) (.msl 0 ver 1 0 l.length) := fun ver => by
    rw [mixL_zero, hZ, ← fillL_zero]
    exact ⟨[0], .sl (upd_same ..) (by rw [cR_flen, List.length_replicate, Nat.mul_one]) (OwnL.zeros (c := cR) (zz := []) (z := [.sl 0 true []]) zRo_own _) .nil (S := [0]) rfl, by simp, fun i hi => by simp at hi; omega⟩
  refine dcall_body mixed Try.func16 _ (by unfold Try.f16; rfl) Try.ntmps16 Try.results16 (by decide) (by simp) ?_
  unfold rowsA
  simp (maxSteps := 4000000) (disch := omega) only [go_sem, w64, AndB_of, IfB_of, IfB_no, pickE_of, pickE_no, ite_of, ite_no, tdivE, tmodE, takeAll, fillL_zero (c := cR) l]
  refine LoopB.auto (fun zs => ((intOf (slotOf zs 4)).toNat, heapOf zs, nxOf zs)) (fun zz => [(0, none), (2, none), (0, some (.int .i64 (zz.1 : Int)))]) (fun zz => zz.2.1) (fun zz => zz.2.2) (fun zz => l.length - zz.1) (fun zz => zz.1 ≤ l.length ∧ 0 < zz.2.2 ∧ OwnR zz.2.1 0 zz.2.2 (.sl l.length false (flat cR (mixL l Z zz.1))) (.msl 0 0 1 0 l.length)) (by (first | simp (maxSteps := 4000000) (disch := omega) only [go_sem, w64, AndB_of, IfB_of, IfB_no, pickE_of, pickE_no, ite_of, ite_no, tdivE, tmodE, takeAll, hH] | simp (maxSteps := 4000000) (disch := omega) only [go_sem, w64, AndB_of, IfB_of, IfB_no, pickE_of, pickE_no, ite_of, ite_no, tdivE, tmodE, takeAll]); ((repeat' apply And.intro) <;> first | exact hO0 0 | (exact Weak.go (by (first | (simp [wkL]; done) | (simp [wkL]; omega))) (fun zi => by first | exact .inl rfl | exact .inr rfl | (simp only [upd]; repeat' split) <;> first | exact hO0 0 | exact .inl rfl | exact .inr rfl | (exfalso; omega) | exact .inr (hd _ (by omega)) | (left; subst_vars; exact hH.symm) | (left; subst_vars; rfl) | (left; simp; done) | (left; simp; omega)) (by omega)) | omega | rfl | assumption | exact Flat.nil | exact ⟨_, rfl, rfl, by assumption⟩ | (simp; done) | (simp; omega))) ?_
  intro zz zh
  obtain ⟨k, h, x⟩ := zz
  dsimp only at zh
  obtain ⟨hk, hx, hO⟩ := zh
  simp (maxSteps := 4000000) (disch := omega) only [go_sem, w64, AndB_of, IfB_of, IfB_no, pickE_of, pickE_no, ite_of, ite_no, tdivE, tmodE, takeAll]
  obtain ⟨S, hS, hN, hr⟩ := hO
  obtain ⟨ac, hac⟩ := hS.top
  refine IfB.dec (fun hlt => ?_) (fun hlt => ?_)
  · have hlt' : k < l.length := by omega
    simp (maxSteps := 4000000) (disch := omega) only [go_sem, w64, AndB_of, IfB_of, IfB_no, pickE_of, pickE_no, ite_of, ite_no, tdivE, tmodE, takeAll, hac]
    refine CallB.fresh (Pict.cons (Pict.pure (by simp [pureA, pureL])) Pict.nil) (o_toValueS l[k] (hb.2 _ (List.getElem_mem hlt'))) fun ra H2 n2' hO2 hn hH => ?_
    obtain ⟨S2, h4, hN2, hr2⟩ := hO2
    have hca : cellsA H2 ra = some [ra] := h4.cellsA
    have hac2 : H2 0 = .live 0 ac := by rw [hH 0 (by omega), hac]
    have h2' : k < (mixL l Z k).length := by rw [mixL_len hZl]; omega
    obtain ⟨b1, ai, b3, S1, Si, S3, o⟩ := hS.open1 h2'
    obtain ⟨rz, rfl, oR⟩ := (o.oi h2').one
    have hb1 : b1.length = k := by rw [← o.o1.len, cR_flen]; simp; omega
    have hac4 := hac.symm.trans o.hl
    injection hac4 with _ hac3
    have hal : ac.length = l.length := by
      rw [hac3, List.length_append, List.length_append, hb1, ← o.o3.len, cR_flen]
      simp [mixL_len hZl]
      omega
    have es : ac.take k ++ [ra] ++ ac.drop (k + 1) = b1 ++ ([ra] ++ b3) := by
      rw [hac3]
      exact setL_mid (p := [_]) (r := b3) hb1 rfl
    obtain ⟨n1, n2, n3, n4, n5⟩ := o.nd hN
    simp (maxSteps := 4000000) (disch := omega) only [go_sem, w64, AndB_of, IfB_of, IfB_no, pickE_of, pickE_no, ite_of, ite_no, tdivE, tmodE, takeAll, hca, hac2, es]
    have hcl := o.close (H' := upd H2 0 (.live 0 (b1 ++ ([ra] ++ b3)))) h2' hN (y := l[k]) (n := l.length) cR_len (by rw [mixL_len hZl]; exact hZl) (upd_same ..)
      (fun j hj => by
        have hjS : j ∈ S := by rw [o.e]; rcases hj with hj | hj <;> simp [hj]
        have := hr j hjS
        rw [upd_ne, hH j (by omega)]
        rintro rfl; rcases hj with hj | hj; exact n2 hj; exact n3 hj)
      (h4.congr fun j hj => upd_ne _ _ (by have := hr2 j hj; omega))
    rw [mixL_parts hZl (by omega)] at hcl
    have hOk : OwnR (upd H2 0 (.live 0 (b1 ++ ([ra] ++ b3)))) 0 n2' (.sl l.length false (flat cR (mixL l Z (k + 1)))) (.msl 0 0 1 0 l.length) := by
      refine ⟨_, hcl, ?_, fun j hj => ?_⟩
      · rw [o.e] at hN
        simp only [List.nodup_cons, List.nodup_append, List.mem_append, not_or] at hN ⊢
        refine ⟨⟨hN.1.1, fun h => ?_, hN.1.2.2⟩, hN.2.1, ⟨hN2, hN.2.2.1.2.1, fun a ha b hb => ?_⟩, fun a ha b hb => ?_⟩
        · have := hr2 0 h; omega
        · have h5 := hr b (by rw [o.e]; simp [hb]); have h6 := hr2 a ha; omega
        · rcases hb with hb | hb
          · have h5 := hr a (by rw [o.e]; simp [ha]); have h6 := hr2 b hb; omega
          · exact hN.2.2.2 a ha b (.inr hb)
      · simp only [List.mem_cons, List.mem_append] at hj
        rcases hj with rfl | hj | hj | hj
        · omega
        · have h5 := hr j (by rw [o.e]; simp [hj]); omega
        · have h6 := hr2 j hj; omega
        · have h5 := hr j (by rw [o.e]; simp [hj]); omega
    refine ⟨⟨by omega, by omega, hOk⟩, by omega, ?_⟩
    ((repeat' apply And.intro) <;> first | (exact Weak.go (by (first | (simp [wkL]; done) | (simp [wkL]; omega))) (fun zi => by first | exact .inl rfl | exact .inr rfl | (simp only [upd]; repeat' split) <;> first | exact .inl rfl | exact .inr rfl | (exfalso; omega) | exact .inr (hd _ (by omega)) | (left; subst_vars; exact hH.symm) | (left; subst_vars; rfl) | (left; simp; done) | (left; simp; omega)) (by omega)) | omega | rfl | assumption | exact Flat.nil | exact ⟨_, rfl, rfl, by assumption⟩ | (simp; done) | (simp; omega))
  · have : k = l.length := by omega
    subst this
    simp (maxSteps := 4000000) (disch := omega) only [go_sem, w64, AndB_of, IfB_of, IfB_no, pickE_of, pickE_no, ite_of, ite_no, tdivE, tmodE, takeAll]
    rw [mixL_all rfl hZl.symm] at hS
    exact ⟨S, hS, hN, hr⟩
end Go.TH
