/- TH: what is one's own: lists of parts with places of their own: the walks. Made by gen.py. -/
import Derived.Test.YtdifgeiodkiilaaTf3
import Derived.Test.YtdifgeiodkiilaaTcow
namespace Go.TH
open Go Go.Proofs
set_option linter.unusedSimpArgs false
set_option linter.unusedVariables false
set_option maxHeartbeats 20000000
set_option maxRecDepth 100000
def mkVr (n : Nat) (k : Int) : GVer := ⟨k, k + 1, k + 2, mks mkGVal 3 n (k + 3)⟩
def wVr (n : Nat) : Int := 3 + 3 * n
theorem z_markVersionS {H : AH} {nx : Nat} (a : AV) (k : Int) (ha : Empty0 H a) : ACallD Try.prog 33 [a, .int .i64 k] H nx (fun r H' nx' => r = .int .i64 k ∧ H' = H ∧ nx' = nx) := by
  rcases ha with ⟨t, rfl⟩ | ⟨id, ver, sz, rfl, hH⟩
  · refine dcall_body mixed Try.func33 _ (by unfold Try.f33; rfl) Try.ntmps33 Try.results33 (by decide) (by simp) ?_
    simp (maxSteps := 4000000) (disch := omega) only [go_sem, w64, AndB_of, IfB_of, IfB_no, pickE_of, pickE_no, ite_of, ite_no, tdivE, tmodE, takeAll]
    refine LoopB.unroll ?_
    simp (maxSteps := 4000000) (disch := omega) only [go_sem, w64, AndB_of, IfB_of, IfB_no, pickE_of, pickE_no, ite_of, ite_no, tdivE, tmodE, takeAll]
  · refine dcall_body mixed Try.func33 _ (by unfold Try.f33; rfl) Try.ntmps33 Try.results33 (by decide) (by simp) ?_
    simp (maxSteps := 4000000) (disch := omega) only [go_sem, w64, AndB_of, IfB_of, IfB_no, pickE_of, pickE_no, ite_of, ite_no, tdivE, tmodE, takeAll, hH]
    refine LoopB.unroll ?_
    simp (maxSteps := 4000000) (disch := omega) only [go_sem, w64, AndB_of, IfB_of, IfB_no, pickE_of, pickE_no, ite_of, ite_no, tdivE, tmodE, takeAll, hH]
theorem m0_markVersionS {H : AH} {S : List Nat} {id ver nx : Nat} (l : List GVer) (hl : l.length ≤ 1048576 ∧ ∀ v ∈ l, v.row.length ≤ 1048576) (k : Int) (hk0 : 0 ≤ k) (hk1 : k ≤ 1125899906842624) (hO : OwnL false H S [versA l] [.msl id ver 4 0 l.length]) (hN : S.Nodup) :
    ACallD Try.prog 33 [.msl id ver 4 0 l.length, .int .i64 k] H nx (fun r H' nx' => r = .int .i64 (k + gcnt wVr (l.map fun v => v.row.length)) ∧ OwnL false H' S [versA (genL mkVr wVr (l.map fun v => v.row.length) k)] [.msl id ver 4 0 l.length] ∧ (∀ i, i ∉ S → H' i = H i) ∧ nx' = nx) := by
  obtain ⟨ns, hns⟩ : ∃ ns, ns = l.map fun v => v.row.length := ⟨_, rfl⟩
  obtain ⟨M, hM⟩ : ∃ M, M = genL mkVr wVr ns k := ⟨_, rfl⟩
  have hnl : ns.length = l.length := by rw [hns]; simp
  have hMl : M.length = l.length := by rw [hM, genL_len, hnl]
  have hb := gcnt_bound2 (w := wVr) (B := 3145731) (N := 1048576) (ns := ns) (by omega) (by omega) fun n hn => by
    rw [hns] at hn
    obtain ⟨v, hv, rfl⟩ := List.mem_map.1 hn
    have := hl.2 v hv
    unfold wVr
    omega
  rw [← hns, ← hM]
  have hO0 : OwnL false H S [.sl l.length false (flat GVer.c (mixL M l 0))] [.msl id ver 4 0 l.length] := by rw [mixL_zero]; exact hO
  have hk00 : k = k + gcnt wVr (ns.take 0) := by simp [gcnt]
  refine dcall_body mixed Try.func33 _ (by unfold Try.f33; rfl) Try.ntmps33 Try.results33 (by decide) (by simp) ?_
  simp (maxSteps := 4000000) (disch := omega) only [go_sem, w64, AndB_of, IfB_of, IfB_no, pickE_of, pickE_no, ite_of, ite_no, tdivE, tmodE, takeAll]
  refine LoopB.auto (fun zs => ((intOf (slotOf zs 5)).toNat, intOf (slotOf zs 1), heapOf zs)) (fun zz => [(0, none), (0, some (.int .i64 (zz.2.1 : Int))), (3, some (.int .i64 (zz.1 : Int)))]) (fun zz => zz.2.2) (fun zz => nx) (fun zz => l.length - zz.1) (fun zz => zz.1 ≤ l.length ∧ zz.2.1 = k + gcnt wVr (ns.take zz.1) ∧ OwnL false zz.2.2 S [.sl l.length false (flat GVer.c (mixL M l zz.1))] [.msl id ver 4 0 l.length] ∧ (∀ j, j ∉ S → zz.2.2 j = H j)) (by (first | simp (maxSteps := 4000000) (disch := omega) only [go_sem, w64, AndB_of, IfB_of, IfB_no, pickE_of, pickE_no, ite_of, ite_no, tdivE, tmodE, takeAll, hH] | simp (maxSteps := 4000000) (disch := omega) only [go_sem, w64, AndB_of, IfB_of, IfB_no, pickE_of, pickE_no, ite_of, ite_no, tdivE, tmodE, takeAll]); ((repeat' apply And.intro) <;> first | exact hO0 | exact hk00 | exact fun _ _ => rfl | (exact Weak.go (by (first | (simp [wkL]; done) | (simp [wkL]; omega))) (fun zi => by first | exact .inl rfl | exact .inr rfl | (simp only [upd]; repeat' split) <;> first | exact hO0 | exact hk00 | exact fun _ _ => rfl | exact .inl rfl | exact .inr rfl | (exfalso; omega) | exact .inr (hd _ (by omega)) | (left; subst_vars; exact hH.symm) | (left; subst_vars; rfl) | (left; simp; done) | (left; simp; omega)) (by omega)) | omega | rfl | assumption | exact Flat.nil | exact ⟨_, rfl, rfl, by assumption⟩ | (simp; done) | (simp; omega))) ?_
  intro zz zh
  obtain ⟨i, cur, h⟩ := zz
  dsimp only at zh
  obtain ⟨hi, hcur, hO2, hfr⟩ := zh
  simp (maxSteps := 4000000) (disch := omega) only [go_sem, w64, AndB_of, IfB_of, IfB_no, pickE_of, pickE_no, ite_of, ite_no, tdivE, tmodE, takeAll]
  have hbi := hb i
  obtain ⟨ac, hac⟩ := hO2.top
  simp (maxSteps := 4000000) (disch := omega) only [go_sem, w64, AndB_of, IfB_of, IfB_no, pickE_of, pickE_no, ite_of, ite_no, tdivE, tmodE, takeAll, hac]
  refine IfB.dec (fun h1 => ?_) (fun h1 => ?_)
  · have h1' : i < l.length := by omega
    have h2' : i < (mixL M l i).length := by rw [mixL_len hMl]; omega
    obtain ⟨b1, ai, b3, S1, Si, S3, o⟩ := hO2.open1 h2'
    obtain ⟨ra, rfl, oR⟩ := (o.oi h2').plain3
    have hb1 : b1.length = i * 4 := by rw [← o.o1.len, flat_len GVer.len]; simp; omega
    have hac2 := hac.symm.trans o.hl
    injection hac2 with _ hac3
    have hal : ac.length = l.length * 4 := by
      rw [hac3, List.length_append, List.length_append, hb1, ← o.o3.len, flat_len GVer.len]
      simp [mixL_len hMl]
      omega
    simp (maxSteps := 4000000) (disch := omega) only [go_sem, w64, AndB_of, IfB_of, IfB_no, pickE_of, pickE_no, ite_of, ite_no, tdivE, tmodE, takeAll, hac, put_1, put_1z, put_2, put_3, put_4, put_5, put_6, put_7, setL_len1, setL_len2, setL_len3, setL_len4, setL_len5, setL_len6]
    have em : (mixL M l i)[i] = l[i] := mixL_get hMl h1' h2'
    have es : setL ac (i * 4) [.int .i64 cur, .int .i64 (cur + 1), .int .i64 (cur + 1 + 1)] = b1 ++ ([.int .i64 cur, .int .i64 (cur + 1), .int .i64 (cur + 1 + 1)] ++ ra :: b3) := by
      rw [hac3]
      exact setL_mid (p := [_, _, _]) (r := ra :: b3) hb1 rfl
    have eg : (b1 ++ (AV.int .i64 cur :: AV.int .i64 (cur + 1) :: AV.int .i64 (cur + 1 + 1) :: ra :: b3)).getD (i * 4 + 3) .junk = ra := getD_mid (xs := [_, _, _]) hb1 rfl
    obtain ⟨n1, n2, n3, n4, n5⟩ := o.nd hN
    rw [em] at oR
    have hrl := hl.2 _ (List.getElem_mem h1')
    have hni : ns[i]'(by omega) = l[i].row.length := by simp [hns]
    have hsu := gcnt_succ wVr (ns := ns) (i := i) (by omega)
    rw [hni] at hsu
    have hbn := hb (i + 1)
    have hw : wVr l[i].row.length = 3 + 3 * l[i].row.length := rfl
    rw [hw] at hsu
    have oR' : OwnL false (upd h id (.live ver (b1 ++ ([.int .i64 cur, .int .i64 (cur + 1), .int .i64 (cur + 1 + 1)] ++ ra :: b3)))) Si [rowA l[i].row] [ra] := oR.congr fun j hj => upd_ne _ _ (by rintro rfl; exact n1 hj)
    simp (maxSteps := 4000000) (disch := omega) only [go_sem, w64, AndB_of, IfB_of, IfB_no, pickE_of, pickE_no, ite_of, ite_no, tdivE, tmodE, takeAll, es, eg]
    refine CallB.law (s_markValueS l[i].row hrl (cur + 1 + 1 + 1) (by omega) (by omega) oR') ?_
    rintro _ H3 n3' ⟨rfl, oR3, hf3, rfl⟩
    have hid3 : H3 id = .live ver (b1 ++ ([.int .i64 cur, .int .i64 (cur + 1), .int .i64 (cur + 1 + 1), ra] ++ b3)) := by
      rw [hf3 id n1, upd_same]; rfl
    have hMi : M[i]'(by omega) = ⟨cur, cur + 1, cur + 1 + 1, mks mkGVal 3 l[i].row.length (cur + 1 + 1 + 1)⟩ := by
      simp only [hM]
      rw [genL_get mkVr wVr ns k i (by simp; omega) (by omega), hni, ← hcur]
      simp only [mkVr, Int.add_assoc]
      rfl
    have hcl := o.close h2' hN (H' := H3) (y := M[i]'(by omega)) (n := l.length) GVer.len (mixL_len hMl i).symm hid3
      (fun j hj => by rw [hf3 j (n5 j hj), upd_ne]; rintro rfl; rcases hj with hj | hj; exact n2 hj; exact n3 hj)
      (by rw [hMi]; exact oR3.plains)
    rw [mixL_parts hMl (by omega), ← o.e] at hcl
    simp (maxSteps := 4000000) (disch := omega) only [go_sem, w64, AndB_of, IfB_of, IfB_no, pickE_of, pickE_no, ite_of, ite_no, tdivE, tmodE, takeAll]
    refine ⟨⟨by omega, by omega, hcl, fun j hj => ?_⟩, by omega, ?_⟩
    · rw [o.e] at hj
      simp only [List.mem_cons, List.mem_append, not_or] at hj
      rw [hf3 j hj.2.2.1, upd_ne _ _ hj.1]
      exact hfr j (by rw [o.e]; simp [hj])
    · ((repeat' apply And.intro) <;> first | (exact Weak.go (by (first | (simp [wkL]; done) | (simp [wkL]; omega))) (fun zi => by first | exact .inl rfl | exact .inr rfl | (simp only [upd]; repeat' split) <;> first | exact .inl rfl | exact .inr rfl | (exfalso; omega) | exact .inr (hd _ (by omega)) | (left; subst_vars; exact hH.symm) | (left; subst_vars; rfl) | (left; simp; done) | (left; simp; omega)) (by omega)) | omega | rfl | assumption | exact Flat.nil | exact ⟨_, rfl, rfl, by assumption⟩ | (simp; done) | (simp; omega))
  · obtain rfl : i = l.length := by omega
    simp (maxSteps := 4000000) (disch := omega) only [go_sem, w64, AndB_of, IfB_of, IfB_no, pickE_of, pickE_no, ite_of, ite_no, tdivE, tmodE, takeAll]
    rw [mixL_all hMl rfl] at hO2
    rw [hcur, List.take_of_length_le (by omega)]
    unfold versA
    rw [hMl]
    exact ⟨rfl, hO2, hfr⟩
theorem cntVr (l : List GVer) (hl : l.length ≤ 1048576 ∧ ∀ v ∈ l, v.row.length ≤ 1048576) : 0 ≤ gcnt wVr (l.map fun v => v.row.length) ∧ gcnt wVr (l.map fun v => v.row.length) ≤ 3298538029056 := by
  have hb := gcnt_bound2 (w := wVr) (B := 3145731) (N := 1048576) (ns := l.map fun v => v.row.length) (by omega) (by simp; exact hl.1) (fun n hn => by
    obtain ⟨v, hv, rfl⟩ := List.mem_map.1 hn
    have := hl.2 v hv
    unfold wVr
    omega) l.length
  rw [List.take_of_length_le (by simp)] at hb
  omega
theorem s_markVersionS {H : AH} {S : List Nat} {nx : Nat} {a : AV} (l : List GVer) (hl : l.length ≤ 1048576 ∧ ∀ v ∈ l, v.row.length ≤ 1048576) (k : Int) (hk0 : 0 ≤ k) (hk1 : k ≤ 1125899906842624) (h : OwnL false H S [versA l] [a]) (hN : S.Nodup) :
    ACallD Try.prog 33 [a, .int .i64 k] H nx (fun r H' nx' => r = .int .i64 (k + gcnt wVr (l.map fun v => v.row.length)) ∧ OwnL false H' S [versA (genL mkVr wVr (l.map fun v => v.row.length) k)] [a] ∧ (∀ i, i ∉ S → H' i = H i) ∧ nx' = nx) :=
  mark_nest GVer.len (by omega) l _ (by simp) k (fun e => by subst e; simp [gcnt]) (fun a ha => z_markVersionS a k ha) (fun id ver hO => m0_markVersionS l hl k hk0 hk1 hO hN) h
theorem m_markVersionS {H : AH} {lo hi nx : Nat} {a : AV} (l : List GVer) (hl : l.length ≤ 1048576 ∧ ∀ v ∈ l, v.row.length ≤ 1048576) (k : Int) (hk0 : 0 ≤ k) (hk1 : k ≤ 1125899906842624) (h : OwnR H lo hi (versA l) a) :
    ACallD Try.prog 33 [a, .int .i64 k] H nx (fun r H' nx' => r = .int .i64 (k + gcnt wVr (l.map fun v => v.row.length)) ∧ OwnR H' lo hi (versA (genL mkVr wVr (l.map fun v => v.row.length) k)) a ∧ (∀ i, ¬ (lo ≤ i ∧ i < hi) → H' i = H i) ∧ nx' = nx) :=
  ACallD.stretch (Q := fun r => r = .int .i64 (k + gcnt wVr (l.map fun v => v.row.length))) (fun S hO hN => s_markVersionS l hl k hk0 hk1 hO hN) h
theorem h_heldVersionS (ns : List Nat) (hn : ns.length ≤ 1048576 ∧ ∀ n ∈ ns, n ≤ 1048576) (k : Int) (hk0 : 0 ≤ k) (hk1 : k ≤ 1125899906842624) : QCall Try.prog 41 [versA (genL mkVr wVr ns k), .int .i64 k] (.int .i64 (k + gcnt wVr ns)) := by
  have hb := gcnt_bound2 (w := wVr) (B := 3145731) (N := 1048576) (ns := ns) (by omega) (by omega) fun n h => by
    have := hn.2 n h
    unfold wVr
    omega
  have hk00 : k = k + gcnt wVr (ns.take 0) := by simp [gcnt]
  refine qcall_body mixed Try.func41 _ (by unfold Try.f41; rfl) Try.ntmps41 Try.results41 (by decide) 0 (by simp) (by simp [pureL, pureA]) ?_
  unfold versA
  simp (maxSteps := 4000000) (disch := omega) only [go_sem, w64, AndB_of, IfB_of, IfB_no, pickE_of, pickE_no, ite_of, ite_no, tdivE, tmodE, takeAll, genL_len]
  refine LoopB.auto (fun zs => ((intOf (slotOf zs 5)).toNat, intOf (slotOf zs 1))) (fun zz => [(0, none), (0, some (.int .i64 (zz.2 : Int))), (3, some (.int .i64 (zz.1 : Int)))]) (fun zz => noH) (fun zz => 0) (fun zz => ns.length - zz.1) (fun zz => zz.1 ≤ ns.length ∧ zz.2 = k + gcnt wVr (ns.take zz.1)) (by (first | simp (maxSteps := 4000000) (disch := omega) only [go_sem, w64, AndB_of, IfB_of, IfB_no, pickE_of, pickE_no, ite_of, ite_no, tdivE, tmodE, takeAll, hH] | simp (maxSteps := 4000000) (disch := omega) only [go_sem, w64, AndB_of, IfB_of, IfB_no, pickE_of, pickE_no, ite_of, ite_no, tdivE, tmodE, takeAll]); ((repeat' apply And.intro) <;> first | exact hk00 | (exact Weak.go (by (first | (simp [wkL]; done) | (simp [wkL]; omega))) (fun zi => by first | exact .inl rfl | exact .inr rfl | (simp only [upd]; repeat' split) <;> first | exact hk00 | exact .inl rfl | exact .inr rfl | (exfalso; omega) | exact .inr (hd _ (by omega)) | (left; subst_vars; exact hH.symm) | (left; subst_vars; rfl) | (left; simp; done) | (left; simp; omega)) (by omega)) | omega | rfl | assumption | exact Flat.nil | exact ⟨_, rfl, rfl, by assumption⟩ | (simp; done) | (simp; omega))) ?_
  intro zz zh
  obtain ⟨i, cur⟩ := zz
  dsimp only at zh
  obtain ⟨hi, hcur⟩ := zh
  simp (maxSteps := 4000000) (disch := omega) only [go_sem, w64, AndB_of, IfB_of, IfB_no, pickE_of, pickE_no, ite_of, ite_no, tdivE, tmodE, takeAll]
  have hbi := hb i
  refine IfB.dec (fun h1 => ?_) (fun h1 => ?_)
  · have h1' : i < ns.length := by omega
    have hi2 : i < (genL mkVr wVr ns k).length := by simpa using h1'
    have e : (genL mkVr wVr ns k)[i] = ⟨cur, cur + 1, cur + 1 + 1, mks mkGVal 3 ns[i] (cur + 1 + 1 + 1)⟩ := by
      rw [genL_get mkVr wVr ns k i hi2 h1', ← hcur]
      simp only [mkVr, Int.add_assoc]
      rfl
    have hni := hn.2 _ (List.getElem_mem h1')
    have hsu := gcnt_succ wVr h1'
    have hw : wVr ns[i] = 3 + 3 * ns[i] := rfl
    rw [hw] at hsu
    have hbn := hb (i + 1)
    simp (maxSteps := 4000000) (disch := omega) only [go_sem, w64, AndB_of, IfB_of, IfB_no, pickE_of, pickE_no, ite_of, ite_no, tdivE, tmodE, takeAll, e, genL_len]
    repeat' (first | (refine IfB.dec2 (fun h hd => ?_) (fun h hd => ?_) <;> (try (have h2 := h; unfold inR at h2)) <;> (try simp (maxSteps := 4000000) (disch := omega) only [go_sem, w64, AndB_of, IfB_of, IfB_no, pickE_of, pickE_no, ite_of, ite_no, tdivE, tmodE, takeAll, hd])) | (refine IfB.split (fun h => ?_) (fun h => ?_) <;> (try simp (maxSteps := 4000000) (disch := omega) only [go_sem, w64, AndB_of, IfB_of, IfB_no, pickE_of, pickE_no, ite_of, ite_no, tdivE, tmodE, takeAll, h])) | (refine DrawB.quiet (by kernel_rfl) ?_; simp (maxSteps := 4000000) (disch := omega) only [go_sem, w64, AndB_of, IfB_of, IfB_no, pickE_of, pickE_no, ite_of, ite_no, tdivE, tmodE, takeAll]) | (apply CallB.q (h_heldValueS ns[i] hni (cur + 1 + 1 + 1) (by omega) (by omega)); simp (maxSteps := 4000000) (disch := omega) only [go_sem, w64, AndB_of, IfB_of, IfB_no, pickE_of, pickE_no, ite_of, ite_no, tdivE, tmodE, takeAll]) | (apply DCallB.q0 (h_heldValueS ns[i] hni (cur + 1 + 1 + 1) (by omega) (by omega)); simp (maxSteps := 4000000) (disch := omega) only [go_sem, w64, AndB_of, IfB_of, IfB_no, pickE_of, pickE_no, ite_of, ite_no, tdivE, tmodE, takeAll]))
    ((repeat' apply And.intro) <;> first | (exact Weak.go (by (first | (simp [wkL]; done) | (simp [wkL]; omega))) (fun zi => by first | exact .inl rfl | exact .inr rfl | (simp only [upd]; repeat' split) <;> first | exact .inl rfl | exact .inr rfl | (exfalso; omega) | exact .inr (hd _ (by omega)) | (left; subst_vars; exact hH.symm) | (left; subst_vars; rfl) | (left; simp; done) | (left; simp; omega)) (by omega)) | omega | rfl | assumption | exact Flat.nil | exact ⟨_, rfl, rfl, by assumption⟩ | (simp; done) | (simp; omega))
  · simp (maxSteps := 4000000) (disch := omega) only [go_sem, w64, AndB_of, IfB_of, IfB_no, pickE_of, pickE_no, ite_of, ite_no, tdivE, tmodE, takeAll]
    rw [hcur, List.take_of_length_le (by omega)]
theorem o_toVersion (v : GVer) (hb : VrB v) : ACallD Try.prog 90 [.agg [.int .i64 v.key, .int .i64 v.born, .int .i64 v.died, rowA v.row]] noH 0 (fun r H' n' => OwnR H' 0 n' (.agg [.int .i64 v.key, .int .i64 v.born, .int .i64 v.died, rowA v.row]) r) := by
  refine dcall_body mixed Try.func90 _ (by unfold Try.f90; rfl) Try.ntmps90 Try.results90 (by decide) (by simp) ?_
  simp (maxSteps := 4000000) (disch := omega) only [go_sem, w64, AndB_of, IfB_of, IfB_no, pickE_of, pickE_no, ite_of, ite_no, tdivE, tmodE, takeAll]
  refine CallB.fresh (Pict.cons (Pict.pure (rowA_pure _)) Pict.nil) (o_toValueS v.row hb) fun ra H2 n2 hO hn hH => ?_
  have h2 : H2 2 = .live 0 [.int .i64 v.key, .int .i64 v.born, .int .i64 v.died, .sl 0 true []] := by rw [hH 2 (by omega)]; rfl
  obtain ⟨S, h1, hN, hr⟩ := hO
  have hca : cellsA H2 ra = some [ra] := h1.cellsA
  have h1' : H2 1 = .live 0 [.int .i64 0, .int .i64 0, .int .i64 0, .sl 0 true []] := by rw [hH 1 (by omega)]; rfl
  simp (maxSteps := 4000000) (disch := omega) only [go_sem, w64, AndB_of, IfB_of, IfB_no, pickE_of, pickE_no, ite_of, ite_no, tdivE, tmodE, takeAll, h2, h1', hca]
  exact ⟨S, .agg (S1 := S) (S2 := []) ((h1.congr fun j hj => by have := hr j hj; rw [upd_ne _ _ (by omega), upd_ne _ _ (by omega)]).plains) .nil (by simp), hN, fun i hi => by have := hr i hi; omega⟩
theorem zVer_own {H : AH} : OwnL false H [] (GVer.c ⟨0, 0, 0, []⟩) zVer := .leaf rfl rfl (.leaf rfl rfl (.leaf rfl rfl (.leaf rfl rfl .nil)))
theorem o_toVersionS (l : List GVer) (hb : l.length ≤ 1048576 ∧ ∀ v ∈ l, VrB v) : ACallD Try.prog 29 [versA l] noH 0 (fun r H' n' => OwnR H' 0 n' (versA l) r) := by
  obtain ⟨Z, hZ⟩ : ∃ Z : List GVer, Z = List.replicate l.length ⟨0, 0, 0, []⟩ := ⟨_, rfl⟩
  have hZl : l.length = Z.length := by rw [hZ]; simp
  have hO0 : ∀ ver, OwnR (upd noH 0 (.live ver (fillL GVer.c zVer l 0))) 0 1 (.sl l.length false (flat GVer.c (mixL l Z 0))) (.msl 0 ver 4 0 l.length) := fun ver => by
    rw [mixL_zero, hZ, ← fillL_zero]
    exact ⟨[0], .sl (upd_same ..) (by rw [flat_len GVer.len, List.length_replicate]) (OwnL.zeros (c := GVer.c) (zz := ⟨0, 0, 0, []⟩) (z := zVer) zVer_own _) .nil (S := [0]) rfl, by simp, fun i hi => by simp at hi; omega⟩
  refine dcall_body mixed Try.func29 _ (by unfold Try.f29; rfl) Try.ntmps29 Try.results29 (by decide) (by simp) ?_
  unfold versA
  simp (maxSteps := 4000000) (disch := omega) only [go_sem, w64, AndB_of, IfB_of, IfB_no, pickE_of, pickE_no, ite_of, ite_no, tdivE, tmodE, takeAll, fillL_zero (c := GVer.c) l]
  refine LoopB.auto (fun zs => ((intOf (slotOf zs 4)).toNat, heapOf zs, nxOf zs)) (fun zz => [(0, none), (2, none), (0, some (.int .i64 (zz.1 : Int)))]) (fun zz => zz.2.1) (fun zz => zz.2.2) (fun zz => l.length - zz.1) (fun zz => zz.1 ≤ l.length ∧ 0 < zz.2.2 ∧ OwnR zz.2.1 0 zz.2.2 (.sl l.length false (flat GVer.c (mixL l Z zz.1))) (.msl 0 0 4 0 l.length)) (by (first | simp (maxSteps := 4000000) (disch := omega) only [go_sem, w64, AndB_of, IfB_of, IfB_no, pickE_of, pickE_no, ite_of, ite_no, tdivE, tmodE, takeAll, hH] | simp (maxSteps := 4000000) (disch := omega) only [go_sem, w64, AndB_of, IfB_of, IfB_no, pickE_of, pickE_no, ite_of, ite_no, tdivE, tmodE, takeAll]); ((repeat' apply And.intro) <;> first | exact hO0 0 | (exact Weak.go (by (first | (simp [wkL]; done) | (simp [wkL]; omega))) (fun zi => by first | exact .inl rfl | exact .inr rfl | (simp only [upd]; repeat' split) <;> first | exact hO0 0 | exact .inl rfl | exact .inr rfl | (exfalso; omega) | exact .inr (hd _ (by omega)) | (left; subst_vars; exact hH.symm) | (left; subst_vars; rfl) | (left; simp; done) | (left; simp; omega)) (by omega)) | omega | rfl | assumption | exact Flat.nil | exact ⟨_, rfl, rfl, by assumption⟩ | (simp; done) | (simp; omega))) ?_
  intro zz zh
  obtain ⟨k, h, x⟩ := zz
  dsimp only at zh
  obtain ⟨hk, hx, hO⟩ := zh
  simp (maxSteps := 4000000) (disch := omega) only [go_sem, w64, AndB_of, IfB_of, IfB_no, pickE_of, pickE_no, ite_of, ite_no, tdivE, tmodE, takeAll]
  obtain ⟨S, hS, hN, hr⟩ := hO
  obtain ⟨ac, hac⟩ := hS.top
  refine IfB.dec (fun hlt => ?_) (fun hlt => ?_)
  · have hlt' : k < l.length := by omega
    simp (maxSteps := 4000000) (disch := omega) only [go_sem, w64, AndB_of, IfB_of, IfB_no, pickE_of, pickE_no, ite_of, ite_no, tdivE, tmodE, takeAll, hac]
    refine CallB.fresh (Pict.cons (Pict.pure (by simp [pureA, pureL])) Pict.nil) (o_toVersion l[k] (hb.2 _ (List.getElem_mem hlt'))) fun r H2 n2' hO2 hn hH => ?_
    obtain ⟨S2, h2, hN2, hr2⟩ := hO2
    obtain ⟨bs, rfl, h3⟩ := h2.unagg
    obtain ⟨ra, rfl, h4⟩ := h3.plain3
    have hac2 : H2 0 = .live 0 ac := by rw [hH 0 (by omega), hac]
    have h2' : k < (mixL l Z k).length := by rw [mixL_len hZl]; omega
    obtain ⟨b1, ai, b3, S1, Si, S3, o⟩ := hS.open1 h2'
    obtain ⟨rz, rfl, oR⟩ := (o.oi h2').plain3
    have hb1 : b1.length = k * 4 := by rw [← o.o1.len, flat_len GVer.len]; simp; omega
    have hac4 := hac.symm.trans o.hl
    injection hac4 with _ hac3
    have hal : ac.length = l.length * 4 := by
      rw [hac3, List.length_append, List.length_append, hb1, ← o.o3.len, flat_len GVer.len]
      simp [mixL_len hZl]
      omega
    have es : ac.take (k * 4) ++ [.int .i64 l[k].key, .int .i64 l[k].born, .int .i64 l[k].died, ra] ++ ac.drop (k * 4 + 4) = b1 ++ ([.int .i64 l[k].key, .int .i64 l[k].born, .int .i64 l[k].died, ra] ++ b3) := by
      rw [hac3]
      exact setL_mid (p := [_, _, _, _]) (r := b3) hb1 rfl
    obtain ⟨n1, n2, n3, n4, n5⟩ := o.nd hN
    simp (maxSteps := 4000000) (disch := omega) only [go_sem, w64, AndB_of, IfB_of, IfB_no, pickE_of, pickE_no, ite_of, ite_no, tdivE, tmodE, takeAll, hac2, es]
    have hcl := o.close (H' := upd H2 0 (.live 0 (b1 ++ ([.int .i64 l[k].key, .int .i64 l[k].born, .int .i64 l[k].died, ra] ++ b3)))) h2' hN (y := l[k]) (n := l.length) GVer.len (by rw [mixL_len hZl]; exact hZl) (upd_same ..)
      (fun j hj => by
        have hjS : j ∈ S := by rw [o.e]; rcases hj with hj | hj <;> simp [hj]
        have := hr j hjS
        rw [upd_ne, hH j (by omega)]
        rintro rfl; rcases hj with hj | hj; exact n2 hj; exact n3 hj)
      ((h4.congr fun j hj => upd_ne _ _ (by have := hr2 j hj; omega)).plains)
    rw [mixL_parts hZl (by omega)] at hcl
    have hOk : OwnR (upd H2 0 (.live 0 (b1 ++ ([.int .i64 l[k].key, .int .i64 l[k].born, .int .i64 l[k].died, ra] ++ b3)))) 0 n2' (.sl l.length false (flat GVer.c (mixL l Z (k + 1)))) (.msl 0 0 4 0 l.length) := by
      refine ⟨_, hcl, ?_, fun j hj => ?_⟩
      · rw [o.e] at hN
        simp only [List.nodup_cons, List.nodup_append, List.mem_append, not_or] at hN ⊢
        refine ⟨⟨hN.1.1, fun h => ?_, hN.1.2.2⟩, hN.2.1, ⟨hN2, hN.2.2.1.2.1, fun a ha b hb => ?_⟩, fun a ha b hb => ?_⟩
        · have := hr2 0 h; omega
        · have h5 := hr b (by rw [o.e]; simp [hb]); have h6 := hr2 a ha; omega
        · rcases hb with hb | hb
          · have h5 := hr a (by rw [o.e]; simp [ha]); have h6 := hr2 b hb; omega
          · exact hN.2.2.2 a ha b (.inr hb)
      · simp only [List.mem_cons, List.mem_append] at hj
        rcases hj with rfl | hj | hj | hj
        · omega
        · have h5 := hr j (by rw [o.e]; simp [hj]); omega
        · have h6 := hr2 j hj; omega
        · have h5 := hr j (by rw [o.e]; simp [hj]); omega
    refine ⟨⟨by omega, by omega, hOk⟩, by omega, ?_⟩
    ((repeat' apply And.intro) <;> first | (exact Weak.go (by (first | (simp [wkL]; done) | (simp [wkL]; omega))) (fun zi => by first | exact .inl rfl | exact .inr rfl | (simp only [upd]; repeat' split) <;> first | exact .inl rfl | exact .inr rfl | (exfalso; omega) | exact .inr (hd _ (by omega)) | (left; subst_vars; exact hH.symm) | (left; subst_vars; rfl) | (left; simp; done) | (left; simp; omega)) (by omega)) | omega | rfl | assumption | exact Flat.nil | exact ⟨_, rfl, rfl, by assumption⟩ | (simp; done) | (simp; omega))
  · have : k = l.length := by omega
    subst this
    simp (maxSteps := 4000000) (disch := omega) only [go_sem, w64, AndB_of, IfB_of, IfB_no, pickE_of, pickE_no, ite_of, ite_no, tdivE, tmodE, takeAll]
    rw [mixL_all rfl hZl.symm] at hS
    exact ⟨S, hS, hN, hr⟩
end Go.TH
