/- TH: reading values and rows: the walks. Made by gen.py. -/
import Derived.Test.YtbhibkochjfdfaaTf3
import Derived.Test.YtbhibkochjfdfaaTaby
import Derived.Test.YtbhibkochjfdfaaTf4
namespace Go.TH
open Go Go.Proofs
set_option linter.unusedSimpArgs false
set_option linter.unusedVariables false
set_option maxHeartbeats 20000000
set_option maxRecDepth 100000
theorem q_ValueFromS (b : List UInt8) (hl : b.length ≤ 140737488355328) : QCall Try.prog 116 [bysA b] (.tup [.agg [.int .i64 (valFrom b).1.k, .int .i64 (valFrom b).1.n, .str (valFrom b).1.s], .int .i64 (valFrom b).2]) := by
  refine QCall.ofScal (by simp [pureL]) rfl rfl ?_
  obtain ⟨w, hw⟩ : ∃ w, w = vB (cand b) := ⟨_, rfl⟩
  have hq := q_ValueBytesS (cand b) (by have := cand_size b; omega)
  rw [← hw] at hq
  have hwl := vB_len (v := cand b)
  rw [← hw] at hwl
  have b0 := gB_range b 0
  have b1 := gB_range b 1
  have b2 := gB_range b 2
  have hno : ¬ (b ≠ [] ∧ (cand b).Ok ∧ vB (cand b) <+: b) → valFrom b = (v0, 0) := valFrom_no
  refine wcall_body mixed Try.func116 _ (by unfold Try.f116; rfl) Try.ntmps116 Try.results116 (by decide) (by simp) ?_
  unfold bysA
  simp (maxSteps := 4000000) (disch := omega) only [go_sem, w64, AndB_of, IfB_of, IfB_no, pickE_of, pickE_no, ite_of, ite_no, tdivE, tmodE, takeAll]
  refine AW.step ?_
  simp (maxSteps := 4000000) (disch := omega) only [go_sem, w64, AndB_of, IfB_of, IfB_no, pickE_of, pickE_no, ite_of, ite_no, tdivE, tmodE, takeAll]
  refine AW.step ?_
  simp (maxSteps := 4000000) (disch := omega) only [go_sem, w64, AndB_of, IfB_of, IfB_no, pickE_of, pickE_no, ite_of, ite_no, tdivE, tmodE, takeAll]
  refine IfB.dec (fun c1 => ?_) (fun c1 => ?_)
  case refine_1 =>
    simp (maxSteps := 4000000) (disch := omega) only [go_sem, w64, AndB_of, IfB_of, IfB_no, pickE_of, pickE_no, ite_of, ite_no, tdivE, tmodE, takeAll]
    have hb : b = [] := List.eq_nil_of_length_eq_zero (by omega)
    rw [hno (fun e => e.1 hb)]
    rfl
  have g0 := bts_get0 (l := b) (by omega)
  simp (maxSteps := 4000000) (disch := omega) only [go_sem, w64, AndB_of, IfB_of, IfB_no, pickE_of, pickE_no, ite_of, ite_no, tdivE, tmodE, takeAll]
  refine AW.step ?_
  simp (maxSteps := 4000000) (disch := omega) only [go_sem, w64, AndB_of, IfB_of, IfB_no, pickE_of, pickE_no, ite_of, ite_no, tdivE, tmodE, takeAll]
  simp (maxSteps := 4000000) (disch := omega) only [go_sem, w64, AndB_of, IfB_of, IfB_no, pickE_of, pickE_no, ite_of, ite_no, tdivE, tmodE, takeAll, g0]
  refine AW.cut (fun zs => nxOf zs) (fun zz => [(0, none), (1, none), (1, none)]) (fun zz => upd (upd noH 0 (.live 0 [.int .i64 0, .int .i64 0, .str ⟨#[]⟩])) 1 (.live 0 [.int .i64 (cand b).k, .int .i64 (cand b).n, .str (cand b).s])) (fun zz => zz) (fun zz => 1 < zz) ?zcut0 ?_
  case' zcut0 => simp (maxSteps := 4000000) (disch := omega) only [go_sem, w64, AndB_of, IfB_of, IfB_no, pickE_of, pickE_no, ite_of, ite_no, tdivE, tmodE, takeAll]
  · by_cases p1 : gB b 0 = 1 ∧ 2 < b.length
    · obtain ⟨h1, h2⟩ := p1
      have g1 := bts_getD (l := b) (i := 1) (by omega)
      have g2 := bts_getD (l := b) (i := 2) (by omega)
      simp (maxSteps := 4000000) (disch := omega) only [go_sem, w64, AndB_of, IfB_of, IfB_no, pickE_of, pickE_no, ite_of, ite_no, tdivE, tmodE, takeAll, h1, g0, g1, g2]
      refine DrawB.intro [12] [12] (inS (7) (7) (7)) (by kernel_rfl) ?_
      simp (maxSteps := 4000000) (disch := omega) only [go_sem, w64, AndB_of, IfB_of, IfB_no, pickE_of, pickE_no, ite_of, ite_no, tdivE, tmodE, takeAll, h1, g0, g1, g2]
      rw [cand1 h1 h2]
      ((repeat' apply And.intro) <;> first | (exact Weak.go (by (first | (simp [wkL]; done) | (simp [wkL]; omega))) (fun zi => by first | exact .inl rfl | exact .inr rfl | (simp only [upd]; repeat' split) <;> first | exact .inl rfl | exact .inr rfl | (exfalso; omega) | exact .inr (hd _ (by omega)) | (left; subst_vars; exact hH.symm) | (left; subst_vars; rfl) | (left; simp; done) | (left; simp; omega)) (by omega)) | omega | rfl | assumption | exact Flat.nil | exact ⟨_, rfl, rfl, by assumption⟩ | (simp; done) | (simp; omega))
    by_cases p2 : gB b 0 = 2 ∧ 1 < b.length ∧ 2 + gB b 1 ≤ b.length
    · obtain ⟨h1, h2, h3⟩ := p2
      have g1 := bts_getD (l := b) (i := 1) (by omega)
      have en : (2 + gB b 1 - 2).toNat = (gB b 1).toNat := by omega
      have lt : ((b.drop 2).take (gB b 1).toNat).length = (gB b 1).toNat := by rw [List.length_take, List.length_drop]; omega
      simp (maxSteps := 4000000) (disch := omega) only [go_sem, w64, AndB_of, IfB_of, IfB_no, pickE_of, pickE_no, ite_of, ite_no, tdivE, tmodE, takeAll, h1, g0, g1, en, lt]
      rw [cand2 h1 h2 h3]
      unfold b2s
      ((repeat' apply And.intro) <;> first | (exact Weak.go (by (first | (simp [wkL]; done) | (simp [wkL]; omega))) (fun zi => by first | exact .inl rfl | exact .inr rfl | (simp only [upd]; repeat' split) <;> first | exact .inl rfl | exact .inr rfl | (exfalso; omega) | exact .inr (hd _ (by omega)) | (left; subst_vars; exact hH.symm) | (left; subst_vars; rfl) | (left; simp; done) | (left; simp; omega)) (by omega)) | omega | rfl | assumption | exact Flat.nil | exact ⟨_, rfl, rfl, by assumption⟩ | (simp; done) | (simp; omega))
    by_cases p3 : gB b 0 = 3 ∧ 1 < b.length
    · obtain ⟨h1, h2⟩ := p3
      have g1 := bts_getD (l := b) (i := 1) (by omega)
      simp (maxSteps := 4000000) (disch := omega) only [go_sem, w64, AndB_of, IfB_of, IfB_no, pickE_of, pickE_no, ite_of, ite_no, tdivE, tmodE, takeAll, h1, g0, g1]
      rw [cand3 h1 h2]
      ((repeat' apply And.intro) <;> first | (exact Weak.go (by (first | (simp [wkL]; done) | (simp [wkL]; omega))) (fun zi => by first | exact .inl rfl | exact .inr rfl | (simp only [upd]; repeat' split) <;> first | exact .inl rfl | exact .inr rfl | (exfalso; omega) | exact .inr (hd _ (by omega)) | (left; subst_vars; exact hH.symm) | (left; subst_vars; rfl) | (left; simp; done) | (left; simp; omega)) (by omega)) | omega | rfl | assumption | exact Flat.nil | exact ⟨_, rfl, rfl, by assumption⟩ | (simp; done) | (simp; omega))
    have g1 : 1 < b.length → (bts (b.drop 1)).getD 0 .junk = .int .u8 (gB b 1) := fun h => bts_getD h
    rw [cand0 p1 p2 p3]
    repeat' (first | (refine IfB.dec2 (fun h hd => ?_) (fun h hd => ?_) <;> (try (have h2 := h; unfold inR at h2)) <;> (try simp (maxSteps := 4000000) (disch := omega) only [go_sem, w64, AndB_of, IfB_of, IfB_no, pickE_of, pickE_no, ite_of, ite_no, tdivE, tmodE, takeAll, g0, g1, hd])) | (refine IfB.split (fun h => ?_) (fun h => ?_) <;> (try simp (maxSteps := 4000000) (disch := omega) only [go_sem, w64, AndB_of, IfB_of, IfB_no, pickE_of, pickE_no, ite_of, ite_no, tdivE, tmodE, takeAll, g0, g1, h])) | (refine DrawB.quiet (by kernel_rfl) ?_; simp (maxSteps := 4000000) (disch := omega) only [go_sem, w64, AndB_of, IfB_of, IfB_no, pickE_of, pickE_no, ite_of, ite_no, tdivE, tmodE, takeAll, g0, g1]))
    all_goals first
      | (exfalso; omega)
      | ((repeat' apply And.intro) <;> first | (exact Weak.go (by (first | (simp [wkL]; done) | (simp [wkL]; omega))) (fun zi => by first | exact .inl rfl | exact .inr rfl | (simp only [upd]; repeat' split) <;> first | exact .inl rfl | exact .inr rfl | (exfalso; omega) | exact .inr (hd _ (by omega)) | (left; subst_vars; exact hH.symm) | (left; subst_vars; rfl) | (left; simp; done) | (left; simp; omega)) (by omega)) | omega | rfl | assumption | exact Flat.nil | exact ⟨_, rfl, rfl, by assumption⟩ | (simp; done) | (simp; omega))
  intro x zh
  have hx := zh
  simp (maxSteps := 4000000) (disch := omega) only [go_sem, w64, AndB_of, IfB_of, IfB_no, pickE_of, pickE_no, ite_of, ite_no, tdivE, tmodE, takeAll]
  refine AW.of ?_
  simp (maxSteps := 4000000) (disch := omega) only [go_sem, w64, AndB_of, IfB_of, IfB_no, pickE_of, pickE_no, ite_of, ite_no, tdivE, tmodE, takeAll]
  apply CallB.q hq
  unfold bysA
  simp (maxSteps := 4000000) (disch := omega) only [go_sem, w64, AndB_of, IfB_of, IfB_no, pickE_of, pickE_no, ite_of, ite_no, tdivE, tmodE, takeAll]
  refine DrawB.quiet (by kernel_rfl) ?_
  simp (maxSteps := 4000000) (disch := omega) only [go_sem, w64, AndB_of, IfB_of, IfB_no, pickE_of, pickE_no, ite_of, ite_no, tdivE, tmodE, takeAll]
  refine IfB.dec (fun c2 => ?_) (fun c2 => ?_)
  · have hn : ¬ (b ≠ [] ∧ (cand b).Ok ∧ vB (cand b) <+: b) := fun e => by
      have : w = [] := List.eq_nil_of_length_eq_zero (by omega)
      rw [hw] at this
      exact vB_nil.1 this e.2.1
    rw [hno hn]
    simp (maxSteps := 4000000) (disch := omega) only [go_sem, w64, AndB_of, IfB_of, IfB_no, pickE_of, pickE_no, ite_of, ite_no, tdivE, tmodE, takeAll]
    rfl
  simp (maxSteps := 4000000) (disch := omega) only [go_sem, w64, AndB_of, IfB_of, IfB_no, pickE_of, pickE_no, ite_of, ite_no, tdivE, tmodE, takeAll]
  refine IfB.dec (fun c3 => ?_) (fun c3 => ?_)
  · have hn : ¬ (b ≠ [] ∧ (cand b).Ok ∧ vB (cand b) <+: b) := fun e => by
      have := e.2.2.length_le
      rw [← hw] at this
      omega
    rw [hno hn]
    simp (maxSteps := 4000000) (disch := omega) only [go_sem, w64, AndB_of, IfB_of, IfB_no, pickE_of, pickE_no, ite_of, ite_no, tdivE, tmodE, takeAll]
    rfl
  have lt : (b.take w.length).length = w.length := by rw [List.length_take]; omega
  have tt : (b.take w.length).take w.length = b.take w.length := by rw [List.take_take, Nat.min_self]
  have inj : ((⟨w.toArray⟩ : ByteArray) = ⟨(b.take w.length).toArray⟩) ↔ w = b.take w.length := bts_inj
  simp (maxSteps := 4000000) (disch := omega) only [go_sem, w64, AndB_of, IfB_of, IfB_no, pickE_of, pickE_no, ite_of, ite_no, tdivE, tmodE, takeAll, lt, tt]
  refine IfB.dec (fun c4 => ?_) (fun c4 => ?_)
  · have hy : b ≠ [] ∧ (cand b).Ok ∧ vB (cand b) <+: b := by
      have e := inj.1 c4
      refine ⟨fun e => by subst e; simp at c1, ?_, ?_⟩
      · apply Classical.byContradiction
        intro hn
        have := vB_nil.2 hn
        rw [← hw] at this
        rw [this] at c2
        simp at c2
      · rw [← hw, List.prefix_iff_eq_take]; exact e
    rw [valFrom_yes hy, ← hw]
    simp (maxSteps := 4000000) (disch := omega) only [go_sem, w64, AndB_of, IfB_of, IfB_no, pickE_of, pickE_no, ite_of, ite_no, tdivE, tmodE, takeAll]
  · have hn : ¬ (b ≠ [] ∧ (cand b).Ok ∧ vB (cand b) <+: b) := fun e => by
      have := List.prefix_iff_eq_take.1 e.2.2
      rw [← hw] at this
      exact c4 (inj.2 this)
    rw [hno hn]
    simp (maxSteps := 4000000) (disch := omega) only [go_sem, w64, AndB_of, IfB_of, IfB_no, pickE_of, pickE_no, ite_of, ite_no, tdivE, tmodE, takeAll]
    rfl
theorem q_ValueFromI (b : List UInt8) (hl : b.length ≤ 140737488355328) : QCall Try.prog 117 [bysA b] (.tup [.agg [.int .i64 (valFrom b).1.k, .int .i64 (valFrom b).1.n, .str (valFrom b).1.s], .int .i64 (valFrom b).2]) := by
  refine QCall.ofScal (by simp [pureL]) rfl rfl ?_
  have hq := q_ok (cand b) (by have := cand_size b; omega)
  have b0 := gB_range b 0
  have b1 := gB_range b 1
  have b2 := gB_range b 2
  refine wcall_body mixed Try.func117 _ (by unfold Try.f117; rfl) Try.ntmps117 Try.results117 (by decide) (by simp) ?_
  unfold bysA
  simp (maxSteps := 4000000) (disch := omega) only [go_sem, w64, AndB_of, IfB_of, IfB_no, pickE_of, pickE_no, ite_of, ite_no, tdivE, tmodE, takeAll]
  refine AW.step ?_
  simp (maxSteps := 4000000) (disch := omega) only [go_sem, w64, AndB_of, IfB_of, IfB_no, pickE_of, pickE_no, ite_of, ite_no, tdivE, tmodE, takeAll]
  refine AW.step ?_
  simp (maxSteps := 4000000) (disch := omega) only [go_sem, w64, AndB_of, IfB_of, IfB_no, pickE_of, pickE_no, ite_of, ite_no, tdivE, tmodE, takeAll]
  refine IfB.dec (fun c1 => ?_) (fun c1 => ?_)
  case refine_1 =>
    simp (maxSteps := 4000000) (disch := omega) only [go_sem, w64, AndB_of, IfB_of, IfB_no, pickE_of, pickE_no, ite_of, ite_no, tdivE, tmodE, takeAll]
    have hb : b = [] := List.eq_nil_of_length_eq_zero (by omega)
    rw [valFrom_no (fun e => e.1 hb)]
    rfl
  have hb : b ≠ [] := fun e => by subst e; simp at c1
  have g0 := bts_get0 (l := b) (by omega)
  simp (maxSteps := 4000000) (disch := omega) only [go_sem, w64, AndB_of, IfB_of, IfB_no, pickE_of, pickE_no, ite_of, ite_no, tdivE, tmodE, takeAll]
  refine AW.step ?_
  simp (maxSteps := 4000000) (disch := omega) only [go_sem, w64, AndB_of, IfB_of, IfB_no, pickE_of, pickE_no, ite_of, ite_no, tdivE, tmodE, takeAll]
  simp (maxSteps := 4000000) (disch := omega) only [go_sem, w64, AndB_of, IfB_of, IfB_no, pickE_of, pickE_no, ite_of, ite_no, tdivE, tmodE, takeAll, g0]
  refine AW.cut (fun zs => (nxOf zs, intOf (slotOf zs 5))) (fun zz => [(2, none), (1, none), (0, some (.int .i64 (zz.2 : Int)))]) (fun zz => upd (upd noH 0 (.live 0 [.int .i64 0, .int .i64 0, .str ⟨#[]⟩])) 1 (.live 0 [.int .i64 (cand b).k, .int .i64 (cand b).n, .str (cand b).s])) (fun zz => zz.1) (fun zz => 1 < zz.1 ∧ 0 ≤ zz.2 ∧ valFrom b = if (cand b).Ok then (cand b, zz.2.toNat) else (v0, 0)) ?zcut1 ?_
  case' zcut1 => simp (maxSteps := 4000000) (disch := omega) only [go_sem, w64, AndB_of, IfB_of, IfB_no, pickE_of, pickE_no, ite_of, ite_no, tdivE, tmodE, takeAll]
  · by_cases p1 : gB b 0 = 1 ∧ 2 < b.length
    · obtain ⟨h1, h2⟩ := p1
      have g1 := bts_getD (l := b) (i := 1) (by omega)
      have g2 := bts_getD (l := b) (i := 2) (by omega)
      have hvf := vf1 h1 h2
      have e8 : gB b 1 * 2 ^ min 8 64 = 256 * gB b 1 := by rw [Int.mul_comm]; rfl
      simp (maxSteps := 4000000) (disch := omega) only [go_sem, w64, AndB_of, IfB_of, IfB_no, pickE_of, pickE_no, ite_of, ite_no, tdivE, tmodE, takeAll, h1, g0, g1, g2]
      refine DrawB.intro [12] [12, 13] (inS (7) (7) (7)) (by kernel_rfl) ?_
      simp (maxSteps := 4000000) (disch := omega) only [go_sem, w64, AndB_of, IfB_of, IfB_no, pickE_of, pickE_no, ite_of, ite_no, tdivE, tmodE, takeAll, h1, g0, g1, g2, e8]
      rw [cand1 h1 h2] at hvf ⊢
      ((repeat' apply And.intro) <;> first | exact hvf | (exact Weak.go (by (first | (simp [wkL]; done) | (simp [wkL]; omega))) (fun zi => by first | exact .inl rfl | exact .inr rfl | (simp only [upd]; repeat' split) <;> first | exact hvf | exact .inl rfl | exact .inr rfl | (exfalso; omega) | exact .inr (hd _ (by omega)) | (left; subst_vars; exact hH.symm) | (left; subst_vars; rfl) | (left; simp; done) | (left; simp; omega)) (by omega)) | omega | rfl | assumption | exact Flat.nil | exact ⟨_, rfl, rfl, by assumption⟩ | (simp; done) | (simp; omega))
    by_cases p2 : gB b 0 = 2 ∧ 1 < b.length ∧ 2 + gB b 1 ≤ b.length
    · obtain ⟨h1, h2, h3⟩ := p2
      have g1 := bts_getD (l := b) (i := 1) (by omega)
      have en : (2 + gB b 1 - 2).toNat = (gB b 1).toNat := by omega
      have lt : ((b.drop 2).take (gB b 1).toNat).length = (gB b 1).toNat := by rw [List.length_take, List.length_drop]; omega
      have hvf := vf2 h1 h2 h3
      simp (maxSteps := 4000000) (disch := omega) only [go_sem, w64, AndB_of, IfB_of, IfB_no, pickE_of, pickE_no, ite_of, ite_no, tdivE, tmodE, takeAll, h1, g0, g1, en, lt]
      rw [cand2 h1 h2 h3] at hvf ⊢
      unfold b2s at hvf ⊢
      ((repeat' apply And.intro) <;> first | exact hvf | (exact Weak.go (by (first | (simp [wkL]; done) | (simp [wkL]; omega))) (fun zi => by first | exact .inl rfl | exact .inr rfl | (simp only [upd]; repeat' split) <;> first | exact hvf | exact .inl rfl | exact .inr rfl | (exfalso; omega) | exact .inr (hd _ (by omega)) | (left; subst_vars; exact hH.symm) | (left; subst_vars; rfl) | (left; simp; done) | (left; simp; omega)) (by omega)) | omega | rfl | assumption | exact Flat.nil | exact ⟨_, rfl, rfl, by assumption⟩ | (simp; done) | (simp; omega))
    by_cases p3 : gB b 0 = 3 ∧ 1 < b.length
    · obtain ⟨h1, h2⟩ := p3
      have g1 := bts_getD (l := b) (i := 1) (by omega)
      have hvf := vf3 h1 h2
      simp (maxSteps := 4000000) (disch := omega) only [go_sem, w64, AndB_of, IfB_of, IfB_no, pickE_of, pickE_no, ite_of, ite_no, tdivE, tmodE, takeAll, h1, g0, g1]
      rw [cand3 h1 h2] at hvf ⊢
      ((repeat' apply And.intro) <;> first | exact hvf | (exact Weak.go (by (first | (simp [wkL]; done) | (simp [wkL]; omega))) (fun zi => by first | exact .inl rfl | exact .inr rfl | (simp only [upd]; repeat' split) <;> first | exact hvf | exact .inl rfl | exact .inr rfl | (exfalso; omega) | exact .inr (hd _ (by omega)) | (left; subst_vars; exact hH.symm) | (left; subst_vars; rfl) | (left; simp; done) | (left; simp; omega)) (by omega)) | omega | rfl | assumption | exact Flat.nil | exact ⟨_, rfl, rfl, by assumption⟩ | (simp; done) | (simp; omega))
    have g1 : 1 < b.length → (bts (b.drop 1)).getD 0 .junk = .int .u8 (gB b 1) := fun h => bts_getD h
    by_cases p0 : gB b 0 = 0
    · have hvf := vf0 hb p0
      rw [cand0 p1 p2 p3] at hvf ⊢
      repeat' (first | (refine IfB.dec2 (fun h hd => ?_) (fun h hd => ?_) <;> (try (have h2 := h; unfold inR at h2)) <;> (try simp (maxSteps := 4000000) (disch := omega) only [go_sem, w64, AndB_of, IfB_of, IfB_no, pickE_of, pickE_no, ite_of, ite_no, tdivE, tmodE, takeAll, g0, g1, hd])) | (refine IfB.split (fun h => ?_) (fun h => ?_) <;> (try simp (maxSteps := 4000000) (disch := omega) only [go_sem, w64, AndB_of, IfB_of, IfB_no, pickE_of, pickE_no, ite_of, ite_no, tdivE, tmodE, takeAll, g0, g1, h])) | (refine DrawB.quiet (by kernel_rfl) ?_; simp (maxSteps := 4000000) (disch := omega) only [go_sem, w64, AndB_of, IfB_of, IfB_no, pickE_of, pickE_no, ite_of, ite_no, tdivE, tmodE, takeAll, g0, g1]))
      all_goals first
        | (exfalso; omega)
        | ((repeat' apply And.intro) <;> first | exact hvf | (exact Weak.go (by (first | (simp [wkL]; done) | (simp [wkL]; omega))) (fun zi => by first | exact .inl rfl | exact .inr rfl | (simp only [upd]; repeat' split) <;> first | exact hvf | exact .inl rfl | exact .inr rfl | (exfalso; omega) | exact .inr (hd _ (by omega)) | (left; subst_vars; exact hH.symm) | (left; subst_vars; rfl) | (left; simp; done) | (left; simp; omega)) (by omega)) | omega | rfl | assumption | exact Flat.nil | exact ⟨_, rfl, rfl, by assumption⟩ | (simp; done) | (simp; omega))
    · have hvf := vfN p1 p2 p3 p0
      rw [hvf, cand0 p1 p2 p3]
      repeat' (first | (refine IfB.dec2 (fun h hd => ?_) (fun h hd => ?_) <;> (try (have h2 := h; unfold inR at h2)) <;> (try simp (maxSteps := 4000000) (disch := omega) only [go_sem, w64, AndB_of, IfB_of, IfB_no, pickE_of, pickE_no, ite_of, ite_no, tdivE, tmodE, takeAll, g0, g1, hd])) | (refine IfB.split (fun h => ?_) (fun h => ?_) <;> (try simp (maxSteps := 4000000) (disch := omega) only [go_sem, w64, AndB_of, IfB_of, IfB_no, pickE_of, pickE_no, ite_of, ite_no, tdivE, tmodE, takeAll, g0, g1, h])) | (refine DrawB.quiet (by kernel_rfl) ?_; simp (maxSteps := 4000000) (disch := omega) only [go_sem, w64, AndB_of, IfB_of, IfB_no, pickE_of, pickE_no, ite_of, ite_no, tdivE, tmodE, takeAll, g0, g1]))
      all_goals first
        | (exfalso; omega)
        | rfl
  intro zz zh
  obtain ⟨x, n⟩ := zz
  dsimp only at zh
  obtain ⟨hx, hn, hv⟩ := zh
  simp (maxSteps := 4000000) (disch := omega) only [go_sem, w64, AndB_of, IfB_of, IfB_no, pickE_of, pickE_no, ite_of, ite_no, tdivE, tmodE, takeAll]
  refine AW.of ?_
  simp (maxSteps := 4000000) (disch := omega) only [go_sem, w64, AndB_of, IfB_of, IfB_no, pickE_of, pickE_no, ite_of, ite_no, tdivE, tmodE, takeAll]
  apply CallB.q hq
  simp (maxSteps := 4000000) (disch := omega) only [go_sem, w64, AndB_of, IfB_of, IfB_no, pickE_of, pickE_no, ite_of, ite_no, tdivE, tmodE, takeAll]
  refine IfB.dec (fun c2 => ?_) (fun c2 => ?_)
  · rw [hv, if_pos c2]
    simp (maxSteps := 4000000) (disch := omega) only [go_sem, w64, AndB_of, IfB_of, IfB_no, pickE_of, pickE_no, ite_of, ite_no, tdivE, tmodE, takeAll]
    rw [Int.toNat_of_nonneg hn]
  · rw [hv, if_neg c2]
    simp (maxSteps := 4000000) (disch := omega) only [go_sem, w64, AndB_of, IfB_of, IfB_no, pickE_of, pickE_no, ite_of, ite_no, tdivE, tmodE, takeAll]
    rfl
end Go.TH
