/- TH: batches: the walks. Made by gen.py. -/
import Derived.Test.YtbhibkochjfdfaaTf3
import Derived.Test.YtbhibkochjfdfaaTarw
import Derived.Test.YtbhibkochjfdfaaTasl
import Derived.Test.YtbhibkochjfdfaaTf4
namespace Go.TH
open Go Go.Proofs
set_option linter.unusedSimpArgs false
set_option linter.unusedVariables false
set_option maxHeartbeats 20000000
set_option maxRecDepth 100000
def BtS (b : GBt) : Prop := b.cols.length ≤ 1048576 ∧ b.picked.length ≤ 1048576 ∧ ∀ c ∈ b.cols, c.length ≤ 1048576 ∧ ∀ x ∈ c, x.s.size ≤ 9223372036854775807
theorem q_BatchOkS (b : GBt) (hb : BtS b) : QCall Try.prog 22 [.agg [rowsA b.cols, boolsA b.picked]] (.bool (decide (batchOk b))) := by
  refine qcall_body mixed Try.func22 _ (by unfold Try.f22; rfl) Try.ntmps22 Try.results22 (by decide) 0 (by simp) (by simp [pureL, pureA]) ?_
  obtain ⟨hb1, hb2, hb3⟩ := hb
  unfold rowsA boolsA
  simp (maxSteps := 4000000) (disch := omega) only [go_sem, w64, AndB_of, IfB_of, IfB_no, pickE_of, pickE_no, ite_of, ite_no, tdivE, tmodE, takeAll]
  refine LoopB.auto (fun zs => (intOf (slotOf zs 3)).toNat) (fun zz => [(1, none), (1, some (.int .i64 (zz : Int)))]) (fun zz => upd noH 0 (.live 0 [.sl b.cols.length false (flat cR b.cols), .sl b.picked.length false (flat cBo b.picked)])) (fun zz => 1) (fun zz => b.cols.length - zz) (fun zz => zz ≤ b.cols.length ∧ ∀ c ∈ b.cols.take zz, colOk b.picked.length c) (by (first | simp (maxSteps := 4000000) (disch := omega) only [go_sem, w64, AndB_of, IfB_of, IfB_no, pickE_of, pickE_no, ite_of, ite_no, tdivE, tmodE, takeAll, hH] | simp (maxSteps := 4000000) (disch := omega) only [go_sem, w64, AndB_of, IfB_of, IfB_no, pickE_of, pickE_no, ite_of, ite_no, tdivE, tmodE, takeAll]); ((repeat' apply And.intro) <;> first | exact allTake0 | (exact Weak.go (by (first | (simp [wkL]; done) | (simp [wkL]; omega))) (fun zi => by first | exact .inl rfl | exact .inr rfl | (simp only [upd]; repeat' split) <;> first | exact allTake0 | exact .inl rfl | exact .inr rfl | (exfalso; omega) | exact .inr (hd _ (by omega)) | (left; subst_vars; exact hH.symm) | (left; subst_vars; rfl) | (left; simp; done) | (left; simp; omega)) (by omega)) | omega | rfl | assumption | exact Flat.nil | exact ⟨_, rfl, rfl, by assumption⟩ | (simp; done) | (simp; omega))) ?_
  intro k zh
  obtain ⟨hk, hall⟩ := zh
  simp (maxSteps := 4000000) (disch := omega) only [go_sem, w64, AndB_of, IfB_of, IfB_no, pickE_of, pickE_no, ite_of, ite_no, tdivE, tmodE, takeAll]
  refine IfB.dec (fun h1 => ?_) (fun h1 => ?_)
  · have h1' : k < b.cols.length := by omega
    have hc := hb3 _ (List.getElem_mem h1')
    have no : ¬ colOk b.picked.length b.cols[k] → decide (batchOk b) = false := fun e => decide_eq_false fun e2 => e (e2.2.2 _ (List.getElem_mem h1'))
    simp (maxSteps := 4000000) (disch := omega) only [go_sem, w64, AndB_of, IfB_of, IfB_no, pickE_of, pickE_no, ite_of, ite_no, tdivE, tmodE, takeAll]
    refine DrawB.quiet (by kernel_rfl) ?_
    simp (maxSteps := 4000000) (disch := omega) only [go_sem, w64, AndB_of, IfB_of, IfB_no, pickE_of, pickE_no, ite_of, ite_no, tdivE, tmodE, takeAll]
    refine IfB.dec (fun c1 => ?_) (fun c1 => ?_)
    · simp (maxSteps := 4000000) (disch := omega) only [go_sem, w64, AndB_of, IfB_of, IfB_no, pickE_of, pickE_no, ite_of, ite_no, tdivE, tmodE, takeAll]
      refine LoopB.auto (fun zs => (intOf (slotOf zs 4)).toNat) (fun zz => [(1, none), (1, none), (0, some (.int .i64 (zz : Int)))]) (fun zz => upd noH 0 (.live 0 [.sl b.cols.length false (flat cR b.cols), .sl b.picked.length false (flat cBo b.picked)])) (fun zz => 1) (fun zz => b.cols[k].length - zz) (fun zz => zz ≤ b.cols[k].length ∧ ∀ v ∈ b.cols[k].take zz, v.Ok) (by (first | simp (maxSteps := 4000000) (disch := omega) only [go_sem, w64, AndB_of, IfB_of, IfB_no, pickE_of, pickE_no, ite_of, ite_no, tdivE, tmodE, takeAll, hH] | simp (maxSteps := 4000000) (disch := omega) only [go_sem, w64, AndB_of, IfB_of, IfB_no, pickE_of, pickE_no, ite_of, ite_no, tdivE, tmodE, takeAll]); ((repeat' apply And.intro) <;> first | exact allTake0 | (exact Weak.go (by (first | (simp [wkL]; done) | (simp [wkL]; omega))) (fun zi => by first | exact .inl rfl | exact .inr rfl | (simp only [upd]; repeat' split) <;> first | exact allTake0 | exact .inl rfl | exact .inr rfl | (exfalso; omega) | exact .inr (hd _ (by omega)) | (left; subst_vars; exact hH.symm) | (left; subst_vars; rfl) | (left; simp; done) | (left; simp; omega)) (by omega)) | omega | rfl | assumption | exact Flat.nil | exact ⟨_, rfl, rfl, by assumption⟩ | (simp; done) | (simp; omega))) ?_
      intro j zh
      obtain ⟨hj, hv⟩ := zh
      simp (maxSteps := 4000000) (disch := omega) only [go_sem, w64, AndB_of, IfB_of, IfB_no, pickE_of, pickE_no, ite_of, ite_no, tdivE, tmodE, takeAll]
      refine IfB.dec (fun c2 => ?_) (fun c2 => ?_)
      · have c2' : j < b.cols[k].length := by omega
        have hs := hc.2 _ (List.getElem_mem c2')
        simp (maxSteps := 4000000) (disch := omega) only [go_sem, w64, AndB_of, IfB_of, IfB_no, pickE_of, pickE_no, ite_of, ite_no, tdivE, tmodE, takeAll]
        unfold rowA
        simp (maxSteps := 4000000) (disch := omega) only [go_sem, w64, AndB_of, IfB_of, IfB_no, pickE_of, pickE_no, ite_of, ite_no, tdivE, tmodE, takeAll]
        apply CallB.q (q_ValueOkS _ hs)
        simp (maxSteps := 4000000) (disch := omega) only [go_sem, w64, AndB_of, IfB_of, IfB_no, pickE_of, pickE_no, ite_of, ite_no, tdivE, tmodE, takeAll]
        refine IfB.dec (fun c3 => ?_) (fun c3 => ?_)
        · simp (maxSteps := 4000000) (disch := omega) only [go_sem, w64, AndB_of, IfB_of, IfB_no, pickE_of, pickE_no, ite_of, ite_no, tdivE, tmodE, takeAll]
          ((repeat' apply And.intro) <;> first | exact allTake c2' hv c3 | exact allTake0 | (exact Weak.go (by (first | (simp [wkL]; done) | (simp [wkL]; omega))) (fun zi => by first | exact .inl rfl | exact .inr rfl | (simp only [upd]; repeat' split) <;> first | exact allTake c2' hv c3 | exact allTake0 | exact .inl rfl | exact .inr rfl | (exfalso; omega) | exact .inr (hd _ (by omega)) | (left; subst_vars; exact hH.symm) | (left; subst_vars; rfl) | (left; simp; done) | (left; simp; omega)) (by omega)) | omega | rfl | assumption | exact Flat.nil | exact ⟨_, rfl, rfl, by assumption⟩ | (simp; done) | (simp; omega))
        · simp (maxSteps := 4000000) (disch := omega) only [go_sem, w64, AndB_of, IfB_of, IfB_no, pickE_of, pickE_no, ite_of, ite_no, tdivE, tmodE, takeAll]
          rw [no (fun e => c3 (e.2 _ (List.getElem_mem c2')))]
      · simp (maxSteps := 4000000) (disch := omega) only [go_sem, w64, AndB_of, IfB_of, IfB_no, pickE_of, pickE_no, ite_of, ite_no, tdivE, tmodE, takeAll]
        ((repeat' apply And.intro) <;> first | exact allTake h1' hall ⟨by omega, allEnd (by omega) hv⟩ | (exact Weak.go (by (first | (simp [wkL]; done) | (simp [wkL]; omega))) (fun zi => by first | exact .inl rfl | exact .inr rfl | (simp only [upd]; repeat' split) <;> first | exact allTake h1' hall ⟨by omega, allEnd (by omega) hv⟩ | exact .inl rfl | exact .inr rfl | (exfalso; omega) | exact .inr (hd _ (by omega)) | (left; subst_vars; exact hH.symm) | (left; subst_vars; rfl) | (left; simp; done) | (left; simp; omega)) (by omega)) | omega | rfl | assumption | exact Flat.nil | exact ⟨_, rfl, rfl, by assumption⟩ | (simp; done) | (simp; omega))
    · simp (maxSteps := 4000000) (disch := omega) only [go_sem, w64, AndB_of, IfB_of, IfB_no, pickE_of, pickE_no, ite_of, ite_no, tdivE, tmodE, takeAll]
      rw [no (fun e => by have := e.1; omega)]
  · have hy := allEnd (P := colOk b.picked.length) (by omega) hall
    simp (maxSteps := 4000000) (disch := omega) only [go_sem, w64, AndB_of, IfB_of, IfB_no, pickE_of, pickE_no, ite_of, ite_no, tdivE, tmodE, takeAll]
    repeat' (first | (refine IfB.dec (fun h => ?_) (fun h => ?_) <;> (try (have h2 := h; unfold inR at h2)) <;> (try simp (maxSteps := 4000000) (disch := omega) only [go_sem, w64, AndB_of, IfB_of, IfB_no, pickE_of, pickE_no, ite_of, ite_no, tdivE, tmodE, takeAll, h])) | (refine IfB.split (fun h => ?_) (fun h => ?_) <;> (try simp (maxSteps := 4000000) (disch := omega) only [go_sem, w64, AndB_of, IfB_of, IfB_no, pickE_of, pickE_no, ite_of, ite_no, tdivE, tmodE, takeAll, h])) | (refine DrawB.quiet (by kernel_rfl) ?_; simp (maxSteps := 4000000) (disch := omega) only [go_sem, w64, AndB_of, IfB_of, IfB_no, pickE_of, pickE_no, ite_of, ite_no, tdivE, tmodE, takeAll]))
    all_goals (rw [AV.bool.injEq, Bool.eq_iff_iff]; (try simp only [decide_eq_true_iff]); unfold batchOk; (try simp only [true_iff, Bool.false_eq_true, false_iff]); first | exact ⟨fun e => ⟨by omega, by omega, hy⟩, fun e => by have := e.2.1; omega⟩ | (intro e; have := e.1; have := e.2.1; omega))
theorem q_BatchOk11 (v : GVal) (hs : v.s.size ≤ 9223372036854775807) : QCall Try.prog 87 [.agg [.int .i64 v.k, .int .i64 v.n, .str v.s]] (.bool (!decide v.Ok)) := by
  refine qcall_body mixed Try.func87 _ (by unfold Try.f87; rfl) Try.ntmps87 Try.results87 (by decide) 0 (by simp) (by simp [pureL, pureA]) ?_
  simp (maxSteps := 4000000) (disch := omega) only [go_sem, w64, AndB_of, IfB_of, IfB_no, pickE_of, pickE_no, ite_of, ite_no, tdivE, tmodE, takeAll]
  apply CallB.q (q_ok v hs)
  simp (maxSteps := 4000000) (disch := omega) only [go_sem, w64, AndB_of, IfB_of, IfB_no, pickE_of, pickE_no, ite_of, ite_no, tdivE, tmodE, takeAll]
theorem q_BatchOk1 (b : GBt) (c : GRow) (hl : c.length ≤ 1048576) (hs : ∀ x ∈ c, x.s.size ≤ 9223372036854775807) : QCall Try.prog 85 [rowA c, .ro [rowsA b.cols, boolsA b.picked]] (.bool (!decide (colOk b.picked.length c))) := by
  refine qcall_body mixed Try.func85 _ (by unfold Try.f85; rfl) Try.ntmps85 Try.results85 (by decide) 0 (by simp) (by simp [pureL, pureA]) ?_
  have e := q_ContainsFuncV c 87 [] rfl (fun v => !decide v.Ok) hl fun v hv => q_BatchOk11 v (hs v hv)
  rw [colOk_iff]
  simp (maxSteps := 4000000) (disch := omega) only [go_sem, w64, AndB_of, IfB_of, IfB_no, pickE_of, pickE_no, ite_of, ite_no, tdivE, tmodE, takeAll]
  repeat' (first | (refine IfB.dec2 (fun h hd => ?_) (fun h hd => ?_) <;> (try (have h2 := h; unfold inR at h2)) <;> (try simp (maxSteps := 4000000) (disch := omega) only [go_sem, w64, AndB_of, IfB_of, IfB_no, pickE_of, pickE_no, ite_of, ite_no, tdivE, tmodE, takeAll, hd])) | (refine IfB.split (fun h => ?_) (fun h => ?_) <;> (try simp (maxSteps := 4000000) (disch := omega) only [go_sem, w64, AndB_of, IfB_of, IfB_no, pickE_of, pickE_no, ite_of, ite_no, tdivE, tmodE, takeAll, h])) | (refine DrawB.quiet (by kernel_rfl) ?_; simp (maxSteps := 4000000) (disch := omega) only [go_sem, w64, AndB_of, IfB_of, IfB_no, pickE_of, pickE_no, ite_of, ite_no, tdivE, tmodE, takeAll]) | (apply CallB.q (e); simp (maxSteps := 4000000) (disch := omega) only [go_sem, w64, AndB_of, IfB_of, IfB_no, pickE_of, pickE_no, ite_of, ite_no, tdivE, tmodE, takeAll]) | (apply DCallB.q0 (e); simp (maxSteps := 4000000) (disch := omega) only [go_sem, w64, AndB_of, IfB_of, IfB_no, pickE_of, pickE_no, ite_of, ite_no, tdivE, tmodE, takeAll]))
  · have i1 : c.length = b.picked.length := by omega
    simp [i1]
  · have i1 : ¬ c.length = b.picked.length := by omega
    simp [i1]
theorem q_BatchOkI (b : GBt) (hb : BtS b) : QCall Try.prog 21 [.agg [rowsA b.cols, boolsA b.picked]] (.bool (decide (batchOk b))) := by
  refine qcall_body mixed Try.func21 _ (by unfold Try.f21; rfl) Try.ntmps21 Try.results21 (by decide) 0 (by simp) (by simp [pureL, pureA]) ?_
  obtain ⟨hb1, hb2, hb3⟩ := hb
  have e := q_ContainsFuncR b.cols 85 [.ro [rowsA b.cols, boolsA b.picked]] (by simp [pureL, pureA]) (fun c => !decide (colOk b.picked.length c)) hb1 fun c hc => q_BatchOk1 b c (hb3 c hc).1 (hb3 c hc).2
  rw [batchOk_iff]
  simp (maxSteps := 4000000) (disch := omega) only [go_sem, w64, AndB_of, IfB_of, IfB_no, pickE_of, pickE_no, ite_of, ite_no, tdivE, tmodE, takeAll]
  repeat' (first | (refine IfB.dec2 (fun h hd => ?_) (fun h hd => ?_) <;> (try (have h2 := h; unfold inR at h2)) <;> (try simp (maxSteps := 4000000) (disch := omega) only [go_sem, w64, AndB_of, IfB_of, IfB_no, pickE_of, pickE_no, ite_of, ite_no, tdivE, tmodE, takeAll, hd])) | (refine IfB.split (fun h => ?_) (fun h => ?_) <;> (try simp (maxSteps := 4000000) (disch := omega) only [go_sem, w64, AndB_of, IfB_of, IfB_no, pickE_of, pickE_no, ite_of, ite_no, tdivE, tmodE, takeAll, h])) | (refine DrawB.quiet (by kernel_rfl) ?_; simp (maxSteps := 4000000) (disch := omega) only [go_sem, w64, AndB_of, IfB_of, IfB_no, pickE_of, pickE_no, ite_of, ite_no, tdivE, tmodE, takeAll]))
  · refine CallB.pic (ps := [rowsA b.cols, .fn 85 [.ro [rowsA b.cols, boolsA b.picked]]]) ?_ e rfl ?_
    · have := Pict.snap (H := upd noH 0 (.live 0 [rowsA b.cols, boolsA b.picked])) 1 [rowsA b.cols, .fn 85 [.ptr 0 0 0]]
      simpa [go_sem, upd] using this
    · simp (maxSteps := 4000000) (disch := omega) only [go_sem, w64, AndB_of, IfB_of, IfB_no, pickE_of, pickE_no, ite_of, ite_no, tdivE, tmodE, takeAll]
      have i1 : b.cols.length ≤ 4 := by omega
      have i2 : b.picked.length ≤ 4 := by omega
      simp [i1, i2]
  · have i2 : ¬ b.picked.length ≤ 4 := by omega
    simp [i2]
  · have i1 : ¬ b.cols.length ≤ 4 := by omega
    simp [i1]
end Go.TH
