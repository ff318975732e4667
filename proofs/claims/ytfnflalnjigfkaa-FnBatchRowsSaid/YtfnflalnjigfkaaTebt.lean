/- TH: batches: the walks. Made by gen.py. -/
import Derived.Test.YtfnflalnjigfkaaTf3
import Derived.Test.YtfnflalnjigfkaaTerw
import Derived.Test.YtfnflalnjigfkaaTen
import Derived.Test.YtfnflalnjigfkaaTerc
import Derived.Test.YtfnflalnjigfkaaTeow3
import Derived.Test.YtfnflalnjigfkaaTf4
namespace Go.TH
open Go Go.Proofs
set_option linter.unusedSimpArgs false
set_option linter.unusedVariables false
set_option maxHeartbeats 20000000
set_option maxRecDepth 100000
def BtS (b : GBt) : Prop := b.cols.length ≤ 1048576 ∧ b.picked.length ≤ 1048576 ∧ ∀ c ∈ b.cols, c.length ≤ 1048576 ∧ ∀ x ∈ c, x.s.size ≤ 9223372036854775807
theorem q_BatchOkS (b : GBt) (hb : BtS b) : QCall Try.prog 94 [.agg [rowsA b.cols, boolsA b.picked]] (.bool (decide (batchOk b))) := by
  refine qcall_body mixed Try.func94 _ (by unfold Try.f94; rfl) Try.ntmps94 Try.results94 (by decide) 0 (by simp) (by simp [pureL, pureA]) ?_
  obtain ⟨hb1, hb2, hb3⟩ := hb
  unfold rowsA boolsA
  simp (maxSteps := 4000000) (disch := omega) only [go_sem, w64, AndB_of, IfB_of, IfB_no, pickE_of, pickE_no, ite_of, ite_no, tdivE, tmodE, takeAll]
  refine LoopB.auto (fun zs => (intOf (slotOf zs 3)).toNat) (fun zz => [(1, none), (1, some (.int .i64 (zz : Int)))]) (fun zz => upd noH 0 (.live 0 [.sl b.cols.length false (flat cR b.cols), .sl b.picked.length false (flat cBo b.picked)])) (fun zz => 1) (fun zz => b.cols.length - zz) (fun zz => zz ≤ b.cols.length ∧ ∀ c ∈ b.cols.take zz, colOk b.picked.length c) (by (first | simp (maxSteps := 4000000) (disch := omega) only [go_sem, w64, AndB_of, IfB_of, IfB_no, pickE_of, pickE_no, ite_of, ite_no, tdivE, tmodE, takeAll, hH] | simp (maxSteps := 4000000) (disch := omega) only [go_sem, w64, AndB_of, IfB_of, IfB_no, pickE_of, pickE_no, ite_of, ite_no, tdivE, tmodE, takeAll]); ((repeat' apply And.intro) <;> first | exact allTake0 | (exact Weak.go (by (first | (simp [wkL]; done) | (simp [wkL]; omega))) (fun zi => by first | exact .inl rfl | exact .inr rfl | (simp only [upd]; repeat' split) <;> first | exact allTake0 | exact .inl rfl | exact .inr rfl | (exfalso; omega) | exact .inr (hd _ (by omega)) | (left; subst_vars; exact hH.symm) | (left; subst_vars; rfl) | (left; simp; done) | (left; simp; omega)) (by omega)) | omega | rfl | assumption | exact Flat.nil | exact ⟨_, rfl, rfl, by assumption⟩ | (simp; done) | (simp; omega))) ?_
  intro k zh
  obtain ⟨hk, hall⟩ := zh
  simp (maxSteps := 4000000) (disch := omega) only [go_sem, w64, AndB_of, IfB_of, IfB_no, pickE_of, pickE_no, ite_of, ite_no, tdivE, tmodE, takeAll]
  refine IfB.dec (fun h1 => ?_) (fun h1 => ?_)
  · have h1' : k < b.cols.length := by omega
    have hc := hb3 _ (List.getElem_mem h1')
    have no : ¬ colOk b.picked.length b.cols[k] → decide (batchOk b) = false := fun e => decide_eq_false fun e2 => e (e2.2.2 _ (List.getElem_mem h1'))
    simp (maxSteps := 4000000) (disch := omega) only [go_sem, w64, AndB_of, IfB_of, IfB_no, pickE_of, pickE_no, ite_of, ite_no, tdivE, tmodE, takeAll]
    refine DrawB.quiet (by kernel_rfl) ?_
    simp (maxSteps := 4000000) (disch := omega) only [go_sem, w64, AndB_of, IfB_of, IfB_no, pickE_of, pickE_no, ite_of, ite_no, tdivE, tmodE, takeAll]
    refine IfB.dec (fun c1 => ?_) (fun c1 => ?_)
    · simp (maxSteps := 4000000) (disch := omega) only [go_sem, w64, AndB_of, IfB_of, IfB_no, pickE_of, pickE_no, ite_of, ite_no, tdivE, tmodE, takeAll]
      refine LoopB.auto (fun zs => (intOf (slotOf zs 4)).toNat) (fun zz => [(1, none), (1, none), (0, some (.int .i64 (zz : Int)))]) (fun zz => upd noH 0 (.live 0 [.sl b.cols.length false (flat cR b.cols), .sl b.picked.length false (flat cBo b.picked)])) (fun zz => 1) (fun zz => b.cols[k].length - zz) (fun zz => zz ≤ b.cols[k].length ∧ ∀ v ∈ b.cols[k].take zz, v.Ok) (by (first | simp (maxSteps := 4000000) (disch := omega) only [go_sem, w64, AndB_of, IfB_of, IfB_no, pickE_of, pickE_no, ite_of, ite_no, tdivE, tmodE, takeAll, hH] | simp (maxSteps := 4000000) (disch := omega) only [go_sem, w64, AndB_of, IfB_of, IfB_no, pickE_of, pickE_no, ite_of, ite_no, tdivE, tmodE, takeAll]); ((repeat' apply And.intro) <;> first | exact allTake0 | (exact Weak.go (by (first | (simp [wkL]; done) | (simp [wkL]; omega))) (fun zi => by first | exact .inl rfl | exact .inr rfl | (simp only [upd]; repeat' split) <;> first | exact allTake0 | exact .inl rfl | exact .inr rfl | (exfalso; omega) | exact .inr (hd _ (by omega)) | (left; subst_vars; exact hH.symm) | (left; subst_vars; rfl) | (left; simp; done) | (left; simp; omega)) (by omega)) | omega | rfl | assumption | exact Flat.nil | exact ⟨_, rfl, rfl, by assumption⟩ | (simp; done) | (simp; omega))) ?_
      intro j zh
      obtain ⟨hj, hv⟩ := zh
      simp (maxSteps := 4000000) (disch := omega) only [go_sem, w64, AndB_of, IfB_of, IfB_no, pickE_of, pickE_no, ite_of, ite_no, tdivE, tmodE, takeAll]
      refine IfB.dec (fun c2 => ?_) (fun c2 => ?_)
      · have c2' : j < b.cols[k].length := by omega
        have hs := hc.2 _ (List.getElem_mem c2')
        simp (maxSteps := 4000000) (disch := omega) only [go_sem, w64, AndB_of, IfB_of, IfB_no, pickE_of, pickE_no, ite_of, ite_no, tdivE, tmodE, takeAll]
        unfold rowA
        simp (maxSteps := 4000000) (disch := omega) only [go_sem, w64, AndB_of, IfB_of, IfB_no, pickE_of, pickE_no, ite_of, ite_no, tdivE, tmodE, takeAll]
        apply CallB.q (q_ValueOkS _ hs)
        simp (maxSteps := 4000000) (disch := omega) only [go_sem, w64, AndB_of, IfB_of, IfB_no, pickE_of, pickE_no, ite_of, ite_no, tdivE, tmodE, takeAll]
        refine IfB.dec (fun c3 => ?_) (fun c3 => ?_)
        · simp (maxSteps := 4000000) (disch := omega) only [go_sem, w64, AndB_of, IfB_of, IfB_no, pickE_of, pickE_no, ite_of, ite_no, tdivE, tmodE, takeAll]
          ((repeat' apply And.intro) <;> first | exact allTake c2' hv c3 | exact allTake0 | (exact Weak.go (by (first | (simp [wkL]; done) | (simp [wkL]; omega))) (fun zi => by first | exact .inl rfl | exact .inr rfl | (simp only [upd]; repeat' split) <;> first | exact allTake c2' hv c3 | exact allTake0 | exact .inl rfl | exact .inr rfl | (exfalso; omega) | exact .inr (hd _ (by omega)) | (left; subst_vars; exact hH.symm) | (left; subst_vars; rfl) | (left; simp; done) | (left; simp; omega)) (by omega)) | omega | rfl | assumption | exact Flat.nil | exact ⟨_, rfl, rfl, by assumption⟩ | (simp; done) | (simp; omega))
        · simp (maxSteps := 4000000) (disch := omega) only [go_sem, w64, AndB_of, IfB_of, IfB_no, pickE_of, pickE_no, ite_of, ite_no, tdivE, tmodE, takeAll]
          rw [no (fun e => c3 (e.2 _ (List.getElem_mem c2')))]
      · simp (maxSteps := 4000000) (disch := omega) only [go_sem, w64, AndB_of, IfB_of, IfB_no, pickE_of, pickE_no, ite_of, ite_no, tdivE, tmodE, takeAll]
        ((repeat' apply And.intro) <;> first | exact allTake h1' hall ⟨by omega, allEnd (by omega) hv⟩ | (exact Weak.go (by (first | (simp [wkL]; done) | (simp [wkL]; omega))) (fun zi => by first | exact .inl rfl | exact .inr rfl | (simp only [upd]; repeat' split) <;> first | exact allTake h1' hall ⟨by omega, allEnd (by omega) hv⟩ | exact .inl rfl | exact .inr rfl | (exfalso; omega) | exact .inr (hd _ (by omega)) | (left; subst_vars; exact hH.symm) | (left; subst_vars; rfl) | (left; simp; done) | (left; simp; omega)) (by omega)) | omega | rfl | assumption | exact Flat.nil | exact ⟨_, rfl, rfl, by assumption⟩ | (simp; done) | (simp; omega))
    · simp (maxSteps := 4000000) (disch := omega) only [go_sem, w64, AndB_of, IfB_of, IfB_no, pickE_of, pickE_no, ite_of, ite_no, tdivE, tmodE, takeAll]
      rw [no (fun e => by have := e.1; omega)]
  · have hy := allEnd (P := colOk b.picked.length) (by omega) hall
    simp (maxSteps := 4000000) (disch := omega) only [go_sem, w64, AndB_of, IfB_of, IfB_no, pickE_of, pickE_no, ite_of, ite_no, tdivE, tmodE, takeAll]
    repeat' (first | (refine IfB.dec (fun h => ?_) (fun h => ?_) <;> (try (have h2 := h; unfold inR at h2)) <;> (try simp (maxSteps := 4000000) (disch := omega) only [go_sem, w64, AndB_of, IfB_of, IfB_no, pickE_of, pickE_no, ite_of, ite_no, tdivE, tmodE, takeAll, h])) | (refine IfB.split (fun h => ?_) (fun h => ?_) <;> (try simp (maxSteps := 4000000) (disch := omega) only [go_sem, w64, AndB_of, IfB_of, IfB_no, pickE_of, pickE_no, ite_of, ite_no, tdivE, tmodE, takeAll, h])) | (refine DrawB.quiet (by kernel_rfl) ?_; simp (maxSteps := 4000000) (disch := omega) only [go_sem, w64, AndB_of, IfB_of, IfB_no, pickE_of, pickE_no, ite_of, ite_no, tdivE, tmodE, takeAll]))
    all_goals (rw [AV.bool.injEq, Bool.eq_iff_iff]; (try simp only [decide_eq_true_iff]); unfold batchOk; (try simp only [true_iff, Bool.false_eq_true, false_iff]); first | exact ⟨fun e => ⟨by omega, by omega, hy⟩, fun e => by have := e.2.1; omega⟩ | (intro e; have := e.1; have := e.2.1; omega))
theorem q_BatchOk11 (v : GVal) (hs : v.s.size ≤ 9223372036854775807) : QCall Try.prog 98 [.agg [.int .i64 v.k, .int .i64 v.n, .str v.s]] (.bool (!decide v.Ok)) := by
  refine qcall_body mixed Try.func98 _ (by unfold Try.f98; rfl) Try.ntmps98 Try.results98 (by decide) 0 (by simp) (by simp [pureL, pureA]) ?_
  simp (maxSteps := 4000000) (disch := omega) only [go_sem, w64, AndB_of, IfB_of, IfB_no, pickE_of, pickE_no, ite_of, ite_no, tdivE, tmodE, takeAll]
  apply CallB.q (q_ok v hs)
  simp (maxSteps := 4000000) (disch := omega) only [go_sem, w64, AndB_of, IfB_of, IfB_no, pickE_of, pickE_no, ite_of, ite_no, tdivE, tmodE, takeAll]
theorem q_BatchOk1 (b : GBt) (c : GRow) (hl : c.length ≤ 1048576) (hs : ∀ x ∈ c, x.s.size ≤ 9223372036854775807) : QCall Try.prog 97 [rowA c, .ro [rowsA b.cols, boolsA b.picked]] (.bool (!decide (colOk b.picked.length c))) := by
  refine qcall_body mixed Try.func97 _ (by unfold Try.f97; rfl) Try.ntmps97 Try.results97 (by decide) 0 (by simp) (by simp [pureL, pureA]) ?_
  have e := q_ContainsFuncV c 98 [] rfl (fun v => !decide v.Ok) hl fun v hv => q_BatchOk11 v (hs v hv)
  rw [colOk_iff]
  simp (maxSteps := 4000000) (disch := omega) only [go_sem, w64, AndB_of, IfB_of, IfB_no, pickE_of, pickE_no, ite_of, ite_no, tdivE, tmodE, takeAll]
  repeat' (first | (refine IfB.dec2 (fun h hd => ?_) (fun h hd => ?_) <;> (try (have h2 := h; unfold inR at h2)) <;> (try simp (maxSteps := 4000000) (disch := omega) only [go_sem, w64, AndB_of, IfB_of, IfB_no, pickE_of, pickE_no, ite_of, ite_no, tdivE, tmodE, takeAll, hd])) | (refine IfB.split (fun h => ?_) (fun h => ?_) <;> (try simp (maxSteps := 4000000) (disch := omega) only [go_sem, w64, AndB_of, IfB_of, IfB_no, pickE_of, pickE_no, ite_of, ite_no, tdivE, tmodE, takeAll, h])) | (refine DrawB.quiet (by kernel_rfl) ?_; simp (maxSteps := 4000000) (disch := omega) only [go_sem, w64, AndB_of, IfB_of, IfB_no, pickE_of, pickE_no, ite_of, ite_no, tdivE, tmodE, takeAll]) | (apply CallB.q (e); simp (maxSteps := 4000000) (disch := omega) only [go_sem, w64, AndB_of, IfB_of, IfB_no, pickE_of, pickE_no, ite_of, ite_no, tdivE, tmodE, takeAll]) | (apply DCallB.q0 (e); simp (maxSteps := 4000000) (disch := omega) only [go_sem, w64, AndB_of, IfB_of, IfB_no, pickE_of, pickE_no, ite_of, ite_no, tdivE, tmodE, takeAll]))
  · have i1 : c.length = b.picked.length := by omega
    simp [i1]
  · have i1 : ¬ c.length = b.picked.length := by omega
    simp [i1]
theorem q_BatchOkI (b : GBt) (hb : BtS b) : QCall Try.prog 35 [.agg [rowsA b.cols, boolsA b.picked]] (.bool (decide (batchOk b))) := by
  refine qcall_body mixed Try.func35 _ (by unfold Try.f35; rfl) Try.ntmps35 Try.results35 (by decide) 0 (by simp) (by simp [pureL, pureA]) ?_
  obtain ⟨hb1, hb2, hb3⟩ := hb
  have e := q_ContainsFuncR b.cols 97 [.ro [rowsA b.cols, boolsA b.picked]] (by simp [pureL, pureA]) (fun c => !decide (colOk b.picked.length c)) hb1 fun c hc => q_BatchOk1 b c (hb3 c hc).1 (hb3 c hc).2
  rw [batchOk_iff]
  simp (maxSteps := 4000000) (disch := omega) only [go_sem, w64, AndB_of, IfB_of, IfB_no, pickE_of, pickE_no, ite_of, ite_no, tdivE, tmodE, takeAll]
  repeat' (first | (refine IfB.dec2 (fun h hd => ?_) (fun h hd => ?_) <;> (try (have h2 := h; unfold inR at h2)) <;> (try simp (maxSteps := 4000000) (disch := omega) only [go_sem, w64, AndB_of, IfB_of, IfB_no, pickE_of, pickE_no, ite_of, ite_no, tdivE, tmodE, takeAll, hd])) | (refine IfB.split (fun h => ?_) (fun h => ?_) <;> (try simp (maxSteps := 4000000) (disch := omega) only [go_sem, w64, AndB_of, IfB_of, IfB_no, pickE_of, pickE_no, ite_of, ite_no, tdivE, tmodE, takeAll, h])) | (refine DrawB.quiet (by kernel_rfl) ?_; simp (maxSteps := 4000000) (disch := omega) only [go_sem, w64, AndB_of, IfB_of, IfB_no, pickE_of, pickE_no, ite_of, ite_no, tdivE, tmodE, takeAll]))
  · refine CallB.pic (ps := [rowsA b.cols, .fn 97 [.ro [rowsA b.cols, boolsA b.picked]]]) ?_ e rfl ?_
    · have := Pict.snap (H := upd noH 0 (.live 0 [rowsA b.cols, boolsA b.picked])) 1 [rowsA b.cols, .fn 97 [.ptr 0 0 0]]
      simpa [go_sem, upd] using this
    · simp (maxSteps := 4000000) (disch := omega) only [go_sem, w64, AndB_of, IfB_of, IfB_no, pickE_of, pickE_no, ite_of, ite_no, tdivE, tmodE, takeAll]
      have i1 : b.cols.length ≤ 4 := by omega
      have i2 : b.picked.length ≤ 4 := by omega
      simp [i1, i2]
  · have i2 : ¬ b.picked.length ≤ 4 := by omega
    simp [i2]
  · have i1 : ¬ b.cols.length ≤ 4 := by omega
    simp [i1]
theorem q_l9Row (b : GBt) (hb : BtS b) (hok : batchOk b) (n : Nat) (hn : n < b.picked.length) : QCall Try.prog 95 [.agg [rowsA b.cols, boolsA b.picked], .int .i64 n] (rowA (bRow b n)) := by
  refine qcall_bodyL mixed Try.func95 _ (by unfold Try.f95; rfl) Try.ntmps95 Try.results95 (by decide) 1 (by simp) (by simp [pureL, pureA]) ?_
  obtain ⟨hb1, hb2, hb3⟩ := hb
  unfold rowsA boolsA
  simp (maxSteps := 4000000) (disch := omega) only [go_sem, w64, AndB_of, IfB_of, IfB_no, pickE_of, pickE_no, ite_of, ite_no, tdivE, tmodE, takeAll]
  refine LoopB.auto (fun zs => (nxOf zs, (intOf (slotOf zs 6)).toNat, verOf (blkOf zs (1)), cellsOf (blkOf zs (1)))) (fun zz => [(1, none), (0, none), (2, some (.msl 1 zz.2.2.1 3 0 zz.2.1)), (0, some (.int .i64 (zz.2.1 : Int)))]) (fun zz => upd (upd noH 0 (.live 0 [.sl b.cols.length false (flat cR b.cols), .sl b.picked.length false (flat cBo b.picked)])) 1 (.live zz.2.2.1 zz.2.2.2)) (fun zz => zz.1) (fun zz => b.cols.length - zz.2.1) (fun zz => zz.2.1 ≤ b.cols.length ∧ 1 < zz.1 ∧ zz.2.2.2 = flat GVal.c ((b.cols.take zz.2.1).map fun c => c.getD n zV)) (by (first | simp (maxSteps := 4000000) (disch := omega) only [go_sem, w64, AndB_of, IfB_of, IfB_no, pickE_of, pickE_no, ite_of, ite_no, tdivE, tmodE, takeAll, hH] | simp (maxSteps := 4000000) (disch := omega) only [go_sem, w64, AndB_of, IfB_of, IfB_no, pickE_of, pickE_no, ite_of, ite_no, tdivE, tmodE, takeAll]); ((repeat' apply And.intro) <;> first | exact rfl | (exact Weak.go (by (first | (simp [wkL]; done) | (simp [wkL]; omega))) (fun zi => by first | exact .inl rfl | exact .inr rfl | (simp only [upd]; repeat' split) <;> first | exact rfl | exact .inl rfl | exact .inr rfl | (exfalso; omega) | exact .inr (hd _ (by omega)) | (left; subst_vars; exact hH.symm) | (left; subst_vars; rfl) | (left; simp; done) | (left; simp; omega)) (by omega)) | omega | rfl | assumption | exact Flat.nil | exact ⟨_, rfl, rfl, by assumption⟩ | (simp; done) | (simp; omega))) ?_
  intro zz zh
  obtain ⟨x, k, w, cells⟩ := zz
  dsimp only at zh
  obtain ⟨hk, hx, hc⟩ := zh
  simp (maxSteps := 4000000) (disch := omega) only [go_sem, w64, AndB_of, IfB_of, IfB_no, pickE_of, pickE_no, ite_of, ite_no, tdivE, tmodE, takeAll]
  have hlen : cells.length = k * 3 := by rw [hc, flat_len GVal.len, List.length_map, len_take hk]
  refine IfB.dec (fun h1 => ?_) (fun h1 => ?_)
  · have h1' : k < b.cols.length := by omega
    have hcl := (hok.2.2 _ (List.getElem_mem h1')).1
    have hn' : n < b.cols[k].length := by omega
    simp (maxSteps := 4000000) (disch := omega) only [go_sem, w64, AndB_of, IfB_of, IfB_no, pickE_of, pickE_no, ite_of, ite_no, tdivE, tmodE, takeAll]
    unfold rowA
    simp (maxSteps := 4000000) (disch := omega) only [go_sem, w64, AndB_of, IfB_of, IfB_no, pickE_of, pickE_no, ite_of, ite_no, tdivE, tmodE, takeAll]
    ((repeat' apply And.intro) <;> first | exact (by rw [hc]; exact (bRow_take h1' hn').symm) | (exact Weak.go (by (first | (simp [wkL]; done) | (simp [wkL]; omega))) (fun zi => by first | exact .inl rfl | exact .inr rfl | (simp only [upd]; repeat' split) <;> first | exact (by rw [hc]; exact (bRow_take h1' hn').symm) | exact .inl rfl | exact .inr rfl | (exfalso; omega) | exact .inr (hd _ (by omega)) | (left; subst_vars; exact hH.symm) | (left; subst_vars; rfl) | (left; simp; done) | (left; simp; omega)) (by omega)) | omega | rfl | assumption | exact Flat.nil | exact ⟨_, rfl, rfl, by assumption⟩ | (simp; done) | (simp; omega))
  · obtain rfl : k = b.cols.length := by omega
    rw [List.take_length] at hc
    subst hc
    have e : (bRow b n).length = b.cols.length := by simp [bRow]
    simp (maxSteps := 4000000) (disch := omega) only [go_sem, w64, AndB_of, IfB_of, IfB_no, pickE_of, pickE_no, ite_of, ite_no, tdivE, tmodE, takeAll]
    unfold rowA
    rw [e]
    rfl
theorem q_BatchRowsS (b : GBt) (hb : BtS b) : QCall Try.prog 34 [.agg [rowsA b.cols, boolsA b.picked]] (rowsA (bRows b)) := by
  refine qcall_bodyL mixed Try.func34 _ (by unfold Try.f34; rfl) Try.ntmps34 Try.results34 (by decide) 1 (by simp) (by simp [pureL, pureA]) ?_
  have hb' := hb
  obtain ⟨hb1, hb2, hb3⟩ := hb
  simp (maxSteps := 4000000) (disch := omega) only [go_sem, w64, AndB_of, IfB_of, IfB_no, pickE_of, pickE_no, ite_of, ite_no, tdivE, tmodE, takeAll]
  refine LoopB.auto (fun zs => (nxOf zs, (intOf (slotOf zs 4)).toNat, verOf (blkOf zs (1)), cellsOf (blkOf zs (1)), mlenOf (slotOf zs 3))) (fun zz => [(1, none), (1, some (.msl 1 zz.2.2.1 1 0 zz.2.2.2.2)), (0, some (.int .i64 (zz.2.1 : Int)))]) (fun zz => upd (upd noH 0 (.live 0 [rowsA b.cols, boolsA b.picked])) 1 (.live zz.2.2.1 zz.2.2.2.1)) (fun zz => zz.1) (fun zz => b.picked.length - zz.2.1) (fun zz => zz.2.1 ≤ b.picked.length ∧ 1 < zz.1 ∧ (batchOk b ∨ zz.2.1 = 0) ∧ zz.2.2.2.1 = flat cR (bRowsK b zz.2.1) ∧ zz.2.2.2.2 = (bRowsK b zz.2.1).length) (by (first | simp (maxSteps := 4000000) (disch := omega) only [go_sem, w64, AndB_of, IfB_of, IfB_no, pickE_of, pickE_no, ite_of, ite_no, tdivE, tmodE, takeAll, hH] | simp (maxSteps := 4000000) (disch := omega) only [go_sem, w64, AndB_of, IfB_of, IfB_no, pickE_of, pickE_no, ite_of, ite_no, tdivE, tmodE, takeAll]); ((repeat' apply And.intro) <;> first | exact rfl | exact .inr rfl | (exact Weak.go (by (first | (simp [wkL]; done) | (simp [wkL]; omega))) (fun zi => by first | exact .inl rfl | exact .inr rfl | (simp only [upd]; repeat' split) <;> first | exact rfl | exact .inr rfl | exact .inl rfl | exact .inr rfl | (exfalso; omega) | exact .inr (hd _ (by omega)) | (left; subst_vars; exact hH.symm) | (left; subst_vars; rfl) | (left; simp; done) | (left; simp; omega)) (by omega)) | omega | rfl | assumption | exact Flat.nil | exact ⟨_, rfl, rfl, by assumption⟩ | (simp; done) | (simp; omega))) ?_
  intro zz zh
  obtain ⟨x, k, w, cells, m⟩ := zz
  dsimp only at zh
  obtain ⟨hk, hx, hv, hc, hm⟩ := zh
  simp (maxSteps := 4000000) (disch := omega) only [go_sem, w64, AndB_of, IfB_of, IfB_no, pickE_of, pickE_no, ite_of, ite_no, tdivE, tmodE, takeAll]
  have hmk := bRowsK_len b k
  have hlen : cells.length = m := by rw [hc, cR_flen, hm]
  refine IfB.dec (fun h1 => ?_) (fun h1 => ?_)
  · have h1' : k < b.picked.length := by omega
    have hg : b.picked.getD k false = b.picked[k] := by simp [List.getD, h1']
    simp (maxSteps := 4000000) (disch := omega) only [go_sem, w64, AndB_of, IfB_of, IfB_no, pickE_of, pickE_no, ite_of, ite_no, tdivE, tmodE, takeAll]
    apply CallB.q (q_BatchOkS b hb')
    simp (maxSteps := 4000000) (disch := omega) only [go_sem, w64, AndB_of, IfB_of, IfB_no, pickE_of, pickE_no, ite_of, ite_no, tdivE, tmodE, takeAll]
    refine IfB.dec (fun c1 => ?_) (fun c1 => ?_)
    · simp (maxSteps := 4000000) (disch := omega) only [go_sem, w64, AndB_of, IfB_of, IfB_no, pickE_of, pickE_no, ite_of, ite_no, tdivE, tmodE, takeAll]
      unfold boolsA
      simp (maxSteps := 4000000) (disch := omega) only [go_sem, w64, AndB_of, IfB_of, IfB_no, pickE_of, pickE_no, ite_of, ite_no, tdivE, tmodE, takeAll]
      refine IfB.split (fun c2 => ?_) (fun c2 => ?_)
      · simp (maxSteps := 4000000) (disch := omega) only [go_sem, w64, AndB_of, IfB_of, IfB_no, pickE_of, pickE_no, ite_of, ite_no, tdivE, tmodE, takeAll]
        apply CallB.q (q_l9Row b hb' c1 k h1')
        simp (maxSteps := 4000000) (disch := omega) only [go_sem, w64, AndB_of, IfB_of, IfB_no, pickE_of, pickE_no, ite_of, ite_no, tdivE, tmodE, takeAll]
        have e : bRowsK b (k + 1) = bRowsK b k ++ [bRow b k] := by rw [bRowsK, hg, c2]; rfl
        refine ⟨⟨by omega, by omega, by assumption, ?_, ?_⟩, by omega, ?_⟩
        · rw [e, flat_append, ← hc]; rfl
        · rw [e, hm]; simp
        · ((repeat' apply And.intro) <;> first | (exact Weak.go (by (first | (simp [wkL]; done) | (simp [wkL]; omega))) (fun zi => by first | exact .inl rfl | exact .inr rfl | (simp only [upd]; repeat' split) <;> first | exact .inl rfl | exact .inr rfl | (exfalso; omega) | exact .inr (hd _ (by omega)) | (left; subst_vars; exact hH.symm) | (left; subst_vars; rfl) | (left; simp; done) | (left; simp; omega)) (by omega)) | omega | rfl | assumption | exact Flat.nil | exact ⟨_, rfl, rfl, by assumption⟩ | (simp; done) | (simp; omega))
      · simp (maxSteps := 4000000) (disch := omega) only [go_sem, w64, AndB_of, IfB_of, IfB_no, pickE_of, pickE_no, ite_of, ite_no, tdivE, tmodE, takeAll]
        have e : bRowsK b (k + 1) = bRowsK b k := by rw [bRowsK, hg, c2]; simp
        refine ⟨⟨by omega, by omega, by assumption, by rw [e, ← hc], by rw [e, hm]⟩, by omega, ?_⟩
        ((repeat' apply And.intro) <;> first | (exact Weak.go (by (first | (simp [wkL]; done) | (simp [wkL]; omega))) (fun zi => by first | exact .inl rfl | exact .inr rfl | (simp only [upd]; repeat' split) <;> first | exact .inl rfl | exact .inr rfl | (exfalso; omega) | exact .inr (hd _ (by omega)) | (left; subst_vars; exact hH.symm) | (left; subst_vars; rfl) | (left; simp; done) | (left; simp; omega)) (by omega)) | omega | rfl | assumption | exact Flat.nil | exact ⟨_, rfl, rfl, by assumption⟩ | (simp; done) | (simp; omega))
    · have hk0 : k = 0 := by rcases hv with hv | hv; contradiction; exact hv
      subst hk0
      obtain rfl : cells = [] := by rw [hc]; rfl
      obtain rfl : m = 0 := by rw [hm]; rfl
      simp (maxSteps := 4000000) (disch := omega) only [go_sem, w64, AndB_of, IfB_of, IfB_no, pickE_of, pickE_no, ite_of, ite_no, tdivE, tmodE, takeAll]
      unfold bRows
      rw [if_neg c1]
      rfl
  · obtain rfl : k = b.picked.length := by omega
    subst hc hm
    simp (maxSteps := 4000000) (disch := omega) only [go_sem, w64, AndB_of, IfB_of, IfB_no, pickE_of, pickE_no, ite_of, ite_no, tdivE, tmodE, takeAll]
    unfold bRows
    split
    · rfl
    · have hl0 : b.picked.length = 0 := by
        rcases hv with hv | hv
        · contradiction
        · exact hv
      rw [hl0]
      rfl
theorem q_bRow (b : GBt) (hb : BtS b) (hok : batchOk b) (n : Nat) (hn : n < b.picked.length) : QCall Try.prog 149 [.agg [rowsA b.cols, boolsA b.picked], .int .i64 n] (rowA (bRow b n)) := by
  refine qcall_bodyL mixed Try.func149 _ (by unfold Try.f149; rfl) Try.ntmps149 Try.results149 (by decide) 1 (by simp) (by simp [pureL, pureA]) ?_
  obtain ⟨hb1, hb2, hb3⟩ := hb
  unfold rowsA boolsA
  simp (maxSteps := 4000000) (disch := omega) only [go_sem, w64, AndB_of, IfB_of, IfB_no, pickE_of, pickE_no, ite_of, ite_no, tdivE, tmodE, takeAll]
  refine LoopB.weak (Weak.nil 5 3 rfl) ?_
  simp only [List.set_cons_succ, List.set_cons_zero]
  refine LoopB.auto (fun zs => (nxOf zs, (intOf (slotOf zs 11)).toNat, verOf (blkOf zs (1)), cellsOf (blkOf zs (1)))) (fun zz => [(1, none), (3, some (.msl 1 zz.2.2.1 3 0 zz.2.1)), (3, none), (0, none), (0, some (.int .i64 (zz.2.1 : Int)))]) (fun zz => upd noH 1 (.live zz.2.2.1 zz.2.2.2)) (fun zz => zz.1) (fun zz => b.cols.length - zz.2.1) (fun zz => zz.2.1 ≤ b.cols.length ∧ 1 < zz.1 ∧ zz.2.2.2 = flat GVal.c ((b.cols.take zz.2.1).map fun c => c.getD n zV)) (by (first | simp (maxSteps := 4000000) (disch := omega) only [go_sem, w64, AndB_of, IfB_of, IfB_no, pickE_of, pickE_no, ite_of, ite_no, tdivE, tmodE, takeAll, hH] | simp (maxSteps := 4000000) (disch := omega) only [go_sem, w64, AndB_of, IfB_of, IfB_no, pickE_of, pickE_no, ite_of, ite_no, tdivE, tmodE, takeAll]); ((repeat' apply And.intro) <;> first | exact rfl | (exact Weak.go (by (first | (simp [wkL]; done) | (simp [wkL]; omega))) (fun zi => by first | exact .inl rfl | exact .inr rfl | (simp only [upd]; repeat' split) <;> first | exact rfl | exact .inl rfl | exact .inr rfl | (exfalso; omega) | exact .inr (hd _ (by omega)) | (left; subst_vars; exact hH.symm) | (left; subst_vars; rfl) | (left; simp; done) | (left; simp; omega)) (by omega)) | omega | rfl | assumption | exact Flat.nil | exact ⟨_, rfl, rfl, by assumption⟩ | (simp; done) | (simp; omega))) ?_
  intro zz zh
  obtain ⟨x, k, w, cells⟩ := zz
  dsimp only at zh
  obtain ⟨hk, hx, hc⟩ := zh
  simp (maxSteps := 4000000) (disch := omega) only [go_sem, w64, AndB_of, IfB_of, IfB_no, pickE_of, pickE_no, ite_of, ite_no, tdivE, tmodE, takeAll]
  have hlen : cells.length = k * 3 := by rw [hc, flat_len GVal.len, List.length_map, len_take hk]
  refine IfB.dec (fun h1 => ?_) (fun h1 => ?_)
  · have h1' : k < b.cols.length := by omega
    have hcl := (hok.2.2 _ (List.getElem_mem h1')).1
    have hn' : n < b.cols[k].length := by omega
    simp (maxSteps := 4000000) (disch := omega) only [go_sem, w64, AndB_of, IfB_of, IfB_no, pickE_of, pickE_no, ite_of, ite_no, tdivE, tmodE, takeAll]
    unfold rowA
    simp (maxSteps := 4000000) (disch := omega) only [go_sem, w64, AndB_of, IfB_of, IfB_no, pickE_of, pickE_no, ite_of, ite_no, tdivE, tmodE, takeAll]
    ((repeat' apply And.intro) <;> first | exact (by rw [hc]; exact (bRow_take h1' hn').symm) | (exact Weak.go (by (first | (simp [wkL]; done) | (simp [wkL]; omega))) (fun zi => by first | exact .inl rfl | exact .inr rfl | (simp only [upd]; repeat' split) <;> first | exact (by rw [hc]; exact (bRow_take h1' hn').symm) | exact .inl rfl | exact .inr rfl | (exfalso; omega) | exact .inr (hd _ (by omega)) | (left; subst_vars; exact hH.symm) | (left; subst_vars; rfl) | (left; simp; done) | (left; simp; omega)) (by omega)) | omega | rfl | assumption | exact Flat.nil | exact ⟨_, rfl, rfl, by assumption⟩ | (simp; done) | (simp; omega))
  · obtain rfl : k = b.cols.length := by omega
    rw [List.take_length] at hc
    subst hc
    have e : (bRow b n).length = b.cols.length := by simp [bRow]
    simp (maxSteps := 4000000) (disch := omega) only [go_sem, w64, AndB_of, IfB_of, IfB_no, pickE_of, pickE_no, ite_of, ite_no, tdivE, tmodE, takeAll]
    unfold rowA
    rw [e]
    rfl
theorem bRow_len {b : GBt} {n : Nat} : (bRow b n).length = b.cols.length := by simp [bRow]
theorem f_bRows (b : GBt) (hb : BtS b) (hok : batchOk b) : ACallD Try.prog 93 [.agg [rowsA b.cols, boolsA b.picked]] noH 0 (fun r H' n' => OwnR H' 0 n' (rowsA (bRowsK b b.picked.length)) r) := by
  refine dcall_body mixed Try.func93 _ (by unfold Try.f93; rfl) Try.ntmps93 Try.results93 (by decide) (by simp) ?_
  have hb' := hb
  obtain ⟨hb1, hb2, hb3⟩ := hb
  have h41 := hok.1
  have h42 := hok.2.1
  simp (maxSteps := 4000000) (disch := omega) only [go_sem, w64, AndB_of, IfB_of, IfB_no, pickE_of, pickE_no, ite_of, ite_no, tdivE, tmodE, takeAll]
  refine LoopB.weak (Weak.nil 3 1 rfl) ?_
  simp only [List.set_cons_succ, List.set_cons_zero]
  refine LoopB.auto (fun zs => (nxOf zs, (intOf (slotOf zs 9)).toNat, verOf (blkOf zs (1)), cellsOf (blkOf zs (1)), mlenOf (slotOf zs 3))) (fun zz => [(1, none), (1, some (.msl 1 zz.2.2.1 1 0 zz.2.2.2.2)), (3, none), (0, none), (0, some (.int .i64 (zz.2.1 : Int)))]) (fun zz => upd (upd noH 0 (.live 0 [rowsA b.cols, boolsA b.picked])) 1 (.live zz.2.2.1 zz.2.2.2.1)) (fun zz => zz.1) (fun zz => b.picked.length - zz.2.1) (fun zz => zz.2.1 ≤ b.picked.length ∧ 1 < zz.1 ∧ zz.2.2.2.1 = flat cR (bRowsK b zz.2.1) ∧ zz.2.2.2.2 = (bRowsK b zz.2.1).length) (by (first | simp (maxSteps := 4000000) (disch := omega) only [go_sem, w64, AndB_of, IfB_of, IfB_no, pickE_of, pickE_no, ite_of, ite_no, tdivE, tmodE, takeAll, hH] | simp (maxSteps := 4000000) (disch := omega) only [go_sem, w64, AndB_of, IfB_of, IfB_no, pickE_of, pickE_no, ite_of, ite_no, tdivE, tmodE, takeAll]); ((repeat' apply And.intro) <;> first | exact rfl | (exact Weak.go (by (first | (simp [wkL]; done) | (simp [wkL]; omega))) (fun zi => by first | exact .inl rfl | exact .inr rfl | (simp only [upd]; repeat' split) <;> first | exact rfl | exact .inl rfl | exact .inr rfl | (exfalso; omega) | exact .inr (hd _ (by omega)) | (left; subst_vars; exact hH.symm) | (left; subst_vars; rfl) | (left; simp; done) | (left; simp; omega)) (by omega)) | omega | rfl | assumption | exact Flat.nil | exact ⟨_, rfl, rfl, by assumption⟩ | (simp; done) | (simp; omega))) ?_
  intro zz zh
  obtain ⟨x, k, w, cells, m⟩ := zz
  dsimp only at zh
  obtain ⟨hk, hx, hc, hm⟩ := zh
  simp (maxSteps := 4000000) (disch := omega) only [go_sem, w64, AndB_of, IfB_of, IfB_no, pickE_of, pickE_no, ite_of, ite_no, tdivE, tmodE, takeAll]
  have hmk := bRowsK_len b k
  have hlen : cells.length = m := by rw [hc, cR_flen, hm]
  refine IfB.dec (fun h1 => ?_) (fun h1 => ?_)
  · have h1' : k < b.picked.length := by omega
    have hg : b.picked.getD k false = b.picked[k] := by simp [List.getD, h1']
    unfold boolsA
    simp (maxSteps := 4000000) (disch := omega) only [go_sem, w64, AndB_of, IfB_of, IfB_no, pickE_of, pickE_no, ite_of, ite_no, tdivE, tmodE, takeAll]
    refine IfB.split (fun c2 => ?_) (fun c2 => ?_)
    · simp (maxSteps := 4000000) (disch := omega) only [go_sem, w64, AndB_of, IfB_of, IfB_no, pickE_of, pickE_no, ite_of, ite_no, tdivE, tmodE, takeAll]
      apply CallB.q (q_bRow b hb' hok k h1')
      simp (maxSteps := 4000000) (disch := omega) only [go_sem, w64, AndB_of, IfB_of, IfB_no, pickE_of, pickE_no, ite_of, ite_no, tdivE, tmodE, takeAll]
      have e : bRowsK b (k + 1) = bRowsK b k ++ [bRow b k] := by rw [bRowsK, hg, c2]; rfl
      refine ⟨⟨by omega, by omega, ?_, ?_⟩, by omega, ?_⟩
      · rw [e, flat_append, ← hc]; rfl
      · rw [e, hm]; simp
      · ((repeat' apply And.intro) <;> first | (exact Weak.go (by (first | (simp [wkL]; done) | (simp [wkL]; omega))) (fun zi => by first | exact .inl rfl | exact .inr rfl | (simp only [upd]; repeat' split) <;> first | exact .inl rfl | exact .inr rfl | (exfalso; omega) | exact .inr (hd _ (by omega)) | (left; subst_vars; exact hH.symm) | (left; subst_vars; rfl) | (left; simp; done) | (left; simp; omega)) (by omega)) | omega | rfl | assumption | exact Flat.nil | exact ⟨_, rfl, rfl, by assumption⟩ | (simp; done) | (simp; omega))
    · simp (maxSteps := 4000000) (disch := omega) only [go_sem, w64, AndB_of, IfB_of, IfB_no, pickE_of, pickE_no, ite_of, ite_no, tdivE, tmodE, takeAll]
      have e : bRowsK b (k + 1) = bRowsK b k := by rw [bRowsK, hg, c2]; simp
      refine ⟨⟨by omega, by omega, by rw [e, ← hc], by rw [e, hm]⟩, by omega, ?_⟩
      ((repeat' apply And.intro) <;> first | (exact Weak.go (by (first | (simp [wkL]; done) | (simp [wkL]; omega))) (fun zi => by first | exact .inl rfl | exact .inr rfl | (simp only [upd]; repeat' split) <;> first | exact .inl rfl | exact .inr rfl | (exfalso; omega) | exact .inr (hd _ (by omega)) | (left; subst_vars; exact hH.symm) | (left; subst_vars; rfl) | (left; simp; done) | (left; simp; omega)) (by omega)) | omega | rfl | assumption | exact Flat.nil | exact ⟨_, rfl, rfl, by assumption⟩ | (simp; done) | (simp; omega))
  · obtain rfl : k = b.picked.length := by omega
    simp (maxSteps := 4000000) (disch := omega) only [go_sem, w64, AndB_of, IfB_of, IfB_no, pickE_of, pickE_no, ite_of, ite_no, tdivE, tmodE, takeAll]
    subst hm
    refine CallB.fresh (Pict.msl (l := bRowsK b b.picked.length) (rest := []) cR_len cR_pure (by rw [upd_same, hc, List.append_nil])) (f_rowsCopy _ (by omega) (bRowsK_all fun n => by rw [bRow_len]; omega)) fun r H3 n3 hO hn3 hH3 => ?_
    simp (maxSteps := 4000000) (disch := omega) only [go_sem, w64, AndB_of, IfB_of, IfB_no, pickE_of, pickE_no, ite_of, ite_no, tdivE, tmodE, takeAll]
    exact hO.mono (by omega) (by omega)
theorem f_BatchRowsI (b : GBt) (hb : BtS b) : ACallD Try.prog 32 [.agg [rowsA b.cols, boolsA b.picked]] noH 0 (fun r H' n' => OwnR H' 0 n' (rowsA (bRows b)) r) := by
  refine dcall_body mixed Try.func32 _ (by unfold Try.f32; rfl) Try.ntmps32 Try.results32 (by decide) (by simp) ?_
  simp (maxSteps := 4000000) (disch := omega) only [go_sem, w64, AndB_of, IfB_of, IfB_no, pickE_of, pickE_no, ite_of, ite_no, tdivE, tmodE, takeAll]
  apply CallB.q (q_BatchOkI b hb)
  simp (maxSteps := 4000000) (disch := omega) only [go_sem, w64, AndB_of, IfB_of, IfB_no, pickE_of, pickE_no, ite_of, ite_no, tdivE, tmodE, takeAll]
  refine IfB.dec (fun c1 => ?_) (fun c1 => ?_)
  · simp (maxSteps := 4000000) (disch := omega) only [go_sem, w64, AndB_of, IfB_of, IfB_no, pickE_of, pickE_no, ite_of, ite_no, tdivE, tmodE, takeAll]
    unfold bRows
    rw [if_pos c1]
    refine CallB.fresh (Pict.cons (Pict.pure (by simp [pureA, pureL])) Pict.nil) (f_bRows b hb c1) fun r H3 n3 hO hn3 hH3 => ?_
    simp (maxSteps := 4000000) (disch := omega) only [go_sem, w64, AndB_of, IfB_of, IfB_no, pickE_of, pickE_no, ite_of, ite_no, tdivE, tmodE, takeAll]
    exact hO.mono (by omega) (by omega)
  · simp (maxSteps := 4000000) (disch := omega) only [go_sem, w64, AndB_of, IfB_of, IfB_no, pickE_of, pickE_no, ite_of, ite_no, tdivE, tmodE, takeAll]
    unfold bRows
    rw [if_neg c1]
    exact OwnR.nilS
end Go.TH
