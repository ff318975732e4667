/- TH: what is one's own: batches: the walks, the law FnExactBatchRows. Made by gen.py. -/
import Derived.Test.YtfnflalnjigfkaaTf3
import Derived.Test.YtfnflalnjigfkaaTebt
namespace Go.TH
open Go Go.Proofs
set_option linter.unusedSimpArgs false
set_option linter.unusedVariables false
set_option maxHeartbeats 20000000
set_option maxRecDepth 100000
def cBt (b : GBt) : Int := gcnt wRo (b.cols.map fun v => v.length) + 1 * b.picked.length
theorem cntBt (b : GBt) (hb : (b.cols.length ≤ 1048576 ∧ ∀ v ∈ b.cols, v.length ≤ 1048576) ∧ b.picked.length ≤ 1048576) : 0 ≤ cBt b ∧ cBt b ≤ 3298539077632 := by
  have := cntRo b.cols hb.1
  have := hb.2
  unfold cBt
  omega
theorem o_toBatch (v : GBt) (hb : BtB v) : ACallD Try.prog 48 [.agg [rowsA v.cols, boolsA v.picked]] noH 0 (fun r H' n' => OwnR H' 0 n' (.agg [rowsA v.cols, boolsA v.picked]) r) := by
  refine dcall_body mixed Try.func48 _ (by unfold Try.f48; rfl) Try.ntmps48 Try.results48 (by decide) (by simp) ?_
  simp (maxSteps := 4000000) (disch := omega) only [go_sem, w64, AndB_of, IfB_of, IfB_no, pickE_of, pickE_no, ite_of, ite_no, tdivE, tmodE, takeAll]
  refine CallB.fresh (Pict.cons (Pict.pure (rowsA_pure _)) Pict.nil) (o_toValueSS v.cols hb.1) fun ra H2 n2 hO hn hH => ?_
  obtain ⟨S, h1, hN, hr⟩ := hO
  have hca : cellsA H2 ra = some [ra] := h1.cellsA
  have b0 : H2 0 = .live 0 [rowsA v.cols, boolsA v.picked] := by rw [hH 0 (by omega)]; rfl
  have b1 : H2 1 = .live 0 [.sl 0 true [], .sl 0 true []] := by rw [hH 1 (by omega)]; rfl
  have b2 : H2 2 = .live 0 [.sl 0 true [], .sl 0 true []] := by rw [hH 2 (by omega)]; rfl
  simp (maxSteps := 4000000) (disch := omega) only [go_sem, w64, AndB_of, IfB_of, IfB_no, pickE_of, pickE_no, ite_of, ite_no, tdivE, tmodE, takeAll, b0, b1, b2, hca]
  refine CallB.fresh (Pict.cons (Pict.pure (boolsA_pure _)) Pict.nil) (o_toBoolS v.picked hb.2) fun rb H3 n3 hO3 hn3 hH3 => ?_
  obtain ⟨S3, k1, kN, kr⟩ := hO3
  have hcb : cellsA H3 rb = some [rb] := k1.cellsA
  have c1 : H3 1 = .live 0 [.sl 0 true [], .sl 0 true []] := by rw [hH3 1 (by omega), upd_ne _ _ (by omega), b1]
  have c2 : H3 2 = .live 0 [ra, .sl 0 true []] := by rw [hH3 2 (by omega), upd_same]
  simp (maxSteps := 4000000) (disch := omega) only [go_sem, w64, AndB_of, IfB_of, IfB_no, pickE_of, pickE_no, ite_of, ite_no, tdivE, tmodE, takeAll, c1, c2, hcb]
  have g1 := (h1.congr (H' := upd (upd H3 2 (.live 0 [ra, rb])) 1 (.live 0 [ra, rb])) fun j hj => by have := hr j hj; rw [upd_ne _ _ (by omega), upd_ne _ _ (by omega), hH3 j (by omega), upd_ne _ _ (by omega)])
  have g2 := (k1.congr (H' := upd (upd H3 2 (.live 0 [ra, rb])) 1 (.live 0 [ra, rb])) fun j hj => by have := kr j hj; rw [upd_ne _ _ (by omega), upd_ne _ _ (by omega)])
  exact OwnR.agg2 g1 g2 hN kN (fun i hi => by have := hr i hi; omega) (fun i hi => by have := kr i hi; omega) (fun i hi hj => by have := hr i hi; have := kr i hj; omega)
theorem m_markBatch {H : AH} {lo hi nx : Nat} {a : AV} (b : GBt) (hb : (b.cols.length ≤ 1048576 ∧ ∀ v ∈ b.cols, v.length ≤ 1048576) ∧ b.picked.length ≤ 1048576) (k : Int) (hk0 : 0 ≤ k) (hk1 : k ≤ 1125899906842) (h : OwnR H lo hi (.agg [rowsA b.cols, boolsA b.picked]) a) (hhi : hi ≤ nx) :
    ACallD Try.prog 50 [a, .int .i64 k] H nx (fun r H' nx' => r = .int .i64 (k + cBt b) ∧ OwnR H' lo hi (.agg [rowsA (genL mkRo wRo (b.cols.map fun v => v.length) k), boolsA (mks mkBo 1 b.picked.length (k + gcnt wRo (b.cols.map fun v => v.length)))]) a ∧ (∀ i, i < nx → ¬ (lo ≤ i ∧ i < hi) → H' i = H i) ∧ nx ≤ nx') := by
  have hc := cntRo b.cols hb.1
  obtain ⟨S, hO, hN, hr⟩ := h
  obtain ⟨as0, rfl, h1⟩ := hO.unagg
  obtain ⟨S1, S2, x, as', rfl, rfl, h2, h3⟩ := h1.uncons
  obtain ⟨y, rfl, h4⟩ := h3.one
  have hN' := List.nodup_append.1 hN
  have n1 : ∀ i ∈ S1, lo ≤ i ∧ i < hi := fun i hi => hr i (by simp [hi])
  have n2 : ∀ i ∈ S2, lo ≤ i ∧ i < hi := fun i hi => hr i (by simp [hi])
  have hc1 : cellsA H x = some [x] := h2.cellsA
  have hc2 : cellsA H y = some [y] := h4.cellsA
  refine dcall_body mixed Try.func50 _ (by unfold Try.f50; rfl) Try.ntmps50 Try.results50 (by decide) (by simp) ?_
  simp (maxSteps := 4000000) (disch := omega) only [go_sem, w64, AndB_of, IfB_of, IfB_no, pickE_of, pickE_no, ite_of, ite_no, tdivE, tmodE, takeAll, hc1, hc2]
  refine CallB.law (s_markValueSS b.cols hb.1 k (by omega) (by omega) (h2.congr fun j hj => upd_ne _ _ (by have := n1 j hj; omega)) hN'.1) ?_
  rintro _ H2 nx2 ⟨rfl, o2, f2, rfl⟩
  have hb2 : H2 nx = .live 0 [x, y] := by rw [f2 nx (fun h => by have := n1 _ h; omega), upd_same]
  simp (maxSteps := 4000000) (disch := omega) only [go_sem, w64, AndB_of, IfB_of, IfB_no, pickE_of, pickE_no, ite_of, ite_no, tdivE, tmodE, takeAll, hb2]
  refine CallB.law (s_markBoolS b.picked hb.2 (k + gcnt wRo (b.cols.map fun v => v.length)) (by omega) (by omega) (h4.congr fun j hj => by rw [f2 j (fun h => hN'.2.2 j h j hj rfl), upd_ne _ _ (by have := n2 j hj; omega)])) ?_
  rintro _ H3 nx3 ⟨rfl, o3, f3, rfl⟩
  simp (maxSteps := 4000000) (disch := omega) only [go_sem, w64, AndB_of, IfB_of, IfB_no, pickE_of, pickE_no, ite_of, ite_no, tdivE, tmodE, takeAll]
  refine ⟨by unfold cBt; rw [Int.add_assoc], ?_, ?_, by omega⟩
  · exact OwnR.agg2 (o2.congr fun j hj => f3 j (fun h => hN'.2.2 j hj j h rfl)) o3 hN'.1 hN'.2.1 n1 n2 (fun i hi hj => hN'.2.2 i hi i hj rfl)
  · intro i hi hni
    rw [f3 i (fun h => hni (n2 i h)), f2 i (fun h => hni (n1 i h)), upd_ne _ _ (by omega)]
theorem bRows_b {b : GBt} (hb : BtB b) : (bRows b).length ≤ 1048576 ∧ ∀ r ∈ bRows b, r.length ≤ 1048576 ∧ ∀ x ∈ r, VB x := by
  unfold bRows
  split
  · refine ⟨Nat.le_trans (bRowsK_len b _) hb.2, bRowsK_all (P := fun r => r.length ≤ 1048576 ∧ ∀ x ∈ r, VB x) fun n => ⟨by rw [bRow_len]; exact hb.1.1, fun x hx => ?_⟩⟩
    unfold bRow at hx
    obtain ⟨c, hc, rfl⟩ := List.mem_map.1 hx
    by_cases e : n < c.length
    · rw [show c.getD n zV = c[n] by simp [List.getD, e]]
      exact (hb.1.2 c hc).2 _ (List.getElem_mem e)
    · rw [show c.getD n zV = zV by simp [List.getD, List.getElem?_eq_none (Nat.le_of_not_lt e)]]
      unfold VB
      decide
  · simp
end Go.TH
