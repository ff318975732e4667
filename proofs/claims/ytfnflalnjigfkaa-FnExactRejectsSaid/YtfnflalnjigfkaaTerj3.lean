/- TH: what an expression rejects, 3: the law FnExactRejects. Made by gen.py. -/
import Derived.Test.YtfnflalnjigfkaaTf3
import Derived.Test.YtfnflalnjigfkaaTerj
import Derived.Test.YtfnflalnjigfkaaTerj2
namespace Go.TH
open Go Go.Proofs
set_option linter.unusedSimpArgs false
set_option linter.unusedVariables false
set_option maxHeartbeats 20000000
set_option maxRecDepth 100000
theorem stepF_cells {fr : Int} {fs : List GFt} {p : GPt} : flat GFt.c (fs.take (fs.length - pTakes p)) ++ [.bool (findF p fr (fs.drop (fs.length - pTakes p))).no, .bool (findF p fr (fs.drop (fs.length - pTakes p))).nt, .bool (findF p fr (fs.drop (fs.length - pTakes p))).nf] = flat GFt.c (stepF fr fs p) := by
  unfold stepF
  rw [flat_append]
  rfl
theorem q_RejectsS (cols : List GCol) (hc : cols.length ≤ 1048576) (e : List GPt) (he : e.length ≤ 1048576) (hs : ∀ p ∈ e, p.v.s.size ≤ 9223372036854775807) (fr : Int) : QCall Try.prog 60 [colsA cols, partsA e, .int .i64 fr] (.bool (rejects cols e fr)) := by
  refine qcall_body mixed Try.func60 _ (by unfold Try.f60; rfl) Try.ntmps60 Try.results60 (by decide) 0 (by simp) (by simp [pureL, pureA]) ?_
  simp (maxSteps := 4000000) (disch := omega) only [go_sem, w64, AndB_of, IfB_of, IfB_no, pickE_of, pickE_no, ite_of, ite_no, tdivE, tmodE, takeAll]
  apply CallB.q (q_ExprKindS cols hc e he hs)
  simp (maxSteps := 4000000) (disch := omega) only [go_sem, w64, AndB_of, IfB_of, IfB_no, pickE_of, pickE_no, ite_of, ite_no, tdivE, tmodE, takeAll]
  refine IfB.dec (fun h3 => ?_) (fun h3 => ?_)
  case refine_2 =>
    have hr : rejects cols e fr = false := by unfold rejects; simp [h3]
    simp (maxSteps := 4000000) (disch := omega) only [go_sem, w64, AndB_of, IfB_of, IfB_no, pickE_of, pickE_no, ite_of, ite_no, tdivE, tmodE, takeAll, hr]
  have hsd := said (fr := fr) h3
  have hr : rejects cols e fr = ((runF fr e).getD 0 zF).nt := by unfold rejects; simp [h3]
  have hle := hsd.le
  simp (maxSteps := 4000000) (disch := omega) only [go_sem, w64, AndB_of, IfB_of, IfB_no, pickE_of, pickE_no, ite_of, ite_no, tdivE, tmodE, takeAll]
  unfold partsA
  refine LoopB.auto (fun zs => (heapOf zs, nxOf zs, (intOf (slotOf zs 8)).toNat, verOf (blkOf zs (0)), cellsOf (blkOf zs (0)), mlenOf (slotOf zs 7))) (fun zz => [(1, none), (0, none), (4, some (.msl 0 zz.2.2.2.1 3 0 zz.2.2.2.2.2)), (0, some (.int .i64 (zz.2.2.1 : Int)))]) (fun zz => zz.1) (fun zz => zz.2.1) (fun zz => e.length - zz.2.2.1) (fun zz => zz.2.2.1 ≤ e.length ∧ 0 < zz.2.1 ∧ zz.1 0 = .live zz.2.2.2.1 zz.2.2.2.2.1 ∧ zz.2.2.2.2.1 = flat GFt.c (runF fr (e.take zz.2.2.1)) ∧ zz.2.2.2.2.2 = (runF fr (e.take zz.2.2.1)).length) (by (first | simp (maxSteps := 4000000) (disch := omega) only [go_sem, w64, AndB_of, IfB_of, IfB_no, pickE_of, pickE_no, ite_of, ite_no, tdivE, tmodE, takeAll, hH] | simp (maxSteps := 4000000) (disch := omega) only [go_sem, w64, AndB_of, IfB_of, IfB_no, pickE_of, pickE_no, ite_of, ite_no, tdivE, tmodE, takeAll]); ((repeat' apply And.intro) <;> first | exact rfl | (exact Weak.go (by (first | (simp [wkL]; done) | (simp [wkL]; omega))) (fun zi => by first | exact .inl rfl | exact .inr rfl | (simp only [upd]; repeat' split) <;> first | exact rfl | exact .inl rfl | exact .inr rfl | (exfalso; omega) | exact .inr (hd _ (by omega)) | (left; subst_vars; exact hH.symm) | (left; subst_vars; rfl) | (left; simp; done) | (left; simp; omega)) (by omega)) | omega | rfl | assumption | exact Flat.nil | exact ⟨_, rfl, rfl, by assumption⟩ | (simp; done) | (simp; omega))) ?_
  intro zz zh
  obtain ⟨h, x, k, w, cells, m⟩ := zz
  dsimp only at zh
  obtain ⟨hk, hx, hH, hc1, hm⟩ := zh
  simp (maxSteps := 4000000) (disch := omega) only [go_sem, w64, AndB_of, IfB_of, IfB_no, pickE_of, pickE_no, ite_of, ite_no, tdivE, tmodE, takeAll]
  subst hc1 hm
  refine IfB.dec (fun c1 => ?_) (fun c1 => ?_)
  · have h1' : k < e.length := by omega
    obtain ⟨g1, g2, g3⟩ := hsd.tell k h1'
    have hk8 : 1 ≤ e[k].k ∧ e[k].k ≤ 8 := by unfold pTells at g1; omega
    simp (maxSteps := 4000000) (disch := omega) only [go_sem, w64, AndB_of, IfB_of, IfB_no, pickE_of, pickE_no, ite_of, ite_no, tdivE, tmodE, takeAll]
    refine CallB.law (d_l24Next (runF fr (e.take k)) (by omega) e[k] fr hk8 g2 hx hH) ?_
    rintro _ _ _ ⟨v', rfl, hH', hf, hn⟩
    rw [← runF_succ h1'] at hH' ⊢
    simp (maxSteps := 4000000) (disch := omega) only [go_sem, w64, AndB_of, IfB_of, IfB_no, pickE_of, pickE_no, ite_of, ite_no, tdivE, tmodE, takeAll, hH']
    ((repeat' apply And.intro) <;> first | exact rfl | (exact Weak.go (by (first | (simp [wkL]; done) | (simp [wkL]; omega))) (fun zi => by first | exact .inl rfl | exact .inr rfl | (simp only [upd]; repeat' split) <;> first | exact rfl | exact .inl rfl | exact .inr rfl | (exfalso; omega) | exact .inr (hd _ (by omega)) | (left; subst_vars; exact hH.symm) | (left; subst_vars; rfl) | (left; simp; done) | (left; simp; omega)) (by omega)) | omega | rfl | assumption | exact Flat.nil | exact ⟨_, rfl, rfl, by assumption⟩ | (simp; done) | (simp; omega))
  · have hk2 : k = e.length := by omega
    subst hk2
    rw [List.take_length] at hH
    have hf1 := hsd.fin
    have f0 := GFt.at1 (l := runF fr e) (i := 0) (by omega)
    rw [hr]
    simp (maxSteps := 4000000) (disch := omega) only [go_sem, w64, AndB_of, IfB_of, IfB_no, pickE_of, pickE_no, ite_of, ite_no, tdivE, tmodE, takeAll, hH, hf1, f0]
theorem q_RejectsI (cols : List GCol) (hc : cols.length ≤ 1048576) (e : List GPt) (he : e.length ≤ 1048576) (hs : ∀ p ∈ e, p.v.s.size ≤ 9223372036854775807) (fr : Int) : QCall Try.prog 61 [colsA cols, partsA e, .int .i64 fr] (.bool (rejects cols e fr)) := by
  refine qcall_body mixed Try.func61 _ (by unfold Try.f61; rfl) Try.ntmps61 Try.results61 (by decide) 0 (by simp) (by simp [pureL, pureA]) ?_
  simp (maxSteps := 4000000) (disch := omega) only [go_sem, w64, AndB_of, IfB_of, IfB_no, pickE_of, pickE_no, ite_of, ite_no, tdivE, tmodE, takeAll]
  apply CallB.q (q_ExprKindI cols hc e he hs)
  simp (maxSteps := 4000000) (disch := omega) only [go_sem, w64, AndB_of, IfB_of, IfB_no, pickE_of, pickE_no, ite_of, ite_no, tdivE, tmodE, takeAll]
  refine IfB.dec (fun h3 => ?_) (fun h3 => ?_)
  case refine_2 =>
    have hr : rejects cols e fr = false := by unfold rejects; simp [h3]
    simp (maxSteps := 4000000) (disch := omega) only [go_sem, w64, AndB_of, IfB_of, IfB_no, pickE_of, pickE_no, ite_of, ite_no, tdivE, tmodE, takeAll, hr]
  have hsd := said (fr := fr) h3
  have hr : rejects cols e fr = ((runF fr e).getD 0 zF).nt := by unfold rejects; simp [h3]
  have hle := hsd.le
  simp (maxSteps := 4000000) (disch := omega) only [go_sem, w64, AndB_of, IfB_of, IfB_no, pickE_of, pickE_no, ite_of, ite_no, tdivE, tmodE, takeAll]
  unfold partsA
  refine LoopB.weak (Weak.nil 7 3 rfl) ?_
  simp only [List.set_cons_succ, List.set_cons_zero]
  refine LoopB.auto (fun zs => (heapOf zs, nxOf zs, (intOf (slotOf zs 18)).toNat, verOf (blkOf zs (0)), cellsOf (blkOf zs (0)), mlenOf (slotOf zs 7))) (fun zz => [(2, none), (4, some (.msl 0 zz.2.2.2.1 3 0 zz.2.2.2.2.2)), (8, none), (0, none), (0, some (.int .i64 (zz.2.2.1 : Int)))]) (fun zz => zz.1) (fun zz => zz.2.1) (fun zz => e.length - zz.2.2.1) (fun zz => zz.2.2.1 ≤ e.length ∧ 0 < zz.2.1 ∧ zz.1 0 = .live zz.2.2.2.1 zz.2.2.2.2.1 ∧ zz.2.2.2.2.1 = flat GFt.c (runF fr (e.take zz.2.2.1)) ∧ zz.2.2.2.2.2 = (runF fr (e.take zz.2.2.1)).length) (by (first | simp (maxSteps := 4000000) (disch := omega) only [go_sem, w64, AndB_of, IfB_of, IfB_no, pickE_of, pickE_no, ite_of, ite_no, tdivE, tmodE, takeAll, hH] | simp (maxSteps := 4000000) (disch := omega) only [go_sem, w64, AndB_of, IfB_of, IfB_no, pickE_of, pickE_no, ite_of, ite_no, tdivE, tmodE, takeAll]); ((repeat' apply And.intro) <;> first | exact rfl | exact upd_same .. | (exact Weak.go (by (first | (simp [wkL]; done) | (simp [wkL]; omega))) (fun zi => by first | exact .inl rfl | exact .inr rfl | (simp only [upd]; repeat' split) <;> first | exact rfl | exact upd_same .. | exact .inl rfl | exact .inr rfl | (exfalso; omega) | exact .inr (hd _ (by omega)) | (left; subst_vars; exact hH.symm) | (left; subst_vars; rfl) | (left; simp; done) | (left; simp; omega)) (by omega)) | omega | rfl | assumption | exact Flat.nil | exact ⟨_, rfl, rfl, by assumption⟩ | (simp; done) | (simp; omega))) ?_
  intro zz zh
  obtain ⟨h, x, k, w, cells, m⟩ := zz
  dsimp only at zh
  obtain ⟨hk, hx, hH, hc1, hm⟩ := zh
  simp (maxSteps := 4000000) (disch := omega) only [go_sem, w64, AndB_of, IfB_of, IfB_no, pickE_of, pickE_no, ite_of, ite_no, tdivE, tmodE, takeAll]
  subst hc1 hm
  refine IfB.dec (fun c1 => ?_) (fun c1 => ?_)
  · have h1' : k < e.length := by omega
    obtain ⟨g1, g2, g3⟩ := hsd.tell k h1'
    have hsp := hs _ (List.getElem_mem h1')
    have hlen : ((runF fr (e.take k)).drop ((runF fr (e.take k)).length - pTakes e[k])).length = pTakes e[k] := by rw [List.length_drop]; omega
    simp (maxSteps := 4000000) (disch := omega) only [go_sem, w64, AndB_of, IfB_of, IfB_no, pickE_of, pickE_no, ite_of, ite_no, tdivE, tmodE, takeAll, hH]
    apply CallB.q (q_takes e[k])
    simp (maxSteps := 4000000) (disch := omega) only [go_sem, w64, AndB_of, IfB_of, IfB_no, pickE_of, pickE_no, ite_of, ite_no, tdivE, tmodE, takeAll, hH]
    refine DrawB.intro [6, 7] [] (inS (x + 1) (x + 2) (x + 3)) (by kernel_rfl) ?_
    simp (maxSteps := 4000000) (disch := omega) only [go_sem, w64, AndB_of, IfB_of, IfB_no, pickE_of, pickE_no, ite_of, ite_no, tdivE, tmodE, takeAll, hH]
    refine DCallB.pic (Pict.cons (Pict.pure rfl) (Pict.cons (Pict.mslF (i := (runF fr (e.take k)).length - pTakes e[k]) (by simp [maskH, inS, upd, SF, hH]; omega) (by omega) (by omega)) (Pict.cons (Pict.pure rfl) Pict.nil))) (q_find e[k] hsp cols fr _ g1 hlen) rfl ?_
    have en : (((runF fr (e.take k)).length : Int) - (pTakes e[k] : Int) - 0).toNat = (runF fr (e.take k)).length - pTakes e[k] := by omega
    have en2 : (((runF fr (e.take k)).length : Int) - (pTakes e[k] : Int)).toNat = (runF fr (e.take k)).length - pTakes e[k] := by omega
    simp (maxSteps := 4000000) (disch := omega) only [go_sem, w64, AndB_of, IfB_of, IfB_no, pickE_of, pickE_no, ite_of, ite_no, tdivE, tmodE, takeAll, hH, GFt.c]
    refine DrawB.intro [4, 5] [5] (inS (x + 2) (x + 3) (x + 4)) (by kernel_rfl) ?_
    simp (maxSteps := 4000000) (disch := omega) only [go_sem, w64, AndB_of, IfB_of, IfB_no, pickE_of, pickE_no, ite_of, ite_no, tdivE, tmodE, takeAll, hH, en, en2, GFt.take]
    have hl2 := stepF_len (fr := fr) g2
    rw [← runF_succ h1'] at hl2
    have hc2 := stepF_cells (fr := fr) (fs := runF fr (e.take k)) (p := e[k])
    rw [← runF_succ h1'] at hc2
    ((repeat' apply And.intro) <;> first | exact hc2 | (exact Weak.go (by (first | (simp [wkL]; done) | (simp [wkL]; omega))) (fun zi => by first | exact .inl rfl | exact .inr rfl | (simp only [upd]; repeat' split) <;> first | exact hc2 | exact .inl rfl | exact .inr rfl | (exfalso; omega) | exact .inr (hd _ (by omega)) | (left; subst_vars; exact hH.symm) | (left; subst_vars; rfl) | (left; simp; done) | (left; simp; omega)) (by omega)) | omega | rfl | assumption | exact Flat.nil | exact ⟨_, rfl, rfl, by assumption⟩ | (simp; done) | (simp; omega))
  · have hk2 : k = e.length := by omega
    subst hk2
    rw [List.take_length] at hH
    have hf1 := hsd.fin
    have f0 := GFt.at1 (l := runF fr e) (i := 0) (by omega)
    rw [hr]
    simp (maxSteps := 4000000) (disch := omega) only [go_sem, w64, AndB_of, IfB_of, IfB_no, pickE_of, pickE_no, ite_of, ite_no, tdivE, tmodE, takeAll, hH, hf1, f0]
end Go.TH
