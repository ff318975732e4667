/- TH: kinds of expressions, 2: the walks. Made by gen.py. -/
import Derived.Test.YtfnflalnjigfkaaTf3
import Derived.Test.YtfnflalnjigfkaaTeek
import Derived.Test.YtfnflalnjigfkaaTesl
namespace Go.TH
open Go Go.Proofs
set_option linter.unusedSimpArgs false
set_option linter.unusedVariables false
set_option maxHeartbeats 20000000
set_option maxRecDepth 100000
theorem q_ExprKindS (cols : List GCol) (hc : cols.length ≤ 1048576) (e : List GPt) (he : e.length ≤ 1048576) (hs : ∀ p ∈ e, p.v.s.size ≤ 9223372036854775807) : QCall Try.prog 38 [colsA cols, partsA e] (.int .i64 (exprKind cols e)) := by
  refine qcall_body mixed Try.func38 _ (by unfold Try.f38; rfl) Try.ntmps38 Try.results38 (by decide) 0 (by simp) (by simp [pureL, pureA]) ?_
  simp (maxSteps := 4000000) (disch := omega) only [go_sem, w64, AndB_of, IfB_of, IfB_no, pickE_of, pickE_no, ite_of, ite_no, tdivE, tmodE, takeAll]
  apply CallB.q (q_ColumnsOkS cols hc)
  simp (maxSteps := 4000000) (disch := omega) only [go_sem, w64, AndB_of, IfB_of, IfB_no, pickE_of, pickE_no, ite_of, ite_no, tdivE, tmodE, takeAll]
  have hno : ¬ (colsOk cols ∧ e.length ≤ 12) → exprKind cols e = -1 := fun h => by unfold exprKind; rw [if_neg h]
  refine IfB.dec (fun hok => ?_) (fun hok => ?_)
  · simp (maxSteps := 4000000) (disch := omega) only [go_sem, w64, AndB_of, IfB_of, IfB_no, pickE_of, pickE_no, ite_of, ite_no, tdivE, tmodE, takeAll, hok]
    refine IfB.dec (fun h12 => ?_) (fun h12 => ?_)
    · simp (maxSteps := 4000000) (disch := omega) only [go_sem, w64, AndB_of, IfB_of, IfB_no, pickE_of, pickE_no, ite_of, ite_no, tdivE, tmodE, takeAll, hno (fun e => by have := e.2; omega)]
    simp (maxSteps := 4000000) (disch := omega) only [go_sem, w64, AndB_of, IfB_of, IfB_no, pickE_of, pickE_no, ite_of, ite_no, tdivE, tmodE, takeAll]
    unfold partsA
    refine LoopB.auto (fun zs => (heapOf zs, nxOf zs, (intOf (slotOf zs 7)).toNat, verOf (blkOf zs (0)), cellsOf (blkOf zs (0)), mlenOf (slotOf zs 5), boolOf (slotOf zs 6))) (fun zz => [(0, none), (0, none), (3, some (.msl 0 zz.2.2.2.1 1 0 zz.2.2.2.2.2.1)), (0, some (.bool zz.2.2.2.2.2.2)), (0, some (.int .i64 (zz.2.2.1 : Int)))]) (fun zz => zz.1) (fun zz => zz.2.1) (fun zz => e.length - zz.2.2.1) (fun zz => zz.2.2.1 ≤ e.length ∧ 0 < zz.2.1 ∧ zz.1 0 = .live zz.2.2.2.1 zz.2.2.2.2.1 ∧ RunQ cols e zz.2.2.1 zz.2.2.2.2.1 zz.2.2.2.2.2.1 zz.2.2.2.2.2.2) (by (first | simp (maxSteps := 4000000) (disch := omega) only [go_sem, w64, AndB_of, IfB_of, IfB_no, pickE_of, pickE_no, ite_of, ite_no, tdivE, tmodE, takeAll, hH] | simp (maxSteps := 4000000) (disch := omega) only [go_sem, w64, AndB_of, IfB_of, IfB_no, pickE_of, pickE_no, ite_of, ite_no, tdivE, tmodE, takeAll]); ((repeat' apply And.intro) <;> first | exact RunQ.nil | (exact Weak.go (by (first | (simp [wkL]; done) | (simp [wkL]; omega))) (fun zi => by first | exact .inl rfl | exact .inr rfl | (simp only [upd]; repeat' split) <;> first | exact RunQ.nil | exact .inl rfl | exact .inr rfl | (exfalso; omega) | exact .inr (hd _ (by omega)) | (left; subst_vars; exact hH.symm) | (left; subst_vars; rfl) | (left; simp; done) | (left; simp; omega)) (by omega)) | omega | rfl | assumption | exact Flat.nil | exact ⟨_, rfl, rfl, by assumption⟩ | (simp; done) | (simp; omega))) ?_
    intro zz zh
    obtain ⟨h, x, k, w, cells, m, b⟩ := zz
    dsimp only at zh
    obtain ⟨hk, hx, hH, hR⟩ := zh
    simp (maxSteps := 4000000) (disch := omega) only [go_sem, w64, AndB_of, IfB_of, IfB_no, pickE_of, pickE_no, ite_of, ite_no, tdivE, tmodE, takeAll]
    obtain ⟨⟨st, e1, e2, hmk, hrun⟩⟩ := hR
    subst e1 e2
    cases b with
    | false =>
      have hdead : exprKind cols e = -1 := by
        unfold exprKind
        rw [if_pos ⟨hok, by omega⟩, runK_dead k hrun]
        rfl
      repeat' (first | (refine IfB.dec2 (fun h hd => ?_) (fun h hd => ?_) <;> (try (have h2 := h; unfold inR at h2)) <;> (try simp (maxSteps := 4000000) (disch := omega) only [go_sem, w64, AndB_of, IfB_of, IfB_no, pickE_of, pickE_no, ite_of, ite_no, tdivE, tmodE, takeAll, hdead, hd])) | (refine IfB.split (fun h => ?_) (fun h => ?_) <;> (try simp (maxSteps := 4000000) (disch := omega) only [go_sem, w64, AndB_of, IfB_of, IfB_no, pickE_of, pickE_no, ite_of, ite_no, tdivE, tmodE, takeAll, hdead, h])) | (refine DrawB.quiet (by kernel_rfl) ?_; simp (maxSteps := 4000000) (disch := omega) only [go_sem, w64, AndB_of, IfB_of, IfB_no, pickE_of, pickE_no, ite_of, ite_no, tdivE, tmodE, takeAll, hdead]))
    | true =>
      rw [if_pos rfl] at hrun
      refine IfB.dec (fun c1 => ?_) (fun c1 => ?_)
      · have h1' : k < e.length := by omega
        simp (maxSteps := 4000000) (disch := omega) only [go_sem, w64, AndB_of, IfB_of, IfB_no, pickE_of, pickE_no, ite_of, ite_no, tdivE, tmodE, takeAll]
        refine CallB.law (d_l4Step cols hc st (by omega) e[k] (hs _ (List.getElem_mem _)) hx hH) ?_
        rintro _ _ _ ⟨v', st', b', rfl, hH', hf, hn, hl, hstep⟩
        simp (maxSteps := 4000000) (disch := omega) only [go_sem, w64, AndB_of, IfB_of, IfB_no, pickE_of, pickE_no, ite_of, ite_no, tdivE, tmodE, takeAll, hH']
        ((repeat' apply And.intro) <;> first | exact RunQ.yes h1' hrun hstep hmk hl | (exact Weak.go (by (first | (simp [wkL]; done) | (simp [wkL]; omega))) (fun zi => by first | exact .inl rfl | exact .inr rfl | (simp only [upd]; repeat' split) <;> first | exact RunQ.yes h1' hrun hstep hmk hl | exact .inl rfl | exact .inr rfl | (exfalso; omega) | exact .inr (hd _ (by omega)) | (left; subst_vars; exact hH.symm) | (left; subst_vars; rfl) | (left; simp; done) | (left; simp; omega)) (by omega)) | omega | rfl | assumption | exact Flat.nil | exact ⟨_, rfl, rfl, by assumption⟩ | (simp; done) | (simp; omega))
      · have hk2 : k = e.length := by omega
        subst hk2
        rw [List.take_length] at hrun
        have hres : exprKind cols e = endK (some st) := by
          unfold exprKind
          rw [if_pos ⟨hok, by omega⟩, hrun]
        rw [hres]
        simp (maxSteps := 4000000) (disch := omega) only [go_sem, w64, AndB_of, IfB_of, IfB_no, pickE_of, pickE_no, ite_of, ite_no, tdivE, tmodE, takeAll, hH]
        refine IfB.dec (fun c2 => ?_) (fun c2 => ?_)
        · have h0 : 0 < st.length := by omega
          simp (maxSteps := 4000000) (disch := omega) only [go_sem, w64, AndB_of, IfB_of, IfB_no, pickE_of, pickE_no, ite_of, ite_no, tdivE, tmodE, takeAll, hH]
          match st, c2 with
          | [], c2 => exact absurd c2 (by simp)
          | [x], _ => rfl
          | x :: y :: l, c2 => simp at c2; omega
        · simp (maxSteps := 4000000) (disch := omega) only [go_sem, w64, AndB_of, IfB_of, IfB_no, pickE_of, pickE_no, ite_of, ite_no, tdivE, tmodE, takeAll]
          match st, c2 with
          | [], _ => rfl
          | [x], c2 => exact absurd rfl c2
          | x :: y :: l, _ => rfl
  · simp (maxSteps := 4000000) (disch := omega) only [go_sem, w64, AndB_of, IfB_of, IfB_no, pickE_of, pickE_no, ite_of, ite_no, tdivE, tmodE, takeAll, hok, hno (fun e => hok e.1)]
theorem q_takes (p : GPt) : QCall Try.prog 105 [.agg (GPt.c p)] (.int .i64 (pTakes p)) := by
  unfold GPt.c
  refine qcall_body mixed Try.func105 _ (by unfold Try.f105; rfl) Try.ntmps105 Try.results105 (by decide) 0 (by simp) (by simp [pureL, pureA]) ?_
  have e : (pTakes p : Int) = if 3 ≤ p.k ∧ p.k ≤ 6 then 2 else if p.k = 7 ∨ p.k = 8 then 1 else 0 := by
    unfold pTakes
    split
    · rfl
    · split <;> rfl
  rw [e]
  simp (maxSteps := 4000000) (disch := omega) only [go_sem, w64, AndB_of, IfB_of, IfB_no, pickE_of, pickE_no, ite_of, ite_no, tdivE, tmodE, takeAll]
  repeat' (first | (refine IfB.dec (fun h => ?_) (fun h => ?_) <;> (try (have h2 := h; unfold inR at h2)) <;> (try simp (maxSteps := 4000000) (disch := omega) only [go_sem, w64, AndB_of, IfB_of, IfB_no, pickE_of, pickE_no, ite_of, ite_no, tdivE, tmodE, takeAll, h])) | (refine IfB.split (fun h => ?_) (fun h => ?_) <;> (try simp (maxSteps := 4000000) (disch := omega) only [go_sem, w64, AndB_of, IfB_of, IfB_no, pickE_of, pickE_no, ite_of, ite_no, tdivE, tmodE, takeAll, h])) | (refine DrawB.quiet (by kernel_rfl) ?_; simp (maxSteps := 4000000) (disch := omega) only [go_sem, w64, AndB_of, IfB_of, IfB_no, pickE_of, pickE_no, ite_of, ite_no, tdivE, tmodE, takeAll]))
  all_goals (repeat' split)
  all_goals first
    | rfl
    | (exfalso; omega)
theorem q_tells (p : GPt) (hp : p.v.s.size ≤ 9223372036854775807) (cols : List GCol) (hc : cols.length ≤ 1048576) : QCall Try.prog 106 [.agg (GPt.c p), colsA cols] (.bool (decide (pTells cols p))) := by
  have ev := eqv p.v zV
  unfold GPt.c
  refine qcall_body mixed Try.func106 _ (by unfold Try.f106; rfl) Try.ntmps106 Try.results106 (by decide) 0 (by simp) (by simp [pureL, pureA]) ?_
  unfold colsA
  simp (maxSteps := 4000000) (disch := omega) only [go_sem, w64, AndB_of, IfB_of, IfB_no, pickE_of, pickE_no, ite_of, ite_no, tdivE, tmodE, takeAll]
  repeat' (first | (refine IfB.dec2 (fun h hd => ?_) (fun h hd => ?_) <;> (try (have h2 := h; unfold inR at h2)) <;> (try simp (maxSteps := 4000000) (disch := omega) only [go_sem, w64, AndB_of, IfB_of, IfB_no, pickE_of, pickE_no, ite_of, ite_no, tdivE, tmodE, takeAll, ev, hd])) | (refine IfB.split (fun h => ?_) (fun h => ?_) <;> (try simp (maxSteps := 4000000) (disch := omega) only [go_sem, w64, AndB_of, IfB_of, IfB_no, pickE_of, pickE_no, ite_of, ite_no, tdivE, tmodE, takeAll, ev, h])) | (refine DrawB.quiet (by kernel_rfl) ?_; simp (maxSteps := 4000000) (disch := omega) only [go_sem, w64, AndB_of, IfB_of, IfB_no, pickE_of, pickE_no, ite_of, ite_no, tdivE, tmodE, takeAll, ev]) | (apply CallB.q (q_between _ _ _); simp (maxSteps := 4000000) (disch := omega) only [go_sem, w64, AndB_of, IfB_of, IfB_no, pickE_of, pickE_no, ite_of, ite_no, tdivE, tmodE, takeAll, ev]) | (apply CallB.q (q_ok p.v hp); simp (maxSteps := 4000000) (disch := omega) only [go_sem, w64, AndB_of, IfB_of, IfB_no, pickE_of, pickE_no, ite_of, ite_no, tdivE, tmodE, takeAll, ev]) | (apply DCallB.q0 (q_between _ _ _); simp (maxSteps := 4000000) (disch := omega) only [go_sem, w64, AndB_of, IfB_of, IfB_no, pickE_of, pickE_no, ite_of, ite_no, tdivE, tmodE, takeAll, ev]) | (apply DCallB.q0 (q_ok p.v hp); simp (maxSteps := 4000000) (disch := omega) only [go_sem, w64, AndB_of, IfB_of, IfB_no, pickE_of, pickE_no, ite_of, ite_no, tdivE, tmodE, takeAll, ev]))
  all_goals (clear ev)
  all_goals (rw [AV.bool.injEq, Bool.eq_iff_iff]; (try simp only [decide_eq_true_iff]))
  all_goals (unfold pTells)
  all_goals (try (simp_all; done))
  all_goals (try omega)
theorem q_kind11 (k c : Int) : QCall Try.prog 156 [.int .i64 k, .ro [.int .i64 c]] (.bool (decide (k ≠ c))) := by
  refine qcall_body mixed Try.func156 _ (by unfold Try.f156; rfl) Try.ntmps156 Try.results156 (by decide) 0 (by simp) (by simp [pureL, pureA]) ?_
  simp (maxSteps := 4000000) (disch := omega) only [go_sem, w64, AndB_of, IfB_of, IfB_no, pickE_of, pickE_no, ite_of, ite_no, tdivE, tmodE, takeAll]
  simp
theorem q_kind1 (l : List Int) (hl : l.length ≤ 1048576) (c : Int) : QCall Try.prog 154 [.int .i64 c, .ro [intsA l]] (.bool (!(l.any fun k => decide (k ≠ c)))) := by
  refine qcall_body mixed Try.func154 _ (by unfold Try.f154; rfl) Try.ntmps154 Try.results154 (by decide) 0 (by simp) (by simp [pureL, pureA]) ?_
  simp (maxSteps := 4000000) (disch := omega) only [go_sem, w64, AndB_of, IfB_of, IfB_no, pickE_of, pickE_no, ite_of, ite_no, tdivE, tmodE, takeAll]
  have e := q_ContainsFuncZ l 156 [.ro [.int .i64 c]] (by simp [pureL, pureA]) (fun k => decide (k ≠ c)) hl fun k _ => q_kind11 k c
  refine CallB.pic (ps := [intsA l, .fn 156 [.ro [.int .i64 c]]]) ?_ e rfl ?_
  · have := Pict.snap (H := upd noH 0 (.live 0 [.int .i64 c])) 1 [intsA l, .fn 156 [.ptr 0 0 0]]
    simpa [go_sem, upd] using this
  simp (maxSteps := 4000000) (disch := omega) only [go_sem, w64, AndB_of, IfB_of, IfB_no, pickE_of, pickE_no, ite_of, ite_no, tdivE, tmodE, takeAll]
theorem q_kind (p : GPt) (cols : List GCol) (hc : cols.length ≤ 1048576) (l : List Int) (hl : l.length ≤ 1048576) (ht : pTells cols p) (hn : l.length = pTakes p) :
    QCall Try.prog 107 [.agg (GPt.c p), colsA cols, intsA l] (.tup [.int .i64 (pKind cols p l).1, .bool (pKind cols p l).2]) := by
  unfold GPt.c
  refine qcall_body mixed Try.func107 _ (by unfold Try.f107; rfl) Try.ntmps107 Try.results107 (by decide) 0 (by simp) (by simp [pureL, pureA]) ?_
  unfold colsA
  have c1 : p.k = 2 → 0 ≤ p.n ∧ p.n < cols.length := fun h => by unfold pTells inR at ht; omega
  have c2 : p.k = 4 → 1 < l.length := fun h => by have : pTakes p = 2 := (by unfold pTakes; rw [if_pos (by omega)]); omega
  have hp2 : ∀ (c : Int) (H0 : AH), Pict (upd H0 1 (.live 0 [intsA l])) [.int .i64 c, .ptr 1 0 0] [.int .i64 c, .ro [intsA l]] := fun c H0 => by
    have := Pict.snap (H := upd H0 1 (.live 0 [intsA l])) 1 [.int .i64 c, .ptr 1 0 0]
    simpa [go_sem, upd] using this
  simp (maxSteps := 4000000) (disch := omega) only [go_sem, w64, AndB_of, IfB_of, IfB_no, pickE_of, pickE_no, ite_of, ite_no, tdivE, tmodE, takeAll]
  repeat' (first | (refine IfB.dec2 (fun h hd => ?_) (fun h hd => ?_) <;> (try (have h2 := h; unfold inR at h2)) <;> (try simp (maxSteps := 4000000) (disch := omega) only [go_sem, w64, AndB_of, IfB_of, IfB_no, pickE_of, pickE_no, ite_of, ite_no, tdivE, tmodE, takeAll, hd])) | (refine IfB.split (fun h => ?_) (fun h => ?_) <;> (try simp (maxSteps := 4000000) (disch := omega) only [go_sem, w64, AndB_of, IfB_of, IfB_no, pickE_of, pickE_no, ite_of, ite_no, tdivE, tmodE, takeAll, h])) | (refine DrawB.quiet (by kernel_rfl) ?_; simp (maxSteps := 4000000) (disch := omega) only [go_sem, w64, AndB_of, IfB_of, IfB_no, pickE_of, pickE_no, ite_of, ite_no, tdivE, tmodE, takeAll]))
  · unfold pKind
    simp_all
  · have c3 := c1 (by assumption)
    have c4 : p.n.toNat < cols.length := by omega
    unfold pKind
    rw [List.getD_eq_getElem?_getD, List.getElem?_eq_getElem c4]
    simp_all
  · refine CallB.pic (hp2 _ _) (q_kind1 l hl 1) rfl ?_
    simp (maxSteps := 4000000) (disch := omega) only [go_sem, w64, AndB_of, IfB_of, IfB_no, pickE_of, pickE_no, ite_of, ite_no, tdivE, tmodE, takeAll]
    unfold pKind
    simp_all
  · have c3 := c2 (by assumption)
    have c4 : (1 : Int).toNat < l.length := by omega
    have c5 : (0 : Int).toNat < l.length := by omega
    have c6 : 0 < l.length := by omega
    unfold intsA
    simp (maxSteps := 4000000) (disch := omega) only [go_sem, w64, AndB_of, IfB_of, IfB_no, pickE_of, pickE_no, ite_of, ite_no, tdivE, tmodE, takeAll, cI_getD c6]
    unfold pKind
    simp_all
  · unfold pKind
    simp_all
  · refine CallB.pic (hp2 _ _) (q_kind1 l hl 3) rfl ?_
    simp (maxSteps := 4000000) (disch := omega) only [go_sem, w64, AndB_of, IfB_of, IfB_no, pickE_of, pickE_no, ite_of, ite_no, tdivE, tmodE, takeAll]
    unfold pKind
    simp_all
theorem q_ExprKindI (cols : List GCol) (hc : cols.length ≤ 1048576) (e : List GPt) (he : e.length ≤ 1048576) (hs : ∀ p ∈ e, p.v.s.size ≤ 9223372036854775807) : QCall Try.prog 41 [colsA cols, partsA e] (.int .i64 (exprKind cols e)) := by
  refine qcall_body mixed Try.func41 _ (by unfold Try.f41; rfl) Try.ntmps41 Try.results41 (by decide) 0 (by simp) (by simp [pureL, pureA]) ?_
  simp (maxSteps := 4000000) (disch := omega) only [go_sem, w64, AndB_of, IfB_of, IfB_no, pickE_of, pickE_no, ite_of, ite_no, tdivE, tmodE, takeAll]
  apply CallB.q (q_ColumnsOkI cols hc)
  simp (maxSteps := 4000000) (disch := omega) only [go_sem, w64, AndB_of, IfB_of, IfB_no, pickE_of, pickE_no, ite_of, ite_no, tdivE, tmodE, takeAll]
  have hno : ¬ (colsOk cols ∧ e.length ≤ 12) → exprKind cols e = -1 := fun h => by unfold exprKind; rw [if_neg h]
  refine IfB.dec (fun hok => ?_) (fun hok => ?_)
  case refine_2 => simp (maxSteps := 4000000) (disch := omega) only [go_sem, w64, AndB_of, IfB_of, IfB_no, pickE_of, pickE_no, ite_of, ite_no, tdivE, tmodE, takeAll, hok, hno (fun e => hok e.1)]
  simp (maxSteps := 4000000) (disch := omega) only [go_sem, w64, AndB_of, IfB_of, IfB_no, pickE_of, pickE_no, ite_of, ite_no, tdivE, tmodE, takeAll, hok]
  refine IfB.dec (fun h12 => ?_) (fun h12 => ?_)
  · simp (maxSteps := 4000000) (disch := omega) only [go_sem, w64, AndB_of, IfB_of, IfB_no, pickE_of, pickE_no, ite_of, ite_no, tdivE, tmodE, takeAll, hno (fun e => by have := e.2; omega)]
  simp (maxSteps := 4000000) (disch := omega) only [go_sem, w64, AndB_of, IfB_of, IfB_no, pickE_of, pickE_no, ite_of, ite_no, tdivE, tmodE, takeAll]
  unfold partsA
  refine LoopB.weak (Weak.nil 5 1 rfl) ?_
  simp only [List.set_cons_succ, List.set_cons_zero]
  refine LoopB.auto (fun zs => (heapOf zs, nxOf zs, (intOf (slotOf zs 21)).toNat, verOf (blkOf zs (0)), cellsOf (blkOf zs (0)), mlenOf (slotOf zs 5))) (fun zz => [(0, none), (4, some (.msl 0 zz.2.2.2.1 1 0 zz.2.2.2.2.2)), (13, none), (0, none), (0, some (.int .i64 (zz.2.2.1 : Int)))]) (fun zz => zz.1) (fun zz => zz.2.1) (fun zz => e.length - zz.2.2.1) (fun zz => zz.2.2.1 ≤ e.length ∧ 0 < zz.2.1 ∧ zz.1 0 = .live zz.2.2.2.1 zz.2.2.2.2.1 ∧ RunQ cols e zz.2.2.1 zz.2.2.2.2.1 zz.2.2.2.2.2 true) (by (first | simp (maxSteps := 4000000) (disch := omega) only [go_sem, w64, AndB_of, IfB_of, IfB_no, pickE_of, pickE_no, ite_of, ite_no, tdivE, tmodE, takeAll, hH] | simp (maxSteps := 4000000) (disch := omega) only [go_sem, w64, AndB_of, IfB_of, IfB_no, pickE_of, pickE_no, ite_of, ite_no, tdivE, tmodE, takeAll]); ((repeat' apply And.intro) <;> first | exact RunQ.nil | exact upd_same .. | (exact Weak.go (by (first | (simp [wkL]; done) | (simp [wkL]; omega))) (fun zi => by first | exact .inl rfl | exact .inr rfl | (simp only [upd]; repeat' split) <;> first | exact RunQ.nil | exact upd_same .. | exact .inl rfl | exact .inr rfl | (exfalso; omega) | exact .inr (hd _ (by omega)) | (left; subst_vars; exact hH.symm) | (left; subst_vars; rfl) | (left; simp; done) | (left; simp; omega)) (by omega)) | omega | rfl | assumption | exact Flat.nil | exact ⟨_, rfl, rfl, by assumption⟩ | (simp; done) | (simp; omega))) ?_
  intro zz zh
  obtain ⟨h, x, k, w, cells, m⟩ := zz
  dsimp only at zh
  obtain ⟨hk, hx, hH, hR⟩ := zh
  simp (maxSteps := 4000000) (disch := omega) only [go_sem, w64, AndB_of, IfB_of, IfB_no, pickE_of, pickE_no, ite_of, ite_no, tdivE, tmodE, takeAll]
  obtain ⟨⟨st, e1, e2, hmk, hrun⟩⟩ := hR
  subst e1 e2
  rw [if_pos rfl] at hrun
  refine IfB.dec (fun c1 => ?_) (fun c1 => ?_)
  · have h1' : k < e.length := by omega
    have hsp := hs _ (List.getElem_mem h1')
    have hdead : stepK cols st e[k] = none → exprKind cols e = -1 := fun h => by
      unfold exprKind
      rw [if_pos ⟨hok, by omega⟩, runK_dead (k + 1) (by rw [runK_succ h1', hrun]; exact h)]
      rfl
    rw [stepK_eq] at hdead
    simp (maxSteps := 4000000) (disch := omega) only [go_sem, w64, AndB_of, IfB_of, IfB_no, pickE_of, pickE_no, ite_of, ite_no, tdivE, tmodE, takeAll]
    apply CallB.q (q_takes e[k])
    simp (maxSteps := 4000000) (disch := omega) only [go_sem, w64, AndB_of, IfB_of, IfB_no, pickE_of, pickE_no, ite_of, ite_no, tdivE, tmodE, takeAll]
    apply CallB.q (q_tells e[k] hsp cols hc)
    simp (maxSteps := 4000000) (disch := omega) only [go_sem, w64, AndB_of, IfB_of, IfB_no, pickE_of, pickE_no, ite_of, ite_no, tdivE, tmodE, takeAll]
    refine IfB.dec (fun d1 => ?_) (fun d1 => ?_)
    case refine_2 =>
      have hdd := hdead (if_neg fun e => d1 e.1)
      simp (maxSteps := 4000000) (disch := omega) only [go_sem, w64, AndB_of, IfB_of, IfB_no, pickE_of, pickE_no, ite_of, ite_no, tdivE, tmodE, takeAll, d1, hdd]
    simp (maxSteps := 4000000) (disch := omega) only [go_sem, w64, AndB_of, IfB_of, IfB_no, pickE_of, pickE_no, ite_of, ite_no, tdivE, tmodE, takeAll, hH]
    refine IfB.dec (fun d2 => ?_) (fun d2 => ?_)
    · simp (maxSteps := 4000000) (disch := omega) only [go_sem, w64, AndB_of, IfB_of, IfB_no, pickE_of, pickE_no, ite_of, ite_no, tdivE, tmodE, takeAll, hdead (if_neg fun e => by have := e.2.1; omega)]
    have hn : pTakes e[k] ≤ st.length := by omega
    have hlen : (st.drop (st.length - pTakes e[k])).length = pTakes e[k] := by rw [List.length_drop]; omega
    simp (maxSteps := 4000000) (disch := omega) only [go_sem, w64, AndB_of, IfB_of, IfB_no, pickE_of, pickE_no, ite_of, ite_no, tdivE, tmodE, takeAll, hH]
    refine DrawB.intro [8] [] (inS (x + 1) (x + 1) (x + 1)) (by kernel_rfl) ?_
    simp (maxSteps := 4000000) (disch := omega) only [go_sem, w64, AndB_of, IfB_of, IfB_no, pickE_of, pickE_no, ite_of, ite_no, tdivE, tmodE, takeAll, hH]
    refine CallB.pic (Pict.cons (Pict.pure rfl) (Pict.cons (Pict.pure (by simp [pureA, pureL])) (Pict.mslI (i := st.length - pTakes e[k]) (by rw [upd_ne _ _ (by omega)]; exact hH) (by omega) (by omega)))) (q_kind e[k] cols hc _ (by omega) d1 hlen) rfl ?_
    simp (maxSteps := 4000000) (disch := omega) only [go_sem, w64, AndB_of, IfB_of, IfB_no, pickE_of, pickE_no, ite_of, ite_no, tdivE, tmodE, takeAll, hH]
    refine IfB.split (fun d3 => ?_) (fun d3 => ?_)
    · have en : ((st.length : Int) - (pTakes e[k] : Int) - 0).toNat = st.length - pTakes e[k] := by omega
      have hR' := RunQ.to h1' hrun hmk (Nat.sub_le _ _) (by rw [stepK_eq, if_pos ⟨d1, hn, d3⟩])
      simp (maxSteps := 4000000) (disch := omega) only [go_sem, w64, AndB_of, IfB_of, IfB_no, pickE_of, pickE_no, ite_of, ite_no, tdivE, tmodE, takeAll, hH, cI_take, en]
      ((repeat' apply And.intro) <;> first | exact hR' | (exact Weak.go (by (first | (simp [wkL]; done) | (simp [wkL]; omega))) (fun zi => by first | exact .inl rfl | exact .inr rfl | (simp only [upd]; repeat' split) <;> first | exact hR' | exact .inl rfl | exact .inr rfl | (exfalso; omega) | exact .inr (hd _ (by omega)) | (left; subst_vars; exact hH.symm) | (left; subst_vars; rfl) | (left; simp; done) | (left; simp; omega)) (by omega)) | omega | rfl | assumption | exact Flat.nil | exact ⟨_, rfl, rfl, by assumption⟩ | (simp; done) | (simp; omega))
    · have hdd := hdead (if_neg fun e => by have := e.2.2; rw [d3] at this; exact Bool.noConfusion this)
      simp (maxSteps := 4000000) (disch := omega) only [go_sem, w64, AndB_of, IfB_of, IfB_no, pickE_of, pickE_no, ite_of, ite_no, tdivE, tmodE, takeAll, hdd]
  · have hk2 : k = e.length := by omega
    subst hk2
    rw [List.take_length] at hrun
    have hres : exprKind cols e = endK (some st) := by
      unfold exprKind
      rw [if_pos ⟨hok, by omega⟩, hrun]
    rw [hres]
    simp (maxSteps := 4000000) (disch := omega) only [go_sem, w64, AndB_of, IfB_of, IfB_no, pickE_of, pickE_no, ite_of, ite_no, tdivE, tmodE, takeAll, hH]
    refine IfB.dec (fun c2 => ?_) (fun c2 => ?_)
    · have h0 : 0 < st.length := by omega
      simp (maxSteps := 4000000) (disch := omega) only [go_sem, w64, AndB_of, IfB_of, IfB_no, pickE_of, pickE_no, ite_of, ite_no, tdivE, tmodE, takeAll, hH]
      match st, c2 with
      | [], c2 => exact absurd c2 (by simp)
      | [x], _ => rfl
      | x :: y :: l, c2 => simp at c2; omega
    · simp (maxSteps := 4000000) (disch := omega) only [go_sem, w64, AndB_of, IfB_of, IfB_no, pickE_of, pickE_no, ite_of, ite_no, tdivE, tmodE, takeAll]
      match st, c2 with
      | [], _ => rfl
      | [x], c2 => exact absurd rfl c2
      | x :: y :: l, _ => rfl
end Go.TH
