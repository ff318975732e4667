/- TH: the law FnWholeHash. Made by gen.py. -/
import Derived.Test.YtfnflalnjigfkaaTf3
import Derived.Test.YtfnflalnjigfkaaTexp
import Derived.Test.YtfnflalnjigfkaaTewh2
import Derived.Test.YtfnflalnjigfkaaTf4
namespace Go.TH
open Go Go.Proofs
set_option linter.unusedSimpArgs false
set_option linter.unusedVariables false
set_option maxHeartbeats 20000000
set_option maxRecDepth 100000
theorem joinOk_turn {ca cb : List GCol} {a b : List GRow} {i j : Int} (h : joinOk ca cb a b i j) : joinOk cb ca b a j i := by
  obtain ⟨h1, h2, h3, h4, h5, h6, h7, h8, h9, h10⟩ := h
  exact ⟨h2, h1, by omega, h5, h4, h7, h6, h9, h8, h10.symm⟩
theorem loopJ_parts {ca cb : List GCol} {a b : List GRow} {i j : Int} {y : GRow} (hy : y ∈ loopJ ca cb a b i j) : y.length = ca.length + cb.length ∧ 1 ≤ ca.length ∧ 1 ≤ cb.length ∧ ca.length ≤ 4 ∧ cb.length ≤ 4 := by
  by_cases h : joinOk ca cb a b i j
  · rw [loopJ_yes h] at hy
    obtain ⟨r, hr, q, hq, rfl⟩ := loopL_mem hy
    have h1 := h.at.1 r hr
    have h2 := h.at.2 q hq
    rw [List.length_append]
    omega
  · rw [loopJ_no h] at hy; simp at hy
theorem cnt_turn {ca cb : List GCol} {a b : List GRow} {i j : Int} (z : GRow) : cntR z (loopJ ca cb a b i j) = cntR z ((loopJ cb ca b a j i).map (turnR cb.length)) := by
  have key : ∀ l, cntR z l = ((cntN z l : Nat) : Int) := fun l => rfl
  rw [key, key]
  by_cases h : joinOk ca cb a b i j
  · rw [loopJ_yes h, loopJ_yes (joinOk_turn h), bag_turn i.toNat j.toNat cb.length z a b (fun q hq => (h.at.2 q hq).2.1)]
  · rw [loopJ_no h, loopJ_no (fun e => h (joinOk_turn e))]
    rfl
theorem w_WholeHash (s : ByteArray) (hs : s.size ≤ 9223372036854775807) :
    CallQ Try.prog 11 [.sl s.size false (bytesCells s)] noH 0 fun r _ _ => r = .bool true := by
  refine callQ_body mixed Try.func11 _ (by unfold Try.f11; rfl) Try.ntmps11 Try.results11 (by decide) (by simp) ?_
  simp (maxSteps := 4000000) (disch := omega) only [go_sem, w64, AndB_of, IfB_of, IfB_no, pickE_of, pickE_no, ite_of, ite_no, tdivE, tmodE, takeAll]
  refine IfB.dec (fun h => ?_) (fun h => ?_)
  · simp (maxSteps := 4000000) (disch := omega) only [go_sem, w64, AndB_of, IfB_of, IfB_no, pickE_of, pickE_no, ite_of, ite_no, tdivE, tmodE, takeAll]
  obtain ⟨R, ⟨ca, cb, a, b, i, j, lca, lcb, la, lb, sa, sb, rfl⟩, hq⟩ := x_DrawTwoLists s
  have q1 := QCall.own (by simp [pureL, pureA]) (f_HashJoin ca cb a b i j 3 (by omega) (by omega) (by omega) (by omega) (by omega) (by omega) sa sb)
  have q2 := QCall.own (by simp [pureL, pureA]) (f_HashJoin cb ca b a j i 2 (by omega) (by omega) (by omega) (by omega) (by omega) (by omega) sb sa)
  have q3 := QCall.own (by simp [pureL, pureA]) (f_LoopJoinI ca cb a b i j (by omega) (by omega) (by omega) (by omega) sa sb)
  have hcnt := fun z => cnt_turn (ca := ca) (cb := cb) (a := a) (b := b) (i := i) (j := j) z
  have hpa := fun y hy => loopJ_parts (ca := cb) (cb := ca) (a := b) (b := a) (i := j) (j := i) (y := y) hy
  have hlx := loopJ_len ca cb a b i j
  have hly := loopJ_len cb ca b a j i
  have hsx : ∀ r ∈ loopJ ca cb a b i j, smallR r := fun r hr => by
    have h9 := loopJ_row hr
    refine ⟨by omega, fun v hv => ?_⟩
    rcases h9.2 v hv with ⟨y, hy, hvy⟩ | ⟨y, hy, hvy⟩
    · exact (sa y hy).2 v hvy
    · exact (sb y hy).2 v hvy
  have hsy : ∀ r ∈ loopJ cb ca b a j i, smallR r := fun r hr => by
    have h9 := loopJ_row hr
    refine ⟨by omega, fun v hv => ?_⟩
    rcases h9.2 v hv with ⟨y, hy, hvy⟩ | ⟨y, hy, hvy⟩
    · exact (sb y hy).2 v hvy
    · exact (sa y hy).2 v hvy
  obtain ⟨xs, ex⟩ : ∃ xs, xs = loopJ ca cb a b i j := ⟨_, rfl⟩
  obtain ⟨ys, ey⟩ : ∃ ys, ys = loopJ cb ca b a j i := ⟨_, rfl⟩
  rw [← ex] at q1 q3 hlx hsx
  rw [← ey] at q2 hly hsy
  simp only [← ex, ← ey] at hcnt hpa
  clear ex ey
  simp (maxSteps := 4000000) (disch := omega) only [go_sem, w64, AndB_of, IfB_of, IfB_no, pickE_of, pickE_no, ite_of, ite_no, tdivE, tmodE, takeAll]
  apply CallB.q hq
  simp (maxSteps := 4000000) (disch := omega) only [go_sem, w64, AndB_of, IfB_of, IfB_no, pickE_of, pickE_no, ite_of, ite_no, tdivE, tmodE, takeAll]
  apply CallB.q q1
  simp (maxSteps := 4000000) (disch := omega) only [go_sem, w64, AndB_of, IfB_of, IfB_no, pickE_of, pickE_no, ite_of, ite_no, tdivE, tmodE, takeAll]
  apply CallB.q q2
  simp (maxSteps := 4000000) (disch := omega) only [go_sem, w64, AndB_of, IfB_of, IfB_no, pickE_of, pickE_no, ite_of, ite_no, tdivE, tmodE, takeAll]
  apply CallB.q q3
  unfold rowsA
  simp (maxSteps := 4000000) (disch := omega) only [go_sem, w64, AndB_of, IfB_of, IfB_no, pickE_of, pickE_no, ite_of, ite_no, tdivE, tmodE, takeAll]
  refine LoopB.auto (fun zs => (heapOf zs, nxOf zs, (intOf (slotOf zs 12)).toNat, verOf (blkOf zs (0)), cellsOf (blkOf zs (0)))) (fun zz => [(4, none), (4, none), (0, none), (0, some (.msl 0 zz.2.2.2.1 1 0 zz.2.2.1)), (0, some (.int .i64 (zz.2.2.1 : Int)))]) (fun zz => zz.1) (fun zz => zz.2.1) (fun zz => ys.length - zz.2.2.1) (fun zz => zz.2.2.1 ≤ ys.length ∧ 0 < zz.2.1 ∧ Grow zz.1 0 zz.2.2.2.1 zz.2.2.2.2 0 zz.2.1 (flat cR ((ys.take zz.2.2.1).map (turnR cb.length)))) (by (first | simp (maxSteps := 4000000) (disch := omega) only [go_sem, w64, AndB_of, IfB_of, IfB_no, pickE_of, pickE_no, ite_of, ite_no, tdivE, tmodE, takeAll, hH] | simp (maxSteps := 4000000) (disch := omega) only [go_sem, w64, AndB_of, IfB_of, IfB_no, pickE_of, pickE_no, ite_of, ite_no, tdivE, tmodE, takeAll]); ((repeat' apply And.intro) <;> first | exact Grow.nil (upd_same ..) | (exact Weak.go (by (first | (simp [wkL]; done) | (simp [wkL]; omega))) (fun zi => by first | exact .inl rfl | exact .inr rfl | (simp only [upd]; repeat' split) <;> first | exact Grow.nil (upd_same ..) | exact .inl rfl | exact .inr rfl | (exfalso; omega) | exact .inr (hd _ (by omega)) | (left; subst_vars; exact hH.symm) | (left; subst_vars; rfl) | (left; simp; done) | (left; simp; omega)) (by omega)) | omega | rfl | assumption | exact Flat.nil | exact ⟨_, rfl, rfl, by assumption⟩ | (simp; done) | (simp; omega))) ?_
  intro zz zh
  obtain ⟨h, x, k, v, cells⟩ := zz
  dsimp only at zh
  obtain ⟨hk, hx, hG⟩ := zh
  simp (maxSteps := 4000000) (disch := omega) only [go_sem, w64, AndB_of, IfB_of, IfB_no, pickE_of, pickE_no, ite_of, ite_no, tdivE, tmodE, takeAll]
  have hH := hG.hl
  have hgl := hG.len
  rw [cR_flen, List.length_map, List.length_take, Nat.min_eq_left hk] at hgl
  refine IfB.dec (fun d1 => ?_) (fun d1 => ?_)
  · have h1' : k < ys.length := by omega
    have hpy := hpa _ (List.getElem_mem h1')
    obtain ⟨y, ey⟩ : ∃ y : GRow, y = ys[k] := ⟨_, rfl⟩
    rw [← ey] at hpy
    obtain ⟨h5, h6, h7, h8, h9⟩ := hpy
    obtain ⟨r, er⟩ : ∃ r : GRow, r = y.drop cb.length := ⟨_, rfl⟩
    obtain ⟨q, eq⟩ : ∃ q : GRow, q = y.take cb.length := ⟨_, rfl⟩
    have lr : List.length r = ca.length := by rw [er, List.length_drop]; omega
    have lq : List.length q = cb.length := by rw [eq, List.length_take]; omega
    obtain ⟨Y, eY⟩ : ∃ Y, Y = flat GVal.c y := ⟨_, rfl⟩
    have hd1 : List.drop (cb.length * 3) Y = flat GVal.c r := by rw [eY, flat_drop GVal.len, er]
    have ht1 : List.take (cb.length * 3) Y = flat GVal.c q := by rw [eY, flat_take GVal.len, eq]
    have lY : Y.length = (cb.length + List.length r) * 3 := by rw [eY, flat_len GVal.len]; omega
    have ey' : rowA ys[k] = .sl (cb.length + List.length r) false Y := by rw [← ey, show cb.length + List.length r = List.length y by omega, eY]; rfl
    have et : (((cb.length + List.length r : Nat) : Int) - (cb.length : Int)).toNat = List.length r := by omega
    have htr : turnR cb.length ys[k] = r ++ q := by rw [← ey, er, eq]; rfl
    have hts : (ys.take (k + 1)).map (turnR cb.length) = (ys.take k).map (turnR cb.length) ++ [r ++ q] := by
      rw [List.take_succ_eq_append_getElem h1', List.map_append, List.map_cons, List.map_nil, htr]
    have ltk : List.take (List.length r * 3) (flat GVal.c r) = flat GVal.c r := GVal.takeL
    unfold colsA
    simp (maxSteps := 4000000) (disch := omega) only [go_sem, w64, AndB_of, IfB_of, IfB_no, pickE_of, pickE_no, ite_of, ite_no, tdivE, tmodE, takeAll, hH]
    refine DrawB.intro [9, 17, 18, 19] [] (inS (x) (x + 1) (0)) (by kernel_rfl) ?_
    simp (maxSteps := 4000000) (disch := omega) only [go_sem, w64, AndB_of, IfB_of, IfB_no, pickE_of, pickE_no, ite_of, ite_no, tdivE, tmodE, takeAll, hH, ey', hd1, ht1, et, ltk, lq, lY]
    have hrow : rowA (r ++ q) = .sl (List.length r + cb.length) false (flat GVal.c (r ++ q)) := by unfold rowA; rw [List.length_append, lq]
    have hG2 : Grow (upd (upd (upd h x (.live 1 (flat GVal.c r ++ flat GVal.c q))) (x + 1) (.live 0 [.msl x 1 3 0 (List.length r + cb.length)])) 0 (.live (v + 1) (cells ++ [.msl x 1 3 0 (List.length r + cb.length)]))) 0 (v + 1) (cells ++ [.msl x 1 3 0 (List.length r + cb.length)]) 0 (x + 1 + 1) (flat cR ((ys.take (k + 1)).map (turnR cb.length))) := by
      rw [hts, flat_append cR]
      refine hG.snoc (S' := [x]) (by omega) hx (by omega) ?_ (by simp) (fun i hi => by simp at hi; omega) (fun i g1 g2 => by rw [upd_ne _ _ g2, upd_ne _ _ (by omega), upd_ne _ _ (by omega)]) (upd_same ..)
      show OwnL false _ [x] [rowA (r ++ q)] _
      rw [hrow]
      refine .sl (S1 := []) (S2 := []) (by rw [upd_ne _ _ (by omega), upd_ne _ _ (by omega), upd_same, ← flat_append]) (by rw [flat_len GVal.len, List.length_append, lq]) (OwnL.ofPlain fun p hp => ?_) .nil rfl
      obtain ⟨g, hg, hp2⟩ := List.mem_flatten.1 hp
      obtain ⟨w, hw, rfl⟩ := List.mem_map.1 hg
      exact GVal_plain w p hp2
    ((repeat' apply And.intro) <;> first | exact hG2 | (exact Weak.go (by (first | (simp [wkL]; done) | (simp [wkL]; omega))) (fun zi => by first | exact .inl rfl | exact .inr rfl | (simp only [upd]; repeat' split) <;> first | exact hG2 | exact .inl rfl | exact .inr rfl | (exfalso; omega) | exact .inr (hd _ (by omega)) | (left; subst_vars; exact hH.symm) | (left; subst_vars; rfl) | (left; simp; done) | (left; simp; omega)) (by omega)) | omega | rfl | assumption | exact Flat.nil | exact ⟨_, rfl, rfl, by assumption⟩ | (simp; done) | (simp; omega))
  · have hk2 : k = ys.length := by omega
    rw [hk2, List.take_length] at hG
    have hown := hG.own (n := ys.length) (sz := 1) (by rw [cR_flen]; simp) (by omega) hx
    have hT : (.sl ys.length false (flat cR (ys.map (turnR cb.length))) : AV) = rowsA (ys.map (turnR cb.length)) := by unfold rowsA; rw [List.length_map]
    rw [hT] at hown
    have hsT : ∀ z ∈ ys.map (turnR cb.length), smallR z := fun z hz => by
      obtain ⟨y, hy, rfl⟩ := List.mem_map.1 hz
      have h9 := hsy y hy
      refine ⟨?_, fun v hv => h9.2 v ?_⟩
      · unfold turnR
        have := h9.1
        rw [List.length_append, List.length_drop, List.length_take]
        omega
      · unfold turnR at hv
        rcases List.mem_append.1 hv with h | h
        · exact List.mem_of_mem_drop h
        · exact List.mem_of_mem_take h
    have qs := q_SameBag xs (ys.map (turnR cb.length)) (by omega) (by rw [List.length_map]; omega) hsx hsT
    rw [decide_eq_true (fun z _ => hcnt z)] at qs
    subst hk2
    simp (maxSteps := 4000000) (disch := omega) only [go_sem, w64, AndB_of, IfB_of, IfB_no, pickE_of, pickE_no, ite_of, ite_no, tdivE, tmodE, takeAll]
    refine CallB.pic (Pict.cons (Pict.pure (rowsA_pure _)) (Pict.cons hown.pict Pict.nil)) qs rfl ?_
    simp (maxSteps := 4000000) (disch := omega) only [go_sem, w64, AndB_of, IfB_of, IfB_no, pickE_of, pickE_no, ite_of, ite_no, tdivE, tmodE, takeAll]
    apply CallB.q q_alive
    simp (maxSteps := 4000000) (disch := omega) only [go_sem, w64, AndB_of, IfB_of, IfB_no, pickE_of, pickE_no, ite_of, ite_no, tdivE, tmodE, takeAll]
end Go.TH
