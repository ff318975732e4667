/- TH: the bytes of values and rows: the walks. Made by gen.py. -/
import Derived.Test.YtfnflalnjigfkaaTf3
import Derived.Test.YtfnflalnjigfkaaTeo
import Derived.Test.YtfnflalnjigfkaaTesl
import Derived.Test.YtfnflalnjigfkaaTf4
namespace Go.TH
open Go Go.Proofs
set_option linter.unusedSimpArgs false
set_option linter.unusedVariables false
set_option maxHeartbeats 20000000
set_option maxRecDepth 100000
theorem kinds {v : GVal} (h : v.Ok) : v.k = 0 ∨ v.k = 1 ∨ v.k = 2 ∨ v.k = 3 := by unfold GVal.Ok at h; omega
theorem okN {v : GVal} (h : v.Ok) : -10000 ≤ v.n ∧ v.n ≤ 10000 ∧ v.s.size ≤ 6 := by unfold GVal.Ok inR at h; omega
theorem sh8 (n : Int) : n.fdiv (2 ^ min 8 64) = n / 256 := Int.fdiv_eq_ediv_of_nonneg n (by decide)
theorem vBy0 {v : GVal} (hk : v.k = 0) : vBy v = [u8i 0] := by simp [vBy, vBody, hk]
theorem vBy1 {v : GVal} (hk : v.k = 1) : vBy v = [u8i 1, u8i ((v.n + 10000) / 256), u8i (v.n + 10000)] := by simp [vBy, vBody, hk]
theorem vBy2 {v : GVal} (hk : v.k = 2) : vBy v = u8i 2 :: u8i v.s.size :: v.s.data.toList := by simp [vBy, vBody, hk]
theorem vBy3 {v : GVal} (hk : v.k = 3) : vBy v = [u8i 3, u8i v.n] := by simp [vBy, vBody, hk]
theorem q_bytes (v : GVal) (hv : v.Ok) : QCall Try.prog 77 [.agg [.int .i64 v.k, .int .i64 v.n, .str v.s]] (bysA (vBy v)) := by
  have hn := okN hv
  refine qcall_bodyL mixed Try.func77 _ (by unfold Try.f77; rfl) Try.ntmps77 Try.results77 (by decide) 1 (by simp) (by simp [pureL, pureA]) ?_
  simp (maxSteps := 4000000) (disch := omega) only [go_sem, w64, AndB_of, IfB_of, IfB_no, pickE_of, pickE_no, ite_of, ite_no, tdivE, tmodE, takeAll, u8i_cell]
  rcases kinds hv with hk | hk | hk | hk
  · simp (maxSteps := 4000000) (disch := omega) only [go_sem, w64, AndB_of, IfB_of, IfB_no, pickE_of, pickE_no, ite_of, ite_no, tdivE, tmodE, takeAll, hk, u8i_cell, vBy0]
    rfl
  · simp (maxSteps := 4000000) (disch := omega) only [go_sem, w64, AndB_of, IfB_of, IfB_no, pickE_of, pickE_no, ite_of, ite_no, tdivE, tmodE, takeAll, hk, u8i_cell, vBy1, sh8]
    rfl
  · simp (maxSteps := 4000000) (disch := omega) only [go_sem, w64, AndB_of, IfB_of, IfB_no, pickE_of, pickE_no, ite_of, ite_no, tdivE, tmodE, takeAll, hk, u8i_cell, vBy2]
    refine DrawB.intro [5, 6, 9] [] (inS (1) (2) (2)) (by kernel_rfl) ?_
    simp (maxSteps := 4000000) (disch := omega) only [go_sem, w64, AndB_of, IfB_of, IfB_no, pickE_of, pickE_no, ite_of, ite_no, tdivE, tmodE, takeAll, hk, u8i_cell]
    have e : (AV.int .u8 (u8i 2).toNat :: .int .u8 (u8i v.s.size).toNat :: bytesCells v.s) = bts (u8i 2 :: u8i v.s.size :: v.s.data.toList) := rfl
    have el : (u8i 2 :: u8i v.s.size :: v.s.data.toList).length = 2 + v.s.size := by simp only [List.length_cons, size_len]; omega
    rw [e, takeAll (by rw [bts_len, el]; exact Nat.le_refl _), bts_snap, bts_loose]
    unfold bysA
    rw [el]
  · simp (maxSteps := 4000000) (disch := omega) only [go_sem, w64, AndB_of, IfB_of, IfB_no, pickE_of, pickE_no, ite_of, ite_no, tdivE, tmodE, takeAll, hk, u8i_cell, vBy3]
    rfl
theorem q_ValueBytesS (v : GVal) (hs : v.s.size ≤ 140737488355328) : QCall Try.prog 79 [.agg [.int .i64 v.k, .int .i64 v.n, .str v.s]] (bysA (vB v)) := by
  refine qcall_bodyL mixed Try.func79 _ (by unfold Try.f79; rfl) Try.ntmps79 Try.results79 (by decide) 1 (by simp) (by simp [pureL, pureA]) ?_
  simp (maxSteps := 4000000) (disch := omega) only [go_sem, w64, AndB_of, IfB_of, IfB_no, pickE_of, pickE_no, ite_of, ite_no, tdivE, tmodE, takeAll, u8i_cell]
  apply CallB.q (q_ValueOkS v (by omega))
  simp (maxSteps := 4000000) (disch := omega) only [go_sem, w64, AndB_of, IfB_of, IfB_no, pickE_of, pickE_no, ite_of, ite_no, tdivE, tmodE, takeAll]
  refine IfB.dec (fun hv => ?_) (fun hv => ?_)
  case refine_2 =>
    simp (maxSteps := 4000000) (disch := omega) only [go_sem, w64, AndB_of, IfB_of, IfB_no, pickE_of, pickE_no, ite_of, ite_no, tdivE, tmodE, takeAll]
    rw [show vB v = [] from if_neg hv]
    rfl
  have hn := okN hv
  rw [show vB v = vBy v from if_pos hv]
  have e256 : u8i ((v.n + 10000) % 256) = u8i (v.n + 10000) := u8i_eq (by omega)
  rcases kinds hv with hk | hk | hk | hk
  · simp (maxSteps := 4000000) (disch := omega) only [go_sem, w64, AndB_of, IfB_of, IfB_no, pickE_of, pickE_no, ite_of, ite_no, tdivE, tmodE, takeAll, hk, u8i_cell, vBy0]
    rfl
  · simp (maxSteps := 4000000) (disch := omega) only [go_sem, w64, AndB_of, IfB_of, IfB_no, pickE_of, pickE_no, ite_of, ite_no, tdivE, tmodE, takeAll, hk, u8i_cell, vBy1, e256]
    rfl
  · simp (maxSteps := 4000000) (disch := omega) only [go_sem, w64, AndB_of, IfB_of, IfB_no, pickE_of, pickE_no, ite_of, ite_no, tdivE, tmodE, takeAll, hk, u8i_cell, vBy2]
    refine DrawB.intro [5, 6, 10] [] (inS (1) (2) (2)) (by kernel_rfl) ?_
    simp (maxSteps := 4000000) (disch := omega) only [go_sem, w64, AndB_of, IfB_of, IfB_no, pickE_of, pickE_no, ite_of, ite_no, tdivE, tmodE, takeAll, hk, u8i_cell]
    have e : (AV.int .u8 (u8i 2).toNat :: .int .u8 (u8i v.s.size).toNat :: bytesCells v.s) = bts (u8i 2 :: u8i v.s.size :: v.s.data.toList) := rfl
    have el : (u8i 2 :: u8i v.s.size :: v.s.data.toList).length = 2 + v.s.size := by simp only [List.length_cons, size_len]; omega
    rw [e, takeAll (by rw [bts_len, el]; exact Nat.le_refl _), bts_snap, bts_loose]
    unfold bysA
    rw [el]
  · simp (maxSteps := 4000000) (disch := omega) only [go_sem, w64, AndB_of, IfB_of, IfB_no, pickE_of, pickE_no, ite_of, ite_no, tdivE, tmodE, takeAll, hk, u8i_cell, vBy3]
    rfl
theorem c_ClipB {H : AH} {nx id ver n : Nat} {cells : List AV} (h : H id = .live ver cells) : CallC Try.prog 78 [.msl id ver 1 0 n] H nx (.msl id ver 1 0 n) H nx := by
  refine call_body mixed Try.func78 _ (by unfold Try.f78; rfl) Try.ntmps78 Try.results78 (by decide) (by simp) ?_
  simp (maxSteps := 4000000) (disch := omega) only [go_sem, w64, AndB_of, IfB_of, IfB_no, pickE_of, pickE_no, ite_of, ite_no, tdivE, tmodE, takeAll, h]
theorem rowBy_step {r : GRow} {k : Nat} (hk : k < r.length) : rowBy (r.take (k + 1)) = rowBy (r.take k) ++ vB r[k] := by
  rw [List.take_add_one, List.getElem?_eq_getElem hk, rowBy_app]
  simp [rowBy]
theorem q_RowBytesS (r : GRow) (hl : r.length ≤ 1048576) (hs : ∀ v ∈ r, v.s.size ≤ 140737488355328) : QCall Try.prog 23 [rowA r] (bysA (rowB r)) := by
  refine qcall_bodyL mixed Try.func23 _ (by unfold Try.f23; rfl) Try.ntmps23 Try.results23 (by decide) 1 (by simp) (by simp [pureL, pureA]) ?_
  simp (maxSteps := 4000000) (disch := omega) only [go_sem, w64, AndB_of, IfB_of, IfB_no, pickE_of, pickE_no, ite_of, ite_no, tdivE, tmodE, takeAll]
  apply CallB.q (q_RowOkS r hl (fun v hv => by have := hs v hv; omega))
  simp (maxSteps := 4000000) (disch := omega) only [go_sem, w64, AndB_of, IfB_of, IfB_no, pickE_of, pickE_no, ite_of, ite_no, tdivE, tmodE, takeAll]
  refine IfB.dec (fun c => ?_) (fun c => ?_)
  case refine_2 =>
    simp (maxSteps := 4000000) (disch := omega) only [go_sem, w64, AndB_of, IfB_of, IfB_no, pickE_of, pickE_no, ite_of, ite_no, tdivE, tmodE, takeAll]
    rw [show rowB r = [] from if_neg c]
    rfl
  rw [show rowB r = u8i r.length :: rowBy r from if_pos c]
  have h4 := c.1
  unfold rowA
  simp (maxSteps := 4000000) (disch := omega) only [go_sem, w64, AndB_of, IfB_of, IfB_no, pickE_of, pickE_no, ite_of, ite_no, tdivE, tmodE, takeAll, u8i_cell]
  refine LoopB.auto (fun zs => (nxOf zs, (intOf (slotOf zs 4)).toNat, verOf (blkOf zs (0)), cellsOf (blkOf zs (0)), mlenOf (slotOf zs 3))) (fun zz => [(0, none), (2, some (.msl 0 zz.2.2.1 1 0 zz.2.2.2.2)), (0, some (.int .i64 (zz.2.1 : Int)))]) (fun zz => upd noH 0 (.live zz.2.2.1 zz.2.2.2.1)) (fun zz => zz.1) (fun zz => r.length - zz.2.1) (fun zz => zz.2.1 ≤ r.length ∧ 0 < zz.1 ∧ zz.2.2.2.1 = bts (u8i r.length :: rowBy (r.take zz.2.1)) ∧ zz.2.2.2.2 = (u8i r.length :: rowBy (r.take zz.2.1)).length) (by (first | simp (maxSteps := 4000000) (disch := omega) only [go_sem, w64, AndB_of, IfB_of, IfB_no, pickE_of, pickE_no, ite_of, ite_no, tdivE, tmodE, takeAll, hH] | simp (maxSteps := 4000000) (disch := omega) only [go_sem, w64, AndB_of, IfB_of, IfB_no, pickE_of, pickE_no, ite_of, ite_no, tdivE, tmodE, takeAll]); ((repeat' apply And.intro) <;> first | exact rfl | (exact Weak.go (by (first | (simp [wkL]; done) | (simp [wkL]; omega))) (fun zi => by first | exact .inl rfl | exact .inr rfl | (simp only [upd]; repeat' split) <;> first | exact rfl | exact .inl rfl | exact .inr rfl | (exfalso; omega) | exact .inr (hd _ (by omega)) | (left; subst_vars; exact hH.symm) | (left; subst_vars; rfl) | (left; simp; done) | (left; simp; omega)) (by omega)) | omega | rfl | assumption | exact Flat.nil | exact ⟨_, rfl, rfl, by assumption⟩ | (simp; done) | (simp; omega))) ?_
  intro zz zh
  obtain ⟨x, k, v, cells, m⟩ := zz
  dsimp only at zh
  obtain ⟨hk, hx, hc, hm⟩ := zh
  simp (maxSteps := 4000000) (disch := omega) only [go_sem, w64, AndB_of, IfB_of, IfB_no, pickE_of, pickE_no, ite_of, ite_no, tdivE, tmodE, takeAll]
  have hlen : cells.length = m := by rw [hc, bts_len, hm]
  have hm2 : m ≤ 1 + 8 * k := by
    have := rowBy_len (r.take k)
    rw [len_take hk] at this
    rw [hm, List.length_cons]
    omega
  refine IfB.dec (fun h1 => ?_) (fun h1 => ?_)
  · have h1' : k < List.length r := by omega
    have hst := rowBy_step h1'
    have hvl := vB_len (v := r[k])
    have hcs : bts (u8i r.length :: rowBy (r.take (k + 1))) = cells ++ bts (vB r[k]) := by rw [hst, hc, ← bts_app]; rfl
    have hms : (u8i r.length :: rowBy (r.take (k + 1))).length = m + (vB r[k]).length := by rw [hst, hm]; simp; omega
    simp (maxSteps := 4000000) (disch := omega) only [go_sem, w64, AndB_of, IfB_of, IfB_no, pickE_of, pickE_no, ite_of, ite_no, tdivE, tmodE, takeAll]
    apply CallB.q (q_ValueBytesS r[k] (hs _ (List.getElem_mem h1')))
    unfold bysA
    simp (maxSteps := 4000000) (disch := omega) only [go_sem, w64, AndB_of, IfB_of, IfB_no, pickE_of, pickE_no, ite_of, ite_no, tdivE, tmodE, takeAll]
    ((repeat' apply And.intro) <;> first | exact hcs.symm | exact hms.symm | (exact Weak.go (by (first | (simp [wkL]; done) | (simp [wkL]; omega))) (fun zi => by first | exact .inl rfl | exact .inr rfl | (simp only [upd]; repeat' split) <;> first | exact hcs.symm | exact hms.symm | exact .inl rfl | exact .inr rfl | (exfalso; omega) | exact .inr (hd _ (by omega)) | (left; subst_vars; exact hH.symm) | (left; subst_vars; rfl) | (left; simp; done) | (left; simp; omega)) (by omega)) | omega | rfl | assumption | exact Flat.nil | exact ⟨_, rfl, rfl, by assumption⟩ | (simp; done) | (simp; omega))
  · obtain rfl : k = List.length r := by omega
    rw [List.take_length] at hc hm
    simp (maxSteps := 4000000) (disch := omega) only [go_sem, w64, AndB_of, IfB_of, IfB_no, pickE_of, pickE_no, ite_of, ite_no, tdivE, tmodE, takeAll]
    rw [hc, bts_snap, bts_loose, hm]
    rfl
theorem f_RowBytesI (r : GRow) (hl : r.length ≤ 1048576) (hs : ∀ v ∈ r, v.s.size ≤ 140737488355328) : ACallD Try.prog 22 [rowA r] noH 0 (fun R H' n' => OwnR H' 0 n' (bysA (rowB r)) R) := by
  refine dcall_body mixed Try.func22 _ (by unfold Try.f22; rfl) Try.ntmps22 Try.results22 (by decide) (by simp) ?_
  simp (maxSteps := 4000000) (disch := omega) only [go_sem, w64, AndB_of, IfB_of, IfB_no, pickE_of, pickE_no, ite_of, ite_no, tdivE, tmodE, takeAll]
  apply CallB.q (q_RowOkI r hl (fun v hv => by have := hs v hv; omega))
  simp (maxSteps := 4000000) (disch := omega) only [go_sem, w64, AndB_of, IfB_of, IfB_no, pickE_of, pickE_no, ite_of, ite_no, tdivE, tmodE, takeAll]
  refine IfB.dec (fun c => ?_) (fun c => ?_)
  case refine_2 =>
    simp (maxSteps := 4000000) (disch := omega) only [go_sem, w64, AndB_of, IfB_of, IfB_no, pickE_of, pickE_no, ite_of, ite_no, tdivE, tmodE, takeAll]
    rw [show rowB r = [] from if_neg c]
    exact OwnR.nilS
  rw [show rowB r = u8i r.length :: rowBy r from if_pos c]
  have h4 := c.1
  unfold rowA
  simp (maxSteps := 4000000) (disch := omega) only [go_sem, w64, AndB_of, IfB_of, IfB_no, pickE_of, pickE_no, ite_of, ite_no, tdivE, tmodE, takeAll, u8i_cell]
  refine LoopB.auto (fun zs => (nxOf zs, (intOf (slotOf zs 15)).toNat, verOf (blkOf zs (0)), cellsOf (blkOf zs (0)), mlenOf (slotOf zs 3))) (fun zz => [(3, some (.msl 0 zz.2.2.1 1 0 zz.2.2.2.2)), (9, none), (0, none), (0, some (.int .i64 (zz.2.1 : Int)))]) (fun zz => upd noH 0 (.live zz.2.2.1 zz.2.2.2.1)) (fun zz => zz.1) (fun zz => r.length - zz.2.1) (fun zz => zz.2.1 ≤ r.length ∧ 0 < zz.1 ∧ zz.2.2.2.1 = bts (u8i r.length :: rowBy (r.take zz.2.1)) ∧ zz.2.2.2.2 = (u8i r.length :: rowBy (r.take zz.2.1)).length) (by (first | simp (maxSteps := 4000000) (disch := omega) only [go_sem, w64, AndB_of, IfB_of, IfB_no, pickE_of, pickE_no, ite_of, ite_no, tdivE, tmodE, takeAll, hH] | simp (maxSteps := 4000000) (disch := omega) only [go_sem, w64, AndB_of, IfB_of, IfB_no, pickE_of, pickE_no, ite_of, ite_no, tdivE, tmodE, takeAll]); ((repeat' apply And.intro) <;> first | exact rfl | (exact Weak.go (by (first | (simp [wkL]; done) | (simp [wkL]; omega))) (fun zi => by first | exact .inl rfl | exact .inr rfl | (simp only [upd]; repeat' split) <;> first | exact rfl | exact .inl rfl | exact .inr rfl | (exfalso; omega) | exact .inr (hd _ (by omega)) | (left; subst_vars; exact hH.symm) | (left; subst_vars; rfl) | (left; simp; done) | (left; simp; omega)) (by omega)) | omega | rfl | assumption | exact Flat.nil | exact ⟨_, rfl, rfl, by assumption⟩ | (simp; done) | (simp; omega))) ?_
  intro zz zh
  obtain ⟨x, k, v, cells, m⟩ := zz
  dsimp only at zh
  obtain ⟨hk, hx, hc, hm⟩ := zh
  simp (maxSteps := 4000000) (disch := omega) only [go_sem, w64, AndB_of, IfB_of, IfB_no, pickE_of, pickE_no, ite_of, ite_no, tdivE, tmodE, takeAll]
  have hlen : cells.length = m := by rw [hc, bts_len, hm]
  have hm2 : m ≤ 1 + 8 * k := by
    have := rowBy_len (r.take k)
    rw [len_take hk] at this
    rw [hm, List.length_cons]
    omega
  refine IfB.dec (fun h1 => ?_) (fun h1 => ?_)
  · have h1' : k < List.length r := by omega
    have hst := rowBy_step h1'
    have hvl := vB_len (v := r[k])
    have hcs : bts (u8i r.length :: rowBy (r.take (k + 1))) = cells ++ bts (vB r[k]) := by rw [hst, hc, ← bts_app]; rfl
    have hms : (u8i r.length :: rowBy (r.take (k + 1))).length = m + (vB r[k]).length := by rw [hst, hm]; simp; omega
    have hok := c.2 _ (List.getElem_mem h1')
    have eb := q_bytes r[k] hok
    rw [← show vB r[k] = vBy r[k] from if_pos hok] at eb
    unfold bysA at eb
    simp (maxSteps := 4000000) (disch := omega) only [go_sem, w64, AndB_of, IfB_of, IfB_no, pickE_of, pickE_no, ite_of, ite_no, tdivE, tmodE, takeAll]
    apply CallB.q eb
    simp (maxSteps := 4000000) (disch := omega) only [go_sem, w64, AndB_of, IfB_of, IfB_no, pickE_of, pickE_no, ite_of, ite_no, tdivE, tmodE, takeAll]
    ((repeat' apply And.intro) <;> first | exact hcs.symm | exact hms.symm | (exact Weak.go (by (first | (simp [wkL]; done) | (simp [wkL]; omega))) (fun zi => by first | exact .inl rfl | exact .inr rfl | (simp only [upd]; repeat' split) <;> first | exact hcs.symm | exact hms.symm | exact .inl rfl | exact .inr rfl | (exfalso; omega) | exact .inr (hd _ (by omega)) | (left; subst_vars; exact hH.symm) | (left; subst_vars; rfl) | (left; simp; done) | (left; simp; omega)) (by omega)) | omega | rfl | assumption | exact Flat.nil | exact ⟨_, rfl, rfl, by assumption⟩ | (simp; done) | (simp; omega))
  · obtain rfl : k = List.length r := by omega
    rw [List.take_length] at hc hm
    simp (maxSteps := 4000000) (disch := omega) only [go_sem, w64, AndB_of, IfB_of, IfB_no, pickE_of, pickE_no, ite_of, ite_no, tdivE, tmodE, takeAll]
    apply CallB.of (c_ClipB (upd_same _ _ _))
    simp (maxSteps := 4000000) (disch := omega) only [go_sem, w64, AndB_of, IfB_of, IfB_no, pickE_of, pickE_no, ite_of, ite_no, tdivE, tmodE, takeAll]
    subst hc hm
    exact ⟨[0], .sl (upd_same ..) (by rw [bts_len]; simp) (OwnL.ofPlain fun a ha => by obtain ⟨b, _, rfl⟩ := List.mem_map.1 ha; rfl) .nil (by simp), by simp, fun i hi => by simp at hi; omega⟩
end Go.TH
