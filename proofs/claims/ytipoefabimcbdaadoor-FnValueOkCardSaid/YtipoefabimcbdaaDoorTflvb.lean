/- TH: the law FnValueOk. Made by gen.py. -/
import Derived.Test.YtipoefabimcbdaaDoorTf3
import Derived.Test.YtipoefabimcbdaaDoorTfvt
import Derived.Test.YtipoefabimcbdaaDoorTfd1
import Derived.Test.YtipoefabimcbdaaDoorTfd2
import Derived.Test.YtipoefabimcbdaaDoorTf4
namespace Go.TH
open Go Go.Proofs
set_option linter.unusedSimpArgs false
set_option linter.unusedVariables false
set_option maxHeartbeats 20000000
set_option maxRecDepth 100000
theorem kinds {v : GVal} (h : v.Ok) : v.k = 0 ∨ v.k = 1 ∨ v.k = 2 ∨ v.k = 3 := by unfold GVal.Ok at h; omega
theorem okN {v : GVal} (h : v.Ok) : -10000 ≤ v.n ∧ v.n ≤ 10000 ∧ v.s.size ≤ 6 := by unfold GVal.Ok inR at h; omega
theorem sh8 (n : Int) : n.fdiv (2 ^ min 8 64) = n / 256 := Int.fdiv_eq_ediv_of_nonneg n (by decide)
theorem vBy0 {v : GVal} (hk : v.k = 0) : vBy v = [u8i 0] := by simp [vBy, vBody, hk]
theorem vBy1 {v : GVal} (hk : v.k = 1) : vBy v = [u8i 1, u8i ((v.n + 10000) / 256), u8i (v.n + 10000)] := by simp [vBy, vBody, hk]
theorem vBy2 {v : GVal} (hk : v.k = 2) : vBy v = u8i 2 :: u8i v.s.size :: v.s.data.toList := by simp [vBy, vBody, hk]
theorem vBy3 {v : GVal} (hk : v.k = 3) : vBy v = [u8i 3, u8i v.n] := by simp [vBy, vBody, hk]
theorem q_bytes (v : GVal) (hv : v.Ok) : QCall Tryd.prog 23 [.agg [.int .i64 v.k, .int .i64 v.n, .str v.s]] (bysA (vBy v)) := by
  have hn := okN hv
  refine qcall_bodyL mixed Tryd.func23 _ (by unfold Tryd.f23; rfl) Tryd.ntmps23 Tryd.results23 (by decide) 1 (by simp) (by simp [pureL, pureA]) ?_
  simp (maxSteps := 4000000) (disch := omega) only [go_sem, w64, AndB_of, IfB_of, IfB_no, pickE_of, pickE_no, ite_of, ite_no, tdivE, tmodE, takeAll, u8i_cell]
  rcases kinds hv with hk | hk | hk | hk
  · simp (maxSteps := 4000000) (disch := omega) only [go_sem, w64, AndB_of, IfB_of, IfB_no, pickE_of, pickE_no, ite_of, ite_no, tdivE, tmodE, takeAll, hk, u8i_cell, vBy0]
    rfl
  · simp (maxSteps := 4000000) (disch := omega) only [go_sem, w64, AndB_of, IfB_of, IfB_no, pickE_of, pickE_no, ite_of, ite_no, tdivE, tmodE, takeAll, hk, u8i_cell, vBy1, sh8]
    rfl
  · simp (maxSteps := 4000000) (disch := omega) only [go_sem, w64, AndB_of, IfB_of, IfB_no, pickE_of, pickE_no, ite_of, ite_no, tdivE, tmodE, takeAll, hk, u8i_cell, vBy2]
    refine DrawB.intro [5, 6, 9] [] (inS (1) (2) (2)) (by kernel_rfl) ?_
    simp (maxSteps := 4000000) (disch := omega) only [go_sem, w64, AndB_of, IfB_of, IfB_no, pickE_of, pickE_no, ite_of, ite_no, tdivE, tmodE, takeAll, hk, u8i_cell]
    have e : (AV.int .u8 (u8i 2).toNat :: .int .u8 (u8i v.s.size).toNat :: bytesCells v.s) = bts (u8i 2 :: u8i v.s.size :: v.s.data.toList) := rfl
    have el : (u8i 2 :: u8i v.s.size :: v.s.data.toList).length = 2 + v.s.size := by simp only [List.length_cons, size_len]; omega
    rw [e, takeAll (by rw [bts_len, el]; exact Nat.le_refl _), bts_snap, bts_loose]
    unfold bysA
    rw [el]
  · simp (maxSteps := 4000000) (disch := omega) only [go_sem, w64, AndB_of, IfB_of, IfB_no, pickE_of, pickE_no, ite_of, ite_no, tdivE, tmodE, takeAll, hk, u8i_cell, vBy3]
    rfl
theorem q_ClipF (l : List UInt8) (hl : l.length ≤ 8) : QCall Tryd.prog 22 [.sl l.length false (bts l)] (.sl l.length true (bts l)) := by
  refine qcall_body mixed Tryd.func22 _ (by unfold Tryd.f22; rfl) Tryd.ntmps22 Tryd.results22 (by decide) 0 (by simp) (by simp [pureL, pureA, bts_pure]) ?_
  simp (maxSteps := 4000000) (disch := omega) only [go_sem, w64, AndB_of, IfB_of, IfB_no, pickE_of, pickE_no, ite_of, ite_no, tdivE, tmodE, takeAll]
theorem q_ValueBytesI (v : GVal) (hs : v.s.size ≤ 1000) : QCall Tryd.prog 12 [.agg [.int .i64 v.k, .int .i64 v.n, .str v.s]] (if v.Ok then .sl (vBy v).length true (bts (vBy v)) else .sl 0 true []) := by
  refine qcall_body mixed Tryd.func12 _ (by unfold Tryd.f12; rfl) Tryd.ntmps12 Tryd.results12 (by decide) 0 (by simp) (by simp [pureL, pureA]) ?_
  simp (maxSteps := 4000000) (disch := omega) only [go_sem, w64, AndB_of, IfB_of, IfB_no, pickE_of, pickE_no, ite_of, ite_no, tdivE, tmodE, takeAll]
  apply CallB.q (q_ok v (by omega))
  simp (maxSteps := 4000000) (disch := omega) only [go_sem, w64, AndB_of, IfB_of, IfB_no, pickE_of, pickE_no, ite_of, ite_no, tdivE, tmodE, takeAll]
  refine IfB.dec (fun h => ?_) (fun h => ?_)
  · have q := q_bytes v h
    have hl := vBy_len h
    unfold bysA at q
    rw [if_pos h]
    generalize vBy v = l at q hl
    simp (maxSteps := 4000000) (disch := omega) only [go_sem, w64, AndB_of, IfB_of, IfB_no, pickE_of, pickE_no, ite_of, ite_no, tdivE, tmodE, takeAll]
    apply CallB.q q
    simp (maxSteps := 4000000) (disch := omega) only [go_sem, w64, AndB_of, IfB_of, IfB_no, pickE_of, pickE_no, ite_of, ite_no, tdivE, tmodE, takeAll]
    apply CallB.q (q_ClipF l hl)
    simp (maxSteps := 4000000) (disch := omega) only [go_sem, w64, AndB_of, IfB_of, IfB_no, pickE_of, pickE_no, ite_of, ite_no, tdivE, tmodE, takeAll]
  · rw [if_neg h]
    simp (maxSteps := 4000000) (disch := omega) only [go_sem, w64, AndB_of, IfB_of, IfB_no, pickE_of, pickE_no, ite_of, ite_no, tdivE, tmodE, takeAll]
theorem vBy_pos {v : GVal} (h : v.Ok) : 0 < (vBy v).length := by
  rcases kinds h with hk | hk | hk | hk
  · rw [vBy0 hk]; simp
  · rw [vBy1 hk]; simp
  · rw [vBy2 hk]; simp
  · rw [vBy3 hk]; simp
theorem vText_ne {v : GVal} (h : v.Ok) : vText v ≠ ⟨#[]⟩ := by
  have e : 0 < (vText v).size := by
    unfold vText
    rw [if_pos h]
    have hd : 0 < (Lib.itoa v.n).length := by
      unfold Lib.itoa
      split
      · simp
      · rw [Lib.decDigits_length]
        exact Lib.nDigits_pos _
    split
    · simpa [ByteArray.size] using hd
    · split
      · simp only [ByteArray.size_append]
        have : (⟨#[39]⟩ : ByteArray).size = 1 := rfl
        omega
      · split
        · split <;> decide
        · decide
  intro c
  rw [c] at e
  exact absurd e (by decide)
theorem x_DrawValueOk (s : ByteArray) : ∃ R, (∃ v : GVal, v.s.size ≤ 20 ∧ R = .agg [.int .i64 v.k, .int .i64 v.n, .str v.s]) ∧ QCall Tryd.prog 9 [.sl s.size false (bytesCells s)] R := by
  refine qex_of (by simp [pureL, pureA, bytesCells_pure]) 1 ?_
  refine dcall_body mixed Tryd.func9 _ (by unfold Tryd.f9; rfl) Tryd.ntmps9 Tryd.results9 (by decide) (by simp) ?_
  simp (maxSteps := 4000000) (disch := omega) only [go_sem, w64, AndB_of, IfB_of, IfB_no, pickE_of, pickE_no, ite_of, ite_no, tdivE, tmodE, takeAll]
  apply CallB.law; (focus (apply d_open; (repeat (first | exact hH | exact upd_same _ _ _ | rw [upd_ne _ _ (by omega)])); all_goals omega)); rintro _ _ _ ⟨bs, hbs, rfl, rfl, rfl⟩
  simp (maxSteps := 4000000) (disch := omega) only [go_sem, w64, AndB_of, IfB_of, IfB_no, pickE_of, pickE_no, ite_of, ite_no, tdivE, tmodE, takeAll]
  apply CallB.law; (focus (apply d_value; omega; (repeat (first | exact hH | exact upd_same _ _ _ | rw [upd_ne _ _ (by omega)])); (first | exact fun i hi => hd i (by omega) | (intro i hi; repeat (first | exact hd i (by omega) | exact rfl | rw [upd_ne _ _ (by omega)]))); all_goals omega)); rintro _ _ _ ⟨v, q, hq0, hq1, hv1, hv2, rfl, rfl, rfl⟩
  simp (maxSteps := 4000000) (disch := omega) only [go_sem, w64, AndB_of, IfB_of, IfB_no, pickE_of, pickE_no, ite_of, ite_no, tdivE, tmodE, takeAll]
  exact ⟨v, by omega, rfl⟩
theorem w_ValueOk (s : ByteArray) (hs : s.size ≤ 9223372036854775807) : CallQ Tryd.prog 4 [.sl s.size false (bytesCells s)] noH 0 fun r _ _ => r = .bool true := by
  obtain ⟨R, ⟨v, hP, rfl⟩, hq⟩ := x_DrawValueOk s
  have qO := q_ValueOkI v (by omega)
  have qS := q_ValueOkS v (by omega)
  have qT := q_ValueTextI v (by omega)
  have qB := q_ValueBytesI v (by omega)
  by_cases hv : v.Ok
  · have hne := vText_ne hv
    have hpos := vBy_pos hv
    have hl := vBy_len hv
    rw [decide_eq_true hv] at qO qS
    rw [if_pos hv] at qB
    generalize vBy v = l at qB hpos hl
    generalize vText v = tx at qT hne
    refine callQ_body mixed Tryd.func4 _ (by unfold Tryd.f4; rfl) Tryd.ntmps4 Tryd.results4 (by decide) (by simp) ?_
    simp (maxSteps := 4000000) (disch := omega) only [go_sem, w64, AndB_of, IfB_of, IfB_no, pickE_of, pickE_no, ite_of, ite_no, tdivE, tmodE, takeAll]
    refine IfB.dec (fun h => ?_) (fun h => ?_)
    · simp (maxSteps := 4000000) (disch := omega) only [go_sem, w64, AndB_of, IfB_of, IfB_no, pickE_of, pickE_no, ite_of, ite_no, tdivE, tmodE, takeAll]
    simp (maxSteps := 4000000) (disch := omega) only [go_sem, w64, AndB_of, IfB_of, IfB_no, pickE_of, pickE_no, ite_of, ite_no, tdivE, tmodE, takeAll]
    apply CallB.q hq
    simp (maxSteps := 4000000) (disch := omega) only [go_sem, w64, AndB_of, IfB_of, IfB_no, pickE_of, pickE_no, ite_of, ite_no, tdivE, tmodE, takeAll]
    apply CallB.q qO
    simp (maxSteps := 4000000) (disch := omega) only [go_sem, w64, AndB_of, IfB_of, IfB_no, pickE_of, pickE_no, ite_of, ite_no, tdivE, tmodE, takeAll]
    apply CallB.q qS
    simp (maxSteps := 4000000) (disch := omega) only [go_sem, w64, AndB_of, IfB_of, IfB_no, pickE_of, pickE_no, ite_of, ite_no, tdivE, tmodE, takeAll]
    apply CallB.q qT
    simp (maxSteps := 4000000) (disch := omega) only [go_sem, w64, AndB_of, IfB_of, IfB_no, pickE_of, pickE_no, ite_of, ite_no, tdivE, tmodE, takeAll, hne]
    apply CallB.q qB
    have hd : decide (0 < (l.length : Int)) = true := decide_eq_true (by omega)
    simp (maxSteps := 4000000) (disch := omega) only [go_sem, w64, AndB_of, IfB_of, IfB_no, pickE_of, pickE_no, ite_of, ite_no, tdivE, tmodE, takeAll, hd]
    apply CallB.q q_alive
    simp (maxSteps := 4000000) (disch := omega) only [go_sem, w64, AndB_of, IfB_of, IfB_no, pickE_of, pickE_no, ite_of, ite_no, tdivE, tmodE, takeAll]
  · have hne : vText v = ⟨#[]⟩ := by unfold vText; rw [if_neg hv]
    rw [decide_eq_false hv] at qO qS
    rw [if_neg hv] at qB
    rw [hne] at qT
    refine callQ_body mixed Tryd.func4 _ (by unfold Tryd.f4; rfl) Tryd.ntmps4 Tryd.results4 (by decide) (by simp) ?_
    simp (maxSteps := 4000000) (disch := omega) only [go_sem, w64, AndB_of, IfB_of, IfB_no, pickE_of, pickE_no, ite_of, ite_no, tdivE, tmodE, takeAll]
    refine IfB.dec (fun h => ?_) (fun h => ?_)
    · simp (maxSteps := 4000000) (disch := omega) only [go_sem, w64, AndB_of, IfB_of, IfB_no, pickE_of, pickE_no, ite_of, ite_no, tdivE, tmodE, takeAll]
    simp (maxSteps := 4000000) (disch := omega) only [go_sem, w64, AndB_of, IfB_of, IfB_no, pickE_of, pickE_no, ite_of, ite_no, tdivE, tmodE, takeAll]
    apply CallB.q hq
    simp (maxSteps := 4000000) (disch := omega) only [go_sem, w64, AndB_of, IfB_of, IfB_no, pickE_of, pickE_no, ite_of, ite_no, tdivE, tmodE, takeAll]
    apply CallB.q qO
    simp (maxSteps := 4000000) (disch := omega) only [go_sem, w64, AndB_of, IfB_of, IfB_no, pickE_of, pickE_no, ite_of, ite_no, tdivE, tmodE, takeAll]
    apply CallB.q qS
    simp (maxSteps := 4000000) (disch := omega) only [go_sem, w64, AndB_of, IfB_of, IfB_no, pickE_of, pickE_no, ite_of, ite_no, tdivE, tmodE, takeAll]
    apply CallB.q qT
    simp (maxSteps := 4000000) (disch := omega) only [go_sem, w64, AndB_of, IfB_of, IfB_no, pickE_of, pickE_no, ite_of, ite_no, tdivE, tmodE, takeAll]
    apply CallB.q qB
    simp (maxSteps := 4000000) (disch := omega) only [go_sem, w64, AndB_of, IfB_of, IfB_no, pickE_of, pickE_no, ite_of, ite_no, tdivE, tmodE, takeAll]
    apply CallB.q q_alive
    simp (maxSteps := 4000000) (disch := omega) only [go_sem, w64, AndB_of, IfB_of, IfB_no, pickE_of, pickE_no, ite_of, ite_no, tdivE, tmodE, takeAll]
end Go.TH
