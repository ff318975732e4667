/- TH: the law FnRowBytes. Made by gen.py. -/
import Derived.Test.YtfnflalnjigfkaaTf3
import Derived.Test.YtfnflalnjigfkaaTeby3
import Derived.Test.YtfnflalnjigfkaaTed5
import Derived.Test.YtfnflalnjigfkaaTen
namespace Go.TH
open Go Go.Proofs
set_option linter.unusedSimpArgs false
set_option linter.unusedVariables false
set_option maxHeartbeats 20000000
set_option maxRecDepth 100000
theorem Pict.mslBy {H : AH} {id ver n : Nat} {l : List UInt8} {rest : List AV} (h : H id = .live ver (bts l ++ rest)) (hn : n = l.length) : Pict H [.msl id ver 1 0 n] [.sl n false (bts l)] := by
  subst hn
  have := Pict.snap (H := H) 1 [.msl id ver 1 0 l.length]
  simp only [List.map, snapA_msl, h, snapM_live, if_true, List.drop_zero] at this
  rw [Nat.mul_one, List.take_left' (bts_len l), map_snap 0 H (bts_pure l)] at this
  exact this
theorem x_DrawRowBytes (s : ByteArray) : ∃ R, (∃ l : GRow, l.length ≤ 9 ∧ (∀ v ∈ l, PV v) ∧ R = rowA l) ∧ QCall Try.prog 21 [.sl s.size false (bytesCells s)] R := by
  refine qex_of (by simp [pureL, pureA, bytesCells_pure]) 1 ?_
  refine dcall_body mixed Try.func21 _ (by unfold Try.f21; rfl) Try.ntmps21 Try.results21 (by decide) (by simp) ?_
  simp (maxSteps := 4000000) (disch := omega) only [go_sem, w64, AndB_of, IfB_of, IfB_no, pickE_of, pickE_no, ite_of, ite_no, tdivE, tmodE, takeAll]
  apply CallB.law; (focus (apply d_open; (repeat (first | exact hH | exact upd_same _ _ _ | rw [upd_ne _ _ (by omega)])); all_goals omega)); rintro _ _ _ ⟨bs, hbs, rfl, rfl, rfl⟩
  simp (maxSteps := 4000000) (disch := omega) only [go_sem, w64, AndB_of, IfB_of, IfB_no, pickE_of, pickE_no, ite_of, ite_no, tdivE, tmodE, takeAll]
  apply CallB.law; (focus (apply d_any; omega; (repeat (first | exact hH | exact upd_same _ _ _ | rw [upd_ne _ _ (by omega)])); (first | exact fun i hi => hd i (by omega) | (intro i hi; repeat (first | exact hd i (by omega) | exact rfl | rw [upd_ne _ _ (by omega)]))); all_goals omega)); rintro _ _ _ ⟨row, q, hq0, hq1, hr1, hr2, rfl, rfl, rfl⟩
  simp (maxSteps := 4000000) (disch := omega) only [go_sem, w64, AndB_of, IfB_of, IfB_no, pickE_of, pickE_no, ite_of, ite_no, tdivE, tmodE, takeAll]
  exact ⟨_, by assumption, by assumption, rfl⟩
theorem w_RowBytes (s : ByteArray) (hs : s.size ≤ 9223372036854775807) : CallQ Try.prog 4 [.sl s.size false (bytesCells s)] noH 0 fun r _ _ => r = .bool true := by
  obtain ⟨_, ⟨l, hl, hv, rfl⟩, hq⟩ := x_DrawRowBytes s
  have hsz : ∀ v ∈ l, v.s.size ≤ 140737488355328 := fun v h => by have := (hv v h).1; omega
  have eI := QCall.own (by simp [pureL]) (f_RowBytesI l (by omega) hsz)
  have eS := q_RowBytesS l (by omega) hsz
  have eO := q_RowOkI l (by omega) (fun v h => by have := hsz v h; omega)
  have hlen := rowB_len l
  have hnil := rowB_nil (r := l)
  have hfr : rowOk l → rowFrom (rowB l ++ [1, 1, 9]) = (l, (rowB l).length) := fun h => rowFrom_rowB h _
  obtain ⟨b, hb⟩ : ∃ b, b = rowB l := ⟨_, rfl⟩
  rw [← hb] at eI eS hlen hnil hfr
  clear hb
  have e1 := q_sameRow l l (by omega)
  unfold bysA at eI eS
  refine callQ_body mixed Try.func4 _ (by unfold Try.f4; rfl) Try.ntmps4 Try.results4 (by decide) (by simp) ?_
  simp (maxSteps := 4000000) (disch := omega) only [go_sem, w64, AndB_of, IfB_of, IfB_no, pickE_of, pickE_no, ite_of, ite_no, tdivE, tmodE, takeAll]
  refine IfB.dec (fun h => ?_) (fun h => ?_)
  · simp (maxSteps := 4000000) (disch := omega) only [go_sem, w64, AndB_of, IfB_of, IfB_no, pickE_of, pickE_no, ite_of, ite_no, tdivE, tmodE, takeAll]
  simp (maxSteps := 4000000) (disch := omega) only [go_sem, w64, AndB_of, IfB_of, IfB_no, pickE_of, pickE_no, ite_of, ite_no, tdivE, tmodE, takeAll]
  apply CallB.q hq
  simp (maxSteps := 4000000) (disch := omega) only [go_sem, w64, AndB_of, IfB_of, IfB_no, pickE_of, pickE_no, ite_of, ite_no, tdivE, tmodE, takeAll]
  apply CallB.q eI
  simp (maxSteps := 4000000) (disch := omega) only [go_sem, w64, AndB_of, IfB_of, IfB_no, pickE_of, pickE_no, ite_of, ite_no, tdivE, tmodE, takeAll]
  refine DrawB.quiet (by kernel_rfl) ?_
  simp (maxSteps := 4000000) (disch := omega) only [go_sem, w64, AndB_of, IfB_of, IfB_no, pickE_of, pickE_no, ite_of, ite_no, tdivE, tmodE, takeAll]
  refine DCallB.q0 eS ?_
  simp (maxSteps := 4000000) (disch := omega) only [go_sem, w64, AndB_of, IfB_of, IfB_no, pickE_of, pickE_no, ite_of, ite_no, tdivE, tmodE, takeAll]
  by_cases c : b = []
  · subst c
    rw [decide_eq_false (hnil.1 rfl)] at eO
    simp (maxSteps := 4000000) (disch := omega) only [go_sem, w64, AndB_of, IfB_of, IfB_no, pickE_of, pickE_no, ite_of, ite_no, tdivE, tmodE, takeAll]
    apply CallB.q eO
    simp (maxSteps := 4000000) (disch := omega) only [go_sem, w64, AndB_of, IfB_of, IfB_no, pickE_of, pickE_no, ite_of, ite_no, tdivE, tmodE, takeAll]
    apply CallB.q q_alive
    simp (maxSteps := 4000000) (disch := omega) only [go_sem, w64, AndB_of, IfB_of, IfB_no, pickE_of, pickE_no, ite_of, ite_no, tdivE, tmodE, takeAll]
  · have c2 : b.length ≠ 0 := fun e => c (List.eq_nil_of_length_eq_zero e)
    have hok : rowOk l := Classical.byContradiction fun e => c (hnil.2 e)
    have eF := f_RowFromI (b ++ [1, 1, 9] : List UInt8) (by simp; omega)
    rw [hfr hok] at eF
    unfold bysA at eF
    have hl3 : (b ++ [1, 1, 9] : List UInt8).length = b.length + 3 := by simp
    rw [hl3] at eF
    simp (maxSteps := 4000000) (disch := omega) only [go_sem, w64, AndB_of, IfB_of, IfB_no, pickE_of, pickE_no, ite_of, ite_no, tdivE, tmodE, takeAll]
    refine CallB.fresh (Pict.mslBy (l := b ++ [1, 1, 9]) (rest := []) (by rw [List.append_nil, upd_same, bts_app]; rfl) (by simp)) eF fun ra H2 n2 hO hn hH => ?_
    obtain ⟨rx, rfl, hx⟩ := hO.tup2 rfl
    simp (maxSteps := 4000000) (disch := omega) only [go_sem, w64, AndB_of, IfB_of, IfB_no, pickE_of, pickE_no, ite_of, ite_no, tdivE, tmodE, takeAll]
    refine CallB.pic (r := .bool (decide (l = l))) (Pict.cons hx.pict (Pict.cons (Pict.pure (by simp)) Pict.nil)) e1 rfl ?_
    simp (maxSteps := 4000000) (disch := omega) only [go_sem, w64, AndB_of, IfB_of, IfB_no, pickE_of, pickE_no, ite_of, ite_no, tdivE, tmodE, takeAll]
end Go.TH
