/- TH: the law FnRowFrom. Made by gen.py. -/
import Derived.Test.YtfnflalnjigfkaaTf3
import Derived.Test.YtfnflalnjigfkaaTeby4
import Derived.Test.YtfnflalnjigfkaaTelby
namespace Go.TH
open Go Go.Proofs
set_option linter.unusedSimpArgs false
set_option linter.unusedVariables false
set_option maxHeartbeats 20000000
set_option maxRecDepth 100000
theorem w_RowFrom (s : ByteArray) (hs : s.size ≤ 9223372036854775807) : CallQ Try.prog 8 [.sl s.size false (bytesCells s)] noH 0 fun r _ _ => r = .bool true := by
  obtain ⟨_, ⟨b, hb, rfl⟩, hq⟩ := x_DrawRowFrom s
  have eI := QCall.own (by simp [pureL]) (f_RowFromI b (by omega))
  have eS := q_RowFromS b (by omega)
  have hlen := rowFrom_len (b := b)
  have hpos := rowFrom_pos (b := b)
  have hless := rowFrom_less (b := b)
  have hok : (rowFrom b).2 ≠ 0 → ∀ v ∈ (rowFrom b).1, v.s.size ≤ 140737488355328 := fun h v hv => by have := okN ((hpos h).1.2 v hv); omega
  obtain ⟨w, hw⟩ : ∃ w, w = rowFrom b := ⟨_, rfl⟩
  rw [← hw] at eI eS hlen hpos hless hok
  clear hw
  obtain ⟨row, n⟩ := w
  simp only at eI eS hlen hpos hless hok
  have e1 := q_sameRow row row (by omega)
  unfold bysA at hq eI eS
  refine callQ_body mixed Try.func8 _ (by unfold Try.f8; rfl) Try.ntmps8 Try.results8 (by decide) (by simp) ?_
  simp (maxSteps := 4000000) (disch := omega) only [go_sem, w64, AndB_of, IfB_of, IfB_no, pickE_of, pickE_no, ite_of, ite_no, tdivE, tmodE, takeAll]
  refine IfB.dec (fun h => ?_) (fun h => ?_)
  · simp (maxSteps := 4000000) (disch := omega) only [go_sem, w64, AndB_of, IfB_of, IfB_no, pickE_of, pickE_no, ite_of, ite_no, tdivE, tmodE, takeAll]
  simp (maxSteps := 4000000) (disch := omega) only [go_sem, w64, AndB_of, IfB_of, IfB_no, pickE_of, pickE_no, ite_of, ite_no, tdivE, tmodE, takeAll]
  apply CallB.q hq
  simp (maxSteps := 4000000) (disch := omega) only [go_sem, w64, AndB_of, IfB_of, IfB_no, pickE_of, pickE_no, ite_of, ite_no, tdivE, tmodE, takeAll]
  apply CallB.q eI
  simp (maxSteps := 4000000) (disch := omega) only [go_sem, w64, AndB_of, IfB_of, IfB_no, pickE_of, pickE_no, ite_of, ite_no, tdivE, tmodE, takeAll]
  apply CallB.q eS
  simp (maxSteps := 4000000) (disch := omega) only [go_sem, w64, AndB_of, IfB_of, IfB_no, pickE_of, pickE_no, ite_of, ite_no, tdivE, tmodE, takeAll]
  apply CallB.q e1
  simp (maxSteps := 4000000) (disch := omega) only [go_sem, w64, AndB_of, IfB_of, IfB_no, pickE_of, pickE_no, ite_of, ite_no, tdivE, tmodE, takeAll]
  refine IfB.dec (fun c => ?_) (fun c => ?_)
  · simp (maxSteps := 4000000) (disch := omega) only [go_sem, w64, AndB_of, IfB_of, IfB_no, pickE_of, pickE_no, ite_of, ite_no, tdivE, tmodE, takeAll]
    apply CallB.q q_alive
    simp (maxSteps := 4000000) (disch := omega) only [go_sem, w64, AndB_of, IfB_of, IfB_no, pickE_of, pickE_no, ite_of, ite_no, tdivE, tmodE, takeAll]
  · have hn : n ≠ 0 := by omega
    obtain ⟨p1, p2, p3⟩ := hpos hn
    have pl := hless hn
    have eR := QCall.own (by simp [pureL]) (f_RowBytesI row (by omega) (hok hn))
    rw [p2] at eR
    have e0 : ((n : Int) - 1 - 0).toNat = n - 1 := by omega
    have htl : (List.take (n - 1) b).length = n - 1 := by rw [List.length_take]; omega
    have htn : (List.take n b).length = n := by rw [List.length_take]; omega
    have eF := f_RowFromI (b.take (n - 1)) (by omega)
    rw [pl] at eF
    unfold bysA at eF eR
    rw [htl] at eF
    rw [htn] at eR
    simp (maxSteps := 4000000) (disch := omega) only [go_sem, w64, AndB_of, IfB_of, IfB_no, pickE_of, pickE_no, ite_of, ite_no, tdivE, tmodE, takeAll, e0, htl]
    refine CallB.fresh (Pict.mslBy (l := b.take (n - 1)) (rest := []) (by rw [List.append_nil, upd_same]) htl.symm) eF fun ra H2 n2 hO hn hH => ?_
    obtain ⟨rx, rfl, hx⟩ := hO.tup2 rfl
    simp (maxSteps := 4000000) (disch := omega) only [go_sem, w64, AndB_of, IfB_of, IfB_no, pickE_of, pickE_no, ite_of, ite_no, tdivE, tmodE, takeAll]
    refine DrawB.quiet (by kernel_rfl) ?_
    simp (maxSteps := 4000000) (disch := omega) only [go_sem, w64, AndB_of, IfB_of, IfB_no, pickE_of, pickE_no, ite_of, ite_no, tdivE, tmodE, takeAll]
    refine DCallB.q0 eR ?_
    have e9 : ((n : Int) - 0).toNat = n := by omega
    simp (maxSteps := 4000000) (disch := omega) only [go_sem, w64, AndB_of, IfB_of, IfB_no, pickE_of, pickE_no, ite_of, ite_no, tdivE, tmodE, takeAll, e9]
end Go.TH
