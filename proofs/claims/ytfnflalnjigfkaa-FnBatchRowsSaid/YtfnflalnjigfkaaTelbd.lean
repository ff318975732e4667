/- TH: the law FnBatchRows. Made by gen.py. -/
import Derived.Test.YtfnflalnjigfkaaTf3
import Derived.Test.YtfnflalnjigfkaaTedbt2
import Derived.Test.YtfnflalnjigfkaaTebt
import Derived.Test.YtfnflalnjigfkaaTen2
namespace Go.TH
open Go Go.Proofs
set_option linter.unusedSimpArgs false
set_option linter.unusedVariables false
set_option maxHeartbeats 20000000
set_option maxRecDepth 100000
theorem BtS.of {b : GBt} (h1 : b.cols.length ≤ 12) (h2 : b.picked.length ≤ 9) (h3 : ∀ c ∈ b.cols, c.length ≤ 9 ∧ ∀ v ∈ c, PVx v) : BtS b :=
  ⟨by omega, by omega, fun c hc => ⟨by have := (h3 c hc).1; omega, fun x hx => by have : x.s.size ≤ 20 := (h3 c hc).2 x hx; omega⟩⟩
theorem bRow_small {b : GBt} (h1 : b.cols.length ≤ 12) (h3 : ∀ c ∈ b.cols, c.length ≤ 9 ∧ ∀ v ∈ c, PVx v) (n : Nat) : smallR (bRow b n) := by
  refine ⟨by rw [bRow_len]; omega, fun v hv => ?_⟩
  unfold bRow at hv
  obtain ⟨c, hc, rfl⟩ := List.mem_map.1 hv
  by_cases e : n < c.length
  · have : (c.getD n zV) = c[n] := by simp [List.getD, e]
    rw [this]
    have : (c[n]).s.size ≤ 20 := (h3 c hc).2 _ (List.getElem_mem e)
    omega
  · have : (c.getD n zV) = zV := by simp [List.getD, e]
    rw [this]
    exact Nat.zero_le _
theorem bRowsK_step (b : GBt) {k : Nat} (hk : k < b.picked.length) : (bRowsK b (k + 1)).length = (bRowsK b k).length + if b.picked[k] = true then 1 else 0 := by
  rw [bRowsK, List.length_append]
  have e : b.picked.getD k false = b.picked[k] := by simp [List.getD, hk]
  rw [e]
  split <;> simp_all
theorem w_BatchRows (s : ByteArray) (hs : s.size ≤ 9223372036854775807) : CallQ Try.prog 6 [.sl s.size false (bytesCells s)] noH 0 fun r _ _ => r = .bool true := by
  obtain ⟨_, ⟨b, h1, h2, h3, rfl⟩, hq⟩ := x_DrawBatchRows s
  have hb := BtS.of h1 h2 h3
  have eS := q_BatchRowsS b hb
  have eI := QCall.own (by simp [pureL, pureA]) (f_BatchRowsI b hb)
  have eK := q_BatchOkI b hb
  have hsm : ∀ r ∈ bRows b, smallR r := fun r hr => by
    unfold bRows at hr
    split at hr
    · exact bRowsK_all (P := smallR) (bRow_small h1 h3) r hr
    · simp at hr
  have hln : (bRows b).length ≤ 9 := by
    unfold bRows
    split
    · exact Nat.le_trans (bRowsK_len b _) h2
    · simp
  have e2 := q_sameRows (bRows b) (bRows b) (by omega) hsm
  refine callQ_body mixed Try.func6 _ (by unfold Try.f6; rfl) Try.ntmps6 Try.results6 (by decide) (by simp) ?_
  simp (maxSteps := 4000000) (disch := omega) only [go_sem, w64, AndB_of, IfB_of, IfB_no, pickE_of, pickE_no, ite_of, ite_no, tdivE, tmodE, takeAll]
  refine IfB.dec (fun h => ?_) (fun h => ?_)
  · simp (maxSteps := 4000000) (disch := omega) only [go_sem, w64, AndB_of, IfB_of, IfB_no, pickE_of, pickE_no, ite_of, ite_no, tdivE, tmodE, takeAll]
  simp (maxSteps := 4000000) (disch := omega) only [go_sem, w64, AndB_of, IfB_of, IfB_no, pickE_of, pickE_no, ite_of, ite_no, tdivE, tmodE, takeAll]
  apply CallB.q hq
  simp (maxSteps := 4000000) (disch := omega) only [go_sem, w64, AndB_of, IfB_of, IfB_no, pickE_of, pickE_no, ite_of, ite_no, tdivE, tmodE, takeAll]
  apply CallB.q eI
  simp (maxSteps := 4000000) (disch := omega) only [go_sem, w64, AndB_of, IfB_of, IfB_no, pickE_of, pickE_no, ite_of, ite_no, tdivE, tmodE, takeAll]
  apply CallB.q eS
  simp (maxSteps := 4000000) (disch := omega) only [go_sem, w64, AndB_of, IfB_of, IfB_no, pickE_of, pickE_no, ite_of, ite_no, tdivE, tmodE, takeAll]
  apply CallB.q e2
  simp (maxSteps := 4000000) (disch := omega) only [go_sem, w64, AndB_of, IfB_of, IfB_no, pickE_of, pickE_no, ite_of, ite_no, tdivE, tmodE, takeAll]
  apply CallB.q eK
  simp (maxSteps := 4000000) (disch := omega) only [go_sem, w64, AndB_of, IfB_of, IfB_no, pickE_of, pickE_no, ite_of, ite_no, tdivE, tmodE, takeAll]
  refine IfB.dec (fun hok => ?_) (fun hok => ?_)
  · have er : bRows b = bRowsK b b.picked.length := by unfold bRows; rw [if_pos hok]
    have hrl : ∀ r ∈ bRowsK b b.picked.length, r.length = b.cols.length := fun r hr => bRowsK_all (P := fun r => r.length = b.cols.length) (fun n => bRow_len) r hr
    rw [er] at hln ⊢
    simp (maxSteps := 4000000) (disch := omega) only [go_sem, w64, AndB_of, IfB_of, IfB_no, pickE_of, pickE_no, ite_of, ite_no, tdivE, tmodE, takeAll]
    refine LoopB.auto (fun zs => ((intOf (slotOf zs 6)).toNat, (intOf (slotOf zs 5)).toNat)) (fun zz => [(3, none), (0, none), (0, some (.int .i64 (zz.2 : Int))), (0, some (.int .i64 (zz.1 : Int)))]) (fun zz => upd noH 0 (.live 0 [rowsA b.cols, boolsA b.picked])) (fun zz => 1) (fun zz => b.picked.length - zz.1) (fun zz => zz.1 ≤ b.picked.length ∧ zz.2 = (bRowsK b zz.1).length) (by (first | simp (maxSteps := 4000000) (disch := omega) only [go_sem, w64, AndB_of, IfB_of, IfB_no, pickE_of, pickE_no, ite_of, ite_no, tdivE, tmodE, takeAll, hH] | simp (maxSteps := 4000000) (disch := omega) only [go_sem, w64, AndB_of, IfB_of, IfB_no, pickE_of, pickE_no, ite_of, ite_no, tdivE, tmodE, takeAll]); ((repeat' apply And.intro) <;> first | (exact Weak.go (by (first | (simp [wkL]; done) | (simp [wkL]; omega))) (fun zi => by first | exact .inl rfl | exact .inr rfl | (simp only [upd]; repeat' split) <;> first | exact .inl rfl | exact .inr rfl | (exfalso; omega) | exact .inr (hd _ (by omega)) | (left; subst_vars; exact hH.symm) | (left; subst_vars; rfl) | (left; simp; done) | (left; simp; omega)) (by omega)) | omega | rfl | assumption | exact Flat.nil | exact ⟨_, rfl, rfl, by assumption⟩ | (simp; done) | (simp; omega))) ?_
    intro zz zh
    obtain ⟨k, n⟩ := zz
    dsimp only at zh
    obtain ⟨hk, hn⟩ := zh
    simp (maxSteps := 4000000) (disch := omega) only [go_sem, w64, AndB_of, IfB_of, IfB_no, pickE_of, pickE_no, ite_of, ite_no, tdivE, tmodE, takeAll]
    have hkn := bRowsK_len b k
    unfold boolsA
    refine IfB.dec (fun c1 => ?_) (fun c1 => ?_)
    · have c1' : k < b.picked.length := by omega
      have hst := bRowsK_step b c1'
      simp (maxSteps := 4000000) (disch := omega) only [go_sem, w64, AndB_of, IfB_of, IfB_no, pickE_of, pickE_no, ite_of, ite_no, tdivE, tmodE, takeAll]
      refine IfB.split (fun c2 => ?_) (fun c2 => ?_)
      · rw [if_pos c2] at hst
        simp (maxSteps := 4000000) (disch := omega) only [go_sem, w64, AndB_of, IfB_of, IfB_no, pickE_of, pickE_no, ite_of, ite_no, tdivE, tmodE, takeAll]
        ((repeat' apply And.intro) <;> first | (exact Weak.go (by (first | (simp [wkL]; done) | (simp [wkL]; omega))) (fun zi => by first | exact .inl rfl | exact .inr rfl | (simp only [upd]; repeat' split) <;> first | exact .inl rfl | exact .inr rfl | (exfalso; omega) | exact .inr (hd _ (by omega)) | (left; subst_vars; exact hH.symm) | (left; subst_vars; rfl) | (left; simp; done) | (left; simp; omega)) (by omega)) | omega | rfl | assumption | exact Flat.nil | exact ⟨_, rfl, rfl, by assumption⟩ | (simp; done) | (simp; omega))
      · rw [if_neg (by rw [c2]; simp)] at hst
        simp (maxSteps := 4000000) (disch := omega) only [go_sem, w64, AndB_of, IfB_of, IfB_no, pickE_of, pickE_no, ite_of, ite_no, tdivE, tmodE, takeAll]
        ((repeat' apply And.intro) <;> first | (exact Weak.go (by (first | (simp [wkL]; done) | (simp [wkL]; omega))) (fun zi => by first | exact .inl rfl | exact .inr rfl | (simp only [upd]; repeat' split) <;> first | exact .inl rfl | exact .inr rfl | (exfalso; omega) | exact .inr (hd _ (by omega)) | (left; subst_vars; exact hH.symm) | (left; subst_vars; rfl) | (left; simp; done) | (left; simp; omega)) (by omega)) | omega | rfl | assumption | exact Flat.nil | exact ⟨_, rfl, rfl, by assumption⟩ | (simp; done) | (simp; omega))
    · obtain rfl : k = b.picked.length := by omega
      generalize bRowsK b b.picked.length = w at *
      subst hn
      simp (maxSteps := 4000000) (disch := omega) only [go_sem, w64, AndB_of, IfB_of, IfB_no, pickE_of, pickE_no, ite_of, ite_no, tdivE, tmodE, takeAll]
      refine DrawB.quiet (by kernel_rfl) ?_
      unfold rowsA
      simp (maxSteps := 4000000) (disch := omega) only [go_sem, w64, AndB_of, IfB_of, IfB_no, pickE_of, pickE_no, ite_of, ite_no, tdivE, tmodE, takeAll]
      by_cases h0 : w.length = 0
      · obtain rfl : w = [] := List.eq_nil_of_length_eq_zero h0
        simp (maxSteps := 4000000) (disch := omega) only [go_sem, w64, AndB_of, IfB_of, IfB_no, pickE_of, pickE_no, ite_of, ite_no, tdivE, tmodE, takeAll]
        refine DCallB.q0 q_alive ?_
        simp (maxSteps := 4000000) (disch := omega) only [go_sem, w64, AndB_of, IfB_of, IfB_no, pickE_of, pickE_no, ite_of, ite_no, tdivE, tmodE, takeAll]
      · have h0' : 0 < w.length := by omega
        have hl0 := hrl _ (List.getElem_mem h0')
        simp (maxSteps := 4000000) (disch := omega) only [go_sem, w64, AndB_of, IfB_of, IfB_no, pickE_of, pickE_no, ite_of, ite_no, tdivE, tmodE, takeAll]
        refine DCallB.q0 q_alive ?_
        simp (maxSteps := 4000000) (disch := omega) only [go_sem, w64, AndB_of, IfB_of, IfB_no, pickE_of, pickE_no, ite_of, ite_no, tdivE, tmodE, takeAll]
  · have e0 : bRows b = [] := by unfold bRows; rw [if_neg hok]
    rw [e0]
    simp (maxSteps := 4000000) (disch := omega) only [go_sem, w64, AndB_of, IfB_of, IfB_no, pickE_of, pickE_no, ite_of, ite_no, tdivE, tmodE, takeAll]
    repeat' (first | (refine IfB.dec2 (fun h hd => ?_) (fun h hd => ?_) <;> (try (have h2 := h; unfold inR at h2)) <;> (try simp (maxSteps := 4000000) (disch := omega) only [go_sem, w64, AndB_of, IfB_of, IfB_no, pickE_of, pickE_no, ite_of, ite_no, tdivE, tmodE, takeAll, hd])) | (refine IfB.split (fun h => ?_) (fun h => ?_) <;> (try simp (maxSteps := 4000000) (disch := omega) only [go_sem, w64, AndB_of, IfB_of, IfB_no, pickE_of, pickE_no, ite_of, ite_no, tdivE, tmodE, takeAll, h])) | (refine DrawB.quiet (by kernel_rfl) ?_; simp (maxSteps := 4000000) (disch := omega) only [go_sem, w64, AndB_of, IfB_of, IfB_no, pickE_of, pickE_no, ite_of, ite_no, tdivE, tmodE, takeAll]) | (apply CallB.q (q_alive); simp (maxSteps := 4000000) (disch := omega) only [go_sem, w64, AndB_of, IfB_of, IfB_no, pickE_of, pickE_no, ite_of, ite_no, tdivE, tmodE, takeAll]) | (apply DCallB.q0 (q_alive); simp (maxSteps := 4000000) (disch := omega) only [go_sem, w64, AndB_of, IfB_of, IfB_no, pickE_of, pickE_no, ite_of, ite_no, tdivE, tmodE, takeAll]))
end Go.TH
