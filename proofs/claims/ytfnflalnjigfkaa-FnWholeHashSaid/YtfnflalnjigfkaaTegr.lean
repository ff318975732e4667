/- TH: slices.Grow of nothing. Made by gen.py. -/
import Derived.Test.YtfnflalnjigfkaaTf3
import Derived.Test.YtfnflalnjigfkaaTerl2
import Derived.Test.YtfnflalnjigfkaaTf4
import Derived.Shelf.Spec.SlicesGrow
namespace Go.TH
open Go Go.Proofs Go.RowKit Go.Lib
set_option linter.unusedSimpArgs false
set_option linter.unusedVariables false
set_option maxHeartbeats 20000000
set_option maxRecDepth 100000
def growRen : Go.Shelf.Ren := ⟨fun x => if x = 4 then 161 else x, fun x => if x = 22 then 24 else if x = 25 then 31 else x, fun x => x⟩
theorem growL : Lays8.n4 Try.prog growRen where
  mixed := rfl
  f4 := ⟨Try.f161.name, by decide, Try.func161.trans (congrArg some (by kernel_rfl))⟩
  t0 := Try.underlying0
  a0 := Try.isAgg0
  z0 := Try.sizeOf0
  v0 := Try.zeroValue0
  t3 := Try.underlying3
  a3 := Try.isAgg3
  z3 := Try.sizeOf3
  v3 := Try.zeroValue3
  t4 := Try.underlying4
  a4 := Try.isAgg4
  z4 := Try.sizeOf4
  v4 := Try.zeroValue4
  t9 := Try.underlying9
  a9 := Try.isAgg9
  z9 := Try.sizeOf9
  v9 := Try.zeroValue9
  t20 := Try.underlying20
  a20 := Try.isAgg20
  z20 := Try.sizeOf20
  v20 := Try.zeroValue20
  t22 := Try.underlying24
  a22 := Try.isAgg24
  z22 := Try.sizeOf24
  v22 := Try.zeroValue24
theorem c_GrowR {H : AH} {nx : Nat} (n : Nat) (h0 : 0 < n) (h1 : n ≤ 1000000) : CallC Try.prog 161 [.sl 0 true [], .int .i64 n] H nx (.msl nx 0 1 0 0) (upd H nx (.live 0 [])) (nx + 1) := by
  refine ⟨⟨_, Try.func161, by decide, rfl⟩, fun base κ vs hi hr => ?_⟩
  obtain ⟨v1, vs1, rfl, r1, hr1⟩ := hr.uncons
  obtain ⟨v2, vs2, rfl, r2, hr2⟩ := hr1.uncons
  obtain rfl : vs2 = [] := List.eq_nil_of_length_eq_zero hr2.1
  obtain ⟨A, c, rfl, hn, htt, hcl⟩ := r1.sl_inv
  obtain rfl : c = 0 := htt rfl
  cases r2
  have i0 : ∃ i z, Try.prog.info? 31 = some i ∧ i.zero = some z ∧ i.size = 1 ∧ i.bytes = 24 ∧ z.cells.size = 1 := by
    refine ⟨_, _, rfl, rfl, rfl, rfl, rfl⟩
  obtain ⟨i, z, g1, g2, g3, g4, g5⟩ := i0
  have hG := Any8.slices_Grow_grow growL i z g1 g2 (by omega) A 0 0 n [] κ.W (Nat.le_refl _) (by omega) (by rw [g4]; omega) (by omega) (by simp) (fun _ => rfl) (fun a ha j v hv => by simp at hv)
  refine hG.mono ?_
  rintro e W' ⟨rfl, rfl⟩
  obtain ⟨κ', k1, k2, k3, k4⟩ := grow_room hi (([] : List Value).toArray ++ Builtin.zeroCells z.cells (0 + n - 0) ++ Builtin.zeroCells z.cells (grownCap κ.W (0 + n) 0 31 - (0 + n))).toList 31 1 (grownCap κ.W (0 + n) 0 31) (by
    have := grownCap_ge κ.W (0 + n) 0 31
    rw [Nat.zero_add] at this
    simp only [Array.length_toList, Array.size_append, size_zeroCells, g5]
    simp
    omega)
  exact ⟨_, κ', rfl, k1, k2, k3, k4⟩
theorem c_GrowR0 {H : AH} {nx : Nat} : CallC Try.prog 161 [.sl 0 true [], .int .i64 0] H nx (.sl 0 true []) H nx := by
  refine ⟨⟨_, Try.func161, by decide, rfl⟩, fun base κ vs hi hr => ?_⟩
  obtain ⟨v1, vs1, rfl, r1, hr1⟩ := hr.uncons
  obtain ⟨v2, vs2, rfl, r2, hr2⟩ := hr1.uncons
  obtain rfl : vs2 = [] := List.eq_nil_of_length_eq_zero hr2.1
  have r1' := r1
  obtain ⟨A, c, rfl, hn, htt, hcl⟩ := r1.sl_inv
  obtain rfl : c = 0 := htt rfl
  cases r2
  have hG := Any8.slices_Grow_room growL A 0 0 0 κ.W (Nat.le_refl _) (by omega) (by omega) (by omega)
  refine hG.mono ?_
  rintro e W' ⟨rfl, rfl⟩
  exact ⟨_, κ, rfl, rfl, r1', Ext.refl base κ, hi⟩
theorem d_ConcatR (a b : List GRow) (h0 : 0 < a.length + b.length) (h1 : a.length ≤ 1000) (h2 : b.length ≤ 1000) {H : AH} {nx id ver : Nat} (hid : id < nx) (hH : H id = .live ver [rowsA a, rowsA b]) : ACallD Try.prog 124 [.msl id ver 1 0 2] H nx (fun r H' nx' => ∃ v, r = .msl nx v 1 0 (a.length + b.length) ∧ H' = upd H nx (.live v (flat cR (a ++ b))) ∧ nx' = nx + 1) := by
  have e : (0 + (a.length : Int) + b.length) = ((a.length + b.length : Nat) : Int) := by omega
  unfold rowsA at hH
  refine dcall_body mixed Try.func124 _ (by unfold Try.f124; rfl) Try.ntmps124 Try.results124 (by decide) (by simp) ?_
  simp (maxSteps := 4000000) (disch := omega) only [go_sem, w64, AndB_of, IfB_of, IfB_no, pickE_of, pickE_no, ite_of, ite_no, tdivE, tmodE, takeAll, hH]
  refine LoopB.unroll ?_
  simp (maxSteps := 4000000) (disch := omega) only [go_sem, w64, AndB_of, IfB_of, IfB_no, pickE_of, pickE_no, ite_of, ite_no, tdivE, tmodE, takeAll, hH]
  refine LoopB.unroll ?_
  simp (maxSteps := 4000000) (disch := omega) only [go_sem, w64, AndB_of, IfB_of, IfB_no, pickE_of, pickE_no, ite_of, ite_no, tdivE, tmodE, takeAll, hH]
  refine LoopB.unroll ?_
  simp (maxSteps := 4000000) (disch := omega) only [go_sem, w64, AndB_of, IfB_of, IfB_no, pickE_of, pickE_no, ite_of, ite_no, tdivE, tmodE, takeAll, hH, e]
  refine CallB.of (c_GrowR (a.length + b.length) h0 (by omega)) ?_
  simp (maxSteps := 4000000) (disch := omega) only [go_sem, w64, AndB_of, IfB_of, IfB_no, pickE_of, pickE_no, ite_of, ite_no, tdivE, tmodE, takeAll, hH]
  refine LoopB.unroll ?_
  simp (maxSteps := 4000000) (disch := omega) only [go_sem, w64, AndB_of, IfB_of, IfB_no, pickE_of, pickE_no, ite_of, ite_no, tdivE, tmodE, takeAll, hH]
  refine LoopB.unroll ?_
  simp (maxSteps := 4000000) (disch := omega) only [go_sem, w64, AndB_of, IfB_of, IfB_no, pickE_of, pickE_no, ite_of, ite_no, tdivE, tmodE, takeAll, hH]
  refine LoopB.unroll ?_
  simp (maxSteps := 4000000) (disch := omega) only [go_sem, w64, AndB_of, IfB_of, IfB_no, pickE_of, pickE_no, ite_of, ite_no, tdivE, tmodE, takeAll, hH]
  exact ⟨2, rfl, by rw [flat_append]⟩
theorem d_ConcatR0 {H : AH} {nx id ver : Nat} (hid : id < nx) (hH : H id = .live ver [rowsA [], rowsA []]) : ACallD Try.prog 124 [.msl id ver 1 0 2] H nx (fun r H' nx' => r = .sl 0 true [] ∧ H' = H ∧ nx' = nx) := by
  refine dcall_body mixed Try.func124 _ (by unfold Try.f124; rfl) Try.ntmps124 Try.results124 (by decide) (by simp) ?_
  unfold rowsA at hH
  simp (maxSteps := 4000000) (disch := omega) only [go_sem, w64, AndB_of, IfB_of, IfB_no, pickE_of, pickE_no, ite_of, ite_no, tdivE, tmodE, takeAll, hH, List.length_nil, flat_nil]
  refine LoopB.unroll ?_
  simp (maxSteps := 4000000) (disch := omega) only [go_sem, w64, AndB_of, IfB_of, IfB_no, pickE_of, pickE_no, ite_of, ite_no, tdivE, tmodE, takeAll, hH, List.length_nil, flat_nil]
  refine LoopB.unroll ?_
  simp (maxSteps := 4000000) (disch := omega) only [go_sem, w64, AndB_of, IfB_of, IfB_no, pickE_of, pickE_no, ite_of, ite_no, tdivE, tmodE, takeAll, hH, List.length_nil, flat_nil]
  refine LoopB.unroll ?_
  simp (maxSteps := 4000000) (disch := omega) only [go_sem, w64, AndB_of, IfB_of, IfB_no, pickE_of, pickE_no, ite_of, ite_no, tdivE, tmodE, takeAll, hH, List.length_nil, flat_nil]
  refine CallB.of c_GrowR0 ?_
  simp (maxSteps := 4000000) (disch := omega) only [go_sem, w64, AndB_of, IfB_of, IfB_no, pickE_of, pickE_no, ite_of, ite_no, tdivE, tmodE, takeAll, hH, List.length_nil, flat_nil]
  refine LoopB.unroll ?_
  simp (maxSteps := 4000000) (disch := omega) only [go_sem, w64, AndB_of, IfB_of, IfB_no, pickE_of, pickE_no, ite_of, ite_no, tdivE, tmodE, takeAll, hH, List.length_nil, flat_nil]
  refine LoopB.unroll ?_
  simp (maxSteps := 4000000) (disch := omega) only [go_sem, w64, AndB_of, IfB_of, IfB_no, pickE_of, pickE_no, ite_of, ite_no, tdivE, tmodE, takeAll, hH, List.length_nil, flat_nil]
  refine LoopB.unroll ?_
  simp (maxSteps := 4000000) (disch := omega) only [go_sem, w64, AndB_of, IfB_of, IfB_no, pickE_of, pickE_no, ite_of, ite_no, tdivE, tmodE, takeAll, hH, List.length_nil, flat_nil]
theorem q_SameBag (a b : List GRow) (h1 : a.length ≤ 1000) (h2 : b.length ≤ 1000) (hsa : ∀ x ∈ a, smallR x) (hsb : ∀ x ∈ b, smallR x) : QCall Try.prog 54 [rowsA a, rowsA b] (.bool (decide (∀ r ∈ a ++ b, cntR r a = cntR r b))) := by
  have hl : (a ++ b).length = a.length + b.length := by simp
  refine qcall_body mixed Try.func54 _ (by unfold Try.f54; rfl) Try.ntmps54 Try.results54 (by decide) 0 (by simp) (by simp [pureL, pureA]) ?_
  simp (maxSteps := 4000000) (disch := omega) only [go_sem, w64, AndB_of, IfB_of, IfB_no, pickE_of, pickE_no, ite_of, ite_no, tdivE, tmodE, takeAll]
  by_cases h0 : 0 < a.length + b.length
  case neg =>
    obtain rfl : a = [] := List.eq_nil_of_length_eq_zero (by omega)
    obtain rfl : b = [] := List.eq_nil_of_length_eq_zero (by simp at h0; exact List.length_eq_zero_iff.2 h0)
    refine CallB.law (d_ConcatR0 (by omega) (upd_same _ _ _)) ?_
    rintro _ _ _ ⟨rfl, rfl, rfl⟩
    simp (maxSteps := 4000000) (disch := omega) only [go_sem, w64, AndB_of, IfB_of, IfB_no, pickE_of, pickE_no, ite_of, ite_no, tdivE, tmodE, takeAll]
    refine LoopB.unroll ?_
    simp (maxSteps := 4000000) (disch := omega) only [go_sem, w64, AndB_of, IfB_of, IfB_no, pickE_of, pickE_no, ite_of, ite_no, tdivE, tmodE, takeAll]
    simp
  refine CallB.law (d_ConcatR a b h0 h1 h2 (by omega) (upd_same _ _ _)) ?_
  rintro _ _ _ ⟨v, rfl, rfl, rfl⟩
  simp (maxSteps := 4000000) (disch := omega) only [go_sem, w64, AndB_of, IfB_of, IfB_no, pickE_of, pickE_no, ite_of, ite_no, tdivE, tmodE, takeAll]
  refine LoopB.auto (fun zs => (nxOf zs, (intOf (slotOf zs 12)).toNat)) (fun zz => [(0, none), (0, none), (8, none), (0, none), (0, some (.int .i64 (zz.2 : Int)))]) (fun zz => upd (upd noH 0 (.live 0 [rowsA a, rowsA b])) 1 (.live v (flat cR (a ++ b)))) (fun zz => zz.1) (fun zz => (a ++ b).length - zz.2) (fun zz => zz.2 ≤ (a ++ b).length ∧ ∀ r ∈ (a ++ b).take zz.2, cntR r a = cntR r b) (by (first | simp (maxSteps := 4000000) (disch := omega) only [go_sem, w64, AndB_of, IfB_of, IfB_no, pickE_of, pickE_no, ite_of, ite_no, tdivE, tmodE, takeAll, hH] | simp (maxSteps := 4000000) (disch := omega) only [go_sem, w64, AndB_of, IfB_of, IfB_no, pickE_of, pickE_no, ite_of, ite_no, tdivE, tmodE, takeAll]); ((repeat' apply And.intro) <;> first | (exact Weak.go (by (first | (simp [wkL]; done) | (simp [wkL]; omega))) (fun zi => by first | exact .inl rfl | exact .inr rfl | (simp only [upd]; repeat' split) <;> first | exact .inl rfl | exact .inr rfl | (exfalso; omega) | exact .inr (hd _ (by omega)) | (left; subst_vars; exact hH.symm) | (left; subst_vars; rfl) | (left; simp; done) | (left; simp; omega)) (by omega)) | omega | rfl | assumption | exact Flat.nil | exact ⟨_, rfl, rfl, by assumption⟩ | (simp; done) | (simp; omega))) ?_
  intro zz zh
  obtain ⟨x, k⟩ := zz
  dsimp only at zh
  obtain ⟨hk, hall⟩ := zh
  simp (maxSteps := 4000000) (disch := omega) only [go_sem, w64, AndB_of, IfB_of, IfB_no, pickE_of, pickE_no, ite_of, ite_no, tdivE, tmodE, takeAll]
  refine IfB.dec (fun c1 => ?_) (fun c1 => ?_)
  · have c1' : k < (a ++ b).length := by omega
    have hr : smallR (a ++ b)[k] := by
      rcases List.mem_append.1 (List.getElem_mem c1') with h | h
      · exact hsa _ h
      · exact hsb _ h
    simp (maxSteps := 4000000) (disch := omega) only [go_sem, w64, AndB_of, IfB_of, IfB_no, pickE_of, pickE_no, ite_of, ite_no, tdivE, tmodE, takeAll]
    apply CallB.q (q_RowManyI a _ (by omega) hsa)
    simp (maxSteps := 4000000) (disch := omega) only [go_sem, w64, AndB_of, IfB_of, IfB_no, pickE_of, pickE_no, ite_of, ite_no, tdivE, tmodE, takeAll]
    apply CallB.q (q_RowManyI b _ (by omega) hsb)
    simp (maxSteps := 4000000) (disch := omega) only [go_sem, w64, AndB_of, IfB_of, IfB_no, pickE_of, pickE_no, ite_of, ite_no, tdivE, tmodE, takeAll]
    refine IfB.dec (fun c2 => ?_) (fun c2 => ?_)
    · simp (maxSteps := 4000000) (disch := omega) only [go_sem, w64, AndB_of, IfB_of, IfB_no, pickE_of, pickE_no, ite_of, ite_no, tdivE, tmodE, takeAll]
      ((repeat' apply And.intro) <;> first | exact fun r hr => by rw [List.take_succ_eq_append_getElem c1'] at hr; rcases List.mem_append.1 hr with h | h; exact hall r h; simp at h; subst h; exact c2 | (exact Weak.go (by (first | (simp [wkL]; done) | (simp [wkL]; omega))) (fun zi => by first | exact .inl rfl | exact .inr rfl | (simp only [upd]; repeat' split) <;> first | exact fun r hr => by rw [List.take_succ_eq_append_getElem c1'] at hr; rcases List.mem_append.1 hr with h | h; exact hall r h; simp at h; subst h; exact c2 | exact .inl rfl | exact .inr rfl | (exfalso; omega) | exact .inr (hd _ (by omega)) | (left; subst_vars; exact hH.symm) | (left; subst_vars; rfl) | (left; simp; done) | (left; simp; omega)) (by omega)) | omega | rfl | assumption | exact Flat.nil | exact ⟨_, rfl, rfl, by assumption⟩ | (simp; done) | (simp; omega))
    · simp (maxSteps := 4000000) (disch := omega) only [go_sem, w64, AndB_of, IfB_of, IfB_no, pickE_of, pickE_no, ite_of, ite_no, tdivE, tmodE, takeAll]
      rw [decide_eq_false (fun g => c2 (g _ (List.getElem_mem c1')))]
  · simp (maxSteps := 4000000) (disch := omega) only [go_sem, w64, AndB_of, IfB_of, IfB_no, pickE_of, pickE_no, ite_of, ite_no, tdivE, tmodE, takeAll]
    rw [decide_eq_true (by rw [List.take_of_length_le (by omega)] at hall; exact hall)]
end Go.TH
