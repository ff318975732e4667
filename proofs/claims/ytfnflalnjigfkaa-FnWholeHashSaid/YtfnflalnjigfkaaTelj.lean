/- TH: rows joined by all pairs: the walks. Made by gen.py. -/
import Derived.Test.YtfnflalnjigfkaaTf3
import Derived.Test.YtfnflalnjigfkaaTerc
import Derived.Test.YtfnflalnjigfkaaTerw
import Derived.Test.YtfnflalnjigfkaaTed3
import Derived.Test.YtfnflalnjigfkaaTf4
import Derived.Shelf.Spec.SlicesGrow
namespace Go.TH
open Go Go.Proofs Go.RowKit Go.Lib
set_option linter.unusedSimpArgs false
set_option linter.unusedVariables false
set_option maxHeartbeats 20000000
set_option maxRecDepth 100000
def growRenV : Go.Shelf.Ren := ⟨fun x => if x = 4 then 177 else x, fun x => if x = 22 then 31 else if x = 25 then 65 else x, fun x => x⟩
theorem growLV : Lays8.n4 Try.prog growRenV where
  mixed := rfl
  f4 := ⟨Try.f177.name, by decide, Try.func177.trans (congrArg some (by kernel_rfl))⟩
  t0 := Try.underlying0
  a0 := Try.isAgg0
  z0 := Try.sizeOf0
  v0 := Try.zeroValue0
  t3 := Try.underlying3
  a3 := Try.isAgg3
  z3 := Try.sizeOf3
  v3 := Try.zeroValue3
  t4 := Try.underlying4
  a4 := Try.isAgg4
  z4 := Try.sizeOf4
  v4 := Try.zeroValue4
  t9 := Try.underlying9
  a9 := Try.isAgg9
  z9 := Try.sizeOf9
  v9 := Try.zeroValue9
  t20 := Try.underlying20
  a20 := Try.isAgg20
  z20 := Try.sizeOf20
  v20 := Try.zeroValue20
  t22 := Try.underlying31
  a22 := Try.isAgg31
  z22 := Try.sizeOf31
  v22 := Try.zeroValue31
theorem c_GrowV {H : AH} {nx : Nat} (n : Nat) (h0 : 0 < n) (h1 : n ≤ 1000000) : CallC Try.prog 177 [.sl 0 true [], .int .i64 n] H nx (.msl nx 0 3 0 0) (upd H nx (.live 0 [])) (nx + 1) := by
  refine ⟨⟨_, Try.func177, by decide, rfl⟩, fun base κ vs hi hr => ?_⟩
  obtain ⟨v1, vs1, rfl, r1, hr1⟩ := hr.uncons
  obtain ⟨v2, vs2, rfl, r2, hr2⟩ := hr1.uncons
  obtain rfl : vs2 = [] := List.eq_nil_of_length_eq_zero hr2.1
  obtain ⟨A, c, rfl, hn, htt, hcl⟩ := r1.sl_inv
  obtain rfl : c = 0 := htt rfl
  cases r2
  have i0 : ∃ i z, Try.prog.info? 65 = some i ∧ i.zero = some z ∧ i.size = 3 ∧ i.bytes = 32 ∧ z.cells.size = 3 := by
    refine ⟨_, _, rfl, rfl, rfl, rfl, rfl⟩
  obtain ⟨i, z, g1, g2, g3, g4, g5⟩ := i0
  have hG := Any8.slices_Grow_grow growLV i z g1 g2 (by omega) A 0 0 n [] κ.W (Nat.le_refl _) (by omega) (by rw [g4]; omega) (by omega) (by simp) (fun _ => rfl) (fun a ha j v hv => by simp at hv)
  refine hG.mono ?_
  rintro e W' ⟨rfl, rfl⟩
  obtain ⟨κ', k1, k2, k3, k4⟩ := grow_room hi (([] : List Value).toArray ++ Builtin.zeroCells z.cells (0 + n - 0) ++ Builtin.zeroCells z.cells (grownCap κ.W (0 + n) 0 65 - (0 + n))).toList 65 3 (grownCap κ.W (0 + n) 0 65) (by
    have := grownCap_ge κ.W (0 + n) 0 65
    rw [Nat.zero_add] at this
    simp only [Array.length_toList, Array.size_append, size_zeroCells, g5]
    simp
    omega)
  exact ⟨_, κ', rfl, k1, k2, k3, k4⟩
theorem d_ConcatV (a b : GRow) (h0 : 0 < a.length + b.length) (h1 : a.length ≤ 1000) (h2 : b.length ≤ 1000) {H : AH} {nx id ver : Nat} (hid : id < nx) (hH : H id = .live ver [rowA a, rowA b]) : ACallD Try.prog 172 [.msl id ver 1 0 2] H nx (fun r H' nx' => ∃ v, r = .msl nx v 3 0 (a ++ b).length ∧ H' = upd H nx (.live v (flat GVal.c (a ++ b))) ∧ nx' = nx + 1) := by
  have e : (0 + (a.length : Int) + b.length) = ((a.length + b.length : Nat) : Int) := by omega
  unfold rowA at hH
  refine dcall_body mixed Try.func172 _ (by unfold Try.f172; rfl) Try.ntmps172 Try.results172 (by decide) (by simp) ?_
  simp (maxSteps := 4000000) (disch := omega) only [go_sem, w64, AndB_of, IfB_of, IfB_no, pickE_of, pickE_no, ite_of, ite_no, tdivE, tmodE, takeAll, hH]
  refine LoopB.unroll ?_
  simp (maxSteps := 4000000) (disch := omega) only [go_sem, w64, AndB_of, IfB_of, IfB_no, pickE_of, pickE_no, ite_of, ite_no, tdivE, tmodE, takeAll, hH]
  refine LoopB.unroll ?_
  simp (maxSteps := 4000000) (disch := omega) only [go_sem, w64, AndB_of, IfB_of, IfB_no, pickE_of, pickE_no, ite_of, ite_no, tdivE, tmodE, takeAll, hH]
  refine LoopB.unroll ?_
  simp (maxSteps := 4000000) (disch := omega) only [go_sem, w64, AndB_of, IfB_of, IfB_no, pickE_of, pickE_no, ite_of, ite_no, tdivE, tmodE, takeAll, hH, e]
  refine CallB.of (c_GrowV (a.length + b.length) h0 (by omega)) ?_
  simp (maxSteps := 4000000) (disch := omega) only [go_sem, w64, AndB_of, IfB_of, IfB_no, pickE_of, pickE_no, ite_of, ite_no, tdivE, tmodE, takeAll, hH]
  refine LoopB.unroll ?_
  simp (maxSteps := 4000000) (disch := omega) only [go_sem, w64, AndB_of, IfB_of, IfB_no, pickE_of, pickE_no, ite_of, ite_no, tdivE, tmodE, takeAll, hH]
  refine LoopB.unroll ?_
  simp (maxSteps := 4000000) (disch := omega) only [go_sem, w64, AndB_of, IfB_of, IfB_no, pickE_of, pickE_no, ite_of, ite_no, tdivE, tmodE, takeAll, hH]
  refine LoopB.unroll ?_
  simp (maxSteps := 4000000) (disch := omega) only [go_sem, w64, AndB_of, IfB_of, IfB_no, pickE_of, pickE_no, ite_of, ite_no, tdivE, tmodE, takeAll, hH]
  exact ⟨2, by rw [List.length_append], by rw [flat_append]⟩
theorem f_beside (a b : GRow) (h0 : 0 < a.length) (h1 : a.length ≤ 1000) (h2 : b.length ≤ 1000) : ACallD Try.prog 160 [rowA a, rowA b] noH 0 (fun r H' n' => OwnR H' 0 n' (rowA (a ++ b)) r) := by
  refine dcall_body mixed Try.func160 _ (by unfold Try.f160; rfl) Try.ntmps160 Try.results160 (by decide) (by simp) ?_
  simp (maxSteps := 4000000) (disch := omega) only [go_sem, w64, AndB_of, IfB_of, IfB_no, pickE_of, pickE_no, ite_of, ite_no, tdivE, tmodE, takeAll]
  refine CallB.law (d_ConcatV a b (by omega) h1 h2 (by omega) (upd_same _ _ _)) ?_
  rintro _ _ _ ⟨v, rfl, rfl, rfl⟩
  simp (maxSteps := 4000000) (disch := omega) only [go_sem, w64, AndB_of, IfB_of, IfB_no, pickE_of, pickE_no, ite_of, ite_no, tdivE, tmodE, takeAll]
  have hp : Pict (upd (upd noH 0 (.live 0 [rowA a, rowA b])) 1 (.live v (flat GVal.c (a ++ b)))) [.msl 1 v 3 0 (a ++ b).length] [rowA (a ++ b)] := Pict.msl (rest := []) GVal.len GVal.pure (by rw [List.append_nil, upd_same])
  refine CallB.fresh hp (f_cloneV (a ++ b) (by simp; omega)) fun r H2 n2 hO hn hH => ?_
  simp (maxSteps := 4000000) (disch := omega) only [go_sem, w64, AndB_of, IfB_of, IfB_no, pickE_of, pickE_no, ite_of, ite_no, tdivE, tmodE, takeAll]
  exact hO.mono (by omega) (Nat.le_refl _)
theorem c_l3OwnV {H : AH} {nx : Nat} (l : GRow) (h0 : 0 < l.length) (hl : l.length ≤ 1000) : CallC Try.prog 65 [rowA l] H nx (.msl nx 1 3 0 l.length) (upd H nx (.live 1 (flat GVal.c l))) (nx + 1) := by
  unfold rowA
  refine call_body mixed Try.func65 _ (by unfold Try.f65; rfl) Try.ntmps65 Try.results65 (by decide) (by simp) ?_
  simp (maxSteps := 4000000) (disch := omega) only [go_sem, w64, AndB_of, IfB_of, IfB_no, pickE_of, pickE_no, ite_of, ite_no, tdivE, tmodE, takeAll, upd_upd]
theorem q_sidesOk (ca cb : List GCol) (a b : List GRow) (h1 : ca.length ≤ 1048576) (h2 : cb.length ≤ 1048576) (h3 : a.length ≤ 1048576) (h4 : b.length ≤ 1048576) (hsa : ∀ r ∈ a, smallR r) (hsb : ∀ r ∈ b, smallR r) :
    QCall Try.prog 159 [colsA ca, colsA cb, rowsA a, rowsA b] (.bool (decide (colsOk ca ∧ colsOk cb ∧ ca.length + cb.length ≤ 4 ∧ a.length ≤ 30 ∧ b.length ≤ 30 ∧ rowsOk ca a ∧ rowsOk cb b))) := by
  refine qcall_body mixed Try.func159 _ (by unfold Try.f159; rfl) Try.ntmps159 Try.results159 (by decide) 0 (by simp) (by simp [pureL, pureA]) ?_
  simp (maxSteps := 4000000) (disch := omega) only [go_sem, w64, AndB_of, IfB_of, IfB_no, pickE_of, pickE_no, ite_of, ite_no, tdivE, tmodE, takeAll]
  apply CallB.q (q_ColumnsOkI ca h1)
  simp (maxSteps := 4000000) (disch := omega) only [go_sem, w64, AndB_of, IfB_of, IfB_no, pickE_of, pickE_no, ite_of, ite_no, tdivE, tmodE, takeAll]
  refine IfB.dec2 (fun c1 d1 => ?_) (fun c1 d1 => ?_)
  case refine_2 => simp (maxSteps := 4000000) (disch := omega) only [go_sem, w64, AndB_of, IfB_of, IfB_no, pickE_of, pickE_no, ite_of, ite_no, tdivE, tmodE, takeAll, d1]; simp [c1]
  simp (maxSteps := 4000000) (disch := omega) only [go_sem, w64, AndB_of, IfB_of, IfB_no, pickE_of, pickE_no, ite_of, ite_no, tdivE, tmodE, takeAll, d1]
  apply CallB.q (q_ColumnsOkI cb h2)
  simp (maxSteps := 4000000) (disch := omega) only [go_sem, w64, AndB_of, IfB_of, IfB_no, pickE_of, pickE_no, ite_of, ite_no, tdivE, tmodE, takeAll]
  refine IfB.dec2 (fun c2 d2 => ?_) (fun c2 d2 => ?_)
  case refine_2 => simp (maxSteps := 4000000) (disch := omega) only [go_sem, w64, AndB_of, IfB_of, IfB_no, pickE_of, pickE_no, ite_of, ite_no, tdivE, tmodE, takeAll, d2]; simp [c2]
  simp (maxSteps := 4000000) (disch := omega) only [go_sem, w64, AndB_of, IfB_of, IfB_no, pickE_of, pickE_no, ite_of, ite_no, tdivE, tmodE, takeAll, d2]
  refine IfB.dec2 (fun c3 d3 => ?_) (fun c3 d3 => ?_)
  case refine_2 => simp (maxSteps := 4000000) (disch := omega) only [go_sem, w64, AndB_of, IfB_of, IfB_no, pickE_of, pickE_no, ite_of, ite_no, tdivE, tmodE, takeAll, d3]; rw [decide_eq_false (fun e => c3 (by have := e.2.2.1; omega))]
  simp (maxSteps := 4000000) (disch := omega) only [go_sem, w64, AndB_of, IfB_of, IfB_no, pickE_of, pickE_no, ite_of, ite_no, tdivE, tmodE, takeAll, d3]
  refine IfB.dec2 (fun c4 d4 => ?_) (fun c4 d4 => ?_)
  case refine_2 => simp (maxSteps := 4000000) (disch := omega) only [go_sem, w64, AndB_of, IfB_of, IfB_no, pickE_of, pickE_no, ite_of, ite_no, tdivE, tmodE, takeAll, d4]; rw [decide_eq_false (fun e => c4 (by have := e.2.2.2.1; omega))]
  simp (maxSteps := 4000000) (disch := omega) only [go_sem, w64, AndB_of, IfB_of, IfB_no, pickE_of, pickE_no, ite_of, ite_no, tdivE, tmodE, takeAll, d4]
  refine IfB.dec2 (fun c5 d5 => ?_) (fun c5 d5 => ?_)
  case refine_2 => simp (maxSteps := 4000000) (disch := omega) only [go_sem, w64, AndB_of, IfB_of, IfB_no, pickE_of, pickE_no, ite_of, ite_no, tdivE, tmodE, takeAll, d5]; rw [decide_eq_false (fun e => c5 (by have := e.2.2.2.2.1; omega))]
  simp (maxSteps := 4000000) (disch := omega) only [go_sem, w64, AndB_of, IfB_of, IfB_no, pickE_of, pickE_no, ite_of, ite_no, tdivE, tmodE, takeAll, d5]
  apply CallB.q (q_RowsOkI ca a h1 h3 hsa)
  simp (maxSteps := 4000000) (disch := omega) only [go_sem, w64, AndB_of, IfB_of, IfB_no, pickE_of, pickE_no, ite_of, ite_no, tdivE, tmodE, takeAll]
  refine IfB.dec2 (fun c6 d6 => ?_) (fun c6 d6 => ?_)
  case refine_2 => simp (maxSteps := 4000000) (disch := omega) only [go_sem, w64, AndB_of, IfB_of, IfB_no, pickE_of, pickE_no, ite_of, ite_no, tdivE, tmodE, takeAll, d6]; simp [c6]
  simp (maxSteps := 4000000) (disch := omega) only [go_sem, w64, AndB_of, IfB_of, IfB_no, pickE_of, pickE_no, ite_of, ite_no, tdivE, tmodE, takeAll, d6]
  apply CallB.q (q_RowsOkI cb b h2 h4 hsb)
  simp (maxSteps := 4000000) (disch := omega) only [go_sem, w64, AndB_of, IfB_of, IfB_no, pickE_of, pickE_no, ite_of, ite_no, tdivE, tmodE, takeAll]
  have e3 : ca.length + cb.length ≤ 4 := by omega
  have e4 : a.length ≤ 30 := by omega
  have e5 : b.length ≤ 30 := by omega
  simp [c1, c2, e3, e4, e5, c6]
theorem q_joinOkI (ca cb : List GCol) (a b : List GRow) (i j : Int) (h1 : ca.length ≤ 1048576) (h2 : cb.length ≤ 1048576) (h3 : a.length ≤ 1048576) (h4 : b.length ≤ 1048576) (hsa : ∀ r ∈ a, smallR r) (hsb : ∀ r ∈ b, smallR r) :
    QCall Try.prog 118 [colsA ca, colsA cb, rowsA a, rowsA b, .int .i64 i, .int .i64 j] (.bool (decide (joinOk ca cb a b i j))) := by
  refine qcall_body mixed Try.func118 _ (by unfold Try.f118; rfl) Try.ntmps118 Try.results118 (by decide) 0 (by simp) (by simp [pureL, pureA]) ?_
  simp (maxSteps := 4000000) (disch := omega) only [go_sem, w64, AndB_of, IfB_of, IfB_no, pickE_of, pickE_no, ite_of, ite_no, tdivE, tmodE, takeAll]
  refine DrawB.quiet (by kernel_rfl) ?_
  simp (maxSteps := 4000000) (disch := omega) only [go_sem, w64, AndB_of, IfB_of, IfB_no, pickE_of, pickE_no, ite_of, ite_no, tdivE, tmodE, takeAll]
  refine DCallB.q0 (q_sidesOk ca cb a b h1 h2 h3 h4 hsa hsb) ?_
  simp (maxSteps := 4000000) (disch := omega) only [go_sem, w64, AndB_of, IfB_of, IfB_no, pickE_of, pickE_no, ite_of, ite_no, tdivE, tmodE, takeAll]
  refine IfB.dec2 (fun c1 d1 => ?_) (fun c1 d1 => ?_)
  case refine_2 => simp (maxSteps := 4000000) (disch := omega) only [go_sem, w64, AndB_of, IfB_of, IfB_no, pickE_of, pickE_no, ite_of, ite_no, tdivE, tmodE, takeAll, d1]; rw [decide_eq_false (fun e => c1 ⟨e.1, e.2.1, e.2.2.1, e.2.2.2.1, e.2.2.2.2.1, e.2.2.2.2.2.1, e.2.2.2.2.2.2.1⟩)]
  simp (maxSteps := 4000000) (disch := omega) only [go_sem, w64, AndB_of, IfB_of, IfB_no, pickE_of, pickE_no, ite_of, ite_no, tdivE, tmodE, takeAll, d1]
  refine DCallB.q0 (q_between _ _ _) ?_
  simp (maxSteps := 4000000) (disch := omega) only [go_sem, w64, AndB_of, IfB_of, IfB_no, pickE_of, pickE_no, ite_of, ite_no, tdivE, tmodE, takeAll]
  refine IfB.dec2 (fun c2 d2 => ?_) (fun c2 d2 => ?_)
  case refine_2 => simp (maxSteps := 4000000) (disch := omega) only [go_sem, w64, AndB_of, IfB_of, IfB_no, pickE_of, pickE_no, ite_of, ite_no, tdivE, tmodE, takeAll, d2]; rw [decide_eq_false (fun e => c2 e.2.2.2.2.2.2.2.1)]
  simp (maxSteps := 4000000) (disch := omega) only [go_sem, w64, AndB_of, IfB_of, IfB_no, pickE_of, pickE_no, ite_of, ite_no, tdivE, tmodE, takeAll, d2]
  refine DCallB.q0 (q_between _ _ _) ?_
  simp (maxSteps := 4000000) (disch := omega) only [go_sem, w64, AndB_of, IfB_of, IfB_no, pickE_of, pickE_no, ite_of, ite_no, tdivE, tmodE, takeAll]
  refine IfB.dec2 (fun c3 d3 => ?_) (fun c3 d3 => ?_)
  case refine_2 => simp (maxSteps := 4000000) (disch := omega) only [go_sem, w64, AndB_of, IfB_of, IfB_no, pickE_of, pickE_no, ite_of, ite_no, tdivE, tmodE, takeAll, d3]; rw [decide_eq_false (fun e => c3 e.2.2.2.2.2.2.2.2.1)]
  simp (maxSteps := 4000000) (disch := omega) only [go_sem, w64, AndB_of, IfB_of, IfB_no, pickE_of, pickE_no, ite_of, ite_no, tdivE, tmodE, takeAll, d3]
  unfold inR at c2 c3
  obtain ⟨p, rfl⟩ : ∃ p : Nat, i = p := ⟨i.toNat, by omega⟩
  obtain ⟨q, rfl⟩ : ∃ q : Nat, j = q := ⟨j.toNat, by omega⟩
  have hp : p < ca.length := by omega
  have hq : q < cb.length := by omega
  unfold colsA
  simp (maxSteps := 4000000) (disch := omega) only [go_sem, w64, AndB_of, IfB_of, IfB_no, pickE_of, pickE_no, ite_of, ite_no, tdivE, tmodE, takeAll]
  have ep : ca.getD (p : Int).toNat ⟨0, false⟩ = ca[p] := by simp [List.getD, hp]
  have eq : cb.getD (q : Int).toNat ⟨0, false⟩ = cb[q] := by simp [List.getD, hq]
  rw [AV.bool.injEq, Bool.eq_iff_iff]; (try simp only [decide_eq_true_iff])
  unfold joinOk
  rw [ep, eq]
  exact ⟨fun h => ⟨c1.1, c1.2.1, c1.2.2.1, c1.2.2.2.1, c1.2.2.2.2.1, c1.2.2.2.2.2.1, c1.2.2.2.2.2.2, c2, c3, h⟩, fun h => h.2.2.2.2.2.2.2.2.2⟩
def loopG (i j : Nat) (g : GVal → List GRow) (a : List GRow) : List GRow := a.flatMap fun r => pairsL i j r (g (r.getD i zV))
theorem loopG_succ {i j : Nat} {g : GVal → List GRow} {a : List GRow} {k : Nat} (h : k < a.length) : loopG i j g (a.take (k + 1)) = loopG i j g (a.take k) ++ pairsL i j a[k] (g (a[k].getD i zV)) := by
  unfold loopG
  rw [List.take_succ_eq_append_getElem h, List.flatMap_append]
  simp
theorem f_joins (a : List GRow) (i j : Nat) (F : FuncId) (cap : List AV) (hcap : pureL cap = true) (g : GVal → List GRow) (ha : a.length ≤ 1000)
    (hi : ∀ r ∈ a, i < r.length ∧ r.length ≤ 1000) (hg : ∀ r ∈ a, (g (r.getD i zV)).length ≤ 1000 ∧ (∀ q ∈ g (r.getD i zV), j < q.length ∧ q.length ≤ 1000) ∧ QCall Try.prog F (.agg [.int .i64 (r.getD i zV).k, .int .i64 (r.getD i zV).n, .str (r.getD i zV).s] :: cap) (rowsA (g (r.getD i zV)))) :
    ACallD Try.prog 121 [rowsA a, .int .i64 i, .fn F cap, .int .i64 j] noH 0 (fun r H' n' => OwnR H' 0 n' (rowsA (loopG i j g a)) r) := by
  refine dcall_body mixed Try.func121 _ (by unfold Try.f121; rfl) Try.ntmps121 Try.results121 (by decide) (by simp) ?_
  unfold rowsA
  simp (maxSteps := 4000000) (disch := omega) only [go_sem, w64, AndB_of, IfB_of, IfB_no, pickE_of, pickE_no, ite_of, ite_no, tdivE, tmodE, takeAll]
  refine LoopB.weak (Weak.nil 9 1 rfl) ?_
  simp only [List.set_cons_succ, List.set_cons_zero]
  refine LoopB.auto (fun zs => (heapOf zs, nxOf zs, (intOf (slotOf zs 16)).toNat, verOf (blkOf zs (0)), cellsOf (blkOf zs (0)), mlenOf (slotOf zs 9))) (fun zz => [(1, none), (0, none), (0, none), (5, some (.msl 0 zz.2.2.2.1 1 0 zz.2.2.2.2.2)), (4, none), (0, none), (0, some (.int .i64 (zz.2.2.1 : Int)))]) (fun zz => zz.1) (fun zz => zz.2.1) (fun zz => a.length - zz.2.2.1) (fun zz => zz.2.2.1 ≤ a.length ∧ 0 < zz.2.1 ∧ Grow zz.1 0 zz.2.2.2.1 zz.2.2.2.2.1 0 zz.2.1 (flat cR (loopG i j g (a.take zz.2.2.1))) ∧ zz.2.2.2.2.2 = (loopG i j g (a.take zz.2.2.1)).length ∧ zz.2.2.2.2.2 ≤ 1000 * zz.2.2.1) (by (first | simp (maxSteps := 4000000) (disch := omega) only [go_sem, w64, AndB_of, IfB_of, IfB_no, pickE_of, pickE_no, ite_of, ite_no, tdivE, tmodE, takeAll, hH] | simp (maxSteps := 4000000) (disch := omega) only [go_sem, w64, AndB_of, IfB_of, IfB_no, pickE_of, pickE_no, ite_of, ite_no, tdivE, tmodE, takeAll]); ((repeat' apply And.intro) <;> first | exact Grow.nil (upd_same ..) | (exact Weak.go (by (first | (simp [wkL]; done) | (simp [wkL]; omega))) (fun zi => by first | exact .inl rfl | exact .inr rfl | (simp only [upd]; repeat' split) <;> first | exact Grow.nil (upd_same ..) | exact .inl rfl | exact .inr rfl | (exfalso; omega) | exact .inr (hd _ (by omega)) | (left; subst_vars; exact hH.symm) | (left; subst_vars; rfl) | (left; simp; done) | (left; simp; omega)) (by omega)) | omega | rfl | assumption | exact Flat.nil | exact ⟨_, rfl, rfl, by assumption⟩ | (simp; done) | (simp; omega))) ?_
  intro zz zh
  obtain ⟨h, x, k, v, cells, m⟩ := zz
  dsimp only at zh
  obtain ⟨hk, hx, hG, hm, hmk⟩ := zh
  simp (maxSteps := 4000000) (disch := omega) only [go_sem, w64, AndB_of, IfB_of, IfB_no, pickE_of, pickE_no, ite_of, ite_no, tdivE, tmodE, takeAll]
  have hH := hG.hl
  have hgl := hG.len
  rw [cR_flen] at hgl
  refine IfB.dec (fun h1 => ?_) (fun h1 => ?_)
  · have h1' : k < a.length := by omega
    have hr := hi _ (List.getElem_mem h1')
    have hgr := hg _ (List.getElem_mem h1')
    have hs := loopG_succ (i := i) (j := j) (g := g) h1'
    obtain ⟨r, er⟩ : ∃ r : GRow, r = a[k] := ⟨_, rfl⟩
    obtain ⟨L0, eL⟩ : ∃ L0, L0 = loopG i j g (a.take k) := ⟨_, rfl⟩
    rw [← er, ← eL] at hs
    rw [← er] at hr hgr
    rw [← eL] at hG hm hgl
    have hri := hr.1
    have eg : r.getD i zV = r[i] := by simp [List.getD, hri]
    have er' : rowA a[k] = .sl r.length false (flat GVal.c r) := by rw [← er]; rfl
    rw [eg] at hgr hs
    simp (maxSteps := 4000000) (disch := omega) only [go_sem, w64, AndB_of, IfB_of, IfB_no, pickE_of, pickE_no, ite_of, ite_no, tdivE, tmodE, takeAll, hH, er']
    refine IfB.dec (fun c1 => ?_) (fun c1 => ?_)
    · have e0 : pairsL i j r (g r[i]) = [] := pairsL_none (by rw [eg]; exact c1) _
      rw [e0, List.append_nil] at hs
      have hG2 := hG
      rw [← hs] at hG2 hm
      simp (maxSteps := 4000000) (disch := omega) only [go_sem, w64, AndB_of, IfB_of, IfB_no, pickE_of, pickE_no, ite_of, ite_no, tdivE, tmodE, takeAll, hH]
      ((repeat' apply And.intro) <;> first | exact hG2 | (exact Weak.go (by (first | (simp [wkL]; done) | (simp [wkL]; omega))) (fun zi => by first | exact .inl rfl | exact .inr rfl | (simp only [upd]; repeat' split) <;> first | exact hG2 | exact .inl rfl | exact .inr rfl | (exfalso; omega) | exact .inr (hd _ (by omega)) | (left; subst_vars; exact hH.symm) | (left; subst_vars; rfl) | (left; simp; done) | (left; simp; omega)) (by omega)) | omega | rfl | assumption | exact Flat.nil | exact ⟨_, rfl, rfl, by assumption⟩ | (simp; done) | (simp; omega))
    simp (maxSteps := 4000000) (disch := omega) only [go_sem, w64, AndB_of, IfB_of, IfB_no, pickE_of, pickE_no, ite_of, ite_no, tdivE, tmodE, takeAll]
    obtain ⟨hg1, hg2, hgq⟩ := hgr
    obtain ⟨b, eb⟩ : ∃ b, b = g r[i] := ⟨_, rfl⟩
    rw [← eb] at hg1 hg2 hgq hs
    unfold rowsA at hgq
    apply CallB.q hgq
    simp (maxSteps := 4000000) (disch := omega) only [go_sem, w64, AndB_of, IfB_of, IfB_no, pickE_of, pickE_no, ite_of, ite_no, tdivE, tmodE, takeAll]
    have ep0 : L0 ++ pairsL i j r [] = L0 := by unfold pairsL; rw [List.flatMap_nil, List.append_nil]
    refine LoopB.auto (fun zs => (heapOf zs, nxOf zs, (intOf (slotOf zs 33)).toNat, verOf (blkOf zs (0)), cellsOf (blkOf zs (0)), mlenOf (slotOf zs 9))) (fun zz => [(1, none), (0, none), (0, none), (5, some (.msl 0 zz.2.2.2.1 1 0 zz.2.2.2.2.2)), (1, none), (2, none), (0, none), (0, none), (14, none), (0, none), (0, some (.int .i64 (zz.2.2.1 : Int)))]) (fun zz => zz.1) (fun zz => zz.2.1) (fun zz => b.length - zz.2.2.1) (fun zz => zz.2.2.1 ≤ b.length ∧ 0 < zz.2.1 ∧ Grow zz.1 0 zz.2.2.2.1 zz.2.2.2.2.1 0 zz.2.1 (flat cR (L0 ++ pairsL i j r (b.take zz.2.2.1))) ∧ zz.2.2.2.2.2 = (L0 ++ pairsL i j r (b.take zz.2.2.1)).length ∧ zz.2.2.2.2.2 ≤ 1000 * k + zz.2.2.1) (by (first | simp (maxSteps := 4000000) (disch := omega) only [go_sem, w64, AndB_of, IfB_of, IfB_no, pickE_of, pickE_no, ite_of, ite_no, tdivE, tmodE, takeAll, hH] | simp (maxSteps := 4000000) (disch := omega) only [go_sem, w64, AndB_of, IfB_of, IfB_no, pickE_of, pickE_no, ite_of, ite_no, tdivE, tmodE, takeAll]); ((repeat' apply And.intro) <;> first | exact (by rw [ep0]; assumption) | (exact Weak.go (by (first | (simp [wkL]; done) | (simp [wkL]; omega))) (fun zi => by first | exact .inl rfl | exact .inr rfl | (simp only [upd]; repeat' split) <;> first | exact (by rw [ep0]; assumption) | exact .inl rfl | exact .inr rfl | (exfalso; omega) | exact .inr (hd _ (by omega)) | (left; subst_vars; exact hH.symm) | (left; subst_vars; rfl) | (left; simp; done) | (left; simp; omega)) (by omega)) | omega | rfl | assumption | exact Flat.nil | exact ⟨_, rfl, rfl, by assumption⟩ | (simp; done) | (simp; omega))) ?_
    intro zz zh
    obtain ⟨h, x, n, v, cells, m⟩ := zz
    dsimp only at zh
    obtain ⟨hn, hx, hG, hm, hmk⟩ := zh
    simp (maxSteps := 4000000) (disch := omega) only [go_sem, w64, AndB_of, IfB_of, IfB_no, pickE_of, pickE_no, ite_of, ite_no, tdivE, tmodE, takeAll]
    have hH := hG.hl
    have hgl := hG.len
    rw [cR_flen] at hgl
    refine IfB.dec (fun h2 => ?_) (fun h2 => ?_)
    · have h2' : n < b.length := by omega
      obtain ⟨q, eq⟩ : ∃ q : GRow, q = b[n] := ⟨_, rfl⟩
      have hq := hg2 _ (List.getElem_mem h2')
      rw [← eq] at hq
      have hqj := hq.1
      have eq' : rowA b[n] = .sl q.length false (flat GVal.c q) := by rw [← eq]; rfl
      have ev := eqv q[j] r[i]
      have ej : q.getD j zV = q[j] := by simp [List.getD, hqj]
      simp (maxSteps := 4000000) (disch := omega) only [go_sem, w64, AndB_of, IfB_of, IfB_no, pickE_of, pickE_no, ite_of, ite_no, tdivE, tmodE, takeAll, hH, eq', er']
      refine DrawB.quiet (by kernel_rfl) ?_
      simp (maxSteps := 4000000) (disch := omega) only [go_sem, w64, AndB_of, IfB_of, IfB_no, pickE_of, pickE_no, ite_of, ite_no, tdivE, tmodE, takeAll, hH, eq', er', ev]
      have hkey : hitP i j r q ↔ q[j] = r[i] := by unfold hitP; rw [eg, ej]; exact ⟨fun e => e.2, fun e => ⟨c1, e⟩⟩
      refine IfB.dec (fun c2 => ?_) (fun c2 => ?_)
      · have hy := pairsL_yes h2' (show hitP i j r b[n] from eq ▸ hkey.2 c2)
        rw [← eq] at hy
        simp (maxSteps := 4000000) (disch := omega) only [go_sem, w64, AndB_of, IfB_of, IfB_no, pickE_of, pickE_no, ite_of, ite_no, tdivE, tmodE, takeAll, hH]
        refine CallB.fresh (Pict.cons (Pict.pure (rowA_pure _)) (Pict.cons (Pict.pure (rowA_pure _)) Pict.nil)) (f_beside r q (by omega) hr.2 hq.2) fun ra H2 n2 hO hn hH2 => ?_
        have h0 : H2 0 = .live v cells := by rw [hH2 0 hx]; exact hH
        obtain ⟨S2, h4, hN2, hr2⟩ := hO
        have hca : cellsA H2 ra = some [ra] := h4.cellsA
        simp (maxSteps := 4000000) (disch := omega) only [go_sem, w64, AndB_of, IfB_of, IfB_no, pickE_of, pickE_no, ite_of, ite_no, tdivE, tmodE, takeAll, hca, h0]
        have hG2 : Grow (upd (upd H2 n2 (.live 0 [ra])) 0 (.live (v + 1) (cells ++ [ra]))) 0 (v + 1) (cells ++ [ra]) 0 (n2 + 1) (flat cR (L0 ++ pairsL i j r (b.take (n + 1)))) := by
          rw [hy, ← List.append_assoc, flat_append cR (L0 ++ pairsL i j r (b.take n))]
          exact hG.snoc (by omega) hx (by omega) (h4.congr fun j hj => by have := hr2 j hj; rw [upd_ne _ _ (by omega), upd_ne _ _ (by omega)]) hN2 (fun j hj => by have := hr2 j hj; omega) (fun j hj hj0 => by rw [upd_ne _ _ hj0, upd_ne _ _ (by omega), hH2 j hj]) (upd_same ..)
        have hm2 : m + 1 = (L0 ++ pairsL i j r (b.take (n + 1))).length := by rw [hy, ← List.append_assoc, List.length_append, ← hm]; rfl
        ((repeat' apply And.intro) <;> first | exact hG2 | exact hm2 | (exact Weak.go (by (first | (simp [wkL]; done) | (simp [wkL]; omega))) (fun zi => by first | exact .inl rfl | exact .inr rfl | (simp only [upd]; repeat' split) <;> first | exact hG2 | exact hm2 | exact .inl rfl | exact .inr rfl | (exfalso; omega) | exact .inr (hd _ (by omega)) | (left; subst_vars; exact hH.symm) | (left; subst_vars; rfl) | (left; simp; done) | (left; simp; omega)) (by omega)) | omega | rfl | assumption | exact Flat.nil | exact ⟨_, rfl, rfl, by assumption⟩ | (simp; done) | (simp; omega))
      · have hy := pairsL_no h2' (show ¬ hitP i j r b[n] from fun e => c2 (hkey.1 (eq ▸ e)))
        simp (maxSteps := 4000000) (disch := omega) only [go_sem, w64, AndB_of, IfB_of, IfB_no, pickE_of, pickE_no, ite_of, ite_no, tdivE, tmodE, takeAll, hH]
        rw [← hy] at hG hm
        ((repeat' apply And.intro) <;> first | exact hG | exact hm | (exact Weak.go (by (first | (simp [wkL]; done) | (simp [wkL]; omega))) (fun zi => by first | exact .inl rfl | exact .inr rfl | (simp only [upd]; repeat' split) <;> first | exact hG | exact hm | exact .inl rfl | exact .inr rfl | (exfalso; omega) | exact .inr (hd _ (by omega)) | (left; subst_vars; exact hH.symm) | (left; subst_vars; rfl) | (left; simp; done) | (left; simp; omega)) (by omega)) | omega | rfl | assumption | exact Flat.nil | exact ⟨_, rfl, rfl, by assumption⟩ | (simp; done) | (simp; omega))
    · have hn2 : n = b.length := by omega
      subst hn2
      rw [List.take_length] at hG hm
      rw [← hs] at hG hm
      simp (maxSteps := 4000000) (disch := omega) only [go_sem, w64, AndB_of, IfB_of, IfB_no, pickE_of, pickE_no, ite_of, ite_no, tdivE, tmodE, takeAll, hH]
      ((repeat' apply And.intro) <;> first | exact hG | exact hm | (exact Weak.go (by (first | (simp [wkL]; done) | (simp [wkL]; omega))) (fun zi => by first | exact .inl rfl | exact .inr rfl | (simp only [upd]; repeat' split) <;> first | exact hG | exact hm | exact .inl rfl | exact .inr rfl | (exfalso; omega) | exact .inr (hd _ (by omega)) | (left; subst_vars; exact hH.symm) | (left; subst_vars; rfl) | (left; simp; done) | (left; simp; omega)) (by omega)) | omega | rfl | assumption | exact Flat.nil | exact ⟨_, rfl, rfl, by assumption⟩ | (simp; done) | (simp; omega))
  · obtain rfl : k = a.length := by omega
    simp (maxSteps := 4000000) (disch := omega) only [go_sem, w64, AndB_of, IfB_of, IfB_no, pickE_of, pickE_no, ite_of, ite_no, tdivE, tmodE, takeAll, hH]
    apply CallB.of (c_ClipR hH)
    simp (maxSteps := 4000000) (disch := omega) only [go_sem, w64, AndB_of, IfB_of, IfB_no, pickE_of, pickE_no, ite_of, ite_no, tdivE, tmodE, takeAll]
    rw [List.take_length] at hG hm
    subst hm
    exact hG.own (by rw [cR_flen, Nat.mul_one]) (by omega) hx
theorem q_LoopJoin1 (v : GVal) (b : List GRow) : QCall Try.prog 123 [.agg [.int .i64 v.k, .int .i64 v.n, .str v.s], .ro [rowsA b]] (rowsA b) := by
  refine qcall_body mixed Try.func123 _ (by unfold Try.f123; rfl) Try.ntmps123 Try.results123 (by decide) 0 (by simp) (by simp [pureL, pureA]) ?_
  simp (maxSteps := 4000000) (disch := omega) only [go_sem, w64, AndB_of, IfB_of, IfB_no, pickE_of, pickE_no, ite_of, ite_no, tdivE, tmodE, takeAll]
theorem loopG_const (i j : Nat) (a b : List GRow) : loopG i j (fun _ => b) a = loopL i j a b := rfl
theorem f_LoopJoinI (ca cb : List GCol) (a b : List GRow) (i j : Int) (h1 : ca.length ≤ 1048576) (h2 : cb.length ≤ 1048576) (h3 : a.length ≤ 1048576) (h4 : b.length ≤ 1048576) (hsa : ∀ r ∈ a, smallR r) (hsb : ∀ r ∈ b, smallR r) :
    ACallD Try.prog 53 [colsA ca, colsA cb, rowsA a, rowsA b, .int .i64 i, .int .i64 j] noH 0 (fun r H' n' => OwnR H' 0 n' (rowsA (loopJ ca cb a b i j)) r) := by
  refine dcall_body mixed Try.func53 _ (by unfold Try.f53; rfl) Try.ntmps53 Try.results53 (by decide) (by simp) ?_
  simp (maxSteps := 4000000) (disch := omega) only [go_sem, w64, AndB_of, IfB_of, IfB_no, pickE_of, pickE_no, ite_of, ite_no, tdivE, tmodE, takeAll]
  apply CallB.q (q_joinOkI ca cb a b i j h1 h2 h3 h4 hsa hsb)
  simp (maxSteps := 4000000) (disch := omega) only [go_sem, w64, AndB_of, IfB_of, IfB_no, pickE_of, pickE_no, ite_of, ite_no, tdivE, tmodE, takeAll]
  refine IfB.dec (fun c1 => ?_) (fun c1 => ?_)
  case refine_2 =>
    simp (maxSteps := 4000000) (disch := omega) only [go_sem, w64, AndB_of, IfB_of, IfB_no, pickE_of, pickE_no, ite_of, ite_no, tdivE, tmodE, takeAll]
    rw [loopJ_no c1]
    exact OwnR.nilS
  have hat := c1.at
  have hc := c1.2.2.2
  have hr9 := c1.2.2.2.2.2.2.2
  obtain ⟨p, rfl⟩ : ∃ p : Nat, i = p := ⟨i.toNat, by omega⟩
  obtain ⟨q, rfl⟩ : ∃ q : Nat, j = q := ⟨j.toNat, by omega⟩
  simp only [Int.toNat_natCast] at hat
  rw [loopJ_yes c1, Int.toNat_natCast, Int.toNat_natCast, ← loopG_const]
  simp (maxSteps := 4000000) (disch := omega) only [go_sem, w64, AndB_of, IfB_of, IfB_no, pickE_of, pickE_no, ite_of, ite_no, tdivE, tmodE, takeAll]
  have hf := f_joins a p q 123 [.ro [rowsA b]] (by simp [pureL, pureA]) (fun _ => b) (by omega) (fun r hr => ⟨(hat.1 r hr).1, by have := (hat.1 r hr).2.2; omega⟩) (fun r hr => ⟨by omega, fun x hx => ⟨(hat.2 x hx).1, by have := (hat.2 x hx).2.2; omega⟩, q_LoopJoin1 _ b⟩)
  have hp : Pict (upd noH 0 (.live 0 [rowsA b])) [.fn 123 [.ptr 0 0 0]] [.fn 123 [.ro [rowsA b]]] := by
    have := Pict.snap (H := upd noH 0 (.live 0 [rowsA b])) 1 [.fn 123 [.ptr 0 0 0]]
    simpa only [List.map, snapA_fn, snapA_ptr, upd_same, snapP_live, if_true, List.drop_zero, rowsA_snap] using this
  refine CallB.fresh (Pict.cons (Pict.pure (rowsA_pure _)) (Pict.cons (Pict.pure rfl) (Pict.cons hp (Pict.cons (Pict.pure rfl) Pict.nil)))) hf fun r H2 n2 hO hn hH => ?_
  simp (maxSteps := 4000000) (disch := omega) only [go_sem, w64, AndB_of, IfB_of, IfB_no, pickE_of, pickE_no, ite_of, ite_no, tdivE, tmodE, takeAll]
  exact hO.mono (by omega) (Nat.le_refl _)
end Go.TH
