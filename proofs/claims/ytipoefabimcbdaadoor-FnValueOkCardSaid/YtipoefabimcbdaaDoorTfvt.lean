/- TH: the texts of values: the walks. Made by gen.py. -/
import Derived.Test.YtipoefabimcbdaaDoorTf3
import Derived.Test.YtipoefabimcbdaaDoorTfito
import Derived.Test.YtipoefabimcbdaaDoorTf4
namespace Go.TH
open Go Go.Proofs
set_option linter.unusedSimpArgs false
set_option linter.unusedVariables false
set_option maxHeartbeats 20000000
set_option maxRecDepth 100000
theorem q_FormatBool2 (b : Bool) : QCall Tryd.prog 28 [.bool b] (.str (if b then ⟨#[116, 114, 117, 101]⟩ else ⟨#[102, 97, 108, 115, 101]⟩)) := by
  cases b
  · refine qcall_body mixed Tryd.func28 _ (by unfold Tryd.f28; rfl) Tryd.ntmps28 Tryd.results28 (by decide) 0 (by simp) (by simp [pureL, pureA]) ?_
    simp (maxSteps := 4000000) (disch := omega) only [go_sem, w64, AndB_of, IfB_of, IfB_no, pickE_of, pickE_no, ite_of, ite_no, tdivE, tmodE, takeAll]
  · refine qcall_body mixed Tryd.func28 _ (by unfold Tryd.f28; rfl) Tryd.ntmps28 Tryd.results28 (by decide) 0 (by simp) (by simp [pureL, pureA]) ?_
    simp (maxSteps := 4000000) (disch := omega) only [go_sem, w64, AndB_of, IfB_of, IfB_no, pickE_of, pickE_no, ite_of, ite_no, tdivE, tmodE, takeAll]
theorem q_FormatBool (b : Bool) : QCall Tryd.prog 17 [.bool b] (.str (if b then ⟨#[116, 114, 117, 101]⟩ else ⟨#[102, 97, 108, 115, 101]⟩)) := by
  refine qcall_body mixed Tryd.func17 _ (by unfold Tryd.f17; rfl) Tryd.ntmps17 Tryd.results17 (by decide) 0 (by simp) (by simp [pureL, pureA]) ?_
  simp (maxSteps := 4000000) (disch := omega) only [go_sem, w64, AndB_of, IfB_of, IfB_no, pickE_of, pickE_no, ite_of, ite_no, tdivE, tmodE, takeAll]
  refine CallB.q (q_FormatBool2 b) ?_
  simp (maxSteps := 4000000) (disch := omega) only [go_sem, w64, AndB_of, IfB_of, IfB_no, pickE_of, pickE_no, ite_of, ite_no, tdivE, tmodE, takeAll]
theorem digN (d : Nat) (hd : d < 10) : bytesA [AV.int .u8 (IntKind.u8.wrap (48 + (d : Int)))] = ⟨#[UInt8.ofNat (48 + d)]⟩ := by
  rw [u8i_cell]
  refine (bytesA_bts (l := [u8i (48 + (d : Int))])).trans ?_
  unfold u8i
  rw [show ((48 + (d : Int)) % 256).toNat = 48 + d by omega]
theorem digN_len (u : Nat) (hu : u ≤ 1000000) : (Lib.decDigits u).length ≤ 20 := by
  rw [Lib.decDigits_length]
  rcases Nat.eq_zero_or_pos u with h | h
  · rw [h, Lib.nDigits_small (by omega)]
    omega
  · have := Lib.numDigits_eq u h (by omega)
    split at this <;> omega
theorem bs_app (a b : List UInt8) : (⟨a.toArray⟩ : ByteArray) ++ ⟨b.toArray⟩ = ⟨(a ++ b).toArray⟩ := by
  apply ByteArray.ext
  simp
theorem q_l1Plain (u : Nat) : u ≤ 1000000 → QCall Tryd.prog 24 [.int .i64 u] (.str ⟨(Lib.decDigits u).toArray⟩) := by
  induction u using Nat.strongRecOn with
  | ind u ih =>
  intro hu
  by_cases h10 : u < 10
  · have e := digN u h10
    refine qcall_body mixed Tryd.func24 _ (by unfold Tryd.f24; rfl) Tryd.ntmps24 Tryd.results24 (by decide) 0 (by simp) (by simp [pureL, pureA]) ?_
    simp (maxSteps := 4000000) (disch := omega) only [go_sem, w64, AndB_of, IfB_of, IfB_no, pickE_of, pickE_no, ite_of, ite_no, tdivE, tmodE, takeAll]
    rw [Lib.decDigits_one h10, e]
  · have eD : Lib.decDigits u = Lib.decDigits (u / 10) ++ [UInt8.ofNat (48 + u % 10)] := by rw [Lib.decDigits, dif_neg h10]
    have q := ih (u / 10) (by omega) (by omega)
    have hl := digN_len (u / 10) (by omega)
    have e := digN (u % 10) (by omega)
    have e2 : (u : Int) % 10 = ((u % 10 : Nat) : Int) := by omega
    refine qcall_body mixed Tryd.func24 _ (by unfold Tryd.f24; rfl) Tryd.ntmps24 Tryd.results24 (by decide) 0 (by simp) (by simp [pureL, pureA]) ?_
    simp (maxSteps := 4000000) (disch := omega) only [go_sem, w64, AndB_of, IfB_of, IfB_no, pickE_of, pickE_no, ite_of, ite_no, tdivE, tmodE, takeAll]
    refine DrawB.quiet (by kernel_rfl) ?_
    simp (maxSteps := 4000000) (disch := omega) only [go_sem, w64, AndB_of, IfB_of, IfB_no, pickE_of, pickE_no, ite_of, ite_no, tdivE, tmodE, takeAll]
    first | apply CallB.q (q) | apply DCallB.q0 (q)
    simp (maxSteps := 4000000) (disch := omega) only [go_sem, w64, AndB_of, IfB_of, IfB_no, pickE_of, pickE_no, ite_of, ite_no, tdivE, tmodE, takeAll]
    rw [eD, e2, e]
    exact congrArg AV.str (bs_app _ [_])
theorem q_l1Signed (n : Int) (h0 : -1000000 ≤ n) (h1 : n ≤ 1000000) : QCall Tryd.prog 14 [.int .i64 n] (.str ⟨(Lib.itoa n).toArray⟩) := by
  refine qcall_body mixed Tryd.func14 _ (by unfold Tryd.f14; rfl) Tryd.ntmps14 Tryd.results14 (by decide) 0 (by simp) (by simp [pureL, pureA]) ?_
  simp (maxSteps := 4000000) (disch := omega) only [go_sem, w64, AndB_of, IfB_of, IfB_no, pickE_of, pickE_no, ite_of, ite_no, tdivE, tmodE, takeAll]
  unfold Lib.itoa
  refine IfB.dec (fun h => ?_) (fun h => ?_)
  · have q := q_l1Plain n.natAbs (by omega)
    rw [show ((n.natAbs : Nat) : Int) = 0 - n by omega] at q
    have hl := digN_len n.natAbs (by omega)
    simp (maxSteps := 4000000) (disch := omega) only [go_sem, w64, AndB_of, IfB_of, IfB_no, pickE_of, pickE_no, ite_of, ite_no, tdivE, tmodE, takeAll]
    refine CallB.q q ?_
    simp (maxSteps := 4000000) (disch := omega) only [go_sem, w64, AndB_of, IfB_of, IfB_no, pickE_of, pickE_no, ite_of, ite_no, tdivE, tmodE, takeAll]
    exact congrArg AV.str (bs_app [_] _)
  · have q := q_l1Plain n.toNat (by omega)
    rw [show ((n.toNat : Nat) : Int) = n by omega] at q
    simp (maxSteps := 4000000) (disch := omega) only [go_sem, w64, AndB_of, IfB_of, IfB_no, pickE_of, pickE_no, ite_of, ite_no, tdivE, tmodE, takeAll]
    refine CallB.q q ?_
    simp (maxSteps := 4000000) (disch := omega) only [go_sem, w64, AndB_of, IfB_of, IfB_no, pickE_of, pickE_no, ite_of, ite_no, tdivE, tmodE, takeAll]
/-- What a value's text is. -/
def vText (v : GVal) : ByteArray :=
  if v.Ok then
    if v.k = 1 then ⟨(Lib.itoa v.n).toArray⟩
    else if v.k = 2 then ⟨#[39]⟩ ++ v.s ++ ⟨#[39]⟩
    else if v.k = 3 then (if v.n = 1 then ⟨#[116, 114, 117, 101]⟩ else ⟨#[102, 97, 108, 115, 101]⟩)
    else ⟨#[110, 111, 110, 101]⟩
  else ⟨#[]⟩
theorem vt_kinds {v : GVal} (h : v.Ok) : (v.k = 0 ∨ v.k = 1 ∨ v.k = 2 ∨ v.k = 3) ∧ (v.k = 1 → -9999 ≤ v.n ∧ v.n ≤ 9999) ∧ (v.k = 2 → v.s.size ≤ 6) ∧ (v.k = 3 → v.n = 0 ∨ v.n = 1) := by unfold GVal.Ok inR at h; omega
theorem q_ValueTextI (v : GVal) (hs : v.s.size ≤ 140737488355328) : QCall Tryd.prog 8 [.agg [.int .i64 v.k, .int .i64 v.n, .str v.s]] (.str (vText v)) := by
  refine qcall_body mixed Tryd.func8 _ (by unfold Tryd.f8; rfl) Tryd.ntmps8 Tryd.results8 (by decide) 0 (by simp) (by simp [pureL, pureA]) ?_
  simp (maxSteps := 4000000) (disch := omega) only [go_sem, w64, AndB_of, IfB_of, IfB_no, pickE_of, pickE_no, ite_of, ite_no, tdivE, tmodE, takeAll]
  refine CallB.q (q_ok v (by omega)) ?_
  simp (maxSteps := 4000000) (disch := omega) only [go_sem, w64, AndB_of, IfB_of, IfB_no, pickE_of, pickE_no, ite_of, ite_no, tdivE, tmodE, takeAll]
  by_cases hv : v.Ok
  · obtain ⟨hk, g1, g2, g3⟩ := vt_kinds hv
    unfold vText
    rcases hk with hk | hk | hk | hk
    · simp (maxSteps := 4000000) (disch := omega) only [go_sem, w64, AndB_of, IfB_of, IfB_no, pickE_of, pickE_no, ite_of, ite_no, tdivE, tmodE, takeAll, hv, hk]
    · have g := g1 hk
      simp (maxSteps := 4000000) (disch := omega) only [go_sem, w64, AndB_of, IfB_of, IfB_no, pickE_of, pickE_no, ite_of, ite_no, tdivE, tmodE, takeAll, hv, hk]
      refine CallB.q (q_Itoa v.n (by omega) (by omega)) ?_
      simp (maxSteps := 4000000) (disch := omega) only [go_sem, w64, AndB_of, IfB_of, IfB_no, pickE_of, pickE_no, ite_of, ite_no, tdivE, tmodE, takeAll]
    · have g := g2 hk
      simp (maxSteps := 4000000) (disch := omega) only [go_sem, w64, AndB_of, IfB_of, IfB_no, pickE_of, pickE_no, ite_of, ite_no, tdivE, tmodE, takeAll, hv, hk]
    · simp (maxSteps := 4000000) (disch := omega) only [go_sem, w64, AndB_of, IfB_of, IfB_no, pickE_of, pickE_no, ite_of, ite_no, tdivE, tmodE, takeAll, hv, hk]
      refine CallB.q (q_FormatBool _) ?_
      simp (maxSteps := 4000000) (disch := omega) only [go_sem, w64, AndB_of, IfB_of, IfB_no, pickE_of, pickE_no, ite_of, ite_no, tdivE, tmodE, takeAll]
      by_cases h1 : v.n = 1 <;> simp [h1]
  · unfold vText
    simp (maxSteps := 4000000) (disch := omega) only [go_sem, w64, AndB_of, IfB_of, IfB_no, pickE_of, pickE_no, ite_of, ite_no, tdivE, tmodE, takeAll, hv]
theorem q_ValueTextS (v : GVal) (hs : v.s.size ≤ 140737488355328) : QCall Tryd.prog 6 [.agg [.int .i64 v.k, .int .i64 v.n, .str v.s]] (.str (vText v)) := by
  refine qcall_body mixed Tryd.func6 _ (by unfold Tryd.f6; rfl) Tryd.ntmps6 Tryd.results6 (by decide) 0 (by simp) (by simp [pureL, pureA]) ?_
  simp (maxSteps := 4000000) (disch := omega) only [go_sem, w64, AndB_of, IfB_of, IfB_no, pickE_of, pickE_no, ite_of, ite_no, tdivE, tmodE, takeAll]
  refine CallB.q (q_ValueOkS v (by omega)) ?_
  simp (maxSteps := 4000000) (disch := omega) only [go_sem, w64, AndB_of, IfB_of, IfB_no, pickE_of, pickE_no, ite_of, ite_no, tdivE, tmodE, takeAll]
  by_cases hv : v.Ok
  · obtain ⟨hk, g1, g2, g3⟩ := vt_kinds hv
    unfold vText
    rcases hk with hk | hk | hk | hk
    · simp (maxSteps := 4000000) (disch := omega) only [go_sem, w64, AndB_of, IfB_of, IfB_no, pickE_of, pickE_no, ite_of, ite_no, tdivE, tmodE, takeAll, hv, hk]
    · have g := g1 hk
      simp (maxSteps := 4000000) (disch := omega) only [go_sem, w64, AndB_of, IfB_of, IfB_no, pickE_of, pickE_no, ite_of, ite_no, tdivE, tmodE, takeAll, hv, hk]
      refine CallB.q (q_l1Signed v.n (by omega) (by omega)) ?_
      simp (maxSteps := 4000000) (disch := omega) only [go_sem, w64, AndB_of, IfB_of, IfB_no, pickE_of, pickE_no, ite_of, ite_no, tdivE, tmodE, takeAll]
    · have g := g2 hk
      simp (maxSteps := 4000000) (disch := omega) only [go_sem, w64, AndB_of, IfB_of, IfB_no, pickE_of, pickE_no, ite_of, ite_no, tdivE, tmodE, takeAll, hv, hk]
    · rcases g3 hk with g | g
      · simp (maxSteps := 4000000) (disch := omega) only [go_sem, w64, AndB_of, IfB_of, IfB_no, pickE_of, pickE_no, ite_of, ite_no, tdivE, tmodE, takeAll, hv, hk, g]
      · simp (maxSteps := 4000000) (disch := omega) only [go_sem, w64, AndB_of, IfB_of, IfB_no, pickE_of, pickE_no, ite_of, ite_no, tdivE, tmodE, takeAll, hv, hk, g]
  · unfold vText
    simp (maxSteps := 4000000) (disch := omega) only [go_sem, w64, AndB_of, IfB_of, IfB_no, pickE_of, pickE_no, ite_of, ite_no, tdivE, tmodE, takeAll, hv]
end Go.TH
