/- TH: the law FnExactVersionsOk. Made by gen.py. -/
import Derived.Test.YtbhibkochjfdfaaTax
import Derived.Test.YtbhibkochjfdfaaTay
namespace Go.TH
open Go Go.Proofs
set_option linter.unusedSimpArgs false
set_option linter.unusedVariables false
set_option maxHeartbeats 20000000
set_option maxRecDepth 100000
theorem szVerL_bound : ∀ (l : List GVer) {left : Int}, 0 ≤ left → 0 ≤ szVerL l left → ∀ v ∈ l, (v.row.length : Int) ≤ left
  | [], left, h, _, v, hv => by simp at hv
  | w :: r, left, h, hp, v, hv => by
    simp only [szVerL] at hp
    have := szRow_lo w.row h
    split at hp
    · omega
    · rcases List.mem_cons.1 hv with rfl | hv
      · omega
      · have := szVerL_bound r (by omega) hp v hv
        omega
theorem szVers_bound {l : List GVer} {left : Int} (h : 0 ≤ left) (hp : 0 ≤ szVers l left) : (l.length : Int) ≤ left ∧ ∀ v ∈ l, (v.row.length : Int) ≤ left := by
  unfold szVers at hp
  split at hp
  · omega
  · refine ⟨by omega, fun v hv => ?_⟩
    have := szVerL_bound l (by omega) hp v hv
    omega
theorem w_VersionsOk (l : List GVer) (hl : l.length ≤ 9223372036854775807) (hs : ∀ v ∈ l, v.row.length ≤ 9223372036854775807 ∧ ∀ x ∈ v.row, x.s.size ≤ 9223372036854775807) :
    CallQ Try.prog 3 [versA l] noH 0 fun r _ _ => r = .bool true := by
  refine callQ_body mixed Try.func3 _ (by unfold Try.f3; rfl) Try.ntmps3 Try.results3 (by decide) (by simp) ?_
  simp (maxSteps := 4000000) (disch := omega) only [go_sem, w64, AndB_of, IfB_of, IfB_no, pickE_of, pickE_no, ite_of, ite_no, tdivE, tmodE]
  refine CallB.q (q_szVersionS l 1048576 (by omega) (by omega) hl hs) ?_
  simp (maxSteps := 4000000) (disch := omega) only [go_sem, w64, AndB_of, IfB_of, IfB_no, pickE_of, pickE_no, ite_of, ite_no, tdivE, tmodE]
  refine IfB.dec (fun h => ?_) (fun h => ?_)
  · simp (maxSteps := 4000000) (disch := omega) only [go_sem, w64, AndB_of, IfB_of, IfB_no, pickE_of, pickE_no, ite_of, ite_no, tdivE, tmodE]
  · have hb := szVers_bound (l := l) (left := 1048576) (by omega) (by omega)
    have h1 : l.length ≤ 1048576 := by omega
    have h2 : ∀ v ∈ l, v.row.length ≤ 1048576 := fun v hv => by have := hb.2 v hv; omega
    have h3 : ∀ v ∈ l, v.row.length ≤ 1048576 ∧ ∀ x ∈ v.row, x.s.size ≤ 9223372036854775807 := fun v hv => ⟨h2 v hv, (hs v hv).2⟩
    simp (maxSteps := 4000000) (disch := omega) only [go_sem, w64, AndB_of, IfB_of, IfB_no, pickE_of, pickE_no, ite_of, ite_no, tdivE, tmodE]
    repeat' (first | (refine IfB.dec (fun h => ?_) (fun h => ?_) <;> (try (have h2 := h; unfold inR at h2)) <;> simp (maxSteps := 4000000) (disch := omega) only [go_sem, w64, AndB_of, IfB_of, IfB_no, pickE_of, pickE_no, ite_of, ite_no, tdivE, tmodE, h]) | (refine IfB.split (fun h => ?_) (fun h => ?_) <;> simp (maxSteps := 4000000) (disch := omega) only [go_sem, w64, AndB_of, IfB_of, IfB_no, pickE_of, pickE_no, ite_of, ite_no, tdivE, tmodE, h]) | (refine DrawB.quiet (by kernel_rfl) ?_; simp (maxSteps := 4000000) (disch := omega) only [go_sem, w64, AndB_of, IfB_of, IfB_no, pickE_of, pickE_no, ite_of, ite_no, tdivE, tmodE]) | (apply CallB.q (q_toVersionS l h1 h2); simp (maxSteps := 4000000) (disch := omega) only [go_sem, w64, AndB_of, IfB_of, IfB_no, pickE_of, pickE_no, ite_of, ite_no, tdivE, tmodE]) | (apply CallB.q (q_VersionsOkS l h1 h3); simp (maxSteps := 4000000) (disch := omega) only [go_sem, w64, AndB_of, IfB_of, IfB_no, pickE_of, pickE_no, ite_of, ite_no, tdivE, tmodE]) | (apply CallB.q (q_VersionsOkI l h1 h3); simp (maxSteps := 4000000) (disch := omega) only [go_sem, w64, AndB_of, IfB_of, IfB_no, pickE_of, pickE_no, ite_of, ite_no, tdivE, tmodE]) | (apply CallB.q (q_eqVersionS l l h1 h2); simp (maxSteps := 4000000) (disch := omega) only [go_sem, w64, AndB_of, IfB_of, IfB_no, pickE_of, pickE_no, ite_of, ite_no, tdivE, tmodE]) | (apply DCallB.q0 (q_toVersionS l h1 h2); simp (maxSteps := 4000000) (disch := omega) only [go_sem, w64, AndB_of, IfB_of, IfB_no, pickE_of, pickE_no, ite_of, ite_no, tdivE, tmodE]) | (apply DCallB.q0 (q_VersionsOkS l h1 h3); simp (maxSteps := 4000000) (disch := omega) only [go_sem, w64, AndB_of, IfB_of, IfB_no, pickE_of, pickE_no, ite_of, ite_no, tdivE, tmodE]) | (apply DCallB.q0 (q_VersionsOkI l h1 h3); simp (maxSteps := 4000000) (disch := omega) only [go_sem, w64, AndB_of, IfB_of, IfB_no, pickE_of, pickE_no, ite_of, ite_no, tdivE, tmodE]) | (apply DCallB.q0 (q_eqVersionS l l h1 h2); simp (maxSteps := 4000000) (disch := omega) only [go_sem, w64, AndB_of, IfB_of, IfB_no, pickE_of, pickE_no, ite_of, ite_no, tdivE, tmodE]))
    all_goals simp_all
end Go.TH
