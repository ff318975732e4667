/- TH: the row of FnExactVersionsOk. Made by gen.py. -/
import Derived.Test.YtbhibkochjfdfaaRows
import Derived.Test.YtbhibkochjfdfaaTaL1
import Derived.WalkKit
import Derived.ProofKit
import Derived.OpenShut
import Derived.ShutString
import Derived.ChangeOld
import Derived.Below
import Derived.SizedLaws
namespace Go.TH
open Go Go.Proofs
section
variable {H : Type} {enc : TypeId × Value → H} {W : World} {spare : Nat → Bool} {held : Bool} {fuel : Nat} {cs : List Value} {x : DataW H × List MemPlace}
theorem cel3 : Try.prog.cellsOf 3 = 1 := by kernel_rfl
theorem cel9 : Try.prog.cellsOf 9 = 1 := by kernel_rfl
theorem cel42 : Try.prog.cellsOf 42 = 1 := by kernel_rfl
theorem cel115 : Try.prog.cellsOf 115 = 3 := by kernel_rfl
theorem cel95 : Try.prog.cellsOf 95 = 4 := by kernel_rfl
theorem in_val (h : DataW.trod enc Try.prog W 0 spare held fuel 115 cs = some x) : ∃ v : GVal, v.s.size ≤ 9223372036854775807 ∧ In W cs (GVal.c v) := by
  obtain ⟨xs, n, _, rfl, hl, hlen, hf⟩ := DataW.trod_struct Try.underlying115 h
  rw [cel115] at hl
  match xs, hlen with
  | [y0, y1, y2], _ =>
    have h0 := hf 0 ⟨_, 3, 0, _, _, _, _⟩ rfl
    have h1 := hf 1 ⟨_, 3, 1, _, _, _, _⟩ rfl
    have h2 := hf 2 ⟨_, 9, 2, _, _, _, _⟩ rfl
    dsimp only at h0 h1 h2
    rw [cel3] at h0
    rw [cel3] at h1
    rw [cel9] at h2
    obtain ⟨k, _, i0⟩ := in_int Try.underlying3 h0
    obtain ⟨m, _, i1⟩ := in_int Try.underlying3 h1
    obtain ⟨s, hs, i2⟩ := in_str Try.underlying9 h2
    exact ⟨⟨k, m, s⟩, hs, In.split (o := 0) i0 (In.split i1 (In.split i2 (In.last hl)))⟩
theorem in_row (h : DataW.trod enc Try.prog W 0 spare held fuel 42 cs = some x) : ∃ l : GRow, l.length ≤ 9223372036854775807 ∧ (∀ v ∈ l, v.s.size ≤ 9223372036854775807) ∧ In W cs [rowA l] := by
  obtain ⟨l, h1, h2, h3⟩ := in_slice Try.underlying42 GVal.c (fun v => v.s.size ≤ 9223372036854775807) cel115 (by omega) (fun fuel cs x h => in_val h) h
  refine ⟨l, h2, h1, ?_⟩
  rw [flat_flatMap] at h3
  exact h3
theorem in_ver (h : DataW.trod enc Try.prog W 0 spare held fuel 95 cs = some x) : ∃ v : GVer, (v.row.length ≤ 9223372036854775807 ∧ ∀ y ∈ v.row, y.s.size ≤ 9223372036854775807) ∧ In W cs (GVer.c v) := by
  obtain ⟨xs, n, _, rfl, hl, hlen, hf⟩ := DataW.trod_struct Try.underlying95 h
  rw [cel95] at hl
  match xs, hlen with
  | [y0, y1, y2, y3], _ =>
    have h0 := hf 0 ⟨_, 3, 0, _, _, _, _⟩ rfl
    have h1 := hf 1 ⟨_, 3, 1, _, _, _, _⟩ rfl
    have h2 := hf 2 ⟨_, 3, 2, _, _, _, _⟩ rfl
    have h3 := hf 3 ⟨_, 42, 3, _, _, _, _⟩ rfl
    dsimp only at h0 h1 h2 h3
    rw [cel3] at h0
    rw [cel3] at h1
    rw [cel3] at h2
    rw [cel42] at h3
    obtain ⟨a, _, i0⟩ := in_int Try.underlying3 h0
    obtain ⟨b, _, i1⟩ := in_int Try.underlying3 h1
    obtain ⟨c, _, i2⟩ := in_int Try.underlying3 h2
    obtain ⟨r, hr, hs, i3⟩ := in_row h3
    exact ⟨⟨a, b, c, r⟩, ⟨hr, hs⟩, In.split (o := 0) i0 (In.split i1 (In.split i2 (In.split i3 (In.last hl))))⟩
theorem in_vers (h : DataW.trod enc Try.prog W 0 spare held fuel 22 cs = some x) : ∃ l : List GVer, l.length ≤ 9223372036854775807 ∧ (∀ v ∈ l, v.row.length ≤ 9223372036854775807 ∧ ∀ y ∈ v.row, y.s.size ≤ 9223372036854775807) ∧ In W cs [versA l] := by
  obtain ⟨l, h1, h2, h3⟩ := in_slice Try.underlying22 GVer.c (fun v => v.row.length ≤ 9223372036854775807 ∧ ∀ y ∈ v.row, y.s.size ≤ 9223372036854775807) cel95 (by omega) (fun fuel cs x h => in_ver h) h
  refine ⟨l, h2, h1, ?_⟩
  rw [flat_flatMap] at h3
  exact h3
end
end Go.TH
namespace Go.Proofs.Ytbhibkochjfdfaa.fnExactVersionsOk
open Go.ChangeShapes Go.WideShapes Go.ChangeAt Go.RowKit
open Go.ChangeMaps (open_string shut_string)
theorem own : ownKnob Try.prog.godebug = none := by kernel_rfl
theorem laidOut : laidOutB Try.prog = true := by kernel_rfl
set_option maxRecDepth 100000 in
theorem lifted (os : Os) (started : os.Started) (H : Type) (enc : TypeId × Value → H) :
    ReturnsInHanded {} Try.checked os 3 .any (Rows.fnExactVersionsOkSpec.pre6 enc Try.prog Try.f3 Rows.fnExactVersionsOkRow.domain false) (Rows.fnExactVersionsOkSpec.post enc Try.prog Try.f3 false true false false) := by
  refine returnsInHanded_of_change_sized (C := Try.checked) own started (by kernel_rfl) Try.func3
    (ChangeSpec.witness6 (enc := enc) (C := Try.checked) false ⟨#[], #[.slice none 0 0], []⟩ 8 (by kernel_rfl) (by kernel_rfl) (by kernel_rfl) (by kernel_rfl)) ?_
  intro W base args ds gs before hval0 hW hcnd hsz0 _
  have hval : ∀ (j : Nat) t v, Try.f3.params[j]? = some t → args[j]? = some v → Value.okWide Try.prog W .any base t v := hval0
  have hW' := hW
  obtain ⟨p, q, hA0, hV, rfl, hfz, hnd⟩ := hW
  have hA : DataW.TrodAll enc Try.prog W 0 (fun _ => true) true Try.f3.params.toList args.toList ds p := hA0
  rw [Try.params3] at hA hval
  obtain ⟨v0, vs0, d0, ds0, p0, q0, hargs, rfl, rfl, h0, r0⟩ := trodAll_cons hA
  obtain ⟨rfl, rfl, rfl⟩ := trodAll_nil r0
  obtain rfl : args = #[v0] := by cases args; simp_all
  obtain ⟨rfl, rfl⟩ := trodVars_none hV
  obtain ⟨a0, len0, cap0, rfl⟩ := okWide_slice Try.underlying22 (hval 0 22 v0 rfl rfl)
  have k0 := h0
  have lt0 : ∀ x ∈ p0, x.block < W.heap.size := by obtain ⟨m, hm⟩ := k0; exact DataW.trod_lt m _ _ _ hm
  obtain ⟨fuel, hf⟩ := h0
  obtain ⟨l, hl, hs, hin⟩ := Go.TH.in_vers hf
  clear hA0 hval0 hsz0
  refine (Go.TH.law_calls (Go.TH.w_VersionsOk l hl hs) hin).mono fun e W' ⟨he, bel⟩ => ?_
  subst he
  exact ⟨_, rfl, _, _, _, [], _, [], hW', trodAll_mk1 (shut_bool Try.underlying4 _), (trodAll_cons_mk (Below.trod laidOut (by kernel_rfl) (of_decide_eq_true (by kernel_rfl)) k0 bel lt0) trodAll_mk0), rfl, bel.frame _, fun h => by cases h⟩
theorem over : Rows.fnExactVersionsOkRow.holds Try.pinned (OpenSpec.ofChange Rows.fnExactVersionsOkSpec) :=
  OpenClaim.holds_of_wide 3 Try.f3 rfl rfl rfl rfl rfl rfl rfl ⟨rfl, rfl, rfl, rfl, rfl⟩ rfl rfl rfl rfl rfl (by kernel_rfl) Try.func3 (by kernel_rfl)
    (of_decide_eq_true (by kernel_rfl)) (by unfold Func.isWrapper; first | (rw [if_pos (by decide +kernel)]; kernel_rfl) | (rw [if_neg (by decide +kernel)]; exact ⟨rfl, rfl⟩))
    (fun os started H enc _ => lifted os started H enc)
theorem proved : Rows.FnExactVersionsOkSaid := over
end Go.Proofs.Ytbhibkochjfdfaa.fnExactVersionsOk
namespace Go.Proofs.Ytbhibkochjfdfaa
/-- The row, for the claim. -/
theorem fnExactVersionsOk_holds : Rows.FnExactVersionsOkSaid := fnExactVersionsOk.proved
end Go.Proofs.Ytbhibkochjfdfaa
