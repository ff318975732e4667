/- TH: arguments of the laws. Made by gen.py. -/
import Derived.Test.YtbhibkochjfdfaaTav
import Derived.WalkKit
import Derived.ProofKit
import Derived.OpenShut
import Derived.ShutString
import Derived.ChangeOld
import Derived.Below
import Derived.SizedLaws
namespace Go.TH
open Go Go.Proofs
section
variable {H : Type} {enc : TypeId × Value → H} {W : World} {spare : Nat → Bool} {held : Bool} {fuel : Nat} {cs : List Value} {x : DataW H × List MemPlace}
theorem cel3 : Try.prog.cellsOf 3 = 1 := by kernel_rfl
theorem cel9 : Try.prog.cellsOf 9 = 1 := by kernel_rfl
theorem cel42 : Try.prog.cellsOf 42 = 1 := by kernel_rfl
theorem cel115 : Try.prog.cellsOf 115 = 3 := by kernel_rfl
theorem cel95 : Try.prog.cellsOf 95 = 4 := by kernel_rfl
theorem in_val (h : DataW.trod enc Try.prog W 0 spare held fuel 115 cs = some x) : ∃ v : GVal, v.s.size ≤ 9223372036854775807 ∧ In W cs (GVal.c v) := by
  obtain ⟨xs, n, _, rfl, hl, hlen, hf⟩ := DataW.trod_struct Try.underlying115 h
  rw [cel115] at hl
  match xs, hlen with
  | [y0, y1, y2], _ =>
    have h0 := hf 0 ⟨_, 3, 0, _, _, _, _⟩ rfl
    have h1 := hf 1 ⟨_, 3, 1, _, _, _, _⟩ rfl
    have h2 := hf 2 ⟨_, 9, 2, _, _, _, _⟩ rfl
    dsimp only at h0 h1 h2
    rw [cel3] at h0
    rw [cel3] at h1
    rw [cel9] at h2
    obtain ⟨k, _, i0⟩ := in_int Try.underlying3 h0
    obtain ⟨m, _, i1⟩ := in_int Try.underlying3 h1
    obtain ⟨s, hs, i2⟩ := in_str Try.underlying9 h2
    exact ⟨⟨k, m, s⟩, hs, In.split (o := 0) i0 (In.split i1 (In.split i2 (In.last hl)))⟩
theorem in_row (h : DataW.trod enc Try.prog W 0 spare held fuel 42 cs = some x) : ∃ l : GRow, l.length ≤ 9223372036854775807 ∧ (∀ v ∈ l, v.s.size ≤ 9223372036854775807) ∧ In W cs [rowA l] := by
  obtain ⟨l, h1, h2, h3⟩ := in_slice Try.underlying42 GVal.c (fun v => v.s.size ≤ 9223372036854775807) cel115 (by omega) (fun fuel cs x h => in_val h) h
  refine ⟨l, h2, h1, ?_⟩
  rw [flat_flatMap] at h3
  exact h3
theorem in_ver (h : DataW.trod enc Try.prog W 0 spare held fuel 95 cs = some x) : ∃ v : GVer, (v.row.length ≤ 9223372036854775807 ∧ ∀ y ∈ v.row, y.s.size ≤ 9223372036854775807) ∧ In W cs (GVer.c v) := by
  obtain ⟨xs, n, _, rfl, hl, hlen, hf⟩ := DataW.trod_struct Try.underlying95 h
  rw [cel95] at hl
  match xs, hlen with
  | [y0, y1, y2, y3], _ =>
    have h0 := hf 0 ⟨_, 3, 0, _, _, _, _⟩ rfl
    have h1 := hf 1 ⟨_, 3, 1, _, _, _, _⟩ rfl
    have h2 := hf 2 ⟨_, 3, 2, _, _, _, _⟩ rfl
    have h3 := hf 3 ⟨_, 42, 3, _, _, _, _⟩ rfl
    dsimp only at h0 h1 h2 h3
    rw [cel3] at h0
    rw [cel3] at h1
    rw [cel3] at h2
    rw [cel42] at h3
    obtain ⟨a, _, i0⟩ := in_int Try.underlying3 h0
    obtain ⟨b, _, i1⟩ := in_int Try.underlying3 h1
    obtain ⟨c, _, i2⟩ := in_int Try.underlying3 h2
    obtain ⟨r, hr, hs, i3⟩ := in_row h3
    exact ⟨⟨a, b, c, r⟩, ⟨hr, hs⟩, In.split (o := 0) i0 (In.split i1 (In.split i2 (In.split i3 (In.last hl))))⟩
theorem in_vers (h : DataW.trod enc Try.prog W 0 spare held fuel 22 cs = some x) : ∃ l : List GVer, l.length ≤ 9223372036854775807 ∧ (∀ v ∈ l, v.row.length ≤ 9223372036854775807 ∧ ∀ y ∈ v.row, y.s.size ≤ 9223372036854775807) ∧ In W cs [versA l] := by
  obtain ⟨l, h1, h2, h3⟩ := in_slice Try.underlying22 GVer.c (fun v => v.row.length ≤ 9223372036854775807 ∧ ∀ y ∈ v.row, y.s.size ≤ 9223372036854775807) cel95 (by omega) (fun fuel cs x h => in_ver h) h
  refine ⟨l, h2, h1, ?_⟩
  rw [flat_flatMap] at h3
  exact h3
theorem cel5 : Try.prog.cellsOf 5 = 1 := by kernel_rfl
theorem in_i64 (h : DataW.trod enc Try.prog W 0 spare held fuel 3 cs = some x) : ∃ n : Int, (-9223372036854775808 ≤ n ∧ n ≤ 9223372036854775807) ∧ In W cs [.int .i64 n] := by
  obtain ⟨n, hw, hin⟩ := in_int Try.underlying3 h
  refine ⟨n, ?_, hin⟩
  have e1 : IntKind.i64.min = -9223372036854775808 := by decide
  have e2 : IntKind.i64.max = 9223372036854775807 := by decide
  simp [Lit.wf] at hw
  omega
theorem bytes_cells : ∀ l : List Int, (∀ n ∈ l, 0 ≤ n ∧ n < 256) → bytesCells ⟨(l.map fun n => UInt8.ofNat n.toNat).toArray⟩ = l.flatMap fun n => [AV.int .u8 n]
  | [], _ => rfl
  | n :: l, h => by
    have ih := bytes_cells l fun m hm => h m (List.mem_cons_of_mem _ hm)
    have hn := h n List.mem_cons_self
    simp only [bytesCells] at ih ⊢
    simp only [List.map_cons, List.flatMap_cons]
    rw [ih]
    simp
    omega
theorem in_bytes (h : DataW.trod enc Try.prog W 0 spare held fuel 29 cs = some x) : ∃ s : ByteArray, s.size ≤ 9223372036854775807 ∧ In W cs [.sl s.size false (bytesCells s)] := by
  obtain ⟨l, h1, h2, h3⟩ := in_slice Try.underlying29 (fun n : Int => [AV.int .u8 n]) (fun n => 0 ≤ n ∧ n < 256) cel5 (by omega) (fun fuel cs x h => by
    obtain ⟨n, hw, hin⟩ := in_int Try.underlying5 h
    refine ⟨n, ?_, hin⟩
    have e1 : IntKind.u8.min = 0 := by decide
    have e2 : IntKind.u8.max = 255 := by decide
    simp [Lit.wf] at hw
    omega) h
  have hs : (⟨(l.map fun n => UInt8.ofNat n.toNat).toArray⟩ : ByteArray).size = l.length := by simp [ByteArray.size]
  refine ⟨⟨(l.map fun n => UInt8.ofNat n.toNat).toArray⟩, by omega, ?_⟩
  rw [hs, bytes_cells l h1]
  exact h3
end
end Go.TH
