/- TH: arguments of the laws. Made by boil.py and gen.py. -/
import Derived.Test.YtdifgeiodkiilaaTc0
import Derived.Test.YtdifgeiodkiilaaTf3
import Derived.WalkKit
import Derived.ProofKit
import Derived.OpenShut
import Derived.ShutString
import Derived.ChangeOld
import Derived.Below
import Derived.SizedLaws
namespace Go.TH
open Go Go.Proofs
section
variable {H : Type} {enc : TypeId × Value → H} {W : World} {spare : Nat → Bool} {held : Bool} {fuel : Nat} {cs : List Value} {x : DataW H × List MemPlace}
theorem cel_int : Try.prog.cellsOf 3 = 1 := by kernel_rfl
theorem in_i64 (h : DataW.trod enc Try.prog W 0 spare held fuel 3 cs = some x) : ∃ n : Int, (-9223372036854775808 ≤ n ∧ n ≤ 9223372036854775807) ∧ In W cs [.int .i64 n] := by
  obtain ⟨n, hw, hin⟩ := in_int Try.underlying3 h
  refine ⟨n, ?_, hin⟩
  have e1 : IntKind.i64.min = -9223372036854775808 := by decide
  have e2 : IntKind.i64.max = 9223372036854775807 := by decide
  simp [Lit.wf] at hw
  omega
theorem cel_u8 : Try.prog.cellsOf 5 = 1 := by kernel_rfl
theorem bytes_cells : ∀ l : List Int, (∀ n ∈ l, 0 ≤ n ∧ n < 256) → bytesCells ⟨(l.map fun n => UInt8.ofNat n.toNat).toArray⟩ = l.flatMap fun n => [AV.int .u8 n]
  | [], _ => rfl
  | n :: l, h => by
    have ih := bytes_cells l fun m hm => h m (List.mem_cons_of_mem _ hm)
    have hn := h n List.mem_cons_self
    simp only [bytesCells] at ih ⊢
    simp only [List.map_cons, List.flatMap_cons]
    rw [ih]
    simp
    omega
theorem in_bytes (h : DataW.trod enc Try.prog W 0 spare held fuel 29 cs = some x) : ∃ s : ByteArray, s.size ≤ 9223372036854775807 ∧ In W cs [.sl s.size false (bytesCells s)] := by
  obtain ⟨l, h1, h2, h3⟩ := in_slice Try.underlying29 (fun n : Int => [AV.int .u8 n]) (fun n => 0 ≤ n ∧ n < 256) cel_u8 (by omega) (fun fuel cs x h => by
    obtain ⟨n, hw, hin⟩ := in_int Try.underlying5 h
    refine ⟨n, ?_, hin⟩
    have e1 : IntKind.u8.min = 0 := by decide
    have e2 : IntKind.u8.max = 255 := by decide
    simp [Lit.wf] at hw
    omega) h
  have hs : (⟨(l.map fun n => UInt8.ofNat n.toNat).toArray⟩ : ByteArray).size = l.length := by simp [ByteArray.size]
  refine ⟨⟨(l.map fun n => UInt8.ofNat n.toNat).toArray⟩, by omega, ?_⟩
  rw [hs, bytes_cells l h1]
  exact h3
theorem cel_str : Try.prog.cellsOf 9 = 1 := by kernel_rfl
theorem cel_Value : Try.prog.cellsOf 61 = 3 := by kernel_rfl
theorem in_Value (h : DataW.trod enc Try.prog W 0 spare held fuel 61 cs = some x) : ∃ v : GVal, VBL v ∧ In W cs (GVal.c v) := by
  obtain ⟨xs, n, _, rfl, hl, hlen, hf⟩ := DataW.trod_struct Try.underlying61 h
  rw [cel_Value] at hl
  match xs, hlen with
  | [y0, y1, y2], _ =>
    have h0 := hf 0 ⟨_, 3, 0, _, _, _, _⟩ rfl
    dsimp only at h0
    rw [cel_int] at h0
    obtain ⟨a0, _, i0⟩ := in_int Try.underlying3 h0
    have h1 := hf 1 ⟨_, 3, 1, _, _, _, _⟩ rfl
    dsimp only at h1
    rw [cel_int] at h1
    obtain ⟨a1, _, i1⟩ := in_int Try.underlying3 h1
    have h2 := hf 2 ⟨_, 9, 2, _, _, _, _⟩ rfl
    dsimp only at h2
    rw [cel_str] at h2
    obtain ⟨a2, b2, i2⟩ := in_str Try.underlying9 h2
    exact ⟨⟨a0, a1, a2⟩, b2, (In.split (o := 0) i0 (In.split i1 (In.split i2 (In.last hl))))⟩
theorem in_ValueS (h : DataW.trod enc Try.prog W 0 spare held fuel 110 cs = some x) : ∃ l : List GVal, (l.length ≤ 9223372036854775807 ∧ ∀ v ∈ l, VBL v) ∧ In W cs [rowA l] := by
  obtain ⟨l, h1, h2, h3⟩ := in_slice Try.underlying110 GVal.c (fun v => VBL v) cel_Value (by omega) (fun fuel cs x h => in_Value h) h
  refine ⟨l, ⟨h2, h1⟩, ?_⟩
  rw [flat_flatMap] at h3
  exact h3
theorem cel_ValueS : Try.prog.cellsOf 110 = 1 := by kernel_rfl
theorem cel_Version : Try.prog.cellsOf 112 = 4 := by kernel_rfl
theorem in_Version (h : DataW.trod enc Try.prog W 0 spare held fuel 112 cs = some x) : ∃ v : GVer, VrBL v ∧ In W cs (GVer.c v) := by
  obtain ⟨xs, n, _, rfl, hl, hlen, hf⟩ := DataW.trod_struct Try.underlying112 h
  rw [cel_Version] at hl
  match xs, hlen with
  | [y0, y1, y2, y3], _ =>
    have h0 := hf 0 ⟨_, 3, 0, _, _, _, _⟩ rfl
    dsimp only at h0
    rw [cel_int] at h0
    obtain ⟨a0, _, i0⟩ := in_int Try.underlying3 h0
    have h1 := hf 1 ⟨_, 3, 1, _, _, _, _⟩ rfl
    dsimp only at h1
    rw [cel_int] at h1
    obtain ⟨a1, _, i1⟩ := in_int Try.underlying3 h1
    have h2 := hf 2 ⟨_, 3, 2, _, _, _, _⟩ rfl
    dsimp only at h2
    rw [cel_int] at h2
    obtain ⟨a2, _, i2⟩ := in_int Try.underlying3 h2
    have h3 := hf 3 ⟨_, 110, 3, _, _, _, _⟩ rfl
    dsimp only at h3
    rw [cel_ValueS] at h3
    obtain ⟨a3, b3, i3⟩ := in_ValueS h3
    exact ⟨⟨a0, a1, a2, a3⟩, b3, (In.split (o := 0) i0 (In.split i1 (In.split i2 (In.split i3 (In.last hl)))))⟩
theorem in_VersionS (h : DataW.trod enc Try.prog W 0 spare held fuel 40 cs = some x) : ∃ l : List GVer, (l.length ≤ 9223372036854775807 ∧ ∀ v ∈ l, VrBL v) ∧ In W cs [versA l] := by
  obtain ⟨l, h1, h2, h3⟩ := in_slice Try.underlying40 GVer.c (fun v => VrBL v) cel_Version (by omega) (fun fuel cs x h => in_Version h) h
  refine ⟨l, ⟨h2, h1⟩, ?_⟩
  rw [flat_flatMap] at h3
  exact h3
theorem cel_Mark : Try.prog.cellsOf 83 = 6 := by kernel_rfl
theorem in_Mark (h : DataW.trod enc Try.prog W 0 spare held fuel 83 cs = some x) : ∃ v : GMk, MkBL v ∧ In W cs (GMk.c v) := by
  obtain ⟨xs, n, _, rfl, hl, hlen, hf⟩ := DataW.trod_struct Try.underlying83 h
  rw [cel_Mark] at hl
  match xs, hlen with
  | [y0, y1, y2, y3], _ =>
    have h0 := hf 0 ⟨_, 61, 0, _, _, _, _⟩ rfl
    dsimp only at h0
    rw [cel_Value] at h0
    obtain ⟨a0, b0, i0⟩ := in_Value h0
    have h1 := hf 1 ⟨_, 3, 3, _, _, _, _⟩ rfl
    dsimp only at h1
    rw [cel_int] at h1
    obtain ⟨a1, _, i1⟩ := in_int Try.underlying3 h1
    have h2 := hf 2 ⟨_, 3, 4, _, _, _, _⟩ rfl
    dsimp only at h2
    rw [cel_int] at h2
    obtain ⟨a2, _, i2⟩ := in_int Try.underlying3 h2
    have h3 := hf 3 ⟨_, 3, 5, _, _, _, _⟩ rfl
    dsimp only at h3
    rw [cel_int] at h3
    obtain ⟨a3, _, i3⟩ := in_int Try.underlying3 h3
    exact ⟨⟨a0, a1, a2, a3⟩, b0, (In.split (o := 0) i0 (In.split i1 (In.split i2 (In.split i3 (In.last hl)))))⟩
theorem in_MarkS (h : DataW.trod enc Try.prog W 0 spare held fuel 22 cs = some x) : ∃ l : List GMk, (l.length ≤ 9223372036854775807 ∧ ∀ v ∈ l, MkBL v) ∧ In W cs [marksA l] := by
  obtain ⟨l, h1, h2, h3⟩ := in_slice Try.underlying22 GMk.c (fun v => MkBL v) cel_Mark (by omega) (fun fuel cs x h => in_Mark h) h
  refine ⟨l, ⟨h2, h1⟩, ?_⟩
  rw [flat_flatMap] at h3
  exact h3
theorem cel_bool : Try.prog.cellsOf 4 = 1 := by kernel_rfl
theorem cel_Write : Try.prog.cellsOf 156 = 3 := by kernel_rfl
theorem in_Write (h : DataW.trod enc Try.prog W 0 spare held fuel 156 cs = some x) : ∃ v : GWr, WBL v ∧ In W cs (GWr.c v) := by
  obtain ⟨xs, n, _, rfl, hl, hlen, hf⟩ := DataW.trod_struct Try.underlying156 h
  rw [cel_Write] at hl
  match xs, hlen with
  | [y0, y1, y2], _ =>
    have h0 := hf 0 ⟨_, 3, 0, _, _, _, _⟩ rfl
    dsimp only at h0
    rw [cel_int] at h0
    obtain ⟨a0, _, i0⟩ := in_int Try.underlying3 h0
    have h1 := hf 1 ⟨_, 110, 1, _, _, _, _⟩ rfl
    dsimp only at h1
    rw [cel_ValueS] at h1
    obtain ⟨a1, b1, i1⟩ := in_ValueS h1
    have h2 := hf 2 ⟨_, 4, 2, _, _, _, _⟩ rfl
    dsimp only at h2
    rw [cel_bool] at h2
    obtain ⟨a2, i2⟩ := in_bool Try.underlying4 h2
    exact ⟨⟨a0, a1, a2⟩, b1, (In.split (o := 0) i0 (In.split i1 (In.split i2 (In.last hl))))⟩
theorem in_WriteS (h : DataW.trod enc Try.prog W 0 spare held fuel 104 cs = some x) : ∃ l : List GWr, (l.length ≤ 9223372036854775807 ∧ ∀ v ∈ l, WBL v) ∧ In W cs [wrsA l] := by
  obtain ⟨l, h1, h2, h3⟩ := in_slice Try.underlying104 GWr.c (fun v => WBL v) cel_Write (by omega) (fun fuel cs x h => in_Write h) h
  refine ⟨l, ⟨h2, h1⟩, ?_⟩
  rw [flat_flatMap] at h3
  exact h3
theorem cel_WriteS : Try.prog.cellsOf 104 = 1 := by kernel_rfl
theorem cel_Entry : Try.prog.cellsOf 106 = 2 := by kernel_rfl
theorem in_Entry (h : DataW.trod enc Try.prog W 0 spare held fuel 106 cs = some x) : ∃ v : GEn, EnBL v ∧ In W cs (GEn.c v) := by
  obtain ⟨xs, n, _, rfl, hl, hlen, hf⟩ := DataW.trod_struct Try.underlying106 h
  rw [cel_Entry] at hl
  match xs, hlen with
  | [y0, y1], _ =>
    have h0 := hf 0 ⟨_, 3, 0, _, _, _, _⟩ rfl
    dsimp only at h0
    rw [cel_int] at h0
    obtain ⟨a0, _, i0⟩ := in_int Try.underlying3 h0
    have h1 := hf 1 ⟨_, 104, 1, _, _, _, _⟩ rfl
    dsimp only at h1
    rw [cel_WriteS] at h1
    obtain ⟨a1, b1, i1⟩ := in_WriteS h1
    exact ⟨⟨a0, a1⟩, b1, (In.split (o := 0) i0 (In.split i1 (In.last hl)))⟩
theorem in_EntryS (h : DataW.trod enc Try.prog W 0 spare held fuel 35 cs = some x) : ∃ l : List GEn, (l.length ≤ 9223372036854775807 ∧ ∀ v ∈ l, EnBL v) ∧ In W cs [entsA l] := by
  obtain ⟨l, h1, h2, h3⟩ := in_slice Try.underlying35 GEn.c (fun v => EnBL v) cel_Entry (by omega) (fun fuel cs x h => in_Entry h) h
  refine ⟨l, ⟨h2, h1⟩, ?_⟩
  rw [flat_flatMap] at h3
  exact h3
end
end Go.TH
