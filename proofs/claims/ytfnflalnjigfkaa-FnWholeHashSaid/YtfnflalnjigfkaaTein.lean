/- TH: arguments of the laws. Made by boil.py and gen.py. -/
import Derived.Test.YtfnflalnjigfkaaTe0
import Derived.Test.YtfnflalnjigfkaaTf3
import Derived.WalkKit
import Derived.ProofKit
import Derived.OpenShut
import Derived.ShutString
import Derived.ChangeOld
import Derived.Below
import Derived.SizedLaws
namespace Go.TH
open Go Go.Proofs
section
variable {H : Type} {enc : TypeId × Value → H} {W : World} {spare : Nat → Bool} {held : Bool} {fuel : Nat} {cs : List Value} {x : DataW H × List MemPlace}
theorem cel_int : Try.prog.cellsOf 3 = 1 := by kernel_rfl
theorem in_i64 (h : DataW.trod enc Try.prog W 0 spare held fuel 3 cs = some x) : ∃ n : Int, (-9223372036854775808 ≤ n ∧ n ≤ 9223372036854775807) ∧ In W cs [.int .i64 n] := by
  obtain ⟨n, hw, hin⟩ := in_int Try.underlying3 h
  refine ⟨n, ?_, hin⟩
  have e1 : IntKind.i64.min = -9223372036854775808 := by decide
  have e2 : IntKind.i64.max = 9223372036854775807 := by decide
  simp [Lit.wf] at hw
  omega
theorem cel_u8 : Try.prog.cellsOf 5 = 1 := by kernel_rfl
theorem bytes_cells : ∀ l : List Int, (∀ n ∈ l, 0 ≤ n ∧ n < 256) → bytesCells ⟨(l.map fun n => UInt8.ofNat n.toNat).toArray⟩ = l.flatMap fun n => [AV.int .u8 n]
  | [], _ => rfl
  | n :: l, h => by
    have ih := bytes_cells l fun m hm => h m (List.mem_cons_of_mem _ hm)
    have hn := h n List.mem_cons_self
    simp only [bytesCells] at ih ⊢
    simp only [List.map_cons, List.flatMap_cons]
    rw [ih]
    simp
    omega
theorem in_bytes (h : DataW.trod enc Try.prog W 0 spare held fuel 30 cs = some x) : ∃ s : ByteArray, s.size ≤ 9223372036854775807 ∧ In W cs [.sl s.size false (bytesCells s)] := by
  obtain ⟨l, h1, h2, h3⟩ := in_slice Try.underlying30 (fun n : Int => [AV.int .u8 n]) (fun n => 0 ≤ n ∧ n < 256) cel_u8 (by omega) (fun fuel cs x h => by
    obtain ⟨n, hw, hin⟩ := in_int Try.underlying5 h
    refine ⟨n, ?_, hin⟩
    have e1 : IntKind.u8.min = 0 := by decide
    have e2 : IntKind.u8.max = 255 := by decide
    simp [Lit.wf] at hw
    omega) h
  have hs : (⟨(l.map fun n => UInt8.ofNat n.toNat).toArray⟩ : ByteArray).size = l.length := by simp [ByteArray.size]
  refine ⟨⟨(l.map fun n => UInt8.ofNat n.toNat).toArray⟩, by omega, ?_⟩
  rw [hs, bytes_cells l h1]
  exact h3
theorem cel_str : Try.prog.cellsOf 9 = 1 := by kernel_rfl
theorem cel_Value : Try.prog.cellsOf 112 = 3 := by kernel_rfl
theorem in_Value (h : DataW.trod enc Try.prog W 0 spare held fuel 112 cs = some x) : ∃ v : GVal, VBL v ∧ In W cs (GVal.c v) := by
  obtain ⟨xs, n, _, rfl, hl, hlen, hf⟩ := DataW.trod_struct Try.underlying112 h
  rw [cel_Value] at hl
  match xs, hlen with
  | [y0, y1, y2], _ =>
    have h0 := hf 0 ⟨_, 3, 0, _, _, _, _⟩ rfl
    dsimp only at h0
    rw [cel_int] at h0
    obtain ⟨a0, _, i0⟩ := in_int Try.underlying3 h0
    have h1 := hf 1 ⟨_, 3, 1, _, _, _, _⟩ rfl
    dsimp only at h1
    rw [cel_int] at h1
    obtain ⟨a1, _, i1⟩ := in_int Try.underlying3 h1
    have h2 := hf 2 ⟨_, 9, 2, _, _, _, _⟩ rfl
    dsimp only at h2
    rw [cel_str] at h2
    obtain ⟨a2, b2, i2⟩ := in_str Try.underlying9 h2
    exact ⟨⟨a0, a1, a2⟩, b2, (In.split (o := 0) i0 (In.split i1 (In.split i2 (In.last hl))))⟩
theorem in_ValueS (h : DataW.trod enc Try.prog W 0 spare held fuel 86 cs = some x) : ∃ l : List GVal, (l.length ≤ 9223372036854775807 ∧ ∀ v ∈ l, VBL v) ∧ In W cs [rowA l] := by
  obtain ⟨l, h1, h2, h3⟩ := in_slice Try.underlying86 GVal.c (fun v => VBL v) cel_Value (by omega) (fun fuel cs x h => in_Value h) h
  refine ⟨l, ⟨h2, h1⟩, ?_⟩
  rw [flat_flatMap] at h3
  exact h3
theorem cel_ValueS : Try.prog.cellsOf 86 = 1 := by kernel_rfl
theorem in_ValueSS (h : DataW.trod enc Try.prog W 0 spare held fuel 22 cs = some x) : ∃ l : List GRow, (l.length ≤ 9223372036854775807 ∧ ∀ v ∈ l, v.length ≤ 9223372036854775807 ∧ ∀ x ∈ v, VBL x) ∧ In W cs [rowsA l] := by
  obtain ⟨l, h1, h2, h3⟩ := in_slice Try.underlying22 cR (fun v => v.length ≤ 9223372036854775807 ∧ ∀ x ∈ v, VBL x) cel_ValueS (by omega) (fun fuel cs x h => in_ValueS h) h
  refine ⟨l, ⟨h2, h1⟩, ?_⟩
  rw [flat_flatMap] at h3
  exact h3
theorem cel_bool : Try.prog.cellsOf 4 = 1 := by kernel_rfl
theorem in_BoolS (h : DataW.trod enc Try.prog W 0 spare held fuel 43 cs = some x) : ∃ l : List Bool, l.length ≤ 9223372036854775807 ∧ In W cs [boolsA l] := by
  obtain ⟨l, h1, h2, h3⟩ := in_slice Try.underlying43 cBo (fun _ => True) cel_bool (by omega) (fun fuel cs x h => by obtain ⟨n, hin⟩ := in_bool Try.underlying4 h; exact ⟨n, trivial, hin⟩) h
  refine ⟨l, h2, ?_⟩
  rw [flat_flatMap] at h3
  exact h3
theorem cel_ValueSS : Try.prog.cellsOf 22 = 1 := by kernel_rfl
theorem cel_BoolS : Try.prog.cellsOf 43 = 1 := by kernel_rfl
theorem cel_Batch : Try.prog.cellsOf 69 = 2 := by kernel_rfl
theorem in_Batch (h : DataW.trod enc Try.prog W 0 spare held fuel 69 cs = some x) : ∃ v : GBt, BtBL v ∧ In W cs (GBt.c v) := by
  obtain ⟨xs, n, _, rfl, hl, hlen, hf⟩ := DataW.trod_struct Try.underlying69 h
  rw [cel_Batch] at hl
  match xs, hlen with
  | [y0, y1], _ =>
    have h0 := hf 0 ⟨_, 22, 0, _, _, _, _⟩ rfl
    dsimp only at h0
    rw [cel_ValueSS] at h0
    obtain ⟨a0, b0, i0⟩ := in_ValueSS h0
    have h1 := hf 1 ⟨_, 43, 1, _, _, _, _⟩ rfl
    dsimp only at h1
    rw [cel_BoolS] at h1
    obtain ⟨a1, b1, i1⟩ := in_BoolS h1
    exact ⟨⟨a0, a1⟩, ⟨b0, b1⟩, (In.split (o := 0) i0 (In.split i1 (In.last hl)))⟩
theorem cel_Column : Try.prog.cellsOf 122 = 2 := by kernel_rfl
theorem in_Column (h : DataW.trod enc Try.prog W 0 spare held fuel 122 cs = some x) : ∃ v : GCol, True ∧ In W cs (GCol.c v) := by
  obtain ⟨xs, n, _, rfl, hl, hlen, hf⟩ := DataW.trod_struct Try.underlying122 h
  rw [cel_Column] at hl
  match xs, hlen with
  | [y0, y1], _ =>
    have h0 := hf 0 ⟨_, 3, 0, _, _, _, _⟩ rfl
    dsimp only at h0
    rw [cel_int] at h0
    obtain ⟨a0, _, i0⟩ := in_int Try.underlying3 h0
    have h1 := hf 1 ⟨_, 4, 1, _, _, _, _⟩ rfl
    dsimp only at h1
    rw [cel_bool] at h1
    obtain ⟨a1, i1⟩ := in_bool Try.underlying4 h1
    exact ⟨⟨a0, a1⟩, trivial, (In.split (o := 0) i0 (In.split i1 (In.last hl)))⟩
theorem in_ColumnS (h : DataW.trod enc Try.prog W 0 spare held fuel 49 cs = some x) : ∃ l : List GCol, (l.length ≤ 9223372036854775807 ∧ ∀ v ∈ l, True) ∧ In W cs [colsA l] := by
  obtain ⟨l, h1, h2, h3⟩ := in_slice Try.underlying49 GCol.c (fun v => True) cel_Column (by omega) (fun fuel cs x h => in_Column h) h
  refine ⟨l, ⟨h2, h1⟩, ?_⟩
  rw [flat_flatMap] at h3
  exact h3
theorem cel_Part : Try.prog.cellsOf 114 = 5 := by kernel_rfl
theorem in_Part (h : DataW.trod enc Try.prog W 0 spare held fuel 114 cs = some x) : ∃ v : GPt, PtBL v ∧ In W cs (GPt.c v) := by
  obtain ⟨xs, n, _, rfl, hl, hlen, hf⟩ := DataW.trod_struct Try.underlying114 h
  rw [cel_Part] at hl
  match xs, hlen with
  | [y0, y1, y2], _ =>
    have h0 := hf 0 ⟨_, 3, 0, _, _, _, _⟩ rfl
    dsimp only at h0
    rw [cel_int] at h0
    obtain ⟨a0, _, i0⟩ := in_int Try.underlying3 h0
    have h1 := hf 1 ⟨_, 3, 1, _, _, _, _⟩ rfl
    dsimp only at h1
    rw [cel_int] at h1
    obtain ⟨a1, _, i1⟩ := in_int Try.underlying3 h1
    have h2 := hf 2 ⟨_, 112, 2, _, _, _, _⟩ rfl
    dsimp only at h2
    rw [cel_Value] at h2
    obtain ⟨a2, b2, i2⟩ := in_Value h2
    exact ⟨⟨a0, a1, a2⟩, b2, (In.split (o := 0) i0 (In.split i1 (In.split i2 (In.last hl))))⟩
theorem in_PartS (h : DataW.trod enc Try.prog W 0 spare held fuel 50 cs = some x) : ∃ l : List GPt, (l.length ≤ 9223372036854775807 ∧ ∀ v ∈ l, PtBL v) ∧ In W cs [partsA l] := by
  obtain ⟨l, h1, h2, h3⟩ := in_slice Try.underlying50 GPt.c (fun v => PtBL v) cel_Part (by omega) (fun fuel cs x h => in_Part h) h
  refine ⟨l, ⟨h2, h1⟩, ?_⟩
  rw [flat_flatMap] at h3
  exact h3
end
end Go.TH
