/- TH: arguments of the laws. Made by boil.py and gen.py. -/
import Derived.Test.YtipoefabimcbdaaDoorTf0
import Derived.Test.YtipoefabimcbdaaDoorTf3
import Derived.WalkKit
import Derived.ProofKit
import Derived.OpenShut
import Derived.ShutString
import Derived.ChangeOld
import Derived.Below
import Derived.SizedLaws
namespace Go.TH
open Go Go.Proofs
section
variable {H : Type} {enc : TypeId × Value → H} {W : World} {spare : Nat → Bool} {held : Bool} {fuel : Nat} {cs : List Value} {x : DataW H × List MemPlace}
theorem cel_int : Tryd.prog.cellsOf 3 = 1 := by kernel_rfl
theorem in_i64 (h : DataW.trod enc Tryd.prog W 0 spare held fuel 3 cs = some x) : ∃ n : Int, (-9223372036854775808 ≤ n ∧ n ≤ 9223372036854775807) ∧ In W cs [.int .i64 n] := by
  obtain ⟨n, hw, hin⟩ := in_int Tryd.underlying3 h
  refine ⟨n, ?_, hin⟩
  have e1 : IntKind.i64.min = -9223372036854775808 := by decide
  have e2 : IntKind.i64.max = 9223372036854775807 := by decide
  simp [Lit.wf] at hw
  omega
theorem cel_u8 : Tryd.prog.cellsOf 5 = 1 := by kernel_rfl
theorem bytes_cells : ∀ l : List Int, (∀ n ∈ l, 0 ≤ n ∧ n < 256) → bytesCells ⟨(l.map fun n => UInt8.ofNat n.toNat).toArray⟩ = l.flatMap fun n => [AV.int .u8 n]
  | [], _ => rfl
  | n :: l, h => by
    have ih := bytes_cells l fun m hm => h m (List.mem_cons_of_mem _ hm)
    have hn := h n List.mem_cons_self
    simp only [bytesCells] at ih ⊢
    simp only [List.map_cons, List.flatMap_cons]
    rw [ih]
    simp
    omega
theorem in_bytes (h : DataW.trod enc Tryd.prog W 0 spare held fuel 29 cs = some x) : ∃ s : ByteArray, s.size ≤ 9223372036854775807 ∧ In W cs [.sl s.size false (bytesCells s)] := by
  obtain ⟨l, h1, h2, h3⟩ := in_slice Tryd.underlying29 (fun n : Int => [AV.int .u8 n]) (fun n => 0 ≤ n ∧ n < 256) cel_u8 (by omega) (fun fuel cs x h => by
    obtain ⟨n, hw, hin⟩ := in_int Tryd.underlying5 h
    refine ⟨n, ?_, hin⟩
    have e1 : IntKind.u8.min = 0 := by decide
    have e2 : IntKind.u8.max = 255 := by decide
    simp [Lit.wf] at hw
    omega) h
  have hs : (⟨(l.map fun n => UInt8.ofNat n.toNat).toArray⟩ : ByteArray).size = l.length := by simp [ByteArray.size]
  refine ⟨⟨(l.map fun n => UInt8.ofNat n.toNat).toArray⟩, by omega, ?_⟩
  rw [hs, bytes_cells l h1]
  exact h3
theorem cel_str : Tryd.prog.cellsOf 9 = 1 := by kernel_rfl
theorem cel_Value : Tryd.prog.cellsOf 23 = 3 := by kernel_rfl
theorem in_Value (h : DataW.trod enc Tryd.prog W 0 spare held fuel 23 cs = some x) : ∃ v : GVal, VBL v ∧ In W cs (GVal.c v) := by
  obtain ⟨xs, n, _, rfl, hl, hlen, hf⟩ := DataW.trod_struct Tryd.underlying23 h
  rw [cel_Value] at hl
  match xs, hlen with
  | [y0, y1, y2], _ =>
    have h0 := hf 0 ⟨_, 3, 0, _, _, _, _⟩ rfl
    dsimp only at h0
    rw [cel_int] at h0
    obtain ⟨a0, _, i0⟩ := in_int Tryd.underlying3 h0
    have h1 := hf 1 ⟨_, 3, 1, _, _, _, _⟩ rfl
    dsimp only at h1
    rw [cel_int] at h1
    obtain ⟨a1, _, i1⟩ := in_int Tryd.underlying3 h1
    have h2 := hf 2 ⟨_, 9, 2, _, _, _, _⟩ rfl
    dsimp only at h2
    rw [cel_str] at h2
    obtain ⟨a2, b2, i2⟩ := in_str Tryd.underlying9 h2
    exact ⟨⟨a0, a1, a2⟩, b2, (In.split (o := 0) i0 (In.split i1 (In.split i2 (In.last hl))))⟩
end
end Go.TH
