/-
  No cell of these rows narrows 'for every input' (looked for: loops, veiled, ifaces, maps, wideKeys, modest, calm, conditions, laid).
  DERIVED. THE GIVEN ROWS OF THIS SEAT. 10 by the template 'for every input the law returns true; each argument reads behind the call as it read before'; 0 by the template 'total and deterministic' (their statements: YtipoefabimcbdaaTotals.lean).
  GIVEN WITH THE SEED: the statements are not yours to turn. If you find one false, say at which input.
  Laid BY PROGRAM, IN A SANDBOX (cutbox-rows.mjs): the forced cells as the released guide's own fill.sh prints them over the translation 035f8aab6a4af722… (all of the seat's roots in one cut). By AI agents, Wed Nov 11 2026. No macro, syntax, notation, axiom, sorry.
-/
import Derived.Test.YtipoefabimcbdaaChecked
import GoSem.Claim
import GoSem.ClaimJoined
import GoSem.ClaimMapViews
import Derived.JoinedTies
import Derived.KernelRfl
namespace Go.Proofs.Ytipoefabimcbdaa
/- THE CELL 'sum', in the pinned program and in every row, IS THE sha256 OF THE DUMP (.gsa) THAT YtipoefabimcbdaaProg.lean LOADS. Nothing in Lean hashes anything: it is a label: what it is worth is what the hold of that sum in a sandbox is worth. -/
noncomputable def Try.pinned : Pinned := { name := "ytipoefabimcbdaa", sum := "035f8aab6a4af722e32c53444361adab03238ec36ed5f82d09202356bf9e3c6b", checked := Try.checked }
namespace Rows
def none {H : Type} : Left H := { results := [], args := [] }

/-- 'laws.FnExactRowsOk': WHATEVER THE INPUT: true; the input reads as it did. -/
def fnExactRowsOkSpec : ChangeSpec := { name := "fnExactRowsOk", fn := fun _ => fun
  | [d1, d2] => { results := [.lit (.bool true)], args := [d1, d2] }
  | _ => none }
def fnExactRowsOkRow : OpenClaim := { program := "ytipoefabimcbdaa", sum := "035f8aab6a4af722e32c53444361adab03238ec36ed5f82d09202356bf9e3c6b", func := "loop.example/tablehouse/laws.FnExactRowsOk", spec := "fnExactRowsOk", unfollowed := true, recurses := true, apart := false }
def FnExactRowsOkSaid : Prop := fnExactRowsOkRow.holds Try.pinned (OpenSpec.ofChange fnExactRowsOkSpec)

/-- ITS FALSE NEIGHBOUR: 'it returns false'. Refute it at one input. -/
def fnExactRowsOkWrong : ChangeSpec := { name := "fnExactRowsOk", fn := fun _ => fun
  | [d1, d2] => { results := [.lit (.bool false)], args := [d1, d2] }
  | _ => none }
def FnExactRowsOkWrongFalsely : Prop := fnExactRowsOkRow.holds Try.pinned (OpenSpec.ofChange fnExactRowsOkWrong)

/-- 'laws.FnExactKnownBoth': WHATEVER THE INPUT: true; the input reads as it did. -/
def fnExactKnownBothSpec : ChangeSpec := { name := "fnExactKnownBoth", fn := fun _ => fun
  | [d1, d2] => { results := [.lit (.bool true)], args := [d1, d2] }
  | _ => none }
def fnExactKnownBothRow : OpenClaim := { program := "ytipoefabimcbdaa", sum := "035f8aab6a4af722e32c53444361adab03238ec36ed5f82d09202356bf9e3c6b", func := "loop.example/tablehouse/laws.FnExactKnownBoth", spec := "fnExactKnownBoth", unfollowed := true, recurses := true, apart := false }
def FnExactKnownBothSaid : Prop := fnExactKnownBothRow.holds Try.pinned (OpenSpec.ofChange fnExactKnownBothSpec)

/-- ITS FALSE NEIGHBOUR: 'it returns false'. Refute it at one input. -/
def fnExactKnownBothWrong : ChangeSpec := { name := "fnExactKnownBoth", fn := fun _ => fun
  | [d1, d2] => { results := [.lit (.bool false)], args := [d1, d2] }
  | _ => none }
def FnExactKnownBothWrongFalsely : Prop := fnExactKnownBothRow.holds Try.pinned (OpenSpec.ofChange fnExactKnownBothWrong)

/-- 'laws.FnInTruth': WHATEVER THE INPUT: true; the input reads as it did. -/
def fnInTruthSpec : ChangeSpec := { name := "fnInTruth", fn := fun _ => fun
  | [d] => { results := [.lit (.bool true)], args := [d] }
  | _ => none }
def fnInTruthRow : OpenClaim := { program := "ytipoefabimcbdaa", sum := "035f8aab6a4af722e32c53444361adab03238ec36ed5f82d09202356bf9e3c6b", func := "loop.example/tablehouse/laws.FnInTruth", spec := "fnInTruth", unfollowed := true, recurses := true, apart := false }
def FnInTruthSaid : Prop := fnInTruthRow.holds Try.pinned (OpenSpec.ofChange fnInTruthSpec)

/-- ITS FALSE NEIGHBOUR: 'it returns false'. Refute it at one input. -/
def fnInTruthWrong : ChangeSpec := { name := "fnInTruth", fn := fun _ => fun
  | [d] => { results := [.lit (.bool false)], args := [d] }
  | _ => none }
def FnInTruthWrongFalsely : Prop := fnInTruthRow.holds Try.pinned (OpenSpec.ofChange fnInTruthWrong)

/-- 'laws.FnPartsFor': WHATEVER THE INPUT: true; the input reads as it did. -/
def fnPartsForSpec : ChangeSpec := { name := "fnPartsFor", fn := fun _ => fun
  | [d] => { results := [.lit (.bool true)], args := [d] }
  | _ => none }
def fnPartsForRow : OpenClaim := { program := "ytipoefabimcbdaa", sum := "035f8aab6a4af722e32c53444361adab03238ec36ed5f82d09202356bf9e3c6b", func := "loop.example/tablehouse/laws.FnPartsFor", spec := "fnPartsFor", unfollowed := true, recurses := true, apart := false }
def FnPartsForSaid : Prop := fnPartsForRow.holds Try.pinned (OpenSpec.ofChange fnPartsForSpec)

/-- ITS FALSE NEIGHBOUR: 'it returns false'. Refute it at one input. -/
def fnPartsForWrong : ChangeSpec := { name := "fnPartsFor", fn := fun _ => fun
  | [d] => { results := [.lit (.bool false)], args := [d] }
  | _ => none }
def FnPartsForWrongFalsely : Prop := fnPartsForRow.holds Try.pinned (OpenSpec.ofChange fnPartsForWrong)

/-- 'laws.FnKnownOk': WHATEVER THE INPUT: true; the input reads as it did. -/
def fnKnownOkSpec : ChangeSpec := { name := "fnKnownOk", fn := fun _ => fun
  | [d] => { results := [.lit (.bool true)], args := [d] }
  | _ => none }
def fnKnownOkRow : OpenClaim := { program := "ytipoefabimcbdaa", sum := "035f8aab6a4af722e32c53444361adab03238ec36ed5f82d09202356bf9e3c6b", func := "loop.example/tablehouse/laws.FnKnownOk", spec := "fnKnownOk", unfollowed := true, recurses := true, apart := false }
def FnKnownOkSaid : Prop := fnKnownOkRow.holds Try.pinned (OpenSpec.ofChange fnKnownOkSpec)

/-- ITS FALSE NEIGHBOUR: 'it returns false'. Refute it at one input. -/
def fnKnownOkWrong : ChangeSpec := { name := "fnKnownOk", fn := fun _ => fun
  | [d] => { results := [.lit (.bool false)], args := [d] }
  | _ => none }
def FnKnownOkWrongFalsely : Prop := fnKnownOkRow.holds Try.pinned (OpenSpec.ofChange fnKnownOkWrong)

/-- 'laws.FnKnownTell': WHATEVER THE INPUT: true; the input reads as it did. -/
def fnKnownTellSpec : ChangeSpec := { name := "fnKnownTell", fn := fun _ => fun
  | [d] => { results := [.lit (.bool true)], args := [d] }
  | _ => none }
def fnKnownTellRow : OpenClaim := { program := "ytipoefabimcbdaa", sum := "035f8aab6a4af722e32c53444361adab03238ec36ed5f82d09202356bf9e3c6b", func := "loop.example/tablehouse/laws.FnKnownTell", spec := "fnKnownTell", apart := false }
def FnKnownTellSaid : Prop := fnKnownTellRow.holds Try.pinned (OpenSpec.ofChange fnKnownTellSpec)

/-- ITS FALSE NEIGHBOUR: 'it returns false'. Refute it at one input. -/
def fnKnownTellWrong : ChangeSpec := { name := "fnKnownTell", fn := fun _ => fun
  | [d] => { results := [.lit (.bool false)], args := [d] }
  | _ => none }
def FnKnownTellWrongFalsely : Prop := fnKnownTellRow.holds Try.pinned (OpenSpec.ofChange fnKnownTellWrong)

/-- 'laws.FnKnownBoth': WHATEVER THE INPUT: true; the input reads as it did. -/
def fnKnownBothSpec : ChangeSpec := { name := "fnKnownBoth", fn := fun _ => fun
  | [d] => { results := [.lit (.bool true)], args := [d] }
  | _ => none }
def fnKnownBothRow : OpenClaim := { program := "ytipoefabimcbdaa", sum := "035f8aab6a4af722e32c53444361adab03238ec36ed5f82d09202356bf9e3c6b", func := "loop.example/tablehouse/laws.FnKnownBoth", spec := "fnKnownBoth", unfollowed := true, recurses := true, apart := false }
def FnKnownBothSaid : Prop := fnKnownBothRow.holds Try.pinned (OpenSpec.ofChange fnKnownBothSpec)

/-- ITS FALSE NEIGHBOUR: 'it returns false'. Refute it at one input. -/
def fnKnownBothWrong : ChangeSpec := { name := "fnKnownBoth", fn := fun _ => fun
  | [d] => { results := [.lit (.bool false)], args := [d] }
  | _ => none }
def FnKnownBothWrongFalsely : Prop := fnKnownBothRow.holds Try.pinned (OpenSpec.ofChange fnKnownBothWrong)

/-- 'laws.FnExactManyBounds': WHATEVER THE INPUT: true; the input reads as it did. -/
def fnExactManyBoundsSpec : ChangeSpec := { name := "fnExactManyBounds", fn := fun _ => fun
  | [d1, d2, d3] => { results := [.lit (.bool true)], args := [d1, d2, d3] }
  | _ => none }
def fnExactManyBoundsRow : OpenClaim := { program := "ytipoefabimcbdaa", sum := "035f8aab6a4af722e32c53444361adab03238ec36ed5f82d09202356bf9e3c6b", func := "loop.example/tablehouse/laws.FnExactManyBounds", spec := "fnExactManyBounds", apart := false }
def FnExactManyBoundsSaid : Prop := fnExactManyBoundsRow.holds Try.pinned (OpenSpec.ofChange fnExactManyBoundsSpec)

/-- ITS FALSE NEIGHBOUR: 'it returns false'. Refute it at one input. -/
def fnExactManyBoundsWrong : ChangeSpec := { name := "fnExactManyBounds", fn := fun _ => fun
  | [d1, d2, d3] => { results := [.lit (.bool false)], args := [d1, d2, d3] }
  | _ => none }
def FnExactManyBoundsWrongFalsely : Prop := fnExactManyBoundsRow.holds Try.pinned (OpenSpec.ofChange fnExactManyBoundsWrong)

/-- 'laws.FnCutMore': WHATEVER THE INPUT: true; the input reads as it did. -/
def fnCutMoreSpec : ChangeSpec := { name := "fnCutMore", fn := fun _ => fun
  | [d] => { results := [.lit (.bool true)], args := [d] }
  | _ => none }
def fnCutMoreRow : OpenClaim := { program := "ytipoefabimcbdaa", sum := "035f8aab6a4af722e32c53444361adab03238ec36ed5f82d09202356bf9e3c6b", func := "loop.example/tablehouse/laws.FnCutMore", spec := "fnCutMore", inPlace := ["slices.overlaps[int]"], unfollowed := true, recurses := true, apart := false }
def FnCutMoreSaid : Prop := fnCutMoreRow.holds Try.pinned (OpenSpec.ofChange fnCutMoreSpec)

/-- ITS FALSE NEIGHBOUR: 'it returns false'. Refute it at one input. -/
def fnCutMoreWrong : ChangeSpec := { name := "fnCutMore", fn := fun _ => fun
  | [d] => { results := [.lit (.bool false)], args := [d] }
  | _ => none }
def FnCutMoreWrongFalsely : Prop := fnCutMoreRow.holds Try.pinned (OpenSpec.ofChange fnCutMoreWrong)

/-- 'laws.FnGroupColumns': WHATEVER THE INPUT: true; the input reads as it did. -/
def fnGroupColumnsSpec : ChangeSpec := { name := "fnGroupColumns", fn := fun _ => fun
  | [d] => { results := [.lit (.bool true)], args := [d] }
  | _ => none }
def fnGroupColumnsRow : OpenClaim := { program := "ytipoefabimcbdaa", sum := "035f8aab6a4af722e32c53444361adab03238ec36ed5f82d09202356bf9e3c6b", func := "loop.example/tablehouse/laws.FnGroupColumns", spec := "fnGroupColumns", unfollowed := true, recurses := true, apart := false }
def FnGroupColumnsSaid : Prop := fnGroupColumnsRow.holds Try.pinned (OpenSpec.ofChange fnGroupColumnsSpec)

/-- ITS FALSE NEIGHBOUR: 'it returns false'. Refute it at one input. -/
def fnGroupColumnsWrong : ChangeSpec := { name := "fnGroupColumns", fn := fun _ => fun
  | [d] => { results := [.lit (.bool false)], args := [d] }
  | _ => none }
def FnGroupColumnsWrongFalsely : Prop := fnGroupColumnsRow.holds Try.pinned (OpenSpec.ofChange fnGroupColumnsWrong)

/- THE SECOND FORM. 'bulk': how many values and letters a reading holds, each counted each time it is reached (what is shared counts as often as it is met; a slice's spare places count too). A statement '..UptoSaid' is the law's where the arguments, and the package variables that the reading takes, are together of bulk at most 1048576: NARROWER than '..Said'. Prove '..Said' where nothing that the law and all that it calls make is longer than what came in: it says more and counts as full. Else prove '..UptoSaid'. A law counts once. -/
mutual
def uptoBulk {H : Type} : DataW H → Nat
  | .lit (.string bytes) => bytes.length + 1
  | .lit _ => 1
  | .nil => 1
  | .ptr d => uptoBulk d + 1
  | .slice elems spare => uptoBulkAll elems + uptoBulkAll spare + 1
  | .agg parts => uptoBulkAll parts + 1
  | .iface _ d => uptoBulk d + 1
  | .map entries => uptoBulkEntries entries + 1
  | .held _ => 1
def uptoBulkAll {H : Type} : List (DataW H) → Nat
  | [] => 0
  | d :: r => uptoBulk d + uptoBulkAll r
def uptoBulkEntries {H : Type} : List (Lit × DataW H) → Nat
  | [] => 0
  | x :: r => uptoBulkEntry x + uptoBulkEntries r
def uptoBulkEntry {H : Type} : Lit × DataW H → Nat
  | (.string bytes, d) => bytes.length + uptoBulk d + 1
  | (_, d) => uptoBulk d + 1
 end
def uptoSmall : (H : Type) → List (DataW H) → Bool := fun _ ds => decide (uptoBulkAll ds ≤ 1048576)
def OpenSpec.upto (s : _root_.Go.ChangeSpec) : _root_.Go.OpenSpec := { _root_.Go.OpenSpec.ofChange s with cond := some uptoSmall }

/-- 'laws.FnExactRowsOk', WHERE WHAT IT READS IS OF BULK AT MOST 1048576: true; the input reads as it did. -/
def fnExactRowsOkUptoRow : OpenClaim := { program := "ytipoefabimcbdaa", sum := "035f8aab6a4af722e32c53444361adab03238ec36ed5f82d09202356bf9e3c6b", func := "loop.example/tablehouse/laws.FnExactRowsOk", spec := "fnExactRowsOk", unfollowed := true, recurses := true, apart := false, narrowed := true }
def FnExactRowsOkUptoSaid : Prop := fnExactRowsOkUptoRow.holds Try.pinned (OpenSpec.upto fnExactRowsOkSpec)

/-- 'laws.FnExactKnownBoth', WHERE WHAT IT READS IS OF BULK AT MOST 1048576: true; the input reads as it did. -/
def fnExactKnownBothUptoRow : OpenClaim := { program := "ytipoefabimcbdaa", sum := "035f8aab6a4af722e32c53444361adab03238ec36ed5f82d09202356bf9e3c6b", func := "loop.example/tablehouse/laws.FnExactKnownBoth", spec := "fnExactKnownBoth", unfollowed := true, recurses := true, apart := false, narrowed := true }
def FnExactKnownBothUptoSaid : Prop := fnExactKnownBothUptoRow.holds Try.pinned (OpenSpec.upto fnExactKnownBothSpec)

/-- 'laws.FnInTruth', WHERE WHAT IT READS IS OF BULK AT MOST 1048576: true; the input reads as it did. -/
def fnInTruthUptoRow : OpenClaim := { program := "ytipoefabimcbdaa", sum := "035f8aab6a4af722e32c53444361adab03238ec36ed5f82d09202356bf9e3c6b", func := "loop.example/tablehouse/laws.FnInTruth", spec := "fnInTruth", unfollowed := true, recurses := true, apart := false, narrowed := true }
def FnInTruthUptoSaid : Prop := fnInTruthUptoRow.holds Try.pinned (OpenSpec.upto fnInTruthSpec)

/-- 'laws.FnPartsFor', WHERE WHAT IT READS IS OF BULK AT MOST 1048576: true; the input reads as it did. -/
def fnPartsForUptoRow : OpenClaim := { program := "ytipoefabimcbdaa", sum := "035f8aab6a4af722e32c53444361adab03238ec36ed5f82d09202356bf9e3c6b", func := "loop.example/tablehouse/laws.FnPartsFor", spec := "fnPartsFor", unfollowed := true, recurses := true, apart := false, narrowed := true }
def FnPartsForUptoSaid : Prop := fnPartsForUptoRow.holds Try.pinned (OpenSpec.upto fnPartsForSpec)

/-- 'laws.FnKnownOk', WHERE WHAT IT READS IS OF BULK AT MOST 1048576: true; the input reads as it did. -/
def fnKnownOkUptoRow : OpenClaim := { program := "ytipoefabimcbdaa", sum := "035f8aab6a4af722e32c53444361adab03238ec36ed5f82d09202356bf9e3c6b", func := "loop.example/tablehouse/laws.FnKnownOk", spec := "fnKnownOk", unfollowed := true, recurses := true, apart := false, narrowed := true }
def FnKnownOkUptoSaid : Prop := fnKnownOkUptoRow.holds Try.pinned (OpenSpec.upto fnKnownOkSpec)

/-- 'laws.FnKnownTell', WHERE WHAT IT READS IS OF BULK AT MOST 1048576: true; the input reads as it did. -/
def fnKnownTellUptoRow : OpenClaim := { program := "ytipoefabimcbdaa", sum := "035f8aab6a4af722e32c53444361adab03238ec36ed5f82d09202356bf9e3c6b", func := "loop.example/tablehouse/laws.FnKnownTell", spec := "fnKnownTell", apart := false, narrowed := true }
def FnKnownTellUptoSaid : Prop := fnKnownTellUptoRow.holds Try.pinned (OpenSpec.upto fnKnownTellSpec)

/-- 'laws.FnKnownBoth', WHERE WHAT IT READS IS OF BULK AT MOST 1048576: true; the input reads as it did. -/
def fnKnownBothUptoRow : OpenClaim := { program := "ytipoefabimcbdaa", sum := "035f8aab6a4af722e32c53444361adab03238ec36ed5f82d09202356bf9e3c6b", func := "loop.example/tablehouse/laws.FnKnownBoth", spec := "fnKnownBoth", unfollowed := true, recurses := true, apart := false, narrowed := true }
def FnKnownBothUptoSaid : Prop := fnKnownBothUptoRow.holds Try.pinned (OpenSpec.upto fnKnownBothSpec)

/-- 'laws.FnExactManyBounds', WHERE WHAT IT READS IS OF BULK AT MOST 1048576: true; the input reads as it did. -/
def fnExactManyBoundsUptoRow : OpenClaim := { program := "ytipoefabimcbdaa", sum := "035f8aab6a4af722e32c53444361adab03238ec36ed5f82d09202356bf9e3c6b", func := "loop.example/tablehouse/laws.FnExactManyBounds", spec := "fnExactManyBounds", apart := false, narrowed := true }
def FnExactManyBoundsUptoSaid : Prop := fnExactManyBoundsUptoRow.holds Try.pinned (OpenSpec.upto fnExactManyBoundsSpec)

/-- 'laws.FnCutMore', WHERE WHAT IT READS IS OF BULK AT MOST 1048576: true; the input reads as it did. -/
def fnCutMoreUptoRow : OpenClaim := { program := "ytipoefabimcbdaa", sum := "035f8aab6a4af722e32c53444361adab03238ec36ed5f82d09202356bf9e3c6b", func := "loop.example/tablehouse/laws.FnCutMore", spec := "fnCutMore", inPlace := ["slices.overlaps[int]"], unfollowed := true, recurses := true, apart := false, narrowed := true }
def FnCutMoreUptoSaid : Prop := fnCutMoreUptoRow.holds Try.pinned (OpenSpec.upto fnCutMoreSpec)

/-- 'laws.FnGroupColumns', WHERE WHAT IT READS IS OF BULK AT MOST 1048576: true; the input reads as it did. -/
def fnGroupColumnsUptoRow : OpenClaim := { program := "ytipoefabimcbdaa", sum := "035f8aab6a4af722e32c53444361adab03238ec36ed5f82d09202356bf9e3c6b", func := "loop.example/tablehouse/laws.FnGroupColumns", spec := "fnGroupColumns", unfollowed := true, recurses := true, apart := false, narrowed := true }
def FnGroupColumnsUptoSaid : Prop := fnGroupColumnsUptoRow.holds Try.pinned (OpenSpec.upto fnGroupColumnsSpec)

end Rows
end Go.Proofs.Ytipoefabimcbdaa
