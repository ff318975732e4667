/-
  No cell of these rows narrows 'for every input' (looked for: loops, veiled, ifaces, maps, wideKeys, modest, calm, conditions, laid).
  DERIVED. THE GIVEN ROWS OF THIS SEAT. 11 by the template 'for every input the law returns true; each argument reads behind the call as it read before'; 0 by the template 'total and deterministic' (their statements: YtfnflalnjigfkaaTotals.lean).
  GIVEN WITH THE SEED: the statements are not yours to turn. If you find one false, say at which input.
  Laid BY PROGRAM, IN A SANDBOX (cutbox-rows.mjs): the forced cells as the released guide's own fill.sh prints them over the translation 519421251161b003… (all of the seat's roots in one cut). By AI agents, Wed Nov 11 2026. No macro, syntax, notation, axiom, sorry.
-/
import Derived.Test.YtfnflalnjigfkaaChecked
import GoSem.Claim
import GoSem.ClaimJoined
import GoSem.ClaimMapViews
import Derived.JoinedTies
import Derived.KernelRfl
namespace Go.Proofs.Ytfnflalnjigfkaa
/- THE CELL 'sum', in the pinned program and in every row, IS THE sha256 OF THE DUMP (.gsa) THAT YtfnflalnjigfkaaProg.lean LOADS. Nothing in Lean hashes anything: it is a label: what it is worth is what the hold of that sum in a sandbox is worth. -/
noncomputable def Try.pinned : Pinned := { name := "ytfnflalnjigfkaa", sum := "519421251161b003579956593ce118a2bc4ed93e578e7770340bdd8a5a7746c7", checked := Try.checked }
namespace Rows
def none {H : Type} : Left H := { results := [], args := [] }

/-- 'laws.FnExactNeighboursOnce': WHATEVER THE INPUT: true; the input reads as it did. -/
def fnExactNeighboursOnceSpec : ChangeSpec := { name := "fnExactNeighboursOnce", fn := fun _ => fun
  | [d] => { results := [.lit (.bool true)], args := [d] }
  | _ => none }
def fnExactNeighboursOnceRow : OpenClaim := { program := "ytfnflalnjigfkaa", sum := "519421251161b003579956593ce118a2bc4ed93e578e7770340bdd8a5a7746c7", func := "loop.example/tablehouse/laws.FnExactNeighboursOnce", spec := "fnExactNeighboursOnce", unfollowed := true, recurses := true, apart := false }
def FnExactNeighboursOnceSaid : Prop := fnExactNeighboursOnceRow.holds Try.pinned (OpenSpec.ofChange fnExactNeighboursOnceSpec)

/-- ITS FALSE NEIGHBOUR: 'it returns false'. Refute it at one input. -/
def fnExactNeighboursOnceWrong : ChangeSpec := { name := "fnExactNeighboursOnce", fn := fun _ => fun
  | [d] => { results := [.lit (.bool false)], args := [d] }
  | _ => none }
def FnExactNeighboursOnceWrongFalsely : Prop := fnExactNeighboursOnceRow.holds Try.pinned (OpenSpec.ofChange fnExactNeighboursOnceWrong)

/-- 'laws.FnRowBytes': WHATEVER THE INPUT: true; the input reads as it did. -/
def fnRowBytesSpec : ChangeSpec := { name := "fnRowBytes", fn := fun _ => fun
  | [d] => { results := [.lit (.bool true)], args := [d] }
  | _ => none }
def fnRowBytesRow : OpenClaim := { program := "ytfnflalnjigfkaa", sum := "519421251161b003579956593ce118a2bc4ed93e578e7770340bdd8a5a7746c7", func := "loop.example/tablehouse/laws.FnRowBytes", spec := "fnRowBytes", unfollowed := true, recurses := true, apart := false }
def FnRowBytesSaid : Prop := fnRowBytesRow.holds Try.pinned (OpenSpec.ofChange fnRowBytesSpec)

/-- ITS FALSE NEIGHBOUR: 'it returns false'. Refute it at one input. -/
def fnRowBytesWrong : ChangeSpec := { name := "fnRowBytes", fn := fun _ => fun
  | [d] => { results := [.lit (.bool false)], args := [d] }
  | _ => none }
def FnRowBytesWrongFalsely : Prop := fnRowBytesRow.holds Try.pinned (OpenSpec.ofChange fnRowBytesWrong)

/-- 'laws.FnRowOrder': WHATEVER THE INPUT: true; the input reads as it did. -/
def fnRowOrderSpec : ChangeSpec := { name := "fnRowOrder", fn := fun _ => fun
  | [d] => { results := [.lit (.bool true)], args := [d] }
  | _ => none }
def fnRowOrderRow : OpenClaim := { program := "ytfnflalnjigfkaa", sum := "519421251161b003579956593ce118a2bc4ed93e578e7770340bdd8a5a7746c7", func := "loop.example/tablehouse/laws.FnRowOrder", spec := "fnRowOrder", unfollowed := true, recurses := true, apart := false }
def FnRowOrderSaid : Prop := fnRowOrderRow.holds Try.pinned (OpenSpec.ofChange fnRowOrderSpec)

/-- ITS FALSE NEIGHBOUR: 'it returns false'. Refute it at one input. -/
def fnRowOrderWrong : ChangeSpec := { name := "fnRowOrder", fn := fun _ => fun
  | [d] => { results := [.lit (.bool false)], args := [d] }
  | _ => none }
def FnRowOrderWrongFalsely : Prop := fnRowOrderRow.holds Try.pinned (OpenSpec.ofChange fnRowOrderWrong)

/-- 'laws.FnBatchRows': WHATEVER THE INPUT: true; the input reads as it did. -/
def fnBatchRowsSpec : ChangeSpec := { name := "fnBatchRows", fn := fun _ => fun
  | [d] => { results := [.lit (.bool true)], args := [d] }
  | _ => none }
def fnBatchRowsRow : OpenClaim := { program := "ytfnflalnjigfkaa", sum := "519421251161b003579956593ce118a2bc4ed93e578e7770340bdd8a5a7746c7", func := "loop.example/tablehouse/laws.FnBatchRows", spec := "fnBatchRows", unfollowed := true, recurses := true, apart := false }
def FnBatchRowsSaid : Prop := fnBatchRowsRow.holds Try.pinned (OpenSpec.ofChange fnBatchRowsSpec)

/-- ITS FALSE NEIGHBOUR: 'it returns false'. Refute it at one input. -/
def fnBatchRowsWrong : ChangeSpec := { name := "fnBatchRows", fn := fun _ => fun
  | [d] => { results := [.lit (.bool false)], args := [d] }
  | _ => none }
def FnBatchRowsWrongFalsely : Prop := fnBatchRowsRow.holds Try.pinned (OpenSpec.ofChange fnBatchRowsWrong)

/-- 'laws.FnExactExprKind': WHATEVER THE INPUT: true; the input reads as it did. -/
def fnExactExprKindSpec : ChangeSpec := { name := "fnExactExprKind", fn := fun _ => fun
  | [d1, d2] => { results := [.lit (.bool true)], args := [d1, d2] }
  | _ => none }
def fnExactExprKindRow : OpenClaim := { program := "ytfnflalnjigfkaa", sum := "519421251161b003579956593ce118a2bc4ed93e578e7770340bdd8a5a7746c7", func := "loop.example/tablehouse/laws.FnExactExprKind", spec := "fnExactExprKind", unfollowed := true, recurses := true, apart := false }
def FnExactExprKindSaid : Prop := fnExactExprKindRow.holds Try.pinned (OpenSpec.ofChange fnExactExprKindSpec)

/-- ITS FALSE NEIGHBOUR: 'it returns false'. Refute it at one input. -/
def fnExactExprKindWrong : ChangeSpec := { name := "fnExactExprKind", fn := fun _ => fun
  | [d1, d2] => { results := [.lit (.bool false)], args := [d1, d2] }
  | _ => none }
def FnExactExprKindWrongFalsely : Prop := fnExactExprKindRow.holds Try.pinned (OpenSpec.ofChange fnExactExprKindWrong)

/-- 'laws.FnRowFrom': WHATEVER THE INPUT: true; the input reads as it did. -/
def fnRowFromSpec : ChangeSpec := { name := "fnRowFrom", fn := fun _ => fun
  | [d] => { results := [.lit (.bool true)], args := [d] }
  | _ => none }
def fnRowFromRow : OpenClaim := { program := "ytfnflalnjigfkaa", sum := "519421251161b003579956593ce118a2bc4ed93e578e7770340bdd8a5a7746c7", func := "loop.example/tablehouse/laws.FnRowFrom", spec := "fnRowFrom", unfollowed := true, recurses := true, apart := false }
def FnRowFromSaid : Prop := fnRowFromRow.holds Try.pinned (OpenSpec.ofChange fnRowFromSpec)

/-- ITS FALSE NEIGHBOUR: 'it returns false'. Refute it at one input. -/
def fnRowFromWrong : ChangeSpec := { name := "fnRowFrom", fn := fun _ => fun
  | [d] => { results := [.lit (.bool false)], args := [d] }
  | _ => none }
def FnRowFromWrongFalsely : Prop := fnRowFromRow.holds Try.pinned (OpenSpec.ofChange fnRowFromWrong)

/-- 'laws.FnExprKind': WHATEVER THE INPUT: true; the input reads as it did. -/
def fnExprKindSpec : ChangeSpec := { name := "fnExprKind", fn := fun _ => fun
  | [d] => { results := [.lit (.bool true)], args := [d] }
  | _ => none }
def fnExprKindRow : OpenClaim := { program := "ytfnflalnjigfkaa", sum := "519421251161b003579956593ce118a2bc4ed93e578e7770340bdd8a5a7746c7", func := "loop.example/tablehouse/laws.FnExprKind", spec := "fnExprKind", unfollowed := true, recurses := true, apart := false }
def FnExprKindSaid : Prop := fnExprKindRow.holds Try.pinned (OpenSpec.ofChange fnExprKindSpec)

/-- ITS FALSE NEIGHBOUR: 'it returns false'. Refute it at one input. -/
def fnExprKindWrong : ChangeSpec := { name := "fnExprKind", fn := fun _ => fun
  | [d] => { results := [.lit (.bool false)], args := [d] }
  | _ => none }
def FnExprKindWrongFalsely : Prop := fnExprKindRow.holds Try.pinned (OpenSpec.ofChange fnExprKindWrong)

/-- 'laws.FnExactBatchRows': WHATEVER THE INPUT: true; the input reads as it did. -/
def fnExactBatchRowsSpec : ChangeSpec := { name := "fnExactBatchRows", fn := fun _ => fun
  | [d] => { results := [.lit (.bool true)], args := [d] }
  | _ => none }
def fnExactBatchRowsRow : OpenClaim := { program := "ytfnflalnjigfkaa", sum := "519421251161b003579956593ce118a2bc4ed93e578e7770340bdd8a5a7746c7", func := "loop.example/tablehouse/laws.FnExactBatchRows", spec := "fnExactBatchRows", unfollowed := true, recurses := true, apart := false }
def FnExactBatchRowsSaid : Prop := fnExactBatchRowsRow.holds Try.pinned (OpenSpec.ofChange fnExactBatchRowsSpec)

/-- ITS FALSE NEIGHBOUR: 'it returns false'. Refute it at one input. -/
def fnExactBatchRowsWrong : ChangeSpec := { name := "fnExactBatchRows", fn := fun _ => fun
  | [d] => { results := [.lit (.bool false)], args := [d] }
  | _ => none }
def FnExactBatchRowsWrongFalsely : Prop := fnExactBatchRowsRow.holds Try.pinned (OpenSpec.ofChange fnExactBatchRowsWrong)

/-- 'laws.FnWholeHash': WHATEVER THE INPUT: true; the input reads as it did. -/
def fnWholeHashSpec : ChangeSpec := { name := "fnWholeHash", fn := fun _ => fun
  | [d] => { results := [.lit (.bool true)], args := [d] }
  | _ => none }
def fnWholeHashRow : OpenClaim := { program := "ytfnflalnjigfkaa", sum := "519421251161b003579956593ce118a2bc4ed93e578e7770340bdd8a5a7746c7", func := "loop.example/tablehouse/laws.FnWholeHash", spec := "fnWholeHash", unfollowed := true, recurses := true, apart := false }
def FnWholeHashSaid : Prop := fnWholeHashRow.holds Try.pinned (OpenSpec.ofChange fnWholeHashSpec)

/-- ITS FALSE NEIGHBOUR: 'it returns false'. Refute it at one input. -/
def fnWholeHashWrong : ChangeSpec := { name := "fnWholeHash", fn := fun _ => fun
  | [d] => { results := [.lit (.bool false)], args := [d] }
  | _ => none }
def FnWholeHashWrongFalsely : Prop := fnWholeHashRow.holds Try.pinned (OpenSpec.ofChange fnWholeHashWrong)

/-- 'laws.FnRowsLess': WHATEVER THE INPUT: true; the input reads as it did. -/
def fnRowsLessSpec : ChangeSpec := { name := "fnRowsLess", fn := fun _ => fun
  | [d] => { results := [.lit (.bool true)], args := [d] }
  | _ => none }
def fnRowsLessRow : OpenClaim := { program := "ytfnflalnjigfkaa", sum := "519421251161b003579956593ce118a2bc4ed93e578e7770340bdd8a5a7746c7", func := "loop.example/tablehouse/laws.FnRowsLess", spec := "fnRowsLess", apart := false }
def FnRowsLessSaid : Prop := fnRowsLessRow.holds Try.pinned (OpenSpec.ofChange fnRowsLessSpec)

/-- ITS FALSE NEIGHBOUR: 'it returns false'. Refute it at one input. -/
def fnRowsLessWrong : ChangeSpec := { name := "fnRowsLess", fn := fun _ => fun
  | [d] => { results := [.lit (.bool false)], args := [d] }
  | _ => none }
def FnRowsLessWrongFalsely : Prop := fnRowsLessRow.holds Try.pinned (OpenSpec.ofChange fnRowsLessWrong)

/-- 'laws.FnExactRejects': WHATEVER THE INPUT: true; the input reads as it did. -/
def fnExactRejectsSpec : ChangeSpec := { name := "fnExactRejects", fn := fun _ => fun
  | [d1, d2, d3] => { results := [.lit (.bool true)], args := [d1, d2, d3] }
  | _ => none }
def fnExactRejectsRow : OpenClaim := { program := "ytfnflalnjigfkaa", sum := "519421251161b003579956593ce118a2bc4ed93e578e7770340bdd8a5a7746c7", func := "loop.example/tablehouse/laws.FnExactRejects", spec := "fnExactRejects", unfollowed := true, recurses := true, apart := false }
def FnExactRejectsSaid : Prop := fnExactRejectsRow.holds Try.pinned (OpenSpec.ofChange fnExactRejectsSpec)

/-- ITS FALSE NEIGHBOUR: 'it returns false'. Refute it at one input. -/
def fnExactRejectsWrong : ChangeSpec := { name := "fnExactRejects", fn := fun _ => fun
  | [d1, d2, d3] => { results := [.lit (.bool false)], args := [d1, d2, d3] }
  | _ => none }
def FnExactRejectsWrongFalsely : Prop := fnExactRejectsRow.holds Try.pinned (OpenSpec.ofChange fnExactRejectsWrong)

/- THE SECOND FORM. 'bulk': how many values and letters a reading holds, each counted each time it is reached (what is shared counts as often as it is met; a slice's spare places count too). A statement '..UptoSaid' is the law's where the arguments, and the package variables that the reading takes, are together of bulk at most 1048576: NARROWER than '..Said'. Prove '..Said' where nothing that the law and all that it calls make is longer than what came in: it says more and counts as full. Else prove '..UptoSaid'. A law counts once. -/
mutual
def uptoBulk {H : Type} : DataW H → Nat
  | .lit (.string bytes) => bytes.length + 1
  | .lit _ => 1
  | .nil => 1
  | .ptr d => uptoBulk d + 1
  | .slice elems spare => uptoBulkAll elems + uptoBulkAll spare + 1
  | .agg parts => uptoBulkAll parts + 1
  | .iface _ d => uptoBulk d + 1
  | .map entries => uptoBulkEntries entries + 1
  | .held _ => 1
def uptoBulkAll {H : Type} : List (DataW H) → Nat
  | [] => 0
  | d :: r => uptoBulk d + uptoBulkAll r
def uptoBulkEntries {H : Type} : List (Lit × DataW H) → Nat
  | [] => 0
  | x :: r => uptoBulkEntry x + uptoBulkEntries r
def uptoBulkEntry {H : Type} : Lit × DataW H → Nat
  | (.string bytes, d) => bytes.length + uptoBulk d + 1
  | (_, d) => uptoBulk d + 1
 end
def uptoSmall : (H : Type) → List (DataW H) → Bool := fun _ ds => decide (uptoBulkAll ds ≤ 1048576)
def OpenSpec.upto (s : _root_.Go.ChangeSpec) : _root_.Go.OpenSpec := { _root_.Go.OpenSpec.ofChange s with cond := some uptoSmall }

/-- 'laws.FnExactNeighboursOnce', WHERE WHAT IT READS IS OF BULK AT MOST 1048576: true; the input reads as it did. -/
def fnExactNeighboursOnceUptoRow : OpenClaim := { program := "ytfnflalnjigfkaa", sum := "519421251161b003579956593ce118a2bc4ed93e578e7770340bdd8a5a7746c7", func := "loop.example/tablehouse/laws.FnExactNeighboursOnce", spec := "fnExactNeighboursOnce", unfollowed := true, recurses := true, apart := false, narrowed := true }
def FnExactNeighboursOnceUptoSaid : Prop := fnExactNeighboursOnceUptoRow.holds Try.pinned (OpenSpec.upto fnExactNeighboursOnceSpec)

/-- 'laws.FnRowBytes', WHERE WHAT IT READS IS OF BULK AT MOST 1048576: true; the input reads as it did. -/
def fnRowBytesUptoRow : OpenClaim := { program := "ytfnflalnjigfkaa", sum := "519421251161b003579956593ce118a2bc4ed93e578e7770340bdd8a5a7746c7", func := "loop.example/tablehouse/laws.FnRowBytes", spec := "fnRowBytes", unfollowed := true, recurses := true, apart := false, narrowed := true }
def FnRowBytesUptoSaid : Prop := fnRowBytesUptoRow.holds Try.pinned (OpenSpec.upto fnRowBytesSpec)

/-- 'laws.FnRowOrder', WHERE WHAT IT READS IS OF BULK AT MOST 1048576: true; the input reads as it did. -/
def fnRowOrderUptoRow : OpenClaim := { program := "ytfnflalnjigfkaa", sum := "519421251161b003579956593ce118a2bc4ed93e578e7770340bdd8a5a7746c7", func := "loop.example/tablehouse/laws.FnRowOrder", spec := "fnRowOrder", unfollowed := true, recurses := true, apart := false, narrowed := true }
def FnRowOrderUptoSaid : Prop := fnRowOrderUptoRow.holds Try.pinned (OpenSpec.upto fnRowOrderSpec)

/-- 'laws.FnBatchRows', WHERE WHAT IT READS IS OF BULK AT MOST 1048576: true; the input reads as it did. -/
def fnBatchRowsUptoRow : OpenClaim := { program := "ytfnflalnjigfkaa", sum := "519421251161b003579956593ce118a2bc4ed93e578e7770340bdd8a5a7746c7", func := "loop.example/tablehouse/laws.FnBatchRows", spec := "fnBatchRows", unfollowed := true, recurses := true, apart := false, narrowed := true }
def FnBatchRowsUptoSaid : Prop := fnBatchRowsUptoRow.holds Try.pinned (OpenSpec.upto fnBatchRowsSpec)

/-- 'laws.FnExactExprKind', WHERE WHAT IT READS IS OF BULK AT MOST 1048576: true; the input reads as it did. -/
def fnExactExprKindUptoRow : OpenClaim := { program := "ytfnflalnjigfkaa", sum := "519421251161b003579956593ce118a2bc4ed93e578e7770340bdd8a5a7746c7", func := "loop.example/tablehouse/laws.FnExactExprKind", spec := "fnExactExprKind", unfollowed := true, recurses := true, apart := false, narrowed := true }
def FnExactExprKindUptoSaid : Prop := fnExactExprKindUptoRow.holds Try.pinned (OpenSpec.upto fnExactExprKindSpec)

/-- 'laws.FnRowFrom', WHERE WHAT IT READS IS OF BULK AT MOST 1048576: true; the input reads as it did. -/
def fnRowFromUptoRow : OpenClaim := { program := "ytfnflalnjigfkaa", sum := "519421251161b003579956593ce118a2bc4ed93e578e7770340bdd8a5a7746c7", func := "loop.example/tablehouse/laws.FnRowFrom", spec := "fnRowFrom", unfollowed := true, recurses := true, apart := false, narrowed := true }
def FnRowFromUptoSaid : Prop := fnRowFromUptoRow.holds Try.pinned (OpenSpec.upto fnRowFromSpec)

/-- 'laws.FnExprKind', WHERE WHAT IT READS IS OF BULK AT MOST 1048576: true; the input reads as it did. -/
def fnExprKindUptoRow : OpenClaim := { program := "ytfnflalnjigfkaa", sum := "519421251161b003579956593ce118a2bc4ed93e578e7770340bdd8a5a7746c7", func := "loop.example/tablehouse/laws.FnExprKind", spec := "fnExprKind", unfollowed := true, recurses := true, apart := false, narrowed := true }
def FnExprKindUptoSaid : Prop := fnExprKindUptoRow.holds Try.pinned (OpenSpec.upto fnExprKindSpec)

/-- 'laws.FnExactBatchRows', WHERE WHAT IT READS IS OF BULK AT MOST 1048576: true; the input reads as it did. -/
def fnExactBatchRowsUptoRow : OpenClaim := { program := "ytfnflalnjigfkaa", sum := "519421251161b003579956593ce118a2bc4ed93e578e7770340bdd8a5a7746c7", func := "loop.example/tablehouse/laws.FnExactBatchRows", spec := "fnExactBatchRows", unfollowed := true, recurses := true, apart := false, narrowed := true }
def FnExactBatchRowsUptoSaid : Prop := fnExactBatchRowsUptoRow.holds Try.pinned (OpenSpec.upto fnExactBatchRowsSpec)

/-- 'laws.FnWholeHash', WHERE WHAT IT READS IS OF BULK AT MOST 1048576: true; the input reads as it did. -/
def fnWholeHashUptoRow : OpenClaim := { program := "ytfnflalnjigfkaa", sum := "519421251161b003579956593ce118a2bc4ed93e578e7770340bdd8a5a7746c7", func := "loop.example/tablehouse/laws.FnWholeHash", spec := "fnWholeHash", unfollowed := true, recurses := true, apart := false, narrowed := true }
def FnWholeHashUptoSaid : Prop := fnWholeHashUptoRow.holds Try.pinned (OpenSpec.upto fnWholeHashSpec)

/-- 'laws.FnRowsLess', WHERE WHAT IT READS IS OF BULK AT MOST 1048576: true; the input reads as it did. -/
def fnRowsLessUptoRow : OpenClaim := { program := "ytfnflalnjigfkaa", sum := "519421251161b003579956593ce118a2bc4ed93e578e7770340bdd8a5a7746c7", func := "loop.example/tablehouse/laws.FnRowsLess", spec := "fnRowsLess", apart := false, narrowed := true }
def FnRowsLessUptoSaid : Prop := fnRowsLessUptoRow.holds Try.pinned (OpenSpec.upto fnRowsLessSpec)

/-- 'laws.FnExactRejects', WHERE WHAT IT READS IS OF BULK AT MOST 1048576: true; the input reads as it did. -/
def fnExactRejectsUptoRow : OpenClaim := { program := "ytfnflalnjigfkaa", sum := "519421251161b003579956593ce118a2bc4ed93e578e7770340bdd8a5a7746c7", func := "loop.example/tablehouse/laws.FnExactRejects", spec := "fnExactRejects", unfollowed := true, recurses := true, apart := false, narrowed := true }
def FnExactRejectsUptoSaid : Prop := fnExactRejectsUptoRow.holds Try.pinned (OpenSpec.upto fnExactRejectsSpec)

end Rows
end Go.Proofs.Ytfnflalnjigfkaa
