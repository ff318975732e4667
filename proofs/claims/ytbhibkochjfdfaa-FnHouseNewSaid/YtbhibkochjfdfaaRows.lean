/-
  No cell of these rows narrows 'for every input' (looked for: loops, veiled, ifaces, maps, wideKeys, modest, calm, conditions, laid).
  DERIVED. THE GIVEN ROWS OF THIS SEAT. 12 by the template 'for every input the law returns true; each argument reads behind the call as it read before'; 0 by the template 'total and deterministic' (their statements: YtbhibkochjfdfaaTotals.lean).
  GIVEN WITH THE SEED: the statements are not yours to turn. If you find one false, say at which input.
  Laid BY PROGRAM, IN A SANDBOX (cutbox-rows.mjs): the forced cells as the released guide's own fill.sh prints them over the translation d3356407b001b3ce… (all of the seat's roots in one cut). By AI agents, Wed Nov 11 2026. No macro, syntax, notation, axiom, sorry.
-/
import Derived.Test.YtbhibkochjfdfaaChecked
import GoSem.Claim
import GoSem.ClaimJoined
import GoSem.ClaimMapViews
import Derived.JoinedTies
import Derived.KernelRfl
namespace Go.Proofs.Ytbhibkochjfdfaa
/- THE CELL 'sum', in the pinned program and in every row, IS THE sha256 OF THE DUMP (.gsa) THAT YtbhibkochjfdfaaProg.lean LOADS. Nothing in Lean hashes anything: it is a label: what it is worth is what the hold of that sum in a sandbox is worth. -/
noncomputable def Try.pinned : Pinned := { name := "ytbhibkochjfdfaa", sum := "d3356407b001b3ce5d35303aa31bb6fd0ed4d1f848d7cc07ed5aa7eda90b0b1e", checked := Try.checked }
namespace Rows
def none {H : Type} : Left H := { results := [], args := [] }

/-- 'laws.FnExactVersionsOk': WHATEVER THE INPUT: true; the input reads as it did. -/
def fnExactVersionsOkSpec : ChangeSpec := { name := "fnExactVersionsOk", fn := fun _ => fun
  | [d] => { results := [.lit (.bool true)], args := [d] }
  | _ => none }
def fnExactVersionsOkRow : OpenClaim := { program := "ytbhibkochjfdfaa", sum := "d3356407b001b3ce5d35303aa31bb6fd0ed4d1f848d7cc07ed5aa7eda90b0b1e", func := "loop.example/tablehouse/laws.FnExactVersionsOk", spec := "fnExactVersionsOk", unfollowed := true, recurses := true, apart := false }
def FnExactVersionsOkSaid : Prop := fnExactVersionsOkRow.holds Try.pinned (OpenSpec.ofChange fnExactVersionsOkSpec)

/-- ITS FALSE NEIGHBOUR: 'it returns false'. Refute it at one input. -/
def fnExactVersionsOkWrong : ChangeSpec := { name := "fnExactVersionsOk", fn := fun _ => fun
  | [d] => { results := [.lit (.bool false)], args := [d] }
  | _ => none }
def FnExactVersionsOkWrongFalsely : Prop := fnExactVersionsOkRow.holds Try.pinned (OpenSpec.ofChange fnExactVersionsOkWrong)

/-- 'laws.FnBatchOk': WHATEVER THE INPUT: true; the input reads as it did. -/
def fnBatchOkSpec : ChangeSpec := { name := "fnBatchOk", fn := fun _ => fun
  | [d] => { results := [.lit (.bool true)], args := [d] }
  | _ => none }
def fnBatchOkRow : OpenClaim := { program := "ytbhibkochjfdfaa", sum := "d3356407b001b3ce5d35303aa31bb6fd0ed4d1f848d7cc07ed5aa7eda90b0b1e", func := "loop.example/tablehouse/laws.FnBatchOk", spec := "fnBatchOk", unfollowed := true, recurses := true, apart := false }
def FnBatchOkSaid : Prop := fnBatchOkRow.holds Try.pinned (OpenSpec.ofChange fnBatchOkSpec)

/-- ITS FALSE NEIGHBOUR: 'it returns false'. Refute it at one input. -/
def fnBatchOkWrong : ChangeSpec := { name := "fnBatchOk", fn := fun _ => fun
  | [d] => { results := [.lit (.bool false)], args := [d] }
  | _ => none }
def FnBatchOkWrongFalsely : Prop := fnBatchOkRow.holds Try.pinned (OpenSpec.ofChange fnBatchOkWrong)

/-- 'laws.FnWritesOk': WHATEVER THE INPUT: true; the input reads as it did. -/
def fnWritesOkSpec : ChangeSpec := { name := "fnWritesOk", fn := fun _ => fun
  | [d] => { results := [.lit (.bool true)], args := [d] }
  | _ => none }
def fnWritesOkRow : OpenClaim := { program := "ytbhibkochjfdfaa", sum := "d3356407b001b3ce5d35303aa31bb6fd0ed4d1f848d7cc07ed5aa7eda90b0b1e", func := "loop.example/tablehouse/laws.FnWritesOk", spec := "fnWritesOk", unfollowed := true, recurses := true, apart := false }
def FnWritesOkSaid : Prop := fnWritesOkRow.holds Try.pinned (OpenSpec.ofChange fnWritesOkSpec)

/-- ITS FALSE NEIGHBOUR: 'it returns false'. Refute it at one input. -/
def fnWritesOkWrong : ChangeSpec := { name := "fnWritesOk", fn := fun _ => fun
  | [d] => { results := [.lit (.bool false)], args := [d] }
  | _ => none }
def FnWritesOkWrongFalsely : Prop := fnWritesOkRow.holds Try.pinned (OpenSpec.ofChange fnWritesOkWrong)

/-- 'laws.FnExactRowOrder': WHATEVER THE INPUT: true; the input reads as it did. -/
def fnExactRowOrderSpec : ChangeSpec := { name := "fnExactRowOrder", fn := fun _ => fun
  | [d1, d2] => { results := [.lit (.bool true)], args := [d1, d2] }
  | _ => none }
def fnExactRowOrderRow : OpenClaim := { program := "ytbhibkochjfdfaa", sum := "d3356407b001b3ce5d35303aa31bb6fd0ed4d1f848d7cc07ed5aa7eda90b0b1e", func := "loop.example/tablehouse/laws.FnExactRowOrder", spec := "fnExactRowOrder", unfollowed := true, recurses := true, apart := false }
def FnExactRowOrderSaid : Prop := fnExactRowOrderRow.holds Try.pinned (OpenSpec.ofChange fnExactRowOrderSpec)

/-- ITS FALSE NEIGHBOUR: 'it returns false'. Refute it at one input. -/
def fnExactRowOrderWrong : ChangeSpec := { name := "fnExactRowOrder", fn := fun _ => fun
  | [d1, d2] => { results := [.lit (.bool false)], args := [d1, d2] }
  | _ => none }
def FnExactRowOrderWrongFalsely : Prop := fnExactRowOrderRow.holds Try.pinned (OpenSpec.ofChange fnExactRowOrderWrong)

/-- 'laws.FnExactRowBytes': WHATEVER THE INPUT: true; the input reads as it did. -/
def fnExactRowBytesSpec : ChangeSpec := { name := "fnExactRowBytes", fn := fun _ => fun
  | [d] => { results := [.lit (.bool true)], args := [d] }
  | _ => none }
def fnExactRowBytesRow : OpenClaim := { program := "ytbhibkochjfdfaa", sum := "d3356407b001b3ce5d35303aa31bb6fd0ed4d1f848d7cc07ed5aa7eda90b0b1e", func := "loop.example/tablehouse/laws.FnExactRowBytes", spec := "fnExactRowBytes", unfollowed := true, recurses := true, apart := false }
def FnExactRowBytesSaid : Prop := fnExactRowBytesRow.holds Try.pinned (OpenSpec.ofChange fnExactRowBytesSpec)

/-- ITS FALSE NEIGHBOUR: 'it returns false'. Refute it at one input. -/
def fnExactRowBytesWrong : ChangeSpec := { name := "fnExactRowBytes", fn := fun _ => fun
  | [d] => { results := [.lit (.bool false)], args := [d] }
  | _ => none }
def FnExactRowBytesWrongFalsely : Prop := fnExactRowBytesRow.holds Try.pinned (OpenSpec.ofChange fnExactRowBytesWrong)

/-- 'laws.FnCompare': WHATEVER THE INPUT: true; the input reads as it did. -/
def fnCompareSpec : ChangeSpec := { name := "fnCompare", fn := fun _ => fun
  | [d] => { results := [.lit (.bool true)], args := [d] }
  | _ => none }
def fnCompareRow : OpenClaim := { program := "ytbhibkochjfdfaa", sum := "d3356407b001b3ce5d35303aa31bb6fd0ed4d1f848d7cc07ed5aa7eda90b0b1e", func := "loop.example/tablehouse/laws.FnCompare", spec := "fnCompare", apart := false }
def FnCompareSaid : Prop := fnCompareRow.holds Try.pinned (OpenSpec.ofChange fnCompareSpec)

/-- ITS FALSE NEIGHBOUR: 'it returns false'. Refute it at one input. -/
def fnCompareWrong : ChangeSpec := { name := "fnCompare", fn := fun _ => fun
  | [d] => { results := [.lit (.bool false)], args := [d] }
  | _ => none }
def FnCompareWrongFalsely : Prop := fnCompareRow.holds Try.pinned (OpenSpec.ofChange fnCompareWrong)

/-- 'laws.FnExactLoopJoin': WHATEVER THE INPUT: true; the input reads as it did. -/
def fnExactLoopJoinSpec : ChangeSpec := { name := "fnExactLoopJoin", fn := fun _ => fun
  | [d1, d2, d3, d4, d5, d6] => { results := [.lit (.bool true)], args := [d1, d2, d3, d4, d5, d6] }
  | _ => none }
def fnExactLoopJoinRow : OpenClaim := { program := "ytbhibkochjfdfaa", sum := "d3356407b001b3ce5d35303aa31bb6fd0ed4d1f848d7cc07ed5aa7eda90b0b1e", func := "loop.example/tablehouse/laws.FnExactLoopJoin", spec := "fnExactLoopJoin", unfollowed := true, recurses := true, apart := false }
def FnExactLoopJoinSaid : Prop := fnExactLoopJoinRow.holds Try.pinned (OpenSpec.ofChange fnExactLoopJoinSpec)

/-- ITS FALSE NEIGHBOUR: 'it returns false'. Refute it at one input. -/
def fnExactLoopJoinWrong : ChangeSpec := { name := "fnExactLoopJoin", fn := fun _ => fun
  | [d1, d2, d3, d4, d5, d6] => { results := [.lit (.bool false)], args := [d1, d2, d3, d4, d5, d6] }
  | _ => none }
def FnExactLoopJoinWrongFalsely : Prop := fnExactLoopJoinRow.holds Try.pinned (OpenSpec.ofChange fnExactLoopJoinWrong)

/-- 'laws.FnExactRowFrom': WHATEVER THE INPUT: true; the input reads as it did. -/
def fnExactRowFromSpec : ChangeSpec := { name := "fnExactRowFrom", fn := fun _ => fun
  | [d] => { results := [.lit (.bool true)], args := [d] }
  | _ => none }
def fnExactRowFromRow : OpenClaim := { program := "ytbhibkochjfdfaa", sum := "d3356407b001b3ce5d35303aa31bb6fd0ed4d1f848d7cc07ed5aa7eda90b0b1e", func := "loop.example/tablehouse/laws.FnExactRowFrom", spec := "fnExactRowFrom", apart := false }
def FnExactRowFromSaid : Prop := fnExactRowFromRow.holds Try.pinned (OpenSpec.ofChange fnExactRowFromSpec)

/-- ITS FALSE NEIGHBOUR: 'it returns false'. Refute it at one input. -/
def fnExactRowFromWrong : ChangeSpec := { name := "fnExactRowFrom", fn := fun _ => fun
  | [d] => { results := [.lit (.bool false)], args := [d] }
  | _ => none }
def FnExactRowFromWrongFalsely : Prop := fnExactRowFromRow.holds Try.pinned (OpenSpec.ofChange fnExactRowFromWrong)

/-- 'laws.FnRowsOk': WHATEVER THE INPUT: true; the input reads as it did. -/
def fnRowsOkSpec : ChangeSpec := { name := "fnRowsOk", fn := fun _ => fun
  | [d] => { results := [.lit (.bool true)], args := [d] }
  | _ => none }
def fnRowsOkRow : OpenClaim := { program := "ytbhibkochjfdfaa", sum := "d3356407b001b3ce5d35303aa31bb6fd0ed4d1f848d7cc07ed5aa7eda90b0b1e", func := "loop.example/tablehouse/laws.FnRowsOk", spec := "fnRowsOk", unfollowed := true, recurses := true, apart := false }
def FnRowsOkSaid : Prop := fnRowsOkRow.holds Try.pinned (OpenSpec.ofChange fnRowsOkSpec)

/-- ITS FALSE NEIGHBOUR: 'it returns false'. Refute it at one input. -/
def fnRowsOkWrong : ChangeSpec := { name := "fnRowsOk", fn := fun _ => fun
  | [d] => { results := [.lit (.bool false)], args := [d] }
  | _ => none }
def FnRowsOkWrongFalsely : Prop := fnRowsOkRow.holds Try.pinned (OpenSpec.ofChange fnRowsOkWrong)

/-- 'laws.FnRowsOnce': WHATEVER THE INPUT: true; the input reads as it did. -/
def fnRowsOnceSpec : ChangeSpec := { name := "fnRowsOnce", fn := fun _ => fun
  | [d] => { results := [.lit (.bool true)], args := [d] }
  | _ => none }
def fnRowsOnceRow : OpenClaim := { program := "ytbhibkochjfdfaa", sum := "d3356407b001b3ce5d35303aa31bb6fd0ed4d1f848d7cc07ed5aa7eda90b0b1e", func := "loop.example/tablehouse/laws.FnRowsOnce", spec := "fnRowsOnce", apart := false }
def FnRowsOnceSaid : Prop := fnRowsOnceRow.holds Try.pinned (OpenSpec.ofChange fnRowsOnceSpec)

/-- ITS FALSE NEIGHBOUR: 'it returns false'. Refute it at one input. -/
def fnRowsOnceWrong : ChangeSpec := { name := "fnRowsOnce", fn := fun _ => fun
  | [d] => { results := [.lit (.bool false)], args := [d] }
  | _ => none }
def FnRowsOnceWrongFalsely : Prop := fnRowsOnceRow.holds Try.pinned (OpenSpec.ofChange fnRowsOnceWrong)

/-- 'laws.FnHouseNew': WHATEVER THE INPUT: true; the input reads as it did. -/
def fnHouseNewSpec : ChangeSpec := { name := "fnHouseNew", fn := fun _ => fun
  | [d] => { results := [.lit (.bool true)], args := [d] }
  | _ => none }
def fnHouseNewRow : OpenClaim := { program := "ytbhibkochjfdfaa", sum := "d3356407b001b3ce5d35303aa31bb6fd0ed4d1f848d7cc07ed5aa7eda90b0b1e", func := "loop.example/tablehouse/laws.FnHouseNew", spec := "fnHouseNew", unfollowed := true, recurses := true, apart := false }
def FnHouseNewSaid : Prop := fnHouseNewRow.holds Try.pinned (OpenSpec.ofChange fnHouseNewSpec)

/-- ITS FALSE NEIGHBOUR: 'it returns false'. Refute it at one input. -/
def fnHouseNewWrong : ChangeSpec := { name := "fnHouseNew", fn := fun _ => fun
  | [d] => { results := [.lit (.bool false)], args := [d] }
  | _ => none }
def FnHouseNewWrongFalsely : Prop := fnHouseNewRow.holds Try.pinned (OpenSpec.ofChange fnHouseNewWrong)

/-- 'laws.FnExactLastTurn': WHATEVER THE INPUT: true; the input reads as it did. -/
def fnExactLastTurnSpec : ChangeSpec := { name := "fnExactLastTurn", fn := fun _ => fun
  | [d1, d2] => { results := [.lit (.bool true)], args := [d1, d2] }
  | _ => none }
def fnExactLastTurnRow : OpenClaim := { program := "ytbhibkochjfdfaa", sum := "d3356407b001b3ce5d35303aa31bb6fd0ed4d1f848d7cc07ed5aa7eda90b0b1e", func := "loop.example/tablehouse/laws.FnExactLastTurn", spec := "fnExactLastTurn", unfollowed := true, recurses := true, apart := false }
def FnExactLastTurnSaid : Prop := fnExactLastTurnRow.holds Try.pinned (OpenSpec.ofChange fnExactLastTurnSpec)

/-- ITS FALSE NEIGHBOUR: 'it returns false'. Refute it at one input. -/
def fnExactLastTurnWrong : ChangeSpec := { name := "fnExactLastTurn", fn := fun _ => fun
  | [d1, d2] => { results := [.lit (.bool false)], args := [d1, d2] }
  | _ => none }
def FnExactLastTurnWrongFalsely : Prop := fnExactLastTurnRow.holds Try.pinned (OpenSpec.ofChange fnExactLastTurnWrong)

/- THE SECOND FORM. 'bulk': how many values and letters a reading holds, each counted each time it is reached (what is shared counts as often as it is met; a slice's spare places count too). A statement '..UptoSaid' is the law's where the arguments, and the package variables that the reading takes, are together of bulk at most 1048576: NARROWER than '..Said'. Prove '..Said' where nothing that the law and all that it calls make is longer than what came in: it says more and counts as full. Else prove '..UptoSaid'. A law counts once. -/
mutual
def uptoBulk {H : Type} : DataW H → Nat
  | .lit (.string bytes) => bytes.length + 1
  | .lit _ => 1
  | .nil => 1
  | .ptr d => uptoBulk d + 1
  | .slice elems spare => uptoBulkAll elems + uptoBulkAll spare + 1
  | .agg parts => uptoBulkAll parts + 1
  | .iface _ d => uptoBulk d + 1
  | .map entries => uptoBulkEntries entries + 1
  | .held _ => 1
def uptoBulkAll {H : Type} : List (DataW H) → Nat
  | [] => 0
  | d :: r => uptoBulk d + uptoBulkAll r
def uptoBulkEntries {H : Type} : List (Lit × DataW H) → Nat
  | [] => 0
  | x :: r => uptoBulkEntry x + uptoBulkEntries r
def uptoBulkEntry {H : Type} : Lit × DataW H → Nat
  | (.string bytes, d) => bytes.length + uptoBulk d + 1
  | (_, d) => uptoBulk d + 1
 end
def uptoSmall : (H : Type) → List (DataW H) → Bool := fun _ ds => decide (uptoBulkAll ds ≤ 1048576)
def OpenSpec.upto (s : _root_.Go.ChangeSpec) : _root_.Go.OpenSpec := { _root_.Go.OpenSpec.ofChange s with cond := some uptoSmall }

/-- 'laws.FnExactVersionsOk', WHERE WHAT IT READS IS OF BULK AT MOST 1048576: true; the input reads as it did. -/
def fnExactVersionsOkUptoRow : OpenClaim := { program := "ytbhibkochjfdfaa", sum := "d3356407b001b3ce5d35303aa31bb6fd0ed4d1f848d7cc07ed5aa7eda90b0b1e", func := "loop.example/tablehouse/laws.FnExactVersionsOk", spec := "fnExactVersionsOk", unfollowed := true, recurses := true, apart := false, narrowed := true }
def FnExactVersionsOkUptoSaid : Prop := fnExactVersionsOkUptoRow.holds Try.pinned (OpenSpec.upto fnExactVersionsOkSpec)

/-- 'laws.FnBatchOk', WHERE WHAT IT READS IS OF BULK AT MOST 1048576: true; the input reads as it did. -/
def fnBatchOkUptoRow : OpenClaim := { program := "ytbhibkochjfdfaa", sum := "d3356407b001b3ce5d35303aa31bb6fd0ed4d1f848d7cc07ed5aa7eda90b0b1e", func := "loop.example/tablehouse/laws.FnBatchOk", spec := "fnBatchOk", unfollowed := true, recurses := true, apart := false, narrowed := true }
def FnBatchOkUptoSaid : Prop := fnBatchOkUptoRow.holds Try.pinned (OpenSpec.upto fnBatchOkSpec)

/-- 'laws.FnWritesOk', WHERE WHAT IT READS IS OF BULK AT MOST 1048576: true; the input reads as it did. -/
def fnWritesOkUptoRow : OpenClaim := { program := "ytbhibkochjfdfaa", sum := "d3356407b001b3ce5d35303aa31bb6fd0ed4d1f848d7cc07ed5aa7eda90b0b1e", func := "loop.example/tablehouse/laws.FnWritesOk", spec := "fnWritesOk", unfollowed := true, recurses := true, apart := false, narrowed := true }
def FnWritesOkUptoSaid : Prop := fnWritesOkUptoRow.holds Try.pinned (OpenSpec.upto fnWritesOkSpec)

/-- 'laws.FnExactRowOrder', WHERE WHAT IT READS IS OF BULK AT MOST 1048576: true; the input reads as it did. -/
def fnExactRowOrderUptoRow : OpenClaim := { program := "ytbhibkochjfdfaa", sum := "d3356407b001b3ce5d35303aa31bb6fd0ed4d1f848d7cc07ed5aa7eda90b0b1e", func := "loop.example/tablehouse/laws.FnExactRowOrder", spec := "fnExactRowOrder", unfollowed := true, recurses := true, apart := false, narrowed := true }
def FnExactRowOrderUptoSaid : Prop := fnExactRowOrderUptoRow.holds Try.pinned (OpenSpec.upto fnExactRowOrderSpec)

/-- 'laws.FnExactRowBytes', WHERE WHAT IT READS IS OF BULK AT MOST 1048576: true; the input reads as it did. -/
def fnExactRowBytesUptoRow : OpenClaim := { program := "ytbhibkochjfdfaa", sum := "d3356407b001b3ce5d35303aa31bb6fd0ed4d1f848d7cc07ed5aa7eda90b0b1e", func := "loop.example/tablehouse/laws.FnExactRowBytes", spec := "fnExactRowBytes", unfollowed := true, recurses := true, apart := false, narrowed := true }
def FnExactRowBytesUptoSaid : Prop := fnExactRowBytesUptoRow.holds Try.pinned (OpenSpec.upto fnExactRowBytesSpec)

/-- 'laws.FnCompare', WHERE WHAT IT READS IS OF BULK AT MOST 1048576: true; the input reads as it did. -/
def fnCompareUptoRow : OpenClaim := { program := "ytbhibkochjfdfaa", sum := "d3356407b001b3ce5d35303aa31bb6fd0ed4d1f848d7cc07ed5aa7eda90b0b1e", func := "loop.example/tablehouse/laws.FnCompare", spec := "fnCompare", apart := false, narrowed := true }
def FnCompareUptoSaid : Prop := fnCompareUptoRow.holds Try.pinned (OpenSpec.upto fnCompareSpec)

/-- 'laws.FnExactLoopJoin', WHERE WHAT IT READS IS OF BULK AT MOST 1048576: true; the input reads as it did. -/
def fnExactLoopJoinUptoRow : OpenClaim := { program := "ytbhibkochjfdfaa", sum := "d3356407b001b3ce5d35303aa31bb6fd0ed4d1f848d7cc07ed5aa7eda90b0b1e", func := "loop.example/tablehouse/laws.FnExactLoopJoin", spec := "fnExactLoopJoin", unfollowed := true, recurses := true, apart := false, narrowed := true }
def FnExactLoopJoinUptoSaid : Prop := fnExactLoopJoinUptoRow.holds Try.pinned (OpenSpec.upto fnExactLoopJoinSpec)

/-- 'laws.FnExactRowFrom', WHERE WHAT IT READS IS OF BULK AT MOST 1048576: true; the input reads as it did. -/
def fnExactRowFromUptoRow : OpenClaim := { program := "ytbhibkochjfdfaa", sum := "d3356407b001b3ce5d35303aa31bb6fd0ed4d1f848d7cc07ed5aa7eda90b0b1e", func := "loop.example/tablehouse/laws.FnExactRowFrom", spec := "fnExactRowFrom", apart := false, narrowed := true }
def FnExactRowFromUptoSaid : Prop := fnExactRowFromUptoRow.holds Try.pinned (OpenSpec.upto fnExactRowFromSpec)

/-- 'laws.FnRowsOk', WHERE WHAT IT READS IS OF BULK AT MOST 1048576: true; the input reads as it did. -/
def fnRowsOkUptoRow : OpenClaim := { program := "ytbhibkochjfdfaa", sum := "d3356407b001b3ce5d35303aa31bb6fd0ed4d1f848d7cc07ed5aa7eda90b0b1e", func := "loop.example/tablehouse/laws.FnRowsOk", spec := "fnRowsOk", unfollowed := true, recurses := true, apart := false, narrowed := true }
def FnRowsOkUptoSaid : Prop := fnRowsOkUptoRow.holds Try.pinned (OpenSpec.upto fnRowsOkSpec)

/-- 'laws.FnRowsOnce', WHERE WHAT IT READS IS OF BULK AT MOST 1048576: true; the input reads as it did. -/
def fnRowsOnceUptoRow : OpenClaim := { program := "ytbhibkochjfdfaa", sum := "d3356407b001b3ce5d35303aa31bb6fd0ed4d1f848d7cc07ed5aa7eda90b0b1e", func := "loop.example/tablehouse/laws.FnRowsOnce", spec := "fnRowsOnce", apart := false, narrowed := true }
def FnRowsOnceUptoSaid : Prop := fnRowsOnceUptoRow.holds Try.pinned (OpenSpec.upto fnRowsOnceSpec)

/-- 'laws.FnHouseNew', WHERE WHAT IT READS IS OF BULK AT MOST 1048576: true; the input reads as it did. -/
def fnHouseNewUptoRow : OpenClaim := { program := "ytbhibkochjfdfaa", sum := "d3356407b001b3ce5d35303aa31bb6fd0ed4d1f848d7cc07ed5aa7eda90b0b1e", func := "loop.example/tablehouse/laws.FnHouseNew", spec := "fnHouseNew", unfollowed := true, recurses := true, apart := false, narrowed := true }
def FnHouseNewUptoSaid : Prop := fnHouseNewUptoRow.holds Try.pinned (OpenSpec.upto fnHouseNewSpec)

/-- 'laws.FnExactLastTurn', WHERE WHAT IT READS IS OF BULK AT MOST 1048576: true; the input reads as it did. -/
def fnExactLastTurnUptoRow : OpenClaim := { program := "ytbhibkochjfdfaa", sum := "d3356407b001b3ce5d35303aa31bb6fd0ed4d1f848d7cc07ed5aa7eda90b0b1e", func := "loop.example/tablehouse/laws.FnExactLastTurn", spec := "fnExactLastTurn", unfollowed := true, recurses := true, apart := false, narrowed := true }
def FnExactLastTurnUptoSaid : Prop := fnExactLastTurnUptoRow.holds Try.pinned (OpenSpec.upto fnExactLastTurnSpec)

end Rows
end Go.Proofs.Ytbhibkochjfdfaa
