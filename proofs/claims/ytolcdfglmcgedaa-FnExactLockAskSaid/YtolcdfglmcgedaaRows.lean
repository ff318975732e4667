/-
  No cell of these rows narrows 'for every input' (looked for: loops, veiled, ifaces, maps, wideKeys, modest, calm, conditions, laid).
  DERIVED. THE GIVEN ROWS OF THIS SEAT. 11 by the template 'for every input the law returns true; each argument reads behind the call as it read before'; 0 by the template 'total and deterministic' (their statements: YtolcdfglmcgedaaTotals.lean).
  GIVEN WITH THE SEED: the statements are not yours to turn. If you find one false, say at which input.
  Laid BY PROGRAM, IN A SANDBOX (cutbox-rows.mjs): the forced cells as the released guide's own fill.sh prints them over the translation 857fae08a57f8e59… (all of the seat's roots in one cut). By AI agents, Wed Nov 11 2026. No macro, syntax, notation, axiom, sorry.
-/
import Derived.Test.YtolcdfglmcgedaaChecked
import GoSem.Claim
import GoSem.ClaimJoined
import GoSem.ClaimMapViews
import Derived.JoinedTies
import Derived.KernelRfl
namespace Go.Proofs.Ytolcdfglmcgedaa
/- THE CELL 'sum', in the pinned program and in every row, IS THE sha256 OF THE DUMP (.gsa) THAT YtolcdfglmcgedaaProg.lean LOADS. Nothing in Lean hashes anything: it is a label: what it is worth is what the hold of that sum in a sandbox is worth. -/
noncomputable def Try.pinned : Pinned := { name := "ytolcdfglmcgedaa", sum := "857fae08a57f8e59259bfb1a592e20067ed7c05efb5c70f22855e1f11a8a4de0", checked := Try.checked }
namespace Rows
def none {H : Type} : Left H := { results := [], args := [] }

/-- 'laws.FnChangeOk': WHATEVER THE INPUT: true; the input reads as it did. -/
def fnChangeOkSpec : ChangeSpec := { name := "fnChangeOk", fn := fun _ => fun
  | [d] => { results := [.lit (.bool true)], args := [d] }
  | _ => none }
def fnChangeOkRow : OpenClaim := { program := "ytolcdfglmcgedaa", sum := "857fae08a57f8e59259bfb1a592e20067ed7c05efb5c70f22855e1f11a8a4de0", func := "loop.example/tablehouse/laws.FnChangeOk", spec := "fnChangeOk", unfollowed := true, recurses := true, apart := false }
def FnChangeOkSaid : Prop := fnChangeOkRow.holds Try.pinned (OpenSpec.ofChange fnChangeOkSpec)

/-- ITS FALSE NEIGHBOUR: 'it returns false'. Refute it at one input. -/
def fnChangeOkWrong : ChangeSpec := { name := "fnChangeOk", fn := fun _ => fun
  | [d] => { results := [.lit (.bool false)], args := [d] }
  | _ => none }
def FnChangeOkWrongFalsely : Prop := fnChangeOkRow.holds Try.pinned (OpenSpec.ofChange fnChangeOkWrong)

/-- 'laws.FnLocksOk': WHATEVER THE INPUT: true; the input reads as it did. -/
def fnLocksOkSpec : ChangeSpec := { name := "fnLocksOk", fn := fun _ => fun
  | [d] => { results := [.lit (.bool true)], args := [d] }
  | _ => none }
def fnLocksOkRow : OpenClaim := { program := "ytolcdfglmcgedaa", sum := "857fae08a57f8e59259bfb1a592e20067ed7c05efb5c70f22855e1f11a8a4de0", func := "loop.example/tablehouse/laws.FnLocksOk", spec := "fnLocksOk", unfollowed := true, recurses := true, apart := false }
def FnLocksOkSaid : Prop := fnLocksOkRow.holds Try.pinned (OpenSpec.ofChange fnLocksOkSpec)

/-- ITS FALSE NEIGHBOUR: 'it returns false'. Refute it at one input. -/
def fnLocksOkWrong : ChangeSpec := { name := "fnLocksOk", fn := fun _ => fun
  | [d] => { results := [.lit (.bool false)], args := [d] }
  | _ => none }
def FnLocksOkWrongFalsely : Prop := fnLocksOkRow.holds Try.pinned (OpenSpec.ofChange fnLocksOkWrong)

/-- 'laws.FnTablesOk': WHATEVER THE INPUT: true; the input reads as it did. -/
def fnTablesOkSpec : ChangeSpec := { name := "fnTablesOk", fn := fun _ => fun
  | [d] => { results := [.lit (.bool true)], args := [d] }
  | _ => none }
def fnTablesOkRow : OpenClaim := { program := "ytolcdfglmcgedaa", sum := "857fae08a57f8e59259bfb1a592e20067ed7c05efb5c70f22855e1f11a8a4de0", func := "loop.example/tablehouse/laws.FnTablesOk", spec := "fnTablesOk", unfollowed := true, recurses := true, apart := false }
def FnTablesOkSaid : Prop := fnTablesOkRow.holds Try.pinned (OpenSpec.ofChange fnTablesOkSpec)

/-- ITS FALSE NEIGHBOUR: 'it returns false'. Refute it at one input. -/
def fnTablesOkWrong : ChangeSpec := { name := "fnTablesOk", fn := fun _ => fun
  | [d] => { results := [.lit (.bool false)], args := [d] }
  | _ => none }
def FnTablesOkWrongFalsely : Prop := fnTablesOkRow.holds Try.pinned (OpenSpec.ofChange fnTablesOkWrong)

/-- 'laws.FnExactLockAsk': WHATEVER THE INPUT: true; the input reads as it did. -/
def fnExactLockAskSpec : ChangeSpec := { name := "fnExactLockAsk", fn := fun _ => fun
  | [d1, d2] => { results := [.lit (.bool true)], args := [d1, d2] }
  | _ => none }
def fnExactLockAskRow : OpenClaim := { program := "ytolcdfglmcgedaa", sum := "857fae08a57f8e59259bfb1a592e20067ed7c05efb5c70f22855e1f11a8a4de0", func := "loop.example/tablehouse/laws.FnExactLockAsk", spec := "fnExactLockAsk", unfollowed := true, recurses := true, apart := false }
def FnExactLockAskSaid : Prop := fnExactLockAskRow.holds Try.pinned (OpenSpec.ofChange fnExactLockAskSpec)

/-- ITS FALSE NEIGHBOUR: 'it returns false'. Refute it at one input. -/
def fnExactLockAskWrong : ChangeSpec := { name := "fnExactLockAsk", fn := fun _ => fun
  | [d1, d2] => { results := [.lit (.bool false)], args := [d1, d2] }
  | _ => none }
def FnExactLockAskWrongFalsely : Prop := fnExactLockAskRow.holds Try.pinned (OpenSpec.ofChange fnExactLockAskWrong)

/-- 'laws.FnExactTalliesOk': WHATEVER THE INPUT: true; the input reads as it did. -/
def fnExactTalliesOkSpec : ChangeSpec := { name := "fnExactTalliesOk", fn := fun _ => fun
  | [d] => { results := [.lit (.bool true)], args := [d] }
  | _ => none }
def fnExactTalliesOkRow : OpenClaim := { program := "ytolcdfglmcgedaa", sum := "857fae08a57f8e59259bfb1a592e20067ed7c05efb5c70f22855e1f11a8a4de0", func := "loop.example/tablehouse/laws.FnExactTalliesOk", spec := "fnExactTalliesOk", unfollowed := true, recurses := true, apart := false }
def FnExactTalliesOkSaid : Prop := fnExactTalliesOkRow.holds Try.pinned (OpenSpec.ofChange fnExactTalliesOkSpec)

/-- ITS FALSE NEIGHBOUR: 'it returns false'. Refute it at one input. -/
def fnExactTalliesOkWrong : ChangeSpec := { name := "fnExactTalliesOk", fn := fun _ => fun
  | [d] => { results := [.lit (.bool false)], args := [d] }
  | _ => none }
def FnExactTalliesOkWrongFalsely : Prop := fnExactTalliesOkRow.holds Try.pinned (OpenSpec.ofChange fnExactTalliesOkWrong)

/-- 'laws.FnLockAsk': WHATEVER THE INPUT: true; the input reads as it did. -/
def fnLockAskSpec : ChangeSpec := { name := "fnLockAsk", fn := fun _ => fun
  | [d] => { results := [.lit (.bool true)], args := [d] }
  | _ => none }
def fnLockAskRow : OpenClaim := { program := "ytolcdfglmcgedaa", sum := "857fae08a57f8e59259bfb1a592e20067ed7c05efb5c70f22855e1f11a8a4de0", func := "loop.example/tablehouse/laws.FnLockAsk", spec := "fnLockAsk", unfollowed := true, recurses := true, apart := false }
def FnLockAskSaid : Prop := fnLockAskRow.holds Try.pinned (OpenSpec.ofChange fnLockAskSpec)

/-- ITS FALSE NEIGHBOUR: 'it returns false'. Refute it at one input. -/
def fnLockAskWrong : ChangeSpec := { name := "fnLockAsk", fn := fun _ => fun
  | [d] => { results := [.lit (.bool false)], args := [d] }
  | _ => none }
def FnLockAskWrongFalsely : Prop := fnLockAskRow.holds Try.pinned (OpenSpec.ofChange fnLockAskWrong)

/-- 'laws.FnExactTablesOk': WHATEVER THE INPUT: true; the input reads as it did. -/
def fnExactTablesOkSpec : ChangeSpec := { name := "fnExactTablesOk", fn := fun _ => fun
  | [d] => { results := [.lit (.bool true)], args := [d] }
  | _ => none }
def fnExactTablesOkRow : OpenClaim := { program := "ytolcdfglmcgedaa", sum := "857fae08a57f8e59259bfb1a592e20067ed7c05efb5c70f22855e1f11a8a4de0", func := "loop.example/tablehouse/laws.FnExactTablesOk", spec := "fnExactTablesOk", unfollowed := true, recurses := true, apart := false }
def FnExactTablesOkSaid : Prop := fnExactTablesOkRow.holds Try.pinned (OpenSpec.ofChange fnExactTablesOkSpec)

/-- ITS FALSE NEIGHBOUR: 'it returns false'. Refute it at one input. -/
def fnExactTablesOkWrong : ChangeSpec := { name := "fnExactTablesOk", fn := fun _ => fun
  | [d] => { results := [.lit (.bool false)], args := [d] }
  | _ => none }
def FnExactTablesOkWrongFalsely : Prop := fnExactTablesOkRow.holds Try.pinned (OpenSpec.ofChange fnExactTablesOkWrong)

/-- 'laws.FnExactLockFree': WHATEVER THE INPUT: true; the input reads as it did. -/
def fnExactLockFreeSpec : ChangeSpec := { name := "fnExactLockFree", fn := fun _ => fun
  | [d1, d2] => { results := [.lit (.bool true)], args := [d1, d2] }
  | _ => none }
def fnExactLockFreeRow : OpenClaim := { program := "ytolcdfglmcgedaa", sum := "857fae08a57f8e59259bfb1a592e20067ed7c05efb5c70f22855e1f11a8a4de0", func := "loop.example/tablehouse/laws.FnExactLockFree", spec := "fnExactLockFree", unfollowed := true, recurses := true, apart := false }
def FnExactLockFreeSaid : Prop := fnExactLockFreeRow.holds Try.pinned (OpenSpec.ofChange fnExactLockFreeSpec)

/-- ITS FALSE NEIGHBOUR: 'it returns false'. Refute it at one input. -/
def fnExactLockFreeWrong : ChangeSpec := { name := "fnExactLockFree", fn := fun _ => fun
  | [d1, d2] => { results := [.lit (.bool false)], args := [d1, d2] }
  | _ => none }
def FnExactLockFreeWrongFalsely : Prop := fnExactLockFreeRow.holds Try.pinned (OpenSpec.ofChange fnExactLockFreeWrong)

/-- 'laws.FnLockFree': WHATEVER THE INPUT: true; the input reads as it did. -/
def fnLockFreeSpec : ChangeSpec := { name := "fnLockFree", fn := fun _ => fun
  | [d] => { results := [.lit (.bool true)], args := [d] }
  | _ => none }
def fnLockFreeRow : OpenClaim := { program := "ytolcdfglmcgedaa", sum := "857fae08a57f8e59259bfb1a592e20067ed7c05efb5c70f22855e1f11a8a4de0", func := "loop.example/tablehouse/laws.FnLockFree", spec := "fnLockFree", unfollowed := true, recurses := true, apart := false }
def FnLockFreeSaid : Prop := fnLockFreeRow.holds Try.pinned (OpenSpec.ofChange fnLockFreeSpec)

/-- ITS FALSE NEIGHBOUR: 'it returns false'. Refute it at one input. -/
def fnLockFreeWrong : ChangeSpec := { name := "fnLockFree", fn := fun _ => fun
  | [d] => { results := [.lit (.bool false)], args := [d] }
  | _ => none }
def FnLockFreeWrongFalsely : Prop := fnLockFreeRow.holds Try.pinned (OpenSpec.ofChange fnLockFreeWrong)

/-- 'laws.FnTalliesOk': WHATEVER THE INPUT: true; the input reads as it did. -/
def fnTalliesOkSpec : ChangeSpec := { name := "fnTalliesOk", fn := fun _ => fun
  | [d] => { results := [.lit (.bool true)], args := [d] }
  | _ => none }
def fnTalliesOkRow : OpenClaim := { program := "ytolcdfglmcgedaa", sum := "857fae08a57f8e59259bfb1a592e20067ed7c05efb5c70f22855e1f11a8a4de0", func := "loop.example/tablehouse/laws.FnTalliesOk", spec := "fnTalliesOk", unfollowed := true, recurses := true, apart := false }
def FnTalliesOkSaid : Prop := fnTalliesOkRow.holds Try.pinned (OpenSpec.ofChange fnTalliesOkSpec)

/-- ITS FALSE NEIGHBOUR: 'it returns false'. Refute it at one input. -/
def fnTalliesOkWrong : ChangeSpec := { name := "fnTalliesOk", fn := fun _ => fun
  | [d] => { results := [.lit (.bool false)], args := [d] }
  | _ => none }
def FnTalliesOkWrongFalsely : Prop := fnTalliesOkRow.holds Try.pinned (OpenSpec.ofChange fnTalliesOkWrong)

/-- 'laws.FnExactChangeOk': WHATEVER THE INPUT: true; the input reads as it did. -/
def fnExactChangeOkSpec : ChangeSpec := { name := "fnExactChangeOk", fn := fun _ => fun
  | [d1, d2] => { results := [.lit (.bool true)], args := [d1, d2] }
  | _ => none }
def fnExactChangeOkRow : OpenClaim := { program := "ytolcdfglmcgedaa", sum := "857fae08a57f8e59259bfb1a592e20067ed7c05efb5c70f22855e1f11a8a4de0", func := "loop.example/tablehouse/laws.FnExactChangeOk", spec := "fnExactChangeOk", unfollowed := true, recurses := true, apart := false }
def FnExactChangeOkSaid : Prop := fnExactChangeOkRow.holds Try.pinned (OpenSpec.ofChange fnExactChangeOkSpec)

/-- ITS FALSE NEIGHBOUR: 'it returns false'. Refute it at one input. -/
def fnExactChangeOkWrong : ChangeSpec := { name := "fnExactChangeOk", fn := fun _ => fun
  | [d1, d2] => { results := [.lit (.bool false)], args := [d1, d2] }
  | _ => none }
def FnExactChangeOkWrongFalsely : Prop := fnExactChangeOkRow.holds Try.pinned (OpenSpec.ofChange fnExactChangeOkWrong)

/- THE SECOND FORM. 'bulk': how many values and letters a reading holds, each counted each time it is reached (what is shared counts as often as it is met; a slice's spare places count too). A statement '..UptoSaid' is the law's where the arguments, and the package variables that the reading takes, are together of bulk at most 1048576: NARROWER than '..Said'. Prove '..Said' where nothing that the law and all that it calls make is longer than what came in: it says more and counts as full. Else prove '..UptoSaid'. A law counts once. -/
mutual
def uptoBulk {H : Type} : DataW H → Nat
  | .lit (.string bytes) => bytes.length + 1
  | .lit _ => 1
  | .nil => 1
  | .ptr d => uptoBulk d + 1
  | .slice elems spare => uptoBulkAll elems + uptoBulkAll spare + 1
  | .agg parts => uptoBulkAll parts + 1
  | .iface _ d => uptoBulk d + 1
  | .map entries => uptoBulkEntries entries + 1
  | .held _ => 1
def uptoBulkAll {H : Type} : List (DataW H) → Nat
  | [] => 0
  | d :: r => uptoBulk d + uptoBulkAll r
def uptoBulkEntries {H : Type} : List (Lit × DataW H) → Nat
  | [] => 0
  | x :: r => uptoBulkEntry x + uptoBulkEntries r
def uptoBulkEntry {H : Type} : Lit × DataW H → Nat
  | (.string bytes, d) => bytes.length + uptoBulk d + 1
  | (_, d) => uptoBulk d + 1
 end
def uptoSmall : (H : Type) → List (DataW H) → Bool := fun _ ds => decide (uptoBulkAll ds ≤ 1048576)
def OpenSpec.upto (s : _root_.Go.ChangeSpec) : _root_.Go.OpenSpec := { _root_.Go.OpenSpec.ofChange s with cond := some uptoSmall }

/-- 'laws.FnChangeOk', WHERE WHAT IT READS IS OF BULK AT MOST 1048576: true; the input reads as it did. -/
def fnChangeOkUptoRow : OpenClaim := { program := "ytolcdfglmcgedaa", sum := "857fae08a57f8e59259bfb1a592e20067ed7c05efb5c70f22855e1f11a8a4de0", func := "loop.example/tablehouse/laws.FnChangeOk", spec := "fnChangeOk", unfollowed := true, recurses := true, apart := false, narrowed := true }
def FnChangeOkUptoSaid : Prop := fnChangeOkUptoRow.holds Try.pinned (OpenSpec.upto fnChangeOkSpec)

/-- 'laws.FnLocksOk', WHERE WHAT IT READS IS OF BULK AT MOST 1048576: true; the input reads as it did. -/
def fnLocksOkUptoRow : OpenClaim := { program := "ytolcdfglmcgedaa", sum := "857fae08a57f8e59259bfb1a592e20067ed7c05efb5c70f22855e1f11a8a4de0", func := "loop.example/tablehouse/laws.FnLocksOk", spec := "fnLocksOk", unfollowed := true, recurses := true, apart := false, narrowed := true }
def FnLocksOkUptoSaid : Prop := fnLocksOkUptoRow.holds Try.pinned (OpenSpec.upto fnLocksOkSpec)

/-- 'laws.FnTablesOk', WHERE WHAT IT READS IS OF BULK AT MOST 1048576: true; the input reads as it did. -/
def fnTablesOkUptoRow : OpenClaim := { program := "ytolcdfglmcgedaa", sum := "857fae08a57f8e59259bfb1a592e20067ed7c05efb5c70f22855e1f11a8a4de0", func := "loop.example/tablehouse/laws.FnTablesOk", spec := "fnTablesOk", unfollowed := true, recurses := true, apart := false, narrowed := true }
def FnTablesOkUptoSaid : Prop := fnTablesOkUptoRow.holds Try.pinned (OpenSpec.upto fnTablesOkSpec)

/-- 'laws.FnExactLockAsk', WHERE WHAT IT READS IS OF BULK AT MOST 1048576: true; the input reads as it did. -/
def fnExactLockAskUptoRow : OpenClaim := { program := "ytolcdfglmcgedaa", sum := "857fae08a57f8e59259bfb1a592e20067ed7c05efb5c70f22855e1f11a8a4de0", func := "loop.example/tablehouse/laws.FnExactLockAsk", spec := "fnExactLockAsk", unfollowed := true, recurses := true, apart := false, narrowed := true }
def FnExactLockAskUptoSaid : Prop := fnExactLockAskUptoRow.holds Try.pinned (OpenSpec.upto fnExactLockAskSpec)

/-- 'laws.FnExactTalliesOk', WHERE WHAT IT READS IS OF BULK AT MOST 1048576: true; the input reads as it did. -/
def fnExactTalliesOkUptoRow : OpenClaim := { program := "ytolcdfglmcgedaa", sum := "857fae08a57f8e59259bfb1a592e20067ed7c05efb5c70f22855e1f11a8a4de0", func := "loop.example/tablehouse/laws.FnExactTalliesOk", spec := "fnExactTalliesOk", unfollowed := true, recurses := true, apart := false, narrowed := true }
def FnExactTalliesOkUptoSaid : Prop := fnExactTalliesOkUptoRow.holds Try.pinned (OpenSpec.upto fnExactTalliesOkSpec)

/-- 'laws.FnLockAsk', WHERE WHAT IT READS IS OF BULK AT MOST 1048576: true; the input reads as it did. -/
def fnLockAskUptoRow : OpenClaim := { program := "ytolcdfglmcgedaa", sum := "857fae08a57f8e59259bfb1a592e20067ed7c05efb5c70f22855e1f11a8a4de0", func := "loop.example/tablehouse/laws.FnLockAsk", spec := "fnLockAsk", unfollowed := true, recurses := true, apart := false, narrowed := true }
def FnLockAskUptoSaid : Prop := fnLockAskUptoRow.holds Try.pinned (OpenSpec.upto fnLockAskSpec)

/-- 'laws.FnExactTablesOk', WHERE WHAT IT READS IS OF BULK AT MOST 1048576: true; the input reads as it did. -/
def fnExactTablesOkUptoRow : OpenClaim := { program := "ytolcdfglmcgedaa", sum := "857fae08a57f8e59259bfb1a592e20067ed7c05efb5c70f22855e1f11a8a4de0", func := "loop.example/tablehouse/laws.FnExactTablesOk", spec := "fnExactTablesOk", unfollowed := true, recurses := true, apart := false, narrowed := true }
def FnExactTablesOkUptoSaid : Prop := fnExactTablesOkUptoRow.holds Try.pinned (OpenSpec.upto fnExactTablesOkSpec)

/-- 'laws.FnExactLockFree', WHERE WHAT IT READS IS OF BULK AT MOST 1048576: true; the input reads as it did. -/
def fnExactLockFreeUptoRow : OpenClaim := { program := "ytolcdfglmcgedaa", sum := "857fae08a57f8e59259bfb1a592e20067ed7c05efb5c70f22855e1f11a8a4de0", func := "loop.example/tablehouse/laws.FnExactLockFree", spec := "fnExactLockFree", unfollowed := true, recurses := true, apart := false, narrowed := true }
def FnExactLockFreeUptoSaid : Prop := fnExactLockFreeUptoRow.holds Try.pinned (OpenSpec.upto fnExactLockFreeSpec)

/-- 'laws.FnLockFree', WHERE WHAT IT READS IS OF BULK AT MOST 1048576: true; the input reads as it did. -/
def fnLockFreeUptoRow : OpenClaim := { program := "ytolcdfglmcgedaa", sum := "857fae08a57f8e59259bfb1a592e20067ed7c05efb5c70f22855e1f11a8a4de0", func := "loop.example/tablehouse/laws.FnLockFree", spec := "fnLockFree", unfollowed := true, recurses := true, apart := false, narrowed := true }
def FnLockFreeUptoSaid : Prop := fnLockFreeUptoRow.holds Try.pinned (OpenSpec.upto fnLockFreeSpec)

/-- 'laws.FnTalliesOk', WHERE WHAT IT READS IS OF BULK AT MOST 1048576: true; the input reads as it did. -/
def fnTalliesOkUptoRow : OpenClaim := { program := "ytolcdfglmcgedaa", sum := "857fae08a57f8e59259bfb1a592e20067ed7c05efb5c70f22855e1f11a8a4de0", func := "loop.example/tablehouse/laws.FnTalliesOk", spec := "fnTalliesOk", unfollowed := true, recurses := true, apart := false, narrowed := true }
def FnTalliesOkUptoSaid : Prop := fnTalliesOkUptoRow.holds Try.pinned (OpenSpec.upto fnTalliesOkSpec)

/-- 'laws.FnExactChangeOk', WHERE WHAT IT READS IS OF BULK AT MOST 1048576: true; the input reads as it did. -/
def fnExactChangeOkUptoRow : OpenClaim := { program := "ytolcdfglmcgedaa", sum := "857fae08a57f8e59259bfb1a592e20067ed7c05efb5c70f22855e1f11a8a4de0", func := "loop.example/tablehouse/laws.FnExactChangeOk", spec := "fnExactChangeOk", unfollowed := true, recurses := true, apart := false, narrowed := true }
def FnExactChangeOkUptoSaid : Prop := fnExactChangeOkUptoRow.holds Try.pinned (OpenSpec.upto fnExactChangeOkSpec)

end Rows
end Go.Proofs.Ytolcdfglmcgedaa
