/-
  No cell of these rows narrows 'for every input' (looked for: loops, veiled, ifaces, maps, wideKeys, modest, calm, conditions, laid).
  DERIVED. THE GIVEN ROWS OF THIS SEAT. 12 by the template 'for every input the law returns true; each argument reads behind the call as it read before'; 0 by the template 'total and deterministic' (their statements: YtdifgeiodkiilaaTotals.lean).
  GIVEN WITH THE SEED: the statements are not yours to turn. If you find one false, say at which input.
  Laid BY PROGRAM, IN A SANDBOX (cutbox-rows.mjs): the forced cells as the released guide's own fill.sh prints them over the translation 3cb82402510d4f8d… (all of the seat's roots in one cut). By AI agents, Wed Nov 11 2026. No macro, syntax, notation, axiom, sorry.
-/
import Derived.Test.YtdifgeiodkiilaaChecked
import GoSem.Claim
import GoSem.ClaimJoined
import GoSem.ClaimMapViews
import Derived.JoinedTies
import Derived.KernelRfl
namespace Go.Proofs.Ytdifgeiodkiilaa
/- THE CELL 'sum', in the pinned program and in every row, IS THE sha256 OF THE DUMP (.gsa) THAT YtdifgeiodkiilaaProg.lean LOADS. Nothing in Lean hashes anything: it is a label: what it is worth is what the hold of that sum in a sandbox is worth. -/
noncomputable def Try.pinned : Pinned := { name := "ytdifgeiodkiilaa", sum := "3cb82402510d4f8de6caae828cb3144d60cb562047721582d64e350aedc29c8f", checked := Try.checked }
namespace Rows
def none {H : Type} : Left H := { results := [], args := [] }

/-- 'laws.FnExactIndexOk': WHATEVER THE INPUT: true; the input reads as it did. -/
def fnExactIndexOkSpec : ChangeSpec := { name := "fnExactIndexOk", fn := fun _ => fun
  | [d] => { results := [.lit (.bool true)], args := [d] }
  | _ => none }
def fnExactIndexOkRow : OpenClaim := { program := "ytdifgeiodkiilaa", sum := "3cb82402510d4f8de6caae828cb3144d60cb562047721582d64e350aedc29c8f", func := "loop.example/tablehouse/laws.FnExactIndexOk", spec := "fnExactIndexOk", unfollowed := true, recurses := true, apart := false }
def FnExactIndexOkSaid : Prop := fnExactIndexOkRow.holds Try.pinned (OpenSpec.ofChange fnExactIndexOkSpec)

/-- ITS FALSE NEIGHBOUR: 'it returns false'. Refute it at one input. -/
def fnExactIndexOkWrong : ChangeSpec := { name := "fnExactIndexOk", fn := fun _ => fun
  | [d] => { results := [.lit (.bool false)], args := [d] }
  | _ => none }
def FnExactIndexOkWrongFalsely : Prop := fnExactIndexOkRow.holds Try.pinned (OpenSpec.ofChange fnExactIndexOkWrong)

/-- 'laws.FnLogOk': WHATEVER THE INPUT: true; the input reads as it did. -/
def fnLogOkSpec : ChangeSpec := { name := "fnLogOk", fn := fun _ => fun
  | [d] => { results := [.lit (.bool true)], args := [d] }
  | _ => none }
def fnLogOkRow : OpenClaim := { program := "ytdifgeiodkiilaa", sum := "3cb82402510d4f8de6caae828cb3144d60cb562047721582d64e350aedc29c8f", func := "loop.example/tablehouse/laws.FnLogOk", spec := "fnLogOk", unfollowed := true, recurses := true, apart := false }
def FnLogOkSaid : Prop := fnLogOkRow.holds Try.pinned (OpenSpec.ofChange fnLogOkSpec)

/-- ITS FALSE NEIGHBOUR: 'it returns false'. Refute it at one input. -/
def fnLogOkWrong : ChangeSpec := { name := "fnLogOk", fn := fun _ => fun
  | [d] => { results := [.lit (.bool false)], args := [d] }
  | _ => none }
def FnLogOkWrongFalsely : Prop := fnLogOkRow.holds Try.pinned (OpenSpec.ofChange fnLogOkWrong)

/-- 'laws.FnExactLogOk': WHATEVER THE INPUT: true; the input reads as it did. -/
def fnExactLogOkSpec : ChangeSpec := { name := "fnExactLogOk", fn := fun _ => fun
  | [d] => { results := [.lit (.bool true)], args := [d] }
  | _ => none }
def fnExactLogOkRow : OpenClaim := { program := "ytdifgeiodkiilaa", sum := "3cb82402510d4f8de6caae828cb3144d60cb562047721582d64e350aedc29c8f", func := "loop.example/tablehouse/laws.FnExactLogOk", spec := "fnExactLogOk", unfollowed := true, recurses := true, apart := false }
def FnExactLogOkSaid : Prop := fnExactLogOkRow.holds Try.pinned (OpenSpec.ofChange fnExactLogOkSpec)

/-- ITS FALSE NEIGHBOUR: 'it returns false'. Refute it at one input. -/
def fnExactLogOkWrong : ChangeSpec := { name := "fnExactLogOk", fn := fun _ => fun
  | [d] => { results := [.lit (.bool false)], args := [d] }
  | _ => none }
def FnExactLogOkWrongFalsely : Prop := fnExactLogOkRow.holds Try.pinned (OpenSpec.ofChange fnExactLogOkWrong)

/-- 'laws.FnExactSeenAt': WHATEVER THE INPUT: true; the input reads as it did. -/
def fnExactSeenAtSpec : ChangeSpec := { name := "fnExactSeenAt", fn := fun _ => fun
  | [d1, d2, d3] => { results := [.lit (.bool true)], args := [d1, d2, d3] }
  | _ => none }
def fnExactSeenAtRow : OpenClaim := { program := "ytdifgeiodkiilaa", sum := "3cb82402510d4f8de6caae828cb3144d60cb562047721582d64e350aedc29c8f", func := "loop.example/tablehouse/laws.FnExactSeenAt", spec := "fnExactSeenAt", unfollowed := true, recurses := true, apart := false }
def FnExactSeenAtSaid : Prop := fnExactSeenAtRow.holds Try.pinned (OpenSpec.ofChange fnExactSeenAtSpec)

/-- ITS FALSE NEIGHBOUR: 'it returns false'. Refute it at one input. -/
def fnExactSeenAtWrong : ChangeSpec := { name := "fnExactSeenAt", fn := fun _ => fun
  | [d1, d2, d3] => { results := [.lit (.bool false)], args := [d1, d2, d3] }
  | _ => none }
def FnExactSeenAtWrongFalsely : Prop := fnExactSeenAtRow.holds Try.pinned (OpenSpec.ofChange fnExactSeenAtWrong)

/-- 'laws.FnVersionsOk': WHATEVER THE INPUT: true; the input reads as it did. -/
def fnVersionsOkSpec : ChangeSpec := { name := "fnVersionsOk", fn := fun _ => fun
  | [d] => { results := [.lit (.bool true)], args := [d] }
  | _ => none }
def fnVersionsOkRow : OpenClaim := { program := "ytdifgeiodkiilaa", sum := "3cb82402510d4f8de6caae828cb3144d60cb562047721582d64e350aedc29c8f", func := "loop.example/tablehouse/laws.FnVersionsOk", spec := "fnVersionsOk", unfollowed := true, recurses := true, apart := false }
def FnVersionsOkSaid : Prop := fnVersionsOkRow.holds Try.pinned (OpenSpec.ofChange fnVersionsOkSpec)

/-- ITS FALSE NEIGHBOUR: 'it returns false'. Refute it at one input. -/
def fnVersionsOkWrong : ChangeSpec := { name := "fnVersionsOk", fn := fun _ => fun
  | [d] => { results := [.lit (.bool false)], args := [d] }
  | _ => none }
def FnVersionsOkWrongFalsely : Prop := fnVersionsOkRow.holds Try.pinned (OpenSpec.ofChange fnVersionsOkWrong)

/-- 'laws.FnExactSweptAt': WHATEVER THE INPUT: true; the input reads as it did. -/
def fnExactSweptAtSpec : ChangeSpec := { name := "fnExactSweptAt", fn := fun _ => fun
  | [d1, d2] => { results := [.lit (.bool true)], args := [d1, d2] }
  | _ => none }
def fnExactSweptAtRow : OpenClaim := { program := "ytdifgeiodkiilaa", sum := "3cb82402510d4f8de6caae828cb3144d60cb562047721582d64e350aedc29c8f", func := "loop.example/tablehouse/laws.FnExactSweptAt", spec := "fnExactSweptAt", unfollowed := true, recurses := true, apart := false }
def FnExactSweptAtSaid : Prop := fnExactSweptAtRow.holds Try.pinned (OpenSpec.ofChange fnExactSweptAtSpec)

/-- ITS FALSE NEIGHBOUR: 'it returns false'. Refute it at one input. -/
def fnExactSweptAtWrong : ChangeSpec := { name := "fnExactSweptAt", fn := fun _ => fun
  | [d1, d2] => { results := [.lit (.bool false)], args := [d1, d2] }
  | _ => none }
def FnExactSweptAtWrongFalsely : Prop := fnExactSweptAtRow.holds Try.pinned (OpenSpec.ofChange fnExactSweptAtWrong)

/-- 'laws.FnExactRowsAt': WHATEVER THE INPUT: true; the input reads as it did. -/
def fnExactRowsAtSpec : ChangeSpec := { name := "fnExactRowsAt", fn := fun _ => fun
  | [d1, d2] => { results := [.lit (.bool true)], args := [d1, d2] }
  | _ => none }
def fnExactRowsAtRow : OpenClaim := { program := "ytdifgeiodkiilaa", sum := "3cb82402510d4f8de6caae828cb3144d60cb562047721582d64e350aedc29c8f", func := "loop.example/tablehouse/laws.FnExactRowsAt", spec := "fnExactRowsAt", unfollowed := true, recurses := true, apart := false }
def FnExactRowsAtSaid : Prop := fnExactRowsAtRow.holds Try.pinned (OpenSpec.ofChange fnExactRowsAtSpec)

/-- ITS FALSE NEIGHBOUR: 'it returns false'. Refute it at one input. -/
def fnExactRowsAtWrong : ChangeSpec := { name := "fnExactRowsAt", fn := fun _ => fun
  | [d1, d2] => { results := [.lit (.bool false)], args := [d1, d2] }
  | _ => none }
def FnExactRowsAtWrongFalsely : Prop := fnExactRowsAtRow.holds Try.pinned (OpenSpec.ofChange fnExactRowsAtWrong)

/-- 'laws.FnExactIndexBetween': WHATEVER THE INPUT: true; the input reads as it did. -/
def fnExactIndexBetweenSpec : ChangeSpec := { name := "fnExactIndexBetween", fn := fun _ => fun
  | [d1, d2, d3, d4] => { results := [.lit (.bool true)], args := [d1, d2, d3, d4] }
  | _ => none }
def fnExactIndexBetweenRow : OpenClaim := { program := "ytdifgeiodkiilaa", sum := "3cb82402510d4f8de6caae828cb3144d60cb562047721582d64e350aedc29c8f", func := "loop.example/tablehouse/laws.FnExactIndexBetween", spec := "fnExactIndexBetween", unfollowed := true, recurses := true, apart := false }
def FnExactIndexBetweenSaid : Prop := fnExactIndexBetweenRow.holds Try.pinned (OpenSpec.ofChange fnExactIndexBetweenSpec)

/-- ITS FALSE NEIGHBOUR: 'it returns false'. Refute it at one input. -/
def fnExactIndexBetweenWrong : ChangeSpec := { name := "fnExactIndexBetween", fn := fun _ => fun
  | [d1, d2, d3, d4] => { results := [.lit (.bool false)], args := [d1, d2, d3, d4] }
  | _ => none }
def FnExactIndexBetweenWrongFalsely : Prop := fnExactIndexBetweenRow.holds Try.pinned (OpenSpec.ofChange fnExactIndexBetweenWrong)

/-- 'laws.FnExactIndexFind': WHATEVER THE INPUT: true; the input reads as it did. -/
def fnExactIndexFindSpec : ChangeSpec := { name := "fnExactIndexFind", fn := fun _ => fun
  | [d1, d2, d3] => { results := [.lit (.bool true)], args := [d1, d2, d3] }
  | _ => none }
def fnExactIndexFindRow : OpenClaim := { program := "ytdifgeiodkiilaa", sum := "3cb82402510d4f8de6caae828cb3144d60cb562047721582d64e350aedc29c8f", func := "loop.example/tablehouse/laws.FnExactIndexFind", spec := "fnExactIndexFind", unfollowed := true, recurses := true, apart := false }
def FnExactIndexFindSaid : Prop := fnExactIndexFindRow.holds Try.pinned (OpenSpec.ofChange fnExactIndexFindSpec)

/-- ITS FALSE NEIGHBOUR: 'it returns false'. Refute it at one input. -/
def fnExactIndexFindWrong : ChangeSpec := { name := "fnExactIndexFind", fn := fun _ => fun
  | [d1, d2, d3] => { results := [.lit (.bool false)], args := [d1, d2, d3] }
  | _ => none }
def FnExactIndexFindWrongFalsely : Prop := fnExactIndexFindRow.holds Try.pinned (OpenSpec.ofChange fnExactIndexFindWrong)

/-- 'laws.FnExactIndexSwept': WHATEVER THE INPUT: true; the input reads as it did. -/
def fnExactIndexSweptSpec : ChangeSpec := { name := "fnExactIndexSwept", fn := fun _ => fun
  | [d1, d2] => { results := [.lit (.bool true)], args := [d1, d2] }
  | _ => none }
def fnExactIndexSweptRow : OpenClaim := { program := "ytdifgeiodkiilaa", sum := "3cb82402510d4f8de6caae828cb3144d60cb562047721582d64e350aedc29c8f", func := "loop.example/tablehouse/laws.FnExactIndexSwept", spec := "fnExactIndexSwept", unfollowed := true, recurses := true, apart := false }
def FnExactIndexSweptSaid : Prop := fnExactIndexSweptRow.holds Try.pinned (OpenSpec.ofChange fnExactIndexSweptSpec)

/-- ITS FALSE NEIGHBOUR: 'it returns false'. Refute it at one input. -/
def fnExactIndexSweptWrong : ChangeSpec := { name := "fnExactIndexSwept", fn := fun _ => fun
  | [d1, d2] => { results := [.lit (.bool false)], args := [d1, d2] }
  | _ => none }
def FnExactIndexSweptWrongFalsely : Prop := fnExactIndexSweptRow.holds Try.pinned (OpenSpec.ofChange fnExactIndexSweptWrong)

/-- 'laws.FnSeenAt': WHATEVER THE INPUT: true; the input reads as it did. -/
def fnSeenAtSpec : ChangeSpec := { name := "fnSeenAt", fn := fun _ => fun
  | [d] => { results := [.lit (.bool true)], args := [d] }
  | _ => none }
def fnSeenAtRow : OpenClaim := { program := "ytdifgeiodkiilaa", sum := "3cb82402510d4f8de6caae828cb3144d60cb562047721582d64e350aedc29c8f", func := "loop.example/tablehouse/laws.FnSeenAt", spec := "fnSeenAt", unfollowed := true, recurses := true, apart := false }
def FnSeenAtSaid : Prop := fnSeenAtRow.holds Try.pinned (OpenSpec.ofChange fnSeenAtSpec)

/-- ITS FALSE NEIGHBOUR: 'it returns false'. Refute it at one input. -/
def fnSeenAtWrong : ChangeSpec := { name := "fnSeenAt", fn := fun _ => fun
  | [d] => { results := [.lit (.bool false)], args := [d] }
  | _ => none }
def FnSeenAtWrongFalsely : Prop := fnSeenAtRow.holds Try.pinned (OpenSpec.ofChange fnSeenAtWrong)

/-- 'laws.FnLastTurn': WHATEVER THE INPUT: true; the input reads as it did. -/
def fnLastTurnSpec : ChangeSpec := { name := "fnLastTurn", fn := fun _ => fun
  | [d] => { results := [.lit (.bool true)], args := [d] }
  | _ => none }
def fnLastTurnRow : OpenClaim := { program := "ytdifgeiodkiilaa", sum := "3cb82402510d4f8de6caae828cb3144d60cb562047721582d64e350aedc29c8f", func := "loop.example/tablehouse/laws.FnLastTurn", spec := "fnLastTurn", unfollowed := true, recurses := true, apart := false }
def FnLastTurnSaid : Prop := fnLastTurnRow.holds Try.pinned (OpenSpec.ofChange fnLastTurnSpec)

/-- ITS FALSE NEIGHBOUR: 'it returns false'. Refute it at one input. -/
def fnLastTurnWrong : ChangeSpec := { name := "fnLastTurn", fn := fun _ => fun
  | [d] => { results := [.lit (.bool false)], args := [d] }
  | _ => none }
def FnLastTurnWrongFalsely : Prop := fnLastTurnRow.holds Try.pinned (OpenSpec.ofChange fnLastTurnWrong)

/- THE SECOND FORM. 'bulk': how many values and letters a reading holds, each counted each time it is reached (what is shared counts as often as it is met; a slice's spare places count too). A statement '..UptoSaid' is the law's where the arguments, and the package variables that the reading takes, are together of bulk at most 1048576: NARROWER than '..Said'. Prove '..Said' where nothing that the law and all that it calls make is longer than what came in: it says more and counts as full. Else prove '..UptoSaid'. A law counts once. -/
mutual
def uptoBulk {H : Type} : DataW H → Nat
  | .lit (.string bytes) => bytes.length + 1
  | .lit _ => 1
  | .nil => 1
  | .ptr d => uptoBulk d + 1
  | .slice elems spare => uptoBulkAll elems + uptoBulkAll spare + 1
  | .agg parts => uptoBulkAll parts + 1
  | .iface _ d => uptoBulk d + 1
  | .map entries => uptoBulkEntries entries + 1
  | .held _ => 1
def uptoBulkAll {H : Type} : List (DataW H) → Nat
  | [] => 0
  | d :: r => uptoBulk d + uptoBulkAll r
def uptoBulkEntries {H : Type} : List (Lit × DataW H) → Nat
  | [] => 0
  | x :: r => uptoBulkEntry x + uptoBulkEntries r
def uptoBulkEntry {H : Type} : Lit × DataW H → Nat
  | (.string bytes, d) => bytes.length + uptoBulk d + 1
  | (_, d) => uptoBulk d + 1
 end
def uptoSmall : (H : Type) → List (DataW H) → Bool := fun _ ds => decide (uptoBulkAll ds ≤ 1048576)
def OpenSpec.upto (s : _root_.Go.ChangeSpec) : _root_.Go.OpenSpec := { _root_.Go.OpenSpec.ofChange s with cond := some uptoSmall }

/-- 'laws.FnExactIndexOk', WHERE WHAT IT READS IS OF BULK AT MOST 1048576: true; the input reads as it did. -/
def fnExactIndexOkUptoRow : OpenClaim := { program := "ytdifgeiodkiilaa", sum := "3cb82402510d4f8de6caae828cb3144d60cb562047721582d64e350aedc29c8f", func := "loop.example/tablehouse/laws.FnExactIndexOk", spec := "fnExactIndexOk", unfollowed := true, recurses := true, apart := false, narrowed := true }
def FnExactIndexOkUptoSaid : Prop := fnExactIndexOkUptoRow.holds Try.pinned (OpenSpec.upto fnExactIndexOkSpec)

/-- 'laws.FnLogOk', WHERE WHAT IT READS IS OF BULK AT MOST 1048576: true; the input reads as it did. -/
def fnLogOkUptoRow : OpenClaim := { program := "ytdifgeiodkiilaa", sum := "3cb82402510d4f8de6caae828cb3144d60cb562047721582d64e350aedc29c8f", func := "loop.example/tablehouse/laws.FnLogOk", spec := "fnLogOk", unfollowed := true, recurses := true, apart := false, narrowed := true }
def FnLogOkUptoSaid : Prop := fnLogOkUptoRow.holds Try.pinned (OpenSpec.upto fnLogOkSpec)

/-- 'laws.FnExactLogOk', WHERE WHAT IT READS IS OF BULK AT MOST 1048576: true; the input reads as it did. -/
def fnExactLogOkUptoRow : OpenClaim := { program := "ytdifgeiodkiilaa", sum := "3cb82402510d4f8de6caae828cb3144d60cb562047721582d64e350aedc29c8f", func := "loop.example/tablehouse/laws.FnExactLogOk", spec := "fnExactLogOk", unfollowed := true, recurses := true, apart := false, narrowed := true }
def FnExactLogOkUptoSaid : Prop := fnExactLogOkUptoRow.holds Try.pinned (OpenSpec.upto fnExactLogOkSpec)

/-- 'laws.FnExactSeenAt', WHERE WHAT IT READS IS OF BULK AT MOST 1048576: true; the input reads as it did. -/
def fnExactSeenAtUptoRow : OpenClaim := { program := "ytdifgeiodkiilaa", sum := "3cb82402510d4f8de6caae828cb3144d60cb562047721582d64e350aedc29c8f", func := "loop.example/tablehouse/laws.FnExactSeenAt", spec := "fnExactSeenAt", unfollowed := true, recurses := true, apart := false, narrowed := true }
def FnExactSeenAtUptoSaid : Prop := fnExactSeenAtUptoRow.holds Try.pinned (OpenSpec.upto fnExactSeenAtSpec)

/-- 'laws.FnVersionsOk', WHERE WHAT IT READS IS OF BULK AT MOST 1048576: true; the input reads as it did. -/
def fnVersionsOkUptoRow : OpenClaim := { program := "ytdifgeiodkiilaa", sum := "3cb82402510d4f8de6caae828cb3144d60cb562047721582d64e350aedc29c8f", func := "loop.example/tablehouse/laws.FnVersionsOk", spec := "fnVersionsOk", unfollowed := true, recurses := true, apart := false, narrowed := true }
def FnVersionsOkUptoSaid : Prop := fnVersionsOkUptoRow.holds Try.pinned (OpenSpec.upto fnVersionsOkSpec)

/-- 'laws.FnExactSweptAt', WHERE WHAT IT READS IS OF BULK AT MOST 1048576: true; the input reads as it did. -/
def fnExactSweptAtUptoRow : OpenClaim := { program := "ytdifgeiodkiilaa", sum := "3cb82402510d4f8de6caae828cb3144d60cb562047721582d64e350aedc29c8f", func := "loop.example/tablehouse/laws.FnExactSweptAt", spec := "fnExactSweptAt", unfollowed := true, recurses := true, apart := false, narrowed := true }
def FnExactSweptAtUptoSaid : Prop := fnExactSweptAtUptoRow.holds Try.pinned (OpenSpec.upto fnExactSweptAtSpec)

/-- 'laws.FnExactRowsAt', WHERE WHAT IT READS IS OF BULK AT MOST 1048576: true; the input reads as it did. -/
def fnExactRowsAtUptoRow : OpenClaim := { program := "ytdifgeiodkiilaa", sum := "3cb82402510d4f8de6caae828cb3144d60cb562047721582d64e350aedc29c8f", func := "loop.example/tablehouse/laws.FnExactRowsAt", spec := "fnExactRowsAt", unfollowed := true, recurses := true, apart := false, narrowed := true }
def FnExactRowsAtUptoSaid : Prop := fnExactRowsAtUptoRow.holds Try.pinned (OpenSpec.upto fnExactRowsAtSpec)

/-- 'laws.FnExactIndexBetween', WHERE WHAT IT READS IS OF BULK AT MOST 1048576: true; the input reads as it did. -/
def fnExactIndexBetweenUptoRow : OpenClaim := { program := "ytdifgeiodkiilaa", sum := "3cb82402510d4f8de6caae828cb3144d60cb562047721582d64e350aedc29c8f", func := "loop.example/tablehouse/laws.FnExactIndexBetween", spec := "fnExactIndexBetween", unfollowed := true, recurses := true, apart := false, narrowed := true }
def FnExactIndexBetweenUptoSaid : Prop := fnExactIndexBetweenUptoRow.holds Try.pinned (OpenSpec.upto fnExactIndexBetweenSpec)

/-- 'laws.FnExactIndexFind', WHERE WHAT IT READS IS OF BULK AT MOST 1048576: true; the input reads as it did. -/
def fnExactIndexFindUptoRow : OpenClaim := { program := "ytdifgeiodkiilaa", sum := "3cb82402510d4f8de6caae828cb3144d60cb562047721582d64e350aedc29c8f", func := "loop.example/tablehouse/laws.FnExactIndexFind", spec := "fnExactIndexFind", unfollowed := true, recurses := true, apart := false, narrowed := true }
def FnExactIndexFindUptoSaid : Prop := fnExactIndexFindUptoRow.holds Try.pinned (OpenSpec.upto fnExactIndexFindSpec)

/-- 'laws.FnExactIndexSwept', WHERE WHAT IT READS IS OF BULK AT MOST 1048576: true; the input reads as it did. -/
def fnExactIndexSweptUptoRow : OpenClaim := { program := "ytdifgeiodkiilaa", sum := "3cb82402510d4f8de6caae828cb3144d60cb562047721582d64e350aedc29c8f", func := "loop.example/tablehouse/laws.FnExactIndexSwept", spec := "fnExactIndexSwept", unfollowed := true, recurses := true, apart := false, narrowed := true }
def FnExactIndexSweptUptoSaid : Prop := fnExactIndexSweptUptoRow.holds Try.pinned (OpenSpec.upto fnExactIndexSweptSpec)

/-- 'laws.FnSeenAt', WHERE WHAT IT READS IS OF BULK AT MOST 1048576: true; the input reads as it did. -/
def fnSeenAtUptoRow : OpenClaim := { program := "ytdifgeiodkiilaa", sum := "3cb82402510d4f8de6caae828cb3144d60cb562047721582d64e350aedc29c8f", func := "loop.example/tablehouse/laws.FnSeenAt", spec := "fnSeenAt", unfollowed := true, recurses := true, apart := false, narrowed := true }
def FnSeenAtUptoSaid : Prop := fnSeenAtUptoRow.holds Try.pinned (OpenSpec.upto fnSeenAtSpec)

/-- 'laws.FnLastTurn', WHERE WHAT IT READS IS OF BULK AT MOST 1048576: true; the input reads as it did. -/
def fnLastTurnUptoRow : OpenClaim := { program := "ytdifgeiodkiilaa", sum := "3cb82402510d4f8de6caae828cb3144d60cb562047721582d64e350aedc29c8f", func := "loop.example/tablehouse/laws.FnLastTurn", spec := "fnLastTurn", unfollowed := true, recurses := true, apart := false, narrowed := true }
def FnLastTurnUptoSaid : Prop := fnLastTurnUptoRow.holds Try.pinned (OpenSpec.upto fnLastTurnSpec)

end Rows
end Go.Proofs.Ytdifgeiodkiilaa
