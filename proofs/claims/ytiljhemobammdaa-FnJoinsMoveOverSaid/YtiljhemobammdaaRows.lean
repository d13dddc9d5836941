/-
  No cell of these rows narrows 'for every input' (looked for: loops, veiled, ifaces, maps, wideKeys, modest, calm, conditions, laid).
  DERIVED. THE GIVEN ROWS OF THIS SEAT. 5 by the template 'for every input the law returns true; each argument reads behind the call as it read before'; 0 by the template 'total and deterministic' (their statements: YtiljhemobammdaaTotals.lean).
  GIVEN WITH THE SEED: the statements are not yours to turn. If you find one false, say at which input.
  Laid BY PROGRAM, IN A SANDBOX (cutbox-rows.mjs): the forced cells as the released guide's own fill.sh prints them over the translation e894b0ab93e8bef5… (all of the seat's roots in one cut). By AI agents, Wed Nov 11 2026. No macro, syntax, notation, axiom, sorry.
-/
import Derived.Test.YtiljhemobammdaaChecked
import GoSem.Claim
import GoSem.ClaimJoined
import GoSem.ClaimMapViews
import Derived.JoinedTies
import Derived.KernelRfl
namespace Go.Proofs.Ytiljhemobammdaa
/- THE CELL 'sum', in the pinned program and in every row, IS THE sha256 OF THE DUMP (.gsa) THAT YtiljhemobammdaaProg.lean LOADS. Nothing in Lean hashes anything: it is a label: what it is worth is what the hold of that sum in a sandbox is worth. -/
noncomputable def Try.pinned : Pinned := { name := "ytiljhemobammdaa", sum := "e894b0ab93e8bef56aa5007ea0009878573873099a2da1755b51fe1f847dc946", checked := Try.checked }
namespace Rows
def none {H : Type} : Left H := { results := [], args := [] }

/-- 'laws.FnExactSumOfTable': WHATEVER THE INPUT: true; the input reads as it did. -/
def fnExactSumOfTableSpec : ChangeSpec := { name := "fnExactSumOfTable", fn := fun _ => fun
  | [d1, d2] => { results := [.lit (.bool true)], args := [d1, d2] }
  | _ => none }
def fnExactSumOfTableRow : OpenClaim := { program := "ytiljhemobammdaa", sum := "e894b0ab93e8bef56aa5007ea0009878573873099a2da1755b51fe1f847dc946", func := "loop.example/g01126/laws.FnExactSumOfTable", spec := "fnExactSumOfTable", unfollowed := true, recurses := true, apart := false }
def FnExactSumOfTableSaid : Prop := fnExactSumOfTableRow.holds Try.pinned (OpenSpec.ofChange fnExactSumOfTableSpec)

/-- ITS FALSE NEIGHBOUR: 'it returns false'. Refute it at one input. -/
def fnExactSumOfTableWrong : ChangeSpec := { name := "fnExactSumOfTable", fn := fun _ => fun
  | [d1, d2] => { results := [.lit (.bool false)], args := [d1, d2] }
  | _ => none }
def FnExactSumOfTableWrongFalsely : Prop := fnExactSumOfTableRow.holds Try.pinned (OpenSpec.ofChange fnExactSumOfTableWrong)

/-- 'laws.FnExactExponentTable': WHATEVER THE INPUT: true; the input reads as it did. -/
def fnExactExponentTableSpec : ChangeSpec := { name := "fnExactExponentTable", fn := fun _ => fun
  | [d] => { results := [.lit (.bool true)], args := [d] }
  | _ => none }
def fnExactExponentTableRow : OpenClaim := { program := "ytiljhemobammdaa", sum := "e894b0ab93e8bef56aa5007ea0009878573873099a2da1755b51fe1f847dc946", func := "loop.example/g01126/laws.FnExactExponentTable", spec := "fnExactExponentTable", unfollowed := true, recurses := true, apart := false }
def FnExactExponentTableSaid : Prop := fnExactExponentTableRow.holds Try.pinned (OpenSpec.ofChange fnExactExponentTableSpec)

/-- ITS FALSE NEIGHBOUR: 'it returns false'. Refute it at one input. -/
def fnExactExponentTableWrong : ChangeSpec := { name := "fnExactExponentTable", fn := fun _ => fun
  | [d] => { results := [.lit (.bool false)], args := [d] }
  | _ => none }
def FnExactExponentTableWrongFalsely : Prop := fnExactExponentTableRow.holds Try.pinned (OpenSpec.ofChange fnExactExponentTableWrong)

/-- 'laws.FnExactTableAt': WHATEVER THE INPUT: true; the input reads as it did. -/
def fnExactTableAtSpec : ChangeSpec := { name := "fnExactTableAt", fn := fun _ => fun
  | [d1, d2] => { results := [.lit (.bool true)], args := [d1, d2] }
  | _ => none }
def fnExactTableAtRow : OpenClaim := { program := "ytiljhemobammdaa", sum := "e894b0ab93e8bef56aa5007ea0009878573873099a2da1755b51fe1f847dc946", func := "loop.example/g01126/laws.FnExactTableAt", spec := "fnExactTableAt", unfollowed := true, recurses := true, apart := false }
def FnExactTableAtSaid : Prop := fnExactTableAtRow.holds Try.pinned (OpenSpec.ofChange fnExactTableAtSpec)

/-- ITS FALSE NEIGHBOUR: 'it returns false'. Refute it at one input. -/
def fnExactTableAtWrong : ChangeSpec := { name := "fnExactTableAt", fn := fun _ => fun
  | [d1, d2] => { results := [.lit (.bool false)], args := [d1, d2] }
  | _ => none }
def FnExactTableAtWrongFalsely : Prop := fnExactTableAtRow.holds Try.pinned (OpenSpec.ofChange fnExactTableAtWrong)

/-- 'laws.FnJoinsMoveOver': WHATEVER THE INPUT: true; the input reads as it did. -/
def fnJoinsMoveOverSpec : ChangeSpec := { name := "fnJoinsMoveOver", fn := fun _ => fun
  | [d1, d2] => { results := [.lit (.bool true)], args := [d1, d2] }
  | _ => none }
def fnJoinsMoveOverRow : OpenClaim := { program := "ytiljhemobammdaa", sum := "e894b0ab93e8bef56aa5007ea0009878573873099a2da1755b51fe1f847dc946", func := "loop.example/g01126/laws.FnJoinsMoveOver", spec := "fnJoinsMoveOver", unfollowed := true, recurses := true, apart := false }
def FnJoinsMoveOverSaid : Prop := fnJoinsMoveOverRow.holds Try.pinned (OpenSpec.ofChange fnJoinsMoveOverSpec)

/-- ITS FALSE NEIGHBOUR: 'it returns false'. Refute it at one input. -/
def fnJoinsMoveOverWrong : ChangeSpec := { name := "fnJoinsMoveOver", fn := fun _ => fun
  | [d1, d2] => { results := [.lit (.bool false)], args := [d1, d2] }
  | _ => none }
def FnJoinsMoveOverWrongFalsely : Prop := fnJoinsMoveOverRow.holds Try.pinned (OpenSpec.ofChange fnJoinsMoveOverWrong)

/-- 'laws.FnTablesOfArches': WHATEVER THE INPUT: true; the input reads as it did. -/
def fnTablesOfArchesSpec : ChangeSpec := { name := "fnTablesOfArches", fn := fun _ => fun
  | [d1, d2] => { results := [.lit (.bool true)], args := [d1, d2] }
  | _ => none }
def fnTablesOfArchesRow : OpenClaim := { program := "ytiljhemobammdaa", sum := "e894b0ab93e8bef56aa5007ea0009878573873099a2da1755b51fe1f847dc946", func := "loop.example/g01126/laws.FnTablesOfArches", spec := "fnTablesOfArches", unfollowed := true, recurses := true, apart := false }
def FnTablesOfArchesSaid : Prop := fnTablesOfArchesRow.holds Try.pinned (OpenSpec.ofChange fnTablesOfArchesSpec)

/-- ITS FALSE NEIGHBOUR: 'it returns false'. Refute it at one input. -/
def fnTablesOfArchesWrong : ChangeSpec := { name := "fnTablesOfArches", fn := fun _ => fun
  | [d1, d2] => { results := [.lit (.bool false)], args := [d1, d2] }
  | _ => none }
def FnTablesOfArchesWrongFalsely : Prop := fnTablesOfArchesRow.holds Try.pinned (OpenSpec.ofChange fnTablesOfArchesWrong)

/- THE SECOND FORM. 'bulk': how many values and letters a reading holds, each counted each time it is reached (what is shared counts as often as it is met; a slice's spare places count too). A statement '..UptoSaid' is the law's where the arguments, and the package variables that the reading takes, are together of bulk at most 1048576: NARROWER than '..Said'. Prove '..Said' where nothing that the law and all that it calls make is longer than what came in: it says more and counts as full. Else prove '..UptoSaid'. A law counts once. -/
mutual
def uptoBulk {H : Type} : DataW H → Nat
  | .lit (.string bytes) => bytes.length + 1
  | .lit _ => 1
  | .nil => 1
  | .ptr d => uptoBulk d + 1
  | .slice elems spare => uptoBulkAll elems + uptoBulkAll spare + 1
  | .agg parts => uptoBulkAll parts + 1
  | .iface _ d => uptoBulk d + 1
  | .map entries => uptoBulkEntries entries + 1
  | .held _ => 1
def uptoBulkAll {H : Type} : List (DataW H) → Nat
  | [] => 0
  | d :: r => uptoBulk d + uptoBulkAll r
def uptoBulkEntries {H : Type} : List (Lit × DataW H) → Nat
  | [] => 0
  | x :: r => uptoBulkEntry x + uptoBulkEntries r
def uptoBulkEntry {H : Type} : Lit × DataW H → Nat
  | (.string bytes, d) => bytes.length + uptoBulk d + 1
  | (_, d) => uptoBulk d + 1
 end
def uptoSmall : (H : Type) → List (DataW H) → Bool := fun _ ds => decide (uptoBulkAll ds ≤ 1048576)
def OpenSpec.upto (s : _root_.Go.ChangeSpec) : _root_.Go.OpenSpec := { _root_.Go.OpenSpec.ofChange s with cond := some uptoSmall }

/-- 'laws.FnExactSumOfTable', WHERE WHAT IT READS IS OF BULK AT MOST 1048576: true; the input reads as it did. -/
def fnExactSumOfTableUptoRow : OpenClaim := { program := "ytiljhemobammdaa", sum := "e894b0ab93e8bef56aa5007ea0009878573873099a2da1755b51fe1f847dc946", func := "loop.example/g01126/laws.FnExactSumOfTable", spec := "fnExactSumOfTable", unfollowed := true, recurses := true, apart := false, narrowed := true }
def FnExactSumOfTableUptoSaid : Prop := fnExactSumOfTableUptoRow.holds Try.pinned (OpenSpec.upto fnExactSumOfTableSpec)

/-- 'laws.FnExactExponentTable', WHERE WHAT IT READS IS OF BULK AT MOST 1048576: true; the input reads as it did. -/
def fnExactExponentTableUptoRow : OpenClaim := { program := "ytiljhemobammdaa", sum := "e894b0ab93e8bef56aa5007ea0009878573873099a2da1755b51fe1f847dc946", func := "loop.example/g01126/laws.FnExactExponentTable", spec := "fnExactExponentTable", unfollowed := true, recurses := true, apart := false, narrowed := true }
def FnExactExponentTableUptoSaid : Prop := fnExactExponentTableUptoRow.holds Try.pinned (OpenSpec.upto fnExactExponentTableSpec)

/-- 'laws.FnExactTableAt', WHERE WHAT IT READS IS OF BULK AT MOST 1048576: true; the input reads as it did. -/
def fnExactTableAtUptoRow : OpenClaim := { program := "ytiljhemobammdaa", sum := "e894b0ab93e8bef56aa5007ea0009878573873099a2da1755b51fe1f847dc946", func := "loop.example/g01126/laws.FnExactTableAt", spec := "fnExactTableAt", unfollowed := true, recurses := true, apart := false, narrowed := true }
def FnExactTableAtUptoSaid : Prop := fnExactTableAtUptoRow.holds Try.pinned (OpenSpec.upto fnExactTableAtSpec)

/-- 'laws.FnJoinsMoveOver', WHERE WHAT IT READS IS OF BULK AT MOST 1048576: true; the input reads as it did. -/
def fnJoinsMoveOverUptoRow : OpenClaim := { program := "ytiljhemobammdaa", sum := "e894b0ab93e8bef56aa5007ea0009878573873099a2da1755b51fe1f847dc946", func := "loop.example/g01126/laws.FnJoinsMoveOver", spec := "fnJoinsMoveOver", unfollowed := true, recurses := true, apart := false, narrowed := true }
def FnJoinsMoveOverUptoSaid : Prop := fnJoinsMoveOverUptoRow.holds Try.pinned (OpenSpec.upto fnJoinsMoveOverSpec)

/-- 'laws.FnTablesOfArches', WHERE WHAT IT READS IS OF BULK AT MOST 1048576: true; the input reads as it did. -/
def fnTablesOfArchesUptoRow : OpenClaim := { program := "ytiljhemobammdaa", sum := "e894b0ab93e8bef56aa5007ea0009878573873099a2da1755b51fe1f847dc946", func := "loop.example/g01126/laws.FnTablesOfArches", spec := "fnTablesOfArches", unfollowed := true, recurses := true, apart := false, narrowed := true }
def FnTablesOfArchesUptoSaid : Prop := fnTablesOfArchesUptoRow.holds Try.pinned (OpenSpec.upto fnTablesOfArchesSpec)

end Rows
end Go.Proofs.Ytiljhemobammdaa
