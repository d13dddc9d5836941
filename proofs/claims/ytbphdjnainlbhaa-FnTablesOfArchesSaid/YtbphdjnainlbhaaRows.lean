/-
  No cell of these rows narrows 'for every input' (looked for: loops, veiled, ifaces, maps, wideKeys, modest, calm, conditions, laid).
  DERIVED. THE GIVEN ROWS OF THIS SEAT. 5 by the template 'for every input the law returns true; each argument reads behind the call as it read before'; 0 by the template 'total and deterministic' (their statements: YtbphdjnainlbhaaTotals.lean).
  GIVEN WITH THE SEED: the statements are not yours to turn. If you find one false, say at which input.
  Laid BY PROGRAM, IN A SANDBOX (cutbox-rows.mjs): the forced cells as the released guide's own fill.sh prints them over the translation ddc25585a658f790… (all of the seat's roots in one cut). By AI agents, Wed Nov 11 2026. No macro, syntax, notation, axiom, sorry.
-/
import Derived.Test.YtbphdjnainlbhaaChecked
import GoSem.Claim
import GoSem.ClaimJoined
import GoSem.ClaimMapViews
import Derived.JoinedTies
import Derived.KernelRfl
namespace Go.Proofs.Ytbphdjnainlbhaa
/- THE CELL 'sum', in the pinned program and in every row, IS THE sha256 OF THE DUMP (.gsa) THAT YtbphdjnainlbhaaProg.lean LOADS. Nothing in Lean hashes anything: it is a label: what it is worth is what the hold of that sum in a sandbox is worth. -/
noncomputable def Try.pinned : Pinned := { name := "ytbphdjnainlbhaa", sum := "ddc25585a658f790aa773ef6469f8aec85a5340173481319f6cf9ba108d0df79", checked := Try.checked }
namespace Rows
def none {H : Type} : Left H := { results := [], args := [] }

/-- 'laws.FnExactRankOf': WHATEVER THE INPUT: true; the input reads as it did. -/
def fnExactRankOfSpec : ChangeSpec := { name := "fnExactRankOf", fn := fun _ => fun
  | [d] => { results := [.lit (.bool true)], args := [d] }
  | _ => none }
def fnExactRankOfRow : OpenClaim := { program := "ytbphdjnainlbhaa", sum := "ddc25585a658f790aa773ef6469f8aec85a5340173481319f6cf9ba108d0df79", func := "loop.example/g01126/laws.FnExactRankOf", spec := "fnExactRankOf", unfollowed := true, recurses := true, apart := false }
def FnExactRankOfSaid : Prop := fnExactRankOfRow.holds Try.pinned (OpenSpec.ofChange fnExactRankOfSpec)

/-- ITS FALSE NEIGHBOUR: 'it returns false'. Refute it at one input. -/
def fnExactRankOfWrong : ChangeSpec := { name := "fnExactRankOf", fn := fun _ => fun
  | [d] => { results := [.lit (.bool false)], args := [d] }
  | _ => none }
def FnExactRankOfWrongFalsely : Prop := fnExactRankOfRow.holds Try.pinned (OpenSpec.ofChange fnExactRankOfWrong)

/-- 'laws.FnExactDependentRow': WHATEVER THE INPUT: true; the input reads as it did. -/
def fnExactDependentRowSpec : ChangeSpec := { name := "fnExactDependentRow", fn := fun _ => fun
  | [d] => { results := [.lit (.bool true)], args := [d] }
  | _ => none }
def fnExactDependentRowRow : OpenClaim := { program := "ytbphdjnainlbhaa", sum := "ddc25585a658f790aa773ef6469f8aec85a5340173481319f6cf9ba108d0df79", func := "loop.example/g01126/laws.FnExactDependentRow", spec := "fnExactDependentRow", unfollowed := true, recurses := true, apart := false }
def FnExactDependentRowSaid : Prop := fnExactDependentRowRow.holds Try.pinned (OpenSpec.ofChange fnExactDependentRowSpec)

/-- ITS FALSE NEIGHBOUR: 'it returns false'. Refute it at one input. -/
def fnExactDependentRowWrong : ChangeSpec := { name := "fnExactDependentRow", fn := fun _ => fun
  | [d] => { results := [.lit (.bool false)], args := [d] }
  | _ => none }
def FnExactDependentRowWrongFalsely : Prop := fnExactDependentRowRow.holds Try.pinned (OpenSpec.ofChange fnExactDependentRowWrong)

/-- 'laws.FnExactDeterminantOf': WHATEVER THE INPUT: true; the input reads as it did. -/
def fnExactDeterminantOfSpec : ChangeSpec := { name := "fnExactDeterminantOf", fn := fun _ => fun
  | [d] => { results := [.lit (.bool true)], args := [d] }
  | _ => none }
def fnExactDeterminantOfRow : OpenClaim := { program := "ytbphdjnainlbhaa", sum := "ddc25585a658f790aa773ef6469f8aec85a5340173481319f6cf9ba108d0df79", func := "loop.example/g01126/laws.FnExactDeterminantOf", spec := "fnExactDeterminantOf", unfollowed := true, recurses := true, apart := false }
def FnExactDeterminantOfSaid : Prop := fnExactDeterminantOfRow.holds Try.pinned (OpenSpec.ofChange fnExactDeterminantOfSpec)

/-- ITS FALSE NEIGHBOUR: 'it returns false'. Refute it at one input. -/
def fnExactDeterminantOfWrong : ChangeSpec := { name := "fnExactDeterminantOf", fn := fun _ => fun
  | [d] => { results := [.lit (.bool false)], args := [d] }
  | _ => none }
def FnExactDeterminantOfWrongFalsely : Prop := fnExactDeterminantOfRow.holds Try.pinned (OpenSpec.ofChange fnExactDeterminantOfWrong)

/-- 'laws.FnRowsOfTables': WHATEVER THE INPUT: true; the input reads as it did. -/
def fnRowsOfTablesSpec : ChangeSpec := { name := "fnRowsOfTables", fn := fun _ => fun
  | [d1, d2] => { results := [.lit (.bool true)], args := [d1, d2] }
  | _ => none }
def fnRowsOfTablesRow : OpenClaim := { program := "ytbphdjnainlbhaa", sum := "ddc25585a658f790aa773ef6469f8aec85a5340173481319f6cf9ba108d0df79", func := "loop.example/g01126/laws.FnRowsOfTables", spec := "fnRowsOfTables", unfollowed := true, recurses := true, apart := false }
def FnRowsOfTablesSaid : Prop := fnRowsOfTablesRow.holds Try.pinned (OpenSpec.ofChange fnRowsOfTablesSpec)

/-- ITS FALSE NEIGHBOUR: 'it returns false'. Refute it at one input. -/
def fnRowsOfTablesWrong : ChangeSpec := { name := "fnRowsOfTables", fn := fun _ => fun
  | [d1, d2] => { results := [.lit (.bool false)], args := [d1, d2] }
  | _ => none }
def FnRowsOfTablesWrongFalsely : Prop := fnRowsOfTablesRow.holds Try.pinned (OpenSpec.ofChange fnRowsOfTablesWrong)

/-- 'laws.FnTablesOfArches': WHATEVER THE INPUT: true; the input reads as it did. -/
def fnTablesOfArchesSpec : ChangeSpec := { name := "fnTablesOfArches", fn := fun _ => fun
  | [d1, d2] => { results := [.lit (.bool true)], args := [d1, d2] }
  | _ => none }
def fnTablesOfArchesRow : OpenClaim := { program := "ytbphdjnainlbhaa", sum := "ddc25585a658f790aa773ef6469f8aec85a5340173481319f6cf9ba108d0df79", func := "loop.example/g01126/laws.FnTablesOfArches", spec := "fnTablesOfArches", unfollowed := true, recurses := true, apart := false }
def FnTablesOfArchesSaid : Prop := fnTablesOfArchesRow.holds Try.pinned (OpenSpec.ofChange fnTablesOfArchesSpec)

/-- ITS FALSE NEIGHBOUR: 'it returns false'. Refute it at one input. -/
def fnTablesOfArchesWrong : ChangeSpec := { name := "fnTablesOfArches", fn := fun _ => fun
  | [d1, d2] => { results := [.lit (.bool false)], args := [d1, d2] }
  | _ => none }
def FnTablesOfArchesWrongFalsely : Prop := fnTablesOfArchesRow.holds Try.pinned (OpenSpec.ofChange fnTablesOfArchesWrong)

/- THE SECOND FORM. 'bulk': how many values and letters a reading holds, each counted each time it is reached (what is shared counts as often as it is met; a slice's spare places count too). A statement '..UptoSaid' is the law's where the arguments, and the package variables that the reading takes, are together of bulk at most 1048576: NARROWER than '..Said'. Prove '..Said' where nothing that the law and all that it calls make is longer than what came in: it says more and counts as full. Else prove '..UptoSaid'. A law counts once. -/
mutual
def uptoBulk {H : Type} : DataW H → Nat
  | .lit (.string bytes) => bytes.length + 1
  | .lit _ => 1
  | .nil => 1
  | .ptr d => uptoBulk d + 1
  | .slice elems spare => uptoBulkAll elems + uptoBulkAll spare + 1
  | .agg parts => uptoBulkAll parts + 1
  | .iface _ d => uptoBulk d + 1
  | .map entries => uptoBulkEntries entries + 1
  | .held _ => 1
def uptoBulkAll {H : Type} : List (DataW H) → Nat
  | [] => 0
  | d :: r => uptoBulk d + uptoBulkAll r
def uptoBulkEntries {H : Type} : List (Lit × DataW H) → Nat
  | [] => 0
  | x :: r => uptoBulkEntry x + uptoBulkEntries r
def uptoBulkEntry {H : Type} : Lit × DataW H → Nat
  | (.string bytes, d) => bytes.length + uptoBulk d + 1
  | (_, d) => uptoBulk d + 1
 end
def uptoSmall : (H : Type) → List (DataW H) → Bool := fun _ ds => decide (uptoBulkAll ds ≤ 1048576)
def OpenSpec.upto (s : _root_.Go.ChangeSpec) : _root_.Go.OpenSpec := { _root_.Go.OpenSpec.ofChange s with cond := some uptoSmall }

/-- 'laws.FnExactRankOf', WHERE WHAT IT READS IS OF BULK AT MOST 1048576: true; the input reads as it did. -/
def fnExactRankOfUptoRow : OpenClaim := { program := "ytbphdjnainlbhaa", sum := "ddc25585a658f790aa773ef6469f8aec85a5340173481319f6cf9ba108d0df79", func := "loop.example/g01126/laws.FnExactRankOf", spec := "fnExactRankOf", unfollowed := true, recurses := true, apart := false, narrowed := true }
def FnExactRankOfUptoSaid : Prop := fnExactRankOfUptoRow.holds Try.pinned (OpenSpec.upto fnExactRankOfSpec)

/-- 'laws.FnExactDependentRow', WHERE WHAT IT READS IS OF BULK AT MOST 1048576: true; the input reads as it did. -/
def fnExactDependentRowUptoRow : OpenClaim := { program := "ytbphdjnainlbhaa", sum := "ddc25585a658f790aa773ef6469f8aec85a5340173481319f6cf9ba108d0df79", func := "loop.example/g01126/laws.FnExactDependentRow", spec := "fnExactDependentRow", unfollowed := true, recurses := true, apart := false, narrowed := true }
def FnExactDependentRowUptoSaid : Prop := fnExactDependentRowUptoRow.holds Try.pinned (OpenSpec.upto fnExactDependentRowSpec)

/-- 'laws.FnExactDeterminantOf', WHERE WHAT IT READS IS OF BULK AT MOST 1048576: true; the input reads as it did. -/
def fnExactDeterminantOfUptoRow : OpenClaim := { program := "ytbphdjnainlbhaa", sum := "ddc25585a658f790aa773ef6469f8aec85a5340173481319f6cf9ba108d0df79", func := "loop.example/g01126/laws.FnExactDeterminantOf", spec := "fnExactDeterminantOf", unfollowed := true, recurses := true, apart := false, narrowed := true }
def FnExactDeterminantOfUptoSaid : Prop := fnExactDeterminantOfUptoRow.holds Try.pinned (OpenSpec.upto fnExactDeterminantOfSpec)

/-- 'laws.FnRowsOfTables', WHERE WHAT IT READS IS OF BULK AT MOST 1048576: true; the input reads as it did. -/
def fnRowsOfTablesUptoRow : OpenClaim := { program := "ytbphdjnainlbhaa", sum := "ddc25585a658f790aa773ef6469f8aec85a5340173481319f6cf9ba108d0df79", func := "loop.example/g01126/laws.FnRowsOfTables", spec := "fnRowsOfTables", unfollowed := true, recurses := true, apart := false, narrowed := true }
def FnRowsOfTablesUptoSaid : Prop := fnRowsOfTablesUptoRow.holds Try.pinned (OpenSpec.upto fnRowsOfTablesSpec)

/-- 'laws.FnTablesOfArches', WHERE WHAT IT READS IS OF BULK AT MOST 1048576: true; the input reads as it did. -/
def fnTablesOfArchesUptoRow : OpenClaim := { program := "ytbphdjnainlbhaa", sum := "ddc25585a658f790aa773ef6469f8aec85a5340173481319f6cf9ba108d0df79", func := "loop.example/g01126/laws.FnTablesOfArches", spec := "fnTablesOfArches", unfollowed := true, recurses := true, apart := false, narrowed := true }
def FnTablesOfArchesUptoSaid : Prop := fnTablesOfArchesUptoRow.holds Try.pinned (OpenSpec.upto fnTablesOfArchesSpec)

end Rows
end Go.Proofs.Ytbphdjnainlbhaa
