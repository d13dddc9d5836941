/-
  No cell of these rows narrows 'for every input' (looked for: loops, veiled, ifaces, maps, wideKeys, modest, calm, conditions, laid).
  DERIVED. THE GIVEN ROWS OF THIS SEAT. 5 by the template 'for every input the law returns true; each argument reads behind the call as it read before'; 0 by the template 'total and deterministic' (their statements: YtoblagangofflaaTotals.lean).
  GIVEN WITH THE SEED: the statements are not yours to turn. If you find one false, say at which input.
  Laid BY PROGRAM, IN A SANDBOX (cutbox-rows.mjs): the forced cells as the released guide's own fill.sh prints them over the translation 05cafbf6d44041bf… (all of the seat's roots in one cut). By AI agents, Wed Nov 11 2026. No macro, syntax, notation, axiom, sorry.
-/
import Derived.Test.YtoblagangofflaaChecked
import GoSem.Claim
import GoSem.ClaimJoined
import GoSem.ClaimMapViews
import Derived.JoinedTies
import Derived.KernelRfl
namespace Go.Proofs.Ytoblagangofflaa
/- THE CELL 'sum', in the pinned program and in every row, IS THE sha256 OF THE DUMP (.gsa) THAT YtoblagangofflaaProg.lean LOADS. Nothing in Lean hashes anything: it is a label: what it is worth is what the hold of that sum in a sandbox is worth. -/
noncomputable def Try.pinned : Pinned := { name := "ytoblagangofflaa", sum := "05cafbf6d44041bf3c8bc8f8c33c175b1c43609cad8d828b76e614935dd3550d", checked := Try.checked }
namespace Rows
def none {H : Type} : Left H := { results := [], args := [] }

/-- 'laws.FnExactJoinSeaweeds': WHATEVER THE INPUT: true; the input reads as it did. -/
def fnExactJoinSeaweedsSpec : ChangeSpec := { name := "fnExactJoinSeaweeds", fn := fun _ => fun
  | [d1, d2] => { results := [.lit (.bool true)], args := [d1, d2] }
  | _ => none }
def fnExactJoinSeaweedsRow : OpenClaim := { program := "ytoblagangofflaa", sum := "05cafbf6d44041bf3c8bc8f8c33c175b1c43609cad8d828b76e614935dd3550d", func := "loop.example/g01126/laws.FnExactJoinSeaweeds", spec := "fnExactJoinSeaweeds", unfollowed := true, recurses := true, apart := false }
def FnExactJoinSeaweedsSaid : Prop := fnExactJoinSeaweedsRow.holds Try.pinned (OpenSpec.ofChange fnExactJoinSeaweedsSpec)

/-- ITS FALSE NEIGHBOUR: 'it returns false'. Refute it at one input. -/
def fnExactJoinSeaweedsWrong : ChangeSpec := { name := "fnExactJoinSeaweeds", fn := fun _ => fun
  | [d1, d2] => { results := [.lit (.bool false)], args := [d1, d2] }
  | _ => none }
def FnExactJoinSeaweedsWrongFalsely : Prop := fnExactJoinSeaweedsRow.holds Try.pinned (OpenSpec.ofChange fnExactJoinSeaweedsWrong)

/-- 'laws.FnExactWindWord': WHATEVER THE INPUT: true; the input reads as it did. -/
def fnExactWindWordSpec : ChangeSpec := { name := "fnExactWindWord", fn := fun _ => fun
  | [d] => { results := [.lit (.bool true)], args := [d] }
  | _ => none }
def fnExactWindWordRow : OpenClaim := { program := "ytoblagangofflaa", sum := "05cafbf6d44041bf3c8bc8f8c33c175b1c43609cad8d828b76e614935dd3550d", func := "loop.example/g01126/laws.FnExactWindWord", spec := "fnExactWindWord", unfollowed := true, recurses := true, apart := false }
def FnExactWindWordSaid : Prop := fnExactWindWordRow.holds Try.pinned (OpenSpec.ofChange fnExactWindWordSpec)

/-- ITS FALSE NEIGHBOUR: 'it returns false'. Refute it at one input. -/
def fnExactWindWordWrong : ChangeSpec := { name := "fnExactWindWord", fn := fun _ => fun
  | [d] => { results := [.lit (.bool false)], args := [d] }
  | _ => none }
def FnExactWindWordWrongFalsely : Prop := fnExactWindWordRow.holds Try.pinned (OpenSpec.ofChange fnExactWindWordWrong)

/-- 'laws.FnExactCountByWinding': WHATEVER THE INPUT: true; the input reads as it did. -/
def fnExactCountByWindingSpec : ChangeSpec := { name := "fnExactCountByWinding", fn := fun _ => fun
  | [d] => { results := [.lit (.bool true)], args := [d] }
  | _ => none }
def fnExactCountByWindingRow : OpenClaim := { program := "ytoblagangofflaa", sum := "05cafbf6d44041bf3c8bc8f8c33c175b1c43609cad8d828b76e614935dd3550d", func := "loop.example/g01126/laws.FnExactCountByWinding", spec := "fnExactCountByWinding", unfollowed := true, recurses := true, apart := false }
def FnExactCountByWindingSaid : Prop := fnExactCountByWindingRow.holds Try.pinned (OpenSpec.ofChange fnExactCountByWindingSpec)

/-- ITS FALSE NEIGHBOUR: 'it returns false'. Refute it at one input. -/
def fnExactCountByWindingWrong : ChangeSpec := { name := "fnExactCountByWinding", fn := fun _ => fun
  | [d] => { results := [.lit (.bool false)], args := [d] }
  | _ => none }
def FnExactCountByWindingWrongFalsely : Prop := fnExactCountByWindingRow.holds Try.pinned (OpenSpec.ofChange fnExactCountByWindingWrong)

/-- 'laws.FnExactSpreadOfWindings': WHATEVER THE INPUT: true; the input reads as it did. -/
def fnExactSpreadOfWindingsSpec : ChangeSpec := { name := "fnExactSpreadOfWindings", fn := fun _ => fun
  | [d] => { results := [.lit (.bool true)], args := [d] }
  | _ => none }
def fnExactSpreadOfWindingsRow : OpenClaim := { program := "ytoblagangofflaa", sum := "05cafbf6d44041bf3c8bc8f8c33c175b1c43609cad8d828b76e614935dd3550d", func := "loop.example/g01126/laws.FnExactSpreadOfWindings", spec := "fnExactSpreadOfWindings", unfollowed := true, recurses := true, apart := false }
def FnExactSpreadOfWindingsSaid : Prop := fnExactSpreadOfWindingsRow.holds Try.pinned (OpenSpec.ofChange fnExactSpreadOfWindingsSpec)

/-- ITS FALSE NEIGHBOUR: 'it returns false'. Refute it at one input. -/
def fnExactSpreadOfWindingsWrong : ChangeSpec := { name := "fnExactSpreadOfWindings", fn := fun _ => fun
  | [d] => { results := [.lit (.bool false)], args := [d] }
  | _ => none }
def FnExactSpreadOfWindingsWrongFalsely : Prop := fnExactSpreadOfWindingsRow.holds Try.pinned (OpenSpec.ofChange fnExactSpreadOfWindingsWrong)

/-- 'laws.FnExactApplyTable': WHATEVER THE INPUT: true; the input reads as it did. -/
def fnExactApplyTableSpec : ChangeSpec := { name := "fnExactApplyTable", fn := fun _ => fun
  | [d1, d2] => { results := [.lit (.bool true)], args := [d1, d2] }
  | _ => none }
def fnExactApplyTableRow : OpenClaim := { program := "ytoblagangofflaa", sum := "05cafbf6d44041bf3c8bc8f8c33c175b1c43609cad8d828b76e614935dd3550d", func := "loop.example/g01126/laws.FnExactApplyTable", spec := "fnExactApplyTable", unfollowed := true, recurses := true, apart := false }
def FnExactApplyTableSaid : Prop := fnExactApplyTableRow.holds Try.pinned (OpenSpec.ofChange fnExactApplyTableSpec)

/-- ITS FALSE NEIGHBOUR: 'it returns false'. Refute it at one input. -/
def fnExactApplyTableWrong : ChangeSpec := { name := "fnExactApplyTable", fn := fun _ => fun
  | [d1, d2] => { results := [.lit (.bool false)], args := [d1, d2] }
  | _ => none }
def FnExactApplyTableWrongFalsely : Prop := fnExactApplyTableRow.holds Try.pinned (OpenSpec.ofChange fnExactApplyTableWrong)

/- THE SECOND FORM. 'bulk': how many values and letters a reading holds, each counted each time it is reached (what is shared counts as often as it is met; a slice's spare places count too). A statement '..UptoSaid' is the law's where the arguments, and the package variables that the reading takes, are together of bulk at most 1048576: NARROWER than '..Said'. Prove '..Said' where nothing that the law and all that it calls make is longer than what came in: it says more and counts as full. Else prove '..UptoSaid'. A law counts once. -/
mutual
def uptoBulk {H : Type} : DataW H → Nat
  | .lit (.string bytes) => bytes.length + 1
  | .lit _ => 1
  | .nil => 1
  | .ptr d => uptoBulk d + 1
  | .slice elems spare => uptoBulkAll elems + uptoBulkAll spare + 1
  | .agg parts => uptoBulkAll parts + 1
  | .iface _ d => uptoBulk d + 1
  | .map entries => uptoBulkEntries entries + 1
  | .held _ => 1
def uptoBulkAll {H : Type} : List (DataW H) → Nat
  | [] => 0
  | d :: r => uptoBulk d + uptoBulkAll r
def uptoBulkEntries {H : Type} : List (Lit × DataW H) → Nat
  | [] => 0
  | x :: r => uptoBulkEntry x + uptoBulkEntries r
def uptoBulkEntry {H : Type} : Lit × DataW H → Nat
  | (.string bytes, d) => bytes.length + uptoBulk d + 1
  | (_, d) => uptoBulk d + 1
 end
def uptoSmall : (H : Type) → List (DataW H) → Bool := fun _ ds => decide (uptoBulkAll ds ≤ 1048576)
def OpenSpec.upto (s : _root_.Go.ChangeSpec) : _root_.Go.OpenSpec := { _root_.Go.OpenSpec.ofChange s with cond := some uptoSmall }

/-- 'laws.FnExactJoinSeaweeds', WHERE WHAT IT READS IS OF BULK AT MOST 1048576: true; the input reads as it did. -/
def fnExactJoinSeaweedsUptoRow : OpenClaim := { program := "ytoblagangofflaa", sum := "05cafbf6d44041bf3c8bc8f8c33c175b1c43609cad8d828b76e614935dd3550d", func := "loop.example/g01126/laws.FnExactJoinSeaweeds", spec := "fnExactJoinSeaweeds", unfollowed := true, recurses := true, apart := false, narrowed := true }
def FnExactJoinSeaweedsUptoSaid : Prop := fnExactJoinSeaweedsUptoRow.holds Try.pinned (OpenSpec.upto fnExactJoinSeaweedsSpec)

/-- 'laws.FnExactWindWord', WHERE WHAT IT READS IS OF BULK AT MOST 1048576: true; the input reads as it did. -/
def fnExactWindWordUptoRow : OpenClaim := { program := "ytoblagangofflaa", sum := "05cafbf6d44041bf3c8bc8f8c33c175b1c43609cad8d828b76e614935dd3550d", func := "loop.example/g01126/laws.FnExactWindWord", spec := "fnExactWindWord", unfollowed := true, recurses := true, apart := false, narrowed := true }
def FnExactWindWordUptoSaid : Prop := fnExactWindWordUptoRow.holds Try.pinned (OpenSpec.upto fnExactWindWordSpec)

/-- 'laws.FnExactCountByWinding', WHERE WHAT IT READS IS OF BULK AT MOST 1048576: true; the input reads as it did. -/
def fnExactCountByWindingUptoRow : OpenClaim := { program := "ytoblagangofflaa", sum := "05cafbf6d44041bf3c8bc8f8c33c175b1c43609cad8d828b76e614935dd3550d", func := "loop.example/g01126/laws.FnExactCountByWinding", spec := "fnExactCountByWinding", unfollowed := true, recurses := true, apart := false, narrowed := true }
def FnExactCountByWindingUptoSaid : Prop := fnExactCountByWindingUptoRow.holds Try.pinned (OpenSpec.upto fnExactCountByWindingSpec)

/-- 'laws.FnExactSpreadOfWindings', WHERE WHAT IT READS IS OF BULK AT MOST 1048576: true; the input reads as it did. -/
def fnExactSpreadOfWindingsUptoRow : OpenClaim := { program := "ytoblagangofflaa", sum := "05cafbf6d44041bf3c8bc8f8c33c175b1c43609cad8d828b76e614935dd3550d", func := "loop.example/g01126/laws.FnExactSpreadOfWindings", spec := "fnExactSpreadOfWindings", unfollowed := true, recurses := true, apart := false, narrowed := true }
def FnExactSpreadOfWindingsUptoSaid : Prop := fnExactSpreadOfWindingsUptoRow.holds Try.pinned (OpenSpec.upto fnExactSpreadOfWindingsSpec)

/-- 'laws.FnExactApplyTable', WHERE WHAT IT READS IS OF BULK AT MOST 1048576: true; the input reads as it did. -/
def fnExactApplyTableUptoRow : OpenClaim := { program := "ytoblagangofflaa", sum := "05cafbf6d44041bf3c8bc8f8c33c175b1c43609cad8d828b76e614935dd3550d", func := "loop.example/g01126/laws.FnExactApplyTable", spec := "fnExactApplyTable", unfollowed := true, recurses := true, apart := false, narrowed := true }
def FnExactApplyTableUptoSaid : Prop := fnExactApplyTableUptoRow.holds Try.pinned (OpenSpec.upto fnExactApplyTableSpec)

end Rows
end Go.Proofs.Ytoblagangofflaa
