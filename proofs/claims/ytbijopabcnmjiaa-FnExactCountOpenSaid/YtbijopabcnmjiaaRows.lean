/-
  No cell of these rows narrows 'for every input' (looked for: loops, veiled, ifaces, maps, wideKeys, modest, calm, conditions, laid).
  DERIVED. THE GIVEN ROWS OF THIS SEAT. 11 by the template 'for every input the law returns true; each argument reads behind the call as it read before'; 0 by the template 'total and deterministic' (their statements: YtbijopabcnmjiaaTotals.lean).
  GIVEN WITH THE SEED: the statements are not yours to turn. If you find one false, say at which input.
  Laid BY PROGRAM, IN A SANDBOX (cutbox-rows.mjs): the forced cells as the released guide's own fill.sh prints them over the translation 283478500a7c10f9… (all of the seat's roots in one cut). By AI agents, Wed Nov 11 2026. No macro, syntax, notation, axiom, sorry.
-/
import Derived.Test.YtbijopabcnmjiaaChecked
import GoSem.Claim
import GoSem.ClaimJoined
import GoSem.ClaimMapViews
import Derived.JoinedTies
import Derived.KernelRfl
namespace Go.Proofs.Ytbijopabcnmjiaa
/- THE CELL 'sum', in the pinned program and in every row, IS THE sha256 OF THE DUMP (.gsa) THAT YtbijopabcnmjiaaProg.lean LOADS. Nothing in Lean hashes anything: it is a label: what it is worth is what the hold of that sum in a sandbox is worth. -/
noncomputable def Try.pinned : Pinned := { name := "ytbijopabcnmjiaa", sum := "283478500a7c10f9d029fcb76f6848024b600932dbcde9c5f82d0084a7a1a7cf", checked := Try.checked }
namespace Rows
def none {H : Type} : Left H := { results := [], args := [] }

/-- 'laws.FnExactCountOpen': WHATEVER THE INPUT: true; the input reads as it did. -/
def fnExactCountOpenSpec : ChangeSpec := { name := "fnExactCountOpen", fn := fun _ => fun
  | [d] => { results := [.lit (.bool true)], args := [d] }
  | _ => none }
def fnExactCountOpenRow : OpenClaim := { program := "ytbijopabcnmjiaa", sum := "283478500a7c10f9d029fcb76f6848024b600932dbcde9c5f82d0084a7a1a7cf", func := "loop.example/g01126/laws.FnExactCountOpen", spec := "fnExactCountOpen", unfollowed := true, recurses := true, apart := false }
def FnExactCountOpenSaid : Prop := fnExactCountOpenRow.holds Try.pinned (OpenSpec.ofChange fnExactCountOpenSpec)

/-- ITS FALSE NEIGHBOUR: 'it returns false'. Refute it at one input. -/
def fnExactCountOpenWrong : ChangeSpec := { name := "fnExactCountOpen", fn := fun _ => fun
  | [d] => { results := [.lit (.bool false)], args := [d] }
  | _ => none }
def FnExactCountOpenWrongFalsely : Prop := fnExactCountOpenRow.holds Try.pinned (OpenSpec.ofChange fnExactCountOpenWrong)

/-- 'laws.FnExactOpenPermutations': WHATEVER THE INPUT: true; the input reads as it did. -/
def fnExactOpenPermutationsSpec : ChangeSpec := { name := "fnExactOpenPermutations", fn := fun _ => fun
  | [d] => { results := [.lit (.bool true)], args := [d] }
  | _ => none }
def fnExactOpenPermutationsRow : OpenClaim := { program := "ytbijopabcnmjiaa", sum := "283478500a7c10f9d029fcb76f6848024b600932dbcde9c5f82d0084a7a1a7cf", func := "loop.example/g01126/laws.FnExactOpenPermutations", spec := "fnExactOpenPermutations", unfollowed := true, recurses := true, apart := false }
def FnExactOpenPermutationsSaid : Prop := fnExactOpenPermutationsRow.holds Try.pinned (OpenSpec.ofChange fnExactOpenPermutationsSpec)

/-- ITS FALSE NEIGHBOUR: 'it returns false'. Refute it at one input. -/
def fnExactOpenPermutationsWrong : ChangeSpec := { name := "fnExactOpenPermutations", fn := fun _ => fun
  | [d] => { results := [.lit (.bool false)], args := [d] }
  | _ => none }
def FnExactOpenPermutationsWrongFalsely : Prop := fnExactOpenPermutationsRow.holds Try.pinned (OpenSpec.ofChange fnExactOpenPermutationsWrong)

/-- 'laws.FnExactBackwardsOf': WHATEVER THE INPUT: true; the input reads as it did. -/
def fnExactBackwardsOfSpec : ChangeSpec := { name := "fnExactBackwardsOf", fn := fun _ => fun
  | [d] => { results := [.lit (.bool true)], args := [d] }
  | _ => none }
def fnExactBackwardsOfRow : OpenClaim := { program := "ytbijopabcnmjiaa", sum := "283478500a7c10f9d029fcb76f6848024b600932dbcde9c5f82d0084a7a1a7cf", func := "loop.example/g01126/laws.FnExactBackwardsOf", spec := "fnExactBackwardsOf", recurses := true, apart := false }
def FnExactBackwardsOfSaid : Prop := fnExactBackwardsOfRow.holds Try.pinned (OpenSpec.ofChange fnExactBackwardsOfSpec)

/-- ITS FALSE NEIGHBOUR: 'it returns false'. Refute it at one input. -/
def fnExactBackwardsOfWrong : ChangeSpec := { name := "fnExactBackwardsOf", fn := fun _ => fun
  | [d] => { results := [.lit (.bool false)], args := [d] }
  | _ => none }
def FnExactBackwardsOfWrongFalsely : Prop := fnExactBackwardsOfRow.holds Try.pinned (OpenSpec.ofChange fnExactBackwardsOfWrong)

/-- 'laws.FnExactInverseOf': WHATEVER THE INPUT: true; the input reads as it did. -/
def fnExactInverseOfSpec : ChangeSpec := { name := "fnExactInverseOf", fn := fun _ => fun
  | [d] => { results := [.lit (.bool true)], args := [d] }
  | _ => none }
def fnExactInverseOfRow : OpenClaim := { program := "ytbijopabcnmjiaa", sum := "283478500a7c10f9d029fcb76f6848024b600932dbcde9c5f82d0084a7a1a7cf", func := "loop.example/g01126/laws.FnExactInverseOf", spec := "fnExactInverseOf", recurses := true, apart := false }
def FnExactInverseOfSaid : Prop := fnExactInverseOfRow.holds Try.pinned (OpenSpec.ofChange fnExactInverseOfSpec)

/-- ITS FALSE NEIGHBOUR: 'it returns false'. Refute it at one input. -/
def fnExactInverseOfWrong : ChangeSpec := { name := "fnExactInverseOf", fn := fun _ => fun
  | [d] => { results := [.lit (.bool false)], args := [d] }
  | _ => none }
def FnExactInverseOfWrongFalsely : Prop := fnExactInverseOfRow.holds Try.pinned (OpenSpec.ofChange fnExactInverseOfWrong)

/-- 'laws.FnExactMirrorPermutation': WHATEVER THE INPUT: true; the input reads as it did. -/
def fnExactMirrorPermutationSpec : ChangeSpec := { name := "fnExactMirrorPermutation", fn := fun _ => fun
  | [d] => { results := [.lit (.bool true)], args := [d] }
  | _ => none }
def fnExactMirrorPermutationRow : OpenClaim := { program := "ytbijopabcnmjiaa", sum := "283478500a7c10f9d029fcb76f6848024b600932dbcde9c5f82d0084a7a1a7cf", func := "loop.example/g01126/laws.FnExactMirrorPermutation", spec := "fnExactMirrorPermutation", recurses := true, apart := false }
def FnExactMirrorPermutationSaid : Prop := fnExactMirrorPermutationRow.holds Try.pinned (OpenSpec.ofChange fnExactMirrorPermutationSpec)

/-- ITS FALSE NEIGHBOUR: 'it returns false'. Refute it at one input. -/
def fnExactMirrorPermutationWrong : ChangeSpec := { name := "fnExactMirrorPermutation", fn := fun _ => fun
  | [d] => { results := [.lit (.bool false)], args := [d] }
  | _ => none }
def FnExactMirrorPermutationWrongFalsely : Prop := fnExactMirrorPermutationRow.holds Try.pinned (OpenSpec.ofChange fnExactMirrorPermutationWrong)

/-- 'laws.FnExactIsOpenPermutation': WHATEVER THE INPUT: true; the input reads as it did. -/
def fnExactIsOpenPermutationSpec : ChangeSpec := { name := "fnExactIsOpenPermutation", fn := fun _ => fun
  | [d] => { results := [.lit (.bool true)], args := [d] }
  | _ => none }
def fnExactIsOpenPermutationRow : OpenClaim := { program := "ytbijopabcnmjiaa", sum := "283478500a7c10f9d029fcb76f6848024b600932dbcde9c5f82d0084a7a1a7cf", func := "loop.example/g01126/laws.FnExactIsOpenPermutation", spec := "fnExactIsOpenPermutation", unfollowed := true, recurses := true, apart := false }
def FnExactIsOpenPermutationSaid : Prop := fnExactIsOpenPermutationRow.holds Try.pinned (OpenSpec.ofChange fnExactIsOpenPermutationSpec)

/-- ITS FALSE NEIGHBOUR: 'it returns false'. Refute it at one input. -/
def fnExactIsOpenPermutationWrong : ChangeSpec := { name := "fnExactIsOpenPermutation", fn := fun _ => fun
  | [d] => { results := [.lit (.bool false)], args := [d] }
  | _ => none }
def FnExactIsOpenPermutationWrongFalsely : Prop := fnExactIsOpenPermutationRow.holds Try.pinned (OpenSpec.ofChange fnExactIsOpenPermutationWrong)

/-- 'laws.FnExactCrossingOf': WHATEVER THE INPUT: true; the input reads as it did. -/
def fnExactCrossingOfSpec : ChangeSpec := { name := "fnExactCrossingOf", fn := fun _ => fun
  | [d] => { results := [.lit (.bool true)], args := [d] }
  | _ => none }
def fnExactCrossingOfRow : OpenClaim := { program := "ytbijopabcnmjiaa", sum := "283478500a7c10f9d029fcb76f6848024b600932dbcde9c5f82d0084a7a1a7cf", func := "loop.example/g01126/laws.FnExactCrossingOf", spec := "fnExactCrossingOf", unfollowed := true, recurses := true, apart := false }
def FnExactCrossingOfSaid : Prop := fnExactCrossingOfRow.holds Try.pinned (OpenSpec.ofChange fnExactCrossingOfSpec)

/-- ITS FALSE NEIGHBOUR: 'it returns false'. Refute it at one input. -/
def fnExactCrossingOfWrong : ChangeSpec := { name := "fnExactCrossingOf", fn := fun _ => fun
  | [d] => { results := [.lit (.bool false)], args := [d] }
  | _ => none }
def FnExactCrossingOfWrongFalsely : Prop := fnExactCrossingOfRow.holds Try.pinned (OpenSpec.ofChange fnExactCrossingOfWrong)

/-- 'laws.FnExactIsPermutation': WHATEVER THE INPUT: true; the input reads as it did. -/
def fnExactIsPermutationSpec : ChangeSpec := { name := "fnExactIsPermutation", fn := fun _ => fun
  | [d] => { results := [.lit (.bool true)], args := [d] }
  | _ => none }
def fnExactIsPermutationRow : OpenClaim := { program := "ytbijopabcnmjiaa", sum := "283478500a7c10f9d029fcb76f6848024b600932dbcde9c5f82d0084a7a1a7cf", func := "loop.example/g01126/laws.FnExactIsPermutation", spec := "fnExactIsPermutation", unfollowed := true, recurses := true, apart := false }
def FnExactIsPermutationSaid : Prop := fnExactIsPermutationRow.holds Try.pinned (OpenSpec.ofChange fnExactIsPermutationSpec)

/-- ITS FALSE NEIGHBOUR: 'it returns false'. Refute it at one input. -/
def fnExactIsPermutationWrong : ChangeSpec := { name := "fnExactIsPermutation", fn := fun _ => fun
  | [d] => { results := [.lit (.bool false)], args := [d] }
  | _ => none }
def FnExactIsPermutationWrongFalsely : Prop := fnExactIsPermutationRow.holds Try.pinned (OpenSpec.ofChange fnExactIsPermutationWrong)

/-- 'laws.FnExactPositionsOf': WHATEVER THE INPUT: true; the input reads as it did. -/
def fnExactPositionsOfSpec : ChangeSpec := { name := "fnExactPositionsOf", fn := fun _ => fun
  | [d] => { results := [.lit (.bool true)], args := [d] }
  | _ => none }
def fnExactPositionsOfRow : OpenClaim := { program := "ytbijopabcnmjiaa", sum := "283478500a7c10f9d029fcb76f6848024b600932dbcde9c5f82d0084a7a1a7cf", func := "loop.example/g01126/laws.FnExactPositionsOf", spec := "fnExactPositionsOf", unfollowed := true, recurses := true, apart := false }
def FnExactPositionsOfSaid : Prop := fnExactPositionsOfRow.holds Try.pinned (OpenSpec.ofChange fnExactPositionsOfSpec)

/-- ITS FALSE NEIGHBOUR: 'it returns false'. Refute it at one input. -/
def fnExactPositionsOfWrong : ChangeSpec := { name := "fnExactPositionsOf", fn := fun _ => fun
  | [d] => { results := [.lit (.bool false)], args := [d] }
  | _ => none }
def FnExactPositionsOfWrongFalsely : Prop := fnExactPositionsOfRow.holds Try.pinned (OpenSpec.ofChange fnExactPositionsOfWrong)

/-- 'laws.FnExactFromPermutation': WHATEVER THE INPUT: true; the input reads as it did. -/
def fnExactFromPermutationSpec : ChangeSpec := { name := "fnExactFromPermutation", fn := fun _ => fun
  | [d] => { results := [.lit (.bool true)], args := [d] }
  | _ => none }
def fnExactFromPermutationRow : OpenClaim := { program := "ytbijopabcnmjiaa", sum := "283478500a7c10f9d029fcb76f6848024b600932dbcde9c5f82d0084a7a1a7cf", func := "loop.example/g01126/laws.FnExactFromPermutation", spec := "fnExactFromPermutation", unfollowed := true, recurses := true, apart := false }
def FnExactFromPermutationSaid : Prop := fnExactFromPermutationRow.holds Try.pinned (OpenSpec.ofChange fnExactFromPermutationSpec)

/-- ITS FALSE NEIGHBOUR: 'it returns false'. Refute it at one input. -/
def fnExactFromPermutationWrong : ChangeSpec := { name := "fnExactFromPermutation", fn := fun _ => fun
  | [d] => { results := [.lit (.bool false)], args := [d] }
  | _ => none }
def FnExactFromPermutationWrongFalsely : Prop := fnExactFromPermutationRow.holds Try.pinned (OpenSpec.ofChange fnExactFromPermutationWrong)

/-- 'laws.FnExactOpenToClosed': WHATEVER THE INPUT: true; the input reads as it did. -/
def fnExactOpenToClosedSpec : ChangeSpec := { name := "fnExactOpenToClosed", fn := fun _ => fun
  | [d] => { results := [.lit (.bool true)], args := [d] }
  | _ => none }
def fnExactOpenToClosedRow : OpenClaim := { program := "ytbijopabcnmjiaa", sum := "283478500a7c10f9d029fcb76f6848024b600932dbcde9c5f82d0084a7a1a7cf", func := "loop.example/g01126/laws.FnExactOpenToClosed", spec := "fnExactOpenToClosed", unfollowed := true, recurses := true, apart := false }
def FnExactOpenToClosedSaid : Prop := fnExactOpenToClosedRow.holds Try.pinned (OpenSpec.ofChange fnExactOpenToClosedSpec)

/-- ITS FALSE NEIGHBOUR: 'it returns false'. Refute it at one input. -/
def fnExactOpenToClosedWrong : ChangeSpec := { name := "fnExactOpenToClosed", fn := fun _ => fun
  | [d] => { results := [.lit (.bool false)], args := [d] }
  | _ => none }
def FnExactOpenToClosedWrongFalsely : Prop := fnExactOpenToClosedRow.holds Try.pinned (OpenSpec.ofChange fnExactOpenToClosedWrong)

/- THE SECOND FORM. 'bulk': how many values and letters a reading holds, each counted each time it is reached (what is shared counts as often as it is met; a slice's spare places count too). A statement '..UptoSaid' is the law's where the arguments, and the package variables that the reading takes, are together of bulk at most 1048576: NARROWER than '..Said'. Prove '..Said' where nothing that the law and all that it calls make is longer than what came in: it says more and counts as full. Else prove '..UptoSaid'. A law counts once. -/
mutual
def uptoBulk {H : Type} : DataW H → Nat
  | .lit (.string bytes) => bytes.length + 1
  | .lit _ => 1
  | .nil => 1
  | .ptr d => uptoBulk d + 1
  | .slice elems spare => uptoBulkAll elems + uptoBulkAll spare + 1
  | .agg parts => uptoBulkAll parts + 1
  | .iface _ d => uptoBulk d + 1
  | .map entries => uptoBulkEntries entries + 1
  | .held _ => 1
def uptoBulkAll {H : Type} : List (DataW H) → Nat
  | [] => 0
  | d :: r => uptoBulk d + uptoBulkAll r
def uptoBulkEntries {H : Type} : List (Lit × DataW H) → Nat
  | [] => 0
  | x :: r => uptoBulkEntry x + uptoBulkEntries r
def uptoBulkEntry {H : Type} : Lit × DataW H → Nat
  | (.string bytes, d) => bytes.length + uptoBulk d + 1
  | (_, d) => uptoBulk d + 1
 end
def uptoSmall : (H : Type) → List (DataW H) → Bool := fun _ ds => decide (uptoBulkAll ds ≤ 1048576)
def OpenSpec.upto (s : _root_.Go.ChangeSpec) : _root_.Go.OpenSpec := { _root_.Go.OpenSpec.ofChange s with cond := some uptoSmall }

/-- 'laws.FnExactCountOpen', WHERE WHAT IT READS IS OF BULK AT MOST 1048576: true; the input reads as it did. -/
def fnExactCountOpenUptoRow : OpenClaim := { program := "ytbijopabcnmjiaa", sum := "283478500a7c10f9d029fcb76f6848024b600932dbcde9c5f82d0084a7a1a7cf", func := "loop.example/g01126/laws.FnExactCountOpen", spec := "fnExactCountOpen", unfollowed := true, recurses := true, apart := false, narrowed := true }
def FnExactCountOpenUptoSaid : Prop := fnExactCountOpenUptoRow.holds Try.pinned (OpenSpec.upto fnExactCountOpenSpec)

/-- 'laws.FnExactOpenPermutations', WHERE WHAT IT READS IS OF BULK AT MOST 1048576: true; the input reads as it did. -/
def fnExactOpenPermutationsUptoRow : OpenClaim := { program := "ytbijopabcnmjiaa", sum := "283478500a7c10f9d029fcb76f6848024b600932dbcde9c5f82d0084a7a1a7cf", func := "loop.example/g01126/laws.FnExactOpenPermutations", spec := "fnExactOpenPermutations", unfollowed := true, recurses := true, apart := false, narrowed := true }
def FnExactOpenPermutationsUptoSaid : Prop := fnExactOpenPermutationsUptoRow.holds Try.pinned (OpenSpec.upto fnExactOpenPermutationsSpec)

/-- 'laws.FnExactBackwardsOf', WHERE WHAT IT READS IS OF BULK AT MOST 1048576: true; the input reads as it did. -/
def fnExactBackwardsOfUptoRow : OpenClaim := { program := "ytbijopabcnmjiaa", sum := "283478500a7c10f9d029fcb76f6848024b600932dbcde9c5f82d0084a7a1a7cf", func := "loop.example/g01126/laws.FnExactBackwardsOf", spec := "fnExactBackwardsOf", recurses := true, apart := false, narrowed := true }
def FnExactBackwardsOfUptoSaid : Prop := fnExactBackwardsOfUptoRow.holds Try.pinned (OpenSpec.upto fnExactBackwardsOfSpec)

/-- 'laws.FnExactInverseOf', WHERE WHAT IT READS IS OF BULK AT MOST 1048576: true; the input reads as it did. -/
def fnExactInverseOfUptoRow : OpenClaim := { program := "ytbijopabcnmjiaa", sum := "283478500a7c10f9d029fcb76f6848024b600932dbcde9c5f82d0084a7a1a7cf", func := "loop.example/g01126/laws.FnExactInverseOf", spec := "fnExactInverseOf", recurses := true, apart := false, narrowed := true }
def FnExactInverseOfUptoSaid : Prop := fnExactInverseOfUptoRow.holds Try.pinned (OpenSpec.upto fnExactInverseOfSpec)

/-- 'laws.FnExactMirrorPermutation', WHERE WHAT IT READS IS OF BULK AT MOST 1048576: true; the input reads as it did. -/
def fnExactMirrorPermutationUptoRow : OpenClaim := { program := "ytbijopabcnmjiaa", sum := "283478500a7c10f9d029fcb76f6848024b600932dbcde9c5f82d0084a7a1a7cf", func := "loop.example/g01126/laws.FnExactMirrorPermutation", spec := "fnExactMirrorPermutation", recurses := true, apart := false, narrowed := true }
def FnExactMirrorPermutationUptoSaid : Prop := fnExactMirrorPermutationUptoRow.holds Try.pinned (OpenSpec.upto fnExactMirrorPermutationSpec)

/-- 'laws.FnExactIsOpenPermutation', WHERE WHAT IT READS IS OF BULK AT MOST 1048576: true; the input reads as it did. -/
def fnExactIsOpenPermutationUptoRow : OpenClaim := { program := "ytbijopabcnmjiaa", sum := "283478500a7c10f9d029fcb76f6848024b600932dbcde9c5f82d0084a7a1a7cf", func := "loop.example/g01126/laws.FnExactIsOpenPermutation", spec := "fnExactIsOpenPermutation", unfollowed := true, recurses := true, apart := false, narrowed := true }
def FnExactIsOpenPermutationUptoSaid : Prop := fnExactIsOpenPermutationUptoRow.holds Try.pinned (OpenSpec.upto fnExactIsOpenPermutationSpec)

/-- 'laws.FnExactCrossingOf', WHERE WHAT IT READS IS OF BULK AT MOST 1048576: true; the input reads as it did. -/
def fnExactCrossingOfUptoRow : OpenClaim := { program := "ytbijopabcnmjiaa", sum := "283478500a7c10f9d029fcb76f6848024b600932dbcde9c5f82d0084a7a1a7cf", func := "loop.example/g01126/laws.FnExactCrossingOf", spec := "fnExactCrossingOf", unfollowed := true, recurses := true, apart := false, narrowed := true }
def FnExactCrossingOfUptoSaid : Prop := fnExactCrossingOfUptoRow.holds Try.pinned (OpenSpec.upto fnExactCrossingOfSpec)

/-- 'laws.FnExactIsPermutation', WHERE WHAT IT READS IS OF BULK AT MOST 1048576: true; the input reads as it did. -/
def fnExactIsPermutationUptoRow : OpenClaim := { program := "ytbijopabcnmjiaa", sum := "283478500a7c10f9d029fcb76f6848024b600932dbcde9c5f82d0084a7a1a7cf", func := "loop.example/g01126/laws.FnExactIsPermutation", spec := "fnExactIsPermutation", unfollowed := true, recurses := true, apart := false, narrowed := true }
def FnExactIsPermutationUptoSaid : Prop := fnExactIsPermutationUptoRow.holds Try.pinned (OpenSpec.upto fnExactIsPermutationSpec)

/-- 'laws.FnExactPositionsOf', WHERE WHAT IT READS IS OF BULK AT MOST 1048576: true; the input reads as it did. -/
def fnExactPositionsOfUptoRow : OpenClaim := { program := "ytbijopabcnmjiaa", sum := "283478500a7c10f9d029fcb76f6848024b600932dbcde9c5f82d0084a7a1a7cf", func := "loop.example/g01126/laws.FnExactPositionsOf", spec := "fnExactPositionsOf", unfollowed := true, recurses := true, apart := false, narrowed := true }
def FnExactPositionsOfUptoSaid : Prop := fnExactPositionsOfUptoRow.holds Try.pinned (OpenSpec.upto fnExactPositionsOfSpec)

/-- 'laws.FnExactFromPermutation', WHERE WHAT IT READS IS OF BULK AT MOST 1048576: true; the input reads as it did. -/
def fnExactFromPermutationUptoRow : OpenClaim := { program := "ytbijopabcnmjiaa", sum := "283478500a7c10f9d029fcb76f6848024b600932dbcde9c5f82d0084a7a1a7cf", func := "loop.example/g01126/laws.FnExactFromPermutation", spec := "fnExactFromPermutation", unfollowed := true, recurses := true, apart := false, narrowed := true }
def FnExactFromPermutationUptoSaid : Prop := fnExactFromPermutationUptoRow.holds Try.pinned (OpenSpec.upto fnExactFromPermutationSpec)

/-- 'laws.FnExactOpenToClosed', WHERE WHAT IT READS IS OF BULK AT MOST 1048576: true; the input reads as it did. -/
def fnExactOpenToClosedUptoRow : OpenClaim := { program := "ytbijopabcnmjiaa", sum := "283478500a7c10f9d029fcb76f6848024b600932dbcde9c5f82d0084a7a1a7cf", func := "loop.example/g01126/laws.FnExactOpenToClosed", spec := "fnExactOpenToClosed", unfollowed := true, recurses := true, apart := false, narrowed := true }
def FnExactOpenToClosedUptoSaid : Prop := fnExactOpenToClosedUptoRow.holds Try.pinned (OpenSpec.upto fnExactOpenToClosedSpec)

end Rows
end Go.Proofs.Ytbijopabcnmjiaa
