/-
  No cell of these rows narrows 'for every input' (looked for: loops, veiled, ifaces, maps, wideKeys, modest, calm, conditions, laid).
  DERIVED. THE GIVEN ROWS OF THIS SEAT. 7 by the template 'for every input the law returns true; each argument reads behind the call as it read before'; 0 by the template 'total and deterministic' (their statements: YteflkoghligofaaTotals.lean).
  GIVEN WITH THE SEED: the statements are not yours to turn. If you find one false, say at which input.
  Laid BY PROGRAM, IN A SANDBOX (cutbox-rows.mjs): the forced cells as the released guide's own fill.sh prints them over the translation 86534ac1ed4aebf8… (all of the seat's roots in one cut). By AI agents, Wed Nov 11 2026. No macro, syntax, notation, axiom, sorry.
-/
import Derived.Test.YteflkoghligofaaChecked
import GoSem.Claim
import GoSem.ClaimJoined
import GoSem.ClaimMapViews
import Derived.JoinedTies
import Derived.KernelRfl
namespace Go.Proofs.Yteflkoghligofaa
/- THE CELL 'sum', in the pinned program and in every row, IS THE sha256 OF THE DUMP (.gsa) THAT YteflkoghligofaaProg.lean LOADS. Nothing in Lean hashes anything: it is a label: what it is worth is what the hold of that sum in a sandbox is worth. -/
noncomputable def Try.pinned : Pinned := { name := "yteflkoghligofaa", sum := "86534ac1ed4aebf81dc2b7523ce2bbf62115be081b982a26827ee720816fb9aa", checked := Try.checked }
namespace Rows
def none {H : Type} : Left H := { results := [], args := [] }

/-- 'laws.FnExactClosedToOpen': WHATEVER THE INPUT: true; the input reads as it did. -/
def fnExactClosedToOpenSpec : ChangeSpec := { name := "fnExactClosedToOpen", fn := fun _ => fun
  | [d] => { results := [.lit (.bool true)], args := [d] }
  | _ => none }
def fnExactClosedToOpenRow : OpenClaim := { program := "yteflkoghligofaa", sum := "86534ac1ed4aebf81dc2b7523ce2bbf62115be081b982a26827ee720816fb9aa", func := "loop.example/g01126/laws.FnExactClosedToOpen", spec := "fnExactClosedToOpen", apart := false }
def FnExactClosedToOpenSaid : Prop := fnExactClosedToOpenRow.holds Try.pinned (OpenSpec.ofChange fnExactClosedToOpenSpec)

/-- ITS FALSE NEIGHBOUR: 'it returns false'. Refute it at one input. -/
def fnExactClosedToOpenWrong : ChangeSpec := { name := "fnExactClosedToOpen", fn := fun _ => fun
  | [d] => { results := [.lit (.bool false)], args := [d] }
  | _ => none }
def FnExactClosedToOpenWrongFalsely : Prop := fnExactClosedToOpenRow.holds Try.pinned (OpenSpec.ofChange fnExactClosedToOpenWrong)

/-- 'laws.FnExactOpenPermutations': WHATEVER THE INPUT: true; the input reads as it did. -/
def fnExactOpenPermutationsSpec : ChangeSpec := { name := "fnExactOpenPermutations", fn := fun _ => fun
  | [d] => { results := [.lit (.bool true)], args := [d] }
  | _ => none }
def fnExactOpenPermutationsRow : OpenClaim := { program := "yteflkoghligofaa", sum := "86534ac1ed4aebf81dc2b7523ce2bbf62115be081b982a26827ee720816fb9aa", func := "loop.example/g01126/laws.FnExactOpenPermutations", spec := "fnExactOpenPermutations", unfollowed := true, recurses := true, apart := false }
def FnExactOpenPermutationsSaid : Prop := fnExactOpenPermutationsRow.holds Try.pinned (OpenSpec.ofChange fnExactOpenPermutationsSpec)

/-- ITS FALSE NEIGHBOUR: 'it returns false'. Refute it at one input. -/
def fnExactOpenPermutationsWrong : ChangeSpec := { name := "fnExactOpenPermutations", fn := fun _ => fun
  | [d] => { results := [.lit (.bool false)], args := [d] }
  | _ => none }
def FnExactOpenPermutationsWrongFalsely : Prop := fnExactOpenPermutationsRow.holds Try.pinned (OpenSpec.ofChange fnExactOpenPermutationsWrong)

/-- 'laws.FnExactFromPermutation': WHATEVER THE INPUT: true; the input reads as it did. -/
def fnExactFromPermutationSpec : ChangeSpec := { name := "fnExactFromPermutation", fn := fun _ => fun
  | [d] => { results := [.lit (.bool true)], args := [d] }
  | _ => none }
def fnExactFromPermutationRow : OpenClaim := { program := "yteflkoghligofaa", sum := "86534ac1ed4aebf81dc2b7523ce2bbf62115be081b982a26827ee720816fb9aa", func := "loop.example/g01126/laws.FnExactFromPermutation", spec := "fnExactFromPermutation", unfollowed := true, recurses := true, apart := false }
def FnExactFromPermutationSaid : Prop := fnExactFromPermutationRow.holds Try.pinned (OpenSpec.ofChange fnExactFromPermutationSpec)

/-- ITS FALSE NEIGHBOUR: 'it returns false'. Refute it at one input. -/
def fnExactFromPermutationWrong : ChangeSpec := { name := "fnExactFromPermutation", fn := fun _ => fun
  | [d] => { results := [.lit (.bool false)], args := [d] }
  | _ => none }
def FnExactFromPermutationWrongFalsely : Prop := fnExactFromPermutationRow.holds Try.pinned (OpenSpec.ofChange fnExactFromPermutationWrong)

/-- 'laws.FnExactOpenToClosed': WHATEVER THE INPUT: true; the input reads as it did. -/
def fnExactOpenToClosedSpec : ChangeSpec := { name := "fnExactOpenToClosed", fn := fun _ => fun
  | [d] => { results := [.lit (.bool true)], args := [d] }
  | _ => none }
def fnExactOpenToClosedRow : OpenClaim := { program := "yteflkoghligofaa", sum := "86534ac1ed4aebf81dc2b7523ce2bbf62115be081b982a26827ee720816fb9aa", func := "loop.example/g01126/laws.FnExactOpenToClosed", spec := "fnExactOpenToClosed", unfollowed := true, recurses := true, apart := false }
def FnExactOpenToClosedSaid : Prop := fnExactOpenToClosedRow.holds Try.pinned (OpenSpec.ofChange fnExactOpenToClosedSpec)

/-- ITS FALSE NEIGHBOUR: 'it returns false'. Refute it at one input. -/
def fnExactOpenToClosedWrong : ChangeSpec := { name := "fnExactOpenToClosed", fn := fun _ => fun
  | [d] => { results := [.lit (.bool false)], args := [d] }
  | _ => none }
def FnExactOpenToClosedWrongFalsely : Prop := fnExactOpenToClosedRow.holds Try.pinned (OpenSpec.ofChange fnExactOpenToClosedWrong)

/-- 'laws.FnOpenWords': WHATEVER THE INPUT: true; the input reads as it did. -/
def fnOpenWordsSpec : ChangeSpec := { name := "fnOpenWords", fn := fun _ => fun
  | [d1, d2] => { results := [.lit (.bool true)], args := [d1, d2] }
  | _ => none }
def fnOpenWordsRow : OpenClaim := { program := "yteflkoghligofaa", sum := "86534ac1ed4aebf81dc2b7523ce2bbf62115be081b982a26827ee720816fb9aa", func := "loop.example/g01126/laws.FnOpenWords", spec := "fnOpenWords", unfollowed := true, recurses := true, apart := false }
def FnOpenWordsSaid : Prop := fnOpenWordsRow.holds Try.pinned (OpenSpec.ofChange fnOpenWordsSpec)

/-- ITS FALSE NEIGHBOUR: 'it returns false'. Refute it at one input. -/
def fnOpenWordsWrong : ChangeSpec := { name := "fnOpenWords", fn := fun _ => fun
  | [d1, d2] => { results := [.lit (.bool false)], args := [d1, d2] }
  | _ => none }
def FnOpenWordsWrongFalsely : Prop := fnOpenWordsRow.holds Try.pinned (OpenSpec.ofChange fnOpenWordsWrong)

/-- 'laws.FnOpenAndClosed': WHATEVER THE INPUT: true; the input reads as it did. -/
def fnOpenAndClosedSpec : ChangeSpec := { name := "fnOpenAndClosed", fn := fun _ => fun
  | [d1, d2] => { results := [.lit (.bool true)], args := [d1, d2] }
  | _ => none }
def fnOpenAndClosedRow : OpenClaim := { program := "yteflkoghligofaa", sum := "86534ac1ed4aebf81dc2b7523ce2bbf62115be081b982a26827ee720816fb9aa", func := "loop.example/g01126/laws.FnOpenAndClosed", spec := "fnOpenAndClosed", unfollowed := true, recurses := true, apart := false }
def FnOpenAndClosedSaid : Prop := fnOpenAndClosedRow.holds Try.pinned (OpenSpec.ofChange fnOpenAndClosedSpec)

/-- ITS FALSE NEIGHBOUR: 'it returns false'. Refute it at one input. -/
def fnOpenAndClosedWrong : ChangeSpec := { name := "fnOpenAndClosed", fn := fun _ => fun
  | [d1, d2] => { results := [.lit (.bool false)], args := [d1, d2] }
  | _ => none }
def FnOpenAndClosedWrongFalsely : Prop := fnOpenAndClosedRow.holds Try.pinned (OpenSpec.ofChange fnOpenAndClosedWrong)

/-- 'laws.FnWordsOfMeanders': WHATEVER THE INPUT: true; the input reads as it did. -/
def fnWordsOfMeandersSpec : ChangeSpec := { name := "fnWordsOfMeanders", fn := fun _ => fun
  | [d1, d2] => { results := [.lit (.bool true)], args := [d1, d2] }
  | _ => none }
def fnWordsOfMeandersRow : OpenClaim := { program := "yteflkoghligofaa", sum := "86534ac1ed4aebf81dc2b7523ce2bbf62115be081b982a26827ee720816fb9aa", func := "loop.example/g01126/laws.FnWordsOfMeanders", spec := "fnWordsOfMeanders", unfollowed := true, recurses := true, apart := false }
def FnWordsOfMeandersSaid : Prop := fnWordsOfMeandersRow.holds Try.pinned (OpenSpec.ofChange fnWordsOfMeandersSpec)

/-- ITS FALSE NEIGHBOUR: 'it returns false'. Refute it at one input. -/
def fnWordsOfMeandersWrong : ChangeSpec := { name := "fnWordsOfMeanders", fn := fun _ => fun
  | [d1, d2] => { results := [.lit (.bool false)], args := [d1, d2] }
  | _ => none }
def FnWordsOfMeandersWrongFalsely : Prop := fnWordsOfMeandersRow.holds Try.pinned (OpenSpec.ofChange fnWordsOfMeandersWrong)

/- THE SECOND FORM. 'bulk': how many values and letters a reading holds, each counted each time it is reached (what is shared counts as often as it is met; a slice's spare places count too). A statement '..UptoSaid' is the law's where the arguments, and the package variables that the reading takes, are together of bulk at most 1048576: NARROWER than '..Said'. Prove '..Said' where nothing that the law and all that it calls make is longer than what came in: it says more and counts as full. Else prove '..UptoSaid'. A law counts once. -/
mutual
def uptoBulk {H : Type} : DataW H → Nat
  | .lit (.string bytes) => bytes.length + 1
  | .lit _ => 1
  | .nil => 1
  | .ptr d => uptoBulk d + 1
  | .slice elems spare => uptoBulkAll elems + uptoBulkAll spare + 1
  | .agg parts => uptoBulkAll parts + 1
  | .iface _ d => uptoBulk d + 1
  | .map entries => uptoBulkEntries entries + 1
  | .held _ => 1
def uptoBulkAll {H : Type} : List (DataW H) → Nat
  | [] => 0
  | d :: r => uptoBulk d + uptoBulkAll r
def uptoBulkEntries {H : Type} : List (Lit × DataW H) → Nat
  | [] => 0
  | x :: r => uptoBulkEntry x + uptoBulkEntries r
def uptoBulkEntry {H : Type} : Lit × DataW H → Nat
  | (.string bytes, d) => bytes.length + uptoBulk d + 1
  | (_, d) => uptoBulk d + 1
 end
def uptoSmall : (H : Type) → List (DataW H) → Bool := fun _ ds => decide (uptoBulkAll ds ≤ 1048576)
def OpenSpec.upto (s : _root_.Go.ChangeSpec) : _root_.Go.OpenSpec := { _root_.Go.OpenSpec.ofChange s with cond := some uptoSmall }

/-- 'laws.FnExactClosedToOpen', WHERE WHAT IT READS IS OF BULK AT MOST 1048576: true; the input reads as it did. -/
def fnExactClosedToOpenUptoRow : OpenClaim := { program := "yteflkoghligofaa", sum := "86534ac1ed4aebf81dc2b7523ce2bbf62115be081b982a26827ee720816fb9aa", func := "loop.example/g01126/laws.FnExactClosedToOpen", spec := "fnExactClosedToOpen", apart := false, narrowed := true }
def FnExactClosedToOpenUptoSaid : Prop := fnExactClosedToOpenUptoRow.holds Try.pinned (OpenSpec.upto fnExactClosedToOpenSpec)

/-- 'laws.FnExactOpenPermutations', WHERE WHAT IT READS IS OF BULK AT MOST 1048576: true; the input reads as it did. -/
def fnExactOpenPermutationsUptoRow : OpenClaim := { program := "yteflkoghligofaa", sum := "86534ac1ed4aebf81dc2b7523ce2bbf62115be081b982a26827ee720816fb9aa", func := "loop.example/g01126/laws.FnExactOpenPermutations", spec := "fnExactOpenPermutations", unfollowed := true, recurses := true, apart := false, narrowed := true }
def FnExactOpenPermutationsUptoSaid : Prop := fnExactOpenPermutationsUptoRow.holds Try.pinned (OpenSpec.upto fnExactOpenPermutationsSpec)

/-- 'laws.FnExactFromPermutation', WHERE WHAT IT READS IS OF BULK AT MOST 1048576: true; the input reads as it did. -/
def fnExactFromPermutationUptoRow : OpenClaim := { program := "yteflkoghligofaa", sum := "86534ac1ed4aebf81dc2b7523ce2bbf62115be081b982a26827ee720816fb9aa", func := "loop.example/g01126/laws.FnExactFromPermutation", spec := "fnExactFromPermutation", unfollowed := true, recurses := true, apart := false, narrowed := true }
def FnExactFromPermutationUptoSaid : Prop := fnExactFromPermutationUptoRow.holds Try.pinned (OpenSpec.upto fnExactFromPermutationSpec)

/-- 'laws.FnExactOpenToClosed', WHERE WHAT IT READS IS OF BULK AT MOST 1048576: true; the input reads as it did. -/
def fnExactOpenToClosedUptoRow : OpenClaim := { program := "yteflkoghligofaa", sum := "86534ac1ed4aebf81dc2b7523ce2bbf62115be081b982a26827ee720816fb9aa", func := "loop.example/g01126/laws.FnExactOpenToClosed", spec := "fnExactOpenToClosed", unfollowed := true, recurses := true, apart := false, narrowed := true }
def FnExactOpenToClosedUptoSaid : Prop := fnExactOpenToClosedUptoRow.holds Try.pinned (OpenSpec.upto fnExactOpenToClosedSpec)

/-- 'laws.FnOpenWords', WHERE WHAT IT READS IS OF BULK AT MOST 1048576: true; the input reads as it did. -/
def fnOpenWordsUptoRow : OpenClaim := { program := "yteflkoghligofaa", sum := "86534ac1ed4aebf81dc2b7523ce2bbf62115be081b982a26827ee720816fb9aa", func := "loop.example/g01126/laws.FnOpenWords", spec := "fnOpenWords", unfollowed := true, recurses := true, apart := false, narrowed := true }
def FnOpenWordsUptoSaid : Prop := fnOpenWordsUptoRow.holds Try.pinned (OpenSpec.upto fnOpenWordsSpec)

/-- 'laws.FnOpenAndClosed', WHERE WHAT IT READS IS OF BULK AT MOST 1048576: true; the input reads as it did. -/
def fnOpenAndClosedUptoRow : OpenClaim := { program := "yteflkoghligofaa", sum := "86534ac1ed4aebf81dc2b7523ce2bbf62115be081b982a26827ee720816fb9aa", func := "loop.example/g01126/laws.FnOpenAndClosed", spec := "fnOpenAndClosed", unfollowed := true, recurses := true, apart := false, narrowed := true }
def FnOpenAndClosedUptoSaid : Prop := fnOpenAndClosedUptoRow.holds Try.pinned (OpenSpec.upto fnOpenAndClosedSpec)

/-- 'laws.FnWordsOfMeanders', WHERE WHAT IT READS IS OF BULK AT MOST 1048576: true; the input reads as it did. -/
def fnWordsOfMeandersUptoRow : OpenClaim := { program := "yteflkoghligofaa", sum := "86534ac1ed4aebf81dc2b7523ce2bbf62115be081b982a26827ee720816fb9aa", func := "loop.example/g01126/laws.FnWordsOfMeanders", spec := "fnWordsOfMeanders", unfollowed := true, recurses := true, apart := false, narrowed := true }
def FnWordsOfMeandersUptoSaid : Prop := fnWordsOfMeandersUptoRow.holds Try.pinned (OpenSpec.upto fnWordsOfMeandersSpec)

end Rows
end Go.Proofs.Yteflkoghligofaa
