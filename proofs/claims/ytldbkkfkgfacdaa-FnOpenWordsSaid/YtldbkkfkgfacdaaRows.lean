/-
  No cell of these rows narrows 'for every input' (looked for: loops, veiled, ifaces, maps, wideKeys, modest, calm, conditions, laid).
  DERIVED. THE GIVEN ROWS OF THIS SEAT. 3 by the template 'for every input the law returns true; each argument reads behind the call as it read before'; 0 by the template 'total and deterministic' (their statements: YtldbkkfkgfacdaaTotals.lean).
  GIVEN WITH THE SEED: the statements are not yours to turn. If you find one false, say at which input.
  Laid BY PROGRAM, IN A SANDBOX (cutbox-rows.mjs): the forced cells as the released guide's own fill.sh prints them over the translation b41cf64d0c212464… (all of the seat's roots in one cut). By AI agents, Wed Nov 11 2026. No macro, syntax, notation, axiom, sorry.
-/
import Derived.Test.YtldbkkfkgfacdaaChecked
import GoSem.Claim
import GoSem.ClaimJoined
import GoSem.ClaimMapViews
import Derived.JoinedTies
import Derived.KernelRfl
namespace Go.Proofs.Ytldbkkfkgfacdaa
/- THE CELL 'sum', in the pinned program and in every row, IS THE sha256 OF THE DUMP (.gsa) THAT YtldbkkfkgfacdaaProg.lean LOADS. Nothing in Lean hashes anything: it is a label: what it is worth is what the hold of that sum in a sandbox is worth. -/
noncomputable def Try.pinned : Pinned := { name := "ytldbkkfkgfacdaa", sum := "b41cf64d0c2124649ce80b9ee5d56d463aa6de754ca1dd69445c8f69982624ae", checked := Try.checked }
namespace Rows
def none {H : Type} : Left H := { results := [], args := [] }

/-- 'laws.FnOpenWords': WHATEVER THE INPUT: true; the input reads as it did. -/
def fnOpenWordsSpec : ChangeSpec := { name := "fnOpenWords", fn := fun _ => fun
  | [d1, d2] => { results := [.lit (.bool true)], args := [d1, d2] }
  | _ => none }
def fnOpenWordsRow : OpenClaim := { program := "ytldbkkfkgfacdaa", sum := "b41cf64d0c2124649ce80b9ee5d56d463aa6de754ca1dd69445c8f69982624ae", func := "loop.example/g01126/laws.FnOpenWords", spec := "fnOpenWords", unfollowed := true, recurses := true, apart := false }
def FnOpenWordsSaid : Prop := fnOpenWordsRow.holds Try.pinned (OpenSpec.ofChange fnOpenWordsSpec)

/-- ITS FALSE NEIGHBOUR: 'it returns false'. Refute it at one input. -/
def fnOpenWordsWrong : ChangeSpec := { name := "fnOpenWords", fn := fun _ => fun
  | [d1, d2] => { results := [.lit (.bool false)], args := [d1, d2] }
  | _ => none }
def FnOpenWordsWrongFalsely : Prop := fnOpenWordsRow.holds Try.pinned (OpenSpec.ofChange fnOpenWordsWrong)

/-- 'laws.FnOpenAndClosed': WHATEVER THE INPUT: true; the input reads as it did. -/
def fnOpenAndClosedSpec : ChangeSpec := { name := "fnOpenAndClosed", fn := fun _ => fun
  | [d1, d2] => { results := [.lit (.bool true)], args := [d1, d2] }
  | _ => none }
def fnOpenAndClosedRow : OpenClaim := { program := "ytldbkkfkgfacdaa", sum := "b41cf64d0c2124649ce80b9ee5d56d463aa6de754ca1dd69445c8f69982624ae", func := "loop.example/g01126/laws.FnOpenAndClosed", spec := "fnOpenAndClosed", unfollowed := true, recurses := true, apart := false }
def FnOpenAndClosedSaid : Prop := fnOpenAndClosedRow.holds Try.pinned (OpenSpec.ofChange fnOpenAndClosedSpec)

/-- ITS FALSE NEIGHBOUR: 'it returns false'. Refute it at one input. -/
def fnOpenAndClosedWrong : ChangeSpec := { name := "fnOpenAndClosed", fn := fun _ => fun
  | [d1, d2] => { results := [.lit (.bool false)], args := [d1, d2] }
  | _ => none }
def FnOpenAndClosedWrongFalsely : Prop := fnOpenAndClosedRow.holds Try.pinned (OpenSpec.ofChange fnOpenAndClosedWrong)

/-- 'laws.FnWordsOfMeanders': WHATEVER THE INPUT: true; the input reads as it did. -/
def fnWordsOfMeandersSpec : ChangeSpec := { name := "fnWordsOfMeanders", fn := fun _ => fun
  | [d1, d2] => { results := [.lit (.bool true)], args := [d1, d2] }
  | _ => none }
def fnWordsOfMeandersRow : OpenClaim := { program := "ytldbkkfkgfacdaa", sum := "b41cf64d0c2124649ce80b9ee5d56d463aa6de754ca1dd69445c8f69982624ae", func := "loop.example/g01126/laws.FnWordsOfMeanders", spec := "fnWordsOfMeanders", unfollowed := true, recurses := true, apart := false }
def FnWordsOfMeandersSaid : Prop := fnWordsOfMeandersRow.holds Try.pinned (OpenSpec.ofChange fnWordsOfMeandersSpec)

/-- ITS FALSE NEIGHBOUR: 'it returns false'. Refute it at one input. -/
def fnWordsOfMeandersWrong : ChangeSpec := { name := "fnWordsOfMeanders", fn := fun _ => fun
  | [d1, d2] => { results := [.lit (.bool false)], args := [d1, d2] }
  | _ => none }
def FnWordsOfMeandersWrongFalsely : Prop := fnWordsOfMeandersRow.holds Try.pinned (OpenSpec.ofChange fnWordsOfMeandersWrong)

/- THE SECOND FORM. 'bulk': how many values and letters a reading holds, each counted each time it is reached (what is shared counts as often as it is met; a slice's spare places count too). A statement '..UptoSaid' is the law's where the arguments, and the package variables that the reading takes, are together of bulk at most 1048576: NARROWER than '..Said'. Prove '..Said' where nothing that the law and all that it calls make is longer than what came in: it says more and counts as full. Else prove '..UptoSaid'. A law counts once. -/
mutual
def uptoBulk {H : Type} : DataW H → Nat
  | .lit (.string bytes) => bytes.length + 1
  | .lit _ => 1
  | .nil => 1
  | .ptr d => uptoBulk d + 1
  | .slice elems spare => uptoBulkAll elems + uptoBulkAll spare + 1
  | .agg parts => uptoBulkAll parts + 1
  | .iface _ d => uptoBulk d + 1
  | .map entries => uptoBulkEntries entries + 1
  | .held _ => 1
def uptoBulkAll {H : Type} : List (DataW H) → Nat
  | [] => 0
  | d :: r => uptoBulk d + uptoBulkAll r
def uptoBulkEntries {H : Type} : List (Lit × DataW H) → Nat
  | [] => 0
  | x :: r => uptoBulkEntry x + uptoBulkEntries r
def uptoBulkEntry {H : Type} : Lit × DataW H → Nat
  | (.string bytes, d) => bytes.length + uptoBulk d + 1
  | (_, d) => uptoBulk d + 1
 end
def uptoSmall : (H : Type) → List (DataW H) → Bool := fun _ ds => decide (uptoBulkAll ds ≤ 1048576)
def OpenSpec.upto (s : _root_.Go.ChangeSpec) : _root_.Go.OpenSpec := { _root_.Go.OpenSpec.ofChange s with cond := some uptoSmall }

/-- 'laws.FnOpenWords', WHERE WHAT IT READS IS OF BULK AT MOST 1048576: true; the input reads as it did. -/
def fnOpenWordsUptoRow : OpenClaim := { program := "ytldbkkfkgfacdaa", sum := "b41cf64d0c2124649ce80b9ee5d56d463aa6de754ca1dd69445c8f69982624ae", func := "loop.example/g01126/laws.FnOpenWords", spec := "fnOpenWords", unfollowed := true, recurses := true, apart := false, narrowed := true }
def FnOpenWordsUptoSaid : Prop := fnOpenWordsUptoRow.holds Try.pinned (OpenSpec.upto fnOpenWordsSpec)

/-- 'laws.FnOpenAndClosed', WHERE WHAT IT READS IS OF BULK AT MOST 1048576: true; the input reads as it did. -/
def fnOpenAndClosedUptoRow : OpenClaim := { program := "ytldbkkfkgfacdaa", sum := "b41cf64d0c2124649ce80b9ee5d56d463aa6de754ca1dd69445c8f69982624ae", func := "loop.example/g01126/laws.FnOpenAndClosed", spec := "fnOpenAndClosed", unfollowed := true, recurses := true, apart := false, narrowed := true }
def FnOpenAndClosedUptoSaid : Prop := fnOpenAndClosedUptoRow.holds Try.pinned (OpenSpec.upto fnOpenAndClosedSpec)

/-- 'laws.FnWordsOfMeanders', WHERE WHAT IT READS IS OF BULK AT MOST 1048576: true; the input reads as it did. -/
def fnWordsOfMeandersUptoRow : OpenClaim := { program := "ytldbkkfkgfacdaa", sum := "b41cf64d0c2124649ce80b9ee5d56d463aa6de754ca1dd69445c8f69982624ae", func := "loop.example/g01126/laws.FnWordsOfMeanders", spec := "fnWordsOfMeanders", unfollowed := true, recurses := true, apart := false, narrowed := true }
def FnWordsOfMeandersUptoSaid : Prop := fnWordsOfMeandersUptoRow.holds Try.pinned (OpenSpec.upto fnWordsOfMeandersSpec)

end Rows
end Go.Proofs.Ytldbkkfkgfacdaa
