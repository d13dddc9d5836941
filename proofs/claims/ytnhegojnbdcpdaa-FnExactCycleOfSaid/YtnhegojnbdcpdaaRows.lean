/-
  No cell of these rows narrows 'for every input' (looked for: loops, veiled, ifaces, maps, wideKeys, modest, calm, conditions, laid).
  DERIVED. THE GIVEN ROWS OF THIS SEAT. 5 by the template 'for every input the law returns true; each argument reads behind the call as it read before'; 0 by the template 'total and deterministic' (their statements: YtnhegojnbdcpdaaTotals.lean).
  GIVEN WITH THE SEED: the statements are not yours to turn. If you find one false, say at which input.
  Laid BY PROGRAM, IN A SANDBOX (cutbox-rows.mjs): the forced cells as the released guide's own fill.sh prints them over the translation 21489e46a6463372… (all of the seat's roots in one cut). By AI agents, Wed Nov 11 2026. No macro, syntax, notation, axiom, sorry.
-/
import Derived.Test.YtnhegojnbdcpdaaChecked
import GoSem.Claim
import GoSem.ClaimJoined
import GoSem.ClaimMapViews
import Derived.JoinedTies
import Derived.KernelRfl
namespace Go.Proofs.Ytnhegojnbdcpdaa
/- THE CELL 'sum', in the pinned program and in every row, IS THE sha256 OF THE DUMP (.gsa) THAT YtnhegojnbdcpdaaProg.lean LOADS. Nothing in Lean hashes anything: it is a label: what it is worth is what the hold of that sum in a sandbox is worth. -/
noncomputable def Try.pinned : Pinned := { name := "ytnhegojnbdcpdaa", sum := "21489e46a6463372960824d8441801ab963b2b0b16b6e0c62b204b2f5580e33c", checked := Try.checked }
namespace Rows
def none {H : Type} : Left H := { results := [], args := [] }

/-- 'laws.FnExactIsSemi': WHATEVER THE INPUT: true; the input reads as it did. -/
def fnExactIsSemiSpec : ChangeSpec := { name := "fnExactIsSemi", fn := fun _ => fun
  | [d] => { results := [.lit (.bool true)], args := [d] }
  | _ => none }
def fnExactIsSemiRow : OpenClaim := { program := "ytnhegojnbdcpdaa", sum := "21489e46a6463372960824d8441801ab963b2b0b16b6e0c62b204b2f5580e33c", func := "loop.example/g01126/laws.FnExactIsSemi", spec := "fnExactIsSemi", apart := false }
def FnExactIsSemiSaid : Prop := fnExactIsSemiRow.holds Try.pinned (OpenSpec.ofChange fnExactIsSemiSpec)

/-- ITS FALSE NEIGHBOUR: 'it returns false'. Refute it at one input. -/
def fnExactIsSemiWrong : ChangeSpec := { name := "fnExactIsSemi", fn := fun _ => fun
  | [d] => { results := [.lit (.bool false)], args := [d] }
  | _ => none }
def FnExactIsSemiWrongFalsely : Prop := fnExactIsSemiRow.holds Try.pinned (OpenSpec.ofChange fnExactIsSemiWrong)

/-- 'laws.FnExactFoldingOfSemi': WHATEVER THE INPUT: true; the input reads as it did. -/
def fnExactFoldingOfSemiSpec : ChangeSpec := { name := "fnExactFoldingOfSemi", fn := fun _ => fun
  | [d] => { results := [.lit (.bool true)], args := [d] }
  | _ => none }
def fnExactFoldingOfSemiRow : OpenClaim := { program := "ytnhegojnbdcpdaa", sum := "21489e46a6463372960824d8441801ab963b2b0b16b6e0c62b204b2f5580e33c", func := "loop.example/g01126/laws.FnExactFoldingOfSemi", spec := "fnExactFoldingOfSemi", apart := false }
def FnExactFoldingOfSemiSaid : Prop := fnExactFoldingOfSemiRow.holds Try.pinned (OpenSpec.ofChange fnExactFoldingOfSemiSpec)

/-- ITS FALSE NEIGHBOUR: 'it returns false'. Refute it at one input. -/
def fnExactFoldingOfSemiWrong : ChangeSpec := { name := "fnExactFoldingOfSemi", fn := fun _ => fun
  | [d] => { results := [.lit (.bool false)], args := [d] }
  | _ => none }
def FnExactFoldingOfSemiWrongFalsely : Prop := fnExactFoldingOfSemiRow.holds Try.pinned (OpenSpec.ofChange fnExactFoldingOfSemiWrong)

/-- 'laws.FnExactPermutationOf': WHATEVER THE INPUT: true; the input reads as it did. -/
def fnExactPermutationOfSpec : ChangeSpec := { name := "fnExactPermutationOf", fn := fun _ => fun
  | [d] => { results := [.lit (.bool true)], args := [d] }
  | _ => none }
def fnExactPermutationOfRow : OpenClaim := { program := "ytnhegojnbdcpdaa", sum := "21489e46a6463372960824d8441801ab963b2b0b16b6e0c62b204b2f5580e33c", func := "loop.example/g01126/laws.FnExactPermutationOf", spec := "fnExactPermutationOf", apart := false }
def FnExactPermutationOfSaid : Prop := fnExactPermutationOfRow.holds Try.pinned (OpenSpec.ofChange fnExactPermutationOfSpec)

/-- ITS FALSE NEIGHBOUR: 'it returns false'. Refute it at one input. -/
def fnExactPermutationOfWrong : ChangeSpec := { name := "fnExactPermutationOf", fn := fun _ => fun
  | [d] => { results := [.lit (.bool false)], args := [d] }
  | _ => none }
def FnExactPermutationOfWrongFalsely : Prop := fnExactPermutationOfRow.holds Try.pinned (OpenSpec.ofChange fnExactPermutationOfWrong)

/-- 'laws.FnExactClosedToOpen': WHATEVER THE INPUT: true; the input reads as it did. -/
def fnExactClosedToOpenSpec : ChangeSpec := { name := "fnExactClosedToOpen", fn := fun _ => fun
  | [d] => { results := [.lit (.bool true)], args := [d] }
  | _ => none }
def fnExactClosedToOpenRow : OpenClaim := { program := "ytnhegojnbdcpdaa", sum := "21489e46a6463372960824d8441801ab963b2b0b16b6e0c62b204b2f5580e33c", func := "loop.example/g01126/laws.FnExactClosedToOpen", spec := "fnExactClosedToOpen", apart := false }
def FnExactClosedToOpenSaid : Prop := fnExactClosedToOpenRow.holds Try.pinned (OpenSpec.ofChange fnExactClosedToOpenSpec)

/-- ITS FALSE NEIGHBOUR: 'it returns false'. Refute it at one input. -/
def fnExactClosedToOpenWrong : ChangeSpec := { name := "fnExactClosedToOpen", fn := fun _ => fun
  | [d] => { results := [.lit (.bool false)], args := [d] }
  | _ => none }
def FnExactClosedToOpenWrongFalsely : Prop := fnExactClosedToOpenRow.holds Try.pinned (OpenSpec.ofChange fnExactClosedToOpenWrong)

/-- 'laws.FnExactCycleOf': WHATEVER THE INPUT: true; the input reads as it did. -/
def fnExactCycleOfSpec : ChangeSpec := { name := "fnExactCycleOf", fn := fun _ => fun
  | [d] => { results := [.lit (.bool true)], args := [d] }
  | _ => none }
def fnExactCycleOfRow : OpenClaim := { program := "ytnhegojnbdcpdaa", sum := "21489e46a6463372960824d8441801ab963b2b0b16b6e0c62b204b2f5580e33c", func := "loop.example/g01126/laws.FnExactCycleOf", spec := "fnExactCycleOf", apart := false }
def FnExactCycleOfSaid : Prop := fnExactCycleOfRow.holds Try.pinned (OpenSpec.ofChange fnExactCycleOfSpec)

/-- ITS FALSE NEIGHBOUR: 'it returns false'. Refute it at one input. -/
def fnExactCycleOfWrong : ChangeSpec := { name := "fnExactCycleOf", fn := fun _ => fun
  | [d] => { results := [.lit (.bool false)], args := [d] }
  | _ => none }
def FnExactCycleOfWrongFalsely : Prop := fnExactCycleOfRow.holds Try.pinned (OpenSpec.ofChange fnExactCycleOfWrong)

/- THE SECOND FORM. 'bulk': how many values and letters a reading holds, each counted each time it is reached (what is shared counts as often as it is met; a slice's spare places count too). A statement '..UptoSaid' is the law's where the arguments, and the package variables that the reading takes, are together of bulk at most 1048576: NARROWER than '..Said'. Prove '..Said' where nothing that the law and all that it calls make is longer than what came in: it says more and counts as full. Else prove '..UptoSaid'. A law counts once. -/
mutual
def uptoBulk {H : Type} : DataW H → Nat
  | .lit (.string bytes) => bytes.length + 1
  | .lit _ => 1
  | .nil => 1
  | .ptr d => uptoBulk d + 1
  | .slice elems spare => uptoBulkAll elems + uptoBulkAll spare + 1
  | .agg parts => uptoBulkAll parts + 1
  | .iface _ d => uptoBulk d + 1
  | .map entries => uptoBulkEntries entries + 1
  | .held _ => 1
def uptoBulkAll {H : Type} : List (DataW H) → Nat
  | [] => 0
  | d :: r => uptoBulk d + uptoBulkAll r
def uptoBulkEntries {H : Type} : List (Lit × DataW H) → Nat
  | [] => 0
  | x :: r => uptoBulkEntry x + uptoBulkEntries r
def uptoBulkEntry {H : Type} : Lit × DataW H → Nat
  | (.string bytes, d) => bytes.length + uptoBulk d + 1
  | (_, d) => uptoBulk d + 1
 end
def uptoSmall : (H : Type) → List (DataW H) → Bool := fun _ ds => decide (uptoBulkAll ds ≤ 1048576)
def OpenSpec.upto (s : _root_.Go.ChangeSpec) : _root_.Go.OpenSpec := { _root_.Go.OpenSpec.ofChange s with cond := some uptoSmall }

/-- 'laws.FnExactIsSemi', WHERE WHAT IT READS IS OF BULK AT MOST 1048576: true; the input reads as it did. -/
def fnExactIsSemiUptoRow : OpenClaim := { program := "ytnhegojnbdcpdaa", sum := "21489e46a6463372960824d8441801ab963b2b0b16b6e0c62b204b2f5580e33c", func := "loop.example/g01126/laws.FnExactIsSemi", spec := "fnExactIsSemi", apart := false, narrowed := true }
def FnExactIsSemiUptoSaid : Prop := fnExactIsSemiUptoRow.holds Try.pinned (OpenSpec.upto fnExactIsSemiSpec)

/-- 'laws.FnExactFoldingOfSemi', WHERE WHAT IT READS IS OF BULK AT MOST 1048576: true; the input reads as it did. -/
def fnExactFoldingOfSemiUptoRow : OpenClaim := { program := "ytnhegojnbdcpdaa", sum := "21489e46a6463372960824d8441801ab963b2b0b16b6e0c62b204b2f5580e33c", func := "loop.example/g01126/laws.FnExactFoldingOfSemi", spec := "fnExactFoldingOfSemi", apart := false, narrowed := true }
def FnExactFoldingOfSemiUptoSaid : Prop := fnExactFoldingOfSemiUptoRow.holds Try.pinned (OpenSpec.upto fnExactFoldingOfSemiSpec)

/-- 'laws.FnExactPermutationOf', WHERE WHAT IT READS IS OF BULK AT MOST 1048576: true; the input reads as it did. -/
def fnExactPermutationOfUptoRow : OpenClaim := { program := "ytnhegojnbdcpdaa", sum := "21489e46a6463372960824d8441801ab963b2b0b16b6e0c62b204b2f5580e33c", func := "loop.example/g01126/laws.FnExactPermutationOf", spec := "fnExactPermutationOf", apart := false, narrowed := true }
def FnExactPermutationOfUptoSaid : Prop := fnExactPermutationOfUptoRow.holds Try.pinned (OpenSpec.upto fnExactPermutationOfSpec)

/-- 'laws.FnExactClosedToOpen', WHERE WHAT IT READS IS OF BULK AT MOST 1048576: true; the input reads as it did. -/
def fnExactClosedToOpenUptoRow : OpenClaim := { program := "ytnhegojnbdcpdaa", sum := "21489e46a6463372960824d8441801ab963b2b0b16b6e0c62b204b2f5580e33c", func := "loop.example/g01126/laws.FnExactClosedToOpen", spec := "fnExactClosedToOpen", apart := false, narrowed := true }
def FnExactClosedToOpenUptoSaid : Prop := fnExactClosedToOpenUptoRow.holds Try.pinned (OpenSpec.upto fnExactClosedToOpenSpec)

/-- 'laws.FnExactCycleOf', WHERE WHAT IT READS IS OF BULK AT MOST 1048576: true; the input reads as it did. -/
def fnExactCycleOfUptoRow : OpenClaim := { program := "ytnhegojnbdcpdaa", sum := "21489e46a6463372960824d8441801ab963b2b0b16b6e0c62b204b2f5580e33c", func := "loop.example/g01126/laws.FnExactCycleOf", spec := "fnExactCycleOf", apart := false, narrowed := true }
def FnExactCycleOfUptoSaid : Prop := fnExactCycleOfUptoRow.holds Try.pinned (OpenSpec.upto fnExactCycleOfSpec)

end Rows
end Go.Proofs.Ytnhegojnbdcpdaa
