/-
  No cell of these rows narrows 'for every input' (looked for: loops, veiled, ifaces, maps, wideKeys, modest, calm, conditions, laid).
  DERIVED. THE GIVEN ROWS OF THIS SEAT. 12 by the template 'for every input the law returns true; each argument reads behind the call as it read before'; 0 by the template 'total and deterministic' (their statements: YtihceogogkbmkaaTotals.lean).
  GIVEN WITH THE SEED: the statements are not yours to turn. If you find one false, say at which input.
  Laid BY PROGRAM, IN A SANDBOX (cutbox-rows.mjs): the forced cells as the released guide's own fill.sh prints them over the translation c4809f39f443c7bb… (all of the seat's roots in one cut). By AI agents, Wed Nov 11 2026. No macro, syntax, notation, axiom, sorry.
-/
import Derived.Test.YtihceogogkbmkaaChecked
import GoSem.Claim
import GoSem.ClaimJoined
import GoSem.ClaimMapViews
import Derived.JoinedTies
import Derived.KernelRfl
namespace Go.Proofs.Ytihceogogkbmkaa
/- THE CELL 'sum', in the pinned program and in every row, IS THE sha256 OF THE DUMP (.gsa) THAT YtihceogogkbmkaaProg.lean LOADS. Nothing in Lean hashes anything: it is a label: what it is worth is what the hold of that sum in a sandbox is worth. -/
noncomputable def Try.pinned : Pinned := { name := "ytihceogogkbmkaa", sum := "c4809f39f443c7bbec5e5be56a2f6b673f84f93a14693a8ae18edb48d1e0cfdf", checked := Try.checked }
namespace Rows
def none {H : Type} : Left H := { results := [], args := [] }

/-- 'laws.FnExactParseFolding': WHATEVER THE INPUT: true; the input reads as it did. -/
def fnExactParseFoldingSpec : ChangeSpec := { name := "fnExactParseFolding", fn := fun _ => fun
  | [d] => { results := [.lit (.bool true)], args := [d] }
  | _ => none }
def fnExactParseFoldingRow : OpenClaim := { program := "ytihceogogkbmkaa", sum := "c4809f39f443c7bbec5e5be56a2f6b673f84f93a14693a8ae18edb48d1e0cfdf", func := "loop.example/g01126/laws.FnExactParseFolding", spec := "fnExactParseFolding", recurses := true, apart := false }
def FnExactParseFoldingSaid : Prop := fnExactParseFoldingRow.holds Try.pinned (OpenSpec.ofChange fnExactParseFoldingSpec)

/-- ITS FALSE NEIGHBOUR: 'it returns false'. Refute it at one input. -/
def fnExactParseFoldingWrong : ChangeSpec := { name := "fnExactParseFolding", fn := fun _ => fun
  | [d] => { results := [.lit (.bool false)], args := [d] }
  | _ => none }
def FnExactParseFoldingWrongFalsely : Prop := fnExactParseFoldingRow.holds Try.pinned (OpenSpec.ofChange fnExactParseFoldingWrong)

/-- 'laws.FnExactFoldingText': WHATEVER THE INPUT: true; the input reads as it did. -/
def fnExactFoldingTextSpec : ChangeSpec := { name := "fnExactFoldingText", fn := fun _ => fun
  | [d] => { results := [.lit (.bool true)], args := [d] }
  | _ => none }
def fnExactFoldingTextRow : OpenClaim := { program := "ytihceogogkbmkaa", sum := "c4809f39f443c7bbec5e5be56a2f6b673f84f93a14693a8ae18edb48d1e0cfdf", func := "loop.example/g01126/laws.FnExactFoldingText", spec := "fnExactFoldingText", recurses := true, apart := false }
def FnExactFoldingTextSaid : Prop := fnExactFoldingTextRow.holds Try.pinned (OpenSpec.ofChange fnExactFoldingTextSpec)

/-- ITS FALSE NEIGHBOUR: 'it returns false'. Refute it at one input. -/
def fnExactFoldingTextWrong : ChangeSpec := { name := "fnExactFoldingText", fn := fun _ => fun
  | [d] => { results := [.lit (.bool false)], args := [d] }
  | _ => none }
def FnExactFoldingTextWrongFalsely : Prop := fnExactFoldingTextRow.holds Try.pinned (OpenSpec.ofChange fnExactFoldingTextWrong)

/-- 'laws.FnExactRenumberFolding': WHATEVER THE INPUT: true; the input reads as it did. -/
def fnExactRenumberFoldingSpec : ChangeSpec := { name := "fnExactRenumberFolding", fn := fun _ => fun
  | [d] => { results := [.lit (.bool true)], args := [d] }
  | _ => none }
def fnExactRenumberFoldingRow : OpenClaim := { program := "ytihceogogkbmkaa", sum := "c4809f39f443c7bbec5e5be56a2f6b673f84f93a14693a8ae18edb48d1e0cfdf", func := "loop.example/g01126/laws.FnExactRenumberFolding", spec := "fnExactRenumberFolding", recurses := true, apart := false }
def FnExactRenumberFoldingSaid : Prop := fnExactRenumberFoldingRow.holds Try.pinned (OpenSpec.ofChange fnExactRenumberFoldingSpec)

/-- ITS FALSE NEIGHBOUR: 'it returns false'. Refute it at one input. -/
def fnExactRenumberFoldingWrong : ChangeSpec := { name := "fnExactRenumberFolding", fn := fun _ => fun
  | [d] => { results := [.lit (.bool false)], args := [d] }
  | _ => none }
def FnExactRenumberFoldingWrongFalsely : Prop := fnExactRenumberFoldingRow.holds Try.pinned (OpenSpec.ofChange fnExactRenumberFoldingWrong)

/-- 'laws.FnExactReverseFolding': WHATEVER THE INPUT: true; the input reads as it did. -/
def fnExactReverseFoldingSpec : ChangeSpec := { name := "fnExactReverseFolding", fn := fun _ => fun
  | [d] => { results := [.lit (.bool true)], args := [d] }
  | _ => none }
def fnExactReverseFoldingRow : OpenClaim := { program := "ytihceogogkbmkaa", sum := "c4809f39f443c7bbec5e5be56a2f6b673f84f93a14693a8ae18edb48d1e0cfdf", func := "loop.example/g01126/laws.FnExactReverseFolding", spec := "fnExactReverseFolding", recurses := true, apart := false }
def FnExactReverseFoldingSaid : Prop := fnExactReverseFoldingRow.holds Try.pinned (OpenSpec.ofChange fnExactReverseFoldingSpec)

/-- ITS FALSE NEIGHBOUR: 'it returns false'. Refute it at one input. -/
def fnExactReverseFoldingWrong : ChangeSpec := { name := "fnExactReverseFolding", fn := fun _ => fun
  | [d] => { results := [.lit (.bool false)], args := [d] }
  | _ => none }
def FnExactReverseFoldingWrongFalsely : Prop := fnExactReverseFoldingRow.holds Try.pinned (OpenSpec.ofChange fnExactReverseFoldingWrong)

/-- 'laws.FnExactTurnFolding': WHATEVER THE INPUT: true; the input reads as it did. -/
def fnExactTurnFoldingSpec : ChangeSpec := { name := "fnExactTurnFolding", fn := fun _ => fun
  | [d1, d2] => { results := [.lit (.bool true)], args := [d1, d2] }
  | _ => none }
def fnExactTurnFoldingRow : OpenClaim := { program := "ytihceogogkbmkaa", sum := "c4809f39f443c7bbec5e5be56a2f6b673f84f93a14693a8ae18edb48d1e0cfdf", func := "loop.example/g01126/laws.FnExactTurnFolding", spec := "fnExactTurnFolding", recurses := true, apart := false }
def FnExactTurnFoldingSaid : Prop := fnExactTurnFoldingRow.holds Try.pinned (OpenSpec.ofChange fnExactTurnFoldingSpec)

/-- ITS FALSE NEIGHBOUR: 'it returns false'. Refute it at one input. -/
def fnExactTurnFoldingWrong : ChangeSpec := { name := "fnExactTurnFolding", fn := fun _ => fun
  | [d1, d2] => { results := [.lit (.bool false)], args := [d1, d2] }
  | _ => none }
def FnExactTurnFoldingWrongFalsely : Prop := fnExactTurnFoldingRow.holds Try.pinned (OpenSpec.ofChange fnExactTurnFoldingWrong)

/-- 'laws.FnExactIsFolding': WHATEVER THE INPUT: true; the input reads as it did. -/
def fnExactIsFoldingSpec : ChangeSpec := { name := "fnExactIsFolding", fn := fun _ => fun
  | [d] => { results := [.lit (.bool true)], args := [d] }
  | _ => none }
def fnExactIsFoldingRow : OpenClaim := { program := "ytihceogogkbmkaa", sum := "c4809f39f443c7bbec5e5be56a2f6b673f84f93a14693a8ae18edb48d1e0cfdf", func := "loop.example/g01126/laws.FnExactIsFolding", spec := "fnExactIsFolding", unfollowed := true, recurses := true, apart := false }
def FnExactIsFoldingSaid : Prop := fnExactIsFoldingRow.holds Try.pinned (OpenSpec.ofChange fnExactIsFoldingSpec)

/-- ITS FALSE NEIGHBOUR: 'it returns false'. Refute it at one input. -/
def fnExactIsFoldingWrong : ChangeSpec := { name := "fnExactIsFolding", fn := fun _ => fun
  | [d] => { results := [.lit (.bool false)], args := [d] }
  | _ => none }
def FnExactIsFoldingWrongFalsely : Prop := fnExactIsFoldingRow.holds Try.pinned (OpenSpec.ofChange fnExactIsFoldingWrong)

/-- 'laws.FnExactCrossedArcs': WHATEVER THE INPUT: true; the input reads as it did. -/
def fnExactCrossedArcsSpec : ChangeSpec := { name := "fnExactCrossedArcs", fn := fun _ => fun
  | [d] => { results := [.lit (.bool true)], args := [d] }
  | _ => none }
def fnExactCrossedArcsRow : OpenClaim := { program := "ytihceogogkbmkaa", sum := "c4809f39f443c7bbec5e5be56a2f6b673f84f93a14693a8ae18edb48d1e0cfdf", func := "loop.example/g01126/laws.FnExactCrossedArcs", spec := "fnExactCrossedArcs", unfollowed := true, recurses := true, apart := false }
def FnExactCrossedArcsSaid : Prop := fnExactCrossedArcsRow.holds Try.pinned (OpenSpec.ofChange fnExactCrossedArcsSpec)

/-- ITS FALSE NEIGHBOUR: 'it returns false'. Refute it at one input. -/
def fnExactCrossedArcsWrong : ChangeSpec := { name := "fnExactCrossedArcs", fn := fun _ => fun
  | [d] => { results := [.lit (.bool false)], args := [d] }
  | _ => none }
def FnExactCrossedArcsWrongFalsely : Prop := fnExactCrossedArcsRow.holds Try.pinned (OpenSpec.ofChange fnExactCrossedArcsWrong)

/-- 'laws.FnExactCountFoldings': WHATEVER THE INPUT: true; the input reads as it did. -/
def fnExactCountFoldingsSpec : ChangeSpec := { name := "fnExactCountFoldings", fn := fun _ => fun
  | [d] => { results := [.lit (.bool true)], args := [d] }
  | _ => none }
def fnExactCountFoldingsRow : OpenClaim := { program := "ytihceogogkbmkaa", sum := "c4809f39f443c7bbec5e5be56a2f6b673f84f93a14693a8ae18edb48d1e0cfdf", func := "loop.example/g01126/laws.FnExactCountFoldings", spec := "fnExactCountFoldings", inPlace := ["slices.overlaps[int]"], unfollowed := true, recurses := true, apart := false }
def FnExactCountFoldingsSaid : Prop := fnExactCountFoldingsRow.holds Try.pinned (OpenSpec.ofChange fnExactCountFoldingsSpec)

/-- ITS FALSE NEIGHBOUR: 'it returns false'. Refute it at one input. -/
def fnExactCountFoldingsWrong : ChangeSpec := { name := "fnExactCountFoldings", fn := fun _ => fun
  | [d] => { results := [.lit (.bool false)], args := [d] }
  | _ => none }
def FnExactCountFoldingsWrongFalsely : Prop := fnExactCountFoldingsRow.holds Try.pinned (OpenSpec.ofChange fnExactCountFoldingsWrong)

/-- 'laws.FnExactCountOnTop': WHATEVER THE INPUT: true; the input reads as it did. -/
def fnExactCountOnTopSpec : ChangeSpec := { name := "fnExactCountOnTop", fn := fun _ => fun
  | [d] => { results := [.lit (.bool true)], args := [d] }
  | _ => none }
def fnExactCountOnTopRow : OpenClaim := { program := "ytihceogogkbmkaa", sum := "c4809f39f443c7bbec5e5be56a2f6b673f84f93a14693a8ae18edb48d1e0cfdf", func := "loop.example/g01126/laws.FnExactCountOnTop", spec := "fnExactCountOnTop", inPlace := ["slices.overlaps[int]"], unfollowed := true, recurses := true, apart := false }
def FnExactCountOnTopSaid : Prop := fnExactCountOnTopRow.holds Try.pinned (OpenSpec.ofChange fnExactCountOnTopSpec)

/-- ITS FALSE NEIGHBOUR: 'it returns false'. Refute it at one input. -/
def fnExactCountOnTopWrong : ChangeSpec := { name := "fnExactCountOnTop", fn := fun _ => fun
  | [d] => { results := [.lit (.bool false)], args := [d] }
  | _ => none }
def FnExactCountOnTopWrongFalsely : Prop := fnExactCountOnTopRow.holds Try.pinned (OpenSpec.ofChange fnExactCountOnTopWrong)

/-- 'laws.FnExactFoldingsOnTop': WHATEVER THE INPUT: true; the input reads as it did. -/
def fnExactFoldingsOnTopSpec : ChangeSpec := { name := "fnExactFoldingsOnTop", fn := fun _ => fun
  | [d] => { results := [.lit (.bool true)], args := [d] }
  | _ => none }
def fnExactFoldingsOnTopRow : OpenClaim := { program := "ytihceogogkbmkaa", sum := "c4809f39f443c7bbec5e5be56a2f6b673f84f93a14693a8ae18edb48d1e0cfdf", func := "loop.example/g01126/laws.FnExactFoldingsOnTop", spec := "fnExactFoldingsOnTop", inPlace := ["slices.overlaps[int]"], unfollowed := true, recurses := true, apart := false }
def FnExactFoldingsOnTopSaid : Prop := fnExactFoldingsOnTopRow.holds Try.pinned (OpenSpec.ofChange fnExactFoldingsOnTopSpec)

/-- ITS FALSE NEIGHBOUR: 'it returns false'. Refute it at one input. -/
def fnExactFoldingsOnTopWrong : ChangeSpec := { name := "fnExactFoldingsOnTop", fn := fun _ => fun
  | [d] => { results := [.lit (.bool false)], args := [d] }
  | _ => none }
def FnExactFoldingsOnTopWrongFalsely : Prop := fnExactFoldingsOnTopRow.holds Try.pinned (OpenSpec.ofChange fnExactFoldingsOnTopWrong)

/-- 'laws.FnExactAllFoldings': WHATEVER THE INPUT: true; the input reads as it did. -/
def fnExactAllFoldingsSpec : ChangeSpec := { name := "fnExactAllFoldings", fn := fun _ => fun
  | [d] => { results := [.lit (.bool true)], args := [d] }
  | _ => none }
def fnExactAllFoldingsRow : OpenClaim := { program := "ytihceogogkbmkaa", sum := "c4809f39f443c7bbec5e5be56a2f6b673f84f93a14693a8ae18edb48d1e0cfdf", func := "loop.example/g01126/laws.FnExactAllFoldings", spec := "fnExactAllFoldings", inPlace := ["slices.overlaps[int]"], unfollowed := true, recurses := true, apart := false }
def FnExactAllFoldingsSaid : Prop := fnExactAllFoldingsRow.holds Try.pinned (OpenSpec.ofChange fnExactAllFoldingsSpec)

/-- ITS FALSE NEIGHBOUR: 'it returns false'. Refute it at one input. -/
def fnExactAllFoldingsWrong : ChangeSpec := { name := "fnExactAllFoldings", fn := fun _ => fun
  | [d] => { results := [.lit (.bool false)], args := [d] }
  | _ => none }
def FnExactAllFoldingsWrongFalsely : Prop := fnExactAllFoldingsRow.holds Try.pinned (OpenSpec.ofChange fnExactAllFoldingsWrong)

/-- 'laws.FnExactAddStamp': WHATEVER THE INPUT: true; the input reads as it did. -/
def fnExactAddStampSpec : ChangeSpec := { name := "fnExactAddStamp", fn := fun _ => fun
  | [d] => { results := [.lit (.bool true)], args := [d] }
  | _ => none }
def fnExactAddStampRow : OpenClaim := { program := "ytihceogogkbmkaa", sum := "c4809f39f443c7bbec5e5be56a2f6b673f84f93a14693a8ae18edb48d1e0cfdf", func := "loop.example/g01126/laws.FnExactAddStamp", spec := "fnExactAddStamp", inPlace := ["slices.overlaps[int]"], unfollowed := true, recurses := true, apart := false }
def FnExactAddStampSaid : Prop := fnExactAddStampRow.holds Try.pinned (OpenSpec.ofChange fnExactAddStampSpec)

/-- ITS FALSE NEIGHBOUR: 'it returns false'. Refute it at one input. -/
def fnExactAddStampWrong : ChangeSpec := { name := "fnExactAddStamp", fn := fun _ => fun
  | [d] => { results := [.lit (.bool false)], args := [d] }
  | _ => none }
def FnExactAddStampWrongFalsely : Prop := fnExactAddStampRow.holds Try.pinned (OpenSpec.ofChange fnExactAddStampWrong)

/- THE SECOND FORM. 'bulk': how many values and letters a reading holds, each counted each time it is reached (what is shared counts as often as it is met; a slice's spare places count too). A statement '..UptoSaid' is the law's where the arguments, and the package variables that the reading takes, are together of bulk at most 1048576: NARROWER than '..Said'. Prove '..Said' where nothing that the law and all that it calls make is longer than what came in: it says more and counts as full. Else prove '..UptoSaid'. A law counts once. -/
mutual
def uptoBulk {H : Type} : DataW H → Nat
  | .lit (.string bytes) => bytes.length + 1
  | .lit _ => 1
  | .nil => 1
  | .ptr d => uptoBulk d + 1
  | .slice elems spare => uptoBulkAll elems + uptoBulkAll spare + 1
  | .agg parts => uptoBulkAll parts + 1
  | .iface _ d => uptoBulk d + 1
  | .map entries => uptoBulkEntries entries + 1
  | .held _ => 1
def uptoBulkAll {H : Type} : List (DataW H) → Nat
  | [] => 0
  | d :: r => uptoBulk d + uptoBulkAll r
def uptoBulkEntries {H : Type} : List (Lit × DataW H) → Nat
  | [] => 0
  | x :: r => uptoBulkEntry x + uptoBulkEntries r
def uptoBulkEntry {H : Type} : Lit × DataW H → Nat
  | (.string bytes, d) => bytes.length + uptoBulk d + 1
  | (_, d) => uptoBulk d + 1
 end
def uptoSmall : (H : Type) → List (DataW H) → Bool := fun _ ds => decide (uptoBulkAll ds ≤ 1048576)
def OpenSpec.upto (s : _root_.Go.ChangeSpec) : _root_.Go.OpenSpec := { _root_.Go.OpenSpec.ofChange s with cond := some uptoSmall }

/-- 'laws.FnExactParseFolding', WHERE WHAT IT READS IS OF BULK AT MOST 1048576: true; the input reads as it did. -/
def fnExactParseFoldingUptoRow : OpenClaim := { program := "ytihceogogkbmkaa", sum := "c4809f39f443c7bbec5e5be56a2f6b673f84f93a14693a8ae18edb48d1e0cfdf", func := "loop.example/g01126/laws.FnExactParseFolding", spec := "fnExactParseFolding", recurses := true, apart := false, narrowed := true }
def FnExactParseFoldingUptoSaid : Prop := fnExactParseFoldingUptoRow.holds Try.pinned (OpenSpec.upto fnExactParseFoldingSpec)

/-- 'laws.FnExactFoldingText', WHERE WHAT IT READS IS OF BULK AT MOST 1048576: true; the input reads as it did. -/
def fnExactFoldingTextUptoRow : OpenClaim := { program := "ytihceogogkbmkaa", sum := "c4809f39f443c7bbec5e5be56a2f6b673f84f93a14693a8ae18edb48d1e0cfdf", func := "loop.example/g01126/laws.FnExactFoldingText", spec := "fnExactFoldingText", recurses := true, apart := false, narrowed := true }
def FnExactFoldingTextUptoSaid : Prop := fnExactFoldingTextUptoRow.holds Try.pinned (OpenSpec.upto fnExactFoldingTextSpec)

/-- 'laws.FnExactRenumberFolding', WHERE WHAT IT READS IS OF BULK AT MOST 1048576: true; the input reads as it did. -/
def fnExactRenumberFoldingUptoRow : OpenClaim := { program := "ytihceogogkbmkaa", sum := "c4809f39f443c7bbec5e5be56a2f6b673f84f93a14693a8ae18edb48d1e0cfdf", func := "loop.example/g01126/laws.FnExactRenumberFolding", spec := "fnExactRenumberFolding", recurses := true, apart := false, narrowed := true }
def FnExactRenumberFoldingUptoSaid : Prop := fnExactRenumberFoldingUptoRow.holds Try.pinned (OpenSpec.upto fnExactRenumberFoldingSpec)

/-- 'laws.FnExactReverseFolding', WHERE WHAT IT READS IS OF BULK AT MOST 1048576: true; the input reads as it did. -/
def fnExactReverseFoldingUptoRow : OpenClaim := { program := "ytihceogogkbmkaa", sum := "c4809f39f443c7bbec5e5be56a2f6b673f84f93a14693a8ae18edb48d1e0cfdf", func := "loop.example/g01126/laws.FnExactReverseFolding", spec := "fnExactReverseFolding", recurses := true, apart := false, narrowed := true }
def FnExactReverseFoldingUptoSaid : Prop := fnExactReverseFoldingUptoRow.holds Try.pinned (OpenSpec.upto fnExactReverseFoldingSpec)

/-- 'laws.FnExactTurnFolding', WHERE WHAT IT READS IS OF BULK AT MOST 1048576: true; the input reads as it did. -/
def fnExactTurnFoldingUptoRow : OpenClaim := { program := "ytihceogogkbmkaa", sum := "c4809f39f443c7bbec5e5be56a2f6b673f84f93a14693a8ae18edb48d1e0cfdf", func := "loop.example/g01126/laws.FnExactTurnFolding", spec := "fnExactTurnFolding", recurses := true, apart := false, narrowed := true }
def FnExactTurnFoldingUptoSaid : Prop := fnExactTurnFoldingUptoRow.holds Try.pinned (OpenSpec.upto fnExactTurnFoldingSpec)

/-- 'laws.FnExactIsFolding', WHERE WHAT IT READS IS OF BULK AT MOST 1048576: true; the input reads as it did. -/
def fnExactIsFoldingUptoRow : OpenClaim := { program := "ytihceogogkbmkaa", sum := "c4809f39f443c7bbec5e5be56a2f6b673f84f93a14693a8ae18edb48d1e0cfdf", func := "loop.example/g01126/laws.FnExactIsFolding", spec := "fnExactIsFolding", unfollowed := true, recurses := true, apart := false, narrowed := true }
def FnExactIsFoldingUptoSaid : Prop := fnExactIsFoldingUptoRow.holds Try.pinned (OpenSpec.upto fnExactIsFoldingSpec)

/-- 'laws.FnExactCrossedArcs', WHERE WHAT IT READS IS OF BULK AT MOST 1048576: true; the input reads as it did. -/
def fnExactCrossedArcsUptoRow : OpenClaim := { program := "ytihceogogkbmkaa", sum := "c4809f39f443c7bbec5e5be56a2f6b673f84f93a14693a8ae18edb48d1e0cfdf", func := "loop.example/g01126/laws.FnExactCrossedArcs", spec := "fnExactCrossedArcs", unfollowed := true, recurses := true, apart := false, narrowed := true }
def FnExactCrossedArcsUptoSaid : Prop := fnExactCrossedArcsUptoRow.holds Try.pinned (OpenSpec.upto fnExactCrossedArcsSpec)

/-- 'laws.FnExactCountFoldings', WHERE WHAT IT READS IS OF BULK AT MOST 1048576: true; the input reads as it did. -/
def fnExactCountFoldingsUptoRow : OpenClaim := { program := "ytihceogogkbmkaa", sum := "c4809f39f443c7bbec5e5be56a2f6b673f84f93a14693a8ae18edb48d1e0cfdf", func := "loop.example/g01126/laws.FnExactCountFoldings", spec := "fnExactCountFoldings", inPlace := ["slices.overlaps[int]"], unfollowed := true, recurses := true, apart := false, narrowed := true }
def FnExactCountFoldingsUptoSaid : Prop := fnExactCountFoldingsUptoRow.holds Try.pinned (OpenSpec.upto fnExactCountFoldingsSpec)

/-- 'laws.FnExactCountOnTop', WHERE WHAT IT READS IS OF BULK AT MOST 1048576: true; the input reads as it did. -/
def fnExactCountOnTopUptoRow : OpenClaim := { program := "ytihceogogkbmkaa", sum := "c4809f39f443c7bbec5e5be56a2f6b673f84f93a14693a8ae18edb48d1e0cfdf", func := "loop.example/g01126/laws.FnExactCountOnTop", spec := "fnExactCountOnTop", inPlace := ["slices.overlaps[int]"], unfollowed := true, recurses := true, apart := false, narrowed := true }
def FnExactCountOnTopUptoSaid : Prop := fnExactCountOnTopUptoRow.holds Try.pinned (OpenSpec.upto fnExactCountOnTopSpec)

/-- 'laws.FnExactFoldingsOnTop', WHERE WHAT IT READS IS OF BULK AT MOST 1048576: true; the input reads as it did. -/
def fnExactFoldingsOnTopUptoRow : OpenClaim := { program := "ytihceogogkbmkaa", sum := "c4809f39f443c7bbec5e5be56a2f6b673f84f93a14693a8ae18edb48d1e0cfdf", func := "loop.example/g01126/laws.FnExactFoldingsOnTop", spec := "fnExactFoldingsOnTop", inPlace := ["slices.overlaps[int]"], unfollowed := true, recurses := true, apart := false, narrowed := true }
def FnExactFoldingsOnTopUptoSaid : Prop := fnExactFoldingsOnTopUptoRow.holds Try.pinned (OpenSpec.upto fnExactFoldingsOnTopSpec)

/-- 'laws.FnExactAllFoldings', WHERE WHAT IT READS IS OF BULK AT MOST 1048576: true; the input reads as it did. -/
def fnExactAllFoldingsUptoRow : OpenClaim := { program := "ytihceogogkbmkaa", sum := "c4809f39f443c7bbec5e5be56a2f6b673f84f93a14693a8ae18edb48d1e0cfdf", func := "loop.example/g01126/laws.FnExactAllFoldings", spec := "fnExactAllFoldings", inPlace := ["slices.overlaps[int]"], unfollowed := true, recurses := true, apart := false, narrowed := true }
def FnExactAllFoldingsUptoSaid : Prop := fnExactAllFoldingsUptoRow.holds Try.pinned (OpenSpec.upto fnExactAllFoldingsSpec)

/-- 'laws.FnExactAddStamp', WHERE WHAT IT READS IS OF BULK AT MOST 1048576: true; the input reads as it did. -/
def fnExactAddStampUptoRow : OpenClaim := { program := "ytihceogogkbmkaa", sum := "c4809f39f443c7bbec5e5be56a2f6b673f84f93a14693a8ae18edb48d1e0cfdf", func := "loop.example/g01126/laws.FnExactAddStamp", spec := "fnExactAddStamp", inPlace := ["slices.overlaps[int]"], unfollowed := true, recurses := true, apart := false, narrowed := true }
def FnExactAddStampUptoSaid : Prop := fnExactAddStampUptoRow.holds Try.pinned (OpenSpec.upto fnExactAddStampSpec)

end Rows
end Go.Proofs.Ytihceogogkbmkaa
