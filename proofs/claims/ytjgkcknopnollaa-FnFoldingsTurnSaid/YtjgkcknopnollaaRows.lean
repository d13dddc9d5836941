/-
  No cell of these rows narrows 'for every input' (looked for: loops, veiled, ifaces, maps, wideKeys, modest, calm, conditions, laid).
  DERIVED. THE GIVEN ROWS OF THIS SEAT. 8 by the template 'for every input the law returns true; each argument reads behind the call as it read before'; 0 by the template 'total and deterministic' (their statements: YtjgkcknopnollaaTotals.lean).
  GIVEN WITH THE SEED: the statements are not yours to turn. If you find one false, say at which input.
  Laid BY PROGRAM, IN A SANDBOX (cutbox-rows.mjs): the forced cells as the released guide's own fill.sh prints them over the translation e60ff06d9a531813… (all of the seat's roots in one cut). By AI agents, Wed Nov 11 2026. No macro, syntax, notation, axiom, sorry.
-/
import Derived.Test.YtjgkcknopnollaaChecked
import GoSem.Claim
import GoSem.ClaimJoined
import GoSem.ClaimMapViews
import Derived.JoinedTies
import Derived.KernelRfl
namespace Go.Proofs.Ytjgkcknopnollaa
/- THE CELL 'sum', in the pinned program and in every row, IS THE sha256 OF THE DUMP (.gsa) THAT YtjgkcknopnollaaProg.lean LOADS. Nothing in Lean hashes anything: it is a label: what it is worth is what the hold of that sum in a sandbox is worth. -/
noncomputable def Try.pinned : Pinned := { name := "ytjgkcknopnollaa", sum := "e60ff06d9a5318132e7e40eebe657d47771ccaade19ba561c4ba5bf9826e8edb", checked := Try.checked }
namespace Rows
def none {H : Type} : Left H := { results := [], args := [] }

/-- 'laws.FnExactCountFoldings': WHATEVER THE INPUT: true; the input reads as it did. -/
def fnExactCountFoldingsSpec : ChangeSpec := { name := "fnExactCountFoldings", fn := fun _ => fun
  | [d] => { results := [.lit (.bool true)], args := [d] }
  | _ => none }
def fnExactCountFoldingsRow : OpenClaim := { program := "ytjgkcknopnollaa", sum := "e60ff06d9a5318132e7e40eebe657d47771ccaade19ba561c4ba5bf9826e8edb", func := "loop.example/g01126/laws.FnExactCountFoldings", spec := "fnExactCountFoldings", inPlace := ["slices.overlaps[int]"], unfollowed := true, recurses := true, apart := false }
def FnExactCountFoldingsSaid : Prop := fnExactCountFoldingsRow.holds Try.pinned (OpenSpec.ofChange fnExactCountFoldingsSpec)

/-- ITS FALSE NEIGHBOUR: 'it returns false'. Refute it at one input. -/
def fnExactCountFoldingsWrong : ChangeSpec := { name := "fnExactCountFoldings", fn := fun _ => fun
  | [d] => { results := [.lit (.bool false)], args := [d] }
  | _ => none }
def FnExactCountFoldingsWrongFalsely : Prop := fnExactCountFoldingsRow.holds Try.pinned (OpenSpec.ofChange fnExactCountFoldingsWrong)

/-- 'laws.FnExactCountOnTop': WHATEVER THE INPUT: true; the input reads as it did. -/
def fnExactCountOnTopSpec : ChangeSpec := { name := "fnExactCountOnTop", fn := fun _ => fun
  | [d] => { results := [.lit (.bool true)], args := [d] }
  | _ => none }
def fnExactCountOnTopRow : OpenClaim := { program := "ytjgkcknopnollaa", sum := "e60ff06d9a5318132e7e40eebe657d47771ccaade19ba561c4ba5bf9826e8edb", func := "loop.example/g01126/laws.FnExactCountOnTop", spec := "fnExactCountOnTop", inPlace := ["slices.overlaps[int]"], unfollowed := true, recurses := true, apart := false }
def FnExactCountOnTopSaid : Prop := fnExactCountOnTopRow.holds Try.pinned (OpenSpec.ofChange fnExactCountOnTopSpec)

/-- ITS FALSE NEIGHBOUR: 'it returns false'. Refute it at one input. -/
def fnExactCountOnTopWrong : ChangeSpec := { name := "fnExactCountOnTop", fn := fun _ => fun
  | [d] => { results := [.lit (.bool false)], args := [d] }
  | _ => none }
def FnExactCountOnTopWrongFalsely : Prop := fnExactCountOnTopRow.holds Try.pinned (OpenSpec.ofChange fnExactCountOnTopWrong)

/-- 'laws.FnExactFoldingsOnTop': WHATEVER THE INPUT: true; the input reads as it did. -/
def fnExactFoldingsOnTopSpec : ChangeSpec := { name := "fnExactFoldingsOnTop", fn := fun _ => fun
  | [d] => { results := [.lit (.bool true)], args := [d] }
  | _ => none }
def fnExactFoldingsOnTopRow : OpenClaim := { program := "ytjgkcknopnollaa", sum := "e60ff06d9a5318132e7e40eebe657d47771ccaade19ba561c4ba5bf9826e8edb", func := "loop.example/g01126/laws.FnExactFoldingsOnTop", spec := "fnExactFoldingsOnTop", inPlace := ["slices.overlaps[int]"], unfollowed := true, recurses := true, apart := false }
def FnExactFoldingsOnTopSaid : Prop := fnExactFoldingsOnTopRow.holds Try.pinned (OpenSpec.ofChange fnExactFoldingsOnTopSpec)

/-- ITS FALSE NEIGHBOUR: 'it returns false'. Refute it at one input. -/
def fnExactFoldingsOnTopWrong : ChangeSpec := { name := "fnExactFoldingsOnTop", fn := fun _ => fun
  | [d] => { results := [.lit (.bool false)], args := [d] }
  | _ => none }
def FnExactFoldingsOnTopWrongFalsely : Prop := fnExactFoldingsOnTopRow.holds Try.pinned (OpenSpec.ofChange fnExactFoldingsOnTopWrong)

/-- 'laws.FnExactAllFoldings': WHATEVER THE INPUT: true; the input reads as it did. -/
def fnExactAllFoldingsSpec : ChangeSpec := { name := "fnExactAllFoldings", fn := fun _ => fun
  | [d] => { results := [.lit (.bool true)], args := [d] }
  | _ => none }
def fnExactAllFoldingsRow : OpenClaim := { program := "ytjgkcknopnollaa", sum := "e60ff06d9a5318132e7e40eebe657d47771ccaade19ba561c4ba5bf9826e8edb", func := "loop.example/g01126/laws.FnExactAllFoldings", spec := "fnExactAllFoldings", inPlace := ["slices.overlaps[int]"], unfollowed := true, recurses := true, apart := false }
def FnExactAllFoldingsSaid : Prop := fnExactAllFoldingsRow.holds Try.pinned (OpenSpec.ofChange fnExactAllFoldingsSpec)

/-- ITS FALSE NEIGHBOUR: 'it returns false'. Refute it at one input. -/
def fnExactAllFoldingsWrong : ChangeSpec := { name := "fnExactAllFoldings", fn := fun _ => fun
  | [d] => { results := [.lit (.bool false)], args := [d] }
  | _ => none }
def FnExactAllFoldingsWrongFalsely : Prop := fnExactAllFoldingsRow.holds Try.pinned (OpenSpec.ofChange fnExactAllFoldingsWrong)

/-- 'laws.FnExactAddStamp': WHATEVER THE INPUT: true; the input reads as it did. -/
def fnExactAddStampSpec : ChangeSpec := { name := "fnExactAddStamp", fn := fun _ => fun
  | [d] => { results := [.lit (.bool true)], args := [d] }
  | _ => none }
def fnExactAddStampRow : OpenClaim := { program := "ytjgkcknopnollaa", sum := "e60ff06d9a5318132e7e40eebe657d47771ccaade19ba561c4ba5bf9826e8edb", func := "loop.example/g01126/laws.FnExactAddStamp", spec := "fnExactAddStamp", inPlace := ["slices.overlaps[int]"], unfollowed := true, recurses := true, apart := false }
def FnExactAddStampSaid : Prop := fnExactAddStampRow.holds Try.pinned (OpenSpec.ofChange fnExactAddStampSpec)

/-- ITS FALSE NEIGHBOUR: 'it returns false'. Refute it at one input. -/
def fnExactAddStampWrong : ChangeSpec := { name := "fnExactAddStamp", fn := fun _ => fun
  | [d] => { results := [.lit (.bool false)], args := [d] }
  | _ => none }
def FnExactAddStampWrongFalsely : Prop := fnExactAddStampRow.holds Try.pinned (OpenSpec.ofChange fnExactAddStampWrong)

/-- 'laws.FnExactSemiOfFolding': WHATEVER THE INPUT: true; the input reads as it did. -/
def fnExactSemiOfFoldingSpec : ChangeSpec := { name := "fnExactSemiOfFolding", fn := fun _ => fun
  | [d] => { results := [.lit (.bool true)], args := [d] }
  | _ => none }
def fnExactSemiOfFoldingRow : OpenClaim := { program := "ytjgkcknopnollaa", sum := "e60ff06d9a5318132e7e40eebe657d47771ccaade19ba561c4ba5bf9826e8edb", func := "loop.example/g01126/laws.FnExactSemiOfFolding", spec := "fnExactSemiOfFolding", unfollowed := true, recurses := true, apart := false }
def FnExactSemiOfFoldingSaid : Prop := fnExactSemiOfFoldingRow.holds Try.pinned (OpenSpec.ofChange fnExactSemiOfFoldingSpec)

/-- ITS FALSE NEIGHBOUR: 'it returns false'. Refute it at one input. -/
def fnExactSemiOfFoldingWrong : ChangeSpec := { name := "fnExactSemiOfFolding", fn := fun _ => fun
  | [d] => { results := [.lit (.bool false)], args := [d] }
  | _ => none }
def FnExactSemiOfFoldingWrongFalsely : Prop := fnExactSemiOfFoldingRow.holds Try.pinned (OpenSpec.ofChange fnExactSemiOfFoldingWrong)

/-- 'laws.FnExactAllSemis': WHATEVER THE INPUT: true; the input reads as it did. -/
def fnExactAllSemisSpec : ChangeSpec := { name := "fnExactAllSemis", fn := fun _ => fun
  | [d] => { results := [.lit (.bool true)], args := [d] }
  | _ => none }
def fnExactAllSemisRow : OpenClaim := { program := "ytjgkcknopnollaa", sum := "e60ff06d9a5318132e7e40eebe657d47771ccaade19ba561c4ba5bf9826e8edb", func := "loop.example/g01126/laws.FnExactAllSemis", spec := "fnExactAllSemis", unfollowed := true, recurses := true, apart := false }
def FnExactAllSemisSaid : Prop := fnExactAllSemisRow.holds Try.pinned (OpenSpec.ofChange fnExactAllSemisSpec)

/-- ITS FALSE NEIGHBOUR: 'it returns false'. Refute it at one input. -/
def fnExactAllSemisWrong : ChangeSpec := { name := "fnExactAllSemis", fn := fun _ => fun
  | [d] => { results := [.lit (.bool false)], args := [d] }
  | _ => none }
def FnExactAllSemisWrongFalsely : Prop := fnExactAllSemisRow.holds Try.pinned (OpenSpec.ofChange fnExactAllSemisWrong)

/-- 'laws.FnFoldingsTurn': WHATEVER THE INPUT: true; the input reads as it did. -/
def fnFoldingsTurnSpec : ChangeSpec := { name := "fnFoldingsTurn", fn := fun _ => fun
  | [d1, d2] => { results := [.lit (.bool true)], args := [d1, d2] }
  | _ => none }
def fnFoldingsTurnRow : OpenClaim := { program := "ytjgkcknopnollaa", sum := "e60ff06d9a5318132e7e40eebe657d47771ccaade19ba561c4ba5bf9826e8edb", func := "loop.example/g01126/laws.FnFoldingsTurn", spec := "fnFoldingsTurn", inPlace := ["slices.overlaps[int]"], unfollowed := true, recurses := true, apart := false }
def FnFoldingsTurnSaid : Prop := fnFoldingsTurnRow.holds Try.pinned (OpenSpec.ofChange fnFoldingsTurnSpec)

/-- ITS FALSE NEIGHBOUR: 'it returns false'. Refute it at one input. -/
def fnFoldingsTurnWrong : ChangeSpec := { name := "fnFoldingsTurn", fn := fun _ => fun
  | [d1, d2] => { results := [.lit (.bool false)], args := [d1, d2] }
  | _ => none }
def FnFoldingsTurnWrongFalsely : Prop := fnFoldingsTurnRow.holds Try.pinned (OpenSpec.ofChange fnFoldingsTurnWrong)

/- THE SECOND FORM. 'bulk': how many values and letters a reading holds, each counted each time it is reached (what is shared counts as often as it is met; a slice's spare places count too). A statement '..UptoSaid' is the law's where the arguments, and the package variables that the reading takes, are together of bulk at most 1048576: NARROWER than '..Said'. Prove '..Said' where nothing that the law and all that it calls make is longer than what came in: it says more and counts as full. Else prove '..UptoSaid'. A law counts once. -/
mutual
def uptoBulk {H : Type} : DataW H → Nat
  | .lit (.string bytes) => bytes.length + 1
  | .lit _ => 1
  | .nil => 1
  | .ptr d => uptoBulk d + 1
  | .slice elems spare => uptoBulkAll elems + uptoBulkAll spare + 1
  | .agg parts => uptoBulkAll parts + 1
  | .iface _ d => uptoBulk d + 1
  | .map entries => uptoBulkEntries entries + 1
  | .held _ => 1
def uptoBulkAll {H : Type} : List (DataW H) → Nat
  | [] => 0
  | d :: r => uptoBulk d + uptoBulkAll r
def uptoBulkEntries {H : Type} : List (Lit × DataW H) → Nat
  | [] => 0
  | x :: r => uptoBulkEntry x + uptoBulkEntries r
def uptoBulkEntry {H : Type} : Lit × DataW H → Nat
  | (.string bytes, d) => bytes.length + uptoBulk d + 1
  | (_, d) => uptoBulk d + 1
 end
def uptoSmall : (H : Type) → List (DataW H) → Bool := fun _ ds => decide (uptoBulkAll ds ≤ 1048576)
def OpenSpec.upto (s : _root_.Go.ChangeSpec) : _root_.Go.OpenSpec := { _root_.Go.OpenSpec.ofChange s with cond := some uptoSmall }

/-- 'laws.FnExactCountFoldings', WHERE WHAT IT READS IS OF BULK AT MOST 1048576: true; the input reads as it did. -/
def fnExactCountFoldingsUptoRow : OpenClaim := { program := "ytjgkcknopnollaa", sum := "e60ff06d9a5318132e7e40eebe657d47771ccaade19ba561c4ba5bf9826e8edb", func := "loop.example/g01126/laws.FnExactCountFoldings", spec := "fnExactCountFoldings", inPlace := ["slices.overlaps[int]"], unfollowed := true, recurses := true, apart := false, narrowed := true }
def FnExactCountFoldingsUptoSaid : Prop := fnExactCountFoldingsUptoRow.holds Try.pinned (OpenSpec.upto fnExactCountFoldingsSpec)

/-- 'laws.FnExactCountOnTop', WHERE WHAT IT READS IS OF BULK AT MOST 1048576: true; the input reads as it did. -/
def fnExactCountOnTopUptoRow : OpenClaim := { program := "ytjgkcknopnollaa", sum := "e60ff06d9a5318132e7e40eebe657d47771ccaade19ba561c4ba5bf9826e8edb", func := "loop.example/g01126/laws.FnExactCountOnTop", spec := "fnExactCountOnTop", inPlace := ["slices.overlaps[int]"], unfollowed := true, recurses := true, apart := false, narrowed := true }
def FnExactCountOnTopUptoSaid : Prop := fnExactCountOnTopUptoRow.holds Try.pinned (OpenSpec.upto fnExactCountOnTopSpec)

/-- 'laws.FnExactFoldingsOnTop', WHERE WHAT IT READS IS OF BULK AT MOST 1048576: true; the input reads as it did. -/
def fnExactFoldingsOnTopUptoRow : OpenClaim := { program := "ytjgkcknopnollaa", sum := "e60ff06d9a5318132e7e40eebe657d47771ccaade19ba561c4ba5bf9826e8edb", func := "loop.example/g01126/laws.FnExactFoldingsOnTop", spec := "fnExactFoldingsOnTop", inPlace := ["slices.overlaps[int]"], unfollowed := true, recurses := true, apart := false, narrowed := true }
def FnExactFoldingsOnTopUptoSaid : Prop := fnExactFoldingsOnTopUptoRow.holds Try.pinned (OpenSpec.upto fnExactFoldingsOnTopSpec)

/-- 'laws.FnExactAllFoldings', WHERE WHAT IT READS IS OF BULK AT MOST 1048576: true; the input reads as it did. -/
def fnExactAllFoldingsUptoRow : OpenClaim := { program := "ytjgkcknopnollaa", sum := "e60ff06d9a5318132e7e40eebe657d47771ccaade19ba561c4ba5bf9826e8edb", func := "loop.example/g01126/laws.FnExactAllFoldings", spec := "fnExactAllFoldings", inPlace := ["slices.overlaps[int]"], unfollowed := true, recurses := true, apart := false, narrowed := true }
def FnExactAllFoldingsUptoSaid : Prop := fnExactAllFoldingsUptoRow.holds Try.pinned (OpenSpec.upto fnExactAllFoldingsSpec)

/-- 'laws.FnExactAddStamp', WHERE WHAT IT READS IS OF BULK AT MOST 1048576: true; the input reads as it did. -/
def fnExactAddStampUptoRow : OpenClaim := { program := "ytjgkcknopnollaa", sum := "e60ff06d9a5318132e7e40eebe657d47771ccaade19ba561c4ba5bf9826e8edb", func := "loop.example/g01126/laws.FnExactAddStamp", spec := "fnExactAddStamp", inPlace := ["slices.overlaps[int]"], unfollowed := true, recurses := true, apart := false, narrowed := true }
def FnExactAddStampUptoSaid : Prop := fnExactAddStampUptoRow.holds Try.pinned (OpenSpec.upto fnExactAddStampSpec)

/-- 'laws.FnExactSemiOfFolding', WHERE WHAT IT READS IS OF BULK AT MOST 1048576: true; the input reads as it did. -/
def fnExactSemiOfFoldingUptoRow : OpenClaim := { program := "ytjgkcknopnollaa", sum := "e60ff06d9a5318132e7e40eebe657d47771ccaade19ba561c4ba5bf9826e8edb", func := "loop.example/g01126/laws.FnExactSemiOfFolding", spec := "fnExactSemiOfFolding", unfollowed := true, recurses := true, apart := false, narrowed := true }
def FnExactSemiOfFoldingUptoSaid : Prop := fnExactSemiOfFoldingUptoRow.holds Try.pinned (OpenSpec.upto fnExactSemiOfFoldingSpec)

/-- 'laws.FnExactAllSemis', WHERE WHAT IT READS IS OF BULK AT MOST 1048576: true; the input reads as it did. -/
def fnExactAllSemisUptoRow : OpenClaim := { program := "ytjgkcknopnollaa", sum := "e60ff06d9a5318132e7e40eebe657d47771ccaade19ba561c4ba5bf9826e8edb", func := "loop.example/g01126/laws.FnExactAllSemis", spec := "fnExactAllSemis", unfollowed := true, recurses := true, apart := false, narrowed := true }
def FnExactAllSemisUptoSaid : Prop := fnExactAllSemisUptoRow.holds Try.pinned (OpenSpec.upto fnExactAllSemisSpec)

/-- 'laws.FnFoldingsTurn', WHERE WHAT IT READS IS OF BULK AT MOST 1048576: true; the input reads as it did. -/
def fnFoldingsTurnUptoRow : OpenClaim := { program := "ytjgkcknopnollaa", sum := "e60ff06d9a5318132e7e40eebe657d47771ccaade19ba561c4ba5bf9826e8edb", func := "loop.example/g01126/laws.FnFoldingsTurn", spec := "fnFoldingsTurn", inPlace := ["slices.overlaps[int]"], unfollowed := true, recurses := true, apart := false, narrowed := true }
def FnFoldingsTurnUptoSaid : Prop := fnFoldingsTurnUptoRow.holds Try.pinned (OpenSpec.upto fnFoldingsTurnSpec)

end Rows
end Go.Proofs.Ytjgkcknopnollaa
