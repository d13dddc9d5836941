/-
  No cell of these rows narrows 'for every input' (looked for: loops, veiled, ifaces, maps, wideKeys, modest, calm, conditions, laid).
  DERIVED. THE GIVEN ROWS OF THIS SEAT. 6 by the template 'for every input the law returns true; each argument reads behind the call as it read before'; 0 by the template 'total and deterministic' (their statements: YtmidjgnnepeklaaTotals.lean).
  GIVEN WITH THE SEED: the statements are not yours to turn. If you find one false, say at which input.
  Laid BY PROGRAM, IN A SANDBOX (cutbox-rows.mjs): the forced cells as the released guide's own fill.sh prints them over the translation dd14de105690e8ef… (all of the seat's roots in one cut). By AI agents, Wed Nov 11 2026. No macro, syntax, notation, axiom, sorry.
-/
import Derived.Test.YtmidjgnnepeklaaChecked
import GoSem.Claim
import GoSem.ClaimJoined
import GoSem.ClaimMapViews
import Derived.JoinedTies
import Derived.KernelRfl
namespace Go.Proofs.Ytmidjgnnepeklaa
/- THE CELL 'sum', in the pinned program and in every row, IS THE sha256 OF THE DUMP (.gsa) THAT YtmidjgnnepeklaaProg.lean LOADS. Nothing in Lean hashes anything: it is a label: what it is worth is what the hold of that sum in a sandbox is worth. -/
noncomputable def Try.pinned : Pinned := { name := "ytmidjgnnepeklaa", sum := "dd14de105690e8ef0a7b192210ef49381f326b736ab0b0526d96719bf07604ec", checked := Try.checked }
namespace Rows
def none {H : Type} : Left H := { results := [], args := [] }

/-- 'laws.FnExactValueAt': WHATEVER THE INPUT: true; the input reads as it did. -/
def fnExactValueAtSpec : ChangeSpec := { name := "fnExactValueAt", fn := fun _ => fun
  | [d1, d2] => { results := [.lit (.bool true)], args := [d1, d2] }
  | _ => none }
def fnExactValueAtRow : OpenClaim := { program := "ytmidjgnnepeklaa", sum := "dd14de105690e8ef0a7b192210ef49381f326b736ab0b0526d96719bf07604ec", func := "loop.example/g01126/laws.FnExactValueAt", spec := "fnExactValueAt", apart := false }
def FnExactValueAtSaid : Prop := fnExactValueAtRow.holds Try.pinned (OpenSpec.ofChange fnExactValueAtSpec)

/-- ITS FALSE NEIGHBOUR: 'it returns false'. Refute it at one input. -/
def fnExactValueAtWrong : ChangeSpec := { name := "fnExactValueAt", fn := fun _ => fun
  | [d1, d2] => { results := [.lit (.bool false)], args := [d1, d2] }
  | _ => none }
def FnExactValueAtWrongFalsely : Prop := fnExactValueAtRow.holds Try.pinned (OpenSpec.ofChange fnExactValueAtWrong)

/-- 'laws.FnExactExponentOf': WHATEVER THE INPUT: true; the input reads as it did. -/
def fnExactExponentOfSpec : ChangeSpec := { name := "fnExactExponentOf", fn := fun _ => fun
  | [d1, d2] => { results := [.lit (.bool true)], args := [d1, d2] }
  | _ => none }
def fnExactExponentOfRow : OpenClaim := { program := "ytmidjgnnepeklaa", sum := "dd14de105690e8ef0a7b192210ef49381f326b736ab0b0526d96719bf07604ec", func := "loop.example/g01126/laws.FnExactExponentOf", spec := "fnExactExponentOf", apart := false }
def FnExactExponentOfSaid : Prop := fnExactExponentOfRow.holds Try.pinned (OpenSpec.ofChange fnExactExponentOfSpec)

/-- ITS FALSE NEIGHBOUR: 'it returns false'. Refute it at one input. -/
def fnExactExponentOfWrong : ChangeSpec := { name := "fnExactExponentOf", fn := fun _ => fun
  | [d1, d2] => { results := [.lit (.bool false)], args := [d1, d2] }
  | _ => none }
def FnExactExponentOfWrongFalsely : Prop := fnExactExponentOfRow.holds Try.pinned (OpenSpec.ofChange fnExactExponentOfWrong)

/-- 'laws.FnExactProductDeterminant': WHATEVER THE INPUT: true; the input reads as it did. -/
def fnExactProductDeterminantSpec : ChangeSpec := { name := "fnExactProductDeterminant", fn := fun _ => fun
  | [d1, d2] => { results := [.lit (.bool true)], args := [d1, d2] }
  | _ => none }
def fnExactProductDeterminantRow : OpenClaim := { program := "ytmidjgnnepeklaa", sum := "dd14de105690e8ef0a7b192210ef49381f326b736ab0b0526d96719bf07604ec", func := "loop.example/g01126/laws.FnExactProductDeterminant", spec := "fnExactProductDeterminant", apart := false }
def FnExactProductDeterminantSaid : Prop := fnExactProductDeterminantRow.holds Try.pinned (OpenSpec.ofChange fnExactProductDeterminantSpec)

/-- ITS FALSE NEIGHBOUR: 'it returns false'. Refute it at one input. -/
def fnExactProductDeterminantWrong : ChangeSpec := { name := "fnExactProductDeterminant", fn := fun _ => fun
  | [d1, d2] => { results := [.lit (.bool false)], args := [d1, d2] }
  | _ => none }
def FnExactProductDeterminantWrongFalsely : Prop := fnExactProductDeterminantRow.holds Try.pinned (OpenSpec.ofChange fnExactProductDeterminantWrong)

/-- 'laws.FnExactIsSeaweed': WHATEVER THE INPUT: true; the input reads as it did. -/
def fnExactIsSeaweedSpec : ChangeSpec := { name := "fnExactIsSeaweed", fn := fun _ => fun
  | [d] => { results := [.lit (.bool true)], args := [d] }
  | _ => none }
def fnExactIsSeaweedRow : OpenClaim := { program := "ytmidjgnnepeklaa", sum := "dd14de105690e8ef0a7b192210ef49381f326b736ab0b0526d96719bf07604ec", func := "loop.example/g01126/laws.FnExactIsSeaweed", spec := "fnExactIsSeaweed", unfollowed := true, recurses := true, apart := false }
def FnExactIsSeaweedSaid : Prop := fnExactIsSeaweedRow.holds Try.pinned (OpenSpec.ofChange fnExactIsSeaweedSpec)

/-- ITS FALSE NEIGHBOUR: 'it returns false'. Refute it at one input. -/
def fnExactIsSeaweedWrong : ChangeSpec := { name := "fnExactIsSeaweed", fn := fun _ => fun
  | [d] => { results := [.lit (.bool false)], args := [d] }
  | _ => none }
def FnExactIsSeaweedWrongFalsely : Prop := fnExactIsSeaweedRow.holds Try.pinned (OpenSpec.ofChange fnExactIsSeaweedWrong)

/-- 'laws.FnExactArcsOf': WHATEVER THE INPUT: true; the input reads as it did. -/
def fnExactArcsOfSpec : ChangeSpec := { name := "fnExactArcsOf", fn := fun _ => fun
  | [d] => { results := [.lit (.bool true)], args := [d] }
  | _ => none }
def fnExactArcsOfRow : OpenClaim := { program := "ytmidjgnnepeklaa", sum := "dd14de105690e8ef0a7b192210ef49381f326b736ab0b0526d96719bf07604ec", func := "loop.example/g01126/laws.FnExactArcsOf", spec := "fnExactArcsOf", unfollowed := true, recurses := true, apart := false }
def FnExactArcsOfSaid : Prop := fnExactArcsOfRow.holds Try.pinned (OpenSpec.ofChange fnExactArcsOfSpec)

/-- ITS FALSE NEIGHBOUR: 'it returns false'. Refute it at one input. -/
def fnExactArcsOfWrong : ChangeSpec := { name := "fnExactArcsOf", fn := fun _ => fun
  | [d] => { results := [.lit (.bool false)], args := [d] }
  | _ => none }
def FnExactArcsOfWrongFalsely : Prop := fnExactArcsOfRow.holds Try.pinned (OpenSpec.ofChange fnExactArcsOfWrong)

/-- 'laws.FnExactJoinedSystem': WHATEVER THE INPUT: true; the input reads as it did. -/
def fnExactJoinedSystemSpec : ChangeSpec := { name := "fnExactJoinedSystem", fn := fun _ => fun
  | [d1, d2] => { results := [.lit (.bool true)], args := [d1, d2] }
  | _ => none }
def fnExactJoinedSystemRow : OpenClaim := { program := "ytmidjgnnepeklaa", sum := "dd14de105690e8ef0a7b192210ef49381f326b736ab0b0526d96719bf07604ec", func := "loop.example/g01126/laws.FnExactJoinedSystem", spec := "fnExactJoinedSystem", apart := false }
def FnExactJoinedSystemSaid : Prop := fnExactJoinedSystemRow.holds Try.pinned (OpenSpec.ofChange fnExactJoinedSystemSpec)

/-- ITS FALSE NEIGHBOUR: 'it returns false'. Refute it at one input. -/
def fnExactJoinedSystemWrong : ChangeSpec := { name := "fnExactJoinedSystem", fn := fun _ => fun
  | [d1, d2] => { results := [.lit (.bool false)], args := [d1, d2] }
  | _ => none }
def FnExactJoinedSystemWrongFalsely : Prop := fnExactJoinedSystemRow.holds Try.pinned (OpenSpec.ofChange fnExactJoinedSystemWrong)

/- THE SECOND FORM. 'bulk': how many values and letters a reading holds, each counted each time it is reached (what is shared counts as often as it is met; a slice's spare places count too). A statement '..UptoSaid' is the law's where the arguments, and the package variables that the reading takes, are together of bulk at most 1048576: NARROWER than '..Said'. Prove '..Said' where nothing that the law and all that it calls make is longer than what came in: it says more and counts as full. Else prove '..UptoSaid'. A law counts once. -/
mutual
def uptoBulk {H : Type} : DataW H → Nat
  | .lit (.string bytes) => bytes.length + 1
  | .lit _ => 1
  | .nil => 1
  | .ptr d => uptoBulk d + 1
  | .slice elems spare => uptoBulkAll elems + uptoBulkAll spare + 1
  | .agg parts => uptoBulkAll parts + 1
  | .iface _ d => uptoBulk d + 1
  | .map entries => uptoBulkEntries entries + 1
  | .held _ => 1
def uptoBulkAll {H : Type} : List (DataW H) → Nat
  | [] => 0
  | d :: r => uptoBulk d + uptoBulkAll r
def uptoBulkEntries {H : Type} : List (Lit × DataW H) → Nat
  | [] => 0
  | x :: r => uptoBulkEntry x + uptoBulkEntries r
def uptoBulkEntry {H : Type} : Lit × DataW H → Nat
  | (.string bytes, d) => bytes.length + uptoBulk d + 1
  | (_, d) => uptoBulk d + 1
 end
def uptoSmall : (H : Type) → List (DataW H) → Bool := fun _ ds => decide (uptoBulkAll ds ≤ 1048576)
def OpenSpec.upto (s : _root_.Go.ChangeSpec) : _root_.Go.OpenSpec := { _root_.Go.OpenSpec.ofChange s with cond := some uptoSmall }

/-- 'laws.FnExactValueAt', WHERE WHAT IT READS IS OF BULK AT MOST 1048576: true; the input reads as it did. -/
def fnExactValueAtUptoRow : OpenClaim := { program := "ytmidjgnnepeklaa", sum := "dd14de105690e8ef0a7b192210ef49381f326b736ab0b0526d96719bf07604ec", func := "loop.example/g01126/laws.FnExactValueAt", spec := "fnExactValueAt", apart := false, narrowed := true }
def FnExactValueAtUptoSaid : Prop := fnExactValueAtUptoRow.holds Try.pinned (OpenSpec.upto fnExactValueAtSpec)

/-- 'laws.FnExactExponentOf', WHERE WHAT IT READS IS OF BULK AT MOST 1048576: true; the input reads as it did. -/
def fnExactExponentOfUptoRow : OpenClaim := { program := "ytmidjgnnepeklaa", sum := "dd14de105690e8ef0a7b192210ef49381f326b736ab0b0526d96719bf07604ec", func := "loop.example/g01126/laws.FnExactExponentOf", spec := "fnExactExponentOf", apart := false, narrowed := true }
def FnExactExponentOfUptoSaid : Prop := fnExactExponentOfUptoRow.holds Try.pinned (OpenSpec.upto fnExactExponentOfSpec)

/-- 'laws.FnExactProductDeterminant', WHERE WHAT IT READS IS OF BULK AT MOST 1048576: true; the input reads as it did. -/
def fnExactProductDeterminantUptoRow : OpenClaim := { program := "ytmidjgnnepeklaa", sum := "dd14de105690e8ef0a7b192210ef49381f326b736ab0b0526d96719bf07604ec", func := "loop.example/g01126/laws.FnExactProductDeterminant", spec := "fnExactProductDeterminant", apart := false, narrowed := true }
def FnExactProductDeterminantUptoSaid : Prop := fnExactProductDeterminantUptoRow.holds Try.pinned (OpenSpec.upto fnExactProductDeterminantSpec)

/-- 'laws.FnExactIsSeaweed', WHERE WHAT IT READS IS OF BULK AT MOST 1048576: true; the input reads as it did. -/
def fnExactIsSeaweedUptoRow : OpenClaim := { program := "ytmidjgnnepeklaa", sum := "dd14de105690e8ef0a7b192210ef49381f326b736ab0b0526d96719bf07604ec", func := "loop.example/g01126/laws.FnExactIsSeaweed", spec := "fnExactIsSeaweed", unfollowed := true, recurses := true, apart := false, narrowed := true }
def FnExactIsSeaweedUptoSaid : Prop := fnExactIsSeaweedUptoRow.holds Try.pinned (OpenSpec.upto fnExactIsSeaweedSpec)

/-- 'laws.FnExactArcsOf', WHERE WHAT IT READS IS OF BULK AT MOST 1048576: true; the input reads as it did. -/
def fnExactArcsOfUptoRow : OpenClaim := { program := "ytmidjgnnepeklaa", sum := "dd14de105690e8ef0a7b192210ef49381f326b736ab0b0526d96719bf07604ec", func := "loop.example/g01126/laws.FnExactArcsOf", spec := "fnExactArcsOf", unfollowed := true, recurses := true, apart := false, narrowed := true }
def FnExactArcsOfUptoSaid : Prop := fnExactArcsOfUptoRow.holds Try.pinned (OpenSpec.upto fnExactArcsOfSpec)

/-- 'laws.FnExactJoinedSystem', WHERE WHAT IT READS IS OF BULK AT MOST 1048576: true; the input reads as it did. -/
def fnExactJoinedSystemUptoRow : OpenClaim := { program := "ytmidjgnnepeklaa", sum := "dd14de105690e8ef0a7b192210ef49381f326b736ab0b0526d96719bf07604ec", func := "loop.example/g01126/laws.FnExactJoinedSystem", spec := "fnExactJoinedSystem", apart := false, narrowed := true }
def FnExactJoinedSystemUptoSaid : Prop := fnExactJoinedSystemUptoRow.holds Try.pinned (OpenSpec.upto fnExactJoinedSystemSpec)

end Rows
end Go.Proofs.Ytmidjgnnepeklaa
