/- Worlds behind one another: what was told of rows at an elder world holds at the world at hand, if only new blocks were written. -/
import Derived.Test.YtldbkkfkgfacdaaWMore
set_option linter.unusedVariables false
namespace Go.Proofs.Ytldbkkfkgfacdaa.Chain
open Go.RowKit Go.Proofs.YtldbkkfkgfacdaaW.PrintWords Go.Proofs.YtldbkkfkgfacdaaW.PrintLast Go.Proofs.YtldbkkfkgfacdaaW.PrintMore
/-- the elder worlds, the latest first: below the world at hand -/
def Ch : List World → World → Prop
  | [], _ => True
  | V :: L, W => Below V.heap.size V W ∧ Ch L W
theorem Ch.more {L : List World} {W W' : World} (h : Ch L W) (hb : Below W.heap.size W W') : Ch L W' := by
  induction L with
  | nil => trivial
  | cons V L ih => exact ⟨below_step h.1 hb, ih h.2⟩
theorem Ch.step {L : List World} {W W' : World} (h : Ch L W) (hb : Below W.heap.size W W') : Ch (W :: L) W' := ⟨hb, h.more hb⟩
theorem Ch.hd {V : World} {L : List World} {W : World} (h : Ch (V :: L) W) : Below V.heap.size V W := h.1
theorem Ch.tl {V : World} {L : List World} {W : World} (h : Ch (V :: L) W) : Ch L W := h.2
theorem drawn_below {w w' : World} (h : Drawn0 w w') : Below w.heap.size w w' := by
  obtain ⟨nd, rfl⟩ := h
  exact pw_below_drewN (Below.refl _ _) nd
theorem box2 {W : World} {g : Nat} {t : TypeId} {v0 v1 : Value} (h : W.heap[g]? = some (.cells #[v0, v1] t (0, 0))) :
    W.cell? ⟨g, 0, none⟩ = some v0 ∧ W.cell? ⟨g, 1, none⟩ = some v1 ∧ W.frozen? ⟨g, 0, none⟩ = false ∧ W.frozen? ⟨g, 1, none⟩ = false :=
  ⟨(blk_cell h 0).trans rfl, (blk_cell h 1).trans rfl, blk_frozen h 0, blk_frozen h 1⟩
end Go.Proofs.Ytldbkkfkgfacdaa.Chain
