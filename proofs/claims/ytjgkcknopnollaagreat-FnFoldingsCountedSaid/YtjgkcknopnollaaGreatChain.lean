/- Worlds behind one another: what was told of rows at an elder world holds at the world at hand, if only new blocks were written. -/
import Derived.Test.YtjgkcknopnollaaGreatWMore
set_option linter.unusedVariables false
namespace Go.Proofs.YtjgkcknopnollaaGreat.Chain
open Go.RowKit Go.Proofs.YtjgkcknopnollaaGreatW.PrintWords Go.Proofs.YtjgkcknopnollaaGreatW.PrintLast Go.Proofs.YtjgkcknopnollaaGreatW.PrintMore
/-- the elder worlds, the latest first: below the world at hand -/
def Ch : List World → World → Prop
  | [], _ => True
  | V :: L, W => Below V.heap.size V W ∧ Ch L W
theorem Ch.more {L : List World} {W W' : World} (h : Ch L W) (hb : Below W.heap.size W W') : Ch L W' := by
  induction L with
  | nil => trivial
  | cons V L ih => exact ⟨below_step h.1 hb, ih h.2⟩
theorem Ch.step {L : List World} {W W' : World} (h : Ch L W) (hb : Below W.heap.size W W') : Ch (W :: L) W' := ⟨hb, h.more hb⟩
theorem Ch.hd {V : World} {L : List World} {W : World} (h : Ch (V :: L) W) : Below V.heap.size V W := h.1
theorem Ch.tl {V : World} {L : List World} {W : World} (h : Ch (V :: L) W) : Ch L W := h.2
theorem drawn_below {w w' : World} (h : Drawn0 w w') : Below w.heap.size w w' := by
  obtain ⟨nd, rfl⟩ := h
  exact pw_below_drewN (Below.refl _ _) nd
theorem box2 {W : World} {g : Nat} {t : TypeId} {v0 v1 : Value} (h : W.heap[g]? = some (.cells #[v0, v1] t (0, 0))) :
    W.cell? ⟨g, 0, none⟩ = some v0 ∧ W.cell? ⟨g, 1, none⟩ = some v1 ∧ W.frozen? ⟨g, 0, none⟩ = false ∧ W.frozen? ⟨g, 1, none⟩ = false :=
  ⟨(blk_cell h 0).trans rfl, (blk_cell h 1).trans rfl, blk_frozen h 0, blk_frozen h 1⟩
theorem Ch.t4 {a b c d : World} {L : List World} {W : World} (h : Ch (a :: b :: c :: d :: L) W) : Ch L W := h.2.2.2.2
theorem Ch.t16 {a b c d a1 b1 c1 d1 a2 b2 c2 d2 a3 b3 c3 d3 : World} {L : List World} {W : World} (h : Ch (a :: b :: c :: d :: a1 :: b1 :: c1 :: d1 :: a2 :: b2 :: c2 :: d2 :: a3 :: b3 :: c3 :: d3 :: L) W) : Ch L W := h.t4.t4.t4.t4
theorem stp {L : List World} {W W' : World} (h : Aside0 (Ch L W)) (hb : Below W.heap.size W W') : Aside0 (Ch (W :: L) W') := ⟨h.out.step hb⟩
theorem tt_ : Aside0 True := ⟨trivial⟩
theorem bx {V W : World} {g : Nat} {t : TypeId} {v0 v1 : Value} (h : Aside0 (V.heap[g]? = some (.cells #[v0, v1] t (0, 0)))) (hb : Below V.heap.size V W) : W.cell? ⟨g, 0, none⟩ = some v0 ∧ W.cell? ⟨g, 1, none⟩ = some v1 ∧ W.frozen? ⟨g, 0, none⟩ = false ∧ W.frozen? ⟨g, 1, none⟩ = false := box2 (blk_below h.out hb)
theorem boxst {W z w' : World} {g : Nat} {t : TypeId} {v0 v1 : Value} (hx : Aside0 (z.heap[g]? = some (.cells #[.slice none 0 0, .slice none 0 0] t (0, 0)))) (hB : Aside0 (Below W.heap.size W z)) (hg : Aside0 (W.heap.size ≤ g)) (hw : w' = (z.setCell ⟨g, 0, none⟩ v0).setCell ⟨g, 1, none⟩ v1) : Below W.heap.size W w' ∧ Aside0 (w'.heap[g]? = some (.cells #[v0, v1] t (0, 0))) := by
  subst hw
  exact ⟨below_set (below_set hB.out hg.out) hg.out, ⟨blk_put (cs := #[v0, .slice none 0 0]) (blk_put (cs := #[.slice none 0 0, .slice none 0 0]) hx.out 0 v0 rfl) 1 v1 rfl⟩⟩
end Go.Proofs.YtjgkcknopnollaaGreat.Chain
