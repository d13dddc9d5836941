/- Whether a word is a folding: one answer for both. -/
import Derived.Test.YtjgkcknopnollaaGreatPArcs
import Derived.Test.YtjgkcknopnollaaGreatQA2
set_option linter.unusedVariables false
set_option linter.unusedSimpArgs false
namespace Go.Proofs.YtjgkcknopnollaaGreat.Pure
open Go.RowKit Go.Proofs.YtjgkcknopnollaaGreat.D Go.Proofs.YtjgkcknopnollaaGreatW.PrintWords Go.Proofs.YtjgkcknopnollaaGreatW.PrintLast Go.Proofs.YtjgkcknopnollaaGreatW.PrintMore

def foldB (l : List Int) : Bool := (impl_isFolding.f 700 l).getD false
theorem fold_ev (l : List Int) (hl : 1 ≤ l.length ∧ l.length ≤ 8) (hw : wordB l = true) (k : Nat) (hk : 700 ≤ k) : spec_spIs.f k l = some (foldB l) ∧ impl_isFolding.f k l = some (foldB l) := by
  obtain ⟨R, _, _, h⟩ := crossed_ev l hl hw
  obtain ⟨h1, h2⟩ := h k hk
  obtain ⟨_, h4⟩ := h 700 (Nat.le_refl _)
  have e : foldB l = ((R.length : Int) == 0) := by
    unfold foldB impl_isFolding.f
    rw [h4]; rfl
  rw [e]
  unfold spec_spIs.f impl_isFolding.f
  rw [h1, h2]
  exact ⟨rfl, rfl⟩

end Go.Proofs.YtjgkcknopnollaaGreat.Pure
