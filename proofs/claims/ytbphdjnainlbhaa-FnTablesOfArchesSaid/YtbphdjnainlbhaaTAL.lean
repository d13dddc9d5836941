-- printed by wip/drv/xprint.py (our driver) out of the translation; Lean checks it
import Derived.Test.YtbphdjnainlbhaaQB2
namespace Go.Proofs.Ytbphdjnainlbhaa.R
open Go.RowKit Go.Proofs.YtbphdjnainlbhaaW.PrintWords Go.Proofs.YtbphdjnainlbhaaW.PrintLast Go.Proofs.YtbphdjnainlbhaaW.PrintMore
attribute [local go_sem] max2_int min2_int max_two min_two max_three min_three max_four min_four   -- for this text's walks alone
set_option linter.unusedVariables false
set_option linter.unusedSimpArgs false

/-! ### laws_FnTablesOfArches: function 7 -/
mutual
def laws_FnTablesOfArches.j0 : Nat → List Int → Int → Int → List (List Int) → Bool → Int → Bool → Option (Bool)
  | 0, _, _, _, _, _, _, _ => none
  | k + 1, x1, x5, x6, x7, x10, x11, x111 => if x111 = true then (some false) else ((spec_DrawProductDeterminant.f x1).bind fun bt742 => ((impl_ProductDeterminant.f k bt742.1 bt742.2).bind fun bt744 => ((spec_ProductDeterminant.f k bt742.1 bt742.2).bind fun bt746 => (if (bt744.2 != bt746.2) = true then (laws_FnTablesOfArches.j1 k x1 x5 x6 x7 x10 x11 bt742.1 bt742.2 bt744.1 bt744.2 true) else (laws_FnTablesOfArches.j1 k x1 x5 x6 x7 x10 x11 bt742.1 bt742.2 bt744.1 bt744.2 (bt744.1 != bt746.1))))))
def laws_FnTablesOfArches.j1 : Nat → List Int → Int → Int → List (List Int) → Bool → Int → Int → Int → Int → Bool → Bool → Option (Bool)
  | 0, _, _, _, _, _, _, _, _, _, _, _ => none
  | k + 1, x1, x5, x6, x7, x10, x11, x15, x16, x17, x18, x136 => if x136 = true then (some false) else (if x18 = true then ((impl_TableAt.f k x15 x16).bind fun bt748 => ((impl_DeterminantOf.f k bt748.1).bind fun bt752 => ((impl_RankOf.f k bt748.1).bind fun bt754 => (laws_FnTablesOfArches.l0 k x1 x5 x6 x7 x10 x11 x15 x16 x17 bt748.1 bt748.2 bt752.1 bt752.2 bt754.1 bt754.2 1 1)))) else (laws_FnTablesOfArches.j3 k x1 x5 x6 x7 x10 x11))
def laws_FnTablesOfArches.j3 : Nat → List Int → Int → Int → List (List Int) → Bool → Int → Option (Bool)
  | 0, _, _, _, _, _, _ => none
  | k + 1, x1, x5, x6, x7, x10, x11 => (spec_DrawValueAt.f x1).bind fun bt761 => ((impl_ValueAt.f k bt761.1 bt761.2).bind fun bt763 => ((spec_ValueAt.f k bt761.1 bt761.2).bind fun bt765 => ((spec_DrawExponentOf.f x1).bind fun bt767 => ((impl_ExponentOf.f k bt767.1 bt767.2).bind fun bt769 => ((spec_ExponentOf.f k bt767.1 bt767.2).bind fun bt771 => (if (bt763.2 != bt765.2) = true then (laws_FnTablesOfArches.j4 k x5 x6 x7 x10 x11 true) else (if bt763.1 = bt765.1 then (if (bt769.2 != bt771.2) = true then (laws_FnTablesOfArches.j4 k x5 x6 x7 x10 x11 true) else (laws_FnTablesOfArches.j4 k x5 x6 x7 x10 x11 (bt769.1 != bt771.1))) else (laws_FnTablesOfArches.j4 k x5 x6 x7 x10 x11 true))))))))
def laws_FnTablesOfArches.j4 : Nat → Int → Int → List (List Int) → Bool → Int → Bool → Option (Bool)
  | 0, _, _, _, _, _, _ => none
  | k + 1, x5, x6, x7, x10, x11, x282 => if x282 = true then (some false) else (if x10 = true then ((impl_CountByComponents.f k x5).bind fun bt773 => ((impl_ExponentTable.f k x5).bind fun bt777 => (laws_FnTablesOfArches.l1 k x5 x6 x7 x11 bt773.2 bt777.1 bt777.2 0 bt773.1 (bt773.1.length : Int) 0))) else (some true))
def laws_FnTablesOfArches.l1 : Nat → Int → Int → List (List Int) → Int → Bool → List (List Int) → Bool → Int → List Int → Int → Int → Option (Bool)
  | 0, _, _, _, _, _, _, _, _, _, _, _ => none
  | k + 1, x5, x6, x7, x11, x46, x47, x48, x49, x295, x296, x297 => if x297 < x296 then (if 0 ≤ x297 then (if x297 < (x295.length : Int) then ((laws_sPower.f k x6 x297).bind fun t782 => (laws_FnTablesOfArches.l1 k x5 x6 x7 x11 x46 x47 x48 (wrap64 (x49 + (wrap64 ((rd x295 x297) * t782)))) x295 x296 (wrap64 (x297 + 1)))) else (none)) else (none)) else (laws_FnTablesOfArches.l2 k x5 x6 x7 x11 x46 x47 x48 x49 x7 (x7.length : Int) 0)
def laws_FnTablesOfArches.l2 : Nat → Int → Int → List (List Int) → Int → Bool → List (List Int) → Bool → Int → List (List Int) → Int → Int → Option (Bool)
  | 0, _, _, _, _, _, _, _, _, _, _, _ => none
  | k + 1, x5, x6, x7, x11, x46, x47, x48, x49, x310, x311, x312 => if x312 < x311 then (if 0 ≤ x312 then (if x312 < (x310.length : Int) then (laws_FnTablesOfArches.l3 k x5 x6 x7 x11 x46 x47 x48 x49 x312 x310 x311 x312 (rd_L1 x310 x312) ((rd_L1 x310 x312).length : Int) 0) else (none)) else (none)) else (if x46 = true then (if x48 = true then (some (x49 == x11)) else (some false)) else (some false))
def laws_FnTablesOfArches.l3 : Nat → Int → Int → List (List Int) → Int → Bool → List (List Int) → Bool → Int → Int → List (List Int) → Int → Int → List Int → Int → Int → Option (Bool)
  | 0, _, _, _, _, _, _, _, _, _, _, _, _, _, _, _ => none
  | k + 1, x5, x6, x7, x11, x46, x47, x48, x49, x52, x310, x311, x312, x317, x318, x319 => if x319 < x318 then (if 0 ≤ x319 then (if x319 < (x317.length : Int) then (if x319 < (x7.length : Int) then (if 0 ≤ x52 then (if x52 < ((rd_L1 x7 x319).length : Int) then (if (rd x317 x319) = (rd (rd_L1 x7 x319) x52) then (if x52 < (x47.length : Int) then (if x319 < ((rd_L1 x47 x52).length : Int) then ((laws_sPower.f k x6 (rd (rd_L1 x47 x52) x319)).bind fun t789 => (if (rd x317 x319) = t789 then (if (((rd (rd_L1 x47 x52) x319) == x5) != (x52 == x319)) = true then (some false) else (laws_FnTablesOfArches.l3 k x5 x6 x7 x11 x46 x47 x48 x49 x52 x310 x311 x312 x317 x318 (wrap64 (x319 + 1)))) else (some false))) else (none)) else (none)) else (some false)) else (none)) else (none)) else (none)) else (none)) else (none)) else (laws_FnTablesOfArches.l2 k x5 x6 x7 x11 x46 x47 x48 x49 x310 x311 (wrap64 (x312 + 1)))
def laws_FnTablesOfArches.l0 : Nat → List Int → Int → Int → List (List Int) → Bool → Int → Int → Int → Int → List (List Int) → Bool → Int → Bool → Int → Bool → Int → Int → Option (Bool)
  | 0, _, _, _, _, _, _, _, _, _, _, _, _, _, _, _, _, _ => none
  | k + 1, x1, x5, x6, x7, x10, x11, x15, x16, x17, x21, x22, x23, x24, x25, x26, x27, x28 => if x28 ≤ x15 then ((impl_ValueAt.f k x28 x16).bind fun bt756 => ((impl_ExponentOf.f k x15 x28).bind fun bt758 => (if bt756.2 = true then (if bt758.2 = true then (if bt758.1 < 0 then (some false) else ((laws_sPower.f k bt756.1 bt758.1).bind fun t760 => (laws_FnTablesOfArches.l0 k x1 x5 x6 x7 x10 x11 x15 x16 x17 x21 x22 x23 x24 x25 x26 (wrap64 (x27 * t760)) (wrap64 (x28 + 1))))) else (some false)) else (some false)))) else (if x22 = true then (if x24 = true then (if x26 = true then (if x23 = x17 then (if x27 = x17 then (if ((x25 == (x21.length : Int)) != (x23 != 0)) = true then (some false) else (if x16 = 1 then (if x25 = 1 then (laws_FnTablesOfArches.j3 k x1 x5 x6 x7 x10 x11) else (if x15 = 1 then (some false) else (laws_FnTablesOfArches.j3 k x1 x5 x6 x7 x10 x11))) else (if x16 = (-1) then (if x25 = 1 then (laws_FnTablesOfArches.j3 k x1 x5 x6 x7 x10 x11) else (if x15 = 1 then (some false) else (laws_FnTablesOfArches.j3 k x1 x5 x6 x7 x10 x11))) else (laws_FnTablesOfArches.j3 k x1 x5 x6 x7 x10 x11)))) else (some false)) else (some false)) else (some false)) else (some false)) else (some false))
end
def laws_FnTablesOfArches.f (k : Nat) (l0 : List Int) (l1 : List Int) : Option (Bool) := (laws_big.f l0 l1).bind fun t726 => (if t726 = true then (some true) else ((spec_DrawTableAt.f l0).bind fun bt727 => ((impl_TableAt.f k bt727.1 bt727.2).bind fun bt729 => ((spec_TableAt.f k bt727.1 bt727.2).bind fun bt733 => ((impl_SumOfTable.f k bt727.1 bt727.2).bind fun bt737 => ((spec_SumOfTable.f k bt727.1 bt727.2).bind fun bt739 => (if (bt729.2 != bt733.2) = true then (laws_FnTablesOfArches.j0 k l1 bt727.1 bt727.2 bt729.1 bt733.2 bt737.1 true) else ((laws_sSameRows.f k bt729.1 bt733.1).bind fun t741 => (if t741 = true then (if (bt737.2 != bt739.2) = true then (laws_FnTablesOfArches.j0 k l1 bt727.1 bt727.2 bt729.1 bt733.2 bt737.1 true) else (if bt737.1 = bt739.1 then (laws_FnTablesOfArches.j0 k l1 bt727.1 bt727.2 bt729.1 bt733.2 bt737.1 (bt737.2 != bt729.2)) else (laws_FnTablesOfArches.j0 k l1 bt727.1 bt727.2 bt729.1 bt733.2 bt737.1 true))) else (laws_FnTablesOfArches.j0 k l1 bt727.1 bt727.2 bt729.1 bt733.2 bt737.1 true))))))))))
theorem laws_FnTablesOfArches.mono_l : ∀ k, (∀ y0 y1 y2 y3 y4 y5 y6, LeO (laws_FnTablesOfArches.j0 k y0 y1 y2 y3 y4 y5 y6) (laws_FnTablesOfArches.j0 (k + 1) y0 y1 y2 y3 y4 y5 y6)) ∧ (∀ y0 y1 y2 y3 y4 y5 y6 y7 y8 y9 y10, LeO (laws_FnTablesOfArches.j1 k y0 y1 y2 y3 y4 y5 y6 y7 y8 y9 y10) (laws_FnTablesOfArches.j1 (k + 1) y0 y1 y2 y3 y4 y5 y6 y7 y8 y9 y10)) ∧ (∀ y0 y1 y2 y3 y4 y5, LeO (laws_FnTablesOfArches.j3 k y0 y1 y2 y3 y4 y5) (laws_FnTablesOfArches.j3 (k + 1) y0 y1 y2 y3 y4 y5)) ∧ (∀ y0 y1 y2 y3 y4 y5, LeO (laws_FnTablesOfArches.j4 k y0 y1 y2 y3 y4 y5) (laws_FnTablesOfArches.j4 (k + 1) y0 y1 y2 y3 y4 y5)) ∧ (∀ y0 y1 y2 y3 y4 y5 y6 y7 y8 y9 y10, LeO (laws_FnTablesOfArches.l1 k y0 y1 y2 y3 y4 y5 y6 y7 y8 y9 y10) (laws_FnTablesOfArches.l1 (k + 1) y0 y1 y2 y3 y4 y5 y6 y7 y8 y9 y10)) ∧ (∀ y0 y1 y2 y3 y4 y5 y6 y7 y8 y9 y10, LeO (laws_FnTablesOfArches.l2 k y0 y1 y2 y3 y4 y5 y6 y7 y8 y9 y10) (laws_FnTablesOfArches.l2 (k + 1) y0 y1 y2 y3 y4 y5 y6 y7 y8 y9 y10)) ∧ (∀ y0 y1 y2 y3 y4 y5 y6 y7 y8 y9 y10 y11 y12 y13 y14, LeO (laws_FnTablesOfArches.l3 k y0 y1 y2 y3 y4 y5 y6 y7 y8 y9 y10 y11 y12 y13 y14) (laws_FnTablesOfArches.l3 (k + 1) y0 y1 y2 y3 y4 y5 y6 y7 y8 y9 y10 y11 y12 y13 y14)) ∧ (∀ y0 y1 y2 y3 y4 y5 y6 y7 y8 y9 y10 y11 y12 y13 y14 y15 y16, LeO (laws_FnTablesOfArches.l0 k y0 y1 y2 y3 y4 y5 y6 y7 y8 y9 y10 y11 y12 y13 y14 y15 y16) (laws_FnTablesOfArches.l0 (k + 1) y0 y1 y2 y3 y4 y5 y6 y7 y8 y9 y10 y11 y12 y13 y14 y15 y16))
  | 0 => ⟨fun _ _ _ _ _ _ _ r h => by simp [laws_FnTablesOfArches.j0] at h, fun _ _ _ _ _ _ _ _ _ _ _ r h => by simp [laws_FnTablesOfArches.j1] at h, fun _ _ _ _ _ _ r h => by simp [laws_FnTablesOfArches.j3] at h, fun _ _ _ _ _ _ r h => by simp [laws_FnTablesOfArches.j4] at h, fun _ _ _ _ _ _ _ _ _ _ _ r h => by simp [laws_FnTablesOfArches.l1] at h, fun _ _ _ _ _ _ _ _ _ _ _ r h => by simp [laws_FnTablesOfArches.l2] at h, fun _ _ _ _ _ _ _ _ _ _ _ _ _ _ _ r h => by simp [laws_FnTablesOfArches.l3] at h, fun _ _ _ _ _ _ _ _ _ _ _ _ _ _ _ _ _ r h => by simp [laws_FnTablesOfArches.l0] at h⟩
  | k + 1 => by
    obtain ⟨ih0, ih1, ih2, ih3, ih4, ih5, ih6, ih7⟩ := laws_FnTablesOfArches.mono_l k
    refine ⟨?_, ?_, ?_, ?_, ?_, ?_, ?_, ?_⟩
    · intro y0 y1 y2 y3 y4 y5 y6
      unfold laws_FnTablesOfArches.j0
      repeat' first
      | (with_reducible exact ih0 _ _ _ _ _ _ _)
      | (with_reducible exact ih1 _ _ _ _ _ _ _ _ _ _ _)
      | (with_reducible exact ih2 _ _ _ _ _ _)
      | (with_reducible exact ih3 _ _ _ _ _ _)
      | (with_reducible exact ih4 _ _ _ _ _ _ _ _ _ _ _)
      | (with_reducible exact ih5 _ _ _ _ _ _ _ _ _ _ _)
      | (with_reducible exact ih6 _ _ _ _ _ _ _ _ _ _ _ _ _ _ _)
      | (with_reducible exact ih7 _ _ _ _ _ _ _ _ _ _ _ _ _ _ _ _ _)
      | (with_reducible exact impl_CountByComponents.mono _ _)
      | (with_reducible exact impl_DeterminantOf.mono _ _)
      | (with_reducible exact impl_ExponentOf.mono _ _ _)
      | (with_reducible exact impl_ExponentTable.mono _ _)
      | (with_reducible exact impl_ProductDeterminant.mono _ _ _)
      | (with_reducible exact impl_RankOf.mono _ _)
      | (with_reducible exact impl_SumOfTable.mono _ _ _)
      | (with_reducible exact impl_TableAt.mono _ _ _)
      | (with_reducible exact impl_ValueAt.mono _ _ _)
      | (with_reducible exact laws_sPower.mono _ _ _)
      | (with_reducible exact laws_sSameRows.mono _ _ _)
      | (with_reducible exact spec_ExponentOf.mono _ _ _)
      | (with_reducible exact spec_ProductDeterminant.mono _ _ _)
      | (with_reducible exact spec_SumOfTable.mono _ _ _)
      | (with_reducible exact spec_TableAt.mono _ _ _)
      | (with_reducible exact spec_ValueAt.mono _ _ _)
      | (with_reducible exact LeO.refl _)
      | (with_reducible exact LeO.none _)
      | (with_reducible refine LeO.ite ?_ ?_)
      | (with_reducible refine LeO.bind ?_ (fun _ => ?_))
      | exact ih0 _ _ _ _ _ _ _
      | exact ih1 _ _ _ _ _ _ _ _ _ _ _
      | exact ih2 _ _ _ _ _ _
      | exact ih3 _ _ _ _ _ _
      | exact ih4 _ _ _ _ _ _ _ _ _ _ _
      | exact ih5 _ _ _ _ _ _ _ _ _ _ _
      | exact ih6 _ _ _ _ _ _ _ _ _ _ _ _ _ _ _
      | exact ih7 _ _ _ _ _ _ _ _ _ _ _ _ _ _ _ _ _
      | exact impl_CountByComponents.mono _ _
      | exact impl_DeterminantOf.mono _ _
      | exact impl_ExponentOf.mono _ _ _
      | exact impl_ExponentTable.mono _ _
      | exact impl_ProductDeterminant.mono _ _ _
      | exact impl_RankOf.mono _ _
      | exact impl_SumOfTable.mono _ _ _
      | exact impl_TableAt.mono _ _ _
      | exact impl_ValueAt.mono _ _ _
      | exact laws_sPower.mono _ _ _
      | exact laws_sSameRows.mono _ _ _
      | exact spec_ExponentOf.mono _ _ _
      | exact spec_ProductDeterminant.mono _ _ _
      | exact spec_SumOfTable.mono _ _ _
      | exact spec_TableAt.mono _ _ _
      | exact spec_ValueAt.mono _ _ _
      | exact LeO.none _
      | refine LeO.ite ?_ ?_
      | refine LeO.bind ?_ (fun _ => ?_)
    · intro y0 y1 y2 y3 y4 y5 y6 y7 y8 y9 y10
      unfold laws_FnTablesOfArches.j1
      repeat' first
      | (with_reducible exact ih0 _ _ _ _ _ _ _)
      | (with_reducible exact ih1 _ _ _ _ _ _ _ _ _ _ _)
      | (with_reducible exact ih2 _ _ _ _ _ _)
      | (with_reducible exact ih3 _ _ _ _ _ _)
      | (with_reducible exact ih4 _ _ _ _ _ _ _ _ _ _ _)
      | (with_reducible exact ih5 _ _ _ _ _ _ _ _ _ _ _)
      | (with_reducible exact ih6 _ _ _ _ _ _ _ _ _ _ _ _ _ _ _)
      | (with_reducible exact ih7 _ _ _ _ _ _ _ _ _ _ _ _ _ _ _ _ _)
      | (with_reducible exact impl_CountByComponents.mono _ _)
      | (with_reducible exact impl_DeterminantOf.mono _ _)
      | (with_reducible exact impl_ExponentOf.mono _ _ _)
      | (with_reducible exact impl_ExponentTable.mono _ _)
      | (with_reducible exact impl_ProductDeterminant.mono _ _ _)
      | (with_reducible exact impl_RankOf.mono _ _)
      | (with_reducible exact impl_SumOfTable.mono _ _ _)
      | (with_reducible exact impl_TableAt.mono _ _ _)
      | (with_reducible exact impl_ValueAt.mono _ _ _)
      | (with_reducible exact laws_sPower.mono _ _ _)
      | (with_reducible exact laws_sSameRows.mono _ _ _)
      | (with_reducible exact spec_ExponentOf.mono _ _ _)
      | (with_reducible exact spec_ProductDeterminant.mono _ _ _)
      | (with_reducible exact spec_SumOfTable.mono _ _ _)
      | (with_reducible exact spec_TableAt.mono _ _ _)
      | (with_reducible exact spec_ValueAt.mono _ _ _)
      | (with_reducible exact LeO.refl _)
      | (with_reducible exact LeO.none _)
      | (with_reducible refine LeO.ite ?_ ?_)
      | (with_reducible refine LeO.bind ?_ (fun _ => ?_))
      | exact ih0 _ _ _ _ _ _ _
      | exact ih1 _ _ _ _ _ _ _ _ _ _ _
      | exact ih2 _ _ _ _ _ _
      | exact ih3 _ _ _ _ _ _
      | exact ih4 _ _ _ _ _ _ _ _ _ _ _
      | exact ih5 _ _ _ _ _ _ _ _ _ _ _
      | exact ih6 _ _ _ _ _ _ _ _ _ _ _ _ _ _ _
      | exact ih7 _ _ _ _ _ _ _ _ _ _ _ _ _ _ _ _ _
      | exact impl_CountByComponents.mono _ _
      | exact impl_DeterminantOf.mono _ _
      | exact impl_ExponentOf.mono _ _ _
      | exact impl_ExponentTable.mono _ _
      | exact impl_ProductDeterminant.mono _ _ _
      | exact impl_RankOf.mono _ _
      | exact impl_SumOfTable.mono _ _ _
      | exact impl_TableAt.mono _ _ _
      | exact impl_ValueAt.mono _ _ _
      | exact laws_sPower.mono _ _ _
      | exact laws_sSameRows.mono _ _ _
      | exact spec_ExponentOf.mono _ _ _
      | exact spec_ProductDeterminant.mono _ _ _
      | exact spec_SumOfTable.mono _ _ _
      | exact spec_TableAt.mono _ _ _
      | exact spec_ValueAt.mono _ _ _
      | exact LeO.none _
      | refine LeO.ite ?_ ?_
      | refine LeO.bind ?_ (fun _ => ?_)
    · intro y0 y1 y2 y3 y4 y5
      unfold laws_FnTablesOfArches.j3
      repeat' first
      | (with_reducible exact ih0 _ _ _ _ _ _ _)
      | (with_reducible exact ih1 _ _ _ _ _ _ _ _ _ _ _)
      | (with_reducible exact ih2 _ _ _ _ _ _)
      | (with_reducible exact ih3 _ _ _ _ _ _)
      | (with_reducible exact ih4 _ _ _ _ _ _ _ _ _ _ _)
      | (with_reducible exact ih5 _ _ _ _ _ _ _ _ _ _ _)
      | (with_reducible exact ih6 _ _ _ _ _ _ _ _ _ _ _ _ _ _ _)
      | (with_reducible exact ih7 _ _ _ _ _ _ _ _ _ _ _ _ _ _ _ _ _)
      | (with_reducible exact impl_CountByComponents.mono _ _)
      | (with_reducible exact impl_DeterminantOf.mono _ _)
      | (with_reducible exact impl_ExponentOf.mono _ _ _)
      | (with_reducible exact impl_ExponentTable.mono _ _)
      | (with_reducible exact impl_ProductDeterminant.mono _ _ _)
      | (with_reducible exact impl_RankOf.mono _ _)
      | (with_reducible exact impl_SumOfTable.mono _ _ _)
      | (with_reducible exact impl_TableAt.mono _ _ _)
      | (with_reducible exact impl_ValueAt.mono _ _ _)
      | (with_reducible exact laws_sPower.mono _ _ _)
      | (with_reducible exact laws_sSameRows.mono _ _ _)
      | (with_reducible exact spec_ExponentOf.mono _ _ _)
      | (with_reducible exact spec_ProductDeterminant.mono _ _ _)
      | (with_reducible exact spec_SumOfTable.mono _ _ _)
      | (with_reducible exact spec_TableAt.mono _ _ _)
      | (with_reducible exact spec_ValueAt.mono _ _ _)
      | (with_reducible exact LeO.refl _)
      | (with_reducible exact LeO.none _)
      | (with_reducible refine LeO.ite ?_ ?_)
      | (with_reducible refine LeO.bind ?_ (fun _ => ?_))
      | exact ih0 _ _ _ _ _ _ _
      | exact ih1 _ _ _ _ _ _ _ _ _ _ _
      | exact ih2 _ _ _ _ _ _
      | exact ih3 _ _ _ _ _ _
      | exact ih4 _ _ _ _ _ _ _ _ _ _ _
      | exact ih5 _ _ _ _ _ _ _ _ _ _ _
      | exact ih6 _ _ _ _ _ _ _ _ _ _ _ _ _ _ _
      | exact ih7 _ _ _ _ _ _ _ _ _ _ _ _ _ _ _ _ _
      | exact impl_CountByComponents.mono _ _
      | exact impl_DeterminantOf.mono _ _
      | exact impl_ExponentOf.mono _ _ _
      | exact impl_ExponentTable.mono _ _
      | exact impl_ProductDeterminant.mono _ _ _
      | exact impl_RankOf.mono _ _
      | exact impl_SumOfTable.mono _ _ _
      | exact impl_TableAt.mono _ _ _
      | exact impl_ValueAt.mono _ _ _
      | exact laws_sPower.mono _ _ _
      | exact laws_sSameRows.mono _ _ _
      | exact spec_ExponentOf.mono _ _ _
      | exact spec_ProductDeterminant.mono _ _ _
      | exact spec_SumOfTable.mono _ _ _
      | exact spec_TableAt.mono _ _ _
      | exact spec_ValueAt.mono _ _ _
      | exact LeO.none _
      | refine LeO.ite ?_ ?_
      | refine LeO.bind ?_ (fun _ => ?_)
    · intro y0 y1 y2 y3 y4 y5
      unfold laws_FnTablesOfArches.j4
      repeat' first
      | (with_reducible exact ih0 _ _ _ _ _ _ _)
      | (with_reducible exact ih1 _ _ _ _ _ _ _ _ _ _ _)
      | (with_reducible exact ih2 _ _ _ _ _ _)
      | (with_reducible exact ih3 _ _ _ _ _ _)
      | (with_reducible exact ih4 _ _ _ _ _ _ _ _ _ _ _)
      | (with_reducible exact ih5 _ _ _ _ _ _ _ _ _ _ _)
      | (with_reducible exact ih6 _ _ _ _ _ _ _ _ _ _ _ _ _ _ _)
      | (with_reducible exact ih7 _ _ _ _ _ _ _ _ _ _ _ _ _ _ _ _ _)
      | (with_reducible exact impl_CountByComponents.mono _ _)
      | (with_reducible exact impl_DeterminantOf.mono _ _)
      | (with_reducible exact impl_ExponentOf.mono _ _ _)
      | (with_reducible exact impl_ExponentTable.mono _ _)
      | (with_reducible exact impl_ProductDeterminant.mono _ _ _)
      | (with_reducible exact impl_RankOf.mono _ _)
      | (with_reducible exact impl_SumOfTable.mono _ _ _)
      | (with_reducible exact impl_TableAt.mono _ _ _)
      | (with_reducible exact impl_ValueAt.mono _ _ _)
      | (with_reducible exact laws_sPower.mono _ _ _)
      | (with_reducible exact laws_sSameRows.mono _ _ _)
      | (with_reducible exact spec_ExponentOf.mono _ _ _)
      | (with_reducible exact spec_ProductDeterminant.mono _ _ _)
      | (with_reducible exact spec_SumOfTable.mono _ _ _)
      | (with_reducible exact spec_TableAt.mono _ _ _)
      | (with_reducible exact spec_ValueAt.mono _ _ _)
      | (with_reducible exact LeO.refl _)
      | (with_reducible exact LeO.none _)
      | (with_reducible refine LeO.ite ?_ ?_)
      | (with_reducible refine LeO.bind ?_ (fun _ => ?_))
      | exact ih0 _ _ _ _ _ _ _
      | exact ih1 _ _ _ _ _ _ _ _ _ _ _
      | exact ih2 _ _ _ _ _ _
      | exact ih3 _ _ _ _ _ _
      | exact ih4 _ _ _ _ _ _ _ _ _ _ _
      | exact ih5 _ _ _ _ _ _ _ _ _ _ _
      | exact ih6 _ _ _ _ _ _ _ _ _ _ _ _ _ _ _
      | exact ih7 _ _ _ _ _ _ _ _ _ _ _ _ _ _ _ _ _
      | exact impl_CountByComponents.mono _ _
      | exact impl_DeterminantOf.mono _ _
      | exact impl_ExponentOf.mono _ _ _
      | exact impl_ExponentTable.mono _ _
      | exact impl_ProductDeterminant.mono _ _ _
      | exact impl_RankOf.mono _ _
      | exact impl_SumOfTable.mono _ _ _
      | exact impl_TableAt.mono _ _ _
      | exact impl_ValueAt.mono _ _ _
      | exact laws_sPower.mono _ _ _
      | exact laws_sSameRows.mono _ _ _
      | exact spec_ExponentOf.mono _ _ _
      | exact spec_ProductDeterminant.mono _ _ _
      | exact spec_SumOfTable.mono _ _ _
      | exact spec_TableAt.mono _ _ _
      | exact spec_ValueAt.mono _ _ _
      | exact LeO.none _
      | refine LeO.ite ?_ ?_
      | refine LeO.bind ?_ (fun _ => ?_)
    · intro y0 y1 y2 y3 y4 y5 y6 y7 y8 y9 y10
      unfold laws_FnTablesOfArches.l1
      repeat' first
      | (with_reducible exact ih0 _ _ _ _ _ _ _)
      | (with_reducible exact ih1 _ _ _ _ _ _ _ _ _ _ _)
      | (with_reducible exact ih2 _ _ _ _ _ _)
      | (with_reducible exact ih3 _ _ _ _ _ _)
      | (with_reducible exact ih4 _ _ _ _ _ _ _ _ _ _ _)
      | (with_reducible exact ih5 _ _ _ _ _ _ _ _ _ _ _)
      | (with_reducible exact ih6 _ _ _ _ _ _ _ _ _ _ _ _ _ _ _)
      | (with_reducible exact ih7 _ _ _ _ _ _ _ _ _ _ _ _ _ _ _ _ _)
      | (with_reducible exact impl_CountByComponents.mono _ _)
      | (with_reducible exact impl_DeterminantOf.mono _ _)
      | (with_reducible exact impl_ExponentOf.mono _ _ _)
      | (with_reducible exact impl_ExponentTable.mono _ _)
      | (with_reducible exact impl_ProductDeterminant.mono _ _ _)
      | (with_reducible exact impl_RankOf.mono _ _)
      | (with_reducible exact impl_SumOfTable.mono _ _ _)
      | (with_reducible exact impl_TableAt.mono _ _ _)
      | (with_reducible exact impl_ValueAt.mono _ _ _)
      | (with_reducible exact laws_sPower.mono _ _ _)
      | (with_reducible exact laws_sSameRows.mono _ _ _)
      | (with_reducible exact spec_ExponentOf.mono _ _ _)
      | (with_reducible exact spec_ProductDeterminant.mono _ _ _)
      | (with_reducible exact spec_SumOfTable.mono _ _ _)
      | (with_reducible exact spec_TableAt.mono _ _ _)
      | (with_reducible exact spec_ValueAt.mono _ _ _)
      | (with_reducible exact LeO.refl _)
      | (with_reducible exact LeO.none _)
      | (with_reducible refine LeO.ite ?_ ?_)
      | (with_reducible refine LeO.bind ?_ (fun _ => ?_))
      | exact ih0 _ _ _ _ _ _ _
      | exact ih1 _ _ _ _ _ _ _ _ _ _ _
      | exact ih2 _ _ _ _ _ _
      | exact ih3 _ _ _ _ _ _
      | exact ih4 _ _ _ _ _ _ _ _ _ _ _
      | exact ih5 _ _ _ _ _ _ _ _ _ _ _
      | exact ih6 _ _ _ _ _ _ _ _ _ _ _ _ _ _ _
      | exact ih7 _ _ _ _ _ _ _ _ _ _ _ _ _ _ _ _ _
      | exact impl_CountByComponents.mono _ _
      | exact impl_DeterminantOf.mono _ _
      | exact impl_ExponentOf.mono _ _ _
      | exact impl_ExponentTable.mono _ _
      | exact impl_ProductDeterminant.mono _ _ _
      | exact impl_RankOf.mono _ _
      | exact impl_SumOfTable.mono _ _ _
      | exact impl_TableAt.mono _ _ _
      | exact impl_ValueAt.mono _ _ _
      | exact laws_sPower.mono _ _ _
      | exact laws_sSameRows.mono _ _ _
      | exact spec_ExponentOf.mono _ _ _
      | exact spec_ProductDeterminant.mono _ _ _
      | exact spec_SumOfTable.mono _ _ _
      | exact spec_TableAt.mono _ _ _
      | exact spec_ValueAt.mono _ _ _
      | exact LeO.none _
      | refine LeO.ite ?_ ?_
      | refine LeO.bind ?_ (fun _ => ?_)
    · intro y0 y1 y2 y3 y4 y5 y6 y7 y8 y9 y10
      unfold laws_FnTablesOfArches.l2
      repeat' first
      | (with_reducible exact ih0 _ _ _ _ _ _ _)
      | (with_reducible exact ih1 _ _ _ _ _ _ _ _ _ _ _)
      | (with_reducible exact ih2 _ _ _ _ _ _)
      | (with_reducible exact ih3 _ _ _ _ _ _)
      | (with_reducible exact ih4 _ _ _ _ _ _ _ _ _ _ _)
      | (with_reducible exact ih5 _ _ _ _ _ _ _ _ _ _ _)
      | (with_reducible exact ih6 _ _ _ _ _ _ _ _ _ _ _ _ _ _ _)
      | (with_reducible exact ih7 _ _ _ _ _ _ _ _ _ _ _ _ _ _ _ _ _)
      | (with_reducible exact impl_CountByComponents.mono _ _)
      | (with_reducible exact impl_DeterminantOf.mono _ _)
      | (with_reducible exact impl_ExponentOf.mono _ _ _)
      | (with_reducible exact impl_ExponentTable.mono _ _)
      | (with_reducible exact impl_ProductDeterminant.mono _ _ _)
      | (with_reducible exact impl_RankOf.mono _ _)
      | (with_reducible exact impl_SumOfTable.mono _ _ _)
      | (with_reducible exact impl_TableAt.mono _ _ _)
      | (with_reducible exact impl_ValueAt.mono _ _ _)
      | (with_reducible exact laws_sPower.mono _ _ _)
      | (with_reducible exact laws_sSameRows.mono _ _ _)
      | (with_reducible exact spec_ExponentOf.mono _ _ _)
      | (with_reducible exact spec_ProductDeterminant.mono _ _ _)
      | (with_reducible exact spec_SumOfTable.mono _ _ _)
      | (with_reducible exact spec_TableAt.mono _ _ _)
      | (with_reducible exact spec_ValueAt.mono _ _ _)
      | (with_reducible exact LeO.refl _)
      | (with_reducible exact LeO.none _)
      | (with_reducible refine LeO.ite ?_ ?_)
      | (with_reducible refine LeO.bind ?_ (fun _ => ?_))
      | exact ih0 _ _ _ _ _ _ _
      | exact ih1 _ _ _ _ _ _ _ _ _ _ _
      | exact ih2 _ _ _ _ _ _
      | exact ih3 _ _ _ _ _ _
      | exact ih4 _ _ _ _ _ _ _ _ _ _ _
      | exact ih5 _ _ _ _ _ _ _ _ _ _ _
      | exact ih6 _ _ _ _ _ _ _ _ _ _ _ _ _ _ _
      | exact ih7 _ _ _ _ _ _ _ _ _ _ _ _ _ _ _ _ _
      | exact impl_CountByComponents.mono _ _
      | exact impl_DeterminantOf.mono _ _
      | exact impl_ExponentOf.mono _ _ _
      | exact impl_ExponentTable.mono _ _
      | exact impl_ProductDeterminant.mono _ _ _
      | exact impl_RankOf.mono _ _
      | exact impl_SumOfTable.mono _ _ _
      | exact impl_TableAt.mono _ _ _
      | exact impl_ValueAt.mono _ _ _
      | exact laws_sPower.mono _ _ _
      | exact laws_sSameRows.mono _ _ _
      | exact spec_ExponentOf.mono _ _ _
      | exact spec_ProductDeterminant.mono _ _ _
      | exact spec_SumOfTable.mono _ _ _
      | exact spec_TableAt.mono _ _ _
      | exact spec_ValueAt.mono _ _ _
      | exact LeO.none _
      | refine LeO.ite ?_ ?_
      | refine LeO.bind ?_ (fun _ => ?_)
    · intro y0 y1 y2 y3 y4 y5 y6 y7 y8 y9 y10 y11 y12 y13 y14
      unfold laws_FnTablesOfArches.l3
      repeat' first
      | (with_reducible exact ih0 _ _ _ _ _ _ _)
      | (with_reducible exact ih1 _ _ _ _ _ _ _ _ _ _ _)
      | (with_reducible exact ih2 _ _ _ _ _ _)
      | (with_reducible exact ih3 _ _ _ _ _ _)
      | (with_reducible exact ih4 _ _ _ _ _ _ _ _ _ _ _)
      | (with_reducible exact ih5 _ _ _ _ _ _ _ _ _ _ _)
      | (with_reducible exact ih6 _ _ _ _ _ _ _ _ _ _ _ _ _ _ _)
      | (with_reducible exact ih7 _ _ _ _ _ _ _ _ _ _ _ _ _ _ _ _ _)
      | (with_reducible exact impl_CountByComponents.mono _ _)
      | (with_reducible exact impl_DeterminantOf.mono _ _)
      | (with_reducible exact impl_ExponentOf.mono _ _ _)
      | (with_reducible exact impl_ExponentTable.mono _ _)
      | (with_reducible exact impl_ProductDeterminant.mono _ _ _)
      | (with_reducible exact impl_RankOf.mono _ _)
      | (with_reducible exact impl_SumOfTable.mono _ _ _)
      | (with_reducible exact impl_TableAt.mono _ _ _)
      | (with_reducible exact impl_ValueAt.mono _ _ _)
      | (with_reducible exact laws_sPower.mono _ _ _)
      | (with_reducible exact laws_sSameRows.mono _ _ _)
      | (with_reducible exact spec_ExponentOf.mono _ _ _)
      | (with_reducible exact spec_ProductDeterminant.mono _ _ _)
      | (with_reducible exact spec_SumOfTable.mono _ _ _)
      | (with_reducible exact spec_TableAt.mono _ _ _)
      | (with_reducible exact spec_ValueAt.mono _ _ _)
      | (with_reducible exact LeO.refl _)
      | (with_reducible exact LeO.none _)
      | (with_reducible refine LeO.ite ?_ ?_)
      | (with_reducible refine LeO.bind ?_ (fun _ => ?_))
      | exact ih0 _ _ _ _ _ _ _
      | exact ih1 _ _ _ _ _ _ _ _ _ _ _
      | exact ih2 _ _ _ _ _ _
      | exact ih3 _ _ _ _ _ _
      | exact ih4 _ _ _ _ _ _ _ _ _ _ _
      | exact ih5 _ _ _ _ _ _ _ _ _ _ _
      | exact ih6 _ _ _ _ _ _ _ _ _ _ _ _ _ _ _
      | exact ih7 _ _ _ _ _ _ _ _ _ _ _ _ _ _ _ _ _
      | exact impl_CountByComponents.mono _ _
      | exact impl_DeterminantOf.mono _ _
      | exact impl_ExponentOf.mono _ _ _
      | exact impl_ExponentTable.mono _ _
      | exact impl_ProductDeterminant.mono _ _ _
      | exact impl_RankOf.mono _ _
      | exact impl_SumOfTable.mono _ _ _
      | exact impl_TableAt.mono _ _ _
      | exact impl_ValueAt.mono _ _ _
      | exact laws_sPower.mono _ _ _
      | exact laws_sSameRows.mono _ _ _
      | exact spec_ExponentOf.mono _ _ _
      | exact spec_ProductDeterminant.mono _ _ _
      | exact spec_SumOfTable.mono _ _ _
      | exact spec_TableAt.mono _ _ _
      | exact spec_ValueAt.mono _ _ _
      | exact LeO.none _
      | refine LeO.ite ?_ ?_
      | refine LeO.bind ?_ (fun _ => ?_)
    · intro y0 y1 y2 y3 y4 y5 y6 y7 y8 y9 y10 y11 y12 y13 y14 y15 y16
      unfold laws_FnTablesOfArches.l0
      repeat' first
      | (with_reducible exact ih0 _ _ _ _ _ _ _)
      | (with_reducible exact ih1 _ _ _ _ _ _ _ _ _ _ _)
      | (with_reducible exact ih2 _ _ _ _ _ _)
      | (with_reducible exact ih3 _ _ _ _ _ _)
      | (with_reducible exact ih4 _ _ _ _ _ _ _ _ _ _ _)
      | (with_reducible exact ih5 _ _ _ _ _ _ _ _ _ _ _)
      | (with_reducible exact ih6 _ _ _ _ _ _ _ _ _ _ _ _ _ _ _)
      | (with_reducible exact ih7 _ _ _ _ _ _ _ _ _ _ _ _ _ _ _ _ _)
      | (with_reducible exact impl_CountByComponents.mono _ _)
      | (with_reducible exact impl_DeterminantOf.mono _ _)
      | (with_reducible exact impl_ExponentOf.mono _ _ _)
      | (with_reducible exact impl_ExponentTable.mono _ _)
      | (with_reducible exact impl_ProductDeterminant.mono _ _ _)
      | (with_reducible exact impl_RankOf.mono _ _)
      | (with_reducible exact impl_SumOfTable.mono _ _ _)
      | (with_reducible exact impl_TableAt.mono _ _ _)
      | (with_reducible exact impl_ValueAt.mono _ _ _)
      | (with_reducible exact laws_sPower.mono _ _ _)
      | (with_reducible exact laws_sSameRows.mono _ _ _)
      | (with_reducible exact spec_ExponentOf.mono _ _ _)
      | (with_reducible exact spec_ProductDeterminant.mono _ _ _)
      | (with_reducible exact spec_SumOfTable.mono _ _ _)
      | (with_reducible exact spec_TableAt.mono _ _ _)
      | (with_reducible exact spec_ValueAt.mono _ _ _)
      | (with_reducible exact LeO.refl _)
      | (with_reducible exact LeO.none _)
      | (with_reducible refine LeO.ite ?_ ?_)
      | (with_reducible refine LeO.bind ?_ (fun _ => ?_))
      | exact ih0 _ _ _ _ _ _ _
      | exact ih1 _ _ _ _ _ _ _ _ _ _ _
      | exact ih2 _ _ _ _ _ _
      | exact ih3 _ _ _ _ _ _
      | exact ih4 _ _ _ _ _ _ _ _ _ _ _
      | exact ih5 _ _ _ _ _ _ _ _ _ _ _
      | exact ih6 _ _ _ _ _ _ _ _ _ _ _ _ _ _ _
      | exact ih7 _ _ _ _ _ _ _ _ _ _ _ _ _ _ _ _ _
      | exact impl_CountByComponents.mono _ _
      | exact impl_DeterminantOf.mono _ _
      | exact impl_ExponentOf.mono _ _ _
      | exact impl_ExponentTable.mono _ _
      | exact impl_ProductDeterminant.mono _ _ _
      | exact impl_RankOf.mono _ _
      | exact impl_SumOfTable.mono _ _ _
      | exact impl_TableAt.mono _ _ _
      | exact impl_ValueAt.mono _ _ _
      | exact laws_sPower.mono _ _ _
      | exact laws_sSameRows.mono _ _ _
      | exact spec_ExponentOf.mono _ _ _
      | exact spec_ProductDeterminant.mono _ _ _
      | exact spec_SumOfTable.mono _ _ _
      | exact spec_TableAt.mono _ _ _
      | exact spec_ValueAt.mono _ _ _
      | exact LeO.none _
      | refine LeO.ite ?_ ?_
      | refine LeO.bind ?_ (fun _ => ?_)
theorem laws_FnTablesOfArches.mono : ∀ a0 a1 k, LeO (laws_FnTablesOfArches.f k a0 a1) (laws_FnTablesOfArches.f (k + 1) a0 a1) := by
  intro a0 a1 k
  obtain ⟨ih0, ih1, ih2, ih3, ih4, ih5, ih6, ih7⟩ := laws_FnTablesOfArches.mono_l k
  unfold laws_FnTablesOfArches.f
  repeat' first
      | (with_reducible exact ih0 _ _ _ _ _ _ _)
      | (with_reducible exact ih1 _ _ _ _ _ _ _ _ _ _ _)
      | (with_reducible exact ih2 _ _ _ _ _ _)
      | (with_reducible exact ih3 _ _ _ _ _ _)
      | (with_reducible exact ih4 _ _ _ _ _ _ _ _ _ _ _)
      | (with_reducible exact ih5 _ _ _ _ _ _ _ _ _ _ _)
      | (with_reducible exact ih6 _ _ _ _ _ _ _ _ _ _ _ _ _ _ _)
      | (with_reducible exact ih7 _ _ _ _ _ _ _ _ _ _ _ _ _ _ _ _ _)
      | (with_reducible exact impl_CountByComponents.mono _ _)
      | (with_reducible exact impl_DeterminantOf.mono _ _)
      | (with_reducible exact impl_ExponentOf.mono _ _ _)
      | (with_reducible exact impl_ExponentTable.mono _ _)
      | (with_reducible exact impl_ProductDeterminant.mono _ _ _)
      | (with_reducible exact impl_RankOf.mono _ _)
      | (with_reducible exact impl_SumOfTable.mono _ _ _)
      | (with_reducible exact impl_TableAt.mono _ _ _)
      | (with_reducible exact impl_ValueAt.mono _ _ _)
      | (with_reducible exact laws_sPower.mono _ _ _)
      | (with_reducible exact laws_sSameRows.mono _ _ _)
      | (with_reducible exact spec_ExponentOf.mono _ _ _)
      | (with_reducible exact spec_ProductDeterminant.mono _ _ _)
      | (with_reducible exact spec_SumOfTable.mono _ _ _)
      | (with_reducible exact spec_TableAt.mono _ _ _)
      | (with_reducible exact spec_ValueAt.mono _ _ _)
      | (with_reducible exact LeO.refl _)
      | (with_reducible exact LeO.none _)
      | (with_reducible refine LeO.ite ?_ ?_)
      | (with_reducible refine LeO.bind ?_ (fun _ => ?_))
      | exact ih0 _ _ _ _ _ _ _
      | exact ih1 _ _ _ _ _ _ _ _ _ _ _
      | exact ih2 _ _ _ _ _ _
      | exact ih3 _ _ _ _ _ _
      | exact ih4 _ _ _ _ _ _ _ _ _ _ _
      | exact ih5 _ _ _ _ _ _ _ _ _ _ _
      | exact ih6 _ _ _ _ _ _ _ _ _ _ _ _ _ _ _
      | exact ih7 _ _ _ _ _ _ _ _ _ _ _ _ _ _ _ _ _
      | exact impl_CountByComponents.mono _ _
      | exact impl_DeterminantOf.mono _ _
      | exact impl_ExponentOf.mono _ _ _
      | exact impl_ExponentTable.mono _ _
      | exact impl_ProductDeterminant.mono _ _ _
      | exact impl_RankOf.mono _ _
      | exact impl_SumOfTable.mono _ _ _
      | exact impl_TableAt.mono _ _ _
      | exact impl_ValueAt.mono _ _ _
      | exact laws_sPower.mono _ _ _
      | exact laws_sSameRows.mono _ _ _
      | exact spec_ExponentOf.mono _ _ _
      | exact spec_ProductDeterminant.mono _ _ _
      | exact spec_SumOfTable.mono _ _ _
      | exact spec_TableAt.mono _ _ _
      | exact spec_ValueAt.mono _ _ _
      | exact LeO.none _
      | refine LeO.ite ?_ ?_
      | refine LeO.bind ?_ (fun _ => ?_)
set_option maxHeartbeats 8000000 in
set_option maxRecDepth 100000 in
theorem laws_FnTablesOfArches.calls (k : Nat) (A0 : Option Addr) (c0 : Nat) (l0 : List Int) (A1 : Option Addr) (c1 : Nat) (l1 : List Int) (w : World) (hr0 : Kd.C (Kd.int .u8) w A0 l0.length l0) (hc0 : l0.length ≤ c0) (hr1 : Kd.C (Kd.int .u8) w A1 l1.length l1) (hc1 : l1.length ≤ c1) (h : laws_FnTablesOfArches.f k l0 l1 = some true) :
    Calls Try.prog 7 #[.slice A0 l0.length c0, .slice A1 l1.length c1] w fun e w' => e = .returned (.bool true) ∧ Below w.heap.size w w' := by
  have HR0 := Aside0.mk hr0
  have HC0 := Aside0.mk hc0
  clear hr0 hc0
  have HR1 := Aside0.mk hr1
  have HC1 := Aside0.mk hc1
  clear hr1 hc1
  have HB := Aside0.mk (Below.refl w.heap.size w)
  have H : ((laws_big.f l0 l1).bind fun t726 => (if t726 = true then (some true) else ((spec_DrawTableAt.f l0).bind fun bt727 => ((impl_TableAt.f k bt727.1 bt727.2).bind fun bt729 => ((spec_TableAt.f k bt727.1 bt727.2).bind fun bt733 => ((impl_SumOfTable.f k bt727.1 bt727.2).bind fun bt737 => ((spec_SumOfTable.f k bt727.1 bt727.2).bind fun bt739 => (if (bt729.2 != bt733.2) = true then (laws_FnTablesOfArches.j0 k l1 bt727.1 bt727.2 bt729.1 bt733.2 bt737.1 true) else ((laws_sSameRows.f k bt729.1 bt733.1).bind fun t741 => (if t741 = true then (if (bt737.2 != bt739.2) = true then (laws_FnTablesOfArches.j0 k l1 bt727.1 bt727.2 bt729.1 bt733.2 bt737.1 true) else (if bt737.1 = bt739.1 then (laws_FnTablesOfArches.j0 k l1 bt727.1 bt727.2 bt729.1 bt733.2 bt737.1 (bt737.2 != bt729.2)) else (laws_FnTablesOfArches.j0 k l1 bt727.1 bt727.2 bt729.1 bt733.2 bt737.1 true))) else (laws_FnTablesOfArches.j0 k l1 bt727.1 bt727.2 bt729.1 bt733.2 bt737.1 true))))))))))) = some true := h
  clear h
  replace H := Option.bind_eq_some_iff.mp H
  obtain ⟨t726, A30, H⟩ := H
  replace H : (if t726 = true then (some true) else ((spec_DrawTableAt.f l0).bind fun bt727 => ((impl_TableAt.f k bt727.1 bt727.2).bind fun bt729 => ((spec_TableAt.f k bt727.1 bt727.2).bind fun bt733 => ((impl_SumOfTable.f k bt727.1 bt727.2).bind fun bt737 => ((spec_SumOfTable.f k bt727.1 bt727.2).bind fun bt739 => (if (bt729.2 != bt733.2) = true then (laws_FnTablesOfArches.j0 k l1 bt727.1 bt727.2 bt729.1 bt733.2 bt737.1 true) else ((laws_sSameRows.f k bt729.1 bt733.1).bind fun t741 => (if t741 = true then (if (bt737.2 != bt739.2) = true then (laws_FnTablesOfArches.j0 k l1 bt727.1 bt727.2 bt729.1 bt733.2 bt737.1 true) else (if bt737.1 = bt739.1 then (laws_FnTablesOfArches.j0 k l1 bt727.1 bt727.2 bt729.1 bt733.2 bt737.1 (bt737.2 != bt729.2)) else (laws_FnTablesOfArches.j0 k l1 bt727.1 bt727.2 bt729.1 bt733.2 bt737.1 true))) else (laws_FnTablesOfArches.j0 k l1 bt727.1 bt727.2 bt729.1 bt733.2 bt737.1 true)))))))))) = some true := H
  have A3 := Aside0.mk A30
  clear A30
  by_cases c4 : t726 = true
  · subst c4
    have H1 : (some true) = some true := by rw [if_pos rfl] at H; first | done | exact H
    clear H
    have H := H1
    clear H1
    clear H
    go_enter Try.func7, Try.ntmps7
    go_wp2_with (first | ((with_reducible refine gate_callee (f := 17) rfl ?_); refine goesL_ (some 58) rfl rfl Try.func17 (by kernel_rfl) rfl #[.slice A0 l0.length c0, .slice A1 l1.length c1] rfl (by (try simp only [List.map_toArray, List.map_cons, List.map_nil]); first | done | rfl | (simp only [List.length_drop, List.length_take]; rfl)) ?_; (with_reducible refine (laws_big.calls _ _ l0 _ _ l1 true _ ?side1 ?side2 ?side3 ?side4 A3.out).mono ?_); (case side1 => repeat (first | exact HR0.out | (with_reducible refine Kd.C_alloc ?_ _) | (with_reducible refine Kd.C_drewN ?_ _) | (with_reducible refine Kd.C_drew ?_))); (case side2 => exact HC0.out); (case side3 => repeat (first | exact HR1.out | (with_reducible refine Kd.C_alloc ?_ _) | (with_reducible refine Kd.C_drewN ?_ _) | (with_reducible refine Kd.C_drew ?_))); (case side4 => exact HC1.out); rintro e w' ⟨rfl, ⟨nd, rfl⟩⟩; refine ⟨_, rfl, ?_⟩))
    go_ret
    exact ⟨by first | rfl | (simp [errW_none, errW_some] <;> rfl) | (simp [*, errW_none, errW_some] <;> rfl), by repeat (first | (with_reducible first | exact HB.out | apply below_alloc | apply pw_below_drewN | apply below_drew1) | exact HB.out)⟩
  · replace c4 := Bool.eq_false_iff.mpr c4
    subst c4
    have H1 : ((spec_DrawTableAt.f l0).bind fun bt727 => ((impl_TableAt.f k bt727.1 bt727.2).bind fun bt729 => ((spec_TableAt.f k bt727.1 bt727.2).bind fun bt733 => ((impl_SumOfTable.f k bt727.1 bt727.2).bind fun bt737 => ((spec_SumOfTable.f k bt727.1 bt727.2).bind fun bt739 => (if (bt729.2 != bt733.2) = true then (laws_FnTablesOfArches.j0 k l1 bt727.1 bt727.2 bt729.1 bt733.2 bt737.1 true) else ((laws_sSameRows.f k bt729.1 bt733.1).bind fun t741 => (if t741 = true then (if (bt737.2 != bt739.2) = true then (laws_FnTablesOfArches.j0 k l1 bt727.1 bt727.2 bt729.1 bt733.2 bt737.1 true) else (if bt737.1 = bt739.1 then (laws_FnTablesOfArches.j0 k l1 bt727.1 bt727.2 bt729.1 bt733.2 bt737.1 (bt737.2 != bt729.2)) else (laws_FnTablesOfArches.j0 k l1 bt727.1 bt727.2 bt729.1 bt733.2 bt737.1 true))) else (laws_FnTablesOfArches.j0 k l1 bt727.1 bt727.2 bt729.1 bt733.2 bt737.1 true))))))))) = some true := by rw [if_neg (show ¬ (false = true) by decide)] at H; first | done | exact H
    clear H
    have H := H1
    clear H1
    replace H := Option.bind_eq_some_iff.mp H
    obtain ⟨⟨t727, t728⟩, A50, H⟩ := H
    replace H : ((impl_TableAt.f k t727 t728).bind fun bt729 => ((spec_TableAt.f k t727 t728).bind fun bt733 => ((impl_SumOfTable.f k t727 t728).bind fun bt737 => ((spec_SumOfTable.f k t727 t728).bind fun bt739 => (if (bt729.2 != bt733.2) = true then (laws_FnTablesOfArches.j0 k l1 t727 t728 bt729.1 bt733.2 bt737.1 true) else ((laws_sSameRows.f k bt729.1 bt733.1).bind fun t741 => (if t741 = true then (if (bt737.2 != bt739.2) = true then (laws_FnTablesOfArches.j0 k l1 t727 t728 bt729.1 bt733.2 bt737.1 true) else (if bt737.1 = bt739.1 then (laws_FnTablesOfArches.j0 k l1 t727 t728 bt729.1 bt733.2 bt737.1 (bt737.2 != bt729.2)) else (laws_FnTablesOfArches.j0 k l1 t727 t728 bt729.1 bt733.2 bt737.1 true))) else (laws_FnTablesOfArches.j0 k l1 t727 t728 bt729.1 bt733.2 bt737.1 true)))))))) = some true := H
    have A5 := Aside0.mk A50
    clear A50
    replace H := Option.bind_eq_some_iff.mp H
    obtain ⟨⟨t729, t730⟩, A60, H⟩ := H
    replace H : ((spec_TableAt.f k t727 t728).bind fun bt733 => ((impl_SumOfTable.f k t727 t728).bind fun bt737 => ((spec_SumOfTable.f k t727 t728).bind fun bt739 => (if (t730 != bt733.2) = true then (laws_FnTablesOfArches.j0 k l1 t727 t728 t729 bt733.2 bt737.1 true) else ((laws_sSameRows.f k t729 bt733.1).bind fun t741 => (if t741 = true then (if (bt737.2 != bt739.2) = true then (laws_FnTablesOfArches.j0 k l1 t727 t728 t729 bt733.2 bt737.1 true) else (if bt737.1 = bt739.1 then (laws_FnTablesOfArches.j0 k l1 t727 t728 t729 bt733.2 bt737.1 (bt737.2 != t730)) else (laws_FnTablesOfArches.j0 k l1 t727 t728 t729 bt733.2 bt737.1 true))) else (laws_FnTablesOfArches.j0 k l1 t727 t728 t729 bt733.2 bt737.1 true))))))) = some true := H
    have A6 := Aside0.mk A60
    clear A60
    replace H := Option.bind_eq_some_iff.mp H
    obtain ⟨⟨t733, t734⟩, A70, H⟩ := H
    replace H : ((impl_SumOfTable.f k t727 t728).bind fun bt737 => ((spec_SumOfTable.f k t727 t728).bind fun bt739 => (if (t730 != t734) = true then (laws_FnTablesOfArches.j0 k l1 t727 t728 t729 t734 bt737.1 true) else ((laws_sSameRows.f k t729 t733).bind fun t741 => (if t741 = true then (if (bt737.2 != bt739.2) = true then (laws_FnTablesOfArches.j0 k l1 t727 t728 t729 t734 bt737.1 true) else (if bt737.1 = bt739.1 then (laws_FnTablesOfArches.j0 k l1 t727 t728 t729 t734 bt737.1 (bt737.2 != t730)) else (laws_FnTablesOfArches.j0 k l1 t727 t728 t729 t734 bt737.1 true))) else (laws_FnTablesOfArches.j0 k l1 t727 t728 t729 t734 bt737.1 true)))))) = some true := H
    have A7 := Aside0.mk A70
    clear A70
    replace H := Option.bind_eq_some_iff.mp H
    obtain ⟨⟨t737, t738⟩, A80, H⟩ := H
    replace H : ((spec_SumOfTable.f k t727 t728).bind fun bt739 => (if (t730 != t734) = true then (laws_FnTablesOfArches.j0 k l1 t727 t728 t729 t734 t737 true) else ((laws_sSameRows.f k t729 t733).bind fun t741 => (if t741 = true then (if (t738 != bt739.2) = true then (laws_FnTablesOfArches.j0 k l1 t727 t728 t729 t734 t737 true) else (if t737 = bt739.1 then (laws_FnTablesOfArches.j0 k l1 t727 t728 t729 t734 t737 (t738 != t730)) else (laws_FnTablesOfArches.j0 k l1 t727 t728 t729 t734 t737 true))) else (laws_FnTablesOfArches.j0 k l1 t727 t728 t729 t734 t737 true))))) = some true := H
    have A8 := Aside0.mk A80
    clear A80
    replace H := Option.bind_eq_some_iff.mp H
    obtain ⟨⟨t739, t740⟩, A90, H⟩ := H
    replace H : (if (t730 != t734) = true then (laws_FnTablesOfArches.j0 k l1 t727 t728 t729 t734 t737 true) else ((laws_sSameRows.f k t729 t733).bind fun t741 => (if t741 = true then (if (t738 != t740) = true then (laws_FnTablesOfArches.j0 k l1 t727 t728 t729 t734 t737 true) else (if t737 = t739 then (laws_FnTablesOfArches.j0 k l1 t727 t728 t729 t734 t737 (t738 != t730)) else (laws_FnTablesOfArches.j0 k l1 t727 t728 t729 t734 t737 true))) else (laws_FnTablesOfArches.j0 k l1 t727 t728 t729 t734 t737 true)))) = some true := H
    have A9 := Aside0.mk A90
    clear A90
    have HC10 := Aside0.mk H
    clear H
    go_enter Try.func7, Try.ntmps7
    go_upto_region 8 with (first | ((with_reducible refine gate_callee (f := 17) rfl ?_); refine goesL_ (some 58) rfl rfl Try.func17 (by kernel_rfl) rfl #[.slice A0 l0.length c0, .slice A1 l1.length c1] rfl (by (try simp only [List.map_toArray, List.map_cons, List.map_nil]); first | done | rfl | (simp only [List.length_drop, List.length_take]; rfl)) ?_; (with_reducible refine (laws_big.calls _ _ l0 _ _ l1 false _ ?side1 ?side2 ?side3 ?side4 A3.out).mono ?_); (case side1 => repeat (first | exact HR0.out | (with_reducible refine Kd.C_alloc ?_ _) | (with_reducible refine Kd.C_drewN ?_ _) | (with_reducible refine Kd.C_drew ?_))); (case side2 => exact HC0.out); (case side3 => repeat (first | exact HR1.out | (with_reducible refine Kd.C_alloc ?_ _) | (with_reducible refine Kd.C_drewN ?_ _) | (with_reducible refine Kd.C_drew ?_))); (case side4 => exact HC1.out); rintro e w' ⟨rfl, ⟨nd, rfl⟩⟩; refine ⟨_, rfl, ?_⟩) | ((with_reducible refine gate_callee (f := 27) rfl ?_); refine goesL_ (some 61) rfl rfl Try.func27 (by kernel_rfl) rfl #[.slice A0 l0.length c0] rfl (by (try simp only [List.map_toArray, List.map_cons, List.map_nil]); first | done | rfl | (simp only [List.length_drop, List.length_take]; rfl)) ?_; (with_reducible refine (spec_DrawTableAt.calls _ _ l0 t727 t728 _ ?side1 ?side2 A5.out).mono ?_); (case side1 => repeat (first | exact HR0.out | (with_reducible refine Kd.C_alloc ?_ _) | (with_reducible refine Kd.C_drewN ?_ _) | (with_reducible refine Kd.C_drew ?_))); (case side2 => exact HC0.out); rintro e w11 ⟨rfl, hb⟩; refine ⟨_, rfl, ?_⟩; have n0_ := Aside0.mk (below_step (by repeat (first | (with_reducible first | exact HB.out | apply below_alloc | apply pw_below_drewN | apply below_drew1) | exact HB.out)) hb); clear HB; have HB := n0_; clear n0_; (try clear hb); (try clear hb2); (try clear hk); (try clear hi)) | ((with_reducible refine gate_callee (f := 28) rfl ?_); refine goesL_ (some 67) rfl rfl Try.func28 (by kernel_rfl) rfl #[.int .i64 t727, .int .i64 t728] rfl (by (try simp only [List.map_toArray, List.map_cons, List.map_nil]); first | done | rfl | (simp only [List.length_drop, List.length_take]; rfl)) ?_; (with_reducible refine (impl_TableAt.calls k t727 t728 t729 t730 _ A6.out).mono ?_); rintro e w12 ⟨v731, rfl, ho0, hb⟩; refine ⟨_, rfl, ?_⟩; have n0_ := Aside0.mk (Kd.S_lower ho0 (below_size (by repeat (first | (with_reducible first | exact HB.out | apply below_alloc | apply pw_below_drewN | apply below_drew1) | exact HB.out)))); have n1_ := Aside0.mk (below_step (by repeat (first | (with_reducible first | exact HB.out | apply below_alloc | apply pw_below_drewN | apply below_drew1) | exact HB.out)) hb); clear HB; have HO732 := n0_; have HB := n1_; clear n0_ n1_; (try clear hb); (try clear hb2); (try clear hk); (try clear hi); (try clear ho0)) | ((with_reducible refine gate_callee (f := 29) rfl ?_); refine goesL_ (some 73) rfl rfl Try.func29 (by kernel_rfl) rfl #[.int .i64 t727, .int .i64 t728] rfl (by (try simp only [List.map_toArray, List.map_cons, List.map_nil]); first | done | rfl | (simp only [List.length_drop, List.length_take]; rfl)) ?_; (with_reducible refine (spec_TableAt.calls k t727 t728 t733 t734 _ A7.out).mono ?_); rintro e w13 ⟨v735, rfl, ho0, hb⟩; refine ⟨_, rfl, ?_⟩; have n0_ := Aside0.mk (Kd.S_elder' (by (with_reducible repeat (first | apply Kd.S_alloc | apply Kd.S_drewN | apply Kd.S_drew)); exact HO732.out) (Kd.S_base ho0) hb); have n1_ := Aside0.mk (Kd.S_lower (Kd.S_new' ho0 (Kd.S_lt (by (with_reducible repeat (first | apply Kd.S_alloc | apply Kd.S_drewN | apply Kd.S_drew)); exact HO732.out))) (below_size (by repeat (first | (with_reducible first | exact HB.out | apply below_alloc | apply pw_below_drewN | apply below_drew1) | exact HB.out)))); have n2_ := Aside0.mk (below_step (by repeat (first | (with_reducible first | exact HB.out | apply below_alloc | apply pw_below_drewN | apply below_drew1) | exact HB.out)) hb); clear HO732; clear HB; have HO732 := n0_; have HO736 := n1_; have HB := n2_; clear n0_ n1_ n2_; (try clear hb); (try clear hb2); (try clear hk); (try clear hi); (try clear ho0)) | ((with_reducible refine gate_callee (f := 30) rfl ?_); refine goesL_ (some 79) rfl rfl Try.func30 (by kernel_rfl) rfl #[.int .i64 t727, .int .i64 t728] rfl (by (try simp only [List.map_toArray, List.map_cons, List.map_nil]); first | done | rfl | (simp only [List.length_drop, List.length_take]; rfl)) ?_; (with_reducible refine (impl_SumOfTable.calls k t727 t728 t737 t738 _ A8.out).mono ?_); rintro e w14 ⟨rfl, hb⟩; refine ⟨_, rfl, ?_⟩; have n0_ := Aside0.mk (Kd.S_below (by (with_reducible repeat (first | apply Kd.S_alloc | apply Kd.S_drewN | apply Kd.S_drew)); exact HO732.out) hb); have n1_ := Aside0.mk (Kd.S_below (by (with_reducible repeat (first | apply Kd.S_alloc | apply Kd.S_drewN | apply Kd.S_drew)); exact HO736.out) hb); have n2_ := Aside0.mk (below_step (by repeat (first | (with_reducible first | exact HB.out | apply below_alloc | apply pw_below_drewN | apply below_drew1) | exact HB.out)) hb); clear HO732; clear HO736; clear HB; have HO732 := n0_; have HO736 := n1_; have HB := n2_; clear n0_ n1_ n2_; (try clear hb); (try clear hb2); (try clear hk); (try clear hi)) | ((with_reducible refine gate_callee (f := 31) rfl ?_); refine goesL_ (some 85) rfl rfl Try.func31 (by kernel_rfl) rfl #[.int .i64 t727, .int .i64 t728] rfl (by (try simp only [List.map_toArray, List.map_cons, List.map_nil]); first | done | rfl | (simp only [List.length_drop, List.length_take]; rfl)) ?_; (with_reducible refine (spec_SumOfTable.calls k t727 t728 t739 t740 _ A9.out).mono ?_); rintro e w15 ⟨rfl, hb⟩; refine ⟨_, rfl, ?_⟩; have n0_ := Aside0.mk (Kd.S_below (by (with_reducible repeat (first | apply Kd.S_alloc | apply Kd.S_drewN | apply Kd.S_drew)); exact HO732.out) hb); have n1_ := Aside0.mk (Kd.S_below (by (with_reducible repeat (first | apply Kd.S_alloc | apply Kd.S_drewN | apply Kd.S_drew)); exact HO736.out) hb); have n2_ := Aside0.mk (below_step (by repeat (first | (with_reducible first | exact HB.out | apply below_alloc | apply pw_below_drewN | apply below_drew1) | exact HB.out)) hb); clear HO732; clear HO736; clear HB; have HO732 := n0_; have HO736 := n1_; have HB := n2_; clear n0_ n1_ n2_; (try clear hb); (try clear hb2); (try clear hk); (try clear hi)))
    (try simp only [Act.put, List.setIfInBounds_toArray, List.set_cons_zero, List.set_cons_succ])
    go_cut [111] from 56 to 111 (fun v111 wc => ∃ (kq : Nat) (x111_9 : Bool), v111 = .bool x111_9 ∧ Aside0 (laws_FnTablesOfArches.j0 kq l1 t727 t728 t729 t734 t737 x111_9 = some true) ∧ Aside0 (kq ≤ k) ∧ Aside0 (Kd.S (Kd.slice 3 (Kd.int .i64)) 35 wc w.heap.size (fun _ => True) v731 t729) ∧ Aside0 (Below w.heap.size w wc))
    case first =>
      have H := HC10.out
      clear HC10
      by_cases c16 : (t730 != t734) = true
      · rw [if_pos c16] at H
        have c16b0 : (t730 != t734) = true := c16
        (try (have c16b1 : decide (t730 = t734) = false := by simpa using c16))
        (try (have c16b2 : (t730 == t734) = false := by simpa using c16))
        (try (have c16b3 : ¬ (t730 = t734) := by simpa using c16))
        clear c16
        (first | rw [c16b0] | (simp only [i64_w, i32_w]; rw [c16b0]) | skip)
        have H' := Aside0.mk H
        clear H
        go_wp2
        go_meet
        case rel => exact ⟨_, (true), (by first | rfl | (simp; done) | (simp [*]; done)), H', ⟨by first | omega | exact Nat.le_refl _⟩, ⟨by (with_reducible repeat (first | apply Kd.S_alloc | apply Kd.S_drewN | apply Kd.S_drew)); exact Kd.S_mono HO732.out (fun _ hk => trivial)⟩, ⟨by repeat (first | (with_reducible first | exact HB.out | apply below_alloc | apply pw_below_drewN | apply below_drew1) | exact HB.out)⟩⟩
      · rw [if_neg c16] at H
        have c16b0 : (t730 != t734) = false := by simpa using c16
        (try (have c16b1 : decide (t730 = t734) = true := by simpa using c16))
        (try (have c16b2 : (t730 == t734) = true := by simpa using c16))
        clear c16
        (first | rw [c16b0] | (simp only [i64_w, i32_w]; rw [c16b0]) | skip)
        replace H := Option.bind_eq_some_iff.mp H
        obtain ⟨t741, A170, H⟩ := H
        replace H : (if t741 = true then (if (t738 != t740) = true then (laws_FnTablesOfArches.j0 k l1 t727 t728 t729 t734 t737 true) else (if t737 = t739 then (laws_FnTablesOfArches.j0 k l1 t727 t728 t729 t734 t737 (t738 != t730)) else (laws_FnTablesOfArches.j0 k l1 t727 t728 t729 t734 t737 true))) else (laws_FnTablesOfArches.j0 k l1 t727 t728 t729 t734 t737 true)) = some true := H
        have A17 := Aside0.mk A170
        clear A170
        by_cases c18 : t741 = true
        · subst c18
          have H1 : (if (t738 != t740) = true then (laws_FnTablesOfArches.j0 k l1 t727 t728 t729 t734 t737 true) else (if t737 = t739 then (laws_FnTablesOfArches.j0 k l1 t727 t728 t729 t734 t737 (t738 != t730)) else (laws_FnTablesOfArches.j0 k l1 t727 t728 t729 t734 t737 true))) = some true := by rw [if_pos rfl] at H; first | done | exact H
          clear H
          have H := H1
          clear H1
          by_cases c19 : (t738 != t740) = true
          · rw [if_pos c19] at H
            have c19b0 : (t738 != t740) = true := c19
            (try (have c19b1 : decide (t738 = t740) = false := by simpa using c19))
            (try (have c19b2 : (t738 == t740) = false := by simpa using c19))
            (try (have c19b3 : ¬ (t738 = t740) := by simpa using c19))
            clear c19
            have H' := Aside0.mk H
            clear H
            obtain ⟨Ao20, co20, eo20⟩ := Kd.S_slice HO732.out
            subst eo20
            obtain ⟨Ao21, co21, eo21⟩ := Kd.S_slice HO736.out
            subst eo21
            go_wp2_with (first | (go_at_call 22; (with_reducible refine (laws_sSameRows.calls k _ _ t729 _ _ t733 true _ ?side1 ?side2 ?side3 ?side4 A17.out).mono ?_); (case side1 => repeat (first | exact (Kd.S_reads' HO732.out).2.2 | (with_reducible refine Kd.C_alloc ?_ _) | (with_reducible refine Kd.C_drewN ?_ _) | (with_reducible refine Kd.C_drew ?_))); (case side2 => exact (Kd.S_reads' HO732.out).2.1); (case side3 => repeat (first | exact (Kd.S_reads' HO736.out).2.2 | (with_reducible refine Kd.C_alloc ?_ _) | (with_reducible refine Kd.C_drewN ?_ _) | (with_reducible refine Kd.C_drew ?_))); (case side4 => exact (Kd.S_reads' HO736.out).2.1); rintro e w' ⟨rfl, ⟨nd, rfl⟩⟩))
            go_meet
            case rel => exact ⟨_, (true), (by first | rfl | (simp; done) | (simp [*]; done)), H', ⟨by first | omega | exact Nat.le_refl _⟩, ⟨by (with_reducible repeat (first | apply Kd.S_alloc | apply Kd.S_drewN | apply Kd.S_drew)); exact Kd.S_mono HO732.out (fun _ hk => trivial)⟩, ⟨by repeat (first | (with_reducible first | exact HB.out | apply below_alloc | apply pw_below_drewN | apply below_drew1) | exact HB.out)⟩⟩
          · rw [if_neg c19] at H
            have c19b0 : (t738 != t740) = false := by simpa using c19
            (try (have c19b1 : decide (t738 = t740) = true := by simpa using c19))
            (try (have c19b2 : (t738 == t740) = true := by simpa using c19))
            clear c19
            by_cases c22 : t737 = t739
            · rw [if_pos c22] at H
              have c22b0 : (t737 == t739) = true := beq_iff_eq.mpr c22
              have c22b1 : (t737 != t739) = false := bne_eq_false_iff_eq.mpr c22
              clear c22
              have H' := Aside0.mk H
              clear H
              obtain ⟨Ao23, co23, eo23⟩ := Kd.S_slice HO732.out
              subst eo23
              obtain ⟨Ao24, co24, eo24⟩ := Kd.S_slice HO736.out
              subst eo24
              go_wp2_with (first | (go_at_call 22; (with_reducible refine (laws_sSameRows.calls k _ _ t729 _ _ t733 true _ ?side1 ?side2 ?side3 ?side4 A17.out).mono ?_); (case side1 => repeat (first | exact (Kd.S_reads' HO732.out).2.2 | (with_reducible refine Kd.C_alloc ?_ _) | (with_reducible refine Kd.C_drewN ?_ _) | (with_reducible refine Kd.C_drew ?_))); (case side2 => exact (Kd.S_reads' HO732.out).2.1); (case side3 => repeat (first | exact (Kd.S_reads' HO736.out).2.2 | (with_reducible refine Kd.C_alloc ?_ _) | (with_reducible refine Kd.C_drewN ?_ _) | (with_reducible refine Kd.C_drew ?_))); (case side4 => exact (Kd.S_reads' HO736.out).2.1); rintro e w' ⟨rfl, ⟨nd, rfl⟩⟩))
              go_meet
              case rel => exact ⟨_, ((t738 != t730)), (by first | rfl | (simp; done) | (simp [*]; done)), H', ⟨by first | omega | exact Nat.le_refl _⟩, ⟨by (with_reducible repeat (first | apply Kd.S_alloc | apply Kd.S_drewN | apply Kd.S_drew)); exact Kd.S_mono HO732.out (fun _ hk => trivial)⟩, ⟨by repeat (first | (with_reducible first | exact HB.out | apply below_alloc | apply pw_below_drewN | apply below_drew1) | exact HB.out)⟩⟩
            · rw [if_neg c22] at H
              have c22b0 : (t737 == t739) = false := beq_eq_false_iff_ne.mpr c22
              have c22b1 : (t737 != t739) = true := bne_iff_ne.mpr c22
              have H' := Aside0.mk H
              clear H
              obtain ⟨Ao25, co25, eo25⟩ := Kd.S_slice HO732.out
              subst eo25
              obtain ⟨Ao26, co26, eo26⟩ := Kd.S_slice HO736.out
              subst eo26
              go_wp2_with (first | (go_at_call 22; (with_reducible refine (laws_sSameRows.calls k _ _ t729 _ _ t733 true _ ?side1 ?side2 ?side3 ?side4 A17.out).mono ?_); (case side1 => repeat (first | exact (Kd.S_reads' HO732.out).2.2 | (with_reducible refine Kd.C_alloc ?_ _) | (with_reducible refine Kd.C_drewN ?_ _) | (with_reducible refine Kd.C_drew ?_))); (case side2 => exact (Kd.S_reads' HO732.out).2.1); (case side3 => repeat (first | exact (Kd.S_reads' HO736.out).2.2 | (with_reducible refine Kd.C_alloc ?_ _) | (with_reducible refine Kd.C_drewN ?_ _) | (with_reducible refine Kd.C_drew ?_))); (case side4 => exact (Kd.S_reads' HO736.out).2.1); rintro e w' ⟨rfl, ⟨nd, rfl⟩⟩))
              go_meet
              case rel => exact ⟨_, (true), (by first | rfl | (simp; done) | (simp [*]; done)), H', ⟨by first | omega | exact Nat.le_refl _⟩, ⟨by (with_reducible repeat (first | apply Kd.S_alloc | apply Kd.S_drewN | apply Kd.S_drew)); exact Kd.S_mono HO732.out (fun _ hk => trivial)⟩, ⟨by repeat (first | (with_reducible first | exact HB.out | apply below_alloc | apply pw_below_drewN | apply below_drew1) | exact HB.out)⟩⟩
        · replace c18 := Bool.eq_false_iff.mpr c18
          subst c18
          have H1 : (laws_FnTablesOfArches.j0 k l1 t727 t728 t729 t734 t737 true) = some true := by rw [if_neg (show ¬ (false = true) by decide)] at H; first | done | exact H
          clear H
          have H := H1
          clear H1
          have H' := Aside0.mk H
          clear H
          obtain ⟨Ao27, co27, eo27⟩ := Kd.S_slice HO732.out
          subst eo27
          obtain ⟨Ao28, co28, eo28⟩ := Kd.S_slice HO736.out
          subst eo28
          go_wp2_with (first | (go_at_call 22; (with_reducible refine (laws_sSameRows.calls k _ _ t729 _ _ t733 false _ ?side1 ?side2 ?side3 ?side4 A17.out).mono ?_); (case side1 => repeat (first | exact (Kd.S_reads' HO732.out).2.2 | (with_reducible refine Kd.C_alloc ?_ _) | (with_reducible refine Kd.C_drewN ?_ _) | (with_reducible refine Kd.C_drew ?_))); (case side2 => exact (Kd.S_reads' HO732.out).2.1); (case side3 => repeat (first | exact (Kd.S_reads' HO736.out).2.2 | (with_reducible refine Kd.C_alloc ?_ _) | (with_reducible refine Kd.C_drewN ?_ _) | (with_reducible refine Kd.C_drew ?_))); (case side4 => exact (Kd.S_reads' HO736.out).2.1); rintro e w' ⟨rfl, ⟨nd, rfl⟩⟩))
          go_meet
          case rel => exact ⟨_, (true), (by first | rfl | (simp; done) | (simp [*]; done)), H', ⟨by first | omega | exact Nat.le_refl _⟩, ⟨by (with_reducible repeat (first | apply Kd.S_alloc | apply Kd.S_drewN | apply Kd.S_drew)); exact Kd.S_mono HO732.out (fun _ hk => trivial)⟩, ⟨by repeat (first | (with_reducible first | exact HB.out | apply below_alloc | apply pw_below_drewN | apply below_drew1) | exact HB.out)⟩⟩
    case rest =>
      clear HC10
      try clear c1
      try clear c2
      try clear p2
      try clear c3
      try clear c4
      try clear c7
      try clear c16
      try clear c16b0
      try clear c16b1
      try clear c16b2
      try clear c17
      try clear c18
      try clear c19
      try clear c19b0
      try clear c19b1
      try clear c19b2
      try clear c22
      try clear c22b0
      try clear c22b1
      try clear c27
      try clear c28
      obtain ⟨kq, x111_9, rfl, HA, HJ9, HO_7, HB⟩ := hcut
      as_aux_lemma =>
        cases kq with
        | zero => exact absurd HA.out (by simp [laws_FnTablesOfArches.j0])
        | succ kj9 =>
          have H := HA.out
          clear HA
          simp only [laws_FnTablesOfArches.j0] at H
          by_cases c29 : x111_9 = true
          · subst c29
            have H1 : (some false) = some true := by rw [if_pos rfl] at H; first | done | exact H
            clear H
            have H := H1
            clear H1
            exact absurd H (by simp)
          · replace c29 := Bool.eq_false_iff.mpr c29
            subst c29
            have H1 : ((spec_DrawProductDeterminant.f l1).bind fun bt742 => ((impl_ProductDeterminant.f kj9 bt742.1 bt742.2).bind fun bt744 => ((spec_ProductDeterminant.f kj9 bt742.1 bt742.2).bind fun bt746 => (if (bt744.2 != bt746.2) = true then (laws_FnTablesOfArches.j1 kj9 l1 t727 t728 t729 t734 t737 bt742.1 bt742.2 bt744.1 bt744.2 true) else (laws_FnTablesOfArches.j1 kj9 l1 t727 t728 t729 t734 t737 bt742.1 bt742.2 bt744.1 bt744.2 (bt744.1 != bt746.1)))))) = some true := by rw [if_neg (show ¬ (false = true) by decide)] at H; first | done | exact H
            clear H
            have H := H1
            clear H1
            replace H := Option.bind_eq_some_iff.mp H
            obtain ⟨⟨t742, t743⟩, A300, H⟩ := H
            replace H : ((impl_ProductDeterminant.f kj9 t742 t743).bind fun bt744 => ((spec_ProductDeterminant.f kj9 t742 t743).bind fun bt746 => (if (bt744.2 != bt746.2) = true then (laws_FnTablesOfArches.j1 kj9 l1 t727 t728 t729 t734 t737 t742 t743 bt744.1 bt744.2 true) else (laws_FnTablesOfArches.j1 kj9 l1 t727 t728 t729 t734 t737 t742 t743 bt744.1 bt744.2 (bt744.1 != bt746.1))))) = some true := H
            have A30 := Aside0.mk A300
            clear A300
            replace H := Option.bind_eq_some_iff.mp H
            obtain ⟨⟨t744, t745⟩, A310, H⟩ := H
            replace H : ((spec_ProductDeterminant.f kj9 t742 t743).bind fun bt746 => (if (t745 != bt746.2) = true then (laws_FnTablesOfArches.j1 kj9 l1 t727 t728 t729 t734 t737 t742 t743 t744 t745 true) else (laws_FnTablesOfArches.j1 kj9 l1 t727 t728 t729 t734 t737 t742 t743 t744 t745 (t744 != bt746.1)))) = some true := H
            have A31 := Aside0.mk A310
            clear A310
            replace H := Option.bind_eq_some_iff.mp H
            obtain ⟨⟨t746, t747⟩, A320, H⟩ := H
            replace H : (if (t745 != t747) = true then (laws_FnTablesOfArches.j1 kj9 l1 t727 t728 t729 t734 t737 t742 t743 t744 t745 true) else (laws_FnTablesOfArches.j1 kj9 l1 t727 t728 t729 t734 t737 t742 t743 t744 t745 (t744 != t746))) = some true := H
            have A32 := Aside0.mk A320
            clear A320
            have HC33 := Aside0.mk H
            clear H
            go_upto_region 13 with (first | ((with_reducible refine gate_callee (f := 32) rfl ?_); refine goesL_ (some 114) rfl rfl Try.func32 (by kernel_rfl) rfl #[.slice A1 l1.length c1] rfl (by (try simp only [List.map_toArray, List.map_cons, List.map_nil]); first | done | rfl | (simp only [List.length_drop, List.length_take]; rfl)) ?_; (with_reducible refine (spec_DrawProductDeterminant.calls _ _ l1 t742 t743 _ ?side1 ?side2 A30.out).mono ?_); (case side1 => repeat (first | exact (Kd.C_below HR1.out HB.out) | (with_reducible refine Kd.C_alloc ?_ _) | (with_reducible refine Kd.C_drewN ?_ _) | (with_reducible refine Kd.C_drew ?_))); (case side2 => exact HC1.out); rintro e w34 ⟨rfl, hb⟩; refine ⟨_, rfl, ?_⟩; have n0_ := Aside0.mk (Kd.S_below (by (with_reducible repeat (first | apply Kd.S_alloc | apply Kd.S_drewN | apply Kd.S_drew)); exact HO_7.out) hb); have n1_ := Aside0.mk (below_step (by repeat (first | (with_reducible first | exact HB.out | apply below_alloc | apply pw_below_drewN | apply below_drew1) | exact HB.out)) hb); clear HO_7; clear HB; have HO_7 := n0_; have HB := n1_; clear n0_ n1_; (try clear hb); (try clear hb2); (try clear hk); (try clear hi)) | ((with_reducible refine gate_callee (f := 33) rfl ?_); refine goesL_ (some 120) rfl rfl Try.func33 (by kernel_rfl) rfl #[.int .i64 t742, .int .i64 t743] rfl (by (try simp only [List.map_toArray, List.map_cons, List.map_nil]); first | done | rfl | (simp only [List.length_drop, List.length_take]; rfl)) ?_; (with_reducible refine (impl_ProductDeterminant.calls kj9 t742 t743 t744 t745 _ A31.out).mono ?_); rintro e w' ⟨rfl, ⟨nd, rfl⟩⟩; refine ⟨_, rfl, ?_⟩) | ((with_reducible refine gate_callee (f := 34) rfl ?_); refine goesL_ (some 126) rfl rfl Try.func34 (by kernel_rfl) rfl #[.int .i64 t742, .int .i64 t743] rfl (by (try simp only [List.map_toArray, List.map_cons, List.map_nil]); first | done | rfl | (simp only [List.length_drop, List.length_take]; rfl)) ?_; (with_reducible refine (spec_ProductDeterminant.calls kj9 t742 t743 t746 t747 _ A32.out).mono ?_); rintro e w' ⟨rfl, ⟨nd, rfl⟩⟩; refine ⟨_, rfl, ?_⟩))
            (try simp only [Act.put, List.setIfInBounds_toArray, List.set_cons_zero, List.set_cons_succ])
            go_cut [136] from 112 to 136 (fun v136 wc => ∃ (kq : Nat) (x136_32 : Bool), v136 = .bool x136_32 ∧ Aside0 (laws_FnTablesOfArches.j1 kq l1 t727 t728 t729 t734 t737 t742 t743 t744 t745 x136_32 = some true) ∧ Aside0 (kq ≤ kj9) ∧ Aside0 (Kd.S (Kd.slice 3 (Kd.int .i64)) 35 wc w.heap.size (fun _ => True) v731 t729) ∧ Aside0 (Below w.heap.size w wc))
            case first =>
              have H := HC33.out
              clear HC33
              by_cases c35 : (t745 != t747) = true
              · rw [if_pos c35] at H
                have c35b0 : (t745 != t747) = true := c35
                (try (have c35b1 : decide (t745 = t747) = false := by simpa using c35))
                (try (have c35b2 : (t745 == t747) = false := by simpa using c35))
                (try (have c35b3 : ¬ (t745 = t747) := by simpa using c35))
                clear c35
                (first | rw [c35b0] | (simp only [i64_w, i32_w]; rw [c35b0]) | skip)
                have H' := Aside0.mk H
                clear H
                go_wp2
                go_meet
                case rel => exact ⟨_, (true), (by first | rfl | (simp; done) | (simp [*]; done)), H', ⟨by have := HJ9.out; first | omega | exact Nat.le_refl _⟩, ⟨by (with_reducible repeat (first | apply Kd.S_alloc | apply Kd.S_drewN | apply Kd.S_drew)); exact HO_7.out⟩, ⟨by repeat (first | (with_reducible first | exact HB.out | apply below_alloc | apply pw_below_drewN | apply below_drew1) | exact HB.out)⟩⟩
              · rw [if_neg c35] at H
                have c35b0 : (t745 != t747) = false := by simpa using c35
                (try (have c35b1 : decide (t745 = t747) = true := by simpa using c35))
                (try (have c35b2 : (t745 == t747) = true := by simpa using c35))
                clear c35
                (first | rw [c35b0] | (simp only [i64_w, i32_w]; rw [c35b0]) | skip)
                have H' := Aside0.mk H
                clear H
                go_wp2
                go_meet
                case rel => exact ⟨_, ((t744 != t746)), (by first | rfl | (simp; done) | (simp [*]; done)), H', ⟨by have := HJ9.out; first | omega | exact Nat.le_refl _⟩, ⟨by (with_reducible repeat (first | apply Kd.S_alloc | apply Kd.S_drewN | apply Kd.S_drew)); exact HO_7.out⟩, ⟨by repeat (first | (with_reducible first | exact HB.out | apply below_alloc | apply pw_below_drewN | apply below_drew1) | exact HB.out)⟩⟩
            case rest =>
              clear HC33
              try clear c1
              try clear c2
              try clear p2
              try clear c3
              try clear c4
              try clear c7
              try clear c16
              try clear c16b0
              try clear c16b1
              try clear c16b2
              try clear c17
              try clear c18
              try clear c19
              try clear c19b0
              try clear c19b1
              try clear c19b2
              try clear c22
              try clear c22b0
              try clear c22b1
              try clear c27
              try clear c28
              try clear c29
              try clear c30
              try clear c31
              try clear c32
              try clear c33
              try clear c34
              try clear c35
              try clear c35b0
              try clear c35b1
              try clear c35b2
              try clear p2
              obtain ⟨kq, x136_32, rfl, HA, HJ32, HO_7, HB⟩ := hcut
              as_aux_lemma =>
                cases kq with
                | zero => exact absurd HA.out (by simp [laws_FnTablesOfArches.j1])
                | succ kj32 =>
                  have H := HA.out
                  clear HA
                  simp only [laws_FnTablesOfArches.j1] at H
                  by_cases c36 : x136_32 = true
                  · subst c36
                    have H1 : (some false) = some true := by rw [if_pos rfl] at H; first | done | exact H
                    clear H
                    have H := H1
                    clear H1
                    exact absurd H (by simp)
                  · replace c36 := Bool.eq_false_iff.mpr c36
                    subst c36
                    have H1 : (if t745 = true then ((impl_TableAt.f kj32 t742 t743).bind fun bt748 => ((impl_DeterminantOf.f kj32 bt748.1).bind fun bt752 => ((impl_RankOf.f kj32 bt748.1).bind fun bt754 => (laws_FnTablesOfArches.l0 kj32 l1 t727 t728 t729 t734 t737 t742 t743 t744 bt748.1 bt748.2 bt752.1 bt752.2 bt754.1 bt754.2 1 1)))) else (laws_FnTablesOfArches.j3 kj32 l1 t727 t728 t729 t734 t737)) = some true := by rw [if_neg (show ¬ (false = true) by decide)] at H; first | done | exact H
                    clear H
                    have H := H1
                    clear H1
                    have HC37 := Aside0.mk H
                    clear H
                    go_upto_if 137 with (fail)
                    go_cut [] from 137 to 138 (fun wc => ∃ (kq : Nat), Aside0 (laws_FnTablesOfArches.j3 kq l1 t727 t728 t729 t734 t737 = some true) ∧ Aside0 (kq ≤ kj32) ∧ Aside0 (Kd.S (Kd.slice 3 (Kd.int .i64)) 35 wc w.heap.size (fun _ => True) v731 t729) ∧ Aside0 (Below w.heap.size w wc))
                    case first =>
                      have H := HC37.out
                      clear HC37
                      by_cases c38 : t745 = true
                      · subst c38
                        have H1 : ((impl_TableAt.f kj32 t742 t743).bind fun bt748 => ((impl_DeterminantOf.f kj32 bt748.1).bind fun bt752 => ((impl_RankOf.f kj32 bt748.1).bind fun bt754 => (laws_FnTablesOfArches.l0 kj32 l1 t727 t728 t729 t734 t737 t742 t743 t744 bt748.1 bt748.2 bt752.1 bt752.2 bt754.1 bt754.2 1 1)))) = some true := by rw [if_pos rfl] at H; first | done | exact H
                        clear H
                        have H := H1
                        clear H1
                        replace H := Option.bind_eq_some_iff.mp H
                        obtain ⟨⟨t748, t749⟩, A390, H⟩ := H
                        replace H : ((impl_DeterminantOf.f kj32 t748).bind fun bt752 => ((impl_RankOf.f kj32 t748).bind fun bt754 => (laws_FnTablesOfArches.l0 kj32 l1 t727 t728 t729 t734 t737 t742 t743 t744 t748 t749 bt752.1 bt752.2 bt754.1 bt754.2 1 1))) = some true := H
                        have A39 := Aside0.mk A390
                        clear A390
                        replace H := Option.bind_eq_some_iff.mp H
                        obtain ⟨⟨t752, t753⟩, A400, H⟩ := H
                        replace H : ((impl_RankOf.f kj32 t748).bind fun bt754 => (laws_FnTablesOfArches.l0 kj32 l1 t727 t728 t729 t734 t737 t742 t743 t744 t748 t749 t752 t753 bt754.1 bt754.2 1 1)) = some true := H
                        have A40 := Aside0.mk A400
                        clear A400
                        replace H := Option.bind_eq_some_iff.mp H
                        obtain ⟨⟨t754, t755⟩, A410, H⟩ := H
                        replace H : (laws_FnTablesOfArches.l0 kj32 l1 t727 t728 t729 t734 t737 t742 t743 t744 t748 t749 t752 t753 t754 t755 1 1) = some true := H
                        have A41 := Aside0.mk A410
                        clear A410
                        have H' := Aside0.mk H
                        clear H
                        go_wp2_with (first | ((with_reducible refine gate_callee (f := 28) rfl ?_); refine goesL_ (some 141) rfl rfl Try.func28 (by kernel_rfl) rfl #[.int .i64 t742, .int .i64 t743] rfl (by (try simp only [List.map_toArray, List.map_cons, List.map_nil]); first | done | rfl | (simp only [List.length_drop, List.length_take]; rfl)) ?_; (with_reducible refine (impl_TableAt.calls kj32 t742 t743 t748 t749 _ A39.out).mono ?_); rintro e w42 ⟨v750, rfl, ho0, hb⟩; refine ⟨_, rfl, ?_⟩; have n0_ := Aside0.mk (Kd.S_elder' (by (with_reducible repeat (first | apply Kd.S_alloc | apply Kd.S_drewN | apply Kd.S_drew)); exact HO_7.out) (Kd.S_base ho0) hb); have n1_ := Aside0.mk (Kd.S_lower (Kd.S_new' ho0 (Kd.S_lt (by (with_reducible repeat (first | apply Kd.S_alloc | apply Kd.S_drewN | apply Kd.S_drew)); exact HO_7.out))) (below_size (by repeat (first | (with_reducible first | exact HB.out | apply below_alloc | apply pw_below_drewN | apply below_drew1) | exact HB.out)))); have n2_ := Aside0.mk (below_step (by repeat (first | (with_reducible first | exact HB.out | apply below_alloc | apply pw_below_drewN | apply below_drew1) | exact HB.out)) hb); clear HO_7; clear HB; have HO_7 := n0_; have HO751 := n1_; have HB := n2_; clear n0_ n1_ n2_; (try clear hb); (try clear hb2); (try clear hk); (try clear hi); (try clear ho0); obtain ⟨Ao43, co43, eo43⟩ := Kd.S_slice HO751.out; subst eo43) | ((with_reducible refine gate_callee (f := 16) rfl ?_); refine goesL_ (some 146) rfl rfl Try.func16 (by kernel_rfl) rfl #[.slice Ao43 t748.length co43] rfl (by (try simp only [List.map_toArray, List.map_cons, List.map_nil]); first | done | rfl | (simp only [List.length_drop, List.length_take]; rfl)) ?_; (with_reducible refine (impl_DeterminantOf.calls kj32 _ _ t748 t752 t753 _ ?side1 ?side2 A40.out).mono ?_); (case side1 => repeat (first | exact (Kd.S_reads' HO751.out).2.2 | (with_reducible refine Kd.C_alloc ?_ _) | (with_reducible refine Kd.C_drewN ?_ _) | (with_reducible refine Kd.C_drew ?_))); (case side2 => exact (Kd.S_reads' HO751.out).2.1); rintro e w44 ⟨rfl, hb⟩; refine ⟨_, rfl, ?_⟩; have n0_ := Aside0.mk (Kd.S_below (by (with_reducible repeat (first | apply Kd.S_alloc | apply Kd.S_drewN | apply Kd.S_drew)); exact HO_7.out) hb); have n1_ := Aside0.mk (Kd.S_below (by (with_reducible repeat (first | apply Kd.S_alloc | apply Kd.S_drewN | apply Kd.S_drew)); exact HO751.out) hb); have n2_ := Aside0.mk (below_step (by repeat (first | (with_reducible first | exact HB.out | apply below_alloc | apply pw_below_drewN | apply below_drew1) | exact HB.out)) hb); clear HO_7; clear HO751; clear HB; have HO_7 := n0_; have HO751 := n1_; have HB := n2_; clear n0_ n1_ n2_; (try clear hb); (try clear hb2); (try clear hk); (try clear hi)) | ((with_reducible refine gate_callee (f := 11) rfl ?_); refine goesL_ (some 151) rfl rfl Try.func11 (by kernel_rfl) rfl #[.slice Ao43 t748.length co43] rfl (by (try simp only [List.map_toArray, List.map_cons, List.map_nil]); first | done | rfl | (simp only [List.length_drop, List.length_take]; rfl)) ?_; (with_reducible refine (impl_RankOf.calls kj32 _ _ t748 t754 t755 _ ?side1 ?side2 A41.out).mono ?_); (case side1 => repeat (first | exact (Kd.S_reads' HO751.out).2.2 | (with_reducible refine Kd.C_alloc ?_ _) | (with_reducible refine Kd.C_drewN ?_ _) | (with_reducible refine Kd.C_drew ?_))); (case side2 => exact (Kd.S_reads' HO751.out).2.1); rintro e w45 ⟨rfl, hb⟩; refine ⟨_, rfl, ?_⟩; have n0_ := Aside0.mk (Kd.S_below (by (with_reducible repeat (first | apply Kd.S_alloc | apply Kd.S_drewN | apply Kd.S_drew)); exact HO_7.out) hb); have n1_ := Aside0.mk (Kd.S_below (by (with_reducible repeat (first | apply Kd.S_alloc | apply Kd.S_drewN | apply Kd.S_drew)); exact HO751.out) hb); have n2_ := Aside0.mk (below_step (by repeat (first | (with_reducible first | exact HB.out | apply below_alloc | apply pw_below_drewN | apply below_drew1) | exact HB.out)) hb); clear HO_7; clear HO751; clear HB; have HO_7 := n0_; have HO751 := n1_; have HB := n2_; clear n0_ n1_ n2_; (try clear hb); (try clear hb2); (try clear hk); (try clear hi)))
                        go_loopg [27, 28] kj32 (fun kq v27 v28 w' => ∃ (x27_3 : Int) (x28_3 : Int), v27 = .int .i64 x27_3 ∧ v28 = .int .i64 x28_3 ∧ Aside0 (laws_FnTablesOfArches.l0 kq l1 t727 t728 t729 t734 t737 t742 t743 t744 t748 t749 t752 t753 t754 t755 x27_3 x28_3 = some true) ∧ Aside0 (kq ≤ kj32) ∧ Aside0 (Kd.S (Kd.slice 3 (Kd.int .i64)) 35 w' w.heap.size (fun k_ => some k_ ≠ ((.slice Ao43 t748.length co43) : Value).ownBlock) v731 t729) ∧ Aside0 (Kd.S (Kd.slice 3 (Kd.int .i64)) 35 w' w.heap.size (fun k_ => some k_ ≠ (v731 : Value).ownBlock) (.slice Ao43 t748.length co43) t748) ∧ Aside0 (Below w.heap.size w w'))
                        case atStart => exact ⟨(1), (1), (by first | rfl | (simp; done) | (simp [*]; done)), (by first | rfl | (simp; done) | (simp [*]; done)), H', ⟨Nat.le_refl _⟩, ⟨by (with_reducible repeat (first | apply Kd.S_alloc | apply Kd.S_drewN | apply Kd.S_drew)); exact Kd.S_mono HO_7.out (fun _ hk => hk.2)⟩, ⟨by (with_reducible repeat (first | apply Kd.S_alloc | apply Kd.S_drewN | apply Kd.S_drew)); exact Kd.S_mono HO751.out (fun _ hk => hk.2)⟩, ⟨by repeat (first | (with_reducible first | exact HB.out | apply below_alloc | apply pw_below_drewN | apply below_drew1) | exact HB.out)⟩⟩
                        case round =>
                          clear H'
                          try clear c1
                          try clear c2
                          try clear p2
                          try clear c3
                          try clear c4
                          try clear c7
                          try clear c11
                          try clear c16
                          try clear c16b0
                          try clear c16b1
                          try clear c16b2
                          try clear c17
                          try clear c18
                          try clear c19
                          try clear c19b0
                          try clear c19b1
                          try clear c19b2
                          try clear c22
                          try clear c22b0
                          try clear c22b1
                          try clear c27
                          try clear c28
                          try clear c29
                          try clear c30
                          try clear c31
                          try clear c32
                          try clear c33
                          try clear c34
                          try clear c35
                          try clear c35b0
                          try clear c35b1
                          try clear c35b2
                          try clear c36
                          try clear c38
                          try clear p2
                          obtain ⟨x27_3, x28_3, rfl, rfl, HA, HK3, HO_7, HO_21, HB⟩ := hrel
                          as_aux_lemma =>
                            cases gk with
                            | zero => exact absurd HA.out (by simp [laws_FnTablesOfArches.l0])
                            | succ k3 =>
                              have H := HA.out
                              clear HA
                              simp only [laws_FnTablesOfArches.l0] at H
                              by_cases c46 : x28_3 ≤ t742
                              · rw [if_pos c46] at H
                                have c46b0 : decide (x28_3 ≤ t742) = true := decide_eq_true c46
                                clear c46
                                (first | rw [c46b0] | (simp only [i64_w, i32_w]; rw [c46b0]) | skip)
                                replace H := Option.bind_eq_some_iff.mp H
                                obtain ⟨⟨t756, t757⟩, A470, H⟩ := H
                                replace H : ((impl_ExponentOf.f k3 t742 x28_3).bind fun bt758 => (if t757 = true then (if bt758.2 = true then (if bt758.1 < 0 then (some false) else ((laws_sPower.f k3 t756 bt758.1).bind fun t760 => (laws_FnTablesOfArches.l0 k3 l1 t727 t728 t729 t734 t737 t742 t743 t744 t748 t749 t752 t753 t754 t755 (wrap64 (x27_3 * t760)) (wrap64 (x28_3 + 1))))) else (some false)) else (some false))) = some true := H
                                have A47 := Aside0.mk A470
                                clear A470
                                replace H := Option.bind_eq_some_iff.mp H
                                obtain ⟨⟨t758, t759⟩, A480, H⟩ := H
                                replace H : (if t757 = true then (if t759 = true then (if t758 < 0 then (some false) else ((laws_sPower.f k3 t756 t758).bind fun t760 => (laws_FnTablesOfArches.l0 k3 l1 t727 t728 t729 t734 t737 t742 t743 t744 t748 t749 t752 t753 t754 t755 (wrap64 (x27_3 * t760)) (wrap64 (x28_3 + 1))))) else (some false)) else (some false)) = some true := H
                                have A48 := Aside0.mk A480
                                clear A480
                                by_cases c49 : t757 = true
                                · subst c49
                                  have H1 : (if t759 = true then (if t758 < 0 then (some false) else ((laws_sPower.f k3 t756 t758).bind fun t760 => (laws_FnTablesOfArches.l0 k3 l1 t727 t728 t729 t734 t737 t742 t743 t744 t748 t749 t752 t753 t754 t755 (wrap64 (x27_3 * t760)) (wrap64 (x28_3 + 1))))) else (some false)) = some true := by rw [if_pos rfl] at H; first | done | exact H
                                  clear H
                                  have H := H1
                                  clear H1
                                  by_cases c50 : t759 = true
                                  · subst c50
                                    have H1 : (if t758 < 0 then (some false) else ((laws_sPower.f k3 t756 t758).bind fun t760 => (laws_FnTablesOfArches.l0 k3 l1 t727 t728 t729 t734 t737 t742 t743 t744 t748 t749 t752 t753 t754 t755 (wrap64 (x27_3 * t760)) (wrap64 (x28_3 + 1))))) = some true := by rw [if_pos rfl] at H; first | done | exact H
                                    clear H
                                    have H := H1
                                    clear H1
                                    by_cases c51 : t758 < 0
                                    · rw [if_pos c51] at H
                                      have c51b0 : decide (t758 < 0) = true := decide_eq_true c51
                                      clear c51
                                      exact absurd H (by simp)
                                    · rw [if_neg c51] at H
                                      have c51b0 : decide (t758 < 0) = false := decide_eq_false c51
                                      clear c51
                                      replace H := Option.bind_eq_some_iff.mp H
                                      obtain ⟨t760, A520, H⟩ := H
                                      replace H : (laws_FnTablesOfArches.l0 k3 l1 t727 t728 t729 t734 t737 t742 t743 t744 t748 t749 t752 t753 t754 t755 (wrap64 (x27_3 * t760)) (wrap64 (x28_3 + 1))) = some true := H
                                      have A52 := Aside0.mk A520
                                      clear A520
                                      have H' := Aside0.mk H
                                      clear H
                                      go_wp2_with (first | ((with_reducible refine gate_callee (f := 35) rfl ?_); refine goesL_ (some 162) rfl rfl Try.func35 (by kernel_rfl) rfl #[.int .i64 x28_3, .int .i64 t743] rfl (by (try simp only [List.map_toArray, List.map_cons, List.map_nil]); first | done | rfl | (simp only [List.length_drop, List.length_take]; rfl)) ?_; (with_reducible refine (impl_ValueAt.calls k3 x28_3 t743 t756 true _ A47.out).mono ?_); rintro e w' ⟨rfl, ⟨nd, rfl⟩⟩; refine ⟨_, rfl, ?_⟩) | ((with_reducible refine gate_callee (f := 36) rfl ?_); refine goesL_ (some 168) rfl rfl Try.func36 (by kernel_rfl) rfl #[.int .i64 t742, .int .i64 x28_3] rfl (by (try simp only [List.map_toArray, List.map_cons, List.map_nil]); first | done | rfl | (simp only [List.length_drop, List.length_take]; rfl)) ?_; (with_reducible refine (impl_ExponentOf.calls k3 t742 x28_3 t758 true _ A48.out).mono ?_); rintro e w' ⟨rfl, ⟨nd, rfl⟩⟩; refine ⟨_, rfl, ?_⟩) | ((with_reducible refine gate_callee (f := 37) rfl ?_); refine goesL_ (some 184) rfl rfl Try.func37 (by kernel_rfl) rfl #[.int .i64 t756, .int .i64 t758] rfl (by (try simp only [List.map_toArray, List.map_cons, List.map_nil]); first | done | rfl | (simp only [List.length_drop, List.length_take]; rfl)) ?_; (with_reducible refine (laws_sPower.calls k3 t756 t758 t760 _ A52.out).mono ?_); rintro e w' ⟨rfl, ⟨nd, rfl⟩⟩; refine ⟨_, rfl, ?_⟩))
                                      go_roundg k3
                                      case measure => have := HJ9.out; have := HJ32.out; have := HK3.out; omega
                                      case rel => exact ⟨(wrap64 (x27_3 * t760)), (wrap64 (x28_3 + 1)), (by first | rfl | (simp; done) | (simp [*]; done)), (by first | rfl | (simp; done) | (simp [*]; done)), H', ⟨by have := HJ9.out; have := HJ32.out; have := HK3.out; omega⟩, ⟨by (with_reducible repeat (first | apply Kd.S_alloc | apply Kd.S_drewN | apply Kd.S_drew)); exact HO_7.out⟩, ⟨by (with_reducible repeat (first | apply Kd.S_alloc | apply Kd.S_drewN | apply Kd.S_drew)); exact HO_21.out⟩, ⟨by repeat (first | (with_reducible first | exact HB.out | apply below_alloc | apply pw_below_drewN | apply below_drew1) | exact HB.out)⟩⟩
                                  · replace c50 := Bool.eq_false_iff.mpr c50
                                    subst c50
                                    have H1 : (some false) = some true := by rw [if_neg (show ¬ (false = true) by decide)] at H; first | done | exact H
                                    clear H
                                    have H := H1
                                    clear H1
                                    exact absurd H (by simp)
                                · replace c49 := Bool.eq_false_iff.mpr c49
                                  subst c49
                                  have H1 : (some false) = some true := by rw [if_neg (show ¬ (false = true) by decide)] at H; first | done | exact H
                                  clear H
                                  have H := H1
                                  clear H1
                                  exact absurd H (by simp)
                              · rw [if_neg c46] at H
                                have c46b0 : decide (x28_3 ≤ t742) = false := decide_eq_false c46
                                clear c46
                                (first | rw [c46b0] | (simp only [i64_w, i32_w]; rw [c46b0]) | skip)
                                by_cases c53 : t749 = true
                                · subst c53
                                  have H1 : (if t753 = true then (if t755 = true then (if t752 = t744 then (if x27_3 = t744 then (if ((t754 == (t748.length : Int)) != (t752 != 0)) = true then (some false) else (if t743 = 1 then (if t754 = 1 then (laws_FnTablesOfArches.j3 k3 l1 t727 t728 t729 t734 t737) else (if t742 = 1 then (some false) else (laws_FnTablesOfArches.j3 k3 l1 t727 t728 t729 t734 t737))) else (if t743 = (-1) then (if t754 = 1 then (laws_FnTablesOfArches.j3 k3 l1 t727 t728 t729 t734 t737) else (if t742 = 1 then (some false) else (laws_FnTablesOfArches.j3 k3 l1 t727 t728 t729 t734 t737))) else (laws_FnTablesOfArches.j3 k3 l1 t727 t728 t729 t734 t737)))) else (some false)) else (some false)) else (some false)) else (some false)) = some true := by rw [if_pos rfl] at H; first | done | exact H
                                  clear H
                                  have H := H1
                                  clear H1
                                  by_cases c54 : t753 = true
                                  · subst c54
                                    have H1 : (if t755 = true then (if t752 = t744 then (if x27_3 = t744 then (if ((t754 == (t748.length : Int)) != (t752 != 0)) = true then (some false) else (if t743 = 1 then (if t754 = 1 then (laws_FnTablesOfArches.j3 k3 l1 t727 t728 t729 t734 t737) else (if t742 = 1 then (some false) else (laws_FnTablesOfArches.j3 k3 l1 t727 t728 t729 t734 t737))) else (if t743 = (-1) then (if t754 = 1 then (laws_FnTablesOfArches.j3 k3 l1 t727 t728 t729 t734 t737) else (if t742 = 1 then (some false) else (laws_FnTablesOfArches.j3 k3 l1 t727 t728 t729 t734 t737))) else (laws_FnTablesOfArches.j3 k3 l1 t727 t728 t729 t734 t737)))) else (some false)) else (some false)) else (some false)) = some true := by rw [if_pos rfl] at H; first | done | exact H
                                    clear H
                                    have H := H1
                                    clear H1
                                    by_cases c55 : t755 = true
                                    · subst c55
                                      have H1 : (if t752 = t744 then (if x27_3 = t744 then (if ((t754 == (t748.length : Int)) != (t752 != 0)) = true then (some false) else (if t743 = 1 then (if t754 = 1 then (laws_FnTablesOfArches.j3 k3 l1 t727 t728 t729 t734 t737) else (if t742 = 1 then (some false) else (laws_FnTablesOfArches.j3 k3 l1 t727 t728 t729 t734 t737))) else (if t743 = (-1) then (if t754 = 1 then (laws_FnTablesOfArches.j3 k3 l1 t727 t728 t729 t734 t737) else (if t742 = 1 then (some false) else (laws_FnTablesOfArches.j3 k3 l1 t727 t728 t729 t734 t737))) else (laws_FnTablesOfArches.j3 k3 l1 t727 t728 t729 t734 t737)))) else (some false)) else (some false)) = some true := by rw [if_pos rfl] at H; first | done | exact H
                                      clear H
                                      have H := H1
                                      clear H1
                                      by_cases c56 : t752 = t744
                                      · rw [if_pos c56] at H
                                        have c56b0 : (t752 == t744) = true := beq_iff_eq.mpr c56
                                        have c56b1 : (t752 != t744) = false := bne_eq_false_iff_eq.mpr c56
                                        clear c56
                                        by_cases c57 : x27_3 = t744
                                        · rw [if_pos c57] at H
                                          have c57b0 : (x27_3 == t744) = true := beq_iff_eq.mpr c57
                                          have c57b1 : (x27_3 != t744) = false := bne_eq_false_iff_eq.mpr c57
                                          clear c57
                                          by_cases c58 : ((t754 == (t748.length : Int)) != (t752 != 0)) = true
                                          · rw [if_pos c58] at H
                                            have c58b0 : ((t754 == (t748.length : Int)) != (t752 != 0)) = true := c58
                                            (try (have c58b1 : decide ((t754 == (t748.length : Int)) = (t752 != 0)) = false := by simpa using c58))
                                            (try (have c58b2 : ((t754 == (t748.length : Int)) == (t752 != 0)) = false := by simpa using c58))
                                            (try (have c58b3 : ¬ ((t754 == (t748.length : Int)) = (t752 != 0)) := by simpa using c58))
                                            clear c58
                                            exact absurd H (by simp)
                                          · rw [if_neg c58] at H
                                            have c58b0 : ((t754 == (t748.length : Int)) != (t752 != 0)) = false := by simpa using c58
                                            (try (have c58b1 : decide ((t754 == (t748.length : Int)) = (t752 != 0)) = true := by simpa using c58))
                                            (try (have c58b2 : ((t754 == (t748.length : Int)) == (t752 != 0)) = true := by simpa using c58))
                                            clear c58
                                            by_cases c59 : t743 = 1
                                            · rw [if_pos c59] at H
                                              have c59b0 : (t743 == 1) = true := beq_iff_eq.mpr c59
                                              have c59b1 : (t743 != 1) = false := bne_eq_false_iff_eq.mpr c59
                                              clear c59
                                              by_cases c60 : t754 = 1
                                              · rw [if_pos c60] at H
                                                have c60b0 : (t754 == 1) = true := beq_iff_eq.mpr c60
                                                have c60b1 : (t754 != 1) = false := bne_eq_false_iff_eq.mpr c60
                                                clear c60
                                                have H' := Aside0.mk H
                                                clear H
                                                go_wp2
                                                go_meet
                                                case rel => exact ⟨_, H', ⟨by have := HJ9.out; have := HJ32.out; have := HK3.out; first | omega | exact Nat.le_refl _⟩, ⟨by (with_reducible repeat (first | apply Kd.S_alloc | apply Kd.S_drewN | apply Kd.S_drew)); exact Kd.S_mono HO_7.out (fun _ hk => trivial)⟩, ⟨by repeat (first | (with_reducible first | exact HB.out | apply below_alloc | apply pw_below_drewN | apply below_drew1) | exact HB.out)⟩⟩
                                              · rw [if_neg c60] at H
                                                have c60b0 : (t754 == 1) = false := beq_eq_false_iff_ne.mpr c60
                                                have c60b1 : (t754 != 1) = true := bne_iff_ne.mpr c60
                                                by_cases c61 : t742 = 1
                                                · rw [if_pos c61] at H
                                                  have c61b0 : (t742 == 1) = true := beq_iff_eq.mpr c61
                                                  have c61b1 : (t742 != 1) = false := bne_eq_false_iff_eq.mpr c61
                                                  clear c61
                                                  exact absurd H (by simp)
                                                · rw [if_neg c61] at H
                                                  have c61b0 : (t742 == 1) = false := beq_eq_false_iff_ne.mpr c61
                                                  have c61b1 : (t742 != 1) = true := bne_iff_ne.mpr c61
                                                  have H' := Aside0.mk H
                                                  clear H
                                                  go_wp2
                                                  go_meet
                                                  case rel => exact ⟨_, H', ⟨by have := HJ9.out; have := HJ32.out; have := HK3.out; first | omega | exact Nat.le_refl _⟩, ⟨by (with_reducible repeat (first | apply Kd.S_alloc | apply Kd.S_drewN | apply Kd.S_drew)); exact Kd.S_mono HO_7.out (fun _ hk => trivial)⟩, ⟨by repeat (first | (with_reducible first | exact HB.out | apply below_alloc | apply pw_below_drewN | apply below_drew1) | exact HB.out)⟩⟩
                                            · rw [if_neg c59] at H
                                              have c59b0 : (t743 == 1) = false := beq_eq_false_iff_ne.mpr c59
                                              have c59b1 : (t743 != 1) = true := bne_iff_ne.mpr c59
                                              by_cases c62 : t743 = (-1)
                                              · rw [if_pos c62] at H
                                                have c62b0 : (t743 == (-1)) = true := beq_iff_eq.mpr c62
                                                have c62b1 : (t743 != (-1)) = false := bne_eq_false_iff_eq.mpr c62
                                                clear c62
                                                by_cases c63 : t754 = 1
                                                · rw [if_pos c63] at H
                                                  have c63b0 : (t754 == 1) = true := beq_iff_eq.mpr c63
                                                  have c63b1 : (t754 != 1) = false := bne_eq_false_iff_eq.mpr c63
                                                  clear c63
                                                  have H' := Aside0.mk H
                                                  clear H
                                                  go_wp2
                                                  go_meet
                                                  case rel => exact ⟨_, H', ⟨by have := HJ9.out; have := HJ32.out; have := HK3.out; first | omega | exact Nat.le_refl _⟩, ⟨by (with_reducible repeat (first | apply Kd.S_alloc | apply Kd.S_drewN | apply Kd.S_drew)); exact Kd.S_mono HO_7.out (fun _ hk => trivial)⟩, ⟨by repeat (first | (with_reducible first | exact HB.out | apply below_alloc | apply pw_below_drewN | apply below_drew1) | exact HB.out)⟩⟩
                                                · rw [if_neg c63] at H
                                                  have c63b0 : (t754 == 1) = false := beq_eq_false_iff_ne.mpr c63
                                                  have c63b1 : (t754 != 1) = true := bne_iff_ne.mpr c63
                                                  by_cases c64 : t742 = 1
                                                  · rw [if_pos c64] at H
                                                    have c64b0 : (t742 == 1) = true := beq_iff_eq.mpr c64
                                                    have c64b1 : (t742 != 1) = false := bne_eq_false_iff_eq.mpr c64
                                                    clear c64
                                                    exact absurd H (by simp)
                                                  · rw [if_neg c64] at H
                                                    have c64b0 : (t742 == 1) = false := beq_eq_false_iff_ne.mpr c64
                                                    have c64b1 : (t742 != 1) = true := bne_iff_ne.mpr c64
                                                    have H' := Aside0.mk H
                                                    clear H
                                                    go_wp2
                                                    go_meet
                                                    case rel => exact ⟨_, H', ⟨by have := HJ9.out; have := HJ32.out; have := HK3.out; first | omega | exact Nat.le_refl _⟩, ⟨by (with_reducible repeat (first | apply Kd.S_alloc | apply Kd.S_drewN | apply Kd.S_drew)); exact Kd.S_mono HO_7.out (fun _ hk => trivial)⟩, ⟨by repeat (first | (with_reducible first | exact HB.out | apply below_alloc | apply pw_below_drewN | apply below_drew1) | exact HB.out)⟩⟩
                                              · rw [if_neg c62] at H
                                                have c62b0 : (t743 == (-1)) = false := beq_eq_false_iff_ne.mpr c62
                                                have c62b1 : (t743 != (-1)) = true := bne_iff_ne.mpr c62
                                                have H' := Aside0.mk H
                                                clear H
                                                go_wp2
                                                go_meet
                                                case rel => exact ⟨_, H', ⟨by have := HJ9.out; have := HJ32.out; have := HK3.out; first | omega | exact Nat.le_refl _⟩, ⟨by (with_reducible repeat (first | apply Kd.S_alloc | apply Kd.S_drewN | apply Kd.S_drew)); exact Kd.S_mono HO_7.out (fun _ hk => trivial)⟩, ⟨by repeat (first | (with_reducible first | exact HB.out | apply below_alloc | apply pw_below_drewN | apply below_drew1) | exact HB.out)⟩⟩
                                        · rw [if_neg c57] at H
                                          have c57b0 : (x27_3 == t744) = false := beq_eq_false_iff_ne.mpr c57
                                          have c57b1 : (x27_3 != t744) = true := bne_iff_ne.mpr c57
                                          exact absurd H (by simp)
                                      · rw [if_neg c56] at H
                                        have c56b0 : (t752 == t744) = false := beq_eq_false_iff_ne.mpr c56
                                        have c56b1 : (t752 != t744) = true := bne_iff_ne.mpr c56
                                        exact absurd H (by simp)
                                    · replace c55 := Bool.eq_false_iff.mpr c55
                                      subst c55
                                      have H1 : (some false) = some true := by rw [if_neg (show ¬ (false = true) by decide)] at H; first | done | exact H
                                      clear H
                                      have H := H1
                                      clear H1
                                      exact absurd H (by simp)
                                  · replace c54 := Bool.eq_false_iff.mpr c54
                                    subst c54
                                    have H1 : (some false) = some true := by rw [if_neg (show ¬ (false = true) by decide)] at H; first | done | exact H
                                    clear H
                                    have H := H1
                                    clear H1
                                    exact absurd H (by simp)
                                · replace c53 := Bool.eq_false_iff.mpr c53
                                  subst c53
                                  have H1 : (some false) = some true := by rw [if_neg (show ¬ (false = true) by decide)] at H; first | done | exact H
                                  clear H
                                  have H := H1
                                  clear H1
                                  exact absurd H (by simp)
                      · replace c38 := Bool.eq_false_iff.mpr c38
                        subst c38
                        have H1 : (laws_FnTablesOfArches.j3 kj32 l1 t727 t728 t729 t734 t737) = some true := by rw [if_neg (show ¬ (false = true) by decide)] at H; first | done | exact H
                        clear H
                        have H := H1
                        clear H1
                        have H' := Aside0.mk H
                        clear H
                        go_wp2
                        go_meet
                        case rel => exact ⟨_, H', ⟨by have := HJ9.out; have := HJ32.out; first | omega | exact Nat.le_refl _⟩, ⟨by (with_reducible repeat (first | apply Kd.S_alloc | apply Kd.S_drewN | apply Kd.S_drew)); exact HO_7.out⟩, ⟨by repeat (first | (with_reducible first | exact HB.out | apply below_alloc | apply pw_below_drewN | apply below_drew1) | exact HB.out)⟩⟩
                    case rest =>
                      clear HC37
                      try clear c1
                      try clear c2
                      try clear p2
                      try clear c3
                      try clear c4
                      try clear c5
                      try clear c6
                      try clear p6
                      try clear c7
                      try clear c11
                      try clear c16
                      try clear c16b0
                      try clear c16b1
                      try clear c16b2
                      try clear c17
                      try clear c18
                      try clear c19
                      try clear c19b0
                      try clear c19b1
                      try clear c19b2
                      try clear c22
                      try clear c22b0
                      try clear c22b1
                      try clear c27
                      try clear c28
                      try clear c29
                      try clear c30
                      try clear c31
                      try clear c32
                      try clear c33
                      try clear c34
                      try clear c35
                      try clear c35b0
                      try clear c35b1
                      try clear c35b2
                      try clear c36
                      try clear c37
                      try clear c38
                      try clear c46
                      try clear c46b0
                      try clear c49
                      try clear c50
                      try clear c51
                      try clear c51b0
                      try clear c53
                      try clear c54
                      try clear c55
                      try clear c56
                      try clear c56b0
                      try clear c56b1
                      try clear c57
                      try clear c57b0
                      try clear c57b1
                      try clear c58
                      try clear c58b0
                      try clear c58b1
                      try clear c58b2
                      try clear c59
                      try clear c59b0
                      try clear c59b1
                      try clear c60
                      try clear c60b0
                      try clear c60b1
                      try clear c61
                      try clear c61b0
                      try clear c61b1
                      try clear c62
                      try clear c62b0
                      try clear c62b1
                      try clear c63
                      try clear c63b0
                      try clear c63b1
                      try clear c64
                      try clear c64b0
                      try clear c64b1
                      try clear p64
                      try clear p2
                      obtain ⟨kq, HA, HJ36, HO_7, HB⟩ := hcut
                      as_aux_lemma =>
                        cases kq with
                        | zero => exact absurd HA.out (by simp [laws_FnTablesOfArches.j3])
                        | succ kj36 =>
                          have H := HA.out
                          clear HA
                          simp only [laws_FnTablesOfArches.j3] at H
                          replace H := Option.bind_eq_some_iff.mp H
                          obtain ⟨⟨t761, t762⟩, A650, H⟩ := H
                          replace H : ((impl_ValueAt.f kj36 t761 t762).bind fun bt763 => ((spec_ValueAt.f kj36 t761 t762).bind fun bt765 => ((spec_DrawExponentOf.f l1).bind fun bt767 => ((impl_ExponentOf.f kj36 bt767.1 bt767.2).bind fun bt769 => ((spec_ExponentOf.f kj36 bt767.1 bt767.2).bind fun bt771 => (if (bt763.2 != bt765.2) = true then (laws_FnTablesOfArches.j4 kj36 t727 t728 t729 t734 t737 true) else (if bt763.1 = bt765.1 then (if (bt769.2 != bt771.2) = true then (laws_FnTablesOfArches.j4 kj36 t727 t728 t729 t734 t737 true) else (laws_FnTablesOfArches.j4 kj36 t727 t728 t729 t734 t737 (bt769.1 != bt771.1))) else (laws_FnTablesOfArches.j4 kj36 t727 t728 t729 t734 t737 true)))))))) = some true := H
                          have A65 := Aside0.mk A650
                          clear A650
                          replace H := Option.bind_eq_some_iff.mp H
                          obtain ⟨⟨t763, t764⟩, A660, H⟩ := H
                          replace H : ((spec_ValueAt.f kj36 t761 t762).bind fun bt765 => ((spec_DrawExponentOf.f l1).bind fun bt767 => ((impl_ExponentOf.f kj36 bt767.1 bt767.2).bind fun bt769 => ((spec_ExponentOf.f kj36 bt767.1 bt767.2).bind fun bt771 => (if (t764 != bt765.2) = true then (laws_FnTablesOfArches.j4 kj36 t727 t728 t729 t734 t737 true) else (if t763 = bt765.1 then (if (bt769.2 != bt771.2) = true then (laws_FnTablesOfArches.j4 kj36 t727 t728 t729 t734 t737 true) else (laws_FnTablesOfArches.j4 kj36 t727 t728 t729 t734 t737 (bt769.1 != bt771.1))) else (laws_FnTablesOfArches.j4 kj36 t727 t728 t729 t734 t737 true))))))) = some true := H
                          have A66 := Aside0.mk A660
                          clear A660
                          replace H := Option.bind_eq_some_iff.mp H
                          obtain ⟨⟨t765, t766⟩, A670, H⟩ := H
                          replace H : ((spec_DrawExponentOf.f l1).bind fun bt767 => ((impl_ExponentOf.f kj36 bt767.1 bt767.2).bind fun bt769 => ((spec_ExponentOf.f kj36 bt767.1 bt767.2).bind fun bt771 => (if (t764 != t766) = true then (laws_FnTablesOfArches.j4 kj36 t727 t728 t729 t734 t737 true) else (if t763 = t765 then (if (bt769.2 != bt771.2) = true then (laws_FnTablesOfArches.j4 kj36 t727 t728 t729 t734 t737 true) else (laws_FnTablesOfArches.j4 kj36 t727 t728 t729 t734 t737 (bt769.1 != bt771.1))) else (laws_FnTablesOfArches.j4 kj36 t727 t728 t729 t734 t737 true)))))) = some true := H
                          have A67 := Aside0.mk A670
                          clear A670
                          replace H := Option.bind_eq_some_iff.mp H
                          obtain ⟨⟨t767, t768⟩, A680, H⟩ := H
                          replace H : ((impl_ExponentOf.f kj36 t767 t768).bind fun bt769 => ((spec_ExponentOf.f kj36 t767 t768).bind fun bt771 => (if (t764 != t766) = true then (laws_FnTablesOfArches.j4 kj36 t727 t728 t729 t734 t737 true) else (if t763 = t765 then (if (bt769.2 != bt771.2) = true then (laws_FnTablesOfArches.j4 kj36 t727 t728 t729 t734 t737 true) else (laws_FnTablesOfArches.j4 kj36 t727 t728 t729 t734 t737 (bt769.1 != bt771.1))) else (laws_FnTablesOfArches.j4 kj36 t727 t728 t729 t734 t737 true))))) = some true := H
                          have A68 := Aside0.mk A680
                          clear A680
                          replace H := Option.bind_eq_some_iff.mp H
                          obtain ⟨⟨t769, t770⟩, A690, H⟩ := H
                          replace H : ((spec_ExponentOf.f kj36 t767 t768).bind fun bt771 => (if (t764 != t766) = true then (laws_FnTablesOfArches.j4 kj36 t727 t728 t729 t734 t737 true) else (if t763 = t765 then (if (t770 != bt771.2) = true then (laws_FnTablesOfArches.j4 kj36 t727 t728 t729 t734 t737 true) else (laws_FnTablesOfArches.j4 kj36 t727 t728 t729 t734 t737 (t769 != bt771.1))) else (laws_FnTablesOfArches.j4 kj36 t727 t728 t729 t734 t737 true)))) = some true := H
                          have A69 := Aside0.mk A690
                          clear A690
                          replace H := Option.bind_eq_some_iff.mp H
                          obtain ⟨⟨t771, t772⟩, A700, H⟩ := H
                          replace H : (if (t764 != t766) = true then (laws_FnTablesOfArches.j4 kj36 t727 t728 t729 t734 t737 true) else (if t763 = t765 then (if (t770 != t772) = true then (laws_FnTablesOfArches.j4 kj36 t727 t728 t729 t734 t737 true) else (laws_FnTablesOfArches.j4 kj36 t727 t728 t729 t734 t737 (t769 != t771))) else (laws_FnTablesOfArches.j4 kj36 t727 t728 t729 t734 t737 true))) = some true := H
                          have A70 := Aside0.mk A700
                          clear A700
                          have HC71 := Aside0.mk H
                          clear H
                          go_upto_region 36 with (first | ((with_reducible refine gate_callee (f := 38) rfl ?_); refine goesL_ (some 233) rfl rfl Try.func38 (by kernel_rfl) rfl #[.slice A1 l1.length c1] rfl (by (try simp only [List.map_toArray, List.map_cons, List.map_nil]); first | done | rfl | (simp only [List.length_drop, List.length_take]; rfl)) ?_; (with_reducible refine (spec_DrawValueAt.calls _ _ l1 t761 t762 _ ?side1 ?side2 A65.out).mono ?_); (case side1 => repeat (first | exact (Kd.C_below HR1.out HB.out) | (with_reducible refine Kd.C_alloc ?_ _) | (with_reducible refine Kd.C_drewN ?_ _) | (with_reducible refine Kd.C_drew ?_))); (case side2 => exact HC1.out); rintro e w72 ⟨rfl, hb⟩; refine ⟨_, rfl, ?_⟩; have n0_ := Aside0.mk (Kd.S_below (by (with_reducible repeat (first | apply Kd.S_alloc | apply Kd.S_drewN | apply Kd.S_drew)); exact HO_7.out) hb); have n1_ := Aside0.mk (below_step (by repeat (first | (with_reducible first | exact HB.out | apply below_alloc | apply pw_below_drewN | apply below_drew1) | exact HB.out)) hb); clear HO_7; clear HB; have HO_7 := n0_; have HB := n1_; clear n0_ n1_; (try clear hb); (try clear hb2); (try clear hk); (try clear hi)) | ((with_reducible refine gate_callee (f := 35) rfl ?_); refine goesL_ (some 239) rfl rfl Try.func35 (by kernel_rfl) rfl #[.int .i64 t761, .int .i64 t762] rfl (by (try simp only [List.map_toArray, List.map_cons, List.map_nil]); first | done | rfl | (simp only [List.length_drop, List.length_take]; rfl)) ?_; (with_reducible refine (impl_ValueAt.calls kj36 t761 t762 t763 t764 _ A66.out).mono ?_); rintro e w' ⟨rfl, ⟨nd, rfl⟩⟩; refine ⟨_, rfl, ?_⟩) | ((with_reducible refine gate_callee (f := 39) rfl ?_); refine goesL_ (some 245) rfl rfl Try.func39 (by kernel_rfl) rfl #[.int .i64 t761, .int .i64 t762] rfl (by (try simp only [List.map_toArray, List.map_cons, List.map_nil]); first | done | rfl | (simp only [List.length_drop, List.length_take]; rfl)) ?_; (with_reducible refine (spec_ValueAt.calls kj36 t761 t762 t765 t766 _ A67.out).mono ?_); rintro e w' ⟨rfl, ⟨nd, rfl⟩⟩; refine ⟨_, rfl, ?_⟩) | ((with_reducible refine gate_callee (f := 40) rfl ?_); refine goesL_ (some 250) rfl rfl Try.func40 (by kernel_rfl) rfl #[.slice A1 l1.length c1] rfl (by (try simp only [List.map_toArray, List.map_cons, List.map_nil]); first | done | rfl | (simp only [List.length_drop, List.length_take]; rfl)) ?_; (with_reducible refine (spec_DrawExponentOf.calls _ _ l1 t767 t768 _ ?side1 ?side2 A68.out).mono ?_); (case side1 => repeat (first | exact (Kd.C_below HR1.out (by repeat (first | (with_reducible first | exact HB.out | apply below_alloc | apply pw_below_drewN | apply below_drew1) | exact HB.out))) | (with_reducible refine Kd.C_alloc ?_ _) | (with_reducible refine Kd.C_drewN ?_ _) | (with_reducible refine Kd.C_drew ?_))); (case side2 => exact HC1.out); rintro e w73 ⟨rfl, hb⟩; refine ⟨_, rfl, ?_⟩; have n0_ := Aside0.mk (Kd.S_below (by (with_reducible repeat (first | apply Kd.S_alloc | apply Kd.S_drewN | apply Kd.S_drew)); exact HO_7.out) hb); have n1_ := Aside0.mk (below_step (by repeat (first | (with_reducible first | exact HB.out | apply below_alloc | apply pw_below_drewN | apply below_drew1) | exact HB.out)) hb); clear HO_7; clear HB; have HO_7 := n0_; have HB := n1_; clear n0_ n1_; (try clear hb); (try clear hb2); (try clear hk); (try clear hi)) | ((with_reducible refine gate_callee (f := 36) rfl ?_); refine goesL_ (some 256) rfl rfl Try.func36 (by kernel_rfl) rfl #[.int .i64 t767, .int .i64 t768] rfl (by (try simp only [List.map_toArray, List.map_cons, List.map_nil]); first | done | rfl | (simp only [List.length_drop, List.length_take]; rfl)) ?_; (with_reducible refine (impl_ExponentOf.calls kj36 t767 t768 t769 t770 _ A69.out).mono ?_); rintro e w' ⟨rfl, ⟨nd, rfl⟩⟩; refine ⟨_, rfl, ?_⟩) | ((with_reducible refine gate_callee (f := 41) rfl ?_); refine goesL_ (some 262) rfl rfl Try.func41 (by kernel_rfl) rfl #[.int .i64 t767, .int .i64 t768] rfl (by (try simp only [List.map_toArray, List.map_cons, List.map_nil]); first | done | rfl | (simp only [List.length_drop, List.length_take]; rfl)) ?_; (with_reducible refine (spec_ExponentOf.calls kj36 t767 t768 t771 t772 _ A70.out).mono ?_); rintro e w' ⟨rfl, ⟨nd, rfl⟩⟩; refine ⟨_, rfl, ?_⟩))
                          (try simp only [Act.put, List.setIfInBounds_toArray, List.set_cons_zero, List.set_cons_succ])
                          go_cut [282] from 231 to 282 (fun v282 wc => ∃ (kq : Nat) (x282_70 : Bool), v282 = .bool x282_70 ∧ Aside0 (laws_FnTablesOfArches.j4 kq t727 t728 t729 t734 t737 x282_70 = some true) ∧ Aside0 (kq ≤ kj36) ∧ Aside0 (Kd.S (Kd.slice 3 (Kd.int .i64)) 35 wc w.heap.size (fun _ => True) v731 t729) ∧ Aside0 (Below w.heap.size w wc))
                          case first =>
                            have H := HC71.out
                            clear HC71
                            by_cases c74 : (t764 != t766) = true
                            · rw [if_pos c74] at H
                              have c74b0 : (t764 != t766) = true := c74
                              (try (have c74b1 : decide (t764 = t766) = false := by simpa using c74))
                              (try (have c74b2 : (t764 == t766) = false := by simpa using c74))
                              (try (have c74b3 : ¬ (t764 = t766) := by simpa using c74))
                              clear c74
                              (first | rw [c74b0] | (simp only [i64_w, i32_w]; rw [c74b0]) | skip)
                              have H' := Aside0.mk H
                              clear H
                              go_wp2
                              go_meet
                              case rel => exact ⟨_, (true), (by first | rfl | (simp; done) | (simp [*]; done)), H', ⟨by have := HJ9.out; have := HJ32.out; have := HJ36.out; first | omega | exact Nat.le_refl _⟩, ⟨by (with_reducible repeat (first | apply Kd.S_alloc | apply Kd.S_drewN | apply Kd.S_drew)); exact HO_7.out⟩, ⟨by repeat (first | (with_reducible first | exact HB.out | apply below_alloc | apply pw_below_drewN | apply below_drew1) | exact HB.out)⟩⟩
                            · rw [if_neg c74] at H
                              have c74b0 : (t764 != t766) = false := by simpa using c74
                              (try (have c74b1 : decide (t764 = t766) = true := by simpa using c74))
                              (try (have c74b2 : (t764 == t766) = true := by simpa using c74))
                              clear c74
                              (first | rw [c74b0] | (simp only [i64_w, i32_w]; rw [c74b0]) | skip)
                              by_cases c75 : t763 = t765
                              · rw [if_pos c75] at H
                                have c75b0 : (t763 == t765) = true := beq_iff_eq.mpr c75
                                have c75b1 : (t763 != t765) = false := bne_eq_false_iff_eq.mpr c75
                                clear c75
                                by_cases c76 : (t770 != t772) = true
                                · rw [if_pos c76] at H
                                  have c76b0 : (t770 != t772) = true := c76
                                  (try (have c76b1 : decide (t770 = t772) = false := by simpa using c76))
                                  (try (have c76b2 : (t770 == t772) = false := by simpa using c76))
                                  (try (have c76b3 : ¬ (t770 = t772) := by simpa using c76))
                                  clear c76
                                  have H' := Aside0.mk H
                                  clear H
                                  go_wp2
                                  go_meet
                                  case rel => exact ⟨_, (true), (by first | rfl | (simp; done) | (simp [*]; done)), H', ⟨by have := HJ9.out; have := HJ32.out; have := HJ36.out; first | omega | exact Nat.le_refl _⟩, ⟨by (with_reducible repeat (first | apply Kd.S_alloc | apply Kd.S_drewN | apply Kd.S_drew)); exact HO_7.out⟩, ⟨by repeat (first | (with_reducible first | exact HB.out | apply below_alloc | apply pw_below_drewN | apply below_drew1) | exact HB.out)⟩⟩
                                · rw [if_neg c76] at H
                                  have c76b0 : (t770 != t772) = false := by simpa using c76
                                  (try (have c76b1 : decide (t770 = t772) = true := by simpa using c76))
                                  (try (have c76b2 : (t770 == t772) = true := by simpa using c76))
                                  clear c76
                                  have H' := Aside0.mk H
                                  clear H
                                  go_wp2
                                  go_meet
                                  case rel => exact ⟨_, ((t769 != t771)), (by first | rfl | (simp; done) | (simp [*]; done)), H', ⟨by have := HJ9.out; have := HJ32.out; have := HJ36.out; first | omega | exact Nat.le_refl _⟩, ⟨by (with_reducible repeat (first | apply Kd.S_alloc | apply Kd.S_drewN | apply Kd.S_drew)); exact HO_7.out⟩, ⟨by repeat (first | (with_reducible first | exact HB.out | apply below_alloc | apply pw_below_drewN | apply below_drew1) | exact HB.out)⟩⟩
                              · rw [if_neg c75] at H
                                have c75b0 : (t763 == t765) = false := beq_eq_false_iff_ne.mpr c75
                                have c75b1 : (t763 != t765) = true := bne_iff_ne.mpr c75
                                have H' := Aside0.mk H
                                clear H
                                go_wp2
                                go_meet
                                case rel => exact ⟨_, (true), (by first | rfl | (simp; done) | (simp [*]; done)), H', ⟨by have := HJ9.out; have := HJ32.out; have := HJ36.out; first | omega | exact Nat.le_refl _⟩, ⟨by (with_reducible repeat (first | apply Kd.S_alloc | apply Kd.S_drewN | apply Kd.S_drew)); exact HO_7.out⟩, ⟨by repeat (first | (with_reducible first | exact HB.out | apply below_alloc | apply pw_below_drewN | apply below_drew1) | exact HB.out)⟩⟩
                          case rest =>
                            clear HC71
                            try clear c1
                            try clear c2
                            try clear p2
                            try clear c3
                            try clear c4
                            try clear c5
                            try clear c6
                            try clear p6
                            try clear c7
                            try clear c11
                            try clear c16
                            try clear c16b0
                            try clear c16b1
                            try clear c16b2
                            try clear c17
                            try clear c18
                            try clear c19
                            try clear c19b0
                            try clear c19b1
                            try clear c19b2
                            try clear c22
                            try clear c22b0
                            try clear c22b1
                            try clear c27
                            try clear c28
                            try clear c29
                            try clear c30
                            try clear c31
                            try clear c32
                            try clear c33
                            try clear c34
                            try clear c35
                            try clear c35b0
                            try clear c35b1
                            try clear c35b2
                            try clear c36
                            try clear c37
                            try clear c38
                            try clear c39
                            try clear c40
                            try clear c41
                            try clear c46
                            try clear c46b0
                            try clear c49
                            try clear c50
                            try clear c51
                            try clear c51b0
                            try clear c53
                            try clear c54
                            try clear c55
                            try clear c56
                            try clear c56b0
                            try clear c56b1
                            try clear c57
                            try clear c57b0
                            try clear c57b1
                            try clear c58
                            try clear c58b0
                            try clear c58b1
                            try clear c58b2
                            try clear c59
                            try clear c59b0
                            try clear c59b1
                            try clear c60
                            try clear c60b0
                            try clear c60b1
                            try clear c61
                            try clear c61b0
                            try clear c61b1
                            try clear c62
                            try clear c62b0
                            try clear c62b1
                            try clear c63
                            try clear c63b0
                            try clear c63b1
                            try clear c64
                            try clear c64b0
                            try clear c64b1
                            try clear p64
                            try clear c74
                            try clear c74b0
                            try clear c74b1
                            try clear c74b2
                            try clear c75
                            try clear c75b0
                            try clear c75b1
                            try clear c76
                            try clear c76b0
                            try clear c76b1
                            try clear c76b2
                            try clear p2
                            try clear p6
                            try clear p64
                            obtain ⟨kq, x282_70, rfl, HA, HJ70, HO_7, HB⟩ := hcut
                            as_aux_lemma =>
                              cases kq with
                              | zero => exact absurd HA.out (by simp [laws_FnTablesOfArches.j4])
                              | succ kj70 =>
                                have H := HA.out
                                clear HA
                                simp only [laws_FnTablesOfArches.j4] at H
                                by_cases c77 : x282_70 = true
                                · subst c77
                                  have H1 : (some false) = some true := by rw [if_pos rfl] at H; first | done | exact H
                                  clear H
                                  have H := H1
                                  clear H1
                                  exact absurd H (by simp)
                                · replace c77 := Bool.eq_false_iff.mpr c77
                                  subst c77
                                  have H1 : (if t734 = true then ((impl_CountByComponents.f kj70 t727).bind fun bt773 => ((impl_ExponentTable.f kj70 t727).bind fun bt777 => (laws_FnTablesOfArches.l1 kj70 t727 t728 t729 t737 bt773.2 bt777.1 bt777.2 0 bt773.1 (bt773.1.length : Int) 0))) else (some true)) = some true := by rw [if_neg (show ¬ (false = true) by decide)] at H; first | done | exact H
                                  clear H
                                  have H := H1
                                  clear H1
                                  by_cases c78 : t734 = true
                                  · subst c78
                                    have H1 : ((impl_CountByComponents.f kj70 t727).bind fun bt773 => ((impl_ExponentTable.f kj70 t727).bind fun bt777 => (laws_FnTablesOfArches.l1 kj70 t727 t728 t729 t737 bt773.2 bt777.1 bt777.2 0 bt773.1 (bt773.1.length : Int) 0))) = some true := by rw [if_pos rfl] at H; first | done | exact H
                                    clear H
                                    have H := H1
                                    clear H1
                                    replace H := Option.bind_eq_some_iff.mp H
                                    obtain ⟨⟨t773, t774⟩, A790, H⟩ := H
                                    replace H : ((impl_ExponentTable.f kj70 t727).bind fun bt777 => (laws_FnTablesOfArches.l1 kj70 t727 t728 t729 t737 t774 bt777.1 bt777.2 0 t773 (t773.length : Int) 0)) = some true := H
                                    have A79 := Aside0.mk A790
                                    clear A790
                                    replace H := Option.bind_eq_some_iff.mp H
                                    obtain ⟨⟨t777, t778⟩, A800, H⟩ := H
                                    replace H : (laws_FnTablesOfArches.l1 kj70 t727 t728 t729 t737 t774 t777 t778 0 t773 (t773.length : Int) 0) = some true := H
                                    have A80 := Aside0.mk A800
                                    clear A800
                                    have H' := Aside0.mk H
                                    clear H
                                    go_wp2_with (first | ((with_reducible refine gate_callee (f := 42) rfl ?_); refine goesL_ (some 287) rfl rfl Try.func42 (by kernel_rfl) rfl #[.int .i64 t727] rfl (by (try simp only [List.map_toArray, List.map_cons, List.map_nil]); first | done | rfl | (simp only [List.length_drop, List.length_take]; rfl)) ?_; (with_reducible refine (impl_CountByComponents.calls kj70 t727 t773 t774 _ A79.out).mono ?_); rintro e w81 ⟨v775, rfl, ho0, hb⟩; refine ⟨_, rfl, ?_⟩; have n0_ := Aside0.mk (Kd.S_elder' (by (with_reducible repeat (first | apply Kd.S_alloc | apply Kd.S_drewN | apply Kd.S_drew)); exact HO_7.out) (Kd.R_base ho0) hb); have n1_ := Aside0.mk (Kd.R_lower ho0 (below_size (by repeat (first | (with_reducible first | exact HB.out | apply below_alloc | apply pw_below_drewN | apply below_drew1) | exact HB.out)))); have n2_ := Aside0.mk (below_step (by repeat (first | (with_reducible first | exact HB.out | apply below_alloc | apply pw_below_drewN | apply below_drew1) | exact HB.out)) hb); clear HO_7; clear HB; have HO_7 := n0_; have HO776 := n1_; have HB := n2_; clear n0_ n1_ n2_; (try clear hb); (try clear hb2); (try clear hk); (try clear hi); (try clear ho0)) | ((with_reducible refine gate_callee (f := 20) rfl ?_); refine goesL_ (some 292) rfl rfl Try.func20 (by kernel_rfl) rfl #[.int .i64 t727] rfl (by (try simp only [List.map_toArray, List.map_cons, List.map_nil]); first | done | rfl | (simp only [List.length_drop, List.length_take]; rfl)) ?_; (with_reducible refine (impl_ExponentTable.calls kj70 t727 t777 t778 _ A80.out).mono ?_); rintro e w82 ⟨v779, rfl, ho0, hb⟩; refine ⟨_, rfl, ?_⟩; have n0_ := Aside0.mk (Kd.S_elder' (by (with_reducible repeat (first | apply Kd.S_alloc | apply Kd.S_drewN | apply Kd.S_drew)); exact HO_7.out) (Kd.S_base ho0) hb); have n1_ := Aside0.mk (Kd.R_below (by (with_reducible repeat (first | apply Kd.R_alloc | apply Kd.R_drewN | apply Kd.R_drew)); exact HO776.out) hb); have n2_ := Aside0.mk (Kd.S_lower (Kd.S_new' (Kd.S_new' ho0 (Kd.S_lt (by (with_reducible repeat (first | apply Kd.S_alloc | apply Kd.S_drewN | apply Kd.S_drew)); exact HO_7.out))) (Kd.R_lt (by (with_reducible repeat (first | apply Kd.R_alloc | apply Kd.R_drewN | apply Kd.R_drew)); exact HO776.out))) (below_size (by repeat (first | (with_reducible first | exact HB.out | apply below_alloc | apply pw_below_drewN | apply below_drew1) | exact HB.out)))); have n3_ := Aside0.mk (below_step (by repeat (first | (with_reducible first | exact HB.out | apply below_alloc | apply pw_below_drewN | apply below_drew1) | exact HB.out)) hb); clear HO_7; clear HO776; clear HB; have HO_7 := n0_; have HO776 := n1_; have HO780 := n2_; have HB := n3_; clear n0_ n1_ n2_ n3_; (try clear hb); (try clear hb2); (try clear hk); (try clear hi); (try clear ho0); obtain ⟨Ao83, co83, eo83⟩ := Kd.R_slice HO776.out; subst eo83))
                                    go_loopg [49, 297] kj70 (fun kq v49 v297 w' => ∃ (x49_5 : Int) (x297_5 : Int), v49 = .int .i64 x49_5 ∧ v297 = .int .i64 x297_5 ∧ Aside0 (laws_FnTablesOfArches.l1 kq t727 t728 t729 t737 t774 t777 t778 x49_5 t773 (t773.length : Int) x297_5 = some true) ∧ Aside0 (kq ≤ kj70) ∧ Aside0 (Kd.S (Kd.slice 3 (Kd.int .i64)) 35 w' w.heap.size (fun k_ => some k_ ≠ (v779 : Value).ownBlock ∧ some k_ ≠ ((.slice Ao83 t773.length co83) : Value).ownBlock) v731 t729) ∧ Aside0 (Kd.S (Kd.slice 3 (Kd.int .i64)) 35 w' w.heap.size (fun k_ => some k_ ≠ (v731 : Value).ownBlock ∧ some k_ ≠ ((.slice Ao83 t773.length co83) : Value).ownBlock) v779 t777) ∧ Aside0 (Kd.R (Kd.int .i64) 3 w' w.heap.size (fun _ => True) (.slice Ao83 t773.length co83) t773) ∧ Aside0 (Below w.heap.size w w'))
                                    case atStart => exact ⟨(0), (0), (by first | rfl | (simp; done) | (simp [*]; done)), (by first | rfl | (simp; done) | (simp [*]; done)), H', ⟨Nat.le_refl _⟩, ⟨by (with_reducible repeat (first | apply Kd.S_alloc | apply Kd.S_drewN | apply Kd.S_drew)); exact Kd.S_mono HO_7.out (fun _ hk => ⟨hk.2, hk.1.2⟩)⟩, ⟨by (with_reducible repeat (first | apply Kd.S_alloc | apply Kd.S_drewN | apply Kd.S_drew)); exact Kd.S_mono HO780.out (fun _ hk => ⟨hk.1.2, hk.2⟩)⟩, ⟨by (with_reducible repeat (first | apply Kd.R_alloc | apply Kd.R_drewN | apply Kd.R_drew)); exact HO776.out⟩, ⟨by repeat (first | (with_reducible first | exact HB.out | apply below_alloc | apply pw_below_drewN | apply below_drew1) | exact HB.out)⟩⟩
                                    case round =>
                                      clear H'
                                      try clear c1
                                      try clear c2
                                      try clear p2
                                      try clear c3
                                      try clear c4
                                      try clear c5
                                      try clear c6
                                      try clear p6
                                      try clear c7
                                      try clear c11
                                      try clear c16
                                      try clear c16b0
                                      try clear c16b1
                                      try clear c16b2
                                      try clear c17
                                      try clear c18
                                      try clear c19
                                      try clear c19b0
                                      try clear c19b1
                                      try clear c19b2
                                      try clear c20
                                      try clear c22
                                      try clear c22b0
                                      try clear c22b1
                                      try clear c27
                                      try clear c28
                                      try clear c29
                                      try clear c30
                                      try clear c31
                                      try clear c32
                                      try clear c33
                                      try clear c34
                                      try clear c35
                                      try clear c35b0
                                      try clear c35b1
                                      try clear c35b2
                                      try clear c36
                                      try clear c37
                                      try clear c38
                                      try clear c39
                                      try clear c40
                                      try clear c41
                                      try clear c42
                                      try clear c46
                                      try clear c46b0
                                      try clear c49
                                      try clear c50
                                      try clear c51
                                      try clear c51b0
                                      try clear c53
                                      try clear c54
                                      try clear c55
                                      try clear c56
                                      try clear c56b0
                                      try clear c56b1
                                      try clear c57
                                      try clear c57b0
                                      try clear c57b1
                                      try clear c58
                                      try clear c58b0
                                      try clear c58b1
                                      try clear c58b2
                                      try clear c59
                                      try clear c59b0
                                      try clear c59b1
                                      try clear c60
                                      try clear c60b0
                                      try clear c60b1
                                      try clear c61
                                      try clear c61b0
                                      try clear c61b1
                                      try clear c62
                                      try clear c62b0
                                      try clear c62b1
                                      try clear c63
                                      try clear c63b0
                                      try clear c63b1
                                      try clear c64
                                      try clear c64b0
                                      try clear c64b1
                                      try clear p64
                                      try clear c74
                                      try clear c74b0
                                      try clear c74b1
                                      try clear c74b2
                                      try clear c75
                                      try clear c75b0
                                      try clear c75b1
                                      try clear c76
                                      try clear c76b0
                                      try clear c76b1
                                      try clear c76b2
                                      try clear c77
                                      try clear c78
                                      try clear p2
                                      try clear p6
                                      try clear p64
                                      obtain ⟨x49_5, x297_5, rfl, rfl, HA, HK5, HO_7, HO_47, HO_295, HB⟩ := hrel
                                      as_aux_lemma =>
                                        cases gk with
                                        | zero => exact absurd HA.out (by simp [laws_FnTablesOfArches.l1])
                                        | succ k5 =>
                                          have H := HA.out
                                          clear HA
                                          simp only [laws_FnTablesOfArches.l1] at H
                                          by_cases c84 : x297_5 < (t773.length : Int)
                                          · rw [if_pos c84] at H
                                            have c84b0 : decide (x297_5 < (t773.length : Int)) = true := decide_eq_true c84
                                            clear c84
                                            by_cases c85 : 0 ≤ x297_5
                                            · rw [if_pos c85] at H
                                              have c85b0 : decide (0 ≤ x297_5) = true := decide_eq_true c85
                                              clear c85
                                              by_cases c86 : x297_5 < (t773.length : Int)
                                              · rw [if_pos c86] at H
                                                have c86b0 : decide (x297_5 < (t773.length : Int)) = true := decide_eq_true c86
                                                clear c86
                                                replace H := Option.bind_eq_some_iff.mp H
                                                obtain ⟨t782, A870, H⟩ := H
                                                replace H : (laws_FnTablesOfArches.l1 k5 t727 t728 t729 t737 t774 t777 t778 (wrap64 (x49_5 + (wrap64 ((rd t773 x297_5) * t782)))) t773 (t773.length : Int) (wrap64 (x297_5 + 1))) = some true := H
                                                have A87 := Aside0.mk A870
                                                clear A870
                                                have H' := Aside0.mk H
                                                clear H
                                                have p781 : 0 ≤ (x297_5 : Int) := of_decide_eq_true (by first | (with_reducible assumption) | assumption)
                                                have q781 : x297_5 < (t773.length : Int) := of_decide_eq_true (by first | (with_reducible assumption) | assumption)
                                                obtain ⟨ad781, e781, hx781_0⟩ := Kd.at_int (Kd.R_reads' HO_295.out).2.2 x297_5 p781 q781
                                                cases e781
                                                replace p781 := eq_true p781
                                                replace q781 := eq_true q781
                                                go_wp2_with (first | ((with_reducible refine gate_callee (f := 37) rfl ?_); refine goesL_ (some 306) rfl rfl Try.func37 (by kernel_rfl) rfl #[.int .i64 t728, .int .i64 x297_5] rfl (by (try simp only [List.map_toArray, List.map_cons, List.map_nil]); first | done | rfl | (simp only [List.length_drop, List.length_take]; rfl)) ?_; (with_reducible refine (laws_sPower.calls k5 t728 x297_5 t782 _ A87.out).mono ?_); rintro e w' ⟨rfl, ⟨nd, rfl⟩⟩; refine ⟨_, rfl, ?_⟩))
                                                go_roundg k5
                                                case measure => have := HJ9.out; have := HJ32.out; have := HJ36.out; have := HJ70.out; have := HK5.out; omega
                                                case rel => exact ⟨(wrap64 (x49_5 + (wrap64 ((rd t773 x297_5) * t782)))), (wrap64 (x297_5 + 1)), (by first | rfl | (simp; done) | (simp [*]; done)), (by first | rfl | (simp; done) | (simp [*]; done)), H', ⟨by have := HJ9.out; have := HJ32.out; have := HJ36.out; have := HJ70.out; have := HK5.out; omega⟩, ⟨by (with_reducible repeat (first | apply Kd.S_alloc | apply Kd.S_drewN | apply Kd.S_drew)); exact HO_7.out⟩, ⟨by (with_reducible repeat (first | apply Kd.S_alloc | apply Kd.S_drewN | apply Kd.S_drew)); exact HO_47.out⟩, ⟨by (with_reducible repeat (first | apply Kd.R_alloc | apply Kd.R_drewN | apply Kd.R_drew)); exact HO_295.out⟩, ⟨by repeat (first | (with_reducible first | exact HB.out | apply below_alloc | apply pw_below_drewN | apply below_drew1) | exact HB.out)⟩⟩
                                              · rw [if_neg c86] at H
                                                exact absurd H (by simp)
                                            · rw [if_neg c85] at H
                                              exact absurd H (by simp)
                                          · rw [if_neg c84] at H
                                            have c84b0 : decide (x297_5 < (t773.length : Int)) = false := decide_eq_false c84
                                            clear c84
                                            have H' := Aside0.mk H
                                            clear H
                                            obtain ⟨Ao88, co88, eo88⟩ := Kd.S_slice HO_7.out
                                            subst eo88
                                            go_wp2
                                            go_loopg [312] k5 (fun kq v312 w' => ∃ (x312_6 : Int), v312 = .int .i64 x312_6 ∧ Aside0 (laws_FnTablesOfArches.l2 kq t727 t728 t729 t737 t774 t777 t778 x49_5 t729 (t729.length : Int) x312_6 = some true) ∧ Aside0 (kq ≤ k5) ∧ Aside0 (Kd.S (Kd.slice 3 (Kd.int .i64)) 35 w' w.heap.size (fun k_ => some k_ ≠ (v779 : Value).ownBlock) (.slice Ao88 t729.length co88) t729) ∧ Aside0 (Kd.S (Kd.slice 3 (Kd.int .i64)) 35 w' w.heap.size (fun k_ => some k_ ≠ ((.slice Ao88 t729.length co88) : Value).ownBlock ∧ some k_ ≠ ((.slice Ao88 t729.length co88) : Value).ownBlock) v779 t777) ∧ Aside0 (Kd.S (Kd.slice 3 (Kd.int .i64)) 35 w' w.heap.size (fun k_ => some k_ ≠ (v779 : Value).ownBlock) (.slice Ao88 t729.length co88) t729) ∧ Aside0 (Below w.heap.size w w'))
                                            case atStart => exact ⟨(0), (by first | rfl | (simp; done) | (simp [*]; done)), H', ⟨Nat.le_refl _⟩, ⟨by (with_reducible repeat (first | apply Kd.S_alloc | apply Kd.S_drewN | apply Kd.S_drew)); exact Kd.S_mono HO_7.out (fun _ hk => hk.1)⟩, ⟨by (with_reducible repeat (first | apply Kd.S_alloc | apply Kd.S_drewN | apply Kd.S_drew)); exact Kd.S_mono HO_47.out (fun _ hk => ⟨hk.1, hk.1⟩)⟩, ⟨by (with_reducible repeat (first | apply Kd.S_alloc | apply Kd.S_drewN | apply Kd.S_drew)); exact Kd.S_mono HO_7.out (fun _ hk => hk.1)⟩, ⟨by repeat (first | (with_reducible first | exact HB.out | apply below_alloc | apply pw_below_drewN | apply below_drew1) | exact HB.out)⟩⟩
                                            case round =>
                                              clear H'
                                              try clear c1
                                              try clear c2
                                              try clear p2
                                              try clear c3
                                              try clear c4
                                              try clear c5
                                              try clear c6
                                              try clear p6
                                              try clear c7
                                              try clear p7
                                              try clear q7
                                              try clear hx7
                                              try clear c8
                                              try clear c11
                                              try clear c16
                                              try clear c16b0
                                              try clear c16b1
                                              try clear c16b2
                                              try clear c17
                                              try clear c18
                                              try clear c19
                                              try clear c19b0
                                              try clear c19b1
                                              try clear c19b2
                                              try clear c20
                                              try clear c22
                                              try clear c22b0
                                              try clear c22b1
                                              try clear c27
                                              try clear c28
                                              try clear c29
                                              try clear c30
                                              try clear c31
                                              try clear c32
                                              try clear c33
                                              try clear c34
                                              try clear c35
                                              try clear c35b0
                                              try clear c35b1
                                              try clear c35b2
                                              try clear c36
                                              try clear c37
                                              try clear c38
                                              try clear c39
                                              try clear c40
                                              try clear c41
                                              try clear c42
                                              try clear c46
                                              try clear c46b0
                                              try clear c49
                                              try clear c50
                                              try clear c51
                                              try clear c51b0
                                              try clear c53
                                              try clear c54
                                              try clear c55
                                              try clear c56
                                              try clear c56b0
                                              try clear c56b1
                                              try clear c57
                                              try clear c57b0
                                              try clear c57b1
                                              try clear c58
                                              try clear c58b0
                                              try clear c58b1
                                              try clear c58b2
                                              try clear c59
                                              try clear c59b0
                                              try clear c59b1
                                              try clear c60
                                              try clear c60b0
                                              try clear c60b1
                                              try clear c61
                                              try clear c61b0
                                              try clear c61b1
                                              try clear c62
                                              try clear c62b0
                                              try clear c62b1
                                              try clear c63
                                              try clear c63b0
                                              try clear c63b1
                                              try clear c64
                                              try clear c64b0
                                              try clear c64b1
                                              try clear p64
                                              try clear c74
                                              try clear c74b0
                                              try clear c74b1
                                              try clear c74b2
                                              try clear c75
                                              try clear c75b0
                                              try clear c75b1
                                              try clear c76
                                              try clear c76b0
                                              try clear c76b1
                                              try clear c76b2
                                              try clear c77
                                              try clear c78
                                              try clear p78
                                              try clear q78
                                              try clear hx78
                                              try clear c84
                                              try clear c84b0
                                              try clear c85
                                              try clear c85b0
                                              try clear c86
                                              try clear c86b0
                                              try clear hx781_0
                                              try clear p2
                                              try clear p6
                                              try clear p64
                                              try clear p781
                                              try clear q781
                                              obtain ⟨x312_6, rfl, HA, HK6, HO_7, HO_47, HO_310, HB⟩ := hrel
                                              as_aux_lemma =>
                                                cases gk with
                                                | zero => exact absurd HA.out (by simp [laws_FnTablesOfArches.l2])
                                                | succ k6 =>
                                                  have H := HA.out
                                                  clear HA
                                                  simp only [laws_FnTablesOfArches.l2] at H
                                                  by_cases c89 : x312_6 < (t729.length : Int)
                                                  · rw [if_pos c89] at H
                                                    have c89b0 : decide (x312_6 < (t729.length : Int)) = true := decide_eq_true c89
                                                    clear c89
                                                    by_cases c90 : 0 ≤ x312_6
                                                    · rw [if_pos c90] at H
                                                      have c90b0 : decide (0 ≤ x312_6) = true := decide_eq_true c90
                                                      clear c90
                                                      by_cases c91 : x312_6 < (t729.length : Int)
                                                      · rw [if_pos c91] at H
                                                        have c91b0 : decide (x312_6 < (t729.length : Int)) = true := decide_eq_true c91
                                                        clear c91
                                                        have H' := Aside0.mk H
                                                        clear H
                                                        have p783 : 0 ≤ (x312_6 : Int) := of_decide_eq_true (by first | (with_reducible assumption) | assumption)
                                                        have q783 : x312_6 < (t729.length : Int) := of_decide_eq_true (by first | (with_reducible assumption) | assumption)
                                                        obtain ⟨ad783, A783_0, c783_0, e783, hx783_0, hl783_0, hi783_0⟩ := at_L1 (Kd.S_reads' HO_310.out).2.2 x312_6 p783 q783
                                                        cases e783
                                                        obtain ⟨ce783, hce783, hMe783, hcc783⟩ := Kd.S_get HO_310.out [] x312_6 p783 (by first | exact q783 | exact of_decide_eq_true (by first | (with_reducible assumption) | assumption) | (have e_ := (Kd.S_reads' HO_310.out).1; omega))
                                                        obtain ⟨ve783_0, rfl, ge783_0⟩ := hMe783
                                                        have hv783_0 := hcc783 0 _ rfl
                                                        rw [Nat.add_zero, show ((Kd.slice 3 (Kd.int .i64))).sz = 1 from rfl, Nat.mul_one] at hv783_0
                                                        replace hv783_0 := Option.some.inj (hv783_0.symm.trans hx783_0)
                                                        rw [hv783_0] at ge783_0
                                                        have HL783_0 := Aside0.mk (show Kd.R (Kd.int .i64) 3 _ _ _ _ (rd_L1 t729 x312_6) from ge783_0)
                                                        clear hv783_0 ge783_0
                                                        clear hcc783 hce783
                                                        have HR783_0 := Aside0.mk hi783_0
                                                        have HC783_0 := Aside0.mk hl783_0
                                                        clear hi783_0 hl783_0
                                                        replace p783 := eq_true p783
                                                        replace q783 := eq_true q783
                                                        go_wp2
                                                        go_loopg [319] k6 (fun kq v319 w' => ∃ (x319_7 : Int), v319 = .int .i64 x319_7 ∧ Aside0 (laws_FnTablesOfArches.l3 kq t727 t728 t729 t737 t774 t777 t778 x49_5 x312_6 t729 (t729.length : Int) x312_6 (rd_L1 t729 x312_6) ((rd_L1 t729 x312_6).length : Int) x319_7 = some true) ∧ Aside0 (kq ≤ k6) ∧ Aside0 (Kd.S (Kd.slice 3 (Kd.int .i64)) 35 w' w.heap.size (fun k_ => some k_ ≠ (v779 : Value).ownBlock) (.slice (some ad783) t729.length co88) t729) ∧ Aside0 (Kd.S (Kd.slice 3 (Kd.int .i64)) 35 w' w.heap.size (fun k_ => some k_ ≠ ((.slice (some ad783) t729.length co88) : Value).ownBlock ∧ some k_ ≠ ((.slice (some ad783) t729.length co88) : Value).ownBlock) v779 t777) ∧ Aside0 (Kd.S (Kd.slice 3 (Kd.int .i64)) 35 w' w.heap.size (fun k_ => some k_ ≠ (v779 : Value).ownBlock) (.slice (some ad783) t729.length co88) t729) ∧ Aside0 (Kd.C (Kd.int .i64) w' A783_0 (rd_L1 t729 x312_6).length (rd_L1 t729 x312_6)) ∧ Aside0 (Below w.heap.size w w'))
                                                        case atStart => exact ⟨(0), (by first | rfl | (simp; done) | (simp [*]; done)), H', ⟨Nat.le_refl _⟩, ⟨by (with_reducible repeat (first | apply Kd.S_alloc | apply Kd.S_drewN | apply Kd.S_drew)); exact HO_7.out⟩, ⟨by (with_reducible repeat (first | apply Kd.S_alloc | apply Kd.S_drewN | apply Kd.S_drew)); exact HO_47.out⟩, ⟨by (with_reducible repeat (first | apply Kd.S_alloc | apply Kd.S_drewN | apply Kd.S_drew)); exact HO_310.out⟩, ⟨by repeat (first | (with_reducible exact HR783_0.out) | (with_reducible refine Kd.C_alloc ?_ _) | (with_reducible refine Kd.C_drewN ?_ _) | (with_reducible refine Kd.C_drew ?_) | exact HR783_0.out)⟩, ⟨by repeat (first | (with_reducible first | exact HB.out | apply below_alloc | apply pw_below_drewN | apply below_drew1) | exact HB.out)⟩⟩
                                                        case round =>
                                                          clear H'
                                                          try clear c1
                                                          try clear c2
                                                          try clear p2
                                                          try clear c3
                                                          try clear c4
                                                          try clear c5
                                                          try clear c6
                                                          try clear p6
                                                          try clear c7
                                                          try clear p7
                                                          try clear q7
                                                          try clear hx7
                                                          try clear c8
                                                          try clear c9
                                                          try clear c11
                                                          try clear c16
                                                          try clear c16b0
                                                          try clear c16b1
                                                          try clear c16b2
                                                          try clear c17
                                                          try clear c18
                                                          try clear c19
                                                          try clear c19b0
                                                          try clear c19b1
                                                          try clear c19b2
                                                          try clear c20
                                                          try clear c22
                                                          try clear c22b0
                                                          try clear c22b1
                                                          try clear c27
                                                          try clear c28
                                                          try clear c29
                                                          try clear c30
                                                          try clear c31
                                                          try clear c32
                                                          try clear c33
                                                          try clear c34
                                                          try clear c35
                                                          try clear c35b0
                                                          try clear c35b1
                                                          try clear c35b2
                                                          try clear c36
                                                          try clear c37
                                                          try clear c38
                                                          try clear c39
                                                          try clear c40
                                                          try clear c41
                                                          try clear c42
                                                          try clear c46
                                                          try clear c46b0
                                                          try clear c49
                                                          try clear c50
                                                          try clear c51
                                                          try clear c51b0
                                                          try clear c53
                                                          try clear c54
                                                          try clear c55
                                                          try clear c56
                                                          try clear c56b0
                                                          try clear c56b1
                                                          try clear c57
                                                          try clear c57b0
                                                          try clear c57b1
                                                          try clear c58
                                                          try clear c58b0
                                                          try clear c58b1
                                                          try clear c58b2
                                                          try clear c59
                                                          try clear c59b0
                                                          try clear c59b1
                                                          try clear c60
                                                          try clear c60b0
                                                          try clear c60b1
                                                          try clear c61
                                                          try clear c61b0
                                                          try clear c61b1
                                                          try clear c62
                                                          try clear c62b0
                                                          try clear c62b1
                                                          try clear c63
                                                          try clear c63b0
                                                          try clear c63b1
                                                          try clear c64
                                                          try clear c64b0
                                                          try clear c64b1
                                                          try clear p64
                                                          try clear c74
                                                          try clear c74b0
                                                          try clear c74b1
                                                          try clear c74b2
                                                          try clear c75
                                                          try clear c75b0
                                                          try clear c75b1
                                                          try clear c76
                                                          try clear c76b0
                                                          try clear c76b1
                                                          try clear c76b2
                                                          try clear c77
                                                          try clear c78
                                                          try clear p78
                                                          try clear q78
                                                          try clear hx78
                                                          try clear c84
                                                          try clear c84b0
                                                          try clear c85
                                                          try clear c85b0
                                                          try clear c86
                                                          try clear c86b0
                                                          try clear c89
                                                          try clear c89b0
                                                          try clear c90
                                                          try clear c90b0
                                                          try clear c91
                                                          try clear c91b0
                                                          try clear hx781_0
                                                          try clear hx783_0
                                                          try clear p2
                                                          try clear p6
                                                          try clear p64
                                                          try clear p7
                                                          try clear p78
                                                          try clear p781
                                                          try clear p783
                                                          try clear q7
                                                          try clear q78
                                                          try clear q781
                                                          try clear q783
                                                          obtain ⟨x319_7, rfl, HA, HK7, HO_7, HO_47, HO_310, HR783_0, HB⟩ := hrel
                                                          as_aux_lemma =>
                                                            cases gk with
                                                            | zero => exact absurd HA.out (by simp [laws_FnTablesOfArches.l3])
                                                            | succ k7 =>
                                                              have H := HA.out
                                                              clear HA
                                                              simp only [laws_FnTablesOfArches.l3] at H
                                                              by_cases c92 : x319_7 < ((rd_L1 t729 x312_6).length : Int)
                                                              · rw [if_pos c92] at H
                                                                have c92b0 : decide (x319_7 < ((rd_L1 t729 x312_6).length : Int)) = true := decide_eq_true c92
                                                                clear c92
                                                                by_cases c93 : 0 ≤ x319_7
                                                                · rw [if_pos c93] at H
                                                                  have c93b0 : decide (0 ≤ x319_7) = true := decide_eq_true c93
                                                                  clear c93
                                                                  by_cases c94 : x319_7 < ((rd_L1 t729 x312_6).length : Int)
                                                                  · rw [if_pos c94] at H
                                                                    have c94b0 : decide (x319_7 < ((rd_L1 t729 x312_6).length : Int)) = true := decide_eq_true c94
                                                                    clear c94
                                                                    by_cases c95 : x319_7 < (t729.length : Int)
                                                                    · rw [if_pos c95] at H
                                                                      have c95b0 : decide (x319_7 < (t729.length : Int)) = true := decide_eq_true c95
                                                                      clear c95
                                                                      by_cases c96 : 0 ≤ x312_6
                                                                      · rw [if_pos c96] at H
                                                                        have c96b0 : decide (0 ≤ x312_6) = true := decide_eq_true c96
                                                                        clear c96
                                                                        by_cases c97 : x312_6 < ((rd_L1 t729 x319_7).length : Int)
                                                                        · rw [if_pos c97] at H
                                                                          have c97b0 : decide (x312_6 < ((rd_L1 t729 x319_7).length : Int)) = true := decide_eq_true c97
                                                                          clear c97
                                                                          by_cases c98 : (rd (rd_L1 t729 x312_6) x319_7) = (rd (rd_L1 t729 x319_7) x312_6)
                                                                          · rw [if_pos c98] at H
                                                                            have c98b0 : ((rd (rd_L1 t729 x312_6) x319_7) == (rd (rd_L1 t729 x319_7) x312_6)) = true := beq_iff_eq.mpr c98
                                                                            have c98b1 : ((rd (rd_L1 t729 x312_6) x319_7) != (rd (rd_L1 t729 x319_7) x312_6)) = false := bne_eq_false_iff_eq.mpr c98
                                                                            clear c98
                                                                            by_cases c99 : x312_6 < (t777.length : Int)
                                                                            · rw [if_pos c99] at H
                                                                              have c99b0 : decide (x312_6 < (t777.length : Int)) = true := decide_eq_true c99
                                                                              clear c99
                                                                              by_cases c100 : x319_7 < ((rd_L1 t777 x312_6).length : Int)
                                                                              · rw [if_pos c100] at H
                                                                                have c100b0 : decide (x319_7 < ((rd_L1 t777 x312_6).length : Int)) = true := decide_eq_true c100
                                                                                clear c100
                                                                                replace H := Option.bind_eq_some_iff.mp H
                                                                                obtain ⟨t789, A1010, H⟩ := H
                                                                                replace H : (if (rd (rd_L1 t729 x312_6) x319_7) = t789 then (if (((rd (rd_L1 t777 x312_6) x319_7) == t727) != (x312_6 == x319_7)) = true then (some false) else (laws_FnTablesOfArches.l3 k7 t727 t728 t729 t737 t774 t777 t778 x49_5 x312_6 t729 (t729.length : Int) x312_6 (rd_L1 t729 x312_6) ((rd_L1 t729 x312_6).length : Int) (wrap64 (x319_7 + 1)))) else (some false)) = some true := H
                                                                                have A101 := Aside0.mk A1010
                                                                                clear A1010
                                                                                by_cases c102 : (rd (rd_L1 t729 x312_6) x319_7) = t789
                                                                                · rw [if_pos c102] at H
                                                                                  have c102b0 : ((rd (rd_L1 t729 x312_6) x319_7) == t789) = true := beq_iff_eq.mpr c102
                                                                                  have c102b1 : ((rd (rd_L1 t729 x312_6) x319_7) != t789) = false := bne_eq_false_iff_eq.mpr c102
                                                                                  clear c102
                                                                                  by_cases c103 : (((rd (rd_L1 t777 x312_6) x319_7) == t727) != (x312_6 == x319_7)) = true
                                                                                  · rw [if_pos c103] at H
                                                                                    have c103b0 : (((rd (rd_L1 t777 x312_6) x319_7) == t727) != (x312_6 == x319_7)) = true := c103
                                                                                    (try (have c103b1 : decide (((rd (rd_L1 t777 x312_6) x319_7) == t727) = (x312_6 == x319_7)) = false := by simpa using c103))
                                                                                    (try (have c103b2 : (((rd (rd_L1 t777 x312_6) x319_7) == t727) == (x312_6 == x319_7)) = false := by simpa using c103))
                                                                                    (try (have c103b3 : ¬ (((rd (rd_L1 t777 x312_6) x319_7) == t727) = (x312_6 == x319_7)) := by simpa using c103))
                                                                                    clear c103
                                                                                    exact absurd H (by simp)
                                                                                  · rw [if_neg c103] at H
                                                                                    have c103b0 : (((rd (rd_L1 t777 x312_6) x319_7) == t727) != (x312_6 == x319_7)) = false := by simpa using c103
                                                                                    (try (have c103b1 : decide (((rd (rd_L1 t777 x312_6) x319_7) == t727) = (x312_6 == x319_7)) = true := by simpa using c103))
                                                                                    (try (have c103b2 : (((rd (rd_L1 t777 x312_6) x319_7) == t727) == (x312_6 == x319_7)) = true := by simpa using c103))
                                                                                    clear c103
                                                                                    have H' := Aside0.mk H
                                                                                    clear H
                                                                                    have p784 : 0 ≤ (x319_7 : Int) := of_decide_eq_true (by first | (with_reducible assumption) | assumption)
                                                                                    have q784 : x319_7 < ((rd_L1 t729 x312_6).length : Int) := of_decide_eq_true (by first | (with_reducible assumption) | assumption)
                                                                                    obtain ⟨ad784, e784, hx784_0⟩ := Kd.at_int HR783_0.out x319_7 p784 q784
                                                                                    cases e784
                                                                                    replace p784 := eq_true p784
                                                                                    replace q784 := eq_true q784
                                                                                    have p785 : 0 ≤ (x319_7 : Int) := of_decide_eq_true (by first | (with_reducible assumption) | assumption)
                                                                                    have q785 : x319_7 < (t729.length : Int) := of_decide_eq_true (by first | (with_reducible assumption) | assumption)
                                                                                    obtain ⟨ad785, A785_0, c785_0, e785, hx785_0, hl785_0, hi785_0⟩ := at_L1 (Kd.S_reads' HO_7.out).2.2 x319_7 p785 q785
                                                                                    obtain rfl : ad783 = ad785 := (by injection e785)
                                                                                    obtain ⟨ce785, hce785, hMe785, hcc785⟩ := Kd.S_get HO_7.out [] x319_7 p785 (by first | exact q785 | exact of_decide_eq_true (by first | (with_reducible assumption) | assumption) | (have e_ := (Kd.S_reads' HO_7.out).1; omega))
                                                                                    obtain ⟨ve785_0, rfl, ge785_0⟩ := hMe785
                                                                                    have hv785_0 := hcc785 0 _ rfl
                                                                                    rw [Nat.add_zero, show ((Kd.slice 3 (Kd.int .i64))).sz = 1 from rfl, Nat.mul_one] at hv785_0
                                                                                    replace hv785_0 := Option.some.inj (hv785_0.symm.trans hx785_0)
                                                                                    rw [hv785_0] at ge785_0
                                                                                    have HL785_0 := Aside0.mk (show Kd.R (Kd.int .i64) 3 _ _ _ _ (rd_L1 t729 x319_7) from ge785_0)
                                                                                    clear hv785_0 ge785_0
                                                                                    clear hcc785 hce785
                                                                                    have HR785_0 := Aside0.mk hi785_0
                                                                                    have HC785_0 := Aside0.mk hl785_0
                                                                                    clear hi785_0 hl785_0
                                                                                    replace p785 := eq_true p785
                                                                                    replace q785 := eq_true q785
                                                                                    have p786 : 0 ≤ (x312_6 : Int) := of_decide_eq_true (by first | (with_reducible assumption) | assumption)
                                                                                    have q786 : x312_6 < ((rd_L1 t729 x319_7).length : Int) := of_decide_eq_true (by first | (with_reducible assumption) | assumption)
                                                                                    obtain ⟨ad786, e786, hx786_0⟩ := Kd.at_int (by repeat (first | (with_reducible exact HR785_0.out) | (with_reducible refine Kd.C_alloc ?_ _) | (with_reducible refine Kd.C_drewN ?_ _) | (with_reducible refine Kd.C_drew ?_) | exact HR785_0.out)) x312_6 p786 q786
                                                                                    cases e786
                                                                                    replace p786 := eq_true p786
                                                                                    replace q786 := eq_true q786
                                                                                    obtain ⟨Ao104, co104, eo104⟩ := Kd.S_slice HO_47.out
                                                                                    subst eo104
                                                                                    have p787 : 0 ≤ (x312_6 : Int) := of_decide_eq_true (by first | (with_reducible assumption) | assumption)
                                                                                    have q787 : x312_6 < (t777.length : Int) := of_decide_eq_true (by first | (with_reducible assumption) | assumption)
                                                                                    obtain ⟨ad787, A787_0, c787_0, e787, hx787_0, hl787_0, hi787_0⟩ := at_L1 (Kd.S_reads' HO_47.out).2.2 x312_6 p787 q787
                                                                                    cases e787
                                                                                    obtain ⟨ce787, hce787, hMe787, hcc787⟩ := Kd.S_get HO_47.out [] x312_6 p787 (by first | exact q787 | exact of_decide_eq_true (by first | (with_reducible assumption) | assumption) | (have e_ := (Kd.S_reads' HO_47.out).1; omega))
                                                                                    obtain ⟨ve787_0, rfl, ge787_0⟩ := hMe787
                                                                                    have hv787_0 := hcc787 0 _ rfl
                                                                                    rw [Nat.add_zero, show ((Kd.slice 3 (Kd.int .i64))).sz = 1 from rfl, Nat.mul_one] at hv787_0
                                                                                    replace hv787_0 := Option.some.inj (hv787_0.symm.trans hx787_0)
                                                                                    rw [hv787_0] at ge787_0
                                                                                    have HL787_0 := Aside0.mk (show Kd.R (Kd.int .i64) 3 _ _ _ _ (rd_L1 t777 x312_6) from ge787_0)
                                                                                    clear hv787_0 ge787_0
                                                                                    clear hcc787 hce787
                                                                                    have HR787_0 := Aside0.mk hi787_0
                                                                                    have HC787_0 := Aside0.mk hl787_0
                                                                                    clear hi787_0 hl787_0
                                                                                    replace p787 := eq_true p787
                                                                                    replace q787 := eq_true q787
                                                                                    have p788 : 0 ≤ (x319_7 : Int) := of_decide_eq_true (by first | (with_reducible assumption) | assumption)
                                                                                    have q788 : x319_7 < ((rd_L1 t777 x312_6).length : Int) := of_decide_eq_true (by first | (with_reducible assumption) | assumption)
                                                                                    obtain ⟨ad788, e788, hx788_0⟩ := Kd.at_int (by repeat (first | (with_reducible exact HR787_0.out) | (with_reducible refine Kd.C_alloc ?_ _) | (with_reducible refine Kd.C_drewN ?_ _) | (with_reducible refine Kd.C_drew ?_) | exact HR787_0.out)) x319_7 p788 q788
                                                                                    cases e788
                                                                                    replace p788 := eq_true p788
                                                                                    replace q788 := eq_true q788
                                                                                    go_wp2_with (first | (go_at_call 37; (with_reducible refine (laws_sPower.calls k7 t728 (rd (rd_L1 t777 x312_6) x319_7) t789 _ A101.out).mono ?_); rintro e w' ⟨rfl, ⟨nd, rfl⟩⟩; have p790 : 0 ≤ (x312_6 : Int) := of_decide_eq_true (by first | (with_reducible assumption) | assumption); have q790 : x312_6 < (t777.length : Int) := of_decide_eq_true (by first | (with_reducible assumption) | assumption); obtain ⟨ad790, A790_0, c790_0, e790, hx790_0, hl790_0, hi790_0⟩ := at_L1 (Kd.S_reads' HO_47.out).2.2 x312_6 p790 q790; obtain rfl : ad787 = ad790 := (by injection e790); obtain ⟨ce790, hce790, hMe790, hcc790⟩ := Kd.S_get HO_47.out [] x312_6 p790 (by first | exact q790 | exact of_decide_eq_true (by first | (with_reducible assumption) | assumption) | (have e_ := (Kd.S_reads' HO_47.out).1; omega)); obtain ⟨ve790_0, rfl, ge790_0⟩ := hMe790; have hv790_0 := hcc790 0 _ rfl; rw [Nat.add_zero, show ((Kd.slice 3 (Kd.int .i64))).sz = 1 from rfl, Nat.mul_one] at hv790_0; replace hv790_0 := Option.some.inj (hv790_0.symm.trans hx790_0); rw [hv790_0] at ge790_0; have HL790_0 := Aside0.mk (show Kd.R (Kd.int .i64) 3 _ _ _ _ (rd_L1 t777 x312_6) from ge790_0); clear hv790_0 ge790_0; clear hcc790 hce790; have HR790_0 := Aside0.mk hi790_0; have HC790_0 := Aside0.mk hl790_0; clear hi790_0 hl790_0; replace p790 := eq_true p790; replace q790 := eq_true q790; have ea_ := Option.some.inj (hx787_0.symm.trans hx790_0); injection ea_ with ea_ en_ ec_; subst ea_; subst ec_; clear en_; have p791 : 0 ≤ (x319_7 : Int) := of_decide_eq_true (by first | (with_reducible assumption) | assumption); have q791 : x319_7 < ((rd_L1 t777 x312_6).length : Int) := of_decide_eq_true (by first | (with_reducible assumption) | assumption); obtain ⟨ad791, e791, hx791_0⟩ := Kd.at_int (by repeat (first | (with_reducible exact HR790_0.out) | (with_reducible refine Kd.C_alloc ?_ _) | (with_reducible refine Kd.C_drewN ?_ _) | (with_reducible refine Kd.C_drew ?_) | exact HR790_0.out)) x319_7 p791 q791; cases e791; replace p791 := eq_true p791; replace q791 := eq_true q791))
                                                                                    go_roundg k7
                                                                                    case measure => have := HJ9.out; have := HJ32.out; have := HJ36.out; have := HJ70.out; have := HK5.out; have := HK6.out; have := HK7.out; omega
                                                                                    case rel => exact ⟨(wrap64 (x319_7 + 1)), (by first | rfl | (simp; done) | (simp [*]; done)), H', ⟨by have := HJ9.out; have := HJ32.out; have := HJ36.out; have := HJ70.out; have := HK5.out; have := HK6.out; have := HK7.out; omega⟩, ⟨by (with_reducible repeat (first | apply Kd.S_alloc | apply Kd.S_drewN | apply Kd.S_drew)); exact HO_7.out⟩, ⟨by (with_reducible repeat (first | apply Kd.S_alloc | apply Kd.S_drewN | apply Kd.S_drew)); exact HO_47.out⟩, ⟨by (with_reducible repeat (first | apply Kd.S_alloc | apply Kd.S_drewN | apply Kd.S_drew)); exact HO_310.out⟩, ⟨by repeat (first | (with_reducible exact HR783_0.out) | (with_reducible refine Kd.C_alloc ?_ _) | (with_reducible refine Kd.C_drewN ?_ _) | (with_reducible refine Kd.C_drew ?_) | exact HR783_0.out)⟩, ⟨by repeat (first | (with_reducible first | exact HB.out | apply below_alloc | apply pw_below_drewN | apply below_drew1) | exact HB.out)⟩⟩
                                                                                · rw [if_neg c102] at H
                                                                                  have c102b0 : ((rd (rd_L1 t729 x312_6) x319_7) == t789) = false := beq_eq_false_iff_ne.mpr c102
                                                                                  have c102b1 : ((rd (rd_L1 t729 x312_6) x319_7) != t789) = true := bne_iff_ne.mpr c102
                                                                                  exact absurd H (by simp)
                                                                              · rw [if_neg c100] at H
                                                                                exact absurd H (by simp)
                                                                            · rw [if_neg c99] at H
                                                                              exact absurd H (by simp)
                                                                          · rw [if_neg c98] at H
                                                                            have c98b0 : ((rd (rd_L1 t729 x312_6) x319_7) == (rd (rd_L1 t729 x319_7) x312_6)) = false := beq_eq_false_iff_ne.mpr c98
                                                                            have c98b1 : ((rd (rd_L1 t729 x312_6) x319_7) != (rd (rd_L1 t729 x319_7) x312_6)) = true := bne_iff_ne.mpr c98
                                                                            exact absurd H (by simp)
                                                                        · rw [if_neg c97] at H
                                                                          exact absurd H (by simp)
                                                                      · rw [if_neg c96] at H
                                                                        exact absurd H (by simp)
                                                                    · rw [if_neg c95] at H
                                                                      exact absurd H (by simp)
                                                                  · rw [if_neg c94] at H
                                                                    exact absurd H (by simp)
                                                                · rw [if_neg c93] at H
                                                                  exact absurd H (by simp)
                                                              · rw [if_neg c92] at H
                                                                have c92b0 : decide (x319_7 < ((rd_L1 t729 x312_6).length : Int)) = false := decide_eq_false c92
                                                                clear c92
                                                                have H' := Aside0.mk H
                                                                clear H
                                                                go_wp2
                                                                go_roundg k7
                                                                case measure => have := HJ9.out; have := HJ32.out; have := HJ36.out; have := HJ70.out; have := HK5.out; have := HK6.out; have := HK7.out; omega
                                                                case rel => exact ⟨(wrap64 (x312_6 + 1)), (by first | rfl | (simp; done) | (simp [*]; done)), H', ⟨by have := HJ9.out; have := HJ32.out; have := HJ36.out; have := HJ70.out; have := HK5.out; have := HK6.out; have := HK7.out; omega⟩, ⟨by (with_reducible repeat (first | apply Kd.S_alloc | apply Kd.S_drewN | apply Kd.S_drew)); exact HO_7.out⟩, ⟨by (with_reducible repeat (first | apply Kd.S_alloc | apply Kd.S_drewN | apply Kd.S_drew)); exact HO_47.out⟩, ⟨by (with_reducible repeat (first | apply Kd.S_alloc | apply Kd.S_drewN | apply Kd.S_drew)); exact HO_310.out⟩, ⟨by repeat (first | (with_reducible first | exact HB.out | apply below_alloc | apply pw_below_drewN | apply below_drew1) | exact HB.out)⟩⟩
                                                      · rw [if_neg c91] at H
                                                        exact absurd H (by simp)
                                                    · rw [if_neg c90] at H
                                                      exact absurd H (by simp)
                                                  · rw [if_neg c89] at H
                                                    have c89b0 : decide (x312_6 < (t729.length : Int)) = false := decide_eq_false c89
                                                    clear c89
                                                    by_cases c105 : t774 = true
                                                    · subst c105
                                                      have H1 : (if t778 = true then (some (x49_5 == t737)) else (some false)) = some true := by rw [if_pos rfl] at H; first | done | exact H
                                                      clear H
                                                      have H := H1
                                                      clear H1
                                                      by_cases c106 : t778 = true
                                                      · subst c106
                                                        have H1 : (some (x49_5 == t737)) = some true := by rw [if_pos rfl] at H; first | done | exact H
                                                        clear H
                                                        have H := H1
                                                        clear H1
                                                        have HX := Aside0.mk (Option.some.inj H)
                                                        clear H
                                                        go_wp2
                                                        go_ret
                                                        exact ⟨by first | rfl | (rw [HX.out]; done) | (rw [eq_of_beq HX.out]; first | rfl | (simp; done)) | (have hx_ := HX.out; simp_all; done) | (simp [errW_none, errW_some] <;> rfl) | (simp [*, errW_none, errW_some] <;> rfl), by repeat (first | (with_reducible first | exact HB.out | apply below_alloc | apply pw_below_drewN | apply below_drew1) | exact HB.out)⟩
                                                      · replace c106 := Bool.eq_false_iff.mpr c106
                                                        subst c106
                                                        have H1 : (some false) = some true := by rw [if_neg (show ¬ (false = true) by decide)] at H; first | done | exact H
                                                        clear H
                                                        have H := H1
                                                        clear H1
                                                        exact absurd H (by simp)
                                                    · replace c105 := Bool.eq_false_iff.mpr c105
                                                      subst c105
                                                      have H1 : (some false) = some true := by rw [if_neg (show ¬ (false = true) by decide)] at H; first | done | exact H
                                                      clear H
                                                      have H := H1
                                                      clear H1
                                                      exact absurd H (by simp)
                                  · replace c78 := Bool.eq_false_iff.mpr c78
                                    subst c78
                                    have H1 : (some true) = some true := by rw [if_neg (show ¬ (false = true) by decide)] at H; first | done | exact H
                                    clear H
                                    have H := H1
                                    clear H1
                                    clear H
                                    go_wp2
                                    go_ret
                                    exact ⟨by first | rfl | (simp [errW_none, errW_some] <;> rfl) | (simp [*, errW_none, errW_some] <;> rfl), by repeat (first | (with_reducible first | exact HB.out | apply below_alloc | apply pw_below_drewN | apply below_drew1) | exact HB.out)⟩

/-- THE ONE PURE STATEMENT of laws_FnTablesOfArches: yours. -/
def laws_FnTablesOfArches.Pure : Prop := ∀ (l0 : List Int) (l1 : List Int), l0.length ≤ maxLen → l0.length * 1 ≤ 140737488351232 → (∀ x ∈ l0, (Lit.int .u8 x).wf = true) → l1.length ≤ maxLen → l1.length * 1 ≤ 140737488351232 → (∀ x ∈ l1, (Lit.int .u8 x).wf = true) → ∃ k, laws_FnTablesOfArches.f k l0 l1 = some true
theorem laws_FnTablesOfArches.walk (P : laws_FnTablesOfArches.Pure) (a0 : Option Addr) (len0 cap0 : Nat) (z0 : List Int) (a1 : Option Addr) (len1 cap1 : Nat) (z1 : List Int) (w : World) (w0 : (a0 = none ∧ len0 = 0 ∧ cap0 = 0 ∧ z0 = []) ∨ ∃ x, a0 = some x ∧ len0 ≤ cap0 ∧ cap0 ≤ maxLen ∧ z0.length = cap0 ∧ (∀ i, i < z0.length → w.cell? (x.add i) = some (.int .u8 (z0.getD i 0))) ∧ ∀ n ∈ z0, (Lit.int .u8 n).wf = true) (y0 : len0 * 1 ≤ 140737488351232) (w1 : (a1 = none ∧ len1 = 0 ∧ cap1 = 0 ∧ z1 = []) ∨ ∃ x, a1 = some x ∧ len1 ≤ cap1 ∧ cap1 ≤ maxLen ∧ z1.length = cap1 ∧ (∀ i, i < z1.length → w.cell? (x.add i) = some (.int .u8 (z1.getD i 0))) ∧ ∀ n ∈ z1, (Lit.int .u8 n).wf = true) (y1 : len1 * 1 ≤ 140737488351232) :
    Calls Try.prog 7 #[.slice a0 len0 cap0, .slice a1 len1 cap1] w fun e w' => e = .returned (.bool true) ∧ Below w.heap.size w w' := by
  obtain ⟨l0, rfl, hr0, hm0, hw0, hc0⟩ := ReadsInt.ofRowC w0
  obtain ⟨l1, rfl, hr1, hm1, hw1, hc1⟩ := ReadsInt.ofRowC w1
  obtain ⟨k, h⟩ := P l0 l1 hm0 y0 hw0 hm1 y1 hw1
  refine (laws_FnTablesOfArches.calls k _ _ l0 _ _ l1 w (Kd.C_of_reads (d := (0 : Int)) (h1 := fun _ => rfl) hr0) hc0 (Kd.C_of_reads (d := (0 : Int)) (h1 := fun _ => rfl) hr1) hc1 h).mono ?_
  rintro e w' ⟨rfl, hd⟩
  exact ⟨rfl, hd⟩

end Go.Proofs.Ytbphdjnainlbhaa.R
