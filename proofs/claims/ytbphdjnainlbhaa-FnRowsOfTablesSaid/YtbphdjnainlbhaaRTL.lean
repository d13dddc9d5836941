-- printed by wip/drv/xprint.py (our driver) out of the translation; Lean checks it
import Derived.Test.YtbphdjnainlbhaaQA2
namespace Go.Proofs.Ytbphdjnainlbhaa.R
open Go.RowKit Go.Proofs.YtbphdjnainlbhaaW.PrintWords Go.Proofs.YtbphdjnainlbhaaW.PrintLast Go.Proofs.YtbphdjnainlbhaaW.PrintMore
attribute [local go_sem] max2_int min2_int max_two min_two max_three min_three max_four min_four   -- for this text's walks alone
set_option linter.unusedVariables false
set_option linter.unusedSimpArgs false

/-! ### laws_FnRowsOfTables: function 6 -/
mutual
def laws_FnRowsOfTables.j0 : Nat → List Int → List (List Int) → Int → Bool → Int → Bool → Int → Bool → Bool → Option (Bool)
 | 0, _, _, _, _, _, _, _, _, _ => none
 | k + 1, x1, x5, x6, x7, x10, x11, x14, x15, x113 => if x113 = true then (some false) else ((spec_DrawExponentTable.f x1).bind fun t552 => ((impl_ExponentTable.f k t552).bind fun bt553 => ((spec_ExponentTable.f k t552).bind fun bt557 => (if (bt553.2 != bt557.2) = true then (laws_FnRowsOfTables.j1 k x1 x5 x6 x7 x10 x11 x14 x15 true) else ((laws_sSameRows.f k bt553.1 bt557.1).bind fun t561 => (laws_FnRowsOfTables.j1 k x1 x5 x6 x7 x10 x11 x14 x15 (!t561)))))))
def laws_FnRowsOfTables.j1 : Nat → List Int → List (List Int) → Int → Bool → Int → Bool → Int → Bool → Bool → Option (Bool)
 | 0, _, _, _, _, _, _, _, _, _ => none
 | k + 1, x1, x5, x6, x7, x10, x11, x14, x15, x134 => if x134 = true then (some false) else ((spec_DrawApplyTable.f k x1).bind fun bt562 => ((impl_ApplyTable.f k bt562.1 bt562.2).bind fun bt568 => ((spec_ApplyTable.f k bt562.1 bt562.2).bind fun bt572 => (if (bt568.2 != bt572.2) = true then (laws_FnRowsOfTables.j2 k x5 x6 x7 x10 x11 x14 x15 bt562.1 bt562.2 bt568.1 bt568.2 true) else ((laws_sSame.f k bt568.1 bt572.1).bind fun t576 => (laws_FnRowsOfTables.j2 k x5 x6 x7 x10 x11 x14 x15 bt562.1 bt562.2 bt568.1 bt568.2 (!t576)))))))
def laws_FnRowsOfTables.j2 : Nat → List (List Int) → Int → Bool → Int → Bool → Int → Bool → List (List Int) → List Int → List Int → Bool → Bool → Option (Bool)
 | 0, _, _, _, _, _, _, _, _, _, _, _, _ => none
 | k + 1, x5, x6, x7, x10, x11, x14, x15, x23, x24, x25, x26, x160 => if x160 = true then (some false) else (if x26 = true then (laws_FnRowsOfTables.l0 k x5 x6 x7 x10 x11 x14 x15 x23 x25 ([] : List Int) x24 (x24.length : Int) 0) else (laws_FnRowsOfTables.j5 k x5 x6 x7 x10 x11 x14 x15))
def laws_FnRowsOfTables.j5 : Nat → List (List Int) → Int → Bool → Int → Bool → Int → Bool → Option (Bool)
 | 0, _, _, _, _, _, _, _ => none
 | k + 1, x5, x6, x7, x10, x11, x14, x15 => if x11 = true then (if (x15 == (x10 == (x5.length : Int))) = true then (laws_FnRowsOfTables.j6 k x5 x6 x7 x10 true) else (if x15 = true then (if x10 < x14 then (laws_FnRowsOfTables.j6 k x5 x6 x7 x10 true) else (if x7 = true then (if x6 = 0 then (laws_FnRowsOfTables.j6 k x5 x6 x7 x10 false) else (laws_FnRowsOfTables.j6 k x5 x6 x7 x10 true)) else (laws_FnRowsOfTables.j6 k x5 x6 x7 x10 false))) else (if x7 = true then (laws_FnRowsOfTables.j6 k x5 x6 x7 x10 (x6 == 0)) else (laws_FnRowsOfTables.j6 k x5 x6 x7 x10 false)))) else (some true)
def laws_FnRowsOfTables.j6 : Nat → List (List Int) → Int → Bool → Int → Bool → Option (Bool)
 | 0, _, _, _, _, _ => none
 | k + 1, x5, x6, x7, x10, x231 => if x231 = true then (some false) else (laws_FnRowsOfTables.l2 k x5 x6 x7 x10 ([] : List (List Int)) (x5.length : Int) 0)
def laws_FnRowsOfTables.l2 : Nat → List (List Int) → Int → Bool → Int → List (List Int) → Int → Int → Option (Bool)
 | 0, _, _, _, _, _, _, _ => none
 | k + 1, x5, x6, x7, x10, x35, x233, x234 => if x234 < x233 then (laws_FnRowsOfTables.l3 k x5 x6 x7 x10 x35 x234 ([] : List Int) x233 x234 x5 (x5.length : Int) 0) else ((impl_RankOf.f k x35).bind fun bt587 => ((impl_DeterminantOf.f k x35).bind fun bt589 => (if bt587.2 = true then (if bt587.1 = x10 then (if (bt589.2 == x7) = true then (some (bt589.1 == x6)) else (some false)) else (some false)) else (some false))))
def laws_FnRowsOfTables.l3 : Nat → List (List Int) → Int → Bool → Int → List (List Int) → Int → List Int → Int → Int → List (List Int) → Int → Int → Option (Bool)
 | 0, _, _, _, _, _, _, _, _, _, _, _, _ => none
 | k + 1, x5, x6, x7, x10, x35, x36, x37, x233, x234, x237, x238, x239 => if x239 < x238 then (if 0 ≤ x239 then (if x239 < (x237.length : Int) then (if 0 ≤ x36 then (if x36 < ((rd_L1 x237 x239).length : Int) then (if x37.length < 17592186044416 then (laws_FnRowsOfTables.l3 k x5 x6 x7 x10 x35 x36 (x37 ++ [rd (rd_L1 x237 x239) x36]) x233 x234 x237 x238 (wrap64 (x239 + 1))) else (none)) else (none)) else (none)) else (none)) else (none)) else (if x35.length < 5864062014805 then (laws_FnRowsOfTables.l2 k x5 x6 x7 x10 (x35 ++ [x37]) x233 (wrap64 (x234 + 1))) else (none))
def laws_FnRowsOfTables.l0 : Nat → List (List Int) → Int → Bool → Int → Bool → Int → Bool → List (List Int) → List Int → List Int → List Int → Int → Int → Option (Bool)
 | 0, _, _, _, _, _, _, _, _, _, _, _, _, _ => none
 | k + 1, x5, x6, x7, x10, x11, x14, x15, x23, x25, x29, x162, x163, x164 => if x164 < x163 then (if 0 ≤ x164 then (if x164 < (x162.length : Int) then (if x29.length < 17592186044416 then (laws_FnRowsOfTables.l0 k x5 x6 x7 x10 x11 x14 x15 x23 x25 (x29 ++ [wrap64 (-(rd x162 x164))]) x162 x163 (wrap64 (x164 + 1))) else (none)) else (none)) else (none)) else ((impl_ApplyTable.f k x23 x29).bind fun bt581 => (if bt581.2 = true then (laws_FnRowsOfTables.l1 k x5 x6 x7 x10 x11 x14 x15 x25 bt581.1 (x25.length : Int) 0) else (some false)))
def laws_FnRowsOfTables.l1 : Nat → List (List Int) → Int → Bool → Int → Bool → Int → Bool → List Int → List Int → Int → Int → Option (Bool)
 | 0, _, _, _, _, _, _, _, _, _, _, _ => none
 | k + 1, x5, x6, x7, x10, x11, x14, x15, x25, x32, x183, x184 => if x184 < x183 then (if 0 ≤ x184 then (if x184 < (x25.length : Int) then (if x184 < (x32.length : Int) then (if (rd x25 x184) = (wrap64 (-(rd x32 x184))) then (laws_FnRowsOfTables.l1 k x5 x6 x7 x10 x11 x14 x15 x25 x32 x183 (wrap64 (x184 + 1))) else (some false)) else (none)) else (none)) else (none)) else (laws_FnRowsOfTables.j5 k x5 x6 x7 x10 x11 x14 x15)
end
def laws_FnRowsOfTables.f (k : Nat) (l0 : List Int) (l1 : List Int) : Option (Bool) := (laws_big.f l0 l1).bind fun t536 => (if t536 = true then (some true) else ((spec_DrawDeterminantOf.f k l0).bind fun t537 => ((impl_DeterminantOf.f k t537).bind fun bt540 => ((spec_DeterminantOf.f k t537).bind fun bt542 => ((impl_RankOf.f k t537).bind fun bt544 => ((spec_RankOf.f k t537).bind fun bt546 => ((impl_DependentRow.f k t537).bind fun bt548 => ((spec_DependentRow.f k t537).bind fun bt550 => (if (bt540.2 != bt542.2) = true then (laws_FnRowsOfTables.j0 k l1 t537 bt540.1 bt540.2 bt544.1 bt544.2 bt548.1 bt548.2 true) else (if bt540.1 = bt542.1 then (if (bt544.2 != bt546.2) = true then (laws_FnRowsOfTables.j0 k l1 t537 bt540.1 bt540.2 bt544.1 bt544.2 bt548.1 bt548.2 true) else (if bt544.1 = bt546.1 then (if (bt548.2 != bt550.2) = true then (laws_FnRowsOfTables.j0 k l1 t537 bt540.1 bt540.2 bt544.1 bt544.2 bt548.1 bt548.2 true) else (if bt548.1 = bt550.1 then (if bt540.2 = true then (laws_FnRowsOfTables.j0 k l1 t537 bt540.1 bt540.2 bt544.1 bt544.2 bt548.1 bt548.2 (!bt544.2)) else (laws_FnRowsOfTables.j0 k l1 t537 bt540.1 bt540.2 bt544.1 bt544.2 bt548.1 bt548.2 false)) else (laws_FnRowsOfTables.j0 k l1 t537 bt540.1 bt540.2 bt544.1 bt544.2 bt548.1 bt548.2 true))) else (laws_FnRowsOfTables.j0 k l1 t537 bt540.1 bt540.2 bt544.1 bt544.2 bt548.1 bt548.2 true))) else (laws_FnRowsOfTables.j0 k l1 t537 bt540.1 bt540.2 bt544.1 bt544.2 bt548.1 bt548.2 true)))))))))))
set_option maxHeartbeats 8000000 in
set_option maxRecDepth 100000 in
theorem laws_FnRowsOfTables.calls (k : Nat) (A0 : Option Addr) (c0 : Nat) (l0 : List Int) (A1 : Option Addr) (c1 : Nat) (l1 : List Int) (w : World) (hr0 : Kd.C (Kd.int .u8) w A0 l0.length l0) (hc0 : l0.length ≤ c0) (hr1 : Kd.C (Kd.int .u8) w A1 l1.length l1) (hc1 : l1.length ≤ c1) (h : laws_FnRowsOfTables.f k l0 l1 = some true) :
  Calls Try.prog 6 #[.slice A0 l0.length c0, .slice A1 l1.length c1] w fun e w' => e = .returned (.bool true) ∧ Below w.heap.size w w' := by
 have HR0 := Aside0.mk hr0
 have HC0 := Aside0.mk hc0
 clear hr0 hc0
 have HR1 := Aside0.mk hr1
 have HC1 := Aside0.mk hc1
 clear hr1 hc1
 have HB := Aside0.mk (Below.refl w.heap.size w)
 have H : ((laws_big.f l0 l1).bind fun t536 => (if t536 = true then (some true) else ((spec_DrawDeterminantOf.f k l0).bind fun t537 => ((impl_DeterminantOf.f k t537).bind fun bt540 => ((spec_DeterminantOf.f k t537).bind fun bt542 => ((impl_RankOf.f k t537).bind fun bt544 => ((spec_RankOf.f k t537).bind fun bt546 => ((impl_DependentRow.f k t537).bind fun bt548 => ((spec_DependentRow.f k t537).bind fun bt550 => (if (bt540.2 != bt542.2) = true then (laws_FnRowsOfTables.j0 k l1 t537 bt540.1 bt540.2 bt544.1 bt544.2 bt548.1 bt548.2 true) else (if bt540.1 = bt542.1 then (if (bt544.2 != bt546.2) = true then (laws_FnRowsOfTables.j0 k l1 t537 bt540.1 bt540.2 bt544.1 bt544.2 bt548.1 bt548.2 true) else (if bt544.1 = bt546.1 then (if (bt548.2 != bt550.2) = true then (laws_FnRowsOfTables.j0 k l1 t537 bt540.1 bt540.2 bt544.1 bt544.2 bt548.1 bt548.2 true) else (if bt548.1 = bt550.1 then (if bt540.2 = true then (laws_FnRowsOfTables.j0 k l1 t537 bt540.1 bt540.2 bt544.1 bt544.2 bt548.1 bt548.2 (!bt544.2)) else (laws_FnRowsOfTables.j0 k l1 t537 bt540.1 bt540.2 bt544.1 bt544.2 bt548.1 bt548.2 false)) else (laws_FnRowsOfTables.j0 k l1 t537 bt540.1 bt540.2 bt544.1 bt544.2 bt548.1 bt548.2 true))) else (laws_FnRowsOfTables.j0 k l1 t537 bt540.1 bt540.2 bt544.1 bt544.2 bt548.1 bt548.2 true))) else (laws_FnRowsOfTables.j0 k l1 t537 bt540.1 bt540.2 bt544.1 bt544.2 bt548.1 bt548.2 true)))))))))))) = some true := h
 clear h
 replace H := Option.bind_eq_some_iff.mp H
 obtain ⟨t536, A30, H⟩ := H
 replace H : (if t536 = true then (some true) else ((spec_DrawDeterminantOf.f k l0).bind fun t537 => ((impl_DeterminantOf.f k t537).bind fun bt540 => ((spec_DeterminantOf.f k t537).bind fun bt542 => ((impl_RankOf.f k t537).bind fun bt544 => ((spec_RankOf.f k t537).bind fun bt546 => ((impl_DependentRow.f k t537).bind fun bt548 => ((spec_DependentRow.f k t537).bind fun bt550 => (if (bt540.2 != bt542.2) = true then (laws_FnRowsOfTables.j0 k l1 t537 bt540.1 bt540.2 bt544.1 bt544.2 bt548.1 bt548.2 true) else (if bt540.1 = bt542.1 then (if (bt544.2 != bt546.2) = true then (laws_FnRowsOfTables.j0 k l1 t537 bt540.1 bt540.2 bt544.1 bt544.2 bt548.1 bt548.2 true) else (if bt544.1 = bt546.1 then (if (bt548.2 != bt550.2) = true then (laws_FnRowsOfTables.j0 k l1 t537 bt540.1 bt540.2 bt544.1 bt544.2 bt548.1 bt548.2 true) else (if bt548.1 = bt550.1 then (if bt540.2 = true then (laws_FnRowsOfTables.j0 k l1 t537 bt540.1 bt540.2 bt544.1 bt544.2 bt548.1 bt548.2 (!bt544.2)) else (laws_FnRowsOfTables.j0 k l1 t537 bt540.1 bt540.2 bt544.1 bt544.2 bt548.1 bt548.2 false)) else (laws_FnRowsOfTables.j0 k l1 t537 bt540.1 bt540.2 bt544.1 bt544.2 bt548.1 bt548.2 true))) else (laws_FnRowsOfTables.j0 k l1 t537 bt540.1 bt540.2 bt544.1 bt544.2 bt548.1 bt548.2 true))) else (laws_FnRowsOfTables.j0 k l1 t537 bt540.1 bt540.2 bt544.1 bt544.2 bt548.1 bt548.2 true))))))))))) = some true := H
 have A3 := Aside0.mk A30
 clear A30
 by_cases c4 : t536 = true
 ·subst c4
  have H1 : (some true) = some true := by rw [if_pos rfl] at H; first | done | exact H
  clear H
  have H := H1
  clear H1
  clear H
  go_enter Try.func6, Try.ntmps6
  go_wp2_with (first | (go_at_call 17; (with_reducible refine (laws_big.calls _ _ l0 _ _ l1 true _ ?side1 ?side2 ?side3 ?side4 A3.out).mono ?_); (case side1 => repeat (first | exact HR0.out | (with_reducible refine Kd.C_alloc ?_ _) | (with_reducible refine Kd.C_drewN ?_ _) | (with_reducible refine Kd.C_drew ?_))); (case side2 => exact HC0.out); (case side3 => repeat (first | exact HR1.out | (with_reducible refine Kd.C_alloc ?_ _) | (with_reducible refine Kd.C_drewN ?_ _) | (with_reducible refine Kd.C_drew ?_))); (case side4 => exact HC1.out); rintro e w' ⟨rfl, ⟨nd, rfl⟩⟩; (try first | exact ⟨rfl, _, World.drewN_drewN _ _ _⟩ | exact ⟨rfl, _, Eq.trans (World.drewN_drewN _ _ _) (congrArg (World.drewN _) (Nat.add_assoc _ _ _))⟩)))
  repeat (go_quiet (first | (go_at_call 17; (with_reducible refine (laws_big.calls _ _ l0 _ _ l1 true _ ?side1 ?side2 ?side3 ?side4 A3.out).mono ?_); (case side1 => repeat (first | exact HR0.out | (with_reducible refine Kd.C_alloc ?_ _) | (with_reducible refine Kd.C_drewN ?_ _) | (with_reducible refine Kd.C_drew ?_))); (case side2 => exact HC0.out); (case side3 => repeat (first | exact HR1.out | (with_reducible refine Kd.C_alloc ?_ _) | (with_reducible refine Kd.C_drewN ?_ _) | (with_reducible refine Kd.C_drew ?_))); (case side4 => exact HC1.out); rintro e w' ⟨rfl, ⟨nd, rfl⟩⟩; (try first | exact ⟨rfl, _, World.drewN_drewN _ _ _⟩ | exact ⟨rfl, _, Eq.trans (World.drewN_drewN _ _ _) (congrArg (World.drewN _) (Nat.add_assoc _ _ _))⟩))); try go_wp2_with (first | (go_at_call 17; (with_reducible refine (laws_big.calls _ _ l0 _ _ l1 true _ ?side1 ?side2 ?side3 ?side4 A3.out).mono ?_); (case side1 => repeat (first | exact HR0.out | (with_reducible refine Kd.C_alloc ?_ _) | (with_reducible refine Kd.C_drewN ?_ _) | (with_reducible refine Kd.C_drew ?_))); (case side2 => exact HC0.out); (case side3 => repeat (first | exact HR1.out | (with_reducible refine Kd.C_alloc ?_ _) | (with_reducible refine Kd.C_drewN ?_ _) | (with_reducible refine Kd.C_drew ?_))); (case side4 => exact HC1.out); rintro e w' ⟨rfl, ⟨nd, rfl⟩⟩; (try first | exact ⟨rfl, _, World.drewN_drewN _ _ _⟩ | exact ⟨rfl, _, Eq.trans (World.drewN_drewN _ _ _) (congrArg (World.drewN _) (Nat.add_assoc _ _ _))⟩))))
  go_ret
  exact ⟨by first | rfl | (simp [errW_none, errW_some] <;> rfl) | (simp [*, errW_none, errW_some] <;> rfl), by repeat (first | (with_reducible first | exact HB.out | apply below_alloc | apply pw_below_drewN | apply below_drew1) | exact HB.out)⟩
 ·replace c4 := Bool.eq_false_iff.mpr c4
  subst c4
  have H1 : ((spec_DrawDeterminantOf.f k l0).bind fun t537 => ((impl_DeterminantOf.f k t537).bind fun bt540 => ((spec_DeterminantOf.f k t537).bind fun bt542 => ((impl_RankOf.f k t537).bind fun bt544 => ((spec_RankOf.f k t537).bind fun bt546 => ((impl_DependentRow.f k t537).bind fun bt548 => ((spec_DependentRow.f k t537).bind fun bt550 => (if (bt540.2 != bt542.2) = true then (laws_FnRowsOfTables.j0 k l1 t537 bt540.1 bt540.2 bt544.1 bt544.2 bt548.1 bt548.2 true) else (if bt540.1 = bt542.1 then (if (bt544.2 != bt546.2) = true then (laws_FnRowsOfTables.j0 k l1 t537 bt540.1 bt540.2 bt544.1 bt544.2 bt548.1 bt548.2 true) else (if bt544.1 = bt546.1 then (if (bt548.2 != bt550.2) = true then (laws_FnRowsOfTables.j0 k l1 t537 bt540.1 bt540.2 bt544.1 bt544.2 bt548.1 bt548.2 true) else (if bt548.1 = bt550.1 then (if bt540.2 = true then (laws_FnRowsOfTables.j0 k l1 t537 bt540.1 bt540.2 bt544.1 bt544.2 bt548.1 bt548.2 (!bt544.2)) else (laws_FnRowsOfTables.j0 k l1 t537 bt540.1 bt540.2 bt544.1 bt544.2 bt548.1 bt548.2 false)) else (laws_FnRowsOfTables.j0 k l1 t537 bt540.1 bt540.2 bt544.1 bt544.2 bt548.1 bt548.2 true))) else (laws_FnRowsOfTables.j0 k l1 t537 bt540.1 bt540.2 bt544.1 bt544.2 bt548.1 bt548.2 true))) else (laws_FnRowsOfTables.j0 k l1 t537 bt540.1 bt540.2 bt544.1 bt544.2 bt548.1 bt548.2 true)))))))))) = some true := by rw [if_neg (show ¬ (false = true) by decide)] at H; first | done | exact H
  clear H
  have H := H1
  clear H1
  replace H := Option.bind_eq_some_iff.mp H
  obtain ⟨t537, A50, H⟩ := H
  replace H : ((impl_DeterminantOf.f k t537).bind fun bt540 => ((spec_DeterminantOf.f k t537).bind fun bt542 => ((impl_RankOf.f k t537).bind fun bt544 => ((spec_RankOf.f k t537).bind fun bt546 => ((impl_DependentRow.f k t537).bind fun bt548 => ((spec_DependentRow.f k t537).bind fun bt550 => (if (bt540.2 != bt542.2) = true then (laws_FnRowsOfTables.j0 k l1 t537 bt540.1 bt540.2 bt544.1 bt544.2 bt548.1 bt548.2 true) else (if bt540.1 = bt542.1 then (if (bt544.2 != bt546.2) = true then (laws_FnRowsOfTables.j0 k l1 t537 bt540.1 bt540.2 bt544.1 bt544.2 bt548.1 bt548.2 true) else (if bt544.1 = bt546.1 then (if (bt548.2 != bt550.2) = true then (laws_FnRowsOfTables.j0 k l1 t537 bt540.1 bt540.2 bt544.1 bt544.2 bt548.1 bt548.2 true) else (if bt548.1 = bt550.1 then (if bt540.2 = true then (laws_FnRowsOfTables.j0 k l1 t537 bt540.1 bt540.2 bt544.1 bt544.2 bt548.1 bt548.2 (!bt544.2)) else (laws_FnRowsOfTables.j0 k l1 t537 bt540.1 bt540.2 bt544.1 bt544.2 bt548.1 bt548.2 false)) else (laws_FnRowsOfTables.j0 k l1 t537 bt540.1 bt540.2 bt544.1 bt544.2 bt548.1 bt548.2 true))) else (laws_FnRowsOfTables.j0 k l1 t537 bt540.1 bt540.2 bt544.1 bt544.2 bt548.1 bt548.2 true))) else (laws_FnRowsOfTables.j0 k l1 t537 bt540.1 bt540.2 bt544.1 bt544.2 bt548.1 bt548.2 true))))))))) = some true := H
  have A5 := Aside0.mk A50
  clear A50
  replace H := Option.bind_eq_some_iff.mp H
  obtain ⟨⟨t540, t541⟩, A60, H⟩ := H
  replace H : ((spec_DeterminantOf.f k t537).bind fun bt542 => ((impl_RankOf.f k t537).bind fun bt544 => ((spec_RankOf.f k t537).bind fun bt546 => ((impl_DependentRow.f k t537).bind fun bt548 => ((spec_DependentRow.f k t537).bind fun bt550 => (if (t541 != bt542.2) = true then (laws_FnRowsOfTables.j0 k l1 t537 t540 t541 bt544.1 bt544.2 bt548.1 bt548.2 true) else (if t540 = bt542.1 then (if (bt544.2 != bt546.2) = true then (laws_FnRowsOfTables.j0 k l1 t537 t540 t541 bt544.1 bt544.2 bt548.1 bt548.2 true) else (if bt544.1 = bt546.1 then (if (bt548.2 != bt550.2) = true then (laws_FnRowsOfTables.j0 k l1 t537 t540 t541 bt544.1 bt544.2 bt548.1 bt548.2 true) else (if bt548.1 = bt550.1 then (if t541 = true then (laws_FnRowsOfTables.j0 k l1 t537 t540 t541 bt544.1 bt544.2 bt548.1 bt548.2 (!bt544.2)) else (laws_FnRowsOfTables.j0 k l1 t537 t540 t541 bt544.1 bt544.2 bt548.1 bt548.2 false)) else (laws_FnRowsOfTables.j0 k l1 t537 t540 t541 bt544.1 bt544.2 bt548.1 bt548.2 true))) else (laws_FnRowsOfTables.j0 k l1 t537 t540 t541 bt544.1 bt544.2 bt548.1 bt548.2 true))) else (laws_FnRowsOfTables.j0 k l1 t537 t540 t541 bt544.1 bt544.2 bt548.1 bt548.2 true)))))))) = some true := H
  have A6 := Aside0.mk A60
  clear A60
  replace H := Option.bind_eq_some_iff.mp H
  obtain ⟨⟨t542, t543⟩, A70, H⟩ := H
  replace H : ((impl_RankOf.f k t537).bind fun bt544 => ((spec_RankOf.f k t537).bind fun bt546 => ((impl_DependentRow.f k t537).bind fun bt548 => ((spec_DependentRow.f k t537).bind fun bt550 => (if (t541 != t543) = true then (laws_FnRowsOfTables.j0 k l1 t537 t540 t541 bt544.1 bt544.2 bt548.1 bt548.2 true) else (if t540 = t542 then (if (bt544.2 != bt546.2) = true then (laws_FnRowsOfTables.j0 k l1 t537 t540 t541 bt544.1 bt544.2 bt548.1 bt548.2 true) else (if bt544.1 = bt546.1 then (if (bt548.2 != bt550.2) = true then (laws_FnRowsOfTables.j0 k l1 t537 t540 t541 bt544.1 bt544.2 bt548.1 bt548.2 true) else (if bt548.1 = bt550.1 then (if t541 = true then (laws_FnRowsOfTables.j0 k l1 t537 t540 t541 bt544.1 bt544.2 bt548.1 bt548.2 (!bt544.2)) else (laws_FnRowsOfTables.j0 k l1 t537 t540 t541 bt544.1 bt544.2 bt548.1 bt548.2 false)) else (laws_FnRowsOfTables.j0 k l1 t537 t540 t541 bt544.1 bt544.2 bt548.1 bt548.2 true))) else (laws_FnRowsOfTables.j0 k l1 t537 t540 t541 bt544.1 bt544.2 bt548.1 bt548.2 true))) else (laws_FnRowsOfTables.j0 k l1 t537 t540 t541 bt544.1 bt544.2 bt548.1 bt548.2 true))))))) = some true := H
  have A7 := Aside0.mk A70
  clear A70
  replace H := Option.bind_eq_some_iff.mp H
  obtain ⟨⟨t544, t545⟩, A80, H⟩ := H
  replace H : ((spec_RankOf.f k t537).bind fun bt546 => ((impl_DependentRow.f k t537).bind fun bt548 => ((spec_DependentRow.f k t537).bind fun bt550 => (if (t541 != t543) = true then (laws_FnRowsOfTables.j0 k l1 t537 t540 t541 t544 t545 bt548.1 bt548.2 true) else (if t540 = t542 then (if (t545 != bt546.2) = true then (laws_FnRowsOfTables.j0 k l1 t537 t540 t541 t544 t545 bt548.1 bt548.2 true) else (if t544 = bt546.1 then (if (bt548.2 != bt550.2) = true then (laws_FnRowsOfTables.j0 k l1 t537 t540 t541 t544 t545 bt548.1 bt548.2 true) else (if bt548.1 = bt550.1 then (if t541 = true then (laws_FnRowsOfTables.j0 k l1 t537 t540 t541 t544 t545 bt548.1 bt548.2 (!t545)) else (laws_FnRowsOfTables.j0 k l1 t537 t540 t541 t544 t545 bt548.1 bt548.2 false)) else (laws_FnRowsOfTables.j0 k l1 t537 t540 t541 t544 t545 bt548.1 bt548.2 true))) else (laws_FnRowsOfTables.j0 k l1 t537 t540 t541 t544 t545 bt548.1 bt548.2 true))) else (laws_FnRowsOfTables.j0 k l1 t537 t540 t541 t544 t545 bt548.1 bt548.2 true)))))) = some true := H
  have A8 := Aside0.mk A80
  clear A80
  replace H := Option.bind_eq_some_iff.mp H
  obtain ⟨⟨t546, t547⟩, A90, H⟩ := H
  replace H : ((impl_DependentRow.f k t537).bind fun bt548 => ((spec_DependentRow.f k t537).bind fun bt550 => (if (t541 != t543) = true then (laws_FnRowsOfTables.j0 k l1 t537 t540 t541 t544 t545 bt548.1 bt548.2 true) else (if t540 = t542 then (if (t545 != t547) = true then (laws_FnRowsOfTables.j0 k l1 t537 t540 t541 t544 t545 bt548.1 bt548.2 true) else (if t544 = t546 then (if (bt548.2 != bt550.2) = true then (laws_FnRowsOfTables.j0 k l1 t537 t540 t541 t544 t545 bt548.1 bt548.2 true) else (if bt548.1 = bt550.1 then (if t541 = true then (laws_FnRowsOfTables.j0 k l1 t537 t540 t541 t544 t545 bt548.1 bt548.2 (!t545)) else (laws_FnRowsOfTables.j0 k l1 t537 t540 t541 t544 t545 bt548.1 bt548.2 false)) else (laws_FnRowsOfTables.j0 k l1 t537 t540 t541 t544 t545 bt548.1 bt548.2 true))) else (laws_FnRowsOfTables.j0 k l1 t537 t540 t541 t544 t545 bt548.1 bt548.2 true))) else (laws_FnRowsOfTables.j0 k l1 t537 t540 t541 t544 t545 bt548.1 bt548.2 true))))) = some true := H
  have A9 := Aside0.mk A90
  clear A90
  replace H := Option.bind_eq_some_iff.mp H
  obtain ⟨⟨t548, t549⟩, A100, H⟩ := H
  replace H : ((spec_DependentRow.f k t537).bind fun bt550 => (if (t541 != t543) = true then (laws_FnRowsOfTables.j0 k l1 t537 t540 t541 t544 t545 t548 t549 true) else (if t540 = t542 then (if (t545 != t547) = true then (laws_FnRowsOfTables.j0 k l1 t537 t540 t541 t544 t545 t548 t549 true) else (if t544 = t546 then (if (t549 != bt550.2) = true then (laws_FnRowsOfTables.j0 k l1 t537 t540 t541 t544 t545 t548 t549 true) else (if t548 = bt550.1 then (if t541 = true then (laws_FnRowsOfTables.j0 k l1 t537 t540 t541 t544 t545 t548 t549 (!t545)) else (laws_FnRowsOfTables.j0 k l1 t537 t540 t541 t544 t545 t548 t549 false)) else (laws_FnRowsOfTables.j0 k l1 t537 t540 t541 t544 t545 t548 t549 true))) else (laws_FnRowsOfTables.j0 k l1 t537 t540 t541 t544 t545 t548 t549 true))) else (laws_FnRowsOfTables.j0 k l1 t537 t540 t541 t544 t545 t548 t549 true)))) = some true := H
  have A10 := Aside0.mk A100
  clear A100
  replace H := Option.bind_eq_some_iff.mp H
  obtain ⟨⟨t550, t551⟩, A110, H⟩ := H
  replace H : (if (t541 != t543) = true then (laws_FnRowsOfTables.j0 k l1 t537 t540 t541 t544 t545 t548 t549 true) else (if t540 = t542 then (if (t545 != t547) = true then (laws_FnRowsOfTables.j0 k l1 t537 t540 t541 t544 t545 t548 t549 true) else (if t544 = t546 then (if (t549 != t551) = true then (laws_FnRowsOfTables.j0 k l1 t537 t540 t541 t544 t545 t548 t549 true) else (if t548 = t550 then (if t541 = true then (laws_FnRowsOfTables.j0 k l1 t537 t540 t541 t544 t545 t548 t549 (!t545)) else (laws_FnRowsOfTables.j0 k l1 t537 t540 t541 t544 t545 t548 t549 false)) else (laws_FnRowsOfTables.j0 k l1 t537 t540 t541 t544 t545 t548 t549 true))) else (laws_FnRowsOfTables.j0 k l1 t537 t540 t541 t544 t545 t548 t549 true))) else (laws_FnRowsOfTables.j0 k l1 t537 t540 t541 t544 t545 t548 t549 true))) = some true := H
  have A11 := Aside0.mk A110
  clear A110
  have HC12 := Aside0.mk H
  clear H
  go_enter Try.func6, Try.ntmps6
  go_upto_region 10 with (first | (go_at_call 17; (with_reducible refine (laws_big.calls _ _ l0 _ _ l1 false _ ?side1 ?side2 ?side3 ?side4 A3.out).mono ?_); (case side1 => repeat (first | exact HR0.out | (with_reducible refine Kd.C_alloc ?_ _) | (with_reducible refine Kd.C_drewN ?_ _) | (with_reducible refine Kd.C_drew ?_))); (case side2 => exact HC0.out); (case side3 => repeat (first | exact HR1.out | (with_reducible refine Kd.C_alloc ?_ _) | (with_reducible refine Kd.C_drewN ?_ _) | (with_reducible refine Kd.C_drew ?_))); (case side4 => exact HC1.out); rintro e w' ⟨rfl, ⟨nd, rfl⟩⟩; (try first | exact ⟨rfl, _, World.drewN_drewN _ _ _⟩ | exact ⟨rfl, _, Eq.trans (World.drewN_drewN _ _ _) (congrArg (World.drewN _) (Nat.add_assoc _ _ _))⟩)) | (go_at_call 18; (with_reducible refine (spec_DrawDeterminantOf.calls k _ _ l0 t537 _ ?side1 ?side2 A5.out).mono ?_); (case side1 => repeat (first | exact HR0.out | (with_reducible refine Kd.C_alloc ?_ _) | (with_reducible refine Kd.C_drewN ?_ _) | (with_reducible refine Kd.C_drew ?_))); (case side2 => exact HC0.out); rintro e w13 ⟨v538, rfl, ho0, hb⟩; have n0_ := Aside0.mk (Kd.S_lower ho0 (below_size (by repeat (first | (with_reducible first | exact HB.out | apply below_alloc | apply pw_below_drewN | apply below_drew1) | exact HB.out)))); have n1_ := Aside0.mk (below_step (by repeat (first | (with_reducible first | exact HB.out | apply below_alloc | apply pw_below_drewN | apply below_drew1) | exact HB.out)) hb); clear HB; have HO539 := n0_; have HB := n1_; clear n0_ n1_; (try clear hb); (try clear hb2); (try clear hk); (try clear hi); (try clear ho0); obtain ⟨Ao14, co14, eo14⟩ := Kd.S_slice HO539.out; subst eo14) | (go_at_call 16; (with_reducible refine (impl_DeterminantOf.calls k _ _ t537 t540 t541 _ ?side1 ?side2 A6.out).mono ?_); (case side1 => repeat (first | exact (Kd.S_reads' HO539.out).2.2 | (with_reducible refine Kd.C_alloc ?_ _) | (with_reducible refine Kd.C_drewN ?_ _) | (with_reducible refine Kd.C_drew ?_))); (case side2 => exact (Kd.S_reads' HO539.out).2.1); rintro e w15 ⟨rfl, hb⟩; have n0_ := Aside0.mk (Kd.S_below (by (with_reducible repeat (first | apply Kd.S_alloc | apply Kd.S_drewN | apply Kd.S_drew)); exact HO539.out) hb); have n1_ := Aside0.mk (below_step (by repeat (first | (with_reducible first | exact HB.out | apply below_alloc | apply pw_below_drewN | apply below_drew1) | exact HB.out)) hb); clear HO539; clear HB; have HO539 := n0_; have HB := n1_; clear n0_ n1_; (try clear hb); (try clear hb2); (try clear hk); (try clear hi)) | (go_at_call 15; (with_reducible refine (spec_DeterminantOf.calls k _ _ t537 t542 t543 _ ?side1 ?side2 A7.out).mono ?_); (case side1 => repeat (first | exact (Kd.S_reads' HO539.out).2.2 | (with_reducible refine Kd.C_alloc ?_ _) | (with_reducible refine Kd.C_drewN ?_ _) | (with_reducible refine Kd.C_drew ?_))); (case side2 => exact (Kd.S_reads' HO539.out).2.1); rintro e w16 ⟨rfl, hb⟩; have n0_ := Aside0.mk (Kd.S_below (by (with_reducible repeat (first | apply Kd.S_alloc | apply Kd.S_drewN | apply Kd.S_drew)); exact HO539.out) hb); have n1_ := Aside0.mk (below_step (by repeat (first | (with_reducible first | exact HB.out | apply below_alloc | apply pw_below_drewN | apply below_drew1) | exact HB.out)) hb); clear HO539; clear HB; have HO539 := n0_; have HB := n1_; clear n0_ n1_; (try clear hb); (try clear hb2); (try clear hk); (try clear hi)) | (go_at_call 11; (with_reducible refine (impl_RankOf.calls k _ _ t537 t544 t545 _ ?side1 ?side2 A8.out).mono ?_); (case side1 => repeat (first | exact (Kd.S_reads' HO539.out).2.2 | (with_reducible refine Kd.C_alloc ?_ _) | (with_reducible refine Kd.C_drewN ?_ _) | (with_reducible refine Kd.C_drew ?_))); (case side2 => exact (Kd.S_reads' HO539.out).2.1); rintro e w17 ⟨rfl, hb⟩; have n0_ := Aside0.mk (Kd.S_below (by (with_reducible repeat (first | apply Kd.S_alloc | apply Kd.S_drewN | apply Kd.S_drew)); exact HO539.out) hb); have n1_ := Aside0.mk (below_step (by repeat (first | (with_reducible first | exact HB.out | apply below_alloc | apply pw_below_drewN | apply below_drew1) | exact HB.out)) hb); clear HO539; clear HB; have HO539 := n0_; have HB := n1_; clear n0_ n1_; (try clear hb); (try clear hb2); (try clear hk); (try clear hi)) | (go_at_call 9; (with_reducible refine (spec_RankOf.calls k _ _ t537 t546 t547 _ ?side1 ?side2 A9.out).mono ?_); (case side1 => repeat (first | exact (Kd.S_reads' HO539.out).2.2 | (with_reducible refine Kd.C_alloc ?_ _) | (with_reducible refine Kd.C_drewN ?_ _) | (with_reducible refine Kd.C_drew ?_))); (case side2 => exact (Kd.S_reads' HO539.out).2.1); rintro e w18 ⟨rfl, hb⟩; have n0_ := Aside0.mk (Kd.S_below (by (with_reducible repeat (first | apply Kd.S_alloc | apply Kd.S_drewN | apply Kd.S_drew)); exact HO539.out) hb); have n1_ := Aside0.mk (below_step (by repeat (first | (with_reducible first | exact HB.out | apply below_alloc | apply pw_below_drewN | apply below_drew1) | exact HB.out)) hb); clear HO539; clear HB; have HO539 := n0_; have HB := n1_; clear n0_ n1_; (try clear hb); (try clear hb2); (try clear hk); (try clear hi)) | (go_at_call 14; (with_reducible refine (impl_DependentRow.calls k _ _ t537 t548 t549 _ ?side1 ?side2 A10.out).mono ?_); (case side1 => repeat (first | exact (Kd.S_reads' HO539.out).2.2 | (with_reducible refine Kd.C_alloc ?_ _) | (with_reducible refine Kd.C_drewN ?_ _) | (with_reducible refine Kd.C_drew ?_))); (case side2 => exact (Kd.S_reads' HO539.out).2.1); rintro e w19 ⟨rfl, hb⟩; have n0_ := Aside0.mk (Kd.S_below (by (with_reducible repeat (first | apply Kd.S_alloc | apply Kd.S_drewN | apply Kd.S_drew)); exact HO539.out) hb); have n1_ := Aside0.mk (below_step (by repeat (first | (with_reducible first | exact HB.out | apply below_alloc | apply pw_below_drewN | apply below_drew1) | exact HB.out)) hb); clear HO539; clear HB; have HO539 := n0_; have HB := n1_; clear n0_ n1_; (try clear hb); (try clear hb2); (try clear hk); (try clear hi)) | (go_at_call 13; (with_reducible refine (spec_DependentRow.calls k _ _ t537 t550 t551 _ ?side1 ?side2 A11.out).mono ?_); (case side1 => repeat (first | exact (Kd.S_reads' HO539.out).2.2 | (with_reducible refine Kd.C_alloc ?_ _) | (with_reducible refine Kd.C_drewN ?_ _) | (with_reducible refine Kd.C_drew ?_))); (case side2 => exact (Kd.S_reads' HO539.out).2.1); rintro e w20 ⟨rfl, hb⟩; have n0_ := Aside0.mk (Kd.S_below (by (with_reducible repeat (first | apply Kd.S_alloc | apply Kd.S_drewN | apply Kd.S_drew)); exact HO539.out) hb); have n1_ := Aside0.mk (below_step (by repeat (first | (with_reducible first | exact HB.out | apply below_alloc | apply pw_below_drewN | apply below_drew1) | exact HB.out)) hb); clear HO539; clear HB; have HO539 := n0_; have HB := n1_; clear n0_ n1_; (try clear hb); (try clear hb2); (try clear hk); (try clear hi)))
  repeat (go_quiet (first | (go_at_call 17; (with_reducible refine (laws_big.calls _ _ l0 _ _ l1 false _ ?side1 ?side2 ?side3 ?side4 A3.out).mono ?_); (case side1 => repeat (first | exact HR0.out | (with_reducible refine Kd.C_alloc ?_ _) | (with_reducible refine Kd.C_drewN ?_ _) | (with_reducible refine Kd.C_drew ?_))); (case side2 => exact HC0.out); (case side3 => repeat (first | exact HR1.out | (with_reducible refine Kd.C_alloc ?_ _) | (with_reducible refine Kd.C_drewN ?_ _) | (with_reducible refine Kd.C_drew ?_))); (case side4 => exact HC1.out); rintro e w' ⟨rfl, ⟨nd, rfl⟩⟩; (try first | exact ⟨rfl, _, World.drewN_drewN _ _ _⟩ | exact ⟨rfl, _, Eq.trans (World.drewN_drewN _ _ _) (congrArg (World.drewN _) (Nat.add_assoc _ _ _))⟩)) | (go_at_call 18; (with_reducible refine (spec_DrawDeterminantOf.calls k _ _ l0 t537 _ ?side1 ?side2 A5.out).mono ?_); (case side1 => repeat (first | exact HR0.out | (with_reducible refine Kd.C_alloc ?_ _) | (with_reducible refine Kd.C_drewN ?_ _) | (with_reducible refine Kd.C_drew ?_))); (case side2 => exact HC0.out); rintro e w13 ⟨v538, rfl, ho0, hb⟩; have n0_ := Aside0.mk (Kd.S_lower ho0 (below_size (by repeat (first | (with_reducible first | exact HB.out | apply below_alloc | apply pw_below_drewN | apply below_drew1) | exact HB.out)))); have n1_ := Aside0.mk (below_step (by repeat (first | (with_reducible first | exact HB.out | apply below_alloc | apply pw_below_drewN | apply below_drew1) | exact HB.out)) hb); clear HB; have HO539 := n0_; have HB := n1_; clear n0_ n1_; (try clear hb); (try clear hb2); (try clear hk); (try clear hi); (try clear ho0); obtain ⟨Ao14, co14, eo14⟩ := Kd.S_slice HO539.out; subst eo14) | (go_at_call 16; (with_reducible refine (impl_DeterminantOf.calls k _ _ t537 t540 t541 _ ?side1 ?side2 A6.out).mono ?_); (case side1 => repeat (first | exact (Kd.S_reads' HO539.out).2.2 | (with_reducible refine Kd.C_alloc ?_ _) | (with_reducible refine Kd.C_drewN ?_ _) | (with_reducible refine Kd.C_drew ?_))); (case side2 => exact (Kd.S_reads' HO539.out).2.1); rintro e w15 ⟨rfl, hb⟩; have n0_ := Aside0.mk (Kd.S_below (by (with_reducible repeat (first | apply Kd.S_alloc | apply Kd.S_drewN | apply Kd.S_drew)); exact HO539.out) hb); have n1_ := Aside0.mk (below_step (by repeat (first | (with_reducible first | exact HB.out | apply below_alloc | apply pw_below_drewN | apply below_drew1) | exact HB.out)) hb); clear HO539; clear HB; have HO539 := n0_; have HB := n1_; clear n0_ n1_; (try clear hb); (try clear hb2); (try clear hk); (try clear hi)) | (go_at_call 15; (with_reducible refine (spec_DeterminantOf.calls k _ _ t537 t542 t543 _ ?side1 ?side2 A7.out).mono ?_); (case side1 => repeat (first | exact (Kd.S_reads' HO539.out).2.2 | (with_reducible refine Kd.C_alloc ?_ _) | (with_reducible refine Kd.C_drewN ?_ _) | (with_reducible refine Kd.C_drew ?_))); (case side2 => exact (Kd.S_reads' HO539.out).2.1); rintro e w16 ⟨rfl, hb⟩; have n0_ := Aside0.mk (Kd.S_below (by (with_reducible repeat (first | apply Kd.S_alloc | apply Kd.S_drewN | apply Kd.S_drew)); exact HO539.out) hb); have n1_ := Aside0.mk (below_step (by repeat (first | (with_reducible first | exact HB.out | apply below_alloc | apply pw_below_drewN | apply below_drew1) | exact HB.out)) hb); clear HO539; clear HB; have HO539 := n0_; have HB := n1_; clear n0_ n1_; (try clear hb); (try clear hb2); (try clear hk); (try clear hi)) | (go_at_call 11; (with_reducible refine (impl_RankOf.calls k _ _ t537 t544 t545 _ ?side1 ?side2 A8.out).mono ?_); (case side1 => repeat (first | exact (Kd.S_reads' HO539.out).2.2 | (with_reducible refine Kd.C_alloc ?_ _) | (with_reducible refine Kd.C_drewN ?_ _) | (with_reducible refine Kd.C_drew ?_))); (case side2 => exact (Kd.S_reads' HO539.out).2.1); rintro e w17 ⟨rfl, hb⟩; have n0_ := Aside0.mk (Kd.S_below (by (with_reducible repeat (first | apply Kd.S_alloc | apply Kd.S_drewN | apply Kd.S_drew)); exact HO539.out) hb); have n1_ := Aside0.mk (below_step (by repeat (first | (with_reducible first | exact HB.out | apply below_alloc | apply pw_below_drewN | apply below_drew1) | exact HB.out)) hb); clear HO539; clear HB; have HO539 := n0_; have HB := n1_; clear n0_ n1_; (try clear hb); (try clear hb2); (try clear hk); (try clear hi)) | (go_at_call 9; (with_reducible refine (spec_RankOf.calls k _ _ t537 t546 t547 _ ?side1 ?side2 A9.out).mono ?_); (case side1 => repeat (first | exact (Kd.S_reads' HO539.out).2.2 | (with_reducible refine Kd.C_alloc ?_ _) | (with_reducible refine Kd.C_drewN ?_ _) | (with_reducible refine Kd.C_drew ?_))); (case side2 => exact (Kd.S_reads' HO539.out).2.1); rintro e w18 ⟨rfl, hb⟩; have n0_ := Aside0.mk (Kd.S_below (by (with_reducible repeat (first | apply Kd.S_alloc | apply Kd.S_drewN | apply Kd.S_drew)); exact HO539.out) hb); have n1_ := Aside0.mk (below_step (by repeat (first | (with_reducible first | exact HB.out | apply below_alloc | apply pw_below_drewN | apply below_drew1) | exact HB.out)) hb); clear HO539; clear HB; have HO539 := n0_; have HB := n1_; clear n0_ n1_; (try clear hb); (try clear hb2); (try clear hk); (try clear hi)) | (go_at_call 14; (with_reducible refine (impl_DependentRow.calls k _ _ t537 t548 t549 _ ?side1 ?side2 A10.out).mono ?_); (case side1 => repeat (first | exact (Kd.S_reads' HO539.out).2.2 | (with_reducible refine Kd.C_alloc ?_ _) | (with_reducible refine Kd.C_drewN ?_ _) | (with_reducible refine Kd.C_drew ?_))); (case side2 => exact (Kd.S_reads' HO539.out).2.1); rintro e w19 ⟨rfl, hb⟩; have n0_ := Aside0.mk (Kd.S_below (by (with_reducible repeat (first | apply Kd.S_alloc | apply Kd.S_drewN | apply Kd.S_drew)); exact HO539.out) hb); have n1_ := Aside0.mk (below_step (by repeat (first | (with_reducible first | exact HB.out | apply below_alloc | apply pw_below_drewN | apply below_drew1) | exact HB.out)) hb); clear HO539; clear HB; have HO539 := n0_; have HB := n1_; clear n0_ n1_; (try clear hb); (try clear hb2); (try clear hk); (try clear hi)) | (go_at_call 13; (with_reducible refine (spec_DependentRow.calls k _ _ t537 t550 t551 _ ?side1 ?side2 A11.out).mono ?_); (case side1 => repeat (first | exact (Kd.S_reads' HO539.out).2.2 | (with_reducible refine Kd.C_alloc ?_ _) | (with_reducible refine Kd.C_drewN ?_ _) | (with_reducible refine Kd.C_drew ?_))); (case side2 => exact (Kd.S_reads' HO539.out).2.1); rintro e w20 ⟨rfl, hb⟩; have n0_ := Aside0.mk (Kd.S_below (by (with_reducible repeat (first | apply Kd.S_alloc | apply Kd.S_drewN | apply Kd.S_drew)); exact HO539.out) hb); have n1_ := Aside0.mk (below_step (by repeat (first | (with_reducible first | exact HB.out | apply below_alloc | apply pw_below_drewN | apply below_drew1) | exact HB.out)) hb); clear HO539; clear HB; have HO539 := n0_; have HB := n1_; clear n0_ n1_; (try clear hb); (try clear hb2); (try clear hk); (try clear hi))); go_upto_region 10 with (first | (go_at_call 17; (with_reducible refine (laws_big.calls _ _ l0 _ _ l1 false _ ?side1 ?side2 ?side3 ?side4 A3.out).mono ?_); (case side1 => repeat (first | exact HR0.out | (with_reducible refine Kd.C_alloc ?_ _) | (with_reducible refine Kd.C_drewN ?_ _) | (with_reducible refine Kd.C_drew ?_))); (case side2 => exact HC0.out); (case side3 => repeat (first | exact HR1.out | (with_reducible refine Kd.C_alloc ?_ _) | (with_reducible refine Kd.C_drewN ?_ _) | (with_reducible refine Kd.C_drew ?_))); (case side4 => exact HC1.out); rintro e w' ⟨rfl, ⟨nd, rfl⟩⟩; (try first | exact ⟨rfl, _, World.drewN_drewN _ _ _⟩ | exact ⟨rfl, _, Eq.trans (World.drewN_drewN _ _ _) (congrArg (World.drewN _) (Nat.add_assoc _ _ _))⟩)) | (go_at_call 18; (with_reducible refine (spec_DrawDeterminantOf.calls k _ _ l0 t537 _ ?side1 ?side2 A5.out).mono ?_); (case side1 => repeat (first | exact HR0.out | (with_reducible refine Kd.C_alloc ?_ _) | (with_reducible refine Kd.C_drewN ?_ _) | (with_reducible refine Kd.C_drew ?_))); (case side2 => exact HC0.out); rintro e w13 ⟨v538, rfl, ho0, hb⟩; have n0_ := Aside0.mk (Kd.S_lower ho0 (below_size (by repeat (first | (with_reducible first | exact HB.out | apply below_alloc | apply pw_below_drewN | apply below_drew1) | exact HB.out)))); have n1_ := Aside0.mk (below_step (by repeat (first | (with_reducible first | exact HB.out | apply below_alloc | apply pw_below_drewN | apply below_drew1) | exact HB.out)) hb); clear HB; have HO539 := n0_; have HB := n1_; clear n0_ n1_; (try clear hb); (try clear hb2); (try clear hk); (try clear hi); (try clear ho0); obtain ⟨Ao14, co14, eo14⟩ := Kd.S_slice HO539.out; subst eo14) | (go_at_call 16; (with_reducible refine (impl_DeterminantOf.calls k _ _ t537 t540 t541 _ ?side1 ?side2 A6.out).mono ?_); (case side1 => repeat (first | exact (Kd.S_reads' HO539.out).2.2 | (with_reducible refine Kd.C_alloc ?_ _) | (with_reducible refine Kd.C_drewN ?_ _) | (with_reducible refine Kd.C_drew ?_))); (case side2 => exact (Kd.S_reads' HO539.out).2.1); rintro e w15 ⟨rfl, hb⟩; have n0_ := Aside0.mk (Kd.S_below (by (with_reducible repeat (first | apply Kd.S_alloc | apply Kd.S_drewN | apply Kd.S_drew)); exact HO539.out) hb); have n1_ := Aside0.mk (below_step (by repeat (first | (with_reducible first | exact HB.out | apply below_alloc | apply pw_below_drewN | apply below_drew1) | exact HB.out)) hb); clear HO539; clear HB; have HO539 := n0_; have HB := n1_; clear n0_ n1_; (try clear hb); (try clear hb2); (try clear hk); (try clear hi)) | (go_at_call 15; (with_reducible refine (spec_DeterminantOf.calls k _ _ t537 t542 t543 _ ?side1 ?side2 A7.out).mono ?_); (case side1 => repeat (first | exact (Kd.S_reads' HO539.out).2.2 | (with_reducible refine Kd.C_alloc ?_ _) | (with_reducible refine Kd.C_drewN ?_ _) | (with_reducible refine Kd.C_drew ?_))); (case side2 => exact (Kd.S_reads' HO539.out).2.1); rintro e w16 ⟨rfl, hb⟩; have n0_ := Aside0.mk (Kd.S_below (by (with_reducible repeat (first | apply Kd.S_alloc | apply Kd.S_drewN | apply Kd.S_drew)); exact HO539.out) hb); have n1_ := Aside0.mk (below_step (by repeat (first | (with_reducible first | exact HB.out | apply below_alloc | apply pw_below_drewN | apply below_drew1) | exact HB.out)) hb); clear HO539; clear HB; have HO539 := n0_; have HB := n1_; clear n0_ n1_; (try clear hb); (try clear hb2); (try clear hk); (try clear hi)) | (go_at_call 11; (with_reducible refine (impl_RankOf.calls k _ _ t537 t544 t545 _ ?side1 ?side2 A8.out).mono ?_); (case side1 => repeat (first | exact (Kd.S_reads' HO539.out).2.2 | (with_reducible refine Kd.C_alloc ?_ _) | (with_reducible refine Kd.C_drewN ?_ _) | (with_reducible refine Kd.C_drew ?_))); (case side2 => exact (Kd.S_reads' HO539.out).2.1); rintro e w17 ⟨rfl, hb⟩; have n0_ := Aside0.mk (Kd.S_below (by (with_reducible repeat (first | apply Kd.S_alloc | apply Kd.S_drewN | apply Kd.S_drew)); exact HO539.out) hb); have n1_ := Aside0.mk (below_step (by repeat (first | (with_reducible first | exact HB.out | apply below_alloc | apply pw_below_drewN | apply below_drew1) | exact HB.out)) hb); clear HO539; clear HB; have HO539 := n0_; have HB := n1_; clear n0_ n1_; (try clear hb); (try clear hb2); (try clear hk); (try clear hi)) | (go_at_call 9; (with_reducible refine (spec_RankOf.calls k _ _ t537 t546 t547 _ ?side1 ?side2 A9.out).mono ?_); (case side1 => repeat (first | exact (Kd.S_reads' HO539.out).2.2 | (with_reducible refine Kd.C_alloc ?_ _) | (with_reducible refine Kd.C_drewN ?_ _) | (with_reducible refine Kd.C_drew ?_))); (case side2 => exact (Kd.S_reads' HO539.out).2.1); rintro e w18 ⟨rfl, hb⟩; have n0_ := Aside0.mk (Kd.S_below (by (with_reducible repeat (first | apply Kd.S_alloc | apply Kd.S_drewN | apply Kd.S_drew)); exact HO539.out) hb); have n1_ := Aside0.mk (below_step (by repeat (first | (with_reducible first | exact HB.out | apply below_alloc | apply pw_below_drewN | apply below_drew1) | exact HB.out)) hb); clear HO539; clear HB; have HO539 := n0_; have HB := n1_; clear n0_ n1_; (try clear hb); (try clear hb2); (try clear hk); (try clear hi)) | (go_at_call 14; (with_reducible refine (impl_DependentRow.calls k _ _ t537 t548 t549 _ ?side1 ?side2 A10.out).mono ?_); (case side1 => repeat (first | exact (Kd.S_reads' HO539.out).2.2 | (with_reducible refine Kd.C_alloc ?_ _) | (with_reducible refine Kd.C_drewN ?_ _) | (with_reducible refine Kd.C_drew ?_))); (case side2 => exact (Kd.S_reads' HO539.out).2.1); rintro e w19 ⟨rfl, hb⟩; have n0_ := Aside0.mk (Kd.S_below (by (with_reducible repeat (first | apply Kd.S_alloc | apply Kd.S_drewN | apply Kd.S_drew)); exact HO539.out) hb); have n1_ := Aside0.mk (below_step (by repeat (first | (with_reducible first | exact HB.out | apply below_alloc | apply pw_below_drewN | apply below_drew1) | exact HB.out)) hb); clear HO539; clear HB; have HO539 := n0_; have HB := n1_; clear n0_ n1_; (try clear hb); (try clear hb2); (try clear hk); (try clear hi)) | (go_at_call 13; (with_reducible refine (spec_DependentRow.calls k _ _ t537 t550 t551 _ ?side1 ?side2 A11.out).mono ?_); (case side1 => repeat (first | exact (Kd.S_reads' HO539.out).2.2 | (with_reducible refine Kd.C_alloc ?_ _) | (with_reducible refine Kd.C_drewN ?_ _) | (with_reducible refine Kd.C_drew ?_))); (case side2 => exact (Kd.S_reads' HO539.out).2.1); rintro e w20 ⟨rfl, hb⟩; have n0_ := Aside0.mk (Kd.S_below (by (with_reducible repeat (first | apply Kd.S_alloc | apply Kd.S_drewN | apply Kd.S_drew)); exact HO539.out) hb); have n1_ := Aside0.mk (below_step (by repeat (first | (with_reducible first | exact HB.out | apply below_alloc | apply pw_below_drewN | apply below_drew1) | exact HB.out)) hb); clear HO539; clear HB; have HO539 := n0_; have HB := n1_; clear n0_ n1_; (try clear hb); (try clear hb2); (try clear hk); (try clear hi))))
  (try simp only [Act.put, List.setIfInBounds_toArray, List.set_cons_zero, List.set_cons_succ])
  go_cut [113] (fun v113 wc => ∃ (kq : Nat) (x113_11 : Bool), v113 = .bool x113_11 ∧ Aside0 (laws_FnRowsOfTables.j0 kq l1 t537 t540 t541 t544 t545 t548 t549 x113_11 = some true) ∧ Aside0 (kq ≤ k) ∧ Aside0 (Kd.S (Kd.slice 3 (Kd.int .i64)) 35 wc w.heap.size (fun _ => True) (.slice Ao14 t537.length co14) t537) ∧ Aside0 (Below w.heap.size w wc))
  case first =>
   have H := HC12.out
   clear HC12
   by_cases c21 : (t541 != t543) = true
   ·rw [if_pos c21] at H
    have c21b0 : (t541 != t543) = true := c21
    (try (have c21b1 : decide (t541 = t543) = false := by simpa using c21))
    (try (have c21b2 : (t541 == t543) = false := by simpa using c21))
    (try (have c21b3 : ¬ (t541 = t543) := by simpa using c21))
    clear c21
    (first | rw [c21b0] | (simp only [i64_w, i32_w]; rw [c21b0]) | skip)
    have H' := Aside0.mk H
    clear H
    go_wp2
    repeat (go_quiet (fail); try go_wp2)
    go_meet
    case rel => exact ⟨_, (true), (by first | rfl | (simp; done) | (simp [*]; done)), H', ⟨by first | omega | exact Nat.le_refl _⟩, ⟨by (with_reducible repeat (first | apply Kd.S_alloc | apply Kd.S_drewN | apply Kd.S_drew)); exact HO539.out⟩, ⟨by repeat (first | (with_reducible first | exact HB.out | apply below_alloc | apply pw_below_drewN | apply below_drew1) | exact HB.out)⟩⟩
   ·rw [if_neg c21] at H
    have c21b0 : (t541 != t543) = false := by simpa using c21
    (try (have c21b1 : decide (t541 = t543) = true := by simpa using c21))
    (try (have c21b2 : (t541 == t543) = true := by simpa using c21))
    clear c21
    (first | rw [c21b0] | (simp only [i64_w, i32_w]; rw [c21b0]) | skip)
    by_cases c22 : t540 = t542
    ·rw [if_pos c22] at H
     have c22b0 : (t540 == t542) = true := beq_iff_eq.mpr c22
     have c22b1 : (t540 != t542) = false := bne_eq_false_iff_eq.mpr c22
     clear c22
     by_cases c23 : (t545 != t547) = true
     ·rw [if_pos c23] at H
      have c23b0 : (t545 != t547) = true := c23
      (try (have c23b1 : decide (t545 = t547) = false := by simpa using c23))
      (try (have c23b2 : (t545 == t547) = false := by simpa using c23))
      (try (have c23b3 : ¬ (t545 = t547) := by simpa using c23))
      clear c23
      have H' := Aside0.mk H
      clear H
      go_wp2
      repeat (go_quiet (fail); try go_wp2)
      go_meet
      case rel => exact ⟨_, (true), (by first | rfl | (simp; done) | (simp [*]; done)), H', ⟨by first | omega | exact Nat.le_refl _⟩, ⟨by (with_reducible repeat (first | apply Kd.S_alloc | apply Kd.S_drewN | apply Kd.S_drew)); exact HO539.out⟩, ⟨by repeat (first | (with_reducible first | exact HB.out | apply below_alloc | apply pw_below_drewN | apply below_drew1) | exact HB.out)⟩⟩
     ·rw [if_neg c23] at H
      have c23b0 : (t545 != t547) = false := by simpa using c23
      (try (have c23b1 : decide (t545 = t547) = true := by simpa using c23))
      (try (have c23b2 : (t545 == t547) = true := by simpa using c23))
      clear c23
      by_cases c24 : t544 = t546
      ·rw [if_pos c24] at H
       have c24b0 : (t544 == t546) = true := beq_iff_eq.mpr c24
       have c24b1 : (t544 != t546) = false := bne_eq_false_iff_eq.mpr c24
       clear c24
       by_cases c25 : (t549 != t551) = true
       ·rw [if_pos c25] at H
        have c25b0 : (t549 != t551) = true := c25
        (try (have c25b1 : decide (t549 = t551) = false := by simpa using c25))
        (try (have c25b2 : (t549 == t551) = false := by simpa using c25))
        (try (have c25b3 : ¬ (t549 = t551) := by simpa using c25))
        clear c25
        have H' := Aside0.mk H
        clear H
        go_wp2
        repeat (go_quiet (fail); try go_wp2)
        go_meet
        case rel => exact ⟨_, (true), (by first | rfl | (simp; done) | (simp [*]; done)), H', ⟨by first | omega | exact Nat.le_refl _⟩, ⟨by (with_reducible repeat (first | apply Kd.S_alloc | apply Kd.S_drewN | apply Kd.S_drew)); exact HO539.out⟩, ⟨by repeat (first | (with_reducible first | exact HB.out | apply below_alloc | apply pw_below_drewN | apply below_drew1) | exact HB.out)⟩⟩
       ·rw [if_neg c25] at H
        have c25b0 : (t549 != t551) = false := by simpa using c25
        (try (have c25b1 : decide (t549 = t551) = true := by simpa using c25))
        (try (have c25b2 : (t549 == t551) = true := by simpa using c25))
        clear c25
        by_cases c26 : t548 = t550
        ·rw [if_pos c26] at H
         have c26b0 : (t548 == t550) = true := beq_iff_eq.mpr c26
         have c26b1 : (t548 != t550) = false := bne_eq_false_iff_eq.mpr c26
         clear c26
         by_cases c27 : t541 = true
         ·subst c27
          have H1 : (laws_FnRowsOfTables.j0 k l1 t537 t540 true t544 t545 t548 t549 (!t545)) = some true := by rw [if_pos rfl] at H; first | done | exact H
          clear H
          have H := H1
          clear H1
          have H' := Aside0.mk H
          clear H
          go_wp2
          repeat (go_quiet (fail); try go_wp2)
          go_meet
          case rel => exact ⟨_, (!t545), (by first | rfl | (simp; done) | (simp [*]; done)), H', ⟨by first | omega | exact Nat.le_refl _⟩, ⟨by (with_reducible repeat (first | apply Kd.S_alloc | apply Kd.S_drewN | apply Kd.S_drew)); exact HO539.out⟩, ⟨by repeat (first | (with_reducible first | exact HB.out | apply below_alloc | apply pw_below_drewN | apply below_drew1) | exact HB.out)⟩⟩
         ·replace c27 := Bool.eq_false_iff.mpr c27
          subst c27
          have H1 : (laws_FnRowsOfTables.j0 k l1 t537 t540 false t544 t545 t548 t549 false) = some true := by rw [if_neg (show ¬ (false = true) by decide)] at H; first | done | exact H
          clear H
          have H := H1
          clear H1
          have H' := Aside0.mk H
          clear H
          go_wp2
          repeat (go_quiet (fail); try go_wp2)
          go_meet
          case rel => exact ⟨_, (false), (by first | rfl | (simp; done) | (simp [*]; done)), H', ⟨by first | omega | exact Nat.le_refl _⟩, ⟨by (with_reducible repeat (first | apply Kd.S_alloc | apply Kd.S_drewN | apply Kd.S_drew)); exact HO539.out⟩, ⟨by repeat (first | (with_reducible first | exact HB.out | apply below_alloc | apply pw_below_drewN | apply below_drew1) | exact HB.out)⟩⟩
        ·rw [if_neg c26] at H
         have c26b0 : (t548 == t550) = false := beq_eq_false_iff_ne.mpr c26
         have c26b1 : (t548 != t550) = true := bne_iff_ne.mpr c26
         have H' := Aside0.mk H
         clear H
         go_wp2
         repeat (go_quiet (fail); try go_wp2)
         go_meet
         case rel => exact ⟨_, (true), (by first | rfl | (simp; done) | (simp [*]; done)), H', ⟨by first | omega | exact Nat.le_refl _⟩, ⟨by (with_reducible repeat (first | apply Kd.S_alloc | apply Kd.S_drewN | apply Kd.S_drew)); exact HO539.out⟩, ⟨by repeat (first | (with_reducible first | exact HB.out | apply below_alloc | apply pw_below_drewN | apply below_drew1) | exact HB.out)⟩⟩
      ·rw [if_neg c24] at H
       have c24b0 : (t544 == t546) = false := beq_eq_false_iff_ne.mpr c24
       have c24b1 : (t544 != t546) = true := bne_iff_ne.mpr c24
       have H' := Aside0.mk H
       clear H
       go_wp2
       repeat (go_quiet (fail); try go_wp2)
       go_meet
       case rel => exact ⟨_, (true), (by first | rfl | (simp; done) | (simp [*]; done)), H', ⟨by first | omega | exact Nat.le_refl _⟩, ⟨by (with_reducible repeat (first | apply Kd.S_alloc | apply Kd.S_drewN | apply Kd.S_drew)); exact HO539.out⟩, ⟨by repeat (first | (with_reducible first | exact HB.out | apply below_alloc | apply pw_below_drewN | apply below_drew1) | exact HB.out)⟩⟩
    ·rw [if_neg c22] at H
     have c22b0 : (t540 == t542) = false := beq_eq_false_iff_ne.mpr c22
     have c22b1 : (t540 != t542) = true := bne_iff_ne.mpr c22
     have H' := Aside0.mk H
     clear H
     go_wp2
     repeat (go_quiet (fail); try go_wp2)
     go_meet
     case rel => exact ⟨_, (true), (by first | rfl | (simp; done) | (simp [*]; done)), H', ⟨by first | omega | exact Nat.le_refl _⟩, ⟨by (with_reducible repeat (first | apply Kd.S_alloc | apply Kd.S_drewN | apply Kd.S_drew)); exact HO539.out⟩, ⟨by repeat (first | (with_reducible first | exact HB.out | apply below_alloc | apply pw_below_drewN | apply below_drew1) | exact HB.out)⟩⟩
  case rest =>
   clear HC12
   try clear c1
   try clear c2
   try clear p2
   try clear c4
   try clear c6
   try clear c21
   try clear c21b0
   try clear c21b1
   try clear c21b2
   try clear c22
   try clear c22b0
   try clear c22b1
   try clear c23
   try clear c23b0
   try clear c23b1
   try clear c23b2
   try clear c24
   try clear c24b0
   try clear c24b1
   try clear c25
   try clear c25b0
   try clear c25b1
   try clear c25b2
   try clear c26
   try clear c26b0
   try clear c26b1
   try clear c27
   obtain ⟨kq, x113_11, rfl, HA, HJ11, HO_5, HB⟩ := hcut
   as_aux_lemma =>
    cases kq with
    | zero => exact absurd HA.out (by simp [laws_FnRowsOfTables.j0])
    | succ kj11 =>
     have H := HA.out
     clear HA
     simp only [laws_FnRowsOfTables.j0] at H
     by_cases c28 : x113_11 = true
     ·subst c28
      have H1 : (some false) = some true := by rw [if_pos rfl] at H; first | done | exact H
      clear H
      have H := H1
      clear H1
      exact absurd H (by simp)
     ·replace c28 := Bool.eq_false_iff.mpr c28
      subst c28
      have H1 : ((spec_DrawExponentTable.f l1).bind fun t552 => ((impl_ExponentTable.f kj11 t552).bind fun bt553 => ((spec_ExponentTable.f kj11 t552).bind fun bt557 => (if (bt553.2 != bt557.2) = true then (laws_FnRowsOfTables.j1 kj11 l1 t537 t540 t541 t544 t545 t548 t549 true) else ((laws_sSameRows.f kj11 bt553.1 bt557.1).bind fun t561 => (laws_FnRowsOfTables.j1 kj11 l1 t537 t540 t541 t544 t545 t548 t549 (!t561))))))) = some true := by rw [if_neg (show ¬ (false = true) by decide)] at H; first | done | exact H
      clear H
      have H := H1
      clear H1
      replace H := Option.bind_eq_some_iff.mp H
      obtain ⟨t552, A290, H⟩ := H
      replace H : ((impl_ExponentTable.f kj11 t552).bind fun bt553 => ((spec_ExponentTable.f kj11 t552).bind fun bt557 => (if (bt553.2 != bt557.2) = true then (laws_FnRowsOfTables.j1 kj11 l1 t537 t540 t541 t544 t545 t548 t549 true) else ((laws_sSameRows.f kj11 bt553.1 bt557.1).bind fun t561 => (laws_FnRowsOfTables.j1 kj11 l1 t537 t540 t541 t544 t545 t548 t549 (!t561)))))) = some true := H
      have A29 := Aside0.mk A290
      clear A290
      replace H := Option.bind_eq_some_iff.mp H
      obtain ⟨⟨t553, t554⟩, A300, H⟩ := H
      replace H : ((spec_ExponentTable.f kj11 t552).bind fun bt557 => (if (t554 != bt557.2) = true then (laws_FnRowsOfTables.j1 kj11 l1 t537 t540 t541 t544 t545 t548 t549 true) else ((laws_sSameRows.f kj11 t553 bt557.1).bind fun t561 => (laws_FnRowsOfTables.j1 kj11 l1 t537 t540 t541 t544 t545 t548 t549 (!t561))))) = some true := H
      have A30 := Aside0.mk A300
      clear A300
      replace H := Option.bind_eq_some_iff.mp H
      obtain ⟨⟨t557, t558⟩, A310, H⟩ := H
      replace H : (if (t554 != t558) = true then (laws_FnRowsOfTables.j1 kj11 l1 t537 t540 t541 t544 t545 t548 t549 true) else ((laws_sSameRows.f kj11 t553 t557).bind fun t561 => (laws_FnRowsOfTables.j1 kj11 l1 t537 t540 t541 t544 t545 t548 t549 (!t561)))) = some true := H
      have A31 := Aside0.mk A310
      clear A310
      have HC32 := Aside0.mk H
      clear H
      go_upto_region 15 with (first | (go_at_call 19; (with_reducible refine (spec_DrawExponentTable.calls _ _ l1 t552 _ ?side1 ?side2 A29.out).mono ?_); (case side1 => repeat (first | exact (Kd.C_below HR1.out HB.out) | (with_reducible refine Kd.C_alloc ?_ _) | (with_reducible refine Kd.C_drewN ?_ _) | (with_reducible refine Kd.C_drew ?_))); (case side2 => exact HC1.out); rintro e w33 ⟨rfl, hb⟩; have n0_ := Aside0.mk (Kd.S_below (by (with_reducible repeat (first | apply Kd.S_alloc | apply Kd.S_drewN | apply Kd.S_drew)); exact HO_5.out) hb); have n1_ := Aside0.mk (below_step (by repeat (first | (with_reducible first | exact HB.out | apply below_alloc | apply pw_below_drewN | apply below_drew1) | exact HB.out)) hb); clear HO_5; clear HB; have HO_5 := n0_; have HB := n1_; clear n0_ n1_; (try clear hb); (try clear hb2); (try clear hk); (try clear hi)) | (go_at_call 20; (with_reducible refine (impl_ExponentTable.calls kj11 t552 t553 t554 _ A30.out).mono ?_); rintro e w34 ⟨v555, rfl, ho0, hb⟩; have n0_ := Aside0.mk (Kd.S_elder' (by (with_reducible repeat (first | apply Kd.S_alloc | apply Kd.S_drewN | apply Kd.S_drew)); exact HO_5.out) (Kd.S_base ho0) hb); have n1_ := Aside0.mk (Kd.S_lower (Kd.S_new' ho0 (Kd.S_lt (by (with_reducible repeat (first | apply Kd.S_alloc | apply Kd.S_drewN | apply Kd.S_drew)); exact HO_5.out))) (below_size (by repeat (first | (with_reducible first | exact HB.out | apply below_alloc | apply pw_below_drewN | apply below_drew1) | exact HB.out)))); have n2_ := Aside0.mk (below_step (by repeat (first | (with_reducible first | exact HB.out | apply below_alloc | apply pw_below_drewN | apply below_drew1) | exact HB.out)) hb); clear HO_5; clear HB; have HO_5 := n0_; have HO556 := n1_; have HB := n2_; clear n0_ n1_ n2_; (try clear hb); (try clear hb2); (try clear hk); (try clear hi); (try clear ho0)) | (go_at_call 21; (with_reducible refine (spec_ExponentTable.calls kj11 t552 t557 t558 _ A31.out).mono ?_); rintro e w35 ⟨v559, rfl, ho0, hb⟩; have n0_ := Aside0.mk (Kd.S_elder' (by (with_reducible repeat (first | apply Kd.S_alloc | apply Kd.S_drewN | apply Kd.S_drew)); exact HO_5.out) (Kd.S_base ho0) hb); have n1_ := Aside0.mk (Kd.S_elder' (by (with_reducible repeat (first | apply Kd.S_alloc | apply Kd.S_drewN | apply Kd.S_drew)); exact HO556.out) (Kd.S_base ho0) hb); have n2_ := Aside0.mk (Kd.S_lower (Kd.S_new' (Kd.S_new' ho0 (Kd.S_lt (by (with_reducible repeat (first | apply Kd.S_alloc | apply Kd.S_drewN | apply Kd.S_drew)); exact HO_5.out))) (Kd.S_lt (by (with_reducible repeat (first | apply Kd.S_alloc | apply Kd.S_drewN | apply Kd.S_drew)); exact HO556.out))) (below_size (by repeat (first | (with_reducible first | exact HB.out | apply below_alloc | apply pw_below_drewN | apply below_drew1) | exact HB.out)))); have n3_ := Aside0.mk (below_step (by repeat (first | (with_reducible first | exact HB.out | apply below_alloc | apply pw_below_drewN | apply below_drew1) | exact HB.out)) hb); clear HO_5; clear HO556; clear HB; have HO_5 := n0_; have HO556 := n1_; have HO560 := n2_; have HB := n3_; clear n0_ n1_ n2_ n3_; (try clear hb); (try clear hb2); (try clear hk); (try clear hi); (try clear ho0)))
      repeat (go_quiet (first | (go_at_call 19; (with_reducible refine (spec_DrawExponentTable.calls _ _ l1 t552 _ ?side1 ?side2 A29.out).mono ?_); (case side1 => repeat (first | exact (Kd.C_below HR1.out HB.out) | (with_reducible refine Kd.C_alloc ?_ _) | (with_reducible refine Kd.C_drewN ?_ _) | (with_reducible refine Kd.C_drew ?_))); (case side2 => exact HC1.out); rintro e w33 ⟨rfl, hb⟩; have n0_ := Aside0.mk (Kd.S_below (by (with_reducible repeat (first | apply Kd.S_alloc | apply Kd.S_drewN | apply Kd.S_drew)); exact HO_5.out) hb); have n1_ := Aside0.mk (below_step (by repeat (first | (with_reducible first | exact HB.out | apply below_alloc | apply pw_below_drewN | apply below_drew1) | exact HB.out)) hb); clear HO_5; clear HB; have HO_5 := n0_; have HB := n1_; clear n0_ n1_; (try clear hb); (try clear hb2); (try clear hk); (try clear hi)) | (go_at_call 20; (with_reducible refine (impl_ExponentTable.calls kj11 t552 t553 t554 _ A30.out).mono ?_); rintro e w34 ⟨v555, rfl, ho0, hb⟩; have n0_ := Aside0.mk (Kd.S_elder' (by (with_reducible repeat (first | apply Kd.S_alloc | apply Kd.S_drewN | apply Kd.S_drew)); exact HO_5.out) (Kd.S_base ho0) hb); have n1_ := Aside0.mk (Kd.S_lower (Kd.S_new' ho0 (Kd.S_lt (by (with_reducible repeat (first | apply Kd.S_alloc | apply Kd.S_drewN | apply Kd.S_drew)); exact HO_5.out))) (below_size (by repeat (first | (with_reducible first | exact HB.out | apply below_alloc | apply pw_below_drewN | apply below_drew1) | exact HB.out)))); have n2_ := Aside0.mk (below_step (by repeat (first | (with_reducible first | exact HB.out | apply below_alloc | apply pw_below_drewN | apply below_drew1) | exact HB.out)) hb); clear HO_5; clear HB; have HO_5 := n0_; have HO556 := n1_; have HB := n2_; clear n0_ n1_ n2_; (try clear hb); (try clear hb2); (try clear hk); (try clear hi); (try clear ho0)) | (go_at_call 21; (with_reducible refine (spec_ExponentTable.calls kj11 t552 t557 t558 _ A31.out).mono ?_); rintro e w35 ⟨v559, rfl, ho0, hb⟩; have n0_ := Aside0.mk (Kd.S_elder' (by (with_reducible repeat (first | apply Kd.S_alloc | apply Kd.S_drewN | apply Kd.S_drew)); exact HO_5.out) (Kd.S_base ho0) hb); have n1_ := Aside0.mk (Kd.S_elder' (by (with_reducible repeat (first | apply Kd.S_alloc | apply Kd.S_drewN | apply Kd.S_drew)); exact HO556.out) (Kd.S_base ho0) hb); have n2_ := Aside0.mk (Kd.S_lower (Kd.S_new' (Kd.S_new' ho0 (Kd.S_lt (by (with_reducible repeat (first | apply Kd.S_alloc | apply Kd.S_drewN | apply Kd.S_drew)); exact HO_5.out))) (Kd.S_lt (by (with_reducible repeat (first | apply Kd.S_alloc | apply Kd.S_drewN | apply Kd.S_drew)); exact HO556.out))) (below_size (by repeat (first | (with_reducible first | exact HB.out | apply below_alloc | apply pw_below_drewN | apply below_drew1) | exact HB.out)))); have n3_ := Aside0.mk (below_step (by repeat (first | (with_reducible first | exact HB.out | apply below_alloc | apply pw_below_drewN | apply below_drew1) | exact HB.out)) hb); clear HO_5; clear HO556; clear HB; have HO_5 := n0_; have HO556 := n1_; have HO560 := n2_; have HB := n3_; clear n0_ n1_ n2_ n3_; (try clear hb); (try clear hb2); (try clear hk); (try clear hi); (try clear ho0))); go_upto_region 15 with (first | (go_at_call 19; (with_reducible refine (spec_DrawExponentTable.calls _ _ l1 t552 _ ?side1 ?side2 A29.out).mono ?_); (case side1 => repeat (first | exact (Kd.C_below HR1.out HB.out) | (with_reducible refine Kd.C_alloc ?_ _) | (with_reducible refine Kd.C_drewN ?_ _) | (with_reducible refine Kd.C_drew ?_))); (case side2 => exact HC1.out); rintro e w33 ⟨rfl, hb⟩; have n0_ := Aside0.mk (Kd.S_below (by (with_reducible repeat (first | apply Kd.S_alloc | apply Kd.S_drewN | apply Kd.S_drew)); exact HO_5.out) hb); have n1_ := Aside0.mk (below_step (by repeat (first | (with_reducible first | exact HB.out | apply below_alloc | apply pw_below_drewN | apply below_drew1) | exact HB.out)) hb); clear HO_5; clear HB; have HO_5 := n0_; have HB := n1_; clear n0_ n1_; (try clear hb); (try clear hb2); (try clear hk); (try clear hi)) | (go_at_call 20; (with_reducible refine (impl_ExponentTable.calls kj11 t552 t553 t554 _ A30.out).mono ?_); rintro e w34 ⟨v555, rfl, ho0, hb⟩; have n0_ := Aside0.mk (Kd.S_elder' (by (with_reducible repeat (first | apply Kd.S_alloc | apply Kd.S_drewN | apply Kd.S_drew)); exact HO_5.out) (Kd.S_base ho0) hb); have n1_ := Aside0.mk (Kd.S_lower (Kd.S_new' ho0 (Kd.S_lt (by (with_reducible repeat (first | apply Kd.S_alloc | apply Kd.S_drewN | apply Kd.S_drew)); exact HO_5.out))) (below_size (by repeat (first | (with_reducible first | exact HB.out | apply below_alloc | apply pw_below_drewN | apply below_drew1) | exact HB.out)))); have n2_ := Aside0.mk (below_step (by repeat (first | (with_reducible first | exact HB.out | apply below_alloc | apply pw_below_drewN | apply below_drew1) | exact HB.out)) hb); clear HO_5; clear HB; have HO_5 := n0_; have HO556 := n1_; have HB := n2_; clear n0_ n1_ n2_; (try clear hb); (try clear hb2); (try clear hk); (try clear hi); (try clear ho0)) | (go_at_call 21; (with_reducible refine (spec_ExponentTable.calls kj11 t552 t557 t558 _ A31.out).mono ?_); rintro e w35 ⟨v559, rfl, ho0, hb⟩; have n0_ := Aside0.mk (Kd.S_elder' (by (with_reducible repeat (first | apply Kd.S_alloc | apply Kd.S_drewN | apply Kd.S_drew)); exact HO_5.out) (Kd.S_base ho0) hb); have n1_ := Aside0.mk (Kd.S_elder' (by (with_reducible repeat (first | apply Kd.S_alloc | apply Kd.S_drewN | apply Kd.S_drew)); exact HO556.out) (Kd.S_base ho0) hb); have n2_ := Aside0.mk (Kd.S_lower (Kd.S_new' (Kd.S_new' ho0 (Kd.S_lt (by (with_reducible repeat (first | apply Kd.S_alloc | apply Kd.S_drewN | apply Kd.S_drew)); exact HO_5.out))) (Kd.S_lt (by (with_reducible repeat (first | apply Kd.S_alloc | apply Kd.S_drewN | apply Kd.S_drew)); exact HO556.out))) (below_size (by repeat (first | (with_reducible first | exact HB.out | apply below_alloc | apply pw_below_drewN | apply below_drew1) | exact HB.out)))); have n3_ := Aside0.mk (below_step (by repeat (first | (with_reducible first | exact HB.out | apply below_alloc | apply pw_below_drewN | apply below_drew1) | exact HB.out)) hb); clear HO_5; clear HO556; clear HB; have HO_5 := n0_; have HO556 := n1_; have HO560 := n2_; have HB := n3_; clear n0_ n1_ n2_ n3_; (try clear hb); (try clear hb2); (try clear hk); (try clear hi); (try clear ho0))))
      (try simp only [Act.put, List.setIfInBounds_toArray, List.set_cons_zero, List.set_cons_succ])
      go_cut [134] (fun v134 wc => ∃ (kq : Nat) (x134_31 : Bool), v134 = .bool x134_31 ∧ Aside0 (laws_FnRowsOfTables.j1 kq l1 t537 t540 t541 t544 t545 t548 t549 x134_31 = some true) ∧ Aside0 (kq ≤ kj11) ∧ Aside0 (Kd.S (Kd.slice 3 (Kd.int .i64)) 35 wc w.heap.size (fun _ => True) (.slice Ao14 t537.length co14) t537) ∧ Aside0 (Below w.heap.size w wc))
      case first =>
       have H := HC32.out
       clear HC32
       by_cases c36 : (t554 != t558) = true
       ·rw [if_pos c36] at H
        have c36b0 : (t554 != t558) = true := c36
        (try (have c36b1 : decide (t554 = t558) = false := by simpa using c36))
        (try (have c36b2 : (t554 == t558) = false := by simpa using c36))
        (try (have c36b3 : ¬ (t554 = t558) := by simpa using c36))
        clear c36
        (first | rw [c36b0] | (simp only [i64_w, i32_w]; rw [c36b0]) | skip)
        have H' := Aside0.mk H
        clear H
        go_wp2
        repeat (go_quiet (fail); try go_wp2)
        go_meet
        case rel => exact ⟨_, (true), (by first | rfl | (simp; done) | (simp [*]; done)), H', ⟨by have := HJ11.out; first | omega | exact Nat.le_refl _⟩, ⟨by (with_reducible repeat (first | apply Kd.S_alloc | apply Kd.S_drewN | apply Kd.S_drew)); exact Kd.S_mono HO_5.out (fun _ hk => trivial)⟩, ⟨by repeat (first | (with_reducible first | exact HB.out | apply below_alloc | apply pw_below_drewN | apply below_drew1) | exact HB.out)⟩⟩
       ·rw [if_neg c36] at H
        have c36b0 : (t554 != t558) = false := by simpa using c36
        (try (have c36b1 : decide (t554 = t558) = true := by simpa using c36))
        (try (have c36b2 : (t554 == t558) = true := by simpa using c36))
        clear c36
        (first | rw [c36b0] | (simp only [i64_w, i32_w]; rw [c36b0]) | skip)
        replace H := Option.bind_eq_some_iff.mp H
        obtain ⟨t561, A370, H⟩ := H
        replace H : (laws_FnRowsOfTables.j1 kj11 l1 t537 t540 t541 t544 t545 t548 t549 (!t561)) = some true := H
        have A37 := Aside0.mk A370
        clear A370
        have H' := Aside0.mk H
        clear H
        obtain ⟨Ao38, co38, eo38⟩ := Kd.S_slice HO556.out
        subst eo38
        obtain ⟨Ao39, co39, eo39⟩ := Kd.S_slice HO560.out
        subst eo39
        go_wp2_with (first | (go_at_call 22; (with_reducible refine (laws_sSameRows.calls kj11 _ _ t553 _ _ t557 t561 _ ?side1 ?side2 ?side3 ?side4 A37.out).mono ?_); (case side1 => repeat (first | exact (Kd.S_reads' HO556.out).2.2 | (with_reducible refine Kd.C_alloc ?_ _) | (with_reducible refine Kd.C_drewN ?_ _) | (with_reducible refine Kd.C_drew ?_))); (case side2 => exact (Kd.S_reads' HO556.out).2.1); (case side3 => repeat (first | exact (Kd.S_reads' HO560.out).2.2 | (with_reducible refine Kd.C_alloc ?_ _) | (with_reducible refine Kd.C_drewN ?_ _) | (with_reducible refine Kd.C_drew ?_))); (case side4 => exact (Kd.S_reads' HO560.out).2.1); rintro e w' ⟨rfl, ⟨nd, rfl⟩⟩; (try first | exact ⟨rfl, _, World.drewN_drewN _ _ _⟩ | exact ⟨rfl, _, Eq.trans (World.drewN_drewN _ _ _) (congrArg (World.drewN _) (Nat.add_assoc _ _ _))⟩)))
        repeat (go_quiet (first | (go_at_call 22; (with_reducible refine (laws_sSameRows.calls kj11 _ _ t553 _ _ t557 t561 _ ?side1 ?side2 ?side3 ?side4 A37.out).mono ?_); (case side1 => repeat (first | exact (Kd.S_reads' HO556.out).2.2 | (with_reducible refine Kd.C_alloc ?_ _) | (with_reducible refine Kd.C_drewN ?_ _) | (with_reducible refine Kd.C_drew ?_))); (case side2 => exact (Kd.S_reads' HO556.out).2.1); (case side3 => repeat (first | exact (Kd.S_reads' HO560.out).2.2 | (with_reducible refine Kd.C_alloc ?_ _) | (with_reducible refine Kd.C_drewN ?_ _) | (with_reducible refine Kd.C_drew ?_))); (case side4 => exact (Kd.S_reads' HO560.out).2.1); rintro e w' ⟨rfl, ⟨nd, rfl⟩⟩; (try first | exact ⟨rfl, _, World.drewN_drewN _ _ _⟩ | exact ⟨rfl, _, Eq.trans (World.drewN_drewN _ _ _) (congrArg (World.drewN _) (Nat.add_assoc _ _ _))⟩))); try go_wp2_with (first | (go_at_call 22; (with_reducible refine (laws_sSameRows.calls kj11 _ _ t553 _ _ t557 t561 _ ?side1 ?side2 ?side3 ?side4 A37.out).mono ?_); (case side1 => repeat (first | exact (Kd.S_reads' HO556.out).2.2 | (with_reducible refine Kd.C_alloc ?_ _) | (with_reducible refine Kd.C_drewN ?_ _) | (with_reducible refine Kd.C_drew ?_))); (case side2 => exact (Kd.S_reads' HO556.out).2.1); (case side3 => repeat (first | exact (Kd.S_reads' HO560.out).2.2 | (with_reducible refine Kd.C_alloc ?_ _) | (with_reducible refine Kd.C_drewN ?_ _) | (with_reducible refine Kd.C_drew ?_))); (case side4 => exact (Kd.S_reads' HO560.out).2.1); rintro e w' ⟨rfl, ⟨nd, rfl⟩⟩; (try first | exact ⟨rfl, _, World.drewN_drewN _ _ _⟩ | exact ⟨rfl, _, Eq.trans (World.drewN_drewN _ _ _) (congrArg (World.drewN _) (Nat.add_assoc _ _ _))⟩))))
        go_meet
        case rel => exact ⟨_, (!t561), (by first | rfl | (simp; done) | (simp [*]; done)), H', ⟨by have := HJ11.out; first | omega | exact Nat.le_refl _⟩, ⟨by (with_reducible repeat (first | apply Kd.S_alloc | apply Kd.S_drewN | apply Kd.S_drew)); exact Kd.S_mono HO_5.out (fun _ hk => trivial)⟩, ⟨by repeat (first | (with_reducible first | exact HB.out | apply below_alloc | apply pw_below_drewN | apply below_drew1) | exact HB.out)⟩⟩
      case rest =>
       clear HC32
       try clear c1
       try clear c2
       try clear p2
       try clear c3
       try clear c4
       try clear c6
       try clear c21
       try clear c21b0
       try clear c21b1
       try clear c21b2
       try clear c22
       try clear c22b0
       try clear c22b1
       try clear c23
       try clear c23b0
       try clear c23b1
       try clear c23b2
       try clear c24
       try clear c24b0
       try clear c24b1
       try clear c25
       try clear c25b0
       try clear c25b1
       try clear c25b2
       try clear c26
       try clear c26b0
       try clear c26b1
       try clear c27
       try clear c28
       try clear c36
       try clear c36b0
       try clear c36b1
       try clear c36b2
       try clear p2
       obtain ⟨kq, x134_31, rfl, HA, HJ31, HO_5, HB⟩ := hcut
       as_aux_lemma =>
        cases kq with
        | zero => exact absurd HA.out (by simp [laws_FnRowsOfTables.j1])
        | succ kj31 =>
         have H := HA.out
         clear HA
         simp only [laws_FnRowsOfTables.j1] at H
         by_cases c40 : x134_31 = true
         ·subst c40
          have H1 : (some false) = some true := by rw [if_pos rfl] at H; first | done | exact H
          clear H
          have H := H1
          clear H1
          exact absurd H (by simp)
         ·replace c40 := Bool.eq_false_iff.mpr c40
          subst c40
          have H1 : ((spec_DrawApplyTable.f kj31 l1).bind fun bt562 => ((impl_ApplyTable.f kj31 bt562.1 bt562.2).bind fun bt568 => ((spec_ApplyTable.f kj31 bt562.1 bt562.2).bind fun bt572 => (if (bt568.2 != bt572.2) = true then (laws_FnRowsOfTables.j2 kj31 t537 t540 t541 t544 t545 t548 t549 bt562.1 bt562.2 bt568.1 bt568.2 true) else ((laws_sSame.f kj31 bt568.1 bt572.1).bind fun t576 => (laws_FnRowsOfTables.j2 kj31 t537 t540 t541 t544 t545 t548 t549 bt562.1 bt562.2 bt568.1 bt568.2 (!t576))))))) = some true := by rw [if_neg (show ¬ (false = true) by decide)] at H; first | done | exact H
          clear H
          have H := H1
          clear H1
          replace H := Option.bind_eq_some_iff.mp H
          obtain ⟨⟨t562, t563⟩, A410, H⟩ := H
          replace H : ((impl_ApplyTable.f kj31 t562 t563).bind fun bt568 => ((spec_ApplyTable.f kj31 t562 t563).bind fun bt572 => (if (bt568.2 != bt572.2) = true then (laws_FnRowsOfTables.j2 kj31 t537 t540 t541 t544 t545 t548 t549 t562 t563 bt568.1 bt568.2 true) else ((laws_sSame.f kj31 bt568.1 bt572.1).bind fun t576 => (laws_FnRowsOfTables.j2 kj31 t537 t540 t541 t544 t545 t548 t549 t562 t563 bt568.1 bt568.2 (!t576)))))) = some true := H
          have A41 := Aside0.mk A410
          clear A410
          replace H := Option.bind_eq_some_iff.mp H
          obtain ⟨⟨t568, t569⟩, A420, H⟩ := H
          replace H : ((spec_ApplyTable.f kj31 t562 t563).bind fun bt572 => (if (t569 != bt572.2) = true then (laws_FnRowsOfTables.j2 kj31 t537 t540 t541 t544 t545 t548 t549 t562 t563 t568 t569 true) else ((laws_sSame.f kj31 t568 bt572.1).bind fun t576 => (laws_FnRowsOfTables.j2 kj31 t537 t540 t541 t544 t545 t548 t549 t562 t563 t568 t569 (!t576))))) = some true := H
          have A42 := Aside0.mk A420
          clear A420
          replace H := Option.bind_eq_some_iff.mp H
          obtain ⟨⟨t572, t573⟩, A430, H⟩ := H
          replace H : (if (t569 != t573) = true then (laws_FnRowsOfTables.j2 kj31 t537 t540 t541 t544 t545 t548 t549 t562 t563 t568 t569 true) else ((laws_sSame.f kj31 t568 t572).bind fun t576 => (laws_FnRowsOfTables.j2 kj31 t537 t540 t541 t544 t545 t548 t549 t562 t563 t568 t569 (!t576)))) = some true := H
          have A43 := Aside0.mk A430
          clear A430
          have HC44 := Aside0.mk H
          clear H
          go_upto_region 20 with (first | (go_at_call 23; (with_reducible refine (spec_DrawApplyTable.calls kj31 _ _ l1 t562 t563 _ ?side1 ?side2 A41.out).mono ?_); (case side1 => repeat (first | exact (Kd.C_below HR1.out HB.out) | (with_reducible refine Kd.C_alloc ?_ _) | (with_reducible refine Kd.C_drewN ?_ _) | (with_reducible refine Kd.C_drew ?_))); (case side2 => exact HC1.out); rintro e w45 ⟨v564, v566, rfl, ho0, ho1, hb⟩; have n0_ := Aside0.mk (Kd.S_mono (Kd.S_told (Kd.S_told (Kd.S_old (by (with_reducible repeat (first | apply Kd.S_alloc | apply Kd.S_drewN | apply Kd.S_drew)); exact HO_5.out) hb) (Kd.S_base ho0)) (Kd.R_base ho1)) (fun _ h_ => h_.1)); have n1_ := Aside0.mk (Kd.S_lower (Kd.S_new' ho0 (Kd.S_lt (by (with_reducible repeat (first | apply Kd.S_alloc | apply Kd.S_drewN | apply Kd.S_drew)); exact HO_5.out))) (below_size (by repeat (first | (with_reducible first | exact HB.out | apply below_alloc | apply pw_below_drewN | apply below_drew1) | exact HB.out)))); have n2_ := Aside0.mk (Kd.R_lower ho1 (below_size (by repeat (first | (with_reducible first | exact HB.out | apply below_alloc | apply pw_below_drewN | apply below_drew1) | exact HB.out)))); have n3_ := Aside0.mk (below_step (by repeat (first | (with_reducible first | exact HB.out | apply below_alloc | apply pw_below_drewN | apply below_drew1) | exact HB.out)) hb); clear HO_5; clear HB; have HO_5 := n0_; have HO565 := n1_; have HO567 := n2_; have HB := n3_; clear n0_ n1_ n2_ n3_; (try clear hb); (try clear hb2); (try clear hk); (try clear hi); (try clear ho0); (try clear ho1); obtain ⟨Ao46, co46, eo46⟩ := Kd.S_slice HO565.out; subst eo46; obtain ⟨Ao47, co47, eo47⟩ := Kd.R_slice HO567.out; subst eo47) | (go_at_call 24; (with_reducible refine (impl_ApplyTable.calls kj31 _ _ t562 _ _ t563 t568 t569 _ ?side1 ?side2 ?side3 ?side4 A42.out).mono ?_); (case side1 => repeat (first | exact (Kd.S_reads' HO565.out).2.2 | (with_reducible refine Kd.C_alloc ?_ _) | (with_reducible refine Kd.C_drewN ?_ _) | (with_reducible refine Kd.C_drew ?_))); (case side2 => exact (Kd.S_reads' HO565.out).2.1); (case side3 => repeat (first | exact (Kd.R_reads' HO567.out).2.2 | (with_reducible refine Kd.C_alloc ?_ _) | (with_reducible refine Kd.C_drewN ?_ _) | (with_reducible refine Kd.C_drew ?_))); (case side4 => exact (Kd.R_reads' HO567.out).2.1); rintro e w48 ⟨v570, rfl, ho0, hb⟩; have n0_ := Aside0.mk (Kd.S_elder' (by (with_reducible repeat (first | apply Kd.S_alloc | apply Kd.S_drewN | apply Kd.S_drew)); exact HO_5.out) (Kd.R_base ho0) hb); have n1_ := Aside0.mk (Kd.S_elder' (by (with_reducible repeat (first | apply Kd.S_alloc | apply Kd.S_drewN | apply Kd.S_drew)); exact HO565.out) (Kd.R_base ho0) hb); have n2_ := Aside0.mk (Kd.R_elder' (by (with_reducible repeat (first | apply Kd.R_alloc | apply Kd.R_drewN | apply Kd.R_drew)); exact HO567.out) (Kd.R_base ho0) hb); have n3_ := Aside0.mk (Kd.R_lower (Kd.R_new' ho0 (Kd.R_lt (by (with_reducible repeat (first | apply Kd.R_alloc | apply Kd.R_drewN | apply Kd.R_drew)); exact HO567.out))) (below_size (by repeat (first | (with_reducible first | exact HB.out | apply below_alloc | apply pw_below_drewN | apply below_drew1) | exact HB.out)))); have n4_ := Aside0.mk (below_step (by repeat (first | (with_reducible first | exact HB.out | apply below_alloc | apply pw_below_drewN | apply below_drew1) | exact HB.out)) hb); clear HO_5; clear HO565; clear HO567; clear HB; have HO_5 := n0_; have HO565 := n1_; have HO567 := n2_; have HO571 := n3_; have HB := n4_; clear n0_ n1_ n2_ n3_ n4_; (try clear hb); (try clear hb2); (try clear hk); (try clear hi); (try clear ho0)) | (go_at_call 25; (with_reducible refine (spec_ApplyTable.calls kj31 _ _ t562 _ _ t563 t572 t573 _ ?side1 ?side2 ?side3 ?side4 A43.out).mono ?_); (case side1 => repeat (first | exact (Kd.S_reads' HO565.out).2.2 | (with_reducible refine Kd.C_alloc ?_ _) | (with_reducible refine Kd.C_drewN ?_ _) | (with_reducible refine Kd.C_drew ?_))); (case side2 => exact (Kd.S_reads' HO565.out).2.1); (case side3 => repeat (first | exact (Kd.R_reads' HO567.out).2.2 | (with_reducible refine Kd.C_alloc ?_ _) | (with_reducible refine Kd.C_drewN ?_ _) | (with_reducible refine Kd.C_drew ?_))); (case side4 => exact (Kd.R_reads' HO567.out).2.1); rintro e w49 ⟨v574, rfl, ho0, hb⟩; have n0_ := Aside0.mk (Kd.S_elder' (by (with_reducible repeat (first | apply Kd.S_alloc | apply Kd.S_drewN | apply Kd.S_drew)); exact HO_5.out) (Kd.R_base ho0) hb); have n1_ := Aside0.mk (Kd.S_elder' (by (with_reducible repeat (first | apply Kd.S_alloc | apply Kd.S_drewN | apply Kd.S_drew)); exact HO565.out) (Kd.R_base ho0) hb); have n2_ := Aside0.mk (Kd.R_elder' (by (with_reducible repeat (first | apply Kd.R_alloc | apply Kd.R_drewN | apply Kd.R_drew)); exact HO567.out) (Kd.R_base ho0) hb); have n3_ := Aside0.mk (Kd.R_elder' (by (with_reducible repeat (first | apply Kd.R_alloc | apply Kd.R_drewN | apply Kd.R_drew)); exact HO571.out) (Kd.R_base ho0) hb); have n4_ := Aside0.mk (Kd.R_lower (Kd.R_new' (Kd.R_new' ho0 (Kd.R_lt (by (with_reducible repeat (first | apply Kd.R_alloc | apply Kd.R_drewN | apply Kd.R_drew)); exact HO567.out))) (Kd.R_lt (by (with_reducible repeat (first | apply Kd.R_alloc | apply Kd.R_drewN | apply Kd.R_drew)); exact HO571.out))) (below_size (by repeat (first | (with_reducible first | exact HB.out | apply below_alloc | apply pw_below_drewN | apply below_drew1) | exact HB.out)))); have n5_ := Aside0.mk (below_step (by repeat (first | (with_reducible first | exact HB.out | apply below_alloc | apply pw_below_drewN | apply below_drew1) | exact HB.out)) hb); clear HO_5; clear HO565; clear HO567; clear HO571; clear HB; have HO_5 := n0_; have HO565 := n1_; have HO567 := n2_; have HO571 := n3_; have HO575 := n4_; have HB := n5_; clear n0_ n1_ n2_ n3_ n4_ n5_; (try clear hb); (try clear hb2); (try clear hk); (try clear hi); (try clear ho0)))
          repeat (go_quiet (first | (go_at_call 23; (with_reducible refine (spec_DrawApplyTable.calls kj31 _ _ l1 t562 t563 _ ?side1 ?side2 A41.out).mono ?_); (case side1 => repeat (first | exact (Kd.C_below HR1.out HB.out) | (with_reducible refine Kd.C_alloc ?_ _) | (with_reducible refine Kd.C_drewN ?_ _) | (with_reducible refine Kd.C_drew ?_))); (case side2 => exact HC1.out); rintro e w45 ⟨v564, v566, rfl, ho0, ho1, hb⟩; have n0_ := Aside0.mk (Kd.S_mono (Kd.S_told (Kd.S_told (Kd.S_old (by (with_reducible repeat (first | apply Kd.S_alloc | apply Kd.S_drewN | apply Kd.S_drew)); exact HO_5.out) hb) (Kd.S_base ho0)) (Kd.R_base ho1)) (fun _ h_ => h_.1)); have n1_ := Aside0.mk (Kd.S_lower (Kd.S_new' ho0 (Kd.S_lt (by (with_reducible repeat (first | apply Kd.S_alloc | apply Kd.S_drewN | apply Kd.S_drew)); exact HO_5.out))) (below_size (by repeat (first | (with_reducible first | exact HB.out | apply below_alloc | apply pw_below_drewN | apply below_drew1) | exact HB.out)))); have n2_ := Aside0.mk (Kd.R_lower ho1 (below_size (by repeat (first | (with_reducible first | exact HB.out | apply below_alloc | apply pw_below_drewN | apply below_drew1) | exact HB.out)))); have n3_ := Aside0.mk (below_step (by repeat (first | (with_reducible first | exact HB.out | apply below_alloc | apply pw_below_drewN | apply below_drew1) | exact HB.out)) hb); clear HO_5; clear HB; have HO_5 := n0_; have HO565 := n1_; have HO567 := n2_; have HB := n3_; clear n0_ n1_ n2_ n3_; (try clear hb); (try clear hb2); (try clear hk); (try clear hi); (try clear ho0); (try clear ho1); obtain ⟨Ao46, co46, eo46⟩ := Kd.S_slice HO565.out; subst eo46; obtain ⟨Ao47, co47, eo47⟩ := Kd.R_slice HO567.out; subst eo47) | (go_at_call 24; (with_reducible refine (impl_ApplyTable.calls kj31 _ _ t562 _ _ t563 t568 t569 _ ?side1 ?side2 ?side3 ?side4 A42.out).mono ?_); (case side1 => repeat (first | exact (Kd.S_reads' HO565.out).2.2 | (with_reducible refine Kd.C_alloc ?_ _) | (with_reducible refine Kd.C_drewN ?_ _) | (with_reducible refine Kd.C_drew ?_))); (case side2 => exact (Kd.S_reads' HO565.out).2.1); (case side3 => repeat (first | exact (Kd.R_reads' HO567.out).2.2 | (with_reducible refine Kd.C_alloc ?_ _) | (with_reducible refine Kd.C_drewN ?_ _) | (with_reducible refine Kd.C_drew ?_))); (case side4 => exact (Kd.R_reads' HO567.out).2.1); rintro e w48 ⟨v570, rfl, ho0, hb⟩; have n0_ := Aside0.mk (Kd.S_elder' (by (with_reducible repeat (first | apply Kd.S_alloc | apply Kd.S_drewN | apply Kd.S_drew)); exact HO_5.out) (Kd.R_base ho0) hb); have n1_ := Aside0.mk (Kd.S_elder' (by (with_reducible repeat (first | apply Kd.S_alloc | apply Kd.S_drewN | apply Kd.S_drew)); exact HO565.out) (Kd.R_base ho0) hb); have n2_ := Aside0.mk (Kd.R_elder' (by (with_reducible repeat (first | apply Kd.R_alloc | apply Kd.R_drewN | apply Kd.R_drew)); exact HO567.out) (Kd.R_base ho0) hb); have n3_ := Aside0.mk (Kd.R_lower (Kd.R_new' ho0 (Kd.R_lt (by (with_reducible repeat (first | apply Kd.R_alloc | apply Kd.R_drewN | apply Kd.R_drew)); exact HO567.out))) (below_size (by repeat (first | (with_reducible first | exact HB.out | apply below_alloc | apply pw_below_drewN | apply below_drew1) | exact HB.out)))); have n4_ := Aside0.mk (below_step (by repeat (first | (with_reducible first | exact HB.out | apply below_alloc | apply pw_below_drewN | apply below_drew1) | exact HB.out)) hb); clear HO_5; clear HO565; clear HO567; clear HB; have HO_5 := n0_; have HO565 := n1_; have HO567 := n2_; have HO571 := n3_; have HB := n4_; clear n0_ n1_ n2_ n3_ n4_; (try clear hb); (try clear hb2); (try clear hk); (try clear hi); (try clear ho0)) | (go_at_call 25; (with_reducible refine (spec_ApplyTable.calls kj31 _ _ t562 _ _ t563 t572 t573 _ ?side1 ?side2 ?side3 ?side4 A43.out).mono ?_); (case side1 => repeat (first | exact (Kd.S_reads' HO565.out).2.2 | (with_reducible refine Kd.C_alloc ?_ _) | (with_reducible refine Kd.C_drewN ?_ _) | (with_reducible refine Kd.C_drew ?_))); (case side2 => exact (Kd.S_reads' HO565.out).2.1); (case side3 => repeat (first | exact (Kd.R_reads' HO567.out).2.2 | (with_reducible refine Kd.C_alloc ?_ _) | (with_reducible refine Kd.C_drewN ?_ _) | (with_reducible refine Kd.C_drew ?_))); (case side4 => exact (Kd.R_reads' HO567.out).2.1); rintro e w49 ⟨v574, rfl, ho0, hb⟩; have n0_ := Aside0.mk (Kd.S_elder' (by (with_reducible repeat (first | apply Kd.S_alloc | apply Kd.S_drewN | apply Kd.S_drew)); exact HO_5.out) (Kd.R_base ho0) hb); have n1_ := Aside0.mk (Kd.S_elder' (by (with_reducible repeat (first | apply Kd.S_alloc | apply Kd.S_drewN | apply Kd.S_drew)); exact HO565.out) (Kd.R_base ho0) hb); have n2_ := Aside0.mk (Kd.R_elder' (by (with_reducible repeat (first | apply Kd.R_alloc | apply Kd.R_drewN | apply Kd.R_drew)); exact HO567.out) (Kd.R_base ho0) hb); have n3_ := Aside0.mk (Kd.R_elder' (by (with_reducible repeat (first | apply Kd.R_alloc | apply Kd.R_drewN | apply Kd.R_drew)); exact HO571.out) (Kd.R_base ho0) hb); have n4_ := Aside0.mk (Kd.R_lower (Kd.R_new' (Kd.R_new' ho0 (Kd.R_lt (by (with_reducible repeat (first | apply Kd.R_alloc | apply Kd.R_drewN | apply Kd.R_drew)); exact HO567.out))) (Kd.R_lt (by (with_reducible repeat (first | apply Kd.R_alloc | apply Kd.R_drewN | apply Kd.R_drew)); exact HO571.out))) (below_size (by repeat (first | (with_reducible first | exact HB.out | apply below_alloc | apply pw_below_drewN | apply below_drew1) | exact HB.out)))); have n5_ := Aside0.mk (below_step (by repeat (first | (with_reducible first | exact HB.out | apply below_alloc | apply pw_below_drewN | apply below_drew1) | exact HB.out)) hb); clear HO_5; clear HO565; clear HO567; clear HO571; clear HB; have HO_5 := n0_; have HO565 := n1_; have HO567 := n2_; have HO571 := n3_; have HO575 := n4_; have HB := n5_; clear n0_ n1_ n2_ n3_ n4_ n5_; (try clear hb); (try clear hb2); (try clear hk); (try clear hi); (try clear ho0))); go_upto_region 20 with (first | (go_at_call 23; (with_reducible refine (spec_DrawApplyTable.calls kj31 _ _ l1 t562 t563 _ ?side1 ?side2 A41.out).mono ?_); (case side1 => repeat (first | exact (Kd.C_below HR1.out HB.out) | (with_reducible refine Kd.C_alloc ?_ _) | (with_reducible refine Kd.C_drewN ?_ _) | (with_reducible refine Kd.C_drew ?_))); (case side2 => exact HC1.out); rintro e w45 ⟨v564, v566, rfl, ho0, ho1, hb⟩; have n0_ := Aside0.mk (Kd.S_mono (Kd.S_told (Kd.S_told (Kd.S_old (by (with_reducible repeat (first | apply Kd.S_alloc | apply Kd.S_drewN | apply Kd.S_drew)); exact HO_5.out) hb) (Kd.S_base ho0)) (Kd.R_base ho1)) (fun _ h_ => h_.1)); have n1_ := Aside0.mk (Kd.S_lower (Kd.S_new' ho0 (Kd.S_lt (by (with_reducible repeat (first | apply Kd.S_alloc | apply Kd.S_drewN | apply Kd.S_drew)); exact HO_5.out))) (below_size (by repeat (first | (with_reducible first | exact HB.out | apply below_alloc | apply pw_below_drewN | apply below_drew1) | exact HB.out)))); have n2_ := Aside0.mk (Kd.R_lower ho1 (below_size (by repeat (first | (with_reducible first | exact HB.out | apply below_alloc | apply pw_below_drewN | apply below_drew1) | exact HB.out)))); have n3_ := Aside0.mk (below_step (by repeat (first | (with_reducible first | exact HB.out | apply below_alloc | apply pw_below_drewN | apply below_drew1) | exact HB.out)) hb); clear HO_5; clear HB; have HO_5 := n0_; have HO565 := n1_; have HO567 := n2_; have HB := n3_; clear n0_ n1_ n2_ n3_; (try clear hb); (try clear hb2); (try clear hk); (try clear hi); (try clear ho0); (try clear ho1); obtain ⟨Ao46, co46, eo46⟩ := Kd.S_slice HO565.out; subst eo46; obtain ⟨Ao47, co47, eo47⟩ := Kd.R_slice HO567.out; subst eo47) | (go_at_call 24; (with_reducible refine (impl_ApplyTable.calls kj31 _ _ t562 _ _ t563 t568 t569 _ ?side1 ?side2 ?side3 ?side4 A42.out).mono ?_); (case side1 => repeat (first | exact (Kd.S_reads' HO565.out).2.2 | (with_reducible refine Kd.C_alloc ?_ _) | (with_reducible refine Kd.C_drewN ?_ _) | (with_reducible refine Kd.C_drew ?_))); (case side2 => exact (Kd.S_reads' HO565.out).2.1); (case side3 => repeat (first | exact (Kd.R_reads' HO567.out).2.2 | (with_reducible refine Kd.C_alloc ?_ _) | (with_reducible refine Kd.C_drewN ?_ _) | (with_reducible refine Kd.C_drew ?_))); (case side4 => exact (Kd.R_reads' HO567.out).2.1); rintro e w48 ⟨v570, rfl, ho0, hb⟩; have n0_ := Aside0.mk (Kd.S_elder' (by (with_reducible repeat (first | apply Kd.S_alloc | apply Kd.S_drewN | apply Kd.S_drew)); exact HO_5.out) (Kd.R_base ho0) hb); have n1_ := Aside0.mk (Kd.S_elder' (by (with_reducible repeat (first | apply Kd.S_alloc | apply Kd.S_drewN | apply Kd.S_drew)); exact HO565.out) (Kd.R_base ho0) hb); have n2_ := Aside0.mk (Kd.R_elder' (by (with_reducible repeat (first | apply Kd.R_alloc | apply Kd.R_drewN | apply Kd.R_drew)); exact HO567.out) (Kd.R_base ho0) hb); have n3_ := Aside0.mk (Kd.R_lower (Kd.R_new' ho0 (Kd.R_lt (by (with_reducible repeat (first | apply Kd.R_alloc | apply Kd.R_drewN | apply Kd.R_drew)); exact HO567.out))) (below_size (by repeat (first | (with_reducible first | exact HB.out | apply below_alloc | apply pw_below_drewN | apply below_drew1) | exact HB.out)))); have n4_ := Aside0.mk (below_step (by repeat (first | (with_reducible first | exact HB.out | apply below_alloc | apply pw_below_drewN | apply below_drew1) | exact HB.out)) hb); clear HO_5; clear HO565; clear HO567; clear HB; have HO_5 := n0_; have HO565 := n1_; have HO567 := n2_; have HO571 := n3_; have HB := n4_; clear n0_ n1_ n2_ n3_ n4_; (try clear hb); (try clear hb2); (try clear hk); (try clear hi); (try clear ho0)) | (go_at_call 25; (with_reducible refine (spec_ApplyTable.calls kj31 _ _ t562 _ _ t563 t572 t573 _ ?side1 ?side2 ?side3 ?side4 A43.out).mono ?_); (case side1 => repeat (first | exact (Kd.S_reads' HO565.out).2.2 | (with_reducible refine Kd.C_alloc ?_ _) | (with_reducible refine Kd.C_drewN ?_ _) | (with_reducible refine Kd.C_drew ?_))); (case side2 => exact (Kd.S_reads' HO565.out).2.1); (case side3 => repeat (first | exact (Kd.R_reads' HO567.out).2.2 | (with_reducible refine Kd.C_alloc ?_ _) | (with_reducible refine Kd.C_drewN ?_ _) | (with_reducible refine Kd.C_drew ?_))); (case side4 => exact (Kd.R_reads' HO567.out).2.1); rintro e w49 ⟨v574, rfl, ho0, hb⟩; have n0_ := Aside0.mk (Kd.S_elder' (by (with_reducible repeat (first | apply Kd.S_alloc | apply Kd.S_drewN | apply Kd.S_drew)); exact HO_5.out) (Kd.R_base ho0) hb); have n1_ := Aside0.mk (Kd.S_elder' (by (with_reducible repeat (first | apply Kd.S_alloc | apply Kd.S_drewN | apply Kd.S_drew)); exact HO565.out) (Kd.R_base ho0) hb); have n2_ := Aside0.mk (Kd.R_elder' (by (with_reducible repeat (first | apply Kd.R_alloc | apply Kd.R_drewN | apply Kd.R_drew)); exact HO567.out) (Kd.R_base ho0) hb); have n3_ := Aside0.mk (Kd.R_elder' (by (with_reducible repeat (first | apply Kd.R_alloc | apply Kd.R_drewN | apply Kd.R_drew)); exact HO571.out) (Kd.R_base ho0) hb); have n4_ := Aside0.mk (Kd.R_lower (Kd.R_new' (Kd.R_new' ho0 (Kd.R_lt (by (with_reducible repeat (first | apply Kd.R_alloc | apply Kd.R_drewN | apply Kd.R_drew)); exact HO567.out))) (Kd.R_lt (by (with_reducible repeat (first | apply Kd.R_alloc | apply Kd.R_drewN | apply Kd.R_drew)); exact HO571.out))) (below_size (by repeat (first | (with_reducible first | exact HB.out | apply below_alloc | apply pw_below_drewN | apply below_drew1) | exact HB.out)))); have n5_ := Aside0.mk (below_step (by repeat (first | (with_reducible first | exact HB.out | apply below_alloc | apply pw_below_drewN | apply below_drew1) | exact HB.out)) hb); clear HO_5; clear HO565; clear HO567; clear HO571; clear HB; have HO_5 := n0_; have HO565 := n1_; have HO567 := n2_; have HO571 := n3_; have HO575 := n4_; have HB := n5_; clear n0_ n1_ n2_ n3_ n4_ n5_; (try clear hb); (try clear hb2); (try clear hk); (try clear hi); (try clear ho0))))
          (try simp only [Act.put, List.setIfInBounds_toArray, List.set_cons_zero, List.set_cons_succ])
          go_cut [160] (fun v160 wc => ∃ (kq : Nat) (x160_43 : Bool), v160 = .bool x160_43 ∧ Aside0 (laws_FnRowsOfTables.j2 kq t537 t540 t541 t544 t545 t548 t549 t562 t563 t568 t569 x160_43 = some true) ∧ Aside0 (kq ≤ kj31) ∧ Aside0 (Kd.S (Kd.slice 3 (Kd.int .i64)) 35 wc w.heap.size (fun k_ => some k_ ≠ ((.slice Ao46 t562.length co46) : Value).ownBlock ∧ some k_ ≠ ((.slice Ao47 t563.length co47) : Value).ownBlock ∧ some k_ ≠ (v570 : Value).ownBlock) (.slice Ao14 t537.length co14) t537) ∧ Aside0 (Kd.S (Kd.slice 3 (Kd.int .i64)) 35 wc w.heap.size (fun k_ => some k_ ≠ ((.slice Ao14 t537.length co14) : Value).ownBlock ∧ some k_ ≠ ((.slice Ao47 t563.length co47) : Value).ownBlock ∧ some k_ ≠ (v570 : Value).ownBlock) (.slice Ao46 t562.length co46) t562) ∧ Aside0 (Kd.R (Kd.int .i64) 3 wc w.heap.size (fun k_ => some k_ ≠ (v570 : Value).ownBlock) (.slice Ao47 t563.length co47) t563) ∧ Aside0 (Kd.R (Kd.int .i64) 3 wc w.heap.size (fun k_ => some k_ ≠ ((.slice Ao47 t563.length co47) : Value).ownBlock) v570 t568) ∧ Aside0 (Below w.heap.size w wc))
          case first =>
           have H := HC44.out
           clear HC44
           by_cases c50 : (t569 != t573) = true
           ·rw [if_pos c50] at H
            have c50b0 : (t569 != t573) = true := c50
            (try (have c50b1 : decide (t569 = t573) = false := by simpa using c50))
            (try (have c50b2 : (t569 == t573) = false := by simpa using c50))
            (try (have c50b3 : ¬ (t569 = t573) := by simpa using c50))
            clear c50
            (first | rw [c50b0] | (simp only [i64_w, i32_w]; rw [c50b0]) | skip)
            have H' := Aside0.mk H
            clear H
            go_wp2
            repeat (go_quiet (fail); try go_wp2)
            go_meet
            case rel => exact ⟨_, (true), (by first | rfl | (simp; done) | (simp [*]; done)), H', ⟨by have := HJ11.out; have := HJ31.out; first | omega | exact Nat.le_refl _⟩, ⟨by (with_reducible repeat (first | apply Kd.S_alloc | apply Kd.S_drewN | apply Kd.S_drew)); exact Kd.S_mono HO_5.out (fun _ hk => ⟨hk.1.1.1.2, ⟨hk.1.1.2, hk.1.2⟩⟩)⟩, ⟨by (with_reducible repeat (first | apply Kd.S_alloc | apply Kd.S_drewN | apply Kd.S_drew)); exact Kd.S_mono HO565.out (fun _ hk => ⟨hk.1.1.2, ⟨hk.1.1.1, hk.1.2⟩⟩)⟩, ⟨by (with_reducible repeat (first | apply Kd.R_alloc | apply Kd.R_drewN | apply Kd.R_drew)); exact Kd.R_mono HO567.out (fun _ hk => hk.1.2)⟩, ⟨by (with_reducible repeat (first | apply Kd.R_alloc | apply Kd.R_drewN | apply Kd.R_drew)); exact Kd.R_mono HO571.out (fun _ hk => hk.1.2)⟩, ⟨by repeat (first | (with_reducible first | exact HB.out | apply below_alloc | apply pw_below_drewN | apply below_drew1) | exact HB.out)⟩⟩
           ·rw [if_neg c50] at H
            have c50b0 : (t569 != t573) = false := by simpa using c50
            (try (have c50b1 : decide (t569 = t573) = true := by simpa using c50))
            (try (have c50b2 : (t569 == t573) = true := by simpa using c50))
            clear c50
            (first | rw [c50b0] | (simp only [i64_w, i32_w]; rw [c50b0]) | skip)
            replace H := Option.bind_eq_some_iff.mp H
            obtain ⟨t576, A510, H⟩ := H
            replace H : (laws_FnRowsOfTables.j2 kj31 t537 t540 t541 t544 t545 t548 t549 t562 t563 t568 t569 (!t576)) = some true := H
            have A51 := Aside0.mk A510
            clear A510
            have H' := Aside0.mk H
            clear H
            obtain ⟨Ao52, co52, eo52⟩ := Kd.R_slice HO571.out
            subst eo52
            obtain ⟨Ao53, co53, eo53⟩ := Kd.R_slice HO575.out
            subst eo53
            go_wp2_with (first | (go_at_call 26; (with_reducible refine (laws_sSame.calls kj31 _ _ t568 _ _ t572 t576 _ ?side1 ?side2 ?side3 ?side4 A51.out).mono ?_); (case side1 => repeat (first | exact (Kd.R_reads' HO571.out).2.2 | (with_reducible refine Kd.C_alloc ?_ _) | (with_reducible refine Kd.C_drewN ?_ _) | (with_reducible refine Kd.C_drew ?_))); (case side2 => exact (Kd.R_reads' HO571.out).2.1); (case side3 => repeat (first | exact (Kd.R_reads' HO575.out).2.2 | (with_reducible refine Kd.C_alloc ?_ _) | (with_reducible refine Kd.C_drewN ?_ _) | (with_reducible refine Kd.C_drew ?_))); (case side4 => exact (Kd.R_reads' HO575.out).2.1); rintro e w' ⟨rfl, ⟨nd, rfl⟩⟩; (try first | exact ⟨rfl, _, World.drewN_drewN _ _ _⟩ | exact ⟨rfl, _, Eq.trans (World.drewN_drewN _ _ _) (congrArg (World.drewN _) (Nat.add_assoc _ _ _))⟩)))
            repeat (go_quiet (first | (go_at_call 26; (with_reducible refine (laws_sSame.calls kj31 _ _ t568 _ _ t572 t576 _ ?side1 ?side2 ?side3 ?side4 A51.out).mono ?_); (case side1 => repeat (first | exact (Kd.R_reads' HO571.out).2.2 | (with_reducible refine Kd.C_alloc ?_ _) | (with_reducible refine Kd.C_drewN ?_ _) | (with_reducible refine Kd.C_drew ?_))); (case side2 => exact (Kd.R_reads' HO571.out).2.1); (case side3 => repeat (first | exact (Kd.R_reads' HO575.out).2.2 | (with_reducible refine Kd.C_alloc ?_ _) | (with_reducible refine Kd.C_drewN ?_ _) | (with_reducible refine Kd.C_drew ?_))); (case side4 => exact (Kd.R_reads' HO575.out).2.1); rintro e w' ⟨rfl, ⟨nd, rfl⟩⟩; (try first | exact ⟨rfl, _, World.drewN_drewN _ _ _⟩ | exact ⟨rfl, _, Eq.trans (World.drewN_drewN _ _ _) (congrArg (World.drewN _) (Nat.add_assoc _ _ _))⟩))); try go_wp2_with (first | (go_at_call 26; (with_reducible refine (laws_sSame.calls kj31 _ _ t568 _ _ t572 t576 _ ?side1 ?side2 ?side3 ?side4 A51.out).mono ?_); (case side1 => repeat (first | exact (Kd.R_reads' HO571.out).2.2 | (with_reducible refine Kd.C_alloc ?_ _) | (with_reducible refine Kd.C_drewN ?_ _) | (with_reducible refine Kd.C_drew ?_))); (case side2 => exact (Kd.R_reads' HO571.out).2.1); (case side3 => repeat (first | exact (Kd.R_reads' HO575.out).2.2 | (with_reducible refine Kd.C_alloc ?_ _) | (with_reducible refine Kd.C_drewN ?_ _) | (with_reducible refine Kd.C_drew ?_))); (case side4 => exact (Kd.R_reads' HO575.out).2.1); rintro e w' ⟨rfl, ⟨nd, rfl⟩⟩; (try first | exact ⟨rfl, _, World.drewN_drewN _ _ _⟩ | exact ⟨rfl, _, Eq.trans (World.drewN_drewN _ _ _) (congrArg (World.drewN _) (Nat.add_assoc _ _ _))⟩))))
            go_meet
            case rel => exact ⟨_, (!t576), (by first | rfl | (simp; done) | (simp [*]; done)), H', ⟨by have := HJ11.out; have := HJ31.out; first | omega | exact Nat.le_refl _⟩, ⟨by (with_reducible repeat (first | apply Kd.S_alloc | apply Kd.S_drewN | apply Kd.S_drew)); exact Kd.S_mono HO_5.out (fun _ hk => ⟨hk.1.1.1.2, ⟨hk.1.1.2, hk.1.2⟩⟩)⟩, ⟨by (with_reducible repeat (first | apply Kd.S_alloc | apply Kd.S_drewN | apply Kd.S_drew)); exact Kd.S_mono HO565.out (fun _ hk => ⟨hk.1.1.2, ⟨hk.1.1.1, hk.1.2⟩⟩)⟩, ⟨by (with_reducible repeat (first | apply Kd.R_alloc | apply Kd.R_drewN | apply Kd.R_drew)); exact Kd.R_mono HO567.out (fun _ hk => hk.1.2)⟩, ⟨by (with_reducible repeat (first | apply Kd.R_alloc | apply Kd.R_drewN | apply Kd.R_drew)); exact Kd.R_mono HO571.out (fun _ hk => hk.1.2)⟩, ⟨by repeat (first | (with_reducible first | exact HB.out | apply below_alloc | apply pw_below_drewN | apply below_drew1) | exact HB.out)⟩⟩
          case rest =>
           clear HC44
           try clear c1
           try clear c2
           try clear p2
           try clear c3
           try clear c4
           try clear c5
           try clear c6
           try clear c21
           try clear c21b0
           try clear c21b1
           try clear c21b2
           try clear c22
           try clear c22b0
           try clear c22b1
           try clear c23
           try clear c23b0
           try clear c23b1
           try clear c23b2
           try clear c24
           try clear c24b0
           try clear c24b1
           try clear c25
           try clear c25b0
           try clear c25b1
           try clear c25b2
           try clear c26
           try clear c26b0
           try clear c26b1
           try clear c27
           try clear c28
           try clear c36
           try clear c36b0
           try clear c36b1
           try clear c36b2
           try clear c40
           try clear c50
           try clear c50b0
           try clear c50b1
           try clear c50b2
           try clear p2
           obtain ⟨kq, x160_43, rfl, HA, HJ43, HO_5, HO_23, HO_24, HO_25, HB⟩ := hcut
           as_aux_lemma =>
            cases kq with
            | zero => exact absurd HA.out (by simp [laws_FnRowsOfTables.j2])
            | succ kj43 =>
             have H := HA.out
             clear HA
             simp only [laws_FnRowsOfTables.j2] at H
             by_cases c54 : x160_43 = true
             ·subst c54
              have H1 : (some false) = some true := by rw [if_pos rfl] at H; first | done | exact H
              clear H
              have H := H1
              clear H1
              exact absurd H (by simp)
             ·replace c54 := Bool.eq_false_iff.mpr c54
              subst c54
              have H1 : (if t569 = true then (laws_FnRowsOfTables.l0 kj43 t537 t540 t541 t544 t545 t548 t549 t562 t568 ([] : List Int) t563 (t563.length : Int) 0) else (laws_FnRowsOfTables.j5 kj43 t537 t540 t541 t544 t545 t548 t549)) = some true := by rw [if_neg (show ¬ (false = true) by decide)] at H; first | done | exact H
              clear H
              have H := H1
              clear H1
              have HC55 := Aside0.mk H
              clear H
              go_upto_if 161 with (fail)
              repeat (go_quiet (fail); go_upto_if 161 with (fail))
              go_cut [] (fun wc => ∃ (kq : Nat), Aside0 (laws_FnRowsOfTables.j5 kq t537 t540 t541 t544 t545 t548 t549 = some true) ∧ Aside0 (kq ≤ kj43) ∧ Aside0 (Kd.S (Kd.slice 3 (Kd.int .i64)) 35 wc w.heap.size (fun _ => True) (.slice Ao14 t537.length co14) t537) ∧ Aside0 (Below w.heap.size w wc))
              case first =>
               have H := HC55.out
               clear HC55
               by_cases c56 : t569 = true
               ·subst c56
                have H1 : (laws_FnRowsOfTables.l0 kj43 t537 t540 t541 t544 t545 t548 t549 t562 t568 ([] : List Int) t563 (t563.length : Int) 0) = some true := by rw [if_pos rfl] at H; first | done | exact H
                clear H
                have H := H1
                clear H1
                have H' := Aside0.mk H
                clear H
                go_wp2
                repeat (go_quiet (fail); try go_wp2)
                go_loopg [29, 164] kj43 (fun kq v29 v164 w' => ∃ (x29_4 : List Int) (x164_4 : Int), v164 = .int .i64 x164_4 ∧ Aside0 (laws_FnRowsOfTables.l0 kq t537 t540 t541 t544 t545 t548 t549 t562 t568 x29_4 t563 (t563.length : Int) x164_4 = some true) ∧ Aside0 (kq ≤ kj43) ∧ Aside0 (Kd.S (Kd.slice 3 (Kd.int .i64)) 35 w' w.heap.size (fun k_ => some k_ ≠ ((.slice Ao46 t562.length co46) : Value).ownBlock ∧ some k_ ≠ (v570 : Value).ownBlock ∧ some k_ ≠ (v29 : Value).ownBlock ∧ some k_ ≠ ((.slice Ao47 t563.length co47) : Value).ownBlock) (.slice Ao14 t537.length co14) t537) ∧ Aside0 (Kd.S (Kd.slice 3 (Kd.int .i64)) 35 w' w.heap.size (fun k_ => some k_ ≠ ((.slice Ao14 t537.length co14) : Value).ownBlock ∧ some k_ ≠ (v570 : Value).ownBlock ∧ some k_ ≠ (v29 : Value).ownBlock ∧ some k_ ≠ ((.slice Ao47 t563.length co47) : Value).ownBlock) (.slice Ao46 t562.length co46) t562) ∧ Aside0 (Kd.R (Kd.int .i64) 3 w' w.heap.size (fun k_ => some k_ ≠ (v29 : Value).ownBlock ∧ some k_ ≠ ((.slice Ao47 t563.length co47) : Value).ownBlock) v570 t568) ∧ Aside0 (Kd.R (Kd.int .i64) 3 w' w.heap.size (fun k_ => some k_ ≠ (v570 : Value).ownBlock ∧ some k_ ≠ ((.slice Ao47 t563.length co47) : Value).ownBlock) v29 x29_4) ∧ Aside0 (Kd.R (Kd.int .i64) 3 w' w.heap.size (fun k_ => some k_ ≠ (v570 : Value).ownBlock ∧ some k_ ≠ (v29 : Value).ownBlock) (.slice Ao47 t563.length co47) t563) ∧ Aside0 (Below w.heap.size w w'))
                case atStart => exact ⟨(([] : List Int)), (0), (by first | rfl | (simp; done) | (simp [*]; done)), H', ⟨Nat.le_refl _⟩, ⟨by (with_reducible repeat (first | apply Kd.S_alloc | apply Kd.S_drewN | apply Kd.S_drew)); exact Kd.S_mono HO_5.out (fun _ hk => ⟨hk.1, ⟨hk.2.2, ⟨(by simp [Value.ownBlock]), hk.2.1⟩⟩⟩)⟩, ⟨by (with_reducible repeat (first | apply Kd.S_alloc | apply Kd.S_drewN | apply Kd.S_drew)); exact Kd.S_mono HO_23.out (fun _ hk => ⟨hk.1, ⟨hk.2.2, ⟨(by simp [Value.ownBlock]), hk.2.1⟩⟩⟩)⟩, ⟨by (with_reducible repeat (first | apply Kd.R_alloc | apply Kd.R_drewN | apply Kd.R_drew)); exact Kd.R_mono HO_25.out (fun _ hk => ⟨(by simp [Value.ownBlock]), hk⟩)⟩, ⟨by first | exact Kd.R_nil _ _ _ _ _ | exact Kd.N_nil _ _ _ _ _ | exact Kd.V_nil _ _ _ _ _ | exact Kd.Q_nil _ _ _ _ _ | exact Kd.S_nil _ _ _ _ _⟩, ⟨by (with_reducible repeat (first | apply Kd.R_alloc | apply Kd.R_drewN | apply Kd.R_drew)); exact Kd.R_mono HO_24.out (fun _ hk => ⟨hk, (by simp [Value.ownBlock])⟩)⟩, ⟨by repeat (first | (with_reducible first | exact HB.out | apply below_alloc | apply pw_below_drewN | apply below_drew1) | exact HB.out)⟩⟩
                case round =>
                 clear H'
                 try clear c1
                 try clear c2
                 try clear p2
                 try clear c3
                 try clear c4
                 try clear c5
                 try clear c6
                 try clear c21
                 try clear c21b0
                 try clear c21b1
                 try clear c21b2
                 try clear c22
                 try clear c22b0
                 try clear c22b1
                 try clear c23
                 try clear c23b0
                 try clear c23b1
                 try clear c23b2
                 try clear c24
                 try clear c24b0
                 try clear c24b1
                 try clear c25
                 try clear c25b0
                 try clear c25b1
                 try clear c25b2
                 try clear c26
                 try clear c26b0
                 try clear c26b1
                 try clear c27
                 try clear c28
                 try clear c36
                 try clear c36b0
                 try clear c36b1
                 try clear c36b2
                 try clear c40
                 try clear c50
                 try clear c50b0
                 try clear c50b1
                 try clear c50b2
                 try clear c54
                 try clear c56
                 try clear p2
                 obtain ⟨x29_4, x164_4, rfl, HA, HK4, HO_5, HO_23, HO_25, HO_29, HO_162, HB⟩ := hrel
                 as_aux_lemma =>
                  cases gk with
                  | zero => exact absurd HA.out (by simp [laws_FnRowsOfTables.l0])
                  | succ k4 =>
                   have H := HA.out
                   clear HA
                   simp only [laws_FnRowsOfTables.l0] at H
                   by_cases c57 : x164_4 < (t563.length : Int)
                   ·rw [if_pos c57] at H
                    have c57b0 : decide (x164_4 < (t563.length : Int)) = true := decide_eq_true c57
                    clear c57
                    (first | rw [c57b0] | (simp only [i64_w, i32_w]; rw [c57b0]) | skip)
                    by_cases c58 : 0 ≤ x164_4
                    ·rw [if_pos c58] at H
                     have c58b0 : decide (0 ≤ x164_4) = true := decide_eq_true c58
                     clear c58
                     by_cases c59 : x164_4 < (t563.length : Int)
                     ·rw [if_pos c59] at H
                      have c59b0 : decide (x164_4 < (t563.length : Int)) = true := decide_eq_true c59
                      clear c59
                      by_cases c60 : x29_4.length < 17592186044416
                      ·rw [if_pos c60] at H
                       have LMc60 := Aside0.mk c60
                       clear c60
                       obtain ⟨y578, hy578⟩ : ∃ y_ : List Int, y_ = (x29_4 ++ [wrap64 (-(rd t563 x164_4))]) := ⟨_, rfl⟩
                       replace H : (laws_FnRowsOfTables.l0 k4 t537 t540 t541 t544 t545 t548 t549 t562 t568 y578 t563 (t563.length : Int) (wrap64 (x164_4 + 1))) = some true := by first | (rw [hy578]; with_reducible exact H) | (have H2_ := (Option.bind_some _ _).symm.trans H; rw [hy578]; with_reducible exact H2_) | (have H2_ := (Option.bind_some _ _).symm.trans H; with_reducible exact H2_) | with_reducible exact H | (rw [hy578]; exact H) | exact H
                       have Ny578 := Aside0.mk hy578
                       clear hy578
                       have H' := Aside0.mk H
                       clear H
                       have p577 : 0 ≤ (x164_4 : Int) := of_decide_eq_true (by first | (with_reducible assumption) | assumption)
                       have q577 : x164_4 < (t563.length : Int) := of_decide_eq_true (by first | (with_reducible assumption) | assumption)
                       obtain ⟨ad577, e577, hx577_0⟩ := Kd.at_int (Kd.R_reads' HO_162.out).2.2 x164_4 p577 q577
                       cases e577
                       replace p577 := eq_true p577
                       replace q577 := eq_true q577
                       go_wp2_with (first | ((with_reducible refine gate_builtin (b := .append) (xs := #[.tmp 168, .tmp 171]) rfl ?_); at_builtin; refine Kd.R_append (Kd.int .i64) (w0 := w) w.heap.size rfl (.tmp 168) (.tmp 171) 35 3 (.int .i64 0) 8 rfl Try.underlying35 info3 rfl (by decide) (by omega) u29 x29_4 (wrap64 (-(rd t563 x164_4))) [.int .i64 (wrap64 (-(rd t563 x164_4)))] (fun k_ => some k_ ≠ (v570 : Value).ownBlock ∧ some k_ ≠ (.slice (some ad577) t563.length co47 : Value).ownBlock) (fun _ => False) rfl rfl ?aP (fun _ hk => hk.elim) ?aF ?aO ?aB ?aS ?aL ?_; (case aP => exact rfl); (case aB => exact (by repeat (first | (with_reducible first | exact HB.out | apply below_alloc | apply pw_below_drewN | apply below_drew1) | exact HB.out))); (case aF => exact (fun k_ hk => ⟨Kd.fresh' (Kd.R_lt (by (with_reducible repeat (first | apply Kd.R_alloc | apply Kd.R_drewN | apply Kd.R_drew)); exact HO_25.out)) k_ hk, Kd.fresh' (Kd.R_lt (by (with_reducible repeat (first | apply Kd.R_alloc | apply Kd.R_drewN | apply Kd.R_drew)); exact HO_162.out)) k_ hk⟩)); (case aO => exact (by (with_reducible repeat (first | apply Kd.R_alloc | apply Kd.R_drewN | apply Kd.R_drew)); exact HO_29.out)); (case aS => exact (below_size (by repeat (first | (with_reducible first | exact HB.out | apply below_alloc | apply pw_below_drewN | apply below_drew1) | exact HB.out)))); (case aL => have := LMc60.out; omega); intro v579 w61 ho hb hg hat; rw [← Ny578.out] at ho; have n0_ := Aside0.mk (Kd.S_after (ok := (fun k_ => some k_ ≠ (.slice Ao46 t562.length co46 : Value).ownBlock ∧ some k_ ≠ (v570 : Value).ownBlock ∧ some k_ ≠ (.slice (some ad577) t563.length co47 : Value).ownBlock)) (by (with_reducible repeat (first | apply Kd.S_alloc | apply Kd.S_drewN | apply Kd.S_drew)); exact Kd.S_mono HO_5.out (fun _ hk => ⟨⟨hk.1, ⟨hk.2.1, hk.2.2.2⟩⟩, hk.2.2.1⟩)) hg hat); have n1_ := Aside0.mk (Kd.S_after (ok := (fun k_ => some k_ ≠ (.slice Ao14 t537.length co14 : Value).ownBlock ∧ some k_ ≠ (v570 : Value).ownBlock ∧ some k_ ≠ (.slice (some ad577) t563.length co47 : Value).ownBlock)) (by (with_reducible repeat (first | apply Kd.S_alloc | apply Kd.S_drewN | apply Kd.S_drew)); exact Kd.S_mono HO_23.out (fun _ hk => ⟨⟨hk.1, ⟨hk.2.1, hk.2.2.2⟩⟩, hk.2.2.1⟩)) hg hat); have n2_ := Aside0.mk (Kd.R_after (ok := (fun k_ => some k_ ≠ (.slice (some ad577) t563.length co47 : Value).ownBlock)) (by (with_reducible repeat (first | apply Kd.R_alloc | apply Kd.R_drewN | apply Kd.R_drew)); exact Kd.R_mono HO_25.out (fun _ hk => by first | exact ⟨hk.2, hk.1⟩ | exact ⟨hk.1, hk.2⟩)) hg hat); have n3_ := Aside0.mk (Kd.R_after (ok := (fun k_ => some k_ ≠ (v570 : Value).ownBlock)) (by (with_reducible repeat (first | apply Kd.R_alloc | apply Kd.R_drewN | apply Kd.R_drew)); exact HO_162.out) hg hat); have n4_ := Aside0.mk (hb); have n5_ := Aside0.mk (ho); clear HO_5; clear HO_23; clear HO_25; clear HO_162; clear HB; clear HO_29; have HO_5 := n0_; have HO_23 := n1_; have HO_25 := n2_; have HO_162 := n3_; have HB := n4_; have HO580 := n5_; clear n0_ n1_ n2_ n3_ n4_ n5_; clear ho hb hg hat))
                       repeat (go_quiet (first | ((with_reducible refine gate_builtin (b := .append) (xs := #[.tmp 168, .tmp 171]) rfl ?_); at_builtin; refine Kd.R_append (Kd.int .i64) (w0 := w) w.heap.size rfl (.tmp 168) (.tmp 171) 35 3 (.int .i64 0) 8 rfl Try.underlying35 info3 rfl (by decide) (by omega) u29 x29_4 (wrap64 (-(rd t563 x164_4))) [.int .i64 (wrap64 (-(rd t563 x164_4)))] (fun k_ => some k_ ≠ (v570 : Value).ownBlock ∧ some k_ ≠ (.slice (some ad577) t563.length co47 : Value).ownBlock) (fun _ => False) rfl rfl ?aP (fun _ hk => hk.elim) ?aF ?aO ?aB ?aS ?aL ?_; (case aP => exact rfl); (case aB => exact (by repeat (first | (with_reducible first | exact HB.out | apply below_alloc | apply pw_below_drewN | apply below_drew1) | exact HB.out))); (case aF => exact (fun k_ hk => ⟨Kd.fresh' (Kd.R_lt (by (with_reducible repeat (first | apply Kd.R_alloc | apply Kd.R_drewN | apply Kd.R_drew)); exact HO_25.out)) k_ hk, Kd.fresh' (Kd.R_lt (by (with_reducible repeat (first | apply Kd.R_alloc | apply Kd.R_drewN | apply Kd.R_drew)); exact HO_162.out)) k_ hk⟩)); (case aO => exact (by (with_reducible repeat (first | apply Kd.R_alloc | apply Kd.R_drewN | apply Kd.R_drew)); exact HO_29.out)); (case aS => exact (below_size (by repeat (first | (with_reducible first | exact HB.out | apply below_alloc | apply pw_below_drewN | apply below_drew1) | exact HB.out)))); (case aL => have := LMc60.out; omega); intro v579 w61 ho hb hg hat; rw [← Ny578.out] at ho; have n0_ := Aside0.mk (Kd.S_after (ok := (fun k_ => some k_ ≠ (.slice Ao46 t562.length co46 : Value).ownBlock ∧ some k_ ≠ (v570 : Value).ownBlock ∧ some k_ ≠ (.slice (some ad577) t563.length co47 : Value).ownBlock)) (by (with_reducible repeat (first | apply Kd.S_alloc | apply Kd.S_drewN | apply Kd.S_drew)); exact Kd.S_mono HO_5.out (fun _ hk => ⟨⟨hk.1, ⟨hk.2.1, hk.2.2.2⟩⟩, hk.2.2.1⟩)) hg hat); have n1_ := Aside0.mk (Kd.S_after (ok := (fun k_ => some k_ ≠ (.slice Ao14 t537.length co14 : Value).ownBlock ∧ some k_ ≠ (v570 : Value).ownBlock ∧ some k_ ≠ (.slice (some ad577) t563.length co47 : Value).ownBlock)) (by (with_reducible repeat (first | apply Kd.S_alloc | apply Kd.S_drewN | apply Kd.S_drew)); exact Kd.S_mono HO_23.out (fun _ hk => ⟨⟨hk.1, ⟨hk.2.1, hk.2.2.2⟩⟩, hk.2.2.1⟩)) hg hat); have n2_ := Aside0.mk (Kd.R_after (ok := (fun k_ => some k_ ≠ (.slice (some ad577) t563.length co47 : Value).ownBlock)) (by (with_reducible repeat (first | apply Kd.R_alloc | apply Kd.R_drewN | apply Kd.R_drew)); exact Kd.R_mono HO_25.out (fun _ hk => by first | exact ⟨hk.2, hk.1⟩ | exact ⟨hk.1, hk.2⟩)) hg hat); have n3_ := Aside0.mk (Kd.R_after (ok := (fun k_ => some k_ ≠ (v570 : Value).ownBlock)) (by (with_reducible repeat (first | apply Kd.R_alloc | apply Kd.R_drewN | apply Kd.R_drew)); exact HO_162.out) hg hat); have n4_ := Aside0.mk (hb); have n5_ := Aside0.mk (ho); clear HO_5; clear HO_23; clear HO_25; clear HO_162; clear HB; clear HO_29; have HO_5 := n0_; have HO_23 := n1_; have HO_25 := n2_; have HO_162 := n3_; have HB := n4_; have HO580 := n5_; clear n0_ n1_ n2_ n3_ n4_ n5_; clear ho hb hg hat)); try go_wp2_with (first | ((with_reducible refine gate_builtin (b := .append) (xs := #[.tmp 168, .tmp 171]) rfl ?_); at_builtin; refine Kd.R_append (Kd.int .i64) (w0 := w) w.heap.size rfl (.tmp 168) (.tmp 171) 35 3 (.int .i64 0) 8 rfl Try.underlying35 info3 rfl (by decide) (by omega) u29 x29_4 (wrap64 (-(rd t563 x164_4))) [.int .i64 (wrap64 (-(rd t563 x164_4)))] (fun k_ => some k_ ≠ (v570 : Value).ownBlock ∧ some k_ ≠ (.slice (some ad577) t563.length co47 : Value).ownBlock) (fun _ => False) rfl rfl ?aP (fun _ hk => hk.elim) ?aF ?aO ?aB ?aS ?aL ?_; (case aP => exact rfl); (case aB => exact (by repeat (first | (with_reducible first | exact HB.out | apply below_alloc | apply pw_below_drewN | apply below_drew1) | exact HB.out))); (case aF => exact (fun k_ hk => ⟨Kd.fresh' (Kd.R_lt (by (with_reducible repeat (first | apply Kd.R_alloc | apply Kd.R_drewN | apply Kd.R_drew)); exact HO_25.out)) k_ hk, Kd.fresh' (Kd.R_lt (by (with_reducible repeat (first | apply Kd.R_alloc | apply Kd.R_drewN | apply Kd.R_drew)); exact HO_162.out)) k_ hk⟩)); (case aO => exact (by (with_reducible repeat (first | apply Kd.R_alloc | apply Kd.R_drewN | apply Kd.R_drew)); exact HO_29.out)); (case aS => exact (below_size (by repeat (first | (with_reducible first | exact HB.out | apply below_alloc | apply pw_below_drewN | apply below_drew1) | exact HB.out)))); (case aL => have := LMc60.out; omega); intro v579 w61 ho hb hg hat; rw [← Ny578.out] at ho; have n0_ := Aside0.mk (Kd.S_after (ok := (fun k_ => some k_ ≠ (.slice Ao46 t562.length co46 : Value).ownBlock ∧ some k_ ≠ (v570 : Value).ownBlock ∧ some k_ ≠ (.slice (some ad577) t563.length co47 : Value).ownBlock)) (by (with_reducible repeat (first | apply Kd.S_alloc | apply Kd.S_drewN | apply Kd.S_drew)); exact Kd.S_mono HO_5.out (fun _ hk => ⟨⟨hk.1, ⟨hk.2.1, hk.2.2.2⟩⟩, hk.2.2.1⟩)) hg hat); have n1_ := Aside0.mk (Kd.S_after (ok := (fun k_ => some k_ ≠ (.slice Ao14 t537.length co14 : Value).ownBlock ∧ some k_ ≠ (v570 : Value).ownBlock ∧ some k_ ≠ (.slice (some ad577) t563.length co47 : Value).ownBlock)) (by (with_reducible repeat (first | apply Kd.S_alloc | apply Kd.S_drewN | apply Kd.S_drew)); exact Kd.S_mono HO_23.out (fun _ hk => ⟨⟨hk.1, ⟨hk.2.1, hk.2.2.2⟩⟩, hk.2.2.1⟩)) hg hat); have n2_ := Aside0.mk (Kd.R_after (ok := (fun k_ => some k_ ≠ (.slice (some ad577) t563.length co47 : Value).ownBlock)) (by (with_reducible repeat (first | apply Kd.R_alloc | apply Kd.R_drewN | apply Kd.R_drew)); exact Kd.R_mono HO_25.out (fun _ hk => by first | exact ⟨hk.2, hk.1⟩ | exact ⟨hk.1, hk.2⟩)) hg hat); have n3_ := Aside0.mk (Kd.R_after (ok := (fun k_ => some k_ ≠ (v570 : Value).ownBlock)) (by (with_reducible repeat (first | apply Kd.R_alloc | apply Kd.R_drewN | apply Kd.R_drew)); exact HO_162.out) hg hat); have n4_ := Aside0.mk (hb); have n5_ := Aside0.mk (ho); clear HO_5; clear HO_23; clear HO_25; clear HO_162; clear HB; clear HO_29; have HO_5 := n0_; have HO_23 := n1_; have HO_25 := n2_; have HO_162 := n3_; have HB := n4_; have HO580 := n5_; clear n0_ n1_ n2_ n3_ n4_ n5_; clear ho hb hg hat)))
                       go_roundg k4
                       case measure => have := HJ11.out; have := HJ31.out; have := HJ43.out; have := HK4.out; omega
                       case rel => exact ⟨(y578), (wrap64 (x164_4 + 1)), (by first | rfl | (simp; done) | (simp [*]; done)), H', ⟨by have := HJ11.out; have := HJ31.out; have := HJ43.out; have := HK4.out; omega⟩, ⟨by (with_reducible repeat (first | apply Kd.S_alloc | apply Kd.S_drewN | apply Kd.S_drew)); exact Kd.S_mono HO_5.out (fun _ hk => ⟨hk.1.1, ⟨hk.1.2.1, ⟨hk.2, hk.1.2.2⟩⟩⟩)⟩, ⟨by (with_reducible repeat (first | apply Kd.S_alloc | apply Kd.S_drewN | apply Kd.S_drew)); exact Kd.S_mono HO_23.out (fun _ hk => ⟨hk.1.1, ⟨hk.1.2.1, ⟨hk.2, hk.1.2.2⟩⟩⟩)⟩, ⟨by (with_reducible repeat (first | apply Kd.R_alloc | apply Kd.R_drewN | apply Kd.R_drew)); exact Kd.R_mono HO_25.out (fun _ hk => by first | exact ⟨hk.2, hk.1⟩ | exact ⟨hk.1, hk.2⟩)⟩, ⟨by (with_reducible repeat (first | apply Kd.R_alloc | apply Kd.R_drewN | apply Kd.R_drew)); exact HO580.out⟩, ⟨by (with_reducible repeat (first | apply Kd.R_alloc | apply Kd.R_drewN | apply Kd.R_drew)); exact HO_162.out⟩, ⟨by repeat (first | (with_reducible first | exact HB.out | apply below_alloc | apply pw_below_drewN | apply below_drew1) | exact HB.out)⟩⟩
                      ·rw [if_neg c60] at H
                       exact absurd H (by simp)
                     ·rw [if_neg c59] at H
                      exact absurd H (by simp)
                    ·rw [if_neg c58] at H
                     exact absurd H (by simp)
                   ·rw [if_neg c57] at H
                    have c57b0 : decide (x164_4 < (t563.length : Int)) = false := decide_eq_false c57
                    clear c57
                    (first | rw [c57b0] | (simp only [i64_w, i32_w]; rw [c57b0]) | skip)
                    replace H := Option.bind_eq_some_iff.mp H
                    obtain ⟨⟨t581, t582⟩, A620, H⟩ := H
                    replace H : (if t582 = true then (laws_FnRowsOfTables.l1 k4 t537 t540 t541 t544 t545 t548 t549 t568 t581 (t568.length : Int) 0) else (some false)) = some true := H
                    have A62 := Aside0.mk A620
                    clear A620
                    by_cases c63 : t582 = true
                    ·subst c63
                     have H1 : (laws_FnRowsOfTables.l1 k4 t537 t540 t541 t544 t545 t548 t549 t568 t581 (t568.length : Int) 0) = some true := by rw [if_pos rfl] at H; first | done | exact H
                     clear H
                     have H := H1
                     clear H1
                     have H' := Aside0.mk H
                     clear H
                     obtain ⟨Ao64, co64, eo64⟩ := Kd.R_slice HO_29.out
                     subst eo64
                     go_wp2_with (first | (go_at_call 24; (with_reducible refine (impl_ApplyTable.calls k4 _ _ t562 _ _ x29_4 t581 true _ ?side1 ?side2 ?side3 ?side4 A62.out).mono ?_); (case side1 => repeat (first | exact (Kd.S_reads' HO_23.out).2.2 | (with_reducible refine Kd.C_alloc ?_ _) | (with_reducible refine Kd.C_drewN ?_ _) | (with_reducible refine Kd.C_drew ?_))); (case side2 => exact (Kd.S_reads' HO_23.out).2.1); (case side3 => repeat (first | exact (Kd.R_reads' HO_29.out).2.2 | (with_reducible refine Kd.C_alloc ?_ _) | (with_reducible refine Kd.C_drewN ?_ _) | (with_reducible refine Kd.C_drew ?_))); (case side4 => exact (Kd.R_reads' HO_29.out).2.1); rintro e w65 ⟨v583, rfl, ho0, hb⟩; have n0_ := Aside0.mk (Kd.S_elder' (by (with_reducible repeat (first | apply Kd.S_alloc | apply Kd.S_drewN | apply Kd.S_drew)); exact HO_5.out) (Kd.R_base ho0) hb); have n1_ := Aside0.mk (Kd.S_elder' (by (with_reducible repeat (first | apply Kd.S_alloc | apply Kd.S_drewN | apply Kd.S_drew)); exact HO_23.out) (Kd.R_base ho0) hb); have n2_ := Aside0.mk (Kd.R_elder' (by (with_reducible repeat (first | apply Kd.R_alloc | apply Kd.R_drewN | apply Kd.R_drew)); exact HO_25.out) (Kd.R_base ho0) hb); have n3_ := Aside0.mk (Kd.R_elder' (by (with_reducible repeat (first | apply Kd.R_alloc | apply Kd.R_drewN | apply Kd.R_drew)); exact HO_29.out) (Kd.R_base ho0) hb); have n4_ := Aside0.mk (Kd.R_elder' (by (with_reducible repeat (first | apply Kd.R_alloc | apply Kd.R_drewN | apply Kd.R_drew)); exact HO_162.out) (Kd.R_base ho0) hb); have n5_ := Aside0.mk (Kd.R_lower (Kd.R_new' (Kd.R_new' (Kd.R_new' ho0 (Kd.R_lt (by (with_reducible repeat (first | apply Kd.R_alloc | apply Kd.R_drewN | apply Kd.R_drew)); exact HO_25.out))) (Kd.R_lt (by (with_reducible repeat (first | apply Kd.R_alloc | apply Kd.R_drewN | apply Kd.R_drew)); exact HO_29.out))) (Kd.R_lt (by (with_reducible repeat (first | apply Kd.R_alloc | apply Kd.R_drewN | apply Kd.R_drew)); exact HO_162.out))) (below_size (by repeat (first | (with_reducible first | exact HB.out | apply below_alloc | apply pw_below_drewN | apply below_drew1) | exact HB.out)))); have n6_ := Aside0.mk (below_step (by repeat (first | (with_reducible first | exact HB.out | apply below_alloc | apply pw_below_drewN | apply below_drew1) | exact HB.out)) hb); clear HO_5; clear HO_23; clear HO_25; clear HO_29; clear HO_162; clear HB; have HO_5 := n0_; have HO_23 := n1_; have HO_25 := n2_; have HO_29 := n3_; have HO_162 := n4_; have HO584 := n5_; have HB := n6_; clear n0_ n1_ n2_ n3_ n4_ n5_ n6_; (try clear hb); (try clear hb2); (try clear hk); (try clear hi); (try clear ho0); obtain ⟨Ao66, co66, eo66⟩ := Kd.R_slice HO_25.out; subst eo66))
                     repeat (go_quiet (first | (go_at_call 24; (with_reducible refine (impl_ApplyTable.calls k4 _ _ t562 _ _ x29_4 t581 true _ ?side1 ?side2 ?side3 ?side4 A62.out).mono ?_); (case side1 => repeat (first | exact (Kd.S_reads' HO_23.out).2.2 | (with_reducible refine Kd.C_alloc ?_ _) | (with_reducible refine Kd.C_drewN ?_ _) | (with_reducible refine Kd.C_drew ?_))); (case side2 => exact (Kd.S_reads' HO_23.out).2.1); (case side3 => repeat (first | exact (Kd.R_reads' HO_29.out).2.2 | (with_reducible refine Kd.C_alloc ?_ _) | (with_reducible refine Kd.C_drewN ?_ _) | (with_reducible refine Kd.C_drew ?_))); (case side4 => exact (Kd.R_reads' HO_29.out).2.1); rintro e w65 ⟨v583, rfl, ho0, hb⟩; have n0_ := Aside0.mk (Kd.S_elder' (by (with_reducible repeat (first | apply Kd.S_alloc | apply Kd.S_drewN | apply Kd.S_drew)); exact HO_5.out) (Kd.R_base ho0) hb); have n1_ := Aside0.mk (Kd.S_elder' (by (with_reducible repeat (first | apply Kd.S_alloc | apply Kd.S_drewN | apply Kd.S_drew)); exact HO_23.out) (Kd.R_base ho0) hb); have n2_ := Aside0.mk (Kd.R_elder' (by (with_reducible repeat (first | apply Kd.R_alloc | apply Kd.R_drewN | apply Kd.R_drew)); exact HO_25.out) (Kd.R_base ho0) hb); have n3_ := Aside0.mk (Kd.R_elder' (by (with_reducible repeat (first | apply Kd.R_alloc | apply Kd.R_drewN | apply Kd.R_drew)); exact HO_29.out) (Kd.R_base ho0) hb); have n4_ := Aside0.mk (Kd.R_elder' (by (with_reducible repeat (first | apply Kd.R_alloc | apply Kd.R_drewN | apply Kd.R_drew)); exact HO_162.out) (Kd.R_base ho0) hb); have n5_ := Aside0.mk (Kd.R_lower (Kd.R_new' (Kd.R_new' (Kd.R_new' ho0 (Kd.R_lt (by (with_reducible repeat (first | apply Kd.R_alloc | apply Kd.R_drewN | apply Kd.R_drew)); exact HO_25.out))) (Kd.R_lt (by (with_reducible repeat (first | apply Kd.R_alloc | apply Kd.R_drewN | apply Kd.R_drew)); exact HO_29.out))) (Kd.R_lt (by (with_reducible repeat (first | apply Kd.R_alloc | apply Kd.R_drewN | apply Kd.R_drew)); exact HO_162.out))) (below_size (by repeat (first | (with_reducible first | exact HB.out | apply below_alloc | apply pw_below_drewN | apply below_drew1) | exact HB.out)))); have n6_ := Aside0.mk (below_step (by repeat (first | (with_reducible first | exact HB.out | apply below_alloc | apply pw_below_drewN | apply below_drew1) | exact HB.out)) hb); clear HO_5; clear HO_23; clear HO_25; clear HO_29; clear HO_162; clear HB; have HO_5 := n0_; have HO_23 := n1_; have HO_25 := n2_; have HO_29 := n3_; have HO_162 := n4_; have HO584 := n5_; have HB := n6_; clear n0_ n1_ n2_ n3_ n4_ n5_ n6_; (try clear hb); (try clear hb2); (try clear hk); (try clear hi); (try clear ho0); obtain ⟨Ao66, co66, eo66⟩ := Kd.R_slice HO_25.out; subst eo66)); try go_wp2_with (first | (go_at_call 24; (with_reducible refine (impl_ApplyTable.calls k4 _ _ t562 _ _ x29_4 t581 true _ ?side1 ?side2 ?side3 ?side4 A62.out).mono ?_); (case side1 => repeat (first | exact (Kd.S_reads' HO_23.out).2.2 | (with_reducible refine Kd.C_alloc ?_ _) | (with_reducible refine Kd.C_drewN ?_ _) | (with_reducible refine Kd.C_drew ?_))); (case side2 => exact (Kd.S_reads' HO_23.out).2.1); (case side3 => repeat (first | exact (Kd.R_reads' HO_29.out).2.2 | (with_reducible refine Kd.C_alloc ?_ _) | (with_reducible refine Kd.C_drewN ?_ _) | (with_reducible refine Kd.C_drew ?_))); (case side4 => exact (Kd.R_reads' HO_29.out).2.1); rintro e w65 ⟨v583, rfl, ho0, hb⟩; have n0_ := Aside0.mk (Kd.S_elder' (by (with_reducible repeat (first | apply Kd.S_alloc | apply Kd.S_drewN | apply Kd.S_drew)); exact HO_5.out) (Kd.R_base ho0) hb); have n1_ := Aside0.mk (Kd.S_elder' (by (with_reducible repeat (first | apply Kd.S_alloc | apply Kd.S_drewN | apply Kd.S_drew)); exact HO_23.out) (Kd.R_base ho0) hb); have n2_ := Aside0.mk (Kd.R_elder' (by (with_reducible repeat (first | apply Kd.R_alloc | apply Kd.R_drewN | apply Kd.R_drew)); exact HO_25.out) (Kd.R_base ho0) hb); have n3_ := Aside0.mk (Kd.R_elder' (by (with_reducible repeat (first | apply Kd.R_alloc | apply Kd.R_drewN | apply Kd.R_drew)); exact HO_29.out) (Kd.R_base ho0) hb); have n4_ := Aside0.mk (Kd.R_elder' (by (with_reducible repeat (first | apply Kd.R_alloc | apply Kd.R_drewN | apply Kd.R_drew)); exact HO_162.out) (Kd.R_base ho0) hb); have n5_ := Aside0.mk (Kd.R_lower (Kd.R_new' (Kd.R_new' (Kd.R_new' ho0 (Kd.R_lt (by (with_reducible repeat (first | apply Kd.R_alloc | apply Kd.R_drewN | apply Kd.R_drew)); exact HO_25.out))) (Kd.R_lt (by (with_reducible repeat (first | apply Kd.R_alloc | apply Kd.R_drewN | apply Kd.R_drew)); exact HO_29.out))) (Kd.R_lt (by (with_reducible repeat (first | apply Kd.R_alloc | apply Kd.R_drewN | apply Kd.R_drew)); exact HO_162.out))) (below_size (by repeat (first | (with_reducible first | exact HB.out | apply below_alloc | apply pw_below_drewN | apply below_drew1) | exact HB.out)))); have n6_ := Aside0.mk (below_step (by repeat (first | (with_reducible first | exact HB.out | apply below_alloc | apply pw_below_drewN | apply below_drew1) | exact HB.out)) hb); clear HO_5; clear HO_23; clear HO_25; clear HO_29; clear HO_162; clear HB; have HO_5 := n0_; have HO_23 := n1_; have HO_25 := n2_; have HO_29 := n3_; have HO_162 := n4_; have HO584 := n5_; have HB := n6_; clear n0_ n1_ n2_ n3_ n4_ n5_ n6_; (try clear hb); (try clear hb2); (try clear hk); (try clear hi); (try clear ho0); obtain ⟨Ao66, co66, eo66⟩ := Kd.R_slice HO_25.out; subst eo66)))
                     go_loopg [184] k4 (fun kq v184 w' => ∃ (x184_5 : Int), v184 = .int .i64 x184_5 ∧ Aside0 (laws_FnRowsOfTables.l1 kq t537 t540 t541 t544 t545 t548 t549 t568 t581 (t568.length : Int) x184_5 = some true) ∧ Aside0 (kq ≤ k4) ∧ Aside0 (Kd.S (Kd.slice 3 (Kd.int .i64)) 35 w' w.heap.size (fun k_ => some k_ ≠ ((.slice Ao66 t568.length co66) : Value).ownBlock ∧ some k_ ≠ (v583 : Value).ownBlock) (.slice Ao14 t537.length co14) t537) ∧ Aside0 (Kd.R (Kd.int .i64) 3 w' w.heap.size (fun k_ => some k_ ≠ (v583 : Value).ownBlock) (.slice Ao66 t568.length co66) t568) ∧ Aside0 (Kd.R (Kd.int .i64) 3 w' w.heap.size (fun k_ => some k_ ≠ ((.slice Ao66 t568.length co66) : Value).ownBlock) v583 t581) ∧ Aside0 (Below w.heap.size w w'))
                     case atStart => exact ⟨(0), (by first | rfl | (simp; done) | (simp [*]; done)), H', ⟨Nat.le_refl _⟩, ⟨by (with_reducible repeat (first | apply Kd.S_alloc | apply Kd.S_drewN | apply Kd.S_drew)); exact Kd.S_mono HO_5.out (fun _ hk => ⟨hk.1.2.1, hk.2⟩)⟩, ⟨by (with_reducible repeat (first | apply Kd.R_alloc | apply Kd.R_drewN | apply Kd.R_drew)); exact Kd.R_mono HO_25.out (fun _ hk => hk.2)⟩, ⟨by (with_reducible repeat (first | apply Kd.R_alloc | apply Kd.R_drewN | apply Kd.R_drew)); exact Kd.R_mono HO584.out (fun _ hk => hk.1.1.2)⟩, ⟨by repeat (first | (with_reducible first | exact HB.out | apply below_alloc | apply pw_below_drewN | apply below_drew1) | exact HB.out)⟩⟩
                     case round =>
                      clear H'
                      try clear c1
                      try clear c2
                      try clear p2
                      try clear c3
                      try clear c4
                      try clear c5
                      try clear p5
                      try clear q5
                      try clear hx5
                      try clear c6
                      try clear p6
                      try clear c21
                      try clear c21b0
                      try clear c21b1
                      try clear c21b2
                      try clear c22
                      try clear c22b0
                      try clear c22b1
                      try clear c23
                      try clear c23b0
                      try clear c23b1
                      try clear c23b2
                      try clear c24
                      try clear c24b0
                      try clear c24b1
                      try clear c25
                      try clear c25b0
                      try clear c25b1
                      try clear c25b2
                      try clear c26
                      try clear c26b0
                      try clear c26b1
                      try clear c27
                      try clear c28
                      try clear c36
                      try clear c36b0
                      try clear c36b1
                      try clear c36b2
                      try clear c40
                      try clear c50
                      try clear c50b0
                      try clear c50b1
                      try clear c50b2
                      try clear c54
                      try clear c56
                      try clear c57
                      try clear c57b0
                      try clear p57
                      try clear q57
                      try clear hx57
                      try clear c58
                      try clear c58b0
                      try clear c59
                      try clear c59b0
                      try clear c60
                      try clear c63
                      try clear p64
                      try clear hx577_0
                      try clear p2
                      try clear p577
                      try clear q577
                      obtain ⟨x184_5, rfl, HA, HK5, HO_5, HO_25, HO_32, HB⟩ := hrel
                      as_aux_lemma =>
                       cases gk with
                       | zero => exact absurd HA.out (by simp [laws_FnRowsOfTables.l1])
                       | succ k5 =>
                        have H := HA.out
                        clear HA
                        simp only [laws_FnRowsOfTables.l1] at H
                        by_cases c67 : x184_5 < (t568.length : Int)
                        ·rw [if_pos c67] at H
                         have c67b0 : decide (x184_5 < (t568.length : Int)) = true := decide_eq_true c67
                         clear c67
                         by_cases c68 : 0 ≤ x184_5
                         ·rw [if_pos c68] at H
                          have c68b0 : decide (0 ≤ x184_5) = true := decide_eq_true c68
                          clear c68
                          by_cases c69 : x184_5 < (t568.length : Int)
                          ·rw [if_pos c69] at H
                           have c69b0 : decide (x184_5 < (t568.length : Int)) = true := decide_eq_true c69
                           clear c69
                           by_cases c70 : x184_5 < (t581.length : Int)
                           ·rw [if_pos c70] at H
                            have c70b0 : decide (x184_5 < (t581.length : Int)) = true := decide_eq_true c70
                            clear c70
                            by_cases c71 : (rd t568 x184_5) = (wrap64 (-(rd t581 x184_5)))
                            ·rw [if_pos c71] at H
                             have c71b0 : ((rd t568 x184_5) == (wrap64 (-(rd t581 x184_5)))) = true := beq_iff_eq.mpr c71
                             have c71b1 : ((rd t568 x184_5) != (wrap64 (-(rd t581 x184_5)))) = false := bne_eq_false_iff_eq.mpr c71
                             clear c71
                             have H' := Aside0.mk H
                             clear H
                             have p585 : 0 ≤ (x184_5 : Int) := of_decide_eq_true (by first | (with_reducible assumption) | assumption)
                             have q585 : x184_5 < (t568.length : Int) := of_decide_eq_true (by first | (with_reducible assumption) | assumption)
                             obtain ⟨ad585, e585, hx585_0⟩ := Kd.at_int (Kd.R_reads' HO_25.out).2.2 x184_5 p585 q585
                             cases e585
                             replace p585 := eq_true p585
                             replace q585 := eq_true q585
                             obtain ⟨Ao72, co72, eo72⟩ := Kd.R_slice HO_32.out
                             subst eo72
                             have p586 : 0 ≤ (x184_5 : Int) := of_decide_eq_true (by first | (with_reducible assumption) | assumption)
                             have q586 : x184_5 < (t581.length : Int) := of_decide_eq_true (by first | (with_reducible assumption) | assumption)
                             obtain ⟨ad586, e586, hx586_0⟩ := Kd.at_int (Kd.R_reads' HO_32.out).2.2 x184_5 p586 q586
                             cases e586
                             replace p586 := eq_true p586
                             replace q586 := eq_true q586
                             go_wp2
                             repeat (go_quiet (fail); try go_wp2)
                             go_roundg k5
                             case measure => have := HJ11.out; have := HJ31.out; have := HJ43.out; have := HK4.out; have := HK5.out; omega
                             case rel => exact ⟨(wrap64 (x184_5 + 1)), (by first | rfl | (simp; done) | (simp [*]; done)), H', ⟨by have := HJ11.out; have := HJ31.out; have := HJ43.out; have := HK4.out; have := HK5.out; omega⟩, ⟨by (with_reducible repeat (first | apply Kd.S_alloc | apply Kd.S_drewN | apply Kd.S_drew)); exact HO_5.out⟩, ⟨by (with_reducible repeat (first | apply Kd.R_alloc | apply Kd.R_drewN | apply Kd.R_drew)); exact HO_25.out⟩, ⟨by (with_reducible repeat (first | apply Kd.R_alloc | apply Kd.R_drewN | apply Kd.R_drew)); exact HO_32.out⟩, ⟨by repeat (first | (with_reducible first | exact HB.out | apply below_alloc | apply pw_below_drewN | apply below_drew1) | exact HB.out)⟩⟩
                            ·rw [if_neg c71] at H
                             have c71b0 : ((rd t568 x184_5) == (wrap64 (-(rd t581 x184_5)))) = false := beq_eq_false_iff_ne.mpr c71
                             have c71b1 : ((rd t568 x184_5) != (wrap64 (-(rd t581 x184_5)))) = true := bne_iff_ne.mpr c71
                             exact absurd H (by simp)
                           ·rw [if_neg c70] at H
                            exact absurd H (by simp)
                          ·rw [if_neg c69] at H
                           exact absurd H (by simp)
                         ·rw [if_neg c68] at H
                          exact absurd H (by simp)
                        ·rw [if_neg c67] at H
                         have c67b0 : decide (x184_5 < (t568.length : Int)) = false := decide_eq_false c67
                         clear c67
                         have H' := Aside0.mk H
                         clear H
                         go_wp2
                         repeat (go_quiet (fail); try go_wp2)
                         go_meet
                         case rel => exact ⟨_, H', ⟨by have := HJ11.out; have := HJ31.out; have := HJ43.out; have := HK4.out; have := HK5.out; first | omega | exact Nat.le_refl _⟩, ⟨by (with_reducible repeat (first | apply Kd.S_alloc | apply Kd.S_drewN | apply Kd.S_drew)); exact Kd.S_mono HO_5.out (fun _ hk => trivial)⟩, ⟨by repeat (first | (with_reducible first | exact HB.out | apply below_alloc | apply pw_below_drewN | apply below_drew1) | exact HB.out)⟩⟩
                    ·replace c63 := Bool.eq_false_iff.mpr c63
                     subst c63
                     have H1 : (some false) = some true := by rw [if_neg (show ¬ (false = true) by decide)] at H; first | done | exact H
                     clear H
                     have H := H1
                     clear H1
                     exact absurd H (by simp)
               ·replace c56 := Bool.eq_false_iff.mpr c56
                subst c56
                have H1 : (laws_FnRowsOfTables.j5 kj43 t537 t540 t541 t544 t545 t548 t549) = some true := by rw [if_neg (show ¬ (false = true) by decide)] at H; first | done | exact H
                clear H
                have H := H1
                clear H1
                have H' := Aside0.mk H
                clear H
                go_wp2
                repeat (go_quiet (fail); try go_wp2)
                go_meet
                case rel => exact ⟨_, H', ⟨by have := HJ11.out; have := HJ31.out; have := HJ43.out; first | omega | exact Nat.le_refl _⟩, ⟨by (with_reducible repeat (first | apply Kd.S_alloc | apply Kd.S_drewN | apply Kd.S_drew)); exact Kd.S_mono HO_5.out (fun _ hk => trivial)⟩, ⟨by repeat (first | (with_reducible first | exact HB.out | apply below_alloc | apply pw_below_drewN | apply below_drew1) | exact HB.out)⟩⟩
              case rest =>
               clear HC55
               try clear c1
               try clear c2
               try clear p2
               try clear c3
               try clear c4
               try clear c5
               try clear p5
               try clear q5
               try clear hx5
               try clear c6
               try clear p6
               try clear c7
               try clear c21
               try clear c21b0
               try clear c21b1
               try clear c21b2
               try clear c22
               try clear c22b0
               try clear c22b1
               try clear c23
               try clear c23b0
               try clear c23b1
               try clear c23b2
               try clear c24
               try clear c24b0
               try clear c24b1
               try clear c25
               try clear c25b0
               try clear c25b1
               try clear c25b2
               try clear c26
               try clear c26b0
               try clear c26b1
               try clear c27
               try clear c28
               try clear c36
               try clear c36b0
               try clear c36b1
               try clear c36b2
               try clear c40
               try clear c50
               try clear c50b0
               try clear c50b1
               try clear c50b2
               try clear c54
               try clear c56
               try clear c57
               try clear c57b0
               try clear p57
               try clear q57
               try clear hx57
               try clear c58
               try clear c58b0
               try clear p58
               try clear q58
               try clear hx58
               try clear c59
               try clear c59b0
               try clear c60
               try clear c63
               try clear p64
               try clear c67
               try clear c67b0
               try clear c68
               try clear c68b0
               try clear c69
               try clear c69b0
               try clear c70
               try clear c70b0
               try clear c71
               try clear c71b0
               try clear c71b1
               try clear hx577_0
               try clear hx585_0
               try clear hx586_0
               try clear p2
               try clear p5
               try clear p57
               try clear p577
               try clear p585
               try clear p586
               try clear p6
               try clear p64
               try clear q5
               try clear q57
               try clear q577
               try clear q585
               try clear q586
               obtain ⟨kq, HA, HJ54, HO_5, HB⟩ := hcut
               as_aux_lemma =>
                cases kq with
                | zero => exact absurd HA.out (by simp [laws_FnRowsOfTables.j5])
                | succ kj54 =>
                 have H := HA.out
                 clear HA
                 simp only [laws_FnRowsOfTables.j5] at H
                 by_cases c73 : t545 = true
                 ·subst c73
                  have H1 : (if (t549 == (t544 == (t537.length : Int))) = true then (laws_FnRowsOfTables.j6 kj54 t537 t540 t541 t544 true) else (if t549 = true then (if t544 < t548 then (laws_FnRowsOfTables.j6 kj54 t537 t540 t541 t544 true) else (if t541 = true then (if t540 = 0 then (laws_FnRowsOfTables.j6 kj54 t537 t540 t541 t544 false) else (laws_FnRowsOfTables.j6 kj54 t537 t540 t541 t544 true)) else (laws_FnRowsOfTables.j6 kj54 t537 t540 t541 t544 false))) else (if t541 = true then (laws_FnRowsOfTables.j6 kj54 t537 t540 t541 t544 (t540 == 0)) else (laws_FnRowsOfTables.j6 kj54 t537 t540 t541 t544 false)))) = some true := by rw [if_pos rfl] at H; first | done | exact H
                  clear H
                  have H := H1
                  clear H1
                  have HC74 := Aside0.mk H
                  clear H
                  go_upto_region 40 with (fail)
                  repeat (go_quiet (fail); go_upto_region 40 with (fail))
                  go_cut [231] (fun v231 wc => ∃ (kq : Nat) (x231_73 : Bool), v231 = .bool x231_73 ∧ Aside0 (laws_FnRowsOfTables.j6 kq t537 t540 t541 t544 x231_73 = some true) ∧ Aside0 (kq ≤ kj54) ∧ Aside0 (Kd.S (Kd.slice 3 (Kd.int .i64)) 35 wc w.heap.size (fun _ => True) (.slice Ao14 t537.length co14) t537) ∧ Aside0 (Below w.heap.size w wc))
                  case first =>
                   have H := HC74.out
                   clear HC74
                   by_cases c75 : (t549 == (t544 == (t537.length : Int))) = true
                   ·rw [if_pos c75] at H
                    have c75b0 : (t549 == (t544 == (t537.length : Int))) = true := c75
                    (try (have c75b1 : decide (t549 = (t544 == (t537.length : Int))) = true := by simpa using c75))
                    (try (have c75b2 : (t549 == (t544 == (t537.length : Int))) = true := by simpa using c75))
                    clear c75
                    (first | rw [c75b0] | (simp only [i64_w, i32_w]; rw [c75b0]) | skip)
                    have H' := Aside0.mk H
                    clear H
                    go_wp2
                    repeat (go_quiet (fail); try go_wp2)
                    go_meet
                    case rel => exact ⟨_, (true), (by first | rfl | (simp; done) | (simp [*]; done)), H', ⟨by have := HJ11.out; have := HJ31.out; have := HJ43.out; have := HJ54.out; first | omega | exact Nat.le_refl _⟩, ⟨by (with_reducible repeat (first | apply Kd.S_alloc | apply Kd.S_drewN | apply Kd.S_drew)); exact HO_5.out⟩, ⟨by repeat (first | (with_reducible first | exact HB.out | apply below_alloc | apply pw_below_drewN | apply below_drew1) | exact HB.out)⟩⟩
                   ·rw [if_neg c75] at H
                    have c75b0 : (t549 == (t544 == (t537.length : Int))) = false := by simpa using c75
                    (try (have c75b1 : decide (t549 = (t544 == (t537.length : Int))) = false := by simpa using c75))
                    (try (have c75b2 : (t549 == (t544 == (t537.length : Int))) = false := by simpa using c75))
                    (try (have c75b3 : ¬ (t549 = (t544 == (t537.length : Int))) := by simpa using c75))
                    clear c75
                    (first | rw [c75b0] | (simp only [i64_w, i32_w]; rw [c75b0]) | skip)
                    by_cases c76 : t549 = true
                    ·subst c76
                     have H1 : (if t544 < t548 then (laws_FnRowsOfTables.j6 kj54 t537 t540 t541 t544 true) else (if t541 = true then (if t540 = 0 then (laws_FnRowsOfTables.j6 kj54 t537 t540 t541 t544 false) else (laws_FnRowsOfTables.j6 kj54 t537 t540 t541 t544 true)) else (laws_FnRowsOfTables.j6 kj54 t537 t540 t541 t544 false))) = some true := by rw [if_pos rfl] at H; first | done | exact H
                     clear H
                     have H := H1
                     clear H1
                     by_cases c77 : t544 < t548
                     ·rw [if_pos c77] at H
                      have c77b0 : decide (t544 < t548) = true := decide_eq_true c77
                      clear c77
                      have H' := Aside0.mk H
                      clear H
                      go_wp2
                      repeat (go_quiet (fail); try go_wp2)
                      go_meet
                      case rel => exact ⟨_, (true), (by first | rfl | (simp; done) | (simp [*]; done)), H', ⟨by have := HJ11.out; have := HJ31.out; have := HJ43.out; have := HJ54.out; first | omega | exact Nat.le_refl _⟩, ⟨by (with_reducible repeat (first | apply Kd.S_alloc | apply Kd.S_drewN | apply Kd.S_drew)); exact HO_5.out⟩, ⟨by repeat (first | (with_reducible first | exact HB.out | apply below_alloc | apply pw_below_drewN | apply below_drew1) | exact HB.out)⟩⟩
                     ·rw [if_neg c77] at H
                      have c77b0 : decide (t544 < t548) = false := decide_eq_false c77
                      clear c77
                      by_cases c78 : t541 = true
                      ·subst c78
                       have H1 : (if t540 = 0 then (laws_FnRowsOfTables.j6 kj54 t537 t540 true t544 false) else (laws_FnRowsOfTables.j6 kj54 t537 t540 true t544 true)) = some true := by rw [if_pos rfl] at H; first | done | exact H
                       clear H
                       have H := H1
                       clear H1
                       by_cases c79 : t540 = 0
                       ·rw [if_pos c79] at H
                        have c79b0 : (t540 == 0) = true := beq_iff_eq.mpr c79
                        have c79b1 : (t540 != 0) = false := bne_eq_false_iff_eq.mpr c79
                        clear c79
                        have H' := Aside0.mk H
                        clear H
                        go_wp2
                        repeat (go_quiet (fail); try go_wp2)
                        go_meet
                        case rel => exact ⟨_, (false), (by first | rfl | (simp; done) | (simp [*]; done)), H', ⟨by have := HJ11.out; have := HJ31.out; have := HJ43.out; have := HJ54.out; first | omega | exact Nat.le_refl _⟩, ⟨by (with_reducible repeat (first | apply Kd.S_alloc | apply Kd.S_drewN | apply Kd.S_drew)); exact HO_5.out⟩, ⟨by repeat (first | (with_reducible first | exact HB.out | apply below_alloc | apply pw_below_drewN | apply below_drew1) | exact HB.out)⟩⟩
                       ·rw [if_neg c79] at H
                        have c79b0 : (t540 == 0) = false := beq_eq_false_iff_ne.mpr c79
                        have c79b1 : (t540 != 0) = true := bne_iff_ne.mpr c79
                        have H' := Aside0.mk H
                        clear H
                        go_wp2
                        repeat (go_quiet (fail); try go_wp2)
                        go_meet
                        case rel => exact ⟨_, (true), (by first | rfl | (simp; done) | (simp [*]; done)), H', ⟨by have := HJ11.out; have := HJ31.out; have := HJ43.out; have := HJ54.out; first | omega | exact Nat.le_refl _⟩, ⟨by (with_reducible repeat (first | apply Kd.S_alloc | apply Kd.S_drewN | apply Kd.S_drew)); exact HO_5.out⟩, ⟨by repeat (first | (with_reducible first | exact HB.out | apply below_alloc | apply pw_below_drewN | apply below_drew1) | exact HB.out)⟩⟩
                      ·replace c78 := Bool.eq_false_iff.mpr c78
                       subst c78
                       have H1 : (laws_FnRowsOfTables.j6 kj54 t537 t540 false t544 false) = some true := by rw [if_neg (show ¬ (false = true) by decide)] at H; first | done | exact H
                       clear H
                       have H := H1
                       clear H1
                       have H' := Aside0.mk H
                       clear H
                       go_wp2
                       repeat (go_quiet (fail); try go_wp2)
                       go_meet
                       case rel => exact ⟨_, (false), (by first | rfl | (simp; done) | (simp [*]; done)), H', ⟨by have := HJ11.out; have := HJ31.out; have := HJ43.out; have := HJ54.out; first | omega | exact Nat.le_refl _⟩, ⟨by (with_reducible repeat (first | apply Kd.S_alloc | apply Kd.S_drewN | apply Kd.S_drew)); exact HO_5.out⟩, ⟨by repeat (first | (with_reducible first | exact HB.out | apply below_alloc | apply pw_below_drewN | apply below_drew1) | exact HB.out)⟩⟩
                    ·replace c76 := Bool.eq_false_iff.mpr c76
                     subst c76
                     have H1 : (if t541 = true then (laws_FnRowsOfTables.j6 kj54 t537 t540 t541 t544 (t540 == 0)) else (laws_FnRowsOfTables.j6 kj54 t537 t540 t541 t544 false)) = some true := by rw [if_neg (show ¬ (false = true) by decide)] at H; first | done | exact H
                     clear H
                     have H := H1
                     clear H1
                     by_cases c80 : t541 = true
                     ·subst c80
                      have H1 : (laws_FnRowsOfTables.j6 kj54 t537 t540 true t544 (t540 == 0)) = some true := by rw [if_pos rfl] at H; first | done | exact H
                      clear H
                      have H := H1
                      clear H1
                      have H' := Aside0.mk H
                      clear H
                      go_wp2
                      repeat (go_quiet (fail); try go_wp2)
                      go_meet
                      case rel => exact ⟨_, ((t540 == 0)), (by first | rfl | (simp; done) | (simp [*]; done)), H', ⟨by have := HJ11.out; have := HJ31.out; have := HJ43.out; have := HJ54.out; first | omega | exact Nat.le_refl _⟩, ⟨by (with_reducible repeat (first | apply Kd.S_alloc | apply Kd.S_drewN | apply Kd.S_drew)); exact HO_5.out⟩, ⟨by repeat (first | (with_reducible first | exact HB.out | apply below_alloc | apply pw_below_drewN | apply below_drew1) | exact HB.out)⟩⟩
                     ·replace c80 := Bool.eq_false_iff.mpr c80
                      subst c80
                      have H1 : (laws_FnRowsOfTables.j6 kj54 t537 t540 false t544 false) = some true := by rw [if_neg (show ¬ (false = true) by decide)] at H; first | done | exact H
                      clear H
                      have H := H1
                      clear H1
                      have H' := Aside0.mk H
                      clear H
                      go_wp2
                      repeat (go_quiet (fail); try go_wp2)
                      go_meet
                      case rel => exact ⟨_, (false), (by first | rfl | (simp; done) | (simp [*]; done)), H', ⟨by have := HJ11.out; have := HJ31.out; have := HJ43.out; have := HJ54.out; first | omega | exact Nat.le_refl _⟩, ⟨by (with_reducible repeat (first | apply Kd.S_alloc | apply Kd.S_drewN | apply Kd.S_drew)); exact HO_5.out⟩, ⟨by repeat (first | (with_reducible first | exact HB.out | apply below_alloc | apply pw_below_drewN | apply below_drew1) | exact HB.out)⟩⟩
                  case rest =>
                   clear HC74
                   try clear c1
                   try clear c2
                   try clear p2
                   try clear c3
                   try clear c4
                   try clear c5
                   try clear p5
                   try clear q5
                   try clear hx5
                   try clear c6
                   try clear p6
                   try clear c7
                   try clear c8
                   try clear c21
                   try clear c21b0
                   try clear c21b1
                   try clear c21b2
                   try clear c22
                   try clear c22b0
                   try clear c22b1
                   try clear c23
                   try clear c23b0
                   try clear c23b1
                   try clear c23b2
                   try clear c24
                   try clear c24b0
                   try clear c24b1
                   try clear c25
                   try clear c25b0
                   try clear c25b1
                   try clear c25b2
                   try clear c26
                   try clear c26b0
                   try clear c26b1
                   try clear c27
                   try clear c28
                   try clear c36
                   try clear c36b0
                   try clear c36b1
                   try clear c36b2
                   try clear c40
                   try clear c50
                   try clear c50b0
                   try clear c50b1
                   try clear c50b2
                   try clear c54
                   try clear c56
                   try clear c57
                   try clear c57b0
                   try clear p57
                   try clear q57
                   try clear hx57
                   try clear c58
                   try clear c58b0
                   try clear p58
                   try clear q58
                   try clear hx58
                   try clear c59
                   try clear c59b0
                   try clear c60
                   try clear c63
                   try clear p64
                   try clear c67
                   try clear c67b0
                   try clear c68
                   try clear c68b0
                   try clear c69
                   try clear c69b0
                   try clear c70
                   try clear c70b0
                   try clear c71
                   try clear c71b0
                   try clear c71b1
                   try clear c73
                   try clear c75
                   try clear c75b0
                   try clear c75b1
                   try clear c75b2
                   try clear c76
                   try clear c77
                   try clear c77b0
                   try clear c78
                   try clear c79
                   try clear c79b0
                   try clear c79b1
                   try clear c80
                   try clear hx577_0
                   try clear hx585_0
                   try clear hx586_0
                   try clear p2
                   try clear p5
                   try clear p57
                   try clear p577
                   try clear p58
                   try clear p585
                   try clear p586
                   try clear p6
                   try clear p64
                   try clear q5
                   try clear q57
                   try clear q577
                   try clear q58
                   try clear q585
                   try clear q586
                   obtain ⟨kq, x231_73, rfl, HA, HJ73, HO_5, HB⟩ := hcut
                   as_aux_lemma =>
                    cases kq with
                    | zero => exact absurd HA.out (by simp [laws_FnRowsOfTables.j6])
                    | succ kj73 =>
                     have H := HA.out
                     clear HA
                     simp only [laws_FnRowsOfTables.j6] at H
                     by_cases c81 : x231_73 = true
                     ·subst c81
                      have H1 : (some false) = some true := by rw [if_pos rfl] at H; first | done | exact H
                      clear H
                      have H := H1
                      clear H1
                      exact absurd H (by simp)
                     ·replace c81 := Bool.eq_false_iff.mpr c81
                      subst c81
                      have H1 : (laws_FnRowsOfTables.l2 kj73 t537 t540 t541 t544 ([] : List (List Int)) (t537.length : Int) 0) = some true := by rw [if_neg (show ¬ (false = true) by decide)] at H; first | done | exact H
                      clear H
                      have H := H1
                      clear H1
                      have H' := Aside0.mk H
                      clear H
                      go_wp2
                      repeat (go_quiet (fail); try go_wp2)
                      go_loopg [35, 234] kj73 (fun kq v35 v234 w' => ∃ (x35_6 : List (List Int)) (x234_6 : Int), v234 = .int .i64 x234_6 ∧ Aside0 (laws_FnRowsOfTables.l2 kq t537 t540 t541 t544 x35_6 (t537.length : Int) x234_6 = some true) ∧ Aside0 (kq ≤ kj73) ∧ Aside0 (Kd.S (Kd.slice 3 (Kd.int .i64)) 35 w' w.heap.size (fun k_ => some k_ ≠ (v35 : Value).ownBlock) (.slice Ao14 t537.length co14) t537) ∧ Aside0 (Kd.S (Kd.slice 3 (Kd.int .i64)) 35 w' w.heap.size (fun k_ => some k_ ≠ ((.slice Ao14 t537.length co14) : Value).ownBlock) v35 x35_6) ∧ Aside0 (Below w.heap.size w w'))
                      case atStart => exact ⟨(([] : List (List Int))), (0), (by first | rfl | (simp; done) | (simp [*]; done)), H', ⟨Nat.le_refl _⟩, ⟨by (with_reducible repeat (first | apply Kd.S_alloc | apply Kd.S_drewN | apply Kd.S_drew)); exact Kd.S_mono HO_5.out (fun _ hk => (by simp [Value.ownBlock]))⟩, ⟨by first | exact Kd.S_nil _ _ _ _ _ | exact Kd.N_nil _ _ _ _ _ | exact Kd.V_nil _ _ _ _ _ | exact Kd.Q_nil _ _ _ _ _ | exact Kd.R_nil _ _ _ _ _⟩, ⟨by repeat (first | (with_reducible first | exact HB.out | apply below_alloc | apply pw_below_drewN | apply below_drew1) | exact HB.out)⟩⟩
                      case round =>
                       clear H'
                       try clear c1
                       try clear c2
                       try clear p2
                       try clear c3
                       try clear c4
                       try clear c5
                       try clear p5
                       try clear q5
                       try clear hx5
                       try clear c6
                       try clear p6
                       try clear c7
                       try clear c8
                       try clear c21
                       try clear c21b0
                       try clear c21b1
                       try clear c21b2
                       try clear c22
                       try clear c22b0
                       try clear c22b1
                       try clear c23
                       try clear c23b0
                       try clear c23b1
                       try clear c23b2
                       try clear c24
                       try clear c24b0
                       try clear c24b1
                       try clear c25
                       try clear c25b0
                       try clear c25b1
                       try clear c25b2
                       try clear c26
                       try clear c26b0
                       try clear c26b1
                       try clear c27
                       try clear c28
                       try clear c36
                       try clear c36b0
                       try clear c36b1
                       try clear c36b2
                       try clear c40
                       try clear c50
                       try clear c50b0
                       try clear c50b1
                       try clear c50b2
                       try clear c54
                       try clear c56
                       try clear c57
                       try clear c57b0
                       try clear p57
                       try clear q57
                       try clear hx57
                       try clear c58
                       try clear c58b0
                       try clear p58
                       try clear q58
                       try clear hx58
                       try clear c59
                       try clear c59b0
                       try clear c60
                       try clear c63
                       try clear p64
                       try clear c67
                       try clear c67b0
                       try clear c68
                       try clear c68b0
                       try clear c69
                       try clear c69b0
                       try clear c70
                       try clear c70b0
                       try clear c71
                       try clear c71b0
                       try clear c71b1
                       try clear c73
                       try clear c75
                       try clear c75b0
                       try clear c75b1
                       try clear c75b2
                       try clear c76
                       try clear c77
                       try clear c77b0
                       try clear c78
                       try clear c79
                       try clear c79b0
                       try clear c79b1
                       try clear c80
                       try clear c81
                       try clear hx577_0
                       try clear hx585_0
                       try clear hx586_0
                       try clear p2
                       try clear p5
                       try clear p57
                       try clear p577
                       try clear p58
                       try clear p585
                       try clear p586
                       try clear p6
                       try clear p64
                       try clear q5
                       try clear q57
                       try clear q577
                       try clear q58
                       try clear q585
                       try clear q586
                       obtain ⟨x35_6, x234_6, rfl, HA, HK6, HO_5, HO_35, HB⟩ := hrel
                       as_aux_lemma =>
                        cases gk with
                        | zero => exact absurd HA.out (by simp [laws_FnRowsOfTables.l2])
                        | succ k6 =>
                         have H := HA.out
                         clear HA
                         simp only [laws_FnRowsOfTables.l2] at H
                         by_cases c82 : x234_6 < (t537.length : Int)
                         ·rw [if_pos c82] at H
                          have c82b0 : decide (x234_6 < (t537.length : Int)) = true := decide_eq_true c82
                          clear c82
                          have H' := Aside0.mk H
                          clear H
                          go_wp2
                          repeat (go_quiet (fail); try go_wp2)
                          go_loopg [37, 239] k6 (fun kq v37 v239 w' => ∃ (x37_7 : List Int) (x239_7 : Int), v239 = .int .i64 x239_7 ∧ Aside0 (laws_FnRowsOfTables.l3 kq t537 t540 t541 t544 x35_6 x234_6 x37_7 (t537.length : Int) x234_6 t537 (t537.length : Int) x239_7 = some true) ∧ Aside0 (kq ≤ k6) ∧ Aside0 (Kd.S (Kd.slice 3 (Kd.int .i64)) 35 w' w.heap.size (fun k_ => some k_ ≠ (u35 : Value).ownBlock ∧ some k_ ≠ (v37 : Value).ownBlock) (.slice Ao14 t537.length co14) t537) ∧ Aside0 (Kd.S (Kd.slice 3 (Kd.int .i64)) 35 w' w.heap.size (fun k_ => some k_ ≠ ((.slice Ao14 t537.length co14) : Value).ownBlock ∧ some k_ ≠ (v37 : Value).ownBlock ∧ some k_ ≠ ((.slice Ao14 t537.length co14) : Value).ownBlock) u35 x35_6) ∧ Aside0 (Kd.R (Kd.int .i64) 3 w' w.heap.size (fun _ => True) v37 x37_7) ∧ Aside0 (Kd.S (Kd.slice 3 (Kd.int .i64)) 35 w' w.heap.size (fun k_ => some k_ ≠ (u35 : Value).ownBlock ∧ some k_ ≠ (v37 : Value).ownBlock) (.slice Ao14 t537.length co14) t537) ∧ Aside0 (Below w.heap.size w w'))
                          case atStart => exact ⟨(([] : List Int)), (0), (by first | rfl | (simp; done) | (simp [*]; done)), H', ⟨Nat.le_refl _⟩, ⟨by (with_reducible repeat (first | apply Kd.S_alloc | apply Kd.S_drewN | apply Kd.S_drew)); exact Kd.S_mono HO_5.out (fun _ hk => ⟨hk, (by simp [Value.ownBlock])⟩)⟩, ⟨by (with_reducible repeat (first | apply Kd.S_alloc | apply Kd.S_drewN | apply Kd.S_drew)); exact Kd.S_mono HO_35.out (fun _ hk => ⟨hk, ⟨(by simp [Value.ownBlock]), hk⟩⟩)⟩, ⟨by first | exact Kd.R_nil _ _ _ _ _ | exact Kd.N_nil _ _ _ _ _ | exact Kd.V_nil _ _ _ _ _ | exact Kd.Q_nil _ _ _ _ _ | exact Kd.S_nil _ _ _ _ _⟩, ⟨by (with_reducible repeat (first | apply Kd.S_alloc | apply Kd.S_drewN | apply Kd.S_drew)); exact Kd.S_mono HO_5.out (fun _ hk => ⟨hk, (by simp [Value.ownBlock])⟩)⟩, ⟨by repeat (first | (with_reducible first | exact HB.out | apply below_alloc | apply pw_below_drewN | apply below_drew1) | exact HB.out)⟩⟩
                          case round =>
                           clear H'
                           try clear c1
                           try clear c2
                           try clear p2
                           try clear c3
                           try clear c4
                           try clear c5
                           try clear p5
                           try clear q5
                           try clear hx5
                           try clear c6
                           try clear p6
                           try clear c7
                           try clear c8
                           try clear c21
                           try clear c21b0
                           try clear c21b1
                           try clear c21b2
                           try clear c22
                           try clear c22b0
                           try clear c22b1
                           try clear c23
                           try clear c23b0
                           try clear c23b1
                           try clear c23b2
                           try clear c24
                           try clear c24b0
                           try clear c24b1
                           try clear c25
                           try clear c25b0
                           try clear c25b1
                           try clear c25b2
                           try clear c26
                           try clear c26b0
                           try clear c26b1
                           try clear c27
                           try clear c28
                           try clear c36
                           try clear c36b0
                           try clear c36b1
                           try clear c36b2
                           try clear c40
                           try clear c50
                           try clear c50b0
                           try clear c50b1
                           try clear c50b2
                           try clear c54
                           try clear c56
                           try clear c57
                           try clear c57b0
                           try clear p57
                           try clear q57
                           try clear hx57
                           try clear c58
                           try clear c58b0
                           try clear p58
                           try clear q58
                           try clear hx58
                           try clear c59
                           try clear c59b0
                           try clear c60
                           try clear c63
                           try clear p64
                           try clear c67
                           try clear c67b0
                           try clear c68
                           try clear c68b0
                           try clear c69
                           try clear c69b0
                           try clear c70
                           try clear c70b0
                           try clear c71
                           try clear c71b0
                           try clear c71b1
                           try clear c73
                           try clear c75
                           try clear c75b0
                           try clear c75b1
                           try clear c75b2
                           try clear c76
                           try clear c77
                           try clear c77b0
                           try clear c78
                           try clear c79
                           try clear c79b0
                           try clear c79b1
                           try clear c80
                           try clear c81
                           try clear c82
                           try clear c82b0
                           try clear hx577_0
                           try clear hx585_0
                           try clear hx586_0
                           try clear p2
                           try clear p5
                           try clear p57
                           try clear p577
                           try clear p58
                           try clear p585
                           try clear p586
                           try clear p6
                           try clear p64
                           try clear q5
                           try clear q57
                           try clear q577
                           try clear q58
                           try clear q585
                           try clear q586
                           obtain ⟨x37_7, x239_7, rfl, HA, HK7, HO_5, HO_35, HO_37, HO_237, HB⟩ := hrel
                           as_aux_lemma =>
                            cases gk with
                            | zero => exact absurd HA.out (by simp [laws_FnRowsOfTables.l3])
                            | succ k7 =>
                             have H := HA.out
                             clear HA
                             simp only [laws_FnRowsOfTables.l3] at H
                             by_cases c83 : x239_7 < (t537.length : Int)
                             ·rw [if_pos c83] at H
                              have c83b0 : decide (x239_7 < (t537.length : Int)) = true := decide_eq_true c83
                              clear c83
                              by_cases c84 : 0 ≤ x239_7
                              ·rw [if_pos c84] at H
                               have c84b0 : decide (0 ≤ x239_7) = true := decide_eq_true c84
                               clear c84
                               by_cases c85 : x239_7 < (t537.length : Int)
                               ·rw [if_pos c85] at H
                                have c85b0 : decide (x239_7 < (t537.length : Int)) = true := decide_eq_true c85
                                clear c85
                                by_cases c86 : 0 ≤ x234_6
                                ·rw [if_pos c86] at H
                                 have c86b0 : decide (0 ≤ x234_6) = true := decide_eq_true c86
                                 clear c86
                                 by_cases c87 : x234_6 < ((rd_L1 t537 x239_7).length : Int)
                                 ·rw [if_pos c87] at H
                                  have c87b0 : decide (x234_6 < ((rd_L1 t537 x239_7).length : Int)) = true := decide_eq_true c87
                                  clear c87
                                  by_cases c88 : x37_7.length < 17592186044416
                                  ·rw [if_pos c88] at H
                                   have LMc88 := Aside0.mk c88
                                   clear c88
                                   obtain ⟨y593, hy593⟩ : ∃ y_ : List Int, y_ = (x37_7 ++ [rd (rd_L1 t537 x239_7) x234_6]) := ⟨_, rfl⟩
                                   replace H : (laws_FnRowsOfTables.l3 k7 t537 t540 t541 t544 x35_6 x234_6 y593 (t537.length : Int) x234_6 t537 (t537.length : Int) (wrap64 (x239_7 + 1))) = some true := by first | (rw [hy593]; with_reducible exact H) | (have H2_ := (Option.bind_some _ _).symm.trans H; rw [hy593]; with_reducible exact H2_) | (have H2_ := (Option.bind_some _ _).symm.trans H; with_reducible exact H2_) | with_reducible exact H | (rw [hy593]; exact H) | exact H
                                   have Ny593 := Aside0.mk hy593
                                   clear hy593
                                   have H' := Aside0.mk H
                                   clear H
                                   have p591 : 0 ≤ (x239_7 : Int) := of_decide_eq_true (by first | (with_reducible assumption) | assumption)
                                   have q591 : x239_7 < (t537.length : Int) := of_decide_eq_true (by first | (with_reducible assumption) | assumption)
                                   obtain ⟨ad591, A591_0, c591_0, e591, hx591_0, hl591_0, hi591_0⟩ := at_L1 (Kd.S_reads' HO_237.out).2.2 x239_7 p591 q591
                                   cases e591
                                   obtain ⟨ce591, hce591, hMe591, hcc591⟩ := Kd.S_get HO_237.out [] x239_7 p591 (by first | exact q591 | exact of_decide_eq_true (by first | (with_reducible assumption) | assumption) | (have e_ := (Kd.S_reads' HO_237.out).1; omega))
                                   obtain ⟨ve591_0, rfl, ge591_0⟩ := hMe591
                                   have hv591_0 := hcc591 0 _ rfl
                                   rw [Nat.add_zero, show ((Kd.slice 3 (Kd.int .i64))).sz = 1 from rfl, Nat.mul_one] at hv591_0
                                   replace hv591_0 := Option.some.inj (hv591_0.symm.trans hx591_0)
                                   rw [hv591_0] at ge591_0
                                   have HL591_0 := Aside0.mk (show Kd.R (Kd.int .i64) 3 _ _ _ _ (rd_L1 t537 x239_7) from ge591_0)
                                   clear hv591_0 ge591_0
                                   clear hcc591 hce591
                                   have HR591_0 := Aside0.mk hi591_0
                                   have HC591_0 := Aside0.mk hl591_0
                                   clear hi591_0 hl591_0
                                   replace p591 := eq_true p591
                                   replace q591 := eq_true q591
                                   have p592 : 0 ≤ (x234_6 : Int) := of_decide_eq_true (by first | (with_reducible assumption) | assumption)
                                   have q592 : x234_6 < ((rd_L1 t537 x239_7).length : Int) := of_decide_eq_true (by first | (with_reducible assumption) | assumption)
                                   obtain ⟨ad592, e592, hx592_0⟩ := Kd.at_int (by repeat (first | (with_reducible exact HR591_0.out) | (with_reducible refine Kd.C_alloc ?_ _) | (with_reducible refine Kd.C_drewN ?_ _) | (with_reducible refine Kd.C_drew ?_) | exact HR591_0.out)) x234_6 p592 q592
                                   cases e592
                                   replace p592 := eq_true p592
                                   replace q592 := eq_true q592
                                   go_wp2_with (first | ((with_reducible refine gate_builtin (b := .append) (xs := #[.tmp 243, .tmp 248]) rfl ?_); at_builtin; refine Kd.R_append (Kd.int .i64) (w0 := w) w.heap.size rfl (.tmp 243) (.tmp 248) 35 3 (.int .i64 0) 8 rfl Try.underlying35 info3 rfl (by decide) (by omega) u37 x37_7 (rd (rd_L1 t537 x239_7) x234_6) [.int .i64 (rd (rd_L1 t537 x239_7) x234_6)] (fun _ => True) (fun _ => False) rfl rfl ?aP (fun _ hk => hk.elim) ?aF ?aO ?aB ?aS ?aL ?_; (case aP => exact rfl); (case aB => exact (by repeat (first | (with_reducible first | exact HB.out | apply below_alloc | apply pw_below_drewN | apply below_drew1) | exact HB.out))); (case aF => exact (fun _ _ => trivial)); (case aO => exact (by (with_reducible repeat (first | apply Kd.R_alloc | apply Kd.R_drewN | apply Kd.R_drew)); exact HO_37.out)); (case aS => exact (below_size (by repeat (first | (with_reducible first | exact HB.out | apply below_alloc | apply pw_below_drewN | apply below_drew1) | exact HB.out)))); (case aL => have := LMc88.out; omega); intro v594 w89 ho hb hg hat; rw [← Ny593.out] at ho; have n0_ := Aside0.mk (Kd.S_after (ok := (fun k_ => some k_ ≠ (u35 : Value).ownBlock)) (by (with_reducible repeat (first | apply Kd.S_alloc | apply Kd.S_drewN | apply Kd.S_drew)); exact HO_5.out) hg hat); have n1_ := Aside0.mk (Kd.S_after (ok := (fun k_ => some k_ ≠ (.slice (some ad591) t537.length co14 : Value).ownBlock ∧ some k_ ≠ (.slice (some ad591) t537.length co14 : Value).ownBlock)) (by (with_reducible repeat (first | apply Kd.S_alloc | apply Kd.S_drewN | apply Kd.S_drew)); exact Kd.S_mono HO_35.out (fun _ hk => ⟨⟨hk.1, hk.2.2⟩, hk.2.1⟩)) hg hat); have n2_ := Aside0.mk (Kd.S_after (ok := (fun k_ => some k_ ≠ (u35 : Value).ownBlock)) (by (with_reducible repeat (first | apply Kd.S_alloc | apply Kd.S_drewN | apply Kd.S_drew)); exact HO_237.out) hg hat); have n3_ := Aside0.mk (Kd.R_after (ok := (fun k_ => some k_ ≠ (u35 : Value).ownBlock ∧ some k_ ≠ (.slice (some ad591) t537.length co14 : Value).ownBlock)) (by (with_reducible repeat (first | apply Kd.R_alloc | apply Kd.R_drewN | apply Kd.R_drew)); exact Kd.R_mono HL591_0.out (fun _ hk => ⟨⟨hk.1.1, hk.2⟩, hk.1.2⟩)) hg hat); have n4_ := Aside0.mk (hb); have n5_ := Aside0.mk (ho); clear HO_5; clear HO_35; clear HO_237; clear HL591_0; clear HB; clear HO_37; have HO_5 := n0_; have HO_35 := n1_; have HO_237 := n2_; have HL591_0 := n3_; have HB := n4_; have HO595 := n5_; clear n0_ n1_ n2_ n3_ n4_ n5_; clear ho hb hg hat))
                                   repeat (go_quiet (first | ((with_reducible refine gate_builtin (b := .append) (xs := #[.tmp 243, .tmp 248]) rfl ?_); at_builtin; refine Kd.R_append (Kd.int .i64) (w0 := w) w.heap.size rfl (.tmp 243) (.tmp 248) 35 3 (.int .i64 0) 8 rfl Try.underlying35 info3 rfl (by decide) (by omega) u37 x37_7 (rd (rd_L1 t537 x239_7) x234_6) [.int .i64 (rd (rd_L1 t537 x239_7) x234_6)] (fun _ => True) (fun _ => False) rfl rfl ?aP (fun _ hk => hk.elim) ?aF ?aO ?aB ?aS ?aL ?_; (case aP => exact rfl); (case aB => exact (by repeat (first | (with_reducible first | exact HB.out | apply below_alloc | apply pw_below_drewN | apply below_drew1) | exact HB.out))); (case aF => exact (fun _ _ => trivial)); (case aO => exact (by (with_reducible repeat (first | apply Kd.R_alloc | apply Kd.R_drewN | apply Kd.R_drew)); exact HO_37.out)); (case aS => exact (below_size (by repeat (first | (with_reducible first | exact HB.out | apply below_alloc | apply pw_below_drewN | apply below_drew1) | exact HB.out)))); (case aL => have := LMc88.out; omega); intro v594 w89 ho hb hg hat; rw [← Ny593.out] at ho; have n0_ := Aside0.mk (Kd.S_after (ok := (fun k_ => some k_ ≠ (u35 : Value).ownBlock)) (by (with_reducible repeat (first | apply Kd.S_alloc | apply Kd.S_drewN | apply Kd.S_drew)); exact HO_5.out) hg hat); have n1_ := Aside0.mk (Kd.S_after (ok := (fun k_ => some k_ ≠ (.slice (some ad591) t537.length co14 : Value).ownBlock ∧ some k_ ≠ (.slice (some ad591) t537.length co14 : Value).ownBlock)) (by (with_reducible repeat (first | apply Kd.S_alloc | apply Kd.S_drewN | apply Kd.S_drew)); exact Kd.S_mono HO_35.out (fun _ hk => ⟨⟨hk.1, hk.2.2⟩, hk.2.1⟩)) hg hat); have n2_ := Aside0.mk (Kd.S_after (ok := (fun k_ => some k_ ≠ (u35 : Value).ownBlock)) (by (with_reducible repeat (first | apply Kd.S_alloc | apply Kd.S_drewN | apply Kd.S_drew)); exact HO_237.out) hg hat); have n3_ := Aside0.mk (Kd.R_after (ok := (fun k_ => some k_ ≠ (u35 : Value).ownBlock ∧ some k_ ≠ (.slice (some ad591) t537.length co14 : Value).ownBlock)) (by (with_reducible repeat (first | apply Kd.R_alloc | apply Kd.R_drewN | apply Kd.R_drew)); exact Kd.R_mono HL591_0.out (fun _ hk => ⟨⟨hk.1.1, hk.2⟩, hk.1.2⟩)) hg hat); have n4_ := Aside0.mk (hb); have n5_ := Aside0.mk (ho); clear HO_5; clear HO_35; clear HO_237; clear HL591_0; clear HB; clear HO_37; have HO_5 := n0_; have HO_35 := n1_; have HO_237 := n2_; have HL591_0 := n3_; have HB := n4_; have HO595 := n5_; clear n0_ n1_ n2_ n3_ n4_ n5_; clear ho hb hg hat)); try go_wp2_with (first | ((with_reducible refine gate_builtin (b := .append) (xs := #[.tmp 243, .tmp 248]) rfl ?_); at_builtin; refine Kd.R_append (Kd.int .i64) (w0 := w) w.heap.size rfl (.tmp 243) (.tmp 248) 35 3 (.int .i64 0) 8 rfl Try.underlying35 info3 rfl (by decide) (by omega) u37 x37_7 (rd (rd_L1 t537 x239_7) x234_6) [.int .i64 (rd (rd_L1 t537 x239_7) x234_6)] (fun _ => True) (fun _ => False) rfl rfl ?aP (fun _ hk => hk.elim) ?aF ?aO ?aB ?aS ?aL ?_; (case aP => exact rfl); (case aB => exact (by repeat (first | (with_reducible first | exact HB.out | apply below_alloc | apply pw_below_drewN | apply below_drew1) | exact HB.out))); (case aF => exact (fun _ _ => trivial)); (case aO => exact (by (with_reducible repeat (first | apply Kd.R_alloc | apply Kd.R_drewN | apply Kd.R_drew)); exact HO_37.out)); (case aS => exact (below_size (by repeat (first | (with_reducible first | exact HB.out | apply below_alloc | apply pw_below_drewN | apply below_drew1) | exact HB.out)))); (case aL => have := LMc88.out; omega); intro v594 w89 ho hb hg hat; rw [← Ny593.out] at ho; have n0_ := Aside0.mk (Kd.S_after (ok := (fun k_ => some k_ ≠ (u35 : Value).ownBlock)) (by (with_reducible repeat (first | apply Kd.S_alloc | apply Kd.S_drewN | apply Kd.S_drew)); exact HO_5.out) hg hat); have n1_ := Aside0.mk (Kd.S_after (ok := (fun k_ => some k_ ≠ (.slice (some ad591) t537.length co14 : Value).ownBlock ∧ some k_ ≠ (.slice (some ad591) t537.length co14 : Value).ownBlock)) (by (with_reducible repeat (first | apply Kd.S_alloc | apply Kd.S_drewN | apply Kd.S_drew)); exact Kd.S_mono HO_35.out (fun _ hk => ⟨⟨hk.1, hk.2.2⟩, hk.2.1⟩)) hg hat); have n2_ := Aside0.mk (Kd.S_after (ok := (fun k_ => some k_ ≠ (u35 : Value).ownBlock)) (by (with_reducible repeat (first | apply Kd.S_alloc | apply Kd.S_drewN | apply Kd.S_drew)); exact HO_237.out) hg hat); have n3_ := Aside0.mk (Kd.R_after (ok := (fun k_ => some k_ ≠ (u35 : Value).ownBlock ∧ some k_ ≠ (.slice (some ad591) t537.length co14 : Value).ownBlock)) (by (with_reducible repeat (first | apply Kd.R_alloc | apply Kd.R_drewN | apply Kd.R_drew)); exact Kd.R_mono HL591_0.out (fun _ hk => ⟨⟨hk.1.1, hk.2⟩, hk.1.2⟩)) hg hat); have n4_ := Aside0.mk (hb); have n5_ := Aside0.mk (ho); clear HO_5; clear HO_35; clear HO_237; clear HL591_0; clear HB; clear HO_37; have HO_5 := n0_; have HO_35 := n1_; have HO_237 := n2_; have HL591_0 := n3_; have HB := n4_; have HO595 := n5_; clear n0_ n1_ n2_ n3_ n4_ n5_; clear ho hb hg hat)))
                                   go_roundg k7
                                   case measure => have := HJ11.out; have := HJ31.out; have := HJ43.out; have := HJ54.out; have := HJ73.out; have := HK6.out; have := HK7.out; omega
                                   case rel => exact ⟨(y593), (wrap64 (x239_7 + 1)), (by first | rfl | (simp; done) | (simp [*]; done)), H', ⟨by have := HJ11.out; have := HJ31.out; have := HJ43.out; have := HJ54.out; have := HJ73.out; have := HK6.out; have := HK7.out; omega⟩, ⟨by (with_reducible repeat (first | apply Kd.S_alloc | apply Kd.S_drewN | apply Kd.S_drew)); exact HO_5.out⟩, ⟨by (with_reducible repeat (first | apply Kd.S_alloc | apply Kd.S_drewN | apply Kd.S_drew)); exact Kd.S_mono HO_35.out (fun _ hk => ⟨hk.1.1, ⟨hk.2, hk.1.2⟩⟩)⟩, ⟨by (with_reducible repeat (first | apply Kd.R_alloc | apply Kd.R_drewN | apply Kd.R_drew)); exact HO595.out⟩, ⟨by (with_reducible repeat (first | apply Kd.S_alloc | apply Kd.S_drewN | apply Kd.S_drew)); exact HO_237.out⟩, ⟨by repeat (first | (with_reducible first | exact HB.out | apply below_alloc | apply pw_below_drewN | apply below_drew1) | exact HB.out)⟩⟩
                                  ·rw [if_neg c88] at H
                                   exact absurd H (by simp)
                                 ·rw [if_neg c87] at H
                                  exact absurd H (by simp)
                                ·rw [if_neg c86] at H
                                 exact absurd H (by simp)
                               ·rw [if_neg c85] at H
                                exact absurd H (by simp)
                              ·rw [if_neg c84] at H
                               exact absurd H (by simp)
                             ·rw [if_neg c83] at H
                              have c83b0 : decide (x239_7 < (t537.length : Int)) = false := decide_eq_false c83
                              clear c83
                              by_cases c90 : x35_6.length < 5864062014805
                              ·rw [if_pos c90] at H
                               have LMc90 := Aside0.mk c90
                               clear c90
                               obtain ⟨y596, hy596⟩ : ∃ y_ : List (List Int), y_ = (x35_6 ++ [x37_7]) := ⟨_, rfl⟩
                               replace H : (laws_FnRowsOfTables.l2 k7 t537 t540 t541 t544 y596 (t537.length : Int) (wrap64 (x234_6 + 1))) = some true := by first | (rw [hy596]; with_reducible exact H) | (have H2_ := (Option.bind_some _ _).symm.trans H; rw [hy596]; with_reducible exact H2_) | (have H2_ := (Option.bind_some _ _).symm.trans H; with_reducible exact H2_) | with_reducible exact H | (rw [hy596]; exact H) | exact H
                               have Ny596 := Aside0.mk hy596
                               clear hy596
                               have H' := Aside0.mk H
                               clear H
                               obtain ⟨Ao92, co92, eo92⟩ := Kd.R_slice HO_37.out
                               subst eo92
                               go_wp2_with (first | ((with_reducible refine gate_builtin (b := .append) (xs := #[.tmp 251, .tmp 253]) rfl ?_); at_builtin; refine Kd.S_append (Kd.slice 3 (Kd.int .i64)) (w0 := w) w.heap.size rfl (.tmp 251) (.tmp 253) 22 35 (.slice none 0 0) 24 rfl Try.underlying22 info35 rfl (by decide) (by omega) u35 x35_6 x37_7 [.slice Ao92 x37_7.length co92] (fun k_ => some k_ ≠ (.slice Ao14 t537.length co14 : Value).ownBlock ∧ some k_ ≠ (.slice Ao14 t537.length co14 : Value).ownBlock) (fun k_ => some k_ = (.slice Ao92 x37_7.length co92 : Value).ownBlock) rfl rfl ?aP (fun k_ hk_ => ((Kd.R_mono (ok' := fun k_ => ((fun k_ => some k_ ≠ (.slice Ao14 t537.length co14 : Value).ownBlock ∧ some k_ ≠ (.slice Ao14 t537.length co14 : Value).ownBlock)) k_ ∧ some k_ ≠ (u35 : Value).ownBlock) (Kd.R_apart' (Kd.R_apart' (Kd.R_apart' (HO_37.out) (Kd.S_typed HO_5.out) (by decide)) (Kd.S_typed HO_237.out) (by decide)) (Kd.S_typed HO_35.out) (by decide)) (fun k_ hk => ⟨⟨hk.1.1.2, hk.1.2⟩, hk.2⟩))).1 k_ hk_.symm) ?aF ?aO ?aB ?aS ?aL ?_; (case aP => exact Kd.M_row (Kd.R_mono (Kd.R_tight rfl (Kd.R_mono (ok' := fun k_ => ((fun k_ => some k_ ≠ (.slice Ao14 t537.length co14 : Value).ownBlock ∧ some k_ ≠ (.slice Ao14 t537.length co14 : Value).ownBlock)) k_ ∧ some k_ ≠ (u35 : Value).ownBlock) (Kd.R_apart' (Kd.R_apart' (Kd.R_apart' (HO_37.out) (Kd.S_typed HO_5.out) (by decide)) (Kd.S_typed HO_237.out) (by decide)) (Kd.S_typed HO_35.out) (by decide)) (fun k_ hk => ⟨⟨hk.1.1.2, hk.1.2⟩, hk.2⟩))) (fun _ h_ => h_))); (case aB => exact (by repeat (first | (with_reducible first | exact HB.out | apply below_alloc | apply pw_below_drewN | apply below_drew1) | exact HB.out))); (case aF => exact (fun k_ hk => ⟨Kd.fresh' (Kd.S_lt (by (with_reducible repeat (first | apply Kd.S_alloc | apply Kd.S_drewN | apply Kd.S_drew)); exact HO_5.out)) k_ hk, Kd.fresh' (Kd.S_lt (by (with_reducible repeat (first | apply Kd.S_alloc | apply Kd.S_drewN | apply Kd.S_drew)); exact HO_237.out)) k_ hk⟩)); (case aO => exact (by (with_reducible repeat (first | apply Kd.S_alloc | apply Kd.S_drewN | apply Kd.S_drew)); exact Kd.S_mono HO_35.out (fun k_ hk => ⟨⟨hk.1, hk.2.2⟩, fun e_ => hk.2.1 e_⟩))); (case aS => exact (below_size (by repeat (first | (with_reducible first | exact HB.out | apply below_alloc | apply pw_below_drewN | apply below_drew1) | exact HB.out)))); (case aL => have := LMc90.out; omega); intro v597 w91 ho hb hg hat; rw [← Ny596.out] at ho; have n0_ := Aside0.mk (Kd.S_after (ok := (fun k_ => some k_ ≠ (.slice Ao92 x37_7.length co92 : Value).ownBlock)) (by (with_reducible repeat (first | apply Kd.S_alloc | apply Kd.S_drewN | apply Kd.S_drew)); exact Kd.S_mono HO_5.out (fun _ hk => by first | exact ⟨hk.2, hk.1⟩ | exact ⟨hk.1, hk.2⟩)) hg hat); have n1_ := Aside0.mk (Kd.S_after (ok := (fun k_ => some k_ ≠ (.slice Ao92 x37_7.length co92 : Value).ownBlock)) (by (with_reducible repeat (first | apply Kd.S_alloc | apply Kd.S_drewN | apply Kd.S_drew)); exact Kd.S_mono HO_237.out (fun _ hk => by first | exact ⟨hk.2, hk.1⟩ | exact ⟨hk.1, hk.2⟩)) hg hat); have n2_ := Aside0.mk (hb); have n3_ := Aside0.mk (ho); clear HO_5; clear HO_237; clear HB; clear HO_35; clear HO_37; have HO_5 := n0_; have HO_237 := n1_; have HB := n2_; have HO598 := n3_; clear n0_ n1_ n2_ n3_; clear ho hb hg hat))
                               repeat (go_quiet (first | ((with_reducible refine gate_builtin (b := .append) (xs := #[.tmp 251, .tmp 253]) rfl ?_); at_builtin; refine Kd.S_append (Kd.slice 3 (Kd.int .i64)) (w0 := w) w.heap.size rfl (.tmp 251) (.tmp 253) 22 35 (.slice none 0 0) 24 rfl Try.underlying22 info35 rfl (by decide) (by omega) u35 x35_6 x37_7 [.slice Ao92 x37_7.length co92] (fun k_ => some k_ ≠ (.slice Ao14 t537.length co14 : Value).ownBlock ∧ some k_ ≠ (.slice Ao14 t537.length co14 : Value).ownBlock) (fun k_ => some k_ = (.slice Ao92 x37_7.length co92 : Value).ownBlock) rfl rfl ?aP (fun k_ hk_ => ((Kd.R_mono (ok' := fun k_ => ((fun k_ => some k_ ≠ (.slice Ao14 t537.length co14 : Value).ownBlock ∧ some k_ ≠ (.slice Ao14 t537.length co14 : Value).ownBlock)) k_ ∧ some k_ ≠ (u35 : Value).ownBlock) (Kd.R_apart' (Kd.R_apart' (Kd.R_apart' (HO_37.out) (Kd.S_typed HO_5.out) (by decide)) (Kd.S_typed HO_237.out) (by decide)) (Kd.S_typed HO_35.out) (by decide)) (fun k_ hk => ⟨⟨hk.1.1.2, hk.1.2⟩, hk.2⟩))).1 k_ hk_.symm) ?aF ?aO ?aB ?aS ?aL ?_; (case aP => exact Kd.M_row (Kd.R_mono (Kd.R_tight rfl (Kd.R_mono (ok' := fun k_ => ((fun k_ => some k_ ≠ (.slice Ao14 t537.length co14 : Value).ownBlock ∧ some k_ ≠ (.slice Ao14 t537.length co14 : Value).ownBlock)) k_ ∧ some k_ ≠ (u35 : Value).ownBlock) (Kd.R_apart' (Kd.R_apart' (Kd.R_apart' (HO_37.out) (Kd.S_typed HO_5.out) (by decide)) (Kd.S_typed HO_237.out) (by decide)) (Kd.S_typed HO_35.out) (by decide)) (fun k_ hk => ⟨⟨hk.1.1.2, hk.1.2⟩, hk.2⟩))) (fun _ h_ => h_))); (case aB => exact (by repeat (first | (with_reducible first | exact HB.out | apply below_alloc | apply pw_below_drewN | apply below_drew1) | exact HB.out))); (case aF => exact (fun k_ hk => ⟨Kd.fresh' (Kd.S_lt (by (with_reducible repeat (first | apply Kd.S_alloc | apply Kd.S_drewN | apply Kd.S_drew)); exact HO_5.out)) k_ hk, Kd.fresh' (Kd.S_lt (by (with_reducible repeat (first | apply Kd.S_alloc | apply Kd.S_drewN | apply Kd.S_drew)); exact HO_237.out)) k_ hk⟩)); (case aO => exact (by (with_reducible repeat (first | apply Kd.S_alloc | apply Kd.S_drewN | apply Kd.S_drew)); exact Kd.S_mono HO_35.out (fun k_ hk => ⟨⟨hk.1, hk.2.2⟩, fun e_ => hk.2.1 e_⟩))); (case aS => exact (below_size (by repeat (first | (with_reducible first | exact HB.out | apply below_alloc | apply pw_below_drewN | apply below_drew1) | exact HB.out)))); (case aL => have := LMc90.out; omega); intro v597 w91 ho hb hg hat; rw [← Ny596.out] at ho; have n0_ := Aside0.mk (Kd.S_after (ok := (fun k_ => some k_ ≠ (.slice Ao92 x37_7.length co92 : Value).ownBlock)) (by (with_reducible repeat (first | apply Kd.S_alloc | apply Kd.S_drewN | apply Kd.S_drew)); exact Kd.S_mono HO_5.out (fun _ hk => by first | exact ⟨hk.2, hk.1⟩ | exact ⟨hk.1, hk.2⟩)) hg hat); have n1_ := Aside0.mk (Kd.S_after (ok := (fun k_ => some k_ ≠ (.slice Ao92 x37_7.length co92 : Value).ownBlock)) (by (with_reducible repeat (first | apply Kd.S_alloc | apply Kd.S_drewN | apply Kd.S_drew)); exact Kd.S_mono HO_237.out (fun _ hk => by first | exact ⟨hk.2, hk.1⟩ | exact ⟨hk.1, hk.2⟩)) hg hat); have n2_ := Aside0.mk (hb); have n3_ := Aside0.mk (ho); clear HO_5; clear HO_237; clear HB; clear HO_35; clear HO_37; have HO_5 := n0_; have HO_237 := n1_; have HB := n2_; have HO598 := n3_; clear n0_ n1_ n2_ n3_; clear ho hb hg hat)); try go_wp2_with (first | ((with_reducible refine gate_builtin (b := .append) (xs := #[.tmp 251, .tmp 253]) rfl ?_); at_builtin; refine Kd.S_append (Kd.slice 3 (Kd.int .i64)) (w0 := w) w.heap.size rfl (.tmp 251) (.tmp 253) 22 35 (.slice none 0 0) 24 rfl Try.underlying22 info35 rfl (by decide) (by omega) u35 x35_6 x37_7 [.slice Ao92 x37_7.length co92] (fun k_ => some k_ ≠ (.slice Ao14 t537.length co14 : Value).ownBlock ∧ some k_ ≠ (.slice Ao14 t537.length co14 : Value).ownBlock) (fun k_ => some k_ = (.slice Ao92 x37_7.length co92 : Value).ownBlock) rfl rfl ?aP (fun k_ hk_ => ((Kd.R_mono (ok' := fun k_ => ((fun k_ => some k_ ≠ (.slice Ao14 t537.length co14 : Value).ownBlock ∧ some k_ ≠ (.slice Ao14 t537.length co14 : Value).ownBlock)) k_ ∧ some k_ ≠ (u35 : Value).ownBlock) (Kd.R_apart' (Kd.R_apart' (Kd.R_apart' (HO_37.out) (Kd.S_typed HO_5.out) (by decide)) (Kd.S_typed HO_237.out) (by decide)) (Kd.S_typed HO_35.out) (by decide)) (fun k_ hk => ⟨⟨hk.1.1.2, hk.1.2⟩, hk.2⟩))).1 k_ hk_.symm) ?aF ?aO ?aB ?aS ?aL ?_; (case aP => exact Kd.M_row (Kd.R_mono (Kd.R_tight rfl (Kd.R_mono (ok' := fun k_ => ((fun k_ => some k_ ≠ (.slice Ao14 t537.length co14 : Value).ownBlock ∧ some k_ ≠ (.slice Ao14 t537.length co14 : Value).ownBlock)) k_ ∧ some k_ ≠ (u35 : Value).ownBlock) (Kd.R_apart' (Kd.R_apart' (Kd.R_apart' (HO_37.out) (Kd.S_typed HO_5.out) (by decide)) (Kd.S_typed HO_237.out) (by decide)) (Kd.S_typed HO_35.out) (by decide)) (fun k_ hk => ⟨⟨hk.1.1.2, hk.1.2⟩, hk.2⟩))) (fun _ h_ => h_))); (case aB => exact (by repeat (first | (with_reducible first | exact HB.out | apply below_alloc | apply pw_below_drewN | apply below_drew1) | exact HB.out))); (case aF => exact (fun k_ hk => ⟨Kd.fresh' (Kd.S_lt (by (with_reducible repeat (first | apply Kd.S_alloc | apply Kd.S_drewN | apply Kd.S_drew)); exact HO_5.out)) k_ hk, Kd.fresh' (Kd.S_lt (by (with_reducible repeat (first | apply Kd.S_alloc | apply Kd.S_drewN | apply Kd.S_drew)); exact HO_237.out)) k_ hk⟩)); (case aO => exact (by (with_reducible repeat (first | apply Kd.S_alloc | apply Kd.S_drewN | apply Kd.S_drew)); exact Kd.S_mono HO_35.out (fun k_ hk => ⟨⟨hk.1, hk.2.2⟩, fun e_ => hk.2.1 e_⟩))); (case aS => exact (below_size (by repeat (first | (with_reducible first | exact HB.out | apply below_alloc | apply pw_below_drewN | apply below_drew1) | exact HB.out)))); (case aL => have := LMc90.out; omega); intro v597 w91 ho hb hg hat; rw [← Ny596.out] at ho; have n0_ := Aside0.mk (Kd.S_after (ok := (fun k_ => some k_ ≠ (.slice Ao92 x37_7.length co92 : Value).ownBlock)) (by (with_reducible repeat (first | apply Kd.S_alloc | apply Kd.S_drewN | apply Kd.S_drew)); exact Kd.S_mono HO_5.out (fun _ hk => by first | exact ⟨hk.2, hk.1⟩ | exact ⟨hk.1, hk.2⟩)) hg hat); have n1_ := Aside0.mk (Kd.S_after (ok := (fun k_ => some k_ ≠ (.slice Ao92 x37_7.length co92 : Value).ownBlock)) (by (with_reducible repeat (first | apply Kd.S_alloc | apply Kd.S_drewN | apply Kd.S_drew)); exact Kd.S_mono HO_237.out (fun _ hk => by first | exact ⟨hk.2, hk.1⟩ | exact ⟨hk.1, hk.2⟩)) hg hat); have n2_ := Aside0.mk (hb); have n3_ := Aside0.mk (ho); clear HO_5; clear HO_237; clear HB; clear HO_35; clear HO_37; have HO_5 := n0_; have HO_237 := n1_; have HB := n2_; have HO598 := n3_; clear n0_ n1_ n2_ n3_; clear ho hb hg hat)))
                               go_roundg k7
                               case measure => have := HJ11.out; have := HJ31.out; have := HJ43.out; have := HJ54.out; have := HJ73.out; have := HK6.out; have := HK7.out; omega
                               case rel => exact ⟨(y596), (wrap64 (x234_6 + 1)), (by first | rfl | (simp; done) | (simp [*]; done)), H', ⟨by have := HJ11.out; have := HJ31.out; have := HJ43.out; have := HJ54.out; have := HJ73.out; have := HK6.out; have := HK7.out; omega⟩, ⟨by (with_reducible repeat (first | apply Kd.S_alloc | apply Kd.S_drewN | apply Kd.S_drew)); exact Kd.S_mono HO_5.out (fun _ hk => hk.2)⟩, ⟨by (with_reducible repeat (first | apply Kd.S_alloc | apply Kd.S_drewN | apply Kd.S_drew)); exact Kd.S_mono HO598.out (fun _ hk => hk.1)⟩, ⟨by repeat (first | (with_reducible first | exact HB.out | apply below_alloc | apply pw_below_drewN | apply below_drew1) | exact HB.out)⟩⟩
                              ·rw [if_neg c90] at H
                               exact absurd H (by simp)
                         ·rw [if_neg c82] at H
                          have c82b0 : decide (x234_6 < (t537.length : Int)) = false := decide_eq_false c82
                          clear c82
                          replace H := Option.bind_eq_some_iff.mp H
                          obtain ⟨⟨t587, t588⟩, A930, H⟩ := H
                          replace H : ((impl_DeterminantOf.f k6 x35_6).bind fun bt589 => (if t588 = true then (if t587 = t544 then (if (bt589.2 == t541) = true then (some (bt589.1 == t540)) else (some false)) else (some false)) else (some false))) = some true := H
                          have A93 := Aside0.mk A930
                          clear A930
                          replace H := Option.bind_eq_some_iff.mp H
                          obtain ⟨⟨t589, t590⟩, A940, H⟩ := H
                          replace H : (if t588 = true then (if t587 = t544 then (if (t590 == t541) = true then (some (t589 == t540)) else (some false)) else (some false)) else (some false)) = some true := H
                          have A94 := Aside0.mk A940
                          clear A940
                          by_cases c95 : t588 = true
                          ·subst c95
                           have H1 : (if t587 = t544 then (if (t590 == t541) = true then (some (t589 == t540)) else (some false)) else (some false)) = some true := by rw [if_pos rfl] at H; first | done | exact H
                           clear H
                           have H := H1
                           clear H1
                           by_cases c96 : t587 = t544
                           ·rw [if_pos c96] at H
                            have c96b0 : (t587 == t544) = true := beq_iff_eq.mpr c96
                            have c96b1 : (t587 != t544) = false := bne_eq_false_iff_eq.mpr c96
                            clear c96
                            by_cases c97 : (t590 == t541) = true
                            ·rw [if_pos c97] at H
                             have c97b0 : (t590 == t541) = true := c97
                             (try (have c97b1 : decide (t590 = t541) = true := by simpa using c97))
                             (try (have c97b2 : (t590 == t541) = true := by simpa using c97))
                             clear c97
                             have HX := Aside0.mk (Option.some.inj H)
                             clear H
                             obtain ⟨Ao98, co98, eo98⟩ := Kd.S_slice HO_35.out
                             subst eo98
                             go_wp2_with (first | (go_at_call 11; (with_reducible refine (impl_RankOf.calls k6 _ _ x35_6 t587 true _ ?side1 ?side2 A93.out).mono ?_); (case side1 => repeat (first | exact (Kd.S_reads' HO_35.out).2.2 | (with_reducible refine Kd.C_alloc ?_ _) | (with_reducible refine Kd.C_drewN ?_ _) | (with_reducible refine Kd.C_drew ?_))); (case side2 => exact (Kd.S_reads' HO_35.out).2.1); rintro e w99 ⟨rfl, hb⟩; have n0_ := Aside0.mk (Kd.S_below (by (with_reducible repeat (first | apply Kd.S_alloc | apply Kd.S_drewN | apply Kd.S_drew)); exact HO_5.out) hb); have n1_ := Aside0.mk (Kd.S_below (by (with_reducible repeat (first | apply Kd.S_alloc | apply Kd.S_drewN | apply Kd.S_drew)); exact HO_35.out) hb); have n2_ := Aside0.mk (below_step (by repeat (first | (with_reducible first | exact HB.out | apply below_alloc | apply pw_below_drewN | apply below_drew1) | exact HB.out)) hb); clear HO_5; clear HO_35; clear HB; have HO_5 := n0_; have HO_35 := n1_; have HB := n2_; clear n0_ n1_ n2_; (try clear hb); (try clear hb2); (try clear hk); (try clear hi)) | (go_at_call 16; (with_reducible refine (impl_DeterminantOf.calls k6 _ _ x35_6 t589 t590 _ ?side1 ?side2 A94.out).mono ?_); (case side1 => repeat (first | exact (Kd.S_reads' HO_35.out).2.2 | (with_reducible refine Kd.C_alloc ?_ _) | (with_reducible refine Kd.C_drewN ?_ _) | (with_reducible refine Kd.C_drew ?_))); (case side2 => exact (Kd.S_reads' HO_35.out).2.1); rintro e w100 ⟨rfl, hb⟩; have n0_ := Aside0.mk (Kd.S_below (by (with_reducible repeat (first | apply Kd.S_alloc | apply Kd.S_drewN | apply Kd.S_drew)); exact HO_5.out) hb); have n1_ := Aside0.mk (Kd.S_below (by (with_reducible repeat (first | apply Kd.S_alloc | apply Kd.S_drewN | apply Kd.S_drew)); exact HO_35.out) hb); have n2_ := Aside0.mk (below_step (by repeat (first | (with_reducible first | exact HB.out | apply below_alloc | apply pw_below_drewN | apply below_drew1) | exact HB.out)) hb); clear HO_5; clear HO_35; clear HB; have HO_5 := n0_; have HO_35 := n1_; have HB := n2_; clear n0_ n1_ n2_; (try clear hb); (try clear hb2); (try clear hk); (try clear hi)))
                             repeat (go_quiet (first | (go_at_call 11; (with_reducible refine (impl_RankOf.calls k6 _ _ x35_6 t587 true _ ?side1 ?side2 A93.out).mono ?_); (case side1 => repeat (first | exact (Kd.S_reads' HO_35.out).2.2 | (with_reducible refine Kd.C_alloc ?_ _) | (with_reducible refine Kd.C_drewN ?_ _) | (with_reducible refine Kd.C_drew ?_))); (case side2 => exact (Kd.S_reads' HO_35.out).2.1); rintro e w99 ⟨rfl, hb⟩; have n0_ := Aside0.mk (Kd.S_below (by (with_reducible repeat (first | apply Kd.S_alloc | apply Kd.S_drewN | apply Kd.S_drew)); exact HO_5.out) hb); have n1_ := Aside0.mk (Kd.S_below (by (with_reducible repeat (first | apply Kd.S_alloc | apply Kd.S_drewN | apply Kd.S_drew)); exact HO_35.out) hb); have n2_ := Aside0.mk (below_step (by repeat (first | (with_reducible first | exact HB.out | apply below_alloc | apply pw_below_drewN | apply below_drew1) | exact HB.out)) hb); clear HO_5; clear HO_35; clear HB; have HO_5 := n0_; have HO_35 := n1_; have HB := n2_; clear n0_ n1_ n2_; (try clear hb); (try clear hb2); (try clear hk); (try clear hi)) | (go_at_call 16; (with_reducible refine (impl_DeterminantOf.calls k6 _ _ x35_6 t589 t590 _ ?side1 ?side2 A94.out).mono ?_); (case side1 => repeat (first | exact (Kd.S_reads' HO_35.out).2.2 | (with_reducible refine Kd.C_alloc ?_ _) | (with_reducible refine Kd.C_drewN ?_ _) | (with_reducible refine Kd.C_drew ?_))); (case side2 => exact (Kd.S_reads' HO_35.out).2.1); rintro e w100 ⟨rfl, hb⟩; have n0_ := Aside0.mk (Kd.S_below (by (with_reducible repeat (first | apply Kd.S_alloc | apply Kd.S_drewN | apply Kd.S_drew)); exact HO_5.out) hb); have n1_ := Aside0.mk (Kd.S_below (by (with_reducible repeat (first | apply Kd.S_alloc | apply Kd.S_drewN | apply Kd.S_drew)); exact HO_35.out) hb); have n2_ := Aside0.mk (below_step (by repeat (first | (with_reducible first | exact HB.out | apply below_alloc | apply pw_below_drewN | apply below_drew1) | exact HB.out)) hb); clear HO_5; clear HO_35; clear HB; have HO_5 := n0_; have HO_35 := n1_; have HB := n2_; clear n0_ n1_ n2_; (try clear hb); (try clear hb2); (try clear hk); (try clear hi))); try go_wp2_with (first | (go_at_call 11; (with_reducible refine (impl_RankOf.calls k6 _ _ x35_6 t587 true _ ?side1 ?side2 A93.out).mono ?_); (case side1 => repeat (first | exact (Kd.S_reads' HO_35.out).2.2 | (with_reducible refine Kd.C_alloc ?_ _) | (with_reducible refine Kd.C_drewN ?_ _) | (with_reducible refine Kd.C_drew ?_))); (case side2 => exact (Kd.S_reads' HO_35.out).2.1); rintro e w99 ⟨rfl, hb⟩; have n0_ := Aside0.mk (Kd.S_below (by (with_reducible repeat (first | apply Kd.S_alloc | apply Kd.S_drewN | apply Kd.S_drew)); exact HO_5.out) hb); have n1_ := Aside0.mk (Kd.S_below (by (with_reducible repeat (first | apply Kd.S_alloc | apply Kd.S_drewN | apply Kd.S_drew)); exact HO_35.out) hb); have n2_ := Aside0.mk (below_step (by repeat (first | (with_reducible first | exact HB.out | apply below_alloc | apply pw_below_drewN | apply below_drew1) | exact HB.out)) hb); clear HO_5; clear HO_35; clear HB; have HO_5 := n0_; have HO_35 := n1_; have HB := n2_; clear n0_ n1_ n2_; (try clear hb); (try clear hb2); (try clear hk); (try clear hi)) | (go_at_call 16; (with_reducible refine (impl_DeterminantOf.calls k6 _ _ x35_6 t589 t590 _ ?side1 ?side2 A94.out).mono ?_); (case side1 => repeat (first | exact (Kd.S_reads' HO_35.out).2.2 | (with_reducible refine Kd.C_alloc ?_ _) | (with_reducible refine Kd.C_drewN ?_ _) | (with_reducible refine Kd.C_drew ?_))); (case side2 => exact (Kd.S_reads' HO_35.out).2.1); rintro e w100 ⟨rfl, hb⟩; have n0_ := Aside0.mk (Kd.S_below (by (with_reducible repeat (first | apply Kd.S_alloc | apply Kd.S_drewN | apply Kd.S_drew)); exact HO_5.out) hb); have n1_ := Aside0.mk (Kd.S_below (by (with_reducible repeat (first | apply Kd.S_alloc | apply Kd.S_drewN | apply Kd.S_drew)); exact HO_35.out) hb); have n2_ := Aside0.mk (below_step (by repeat (first | (with_reducible first | exact HB.out | apply below_alloc | apply pw_below_drewN | apply below_drew1) | exact HB.out)) hb); clear HO_5; clear HO_35; clear HB; have HO_5 := n0_; have HO_35 := n1_; have HB := n2_; clear n0_ n1_ n2_; (try clear hb); (try clear hb2); (try clear hk); (try clear hi))))
                             go_ret
                             exact ⟨by first | rfl | (rw [HX.out]; done) | (rw [eq_of_beq HX.out]; first | rfl | (simp; done)) | (have hx_ := HX.out; simp_all; done) | (simp [errW_none, errW_some] <;> rfl) | (simp [*, errW_none, errW_some] <;> rfl), by repeat (first | (with_reducible first | exact HB.out | apply below_alloc | apply pw_below_drewN | apply below_drew1) | exact HB.out)⟩
                            ·rw [if_neg c97] at H
                             have c97b0 : (t590 == t541) = false := by simpa using c97
                             (try (have c97b1 : decide (t590 = t541) = false := by simpa using c97))
                             (try (have c97b2 : (t590 == t541) = false := by simpa using c97))
                             (try (have c97b3 : ¬ (t590 = t541) := by simpa using c97))
                             clear c97
                             exact absurd H (by simp)
                           ·rw [if_neg c96] at H
                            have c96b0 : (t587 == t544) = false := beq_eq_false_iff_ne.mpr c96
                            have c96b1 : (t587 != t544) = true := bne_iff_ne.mpr c96
                            exact absurd H (by simp)
                          ·replace c95 := Bool.eq_false_iff.mpr c95
                           subst c95
                           have H1 : (some false) = some true := by rw [if_neg (show ¬ (false = true) by decide)] at H; first | done | exact H
                           clear H
                           have H := H1
                           clear H1
                           exact absurd H (by simp)
                 ·replace c73 := Bool.eq_false_iff.mpr c73
                  subst c73
                  have H1 : (some true) = some true := by rw [if_neg (show ¬ (false = true) by decide)] at H; first | done | exact H
                  clear H
                  have H := H1
                  clear H1
                  clear H
                  go_wp2
                  repeat (go_quiet (fail); try go_wp2)
                  go_ret
                  exact ⟨by first | rfl | (simp [errW_none, errW_some] <;> rfl) | (simp [*, errW_none, errW_some] <;> rfl), by repeat (first | (with_reducible first | exact HB.out | apply below_alloc | apply pw_below_drewN | apply below_drew1) | exact HB.out)⟩

/-- THE ONE PURE STATEMENT of laws_FnRowsOfTables: yours. -/
def laws_FnRowsOfTables.Pure : Prop := ∀ (l0 : List Int) (l1 : List Int), l0.length ≤ maxLen → l0.length * 1 ≤ 140737488351232 → (∀ x ∈ l0, (Lit.int .u8 x).wf = true) → l1.length ≤ maxLen → l1.length * 1 ≤ 140737488351232 → (∀ x ∈ l1, (Lit.int .u8 x).wf = true) → ∃ k, laws_FnRowsOfTables.f k l0 l1 = some true
theorem laws_FnRowsOfTables.walk (P : laws_FnRowsOfTables.Pure) (a0 : Option Addr) (len0 cap0 : Nat) (z0 : List Int) (a1 : Option Addr) (len1 cap1 : Nat) (z1 : List Int) (w : World) (w0 : (a0 = none ∧ len0 = 0 ∧ cap0 = 0 ∧ z0 = []) ∨ ∃ x, a0 = some x ∧ len0 ≤ cap0 ∧ cap0 ≤ maxLen ∧ z0.length = cap0 ∧ (∀ i, i < z0.length → w.cell? (x.add i) = some (.int .u8 (z0.getD i 0))) ∧ ∀ n ∈ z0, (Lit.int .u8 n).wf = true) (y0 : len0 * 1 ≤ 140737488351232) (w1 : (a1 = none ∧ len1 = 0 ∧ cap1 = 0 ∧ z1 = []) ∨ ∃ x, a1 = some x ∧ len1 ≤ cap1 ∧ cap1 ≤ maxLen ∧ z1.length = cap1 ∧ (∀ i, i < z1.length → w.cell? (x.add i) = some (.int .u8 (z1.getD i 0))) ∧ ∀ n ∈ z1, (Lit.int .u8 n).wf = true) (y1 : len1 * 1 ≤ 140737488351232) :
  Calls Try.prog 6 #[.slice a0 len0 cap0, .slice a1 len1 cap1] w fun e w' => e = .returned (.bool true) ∧ Below w.heap.size w w' := by
 obtain ⟨l0, rfl, hr0, hm0, hw0, hc0⟩ := ReadsInt.ofRowC w0
 obtain ⟨l1, rfl, hr1, hm1, hw1, hc1⟩ := ReadsInt.ofRowC w1
 obtain ⟨k, h⟩ := P l0 l1 hm0 y0 hw0 hm1 y1 hw1
 refine (laws_FnRowsOfTables.calls k _ _ l0 _ _ l1 w (Kd.C_of_reads (d := (0 : Int)) (h1 := fun _ => rfl) hr0) hc0 (Kd.C_of_reads (d := (0 : Int)) (h1 := fun _ => rfl) hr1) hc1 h).mono ?_
 rintro e w' ⟨rfl, hd⟩
 exact ⟨rfl, hd⟩

end Go.Proofs.Ytbphdjnainlbhaa.R
