-- printed by wip/drv/xprint.py (our driver) out of the translation; Lean checks it
import Derived.Test.YtjgkcknopnollaaGreatQA2
namespace Go.Proofs.YtjgkcknopnollaaGreat.D
open Go.RowKit Go.Proofs.YtjgkcknopnollaaGreatW.PrintWords Go.Proofs.YtjgkcknopnollaaGreatW.PrintLast Go.Proofs.YtjgkcknopnollaaGreatW.PrintMore
attribute [local go_sem] max2_int min2_int max_two min_two max_three min_three max_four min_four   -- for this text's walks alone
set_option linter.unusedVariables false
set_option linter.unusedSimpArgs false

/-! ### laws_FnSemisAreFoldings: function 4 -/
mutual
def laws_FnSemisAreFoldings.j0 : Nat → List Int → List Int → List Int → Bool → Bool → Option (Bool)
  | 0, _, _, _, _, _ => none
  | k + 1, x1, x5, x6, x7, x94 => if x94 = true then (some false) else (if x7 = true then ((impl_IsFolding.f k x6).bind fun bt776 => ((impl_SemiOfFolding.f k x6).bind fun bt778 => ((impl_RainbowOf.f k (wrap64 ((x5.length : Int) / 2))).bind fun bt782 => ((impl_IsMeander.f k x5 bt782.1).bind fun bt786 => ((impl_WindingOf.f k x5).bind fun bt788 => (if bt776.2 = true then (if bt776.1 = true then (if 0 < (x6.length : Int) then (if (rd x6 0) = 0 then (if (x6.length : Int) = (wrap64 ((x5.length : Int) / 2)) then (if bt778.2 = true then ((laws_ySame.f k bt778.1 x5).bind fun t791 => (if t791 = true then (if bt782.2 = true then (if bt786.2 = true then (if bt786.1 = true then (if bt788.2 = true then (if bt788.1 > (wrap64 ((x5.length : Int) / 2)) then (some false) else (if (Int.tmod (wrap64 (bt788.1 - (wrap64 ((x5.length : Int) / 2)))) 2) = 0 then (laws_FnSemisAreFoldings.j1 k x1) else (some false))) else (some false)) else (some false)) else (some false)) else (some false)) else (some false))) else (some false)) else (some false)) else (some false)) else (none)) else (some false)) else (some false))))))) else (laws_FnSemisAreFoldings.j1 k x1))
def laws_FnSemisAreFoldings.j1 : Nat → List Int → Option (Bool)
  | 0, _ => none
  | k + 1, x1 => (spec_DrawSemiOfFolding.f k x1).bind fun t792 => ((impl_SemiOfFolding.f k t792).bind fun bt795 => ((spec_SemiOfFolding.f k t792).bind fun bt799 => (if (bt795.2 != bt799.2) = true then (laws_FnSemisAreFoldings.j2 k x1 t792 bt795.1 bt795.2 true) else ((laws_ySame.f k bt795.1 bt799.1).bind fun t803 => (laws_FnSemisAreFoldings.j2 k x1 t792 bt795.1 bt795.2 (!t803))))))
def laws_FnSemisAreFoldings.j2 : Nat → List Int → List Int → List Int → Bool → Bool → Option (Bool)
  | 0, _, _, _, _, _ => none
  | k + 1, x1, x25, x26, x27, x202 => if x202 = true then (some false) else (if x27 = true then ((impl_FoldingOfSemi.f k x26).bind fun bt804 => (if bt804.2 = true then ((laws_ySame.f k bt804.1 x25).bind fun t808 => (if t808 = true then (laws_FnSemisAreFoldings.j3 k x1) else (some false))) else (some false))) else (laws_FnSemisAreFoldings.j3 k x1))
def laws_FnSemisAreFoldings.j3 : Nat → List Int → Option (Bool)
  | 0, _ => none
  | k + 1, x1 => (spec_DrawSpreadOfWindings.f x1).bind fun t809 => ((impl_SpreadOfWindings.f k t809).bind fun bt810 => ((spec_SpreadOfWindings.f k t809).bind fun bt814 => ((impl_AllSemis.f k t809).bind fun bt818 => ((spec_AllSemis.f k t809).bind fun bt822 => (if (bt810.2 != bt814.2) = true then (laws_FnSemisAreFoldings.j4 k x1 true) else ((laws_ySame.f k bt810.1 bt814.1).bind fun t826 => (if t826 = true then (if (bt818.2 != bt822.2) = true then (laws_FnSemisAreFoldings.j4 k x1 true) else ((laws_yRows.f k bt818.1 bt822.1).bind fun t827 => (if t827 = true then (if (bt818.2 != bt810.2) = true then (laws_FnSemisAreFoldings.j4 k x1 true) else ((laws_ySum.f k bt810.1).bind fun t828 => (laws_FnSemisAreFoldings.j4 k x1 (t828 != (bt818.1.length : Int))))) else (laws_FnSemisAreFoldings.j4 k x1 true)))) else (laws_FnSemisAreFoldings.j4 k x1 true))))))))
def laws_FnSemisAreFoldings.j4 : Nat → List Int → Bool → Option (Bool)
  | 0, _, _ => none
  | k + 1, x1, x270 => if x270 = true then (some false) else ((spec_DrawWindingOf.f k x1).bind fun t829 => ((impl_WindingOf.f k t829).bind fun bt832 => ((spec_WindingOf.f k t829).bind fun bt834 => (if (bt832.2 == bt834.2) = true then (some (bt832.1 == bt834.1)) else (some false)))))
end
def laws_FnSemisAreFoldings.f (k : Nat) (l0 : List Int) (l1 : List Int) : Option (Bool) := (laws_big.f l0 l1).bind fun t759 => (if t759 = true then (some true) else ((spec_DrawFoldingOfSemi.f k l0).bind fun t760 => ((impl_FoldingOfSemi.f k t760).bind fun bt763 => ((spec_FoldingOfSemi.f k t760).bind fun bt767 => ((impl_IsSemi.f k t760).bind fun bt771 => ((spec_IsSemi.f k t760).bind fun bt773 => (if (bt763.2 != bt767.2) = true then (laws_FnSemisAreFoldings.j0 k l1 t760 bt763.1 bt763.2 true) else ((laws_ySame.f k bt763.1 bt767.1).bind fun t775 => (if t775 = true then (if (bt771.2 != bt773.2) = true then (laws_FnSemisAreFoldings.j0 k l1 t760 bt763.1 bt763.2 true) else (if (bt771.1 != bt773.1) = true then (laws_FnSemisAreFoldings.j0 k l1 t760 bt763.1 bt763.2 true) else (laws_FnSemisAreFoldings.j0 k l1 t760 bt763.1 bt763.2 (bt763.2 != bt771.1)))) else (laws_FnSemisAreFoldings.j0 k l1 t760 bt763.1 bt763.2 true))))))))))
set_option maxHeartbeats 8000000 in
set_option maxRecDepth 100000 in
theorem laws_FnSemisAreFoldings.calls (k : Nat) (A0 : Option Addr) (c0 : Nat) (l0 : List Int) (A1 : Option Addr) (c1 : Nat) (l1 : List Int) (w : World) (hr0 : Kd.C (Kd.int .u8) w A0 l0.length l0) (hc0 : l0.length ≤ c0) (hr1 : Kd.C (Kd.int .u8) w A1 l1.length l1) (hc1 : l1.length ≤ c1) (h : laws_FnSemisAreFoldings.f k l0 l1 = some true) :
    Calls Tryz.prog 4 #[.slice A0 l0.length c0, .slice A1 l1.length c1] w fun e w' => e = .returned (.bool true) ∧ Below w.heap.size w w' := by
  have hu45 := Tryz.underlying45
  have HR0 := Aside0.mk hr0
  have HC0 := Aside0.mk hc0
  clear hr0 hc0
  have HR1 := Aside0.mk hr1
  have HC1 := Aside0.mk hc1
  clear hr1 hc1
  have HB := Aside0.mk (Below.refl w.heap.size w)
  have H : ((laws_big.f l0 l1).bind fun t759 => (if t759 = true then (some true) else ((spec_DrawFoldingOfSemi.f k l0).bind fun t760 => ((impl_FoldingOfSemi.f k t760).bind fun bt763 => ((spec_FoldingOfSemi.f k t760).bind fun bt767 => ((impl_IsSemi.f k t760).bind fun bt771 => ((spec_IsSemi.f k t760).bind fun bt773 => (if (bt763.2 != bt767.2) = true then (laws_FnSemisAreFoldings.j0 k l1 t760 bt763.1 bt763.2 true) else ((laws_ySame.f k bt763.1 bt767.1).bind fun t775 => (if t775 = true then (if (bt771.2 != bt773.2) = true then (laws_FnSemisAreFoldings.j0 k l1 t760 bt763.1 bt763.2 true) else (if (bt771.1 != bt773.1) = true then (laws_FnSemisAreFoldings.j0 k l1 t760 bt763.1 bt763.2 true) else (laws_FnSemisAreFoldings.j0 k l1 t760 bt763.1 bt763.2 (bt763.2 != bt771.1)))) else (laws_FnSemisAreFoldings.j0 k l1 t760 bt763.1 bt763.2 true))))))))))) = some true := h
  clear h
  replace H := Option.bind_eq_some_iff.mp H
  obtain ⟨t759, A30, H⟩ := H
  replace H : (if t759 = true then (some true) else ((spec_DrawFoldingOfSemi.f k l0).bind fun t760 => ((impl_FoldingOfSemi.f k t760).bind fun bt763 => ((spec_FoldingOfSemi.f k t760).bind fun bt767 => ((impl_IsSemi.f k t760).bind fun bt771 => ((spec_IsSemi.f k t760).bind fun bt773 => (if (bt763.2 != bt767.2) = true then (laws_FnSemisAreFoldings.j0 k l1 t760 bt763.1 bt763.2 true) else ((laws_ySame.f k bt763.1 bt767.1).bind fun t775 => (if t775 = true then (if (bt771.2 != bt773.2) = true then (laws_FnSemisAreFoldings.j0 k l1 t760 bt763.1 bt763.2 true) else (if (bt771.1 != bt773.1) = true then (laws_FnSemisAreFoldings.j0 k l1 t760 bt763.1 bt763.2 true) else (laws_FnSemisAreFoldings.j0 k l1 t760 bt763.1 bt763.2 (bt763.2 != bt771.1)))) else (laws_FnSemisAreFoldings.j0 k l1 t760 bt763.1 bt763.2 true)))))))))) = some true := H
  have A3 := Aside0.mk A30
  clear A30
  by_cases c4 : t759 = true
  · subst c4
    have H1 : (some true) = some true := by rw [if_pos rfl] at H; first | done | exact H
    clear H
    have H := H1
    clear H1
    clear H
    go_enter Tryz.func4, Tryz.ntmps4
    go_wp2_with (first | ((with_reducible refine gate_callee (f := 5) rfl ?_); refine goesL_ (some 48) rfl rfl Tryz.func5 (by kernel_rfl) rfl #[.slice A0 l0.length c0, .slice A1 l1.length c1] rfl (by (try simp only [List.map_toArray, List.map_cons, List.map_nil]); first | done | rfl | (simp only [List.length_drop, List.length_take]; rfl)) ?_; (with_reducible refine (laws_big.calls _ _ l0 _ _ l1 true _ ?side1 ?side2 ?side3 ?side4 A3.out).mono ?_); (case side1 => repeat (first | exact HR0.out | (with_reducible refine Kd.C_alloc ?_ _) | (with_reducible refine Kd.C_drewN ?_ _) | (with_reducible refine Kd.C_drew ?_))); (case side2 => exact HC0.out); (case side3 => repeat (first | exact HR1.out | (with_reducible refine Kd.C_alloc ?_ _) | (with_reducible refine Kd.C_drewN ?_ _) | (with_reducible refine Kd.C_drew ?_))); (case side4 => exact HC1.out); rintro e w' ⟨rfl, ⟨nd, rfl⟩⟩; refine ⟨_, rfl, ?_⟩))
    go_ret
    exact ⟨by first | rfl | (simp [errW_none, errW_some] <;> rfl) | (simp [*, errW_none, errW_some] <;> rfl), by repeat (first | (with_reducible first | exact HB.out | apply below_alloc | apply pw_below_drewN | apply below_drew1) | exact HB.out)⟩
  · replace c4 := Bool.eq_false_iff.mpr c4
    subst c4
    have H1 : ((spec_DrawFoldingOfSemi.f k l0).bind fun t760 => ((impl_FoldingOfSemi.f k t760).bind fun bt763 => ((spec_FoldingOfSemi.f k t760).bind fun bt767 => ((impl_IsSemi.f k t760).bind fun bt771 => ((spec_IsSemi.f k t760).bind fun bt773 => (if (bt763.2 != bt767.2) = true then (laws_FnSemisAreFoldings.j0 k l1 t760 bt763.1 bt763.2 true) else ((laws_ySame.f k bt763.1 bt767.1).bind fun t775 => (if t775 = true then (if (bt771.2 != bt773.2) = true then (laws_FnSemisAreFoldings.j0 k l1 t760 bt763.1 bt763.2 true) else (if (bt771.1 != bt773.1) = true then (laws_FnSemisAreFoldings.j0 k l1 t760 bt763.1 bt763.2 true) else (laws_FnSemisAreFoldings.j0 k l1 t760 bt763.1 bt763.2 (bt763.2 != bt771.1)))) else (laws_FnSemisAreFoldings.j0 k l1 t760 bt763.1 bt763.2 true))))))))) = some true := by rw [if_neg (show ¬ (false = true) by decide)] at H; first | done | exact H
    clear H
    have H := H1
    clear H1
    replace H := Option.bind_eq_some_iff.mp H
    obtain ⟨t760, A50, H⟩ := H
    replace H : ((impl_FoldingOfSemi.f k t760).bind fun bt763 => ((spec_FoldingOfSemi.f k t760).bind fun bt767 => ((impl_IsSemi.f k t760).bind fun bt771 => ((spec_IsSemi.f k t760).bind fun bt773 => (if (bt763.2 != bt767.2) = true then (laws_FnSemisAreFoldings.j0 k l1 t760 bt763.1 bt763.2 true) else ((laws_ySame.f k bt763.1 bt767.1).bind fun t775 => (if t775 = true then (if (bt771.2 != bt773.2) = true then (laws_FnSemisAreFoldings.j0 k l1 t760 bt763.1 bt763.2 true) else (if (bt771.1 != bt773.1) = true then (laws_FnSemisAreFoldings.j0 k l1 t760 bt763.1 bt763.2 true) else (laws_FnSemisAreFoldings.j0 k l1 t760 bt763.1 bt763.2 (bt763.2 != bt771.1)))) else (laws_FnSemisAreFoldings.j0 k l1 t760 bt763.1 bt763.2 true)))))))) = some true := H
    have A5 := Aside0.mk A50
    clear A50
    replace H := Option.bind_eq_some_iff.mp H
    obtain ⟨⟨t763, t764⟩, A60, H⟩ := H
    replace H : ((spec_FoldingOfSemi.f k t760).bind fun bt767 => ((impl_IsSemi.f k t760).bind fun bt771 => ((spec_IsSemi.f k t760).bind fun bt773 => (if (t764 != bt767.2) = true then (laws_FnSemisAreFoldings.j0 k l1 t760 t763 t764 true) else ((laws_ySame.f k t763 bt767.1).bind fun t775 => (if t775 = true then (if (bt771.2 != bt773.2) = true then (laws_FnSemisAreFoldings.j0 k l1 t760 t763 t764 true) else (if (bt771.1 != bt773.1) = true then (laws_FnSemisAreFoldings.j0 k l1 t760 t763 t764 true) else (laws_FnSemisAreFoldings.j0 k l1 t760 t763 t764 (t764 != bt771.1)))) else (laws_FnSemisAreFoldings.j0 k l1 t760 t763 t764 true))))))) = some true := H
    have A6 := Aside0.mk A60
    clear A60
    replace H := Option.bind_eq_some_iff.mp H
    obtain ⟨⟨t767, t768⟩, A70, H⟩ := H
    replace H : ((impl_IsSemi.f k t760).bind fun bt771 => ((spec_IsSemi.f k t760).bind fun bt773 => (if (t764 != t768) = true then (laws_FnSemisAreFoldings.j0 k l1 t760 t763 t764 true) else ((laws_ySame.f k t763 t767).bind fun t775 => (if t775 = true then (if (bt771.2 != bt773.2) = true then (laws_FnSemisAreFoldings.j0 k l1 t760 t763 t764 true) else (if (bt771.1 != bt773.1) = true then (laws_FnSemisAreFoldings.j0 k l1 t760 t763 t764 true) else (laws_FnSemisAreFoldings.j0 k l1 t760 t763 t764 (t764 != bt771.1)))) else (laws_FnSemisAreFoldings.j0 k l1 t760 t763 t764 true)))))) = some true := H
    have A7 := Aside0.mk A70
    clear A70
    replace H := Option.bind_eq_some_iff.mp H
    obtain ⟨⟨t771, t772⟩, A80, H⟩ := H
    replace H : ((spec_IsSemi.f k t760).bind fun bt773 => (if (t764 != t768) = true then (laws_FnSemisAreFoldings.j0 k l1 t760 t763 t764 true) else ((laws_ySame.f k t763 t767).bind fun t775 => (if t775 = true then (if (t772 != bt773.2) = true then (laws_FnSemisAreFoldings.j0 k l1 t760 t763 t764 true) else (if (t771 != bt773.1) = true then (laws_FnSemisAreFoldings.j0 k l1 t760 t763 t764 true) else (laws_FnSemisAreFoldings.j0 k l1 t760 t763 t764 (t764 != t771)))) else (laws_FnSemisAreFoldings.j0 k l1 t760 t763 t764 true))))) = some true := H
    have A8 := Aside0.mk A80
    clear A80
    replace H := Option.bind_eq_some_iff.mp H
    obtain ⟨⟨t773, t774⟩, A90, H⟩ := H
    replace H : (if (t764 != t768) = true then (laws_FnSemisAreFoldings.j0 k l1 t760 t763 t764 true) else ((laws_ySame.f k t763 t767).bind fun t775 => (if t775 = true then (if (t772 != t774) = true then (laws_FnSemisAreFoldings.j0 k l1 t760 t763 t764 true) else (if (t771 != t773) = true then (laws_FnSemisAreFoldings.j0 k l1 t760 t763 t764 true) else (laws_FnSemisAreFoldings.j0 k l1 t760 t763 t764 (t764 != t771)))) else (laws_FnSemisAreFoldings.j0 k l1 t760 t763 t764 true)))) = some true := H
    have A9 := Aside0.mk A90
    clear A90
    have HC10 := Aside0.mk H
    clear H
    go_enter Tryz.func4, Tryz.ntmps4
    go_upto_region 8 with (first | ((with_reducible refine gate_callee (f := 5) rfl ?_); refine goesL_ (some 48) rfl rfl Tryz.func5 (by kernel_rfl) rfl #[.slice A0 l0.length c0, .slice A1 l1.length c1] rfl (by (try simp only [List.map_toArray, List.map_cons, List.map_nil]); first | done | rfl | (simp only [List.length_drop, List.length_take]; rfl)) ?_; (with_reducible refine (laws_big.calls _ _ l0 _ _ l1 false _ ?side1 ?side2 ?side3 ?side4 A3.out).mono ?_); (case side1 => repeat (first | exact HR0.out | (with_reducible refine Kd.C_alloc ?_ _) | (with_reducible refine Kd.C_drewN ?_ _) | (with_reducible refine Kd.C_drew ?_))); (case side2 => exact HC0.out); (case side3 => repeat (first | exact HR1.out | (with_reducible refine Kd.C_alloc ?_ _) | (with_reducible refine Kd.C_drewN ?_ _) | (with_reducible refine Kd.C_drew ?_))); (case side4 => exact HC1.out); rintro e w' ⟨rfl, ⟨nd, rfl⟩⟩; refine ⟨_, rfl, ?_⟩) | ((with_reducible refine gate_callee (f := 27) rfl ?_); refine goesL_ (some 50) rfl rfl Tryz.func27 (by kernel_rfl) rfl #[.slice A0 l0.length c0] rfl (by (try simp only [List.map_toArray, List.map_cons, List.map_nil]); first | done | rfl | (simp only [List.length_drop, List.length_take]; rfl)) ?_; (with_reducible refine (spec_DrawFoldingOfSemi.calls k _ _ l0 t760 _ ?side1 ?side2 A5.out).mono ?_); (case side1 => repeat (first | exact HR0.out | (with_reducible refine Kd.C_alloc ?_ _) | (with_reducible refine Kd.C_drewN ?_ _) | (with_reducible refine Kd.C_drew ?_))); (case side2 => exact HC0.out); rintro e w11 ⟨v761, rfl, ho0, hb⟩; refine ⟨_, rfl, ?_⟩; have n0_ := Aside0.mk (Kd.R_lower ho0 (below_size (by repeat (first | (with_reducible first | exact HB.out | apply below_alloc | apply pw_below_drewN | apply below_drew1) | exact HB.out)))); have n1_ := Aside0.mk (below_step (by repeat (first | (with_reducible first | exact HB.out | apply below_alloc | apply pw_below_drewN | apply below_drew1) | exact HB.out)) hb); clear HB; have HO762 := n0_; have HB := n1_; clear n0_ n1_; (try clear hb); (try clear hb2); (try clear hk); (try clear hi); (try clear ho0); obtain ⟨Ao12, co12, eo12⟩ := Kd.R_slice HO762.out; subst eo12) | ((with_reducible refine gate_callee (f := 28) rfl ?_); refine goesL_ (some 53) rfl rfl Tryz.func28 (by kernel_rfl) rfl #[.slice Ao12 t760.length co12] rfl (by (try simp only [List.map_toArray, List.map_cons, List.map_nil]); first | done | rfl | (simp only [List.length_drop, List.length_take]; rfl)) ?_; (with_reducible refine (impl_FoldingOfSemi.calls k _ _ t760 t763 t764 _ ?side1 ?side2 A6.out).mono ?_); (case side1 => repeat (first | exact (Kd.R_reads' HO762.out).2.2 | (with_reducible refine Kd.C_alloc ?_ _) | (with_reducible refine Kd.C_drewN ?_ _) | (with_reducible refine Kd.C_drew ?_))); (case side2 => exact (Kd.R_reads' HO762.out).2.1); rintro e w13 ⟨v765, rfl, ho0, hb⟩; refine ⟨_, rfl, ?_⟩; have n0_ := Aside0.mk (Kd.R_elder' (by (with_reducible repeat (first | apply Kd.R_alloc | apply Kd.R_drewN | apply Kd.R_drew)); exact HO762.out) (Kd.R_base ho0) hb); have n1_ := Aside0.mk (Kd.R_lower (Kd.R_new' ho0 (Kd.R_lt (by (with_reducible repeat (first | apply Kd.R_alloc | apply Kd.R_drewN | apply Kd.R_drew)); exact HO762.out))) (below_size (by repeat (first | (with_reducible first | exact HB.out | apply below_alloc | apply pw_below_drewN | apply below_drew1) | exact HB.out)))); have n2_ := Aside0.mk (below_step (by repeat (first | (with_reducible first | exact HB.out | apply below_alloc | apply pw_below_drewN | apply below_drew1) | exact HB.out)) hb); clear HO762; clear HB; have HO762 := n0_; have HO766 := n1_; have HB := n2_; clear n0_ n1_ n2_; (try clear hb); (try clear hb2); (try clear hk); (try clear hi); (try clear ho0)) | ((with_reducible refine gate_callee (f := 29) rfl ?_); refine goesL_ (some 58) rfl rfl Tryz.func29 (by kernel_rfl) rfl #[.slice Ao12 t760.length co12] rfl (by (try simp only [List.map_toArray, List.map_cons, List.map_nil]); first | done | rfl | (simp only [List.length_drop, List.length_take]; rfl)) ?_; (with_reducible refine (spec_FoldingOfSemi.calls k _ _ t760 t767 t768 _ ?side1 ?side2 A7.out).mono ?_); (case side1 => repeat (first | exact (Kd.R_reads' HO762.out).2.2 | (with_reducible refine Kd.C_alloc ?_ _) | (with_reducible refine Kd.C_drewN ?_ _) | (with_reducible refine Kd.C_drew ?_))); (case side2 => exact (Kd.R_reads' HO762.out).2.1); rintro e w14 ⟨v769, rfl, ho0, hb⟩; refine ⟨_, rfl, ?_⟩; have n0_ := Aside0.mk (Kd.R_elder' (by (with_reducible repeat (first | apply Kd.R_alloc | apply Kd.R_drewN | apply Kd.R_drew)); exact HO762.out) (Kd.R_base ho0) hb); have n1_ := Aside0.mk (Kd.R_elder' (by (with_reducible repeat (first | apply Kd.R_alloc | apply Kd.R_drewN | apply Kd.R_drew)); exact HO766.out) (Kd.R_base ho0) hb); have n2_ := Aside0.mk (Kd.R_lower (Kd.R_new' (Kd.R_new' ho0 (Kd.R_lt (by (with_reducible repeat (first | apply Kd.R_alloc | apply Kd.R_drewN | apply Kd.R_drew)); exact HO762.out))) (Kd.R_lt (by (with_reducible repeat (first | apply Kd.R_alloc | apply Kd.R_drewN | apply Kd.R_drew)); exact HO766.out))) (below_size (by repeat (first | (with_reducible first | exact HB.out | apply below_alloc | apply pw_below_drewN | apply below_drew1) | exact HB.out)))); have n3_ := Aside0.mk (below_step (by repeat (first | (with_reducible first | exact HB.out | apply below_alloc | apply pw_below_drewN | apply below_drew1) | exact HB.out)) hb); clear HO762; clear HO766; clear HB; have HO762 := n0_; have HO766 := n1_; have HO770 := n2_; have HB := n3_; clear n0_ n1_ n2_ n3_; (try clear hb); (try clear hb2); (try clear hk); (try clear hi); (try clear ho0)) | ((with_reducible refine gate_callee (f := 30) rfl ?_); refine goesL_ (some 63) rfl rfl Tryz.func30 (by kernel_rfl) rfl #[.slice Ao12 t760.length co12] rfl (by (try simp only [List.map_toArray, List.map_cons, List.map_nil]); first | done | rfl | (simp only [List.length_drop, List.length_take]; rfl)) ?_; (with_reducible refine (impl_IsSemi.calls k _ _ t760 t771 t772 _ ?side1 ?side2 A8.out).mono ?_); (case side1 => repeat (first | exact (Kd.R_reads' HO762.out).2.2 | (with_reducible refine Kd.C_alloc ?_ _) | (with_reducible refine Kd.C_drewN ?_ _) | (with_reducible refine Kd.C_drew ?_))); (case side2 => exact (Kd.R_reads' HO762.out).2.1); rintro e w15 ⟨rfl, hb⟩; refine ⟨_, rfl, ?_⟩; have n0_ := Aside0.mk (Kd.R_below (by (with_reducible repeat (first | apply Kd.R_alloc | apply Kd.R_drewN | apply Kd.R_drew)); exact HO762.out) hb); have n1_ := Aside0.mk (Kd.R_below (by (with_reducible repeat (first | apply Kd.R_alloc | apply Kd.R_drewN | apply Kd.R_drew)); exact HO766.out) hb); have n2_ := Aside0.mk (Kd.R_below (by (with_reducible repeat (first | apply Kd.R_alloc | apply Kd.R_drewN | apply Kd.R_drew)); exact HO770.out) hb); have n3_ := Aside0.mk (below_step (by repeat (first | (with_reducible first | exact HB.out | apply below_alloc | apply pw_below_drewN | apply below_drew1) | exact HB.out)) hb); clear HO762; clear HO766; clear HO770; clear HB; have HO762 := n0_; have HO766 := n1_; have HO770 := n2_; have HB := n3_; clear n0_ n1_ n2_ n3_; (try clear hb); (try clear hb2); (try clear hk); (try clear hi)) | ((with_reducible refine gate_callee (f := 31) rfl ?_); refine goesL_ (some 68) rfl rfl Tryz.func31 (by kernel_rfl) rfl #[.slice Ao12 t760.length co12] rfl (by (try simp only [List.map_toArray, List.map_cons, List.map_nil]); first | done | rfl | (simp only [List.length_drop, List.length_take]; rfl)) ?_; (with_reducible refine (spec_IsSemi.calls k _ _ t760 t773 t774 _ ?side1 ?side2 A9.out).mono ?_); (case side1 => repeat (first | exact (Kd.R_reads' HO762.out).2.2 | (with_reducible refine Kd.C_alloc ?_ _) | (with_reducible refine Kd.C_drewN ?_ _) | (with_reducible refine Kd.C_drew ?_))); (case side2 => exact (Kd.R_reads' HO762.out).2.1); rintro e w16 ⟨rfl, hb⟩; refine ⟨_, rfl, ?_⟩; have n0_ := Aside0.mk (Kd.R_below (by (with_reducible repeat (first | apply Kd.R_alloc | apply Kd.R_drewN | apply Kd.R_drew)); exact HO762.out) hb); have n1_ := Aside0.mk (Kd.R_below (by (with_reducible repeat (first | apply Kd.R_alloc | apply Kd.R_drewN | apply Kd.R_drew)); exact HO766.out) hb); have n2_ := Aside0.mk (Kd.R_below (by (with_reducible repeat (first | apply Kd.R_alloc | apply Kd.R_drewN | apply Kd.R_drew)); exact HO770.out) hb); have n3_ := Aside0.mk (below_step (by repeat (first | (with_reducible first | exact HB.out | apply below_alloc | apply pw_below_drewN | apply below_drew1) | exact HB.out)) hb); clear HO762; clear HO766; clear HO770; clear HB; have HO762 := n0_; have HO766 := n1_; have HO770 := n2_; have HB := n3_; clear n0_ n1_ n2_ n3_; (try clear hb); (try clear hb2); (try clear hk); (try clear hi)))
    (try simp only [Act.put, List.setIfInBounds_toArray, List.set_cons_zero, List.set_cons_succ])
    go_cut [94] from 46 to 94 (fun v94 wc => ∃ (kq : Nat) (x94_9 : Bool), v94 = .bool x94_9 ∧ Aside0 (laws_FnSemisAreFoldings.j0 kq l1 t760 t763 t764 x94_9 = some true) ∧ Aside0 (kq ≤ k) ∧ Aside0 (Kd.R (Kd.int .i64) 3 wc w.heap.size (fun k_ => some k_ ≠ (v765 : Value).ownBlock) (.slice Ao12 t760.length co12) t760) ∧ Aside0 (Kd.R (Kd.int .i64) 3 wc w.heap.size (fun k_ => some k_ ≠ ((.slice Ao12 t760.length co12) : Value).ownBlock) v765 t763) ∧ Aside0 (Below w.heap.size w wc))
    case first =>
      have H := HC10.out
      clear HC10
      by_cases c17 : (t764 != t768) = true
      · rw [if_pos c17] at H
        have c17b0 : (t764 != t768) = true := c17
        (try (have c17b1 : decide (t764 = t768) = false := by simpa using c17))
        (try (have c17b2 : (t764 == t768) = false := by simpa using c17))
        (try (have c17b3 : ¬ (t764 = t768) := by simpa using c17))
        clear c17
        (first | rw [c17b0] | (simp only [i64_w, i32_w]; rw [c17b0]) | skip)
        have H' := Aside0.mk H
        clear H
        go_wp2
        go_meet
        case rel => exact ⟨_, (true), (by first | rfl | (simp; done) | (simp [*]; done)), H', ⟨by first | omega | exact Nat.le_refl _⟩, ⟨by (with_reducible repeat (first | apply Kd.R_alloc | apply Kd.R_drewN | apply Kd.R_drew)); exact Kd.R_mono HO762.out (fun _ hk => hk.1.2)⟩, ⟨by (with_reducible repeat (first | apply Kd.R_alloc | apply Kd.R_drewN | apply Kd.R_drew)); exact Kd.R_mono HO766.out (fun _ hk => hk.1.2)⟩, ⟨by repeat (first | (with_reducible first | exact HB.out | apply below_alloc | apply pw_below_drewN | apply below_drew1) | exact HB.out)⟩⟩
      · rw [if_neg c17] at H
        have c17b0 : (t764 != t768) = false := by simpa using c17
        (try (have c17b1 : decide (t764 = t768) = true := by simpa using c17))
        (try (have c17b2 : (t764 == t768) = true := by simpa using c17))
        clear c17
        (first | rw [c17b0] | (simp only [i64_w, i32_w]; rw [c17b0]) | skip)
        replace H := Option.bind_eq_some_iff.mp H
        obtain ⟨t775, A180, H⟩ := H
        replace H : (if t775 = true then (if (t772 != t774) = true then (laws_FnSemisAreFoldings.j0 k l1 t760 t763 t764 true) else (if (t771 != t773) = true then (laws_FnSemisAreFoldings.j0 k l1 t760 t763 t764 true) else (laws_FnSemisAreFoldings.j0 k l1 t760 t763 t764 (t764 != t771)))) else (laws_FnSemisAreFoldings.j0 k l1 t760 t763 t764 true)) = some true := H
        have A18 := Aside0.mk A180
        clear A180
        by_cases c19 : t775 = true
        · subst c19
          have H1 : (if (t772 != t774) = true then (laws_FnSemisAreFoldings.j0 k l1 t760 t763 t764 true) else (if (t771 != t773) = true then (laws_FnSemisAreFoldings.j0 k l1 t760 t763 t764 true) else (laws_FnSemisAreFoldings.j0 k l1 t760 t763 t764 (t764 != t771)))) = some true := by rw [if_pos rfl] at H; first | done | exact H
          clear H
          have H := H1
          clear H1
          by_cases c20 : (t772 != t774) = true
          · rw [if_pos c20] at H
            have c20b0 : (t772 != t774) = true := c20
            (try (have c20b1 : decide (t772 = t774) = false := by simpa using c20))
            (try (have c20b2 : (t772 == t774) = false := by simpa using c20))
            (try (have c20b3 : ¬ (t772 = t774) := by simpa using c20))
            clear c20
            have H' := Aside0.mk H
            clear H
            obtain ⟨Ao21, co21, eo21⟩ := Kd.R_slice HO766.out
            subst eo21
            obtain ⟨Ao22, co22, eo22⟩ := Kd.R_slice HO770.out
            subst eo22
            go_wp2_with (first | (go_at_call 24; (with_reducible refine (laws_ySame.calls k _ _ t763 _ _ t767 true _ ?side1 ?side2 ?side3 ?side4 A18.out).mono ?_); (case side1 => repeat (first | exact (Kd.R_reads' HO766.out).2.2 | (with_reducible refine Kd.C_alloc ?_ _) | (with_reducible refine Kd.C_drewN ?_ _) | (with_reducible refine Kd.C_drew ?_))); (case side2 => exact (Kd.R_reads' HO766.out).2.1); (case side3 => repeat (first | exact (Kd.R_reads' HO770.out).2.2 | (with_reducible refine Kd.C_alloc ?_ _) | (with_reducible refine Kd.C_drewN ?_ _) | (with_reducible refine Kd.C_drew ?_))); (case side4 => exact (Kd.R_reads' HO770.out).2.1); rintro e w' ⟨rfl, ⟨nd, rfl⟩⟩))
            go_meet
            case rel => exact ⟨_, (true), (by first | rfl | (simp; done) | (simp [*]; done)), H', ⟨by first | omega | exact Nat.le_refl _⟩, ⟨by (with_reducible repeat (first | apply Kd.R_alloc | apply Kd.R_drewN | apply Kd.R_drew)); exact Kd.R_mono HO762.out (fun _ hk => hk.1.2)⟩, ⟨by (with_reducible repeat (first | apply Kd.R_alloc | apply Kd.R_drewN | apply Kd.R_drew)); exact Kd.R_mono HO766.out (fun _ hk => hk.1.2)⟩, ⟨by repeat (first | (with_reducible first | exact HB.out | apply below_alloc | apply pw_below_drewN | apply below_drew1) | exact HB.out)⟩⟩
          · rw [if_neg c20] at H
            have c20b0 : (t772 != t774) = false := by simpa using c20
            (try (have c20b1 : decide (t772 = t774) = true := by simpa using c20))
            (try (have c20b2 : (t772 == t774) = true := by simpa using c20))
            clear c20
            by_cases c23 : (t771 != t773) = true
            · rw [if_pos c23] at H
              have c23b0 : (t771 != t773) = true := c23
              (try (have c23b1 : decide (t771 = t773) = false := by simpa using c23))
              (try (have c23b2 : (t771 == t773) = false := by simpa using c23))
              (try (have c23b3 : ¬ (t771 = t773) := by simpa using c23))
              clear c23
              have H' := Aside0.mk H
              clear H
              obtain ⟨Ao24, co24, eo24⟩ := Kd.R_slice HO766.out
              subst eo24
              obtain ⟨Ao25, co25, eo25⟩ := Kd.R_slice HO770.out
              subst eo25
              go_wp2_with (first | (go_at_call 24; (with_reducible refine (laws_ySame.calls k _ _ t763 _ _ t767 true _ ?side1 ?side2 ?side3 ?side4 A18.out).mono ?_); (case side1 => repeat (first | exact (Kd.R_reads' HO766.out).2.2 | (with_reducible refine Kd.C_alloc ?_ _) | (with_reducible refine Kd.C_drewN ?_ _) | (with_reducible refine Kd.C_drew ?_))); (case side2 => exact (Kd.R_reads' HO766.out).2.1); (case side3 => repeat (first | exact (Kd.R_reads' HO770.out).2.2 | (with_reducible refine Kd.C_alloc ?_ _) | (with_reducible refine Kd.C_drewN ?_ _) | (with_reducible refine Kd.C_drew ?_))); (case side4 => exact (Kd.R_reads' HO770.out).2.1); rintro e w' ⟨rfl, ⟨nd, rfl⟩⟩))
              go_meet
              case rel => exact ⟨_, (true), (by first | rfl | (simp; done) | (simp [*]; done)), H', ⟨by first | omega | exact Nat.le_refl _⟩, ⟨by (with_reducible repeat (first | apply Kd.R_alloc | apply Kd.R_drewN | apply Kd.R_drew)); exact Kd.R_mono HO762.out (fun _ hk => hk.1.2)⟩, ⟨by (with_reducible repeat (first | apply Kd.R_alloc | apply Kd.R_drewN | apply Kd.R_drew)); exact Kd.R_mono HO766.out (fun _ hk => hk.1.2)⟩, ⟨by repeat (first | (with_reducible first | exact HB.out | apply below_alloc | apply pw_below_drewN | apply below_drew1) | exact HB.out)⟩⟩
            · rw [if_neg c23] at H
              have c23b0 : (t771 != t773) = false := by simpa using c23
              (try (have c23b1 : decide (t771 = t773) = true := by simpa using c23))
              (try (have c23b2 : (t771 == t773) = true := by simpa using c23))
              clear c23
              have H' := Aside0.mk H
              clear H
              obtain ⟨Ao26, co26, eo26⟩ := Kd.R_slice HO766.out
              subst eo26
              obtain ⟨Ao27, co27, eo27⟩ := Kd.R_slice HO770.out
              subst eo27
              go_wp2_with (first | (go_at_call 24; (with_reducible refine (laws_ySame.calls k _ _ t763 _ _ t767 true _ ?side1 ?side2 ?side3 ?side4 A18.out).mono ?_); (case side1 => repeat (first | exact (Kd.R_reads' HO766.out).2.2 | (with_reducible refine Kd.C_alloc ?_ _) | (with_reducible refine Kd.C_drewN ?_ _) | (with_reducible refine Kd.C_drew ?_))); (case side2 => exact (Kd.R_reads' HO766.out).2.1); (case side3 => repeat (first | exact (Kd.R_reads' HO770.out).2.2 | (with_reducible refine Kd.C_alloc ?_ _) | (with_reducible refine Kd.C_drewN ?_ _) | (with_reducible refine Kd.C_drew ?_))); (case side4 => exact (Kd.R_reads' HO770.out).2.1); rintro e w' ⟨rfl, ⟨nd, rfl⟩⟩))
              go_meet
              case rel => exact ⟨_, ((t764 != t771)), (by first | rfl | (simp; done) | (simp [*]; done)), H', ⟨by first | omega | exact Nat.le_refl _⟩, ⟨by (with_reducible repeat (first | apply Kd.R_alloc | apply Kd.R_drewN | apply Kd.R_drew)); exact Kd.R_mono HO762.out (fun _ hk => hk.1.2)⟩, ⟨by (with_reducible repeat (first | apply Kd.R_alloc | apply Kd.R_drewN | apply Kd.R_drew)); exact Kd.R_mono HO766.out (fun _ hk => hk.1.2)⟩, ⟨by repeat (first | (with_reducible first | exact HB.out | apply below_alloc | apply pw_below_drewN | apply below_drew1) | exact HB.out)⟩⟩
        · replace c19 := Bool.eq_false_iff.mpr c19
          subst c19
          have H1 : (laws_FnSemisAreFoldings.j0 k l1 t760 t763 t764 true) = some true := by rw [if_neg (show ¬ (false = true) by decide)] at H; first | done | exact H
          clear H
          have H := H1
          clear H1
          have H' := Aside0.mk H
          clear H
          obtain ⟨Ao28, co28, eo28⟩ := Kd.R_slice HO766.out
          subst eo28
          obtain ⟨Ao29, co29, eo29⟩ := Kd.R_slice HO770.out
          subst eo29
          go_wp2_with (first | (go_at_call 24; (with_reducible refine (laws_ySame.calls k _ _ t763 _ _ t767 false _ ?side1 ?side2 ?side3 ?side4 A18.out).mono ?_); (case side1 => repeat (first | exact (Kd.R_reads' HO766.out).2.2 | (with_reducible refine Kd.C_alloc ?_ _) | (with_reducible refine Kd.C_drewN ?_ _) | (with_reducible refine Kd.C_drew ?_))); (case side2 => exact (Kd.R_reads' HO766.out).2.1); (case side3 => repeat (first | exact (Kd.R_reads' HO770.out).2.2 | (with_reducible refine Kd.C_alloc ?_ _) | (with_reducible refine Kd.C_drewN ?_ _) | (with_reducible refine Kd.C_drew ?_))); (case side4 => exact (Kd.R_reads' HO770.out).2.1); rintro e w' ⟨rfl, ⟨nd, rfl⟩⟩))
          go_meet
          case rel => exact ⟨_, (true), (by first | rfl | (simp; done) | (simp [*]; done)), H', ⟨by first | omega | exact Nat.le_refl _⟩, ⟨by (with_reducible repeat (first | apply Kd.R_alloc | apply Kd.R_drewN | apply Kd.R_drew)); exact Kd.R_mono HO762.out (fun _ hk => hk.1.2)⟩, ⟨by (with_reducible repeat (first | apply Kd.R_alloc | apply Kd.R_drewN | apply Kd.R_drew)); exact Kd.R_mono HO766.out (fun _ hk => hk.1.2)⟩, ⟨by repeat (first | (with_reducible first | exact HB.out | apply below_alloc | apply pw_below_drewN | apply below_drew1) | exact HB.out)⟩⟩
    case rest =>
      clear HC10
      try clear c1
      try clear c2
      try clear p2
      try clear c3
      try clear c4
      try clear c5
      try clear c17
      try clear c17b0
      try clear c17b1
      try clear c17b2
      try clear c19
      try clear c20
      try clear c20b0
      try clear c20b1
      try clear c20b2
      try clear c23
      try clear c23b0
      try clear c23b1
      try clear c23b2
      try clear c27
      try clear c28
      try clear c29
      obtain ⟨kq, x94_9, rfl, HA, HJ9, HO_5, HO_6, HB⟩ := hcut
      as_aux_lemma =>
        cases kq with
        | zero => exact absurd HA.out (by simp [laws_FnSemisAreFoldings.j0])
        | succ kj9 =>
          have H := HA.out
          clear HA
          simp only [laws_FnSemisAreFoldings.j0] at H
          by_cases c30 : x94_9 = true
          · subst c30
            have H1 : (some false) = some true := by rw [if_pos rfl] at H; first | done | exact H
            clear H
            have H := H1
            clear H1
            exact absurd H (by simp)
          · replace c30 := Bool.eq_false_iff.mpr c30
            subst c30
            have H1 : (if t764 = true then ((impl_IsFolding.f kj9 t763).bind fun bt776 => ((impl_SemiOfFolding.f kj9 t763).bind fun bt778 => ((impl_RainbowOf.f kj9 (wrap64 ((t760.length : Int) / 2))).bind fun bt782 => ((impl_IsMeander.f kj9 t760 bt782.1).bind fun bt786 => ((impl_WindingOf.f kj9 t760).bind fun bt788 => (if bt776.2 = true then (if bt776.1 = true then (if 0 < (t763.length : Int) then (if (rd t763 0) = 0 then (if (t763.length : Int) = (wrap64 ((t760.length : Int) / 2)) then (if bt778.2 = true then ((laws_ySame.f kj9 bt778.1 t760).bind fun t791 => (if t791 = true then (if bt782.2 = true then (if bt786.2 = true then (if bt786.1 = true then (if bt788.2 = true then (if bt788.1 > (wrap64 ((t760.length : Int) / 2)) then (some false) else (if (Int.tmod (wrap64 (bt788.1 - (wrap64 ((t760.length : Int) / 2)))) 2) = 0 then (laws_FnSemisAreFoldings.j1 kj9 l1) else (some false))) else (some false)) else (some false)) else (some false)) else (some false)) else (some false))) else (some false)) else (some false)) else (some false)) else (none)) else (some false)) else (some false))))))) else (laws_FnSemisAreFoldings.j1 kj9 l1)) = some true := by rw [if_neg (show ¬ (false = true) by decide)] at H; first | done | exact H
            clear H
            have H := H1
            clear H1
            have HC31 := Aside0.mk H
            clear H
            go_upto_if 95 with (fail)
            go_cut [] from 95 to 96 (fun wc => ∃ (kq : Nat), Aside0 (laws_FnSemisAreFoldings.j1 kq l1 = some true) ∧ Aside0 (kq ≤ kj9) ∧ Aside0 (Below w.heap.size w wc))
            case first =>
              have H := HC31.out
              clear HC31
              by_cases c32 : t764 = true
              · subst c32
                have H1 : ((impl_IsFolding.f kj9 t763).bind fun bt776 => ((impl_SemiOfFolding.f kj9 t763).bind fun bt778 => ((impl_RainbowOf.f kj9 (wrap64 ((t760.length : Int) / 2))).bind fun bt782 => ((impl_IsMeander.f kj9 t760 bt782.1).bind fun bt786 => ((impl_WindingOf.f kj9 t760).bind fun bt788 => (if bt776.2 = true then (if bt776.1 = true then (if 0 < (t763.length : Int) then (if (rd t763 0) = 0 then (if (t763.length : Int) = (wrap64 ((t760.length : Int) / 2)) then (if bt778.2 = true then ((laws_ySame.f kj9 bt778.1 t760).bind fun t791 => (if t791 = true then (if bt782.2 = true then (if bt786.2 = true then (if bt786.1 = true then (if bt788.2 = true then (if bt788.1 > (wrap64 ((t760.length : Int) / 2)) then (some false) else (if (Int.tmod (wrap64 (bt788.1 - (wrap64 ((t760.length : Int) / 2)))) 2) = 0 then (laws_FnSemisAreFoldings.j1 kj9 l1) else (some false))) else (some false)) else (some false)) else (some false)) else (some false)) else (some false))) else (some false)) else (some false)) else (some false)) else (none)) else (some false)) else (some false))))))) = some true := by rw [if_pos rfl] at H; first | done | exact H
                clear H
                have H := H1
                clear H1
                replace H := Option.bind_eq_some_iff.mp H
                obtain ⟨⟨t776, t777⟩, A330, H⟩ := H
                replace H : ((impl_SemiOfFolding.f kj9 t763).bind fun bt778 => ((impl_RainbowOf.f kj9 (wrap64 ((t760.length : Int) / 2))).bind fun bt782 => ((impl_IsMeander.f kj9 t760 bt782.1).bind fun bt786 => ((impl_WindingOf.f kj9 t760).bind fun bt788 => (if t777 = true then (if t776 = true then (if 0 < (t763.length : Int) then (if (rd t763 0) = 0 then (if (t763.length : Int) = (wrap64 ((t760.length : Int) / 2)) then (if bt778.2 = true then ((laws_ySame.f kj9 bt778.1 t760).bind fun t791 => (if t791 = true then (if bt782.2 = true then (if bt786.2 = true then (if bt786.1 = true then (if bt788.2 = true then (if bt788.1 > (wrap64 ((t760.length : Int) / 2)) then (some false) else (if (Int.tmod (wrap64 (bt788.1 - (wrap64 ((t760.length : Int) / 2)))) 2) = 0 then (laws_FnSemisAreFoldings.j1 kj9 l1) else (some false))) else (some false)) else (some false)) else (some false)) else (some false)) else (some false))) else (some false)) else (some false)) else (some false)) else (none)) else (some false)) else (some false)))))) = some true := H
                have A33 := Aside0.mk A330
                clear A330
                replace H := Option.bind_eq_some_iff.mp H
                obtain ⟨⟨t778, t779⟩, A340, H⟩ := H
                replace H : ((impl_RainbowOf.f kj9 (wrap64 ((t760.length : Int) / 2))).bind fun bt782 => ((impl_IsMeander.f kj9 t760 bt782.1).bind fun bt786 => ((impl_WindingOf.f kj9 t760).bind fun bt788 => (if t777 = true then (if t776 = true then (if 0 < (t763.length : Int) then (if (rd t763 0) = 0 then (if (t763.length : Int) = (wrap64 ((t760.length : Int) / 2)) then (if t779 = true then ((laws_ySame.f kj9 t778 t760).bind fun t791 => (if t791 = true then (if bt782.2 = true then (if bt786.2 = true then (if bt786.1 = true then (if bt788.2 = true then (if bt788.1 > (wrap64 ((t760.length : Int) / 2)) then (some false) else (if (Int.tmod (wrap64 (bt788.1 - (wrap64 ((t760.length : Int) / 2)))) 2) = 0 then (laws_FnSemisAreFoldings.j1 kj9 l1) else (some false))) else (some false)) else (some false)) else (some false)) else (some false)) else (some false))) else (some false)) else (some false)) else (some false)) else (none)) else (some false)) else (some false))))) = some true := H
                have A34 := Aside0.mk A340
                clear A340
                replace H := Option.bind_eq_some_iff.mp H
                obtain ⟨⟨t782, t783⟩, A350, H⟩ := H
                replace H : ((impl_IsMeander.f kj9 t760 t782).bind fun bt786 => ((impl_WindingOf.f kj9 t760).bind fun bt788 => (if t777 = true then (if t776 = true then (if 0 < (t763.length : Int) then (if (rd t763 0) = 0 then (if (t763.length : Int) = (wrap64 ((t760.length : Int) / 2)) then (if t779 = true then ((laws_ySame.f kj9 t778 t760).bind fun t791 => (if t791 = true then (if t783 = true then (if bt786.2 = true then (if bt786.1 = true then (if bt788.2 = true then (if bt788.1 > (wrap64 ((t760.length : Int) / 2)) then (some false) else (if (Int.tmod (wrap64 (bt788.1 - (wrap64 ((t760.length : Int) / 2)))) 2) = 0 then (laws_FnSemisAreFoldings.j1 kj9 l1) else (some false))) else (some false)) else (some false)) else (some false)) else (some false)) else (some false))) else (some false)) else (some false)) else (some false)) else (none)) else (some false)) else (some false)))) = some true := H
                have A35 := Aside0.mk A350
                clear A350
                replace H := Option.bind_eq_some_iff.mp H
                obtain ⟨⟨t786, t787⟩, A360, H⟩ := H
                replace H : ((impl_WindingOf.f kj9 t760).bind fun bt788 => (if t777 = true then (if t776 = true then (if 0 < (t763.length : Int) then (if (rd t763 0) = 0 then (if (t763.length : Int) = (wrap64 ((t760.length : Int) / 2)) then (if t779 = true then ((laws_ySame.f kj9 t778 t760).bind fun t791 => (if t791 = true then (if t783 = true then (if t787 = true then (if t786 = true then (if bt788.2 = true then (if bt788.1 > (wrap64 ((t760.length : Int) / 2)) then (some false) else (if (Int.tmod (wrap64 (bt788.1 - (wrap64 ((t760.length : Int) / 2)))) 2) = 0 then (laws_FnSemisAreFoldings.j1 kj9 l1) else (some false))) else (some false)) else (some false)) else (some false)) else (some false)) else (some false))) else (some false)) else (some false)) else (some false)) else (none)) else (some false)) else (some false))) = some true := H
                have A36 := Aside0.mk A360
                clear A360
                replace H := Option.bind_eq_some_iff.mp H
                obtain ⟨⟨t788, t789⟩, A370, H⟩ := H
                replace H : (if t777 = true then (if t776 = true then (if 0 < (t763.length : Int) then (if (rd t763 0) = 0 then (if (t763.length : Int) = (wrap64 ((t760.length : Int) / 2)) then (if t779 = true then ((laws_ySame.f kj9 t778 t760).bind fun t791 => (if t791 = true then (if t783 = true then (if t787 = true then (if t786 = true then (if t789 = true then (if t788 > (wrap64 ((t760.length : Int) / 2)) then (some false) else (if (Int.tmod (wrap64 (t788 - (wrap64 ((t760.length : Int) / 2)))) 2) = 0 then (laws_FnSemisAreFoldings.j1 kj9 l1) else (some false))) else (some false)) else (some false)) else (some false)) else (some false)) else (some false))) else (some false)) else (some false)) else (some false)) else (none)) else (some false)) else (some false)) = some true := H
                have A37 := Aside0.mk A370
                clear A370
                by_cases c38 : t777 = true
                · subst c38
                  have H1 : (if t776 = true then (if 0 < (t763.length : Int) then (if (rd t763 0) = 0 then (if (t763.length : Int) = (wrap64 ((t760.length : Int) / 2)) then (if t779 = true then ((laws_ySame.f kj9 t778 t760).bind fun t791 => (if t791 = true then (if t783 = true then (if t787 = true then (if t786 = true then (if t789 = true then (if t788 > (wrap64 ((t760.length : Int) / 2)) then (some false) else (if (Int.tmod (wrap64 (t788 - (wrap64 ((t760.length : Int) / 2)))) 2) = 0 then (laws_FnSemisAreFoldings.j1 kj9 l1) else (some false))) else (some false)) else (some false)) else (some false)) else (some false)) else (some false))) else (some false)) else (some false)) else (some false)) else (none)) else (some false)) = some true := by rw [if_pos rfl] at H; first | done | exact H
                  clear H
                  have H := H1
                  clear H1
                  by_cases c39 : t776 = true
                  · subst c39
                    have H1 : (if 0 < (t763.length : Int) then (if (rd t763 0) = 0 then (if (t763.length : Int) = (wrap64 ((t760.length : Int) / 2)) then (if t779 = true then ((laws_ySame.f kj9 t778 t760).bind fun t791 => (if t791 = true then (if t783 = true then (if t787 = true then (if t786 = true then (if t789 = true then (if t788 > (wrap64 ((t760.length : Int) / 2)) then (some false) else (if (Int.tmod (wrap64 (t788 - (wrap64 ((t760.length : Int) / 2)))) 2) = 0 then (laws_FnSemisAreFoldings.j1 kj9 l1) else (some false))) else (some false)) else (some false)) else (some false)) else (some false)) else (some false))) else (some false)) else (some false)) else (some false)) else (none)) = some true := by rw [if_pos rfl] at H; first | done | exact H
                    clear H
                    have H := H1
                    clear H1
                    by_cases c40 : 0 < (t763.length : Int)
                    · rw [if_pos c40] at H
                      have c40b0 : decide (0 < (t763.length : Int)) = true := decide_eq_true c40
                      have c40b1 : decide (0 < t763.length) = true := decide_eq_true (by omega)
                      clear c40
                      (first | rw [c40b0] | (simp only [i64_w, i32_w]; rw [c40b0]) | skip)
                      by_cases c41 : (rd t763 0) = 0
                      · rw [if_pos c41] at H
                        have c41b0 : ((rd t763 0) == 0) = true := beq_iff_eq.mpr c41
                        have c41b1 : ((rd t763 0) != 0) = false := bne_eq_false_iff_eq.mpr c41
                        clear c41
                        by_cases c42 : (t763.length : Int) = (wrap64 ((t760.length : Int) / 2))
                        · rw [if_pos c42] at H
                          have c42b0 : ((t763.length : Int) == (wrap64 ((t760.length : Int) / 2))) = true := beq_iff_eq.mpr c42
                          have c42b1 : ((t763.length : Int) != (wrap64 ((t760.length : Int) / 2))) = false := bne_eq_false_iff_eq.mpr c42
                          clear c42
                          by_cases c43 : t779 = true
                          · subst c43
                            have H1 : ((laws_ySame.f kj9 t778 t760).bind fun t791 => (if t791 = true then (if t783 = true then (if t787 = true then (if t786 = true then (if t789 = true then (if t788 > (wrap64 ((t760.length : Int) / 2)) then (some false) else (if (Int.tmod (wrap64 (t788 - (wrap64 ((t760.length : Int) / 2)))) 2) = 0 then (laws_FnSemisAreFoldings.j1 kj9 l1) else (some false))) else (some false)) else (some false)) else (some false)) else (some false)) else (some false))) = some true := by rw [if_pos rfl] at H; first | done | exact H
                            clear H
                            have H := H1
                            clear H1
                            replace H := Option.bind_eq_some_iff.mp H
                            obtain ⟨t791, A440, H⟩ := H
                            replace H : (if t791 = true then (if t783 = true then (if t787 = true then (if t786 = true then (if t789 = true then (if t788 > (wrap64 ((t760.length : Int) / 2)) then (some false) else (if (Int.tmod (wrap64 (t788 - (wrap64 ((t760.length : Int) / 2)))) 2) = 0 then (laws_FnSemisAreFoldings.j1 kj9 l1) else (some false))) else (some false)) else (some false)) else (some false)) else (some false)) else (some false)) = some true := H
                            have A44 := Aside0.mk A440
                            clear A440
                            by_cases c45 : t791 = true
                            · subst c45
                              have H1 : (if t783 = true then (if t787 = true then (if t786 = true then (if t789 = true then (if t788 > (wrap64 ((t760.length : Int) / 2)) then (some false) else (if (Int.tmod (wrap64 (t788 - (wrap64 ((t760.length : Int) / 2)))) 2) = 0 then (laws_FnSemisAreFoldings.j1 kj9 l1) else (some false))) else (some false)) else (some false)) else (some false)) else (some false)) = some true := by rw [if_pos rfl] at H; first | done | exact H
                              clear H
                              have H := H1
                              clear H1
                              by_cases c46 : t783 = true
                              · subst c46
                                have H1 : (if t787 = true then (if t786 = true then (if t789 = true then (if t788 > (wrap64 ((t760.length : Int) / 2)) then (some false) else (if (Int.tmod (wrap64 (t788 - (wrap64 ((t760.length : Int) / 2)))) 2) = 0 then (laws_FnSemisAreFoldings.j1 kj9 l1) else (some false))) else (some false)) else (some false)) else (some false)) = some true := by rw [if_pos rfl] at H; first | done | exact H
                                clear H
                                have H := H1
                                clear H1
                                by_cases c47 : t787 = true
                                · subst c47
                                  have H1 : (if t786 = true then (if t789 = true then (if t788 > (wrap64 ((t760.length : Int) / 2)) then (some false) else (if (Int.tmod (wrap64 (t788 - (wrap64 ((t760.length : Int) / 2)))) 2) = 0 then (laws_FnSemisAreFoldings.j1 kj9 l1) else (some false))) else (some false)) else (some false)) = some true := by rw [if_pos rfl] at H; first | done | exact H
                                  clear H
                                  have H := H1
                                  clear H1
                                  by_cases c48 : t786 = true
                                  · subst c48
                                    have H1 : (if t789 = true then (if t788 > (wrap64 ((t760.length : Int) / 2)) then (some false) else (if (Int.tmod (wrap64 (t788 - (wrap64 ((t760.length : Int) / 2)))) 2) = 0 then (laws_FnSemisAreFoldings.j1 kj9 l1) else (some false))) else (some false)) = some true := by rw [if_pos rfl] at H; first | done | exact H
                                    clear H
                                    have H := H1
                                    clear H1
                                    by_cases c49 : t789 = true
                                    · subst c49
                                      have H1 : (if t788 > (wrap64 ((t760.length : Int) / 2)) then (some false) else (if (Int.tmod (wrap64 (t788 - (wrap64 ((t760.length : Int) / 2)))) 2) = 0 then (laws_FnSemisAreFoldings.j1 kj9 l1) else (some false))) = some true := by rw [if_pos rfl] at H; first | done | exact H
                                      clear H
                                      have H := H1
                                      clear H1
                                      by_cases c50 : t788 > (wrap64 ((t760.length : Int) / 2))
                                      · rw [if_pos c50] at H
                                        have c50b0 : decide ((wrap64 ((t760.length : Int) / 2)) < t788) = true := decide_eq_true c50
                                        clear c50
                                        exact absurd H (by simp)
                                      · rw [if_neg c50] at H
                                        have c50b0 : decide ((wrap64 ((t760.length : Int) / 2)) < t788) = false := decide_eq_false c50
                                        clear c50
                                        by_cases c51 : (Int.tmod (wrap64 (t788 - (wrap64 ((t760.length : Int) / 2)))) 2) = 0
                                        · rw [if_pos c51] at H
                                          have c51b0 : ((Int.tmod (wrap64 (t788 - (wrap64 ((t760.length : Int) / 2)))) 2) == 0) = true := beq_iff_eq.mpr c51
                                          have c51b1 : ((Int.tmod (wrap64 (t788 - (wrap64 ((t760.length : Int) / 2)))) 2) != 0) = false := bne_eq_false_iff_eq.mpr c51
                                          clear c51
                                          have H' := Aside0.mk H
                                          clear H
                                          obtain ⟨Ao52, co52, eo52⟩ := Kd.R_slice HO_6.out
                                          subst eo52
                                          go_wp2_with (first | ((with_reducible refine gate_callee (f := 13) rfl ?_); refine goesL_ (some 98) rfl rfl Tryz.func13 (by kernel_rfl) rfl #[.slice Ao52 t763.length co52] rfl (by (try simp only [List.map_toArray, List.map_cons, List.map_nil]); first | done | rfl | (simp only [List.length_drop, List.length_take]; rfl)) ?_; (with_reducible refine (impl_IsFolding.calls kj9 _ _ t763 true true _ ?side1 ?side2 A33.out).mono ?_); (case side1 => repeat (first | exact (Kd.R_reads' HO_6.out).2.2 | (with_reducible refine Kd.C_alloc ?_ _) | (with_reducible refine Kd.C_drewN ?_ _) | (with_reducible refine Kd.C_drew ?_))); (case side2 => exact (Kd.R_reads' HO_6.out).2.1); rintro e w53 ⟨rfl, hb⟩; refine ⟨_, rfl, ?_⟩; have n0_ := Aside0.mk (Kd.R_below (by (with_reducible repeat (first | apply Kd.R_alloc | apply Kd.R_drewN | apply Kd.R_drew)); exact HO_5.out) hb); have n1_ := Aside0.mk (Kd.R_below (by (with_reducible repeat (first | apply Kd.R_alloc | apply Kd.R_drewN | apply Kd.R_drew)); exact HO_6.out) hb); have n2_ := Aside0.mk (below_step (by repeat (first | (with_reducible first | exact HB.out | apply below_alloc | apply pw_below_drewN | apply below_drew1) | exact HB.out)) hb); clear HO_5; clear HO_6; clear HB; have HO_5 := n0_; have HO_6 := n1_; have HB := n2_; clear n0_ n1_ n2_; (try clear hb); (try clear hb2); (try clear hk); (try clear hi)) | ((with_reducible refine gate_callee (f := 32) rfl ?_); refine goesL_ (some 103) rfl rfl Tryz.func32 (by kernel_rfl) rfl #[.slice Ao52 t763.length co52] rfl (by (try simp only [List.map_toArray, List.map_cons, List.map_nil]); first | done | rfl | (simp only [List.length_drop, List.length_take]; rfl)) ?_; (with_reducible refine (impl_SemiOfFolding.calls kj9 _ _ t763 t778 true _ ?side1 ?side2 A34.out).mono ?_); (case side1 => repeat (first | exact (Kd.R_reads' HO_6.out).2.2 | (with_reducible refine Kd.C_alloc ?_ _) | (with_reducible refine Kd.C_drewN ?_ _) | (with_reducible refine Kd.C_drew ?_))); (case side2 => exact (Kd.R_reads' HO_6.out).2.1); rintro e w54 ⟨v780, rfl, ho0, hb⟩; refine ⟨_, rfl, ?_⟩; have n0_ := Aside0.mk (Kd.R_elder' (by (with_reducible repeat (first | apply Kd.R_alloc | apply Kd.R_drewN | apply Kd.R_drew)); exact HO_5.out) (Kd.R_base ho0) hb); have n1_ := Aside0.mk (Kd.R_elder' (by (with_reducible repeat (first | apply Kd.R_alloc | apply Kd.R_drewN | apply Kd.R_drew)); exact HO_6.out) (Kd.R_base ho0) hb); have n2_ := Aside0.mk (Kd.R_lower (Kd.R_new' (Kd.R_new' ho0 (Kd.R_lt (by (with_reducible repeat (first | apply Kd.R_alloc | apply Kd.R_drewN | apply Kd.R_drew)); exact HO_5.out))) (Kd.R_lt (by (with_reducible repeat (first | apply Kd.R_alloc | apply Kd.R_drewN | apply Kd.R_drew)); exact HO_6.out))) (below_size (by repeat (first | (with_reducible first | exact HB.out | apply below_alloc | apply pw_below_drewN | apply below_drew1) | exact HB.out)))); have n3_ := Aside0.mk (below_step (by repeat (first | (with_reducible first | exact HB.out | apply below_alloc | apply pw_below_drewN | apply below_drew1) | exact HB.out)) hb); clear HO_5; clear HO_6; clear HB; have HO_5 := n0_; have HO_6 := n1_; have HO781 := n2_; have HB := n3_; clear n0_ n1_ n2_ n3_; (try clear hb); (try clear hb2); (try clear hk); (try clear hi); (try clear ho0)) | ((with_reducible refine gate_callee (f := 33) rfl ?_); refine goesL_ (some 111) rfl rfl Tryz.func33 (by kernel_rfl) rfl #[.int .i64 (wrap64 ((t760.length : Int) / 2))] rfl (by (try simp only [List.map_toArray, List.map_cons, List.map_nil]); first | done | rfl | (simp only [List.length_drop, List.length_take]; rfl)) ?_; (with_reducible refine (impl_RainbowOf.calls kj9 (wrap64 ((t760.length : Int) / 2)) t782 true _ A35.out).mono ?_); rintro e w55 ⟨v784, rfl, ho0, hb⟩; refine ⟨_, rfl, ?_⟩; have n0_ := Aside0.mk (Kd.R_elder' (by (with_reducible repeat (first | apply Kd.R_alloc | apply Kd.R_drewN | apply Kd.R_drew)); exact HO_5.out) (Kd.R_base ho0) hb); have n1_ := Aside0.mk (Kd.R_elder' (by (with_reducible repeat (first | apply Kd.R_alloc | apply Kd.R_drewN | apply Kd.R_drew)); exact HO_6.out) (Kd.R_base ho0) hb); have n2_ := Aside0.mk (Kd.R_elder' (by (with_reducible repeat (first | apply Kd.R_alloc | apply Kd.R_drewN | apply Kd.R_drew)); exact HO781.out) (Kd.R_base ho0) hb); have n3_ := Aside0.mk (Kd.R_lower (Kd.R_new' (Kd.R_new' (Kd.R_new' ho0 (Kd.R_lt (by (with_reducible repeat (first | apply Kd.R_alloc | apply Kd.R_drewN | apply Kd.R_drew)); exact HO_5.out))) (Kd.R_lt (by (with_reducible repeat (first | apply Kd.R_alloc | apply Kd.R_drewN | apply Kd.R_drew)); exact HO_6.out))) (Kd.R_lt (by (with_reducible repeat (first | apply Kd.R_alloc | apply Kd.R_drewN | apply Kd.R_drew)); exact HO781.out))) (below_size (by repeat (first | (with_reducible first | exact HB.out | apply below_alloc | apply pw_below_drewN | apply below_drew1) | exact HB.out)))); have n4_ := Aside0.mk (below_step (by repeat (first | (with_reducible first | exact HB.out | apply below_alloc | apply pw_below_drewN | apply below_drew1) | exact HB.out)) hb); clear HO_5; clear HO_6; clear HO781; clear HB; have HO_5 := n0_; have HO_6 := n1_; have HO781 := n2_; have HO785 := n3_; have HB := n4_; clear n0_ n1_ n2_ n3_ n4_; (try clear hb); (try clear hb2); (try clear hk); (try clear hi); (try clear ho0); obtain ⟨Ao56, co56, eo56⟩ := Kd.R_slice HO785.out; subst eo56) | ((with_reducible refine gate_callee (f := 34) rfl ?_); refine goesL_ (some 118) rfl rfl Tryz.func34 (by kernel_rfl) rfl #[.agg #[.slice Ao12 t760.length co12, .slice Ao56 t782.length co56]] rfl (by (try simp only [List.map_toArray, List.map_cons, List.map_nil]); first | done | rfl | (simp only [List.length_drop, List.length_take]; rfl)) ?_; (with_reducible refine (impl_IsMeander.calls kj9 _ _ t760 _ _ t782 true true _ ?side1 ?side2 ?side3 ?side4 A36.out).mono ?_); (case side1 => repeat (first | exact (Kd.R_reads' HO_5.out).2.2 | (with_reducible refine Kd.C_alloc ?_ _) | (with_reducible refine Kd.C_drewN ?_ _) | (with_reducible refine Kd.C_drew ?_))); (case side2 => exact (Kd.R_reads' HO_5.out).2.1); (case side3 => repeat (first | exact (Kd.R_reads' HO785.out).2.2 | (with_reducible refine Kd.C_alloc ?_ _) | (with_reducible refine Kd.C_drewN ?_ _) | (with_reducible refine Kd.C_drew ?_))); (case side4 => exact (Kd.R_reads' HO785.out).2.1); rintro e w57 ⟨rfl, hb⟩; refine ⟨_, rfl, ?_⟩; have n0_ := Aside0.mk (Kd.R_below (by (with_reducible repeat (first | apply Kd.R_alloc | apply Kd.R_drewN | apply Kd.R_drew)); exact HO_5.out) hb); have n1_ := Aside0.mk (Kd.R_below (by (with_reducible repeat (first | apply Kd.R_alloc | apply Kd.R_drewN | apply Kd.R_drew)); exact HO_6.out) hb); have n2_ := Aside0.mk (Kd.R_below (by (with_reducible repeat (first | apply Kd.R_alloc | apply Kd.R_drewN | apply Kd.R_drew)); exact HO781.out) hb); have n3_ := Aside0.mk (Kd.R_below (by (with_reducible repeat (first | apply Kd.R_alloc | apply Kd.R_drewN | apply Kd.R_drew)); exact HO785.out) hb); have n4_ := Aside0.mk (below_step (by repeat (first | (with_reducible first | exact HB.out | apply below_alloc | apply pw_below_drewN | apply below_drew1) | exact HB.out)) hb); clear HO_5; clear HO_6; clear HO781; clear HO785; clear HB; have HO_5 := n0_; have HO_6 := n1_; have HO781 := n2_; have HO785 := n3_; have HB := n4_; clear n0_ n1_ n2_ n3_ n4_; (try clear hb); (try clear hb2); (try clear hk); (try clear hi)) | ((with_reducible refine gate_callee (f := 35) rfl ?_); refine goesL_ (some 123) rfl rfl Tryz.func35 (by kernel_rfl) rfl #[.slice Ao12 t760.length co12] rfl (by (try simp only [List.map_toArray, List.map_cons, List.map_nil]); first | done | rfl | (simp only [List.length_drop, List.length_take]; rfl)) ?_; (with_reducible refine (impl_WindingOf.calls kj9 _ _ t760 t788 true _ ?side1 ?side2 A37.out).mono ?_); (case side1 => repeat (first | exact (Kd.R_reads' HO_5.out).2.2 | (with_reducible refine Kd.C_alloc ?_ _) | (with_reducible refine Kd.C_drewN ?_ _) | (with_reducible refine Kd.C_drew ?_))); (case side2 => exact (Kd.R_reads' HO_5.out).2.1); rintro e w' ⟨rfl, ⟨nd, rfl⟩⟩; refine ⟨_, rfl, ?_⟩; have p790 : 0 ≤ (0 : Int) := (by omega); have q790 : 0 < (t763.length : Int) := of_decide_eq_true (by first | (with_reducible assumption) | assumption); obtain ⟨ad790, e790, hx790_0⟩ := Kd.at_int (Kd.R_reads' HO_6.out).2.2 0 p790 q790; cases e790; have qi790 : (0 < t763.length) = True := eq_true (by omega); (try rw [show ((0 : Int)).toNat = 0 from rfl] at hx790_0); (try rw [Addr.add_zero'] at hx790_0); replace p790 := eq_true p790; replace q790 := eq_true q790; obtain ⟨Ao58, co58, eo58⟩ := Kd.R_slice HO781.out; subst eo58) | (go_at_call 24; (with_reducible refine (laws_ySame.calls kj9 _ _ t778 _ _ t760 true _ ?side1 ?side2 ?side3 ?side4 A44.out).mono ?_); (case side1 => repeat (first | exact (Kd.R_reads' HO781.out).2.2 | (with_reducible refine Kd.C_alloc ?_ _) | (with_reducible refine Kd.C_drewN ?_ _) | (with_reducible refine Kd.C_drew ?_))); (case side2 => exact (Kd.R_reads' HO781.out).2.1); (case side3 => repeat (first | exact (Kd.R_reads' HO_5.out).2.2 | (with_reducible refine Kd.C_alloc ?_ _) | (with_reducible refine Kd.C_drewN ?_ _) | (with_reducible refine Kd.C_drew ?_))); (case side4 => exact (Kd.R_reads' HO_5.out).2.1); rintro e w' ⟨rfl, ⟨nd, rfl⟩⟩))
                                          go_meet
                                          case rel => exact ⟨_, H', ⟨by have := HJ9.out; first | omega | exact Nat.le_refl _⟩, ⟨by repeat (first | (with_reducible first | exact HB.out | apply below_alloc | apply pw_below_drewN | apply below_drew1) | exact HB.out)⟩⟩
                                        · rw [if_neg c51] at H
                                          have c51b0 : ((Int.tmod (wrap64 (t788 - (wrap64 ((t760.length : Int) / 2)))) 2) == 0) = false := beq_eq_false_iff_ne.mpr c51
                                          have c51b1 : ((Int.tmod (wrap64 (t788 - (wrap64 ((t760.length : Int) / 2)))) 2) != 0) = true := bne_iff_ne.mpr c51
                                          exact absurd H (by simp)
                                    · replace c49 := Bool.eq_false_iff.mpr c49
                                      subst c49
                                      have H1 : (some false) = some true := by rw [if_neg (show ¬ (false = true) by decide)] at H; first | done | exact H
                                      clear H
                                      have H := H1
                                      clear H1
                                      exact absurd H (by simp)
                                  · replace c48 := Bool.eq_false_iff.mpr c48
                                    subst c48
                                    have H1 : (some false) = some true := by rw [if_neg (show ¬ (false = true) by decide)] at H; first | done | exact H
                                    clear H
                                    have H := H1
                                    clear H1
                                    exact absurd H (by simp)
                                · replace c47 := Bool.eq_false_iff.mpr c47
                                  subst c47
                                  have H1 : (some false) = some true := by rw [if_neg (show ¬ (false = true) by decide)] at H; first | done | exact H
                                  clear H
                                  have H := H1
                                  clear H1
                                  exact absurd H (by simp)
                              · replace c46 := Bool.eq_false_iff.mpr c46
                                subst c46
                                have H1 : (some false) = some true := by rw [if_neg (show ¬ (false = true) by decide)] at H; first | done | exact H
                                clear H
                                have H := H1
                                clear H1
                                exact absurd H (by simp)
                            · replace c45 := Bool.eq_false_iff.mpr c45
                              subst c45
                              have H1 : (some false) = some true := by rw [if_neg (show ¬ (false = true) by decide)] at H; first | done | exact H
                              clear H
                              have H := H1
                              clear H1
                              exact absurd H (by simp)
                          · replace c43 := Bool.eq_false_iff.mpr c43
                            subst c43
                            have H1 : (some false) = some true := by rw [if_neg (show ¬ (false = true) by decide)] at H; first | done | exact H
                            clear H
                            have H := H1
                            clear H1
                            exact absurd H (by simp)
                        · rw [if_neg c42] at H
                          have c42b0 : ((t763.length : Int) == (wrap64 ((t760.length : Int) / 2))) = false := beq_eq_false_iff_ne.mpr c42
                          have c42b1 : ((t763.length : Int) != (wrap64 ((t760.length : Int) / 2))) = true := bne_iff_ne.mpr c42
                          exact absurd H (by simp)
                      · rw [if_neg c41] at H
                        have c41b0 : ((rd t763 0) == 0) = false := beq_eq_false_iff_ne.mpr c41
                        have c41b1 : ((rd t763 0) != 0) = true := bne_iff_ne.mpr c41
                        exact absurd H (by simp)
                    · rw [if_neg c40] at H
                      exact absurd H (by simp)
                  · replace c39 := Bool.eq_false_iff.mpr c39
                    subst c39
                    have H1 : (some false) = some true := by rw [if_neg (show ¬ (false = true) by decide)] at H; first | done | exact H
                    clear H
                    have H := H1
                    clear H1
                    exact absurd H (by simp)
                · replace c38 := Bool.eq_false_iff.mpr c38
                  subst c38
                  have H1 : (some false) = some true := by rw [if_neg (show ¬ (false = true) by decide)] at H; first | done | exact H
                  clear H
                  have H := H1
                  clear H1
                  exact absurd H (by simp)
              · replace c32 := Bool.eq_false_iff.mpr c32
                subst c32
                have H1 : (laws_FnSemisAreFoldings.j1 kj9 l1) = some true := by rw [if_neg (show ¬ (false = true) by decide)] at H; first | done | exact H
                clear H
                have H := H1
                clear H1
                have H' := Aside0.mk H
                clear H
                go_wp2
                go_meet
                case rel => exact ⟨_, H', ⟨by have := HJ9.out; first | omega | exact Nat.le_refl _⟩, ⟨by repeat (first | (with_reducible first | exact HB.out | apply below_alloc | apply pw_below_drewN | apply below_drew1) | exact HB.out)⟩⟩
            case rest =>
              clear HC31
              try clear c1
              try clear c2
              try clear p2
              try clear c3
              try clear c4
              try clear c5
              try clear p6
              try clear p7
              try clear q7
              try clear hx7
              try clear qi7
              try clear c13
              try clear c17
              try clear c17b0
              try clear c17b1
              try clear c17b2
              try clear c19
              try clear c20
              try clear c20b0
              try clear c20b1
              try clear c20b2
              try clear c23
              try clear c23b0
              try clear c23b1
              try clear c23b2
              try clear c27
              try clear c28
              try clear c29
              try clear c30
              try clear c31
              try clear c32
              try clear c33
              try clear c34
              try clear c35
              try clear c38
              try clear c39
              try clear c40
              try clear c40b0
              try clear c40b1
              try clear c41
              try clear c41b0
              try clear c41b1
              try clear c42
              try clear c42b0
              try clear c42b1
              try clear c43
              try clear c45
              try clear c46
              try clear c47
              try clear c48
              try clear c49
              try clear c50
              try clear c50b0
              try clear c51
              try clear c51b0
              try clear c51b1
              try clear hx790_0
              try clear p2
              try clear p790
              try clear q790
              obtain ⟨kq, HA, HJ30, HB⟩ := hcut
              as_aux_lemma =>
                cases kq with
                | zero => exact absurd HA.out (by simp [laws_FnSemisAreFoldings.j1])
                | succ kj30 =>
                  have H := HA.out
                  clear HA
                  simp only [laws_FnSemisAreFoldings.j1] at H
                  replace H := Option.bind_eq_some_iff.mp H
                  obtain ⟨t792, A590, H⟩ := H
                  replace H : ((impl_SemiOfFolding.f kj30 t792).bind fun bt795 => ((spec_SemiOfFolding.f kj30 t792).bind fun bt799 => (if (bt795.2 != bt799.2) = true then (laws_FnSemisAreFoldings.j2 kj30 l1 t792 bt795.1 bt795.2 true) else ((laws_ySame.f kj30 bt795.1 bt799.1).bind fun t803 => (laws_FnSemisAreFoldings.j2 kj30 l1 t792 bt795.1 bt795.2 (!t803)))))) = some true := H
                  have A59 := Aside0.mk A590
                  clear A590
                  replace H := Option.bind_eq_some_iff.mp H
                  obtain ⟨⟨t795, t796⟩, A600, H⟩ := H
                  replace H : ((spec_SemiOfFolding.f kj30 t792).bind fun bt799 => (if (t796 != bt799.2) = true then (laws_FnSemisAreFoldings.j2 kj30 l1 t792 t795 t796 true) else ((laws_ySame.f kj30 t795 bt799.1).bind fun t803 => (laws_FnSemisAreFoldings.j2 kj30 l1 t792 t795 t796 (!t803))))) = some true := H
                  have A60 := Aside0.mk A600
                  clear A600
                  replace H := Option.bind_eq_some_iff.mp H
                  obtain ⟨⟨t799, t800⟩, A610, H⟩ := H
                  replace H : (if (t796 != t800) = true then (laws_FnSemisAreFoldings.j2 kj30 l1 t792 t795 t796 true) else ((laws_ySame.f kj30 t795 t799).bind fun t803 => (laws_FnSemisAreFoldings.j2 kj30 l1 t792 t795 t796 (!t803)))) = some true := H
                  have A61 := Aside0.mk A610
                  clear A610
                  have HC62 := Aside0.mk H
                  clear H
                  go_upto_region 22 with (first | ((with_reducible refine gate_callee (f := 36) rfl ?_); refine goesL_ (some 183) rfl rfl Tryz.func36 (by kernel_rfl) rfl #[.slice A1 l1.length c1] rfl (by (try simp only [List.map_toArray, List.map_cons, List.map_nil]); first | done | rfl | (simp only [List.length_drop, List.length_take]; rfl)) ?_; (with_reducible refine (spec_DrawSemiOfFolding.calls kj30 _ _ l1 t792 _ ?side1 ?side2 A59.out).mono ?_); (case side1 => repeat (first | exact (Kd.C_below HR1.out HB.out) | (with_reducible refine Kd.C_alloc ?_ _) | (with_reducible refine Kd.C_drewN ?_ _) | (with_reducible refine Kd.C_drew ?_))); (case side2 => exact HC1.out); rintro e w63 ⟨v793, rfl, ho0, hb⟩; refine ⟨_, rfl, ?_⟩; have n0_ := Aside0.mk (Kd.R_lower ho0 (below_size (by repeat (first | (with_reducible first | exact HB.out | apply below_alloc | apply pw_below_drewN | apply below_drew1) | exact HB.out)))); have n1_ := Aside0.mk (below_step (by repeat (first | (with_reducible first | exact HB.out | apply below_alloc | apply pw_below_drewN | apply below_drew1) | exact HB.out)) hb); clear HB; have HO794 := n0_; have HB := n1_; clear n0_ n1_; (try clear hb); (try clear hb2); (try clear hk); (try clear hi); (try clear ho0); obtain ⟨Ao64, co64, eo64⟩ := Kd.R_slice HO794.out; subst eo64) | ((with_reducible refine gate_callee (f := 32) rfl ?_); refine goesL_ (some 186) rfl rfl Tryz.func32 (by kernel_rfl) rfl #[.slice Ao64 t792.length co64] rfl (by (try simp only [List.map_toArray, List.map_cons, List.map_nil]); first | done | rfl | (simp only [List.length_drop, List.length_take]; rfl)) ?_; (with_reducible refine (impl_SemiOfFolding.calls kj30 _ _ t792 t795 t796 _ ?side1 ?side2 A60.out).mono ?_); (case side1 => repeat (first | exact (Kd.R_reads' HO794.out).2.2 | (with_reducible refine Kd.C_alloc ?_ _) | (with_reducible refine Kd.C_drewN ?_ _) | (with_reducible refine Kd.C_drew ?_))); (case side2 => exact (Kd.R_reads' HO794.out).2.1); rintro e w65 ⟨v797, rfl, ho0, hb⟩; refine ⟨_, rfl, ?_⟩; have n0_ := Aside0.mk (Kd.R_elder' (by (with_reducible repeat (first | apply Kd.R_alloc | apply Kd.R_drewN | apply Kd.R_drew)); exact HO794.out) (Kd.R_base ho0) hb); have n1_ := Aside0.mk (Kd.R_lower (Kd.R_new' ho0 (Kd.R_lt (by (with_reducible repeat (first | apply Kd.R_alloc | apply Kd.R_drewN | apply Kd.R_drew)); exact HO794.out))) (below_size (by repeat (first | (with_reducible first | exact HB.out | apply below_alloc | apply pw_below_drewN | apply below_drew1) | exact HB.out)))); have n2_ := Aside0.mk (below_step (by repeat (first | (with_reducible first | exact HB.out | apply below_alloc | apply pw_below_drewN | apply below_drew1) | exact HB.out)) hb); clear HO794; clear HB; have HO794 := n0_; have HO798 := n1_; have HB := n2_; clear n0_ n1_ n2_; (try clear hb); (try clear hb2); (try clear hk); (try clear hi); (try clear ho0)) | ((with_reducible refine gate_callee (f := 37) rfl ?_); refine goesL_ (some 191) rfl rfl Tryz.func37 (by kernel_rfl) rfl #[.slice Ao64 t792.length co64] rfl (by (try simp only [List.map_toArray, List.map_cons, List.map_nil]); first | done | rfl | (simp only [List.length_drop, List.length_take]; rfl)) ?_; (with_reducible refine (spec_SemiOfFolding.calls kj30 _ _ t792 t799 t800 _ ?side1 ?side2 A61.out).mono ?_); (case side1 => repeat (first | exact (Kd.R_reads' HO794.out).2.2 | (with_reducible refine Kd.C_alloc ?_ _) | (with_reducible refine Kd.C_drewN ?_ _) | (with_reducible refine Kd.C_drew ?_))); (case side2 => exact (Kd.R_reads' HO794.out).2.1); rintro e w66 ⟨v801, rfl, ho0, hb⟩; refine ⟨_, rfl, ?_⟩; have n0_ := Aside0.mk (Kd.R_elder' (by (with_reducible repeat (first | apply Kd.R_alloc | apply Kd.R_drewN | apply Kd.R_drew)); exact HO794.out) (Kd.R_base ho0) hb); have n1_ := Aside0.mk (Kd.R_elder' (by (with_reducible repeat (first | apply Kd.R_alloc | apply Kd.R_drewN | apply Kd.R_drew)); exact HO798.out) (Kd.R_base ho0) hb); have n2_ := Aside0.mk (Kd.R_lower (Kd.R_new' (Kd.R_new' ho0 (Kd.R_lt (by (with_reducible repeat (first | apply Kd.R_alloc | apply Kd.R_drewN | apply Kd.R_drew)); exact HO794.out))) (Kd.R_lt (by (with_reducible repeat (first | apply Kd.R_alloc | apply Kd.R_drewN | apply Kd.R_drew)); exact HO798.out))) (below_size (by repeat (first | (with_reducible first | exact HB.out | apply below_alloc | apply pw_below_drewN | apply below_drew1) | exact HB.out)))); have n3_ := Aside0.mk (below_step (by repeat (first | (with_reducible first | exact HB.out | apply below_alloc | apply pw_below_drewN | apply below_drew1) | exact HB.out)) hb); clear HO794; clear HO798; clear HB; have HO794 := n0_; have HO798 := n1_; have HO802 := n2_; have HB := n3_; clear n0_ n1_ n2_ n3_; (try clear hb); (try clear hb2); (try clear hk); (try clear hi); (try clear ho0)))
                  (try simp only [Act.put, List.setIfInBounds_toArray, List.set_cons_zero, List.set_cons_succ])
                  go_cut [202] from 182 to 202 (fun v202 wc => ∃ (kq : Nat) (x202_61 : Bool), v202 = .bool x202_61 ∧ Aside0 (laws_FnSemisAreFoldings.j2 kq l1 t792 t795 t796 x202_61 = some true) ∧ Aside0 (kq ≤ kj30) ∧ Aside0 (Kd.R (Kd.int .i64) 3 wc w.heap.size (fun k_ => some k_ ≠ (v797 : Value).ownBlock) (.slice Ao64 t792.length co64) t792) ∧ Aside0 (Kd.R (Kd.int .i64) 3 wc w.heap.size (fun k_ => some k_ ≠ ((.slice Ao64 t792.length co64) : Value).ownBlock) v797 t795) ∧ Aside0 (Below w.heap.size w wc))
                  case first =>
                    have H := HC62.out
                    clear HC62
                    by_cases c67 : (t796 != t800) = true
                    · rw [if_pos c67] at H
                      have c67b0 : (t796 != t800) = true := c67
                      (try (have c67b1 : decide (t796 = t800) = false := by simpa using c67))
                      (try (have c67b2 : (t796 == t800) = false := by simpa using c67))
                      (try (have c67b3 : ¬ (t796 = t800) := by simpa using c67))
                      clear c67
                      (first | rw [c67b0] | (simp only [i64_w, i32_w]; rw [c67b0]) | skip)
                      have H' := Aside0.mk H
                      clear H
                      go_wp2
                      go_meet
                      case rel => exact ⟨_, (true), (by first | rfl | (simp; done) | (simp [*]; done)), H', ⟨by have := HJ9.out; have := HJ30.out; first | omega | exact Nat.le_refl _⟩, ⟨by (with_reducible repeat (first | apply Kd.R_alloc | apply Kd.R_drewN | apply Kd.R_drew)); exact Kd.R_mono HO794.out (fun _ hk => hk.1.2)⟩, ⟨by (with_reducible repeat (first | apply Kd.R_alloc | apply Kd.R_drewN | apply Kd.R_drew)); exact Kd.R_mono HO798.out (fun _ hk => hk.1.2)⟩, ⟨by repeat (first | (with_reducible first | exact HB.out | apply below_alloc | apply pw_below_drewN | apply below_drew1) | exact HB.out)⟩⟩
                    · rw [if_neg c67] at H
                      have c67b0 : (t796 != t800) = false := by simpa using c67
                      (try (have c67b1 : decide (t796 = t800) = true := by simpa using c67))
                      (try (have c67b2 : (t796 == t800) = true := by simpa using c67))
                      clear c67
                      (first | rw [c67b0] | (simp only [i64_w, i32_w]; rw [c67b0]) | skip)
                      replace H := Option.bind_eq_some_iff.mp H
                      obtain ⟨t803, A680, H⟩ := H
                      replace H : (laws_FnSemisAreFoldings.j2 kj30 l1 t792 t795 t796 (!t803)) = some true := H
                      have A68 := Aside0.mk A680
                      clear A680
                      have H' := Aside0.mk H
                      clear H
                      obtain ⟨Ao69, co69, eo69⟩ := Kd.R_slice HO798.out
                      subst eo69
                      obtain ⟨Ao70, co70, eo70⟩ := Kd.R_slice HO802.out
                      subst eo70
                      go_wp2_with (first | (go_at_call 24; (with_reducible refine (laws_ySame.calls kj30 _ _ t795 _ _ t799 t803 _ ?side1 ?side2 ?side3 ?side4 A68.out).mono ?_); (case side1 => repeat (first | exact (Kd.R_reads' HO798.out).2.2 | (with_reducible refine Kd.C_alloc ?_ _) | (with_reducible refine Kd.C_drewN ?_ _) | (with_reducible refine Kd.C_drew ?_))); (case side2 => exact (Kd.R_reads' HO798.out).2.1); (case side3 => repeat (first | exact (Kd.R_reads' HO802.out).2.2 | (with_reducible refine Kd.C_alloc ?_ _) | (with_reducible refine Kd.C_drewN ?_ _) | (with_reducible refine Kd.C_drew ?_))); (case side4 => exact (Kd.R_reads' HO802.out).2.1); rintro e w' ⟨rfl, ⟨nd, rfl⟩⟩))
                      go_meet
                      case rel => exact ⟨_, (!t803), (by first | rfl | (simp; done) | (simp [*]; done)), H', ⟨by have := HJ9.out; have := HJ30.out; first | omega | exact Nat.le_refl _⟩, ⟨by (with_reducible repeat (first | apply Kd.R_alloc | apply Kd.R_drewN | apply Kd.R_drew)); exact Kd.R_mono HO794.out (fun _ hk => hk.1.2)⟩, ⟨by (with_reducible repeat (first | apply Kd.R_alloc | apply Kd.R_drewN | apply Kd.R_drew)); exact Kd.R_mono HO798.out (fun _ hk => hk.1.2)⟩, ⟨by repeat (first | (with_reducible first | exact HB.out | apply below_alloc | apply pw_below_drewN | apply below_drew1) | exact HB.out)⟩⟩
                  case rest =>
                    clear HC62
                    try clear c1
                    try clear c2
                    try clear p2
                    try clear c3
                    try clear c4
                    try clear c5
                    try clear c6
                    try clear p6
                    try clear p7
                    try clear q7
                    try clear hx7
                    try clear qi7
                    try clear c13
                    try clear c17
                    try clear c17b0
                    try clear c17b1
                    try clear c17b2
                    try clear c19
                    try clear c20
                    try clear c20b0
                    try clear c20b1
                    try clear c20b2
                    try clear c23
                    try clear c23b0
                    try clear c23b1
                    try clear c23b2
                    try clear c27
                    try clear c28
                    try clear c29
                    try clear c30
                    try clear c31
                    try clear c32
                    try clear c33
                    try clear c34
                    try clear c35
                    try clear c36
                    try clear c37
                    try clear c38
                    try clear c39
                    try clear c40
                    try clear c40b0
                    try clear c40b1
                    try clear c41
                    try clear c41b0
                    try clear c41b1
                    try clear c42
                    try clear c42b0
                    try clear c42b1
                    try clear c43
                    try clear c45
                    try clear c46
                    try clear c47
                    try clear c48
                    try clear c49
                    try clear c50
                    try clear c50b0
                    try clear c51
                    try clear c51b0
                    try clear c51b1
                    try clear p64
                    try clear c67
                    try clear c67b0
                    try clear c67b1
                    try clear c67b2
                    try clear hx790_0
                    try clear p2
                    try clear p6
                    try clear p7
                    try clear p790
                    try clear q7
                    try clear q790
                    obtain ⟨kq, x202_61, rfl, HA, HJ61, HO_25, HO_26, HB⟩ := hcut
                    as_aux_lemma =>
                      cases kq with
                      | zero => exact absurd HA.out (by simp [laws_FnSemisAreFoldings.j2])
                      | succ kj61 =>
                        have H := HA.out
                        clear HA
                        simp only [laws_FnSemisAreFoldings.j2] at H
                        by_cases c71 : x202_61 = true
                        · subst c71
                          have H1 : (some false) = some true := by rw [if_pos rfl] at H; first | done | exact H
                          clear H
                          have H := H1
                          clear H1
                          exact absurd H (by simp)
                        · replace c71 := Bool.eq_false_iff.mpr c71
                          subst c71
                          have H1 : (if t796 = true then ((impl_FoldingOfSemi.f kj61 t795).bind fun bt804 => (if bt804.2 = true then ((laws_ySame.f kj61 bt804.1 t792).bind fun t808 => (if t808 = true then (laws_FnSemisAreFoldings.j3 kj61 l1) else (some false))) else (some false))) else (laws_FnSemisAreFoldings.j3 kj61 l1)) = some true := by rw [if_neg (show ¬ (false = true) by decide)] at H; first | done | exact H
                          clear H
                          have H := H1
                          clear H1
                          have HC72 := Aside0.mk H
                          clear H
                          go_upto_if 203 with (fail)
                          go_cut [] from 203 to 204 (fun wc => ∃ (kq : Nat), Aside0 (laws_FnSemisAreFoldings.j3 kq l1 = some true) ∧ Aside0 (kq ≤ kj61) ∧ Aside0 (Below w.heap.size w wc))
                          case first =>
                            have H := HC72.out
                            clear HC72
                            by_cases c73 : t796 = true
                            · subst c73
                              have H1 : ((impl_FoldingOfSemi.f kj61 t795).bind fun bt804 => (if bt804.2 = true then ((laws_ySame.f kj61 bt804.1 t792).bind fun t808 => (if t808 = true then (laws_FnSemisAreFoldings.j3 kj61 l1) else (some false))) else (some false))) = some true := by rw [if_pos rfl] at H; first | done | exact H
                              clear H
                              have H := H1
                              clear H1
                              replace H := Option.bind_eq_some_iff.mp H
                              obtain ⟨⟨t804, t805⟩, A740, H⟩ := H
                              replace H : (if t805 = true then ((laws_ySame.f kj61 t804 t792).bind fun t808 => (if t808 = true then (laws_FnSemisAreFoldings.j3 kj61 l1) else (some false))) else (some false)) = some true := H
                              have A74 := Aside0.mk A740
                              clear A740
                              by_cases c75 : t805 = true
                              · subst c75
                                have H1 : ((laws_ySame.f kj61 t804 t792).bind fun t808 => (if t808 = true then (laws_FnSemisAreFoldings.j3 kj61 l1) else (some false))) = some true := by rw [if_pos rfl] at H; first | done | exact H
                                clear H
                                have H := H1
                                clear H1
                                replace H := Option.bind_eq_some_iff.mp H
                                obtain ⟨t808, A760, H⟩ := H
                                replace H : (if t808 = true then (laws_FnSemisAreFoldings.j3 kj61 l1) else (some false)) = some true := H
                                have A76 := Aside0.mk A760
                                clear A760
                                by_cases c77 : t808 = true
                                · subst c77
                                  have H1 : (laws_FnSemisAreFoldings.j3 kj61 l1) = some true := by rw [if_pos rfl] at H; first | done | exact H
                                  clear H
                                  have H := H1
                                  clear H1
                                  have H' := Aside0.mk H
                                  clear H
                                  obtain ⟨Ao78, co78, eo78⟩ := Kd.R_slice HO_26.out
                                  subst eo78
                                  go_wp2_with (first | ((with_reducible refine gate_callee (f := 28) rfl ?_); refine goesL_ (some 206) rfl rfl Tryz.func28 (by kernel_rfl) rfl #[.slice Ao78 t795.length co78] rfl (by (try simp only [List.map_toArray, List.map_cons, List.map_nil]); first | done | rfl | (simp only [List.length_drop, List.length_take]; rfl)) ?_; (with_reducible refine (impl_FoldingOfSemi.calls kj61 _ _ t795 t804 true _ ?side1 ?side2 A74.out).mono ?_); (case side1 => repeat (first | exact (Kd.R_reads' HO_26.out).2.2 | (with_reducible refine Kd.C_alloc ?_ _) | (with_reducible refine Kd.C_drewN ?_ _) | (with_reducible refine Kd.C_drew ?_))); (case side2 => exact (Kd.R_reads' HO_26.out).2.1); rintro e w79 ⟨v806, rfl, ho0, hb⟩; refine ⟨_, rfl, ?_⟩; have n0_ := Aside0.mk (Kd.R_elder' (by (with_reducible repeat (first | apply Kd.R_alloc | apply Kd.R_drewN | apply Kd.R_drew)); exact HO_25.out) (Kd.R_base ho0) hb); have n1_ := Aside0.mk (Kd.R_elder' (by (with_reducible repeat (first | apply Kd.R_alloc | apply Kd.R_drewN | apply Kd.R_drew)); exact HO_26.out) (Kd.R_base ho0) hb); have n2_ := Aside0.mk (Kd.R_lower (Kd.R_new' (Kd.R_new' ho0 (Kd.R_lt (by (with_reducible repeat (first | apply Kd.R_alloc | apply Kd.R_drewN | apply Kd.R_drew)); exact HO_25.out))) (Kd.R_lt (by (with_reducible repeat (first | apply Kd.R_alloc | apply Kd.R_drewN | apply Kd.R_drew)); exact HO_26.out))) (below_size (by repeat (first | (with_reducible first | exact HB.out | apply below_alloc | apply pw_below_drewN | apply below_drew1) | exact HB.out)))); have n3_ := Aside0.mk (below_step (by repeat (first | (with_reducible first | exact HB.out | apply below_alloc | apply pw_below_drewN | apply below_drew1) | exact HB.out)) hb); clear HO_25; clear HO_26; clear HB; have HO_25 := n0_; have HO_26 := n1_; have HO807 := n2_; have HB := n3_; clear n0_ n1_ n2_ n3_; (try clear hb); (try clear hb2); (try clear hk); (try clear hi); (try clear ho0); obtain ⟨Ao80, co80, eo80⟩ := Kd.R_slice HO807.out; subst eo80) | (go_at_call 24; (with_reducible refine (laws_ySame.calls kj61 _ _ t804 _ _ t792 true _ ?side1 ?side2 ?side3 ?side4 A76.out).mono ?_); (case side1 => repeat (first | exact (Kd.R_reads' HO807.out).2.2 | (with_reducible refine Kd.C_alloc ?_ _) | (with_reducible refine Kd.C_drewN ?_ _) | (with_reducible refine Kd.C_drew ?_))); (case side2 => exact (Kd.R_reads' HO807.out).2.1); (case side3 => repeat (first | exact (Kd.R_reads' HO_25.out).2.2 | (with_reducible refine Kd.C_alloc ?_ _) | (with_reducible refine Kd.C_drewN ?_ _) | (with_reducible refine Kd.C_drew ?_))); (case side4 => exact (Kd.R_reads' HO_25.out).2.1); rintro e w' ⟨rfl, ⟨nd, rfl⟩⟩))
                                  go_meet
                                  case rel => exact ⟨_, H', ⟨by have := HJ9.out; have := HJ30.out; have := HJ61.out; first | omega | exact Nat.le_refl _⟩, ⟨by repeat (first | (with_reducible first | exact HB.out | apply below_alloc | apply pw_below_drewN | apply below_drew1) | exact HB.out)⟩⟩
                                · replace c77 := Bool.eq_false_iff.mpr c77
                                  subst c77
                                  have H1 : (some false) = some true := by rw [if_neg (show ¬ (false = true) by decide)] at H; first | done | exact H
                                  clear H
                                  have H := H1
                                  clear H1
                                  exact absurd H (by simp)
                              · replace c75 := Bool.eq_false_iff.mpr c75
                                subst c75
                                have H1 : (some false) = some true := by rw [if_neg (show ¬ (false = true) by decide)] at H; first | done | exact H
                                clear H
                                have H := H1
                                clear H1
                                exact absurd H (by simp)
                            · replace c73 := Bool.eq_false_iff.mpr c73
                              subst c73
                              have H1 : (laws_FnSemisAreFoldings.j3 kj61 l1) = some true := by rw [if_neg (show ¬ (false = true) by decide)] at H; first | done | exact H
                              clear H
                              have H := H1
                              clear H1
                              have H' := Aside0.mk H
                              clear H
                              go_wp2
                              go_meet
                              case rel => exact ⟨_, H', ⟨by have := HJ9.out; have := HJ30.out; have := HJ61.out; first | omega | exact Nat.le_refl _⟩, ⟨by repeat (first | (with_reducible first | exact HB.out | apply below_alloc | apply pw_below_drewN | apply below_drew1) | exact HB.out)⟩⟩
                          case rest =>
                            clear HC72
                            try clear c1
                            try clear c2
                            try clear p2
                            try clear c3
                            try clear c4
                            try clear c5
                            try clear c6
                            try clear p6
                            try clear c7
                            try clear p7
                            try clear q7
                            try clear hx7
                            try clear qi7
                            try clear c13
                            try clear c17
                            try clear c17b0
                            try clear c17b1
                            try clear c17b2
                            try clear c19
                            try clear c20
                            try clear c20b0
                            try clear c20b1
                            try clear c20b2
                            try clear c23
                            try clear c23b0
                            try clear c23b1
                            try clear c23b2
                            try clear c27
                            try clear c28
                            try clear c29
                            try clear c30
                            try clear c31
                            try clear c32
                            try clear c33
                            try clear c34
                            try clear c35
                            try clear c36
                            try clear c37
                            try clear c38
                            try clear c39
                            try clear c40
                            try clear c40b0
                            try clear c40b1
                            try clear c41
                            try clear c41b0
                            try clear c41b1
                            try clear c42
                            try clear c42b0
                            try clear c42b1
                            try clear c43
                            try clear c45
                            try clear c46
                            try clear c47
                            try clear c48
                            try clear c49
                            try clear c50
                            try clear c50b0
                            try clear c51
                            try clear c51b0
                            try clear c51b1
                            try clear p64
                            try clear c67
                            try clear c67b0
                            try clear c67b1
                            try clear c67b2
                            try clear c71
                            try clear c73
                            try clear c75
                            try clear c77
                            try clear p79
                            try clear q79
                            try clear hx79
                            try clear qi79
                            try clear hx790_0
                            try clear p2
                            try clear p6
                            try clear p64
                            try clear p7
                            try clear p790
                            try clear q7
                            try clear q790
                            obtain ⟨kq, HA, HJ71, HB⟩ := hcut
                            as_aux_lemma =>
                              cases kq with
                              | zero => exact absurd HA.out (by simp [laws_FnSemisAreFoldings.j3])
                              | succ kj71 =>
                                have H := HA.out
                                clear HA
                                simp only [laws_FnSemisAreFoldings.j3] at H
                                replace H := Option.bind_eq_some_iff.mp H
                                obtain ⟨t809, A810, H⟩ := H
                                replace H : ((impl_SpreadOfWindings.f kj71 t809).bind fun bt810 => ((spec_SpreadOfWindings.f kj71 t809).bind fun bt814 => ((impl_AllSemis.f kj71 t809).bind fun bt818 => ((spec_AllSemis.f kj71 t809).bind fun bt822 => (if (bt810.2 != bt814.2) = true then (laws_FnSemisAreFoldings.j4 kj71 l1 true) else ((laws_ySame.f kj71 bt810.1 bt814.1).bind fun t826 => (if t826 = true then (if (bt818.2 != bt822.2) = true then (laws_FnSemisAreFoldings.j4 kj71 l1 true) else ((laws_yRows.f kj71 bt818.1 bt822.1).bind fun t827 => (if t827 = true then (if (bt818.2 != bt810.2) = true then (laws_FnSemisAreFoldings.j4 kj71 l1 true) else ((laws_ySum.f kj71 bt810.1).bind fun t828 => (laws_FnSemisAreFoldings.j4 kj71 l1 (t828 != (bt818.1.length : Int))))) else (laws_FnSemisAreFoldings.j4 kj71 l1 true)))) else (laws_FnSemisAreFoldings.j4 kj71 l1 true)))))))) = some true := H
                                have A81 := Aside0.mk A810
                                clear A810
                                replace H := Option.bind_eq_some_iff.mp H
                                obtain ⟨⟨t810, t811⟩, A820, H⟩ := H
                                replace H : ((spec_SpreadOfWindings.f kj71 t809).bind fun bt814 => ((impl_AllSemis.f kj71 t809).bind fun bt818 => ((spec_AllSemis.f kj71 t809).bind fun bt822 => (if (t811 != bt814.2) = true then (laws_FnSemisAreFoldings.j4 kj71 l1 true) else ((laws_ySame.f kj71 t810 bt814.1).bind fun t826 => (if t826 = true then (if (bt818.2 != bt822.2) = true then (laws_FnSemisAreFoldings.j4 kj71 l1 true) else ((laws_yRows.f kj71 bt818.1 bt822.1).bind fun t827 => (if t827 = true then (if (bt818.2 != t811) = true then (laws_FnSemisAreFoldings.j4 kj71 l1 true) else ((laws_ySum.f kj71 t810).bind fun t828 => (laws_FnSemisAreFoldings.j4 kj71 l1 (t828 != (bt818.1.length : Int))))) else (laws_FnSemisAreFoldings.j4 kj71 l1 true)))) else (laws_FnSemisAreFoldings.j4 kj71 l1 true))))))) = some true := H
                                have A82 := Aside0.mk A820
                                clear A820
                                replace H := Option.bind_eq_some_iff.mp H
                                obtain ⟨⟨t814, t815⟩, A830, H⟩ := H
                                replace H : ((impl_AllSemis.f kj71 t809).bind fun bt818 => ((spec_AllSemis.f kj71 t809).bind fun bt822 => (if (t811 != t815) = true then (laws_FnSemisAreFoldings.j4 kj71 l1 true) else ((laws_ySame.f kj71 t810 t814).bind fun t826 => (if t826 = true then (if (bt818.2 != bt822.2) = true then (laws_FnSemisAreFoldings.j4 kj71 l1 true) else ((laws_yRows.f kj71 bt818.1 bt822.1).bind fun t827 => (if t827 = true then (if (bt818.2 != t811) = true then (laws_FnSemisAreFoldings.j4 kj71 l1 true) else ((laws_ySum.f kj71 t810).bind fun t828 => (laws_FnSemisAreFoldings.j4 kj71 l1 (t828 != (bt818.1.length : Int))))) else (laws_FnSemisAreFoldings.j4 kj71 l1 true)))) else (laws_FnSemisAreFoldings.j4 kj71 l1 true)))))) = some true := H
                                have A83 := Aside0.mk A830
                                clear A830
                                replace H := Option.bind_eq_some_iff.mp H
                                obtain ⟨⟨t818, t819⟩, A840, H⟩ := H
                                replace H : ((spec_AllSemis.f kj71 t809).bind fun bt822 => (if (t811 != t815) = true then (laws_FnSemisAreFoldings.j4 kj71 l1 true) else ((laws_ySame.f kj71 t810 t814).bind fun t826 => (if t826 = true then (if (t819 != bt822.2) = true then (laws_FnSemisAreFoldings.j4 kj71 l1 true) else ((laws_yRows.f kj71 t818 bt822.1).bind fun t827 => (if t827 = true then (if (t819 != t811) = true then (laws_FnSemisAreFoldings.j4 kj71 l1 true) else ((laws_ySum.f kj71 t810).bind fun t828 => (laws_FnSemisAreFoldings.j4 kj71 l1 (t828 != (t818.length : Int))))) else (laws_FnSemisAreFoldings.j4 kj71 l1 true)))) else (laws_FnSemisAreFoldings.j4 kj71 l1 true))))) = some true := H
                                have A84 := Aside0.mk A840
                                clear A840
                                replace H := Option.bind_eq_some_iff.mp H
                                obtain ⟨⟨t822, t825⟩, A850, H⟩ := H
                                replace H : (if (t811 != t815) = true then (laws_FnSemisAreFoldings.j4 kj71 l1 true) else ((laws_ySame.f kj71 t810 t814).bind fun t826 => (if t826 = true then (if (t819 != t825) = true then (laws_FnSemisAreFoldings.j4 kj71 l1 true) else ((laws_yRows.f kj71 t818 t822).bind fun t827 => (if t827 = true then (if (t819 != t811) = true then (laws_FnSemisAreFoldings.j4 kj71 l1 true) else ((laws_ySum.f kj71 t810).bind fun t828 => (laws_FnSemisAreFoldings.j4 kj71 l1 (t828 != (t818.length : Int))))) else (laws_FnSemisAreFoldings.j4 kj71 l1 true)))) else (laws_FnSemisAreFoldings.j4 kj71 l1 true)))) = some true := H
                                have A85 := Aside0.mk A850
                                clear A850
                                have HC86 := Aside0.mk H
                                clear H
                                go_upto_region 33 with (first | ((with_reducible refine gate_callee (f := 38) rfl ?_); refine goesL_ (some 218) rfl rfl Tryz.func38 (by kernel_rfl) rfl #[.slice A1 l1.length c1] rfl (by (try simp only [List.map_toArray, List.map_cons, List.map_nil]); first | done | rfl | (simp only [List.length_drop, List.length_take]; rfl)) ?_; (with_reducible refine (spec_DrawSpreadOfWindings.calls _ _ l1 t809 _ ?side1 ?side2 A81.out).mono ?_); (case side1 => repeat (first | exact (Kd.C_below HR1.out HB.out) | (with_reducible refine Kd.C_alloc ?_ _) | (with_reducible refine Kd.C_drewN ?_ _) | (with_reducible refine Kd.C_drew ?_))); (case side2 => exact HC1.out); rintro e w87 ⟨rfl, hb⟩; refine ⟨_, rfl, ?_⟩; have n0_ := Aside0.mk (below_step (by repeat (first | (with_reducible first | exact HB.out | apply below_alloc | apply pw_below_drewN | apply below_drew1) | exact HB.out)) hb); clear HB; have HB := n0_; clear n0_; (try clear hb); (try clear hb2); (try clear hk); (try clear hi)) | ((with_reducible refine gate_callee (f := 39) rfl ?_); refine goesL_ (some 221) rfl rfl Tryz.func39 (by kernel_rfl) rfl #[.int .i64 t809] rfl (by (try simp only [List.map_toArray, List.map_cons, List.map_nil]); first | done | rfl | (simp only [List.length_drop, List.length_take]; rfl)) ?_; (with_reducible refine (impl_SpreadOfWindings.calls kj71 t809 t810 t811 _ A82.out).mono ?_); rintro e w88 ⟨v812, rfl, ho0, hb⟩; refine ⟨_, rfl, ?_⟩; have n0_ := Aside0.mk (Kd.R_lower ho0 (below_size (by repeat (first | (with_reducible first | exact HB.out | apply below_alloc | apply pw_below_drewN | apply below_drew1) | exact HB.out)))); have n1_ := Aside0.mk (below_step (by repeat (first | (with_reducible first | exact HB.out | apply below_alloc | apply pw_below_drewN | apply below_drew1) | exact HB.out)) hb); clear HB; have HO813 := n0_; have HB := n1_; clear n0_ n1_; (try clear hb); (try clear hb2); (try clear hk); (try clear hi); (try clear ho0)) | ((with_reducible refine gate_callee (f := 40) rfl ?_); refine goesL_ (some 226) rfl rfl Tryz.func40 (by kernel_rfl) rfl #[.int .i64 t809] rfl (by (try simp only [List.map_toArray, List.map_cons, List.map_nil]); first | done | rfl | (simp only [List.length_drop, List.length_take]; rfl)) ?_; (with_reducible refine (spec_SpreadOfWindings.calls kj71 t809 t814 t815 _ A83.out).mono ?_); rintro e w89 ⟨v816, rfl, ho0, hb⟩; refine ⟨_, rfl, ?_⟩; have n0_ := Aside0.mk (Kd.R_elder' (by (with_reducible repeat (first | apply Kd.R_alloc | apply Kd.R_drewN | apply Kd.R_drew)); exact HO813.out) (Kd.R_base ho0) hb); have n1_ := Aside0.mk (Kd.R_lower (Kd.R_new' ho0 (Kd.R_lt (by (with_reducible repeat (first | apply Kd.R_alloc | apply Kd.R_drewN | apply Kd.R_drew)); exact HO813.out))) (below_size (by repeat (first | (with_reducible first | exact HB.out | apply below_alloc | apply pw_below_drewN | apply below_drew1) | exact HB.out)))); have n2_ := Aside0.mk (below_step (by repeat (first | (with_reducible first | exact HB.out | apply below_alloc | apply pw_below_drewN | apply below_drew1) | exact HB.out)) hb); clear HO813; clear HB; have HO813 := n0_; have HO817 := n1_; have HB := n2_; clear n0_ n1_ n2_; (try clear hb); (try clear hb2); (try clear hk); (try clear hi); (try clear ho0)) | ((with_reducible refine gate_callee (f := 12) rfl ?_); refine goesL_ (some 231) rfl rfl Tryz.func12 (by kernel_rfl) rfl #[.int .i64 t809] rfl (by (try simp only [List.map_toArray, List.map_cons, List.map_nil]); first | done | rfl | (simp only [List.length_drop, List.length_take]; rfl)) ?_; (with_reducible refine (impl_AllSemis.calls kj71 t809 t818 t819 _ A84.out).mono ?_); rintro e w90 ⟨v820, rfl, ho0, hb⟩; refine ⟨_, rfl, ?_⟩; have n0_ := Aside0.mk (Kd.R_below (by (with_reducible repeat (first | apply Kd.R_alloc | apply Kd.R_drewN | apply Kd.R_drew)); exact HO813.out) hb); have n1_ := Aside0.mk (Kd.R_below (by (with_reducible repeat (first | apply Kd.R_alloc | apply Kd.R_drewN | apply Kd.R_drew)); exact HO817.out) hb); have n2_ := Aside0.mk (Kd.N_lower (Kd.N_mono (ok' := fun k_ => some k_ ≠ (v812 : Value).ownBlock ∧ some k_ ≠ (v816 : Value).ownBlock) (Kd.S_N (Kd.S_bound ho0)) (fun k_ hk_ => ⟨(Kd.fresh' (Kd.R_lt (by (with_reducible repeat (first | apply Kd.R_alloc | apply Kd.R_drewN | apply Kd.R_drew)); exact HO813.out)) k_ hk_.2.1), (Kd.fresh' (Kd.R_lt (by (with_reducible repeat (first | apply Kd.R_alloc | apply Kd.R_drewN | apply Kd.R_drew)); exact HO817.out)) k_ hk_.2.1)⟩)) (below_size (by repeat (first | (with_reducible first | exact HB.out | apply below_alloc | apply pw_below_drewN | apply below_drew1) | exact HB.out)))); have n3_ := Aside0.mk (below_step (by repeat (first | (with_reducible first | exact HB.out | apply below_alloc | apply pw_below_drewN | apply below_drew1) | exact HB.out)) hb); clear HO813; clear HO817; clear HB; have HO813 := n0_; have HO817 := n1_; have HO821 := n2_; have HB := n3_; clear n0_ n1_ n2_ n3_; (try clear hb); (try clear hb2); (try clear hk); (try clear hi); (try clear ho0)) | ((with_reducible refine gate_callee (f := 41) rfl ?_); refine goesL_ (some 236) rfl rfl Tryz.func41 (by kernel_rfl) rfl #[.int .i64 t809] rfl (by (try simp only [List.map_toArray, List.map_cons, List.map_nil]); first | done | rfl | (simp only [List.length_drop, List.length_take]; rfl)) ?_; (with_reducible refine (spec_AllSemis.calls kj71 t809 t822 t825 _ A85.out).mono ?_); rintro e w91 ⟨v823, rfl, ho0, hb⟩; refine ⟨_, rfl, ?_⟩; have n0_ := Aside0.mk (Kd.R_below (by (with_reducible repeat (first | apply Kd.R_alloc | apply Kd.R_drewN | apply Kd.R_drew)); exact HO813.out) hb); have n1_ := Aside0.mk (Kd.R_below (by (with_reducible repeat (first | apply Kd.R_alloc | apply Kd.R_drewN | apply Kd.R_drew)); exact HO817.out) hb); have n2_ := Aside0.mk (Kd.N_elder' (by (with_reducible repeat (first | apply Kd.N_alloc | apply Kd.N_drewN | apply Kd.N_drew)); exact HO821.out) (Kd.N_base ho0) hb); have n3_ := Aside0.mk (Kd.N_lower (Kd.N_mono (ok' := fun k_ => some k_ ≠ (v812 : Value).ownBlock ∧ some k_ ≠ (v816 : Value).ownBlock ∧ some k_ ≠ (v820 : Value).ownBlock) ho0 (fun k_ hk_ => ⟨(Kd.fresh' (Kd.R_lt (by (with_reducible repeat (first | apply Kd.R_alloc | apply Kd.R_drewN | apply Kd.R_drew)); exact HO813.out)) k_ hk_), (Kd.fresh' (Kd.R_lt (by (with_reducible repeat (first | apply Kd.R_alloc | apply Kd.R_drewN | apply Kd.R_drew)); exact HO817.out)) k_ hk_), (Kd.fresh' (Kd.N_lt (by (with_reducible repeat (first | apply Kd.N_alloc | apply Kd.N_drewN | apply Kd.N_drew)); exact HO821.out)) k_ hk_)⟩)) (below_size (by repeat (first | (with_reducible first | exact HB.out | apply below_alloc | apply pw_below_drewN | apply below_drew1) | exact HB.out)))); have n4_ := Aside0.mk (below_step (by repeat (first | (with_reducible first | exact HB.out | apply below_alloc | apply pw_below_drewN | apply below_drew1) | exact HB.out)) hb); clear HO813; clear HO817; clear HO821; clear HB; have HO813 := n0_; have HO817 := n1_; have HO821 := n2_; have HO824 := n3_; have HB := n4_; clear n0_ n1_ n2_ n3_ n4_; (try clear hb); (try clear hb2); (try clear hk); (try clear hi); (try clear ho0)))
                                (try simp only [Act.put, List.setIfInBounds_toArray, List.set_cons_zero, List.set_cons_succ])
                                go_cut [270] from 217 to 270 (fun v270 wc => ∃ (kq : Nat) (x270_85 : Bool), v270 = .bool x270_85 ∧ Aside0 (laws_FnSemisAreFoldings.j4 kq l1 x270_85 = some true) ∧ Aside0 (kq ≤ kj71) ∧ Aside0 (Below w.heap.size w wc))
                                case first =>
                                  have H := HC86.out
                                  clear HC86
                                  by_cases c92 : (t811 != t815) = true
                                  · rw [if_pos c92] at H
                                    have c92b0 : (t811 != t815) = true := c92
                                    (try (have c92b1 : decide (t811 = t815) = false := by simpa using c92))
                                    (try (have c92b2 : (t811 == t815) = false := by simpa using c92))
                                    (try (have c92b3 : ¬ (t811 = t815) := by simpa using c92))
                                    clear c92
                                    (first | rw [c92b0] | (simp only [i64_w, i32_w]; rw [c92b0]) | skip)
                                    have H' := Aside0.mk H
                                    clear H
                                    go_wp2
                                    go_meet
                                    case rel => exact ⟨_, (true), (by first | rfl | (simp; done) | (simp [*]; done)), H', ⟨by have := HJ9.out; have := HJ30.out; have := HJ61.out; have := HJ71.out; first | omega | exact Nat.le_refl _⟩, ⟨by repeat (first | (with_reducible first | exact HB.out | apply below_alloc | apply pw_below_drewN | apply below_drew1) | exact HB.out)⟩⟩
                                  · rw [if_neg c92] at H
                                    have c92b0 : (t811 != t815) = false := by simpa using c92
                                    (try (have c92b1 : decide (t811 = t815) = true := by simpa using c92))
                                    (try (have c92b2 : (t811 == t815) = true := by simpa using c92))
                                    clear c92
                                    (first | rw [c92b0] | (simp only [i64_w, i32_w]; rw [c92b0]) | skip)
                                    replace H := Option.bind_eq_some_iff.mp H
                                    obtain ⟨t826, A930, H⟩ := H
                                    replace H : (if t826 = true then (if (t819 != t825) = true then (laws_FnSemisAreFoldings.j4 kj71 l1 true) else ((laws_yRows.f kj71 t818 t822).bind fun t827 => (if t827 = true then (if (t819 != t811) = true then (laws_FnSemisAreFoldings.j4 kj71 l1 true) else ((laws_ySum.f kj71 t810).bind fun t828 => (laws_FnSemisAreFoldings.j4 kj71 l1 (t828 != (t818.length : Int))))) else (laws_FnSemisAreFoldings.j4 kj71 l1 true)))) else (laws_FnSemisAreFoldings.j4 kj71 l1 true)) = some true := H
                                    have A93 := Aside0.mk A930
                                    clear A930
                                    by_cases c94 : t826 = true
                                    · subst c94
                                      have H1 : (if (t819 != t825) = true then (laws_FnSemisAreFoldings.j4 kj71 l1 true) else ((laws_yRows.f kj71 t818 t822).bind fun t827 => (if t827 = true then (if (t819 != t811) = true then (laws_FnSemisAreFoldings.j4 kj71 l1 true) else ((laws_ySum.f kj71 t810).bind fun t828 => (laws_FnSemisAreFoldings.j4 kj71 l1 (t828 != (t818.length : Int))))) else (laws_FnSemisAreFoldings.j4 kj71 l1 true)))) = some true := by rw [if_pos rfl] at H; first | done | exact H
                                      clear H
                                      have H := H1
                                      clear H1
                                      by_cases c95 : (t819 != t825) = true
                                      · rw [if_pos c95] at H
                                        have c95b0 : (t819 != t825) = true := c95
                                        (try (have c95b1 : decide (t819 = t825) = false := by simpa using c95))
                                        (try (have c95b2 : (t819 == t825) = false := by simpa using c95))
                                        (try (have c95b3 : ¬ (t819 = t825) := by simpa using c95))
                                        clear c95
                                        have H' := Aside0.mk H
                                        clear H
                                        obtain ⟨Ao96, co96, eo96⟩ := Kd.R_slice HO813.out
                                        subst eo96
                                        obtain ⟨Ao97, co97, eo97⟩ := Kd.R_slice HO817.out
                                        subst eo97
                                        go_wp2_with (first | (go_at_call 24; (with_reducible refine (laws_ySame.calls kj71 _ _ t810 _ _ t814 true _ ?side1 ?side2 ?side3 ?side4 A93.out).mono ?_); (case side1 => repeat (first | exact (Kd.R_reads' HO813.out).2.2 | (with_reducible refine Kd.C_alloc ?_ _) | (with_reducible refine Kd.C_drewN ?_ _) | (with_reducible refine Kd.C_drew ?_))); (case side2 => exact (Kd.R_reads' HO813.out).2.1); (case side3 => repeat (first | exact (Kd.R_reads' HO817.out).2.2 | (with_reducible refine Kd.C_alloc ?_ _) | (with_reducible refine Kd.C_drewN ?_ _) | (with_reducible refine Kd.C_drew ?_))); (case side4 => exact (Kd.R_reads' HO817.out).2.1); rintro e w' ⟨rfl, ⟨nd, rfl⟩⟩))
                                        go_meet
                                        case rel => exact ⟨_, (true), (by first | rfl | (simp; done) | (simp [*]; done)), H', ⟨by have := HJ9.out; have := HJ30.out; have := HJ61.out; have := HJ71.out; first | omega | exact Nat.le_refl _⟩, ⟨by repeat (first | (with_reducible first | exact HB.out | apply below_alloc | apply pw_below_drewN | apply below_drew1) | exact HB.out)⟩⟩
                                      · rw [if_neg c95] at H
                                        have c95b0 : (t819 != t825) = false := by simpa using c95
                                        (try (have c95b1 : decide (t819 = t825) = true := by simpa using c95))
                                        (try (have c95b2 : (t819 == t825) = true := by simpa using c95))
                                        clear c95
                                        replace H := Option.bind_eq_some_iff.mp H
                                        obtain ⟨t827, A980, H⟩ := H
                                        replace H : (if t827 = true then (if (t819 != t811) = true then (laws_FnSemisAreFoldings.j4 kj71 l1 true) else ((laws_ySum.f kj71 t810).bind fun t828 => (laws_FnSemisAreFoldings.j4 kj71 l1 (t828 != (t818.length : Int))))) else (laws_FnSemisAreFoldings.j4 kj71 l1 true)) = some true := H
                                        have A98 := Aside0.mk A980
                                        clear A980
                                        by_cases c99 : t827 = true
                                        · subst c99
                                          have H1 : (if (t819 != t811) = true then (laws_FnSemisAreFoldings.j4 kj71 l1 true) else ((laws_ySum.f kj71 t810).bind fun t828 => (laws_FnSemisAreFoldings.j4 kj71 l1 (t828 != (t818.length : Int))))) = some true := by rw [if_pos rfl] at H; first | done | exact H
                                          clear H
                                          have H := H1
                                          clear H1
                                          by_cases c100 : (t819 != t811) = true
                                          · rw [if_pos c100] at H
                                            have c100b0 : (t819 != t811) = true := c100
                                            (try (have c100b1 : decide (t819 = t811) = false := by simpa using c100))
                                            (try (have c100b2 : (t819 == t811) = false := by simpa using c100))
                                            (try (have c100b3 : ¬ (t819 = t811) := by simpa using c100))
                                            clear c100
                                            have H' := Aside0.mk H
                                            clear H
                                            obtain ⟨Ao101, co101, eo101⟩ := Kd.R_slice HO813.out
                                            subst eo101
                                            obtain ⟨Ao102, co102, eo102⟩ := Kd.R_slice HO817.out
                                            subst eo102
                                            go_wp2_with (first | (go_at_call 24; (with_reducible refine (laws_ySame.calls kj71 _ _ t810 _ _ t814 true _ ?side1 ?side2 ?side3 ?side4 A93.out).mono ?_); (case side1 => repeat (first | exact (Kd.R_reads' HO813.out).2.2 | (with_reducible refine Kd.C_alloc ?_ _) | (with_reducible refine Kd.C_drewN ?_ _) | (with_reducible refine Kd.C_drew ?_))); (case side2 => exact (Kd.R_reads' HO813.out).2.1); (case side3 => repeat (first | exact (Kd.R_reads' HO817.out).2.2 | (with_reducible refine Kd.C_alloc ?_ _) | (with_reducible refine Kd.C_drewN ?_ _) | (with_reducible refine Kd.C_drew ?_))); (case side4 => exact (Kd.R_reads' HO817.out).2.1); rintro e w' ⟨rfl, ⟨nd, rfl⟩⟩; obtain ⟨Ao103, co103, eo103⟩ := Kd.N_slice HO821.out; subst eo103; obtain ⟨Ao104, co104, eo104⟩ := Kd.N_slice HO824.out; subst eo104) | (go_at_call 9; (with_reducible refine (laws_yRows.calls kj71 _ _ t818 _ _ t822 true _ ?side1 ?side2 ?side3 ?side4 A98.out).mono ?_); (case side1 => repeat (first | exact (Kd.N_reads' HO821.out).2.2 | (with_reducible refine Kd.C_alloc ?_ _) | (with_reducible refine Kd.C_drewN ?_ _) | (with_reducible refine Kd.C_drew ?_))); (case side2 => exact (Kd.N_reads' HO821.out).2.1); (case side3 => repeat (first | exact (Kd.N_reads' HO824.out).2.2 | (with_reducible refine Kd.C_alloc ?_ _) | (with_reducible refine Kd.C_drewN ?_ _) | (with_reducible refine Kd.C_drew ?_))); (case side4 => exact (Kd.N_reads' HO824.out).2.1); rintro e w' ⟨rfl, ⟨nd, rfl⟩⟩))
                                            go_meet
                                            case rel => exact ⟨_, (true), (by first | rfl | (simp; done) | (simp [*]; done)), H', ⟨by have := HJ9.out; have := HJ30.out; have := HJ61.out; have := HJ71.out; first | omega | exact Nat.le_refl _⟩, ⟨by repeat (first | (with_reducible first | exact HB.out | apply below_alloc | apply pw_below_drewN | apply below_drew1) | exact HB.out)⟩⟩
                                          · rw [if_neg c100] at H
                                            have c100b0 : (t819 != t811) = false := by simpa using c100
                                            (try (have c100b1 : decide (t819 = t811) = true := by simpa using c100))
                                            (try (have c100b2 : (t819 == t811) = true := by simpa using c100))
                                            clear c100
                                            replace H := Option.bind_eq_some_iff.mp H
                                            obtain ⟨t828, A1050, H⟩ := H
                                            replace H : (laws_FnSemisAreFoldings.j4 kj71 l1 (t828 != (t818.length : Int))) = some true := H
                                            have A105 := Aside0.mk A1050
                                            clear A1050
                                            have H' := Aside0.mk H
                                            clear H
                                            obtain ⟨Ao106, co106, eo106⟩ := Kd.R_slice HO813.out
                                            subst eo106
                                            obtain ⟨Ao107, co107, eo107⟩ := Kd.R_slice HO817.out
                                            subst eo107
                                            go_wp2_with (first | (go_at_call 24; (with_reducible refine (laws_ySame.calls kj71 _ _ t810 _ _ t814 true _ ?side1 ?side2 ?side3 ?side4 A93.out).mono ?_); (case side1 => repeat (first | exact (Kd.R_reads' HO813.out).2.2 | (with_reducible refine Kd.C_alloc ?_ _) | (with_reducible refine Kd.C_drewN ?_ _) | (with_reducible refine Kd.C_drew ?_))); (case side2 => exact (Kd.R_reads' HO813.out).2.1); (case side3 => repeat (first | exact (Kd.R_reads' HO817.out).2.2 | (with_reducible refine Kd.C_alloc ?_ _) | (with_reducible refine Kd.C_drewN ?_ _) | (with_reducible refine Kd.C_drew ?_))); (case side4 => exact (Kd.R_reads' HO817.out).2.1); rintro e w' ⟨rfl, ⟨nd, rfl⟩⟩; obtain ⟨Ao108, co108, eo108⟩ := Kd.N_slice HO821.out; subst eo108; obtain ⟨Ao109, co109, eo109⟩ := Kd.N_slice HO824.out; subst eo109) | (go_at_call 9; (with_reducible refine (laws_yRows.calls kj71 _ _ t818 _ _ t822 true _ ?side1 ?side2 ?side3 ?side4 A98.out).mono ?_); (case side1 => repeat (first | exact (Kd.N_reads' HO821.out).2.2 | (with_reducible refine Kd.C_alloc ?_ _) | (with_reducible refine Kd.C_drewN ?_ _) | (with_reducible refine Kd.C_drew ?_))); (case side2 => exact (Kd.N_reads' HO821.out).2.1); (case side3 => repeat (first | exact (Kd.N_reads' HO824.out).2.2 | (with_reducible refine Kd.C_alloc ?_ _) | (with_reducible refine Kd.C_drewN ?_ _) | (with_reducible refine Kd.C_drew ?_))); (case side4 => exact (Kd.N_reads' HO824.out).2.1); rintro e w' ⟨rfl, ⟨nd, rfl⟩⟩) | (go_at_call 42; (with_reducible refine (laws_ySum.calls kj71 _ _ t810 t828 _ ?side1 ?side2 A105.out).mono ?_); (case side1 => repeat (first | exact (Kd.R_reads' HO813.out).2.2 | (with_reducible refine Kd.C_alloc ?_ _) | (with_reducible refine Kd.C_drewN ?_ _) | (with_reducible refine Kd.C_drew ?_))); (case side2 => exact (Kd.R_reads' HO813.out).2.1); rintro e w' ⟨rfl, ⟨nd, rfl⟩⟩))
                                            go_meet
                                            case rel => exact ⟨_, ((t828 != (t818.length : Int))), (by first | rfl | (simp; done) | (simp [*]; done)), H', ⟨by have := HJ9.out; have := HJ30.out; have := HJ61.out; have := HJ71.out; first | omega | exact Nat.le_refl _⟩, ⟨by repeat (first | (with_reducible first | exact HB.out | apply below_alloc | apply pw_below_drewN | apply below_drew1) | exact HB.out)⟩⟩
                                        · replace c99 := Bool.eq_false_iff.mpr c99
                                          subst c99
                                          have H1 : (laws_FnSemisAreFoldings.j4 kj71 l1 true) = some true := by rw [if_neg (show ¬ (false = true) by decide)] at H; first | done | exact H
                                          clear H
                                          have H := H1
                                          clear H1
                                          have H' := Aside0.mk H
                                          clear H
                                          obtain ⟨Ao110, co110, eo110⟩ := Kd.R_slice HO813.out
                                          subst eo110
                                          obtain ⟨Ao111, co111, eo111⟩ := Kd.R_slice HO817.out
                                          subst eo111
                                          go_wp2_with (first | (go_at_call 24; (with_reducible refine (laws_ySame.calls kj71 _ _ t810 _ _ t814 true _ ?side1 ?side2 ?side3 ?side4 A93.out).mono ?_); (case side1 => repeat (first | exact (Kd.R_reads' HO813.out).2.2 | (with_reducible refine Kd.C_alloc ?_ _) | (with_reducible refine Kd.C_drewN ?_ _) | (with_reducible refine Kd.C_drew ?_))); (case side2 => exact (Kd.R_reads' HO813.out).2.1); (case side3 => repeat (first | exact (Kd.R_reads' HO817.out).2.2 | (with_reducible refine Kd.C_alloc ?_ _) | (with_reducible refine Kd.C_drewN ?_ _) | (with_reducible refine Kd.C_drew ?_))); (case side4 => exact (Kd.R_reads' HO817.out).2.1); rintro e w' ⟨rfl, ⟨nd, rfl⟩⟩; obtain ⟨Ao112, co112, eo112⟩ := Kd.N_slice HO821.out; subst eo112; obtain ⟨Ao113, co113, eo113⟩ := Kd.N_slice HO824.out; subst eo113) | (go_at_call 9; (with_reducible refine (laws_yRows.calls kj71 _ _ t818 _ _ t822 false _ ?side1 ?side2 ?side3 ?side4 A98.out).mono ?_); (case side1 => repeat (first | exact (Kd.N_reads' HO821.out).2.2 | (with_reducible refine Kd.C_alloc ?_ _) | (with_reducible refine Kd.C_drewN ?_ _) | (with_reducible refine Kd.C_drew ?_))); (case side2 => exact (Kd.N_reads' HO821.out).2.1); (case side3 => repeat (first | exact (Kd.N_reads' HO824.out).2.2 | (with_reducible refine Kd.C_alloc ?_ _) | (with_reducible refine Kd.C_drewN ?_ _) | (with_reducible refine Kd.C_drew ?_))); (case side4 => exact (Kd.N_reads' HO824.out).2.1); rintro e w' ⟨rfl, ⟨nd, rfl⟩⟩))
                                          go_meet
                                          case rel => exact ⟨_, (true), (by first | rfl | (simp; done) | (simp [*]; done)), H', ⟨by have := HJ9.out; have := HJ30.out; have := HJ61.out; have := HJ71.out; first | omega | exact Nat.le_refl _⟩, ⟨by repeat (first | (with_reducible first | exact HB.out | apply below_alloc | apply pw_below_drewN | apply below_drew1) | exact HB.out)⟩⟩
                                    · replace c94 := Bool.eq_false_iff.mpr c94
                                      subst c94
                                      have H1 : (laws_FnSemisAreFoldings.j4 kj71 l1 true) = some true := by rw [if_neg (show ¬ (false = true) by decide)] at H; first | done | exact H
                                      clear H
                                      have H := H1
                                      clear H1
                                      have H' := Aside0.mk H
                                      clear H
                                      obtain ⟨Ao114, co114, eo114⟩ := Kd.R_slice HO813.out
                                      subst eo114
                                      obtain ⟨Ao115, co115, eo115⟩ := Kd.R_slice HO817.out
                                      subst eo115
                                      go_wp2_with (first | (go_at_call 24; (with_reducible refine (laws_ySame.calls kj71 _ _ t810 _ _ t814 false _ ?side1 ?side2 ?side3 ?side4 A93.out).mono ?_); (case side1 => repeat (first | exact (Kd.R_reads' HO813.out).2.2 | (with_reducible refine Kd.C_alloc ?_ _) | (with_reducible refine Kd.C_drewN ?_ _) | (with_reducible refine Kd.C_drew ?_))); (case side2 => exact (Kd.R_reads' HO813.out).2.1); (case side3 => repeat (first | exact (Kd.R_reads' HO817.out).2.2 | (with_reducible refine Kd.C_alloc ?_ _) | (with_reducible refine Kd.C_drewN ?_ _) | (with_reducible refine Kd.C_drew ?_))); (case side4 => exact (Kd.R_reads' HO817.out).2.1); rintro e w' ⟨rfl, ⟨nd, rfl⟩⟩))
                                      go_meet
                                      case rel => exact ⟨_, (true), (by first | rfl | (simp; done) | (simp [*]; done)), H', ⟨by have := HJ9.out; have := HJ30.out; have := HJ61.out; have := HJ71.out; first | omega | exact Nat.le_refl _⟩, ⟨by repeat (first | (with_reducible first | exact HB.out | apply below_alloc | apply pw_below_drewN | apply below_drew1) | exact HB.out)⟩⟩
                                case rest =>
                                  clear HC86
                                  try clear c1
                                  try clear c2
                                  try clear p2
                                  try clear c3
                                  try clear c4
                                  try clear c5
                                  try clear c6
                                  try clear p6
                                  try clear c7
                                  try clear p7
                                  try clear q7
                                  try clear hx7
                                  try clear qi7
                                  try clear c9
                                  try clear c10
                                  try clear c12
                                  try clear c13
                                  try clear c17
                                  try clear c17b0
                                  try clear c17b1
                                  try clear c17b2
                                  try clear c19
                                  try clear c20
                                  try clear c20b0
                                  try clear c20b1
                                  try clear c20b2
                                  try clear c23
                                  try clear c23b0
                                  try clear c23b1
                                  try clear c23b2
                                  try clear c27
                                  try clear c28
                                  try clear c29
                                  try clear c30
                                  try clear c31
                                  try clear c32
                                  try clear c33
                                  try clear c34
                                  try clear c35
                                  try clear c36
                                  try clear c37
                                  try clear c38
                                  try clear c39
                                  try clear c40
                                  try clear c40b0
                                  try clear c40b1
                                  try clear c41
                                  try clear c41b0
                                  try clear c41b1
                                  try clear c42
                                  try clear c42b0
                                  try clear c42b1
                                  try clear c43
                                  try clear c45
                                  try clear c46
                                  try clear c47
                                  try clear c48
                                  try clear c49
                                  try clear c50
                                  try clear c50b0
                                  try clear c51
                                  try clear c51b0
                                  try clear c51b1
                                  try clear p64
                                  try clear c67
                                  try clear c67b0
                                  try clear c67b1
                                  try clear c67b2
                                  try clear c71
                                  try clear c73
                                  try clear c75
                                  try clear c77
                                  try clear p79
                                  try clear q79
                                  try clear hx79
                                  try clear qi79
                                  try clear c92
                                  try clear c92b0
                                  try clear c92b1
                                  try clear c92b2
                                  try clear c94
                                  try clear c95
                                  try clear c95b0
                                  try clear c95b1
                                  try clear c95b2
                                  try clear c99
                                  try clear c100
                                  try clear c100b0
                                  try clear c100b1
                                  try clear c100b2
                                  try clear hx790_0
                                  try clear p2
                                  try clear p6
                                  try clear p64
                                  try clear p7
                                  try clear p79
                                  try clear p790
                                  try clear q7
                                  try clear q79
                                  try clear q790
                                  obtain ⟨kq, x270_85, rfl, HA, HJ85, HB⟩ := hcut
                                  as_aux_lemma =>
                                    cases kq with
                                    | zero => exact absurd HA.out (by simp [laws_FnSemisAreFoldings.j4])
                                    | succ kj85 =>
                                      have H := HA.out
                                      clear HA
                                      simp only [laws_FnSemisAreFoldings.j4] at H
                                      by_cases c116 : x270_85 = true
                                      · subst c116
                                        have H1 : (some false) = some true := by rw [if_pos rfl] at H; first | done | exact H
                                        clear H
                                        have H := H1
                                        clear H1
                                        exact absurd H (by simp)
                                      · replace c116 := Bool.eq_false_iff.mpr c116
                                        subst c116
                                        have H1 : ((spec_DrawWindingOf.f kj85 l1).bind fun t829 => ((impl_WindingOf.f kj85 t829).bind fun bt832 => ((spec_WindingOf.f kj85 t829).bind fun bt834 => (if (bt832.2 == bt834.2) = true then (some (bt832.1 == bt834.1)) else (some false))))) = some true := by rw [if_neg (show ¬ (false = true) by decide)] at H; first | done | exact H
                                        clear H
                                        have H := H1
                                        clear H1
                                        replace H := Option.bind_eq_some_iff.mp H
                                        obtain ⟨t829, A1170, H⟩ := H
                                        replace H : ((impl_WindingOf.f kj85 t829).bind fun bt832 => ((spec_WindingOf.f kj85 t829).bind fun bt834 => (if (bt832.2 == bt834.2) = true then (some (bt832.1 == bt834.1)) else (some false)))) = some true := H
                                        have A117 := Aside0.mk A1170
                                        clear A1170
                                        replace H := Option.bind_eq_some_iff.mp H
                                        obtain ⟨⟨t832, t833⟩, A1180, H⟩ := H
                                        replace H : ((spec_WindingOf.f kj85 t829).bind fun bt834 => (if (t833 == bt834.2) = true then (some (t832 == bt834.1)) else (some false))) = some true := H
                                        have A118 := Aside0.mk A1180
                                        clear A1180
                                        replace H := Option.bind_eq_some_iff.mp H
                                        obtain ⟨⟨t834, t835⟩, A1190, H⟩ := H
                                        replace H : (if (t833 == t835) = true then (some (t832 == t834)) else (some false)) = some true := H
                                        have A119 := Aside0.mk A1190
                                        clear A1190
                                        by_cases c120 : (t833 == t835) = true
                                        · rw [if_pos c120] at H
                                          have c120b0 : (t833 == t835) = true := c120
                                          (try (have c120b1 : decide (t833 = t835) = true := by simpa using c120))
                                          (try (have c120b2 : (t833 == t835) = true := by simpa using c120))
                                          clear c120
                                          have HX := Aside0.mk (Option.some.inj H)
                                          clear H
                                          go_wp2_with (first | ((with_reducible refine gate_callee (f := 43) rfl ?_); refine goesL_ (some 272) rfl rfl Tryz.func43 (by kernel_rfl) rfl #[.slice A1 l1.length c1] rfl (by (try simp only [List.map_toArray, List.map_cons, List.map_nil]); first | done | rfl | (simp only [List.length_drop, List.length_take]; rfl)) ?_; (with_reducible refine (spec_DrawWindingOf.calls kj85 _ _ l1 t829 _ ?side1 ?side2 A117.out).mono ?_); (case side1 => repeat (first | exact (Kd.C_below HR1.out HB.out) | (with_reducible refine Kd.C_alloc ?_ _) | (with_reducible refine Kd.C_drewN ?_ _) | (with_reducible refine Kd.C_drew ?_))); (case side2 => exact HC1.out); rintro e w121 ⟨v830, rfl, ho0, hb⟩; refine ⟨_, rfl, ?_⟩; have n0_ := Aside0.mk (Kd.R_lower ho0 (below_size (by repeat (first | (with_reducible first | exact HB.out | apply below_alloc | apply pw_below_drewN | apply below_drew1) | exact HB.out)))); have n1_ := Aside0.mk (below_step (by repeat (first | (with_reducible first | exact HB.out | apply below_alloc | apply pw_below_drewN | apply below_drew1) | exact HB.out)) hb); clear HB; have HO831 := n0_; have HB := n1_; clear n0_ n1_; (try clear hb); (try clear hb2); (try clear hk); (try clear hi); (try clear ho0); obtain ⟨Ao122, co122, eo122⟩ := Kd.R_slice HO831.out; subst eo122) | ((with_reducible refine gate_callee (f := 35) rfl ?_); refine goesL_ (some 275) rfl rfl Tryz.func35 (by kernel_rfl) rfl #[.slice Ao122 t829.length co122] rfl (by (try simp only [List.map_toArray, List.map_cons, List.map_nil]); first | done | rfl | (simp only [List.length_drop, List.length_take]; rfl)) ?_; (with_reducible refine (impl_WindingOf.calls kj85 _ _ t829 t832 t833 _ ?side1 ?side2 A118.out).mono ?_); (case side1 => repeat (first | exact (Kd.R_reads' HO831.out).2.2 | (with_reducible refine Kd.C_alloc ?_ _) | (with_reducible refine Kd.C_drewN ?_ _) | (with_reducible refine Kd.C_drew ?_))); (case side2 => exact (Kd.R_reads' HO831.out).2.1); rintro e w' ⟨rfl, ⟨nd, rfl⟩⟩; refine ⟨_, rfl, ?_⟩) | ((with_reducible refine gate_callee (f := 44) rfl ?_); refine goesL_ (some 280) rfl rfl Tryz.func44 (by kernel_rfl) rfl #[.slice Ao122 t829.length co122] rfl (by (try simp only [List.map_toArray, List.map_cons, List.map_nil]); first | done | rfl | (simp only [List.length_drop, List.length_take]; rfl)) ?_; (with_reducible refine (spec_WindingOf.calls kj85 _ _ t829 t834 t835 _ ?side1 ?side2 A119.out).mono ?_); (case side1 => repeat (first | exact (Kd.R_reads' HO831.out).2.2 | (with_reducible refine Kd.C_alloc ?_ _) | (with_reducible refine Kd.C_drewN ?_ _) | (with_reducible refine Kd.C_drew ?_))); (case side2 => exact (Kd.R_reads' HO831.out).2.1); rintro e w123 ⟨rfl, hb⟩; refine ⟨_, rfl, ?_⟩; have n0_ := Aside0.mk (Kd.R_below (by (with_reducible repeat (first | apply Kd.R_alloc | apply Kd.R_drewN | apply Kd.R_drew)); exact HO831.out) hb); have n1_ := Aside0.mk (below_step (by repeat (first | (with_reducible first | exact HB.out | apply below_alloc | apply pw_below_drewN | apply below_drew1) | exact HB.out)) hb); clear HO831; clear HB; have HO831 := n0_; have HB := n1_; clear n0_ n1_; (try clear hb); (try clear hb2); (try clear hk); (try clear hi)))
                                          go_ret
                                          exact ⟨by first | rfl | (rw [HX.out]; done) | (rw [eq_of_beq HX.out]; first | rfl | (simp; done)) | (have hx_ := HX.out; simp_all; done) | (simp [errW_none, errW_some] <;> rfl) | (simp [*, errW_none, errW_some] <;> rfl), by repeat (first | (with_reducible first | exact HB.out | apply below_alloc | apply pw_below_drewN | apply below_drew1) | exact HB.out)⟩
                                        · rw [if_neg c120] at H
                                          have c120b0 : (t833 == t835) = false := by simpa using c120
                                          (try (have c120b1 : decide (t833 = t835) = false := by simpa using c120))
                                          (try (have c120b2 : (t833 == t835) = false := by simpa using c120))
                                          (try (have c120b3 : ¬ (t833 = t835) := by simpa using c120))
                                          clear c120
                                          exact absurd H (by simp)

/-- THE ONE PURE STATEMENT of laws_FnSemisAreFoldings: yours. -/
def laws_FnSemisAreFoldings.Pure : Prop := ∀ (l0 : List Int) (l1 : List Int), l0.length ≤ maxLen → l0.length * 1 ≤ 140737488351232 → (∀ x ∈ l0, (Lit.int .u8 x).wf = true) → l1.length ≤ maxLen → l1.length * 1 ≤ 140737488351232 → (∀ x ∈ l1, (Lit.int .u8 x).wf = true) → ∃ k, laws_FnSemisAreFoldings.f k l0 l1 = some true
theorem laws_FnSemisAreFoldings.walk (P : laws_FnSemisAreFoldings.Pure) (a0 : Option Addr) (len0 cap0 : Nat) (z0 : List Int) (a1 : Option Addr) (len1 cap1 : Nat) (z1 : List Int) (w : World) (w0 : (a0 = none ∧ len0 = 0 ∧ cap0 = 0 ∧ z0 = []) ∨ ∃ x, a0 = some x ∧ len0 ≤ cap0 ∧ cap0 ≤ maxLen ∧ z0.length = cap0 ∧ (∀ i, i < z0.length → w.cell? (x.add i) = some (.int .u8 (z0.getD i 0))) ∧ ∀ n ∈ z0, (Lit.int .u8 n).wf = true) (y0 : len0 * 1 ≤ 140737488351232) (w1 : (a1 = none ∧ len1 = 0 ∧ cap1 = 0 ∧ z1 = []) ∨ ∃ x, a1 = some x ∧ len1 ≤ cap1 ∧ cap1 ≤ maxLen ∧ z1.length = cap1 ∧ (∀ i, i < z1.length → w.cell? (x.add i) = some (.int .u8 (z1.getD i 0))) ∧ ∀ n ∈ z1, (Lit.int .u8 n).wf = true) (y1 : len1 * 1 ≤ 140737488351232) :
    Calls Tryz.prog 4 #[.slice a0 len0 cap0, .slice a1 len1 cap1] w fun e w' => e = .returned (.bool true) ∧ Below w.heap.size w w' := by
  obtain ⟨l0, rfl, hr0, hm0, hw0, hc0⟩ := ReadsInt.ofRowC w0
  obtain ⟨l1, rfl, hr1, hm1, hw1, hc1⟩ := ReadsInt.ofRowC w1
  obtain ⟨k, h⟩ := P l0 l1 hm0 y0 hw0 hm1 y1 hw1
  refine (laws_FnSemisAreFoldings.calls k _ _ l0 _ _ l1 w (Kd.C_of_reads (d := (0 : Int)) (h1 := fun _ => rfl) hr0) hc0 (Kd.C_of_reads (d := (0 : Int)) (h1 := fun _ => rfl) hr1) hc1 h).mono ?_
  rintro e w' ⟨rfl, hd⟩
  exact ⟨rfl, hd⟩

end Go.Proofs.YtjgkcknopnollaaGreat.D
