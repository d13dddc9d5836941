-- printed by wip/drv/xprint.py (our driver) out of the translation; Lean checks it
import Derived.Test.YtiljhemobammdaaO0
import Derived.Test.YtiljhemobammdaaO1
import Derived.Test.YtiljhemobammdaaO2
import Derived.Test.YtiljhemobammdaaO3
import Derived.Test.YtiljhemobammdaaO4
import Derived.Test.YtiljhemobammdaaO5
import Derived.Test.YtiljhemobammdaaO6
namespace Go.Proofs.Ytiljhemobammdaa.O
open Go.RowKit Go.Proofs.YtiljhemobammdaaW.PrintWords Go.Proofs.YtiljhemobammdaaW.PrintLast Go.Proofs.YtiljhemobammdaaW.PrintMore
attribute [local go_sem] max2_int min2_int max_two min_two max_three min_three max_four min_four   -- for this text's walks alone
set_option linter.unusedVariables false
set_option linter.unusedSimpArgs false

/-! ### laws_FnJoinsMoveOver: function 6 -/
mutual
def laws_FnJoinsMoveOver.j0 : Nat → List Int → List Int → Int → List Int → Int → Bool → Bool → Option (Bool)
  | 0, _, _, _, _, _, _, _ => none
  | k + 1, x1, x5, x6, x7, x8, x12, x58 => if x58 = true then (some false) else (if x12 = true then ((impl_JoinedSystem.f k x7 x6).bind fun bt347 => (if bt347.2.2 = true then (if bt347.2.1 = 1 then ((laws_sSame.f k bt347.1 x7).bind fun t352 => (if t352 = true then ((impl_IsSystem.f k x7).bind fun t353 => (if t353 = true then (if 0 ≤ x6 then (if x6 < (x7.length : Int) then (laws_FnJoinsMoveOver.j1 k x1 x5 x6 x7 x8 ((rd x7 x6) != (wrap64 (x6 + 1)))) else (none)) else (none)) else (laws_FnJoinsMoveOver.j1 k x1 x5 x6 x7 x8 true))) else (laws_FnJoinsMoveOver.j1 k x1 x5 x6 x7 x8 true))) else (laws_FnJoinsMoveOver.j1 k x1 x5 x6 x7 x8 true)) else (laws_FnJoinsMoveOver.j1 k x1 x5 x6 x7 x8 true))) else (some true))
def laws_FnJoinsMoveOver.j1 : Nat → List Int → List Int → Int → List Int → Int → Bool → Option (Bool)
  | 0, _, _, _, _, _, _ => none
  | k + 1, x1, x5, x6, x7, x8, x93 => if x93 = true then (some false) else ((impl_AllSystems.f k (wrap64 ((x5.length : Int) / 2))).bind fun bt355 => (if bt355.2 = true then (laws_FnJoinsMoveOver.l0 k x1 x5 x6 x7 x8 bt355.1 0) else (some false)))
def laws_FnJoinsMoveOver.l0 : Nat → List Int → List Int → Int → List Int → Int → List (List Int) → Int → Option (Bool)
  | 0, _, _, _, _, _, _, _ => none
  | k + 1, x1, x5, x6, x7, x8, x16, x18 => if x18 < 6 then (if (x16.length : Int) = 0 then (none) else (if 0 ≤ (Int.tmod (wrap64 ((wrap64 (x18 * 7)) + (x1.length : Int))) (x16.length : Int)) then (if (Int.tmod (wrap64 ((wrap64 (x18 * 7)) + (x1.length : Int))) (x16.length : Int)) < (x16.length : Int) then ((impl_JoinedSystem.f k (rd_L2 x16 (Int.tmod (wrap64 ((wrap64 (x18 * 7)) + (x1.length : Int))) (x16.length : Int))) x6).bind fun bt360 => (if bt360.2.2 = true then ((laws_sCount.f k x7 (rd_L2 x16 (Int.tmod (wrap64 ((wrap64 (x18 * 7)) + (x1.length : Int))) (x16.length : Int)))).bind fun t365 => ((laws_sCount.f k x5 bt360.1).bind fun t366 => (if (wrap64 (t365 + x8)) = (wrap64 (t366 + bt360.2.1)) then (laws_FnJoinsMoveOver.l0 k x1 x5 x6 x7 x8 x16 (wrap64 (x18 + 1))) else (some false)))) else (some false))) else (none)) else (none))) else (some true)
end
def laws_FnJoinsMoveOver.f (k : Nat) (l0 : List Int) (l1 : List Int) : Option (Bool) := (laws_big.f l0 l1).bind fun t331 => (if t331 = true then (some true) else ((spec_DrawJoinedSystem.f k l0).bind fun bt332 => ((impl_JoinedSystem.f k bt332.1 bt332.2).bind fun bt336 => ((spec_JoinedSystem.f k bt332.1 bt332.2).bind fun bt341 => (if (bt336.2.2 != bt341.2.2) = true then (laws_FnJoinsMoveOver.j0 k l1 bt332.1 bt332.2 bt336.1 bt336.2.1 bt341.2.2 true) else ((laws_sSame.f k bt336.1 bt341.1).bind fun t346 => (if t346 = true then (laws_FnJoinsMoveOver.j0 k l1 bt332.1 bt332.2 bt336.1 bt336.2.1 bt341.2.2 (bt336.2.1 != bt341.2.1)) else (laws_FnJoinsMoveOver.j0 k l1 bt332.1 bt332.2 bt336.1 bt336.2.1 bt341.2.2 true))))))))
theorem laws_FnJoinsMoveOver.mono_l : ∀ k, (∀ y0 y1 y2 y3 y4 y5 y6, LeO (laws_FnJoinsMoveOver.j0 k y0 y1 y2 y3 y4 y5 y6) (laws_FnJoinsMoveOver.j0 (k + 1) y0 y1 y2 y3 y4 y5 y6)) ∧ (∀ y0 y1 y2 y3 y4 y5, LeO (laws_FnJoinsMoveOver.j1 k y0 y1 y2 y3 y4 y5) (laws_FnJoinsMoveOver.j1 (k + 1) y0 y1 y2 y3 y4 y5)) ∧ (∀ y0 y1 y2 y3 y4 y5 y6, LeO (laws_FnJoinsMoveOver.l0 k y0 y1 y2 y3 y4 y5 y6) (laws_FnJoinsMoveOver.l0 (k + 1) y0 y1 y2 y3 y4 y5 y6))
  | 0 => ⟨fun _ _ _ _ _ _ _ r h => by simp [laws_FnJoinsMoveOver.j0] at h, fun _ _ _ _ _ _ r h => by simp [laws_FnJoinsMoveOver.j1] at h, fun _ _ _ _ _ _ _ r h => by simp [laws_FnJoinsMoveOver.l0] at h⟩
  | k + 1 => by
    obtain ⟨ih0, ih1, ih2⟩ := laws_FnJoinsMoveOver.mono_l k
    refine ⟨?_, ?_, ?_⟩
    · intro y0 y1 y2 y3 y4 y5 y6
      unfold laws_FnJoinsMoveOver.j0
      repeat' first
      | (with_reducible exact ih0 _ _ _ _ _ _ _)
      | (with_reducible exact ih1 _ _ _ _ _ _)
      | (with_reducible exact ih2 _ _ _ _ _ _ _)
      | (with_reducible exact impl_AllSystems.mono _ _)
      | (with_reducible exact impl_IsSystem.mono _ _)
      | (with_reducible exact impl_JoinedSystem.mono _ _ _)
      | (with_reducible exact laws_sCount.mono _ _ _)
      | (with_reducible exact laws_sSame.mono _ _ _)
      | (with_reducible exact spec_DrawJoinedSystem.mono _ _)
      | (with_reducible exact spec_JoinedSystem.mono _ _ _)
      | (with_reducible exact LeO.refl _)
      | (with_reducible exact LeO.none _)
      | (with_reducible refine LeO.ite ?_ ?_)
      | (with_reducible refine LeO.bind ?_ (fun _ => ?_))
      | exact ih0 _ _ _ _ _ _ _
      | exact ih1 _ _ _ _ _ _
      | exact ih2 _ _ _ _ _ _ _
      | exact impl_AllSystems.mono _ _
      | exact impl_IsSystem.mono _ _
      | exact impl_JoinedSystem.mono _ _ _
      | exact laws_sCount.mono _ _ _
      | exact laws_sSame.mono _ _ _
      | exact spec_DrawJoinedSystem.mono _ _
      | exact spec_JoinedSystem.mono _ _ _
      | exact LeO.none _
      | refine LeO.ite ?_ ?_
      | refine LeO.bind ?_ (fun _ => ?_)
    · intro y0 y1 y2 y3 y4 y5
      unfold laws_FnJoinsMoveOver.j1
      repeat' first
      | (with_reducible exact ih0 _ _ _ _ _ _ _)
      | (with_reducible exact ih1 _ _ _ _ _ _)
      | (with_reducible exact ih2 _ _ _ _ _ _ _)
      | (with_reducible exact impl_AllSystems.mono _ _)
      | (with_reducible exact impl_IsSystem.mono _ _)
      | (with_reducible exact impl_JoinedSystem.mono _ _ _)
      | (with_reducible exact laws_sCount.mono _ _ _)
      | (with_reducible exact laws_sSame.mono _ _ _)
      | (with_reducible exact spec_DrawJoinedSystem.mono _ _)
      | (with_reducible exact spec_JoinedSystem.mono _ _ _)
      | (with_reducible exact LeO.refl _)
      | (with_reducible exact LeO.none _)
      | (with_reducible refine LeO.ite ?_ ?_)
      | (with_reducible refine LeO.bind ?_ (fun _ => ?_))
      | exact ih0 _ _ _ _ _ _ _
      | exact ih1 _ _ _ _ _ _
      | exact ih2 _ _ _ _ _ _ _
      | exact impl_AllSystems.mono _ _
      | exact impl_IsSystem.mono _ _
      | exact impl_JoinedSystem.mono _ _ _
      | exact laws_sCount.mono _ _ _
      | exact laws_sSame.mono _ _ _
      | exact spec_DrawJoinedSystem.mono _ _
      | exact spec_JoinedSystem.mono _ _ _
      | exact LeO.none _
      | refine LeO.ite ?_ ?_
      | refine LeO.bind ?_ (fun _ => ?_)
    · intro y0 y1 y2 y3 y4 y5 y6
      unfold laws_FnJoinsMoveOver.l0
      repeat' first
      | (with_reducible exact ih0 _ _ _ _ _ _ _)
      | (with_reducible exact ih1 _ _ _ _ _ _)
      | (with_reducible exact ih2 _ _ _ _ _ _ _)
      | (with_reducible exact impl_AllSystems.mono _ _)
      | (with_reducible exact impl_IsSystem.mono _ _)
      | (with_reducible exact impl_JoinedSystem.mono _ _ _)
      | (with_reducible exact laws_sCount.mono _ _ _)
      | (with_reducible exact laws_sSame.mono _ _ _)
      | (with_reducible exact spec_DrawJoinedSystem.mono _ _)
      | (with_reducible exact spec_JoinedSystem.mono _ _ _)
      | (with_reducible exact LeO.refl _)
      | (with_reducible exact LeO.none _)
      | (with_reducible refine LeO.ite ?_ ?_)
      | (with_reducible refine LeO.bind ?_ (fun _ => ?_))
      | exact ih0 _ _ _ _ _ _ _
      | exact ih1 _ _ _ _ _ _
      | exact ih2 _ _ _ _ _ _ _
      | exact impl_AllSystems.mono _ _
      | exact impl_IsSystem.mono _ _
      | exact impl_JoinedSystem.mono _ _ _
      | exact laws_sCount.mono _ _ _
      | exact laws_sSame.mono _ _ _
      | exact spec_DrawJoinedSystem.mono _ _
      | exact spec_JoinedSystem.mono _ _ _
      | exact LeO.none _
      | refine LeO.ite ?_ ?_
      | refine LeO.bind ?_ (fun _ => ?_)
theorem laws_FnJoinsMoveOver.mono : ∀ a0 a1 k, LeO (laws_FnJoinsMoveOver.f k a0 a1) (laws_FnJoinsMoveOver.f (k + 1) a0 a1) := by
  intro a0 a1 k
  obtain ⟨ih0, ih1, ih2⟩ := laws_FnJoinsMoveOver.mono_l k
  unfold laws_FnJoinsMoveOver.f
  repeat' first
      | (with_reducible exact ih0 _ _ _ _ _ _ _)
      | (with_reducible exact ih1 _ _ _ _ _ _)
      | (with_reducible exact ih2 _ _ _ _ _ _ _)
      | (with_reducible exact impl_AllSystems.mono _ _)
      | (with_reducible exact impl_IsSystem.mono _ _)
      | (with_reducible exact impl_JoinedSystem.mono _ _ _)
      | (with_reducible exact laws_sCount.mono _ _ _)
      | (with_reducible exact laws_sSame.mono _ _ _)
      | (with_reducible exact spec_DrawJoinedSystem.mono _ _)
      | (with_reducible exact spec_JoinedSystem.mono _ _ _)
      | (with_reducible exact LeO.refl _)
      | (with_reducible exact LeO.none _)
      | (with_reducible refine LeO.ite ?_ ?_)
      | (with_reducible refine LeO.bind ?_ (fun _ => ?_))
      | exact ih0 _ _ _ _ _ _ _
      | exact ih1 _ _ _ _ _ _
      | exact ih2 _ _ _ _ _ _ _
      | exact impl_AllSystems.mono _ _
      | exact impl_IsSystem.mono _ _
      | exact impl_JoinedSystem.mono _ _ _
      | exact laws_sCount.mono _ _ _
      | exact laws_sSame.mono _ _ _
      | exact spec_DrawJoinedSystem.mono _ _
      | exact spec_JoinedSystem.mono _ _ _
      | exact LeO.none _
      | refine LeO.ite ?_ ?_
      | refine LeO.bind ?_ (fun _ => ?_)
set_option maxHeartbeats 8000000 in
set_option maxRecDepth 100000 in
theorem laws_FnJoinsMoveOver.calls (k : Nat) (A0 : Option Addr) (c0 : Nat) (l0 : List Int) (A1 : Option Addr) (c1 : Nat) (l1 : List Int) (w : World) (hr0 : Kd.C (Kd.int .u8) w A0 l0.length l0) (hc0 : l0.length ≤ c0) (hr1 : Kd.C (Kd.int .u8) w A1 l1.length l1) (hc1 : l1.length ≤ c1) (h : laws_FnJoinsMoveOver.f k l0 l1 = some true) :
    Calls Try.prog 6 #[.slice A0 l0.length c0, .slice A1 l1.length c1] w fun e w' => e = .returned (.bool true) ∧ Below w.heap.size w w' := by
  have HR0 := Aside0.mk hr0
  have HC0 := Aside0.mk hc0
  clear hr0 hc0
  have HR1 := Aside0.mk hr1
  have HC1 := Aside0.mk hc1
  clear hr1 hc1
  have HB := Aside0.mk (Below.refl w.heap.size w)
  have H : ((laws_big.f l0 l1).bind fun t331 => (if t331 = true then (some true) else ((spec_DrawJoinedSystem.f k l0).bind fun bt332 => ((impl_JoinedSystem.f k bt332.1 bt332.2).bind fun bt336 => ((spec_JoinedSystem.f k bt332.1 bt332.2).bind fun bt341 => (if (bt336.2.2 != bt341.2.2) = true then (laws_FnJoinsMoveOver.j0 k l1 bt332.1 bt332.2 bt336.1 bt336.2.1 bt341.2.2 true) else ((laws_sSame.f k bt336.1 bt341.1).bind fun t346 => (if t346 = true then (laws_FnJoinsMoveOver.j0 k l1 bt332.1 bt332.2 bt336.1 bt336.2.1 bt341.2.2 (bt336.2.1 != bt341.2.1)) else (laws_FnJoinsMoveOver.j0 k l1 bt332.1 bt332.2 bt336.1 bt336.2.1 bt341.2.2 true))))))))) = some true := h
  clear h
  replace H := Option.bind_eq_some_iff.mp H
  obtain ⟨t331, A30, H⟩ := H
  replace H : (if t331 = true then (some true) else ((spec_DrawJoinedSystem.f k l0).bind fun bt332 => ((impl_JoinedSystem.f k bt332.1 bt332.2).bind fun bt336 => ((spec_JoinedSystem.f k bt332.1 bt332.2).bind fun bt341 => (if (bt336.2.2 != bt341.2.2) = true then (laws_FnJoinsMoveOver.j0 k l1 bt332.1 bt332.2 bt336.1 bt336.2.1 bt341.2.2 true) else ((laws_sSame.f k bt336.1 bt341.1).bind fun t346 => (if t346 = true then (laws_FnJoinsMoveOver.j0 k l1 bt332.1 bt332.2 bt336.1 bt336.2.1 bt341.2.2 (bt336.2.1 != bt341.2.1)) else (laws_FnJoinsMoveOver.j0 k l1 bt332.1 bt332.2 bt336.1 bt336.2.1 bt341.2.2 true)))))))) = some true := H
  have A3 := Aside0.mk A30
  clear A30
  by_cases c4 : t331 = true
  · subst c4
    have H1 : (some true) = some true := by rw [if_pos rfl] at H; first | done | exact H
    clear H
    have H := H1
    clear H1
    clear H
    go_enter Try.func6, Try.ntmps6
    go_wp2_with (first | ((with_reducible refine gate_callee (f := 17) rfl ?_); refine goesL_ (some 25) rfl rfl Try.func17 (by kernel_rfl) rfl #[.slice A0 l0.length c0, .slice A1 l1.length c1] rfl (by (try simp only [List.map_toArray, List.map_cons, List.map_nil]); first | done | rfl | (simp only [List.length_drop, List.length_take]; rfl)) ?_; (with_reducible refine (laws_big.calls _ _ l0 _ _ l1 true _ ?side1 ?side2 ?side3 ?side4 A3.out).mono ?_); (case side1 => repeat (first | exact HR0.out | (with_reducible refine Kd.C_alloc ?_ _) | (with_reducible refine Kd.C_drewN ?_ _) | (with_reducible refine Kd.C_drew ?_))); (case side2 => exact HC0.out); (case side3 => repeat (first | exact HR1.out | (with_reducible refine Kd.C_alloc ?_ _) | (with_reducible refine Kd.C_drewN ?_ _) | (with_reducible refine Kd.C_drew ?_))); (case side4 => exact HC1.out); rintro e w' ⟨rfl, ⟨nd, rfl⟩⟩; refine ⟨_, rfl, ?_⟩))
    go_ret
    exact ⟨by first | rfl | (simp [errW_none, errW_some] <;> rfl) | (simp [*, errW_none, errW_some] <;> rfl), by repeat (first | (with_reducible first | exact HB.out | apply below_alloc | apply pw_below_drewN | apply below_drew1) | exact HB.out)⟩
  · replace c4 := Bool.eq_false_iff.mpr c4
    subst c4
    have H1 : ((spec_DrawJoinedSystem.f k l0).bind fun bt332 => ((impl_JoinedSystem.f k bt332.1 bt332.2).bind fun bt336 => ((spec_JoinedSystem.f k bt332.1 bt332.2).bind fun bt341 => (if (bt336.2.2 != bt341.2.2) = true then (laws_FnJoinsMoveOver.j0 k l1 bt332.1 bt332.2 bt336.1 bt336.2.1 bt341.2.2 true) else ((laws_sSame.f k bt336.1 bt341.1).bind fun t346 => (if t346 = true then (laws_FnJoinsMoveOver.j0 k l1 bt332.1 bt332.2 bt336.1 bt336.2.1 bt341.2.2 (bt336.2.1 != bt341.2.1)) else (laws_FnJoinsMoveOver.j0 k l1 bt332.1 bt332.2 bt336.1 bt336.2.1 bt341.2.2 true))))))) = some true := by rw [if_neg (show ¬ (false = true) by decide)] at H; first | done | exact H
    clear H
    have H := H1
    clear H1
    replace H := Option.bind_eq_some_iff.mp H
    obtain ⟨⟨t332, t333⟩, A50, H⟩ := H
    replace H : ((impl_JoinedSystem.f k t332 t333).bind fun bt336 => ((spec_JoinedSystem.f k t332 t333).bind fun bt341 => (if (bt336.2.2 != bt341.2.2) = true then (laws_FnJoinsMoveOver.j0 k l1 t332 t333 bt336.1 bt336.2.1 bt341.2.2 true) else ((laws_sSame.f k bt336.1 bt341.1).bind fun t346 => (if t346 = true then (laws_FnJoinsMoveOver.j0 k l1 t332 t333 bt336.1 bt336.2.1 bt341.2.2 (bt336.2.1 != bt341.2.1)) else (laws_FnJoinsMoveOver.j0 k l1 t332 t333 bt336.1 bt336.2.1 bt341.2.2 true)))))) = some true := H
    have A5 := Aside0.mk A50
    clear A50
    replace H := Option.bind_eq_some_iff.mp H
    obtain ⟨⟨t336, t337, t338⟩, A60, H⟩ := H
    replace H : ((spec_JoinedSystem.f k t332 t333).bind fun bt341 => (if (t338 != bt341.2.2) = true then (laws_FnJoinsMoveOver.j0 k l1 t332 t333 t336 t337 bt341.2.2 true) else ((laws_sSame.f k t336 bt341.1).bind fun t346 => (if t346 = true then (laws_FnJoinsMoveOver.j0 k l1 t332 t333 t336 t337 bt341.2.2 (t337 != bt341.2.1)) else (laws_FnJoinsMoveOver.j0 k l1 t332 t333 t336 t337 bt341.2.2 true))))) = some true := H
    have A6 := Aside0.mk A60
    clear A60
    replace H := Option.bind_eq_some_iff.mp H
    obtain ⟨⟨t341, t342, t343⟩, A70, H⟩ := H
    replace H : (if (t338 != t343) = true then (laws_FnJoinsMoveOver.j0 k l1 t332 t333 t336 t337 t343 true) else ((laws_sSame.f k t336 t341).bind fun t346 => (if t346 = true then (laws_FnJoinsMoveOver.j0 k l1 t332 t333 t336 t337 t343 (t337 != t342)) else (laws_FnJoinsMoveOver.j0 k l1 t332 t333 t336 t337 t343 true)))) = some true := H
    have A7 := Aside0.mk A70
    clear A70
    have HC8 := Aside0.mk H
    clear H
    go_enter Try.func6, Try.ntmps6
    go_upto_region 6 with (first | ((with_reducible refine gate_callee (f := 17) rfl ?_); refine goesL_ (some 25) rfl rfl Try.func17 (by kernel_rfl) rfl #[.slice A0 l0.length c0, .slice A1 l1.length c1] rfl (by (try simp only [List.map_toArray, List.map_cons, List.map_nil]); first | done | rfl | (simp only [List.length_drop, List.length_take]; rfl)) ?_; (with_reducible refine (laws_big.calls _ _ l0 _ _ l1 false _ ?side1 ?side2 ?side3 ?side4 A3.out).mono ?_); (case side1 => repeat (first | exact HR0.out | (with_reducible refine Kd.C_alloc ?_ _) | (with_reducible refine Kd.C_drewN ?_ _) | (with_reducible refine Kd.C_drew ?_))); (case side2 => exact HC0.out); (case side3 => repeat (first | exact HR1.out | (with_reducible refine Kd.C_alloc ?_ _) | (with_reducible refine Kd.C_drewN ?_ _) | (with_reducible refine Kd.C_drew ?_))); (case side4 => exact HC1.out); rintro e w' ⟨rfl, ⟨nd, rfl⟩⟩; refine ⟨_, rfl, ?_⟩) | ((with_reducible refine gate_callee (f := 18) rfl ?_); refine goesL_ (some 28) rfl rfl Try.func18 (by kernel_rfl) rfl #[.slice A0 l0.length c0] rfl (by (try simp only [List.map_toArray, List.map_cons, List.map_nil]); first | done | rfl | (simp only [List.length_drop, List.length_take]; rfl)) ?_; (with_reducible refine (spec_DrawJoinedSystem.calls k _ _ l0 t332 t333 _ ?side1 ?side2 A5.out).mono ?_); (case side1 => repeat (first | exact HR0.out | (with_reducible refine Kd.C_alloc ?_ _) | (with_reducible refine Kd.C_drewN ?_ _) | (with_reducible refine Kd.C_drew ?_))); (case side2 => exact HC0.out); rintro e w9 ⟨v334, rfl, ho0, hb⟩; refine ⟨_, rfl, ?_⟩; have n0_ := Aside0.mk (Kd.R_lower ho0 (below_size (by repeat (first | (with_reducible first | exact HB.out | apply below_alloc | apply pw_below_drewN | apply below_drew1) | exact HB.out)))); have n1_ := Aside0.mk (below_step (by repeat (first | (with_reducible first | exact HB.out | apply below_alloc | apply pw_below_drewN | apply below_drew1) | exact HB.out)) hb); clear HB; have HO335 := n0_; have HB := n1_; clear n0_ n1_; (try clear hb); (try clear hb2); (try clear hk); (try clear hi); (try clear ho0); obtain ⟨Ao10, co10, eo10⟩ := Kd.R_slice HO335.out; subst eo10) | ((with_reducible refine gate_callee (f := 19) rfl ?_); refine goesL_ (some 34) rfl rfl Try.func19 (by kernel_rfl) rfl #[.slice Ao10 t332.length co10, .int .i64 t333] rfl (by (try simp only [List.map_toArray, List.map_cons, List.map_nil]); first | done | rfl | (simp only [List.length_drop, List.length_take]; rfl)) ?_; (with_reducible refine (impl_JoinedSystem.calls k _ _ t332 t333 t336 t337 t338 _ ?side1 ?side2 A6.out).mono ?_); (case side1 => repeat (first | exact (Kd.R_reads' HO335.out).2.2 | (with_reducible refine Kd.C_alloc ?_ _) | (with_reducible refine Kd.C_drewN ?_ _) | (with_reducible refine Kd.C_drew ?_))); (case side2 => exact (Kd.R_reads' HO335.out).2.1); rintro e w11 ⟨v339, rfl, ho0, hb⟩; refine ⟨_, rfl, ?_⟩; have n0_ := Aside0.mk (Kd.R_elder' (by (with_reducible repeat (first | apply Kd.R_alloc | apply Kd.R_drewN | apply Kd.R_drew)); exact HO335.out) (Kd.R_base ho0) hb); have n1_ := Aside0.mk (Kd.R_lower (Kd.R_new' ho0 (Kd.R_lt (by (with_reducible repeat (first | apply Kd.R_alloc | apply Kd.R_drewN | apply Kd.R_drew)); exact HO335.out))) (below_size (by repeat (first | (with_reducible first | exact HB.out | apply below_alloc | apply pw_below_drewN | apply below_drew1) | exact HB.out)))); have n2_ := Aside0.mk (below_step (by repeat (first | (with_reducible first | exact HB.out | apply below_alloc | apply pw_below_drewN | apply below_drew1) | exact HB.out)) hb); clear HO335; clear HB; have HO335 := n0_; have HO340 := n1_; have HB := n2_; clear n0_ n1_ n2_; (try clear hb); (try clear hb2); (try clear hk); (try clear hi); (try clear ho0)) | ((with_reducible refine gate_callee (f := 20) rfl ?_); refine goesL_ (some 41) rfl rfl Try.func20 (by kernel_rfl) rfl #[.slice Ao10 t332.length co10, .int .i64 t333] rfl (by (try simp only [List.map_toArray, List.map_cons, List.map_nil]); first | done | rfl | (simp only [List.length_drop, List.length_take]; rfl)) ?_; (with_reducible refine (spec_JoinedSystem.calls k _ _ t332 t333 t341 t342 t343 _ ?side1 ?side2 A7.out).mono ?_); (case side1 => repeat (first | exact (Kd.R_reads' HO335.out).2.2 | (with_reducible refine Kd.C_alloc ?_ _) | (with_reducible refine Kd.C_drewN ?_ _) | (with_reducible refine Kd.C_drew ?_))); (case side2 => exact (Kd.R_reads' HO335.out).2.1); rintro e w12 ⟨v344, rfl, ho0, hb⟩; refine ⟨_, rfl, ?_⟩; have n0_ := Aside0.mk (Kd.R_elder' (by (with_reducible repeat (first | apply Kd.R_alloc | apply Kd.R_drewN | apply Kd.R_drew)); exact HO335.out) (Kd.R_base ho0) hb); have n1_ := Aside0.mk (Kd.R_elder' (by (with_reducible repeat (first | apply Kd.R_alloc | apply Kd.R_drewN | apply Kd.R_drew)); exact HO340.out) (Kd.R_base ho0) hb); have n2_ := Aside0.mk (Kd.R_lower (Kd.R_new' (Kd.R_new' ho0 (Kd.R_lt (by (with_reducible repeat (first | apply Kd.R_alloc | apply Kd.R_drewN | apply Kd.R_drew)); exact HO335.out))) (Kd.R_lt (by (with_reducible repeat (first | apply Kd.R_alloc | apply Kd.R_drewN | apply Kd.R_drew)); exact HO340.out))) (below_size (by repeat (first | (with_reducible first | exact HB.out | apply below_alloc | apply pw_below_drewN | apply below_drew1) | exact HB.out)))); have n3_ := Aside0.mk (below_step (by repeat (first | (with_reducible first | exact HB.out | apply below_alloc | apply pw_below_drewN | apply below_drew1) | exact HB.out)) hb); clear HO335; clear HO340; clear HB; have HO335 := n0_; have HO340 := n1_; have HO345 := n2_; have HB := n3_; clear n0_ n1_ n2_ n3_; (try clear hb); (try clear hb2); (try clear hk); (try clear hi); (try clear ho0)))
    (try simp only [Act.put, List.setIfInBounds_toArray, List.set_cons_zero, List.set_cons_succ])
    go_cut [58] (fun v58 wc => ∃ (kq : Nat) (x58_7 : Bool), v58 = .bool x58_7 ∧ Aside0 (laws_FnJoinsMoveOver.j0 kq l1 t332 t333 t336 t337 t343 x58_7 = some true) ∧ Aside0 (kq ≤ k) ∧ Aside0 (Kd.R (Kd.int .i64) 3 wc w.heap.size (fun k_ => some k_ ≠ (v339 : Value).ownBlock) (.slice Ao10 t332.length co10) t332) ∧ Aside0 (Kd.R (Kd.int .i64) 3 wc w.heap.size (fun k_ => some k_ ≠ ((.slice Ao10 t332.length co10) : Value).ownBlock) v339 t336) ∧ Aside0 (Below w.heap.size w wc))
    case first =>
      have H := HC8.out
      clear HC8
      by_cases c13 : (t338 != t343) = true
      · rw [if_pos c13] at H
        have c13b0 : (t338 != t343) = true := c13
        (try (have c13b1 : decide (t338 = t343) = false := by simpa using c13))
        (try (have c13b2 : (t338 == t343) = false := by simpa using c13))
        (try (have c13b3 : ¬ (t338 = t343) := by simpa using c13))
        clear c13
        (first | rw [c13b0] | (simp only [i64_w, i32_w]; rw [c13b0]) | skip)
        have H' := Aside0.mk H
        clear H
        go_wp2
        go_meet
        case rel => exact ⟨_, (true), (by first | rfl | (simp; done) | (simp [*]; done)), H', ⟨by first | omega | exact Nat.le_refl _⟩, ⟨by (with_reducible repeat (first | apply Kd.R_alloc | apply Kd.R_drewN | apply Kd.R_drew)); exact Kd.R_mono HO335.out (fun _ hk => hk.1.2)⟩, ⟨by (with_reducible repeat (first | apply Kd.R_alloc | apply Kd.R_drewN | apply Kd.R_drew)); exact Kd.R_mono HO340.out (fun _ hk => hk.1.2)⟩, ⟨by repeat (first | (with_reducible first | exact HB.out | apply below_alloc | apply pw_below_drewN | apply below_drew1) | exact HB.out)⟩⟩
      · rw [if_neg c13] at H
        have c13b0 : (t338 != t343) = false := by simpa using c13
        (try (have c13b1 : decide (t338 = t343) = true := by simpa using c13))
        (try (have c13b2 : (t338 == t343) = true := by simpa using c13))
        clear c13
        (first | rw [c13b0] | (simp only [i64_w, i32_w]; rw [c13b0]) | skip)
        replace H := Option.bind_eq_some_iff.mp H
        obtain ⟨t346, A140, H⟩ := H
        replace H : (if t346 = true then (laws_FnJoinsMoveOver.j0 k l1 t332 t333 t336 t337 t343 (t337 != t342)) else (laws_FnJoinsMoveOver.j0 k l1 t332 t333 t336 t337 t343 true)) = some true := H
        have A14 := Aside0.mk A140
        clear A140
        by_cases c15 : t346 = true
        · subst c15
          have H1 : (laws_FnJoinsMoveOver.j0 k l1 t332 t333 t336 t337 t343 (t337 != t342)) = some true := by rw [if_pos rfl] at H; first | done | exact H
          clear H
          have H := H1
          clear H1
          have H' := Aside0.mk H
          clear H
          obtain ⟨Ao16, co16, eo16⟩ := Kd.R_slice HO340.out
          subst eo16
          obtain ⟨Ao17, co17, eo17⟩ := Kd.R_slice HO345.out
          subst eo17
          go_wp2_with (first | (go_at_call 21; (with_reducible refine (laws_sSame.calls k _ _ t336 _ _ t341 true _ ?side1 ?side2 ?side3 ?side4 A14.out).mono ?_); (case side1 => repeat (first | exact (Kd.R_reads' HO340.out).2.2 | (with_reducible refine Kd.C_alloc ?_ _) | (with_reducible refine Kd.C_drewN ?_ _) | (with_reducible refine Kd.C_drew ?_))); (case side2 => exact (Kd.R_reads' HO340.out).2.1); (case side3 => repeat (first | exact (Kd.R_reads' HO345.out).2.2 | (with_reducible refine Kd.C_alloc ?_ _) | (with_reducible refine Kd.C_drewN ?_ _) | (with_reducible refine Kd.C_drew ?_))); (case side4 => exact (Kd.R_reads' HO345.out).2.1); rintro e w' ⟨rfl, ⟨nd, rfl⟩⟩))
          go_meet
          case rel => exact ⟨_, ((t337 != t342)), (by first | rfl | (simp; done) | (simp [*]; done)), H', ⟨by first | omega | exact Nat.le_refl _⟩, ⟨by (with_reducible repeat (first | apply Kd.R_alloc | apply Kd.R_drewN | apply Kd.R_drew)); exact Kd.R_mono HO335.out (fun _ hk => hk.1.2)⟩, ⟨by (with_reducible repeat (first | apply Kd.R_alloc | apply Kd.R_drewN | apply Kd.R_drew)); exact Kd.R_mono HO340.out (fun _ hk => hk.1.2)⟩, ⟨by repeat (first | (with_reducible first | exact HB.out | apply below_alloc | apply pw_below_drewN | apply below_drew1) | exact HB.out)⟩⟩
        · replace c15 := Bool.eq_false_iff.mpr c15
          subst c15
          have H1 : (laws_FnJoinsMoveOver.j0 k l1 t332 t333 t336 t337 t343 true) = some true := by rw [if_neg (show ¬ (false = true) by decide)] at H; first | done | exact H
          clear H
          have H := H1
          clear H1
          have H' := Aside0.mk H
          clear H
          obtain ⟨Ao18, co18, eo18⟩ := Kd.R_slice HO340.out
          subst eo18
          obtain ⟨Ao19, co19, eo19⟩ := Kd.R_slice HO345.out
          subst eo19
          go_wp2_with (first | (go_at_call 21; (with_reducible refine (laws_sSame.calls k _ _ t336 _ _ t341 false _ ?side1 ?side2 ?side3 ?side4 A14.out).mono ?_); (case side1 => repeat (first | exact (Kd.R_reads' HO340.out).2.2 | (with_reducible refine Kd.C_alloc ?_ _) | (with_reducible refine Kd.C_drewN ?_ _) | (with_reducible refine Kd.C_drew ?_))); (case side2 => exact (Kd.R_reads' HO340.out).2.1); (case side3 => repeat (first | exact (Kd.R_reads' HO345.out).2.2 | (with_reducible refine Kd.C_alloc ?_ _) | (with_reducible refine Kd.C_drewN ?_ _) | (with_reducible refine Kd.C_drew ?_))); (case side4 => exact (Kd.R_reads' HO345.out).2.1); rintro e w' ⟨rfl, ⟨nd, rfl⟩⟩))
          go_meet
          case rel => exact ⟨_, (true), (by first | rfl | (simp; done) | (simp [*]; done)), H', ⟨by first | omega | exact Nat.le_refl _⟩, ⟨by (with_reducible repeat (first | apply Kd.R_alloc | apply Kd.R_drewN | apply Kd.R_drew)); exact Kd.R_mono HO335.out (fun _ hk => hk.1.2)⟩, ⟨by (with_reducible repeat (first | apply Kd.R_alloc | apply Kd.R_drewN | apply Kd.R_drew)); exact Kd.R_mono HO340.out (fun _ hk => hk.1.2)⟩, ⟨by repeat (first | (with_reducible first | exact HB.out | apply below_alloc | apply pw_below_drewN | apply below_drew1) | exact HB.out)⟩⟩
    case rest =>
      clear HC8
      try clear c1
      try clear c2
      try clear p2
      try clear c4
      try clear c6
      try clear c13
      try clear c13b0
      try clear c13b1
      try clear c13b2
      try clear c15
      try clear c17
      try clear c18
      try clear c19
      obtain ⟨kq, x58_7, rfl, HA, HJ7, HO_5, HO_7, HB⟩ := hcut
      cases kq with
      | zero => exact absurd HA.out (by simp [laws_FnJoinsMoveOver.j0])
      | succ kj7 =>
        have H := HA.out
        clear HA
        simp only [laws_FnJoinsMoveOver.j0] at H
        by_cases c20 : x58_7 = true
        · subst c20
          have H1 : (some false) = some true := by rw [if_pos rfl] at H; first | done | exact H
          clear H
          have H := H1
          clear H1
          exact absurd H (by simp)
        · replace c20 := Bool.eq_false_iff.mpr c20
          subst c20
          have H1 : (if t343 = true then ((impl_JoinedSystem.f kj7 t336 t333).bind fun bt347 => (if bt347.2.2 = true then (if bt347.2.1 = 1 then ((laws_sSame.f kj7 bt347.1 t336).bind fun t352 => (if t352 = true then ((impl_IsSystem.f kj7 t336).bind fun t353 => (if t353 = true then (if 0 ≤ t333 then (if t333 < (t336.length : Int) then (laws_FnJoinsMoveOver.j1 kj7 l1 t332 t333 t336 t337 ((rd t336 t333) != (wrap64 (t333 + 1)))) else (none)) else (none)) else (laws_FnJoinsMoveOver.j1 kj7 l1 t332 t333 t336 t337 true))) else (laws_FnJoinsMoveOver.j1 kj7 l1 t332 t333 t336 t337 true))) else (laws_FnJoinsMoveOver.j1 kj7 l1 t332 t333 t336 t337 true)) else (laws_FnJoinsMoveOver.j1 kj7 l1 t332 t333 t336 t337 true))) else (some true)) = some true := by rw [if_neg (show ¬ (false = true) by decide)] at H; first | done | exact H
          clear H
          have H := H1
          clear H1
          by_cases c21 : t343 = true
          · subst c21
            have H1 : ((impl_JoinedSystem.f kj7 t336 t333).bind fun bt347 => (if bt347.2.2 = true then (if bt347.2.1 = 1 then ((laws_sSame.f kj7 bt347.1 t336).bind fun t352 => (if t352 = true then ((impl_IsSystem.f kj7 t336).bind fun t353 => (if t353 = true then (if 0 ≤ t333 then (if t333 < (t336.length : Int) then (laws_FnJoinsMoveOver.j1 kj7 l1 t332 t333 t336 t337 ((rd t336 t333) != (wrap64 (t333 + 1)))) else (none)) else (none)) else (laws_FnJoinsMoveOver.j1 kj7 l1 t332 t333 t336 t337 true))) else (laws_FnJoinsMoveOver.j1 kj7 l1 t332 t333 t336 t337 true))) else (laws_FnJoinsMoveOver.j1 kj7 l1 t332 t333 t336 t337 true)) else (laws_FnJoinsMoveOver.j1 kj7 l1 t332 t333 t336 t337 true))) = some true := by rw [if_pos rfl] at H; first | done | exact H
            clear H
            have H := H1
            clear H1
            replace H := Option.bind_eq_some_iff.mp H
            obtain ⟨⟨t347, t348, t349⟩, A220, H⟩ := H
            replace H : (if t349 = true then (if t348 = 1 then ((laws_sSame.f kj7 t347 t336).bind fun t352 => (if t352 = true then ((impl_IsSystem.f kj7 t336).bind fun t353 => (if t353 = true then (if 0 ≤ t333 then (if t333 < (t336.length : Int) then (laws_FnJoinsMoveOver.j1 kj7 l1 t332 t333 t336 t337 ((rd t336 t333) != (wrap64 (t333 + 1)))) else (none)) else (none)) else (laws_FnJoinsMoveOver.j1 kj7 l1 t332 t333 t336 t337 true))) else (laws_FnJoinsMoveOver.j1 kj7 l1 t332 t333 t336 t337 true))) else (laws_FnJoinsMoveOver.j1 kj7 l1 t332 t333 t336 t337 true)) else (laws_FnJoinsMoveOver.j1 kj7 l1 t332 t333 t336 t337 true)) = some true := H
            have A22 := Aside0.mk A220
            clear A220
            have HC23 := Aside0.mk H
            clear H
            obtain ⟨Ao24, co24, eo24⟩ := Kd.R_slice HO_7.out
            subst eo24
            go_upto_region 11 with (first | ((with_reducible refine gate_callee (f := 19) rfl ?_); refine goesL_ (some 64) rfl rfl Try.func19 (by kernel_rfl) rfl #[.slice Ao24 t336.length co24, .int .i64 t333] rfl (by (try simp only [List.map_toArray, List.map_cons, List.map_nil]); first | done | rfl | (simp only [List.length_drop, List.length_take]; rfl)) ?_; (with_reducible refine (impl_JoinedSystem.calls kj7 _ _ t336 t333 t347 t348 t349 _ ?side1 ?side2 A22.out).mono ?_); (case side1 => repeat (first | exact (Kd.R_reads' HO_7.out).2.2 | (with_reducible refine Kd.C_alloc ?_ _) | (with_reducible refine Kd.C_drewN ?_ _) | (with_reducible refine Kd.C_drew ?_))); (case side2 => exact (Kd.R_reads' HO_7.out).2.1); rintro e w25 ⟨v350, rfl, ho0, hb⟩; refine ⟨_, rfl, ?_⟩; have n0_ := Aside0.mk (Kd.R_elder' (by (with_reducible repeat (first | apply Kd.R_alloc | apply Kd.R_drewN | apply Kd.R_drew)); exact HO_5.out) (Kd.R_base ho0) hb); have n1_ := Aside0.mk (Kd.R_elder' (by (with_reducible repeat (first | apply Kd.R_alloc | apply Kd.R_drewN | apply Kd.R_drew)); exact HO_7.out) (Kd.R_base ho0) hb); have n2_ := Aside0.mk (Kd.R_lower (Kd.R_new' (Kd.R_new' ho0 (Kd.R_lt (by (with_reducible repeat (first | apply Kd.R_alloc | apply Kd.R_drewN | apply Kd.R_drew)); exact HO_5.out))) (Kd.R_lt (by (with_reducible repeat (first | apply Kd.R_alloc | apply Kd.R_drewN | apply Kd.R_drew)); exact HO_7.out))) (below_size (by repeat (first | (with_reducible first | exact HB.out | apply below_alloc | apply pw_below_drewN | apply below_drew1) | exact HB.out)))); have n3_ := Aside0.mk (below_step (by repeat (first | (with_reducible first | exact HB.out | apply below_alloc | apply pw_below_drewN | apply below_drew1) | exact HB.out)) hb); clear HO_5; clear HO_7; clear HB; have HO_5 := n0_; have HO_7 := n1_; have HO351 := n2_; have HB := n3_; clear n0_ n1_ n2_ n3_; (try clear hb); (try clear hb2); (try clear hk); (try clear hi); (try clear ho0)))
            (try simp only [Act.put, List.setIfInBounds_toArray, List.set_cons_zero, List.set_cons_succ])
            go_cut [93] (fun v93 wc => ∃ (kq : Nat) (x93_22 : Bool), v93 = .bool x93_22 ∧ Aside0 (laws_FnJoinsMoveOver.j1 kq l1 t332 t333 t336 t337 x93_22 = some true) ∧ Aside0 (kq ≤ kj7) ∧ Aside0 (Kd.R (Kd.int .i64) 3 wc w.heap.size (fun k_ => some k_ ≠ ((.slice Ao24 t336.length co24) : Value).ownBlock) (.slice Ao10 t332.length co10) t332) ∧ Aside0 (Kd.R (Kd.int .i64) 3 wc w.heap.size (fun k_ => some k_ ≠ ((.slice Ao10 t332.length co10) : Value).ownBlock) (.slice Ao24 t336.length co24) t336) ∧ Aside0 (Below w.heap.size w wc))
            case first =>
              have H := HC23.out
              clear HC23
              by_cases c26 : t349 = true
              · subst c26
                have H1 : (if t348 = 1 then ((laws_sSame.f kj7 t347 t336).bind fun t352 => (if t352 = true then ((impl_IsSystem.f kj7 t336).bind fun t353 => (if t353 = true then (if 0 ≤ t333 then (if t333 < (t336.length : Int) then (laws_FnJoinsMoveOver.j1 kj7 l1 t332 t333 t336 t337 ((rd t336 t333) != (wrap64 (t333 + 1)))) else (none)) else (none)) else (laws_FnJoinsMoveOver.j1 kj7 l1 t332 t333 t336 t337 true))) else (laws_FnJoinsMoveOver.j1 kj7 l1 t332 t333 t336 t337 true))) else (laws_FnJoinsMoveOver.j1 kj7 l1 t332 t333 t336 t337 true)) = some true := by rw [if_pos rfl] at H; first | done | exact H
                clear H
                have H := H1
                clear H1
                by_cases c27 : t348 = 1
                · rw [if_pos c27] at H
                  have c27b0 : (t348 == 1) = true := beq_iff_eq.mpr c27
                  have c27b1 : (t348 != 1) = false := bne_eq_false_iff_eq.mpr c27
                  clear c27
                  (first | rw [c27b0] | (simp only [i64_w, i32_w]; rw [c27b0]) | skip)
                  replace H := Option.bind_eq_some_iff.mp H
                  obtain ⟨t352, A280, H⟩ := H
                  replace H : (if t352 = true then ((impl_IsSystem.f kj7 t336).bind fun t353 => (if t353 = true then (if 0 ≤ t333 then (if t333 < (t336.length : Int) then (laws_FnJoinsMoveOver.j1 kj7 l1 t332 t333 t336 t337 ((rd t336 t333) != (wrap64 (t333 + 1)))) else (none)) else (none)) else (laws_FnJoinsMoveOver.j1 kj7 l1 t332 t333 t336 t337 true))) else (laws_FnJoinsMoveOver.j1 kj7 l1 t332 t333 t336 t337 true)) = some true := H
                  have A28 := Aside0.mk A280
                  clear A280
                  by_cases c29 : t352 = true
                  · subst c29
                    have H1 : ((impl_IsSystem.f kj7 t336).bind fun t353 => (if t353 = true then (if 0 ≤ t333 then (if t333 < (t336.length : Int) then (laws_FnJoinsMoveOver.j1 kj7 l1 t332 t333 t336 t337 ((rd t336 t333) != (wrap64 (t333 + 1)))) else (none)) else (none)) else (laws_FnJoinsMoveOver.j1 kj7 l1 t332 t333 t336 t337 true))) = some true := by rw [if_pos rfl] at H; first | done | exact H
                    clear H
                    have H := H1
                    clear H1
                    replace H := Option.bind_eq_some_iff.mp H
                    obtain ⟨t353, A300, H⟩ := H
                    replace H : (if t353 = true then (if 0 ≤ t333 then (if t333 < (t336.length : Int) then (laws_FnJoinsMoveOver.j1 kj7 l1 t332 t333 t336 t337 ((rd t336 t333) != (wrap64 (t333 + 1)))) else (none)) else (none)) else (laws_FnJoinsMoveOver.j1 kj7 l1 t332 t333 t336 t337 true)) = some true := H
                    have A30 := Aside0.mk A300
                    clear A300
                    by_cases c31 : t353 = true
                    · subst c31
                      have H1 : (if 0 ≤ t333 then (if t333 < (t336.length : Int) then (laws_FnJoinsMoveOver.j1 kj7 l1 t332 t333 t336 t337 ((rd t336 t333) != (wrap64 (t333 + 1)))) else (none)) else (none)) = some true := by rw [if_pos rfl] at H; first | done | exact H
                      clear H
                      have H := H1
                      clear H1
                      by_cases c32 : 0 ≤ t333
                      · rw [if_pos c32] at H
                        have c32b0 : decide (0 ≤ t333) = true := decide_eq_true c32
                        clear c32
                        by_cases c33 : t333 < (t336.length : Int)
                        · rw [if_pos c33] at H
                          have c33b0 : decide (t333 < (t336.length : Int)) = true := decide_eq_true c33
                          clear c33
                          have H' := Aside0.mk H
                          clear H
                          obtain ⟨Ao34, co34, eo34⟩ := Kd.R_slice HO351.out
                          subst eo34
                          go_wp2_with (first | (go_at_call 21; (with_reducible refine (laws_sSame.calls kj7 _ _ t347 _ _ t336 true _ ?side1 ?side2 ?side3 ?side4 A28.out).mono ?_); (case side1 => repeat (first | exact (Kd.R_reads' HO351.out).2.2 | (with_reducible refine Kd.C_alloc ?_ _) | (with_reducible refine Kd.C_drewN ?_ _) | (with_reducible refine Kd.C_drew ?_))); (case side2 => exact (Kd.R_reads' HO351.out).2.1); (case side3 => repeat (first | exact (Kd.R_reads' HO_7.out).2.2 | (with_reducible refine Kd.C_alloc ?_ _) | (with_reducible refine Kd.C_drewN ?_ _) | (with_reducible refine Kd.C_drew ?_))); (case side4 => exact (Kd.R_reads' HO_7.out).2.1); rintro e w' ⟨rfl, ⟨nd, rfl⟩⟩) | (go_at_call 22; (with_reducible refine (impl_IsSystem.calls kj7 _ _ t336 true _ ?side1 ?side2 A30.out).mono ?_); (case side1 => repeat (first | exact (Kd.R_reads' HO_7.out).2.2 | (with_reducible refine Kd.C_alloc ?_ _) | (with_reducible refine Kd.C_drewN ?_ _) | (with_reducible refine Kd.C_drew ?_))); (case side2 => exact (Kd.R_reads' HO_7.out).2.1); rintro e w' ⟨rfl, ⟨nd, rfl⟩⟩; have p354 : 0 ≤ (t333 : Int) := of_decide_eq_true (by first | (with_reducible assumption) | assumption); have q354 : t333 < (t336.length : Int) := of_decide_eq_true (by first | (with_reducible assumption) | assumption); obtain ⟨ad354, e354, hx354_0⟩ := Kd.at_int (Kd.R_reads' HO_7.out).2.2 t333 p354 q354; cases e354; replace p354 := eq_true p354; replace q354 := eq_true q354))
                          go_meet
                          case rel => exact ⟨_, (((rd t336 t333) != (wrap64 (t333 + 1)))), (by first | rfl | (simp; done) | (simp [*]; done)), H', ⟨by have := HJ7.out; first | omega | exact Nat.le_refl _⟩, ⟨by (with_reducible repeat (first | apply Kd.R_alloc | apply Kd.R_drewN | apply Kd.R_drew)); exact Kd.R_mono HO_5.out (fun _ hk => hk.1)⟩, ⟨by (with_reducible repeat (first | apply Kd.R_alloc | apply Kd.R_drewN | apply Kd.R_drew)); exact Kd.R_mono HO_7.out (fun _ hk => hk.1)⟩, ⟨by repeat (first | (with_reducible first | exact HB.out | apply below_alloc | apply pw_below_drewN | apply below_drew1) | exact HB.out)⟩⟩
                        · rw [if_neg c33] at H
                          exact absurd H (by simp)
                      · rw [if_neg c32] at H
                        exact absurd H (by simp)
                    · replace c31 := Bool.eq_false_iff.mpr c31
                      subst c31
                      have H1 : (laws_FnJoinsMoveOver.j1 kj7 l1 t332 t333 t336 t337 true) = some true := by rw [if_neg (show ¬ (false = true) by decide)] at H; first | done | exact H
                      clear H
                      have H := H1
                      clear H1
                      have H' := Aside0.mk H
                      clear H
                      obtain ⟨Ao35, co35, eo35⟩ := Kd.R_slice HO351.out
                      subst eo35
                      go_wp2_with (first | (go_at_call 21; (with_reducible refine (laws_sSame.calls kj7 _ _ t347 _ _ t336 true _ ?side1 ?side2 ?side3 ?side4 A28.out).mono ?_); (case side1 => repeat (first | exact (Kd.R_reads' HO351.out).2.2 | (with_reducible refine Kd.C_alloc ?_ _) | (with_reducible refine Kd.C_drewN ?_ _) | (with_reducible refine Kd.C_drew ?_))); (case side2 => exact (Kd.R_reads' HO351.out).2.1); (case side3 => repeat (first | exact (Kd.R_reads' HO_7.out).2.2 | (with_reducible refine Kd.C_alloc ?_ _) | (with_reducible refine Kd.C_drewN ?_ _) | (with_reducible refine Kd.C_drew ?_))); (case side4 => exact (Kd.R_reads' HO_7.out).2.1); rintro e w' ⟨rfl, ⟨nd, rfl⟩⟩) | (go_at_call 22; (with_reducible refine (impl_IsSystem.calls kj7 _ _ t336 false _ ?side1 ?side2 A30.out).mono ?_); (case side1 => repeat (first | exact (Kd.R_reads' HO_7.out).2.2 | (with_reducible refine Kd.C_alloc ?_ _) | (with_reducible refine Kd.C_drewN ?_ _) | (with_reducible refine Kd.C_drew ?_))); (case side2 => exact (Kd.R_reads' HO_7.out).2.1); rintro e w' ⟨rfl, ⟨nd, rfl⟩⟩))
                      go_meet
                      case rel => exact ⟨_, (true), (by first | rfl | (simp; done) | (simp [*]; done)), H', ⟨by have := HJ7.out; first | omega | exact Nat.le_refl _⟩, ⟨by (with_reducible repeat (first | apply Kd.R_alloc | apply Kd.R_drewN | apply Kd.R_drew)); exact Kd.R_mono HO_5.out (fun _ hk => hk.1)⟩, ⟨by (with_reducible repeat (first | apply Kd.R_alloc | apply Kd.R_drewN | apply Kd.R_drew)); exact Kd.R_mono HO_7.out (fun _ hk => hk.1)⟩, ⟨by repeat (first | (with_reducible first | exact HB.out | apply below_alloc | apply pw_below_drewN | apply below_drew1) | exact HB.out)⟩⟩
                  · replace c29 := Bool.eq_false_iff.mpr c29
                    subst c29
                    have H1 : (laws_FnJoinsMoveOver.j1 kj7 l1 t332 t333 t336 t337 true) = some true := by rw [if_neg (show ¬ (false = true) by decide)] at H; first | done | exact H
                    clear H
                    have H := H1
                    clear H1
                    have H' := Aside0.mk H
                    clear H
                    obtain ⟨Ao36, co36, eo36⟩ := Kd.R_slice HO351.out
                    subst eo36
                    go_wp2_with (first | (go_at_call 21; (with_reducible refine (laws_sSame.calls kj7 _ _ t347 _ _ t336 false _ ?side1 ?side2 ?side3 ?side4 A28.out).mono ?_); (case side1 => repeat (first | exact (Kd.R_reads' HO351.out).2.2 | (with_reducible refine Kd.C_alloc ?_ _) | (with_reducible refine Kd.C_drewN ?_ _) | (with_reducible refine Kd.C_drew ?_))); (case side2 => exact (Kd.R_reads' HO351.out).2.1); (case side3 => repeat (first | exact (Kd.R_reads' HO_7.out).2.2 | (with_reducible refine Kd.C_alloc ?_ _) | (with_reducible refine Kd.C_drewN ?_ _) | (with_reducible refine Kd.C_drew ?_))); (case side4 => exact (Kd.R_reads' HO_7.out).2.1); rintro e w' ⟨rfl, ⟨nd, rfl⟩⟩))
                    go_meet
                    case rel => exact ⟨_, (true), (by first | rfl | (simp; done) | (simp [*]; done)), H', ⟨by have := HJ7.out; first | omega | exact Nat.le_refl _⟩, ⟨by (with_reducible repeat (first | apply Kd.R_alloc | apply Kd.R_drewN | apply Kd.R_drew)); exact Kd.R_mono HO_5.out (fun _ hk => hk.1)⟩, ⟨by (with_reducible repeat (first | apply Kd.R_alloc | apply Kd.R_drewN | apply Kd.R_drew)); exact Kd.R_mono HO_7.out (fun _ hk => hk.1)⟩, ⟨by repeat (first | (with_reducible first | exact HB.out | apply below_alloc | apply pw_below_drewN | apply below_drew1) | exact HB.out)⟩⟩
                · rw [if_neg c27] at H
                  have c27b0 : (t348 == 1) = false := beq_eq_false_iff_ne.mpr c27
                  have c27b1 : (t348 != 1) = true := bne_iff_ne.mpr c27
                  (first | rw [c27b0] | (simp only [i64_w, i32_w]; rw [c27b0]) | skip)
                  have H' := Aside0.mk H
                  clear H
                  go_wp2
                  go_meet
                  case rel => exact ⟨_, (true), (by first | rfl | (simp; done) | (simp [*]; done)), H', ⟨by have := HJ7.out; first | omega | exact Nat.le_refl _⟩, ⟨by (with_reducible repeat (first | apply Kd.R_alloc | apply Kd.R_drewN | apply Kd.R_drew)); exact Kd.R_mono HO_5.out (fun _ hk => hk.1)⟩, ⟨by (with_reducible repeat (first | apply Kd.R_alloc | apply Kd.R_drewN | apply Kd.R_drew)); exact Kd.R_mono HO_7.out (fun _ hk => hk.1)⟩, ⟨by repeat (first | (with_reducible first | exact HB.out | apply below_alloc | apply pw_below_drewN | apply below_drew1) | exact HB.out)⟩⟩
              · replace c26 := Bool.eq_false_iff.mpr c26
                subst c26
                have H1 : (laws_FnJoinsMoveOver.j1 kj7 l1 t332 t333 t336 t337 true) = some true := by rw [if_neg (show ¬ (false = true) by decide)] at H; first | done | exact H
                clear H
                have H := H1
                clear H1
                have H' := Aside0.mk H
                clear H
                go_wp2
                go_meet
                case rel => exact ⟨_, (true), (by first | rfl | (simp; done) | (simp [*]; done)), H', ⟨by have := HJ7.out; first | omega | exact Nat.le_refl _⟩, ⟨by (with_reducible repeat (first | apply Kd.R_alloc | apply Kd.R_drewN | apply Kd.R_drew)); exact Kd.R_mono HO_5.out (fun _ hk => hk.1)⟩, ⟨by (with_reducible repeat (first | apply Kd.R_alloc | apply Kd.R_drewN | apply Kd.R_drew)); exact Kd.R_mono HO_7.out (fun _ hk => hk.1)⟩, ⟨by repeat (first | (with_reducible first | exact HB.out | apply below_alloc | apply pw_below_drewN | apply below_drew1) | exact HB.out)⟩⟩
            case rest =>
              clear HC23
              try clear c1
              try clear c2
              try clear p2
              try clear c3
              try clear p3
              try clear q3
              try clear hx3
              try clear c4
              try clear c6
              try clear p6
              try clear c13
              try clear c13b0
              try clear c13b1
              try clear c13b2
              try clear c15
              try clear c17
              try clear c18
              try clear c19
              try clear c20
              try clear c21
              try clear c26
              try clear c27
              try clear c27b0
              try clear c27b1
              try clear c29
              try clear c31
              try clear c32
              try clear c32b0
              try clear c33
              try clear c33b0
              try clear p35
              try clear q35
              try clear hx35
              try clear hx354_0
              try clear p2
              try clear p354
              try clear q354
              obtain ⟨kq, x93_22, rfl, HA, HJ22, HO_5, HO_7, HB⟩ := hcut
              cases kq with
              | zero => exact absurd HA.out (by simp [laws_FnJoinsMoveOver.j1])
              | succ kj22 =>
                have H := HA.out
                clear HA
                simp only [laws_FnJoinsMoveOver.j1] at H
                by_cases c37 : x93_22 = true
                · subst c37
                  have H1 : (some false) = some true := by rw [if_pos rfl] at H; first | done | exact H
                  clear H
                  have H := H1
                  clear H1
                  exact absurd H (by simp)
                · replace c37 := Bool.eq_false_iff.mpr c37
                  subst c37
                  have H1 : ((impl_AllSystems.f kj22 (wrap64 ((t332.length : Int) / 2))).bind fun bt355 => (if bt355.2 = true then (laws_FnJoinsMoveOver.l0 kj22 l1 t332 t333 t336 t337 bt355.1 0) else (some false))) = some true := by rw [if_neg (show ¬ (false = true) by decide)] at H; first | done | exact H
                  clear H
                  have H := H1
                  clear H1
                  replace H := Option.bind_eq_some_iff.mp H
                  obtain ⟨⟨t355, t356⟩, A380, H⟩ := H
                  replace H : (if t356 = true then (laws_FnJoinsMoveOver.l0 kj22 l1 t332 t333 t336 t337 t355 0) else (some false)) = some true := H
                  have A38 := Aside0.mk A380
                  clear A380
                  by_cases c39 : t356 = true
                  · subst c39
                    have H1 : (laws_FnJoinsMoveOver.l0 kj22 l1 t332 t333 t336 t337 t355 0) = some true := by rw [if_pos rfl] at H; first | done | exact H
                    clear H
                    have H := H1
                    clear H1
                    have H' := Aside0.mk H
                    clear H
                    go_wp2_with (first | ((with_reducible refine gate_callee (f := 23) rfl ?_); refine goesL_ (some 98) rfl rfl Try.func23 (by kernel_rfl) rfl #[.int .i64 (wrap64 ((t332.length : Int) / 2))] rfl (by (try simp only [List.map_toArray, List.map_cons, List.map_nil]); first | done | rfl | (simp only [List.length_drop, List.length_take]; rfl)) ?_; (with_reducible refine (impl_AllSystems.calls kj22 (wrap64 ((t332.length : Int) / 2)) t355 true _ A38.out).mono ?_); rintro e w40 ⟨v357, rfl, ho0, hb⟩; refine ⟨_, rfl, ?_⟩; have n0_ := Aside0.mk (Kd.R_below (by (with_reducible repeat (first | apply Kd.R_alloc | apply Kd.R_drewN | apply Kd.R_drew)); exact HO_5.out) hb); have n1_ := Aside0.mk (Kd.R_below (by (with_reducible repeat (first | apply Kd.R_alloc | apply Kd.R_drewN | apply Kd.R_drew)); exact HO_7.out) hb); have n2_ := Aside0.mk (Kd.S_lower (Kd.S_new' (Kd.S_new' ho0 (Kd.R_lt (by (with_reducible repeat (first | apply Kd.R_alloc | apply Kd.R_drewN | apply Kd.R_drew)); exact HO_5.out))) (Kd.R_lt (by (with_reducible repeat (first | apply Kd.R_alloc | apply Kd.R_drewN | apply Kd.R_drew)); exact HO_7.out))) (below_size (by repeat (first | (with_reducible first | exact HB.out | apply below_alloc | apply pw_below_drewN | apply below_drew1) | exact HB.out)))); have n3_ := Aside0.mk (below_step (by repeat (first | (with_reducible first | exact HB.out | apply below_alloc | apply pw_below_drewN | apply below_drew1) | exact HB.out)) hb); clear HO_5; clear HO_7; clear HB; have HO_5 := n0_; have HO_7 := n1_; have HO358 := n2_; have HB := n3_; clear n0_ n1_ n2_ n3_; (try clear hb); (try clear hb2); (try clear hk); (try clear hi); (try clear ho0)))
                    go_loopg [18] kj22 (fun kq v18 w' => ∃ (x18_3 : Int), v18 = .int .i64 x18_3 ∧ Aside0 (laws_FnJoinsMoveOver.l0 kq l1 t332 t333 t336 t337 t355 x18_3 = some true) ∧ Aside0 (kq ≤ kj22) ∧ Aside0 (Kd.R (Kd.int .i64) 3 w' w.heap.size (fun k_ => some k_ ≠ ((.slice Ao24 t336.length co24) : Value).ownBlock) (.slice Ao10 t332.length co10) t332) ∧ Aside0 (Kd.R (Kd.int .i64) 3 w' w.heap.size (fun k_ => some k_ ≠ ((.slice Ao10 t332.length co10) : Value).ownBlock) (.slice Ao24 t336.length co24) t336) ∧ Aside0 (Kd.S (Kd.slice 3 (Kd.int .i64)) 34 w' w.heap.size (fun k_ => some k_ ≠ ((.slice Ao10 t332.length co10) : Value).ownBlock ∧ some k_ ≠ ((.slice Ao24 t336.length co24) : Value).ownBlock) v357 t355) ∧ Aside0 (Below w.heap.size w w'))
                    case atStart => exact ⟨(0), (by first | rfl | (simp; done) | (simp [*]; done)), H', ⟨Nat.le_refl _⟩, ⟨by (with_reducible repeat (first | apply Kd.R_alloc | apply Kd.R_drewN | apply Kd.R_drew)); exact HO_5.out⟩, ⟨by (with_reducible repeat (first | apply Kd.R_alloc | apply Kd.R_drewN | apply Kd.R_drew)); exact HO_7.out⟩, ⟨by (with_reducible repeat (first | apply Kd.S_alloc | apply Kd.S_drewN | apply Kd.S_drew)); exact Kd.S_mono HO358.out (fun _ hk => ⟨hk.1.2, hk.2⟩)⟩, ⟨by repeat (first | (with_reducible first | exact HB.out | apply below_alloc | apply pw_below_drewN | apply below_drew1) | exact HB.out)⟩⟩
                    case round =>
                      clear H'
                      try clear c1
                      try clear c2
                      try clear p2
                      try clear c3
                      try clear p3
                      try clear q3
                      try clear hx3
                      try clear c4
                      try clear c6
                      try clear p6
                      try clear c13
                      try clear c13b0
                      try clear c13b1
                      try clear c13b2
                      try clear c15
                      try clear c17
                      try clear c18
                      try clear c19
                      try clear c20
                      try clear c21
                      try clear c23
                      try clear c26
                      try clear c27
                      try clear c27b0
                      try clear c27b1
                      try clear c29
                      try clear c31
                      try clear c32
                      try clear c32b0
                      try clear c33
                      try clear c33b0
                      try clear p35
                      try clear q35
                      try clear hx35
                      try clear c37
                      try clear c39
                      try clear hx354_0
                      try clear p2
                      try clear p3
                      try clear p35
                      try clear p354
                      try clear p6
                      try clear q3
                      try clear q35
                      try clear q354
                      obtain ⟨x18_3, rfl, HA, HK3, HO_5, HO_7, HO_16, HB⟩ := hrel
                      cases gk with
                      | zero => exact absurd HA.out (by simp [laws_FnJoinsMoveOver.l0])
                      | succ k3 =>
                        have H := HA.out
                        clear HA
                        simp only [laws_FnJoinsMoveOver.l0] at H
                        by_cases c41 : x18_3 < 6
                        · rw [if_pos c41] at H
                          have c41b0 : decide (x18_3 < 6) = true := decide_eq_true c41
                          clear c41
                          by_cases c42 : (t355.length : Int) = 0
                          · rw [if_pos c42] at H
                            exact absurd H (by simp)
                          · rw [if_neg c42] at H
                            have c42b0 : ((t355.length : Int) == 0) = false := beq_eq_false_iff_ne.mpr c42
                            have c42b1 : ((t355.length : Int) != 0) = true := bne_iff_ne.mpr c42
                            have c42b2 : ¬ (t355 = []) := fun h_ => c42 (by rw [h_]; rfl)
                            obtain ⟨ji43, hji43⟩ : ∃ j_ : Int, (Int.tmod (wrap64 ((wrap64 (x18_3 * 7)) + (l1.length : Int))) (t355.length : Int)) = j_ := ⟨_, rfl⟩
                            replace H : (if 0 ≤ (ji43) then (if (ji43) < (t355.length : Int) then ((impl_JoinedSystem.f k3 (rd_L2 t355 (ji43)) t333).bind fun bt360 => (if bt360.2.2 = true then ((laws_sCount.f k3 t336 (rd_L2 t355 (ji43))).bind fun t365 => ((laws_sCount.f k3 t332 bt360.1).bind fun t366 => (if (wrap64 (t365 + t337)) = (wrap64 (t366 + bt360.2.1)) then (laws_FnJoinsMoveOver.l0 k3 l1 t332 t333 t336 t337 t355 (wrap64 (x18_3 + 1))) else (some false)))) else (some false))) else (none)) else (none)) = some true := by first | (rw [hji43] at H; first | done | exact H) | (simp only [hji43] at H ⊢; exact H)
                            by_cases c44 : 0 ≤ (ji43)
                            · rw [if_pos c44] at H
                              have c44b0 : decide (0 ≤ (ji43)) = true := decide_eq_true c44
                              clear c44
                              by_cases c45 : (ji43) < (t355.length : Int)
                              · rw [if_pos c45] at H
                                have c45b0 : decide ((ji43) < (t355.length : Int)) = true := decide_eq_true c45
                                clear c45
                                replace H := Option.bind_eq_some_iff.mp H
                                obtain ⟨⟨t360, t361, t362⟩, A460, H⟩ := H
                                replace H : (if t362 = true then ((laws_sCount.f k3 t336 (rd_L2 t355 (ji43))).bind fun t365 => ((laws_sCount.f k3 t332 t360).bind fun t366 => (if (wrap64 (t365 + t337)) = (wrap64 (t366 + t361)) then (laws_FnJoinsMoveOver.l0 k3 l1 t332 t333 t336 t337 t355 (wrap64 (x18_3 + 1))) else (some false)))) else (some false)) = some true := H
                                have A46 := Aside0.mk A460
                                clear A460
                                by_cases c47 : t362 = true
                                · subst c47
                                  have H1 : ((laws_sCount.f k3 t336 (rd_L2 t355 (ji43))).bind fun t365 => ((laws_sCount.f k3 t332 t360).bind fun t366 => (if (wrap64 (t365 + t337)) = (wrap64 (t366 + t361)) then (laws_FnJoinsMoveOver.l0 k3 l1 t332 t333 t336 t337 t355 (wrap64 (x18_3 + 1))) else (some false)))) = some true := by rw [if_pos rfl] at H; first | done | exact H
                                  clear H
                                  have H := H1
                                  clear H1
                                  replace H := Option.bind_eq_some_iff.mp H
                                  obtain ⟨t365, A480, H⟩ := H
                                  replace H : ((laws_sCount.f k3 t332 t360).bind fun t366 => (if (wrap64 (t365 + t337)) = (wrap64 (t366 + t361)) then (laws_FnJoinsMoveOver.l0 k3 l1 t332 t333 t336 t337 t355 (wrap64 (x18_3 + 1))) else (some false))) = some true := H
                                  have A48 := Aside0.mk A480
                                  clear A480
                                  replace H := Option.bind_eq_some_iff.mp H
                                  obtain ⟨t366, A490, H⟩ := H
                                  replace H : (if (wrap64 (t365 + t337)) = (wrap64 (t366 + t361)) then (laws_FnJoinsMoveOver.l0 k3 l1 t332 t333 t336 t337 t355 (wrap64 (x18_3 + 1))) else (some false)) = some true := H
                                  have A49 := Aside0.mk A490
                                  clear A490
                                  by_cases c50 : (wrap64 (t365 + t337)) = (wrap64 (t366 + t361))
                                  · rw [if_pos c50] at H
                                    have c50b0 : ((wrap64 (t365 + t337)) == (wrap64 (t366 + t361))) = true := beq_iff_eq.mpr c50
                                    have c50b1 : ((wrap64 (t365 + t337)) != (wrap64 (t366 + t361))) = false := bne_eq_false_iff_eq.mpr c50
                                    clear c50
                                    have H' := Aside0.mk H
                                    clear H
                                    obtain ⟨Ao51, co51, eo51⟩ := Kd.S_slice HO_16.out
                                    subst eo51
                                    have p359 : 0 ≤ ((ji43) : Int) := of_decide_eq_true (by first | (with_reducible assumption) | assumption)
                                    have q359 : (ji43) < (t355.length : Int) := of_decide_eq_true (by first | (with_reducible assumption) | assumption)
                                    obtain ⟨ad359, A359_0, c359_0, e359, hx359_0, hl359_0, hi359_0⟩ := at_L2 (Kd.S_reads' HO_16.out).2.2 (ji43) p359 q359
                                    cases e359
                                    obtain ⟨ce359, hce359, hMe359, hcc359⟩ := Kd.S_get HO_16.out [] (ji43) p359 (by first | exact q359 | exact of_decide_eq_true (by first | (with_reducible assumption) | assumption) | (have e_ := (Kd.S_reads' HO_16.out).1; omega))
                                    obtain ⟨ve359_0, rfl, ge359_0⟩ := hMe359
                                    have hv359_0 := hcc359 0 _ rfl
                                    rw [Nat.add_zero, show ((Kd.slice 3 (Kd.int .i64))).sz = 1 from rfl, Nat.mul_one] at hv359_0
                                    replace hv359_0 := Option.some.inj (hv359_0.symm.trans hx359_0)
                                    rw [hv359_0] at ge359_0
                                    have HL359_0 := Aside0.mk (show Kd.R (Kd.int .i64) 3 _ _ _ _ (rd_L2 t355 (ji43)) from ge359_0)
                                    clear hv359_0 ge359_0
                                    clear hcc359 hce359
                                    have HR359_0 := Aside0.mk hi359_0
                                    have HC359_0 := Aside0.mk hl359_0
                                    clear hi359_0 hl359_0
                                    replace p359 := eq_true p359
                                    replace q359 := eq_true q359
                                    go_wp2_with (first | ((with_reducible refine gate_callee (f := 19) rfl ?_); refine goesL_ (some 121) rfl rfl Try.func19 (by kernel_rfl) rfl #[.slice A359_0 (rd_L2 t355 (ji43)).length c359_0, .int .i64 t333] rfl (by (try simp only [List.map_toArray, List.map_cons, List.map_nil]); first | done | (simp only [hji43]; rfl) | rfl | (simp only [List.length_drop, List.length_take]; rfl)) ?_; (with_reducible refine (impl_JoinedSystem.calls k3 _ _ (rd_L2 t355 (ji43)) t333 t360 t361 true _ ?side1 ?side2 A46.out).mono ?_); (case side1 => repeat (first | exact (by repeat (first | (with_reducible exact HR359_0.out) | (with_reducible refine Kd.C_alloc ?_ _) | (with_reducible refine Kd.C_drewN ?_ _) | (with_reducible refine Kd.C_drew ?_) | exact HR359_0.out)) | (with_reducible refine Kd.C_alloc ?_ _) | (with_reducible refine Kd.C_drewN ?_ _) | (with_reducible refine Kd.C_drew ?_))); (case side2 => exact HC359_0.out); rintro e w52 ⟨v363, rfl, ho0, hb⟩; refine ⟨_, rfl, ?_⟩; have n0_ := Aside0.mk (Kd.R_elder' (by (with_reducible repeat (first | apply Kd.R_alloc | apply Kd.R_drewN | apply Kd.R_drew)); exact HO_5.out) (Kd.R_base ho0) hb); have n1_ := Aside0.mk (Kd.R_elder' (by (with_reducible repeat (first | apply Kd.R_alloc | apply Kd.R_drewN | apply Kd.R_drew)); exact HO_7.out) (Kd.R_base ho0) hb); have n2_ := Aside0.mk (Kd.S_elder' (by (with_reducible repeat (first | apply Kd.S_alloc | apply Kd.S_drewN | apply Kd.S_drew)); exact HO_16.out) (Kd.R_base ho0) hb); have n3_ := Aside0.mk (Kd.R_elder' (by (with_reducible repeat (first | apply Kd.R_alloc | apply Kd.R_drewN | apply Kd.R_drew)); exact HL359_0.out) (Kd.R_base ho0) hb); have n4_ := Aside0.mk (Kd.R_lower (Kd.R_new' (Kd.R_new' (Kd.R_new' ho0 (Kd.R_lt (by (with_reducible repeat (first | apply Kd.R_alloc | apply Kd.R_drewN | apply Kd.R_drew)); exact HO_5.out))) (Kd.R_lt (by (with_reducible repeat (first | apply Kd.R_alloc | apply Kd.R_drewN | apply Kd.R_drew)); exact HO_7.out))) (Kd.R_lt (by (with_reducible repeat (first | apply Kd.R_alloc | apply Kd.R_drewN | apply Kd.R_drew)); exact HL359_0.out))) (below_size (by repeat (first | (with_reducible first | exact HB.out | apply below_alloc | apply pw_below_drewN | apply below_drew1) | exact HB.out)))); have n5_ := Aside0.mk (Kd.C_below (by repeat (first | (with_reducible exact HR359_0.out) | (with_reducible refine Kd.C_alloc ?_ _) | (with_reducible refine Kd.C_drewN ?_ _) | (with_reducible refine Kd.C_drew ?_) | exact HR359_0.out)) hb); have n6_ := Aside0.mk (below_step (by repeat (first | (with_reducible first | exact HB.out | apply below_alloc | apply pw_below_drewN | apply below_drew1) | exact HB.out)) hb); clear HO_5; clear HO_7; clear HO_16; clear HL359_0; clear HR359_0; clear HB; have HO_5 := n0_; have HO_7 := n1_; have HO_16 := n2_; have HL359_0 := n3_; have HO364 := n4_; have HR359_0 := n5_; have HB := n6_; clear n0_ n1_ n2_ n3_ n4_ n5_ n6_; (try clear hb); (try clear hb2); (try clear hk); (try clear hi); (try clear ho0)) | (go_at_call 24; (with_reducible refine (laws_sCount.calls k3 _ _ t336 _ _ (rd_L2 t355 (ji43)) t365 _ ?side1 ?side2 ?side3 ?side4 A48.out).mono ?_); (case side1 => repeat (first | exact (Kd.R_reads' HO_7.out).2.2 | (with_reducible refine Kd.C_alloc ?_ _) | (with_reducible refine Kd.C_drewN ?_ _) | (with_reducible refine Kd.C_drew ?_))); (case side2 => exact (Kd.R_reads' HO_7.out).2.1); (case side3 => repeat (first | exact (by repeat (first | (with_reducible exact HR359_0.out) | (with_reducible refine Kd.C_alloc ?_ _) | (with_reducible refine Kd.C_drewN ?_ _) | (with_reducible refine Kd.C_drew ?_) | exact HR359_0.out)) | (with_reducible refine Kd.C_alloc ?_ _) | (with_reducible refine Kd.C_drewN ?_ _) | (with_reducible refine Kd.C_drew ?_))); (case side4 => exact HC359_0.out); rintro e w53 ⟨rfl, hb⟩; have n0_ := Aside0.mk (Kd.R_below (by (with_reducible repeat (first | apply Kd.R_alloc | apply Kd.R_drewN | apply Kd.R_drew)); exact HO_5.out) hb); have n1_ := Aside0.mk (Kd.R_below (by (with_reducible repeat (first | apply Kd.R_alloc | apply Kd.R_drewN | apply Kd.R_drew)); exact HO_7.out) hb); have n2_ := Aside0.mk (Kd.S_below (by (with_reducible repeat (first | apply Kd.S_alloc | apply Kd.S_drewN | apply Kd.S_drew)); exact HO_16.out) hb); have n3_ := Aside0.mk (Kd.R_below (by (with_reducible repeat (first | apply Kd.R_alloc | apply Kd.R_drewN | apply Kd.R_drew)); exact HL359_0.out) hb); have n4_ := Aside0.mk (Kd.R_below (by (with_reducible repeat (first | apply Kd.R_alloc | apply Kd.R_drewN | apply Kd.R_drew)); exact HO364.out) hb); have n5_ := Aside0.mk (Kd.C_below (by repeat (first | (with_reducible exact HR359_0.out) | (with_reducible refine Kd.C_alloc ?_ _) | (with_reducible refine Kd.C_drewN ?_ _) | (with_reducible refine Kd.C_drew ?_) | exact HR359_0.out)) hb); have n6_ := Aside0.mk (below_step (by repeat (first | (with_reducible first | exact HB.out | apply below_alloc | apply pw_below_drewN | apply below_drew1) | exact HB.out)) hb); clear HO_5; clear HO_7; clear HO_16; clear HL359_0; clear HO364; clear HR359_0; clear HB; have HO_5 := n0_; have HO_7 := n1_; have HO_16 := n2_; have HL359_0 := n3_; have HO364 := n4_; have HR359_0 := n5_; have HB := n6_; clear n0_ n1_ n2_ n3_ n4_ n5_ n6_; (try clear hb); (try clear hb2); (try clear hk); (try clear hi); obtain ⟨Ao54, co54, eo54⟩ := Kd.R_slice HO364.out; subst eo54) | (go_at_call 24; (with_reducible refine (laws_sCount.calls k3 _ _ t332 _ _ t360 t366 _ ?side1 ?side2 ?side3 ?side4 A49.out).mono ?_); (case side1 => repeat (first | exact (Kd.R_reads' HO_5.out).2.2 | (with_reducible refine Kd.C_alloc ?_ _) | (with_reducible refine Kd.C_drewN ?_ _) | (with_reducible refine Kd.C_drew ?_))); (case side2 => exact (Kd.R_reads' HO_5.out).2.1); (case side3 => repeat (first | exact (Kd.R_reads' HO364.out).2.2 | (with_reducible refine Kd.C_alloc ?_ _) | (with_reducible refine Kd.C_drewN ?_ _) | (with_reducible refine Kd.C_drew ?_))); (case side4 => exact (Kd.R_reads' HO364.out).2.1); rintro e w55 ⟨rfl, hb⟩; have n0_ := Aside0.mk (Kd.R_below (by (with_reducible repeat (first | apply Kd.R_alloc | apply Kd.R_drewN | apply Kd.R_drew)); exact HO_5.out) hb); have n1_ := Aside0.mk (Kd.R_below (by (with_reducible repeat (first | apply Kd.R_alloc | apply Kd.R_drewN | apply Kd.R_drew)); exact HO_7.out) hb); have n2_ := Aside0.mk (Kd.S_below (by (with_reducible repeat (first | apply Kd.S_alloc | apply Kd.S_drewN | apply Kd.S_drew)); exact HO_16.out) hb); have n3_ := Aside0.mk (Kd.R_below (by (with_reducible repeat (first | apply Kd.R_alloc | apply Kd.R_drewN | apply Kd.R_drew)); exact HL359_0.out) hb); have n4_ := Aside0.mk (Kd.R_below (by (with_reducible repeat (first | apply Kd.R_alloc | apply Kd.R_drewN | apply Kd.R_drew)); exact HO364.out) hb); have n5_ := Aside0.mk (Kd.C_below (by repeat (first | (with_reducible exact HR359_0.out) | (with_reducible refine Kd.C_alloc ?_ _) | (with_reducible refine Kd.C_drewN ?_ _) | (with_reducible refine Kd.C_drew ?_) | exact HR359_0.out)) hb); have n6_ := Aside0.mk (below_step (by repeat (first | (with_reducible first | exact HB.out | apply below_alloc | apply pw_below_drewN | apply below_drew1) | exact HB.out)) hb); clear HO_5; clear HO_7; clear HO_16; clear HL359_0; clear HO364; clear HR359_0; clear HB; have HO_5 := n0_; have HO_7 := n1_; have HO_16 := n2_; have HL359_0 := n3_; have HO364 := n4_; have HR359_0 := n5_; have HB := n6_; clear n0_ n1_ n2_ n3_ n4_ n5_ n6_; (try clear hb); (try clear hb2); (try clear hk); (try clear hi)))
                                    first | go_roundg k3 | (simp only [← hji43]; go_roundg k3)
                                    case measure => have := HJ7.out; have := HJ22.out; have := HK3.out; omega
                                    case rel => exact ⟨(wrap64 (x18_3 + 1)), (by first | rfl | (simp; done) | (simp [*]; done)), H', ⟨by have := HJ7.out; have := HJ22.out; have := HK3.out; omega⟩, ⟨by (with_reducible repeat (first | apply Kd.R_alloc | apply Kd.R_drewN | apply Kd.R_drew)); exact Kd.R_mono HO_5.out (fun _ hk => hk.1)⟩, ⟨by (with_reducible repeat (first | apply Kd.R_alloc | apply Kd.R_drewN | apply Kd.R_drew)); exact Kd.R_mono HO_7.out (fun _ hk => hk.1)⟩, ⟨by (with_reducible repeat (first | apply Kd.S_alloc | apply Kd.S_drewN | apply Kd.S_drew)); exact Kd.S_mono HO_16.out (fun _ hk => ⟨hk.1.1, hk.1.2⟩)⟩, ⟨by repeat (first | (with_reducible first | exact HB.out | apply below_alloc | apply pw_below_drewN | apply below_drew1) | exact HB.out)⟩⟩
                                  · rw [if_neg c50] at H
                                    have c50b0 : ((wrap64 (t365 + t337)) == (wrap64 (t366 + t361))) = false := beq_eq_false_iff_ne.mpr c50
                                    have c50b1 : ((wrap64 (t365 + t337)) != (wrap64 (t366 + t361))) = true := bne_iff_ne.mpr c50
                                    exact absurd H (by simp)
                                · replace c47 := Bool.eq_false_iff.mpr c47
                                  subst c47
                                  have H1 : (some false) = some true := by rw [if_neg (show ¬ (false = true) by decide)] at H; first | done | exact H
                                  clear H
                                  have H := H1
                                  clear H1
                                  exact absurd H (by simp)
                              · rw [if_neg c45] at H
                                exact absurd H (by simp)
                            · rw [if_neg c44] at H
                              exact absurd H (by simp)
                        · rw [if_neg c41] at H
                          have c41b0 : decide (x18_3 < 6) = false := decide_eq_false c41
                          clear c41
                          clear H
                          go_wp2
                          go_ret
                          exact ⟨by first | rfl | (simp [errW_none, errW_some] <;> rfl) | (simp [*, errW_none, errW_some] <;> rfl), by repeat (first | (with_reducible first | exact HB.out | apply below_alloc | apply pw_below_drewN | apply below_drew1) | exact HB.out)⟩
                  · replace c39 := Bool.eq_false_iff.mpr c39
                    subst c39
                    have H1 : (some false) = some true := by rw [if_neg (show ¬ (false = true) by decide)] at H; first | done | exact H
                    clear H
                    have H := H1
                    clear H1
                    exact absurd H (by simp)
          · replace c21 := Bool.eq_false_iff.mpr c21
            subst c21
            have H1 : (some true) = some true := by rw [if_neg (show ¬ (false = true) by decide)] at H; first | done | exact H
            clear H
            have H := H1
            clear H1
            clear H
            go_wp2
            go_ret
            exact ⟨by first | rfl | (simp [errW_none, errW_some] <;> rfl) | (simp [*, errW_none, errW_some] <;> rfl), by repeat (first | (with_reducible first | exact HB.out | apply below_alloc | apply pw_below_drewN | apply below_drew1) | exact HB.out)⟩

/-- THE ONE PURE STATEMENT of laws_FnJoinsMoveOver: yours. -/
def laws_FnJoinsMoveOver.Pure : Prop := ∀ (l0 : List Int) (l1 : List Int), l0.length ≤ maxLen → l0.length * 1 ≤ 140737488351232 → (∀ x ∈ l0, (Lit.int .u8 x).wf = true) → l1.length ≤ maxLen → l1.length * 1 ≤ 140737488351232 → (∀ x ∈ l1, (Lit.int .u8 x).wf = true) → ∃ k, laws_FnJoinsMoveOver.f k l0 l1 = some true
theorem laws_FnJoinsMoveOver.walk (P : laws_FnJoinsMoveOver.Pure) (a0 : Option Addr) (len0 cap0 : Nat) (z0 : List Int) (a1 : Option Addr) (len1 cap1 : Nat) (z1 : List Int) (w : World) (w0 : (a0 = none ∧ len0 = 0 ∧ cap0 = 0 ∧ z0 = []) ∨ ∃ x, a0 = some x ∧ len0 ≤ cap0 ∧ cap0 ≤ maxLen ∧ z0.length = cap0 ∧ (∀ i, i < z0.length → w.cell? (x.add i) = some (.int .u8 (z0.getD i 0))) ∧ ∀ n ∈ z0, (Lit.int .u8 n).wf = true) (y0 : len0 * 1 ≤ 140737488351232) (w1 : (a1 = none ∧ len1 = 0 ∧ cap1 = 0 ∧ z1 = []) ∨ ∃ x, a1 = some x ∧ len1 ≤ cap1 ∧ cap1 ≤ maxLen ∧ z1.length = cap1 ∧ (∀ i, i < z1.length → w.cell? (x.add i) = some (.int .u8 (z1.getD i 0))) ∧ ∀ n ∈ z1, (Lit.int .u8 n).wf = true) (y1 : len1 * 1 ≤ 140737488351232) :
    Calls Try.prog 6 #[.slice a0 len0 cap0, .slice a1 len1 cap1] w fun e w' => e = .returned (.bool true) ∧ Below w.heap.size w w' := by
  obtain ⟨l0, rfl, hr0, hm0, hw0, hc0⟩ := ReadsInt.ofRowC w0
  obtain ⟨l1, rfl, hr1, hm1, hw1, hc1⟩ := ReadsInt.ofRowC w1
  obtain ⟨k, h⟩ := P l0 l1 hm0 y0 hw0 hm1 y1 hw1
  refine (laws_FnJoinsMoveOver.calls k _ _ l0 _ _ l1 w (Kd.C_of_reads (d := (0 : Int)) (h1 := fun _ => rfl) hr0) hc0 (Kd.C_of_reads (d := (0 : Int)) (h1 := fun _ => rfl) hr1) hc1 h).mono ?_
  rintro e w' ⟨rfl, hd⟩
  exact ⟨rfl, hd⟩

end Go.Proofs.Ytiljhemobammdaa.O
