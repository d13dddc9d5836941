-- printed by wip/drv/xprint.py (our driver), shortened by wip/drv/squeeze.py: those functions that the claim reaches; Lean checks it
import Derived.Test.YtjgkcknopnollaaGreatQA1
namespace Go.Proofs.YtjgkcknopnollaaGreat.D
open Go.Proofs.YtjgkcknopnollaaGreat.Short Go.RowKit Go.Proofs.YtjgkcknopnollaaGreatW.PrintWords Go.Proofs.YtjgkcknopnollaaGreatW.PrintLast Go.Proofs.YtjgkcknopnollaaGreatW.PrintMore
attribute [local go_sem] max2_int min2_int max_two min_two max_three min_three max_four min_four   -- for this text's walks alone
set_option linter.unusedVariables false
set_option linter.unusedSimpArgs false



set_option maxHeartbeats 8000000
set_option maxRecDepth 100000
/-! ### impl_FoldingOfSemi: function 28 -/
def impl_FoldingOfSemi.f (k : Nat) (l0 : List Int) : Option (List Int × Bool) := (impl_IsSystem.f k l0).bind fun t564 => (if t564 = true then (if (l0.length : Int) = 0 then (some (([] : List Int), false)) else ((impl_isSemi.f k l0).bind fun t565 => (if t565 = true then ((impl_foldingOfSemi.f k l0).bind fun t566 => (some (t566, true))) else (some (([] : List Int), false))))) else (some (([] : List Int), false)))
theorem impl_FoldingOfSemi.mono : ∀ a0 k, LeO (impl_FoldingOfSemi.f k a0) (impl_FoldingOfSemi.f (k + 1) a0) := by
 intro a0 k; unfold impl_FoldingOfSemi.f
 repeat' first
   | (with_reducible exact impl_IsSystem.mono _ _)
   | (with_reducible exact impl_foldingOfSemi.mono _ _)
   | (with_reducible exact impl_isSemi.mono _ _)
   | (with_reducible exact LeO.refl _)
   | (with_reducible exact LeO.none _)
   | (with_reducible refine LeO.ite ?_ ?_)
   | (with_reducible refine LeO.bind ?_ (fun _ => ?_))
   | exact impl_IsSystem.mono _ _
   | exact impl_foldingOfSemi.mono _ _
   | exact impl_isSemi.mono _ _
   | exact LeO.none _
   | refine LeO.ite ?_ ?_
   | refine LeO.bind ?_ (fun _ => ?_)
theorem impl_FoldingOfSemi.calls (k : Nat) (A0 : Option Addr) (c0 : Nat) (l0 : List Int) (r1 : List Int) (r2 : Bool) (w : World) (hr0 : Kd.C (Kd.int .i64) w A0 l0.length l0) (hc0 : l0.length ≤ c0) (h : impl_FoldingOfSemi.f k l0 = some (r1, r2)) :
  Calls Tryz.prog 28 #[.slice A0 l0.length c0] w fun e w' => ∃ v0_ : Value, e = .returned (.tuple #[v0_, .bool r2]) ∧ Kd.R (Kd.int .i64) 3 w' w.heap.size (fun _ => True) v0_ r1 ∧ Below w.heap.size w w' := by
 have HR0 := Aside0.mk hr0; have HC0 := Aside0.mk hc0; clear hr0 hc0; have HB := Aside0.mk (Below.refl w.heap.size w); have H : ((impl_IsSystem.f k l0).bind fun t564 => (if t564 = true then (if (l0.length : Int) = 0 then (some (([] : List Int), false)) else ((impl_isSemi.f k l0).bind fun t565 => (if t565 = true then ((impl_foldingOfSemi.f k l0).bind fun t566 => (some (t566, true))) else (some (([] : List Int), false))))) else (some (([] : List Int), false)))) = some (r1, r2) := h; clear h; obtain ⟨t564, A2, H⟩ := bi H; (try dsimp only at H)
 by_cases c3 : t564 = true
 ·subst c3; rw [if_pos rfl] at H
  by_cases c4 : (l0.length : Int) = 0
  ·rw [if_pos c4] at H; have c4b0 := beq_iff_eq.mpr c4; have c4b1 := bne_eq_false_iff_eq.mpr c4; clear c4; simp only [Option.some.injEq, Prod.mk.injEq] at H; obtain ⟨rfl, rfl⟩ := H; go_enter Tryz.func28, Tryz.ntmps28; go_wp2_with (first | (go_at_call 65; (with_reducible refine (impl_IsSystem.calls k _ _ l0 true _ ?side1 HC0.out A2.out).mono ?_); (case side1 => exact cw HR0.out); rintro e w' ⟨rfl, ⟨nd, rfl⟩⟩)); go_ret2; exact ⟨_, sr, by first | exact Kd.R_nil _ _ _ _ _ | exact Kd.N_nil _ _ _ _ _ | exact Kd.V_nil _ _ _ _ _ | exact Kd.Q_nil _ _ _ _ _ | exact Kd.S_nil _ _ _ _ _, bl HB.out⟩
  rw [if_neg c4] at H; have c4b0 := beq_eq_false_iff_ne.mpr c4; have c4b1 := bne_iff_ne.mpr c4; have c4b2 : ¬ (l0 = []) := fun h_ => c4 (by rw [h_]; rfl); obtain ⟨t565, A5, H⟩ := bi H; (try dsimp only at H)
  by_cases c6 : t565 = true
  ·subst c6; rw [if_pos rfl] at H; obtain ⟨t566, A7, H⟩ := bi H; (try dsimp only at H); simp only [Option.some.injEq, Prod.mk.injEq] at H; obtain ⟨rfl, rfl⟩ := H; go_enter Tryz.func28, Tryz.ntmps28; go_wp2_with (first | (go_at_call 65; (with_reducible refine (impl_IsSystem.calls k _ _ l0 true _ ?side1 HC0.out A2.out).mono ?_); (case side1 => exact cw HR0.out); rintro e w' ⟨rfl, ⟨nd, rfl⟩⟩) | (go_at_call 66; (with_reducible refine (impl_isSemi.calls k _ _ l0 true _ ?side1 HC0.out A5.out).mono ?_); (case side1 => exact cw HR0.out); rintro e w8 ⟨rfl, hb⟩; replace HB := bst HB hb) | (go_at_call 67; (with_reducible refine (impl_foldingOfSemi.calls k _ _ l0 t566 _ ?side1 HC0.out A7.out).mono ?_); (case side1 => exact cw (Kd.C_below HR0.out HB.out)); rintro e w9 ⟨v567, rfl, ho0, hb⟩; have HO568 := Aside0.mk (Kd.R_lower ho0 (below_size (bl HB.out))); replace HB := bst HB hb)); go_ret2; exact ⟨_, sr, rR HO568.out, bl HB.out⟩
  replace c6 := Bool.eq_false_iff.mpr c6; subst c6; rw [if_neg (show ¬ (false = true) by decide)] at H; simp only [Option.some.injEq, Prod.mk.injEq] at H; obtain ⟨rfl, rfl⟩ := H; go_enter Tryz.func28, Tryz.ntmps28; go_wp2_with (first | (go_at_call 65; (with_reducible refine (impl_IsSystem.calls k _ _ l0 true _ ?side1 HC0.out A2.out).mono ?_); (case side1 => exact cw HR0.out); rintro e w' ⟨rfl, ⟨nd, rfl⟩⟩) | (go_at_call 66; (with_reducible refine (impl_isSemi.calls k _ _ l0 false _ ?side1 HC0.out A5.out).mono ?_); (case side1 => exact cw HR0.out); rintro e w10 ⟨rfl, hb⟩; replace HB := bst HB hb)); go_ret2; exact ⟨_, sr, by first | exact Kd.R_nil _ _ _ _ _ | exact Kd.N_nil _ _ _ _ _ | exact Kd.V_nil _ _ _ _ _ | exact Kd.Q_nil _ _ _ _ _ | exact Kd.S_nil _ _ _ _ _, bl HB.out⟩
 replace c3 := Bool.eq_false_iff.mpr c3; subst c3; rw [if_neg (show ¬ (false = true) by decide)] at H; simp only [Option.some.injEq, Prod.mk.injEq] at H; obtain ⟨rfl, rfl⟩ := H; go_enter Tryz.func28, Tryz.ntmps28; go_wp2_with (first | (go_at_call 65; (with_reducible refine (impl_IsSystem.calls k _ _ l0 false _ ?side1 HC0.out A2.out).mono ?_); (case side1 => exact cw HR0.out); rintro e w' ⟨rfl, ⟨nd, rfl⟩⟩)); go_ret2; exact ⟨_, sr, by first | exact Kd.R_nil _ _ _ _ _ | exact Kd.N_nil _ _ _ _ _ | exact Kd.V_nil _ _ _ _ _ | exact Kd.Q_nil _ _ _ _ _ | exact Kd.S_nil _ _ _ _ _, bl HB.out⟩
/-! ### spec_ahGood: function 68 -/
mutual
def spec_ahGood.j0 : Nat → List Int → Bool → Option (Bool)
 | 0, _, _ => none
 | k + 1, x0, x22 => if x22 = true then (some false) else (spec_ahGood.l0 k x0 ([] : List Int) x0 (x0.length : Int) 0)
def spec_ahGood.l0 : Nat → List Int → List Int → List Int → Int → Int → Option (Bool)
 | 0, _, _, _, _, _ => none
 | k + 1, x0, x3, x23, x24, x25 => if x25 < x24 then (if 0 ≤ x25 then (if x25 < (x23.length : Int) then (if (rd x23 x25) > x25 then (if 0 ≤ (rd x23 x25) then (if (rd x23 x25) < (x0.length : Int) then (spec_ahGood.j2 k x0 x3 x25 (rd x23 x25) x23 x24 x25 ((rd x0 (rd x23 x25)) == x25)) else (none)) else (none)) else (spec_ahGood.j2 k x0 x3 x25 (rd x23 x25) x23 x24 x25 false)) else (none)) else (none)) else (some true)
def spec_ahGood.j2 : Nat → List Int → List Int → Int → Int → List Int → Int → Int → Bool → Option (Bool)
 | 0, _, _, _, _, _, _, _, _ => none
 | k + 1, x0, x3, x4, x5, x23, x24, x25, x30 => if x30 = true then ((some (([x4] : List Int) : List Int)).bind fun y572 => (if y572.length + x3.length < 17592186044416 then (spec_ahGood.l0 k x0 (y572 ++ x3) x23 x24 (wrap64 (x25 + 1))) else (none))) else (if x5 < x4 then (if (x3.length : Int) > 0 then (if 0 < (x3.length : Int) then (if (rd x3 0) = x5 then (if 1 ≤ (x3.length : Int) then (spec_ahGood.l0 k x0 (x3.drop (1 : Int).toNat) x23 x24 (wrap64 (x25 + 1))) else (none)) else (some false)) else (none)) else (some false)) else (some false))
end
def spec_ahGood.f (k : Nat) (l0 : List Int) : Option (Bool) := if ((l0.length : Int) % 2) = 1 then (spec_ahGood.j0 k l0 true) else (if (l0.length : Int) > 12 then (spec_ahGood.j0 k l0 true) else ((spec_l1All.f k l0 0 (wrap64 ((l0.length : Int) - 1))).bind fun t569 => (spec_ahGood.j0 k l0 (!t569))))
theorem spec_ahGood.mono_l : ∀ k, (∀ y0 y1, LeO (spec_ahGood.j0 k y0 y1) (spec_ahGood.j0 (k + 1) y0 y1)) ∧ (∀ y0 y1 y2 y3 y4, LeO (spec_ahGood.l0 k y0 y1 y2 y3 y4) (spec_ahGood.l0 (k + 1) y0 y1 y2 y3 y4)) ∧ (∀ y0 y1 y2 y3 y4 y5 y6 y7, LeO (spec_ahGood.j2 k y0 y1 y2 y3 y4 y5 y6 y7) (spec_ahGood.j2 (k + 1) y0 y1 y2 y3 y4 y5 y6 y7))
 | 0 => ⟨fun _ _ r h => by simp [spec_ahGood.j0] at h, fun _ _ _ _ _ r h => by simp [spec_ahGood.l0] at h, fun _ _ _ _ _ _ _ _ r h => by simp [spec_ahGood.j2] at h⟩
 | k + 1 => by
  obtain ⟨ih0, ih1, ih2⟩ := spec_ahGood.mono_l k
  refine ⟨?_, ?_, ?_⟩
  ·intro y0 y1
   unfold spec_ahGood.j0
   repeat' first
   | (with_reducible exact ih0 _ _)
   | (with_reducible exact ih1 _ _ _ _ _)
   | (with_reducible exact ih2 _ _ _ _ _ _ _ _)
   | (with_reducible exact spec_l1All.mono _ _ _ _)
   | (with_reducible exact LeO.refl _)
   | (with_reducible exact LeO.none _)
   | (with_reducible refine LeO.ite ?_ ?_)
   | (with_reducible refine LeO.bind ?_ (fun _ => ?_))
   | exact ih0 _ _
   | exact ih1 _ _ _ _ _
   | exact ih2 _ _ _ _ _ _ _ _
   | exact spec_l1All.mono _ _ _ _
   | exact LeO.none _
   | refine LeO.ite ?_ ?_
   | refine LeO.bind ?_ (fun _ => ?_)
  ·intro y0 y1 y2 y3 y4
   unfold spec_ahGood.l0
   repeat' first
   | (with_reducible exact ih0 _ _)
   | (with_reducible exact ih1 _ _ _ _ _)
   | (with_reducible exact ih2 _ _ _ _ _ _ _ _)
   | (with_reducible exact spec_l1All.mono _ _ _ _)
   | (with_reducible exact LeO.refl _)
   | (with_reducible exact LeO.none _)
   | (with_reducible refine LeO.ite ?_ ?_)
   | (with_reducible refine LeO.bind ?_ (fun _ => ?_))
   | exact ih0 _ _
   | exact ih1 _ _ _ _ _
   | exact ih2 _ _ _ _ _ _ _ _
   | exact spec_l1All.mono _ _ _ _
   | exact LeO.none _
   | refine LeO.ite ?_ ?_
   | refine LeO.bind ?_ (fun _ => ?_)
  ·intro y0 y1 y2 y3 y4 y5 y6 y7
   unfold spec_ahGood.j2
   repeat' first
   | (with_reducible exact ih0 _ _)
   | (with_reducible exact ih1 _ _ _ _ _)
   | (with_reducible exact ih2 _ _ _ _ _ _ _ _)
   | (with_reducible exact spec_l1All.mono _ _ _ _)
   | (with_reducible exact LeO.refl _)
   | (with_reducible exact LeO.none _)
   | (with_reducible refine LeO.ite ?_ ?_)
   | (with_reducible refine LeO.bind ?_ (fun _ => ?_))
   | exact ih0 _ _
   | exact ih1 _ _ _ _ _
   | exact ih2 _ _ _ _ _ _ _ _
   | exact spec_l1All.mono _ _ _ _
   | exact LeO.none _
   | refine LeO.ite ?_ ?_
   | refine LeO.bind ?_ (fun _ => ?_)
theorem spec_ahGood.mono : ∀ a0 k, LeO (spec_ahGood.f k a0) (spec_ahGood.f (k + 1) a0) := by
 intro a0 k; obtain ⟨ih0, ih1, ih2⟩ := spec_ahGood.mono_l k; unfold spec_ahGood.f
 repeat' first
   | (with_reducible exact ih0 _ _)
   | (with_reducible exact ih1 _ _ _ _ _)
   | (with_reducible exact ih2 _ _ _ _ _ _ _ _)
   | (with_reducible exact spec_l1All.mono _ _ _ _)
   | (with_reducible exact LeO.refl _)
   | (with_reducible exact LeO.none _)
   | (with_reducible refine LeO.ite ?_ ?_)
   | (with_reducible refine LeO.bind ?_ (fun _ => ?_))
   | exact ih0 _ _
   | exact ih1 _ _ _ _ _
   | exact ih2 _ _ _ _ _ _ _ _
   | exact spec_l1All.mono _ _ _ _
   | exact LeO.none _
   | refine LeO.ite ?_ ?_
   | refine LeO.bind ?_ (fun _ => ?_)
theorem spec_ahGood.calls (k : Nat) (A0 : Option Addr) (c0 : Nat) (l0 : List Int) (r : Bool) (w : World) (hr0 : Kd.C (Kd.int .i64) w A0 l0.length l0) (hc0 : l0.length ≤ c0) (h : spec_ahGood.f k l0 = some r) :
  Calls Tryz.prog 68 #[.slice A0 l0.length c0] w fun e w' => e = .returned (.bool r) ∧ Below w.heap.size w w' := by
 have HR0 := Aside0.mk hr0; have HC0 := Aside0.mk hc0; clear hr0 hc0; have HB := Aside0.mk (Below.refl w.heap.size w); have H : (if ((l0.length : Int) % 2) = 1 then (spec_ahGood.j0 k l0 true) else (if (l0.length : Int) > 12 then (spec_ahGood.j0 k l0 true) else ((spec_l1All.f k l0 0 (wrap64 ((l0.length : Int) - 1))).bind fun t569 => (spec_ahGood.j0 k l0 (!t569))))) = some r := h; clear h; have HC2 := Aside0.mk H; clear H; go_enter Tryz.func68, Tryz.ntmps68
 go_upto_region 1 with (fail)
 go_cut [22] (fun v22 wc => ∃ (kq : Nat) (x22_1 : Bool), v22 = .bool x22_1 ∧ Aside0 (spec_ahGood.j0 kq l0 x22_1 = some r) ∧ Aside0 (kq ≤ k) ∧ Aside0 (Below w.heap.size w wc))
 case first =>
  have H := HC2.out; clear HC2
  by_cases c3 : ((l0.length : Int) % 2) = 1
  ·rw [if_pos c3] at H; have c3b0 := beq_iff_eq.mpr c3; have c3b1 := bne_eq_false_iff_eq.mpr c3; clear c3; (first | rw [c3b0] | (simp only [i64_w, i32_w]; rw [c3b0]) | skip); have H' := Aside0.mk H; clear H; go_wp2; go_meet
   case rel => exact ⟨_, (true), (sr2), H', ⟨by first | omega | exact Nat.le_refl _⟩, ⟨bl HB.out⟩⟩
  rw [if_neg c3] at H; have c3b0 := beq_eq_false_iff_ne.mpr c3; have c3b1 := bne_iff_ne.mpr c3; (first | rw [c3b0] | (simp only [i64_w, i32_w]; rw [c3b0]) | skip)
  by_cases c4 : (l0.length : Int) > 12
  ·rw [if_pos c4] at H; have c4b0 := decide_eq_true c4; have c4b1 : decide (12 < l0.length) = true := decide_eq_true (by omega); clear c4; have H' := Aside0.mk H; clear H; go_wp2; go_meet
   case rel => exact ⟨_, (true), (sr2), H', ⟨by first | omega | exact Nat.le_refl _⟩, ⟨bl HB.out⟩⟩
  rw [if_neg c4] at H; have c4b0 := decide_eq_false c4; have c4b1 : decide (12 < l0.length) = false := decide_eq_false (by omega); clear c4; obtain ⟨t569, A5, H⟩ := bi H; (try dsimp only at H); have H' := Aside0.mk H; clear H; go_wp2_with (first | (go_at_call 94; (with_reducible refine (spec_l1All.calls k _ _ l0 0 (wrap64 ((l0.length : Int) - 1)) t569 _ ?side1 HC0.out A5.out).mono ?_); (case side1 => exact cw (Kd.C_below HR0.out HB.out)); rintro e w' ⟨rfl, ⟨nd, rfl⟩⟩)); go_meet
  case rel => exact ⟨_, (!t569), (sr2), H', ⟨by first | omega | exact Nat.le_refl _⟩, ⟨bl HB.out⟩⟩
 case rest =>
  clear HC2; obtain ⟨kq, x22_1, rfl, HA, HJ1, HB⟩ := hcut
  cases kq with
  | zero => exact absurd HA.out (by simp [spec_ahGood.j0])
  | succ kj1 =>
   have H := HA.out; clear HA; simp only [spec_ahGood.j0] at H
   by_cases c6 : x22_1 = true
   ·subst c6; rw [if_pos rfl] at H; obtain rfl := Option.some.inj H; go_wp2; go_ret; exact ⟨sr, bl HB.out⟩
   replace c6 := Bool.eq_false_iff.mpr c6; subst c6; rw [if_neg (show ¬ (false = true) by decide)] at H; have H' := Aside0.mk H; clear H; go_wp2
   go_loopg [3, 25] kj1 (fun kq v3 v25 w' => ∃ (x3_2 : List Int) (x25_2 : Int), v25 = .int .i64 x25_2 ∧ Aside0 (spec_ahGood.l0 kq l0 x3_2 l0 (l0.length : Int) x25_2 = some r) ∧ Aside0 (kq ≤ kj1) ∧ Aside0 (Kd.Q (Kd.int .i64) 3 w' w.heap.size (fun _ => True) v3 x3_2) ∧ Aside0 (Below w.heap.size w w'))
   case atStart => exact ⟨(([] : List Int)), (0), (sr2), H', ⟨Nat.le_refl _⟩, ⟨Kd.Q_of_R (by first | exact Kd.R_nil _ _ _ _ _ | exact Kd.N_nil _ _ _ _ _ | exact Kd.V_nil _ _ _ _ _ | exact Kd.Q_nil _ _ _ _ _ | exact Kd.S_nil _ _ _ _ _)⟩, ⟨bl HB.out⟩⟩
   case round =>
    clear H'; obtain ⟨x3_2, x25_2, rfl, HA, HK2, HO_3, HB⟩ := hrel
    cases gk with
    | zero => exact absurd HA.out (by simp [spec_ahGood.l0])
    | succ k2 =>
     have H := HA.out; clear HA; simp only [spec_ahGood.l0] at H
     by_cases c7 : x25_2 < (l0.length : Int)
     ·rw [if_pos c7] at H; have c7b0 := decide_eq_true c7; clear c7
      by_cases c8 : 0 ≤ x25_2
      ·rw [if_pos c8] at H; have c8b0 := decide_eq_true c8; clear c8
       by_cases c9 : x25_2 < (l0.length : Int)
       ·rw [if_pos c9] at H; have c9b0 := decide_eq_true c9; clear c9; have HC10 := Aside0.mk H; clear H; obtain ⟨ad570, e570, hx570_0, p570, q570⟩ := atI HR0.out x25_2; cases e570; replace hx570_0 := hbx HB hx570_0
        go_upto_region 8 with (fail)
        go_cut [30] (fun v30 wc => ∃ (kq : Nat) (x30_9 : Bool), v30 = .bool x30_9 ∧ Aside0 (spec_ahGood.j2 kq l0 x3_2 x25_2 (rd l0 x25_2) l0 (l0.length : Int) x25_2 x30_9 = some r) ∧ Aside0 (kq ≤ k2) ∧ Aside0 (Kd.Q (Kd.int .i64) 3 wc w.heap.size (fun _ => True) u3 x3_2) ∧ Aside0 (Below w.heap.size w wc))
        case first =>
         have H := HC10.out; clear HC10
         by_cases c11 : (rd l0 x25_2) > x25_2
         ·rw [if_pos c11] at H; have c11b0 := decide_eq_true c11; clear c11; (first | rw [c11b0] | (simp only [i64_w, i32_w]; rw [c11b0]) | skip)
          by_cases c12 : 0 ≤ (rd l0 x25_2)
          ·rw [if_pos c12] at H; have c12b0 := decide_eq_true c12; clear c12
           by_cases c13 : (rd l0 x25_2) < (l0.length : Int)
           ·rw [if_pos c13] at H; have c13b0 := decide_eq_true c13; clear c13; have H' := Aside0.mk H; clear H; obtain ⟨ad571, e571, hx571_0, p571, q571⟩ := atI HR0.out (rd l0 x25_2); obtain rfl : ad570 = ad571 := (by injection e571); replace hx571_0 := hbx HB hx571_0; go_wp2; go_meet
            case rel => exact ⟨_, (((rd l0 (rd l0 x25_2)) == x25_2)), (sr2), H', ⟨by have := HJ1.out; have := HK2.out; first | omega | exact Nat.le_refl _⟩, ⟨by (with_reducible repeat (first | apply Kd.Q_alloc | apply Kd.Q_drewN | apply Kd.Q_drew)); exact HO_3.out⟩, ⟨bl HB.out⟩⟩
           rw [if_neg c13] at H; exact absurd H (by simp)
          rw [if_neg c12] at H; exact absurd H (by simp)
         rw [if_neg c11] at H; have c11b0 := decide_eq_false c11; clear c11; (first | rw [c11b0] | (simp only [i64_w, i32_w]; rw [c11b0]) | skip); have H' := Aside0.mk H; clear H; go_wp2; go_meet
         case rel => exact ⟨_, (false), (sr2), H', ⟨by have := HJ1.out; have := HK2.out; first | omega | exact Nat.le_refl _⟩, ⟨by (with_reducible repeat (first | apply Kd.Q_alloc | apply Kd.Q_drewN | apply Kd.Q_drew)); exact HO_3.out⟩, ⟨bl HB.out⟩⟩
        case rest =>
         clear HC10; obtain ⟨kq, x30_9, rfl, HA, HJ9, HO_3, HB⟩ := hcut
         cases kq with
         | zero => exact absurd HA.out (by simp [spec_ahGood.j2])
         | succ kj9 =>
          have H := HA.out; clear HA; simp only [spec_ahGood.j2] at H
          by_cases c14 : x30_9 = true
          ·subst c14; rw [if_pos rfl] at H; obtain ⟨y572, hy572⟩ := yy (([x25_2] : List Int))
           (try rw [Option.bind_some] at H); (try dsimp only at H); rw [← hy572] at H
           have Ny572 := Aside0.mk hy572; clear hy572
           by_cases c15 : y572.length + x3_2.length < 17592186044416
           ·rw [if_pos c15] at H; have LMc15 := Aside0.mk c15; clear c15; obtain ⟨y575, hy575⟩ := yy (y572 ++ x3_2)
            (try rw [Option.bind_some] at H); (try dsimp only at H); rw [← hy575] at H
            have Ny575 := Aside0.mk hy575; clear hy575; have H' := Aside0.mk H; clear H; go_wp2_with (first | ((with_reducible refine gate_dst (N := 43) rfl ?_); (try (refine gate_guard (by rfl) ?_; dsimp only)); refine Kd.R_lit (Kd.int .i64) _ 3 ?hg (N := 43) ?hd (xs := ([x25_2] : List Int)) (inner := [.int .i64 x25_2]) (ok := fun _ => True) (okp := fun _ => True) ?hr ?hp (fun _ hk => hk) trivial (Below.refl _ _) (Nat.le_refl _) (by simp) ?_; (case hd => rfl); (case hg => rfl); (case hr => first | (go_simp; done) | (go_simp; rfl)); (case hp => exact (Reps.one (show Kd.M (Kd.int .i64) _ _ _ x25_2 [.int .i64 x25_2] from rfl) (Reps.none _ _))); intro v573 w16 ho17 hb hg_ hnew_; clear hg_ hnew_; (first | rw [← Ny572.out] at ho17 | (simp only [Int.reduceToNat] at ho17; rw [← Ny572.out] at ho17)); have HO574 := Aside0.mk (Kd.R_lower (Kd.R_new' ho17 (Kd.Q_lt (by (with_reducible repeat (first | apply Kd.Q_alloc | apply Kd.Q_drewN | apply Kd.Q_drew)); exact HO_3.out))) (below_size (bl HB.out))); replace HO_3 := Aside0.mk (Kd.Q_elder' (by (with_reducible repeat (first | apply Kd.Q_alloc | apply Kd.Q_drewN | apply Kd.Q_drew)); exact HO_3.out) (Kd.R_base ho17) hb); replace HB := bst HB hb; clear hb ho17; obtain ⟨Ao19, co19, eo19, _⟩ := Kd.Q_slice HO_3.out; subst eo19) | ((with_reducible refine gate_builtin (b := .append) (xs := #[.tmp 43, .tmp 44]) rfl ?_); (try (refine gate_guard (by rfl) ?_; dsimp only)); at_builtin; refine Kd.R_append_rows (Kd.int .i64) (w0 := w) w.heap.size rfl (.tmp 43) (.tmp 44) 31 3 (.int .i64 0) 8 rfl Tryz.underlying31 info3 rfl (by decide) (by omega) v573 y572 x3_2 _ _ _ (fun k_ => some k_ ≠ (.slice Ao19 x3_2.length co19 : Value).ownBlock) (fun _ => False) rfl rfl ?aO ?aR (fun _ _ h => h) (fun _ h => h.elim) ?aF ?aB ?aS (by have := LMc15.out; omega) ?_; (case aR => exact cw ((Kd.Q_reads' HO_3.out).2.2)); (case aB => exact (bl HB.out)); (case aF => exact (fun k_ hk => Kd.fresh' (Kd.Q_lt (by (with_reducible repeat (first | apply Kd.Q_alloc | apply Kd.Q_drewN | apply Kd.Q_drew)); exact HO_3.out)) k_ hk)); (case aO => exact (rR (Kd.R_mono HO574.out (fun _ hk => hk.2)))); (case aS => exact (below_size (bl HB.out))); intro v576 w18 ho hb hg hat; rw [← Ny575.out] at ho; replace HO_3 := Aside0.mk (Kd.Q_after (ok := (fun _ => True)) (by (with_reducible repeat (first | apply Kd.Q_alloc | apply Kd.Q_drewN | apply Kd.Q_drew)); exact HO_3.out) hg hat); replace HB := Aside0.mk (hb); have HO577 := Aside0.mk (ho); clear HO574; clear ho hb hg hat))
            go_roundg kj9
            case measure => have := HJ1.out; have := HK2.out; have := HJ9.out; omega
            case rel => exact ⟨(y575), (wrap64 (x25_2 + 1)), (sr2), H', ⟨by have := HJ1.out; have := HK2.out; have := HJ9.out; omega⟩, ⟨Kd.Q_of_R (rR (Kd.R_mono HO577.out (fun _ hk => trivial)))⟩, ⟨bl HB.out⟩⟩
           rw [if_neg c15] at H; exact absurd H (by simp)
          replace c14 := Bool.eq_false_iff.mpr c14; subst c14; rw [if_neg (show ¬ (false = true) by decide)] at H
          by_cases c20 : (rd l0 x25_2) < x25_2
          ·rw [if_pos c20] at H; have c20b0 := decide_eq_true c20; clear c20
           by_cases c21 : (x3_2.length : Int) > 0
           ·rw [if_pos c21] at H; have c21b0 := decide_eq_true c21; have c21b1 : decide (0 < x3_2.length) = true := decide_eq_true (by omega); clear c21
            by_cases c22 : 0 < (x3_2.length : Int)
            ·rw [if_pos c22] at H; have c22b0 := decide_eq_true c22; have c22b1 : decide (0 < x3_2.length) = true := decide_eq_true (by omega); clear c22
             by_cases c23 : (rd x3_2 0) = (rd l0 x25_2)
             ·rw [if_pos c23] at H; have c23b0 := beq_iff_eq.mpr c23; have c23b1 := bne_eq_false_iff_eq.mpr c23; clear c23
              by_cases c24 : 1 ≤ (x3_2.length : Int)
              ·rw [if_pos c24] at H; have c24b0 := eq_true c24; have c24b1 := decide_eq_true c24; clear c24; obtain ⟨y579, hy579⟩ := yy (x3_2.drop (1 : Int).toNat)
               (try rw [Option.bind_some] at H); (try dsimp only at H); rw [← hy579] at H
               have Ny579 := Aside0.mk hy579; clear hy579; have H' := Aside0.mk H; clear H; obtain ⟨Ao25, co25, eo25, _⟩ := Kd.Q_slice HO_3.out; subst eo25; have p578 : 0 ≤ (0 : Int) := (by omega); have q578 : 0 < (x3_2.length : Int) := od; obtain ⟨ad578, e578, hx578_0⟩ := Kd.at_int (Kd.Q_reads' HO_3.out).2.2 0 p578 q578; cases e578; have qi578 : (0 < x3_2.length) = True := eq_true (by omega); (try rw [show ((0 : Int)).toNat = 0 from rfl] at hx578_0); (try rw [Addr.add_zero'] at hx578_0); replace p578 := eq_true p578; replace q578 := eq_true q578; have q26 : (1 : Int) ≤ ((x3_2.length : Int) : Int) := od; obtain ⟨i026, hi026, _, hsz26, _⟩ := info_parts info3; have hcut26 := cut_from (P := Tryz.prog) 31 3 .i64 Tryz.underlying31 hi026 1 hsz26 (some ad578) x3_2.length co25 1 (by omega) q26; have hr26 := Kd.Q_drop (k := (1 : Int).toNat) HO_3.out (by omega); obtain ⟨A26, hA26⟩ : ∃ A1, A1 = (if co25 = (1 : Int).toNat then (some ad578) else ((some ad578) : Option Addr).map (·.add ((1 : Int).toNat * 1))) := ⟨_, rfl⟩; obtain ⟨c26, hc26⟩ : ∃ c1, c1 = co25 - (1 : Int).toNat := ⟨_, rfl⟩; have hy26 : y579.length = x3_2.length - (1 : Int).toNat := (by rw [Ny579.out, List.length_drop]); rw [← Ny579.out] at hr26; rw [← hy26, ← hA26, ← hc26] at hcut26; replace hr26 : Kd.Q (Kd.int .i64) 3 wc w.heap.size (fun _ => True) (.slice A26 y579.length c26) y579 := (by rw [hA26, hc26, hy26]; exact hr26); have HE26 : Aside0 ((Value.slice A26 y579.length c26).ownBlock = (.slice (some ad578) x3_2.length co25 : Value).ownBlock) := ⟨by rw [hA26]; split <;> (cases ((some ad578) : Option Addr) <;> rfl)⟩; clear hy26 hi026 hsz26 HO_3 hA26 hc26; have HO581 := Aside0.mk hr26; clear hr26; replace q26 := eq_true q26; go_wp2
               go_roundg kj9
               case measure => have := HJ1.out; have := HK2.out; have := HJ9.out; omega
               case rel => exact ⟨(y579), (wrap64 (x25_2 + 1)), (sr2), H', ⟨by have := HJ1.out; have := HK2.out; have := HJ9.out; omega⟩, ⟨by (with_reducible repeat (first | apply Kd.Q_alloc | apply Kd.Q_drewN | apply Kd.Q_drew)); exact HO581.out⟩, ⟨bl HB.out⟩⟩
              rw [if_neg c24] at H; exact absurd H (by simp)
             rw [if_neg c23] at H; have c23b0 := beq_eq_false_iff_ne.mpr c23; have c23b1 := bne_iff_ne.mpr c23; obtain rfl := Option.some.inj H; obtain ⟨Ao27, co27, eo27, _⟩ := Kd.Q_slice HO_3.out; subst eo27; have p578 : 0 ≤ (0 : Int) := (by omega); have q578 : 0 < (x3_2.length : Int) := od; obtain ⟨ad578, e578, hx578_0⟩ := Kd.at_int (Kd.Q_reads' HO_3.out).2.2 0 p578 q578; cases e578; have qi578 : (0 < x3_2.length) = True := eq_true (by omega); (try rw [show ((0 : Int)).toNat = 0 from rfl] at hx578_0); (try rw [Addr.add_zero'] at hx578_0); replace p578 := eq_true p578; replace q578 := eq_true q578; go_wp2; go_ret; exact ⟨sr, bl HB.out⟩
            rw [if_neg c22] at H; exact absurd H (by simp)
           rw [if_neg c21] at H; have c21b0 := decide_eq_false c21; have c21b1 : decide (0 < x3_2.length) = false := decide_eq_false (by omega); clear c21; obtain rfl := Option.some.inj H; obtain ⟨Ao28, co28, eo28, _⟩ := Kd.Q_slice HO_3.out; subst eo28; go_wp2; go_ret; exact ⟨sr, bl HB.out⟩
          rw [if_neg c20] at H; have c20b0 := decide_eq_false c20; clear c20; obtain rfl := Option.some.inj H; go_wp2; go_ret; exact ⟨sr, bl HB.out⟩
       rw [if_neg c9] at H; exact absurd H (by simp)
      rw [if_neg c8] at H; exact absurd H (by simp)
     rw [if_neg c7] at H; have c7b0 := decide_eq_false c7; clear c7; obtain rfl := Option.some.inj H; go_wp2; go_ret; exact ⟨sr, bl HB.out⟩
/-! ### spec_meWay: function 139 -/
def spec_meWay.l0 : Nat → Int → List Int → Int → List Int → List Int → Option (List Int)
 | 0, _, _, _, _, _ => none
 | k + 1, x1, x5, x6, x583000, x583001 => if x6 = x1 then (some x5) else (if 0 ≤ x6 then (if x6 < (x583000.length : Int) then ((some (([x6, rd x583000 x6] : List Int) : List Int)).bind fun y590 => (if x5.length + y590.length < 17592186044416 then (if 0 ≤ (rd x583000 x6) then (if (rd x583000 x6) < (x583001.length : Int) then (spec_meWay.l0 k x1 (x5 ++ y590) (rd x583001 (rd x583000 x6)) x583000 x583001) else (none)) else (none)) else (none))) else (none)) else (none))
def spec_meWay.f (k : Nat) (l0_0 : List Int) (l0_1 : List Int) (a1 : Int) : Option (List Int) := if 0 ≤ a1 then (if a1 < (l0_0.length : Int) then (if 0 ≤ (rd l0_0 a1) then (if (rd l0_0 a1) < (l0_1.length : Int) then (spec_meWay.l0 k a1 (([a1, rd l0_0 a1] : List Int)) (rd l0_1 (rd l0_0 a1)) l0_0 l0_1) else (none)) else (none)) else (none)) else (none)
theorem spec_meWay.mono_l : ∀ k, (∀ y0 y1 y2 y3 y4, LeO (spec_meWay.l0 k y0 y1 y2 y3 y4) (spec_meWay.l0 (k + 1) y0 y1 y2 y3 y4))
 | 0 => fun _ _ _ _ _ r h => by simp [spec_meWay.l0] at h
 | k + 1 => by
  have ih0 := spec_meWay.mono_l k
  ·intro y0 y1 y2 y3 y4
   unfold spec_meWay.l0
   repeat' first
   | (with_reducible exact ih0 _ _ _ _ _)
   | (with_reducible exact LeO.refl _)
   | (with_reducible exact LeO.none _)
   | (with_reducible refine LeO.ite ?_ ?_)
   | (with_reducible refine LeO.bind ?_ (fun _ => ?_))
   | exact ih0 _ _ _ _ _
   | exact LeO.none _
   | refine LeO.ite ?_ ?_
   | refine LeO.bind ?_ (fun _ => ?_)
theorem spec_meWay.mono : ∀ a0 a1 a2 k, LeO (spec_meWay.f k a0 a1 a2) (spec_meWay.f (k + 1) a0 a1 a2) := by
 intro a0 a1 a2 k; have ih0 := spec_meWay.mono_l k; unfold spec_meWay.f
 repeat' first
   | (with_reducible exact ih0 _ _ _ _ _)
   | (with_reducible exact LeO.refl _)
   | (with_reducible exact LeO.none _)
   | (with_reducible refine LeO.ite ?_ ?_)
   | (with_reducible refine LeO.bind ?_ (fun _ => ?_))
   | exact ih0 _ _ _ _ _
   | exact LeO.none _
   | refine LeO.ite ?_ ?_
   | refine LeO.bind ?_ (fun _ => ?_)
theorem spec_meWay.calls (k : Nat) (A0_0 : Option Addr) (c0_0 : Nat) (l0_0 : List Int) (A0_1 : Option Addr) (c0_1 : Nat) (l0_1 : List Int) (a1 : Int) (r : List Int) (w : World) (hr0_0 : Kd.C (Kd.int .i64) w A0_0 l0_0.length l0_0) (hc0_0 : l0_0.length ≤ c0_0) (hr0_1 : Kd.C (Kd.int .i64) w A0_1 l0_1.length l0_1) (hc0_1 : l0_1.length ≤ c0_1) (h : spec_meWay.f k l0_0 l0_1 a1 = some r) :
  Calls Tryz.prog 139 #[.agg #[.slice A0_0 l0_0.length c0_0, .slice A0_1 l0_1.length c0_1], .int .i64 a1] w fun e w' => ∃ v0_ : Value, e = .returned (v0_) ∧ Kd.R (Kd.int .i64) 3 w' w.heap.size (fun _ => True) v0_ r ∧ Below w.heap.size w w' := by
 have hu45 := Tryz.underlying45; have HR0_0 := Aside0.mk hr0_0; have HC0_0 := Aside0.mk hc0_0; clear hr0_0 hc0_0; have HR0_1 := Aside0.mk hr0_1; have HC0_1 := Aside0.mk hc0_1; clear hr0_1 hc0_1; have HB := Aside0.mk (Below.refl w.heap.size w); have H : (if 0 ≤ a1 then (if a1 < (l0_0.length : Int) then (if 0 ≤ (rd l0_0 a1) then (if (rd l0_0 a1) < (l0_1.length : Int) then (spec_meWay.l0 k a1 (([a1, rd l0_0 a1] : List Int)) (rd l0_1 (rd l0_0 a1)) l0_0 l0_1) else (none)) else (none)) else (none)) else (none)) = some r := h; clear h
 by_cases c3 : 0 ≤ a1
 ·rw [if_pos c3] at H; have c3b0 := decide_eq_true c3; clear c3
  by_cases c4 : a1 < (l0_0.length : Int)
  ·rw [if_pos c4] at H; have c4b0 := decide_eq_true c4; clear c4; obtain ⟨y584, hy584⟩ := yy (([a1, rd l0_0 a1] : List Int))
   (try rw [Option.bind_some] at H); (try dsimp only at H); rw [← hy584] at H
   have Ny584 := Aside0.mk hy584; clear hy584
   by_cases c5 : 0 ≤ (rd l0_0 a1)
   ·rw [if_pos c5] at H; have c5b0 := decide_eq_true c5; clear c5
    by_cases c6 : (rd l0_0 a1) < (l0_1.length : Int)
    ·rw [if_pos c6] at H; have c6b0 := decide_eq_true c6; clear c6; have H' := Aside0.mk H; clear H; go_enter Tryz.func139, Tryz.ntmps139; go_wp2_with (first | ((with_reducible refine gate_dst (N := 2) rfl ?_); refine box_event ?hg (N := 2) ?hd (cs := #[.slice A0_0 l0_0.length c0_0, .slice A0_1 l0_1.length c0_1]) (t := 45) ?hr ?_; (case hd => rfl); (case hg => rfl); (case hr => first | (go_simp; done) | (go_simp; rfl)); intro gb582 hg w7 hbox hb; have BK582 := Aside0.mk (hbox); have GW582 := Aside0.mk ((by rw [hg]; exact (below_size (bl HB.out)) : w.heap.size ≤ gb582)); have GE582 := Aside0.mk ((by rw [hg]; exact (below_size (bl HB.out)) : w.heap.size ≤ gb582)); replace HB := bst HB hb; clear hb hbox hg; have hcz8_0 : w7.cell? ⟨gb582, 0, none⟩ = some (.slice A0_0 l0_0.length c0_0) := (blk_cell BK582.out 0).trans rfl; have hcz8_1 : w7.cell? ⟨gb582, 1, none⟩ = some (.slice A0_1 l0_1.length c0_1) := (blk_cell BK582.out 1).trans rfl; have hfz8_0 := blk_frozen BK582.out 0; have hfz8_1 := blk_frozen BK582.out 1; have p583 : 0 ≤ (a1 : Int) := od; have q583 : a1 < (l0_0.length : Int) := od; obtain ⟨ad583, e583, hx583_0⟩ := Kd.at_int HR0_0.out a1 p583 q583; cases e583; replace hx583_0 := hbx HB hx583_0; replace p583 := eq_true p583; replace q583 := eq_true q583) | ((with_reducible refine gate_dst (N := 13) rfl ?_); refine Kd.R_lit (Kd.int .i64) _ 3 ?hg (N := 13) ?hd (xs := ([a1, rd l0_0 a1] : List Int)) (inner := [.int .i64 a1, .int .i64 (rd l0_0 a1)]) (ok := fun _ => True) (okp := fun _ => True) ?hr ?hp (fun _ hk => hk) trivial (Below.refl _ _) (Nat.le_refl _) (by simp) ?_; (case hd => rfl); (case hg => rfl); (case hr => first | (go_simp; done) | (go_simp; rfl)); (case hp => exact (Reps.one (show Kd.M (Kd.int .i64) _ _ _ a1 [.int .i64 a1] from rfl) (Reps.one (show Kd.M (Kd.int .i64) _ _ _ (rd l0_0 a1) [.int .i64 (rd l0_0 a1)] from rfl) (Reps.none _ _)))); intro v585 w9 ho10 hb hg_ hnew_; clear hg_ hnew_; (first | rw [← Ny584.out] at ho10 | (simp only [Int.reduceToNat] at ho10; rw [← Ny584.out] at ho10)); have HO586 := Aside0.mk (Kd.R_lower ho10 (below_size (bs1 HB.out GE582.out))); replace BK582 := bkb BK582 hb; replace HB := Aside0.mk (below_step (bs1 HB.out GE582.out) hb); clear hb ho10; have hcz11_0 : w9.cell? ⟨gb582, 0, none⟩ = some (.slice (some ad583) l0_0.length c0_0) := (blk_cell BK582.out 0).trans rfl; have hcz11_1 : w9.cell? ⟨gb582, 1, none⟩ = some (.slice A0_1 l0_1.length c0_1) := (blk_cell BK582.out 1).trans rfl; have hfz11_0 := blk_frozen BK582.out 0; have hfz11_1 := blk_frozen BK582.out 1; have p587 : 0 ≤ (a1 : Int) := od; have q587 : a1 < (l0_0.length : Int) := od; obtain ⟨ad587, e587, hx587_0⟩ := Kd.at_int HR0_0.out a1 p587 q587; obtain rfl : ad583 = ad587 := (by injection e587); replace hx587_0 := hbx HB hx587_0; replace p587 := eq_true p587; replace q587 := eq_true q587; have p588 : 0 ≤ ((rd l0_0 a1) : Int) := od; have q588 : (rd l0_0 a1) < (l0_1.length : Int) := od; obtain ⟨ad588, e588, hx588_0⟩ := Kd.at_int HR0_1.out (rd l0_0 a1) p588 q588; cases e588; replace hx588_0 := hbx HB hx588_0; replace p588 := eq_true p588; replace q588 := eq_true q588))
     repeat (go_quiet (first | ((with_reducible refine gate_dst (N := 2) rfl ?_); refine box_event ?hg (N := 2) ?hd (cs := #[.slice A0_0 l0_0.length c0_0, .slice A0_1 l0_1.length c0_1]) (t := 45) ?hr ?_; (case hd => rfl); (case hg => rfl); (case hr => first | (go_simp; done) | (go_simp; rfl)); intro gb582 hg w7 hbox hb; have BK582 := Aside0.mk (hbox); have GW582 := Aside0.mk ((by rw [hg]; exact (below_size (bl HB.out)) : w.heap.size ≤ gb582)); have GE582 := Aside0.mk ((by rw [hg]; exact (below_size (bl HB.out)) : w.heap.size ≤ gb582)); replace HB := bst HB hb; clear hb hbox hg; have hcz8_0 : w7.cell? ⟨gb582, 0, none⟩ = some (.slice A0_0 l0_0.length c0_0) := (blk_cell BK582.out 0).trans rfl; have hcz8_1 : w7.cell? ⟨gb582, 1, none⟩ = some (.slice A0_1 l0_1.length c0_1) := (blk_cell BK582.out 1).trans rfl; have hfz8_0 := blk_frozen BK582.out 0; have hfz8_1 := blk_frozen BK582.out 1; have p583 : 0 ≤ (a1 : Int) := od; have q583 : a1 < (l0_0.length : Int) := od; obtain ⟨ad583, e583, hx583_0⟩ := Kd.at_int HR0_0.out a1 p583 q583; cases e583; replace hx583_0 := hbx HB hx583_0; replace p583 := eq_true p583; replace q583 := eq_true q583) | ((with_reducible refine gate_dst (N := 13) rfl ?_); refine Kd.R_lit (Kd.int .i64) _ 3 ?hg (N := 13) ?hd (xs := ([a1, rd l0_0 a1] : List Int)) (inner := [.int .i64 a1, .int .i64 (rd l0_0 a1)]) (ok := fun _ => True) (okp := fun _ => True) ?hr ?hp (fun _ hk => hk) trivial (Below.refl _ _) (Nat.le_refl _) (by simp) ?_; (case hd => rfl); (case hg => rfl); (case hr => first | (go_simp; done) | (go_simp; rfl)); (case hp => exact (Reps.one (show Kd.M (Kd.int .i64) _ _ _ a1 [.int .i64 a1] from rfl) (Reps.one (show Kd.M (Kd.int .i64) _ _ _ (rd l0_0 a1) [.int .i64 (rd l0_0 a1)] from rfl) (Reps.none _ _)))); intro v585 w9 ho10 hb hg_ hnew_; clear hg_ hnew_; (first | rw [← Ny584.out] at ho10 | (simp only [Int.reduceToNat] at ho10; rw [← Ny584.out] at ho10)); have HO586 := Aside0.mk (Kd.R_lower ho10 (below_size (bs1 HB.out GE582.out))); replace BK582 := bkb BK582 hb; replace HB := Aside0.mk (below_step (bs1 HB.out GE582.out) hb); clear hb ho10; have hcz11_0 : w9.cell? ⟨gb582, 0, none⟩ = some (.slice (some ad583) l0_0.length c0_0) := (blk_cell BK582.out 0).trans rfl; have hcz11_1 : w9.cell? ⟨gb582, 1, none⟩ = some (.slice A0_1 l0_1.length c0_1) := (blk_cell BK582.out 1).trans rfl; have hfz11_0 := blk_frozen BK582.out 0; have hfz11_1 := blk_frozen BK582.out 1; have p587 : 0 ≤ (a1 : Int) := od; have q587 : a1 < (l0_0.length : Int) := od; obtain ⟨ad587, e587, hx587_0⟩ := Kd.at_int HR0_0.out a1 p587 q587; obtain rfl : ad583 = ad587 := (by injection e587); replace hx587_0 := hbx HB hx587_0; replace p587 := eq_true p587; replace q587 := eq_true q587; have p588 : 0 ≤ ((rd l0_0 a1) : Int) := od; have q588 : (rd l0_0 a1) < (l0_1.length : Int) := od; obtain ⟨ad588, e588, hx588_0⟩ := Kd.at_int HR0_1.out (rd l0_0 a1) p588 q588; cases e588; replace hx588_0 := hbx HB hx588_0; replace p588 := eq_true p588; replace q588 := eq_true q588)); try go_wp2_with (first | ((with_reducible refine gate_dst (N := 2) rfl ?_); refine box_event ?hg (N := 2) ?hd (cs := #[.slice A0_0 l0_0.length c0_0, .slice A0_1 l0_1.length c0_1]) (t := 45) ?hr ?_; (case hd => rfl); (case hg => rfl); (case hr => first | (go_simp; done) | (go_simp; rfl)); intro gb582 hg w7 hbox hb; have BK582 := Aside0.mk (hbox); have GW582 := Aside0.mk ((by rw [hg]; exact (below_size (bl HB.out)) : w.heap.size ≤ gb582)); have GE582 := Aside0.mk ((by rw [hg]; exact (below_size (bl HB.out)) : w.heap.size ≤ gb582)); replace HB := bst HB hb; clear hb hbox hg; have hcz8_0 : w7.cell? ⟨gb582, 0, none⟩ = some (.slice A0_0 l0_0.length c0_0) := (blk_cell BK582.out 0).trans rfl; have hcz8_1 : w7.cell? ⟨gb582, 1, none⟩ = some (.slice A0_1 l0_1.length c0_1) := (blk_cell BK582.out 1).trans rfl; have hfz8_0 := blk_frozen BK582.out 0; have hfz8_1 := blk_frozen BK582.out 1; have p583 : 0 ≤ (a1 : Int) := od; have q583 : a1 < (l0_0.length : Int) := od; obtain ⟨ad583, e583, hx583_0⟩ := Kd.at_int HR0_0.out a1 p583 q583; cases e583; replace hx583_0 := hbx HB hx583_0; replace p583 := eq_true p583; replace q583 := eq_true q583) | ((with_reducible refine gate_dst (N := 13) rfl ?_); refine Kd.R_lit (Kd.int .i64) _ 3 ?hg (N := 13) ?hd (xs := ([a1, rd l0_0 a1] : List Int)) (inner := [.int .i64 a1, .int .i64 (rd l0_0 a1)]) (ok := fun _ => True) (okp := fun _ => True) ?hr ?hp (fun _ hk => hk) trivial (Below.refl _ _) (Nat.le_refl _) (by simp) ?_; (case hd => rfl); (case hg => rfl); (case hr => first | (go_simp; done) | (go_simp; rfl)); (case hp => exact (Reps.one (show Kd.M (Kd.int .i64) _ _ _ a1 [.int .i64 a1] from rfl) (Reps.one (show Kd.M (Kd.int .i64) _ _ _ (rd l0_0 a1) [.int .i64 (rd l0_0 a1)] from rfl) (Reps.none _ _)))); intro v585 w9 ho10 hb hg_ hnew_; clear hg_ hnew_; (first | rw [← Ny584.out] at ho10 | (simp only [Int.reduceToNat] at ho10; rw [← Ny584.out] at ho10)); have HO586 := Aside0.mk (Kd.R_lower ho10 (below_size (bs1 HB.out GE582.out))); replace BK582 := bkb BK582 hb; replace HB := Aside0.mk (below_step (bs1 HB.out GE582.out) hb); clear hb ho10; have hcz11_0 : w9.cell? ⟨gb582, 0, none⟩ = some (.slice (some ad583) l0_0.length c0_0) := (blk_cell BK582.out 0).trans rfl; have hcz11_1 : w9.cell? ⟨gb582, 1, none⟩ = some (.slice A0_1 l0_1.length c0_1) := (blk_cell BK582.out 1).trans rfl; have hfz11_0 := blk_frozen BK582.out 0; have hfz11_1 := blk_frozen BK582.out 1; have p587 : 0 ≤ (a1 : Int) := od; have q587 : a1 < (l0_0.length : Int) := od; obtain ⟨ad587, e587, hx587_0⟩ := Kd.at_int HR0_0.out a1 p587 q587; obtain rfl : ad583 = ad587 := (by injection e587); replace hx587_0 := hbx HB hx587_0; replace p587 := eq_true p587; replace q587 := eq_true q587; have p588 : 0 ≤ ((rd l0_0 a1) : Int) := od; have q588 : (rd l0_0 a1) < (l0_1.length : Int) := od; obtain ⟨ad588, e588, hx588_0⟩ := Kd.at_int HR0_1.out (rd l0_0 a1) p588 q588; cases e588; replace hx588_0 := hbx HB hx588_0; replace p588 := eq_true p588; replace q588 := eq_true q588)))
     go_loopg [5, 6] k (fun kq v5 v6 w' => ∃ (x5_1 : List Int) (x6_1 : Int), v6 = .int .i64 x6_1 ∧ Aside0 (spec_meWay.l0 kq a1 x5_1 x6_1 l0_0 l0_1 = some r) ∧ Aside0 (kq ≤ k) ∧ Aside0 (Kd.R (Kd.int .i64) 3 w' w.heap.size (fun _ => True) v5 x5_1) ∧ Aside0 (w'.heap[gb582]? = some (.cells #[(.slice (some ad583) l0_0.length c0_0), (.slice (some ad588) l0_1.length c0_1)] 45 (0, 0))) ∧ Aside0 (Below w.heap.size w w'))
     case atStart => exact ⟨(y584), (rd l0_1 (rd l0_0 a1)), (sr2), H', ⟨Nat.le_refl _⟩, ⟨rR HO586.out⟩, ⟨by (with_reducible repeat (first | refine blk_drewN ?_ _ | refine blk_drew ?_ | refine blk_alloc ?_ _)); exact BK582.out⟩, ⟨bs1 HB.out GE582.out⟩⟩
     case round =>
      clear H'; obtain ⟨x5_1, x6_1, rfl, HA, HK1, HO_5, BK582, HB⟩ := hrel
      cases gk with
      | zero => exact absurd HA.out (by simp [spec_meWay.l0])
      | succ k1 =>
       have H := HA.out; clear HA; simp only [spec_meWay.l0] at H
       by_cases c12 : x6_1 = a1
       ·rw [if_pos c12] at H; have c12b0 := beq_iff_eq.mpr c12; have c12b1 := bne_eq_false_iff_eq.mpr c12; clear c12; obtain rfl := Option.some.inj H; go_wp2
        repeat (go_quiet (fail); try go_wp2)
        go_ret; exact ⟨_, sr, rR HO_5.out, bs1 HB.out GE582.out⟩
       rw [if_neg c12] at H; have c12b0 := beq_eq_false_iff_ne.mpr c12; have c12b1 := bne_iff_ne.mpr c12
       by_cases c13 : 0 ≤ x6_1
       ·rw [if_pos c13] at H; have c13b0 := decide_eq_true c13; clear c13
        by_cases c14 : x6_1 < (l0_0.length : Int)
        ·rw [if_pos c14] at H; have c14b0 := decide_eq_true c14; clear c14; obtain ⟨y590, hy590⟩ := yy (([x6_1, rd l0_0 x6_1] : List Int))
         (try rw [Option.bind_some] at H); (try dsimp only at H); rw [← hy590] at H
         have Ny590 := Aside0.mk hy590; clear hy590
         by_cases c15 : x5_1.length + y590.length < 17592186044416
         ·rw [if_pos c15] at H; have LMc15 := Aside0.mk c15; clear c15; obtain ⟨y593, hy593⟩ := yy (x5_1 ++ y590)
          (try rw [Option.bind_some] at H); (try dsimp only at H); rw [← hy593] at H
          have Ny593 := Aside0.mk hy593; clear hy593
          by_cases c16 : 0 ≤ (rd l0_0 x6_1)
          ·rw [if_pos c16] at H; have c16b0 := decide_eq_true c16; clear c16
           by_cases c17 : (rd l0_0 x6_1) < (l0_1.length : Int)
           ·rw [if_pos c17] at H; have c17b0 := decide_eq_true c17; clear c17; have H' := Aside0.mk H; clear H; have hcz18_0 : wr.cell? ⟨gb582, 0, none⟩ = some (.slice (some ad583) l0_0.length c0_0) := (blk_cell BK582.out 0).trans rfl; have hcz18_1 : wr.cell? ⟨gb582, 1, none⟩ = some (.slice (some ad588) l0_1.length c0_1) := (blk_cell BK582.out 1).trans rfl; have hfz18_0 := blk_frozen BK582.out 0; have hfz18_1 := blk_frozen BK582.out 1; obtain ⟨ad589, e589, hx589_0, p589, q589⟩ := atI HR0_0.out x6_1; obtain rfl : ad583 = ad589 := (by injection e589); replace hx589_0 := hbx HB hx589_0; go_wp2_with (first | ((with_reducible refine gate_dst (N := 42) rfl ?_); refine Kd.R_lit (Kd.int .i64) _ 3 ?hg (N := 42) ?hd (xs := ([x6_1, rd l0_0 x6_1] : List Int)) (inner := [.int .i64 x6_1, .int .i64 (rd l0_0 x6_1)]) (ok := fun _ => True) (okp := fun _ => True) ?hr ?hp (fun _ hk => hk) trivial (Below.refl _ _) (Nat.le_refl _) (by simp) ?_; (case hd => rfl); (case hg => rfl); (case hr => first | (go_simp; done) | (go_simp; rfl)); (case hp => exact (Reps.one (show Kd.M (Kd.int .i64) _ _ _ x6_1 [.int .i64 x6_1] from rfl) (Reps.one (show Kd.M (Kd.int .i64) _ _ _ (rd l0_0 x6_1) [.int .i64 (rd l0_0 x6_1)] from rfl) (Reps.none _ _)))); intro v591 w19 ho20 hb hg_ hnew_; clear hg_ hnew_; (first | rw [← Ny590.out] at ho20 | (simp only [Int.reduceToNat] at ho20; rw [← Ny590.out] at ho20)); have HO592 := Aside0.mk (Kd.R_lower (Kd.R_new' ho20 (Kd.R_lt (rR HO_5.out))) (below_size (bs1 HB.out GE582.out))); replace HO_5 := Aside0.mk (Kd.R_elder' (rR HO_5.out) (Kd.R_base ho20) hb); replace BK582 := bkb BK582 hb; replace HB := Aside0.mk (below_step (bs1 HB.out GE582.out) hb); clear hb ho20; obtain ⟨Ao22, co22, eo22⟩ := Kd.R_slice HO592.out; subst eo22) | ((with_reducible refine gate_builtin (b := .append) (xs := #[.tmp 35, .tmp 42]) rfl ?_); at_builtin; refine Kd.R_append_rows (Kd.int .i64) (w0 := w) w.heap.size rfl (.tmp 35) (.tmp 42) 31 3 (.int .i64 0) 8 rfl Tryz.underlying31 info3 rfl (by decide) (by omega) u5 x5_1 y590 _ _ _ (fun k_ => some k_ ≠ (.slice Ao22 y590.length co22 : Value).ownBlock) (fun _ => False) rfl rfl ?aO ?aR (fun _ _ h => h) (fun _ h => h.elim) ?aF ?aB ?aS (by have := LMc15.out; omega) ?_; (case aR => exact cw ((Kd.R_reads' HO592.out).2.2)); (case aB => exact (bs1 HB.out GE582.out)); (case aF => exact (fun k_ hk => Kd.fresh' (Kd.R_lt (rR HO592.out)) k_ hk)); (case aO => exact (rR (Kd.R_mono HO_5.out (fun _ hk => hk.2)))); (case aS => exact (below_size (bs1 HB.out GE582.out))); intro v594 w21 ho hb hg hat; rw [← Ny593.out] at ho; replace BK582 := Aside0.mk (blk_grown (bk BK582.out) hg (Kd.R_ne HO_5.out BK582.out (by decide))); replace HO592 := Aside0.mk (Kd.R_after (ok := (fun _ => True)) (rR HO592.out) hg hat); replace HB := Aside0.mk (hb); have HO595 := Aside0.mk (ho); clear HO_5; clear ho hb hg hat; have hcz23_0 : w21.cell? ⟨gb582, 0, none⟩ = some (.slice (some ad583) l0_0.length c0_0) := (blk_cell BK582.out 0).trans rfl; have hcz23_1 : w21.cell? ⟨gb582, 1, none⟩ = some (.slice (some ad588) l0_1.length c0_1) := (blk_cell BK582.out 1).trans rfl; have hfz23_0 := blk_frozen BK582.out 0; have hfz23_1 := blk_frozen BK582.out 1; have p596 : 0 ≤ (x6_1 : Int) := od; have q596 : x6_1 < (l0_0.length : Int) := od; obtain ⟨ad596, e596, hx596_0⟩ := Kd.at_int HR0_0.out x6_1 p596 q596; obtain rfl : ad583 = ad596 := (by injection e596); replace hx596_0 := hbx HB hx596_0; replace p596 := eq_true p596; replace q596 := eq_true q596; have p597 : 0 ≤ ((rd l0_0 x6_1) : Int) := od; have q597 : (rd l0_0 x6_1) < (l0_1.length : Int) := od; obtain ⟨ad597, e597, hx597_0⟩ := Kd.at_int HR0_1.out (rd l0_0 x6_1) p597 q597; obtain rfl : ad588 = ad597 := (by injection e597); replace hx597_0 := hbx HB hx597_0; replace p597 := eq_true p597; replace q597 := eq_true q597))
            repeat (go_quiet (first | ((with_reducible refine gate_dst (N := 42) rfl ?_); refine Kd.R_lit (Kd.int .i64) _ 3 ?hg (N := 42) ?hd (xs := ([x6_1, rd l0_0 x6_1] : List Int)) (inner := [.int .i64 x6_1, .int .i64 (rd l0_0 x6_1)]) (ok := fun _ => True) (okp := fun _ => True) ?hr ?hp (fun _ hk => hk) trivial (Below.refl _ _) (Nat.le_refl _) (by simp) ?_; (case hd => rfl); (case hg => rfl); (case hr => first | (go_simp; done) | (go_simp; rfl)); (case hp => exact (Reps.one (show Kd.M (Kd.int .i64) _ _ _ x6_1 [.int .i64 x6_1] from rfl) (Reps.one (show Kd.M (Kd.int .i64) _ _ _ (rd l0_0 x6_1) [.int .i64 (rd l0_0 x6_1)] from rfl) (Reps.none _ _)))); intro v591 w19 ho20 hb hg_ hnew_; clear hg_ hnew_; (first | rw [← Ny590.out] at ho20 | (simp only [Int.reduceToNat] at ho20; rw [← Ny590.out] at ho20)); have HO592 := Aside0.mk (Kd.R_lower (Kd.R_new' ho20 (Kd.R_lt (rR HO_5.out))) (below_size (bs1 HB.out GE582.out))); replace HO_5 := Aside0.mk (Kd.R_elder' (rR HO_5.out) (Kd.R_base ho20) hb); replace BK582 := bkb BK582 hb; replace HB := Aside0.mk (below_step (bs1 HB.out GE582.out) hb); clear hb ho20; obtain ⟨Ao22, co22, eo22⟩ := Kd.R_slice HO592.out; subst eo22) | ((with_reducible refine gate_builtin (b := .append) (xs := #[.tmp 35, .tmp 42]) rfl ?_); at_builtin; refine Kd.R_append_rows (Kd.int .i64) (w0 := w) w.heap.size rfl (.tmp 35) (.tmp 42) 31 3 (.int .i64 0) 8 rfl Tryz.underlying31 info3 rfl (by decide) (by omega) u5 x5_1 y590 _ _ _ (fun k_ => some k_ ≠ (.slice Ao22 y590.length co22 : Value).ownBlock) (fun _ => False) rfl rfl ?aO ?aR (fun _ _ h => h) (fun _ h => h.elim) ?aF ?aB ?aS (by have := LMc15.out; omega) ?_; (case aR => exact cw ((Kd.R_reads' HO592.out).2.2)); (case aB => exact (bs1 HB.out GE582.out)); (case aF => exact (fun k_ hk => Kd.fresh' (Kd.R_lt (rR HO592.out)) k_ hk)); (case aO => exact (rR (Kd.R_mono HO_5.out (fun _ hk => hk.2)))); (case aS => exact (below_size (bs1 HB.out GE582.out))); intro v594 w21 ho hb hg hat; rw [← Ny593.out] at ho; replace BK582 := Aside0.mk (blk_grown (bk BK582.out) hg (Kd.R_ne HO_5.out BK582.out (by decide))); replace HO592 := Aside0.mk (Kd.R_after (ok := (fun _ => True)) (rR HO592.out) hg hat); replace HB := Aside0.mk (hb); have HO595 := Aside0.mk (ho); clear HO_5; clear ho hb hg hat; have hcz23_0 : w21.cell? ⟨gb582, 0, none⟩ = some (.slice (some ad583) l0_0.length c0_0) := (blk_cell BK582.out 0).trans rfl; have hcz23_1 : w21.cell? ⟨gb582, 1, none⟩ = some (.slice (some ad588) l0_1.length c0_1) := (blk_cell BK582.out 1).trans rfl; have hfz23_0 := blk_frozen BK582.out 0; have hfz23_1 := blk_frozen BK582.out 1; have p596 : 0 ≤ (x6_1 : Int) := od; have q596 : x6_1 < (l0_0.length : Int) := od; obtain ⟨ad596, e596, hx596_0⟩ := Kd.at_int HR0_0.out x6_1 p596 q596; obtain rfl : ad583 = ad596 := (by injection e596); replace hx596_0 := hbx HB hx596_0; replace p596 := eq_true p596; replace q596 := eq_true q596; have p597 : 0 ≤ ((rd l0_0 x6_1) : Int) := od; have q597 : (rd l0_0 x6_1) < (l0_1.length : Int) := od; obtain ⟨ad597, e597, hx597_0⟩ := Kd.at_int HR0_1.out (rd l0_0 x6_1) p597 q597; obtain rfl : ad588 = ad597 := (by injection e597); replace hx597_0 := hbx HB hx597_0; replace p597 := eq_true p597; replace q597 := eq_true q597)); try go_wp2_with (first | ((with_reducible refine gate_dst (N := 42) rfl ?_); refine Kd.R_lit (Kd.int .i64) _ 3 ?hg (N := 42) ?hd (xs := ([x6_1, rd l0_0 x6_1] : List Int)) (inner := [.int .i64 x6_1, .int .i64 (rd l0_0 x6_1)]) (ok := fun _ => True) (okp := fun _ => True) ?hr ?hp (fun _ hk => hk) trivial (Below.refl _ _) (Nat.le_refl _) (by simp) ?_; (case hd => rfl); (case hg => rfl); (case hr => first | (go_simp; done) | (go_simp; rfl)); (case hp => exact (Reps.one (show Kd.M (Kd.int .i64) _ _ _ x6_1 [.int .i64 x6_1] from rfl) (Reps.one (show Kd.M (Kd.int .i64) _ _ _ (rd l0_0 x6_1) [.int .i64 (rd l0_0 x6_1)] from rfl) (Reps.none _ _)))); intro v591 w19 ho20 hb hg_ hnew_; clear hg_ hnew_; (first | rw [← Ny590.out] at ho20 | (simp only [Int.reduceToNat] at ho20; rw [← Ny590.out] at ho20)); have HO592 := Aside0.mk (Kd.R_lower (Kd.R_new' ho20 (Kd.R_lt (rR HO_5.out))) (below_size (bs1 HB.out GE582.out))); replace HO_5 := Aside0.mk (Kd.R_elder' (rR HO_5.out) (Kd.R_base ho20) hb); replace BK582 := bkb BK582 hb; replace HB := Aside0.mk (below_step (bs1 HB.out GE582.out) hb); clear hb ho20; obtain ⟨Ao22, co22, eo22⟩ := Kd.R_slice HO592.out; subst eo22) | ((with_reducible refine gate_builtin (b := .append) (xs := #[.tmp 35, .tmp 42]) rfl ?_); at_builtin; refine Kd.R_append_rows (Kd.int .i64) (w0 := w) w.heap.size rfl (.tmp 35) (.tmp 42) 31 3 (.int .i64 0) 8 rfl Tryz.underlying31 info3 rfl (by decide) (by omega) u5 x5_1 y590 _ _ _ (fun k_ => some k_ ≠ (.slice Ao22 y590.length co22 : Value).ownBlock) (fun _ => False) rfl rfl ?aO ?aR (fun _ _ h => h) (fun _ h => h.elim) ?aF ?aB ?aS (by have := LMc15.out; omega) ?_; (case aR => exact cw ((Kd.R_reads' HO592.out).2.2)); (case aB => exact (bs1 HB.out GE582.out)); (case aF => exact (fun k_ hk => Kd.fresh' (Kd.R_lt (rR HO592.out)) k_ hk)); (case aO => exact (rR (Kd.R_mono HO_5.out (fun _ hk => hk.2)))); (case aS => exact (below_size (bs1 HB.out GE582.out))); intro v594 w21 ho hb hg hat; rw [← Ny593.out] at ho; replace BK582 := Aside0.mk (blk_grown (bk BK582.out) hg (Kd.R_ne HO_5.out BK582.out (by decide))); replace HO592 := Aside0.mk (Kd.R_after (ok := (fun _ => True)) (rR HO592.out) hg hat); replace HB := Aside0.mk (hb); have HO595 := Aside0.mk (ho); clear HO_5; clear ho hb hg hat; have hcz23_0 : w21.cell? ⟨gb582, 0, none⟩ = some (.slice (some ad583) l0_0.length c0_0) := (blk_cell BK582.out 0).trans rfl; have hcz23_1 : w21.cell? ⟨gb582, 1, none⟩ = some (.slice (some ad588) l0_1.length c0_1) := (blk_cell BK582.out 1).trans rfl; have hfz23_0 := blk_frozen BK582.out 0; have hfz23_1 := blk_frozen BK582.out 1; have p596 : 0 ≤ (x6_1 : Int) := od; have q596 : x6_1 < (l0_0.length : Int) := od; obtain ⟨ad596, e596, hx596_0⟩ := Kd.at_int HR0_0.out x6_1 p596 q596; obtain rfl : ad583 = ad596 := (by injection e596); replace hx596_0 := hbx HB hx596_0; replace p596 := eq_true p596; replace q596 := eq_true q596; have p597 : 0 ≤ ((rd l0_0 x6_1) : Int) := od; have q597 : (rd l0_0 x6_1) < (l0_1.length : Int) := od; obtain ⟨ad597, e597, hx597_0⟩ := Kd.at_int HR0_1.out (rd l0_0 x6_1) p597 q597; obtain rfl : ad588 = ad597 := (by injection e597); replace hx597_0 := hbx HB hx597_0; replace p597 := eq_true p597; replace q597 := eq_true q597)))
            go_roundg k1
            case measure => have := HK1.out; omega
            case rel => exact ⟨(y593), (rd l0_1 (rd l0_0 x6_1)), (sr2), H', ⟨by have := HK1.out; omega⟩, ⟨rR (Kd.R_mono HO595.out (fun _ hk => trivial))⟩, ⟨by (with_reducible repeat (first | refine blk_drewN ?_ _ | refine blk_drew ?_ | refine blk_alloc ?_ _)); exact BK582.out⟩, ⟨bs1 HB.out GE582.out⟩⟩
           rw [if_neg c17] at H; exact absurd H (by simp)
          rw [if_neg c16] at H; exact absurd H (by simp)
         rw [if_neg c15] at H; exact absurd H (by simp)
        rw [if_neg c14] at H; exact absurd H (by simp)
       rw [if_neg c13] at H; exact absurd H (by simp)
    rw [if_neg c6] at H; exact absurd H (by simp)
   rw [if_neg c5] at H; exact absurd H (by simp)
  rw [if_neg c4] at H; exact absurd H (by simp)
 rw [if_neg c3] at H; exact absurd H (by simp)
/-! ### spec_meColours: function 118 -/
mutual
def spec_meColours.l0 : Nat → List Int → Int → Int → List Int → List Int → Option (List Int)
 | 0, _, _, _, _, _ => none
 | k + 1, x3, x14, x15, x599000, x599001 => if x15 < x14 then (if 0 ≤ x15 then (if x15 < (x3.length : Int) then (spec_meColours.l0 k (x3.set (x15 : Int).toNat (-1)) x14 (wrap64 (x15 + 1)) x599000 x599001) else (none)) else (none)) else (spec_meColours.l1 k x3 0 (x3.length : Int) 0 x599000 x599001)
def spec_meColours.l1 : Nat → List Int → Int → Int → Int → List Int → List Int → Option (List Int)
 | 0, _, _, _, _, _, _ => none
 | k + 1, x3, x5, x23, x24, x599000, x599001 => if x24 < x23 then (if 0 ≤ x24 then (if x24 < (x3.length : Int) then (if (rd x3 x24) ≥ 0 then (spec_meColours.l1 k x3 x5 x23 (wrap64 (x24 + 1)) x599000 x599001) else ((spec_meWay.f k x599000 x599001 x24).bind fun t604 => (spec_meColours.l2 k x3 x5 x23 x24 t604 (t604.length : Int) 0 x599000 x599001))) else (none)) else (none)) else (some x3)
def spec_meColours.l2 : Nat → List Int → Int → Int → Int → List Int → Int → Int → List Int → List Int → Option (List Int)
 | 0, _, _, _, _, _, _, _, _, _ => none
 | k + 1, x3, x5, x23, x24, x34, x35, x36, x599000, x599001 => if x36 < x35 then (if 0 ≤ x36 then (if x36 < (x34.length : Int) then (if 0 ≤ (rd x34 x36) then (if (rd x34 x36) < (x3.length : Int) then (spec_meColours.l2 k (x3.set ((rd x34 x36) : Int).toNat x5) x5 x23 x24 x34 x35 (wrap64 (x36 + 1)) x599000 x599001) else (none)) else (none)) else (none)) else (none)) else (spec_meColours.l1 k x3 (wrap64 (x5 + 1)) x23 (wrap64 (x24 + 1)) x599000 x599001)
end
def spec_meColours.f (k : Nat) (l0_0 : List Int) (l0_1 : List Int) : Option (List Int) := if 0 ≤ (l0_0.length : Int) then (if ((l0_0.length : Int) : Int).toNat ≤ 35184372088832 then ((some (List.replicate ((l0_0.length : Int) : Int).toNat 0 : List Int)).bind fun y599 => (spec_meColours.l0 k y599 (y599.length : Int) 0 l0_0 l0_1)) else (none)) else (none)
theorem spec_meColours.mono_l : ∀ k, (∀ y0 y1 y2 y3 y4, LeO (spec_meColours.l0 k y0 y1 y2 y3 y4) (spec_meColours.l0 (k + 1) y0 y1 y2 y3 y4)) ∧ (∀ y0 y1 y2 y3 y4 y5, LeO (spec_meColours.l1 k y0 y1 y2 y3 y4 y5) (spec_meColours.l1 (k + 1) y0 y1 y2 y3 y4 y5)) ∧ (∀ y0 y1 y2 y3 y4 y5 y6 y7 y8, LeO (spec_meColours.l2 k y0 y1 y2 y3 y4 y5 y6 y7 y8) (spec_meColours.l2 (k + 1) y0 y1 y2 y3 y4 y5 y6 y7 y8))
 | 0 => ⟨fun _ _ _ _ _ r h => by simp [spec_meColours.l0] at h, fun _ _ _ _ _ _ r h => by simp [spec_meColours.l1] at h, fun _ _ _ _ _ _ _ _ _ r h => by simp [spec_meColours.l2] at h⟩
 | k + 1 => by
  obtain ⟨ih0, ih1, ih2⟩ := spec_meColours.mono_l k
  refine ⟨?_, ?_, ?_⟩
  ·intro y0 y1 y2 y3 y4
   unfold spec_meColours.l0
   repeat' first
   | (with_reducible exact ih0 _ _ _ _ _)
   | (with_reducible exact ih1 _ _ _ _ _ _)
   | (with_reducible exact ih2 _ _ _ _ _ _ _ _ _)
   | (with_reducible exact spec_meWay.mono _ _ _ _)
   | (with_reducible exact LeO.refl _)
   | (with_reducible exact LeO.none _)
   | (with_reducible refine LeO.ite ?_ ?_)
   | (with_reducible refine LeO.bind ?_ (fun _ => ?_))
   | exact ih0 _ _ _ _ _
   | exact ih1 _ _ _ _ _ _
   | exact ih2 _ _ _ _ _ _ _ _ _
   | exact spec_meWay.mono _ _ _ _
   | exact LeO.none _
   | refine LeO.ite ?_ ?_
   | refine LeO.bind ?_ (fun _ => ?_)
  ·intro y0 y1 y2 y3 y4 y5
   unfold spec_meColours.l1
   repeat' first
   | (with_reducible exact ih0 _ _ _ _ _)
   | (with_reducible exact ih1 _ _ _ _ _ _)
   | (with_reducible exact ih2 _ _ _ _ _ _ _ _ _)
   | (with_reducible exact spec_meWay.mono _ _ _ _)
   | (with_reducible exact LeO.refl _)
   | (with_reducible exact LeO.none _)
   | (with_reducible refine LeO.ite ?_ ?_)
   | (with_reducible refine LeO.bind ?_ (fun _ => ?_))
   | exact ih0 _ _ _ _ _
   | exact ih1 _ _ _ _ _ _
   | exact ih2 _ _ _ _ _ _ _ _ _
   | exact spec_meWay.mono _ _ _ _
   | exact LeO.none _
   | refine LeO.ite ?_ ?_
   | refine LeO.bind ?_ (fun _ => ?_)
  ·intro y0 y1 y2 y3 y4 y5 y6 y7 y8
   unfold spec_meColours.l2
   repeat' first
   | (with_reducible exact ih0 _ _ _ _ _)
   | (with_reducible exact ih1 _ _ _ _ _ _)
   | (with_reducible exact ih2 _ _ _ _ _ _ _ _ _)
   | (with_reducible exact spec_meWay.mono _ _ _ _)
   | (with_reducible exact LeO.refl _)
   | (with_reducible exact LeO.none _)
   | (with_reducible refine LeO.ite ?_ ?_)
   | (with_reducible refine LeO.bind ?_ (fun _ => ?_))
   | exact ih0 _ _ _ _ _
   | exact ih1 _ _ _ _ _ _
   | exact ih2 _ _ _ _ _ _ _ _ _
   | exact spec_meWay.mono _ _ _ _
   | exact LeO.none _
   | refine LeO.ite ?_ ?_
   | refine LeO.bind ?_ (fun _ => ?_)
theorem spec_meColours.mono : ∀ a0 a1 k, LeO (spec_meColours.f k a0 a1) (spec_meColours.f (k + 1) a0 a1) := by
 intro a0 a1 k; obtain ⟨ih0, ih1, ih2⟩ := spec_meColours.mono_l k; unfold spec_meColours.f
 repeat' first
   | (with_reducible exact ih0 _ _ _ _ _)
   | (with_reducible exact ih1 _ _ _ _ _ _)
   | (with_reducible exact ih2 _ _ _ _ _ _ _ _ _)
   | (with_reducible exact spec_meWay.mono _ _ _ _)
   | (with_reducible exact LeO.refl _)
   | (with_reducible exact LeO.none _)
   | (with_reducible refine LeO.ite ?_ ?_)
   | (with_reducible refine LeO.bind ?_ (fun _ => ?_))
   | exact ih0 _ _ _ _ _
   | exact ih1 _ _ _ _ _ _
   | exact ih2 _ _ _ _ _ _ _ _ _
   | exact spec_meWay.mono _ _ _ _
   | exact LeO.none _
   | refine LeO.ite ?_ ?_
   | refine LeO.bind ?_ (fun _ => ?_)
theorem spec_meColours.calls (k : Nat) (A0_0 : Option Addr) (c0_0 : Nat) (l0_0 : List Int) (A0_1 : Option Addr) (c0_1 : Nat) (l0_1 : List Int) (r : List Int) (w : World) (hr0_0 : Kd.C (Kd.int .i64) w A0_0 l0_0.length l0_0) (hc0_0 : l0_0.length ≤ c0_0) (hr0_1 : Kd.C (Kd.int .i64) w A0_1 l0_1.length l0_1) (hc0_1 : l0_1.length ≤ c0_1) (h : spec_meColours.f k l0_0 l0_1 = some r) :
  Calls Tryz.prog 118 #[.agg #[.slice A0_0 l0_0.length c0_0, .slice A0_1 l0_1.length c0_1]] w fun e w' => ∃ v0_ : Value, e = .returned (v0_) ∧ Kd.R (Kd.int .i64) 3 w' w.heap.size (fun _ => True) v0_ r ∧ Below w.heap.size w w' := by
 have hu45 := Tryz.underlying45; have HR0_0 := Aside0.mk hr0_0; have HC0_0 := Aside0.mk hc0_0; clear hr0_0 hc0_0; have HR0_1 := Aside0.mk hr0_1; have HC0_1 := Aside0.mk hc0_1; clear hr0_1 hc0_1; have HB := Aside0.mk (Below.refl w.heap.size w); have H : (if 0 ≤ (l0_0.length : Int) then (if ((l0_0.length : Int) : Int).toNat ≤ 35184372088832 then ((some (List.replicate ((l0_0.length : Int) : Int).toNat 0 : List Int)).bind fun y599 => (spec_meColours.l0 k y599 (y599.length : Int) 0 l0_0 l0_1)) else (none)) else (none)) = some r := h; clear h
 by_cases c2 : 0 ≤ (l0_0.length : Int)
 ·rw [if_pos c2] at H; have c2b0 := eq_true c2; have c2b1 := decide_eq_true c2; clear c2
  by_cases c3 : ((l0_0.length : Int) : Int).toNat ≤ 35184372088832
  ·rw [if_pos c3] at H
   have c3b0 := eq_true c3
   have c3b1 : decide (((l0_0.length : Int) : Int).toNat ≤ 35184372088832) = true := decide_eq_true c3
   clear c3
   obtain ⟨y599, hy599⟩ : ∃ y_ : List Int, y_ = (List.replicate ((l0_0.length : Int) : Int).toNat 0) := ⟨_, rfl⟩
   (try rw [Option.bind_some] at H); (try dsimp only at H); rw [← hy599] at H
   have Ny599 := Aside0.mk hy599; clear hy599; have H' := Aside0.mk H; clear H; go_enter Tryz.func118, Tryz.ntmps118; go_wp2_with (first | ((with_reducible refine gate_dst (N := 1) rfl ?_); refine box_event ?hg (N := 1) ?hd (cs := #[.slice A0_0 l0_0.length c0_0, .slice A0_1 l0_1.length c0_1]) (t := 45) ?hr ?_; (case hd => rfl); (case hg => rfl); (case hr => first | (go_simp; done) | (go_simp; rfl)); intro gb598 hg w4 hbox hb; have BK598 := Aside0.mk (hbox); have GW598 := Aside0.mk ((by rw [hg]; exact (below_size (bl HB.out)) : w.heap.size ≤ gb598)); have GE598 := Aside0.mk ((by rw [hg]; exact (below_size (bl HB.out)) : w.heap.size ≤ gb598)); replace HB := bst HB hb; clear hb hbox hg; have hcz5_0 : w4.cell? ⟨gb598, 0, none⟩ = some (.slice A0_0 l0_0.length c0_0) := (blk_cell BK598.out 0).trans rfl; have hcz5_1 : w4.cell? ⟨gb598, 1, none⟩ = some (.slice A0_1 l0_1.length c0_1) := (blk_cell BK598.out 1).trans rfl; have hfz5_0 := blk_frozen BK598.out 0; have hfz5_1 := blk_frozen BK598.out 1) | ((with_reducible refine gate_dst (N := 12) rfl ?_); refine Kd.R_make (Kd.int .i64) _ 3 rfl (N := 12) rfl 31 _ _ rfl (l0_0.length : Int) rfl rfl Tryz.underlying31 (.int .i64 0) 8 info3 rfl (by decide) (by omega) 0 (ok := fun _ => True) (okp := fun _ => True) rfl (fun _ hk => hk) trivial (od) (Nat.le_trans (Nat.mul_le_mul_right _ (od : (l0_0.length : Int).toNat ≤ 35184372088832)) (by omega)) (Below.refl _ _) (Nat.le_refl _) ?_; intro v600 w6 ho7 hb hg_ hnew_; clear hg_ hnew_; (first | rw [← Ny599.out] at ho7 | (simp only [Int.reduceToNat] at ho7; rw [← Ny599.out] at ho7)); have HO601 := Aside0.mk (Kd.R_lower ho7 (below_size (bs1 HB.out GE598.out))); replace BK598 := bkb BK598 hb; replace HB := Aside0.mk (below_step (bs1 HB.out GE598.out) hb); clear hb ho7; obtain ⟨Ao8, co8, eo8⟩ := Kd.R_slice HO601.out; subst eo8))
   go_loopg [15] k (fun kq v15 w' => ∃ (x3_1 : List Int) (x15_1 : Int), v15 = .int .i64 x15_1 ∧ Aside0 (spec_meColours.l0 kq x3_1 (y599.length : Int) x15_1 l0_0 l0_1 = some r) ∧ Aside0 (kq ≤ k) ∧ Aside0 (Kd.R (Kd.int .i64) 3 w' w.heap.size (fun _ => True) (.slice Ao8 y599.length co8) x3_1) ∧ Aside0 (w'.heap[gb598]? = some (.cells #[(.slice A0_0 l0_0.length c0_0), (.slice A0_1 l0_1.length c0_1)] 45 (0, 0))) ∧ Aside0 (Below w.heap.size w w'))
   case atStart => exact ⟨(y599), (0), (sr2), H', ⟨Nat.le_refl _⟩, ⟨rR HO601.out⟩, ⟨by (with_reducible repeat (first | refine blk_drewN ?_ _ | refine blk_drew ?_ | refine blk_alloc ?_ _)); exact BK598.out⟩, ⟨bs1 HB.out GE598.out⟩⟩
   case round =>
    clear H'; obtain ⟨x3_1, x15_1, rfl, HA, HK1, HO_3, BK598, HB⟩ := hrel; have hl3_1 := (Kd.R_reads' HO_3.out).1; rw [hl3_1] at HO_3; (try simp only [hl3_1]); (try simp only [hl3_1] at BK598)
    cases gk with
    | zero => exact absurd HA.out (by simp [spec_meColours.l0])
    | succ k1 =>
     have H := HA.out; clear HA; simp only [spec_meColours.l0] at H
     by_cases c9 : x15_1 < (y599.length : Int)
     ·rw [if_pos c9] at H; have c9b0 := decide_eq_true c9; clear c9; (try simp only [hl3_1] at c9b0)
      by_cases c10 : 0 ≤ x15_1
      ·rw [if_pos c10] at H; have c10b0 := decide_eq_true c10; clear c10; (try simp only [hl3_1] at c10b0)
       by_cases c11 : x15_1 < (x3_1.length : Int)
       ·rw [if_pos c11] at H; have c11b0 := decide_eq_true c11; clear c11; (try simp only [hl3_1] at c11b0); obtain ⟨y602, hy602⟩ := yy (x3_1.set (x15_1 : Int).toNat (-1))
        (try rw [Option.bind_some] at H); (try dsimp only at H); rw [← hy602] at H
        have Ny602 := Aside0.mk hy602; clear hy602; have H' := Aside0.mk H; clear H; have p12 : 0 ≤ (x15_1 : Int) := od; have q12 : (x15_1 : Int) < ((x3_1.length : Int) : Int) := od; obtain ⟨go12, co12, eo12, gb12, gl12, cl12, HG12⟩ := Kd.R_form HO_3.out (by omega); (first | cases eo12 | (injection eo12 with ea_ en_ ec_; (first | subst ea_ | (injection ea_ with ea_; subst ea_)); subst ec_; clear en_)); have GB12 := Aside0.mk gb12; have GG12 := Aside0.mk HG12; clear gb12 gl12 HG12; obtain ⟨hx12_0, hf12_0⟩ := Kd.R_celln 0 HO_3.out (x15_1 : Int) p12 q12; replace p12 := eq_true p12; replace q12 := eq_true q12; have HP13 := Kd.R_putg HO_3.out (x15_1 : Int) (-1); go_wp2_with (first | ((with_reducible refine gate_store (t := 3) (p := 20) rfl ?_); refine store_event (t := 3) (p := 20) (v := ?vo_w14) (w1 := (wr.setCell ⟨go12, (x15_1 : Int).toNat, none⟩ (.int .i64 (-1)))) ?hg ?ho ?hn ?hr ?_; (case ho => rfl); (case hg => rfl); (case hn => rfl); (case hr => first | (go_simp; done) | (go_simp; rfl)); intro w14 hw; have hg : wr.grownBy w14 (some go12) := (by rw [hw]; exact HP13.2); have hp_ : Kd.R (Kd.int .i64) 3 w14 w.heap.size (fun _ => True) (.slice (some ⟨go12, 0, none⟩) x3_1.length co8) y602 := (by rw [hw, Ny602.out]; exact HP13.1); clear HP13; replace BK598 := Aside0.mk (blk_grown (bk BK598.out) hg (Kd.R_ne HO_3.out BK598.out (by decide))); replace HO_3 := Aside0.mk (hp_); replace HB := Aside0.mk ((by rw [hw]; exact below_set (HB.out) GB12.out : Below w.heap.size w w14)); clear hg hw hp_)); (try simp only [← hl3_1])
        go_roundg k1
        case measure => have := HK1.out; omega
        case rel => exact ⟨(y602), (wrap64 (x15_1 + 1)), (sr2), H', ⟨by have := HK1.out; omega⟩, ⟨by (try simp only [hl3_1]); (with_reducible repeat (first | apply Kd.R_alloc | apply Kd.R_drewN | apply Kd.R_drew)); exact HO_3.out⟩, ⟨by (try simp only [hl3_1]); (with_reducible repeat (first | refine blk_drewN ?_ _ | refine blk_drew ?_ | refine blk_alloc ?_ _)); exact BK598.out⟩, ⟨bs1 HB.out GE598.out⟩⟩
       rw [if_neg c11] at H; exact absurd H (by simp)
      rw [if_neg c10] at H; exact absurd H (by simp)
     rw [if_neg c9] at H; have c9b0 := decide_eq_false c9; clear c9; (try simp only [hl3_1] at c9b0); have H' := Aside0.mk H; clear H; go_wp2
     go_loopg [5, 24] k1 (fun kq v5 v24 w' => ∃ (x3_2 : List Int) (x5_2 : Int) (x24_2 : Int), v5 = .int .i64 x5_2 ∧ v24 = .int .i64 x24_2 ∧ Aside0 (spec_meColours.l1 kq x3_2 x5_2 (x3_1.length : Int) x24_2 l0_0 l0_1 = some r) ∧ Aside0 (kq ≤ k1) ∧ Aside0 (Kd.R (Kd.int .i64) 3 w' w.heap.size (fun _ => True) (.slice Ao8 x3_1.length co8) x3_2) ∧ Aside0 (w'.heap[gb598]? = some (.cells #[(.slice A0_0 l0_0.length c0_0), (.slice A0_1 l0_1.length c0_1)] 45 (0, 0))) ∧ Aside0 (Below w.heap.size w w'))
     case atStart => exact ⟨(x3_1), (0), (0), (sr2), (sr2), H', ⟨Nat.le_refl _⟩, ⟨by (try simp only [hl3_1]); (with_reducible repeat (first | apply Kd.R_alloc | apply Kd.R_drewN | apply Kd.R_drew)); exact HO_3.out⟩, ⟨by (try simp only [hl3_1]); (with_reducible repeat (first | refine blk_drewN ?_ _ | refine blk_drew ?_ | refine blk_alloc ?_ _)); exact BK598.out⟩, ⟨bs1 HB.out GE598.out⟩⟩
     case round =>
      clear H'; obtain ⟨x3_2, x5_2, x24_2, rfl, rfl, HA, HK2, HO_3, BK598, HB⟩ := hrel; have hl3_2 := (Kd.R_reads' HO_3.out).1; rw [hl3_2] at HO_3; (try simp only [hl3_2]); (try simp only [hl3_2] at BK598)
      cases gk with
      | zero => exact absurd HA.out (by simp [spec_meColours.l1])
      | succ k2 =>
       have H := HA.out; clear HA; simp only [spec_meColours.l1] at H
       by_cases c15 : x24_2 < (x3_1.length : Int)
       ·rw [if_pos c15] at H; have c15b0 := decide_eq_true c15; clear c15; (try simp only [hl3_1, hl3_2] at c15b0)
        by_cases c16 : 0 ≤ x24_2
        ·rw [if_pos c16] at H; have c16b0 := decide_eq_true c16; clear c16; (try simp only [hl3_1, hl3_2] at c16b0)
         by_cases c17 : x24_2 < (x3_2.length : Int)
         ·rw [if_pos c17] at H; have c17b0 := decide_eq_true c17; clear c17; (try simp only [hl3_1, hl3_2] at c17b0)
          by_cases c18 : (rd x3_2 x24_2) ≥ 0
          ·rw [if_pos c18] at H; have c18b0 := decide_eq_true c18; clear c18; (try simp only [hl3_1, hl3_2] at c18b0); have H' := Aside0.mk H; clear H; obtain ⟨ad603, e603, hx603_0, p603, q603⟩ := atI (Kd.R_reads' HO_3.out).2.2 x24_2; cases e603; go_wp2; (try simp only [← hl3_2])
           go_roundg k2
           case measure => have := HK1.out; have := HK2.out; omega
           case rel => exact ⟨(x3_2), (x5_2), (wrap64 (x24_2 + 1)), (sr2), (sr2), H', ⟨by have := HK1.out; have := HK2.out; omega⟩, ⟨by (try simp only [hl3_1]); (try simp only [hl3_2]); (with_reducible repeat (first | apply Kd.R_alloc | apply Kd.R_drewN | apply Kd.R_drew)); exact HO_3.out⟩, ⟨by (try simp only [hl3_1]); (try simp only [hl3_2]); (with_reducible repeat (first | refine blk_drewN ?_ _ | refine blk_drew ?_ | refine blk_alloc ?_ _)); exact BK598.out⟩, ⟨bs1 HB.out GE598.out⟩⟩
          rw [if_neg c18] at H; have c18b0 := decide_eq_false c18; clear c18; (try simp only [hl3_1, hl3_2] at c18b0); obtain ⟨t604, A19, H⟩ := bi H; (try dsimp only at H); have H' := Aside0.mk H; clear H; obtain ⟨ad603, e603, hx603_0, p603, q603⟩ := atI (Kd.R_reads' HO_3.out).2.2 x24_2; cases e603; have hcz20_0 : wr.cell? ⟨gb598, 0, none⟩ = some (.slice A0_0 l0_0.length c0_0) := (blk_cell BK598.out 0).trans rfl; have hcz20_1 : wr.cell? ⟨gb598, 1, none⟩ = some (.slice A0_1 l0_1.length c0_1) := (blk_cell BK598.out 1).trans rfl; have hfz20_0 := blk_frozen BK598.out 0; have hfz20_1 := blk_frozen BK598.out 1; go_wp2_with (first | (go_at_call 139; (with_reducible refine (spec_meWay.calls k2 _ _ l0_0 _ _ l0_1 x24_2 t604 _ ?side1 ?side2 ?side3 HC0_1.out A19.out).mono ?_); (case side1 => exact cw (Kd.C_below HR0_0.out HB.out)); (case side2 => exact HC0_0.out); (case side3 => exact cw (Kd.C_below HR0_1.out HB.out)); rintro e w21 ⟨v605, rfl, ho0, hb⟩; have HO606 := Aside0.mk (Kd.R_lower (Kd.R_new' ho0 (Kd.R_lt (rR HO_3.out))) (below_size (bs1 HB.out GE598.out))); replace HO_3 := Aside0.mk (Kd.R_elder' (rR HO_3.out) (Kd.R_base ho0) hb); replace BK598 := bkb BK598 hb; replace HB := Aside0.mk (below_step (bs1 HB.out GE598.out) hb); obtain ⟨Ao22, co22, eo22⟩ := Kd.R_slice HO606.out; subst eo22))
          go_loopg [36] k2 (fun kq v36 w' => ∃ (x3_3 : List Int) (x36_3 : Int), v36 = .int .i64 x36_3 ∧ Aside0 (spec_meColours.l2 kq x3_3 x5_2 (x3_1.length : Int) x24_2 t604 (t604.length : Int) x36_3 l0_0 l0_1 = some r) ∧ Aside0 (kq ≤ k2) ∧ Aside0 (Kd.R (Kd.int .i64) 3 w' w.heap.size (fun k_ => some k_ ≠ ((.slice Ao22 t604.length co22) : Value).ownBlock) (.slice (some ad603) x3_2.length co8) x3_3) ∧ Aside0 (Kd.R (Kd.int .i64) 3 w' w.heap.size (fun k_ => some k_ ≠ ((.slice (some ad603) x3_2.length co8) : Value).ownBlock) (.slice Ao22 t604.length co22) t604) ∧ Aside0 (w'.heap[gb598]? = some (.cells #[(.slice A0_0 l0_0.length c0_0), (.slice A0_1 l0_1.length c0_1)] 45 (0, 0))) ∧ Aside0 (Below w.heap.size w w'))
          case atStart => exact ⟨(x3_2), (0), (sr2), H', ⟨Nat.le_refl _⟩, ⟨by (try simp only [hl3_1]); (try simp only [hl3_2]); (with_reducible repeat (first | apply Kd.R_alloc | apply Kd.R_drewN | apply Kd.R_drew)); exact Kd.R_mono HO_3.out (fun _ hk => hk.2)⟩, ⟨by (try simp only [hl3_1]); (try simp only [hl3_2]); (with_reducible repeat (first | apply Kd.R_alloc | apply Kd.R_drewN | apply Kd.R_drew)); exact Kd.R_mono HO606.out (fun _ hk => hk.2)⟩, ⟨by (try simp only [hl3_1]); (try simp only [hl3_2]); (with_reducible repeat (first | refine blk_drewN ?_ _ | refine blk_drew ?_ | refine blk_alloc ?_ _)); exact BK598.out⟩, ⟨bs1 HB.out GE598.out⟩⟩
          case round =>
           clear H'; obtain ⟨x3_3, x36_3, rfl, HA, HK3, HO_3, HO_34, BK598, HB⟩ := hrel; have hl3_3 := (Kd.R_reads' HO_3.out).1; rw [hl3_3] at HO_3; (try simp only [hl3_3]); (try simp only [hl3_3] at BK598); (try simp only [hl3_3] at HO_34)
           cases gk with
           | zero => exact absurd HA.out (by simp [spec_meColours.l2])
           | succ k3 =>
            have H := HA.out; clear HA; simp only [spec_meColours.l2] at H
            by_cases c23 : x36_3 < (t604.length : Int)
            ·rw [if_pos c23] at H; have c23b0 := decide_eq_true c23; clear c23; (try simp only [hl3_1, hl3_2, hl3_3] at c23b0)
             by_cases c24 : 0 ≤ x36_3
             ·rw [if_pos c24] at H; have c24b0 := decide_eq_true c24; clear c24; (try simp only [hl3_1, hl3_2, hl3_3] at c24b0)
              by_cases c25 : x36_3 < (t604.length : Int)
              ·rw [if_pos c25] at H; have c25b0 := decide_eq_true c25; clear c25; (try simp only [hl3_1, hl3_2, hl3_3] at c25b0)
               by_cases c26 : 0 ≤ (rd t604 x36_3)
               ·rw [if_pos c26] at H; have c26b0 := decide_eq_true c26; clear c26; (try simp only [hl3_1, hl3_2, hl3_3] at c26b0)
                by_cases c27 : (rd t604 x36_3) < (x3_3.length : Int)
                ·rw [if_pos c27] at H; have c27b0 := decide_eq_true c27; clear c27; (try simp only [hl3_1, hl3_2, hl3_3] at c27b0); obtain ⟨y608, hy608⟩ := yy (x3_3.set ((rd t604 x36_3) : Int).toNat x5_2)
                 (try rw [Option.bind_some] at H); (try dsimp only at H); rw [← hy608] at H
                 have Ny608 := Aside0.mk hy608; clear hy608; have H' := Aside0.mk H; clear H; obtain ⟨ad607, e607, hx607_0, p607, q607⟩ := atI (Kd.R_reads' HO_34.out).2.2 x36_3; cases e607; have p28 : 0 ≤ ((rd t604 x36_3) : Int) := od; have q28 : ((rd t604 x36_3) : Int) < ((x3_3.length : Int) : Int) := od; obtain ⟨go28, co28, eo28, gb28, gl28, cl28, HG28⟩ := Kd.R_form HO_3.out (by omega); (first | cases eo28 | (injection eo28 with ea_ en_ ec_; (first | subst ea_ | (injection ea_ with ea_; subst ea_)); subst ec_; clear en_)); have GB28 := Aside0.mk gb28; have GG28 := Aside0.mk HG28; clear gb28 gl28 HG28; (first | simp only [add_plain] at hx603_0 | skip); obtain ⟨hx28_0, hf28_0⟩ := Kd.R_celln 0 HO_3.out ((rd t604 x36_3) : Int) p28 q28; replace p28 := eq_true p28; replace q28 := eq_true q28; have HP29 := Kd.R_putg HO_3.out ((rd t604 x36_3) : Int) x5_2; go_wp2_with (first | ((with_reducible refine gate_store (t := 3) (p := 43) rfl ?_); refine store_event (t := 3) (p := 43) (v := ?vo_w30) (w1 := (wr.setCell ⟨go28, ((rd t604 x36_3) : Int).toNat, none⟩ (.int .i64 x5_2))) ?hg ?ho ?hn ?hr ?_; (case ho => rfl); (case hg => rfl); (case hn => rfl); (case hr => first | (go_simp; done) | (go_simp; rfl)); intro w30 hw; have hg : wr.grownBy w30 (some go28) := (by rw [hw]; exact HP29.2); have hp_ : Kd.R (Kd.int .i64) 3 w30 w.heap.size (fun k_ => some k_ ≠ (.slice (some ad607) t604.length co22 : Value).ownBlock) (.slice (some ⟨go28, 0, none⟩) x3_3.length co8) y608 := (by rw [hw, Ny608.out]; exact HP29.1); clear HP29; replace HO_34 := Aside0.mk (Kd.R_after (v := (.slice (some ⟨go28, 0, none⟩) x3_3.length co8)) (v1 := (.slice (some ⟨go28, 0, none⟩) x3_3.length co8)) (ok := (fun _ => True)) (rR (Kd.R_mono HO_34.out (fun _ hk => ⟨trivial, hk⟩))) hg (.inl rfl)); replace BK598 := Aside0.mk (blk_grown (bk BK598.out) hg (Kd.R_ne HO_3.out BK598.out (by decide))); replace HO_3 := Aside0.mk (hp_); replace HB := Aside0.mk ((by rw [hw]; exact below_set (HB.out) GB28.out : Below w.heap.size w w30)); clear hg hw hp_)); (try simp only [← hl3_3])
                 go_roundg k3
                 case measure => have := HK1.out; have := HK2.out; have := HK3.out; omega
                 case rel => exact ⟨(y608), (wrap64 (x36_3 + 1)), (sr2), H', ⟨by have := HK1.out; have := HK2.out; have := HK3.out; omega⟩, ⟨by (try simp only [hl3_1]); (try simp only [hl3_2]); (try simp only [hl3_3]); (with_reducible repeat (first | apply Kd.R_alloc | apply Kd.R_drewN | apply Kd.R_drew)); exact HO_3.out⟩, ⟨by (try simp only [hl3_1]); (try simp only [hl3_2]); (try simp only [hl3_3]); (with_reducible repeat (first | apply Kd.R_alloc | apply Kd.R_drewN | apply Kd.R_drew)); exact Kd.R_mono HO_34.out (fun _ hk => hk.2)⟩, ⟨by (try simp only [hl3_1]); (try simp only [hl3_2]); (try simp only [hl3_3]); (with_reducible repeat (first | refine blk_drewN ?_ _ | refine blk_drew ?_ | refine blk_alloc ?_ _)); exact BK598.out⟩, ⟨bs1 HB.out GE598.out⟩⟩
                rw [if_neg c27] at H; exact absurd H (by simp)
               rw [if_neg c26] at H; exact absurd H (by simp)
              rw [if_neg c25] at H; exact absurd H (by simp)
             rw [if_neg c24] at H; exact absurd H (by simp)
            rw [if_neg c23] at H; have c23b0 := decide_eq_false c23; clear c23; (try simp only [hl3_1, hl3_2, hl3_3] at c23b0); have H' := Aside0.mk H; clear H; go_wp2; (try simp only [← hl3_2, ← hl3_3])
            go_roundg k3
            case measure => have := HK1.out; have := HK2.out; have := HK3.out; omega
            case rel => exact ⟨(x3_3), (wrap64 (x5_2 + 1)), (wrap64 (x24_2 + 1)), (sr2), (sr2), H', ⟨by have := HK1.out; have := HK2.out; have := HK3.out; omega⟩, ⟨by (try simp only [hl3_1]); (try simp only [hl3_2]); (try simp only [hl3_3]); (with_reducible repeat (first | apply Kd.R_alloc | apply Kd.R_drewN | apply Kd.R_drew)); exact Kd.R_mono HO_3.out (fun _ hk => trivial)⟩, ⟨by (try simp only [hl3_1]); (try simp only [hl3_2]); (try simp only [hl3_3]); (with_reducible repeat (first | refine blk_drewN ?_ _ | refine blk_drew ?_ | refine blk_alloc ?_ _)); exact BK598.out⟩, ⟨bs1 HB.out GE598.out⟩⟩
         rw [if_neg c17] at H; exact absurd H (by simp)
        rw [if_neg c16] at H; exact absurd H (by simp)
       rw [if_neg c15] at H; have c15b0 := decide_eq_false c15; clear c15; (try simp only [hl3_1, hl3_2] at c15b0); obtain rfl := Option.some.inj H; go_wp2; go_ret; exact ⟨_, sr, rR HO_3.out, bs1 HB.out GE598.out⟩
  rw [if_neg c3] at H; exact absurd H (by simp)
 rw [if_neg c2] at H; exact absurd H (by simp)
/-! ### spec_meCount: function 100 -/
def spec_meCount.l0 : Nat → Int → List Int → Int → Int → Option (Int)
 | 0, _, _, _, _ => none
 | k + 1, x3, x7, x8, x9 => if x9 < x8 then (if 0 ≤ x9 then (if x9 < (x7.length : Int) then ((spec_l1Most.f x3 (rd x7 x9)).bind fun t614 => (spec_meCount.l0 k t614 x7 x8 (wrap64 (x9 + 1)))) else (none)) else (none)) else (some (wrap64 (x3 + 1)))
def spec_meCount.f (k : Nat) (l0_0 : List Int) (l0_1 : List Int) : Option (Int) := (spec_meColours.f k l0_0 l0_1).bind fun t610 => (spec_meCount.l0 k (-1) t610 (t610.length : Int) 0)
theorem spec_meCount.mono_l : ∀ k, (∀ y0 y1 y2 y3, LeO (spec_meCount.l0 k y0 y1 y2 y3) (spec_meCount.l0 (k + 1) y0 y1 y2 y3))
 | 0 => fun _ _ _ _ r h => by simp [spec_meCount.l0] at h
 | k + 1 => by
  have ih0 := spec_meCount.mono_l k
  ·intro y0 y1 y2 y3
   unfold spec_meCount.l0
   repeat' first
   | (with_reducible exact ih0 _ _ _ _)
   | (with_reducible exact spec_meColours.mono _ _ _)
   | (with_reducible exact LeO.refl _)
   | (with_reducible exact LeO.none _)
   | (with_reducible refine LeO.ite ?_ ?_)
   | (with_reducible refine LeO.bind ?_ (fun _ => ?_))
   | exact ih0 _ _ _ _
   | exact spec_meColours.mono _ _ _
   | exact LeO.none _
   | refine LeO.ite ?_ ?_
   | refine LeO.bind ?_ (fun _ => ?_)
theorem spec_meCount.mono : ∀ a0 a1 k, LeO (spec_meCount.f k a0 a1) (spec_meCount.f (k + 1) a0 a1) := by
 intro a0 a1 k; have ih0 := spec_meCount.mono_l k; unfold spec_meCount.f
 repeat' first
   | (with_reducible exact ih0 _ _ _ _)
   | (with_reducible exact spec_meColours.mono _ _ _)
   | (with_reducible exact LeO.refl _)
   | (with_reducible exact LeO.none _)
   | (with_reducible refine LeO.ite ?_ ?_)
   | (with_reducible refine LeO.bind ?_ (fun _ => ?_))
   | exact ih0 _ _ _ _
   | exact spec_meColours.mono _ _ _
   | exact LeO.none _
   | refine LeO.ite ?_ ?_
   | refine LeO.bind ?_ (fun _ => ?_)
theorem spec_meCount.calls (k : Nat) (A0_0 : Option Addr) (c0_0 : Nat) (l0_0 : List Int) (A0_1 : Option Addr) (c0_1 : Nat) (l0_1 : List Int) (r : Int) (w : World) (hr0_0 : Kd.C (Kd.int .i64) w A0_0 l0_0.length l0_0) (hc0_0 : l0_0.length ≤ c0_0) (hr0_1 : Kd.C (Kd.int .i64) w A0_1 l0_1.length l0_1) (hc0_1 : l0_1.length ≤ c0_1) (h : spec_meCount.f k l0_0 l0_1 = some r) :
  Calls Tryz.prog 100 #[.agg #[.slice A0_0 l0_0.length c0_0, .slice A0_1 l0_1.length c0_1]] w fun e w' => e = .returned (.int .i64 r) ∧ Below w.heap.size w w' := by
 have hu45 := Tryz.underlying45; have HR0_0 := Aside0.mk hr0_0; have HC0_0 := Aside0.mk hc0_0; clear hr0_0 hc0_0; have HR0_1 := Aside0.mk hr0_1; have HC0_1 := Aside0.mk hc0_1; clear hr0_1 hc0_1; have HB := Aside0.mk (Below.refl w.heap.size w); have H : ((spec_meColours.f k l0_0 l0_1).bind fun t610 => (spec_meCount.l0 k (-1) t610 (t610.length : Int) 0)) = some r := h; clear h; obtain ⟨t610, A2, H⟩ := bi H; (try dsimp only at H); have H' := Aside0.mk H; clear H; go_enter Tryz.func100, Tryz.ntmps100; go_wp2_with (first | ((with_reducible refine gate_dst (N := 1) rfl ?_); refine box_event ?hg (N := 1) ?hd (cs := #[.slice A0_0 l0_0.length c0_0, .slice A0_1 l0_1.length c0_1]) (t := 45) ?hr ?_; (case hd => rfl); (case hg => rfl); (case hr => first | (go_simp; done) | (go_simp; rfl)); intro gb609 hg w3 hbox hb; have BK609 := Aside0.mk (hbox); have GW609 := Aside0.mk ((by rw [hg]; exact (below_size (bl HB.out)) : w.heap.size ≤ gb609)); have GE609 := Aside0.mk ((by rw [hg]; exact (below_size (bl HB.out)) : w.heap.size ≤ gb609)); replace HB := bst HB hb; clear hb hbox hg; have hcz4_0 : w3.cell? ⟨gb609, 0, none⟩ = some (.slice A0_0 l0_0.length c0_0) := (blk_cell BK609.out 0).trans rfl; have hcz4_1 : w3.cell? ⟨gb609, 1, none⟩ = some (.slice A0_1 l0_1.length c0_1) := (blk_cell BK609.out 1).trans rfl; have hfz4_0 := blk_frozen BK609.out 0; have hfz4_1 := blk_frozen BK609.out 1) | (go_at_call 118; (with_reducible refine (spec_meColours.calls k _ _ l0_0 _ _ l0_1 t610 _ ?side1 ?side2 ?side3 HC0_1.out A2.out).mono ?_); (case side1 => exact cw (Kd.C_below HR0_0.out HB.out)); (case side2 => exact HC0_0.out); (case side3 => exact cw (Kd.C_below HR0_1.out HB.out)); rintro e w5 ⟨v611, rfl, ho0, hb⟩; have HO612 := Aside0.mk (Kd.R_lower ho0 (below_size (bs1 HB.out GE609.out))); replace BK609 := bkb BK609 hb; replace HB := Aside0.mk (below_step (bs1 HB.out GE609.out) hb); obtain ⟨Ao6, co6, eo6⟩ := Kd.R_slice HO612.out; subst eo6))
 go_loopg [3, 9] k (fun kq v3 v9 w' => ∃ (x3_1 : Int) (x9_1 : Int), v3 = .int .i64 x3_1 ∧ v9 = .int .i64 x9_1 ∧ Aside0 (spec_meCount.l0 kq x3_1 t610 (t610.length : Int) x9_1 = some r) ∧ Aside0 (kq ≤ k) ∧ Aside0 (Kd.R (Kd.int .i64) 3 w' w.heap.size (fun _ => True) (.slice Ao6 t610.length co6) t610) ∧ Aside0 (w'.heap[gb609]? = some (.cells #[(.slice A0_0 l0_0.length c0_0), (.slice A0_1 l0_1.length c0_1)] 45 (0, 0))) ∧ Aside0 (Below w.heap.size w w'))
 case atStart => exact ⟨((-1)), (0), (sr2), (sr2), H', ⟨Nat.le_refl _⟩, ⟨rR HO612.out⟩, ⟨by (with_reducible repeat (first | refine blk_drewN ?_ _ | refine blk_drew ?_ | refine blk_alloc ?_ _)); exact BK609.out⟩, ⟨bs1 HB.out GE609.out⟩⟩
 case round =>
  clear H'; obtain ⟨x3_1, x9_1, rfl, rfl, HA, HK1, HO_7, BK609, HB⟩ := hrel
  cases gk with
  | zero => exact absurd HA.out (by simp [spec_meCount.l0])
  | succ k1 =>
   have H := HA.out; clear HA; simp only [spec_meCount.l0] at H
   by_cases c7 : x9_1 < (t610.length : Int)
   ·rw [if_pos c7] at H; have c7b0 := decide_eq_true c7; clear c7
    by_cases c8 : 0 ≤ x9_1
    ·rw [if_pos c8] at H; have c8b0 := decide_eq_true c8; clear c8
     by_cases c9 : x9_1 < (t610.length : Int)
     ·rw [if_pos c9] at H; have c9b0 := decide_eq_true c9; clear c9; obtain ⟨t614, A10, H⟩ := bi H; (try dsimp only at H); have H' := Aside0.mk H; clear H; obtain ⟨ad613, e613, hx613_0, p613, q613⟩ := atI (Kd.R_reads' HO_7.out).2.2 x9_1; cases e613; go_wp2_with (first | (go_at_call 119; (with_reducible refine (spec_l1Most.calls x3_1 (rd t610 x9_1) t614 _ A10.out).mono ?_); rintro e w' ⟨rfl, ⟨nd, rfl⟩⟩))
      go_roundg k1
      case measure => have := HK1.out; omega
      case rel => exact ⟨(t614), (wrap64 (x9_1 + 1)), (sr2), (sr2), H', ⟨by have := HK1.out; omega⟩, ⟨rR HO_7.out⟩, ⟨by (with_reducible repeat (first | refine blk_drewN ?_ _ | refine blk_drew ?_ | refine blk_alloc ?_ _)); exact BK609.out⟩, ⟨bs1 HB.out GE609.out⟩⟩
     rw [if_neg c9] at H; exact absurd H (by simp)
    rw [if_neg c8] at H; exact absurd H (by simp)
   rw [if_neg c7] at H; have c7b0 := decide_eq_false c7; clear c7; obtain rfl := Option.some.inj H; go_wp2; go_ret; exact ⟨sr, bs1 HB.out GE609.out⟩
/-! ### spec_spSemi: function 69 -/
def spec_spSemi.f (k : Nat) (l0 : List Int) : Option (Bool) := if (l0.length : Int) > 0 then ((spec_ahRainbow.f k (wrap64 ((l0.length : Int) / 2))).bind fun t615 => ((spec_meCount.f k l0 t615).bind fun t618 => (some (t618 == 1)))) else (some false)
theorem spec_spSemi.mono : ∀ a0 k, LeO (spec_spSemi.f k a0) (spec_spSemi.f (k + 1) a0) := by
 intro a0 k; unfold spec_spSemi.f
 repeat' first
   | (with_reducible exact spec_ahRainbow.mono _ _)
   | (with_reducible exact spec_meCount.mono _ _ _)
   | (with_reducible exact LeO.refl _)
   | (with_reducible exact LeO.none _)
   | (with_reducible refine LeO.ite ?_ ?_)
   | (with_reducible refine LeO.bind ?_ (fun _ => ?_))
   | exact spec_ahRainbow.mono _ _
   | exact spec_meCount.mono _ _ _
   | exact LeO.none _
   | refine LeO.ite ?_ ?_
   | refine LeO.bind ?_ (fun _ => ?_)
theorem spec_spSemi.calls (k : Nat) (A0 : Option Addr) (c0 : Nat) (l0 : List Int) (r : Bool) (w : World) (hr0 : Kd.C (Kd.int .i64) w A0 l0.length l0) (hc0 : l0.length ≤ c0) (h : spec_spSemi.f k l0 = some r) :
  Calls Tryz.prog 69 #[.slice A0 l0.length c0] w fun e w' => e = .returned (.bool r) ∧ Below w.heap.size w w' := by
 have hu45 := Tryz.underlying45; have HR0 := Aside0.mk hr0; have HC0 := Aside0.mk hc0; clear hr0 hc0; have HB := Aside0.mk (Below.refl w.heap.size w); have H : (if (l0.length : Int) > 0 then ((spec_ahRainbow.f k (wrap64 ((l0.length : Int) / 2))).bind fun t615 => ((spec_meCount.f k l0 t615).bind fun t618 => (some (t618 == 1)))) else (some false)) = some r := h; clear h
 by_cases c2 : (l0.length : Int) > 0
 ·rw [if_pos c2] at H; have c2b0 := decide_eq_true c2; have c2b1 : decide (0 < l0.length) = true := decide_eq_true (by omega); clear c2; obtain ⟨t615, A3, H⟩ := bi H; (try dsimp only at H); obtain ⟨t618, A4, H⟩ := bi H; (try dsimp only at H); obtain rfl := Option.some.inj H; go_enter Tryz.func69, Tryz.ntmps69; go_wp2_with (first | (go_at_call 101; (with_reducible refine (spec_ahRainbow.calls k (wrap64 ((l0.length : Int) / 2)) t615 _ A3.out).mono ?_); rintro e w5 ⟨v616, rfl, ho0, hb⟩; have HO617 := Aside0.mk (Kd.R_lower ho0 (below_size (bl HB.out))); replace HB := bst HB hb; obtain ⟨Ao6, co6, eo6⟩ := Kd.R_slice HO617.out; subst eo6) | (go_at_call 100; (with_reducible refine (spec_meCount.calls k _ _ l0 _ _ t615 t618 _ ?side1 ?side2 ?side3 ((Kd.R_reads' HO617.out).2.1) A4.out).mono ?_); (case side1 => exact cw (Kd.C_below HR0.out HB.out)); (case side2 => exact HC0.out); (case side3 => exact cw ((Kd.R_reads' HO617.out).2.2)); rintro e w7 ⟨rfl, hb⟩; replace HO617 := Aside0.mk (Kd.R_below (rR HO617.out) hb); replace HB := bst HB hb)); go_ret; exact ⟨sr, bl HB.out⟩
 rw [if_neg c2] at H; have c2b0 := decide_eq_false c2; have c2b1 : decide (0 < l0.length) = false := decide_eq_false (by omega); clear c2; obtain rfl := Option.some.inj H; go_enter Tryz.func69, Tryz.ntmps69; go_wp2; go_ret; exact ⟨sr, bl HB.out⟩
/-! ### spec_FoldingOfSemi: function 29 -/
mutual
def spec_FoldingOfSemi.j0 : Nat → List Int → Bool → Option (List Int × Bool)
 | 0, _, _ => none
 | k + 1, x0, x15 => if x15 = true then (some (([] : List Int), false)) else (spec_FoldingOfSemi.l0 k x0 (wrap64 ((x0.length : Int) / 2)) ([] : List Int) (wrap64 ((x0.length : Int) / 2)))
def spec_FoldingOfSemi.l0 : Nat → List Int → Int → List Int → Int → Option (List Int × Bool)
 | 0, _, _, _, _ => none
 | k + 1, x0, x4, x5, x6 => if (x5.length : Int) < x4 then (if x6 < x4 then (if x5.length < 17592186044416 then (if 0 ≤ x6 then (if x6 < (x0.length : Int) then (spec_FoldingOfSemi.l0 k x0 x4 (x5 ++ [wrap64 ((wrap64 (x4 - 1)) - x6)]) (wrap64 ((wrap64 ((wrap64 (2 * x4)) - 1)) - (rd x0 x6)))) else (none)) else (none)) else (none)) else (if x5.length < 17592186044416 then (if 0 ≤ x6 then (if x6 < (x0.length : Int) then (spec_FoldingOfSemi.l0 k x0 x4 (x5 ++ [wrap64 (x6 - x4)]) (wrap64 ((wrap64 ((wrap64 (2 * x4)) - 1)) - (rd x0 x6)))) else (none)) else (none)) else (none))) else (some (x5, true))
end
def spec_FoldingOfSemi.f (k : Nat) (l0 : List Int) : Option (List Int × Bool) := (spec_ahGood.f k l0).bind fun t619 => (if t619 = true then ((spec_spSemi.f k l0).bind fun t620 => (spec_FoldingOfSemi.j0 k l0 (!t620))) else (spec_FoldingOfSemi.j0 k l0 true))
theorem spec_FoldingOfSemi.mono_l : ∀ k, (∀ y0 y1, LeO (spec_FoldingOfSemi.j0 k y0 y1) (spec_FoldingOfSemi.j0 (k + 1) y0 y1)) ∧ (∀ y0 y1 y2 y3, LeO (spec_FoldingOfSemi.l0 k y0 y1 y2 y3) (spec_FoldingOfSemi.l0 (k + 1) y0 y1 y2 y3))
 | 0 => ⟨fun _ _ r h => by simp [spec_FoldingOfSemi.j0] at h, fun _ _ _ _ r h => by simp [spec_FoldingOfSemi.l0] at h⟩
 | k + 1 => by
  obtain ⟨ih0, ih1⟩ := spec_FoldingOfSemi.mono_l k
  refine ⟨?_, ?_⟩
  ·intro y0 y1
   unfold spec_FoldingOfSemi.j0
   repeat' first
   | (with_reducible exact ih0 _ _)
   | (with_reducible exact ih1 _ _ _ _)
   | (with_reducible exact spec_ahGood.mono _ _)
   | (with_reducible exact spec_spSemi.mono _ _)
   | (with_reducible exact LeO.refl _)
   | (with_reducible exact LeO.none _)
   | (with_reducible refine LeO.ite ?_ ?_)
   | (with_reducible refine LeO.bind ?_ (fun _ => ?_))
   | exact ih0 _ _
   | exact ih1 _ _ _ _
   | exact spec_ahGood.mono _ _
   | exact spec_spSemi.mono _ _
   | exact LeO.none _
   | refine LeO.ite ?_ ?_
   | refine LeO.bind ?_ (fun _ => ?_)
  ·intro y0 y1 y2 y3
   unfold spec_FoldingOfSemi.l0
   repeat' first
   | (with_reducible exact ih0 _ _)
   | (with_reducible exact ih1 _ _ _ _)
   | (with_reducible exact spec_ahGood.mono _ _)
   | (with_reducible exact spec_spSemi.mono _ _)
   | (with_reducible exact LeO.refl _)
   | (with_reducible exact LeO.none _)
   | (with_reducible refine LeO.ite ?_ ?_)
   | (with_reducible refine LeO.bind ?_ (fun _ => ?_))
   | exact ih0 _ _
   | exact ih1 _ _ _ _
   | exact spec_ahGood.mono _ _
   | exact spec_spSemi.mono _ _
   | exact LeO.none _
   | refine LeO.ite ?_ ?_
   | refine LeO.bind ?_ (fun _ => ?_)
theorem spec_FoldingOfSemi.mono : ∀ a0 k, LeO (spec_FoldingOfSemi.f k a0) (spec_FoldingOfSemi.f (k + 1) a0) := by
 intro a0 k; obtain ⟨ih0, ih1⟩ := spec_FoldingOfSemi.mono_l k; unfold spec_FoldingOfSemi.f
 repeat' first
   | (with_reducible exact ih0 _ _)
   | (with_reducible exact ih1 _ _ _ _)
   | (with_reducible exact spec_ahGood.mono _ _)
   | (with_reducible exact spec_spSemi.mono _ _)
   | (with_reducible exact LeO.refl _)
   | (with_reducible exact LeO.none _)
   | (with_reducible refine LeO.ite ?_ ?_)
   | (with_reducible refine LeO.bind ?_ (fun _ => ?_))
   | exact ih0 _ _
   | exact ih1 _ _ _ _
   | exact spec_ahGood.mono _ _
   | exact spec_spSemi.mono _ _
   | exact LeO.none _
   | refine LeO.ite ?_ ?_
   | refine LeO.bind ?_ (fun _ => ?_)
theorem spec_FoldingOfSemi.calls (k : Nat) (A0 : Option Addr) (c0 : Nat) (l0 : List Int) (r1 : List Int) (r2 : Bool) (w : World) (hr0 : Kd.C (Kd.int .i64) w A0 l0.length l0) (hc0 : l0.length ≤ c0) (h : spec_FoldingOfSemi.f k l0 = some (r1, r2)) :
  Calls Tryz.prog 29 #[.slice A0 l0.length c0] w fun e w' => ∃ v0_ : Value, e = .returned (.tuple #[v0_, .bool r2]) ∧ Kd.R (Kd.int .i64) 3 w' w.heap.size (fun _ => True) v0_ r1 ∧ Below w.heap.size w w' := by
 have HR0 := Aside0.mk hr0; have HC0 := Aside0.mk hc0; clear hr0 hc0; have HB := Aside0.mk (Below.refl w.heap.size w); have H : ((spec_ahGood.f k l0).bind fun t619 => (if t619 = true then ((spec_spSemi.f k l0).bind fun t620 => (spec_FoldingOfSemi.j0 k l0 (!t620))) else (spec_FoldingOfSemi.j0 k l0 true))) = some (r1, r2) := h; clear h; have HC2 := Aside0.mk H; clear H; go_enter Tryz.func29, Tryz.ntmps29
 go_upto_region 1 with (fail)
 go_cut [15] (fun v15 wc => ∃ (kq : Nat) (x15_1 : Bool), v15 = .bool x15_1 ∧ Aside0 (spec_FoldingOfSemi.j0 kq l0 x15_1 = some (r1, r2)) ∧ Aside0 (kq ≤ k) ∧ Aside0 (Below w.heap.size w wc))
 case first =>
  have H := HC2.out; clear HC2; obtain ⟨t619, A3, H⟩ := bi H; (try dsimp only at H)
  by_cases c4 : t619 = true
  ·subst c4; rw [if_pos rfl] at H; obtain ⟨t620, A5, H⟩ := bi H; (try dsimp only at H); have H' := Aside0.mk H; clear H; go_wp2_with (first | (go_at_call 68; (with_reducible refine (spec_ahGood.calls k _ _ l0 true _ ?side1 HC0.out A3.out).mono ?_); (case side1 => exact cw (Kd.C_below HR0.out HB.out)); rintro e w6 ⟨rfl, hb⟩; replace HB := bst HB hb) | (go_at_call 69; (with_reducible refine (spec_spSemi.calls k _ _ l0 t620 _ ?side1 HC0.out A5.out).mono ?_); (case side1 => exact cw (Kd.C_below HR0.out HB.out)); rintro e w7 ⟨rfl, hb⟩; replace HB := bst HB hb)); go_meet
   case rel => exact ⟨_, (!t620), (sr2), H', ⟨by first | omega | exact Nat.le_refl _⟩, ⟨bl HB.out⟩⟩
  replace c4 := Bool.eq_false_iff.mpr c4; subst c4; rw [if_neg (show ¬ (false = true) by decide)] at H; have H' := Aside0.mk H; clear H; go_wp2_with (first | (go_at_call 68; (with_reducible refine (spec_ahGood.calls k _ _ l0 false _ ?side1 HC0.out A3.out).mono ?_); (case side1 => exact cw (Kd.C_below HR0.out HB.out)); rintro e w8 ⟨rfl, hb⟩; replace HB := bst HB hb)); go_meet
  case rel => exact ⟨_, (true), (sr2), H', ⟨by first | omega | exact Nat.le_refl _⟩, ⟨bl HB.out⟩⟩
 case rest =>
  clear HC2; obtain ⟨kq, x15_1, rfl, HA, HJ1, HB⟩ := hcut
  cases kq with
  | zero => exact absurd HA.out (by simp [spec_FoldingOfSemi.j0])
  | succ kj1 =>
   have H := HA.out; clear HA; simp only [spec_FoldingOfSemi.j0] at H
   by_cases c9 : x15_1 = true
   ·subst c9; rw [if_pos rfl] at H; simp only [Option.some.injEq, Prod.mk.injEq] at H; obtain ⟨rfl, rfl⟩ := H; go_wp2; go_ret2; exact ⟨_, sr, by first | exact Kd.R_nil _ _ _ _ _ | exact Kd.N_nil _ _ _ _ _ | exact Kd.V_nil _ _ _ _ _ | exact Kd.Q_nil _ _ _ _ _ | exact Kd.S_nil _ _ _ _ _, bl HB.out⟩
   replace c9 := Bool.eq_false_iff.mpr c9; subst c9; rw [if_neg (show ¬ (false = true) by decide)] at H; have H' := Aside0.mk H; clear H; go_wp2
   go_loopg [5, 6] kj1 (fun kq v5 v6 w' => ∃ (x5_2 : List Int) (x6_2 : Int), v6 = .int .i64 x6_2 ∧ Aside0 (spec_FoldingOfSemi.l0 kq l0 (wrap64 ((l0.length : Int) / 2)) x5_2 x6_2 = some (r1, r2)) ∧ Aside0 (kq ≤ kj1) ∧ Aside0 (Kd.R (Kd.int .i64) 3 w' w.heap.size (fun _ => True) v5 x5_2) ∧ Aside0 (Below w.heap.size w w'))
   case atStart => exact ⟨(([] : List Int)), (wrap64 ((l0.length : Int) / 2)), (sr2), H', ⟨Nat.le_refl _⟩, ⟨by first | exact Kd.R_nil _ _ _ _ _ | exact Kd.N_nil _ _ _ _ _ | exact Kd.V_nil _ _ _ _ _ | exact Kd.Q_nil _ _ _ _ _ | exact Kd.S_nil _ _ _ _ _⟩, ⟨bl HB.out⟩⟩
   case round =>
    clear H'; obtain ⟨x5_2, x6_2, rfl, HA, HK2, HO_5, HB⟩ := hrel
    cases gk with
    | zero => exact absurd HA.out (by simp [spec_FoldingOfSemi.l0])
    | succ k2 =>
     have H := HA.out; clear HA; simp only [spec_FoldingOfSemi.l0] at H
     by_cases c10 : (x5_2.length : Int) < (wrap64 ((l0.length : Int) / 2))
     ·rw [if_pos c10] at H; have c10b0 := decide_eq_true c10; clear c10
      by_cases c11 : x6_2 < (wrap64 ((l0.length : Int) / 2))
      ·rw [if_pos c11] at H; have c11b0 := decide_eq_true c11; clear c11
       by_cases c12 : x5_2.length < 17592186044416
       ·rw [if_pos c12] at H; have LMc12 := Aside0.mk c12; clear c12; obtain ⟨y621, hy621⟩ := yy (x5_2 ++ [wrap64 ((wrap64 ((wrap64 ((l0.length : Int) / 2)) - 1)) - x6_2)])
        (try rw [Option.bind_some] at H); (try dsimp only at H); rw [← hy621] at H
        have Ny621 := Aside0.mk hy621; clear hy621
        by_cases c13 : 0 ≤ x6_2
        ·rw [if_pos c13] at H; have c13b0 := decide_eq_true c13; clear c13
         by_cases c14 : x6_2 < (l0.length : Int)
         ·rw [if_pos c14] at H; have c14b0 := decide_eq_true c14; clear c14; have H' := Aside0.mk H; clear H; obtain ⟨Ao15, co15, eo15⟩ := Kd.R_slice HO_5.out; subst eo15; go_wp2_with (first | ((with_reducible refine gate_builtin (b := .append) (xs := #[.tmp 34, .tmp 36]) rfl ?_); at_builtin; refine Kd.R_append (Kd.int .i64) (w0 := w) w.heap.size rfl (.tmp 34) (.tmp 36) 31 3 (.int .i64 0) 8 rfl Tryz.underlying31 info3 rfl (by decide) (by omega) (.slice Ao15 x5_2.length co15) x5_2 (wrap64 ((wrap64 ((wrap64 ((l0.length : Int) / 2)) - 1)) - x6_2)) [.int .i64 (wrap64 ((wrap64 ((wrap64 ((l0.length : Int) / 2)) - 1)) - x6_2))] (fun _ => True) (fun _ => False) rfl rfl ?aP (fun _ hk => hk.elim) ?aF ?aO ?aB ?aS (by have := LMc12.out; omega) ?_; (case aP => exact rfl); (case aB => exact (bl HB.out)); (case aF => exact (fun _ _ => trivial)); (case aO => exact (rR HO_5.out)); (case aS => exact (below_size (bl HB.out))); intro v622 w16 ho hb hg hat; rw [← Ny621.out] at ho; replace HB := Aside0.mk (hb); have HO623 := Aside0.mk (ho); clear HO_5; clear ho hb hg hat; have p624 : 0 ≤ (x6_2 : Int) := od; have q624 : x6_2 < (l0.length : Int) := od; obtain ⟨ad624, e624, hx624_0⟩ := Kd.at_int HR0.out x6_2 p624 q624; cases e624; replace hx624_0 := hbx HB hx624_0; replace p624 := eq_true p624; replace q624 := eq_true q624))
          go_roundg k2
          case measure => have := HJ1.out; have := HK2.out; omega
          case rel => exact ⟨(y621), (wrap64 ((wrap64 ((wrap64 (2 * (wrap64 ((l0.length : Int) / 2)))) - 1)) - (rd l0 x6_2))), (sr2), H', ⟨by have := HJ1.out; have := HK2.out; omega⟩, ⟨rR HO623.out⟩, ⟨bl HB.out⟩⟩
         rw [if_neg c14] at H; exact absurd H (by simp)
        rw [if_neg c13] at H; exact absurd H (by simp)
       rw [if_neg c12] at H; exact absurd H (by simp)
      rw [if_neg c11] at H; have c11b0 := decide_eq_false c11; clear c11
      by_cases c17 : x5_2.length < 17592186044416
      ·rw [if_pos c17] at H; have LMc17 := Aside0.mk c17; clear c17; obtain ⟨y625, hy625⟩ := yy (x5_2 ++ [wrap64 (x6_2 - (wrap64 ((l0.length : Int) / 2)))])
       (try rw [Option.bind_some] at H); (try dsimp only at H); rw [← hy625] at H
       have Ny625 := Aside0.mk hy625; clear hy625
       by_cases c18 : 0 ≤ x6_2
       ·rw [if_pos c18] at H; have c18b0 := decide_eq_true c18; clear c18
        by_cases c19 : x6_2 < (l0.length : Int)
        ·rw [if_pos c19] at H; have c19b0 := decide_eq_true c19; clear c19; have H' := Aside0.mk H; clear H; obtain ⟨Ao20, co20, eo20⟩ := Kd.R_slice HO_5.out; subst eo20; go_wp2_with (first | ((with_reducible refine gate_builtin (b := .append) (xs := #[.tmp 34, .tmp 36]) rfl ?_); at_builtin; refine Kd.R_append (Kd.int .i64) (w0 := w) w.heap.size rfl (.tmp 34) (.tmp 36) 31 3 (.int .i64 0) 8 rfl Tryz.underlying31 info3 rfl (by decide) (by omega) (.slice Ao20 x5_2.length co20) x5_2 (wrap64 (x6_2 - (wrap64 ((l0.length : Int) / 2)))) [.int .i64 (wrap64 (x6_2 - (wrap64 ((l0.length : Int) / 2))))] (fun _ => True) (fun _ => False) rfl rfl ?aP (fun _ hk => hk.elim) ?aF ?aO ?aB ?aS (by have := LMc17.out; omega) ?_; (case aP => exact rfl); (case aB => exact (bl HB.out)); (case aF => exact (fun _ _ => trivial)); (case aO => exact (rR HO_5.out)); (case aS => exact (below_size (bl HB.out))); intro v626 w21 ho hb hg hat; rw [← Ny625.out] at ho; replace HB := Aside0.mk (hb); have HO627 := Aside0.mk (ho); clear HO_5; clear ho hb hg hat; have p628 : 0 ≤ (x6_2 : Int) := od; have q628 : x6_2 < (l0.length : Int) := od; obtain ⟨ad628, e628, hx628_0⟩ := Kd.at_int HR0.out x6_2 p628 q628; cases e628; replace hx628_0 := hbx HB hx628_0; replace p628 := eq_true p628; replace q628 := eq_true q628))
         go_roundg k2
         case measure => have := HJ1.out; have := HK2.out; omega
         case rel => exact ⟨(y625), (wrap64 ((wrap64 ((wrap64 (2 * (wrap64 ((l0.length : Int) / 2)))) - 1)) - (rd l0 x6_2))), (sr2), H', ⟨by have := HJ1.out; have := HK2.out; omega⟩, ⟨rR HO627.out⟩, ⟨bl HB.out⟩⟩
        rw [if_neg c19] at H; exact absurd H (by simp)
       rw [if_neg c18] at H; exact absurd H (by simp)
      rw [if_neg c17] at H; exact absurd H (by simp)
     rw [if_neg c10] at H; have c10b0 := decide_eq_false c10; clear c10; simp only [Option.some.injEq, Prod.mk.injEq] at H; obtain ⟨rfl, rfl⟩ := H; obtain ⟨Ao22, co22, eo22⟩ := Kd.R_slice HO_5.out; subst eo22; go_wp2; go_ret2; exact ⟨_, sr, rR HO_5.out, bl HB.out⟩
/-! ### impl_IsSemi: function 30 -/
def impl_IsSemi.f (k : Nat) (l0 : List Int) : Option (Bool × Bool) := (impl_IsSystem.f k l0).bind fun t629 => (if t629 = true then (if (l0.length : Int) = 0 then (some (false, false)) else ((impl_isSemi.f k l0).bind fun t630 => (some (t630, true)))) else (some (false, false)))
theorem impl_IsSemi.mono : ∀ a0 k, LeO (impl_IsSemi.f k a0) (impl_IsSemi.f (k + 1) a0) := by
 intro a0 k; unfold impl_IsSemi.f
 repeat' first
   | (with_reducible exact impl_IsSystem.mono _ _)
   | (with_reducible exact impl_isSemi.mono _ _)
   | (with_reducible exact LeO.refl _)
   | (with_reducible exact LeO.none _)
   | (with_reducible refine LeO.ite ?_ ?_)
   | (with_reducible refine LeO.bind ?_ (fun _ => ?_))
   | exact impl_IsSystem.mono _ _
   | exact impl_isSemi.mono _ _
   | exact LeO.none _
   | refine LeO.ite ?_ ?_
   | refine LeO.bind ?_ (fun _ => ?_)
theorem impl_IsSemi.calls (k : Nat) (A0 : Option Addr) (c0 : Nat) (l0 : List Int) (r1 : Bool) (r2 : Bool) (w : World) (hr0 : Kd.C (Kd.int .i64) w A0 l0.length l0) (hc0 : l0.length ≤ c0) (h : impl_IsSemi.f k l0 = some (r1, r2)) :
  Calls Tryz.prog 30 #[.slice A0 l0.length c0] w fun e w' => e = .returned (.tuple #[.bool r1, .bool r2]) ∧ Below w.heap.size w w' := by
 have HR0 := Aside0.mk hr0; have HC0 := Aside0.mk hc0; clear hr0 hc0; have HB := Aside0.mk (Below.refl w.heap.size w); have H : ((impl_IsSystem.f k l0).bind fun t629 => (if t629 = true then (if (l0.length : Int) = 0 then (some (false, false)) else ((impl_isSemi.f k l0).bind fun t630 => (some (t630, true)))) else (some (false, false)))) = some (r1, r2) := h; clear h; obtain ⟨t629, A2, H⟩ := bi H; (try dsimp only at H)
 by_cases c3 : t629 = true
 ·subst c3; rw [if_pos rfl] at H
  by_cases c4 : (l0.length : Int) = 0
  ·rw [if_pos c4] at H; have c4b0 := beq_iff_eq.mpr c4; have c4b1 := bne_eq_false_iff_eq.mpr c4; clear c4; simp only [Option.some.injEq, Prod.mk.injEq] at H; obtain ⟨rfl, rfl⟩ := H; go_enter Tryz.func30, Tryz.ntmps30; go_wp2_with (first | (go_at_call 65; (with_reducible refine (impl_IsSystem.calls k _ _ l0 true _ ?side1 HC0.out A2.out).mono ?_); (case side1 => exact cw HR0.out); rintro e w' ⟨rfl, ⟨nd, rfl⟩⟩)); go_ret2; exact ⟨sr, bl HB.out⟩
  rw [if_neg c4] at H; have c4b0 := beq_eq_false_iff_ne.mpr c4; have c4b1 := bne_iff_ne.mpr c4; have c4b2 : ¬ (l0 = []) := fun h_ => c4 (by rw [h_]; rfl); obtain ⟨t630, A5, H⟩ := bi H; (try dsimp only at H); simp only [Option.some.injEq, Prod.mk.injEq] at H; obtain ⟨rfl, rfl⟩ := H; go_enter Tryz.func30, Tryz.ntmps30; go_wp2_with (first | (go_at_call 65; (with_reducible refine (impl_IsSystem.calls k _ _ l0 true _ ?side1 HC0.out A2.out).mono ?_); (case side1 => exact cw HR0.out); rintro e w' ⟨rfl, ⟨nd, rfl⟩⟩) | (go_at_call 66; (with_reducible refine (impl_isSemi.calls k _ _ l0 t630 _ ?side1 HC0.out A5.out).mono ?_); (case side1 => exact cw HR0.out); rintro e w6 ⟨rfl, hb⟩; replace HB := bst HB hb)); go_ret2; exact ⟨sr, bl HB.out⟩
 replace c3 := Bool.eq_false_iff.mpr c3; subst c3; rw [if_neg (show ¬ (false = true) by decide)] at H; simp only [Option.some.injEq, Prod.mk.injEq] at H; obtain ⟨rfl, rfl⟩ := H; go_enter Tryz.func30, Tryz.ntmps30; go_wp2_with (first | (go_at_call 65; (with_reducible refine (impl_IsSystem.calls k _ _ l0 false _ ?side1 HC0.out A2.out).mono ?_); (case side1 => exact cw HR0.out); rintro e w' ⟨rfl, ⟨nd, rfl⟩⟩)); go_ret2; exact ⟨sr, bl HB.out⟩
/-! ### spec_IsSemi: function 31 -/
def spec_IsSemi.f (k : Nat) (l0 : List Int) : Option (Bool × Bool) := (spec_ahGood.f k l0).bind fun t631 => (if t631 = true then (if (l0.length : Int) = 0 then (some (false, false)) else ((spec_spSemi.f k l0).bind fun t632 => (some (t632, true)))) else (some (false, false)))
theorem spec_IsSemi.mono : ∀ a0 k, LeO (spec_IsSemi.f k a0) (spec_IsSemi.f (k + 1) a0) := by
 intro a0 k; unfold spec_IsSemi.f
 repeat' first
   | (with_reducible exact spec_ahGood.mono _ _)
   | (with_reducible exact spec_spSemi.mono _ _)
   | (with_reducible exact LeO.refl _)
   | (with_reducible exact LeO.none _)
   | (with_reducible refine LeO.ite ?_ ?_)
   | (with_reducible refine LeO.bind ?_ (fun _ => ?_))
   | exact spec_ahGood.mono _ _
   | exact spec_spSemi.mono _ _
   | exact LeO.none _
   | refine LeO.ite ?_ ?_
   | refine LeO.bind ?_ (fun _ => ?_)
theorem spec_IsSemi.calls (k : Nat) (A0 : Option Addr) (c0 : Nat) (l0 : List Int) (r1 : Bool) (r2 : Bool) (w : World) (hr0 : Kd.C (Kd.int .i64) w A0 l0.length l0) (hc0 : l0.length ≤ c0) (h : spec_IsSemi.f k l0 = some (r1, r2)) :
  Calls Tryz.prog 31 #[.slice A0 l0.length c0] w fun e w' => e = .returned (.tuple #[.bool r1, .bool r2]) ∧ Below w.heap.size w w' := by
 have HR0 := Aside0.mk hr0; have HC0 := Aside0.mk hc0; clear hr0 hc0; have HB := Aside0.mk (Below.refl w.heap.size w); have H : ((spec_ahGood.f k l0).bind fun t631 => (if t631 = true then (if (l0.length : Int) = 0 then (some (false, false)) else ((spec_spSemi.f k l0).bind fun t632 => (some (t632, true)))) else (some (false, false)))) = some (r1, r2) := h; clear h; obtain ⟨t631, A2, H⟩ := bi H; (try dsimp only at H)
 by_cases c3 : t631 = true
 ·subst c3; rw [if_pos rfl] at H
  by_cases c4 : (l0.length : Int) = 0
  ·rw [if_pos c4] at H; have c4b0 := beq_iff_eq.mpr c4; have c4b1 := bne_eq_false_iff_eq.mpr c4; clear c4; simp only [Option.some.injEq, Prod.mk.injEq] at H; obtain ⟨rfl, rfl⟩ := H; go_enter Tryz.func31, Tryz.ntmps31; go_wp2_with (first | (go_at_call 68; (with_reducible refine (spec_ahGood.calls k _ _ l0 true _ ?side1 HC0.out A2.out).mono ?_); (case side1 => exact cw HR0.out); rintro e w5 ⟨rfl, hb⟩; replace HB := bst HB hb)); go_ret2; exact ⟨sr, bl HB.out⟩
  rw [if_neg c4] at H; have c4b0 := beq_eq_false_iff_ne.mpr c4; have c4b1 := bne_iff_ne.mpr c4; have c4b2 : ¬ (l0 = []) := fun h_ => c4 (by rw [h_]; rfl); obtain ⟨t632, A6, H⟩ := bi H; (try dsimp only at H); simp only [Option.some.injEq, Prod.mk.injEq] at H; obtain ⟨rfl, rfl⟩ := H; go_enter Tryz.func31, Tryz.ntmps31; go_wp2_with (first | (go_at_call 68; (with_reducible refine (spec_ahGood.calls k _ _ l0 true _ ?side1 HC0.out A2.out).mono ?_); (case side1 => exact cw HR0.out); rintro e w7 ⟨rfl, hb⟩; replace HB := bst HB hb) | (go_at_call 69; (with_reducible refine (spec_spSemi.calls k _ _ l0 t632 _ ?side1 HC0.out A6.out).mono ?_); (case side1 => exact cw (Kd.C_below HR0.out HB.out)); rintro e w8 ⟨rfl, hb⟩; replace HB := bst HB hb)); go_ret2; exact ⟨sr, bl HB.out⟩
 replace c3 := Bool.eq_false_iff.mpr c3; subst c3; rw [if_neg (show ¬ (false = true) by decide)] at H; simp only [Option.some.injEq, Prod.mk.injEq] at H; obtain ⟨rfl, rfl⟩ := H; go_enter Tryz.func31, Tryz.ntmps31; go_wp2_with (first | (go_at_call 68; (with_reducible refine (spec_ahGood.calls k _ _ l0 false _ ?side1 HC0.out A2.out).mono ?_); (case side1 => exact cw HR0.out); rintro e w9 ⟨rfl, hb⟩; replace HB := bst HB hb)); go_ret2; exact ⟨sr, bl HB.out⟩
/-! ### slices_Equal_int_int: function 70 -/
def slices_Equal_int_int.l0 : Nat → List Int → List Int → Int → Int → Option (Bool)
 | 0, _, _, _, _ => none
 | k + 1, x0, x1, x12, x13 => if x13 < x12 then (if 0 ≤ x13 then (if x13 < (x0.length : Int) then (if x13 < (x1.length : Int) then (if (rd x0 x13) = (rd x1 x13) then (slices_Equal_int_int.l0 k x0 x1 x12 (wrap64 (x13 + 1))) else (some false)) else (none)) else (none)) else (none)) else (some true)
def slices_Equal_int_int.f (k : Nat) (l0 : List Int) (l1 : List Int) : Option (Bool) := if (l0.length : Int) = (l1.length : Int) then (slices_Equal_int_int.l0 k l0 l1 (l0.length : Int) 0) else (some false)
theorem slices_Equal_int_int.mono_l : ∀ k, (∀ y0 y1 y2 y3, LeO (slices_Equal_int_int.l0 k y0 y1 y2 y3) (slices_Equal_int_int.l0 (k + 1) y0 y1 y2 y3))
 | 0 => fun _ _ _ _ r h => by simp [slices_Equal_int_int.l0] at h
 | k + 1 => by
  have ih0 := slices_Equal_int_int.mono_l k
  ·intro y0 y1 y2 y3
   unfold slices_Equal_int_int.l0
   repeat' first
   | (with_reducible exact ih0 _ _ _ _)
   | (with_reducible exact LeO.refl _)
   | (with_reducible exact LeO.none _)
   | (with_reducible refine LeO.ite ?_ ?_)
   | (with_reducible refine LeO.bind ?_ (fun _ => ?_))
   | exact ih0 _ _ _ _
   | exact LeO.none _
   | refine LeO.ite ?_ ?_
   | refine LeO.bind ?_ (fun _ => ?_)
theorem slices_Equal_int_int.mono : ∀ a0 a1 k, LeO (slices_Equal_int_int.f k a0 a1) (slices_Equal_int_int.f (k + 1) a0 a1) := by
 intro a0 a1 k; have ih0 := slices_Equal_int_int.mono_l k; unfold slices_Equal_int_int.f
 repeat' first
   | (with_reducible exact ih0 _ _ _ _)
   | (with_reducible exact LeO.refl _)
   | (with_reducible exact LeO.none _)
   | (with_reducible refine LeO.ite ?_ ?_)
   | (with_reducible refine LeO.bind ?_ (fun _ => ?_))
   | exact ih0 _ _ _ _
   | exact LeO.none _
   | refine LeO.ite ?_ ?_
   | refine LeO.bind ?_ (fun _ => ?_)
theorem slices_Equal_int_int.calls (k : Nat) (A0 : Option Addr) (c0 : Nat) (l0 : List Int) (A1 : Option Addr) (c1 : Nat) (l1 : List Int) (r : Bool) (w : World) (hr0 : Kd.C (Kd.int .i64) w A0 l0.length l0) (hc0 : l0.length ≤ c0) (hr1 : Kd.C (Kd.int .i64) w A1 l1.length l1) (hc1 : l1.length ≤ c1) (h : slices_Equal_int_int.f k l0 l1 = some r) :
  Calls Tryz.prog 70 #[.slice A0 l0.length c0, .slice A1 l1.length c1] w fun e w' => e = .returned (.bool r) ∧ Drawn0 w w' := by
 have HR0 := Aside0.mk hr0; have HC0 := Aside0.mk hc0; clear hr0 hc0; have HR1 := Aside0.mk hr1; have HC1 := Aside0.mk hc1; clear hr1 hc1; have H : (if (l0.length : Int) = (l1.length : Int) then (slices_Equal_int_int.l0 k l0 l1 (l0.length : Int) 0) else (some false)) = some r := h; clear h
 by_cases c3 : (l0.length : Int) = (l1.length : Int)
 ·rw [if_pos c3] at H; have c3b0 := beq_iff_eq.mpr c3; have c3b1 := bne_eq_false_iff_eq.mpr c3; (have c3b2 : (l0.length == l1.length) = true := by first | simpa using c3 | (simp at c3 ⊢; omega)); clear c3; have H' := Aside0.mk H; clear H; go_enter Tryz.func70, Tryz.ntmps70; go_wp2
  repeat (go_quiet (fail); try go_wp2)
  go_loopg [13] k (fun kq v13 w' => ∃ (x13_1 : Int), v13 = .int .i64 x13_1 ∧ Aside0 (slices_Equal_int_int.l0 kq l0 l1 (l0.length : Int) x13_1 = some r) ∧ Aside0 (kq ≤ k) ∧ Drawn0 w w')
  case atStart => exact ⟨(0), (sr2), H', ⟨Nat.le_refl _⟩, by repeat (first | exact Drawn0.refl _ | apply Drawn0.step)⟩
  case round =>
   clear H'; obtain ⟨x13_1, rfl, HA, HK1, ⟨m1, rfl⟩⟩ := hrel
   cases gk with
   | zero => exact absurd HA.out (by simp [slices_Equal_int_int.l0])
   | succ k1 =>
    have H := HA.out; clear HA; simp only [slices_Equal_int_int.l0] at H
    by_cases c4 : x13_1 < (l0.length : Int)
    ·rw [if_pos c4] at H; have c4b0 := decide_eq_true c4; clear c4
     by_cases c5 : 0 ≤ x13_1
     ·rw [if_pos c5] at H; have c5b0 := decide_eq_true c5; clear c5
      by_cases c6 : x13_1 < (l0.length : Int)
      ·rw [if_pos c6] at H; have c6b0 := decide_eq_true c6; clear c6
       by_cases c7 : x13_1 < (l1.length : Int)
       ·rw [if_pos c7] at H; have c7b0 := decide_eq_true c7; clear c7
        by_cases c8 : (rd l0 x13_1) = (rd l1 x13_1)
        ·rw [if_pos c8] at H; have c8b0 := beq_iff_eq.mpr c8; have c8b1 := bne_eq_false_iff_eq.mpr c8; clear c8; have H' := Aside0.mk H; clear H; obtain ⟨ad633, e633, hx633_0, p633, q633⟩ := atI HR0.out x13_1; cases e633; obtain ⟨ad634, e634, hx634_0, p634, q634⟩ := atI HR1.out x13_1; cases e634; go_wp2
         repeat (go_quiet (fail); try go_wp2)
         go_roundg k1
         case measure => have := HK1.out; omega
         case rel => exact ⟨(wrap64 (x13_1 + 1)), (sr2), H', ⟨by have := HK1.out; omega⟩, by repeat (first | exact Drawn0.refl _ | apply Drawn0.step)⟩
        rw [if_neg c8] at H; have c8b0 := beq_eq_false_iff_ne.mpr c8; have c8b1 := bne_iff_ne.mpr c8; obtain rfl := Option.some.inj H; obtain ⟨ad633, e633, hx633_0, p633, q633⟩ := atI HR0.out x13_1; cases e633; obtain ⟨ad634, e634, hx634_0, p634, q634⟩ := atI HR1.out x13_1; cases e634; go_wp2
        repeat (go_quiet (fail); try go_wp2)
        go_ret; exact ⟨sr2, by repeat (first | exact Drawn0.refl _ | apply Drawn0.step)⟩
       rw [if_neg c7] at H; exact absurd H (by simp)
      rw [if_neg c6] at H; exact absurd H (by simp)
     rw [if_neg c5] at H; exact absurd H (by simp)
    rw [if_neg c4] at H; have c4b0 := decide_eq_false c4; clear c4; obtain rfl := Option.some.inj H; go_wp2
    repeat (go_quiet (fail); try go_wp2)
    go_ret; exact ⟨sr2, by repeat (first | exact Drawn0.refl _ | apply Drawn0.step)⟩
 rw [if_neg c3] at H; have c3b0 := beq_eq_false_iff_ne.mpr c3; have c3b1 := bne_iff_ne.mpr c3; (have c3b2 : (l0.length == l1.length) = false := by first | simpa using c3 | (simp at c3 ⊢; omega)); obtain rfl := Option.some.inj H; go_enter Tryz.func70, Tryz.ntmps70; go_wp2
 repeat (go_quiet (fail); try go_wp2)
 go_ret; exact ⟨sr2, by repeat (first | exact Drawn0.refl _ | apply Drawn0.step)⟩
/-! ### impl_SemiOfFolding: function 32 -/
mutual
def impl_SemiOfFolding.j0 : Nat → List Int → Bool → Option (List Int × Bool)
 | 0, _, _ => none
 | k + 1, x0, x24 => if x24 = true then (some (([] : List Int), false)) else ((impl_semis.f k (x0.length : Int)).bind fun t638 => (impl_SemiOfFolding.l0 k x0 t638 (t638.length : Int) 0))
def impl_SemiOfFolding.l0 : Nat → List Int → List (List Int) → Int → Int → Option (List Int × Bool)
 | 0, _, _, _, _ => none
 | k + 1, x0, x27, x28, x29 => if x29 < x28 then (if 0 ≤ x29 then (if x29 < (x27.length : Int) then ((impl_foldingOfSemi.f k (rd_L2 x27 x29)).bind fun t642 => ((slices_Equal_int_int.f k t642 x0).bind fun t645 => (if t645 = true then (some (rd_L2 x27 x29, true)) else (impl_SemiOfFolding.l0 k x0 x27 x28 (wrap64 (x29 + 1)))))) else (none)) else (none)) else (some (([] : List Int), false))
end
def impl_SemiOfFolding.f (k : Nat) (l0 : List Int) : Option (List Int × Bool) := (impl_isStack.f k l0).bind fun t635 => (if t635 = true then (if (l0.length : Int) > 6 then (impl_SemiOfFolding.j0 k l0 true) else ((impl_isFolding.f k l0).bind fun t636 => (if t636 = true then (if 0 < (l0.length : Int) then (impl_SemiOfFolding.j0 k l0 ((rd l0 0) != 0)) else (none)) else (impl_SemiOfFolding.j0 k l0 true)))) else (impl_SemiOfFolding.j0 k l0 true))
theorem impl_SemiOfFolding.mono_l : ∀ k, (∀ y0 y1, LeO (impl_SemiOfFolding.j0 k y0 y1) (impl_SemiOfFolding.j0 (k + 1) y0 y1)) ∧ (∀ y0 y1 y2 y3, LeO (impl_SemiOfFolding.l0 k y0 y1 y2 y3) (impl_SemiOfFolding.l0 (k + 1) y0 y1 y2 y3))
 | 0 => ⟨fun _ _ r h => by simp [impl_SemiOfFolding.j0] at h, fun _ _ _ _ r h => by simp [impl_SemiOfFolding.l0] at h⟩
 | k + 1 => by
  obtain ⟨ih0, ih1⟩ := impl_SemiOfFolding.mono_l k
  refine ⟨?_, ?_⟩
  ·intro y0 y1
   unfold impl_SemiOfFolding.j0
   repeat' first
   | (with_reducible exact ih0 _ _)
   | (with_reducible exact ih1 _ _ _ _)
   | (with_reducible exact impl_foldingOfSemi.mono _ _)
   | (with_reducible exact impl_isFolding.mono _ _)
   | (with_reducible exact impl_isStack.mono _ _)
   | (with_reducible exact impl_semis.mono _ _)
   | (with_reducible exact slices_Equal_int_int.mono _ _ _)
   | (with_reducible exact LeO.refl _)
   | (with_reducible exact LeO.none _)
   | (with_reducible refine LeO.ite ?_ ?_)
   | (with_reducible refine LeO.bind ?_ (fun _ => ?_))
   | exact ih0 _ _
   | exact ih1 _ _ _ _
   | exact impl_foldingOfSemi.mono _ _
   | exact impl_isFolding.mono _ _
   | exact impl_isStack.mono _ _
   | exact impl_semis.mono _ _
   | exact slices_Equal_int_int.mono _ _ _
   | exact LeO.none _
   | refine LeO.ite ?_ ?_
   | refine LeO.bind ?_ (fun _ => ?_)
  ·intro y0 y1 y2 y3
   unfold impl_SemiOfFolding.l0
   repeat' first
   | (with_reducible exact ih0 _ _)
   | (with_reducible exact ih1 _ _ _ _)
   | (with_reducible exact impl_foldingOfSemi.mono _ _)
   | (with_reducible exact impl_isFolding.mono _ _)
   | (with_reducible exact impl_isStack.mono _ _)
   | (with_reducible exact impl_semis.mono _ _)
   | (with_reducible exact slices_Equal_int_int.mono _ _ _)
   | (with_reducible exact LeO.refl _)
   | (with_reducible exact LeO.none _)
   | (with_reducible refine LeO.ite ?_ ?_)
   | (with_reducible refine LeO.bind ?_ (fun _ => ?_))
   | exact ih0 _ _
   | exact ih1 _ _ _ _
   | exact impl_foldingOfSemi.mono _ _
   | exact impl_isFolding.mono _ _
   | exact impl_isStack.mono _ _
   | exact impl_semis.mono _ _
   | exact slices_Equal_int_int.mono _ _ _
   | exact LeO.none _
   | refine LeO.ite ?_ ?_
   | refine LeO.bind ?_ (fun _ => ?_)
theorem impl_SemiOfFolding.mono : ∀ a0 k, LeO (impl_SemiOfFolding.f k a0) (impl_SemiOfFolding.f (k + 1) a0) := by
 intro a0 k; obtain ⟨ih0, ih1⟩ := impl_SemiOfFolding.mono_l k; unfold impl_SemiOfFolding.f
 repeat' first
   | (with_reducible exact ih0 _ _)
   | (with_reducible exact ih1 _ _ _ _)
   | (with_reducible exact impl_foldingOfSemi.mono _ _)
   | (with_reducible exact impl_isFolding.mono _ _)
   | (with_reducible exact impl_isStack.mono _ _)
   | (with_reducible exact impl_semis.mono _ _)
   | (with_reducible exact slices_Equal_int_int.mono _ _ _)
   | (with_reducible exact LeO.refl _)
   | (with_reducible exact LeO.none _)
   | (with_reducible refine LeO.ite ?_ ?_)
   | (with_reducible refine LeO.bind ?_ (fun _ => ?_))
   | exact ih0 _ _
   | exact ih1 _ _ _ _
   | exact impl_foldingOfSemi.mono _ _
   | exact impl_isFolding.mono _ _
   | exact impl_isStack.mono _ _
   | exact impl_semis.mono _ _
   | exact slices_Equal_int_int.mono _ _ _
   | exact LeO.none _
   | refine LeO.ite ?_ ?_
   | refine LeO.bind ?_ (fun _ => ?_)
theorem impl_SemiOfFolding.calls (k : Nat) (A0 : Option Addr) (c0 : Nat) (l0 : List Int) (r1 : List Int) (r2 : Bool) (w : World) (hr0 : Kd.C (Kd.int .i64) w A0 l0.length l0) (hc0 : l0.length ≤ c0) (h : impl_SemiOfFolding.f k l0 = some (r1, r2)) :
  Calls Tryz.prog 32 #[.slice A0 l0.length c0] w fun e w' => ∃ v0_ : Value, e = .returned (.tuple #[v0_, .bool r2]) ∧ Kd.R (Kd.int .i64) 3 w' w.heap.size (fun _ => True) v0_ r1 ∧ Below w.heap.size w w' := by
 have HR0 := Aside0.mk hr0; have HC0 := Aside0.mk hc0; clear hr0 hc0; have HB := Aside0.mk (Below.refl w.heap.size w); have H : ((impl_isStack.f k l0).bind fun t635 => (if t635 = true then (if (l0.length : Int) > 6 then (impl_SemiOfFolding.j0 k l0 true) else ((impl_isFolding.f k l0).bind fun t636 => (if t636 = true then (if 0 < (l0.length : Int) then (impl_SemiOfFolding.j0 k l0 ((rd l0 0) != 0)) else (none)) else (impl_SemiOfFolding.j0 k l0 true)))) else (impl_SemiOfFolding.j0 k l0 true))) = some (r1, r2) := h; clear h; have HC2 := Aside0.mk H; clear H; go_enter Tryz.func32, Tryz.ntmps32
 go_upto_region 1 with (fail)
 go_cut [24] (fun v24 wc => ∃ (kq : Nat) (x24_1 : Bool), v24 = .bool x24_1 ∧ Aside0 (impl_SemiOfFolding.j0 kq l0 x24_1 = some (r1, r2)) ∧ Aside0 (kq ≤ k) ∧ Aside0 (Below w.heap.size w wc))
 case first =>
  have H := HC2.out; clear HC2; obtain ⟨t635, A3, H⟩ := bi H; (try dsimp only at H)
  by_cases c4 : t635 = true
  ·subst c4; rw [if_pos rfl] at H
   by_cases c5 : (l0.length : Int) > 6
   ·rw [if_pos c5] at H; have c5b0 := decide_eq_true c5; have c5b1 : decide (6 < l0.length) = true := decide_eq_true (by omega); clear c5; (first | rw [c5b0] | (simp only [i64_w, i32_w]; rw [c5b0]) | skip); have H' := Aside0.mk H; clear H; go_wp2_with (first | (go_at_call 53; (with_reducible refine (impl_isStack.calls k _ _ l0 true _ ?side1 HC0.out A3.out).mono ?_); (case side1 => exact cw (Kd.C_below HR0.out HB.out)); rintro e w6 ⟨rfl, hb⟩; replace HB := bst HB hb)); go_meet
    case rel => exact ⟨_, (true), (sr2), H', ⟨by first | omega | exact Nat.le_refl _⟩, ⟨bl HB.out⟩⟩
   rw [if_neg c5] at H; have c5b0 := decide_eq_false c5; have c5b1 : decide (6 < l0.length) = false := decide_eq_false (by omega); clear c5; (first | rw [c5b0] | (simp only [i64_w, i32_w]; rw [c5b0]) | skip); obtain ⟨t636, A7, H⟩ := bi H; (try dsimp only at H)
   by_cases c8 : t636 = true
   ·subst c8; rw [if_pos rfl] at H
    by_cases c9 : 0 < (l0.length : Int)
    ·rw [if_pos c9] at H; have c9b0 := decide_eq_true c9; have c9b1 : decide (0 < l0.length) = true := decide_eq_true (by omega); clear c9; have H' := Aside0.mk H; clear H; go_wp2_with (first | (go_at_call 53; (with_reducible refine (impl_isStack.calls k _ _ l0 true _ ?side1 HC0.out A3.out).mono ?_); (case side1 => exact cw (Kd.C_below HR0.out HB.out)); rintro e w10 ⟨rfl, hb⟩; replace HB := bst HB hb) | (go_at_call 54; (with_reducible refine (impl_isFolding.calls k _ _ l0 true _ ?side1 HC0.out A7.out).mono ?_); (case side1 => exact cw (Kd.C_below HR0.out HB.out)); rintro e w11 ⟨rfl, hb⟩; replace HB := bst HB hb; have p637 : 0 ≤ (0 : Int) := (by omega); have q637 : 0 < (l0.length : Int) := od; obtain ⟨ad637, e637, hx637_0⟩ := Kd.at_int HR0.out 0 p637 q637; cases e637; have qi637 : (0 < l0.length) = True := eq_true (by omega); (try rw [show ((0 : Int)).toNat = 0 from rfl] at hx637_0); (try rw [Addr.add_zero'] at hx637_0); replace hx637_0 := hbx HB hx637_0; replace p637 := eq_true p637; replace q637 := eq_true q637)); go_meet
     case rel => exact ⟨_, (((rd l0 0) != 0)), (sr2), H', ⟨by first | omega | exact Nat.le_refl _⟩, ⟨bl HB.out⟩⟩
    rw [if_neg c9] at H; exact absurd H (by simp)
   replace c8 := Bool.eq_false_iff.mpr c8; subst c8; rw [if_neg (show ¬ (false = true) by decide)] at H; have H' := Aside0.mk H; clear H; go_wp2_with (first | (go_at_call 53; (with_reducible refine (impl_isStack.calls k _ _ l0 true _ ?side1 HC0.out A3.out).mono ?_); (case side1 => exact cw (Kd.C_below HR0.out HB.out)); rintro e w12 ⟨rfl, hb⟩; replace HB := bst HB hb) | (go_at_call 54; (with_reducible refine (impl_isFolding.calls k _ _ l0 false _ ?side1 HC0.out A7.out).mono ?_); (case side1 => exact cw (Kd.C_below HR0.out HB.out)); rintro e w13 ⟨rfl, hb⟩; replace HB := bst HB hb)); go_meet
   case rel => exact ⟨_, (true), (sr2), H', ⟨by first | omega | exact Nat.le_refl _⟩, ⟨bl HB.out⟩⟩
  replace c4 := Bool.eq_false_iff.mpr c4; subst c4; rw [if_neg (show ¬ (false = true) by decide)] at H; have H' := Aside0.mk H; clear H; go_wp2_with (first | (go_at_call 53; (with_reducible refine (impl_isStack.calls k _ _ l0 false _ ?side1 HC0.out A3.out).mono ?_); (case side1 => exact cw (Kd.C_below HR0.out HB.out)); rintro e w14 ⟨rfl, hb⟩; replace HB := bst HB hb)); go_meet
  case rel => exact ⟨_, (true), (sr2), H', ⟨by first | omega | exact Nat.le_refl _⟩, ⟨bl HB.out⟩⟩
 case rest =>
  clear HC2; obtain ⟨kq, x24_1, rfl, HA, HJ1, HB⟩ := hcut
  cases kq with
  | zero => exact absurd HA.out (by simp [impl_SemiOfFolding.j0])
  | succ kj1 =>
   have H := HA.out; clear HA; simp only [impl_SemiOfFolding.j0] at H
   by_cases c15 : x24_1 = true
   ·subst c15; rw [if_pos rfl] at H; simp only [Option.some.injEq, Prod.mk.injEq] at H; obtain ⟨rfl, rfl⟩ := H; go_wp2; go_ret2; exact ⟨_, sr, by first | exact Kd.R_nil _ _ _ _ _ | exact Kd.N_nil _ _ _ _ _ | exact Kd.V_nil _ _ _ _ _ | exact Kd.Q_nil _ _ _ _ _ | exact Kd.S_nil _ _ _ _ _, bl HB.out⟩
   replace c15 := Bool.eq_false_iff.mpr c15; subst c15; rw [if_neg (show ¬ (false = true) by decide)] at H; obtain ⟨t638, A16, H⟩ := bi H; (try dsimp only at H); have H' := Aside0.mk H; clear H; go_wp2_with (first | (go_at_call 52; (with_reducible refine (impl_semis.calls kj1 (l0.length : Int) t638 _ A16.out).mono ?_); rintro e w17 ⟨v639, rfl, ho0, hb⟩; have HO640 := Aside0.mk (Kd.S_lower ho0 (below_size (bl HB.out))); replace HB := bst HB hb; obtain ⟨Ao18, co18, eo18⟩ := Kd.S_slice HO640.out; subst eo18))
   go_loopg [29] kj1 (fun kq v29 w' => ∃ (x29_2 : Int), v29 = .int .i64 x29_2 ∧ Aside0 (impl_SemiOfFolding.l0 kq l0 t638 (t638.length : Int) x29_2 = some (r1, r2)) ∧ Aside0 (kq ≤ kj1) ∧ Aside0 (Kd.S (Kd.slice 3 (Kd.int .i64)) 31 w' w.heap.size (fun _ => True) (.slice Ao18 t638.length co18) t638) ∧ Aside0 (Below w.heap.size w w'))
   case atStart => exact ⟨(0), (sr2), H', ⟨Nat.le_refl _⟩, ⟨rS HO640.out⟩, ⟨bl HB.out⟩⟩
   case round =>
    clear H'; obtain ⟨x29_2, rfl, HA, HK2, HO_27, HB⟩ := hrel
    cases gk with
    | zero => exact absurd HA.out (by simp [impl_SemiOfFolding.l0])
    | succ k2 =>
     have H := HA.out; clear HA; simp only [impl_SemiOfFolding.l0] at H
     by_cases c19 : x29_2 < (t638.length : Int)
     ·rw [if_pos c19] at H; have c19b0 := decide_eq_true c19; clear c19
      by_cases c20 : 0 ≤ x29_2
      ·rw [if_pos c20] at H; have c20b0 := decide_eq_true c20; clear c20
       by_cases c21 : x29_2 < (t638.length : Int)
       ·rw [if_pos c21] at H; have c21b0 := decide_eq_true c21; clear c21; obtain ⟨t642, A22, H⟩ := bi H; (try dsimp only at H); obtain ⟨t645, A23, H⟩ := bi H; (try dsimp only at H)
        by_cases c24 : t645 = true
        ·subst c24; rw [if_pos rfl] at H; simp only [Option.some.injEq, Prod.mk.injEq] at H; obtain ⟨rfl, rfl⟩ := H; have p641 : 0 ≤ (x29_2 : Int) := od; have q641 : x29_2 < (t638.length : Int) := od; obtain ⟨ad641, A641_0, c641_0, e641, hx641_0, hl641_0, hi641_0⟩ := at_L2 (Kd.S_reads' HO_27.out).2.2 x29_2 p641 q641; cases e641; obtain ⟨ce641, hce641, hMe641, hcc641⟩ := Kd.S_get HO_27.out [] x29_2 p641 (by first | exact q641 | exact od | (have e_ := (Kd.S_reads' HO_27.out).1; omega)); obtain ⟨ve641_0, rfl, ge641_0⟩ := hMe641; have hv641_0 := hcc641 0 _ rfl; rw [Nat.add_zero, show ((Kd.slice 3 (Kd.int .i64))).sz = 1 from rfl, Nat.mul_one] at hv641_0; replace hv641_0 := Option.some.inj (hv641_0.symm.trans hx641_0); rw [hv641_0] at ge641_0; have HL641_0 := Aside0.mk (show Kd.R (Kd.int .i64) 3 _ _ _ _ (rd_L2 t638 x29_2) from ge641_0); clear hv641_0 ge641_0; clear hcc641 hce641; have HR641_0 := Aside0.mk hi641_0; have HC641_0 := Aside0.mk hl641_0; clear hi641_0 hl641_0; replace p641 := eq_true p641; replace q641 := eq_true q641; go_wp2_with (first | (go_at_call 67; (with_reducible refine (impl_foldingOfSemi.calls k2 _ _ (rd_L2 t638 x29_2) t642 _ ?side1 HC641_0.out A22.out).mono ?_); (case side1 => repeat (first | exact (by repeat (first | (with_reducible exact HR641_0.out) | (with_reducible refine Kd.C_alloc ?_ _) | (with_reducible refine Kd.C_drewN ?_ _) | (with_reducible refine Kd.C_drew ?_) | exact HR641_0.out)) | (with_reducible refine Kd.C_alloc ?_ _) | (with_reducible refine Kd.C_drewN ?_ _) | (with_reducible refine Kd.C_drew ?_))); rintro e w25 ⟨v643, rfl, ho0, hb⟩; replace HO_27 := Aside0.mk (Kd.S_elder' (rS HO_27.out) (Kd.R_base ho0) hb); have HO644 := Aside0.mk (Kd.R_lower (Kd.R_new' ho0 (Kd.R_lt (rR HL641_0.out))) (below_size (bl HB.out))); replace HL641_0 := Aside0.mk (Kd.R_elder' (rR HL641_0.out) (Kd.R_base ho0) hb); replace HR641_0 := Aside0.mk (Kd.C_below (by repeat (first | (with_reducible exact HR641_0.out) | (with_reducible refine Kd.C_alloc ?_ _) | (with_reducible refine Kd.C_drewN ?_ _) | (with_reducible refine Kd.C_drew ?_) | exact HR641_0.out)) hb); replace HB := bst HB hb; obtain ⟨Ao26, co26, eo26⟩ := Kd.R_slice HO644.out; subst eo26) | (go_at_call 70; (with_reducible refine (slices_Equal_int_int.calls k2 _ _ t642 _ _ l0 true _ ?side1 ?side2 ?side3 HC0.out A23.out).mono ?_); (case side1 => exact cw ((Kd.R_reads' HO644.out).2.2)); (case side2 => exact (Kd.R_reads' HO644.out).2.1); (case side3 => exact cw (Kd.C_below HR0.out HB.out)); rintro e w' ⟨rfl, ⟨nd, rfl⟩⟩)); go_ret2; exact ⟨_, sr, rR (Kd.R_mono HL641_0.out (fun _ hk => trivial)), bl HB.out⟩
        replace c24 := Bool.eq_false_iff.mpr c24; subst c24; rw [if_neg (show ¬ (false = true) by decide)] at H; have H' := Aside0.mk H; clear H; have p641 : 0 ≤ (x29_2 : Int) := od; have q641 : x29_2 < (t638.length : Int) := od; obtain ⟨ad641, A641_0, c641_0, e641, hx641_0, hl641_0, hi641_0⟩ := at_L2 (Kd.S_reads' HO_27.out).2.2 x29_2 p641 q641; cases e641; obtain ⟨ce641, hce641, hMe641, hcc641⟩ := Kd.S_get HO_27.out [] x29_2 p641 (by first | exact q641 | exact od | (have e_ := (Kd.S_reads' HO_27.out).1; omega)); obtain ⟨ve641_0, rfl, ge641_0⟩ := hMe641; have hv641_0 := hcc641 0 _ rfl; rw [Nat.add_zero, show ((Kd.slice 3 (Kd.int .i64))).sz = 1 from rfl, Nat.mul_one] at hv641_0; replace hv641_0 := Option.some.inj (hv641_0.symm.trans hx641_0); rw [hv641_0] at ge641_0; have HL641_0 := Aside0.mk (show Kd.R (Kd.int .i64) 3 _ _ _ _ (rd_L2 t638 x29_2) from ge641_0); clear hv641_0 ge641_0; clear hcc641 hce641; have HR641_0 := Aside0.mk hi641_0; have HC641_0 := Aside0.mk hl641_0; clear hi641_0 hl641_0; replace p641 := eq_true p641; replace q641 := eq_true q641; go_wp2_with (first | (go_at_call 67; (with_reducible refine (impl_foldingOfSemi.calls k2 _ _ (rd_L2 t638 x29_2) t642 _ ?side1 HC641_0.out A22.out).mono ?_); (case side1 => repeat (first | exact (by repeat (first | (with_reducible exact HR641_0.out) | (with_reducible refine Kd.C_alloc ?_ _) | (with_reducible refine Kd.C_drewN ?_ _) | (with_reducible refine Kd.C_drew ?_) | exact HR641_0.out)) | (with_reducible refine Kd.C_alloc ?_ _) | (with_reducible refine Kd.C_drewN ?_ _) | (with_reducible refine Kd.C_drew ?_))); rintro e w27 ⟨v643, rfl, ho0, hb⟩; replace HO_27 := Aside0.mk (Kd.S_elder' (rS HO_27.out) (Kd.R_base ho0) hb); have HO644 := Aside0.mk (Kd.R_lower (Kd.R_new' ho0 (Kd.R_lt (rR HL641_0.out))) (below_size (bl HB.out))); replace HL641_0 := Aside0.mk (Kd.R_elder' (rR HL641_0.out) (Kd.R_base ho0) hb); replace HR641_0 := Aside0.mk (Kd.C_below (by repeat (first | (with_reducible exact HR641_0.out) | (with_reducible refine Kd.C_alloc ?_ _) | (with_reducible refine Kd.C_drewN ?_ _) | (with_reducible refine Kd.C_drew ?_) | exact HR641_0.out)) hb); replace HB := bst HB hb; obtain ⟨Ao28, co28, eo28⟩ := Kd.R_slice HO644.out; subst eo28) | (go_at_call 70; (with_reducible refine (slices_Equal_int_int.calls k2 _ _ t642 _ _ l0 false _ ?side1 ?side2 ?side3 HC0.out A23.out).mono ?_); (case side1 => exact cw ((Kd.R_reads' HO644.out).2.2)); (case side2 => exact (Kd.R_reads' HO644.out).2.1); (case side3 => exact cw (Kd.C_below HR0.out HB.out)); rintro e w' ⟨rfl, ⟨nd, rfl⟩⟩))
        go_roundg k2
        case measure => have := HJ1.out; have := HK2.out; omega
        case rel => exact ⟨(wrap64 (x29_2 + 1)), (sr2), H', ⟨by have := HJ1.out; have := HK2.out; omega⟩, ⟨rS (Kd.S_mono HO_27.out (fun _ hk => trivial))⟩, ⟨bl HB.out⟩⟩
       rw [if_neg c21] at H; exact absurd H (by simp)
      rw [if_neg c20] at H; exact absurd H (by simp)
     rw [if_neg c19] at H; have c19b0 := decide_eq_false c19; clear c19; simp only [Option.some.injEq, Prod.mk.injEq] at H; obtain ⟨rfl, rfl⟩ := H; go_wp2; go_ret2; exact ⟨_, sr, by first | exact Kd.R_nil _ _ _ _ _ | exact Kd.N_nil _ _ _ _ _ | exact Kd.V_nil _ _ _ _ _ | exact Kd.Q_nil _ _ _ _ _ | exact Kd.S_nil _ _ _ _ _, bl HB.out⟩
/-! ### impl_isArches: function 71 -/
def impl_isArches.f (a0 : Int) : Option (Bool) := (impl_in.f a0 0 6).bind fun t646 => (some t646)
theorem impl_isArches.calls (a0 : Int) (r : Bool) (w : World) (h : impl_isArches.f a0 = some r) :
  Calls Tryz.prog 71 #[.int .i64 a0] w fun e w' => e = .returned (.bool r) ∧ Drawn0 w w' := by
 have H : ((impl_in.f a0 0 6).bind fun t646 => (some t646)) = some r := h; clear h; obtain ⟨t646, A2, H⟩ := bi H; (try dsimp only at H); obtain rfl := Option.some.inj H; go_enter Tryz.func71, Tryz.ntmps71; go_wp2_with (first | (go_at_call 46; (with_reducible refine (impl_in.calls a0 0 6 t646 _ A2.out).mono ?_); rintro e w' ⟨rfl, ⟨nd, rfl⟩⟩)); go_ret; exact ⟨sr2, by repeat (first | exact Drawn0.refl _ | apply Drawn0.step)⟩
/-! ### impl_RainbowOf: function 33 -/
def impl_RainbowOf.f (k : Nat) (a0 : Int) : Option (List Int × Bool) := (impl_isArches.f a0).bind fun t647 => (if t647 = true then ((impl_rainbow.f k a0).bind fun t648 => (some (t648, true))) else (some (([] : List Int), false)))
theorem impl_RainbowOf.mono : ∀ a0 k, LeO (impl_RainbowOf.f k a0) (impl_RainbowOf.f (k + 1) a0) := by
 intro a0 k; unfold impl_RainbowOf.f
 repeat' first
   | (with_reducible exact impl_rainbow.mono _ _)
   | (with_reducible exact LeO.refl _)
   | (with_reducible exact LeO.none _)
   | (with_reducible refine LeO.ite ?_ ?_)
   | (with_reducible refine LeO.bind ?_ (fun _ => ?_))
   | exact impl_rainbow.mono _ _
   | exact LeO.none _
   | refine LeO.ite ?_ ?_
   | refine LeO.bind ?_ (fun _ => ?_)
theorem impl_RainbowOf.calls (k : Nat) (a0 : Int) (r1 : List Int) (r2 : Bool) (w : World) (h : impl_RainbowOf.f k a0 = some (r1, r2)) :
  Calls Tryz.prog 33 #[.int .i64 a0] w fun e w' => ∃ v0_ : Value, e = .returned (.tuple #[v0_, .bool r2]) ∧ Kd.R (Kd.int .i64) 3 w' w.heap.size (fun _ => True) v0_ r1 ∧ Below w.heap.size w w' := by
 have HB := Aside0.mk (Below.refl w.heap.size w); have H : ((impl_isArches.f a0).bind fun t647 => (if t647 = true then ((impl_rainbow.f k a0).bind fun t648 => (some (t648, true))) else (some (([] : List Int), false)))) = some (r1, r2) := h; clear h; obtain ⟨t647, A2, H⟩ := bi H; (try dsimp only at H)
 by_cases c3 : t647 = true
 ·subst c3; rw [if_pos rfl] at H; obtain ⟨t648, A4, H⟩ := bi H; (try dsimp only at H); simp only [Option.some.injEq, Prod.mk.injEq] at H; obtain ⟨rfl, rfl⟩ := H; go_enter Tryz.func33, Tryz.ntmps33; go_wp2_with (first | (go_at_call 71; (with_reducible refine (impl_isArches.calls a0 true _ A2.out).mono ?_); rintro e w' ⟨rfl, ⟨nd, rfl⟩⟩) | (go_at_call 72; (with_reducible refine (impl_rainbow.calls k a0 t648 _ A4.out).mono ?_); rintro e w5 ⟨v649, rfl, ho0, hb⟩; have HO650 := Aside0.mk (Kd.R_lower ho0 (below_size (bl HB.out))); replace HB := bst HB hb)); go_ret2; exact ⟨_, sr, rR HO650.out, bl HB.out⟩
 replace c3 := Bool.eq_false_iff.mpr c3; subst c3; rw [if_neg (show ¬ (false = true) by decide)] at H; simp only [Option.some.injEq, Prod.mk.injEq] at H; obtain ⟨rfl, rfl⟩ := H; go_enter Tryz.func33, Tryz.ntmps33; go_wp2_with (first | (go_at_call 71; (with_reducible refine (impl_isArches.calls a0 false _ A2.out).mono ?_); rintro e w' ⟨rfl, ⟨nd, rfl⟩⟩)); go_ret2; exact ⟨_, sr, by first | exact Kd.R_nil _ _ _ _ _ | exact Kd.N_nil _ _ _ _ _ | exact Kd.V_nil _ _ _ _ _ | exact Kd.Q_nil _ _ _ _ _ | exact Kd.S_nil _ _ _ _ _, bl HB.out⟩
/-! ### impl_IsPair: function 73 -/
def impl_IsPair.f (k : Nat) (l0_0 : List Int) (l0_1 : List Int) : Option (Bool) := (impl_IsSystem.f k l0_0).bind fun t652 => (if t652 = true then ((impl_IsSystem.f k l0_1).bind fun t653 => (if t653 = true then (some ((l0_0.length : Int) == (l0_1.length : Int))) else (some false))) else (some false))
theorem impl_IsPair.mono : ∀ a0 a1 k, LeO (impl_IsPair.f k a0 a1) (impl_IsPair.f (k + 1) a0 a1) := by
 intro a0 a1 k; unfold impl_IsPair.f
 repeat' first
   | (with_reducible exact impl_IsSystem.mono _ _)
   | (with_reducible exact LeO.refl _)
   | (with_reducible exact LeO.none _)
   | (with_reducible refine LeO.ite ?_ ?_)
   | (with_reducible refine LeO.bind ?_ (fun _ => ?_))
   | exact impl_IsSystem.mono _ _
   | exact LeO.none _
   | refine LeO.ite ?_ ?_
   | refine LeO.bind ?_ (fun _ => ?_)
theorem impl_IsPair.calls (k : Nat) (A0_0 : Option Addr) (c0_0 : Nat) (l0_0 : List Int) (A0_1 : Option Addr) (c0_1 : Nat) (l0_1 : List Int) (r : Bool) (w : World) (hr0_0 : Kd.C (Kd.int .i64) w A0_0 l0_0.length l0_0) (hc0_0 : l0_0.length ≤ c0_0) (hr0_1 : Kd.C (Kd.int .i64) w A0_1 l0_1.length l0_1) (hc0_1 : l0_1.length ≤ c0_1) (h : impl_IsPair.f k l0_0 l0_1 = some r) :
  Calls Tryz.prog 73 #[.agg #[.slice A0_0 l0_0.length c0_0, .slice A0_1 l0_1.length c0_1]] w fun e w' => e = .returned (.bool r) ∧ Below w.heap.size w w' := by
 have hu45 := Tryz.underlying45; have HR0_0 := Aside0.mk hr0_0; have HC0_0 := Aside0.mk hc0_0; clear hr0_0 hc0_0; have HR0_1 := Aside0.mk hr0_1; have HC0_1 := Aside0.mk hc0_1; clear hr0_1 hc0_1; have HB := Aside0.mk (Below.refl w.heap.size w); have H : ((impl_IsSystem.f k l0_0).bind fun t652 => (if t652 = true then ((impl_IsSystem.f k l0_1).bind fun t653 => (if t653 = true then (some ((l0_0.length : Int) == (l0_1.length : Int))) else (some false))) else (some false))) = some r := h; clear h; obtain ⟨t652, A2, H⟩ := bi H; (try dsimp only at H)
 by_cases c3 : t652 = true
 ·subst c3; rw [if_pos rfl] at H; obtain ⟨t653, A4, H⟩ := bi H; (try dsimp only at H)
  by_cases c5 : t653 = true
  ·subst c5; rw [if_pos rfl] at H; obtain rfl := Option.some.inj H; go_enter Tryz.func73, Tryz.ntmps73; go_wp2_with (first | ((with_reducible refine gate_dst (N := 1) rfl ?_); (try (refine gate_guard (by rfl) ?_; dsimp only)); refine box_event ?hg (N := 1) ?hd (cs := #[.slice A0_0 l0_0.length c0_0, .slice A0_1 l0_1.length c0_1]) (t := 45) ?hr ?_; (case hd => rfl); (case hg => rfl); (case hr => first | (go_simp; done) | (go_simp; rfl)); intro gb651 hg w6 hbox hb; have BK651 := Aside0.mk (hbox); have GW651 := Aside0.mk ((by rw [hg]; exact (below_size (bl HB.out)) : w.heap.size ≤ gb651)); have GE651 := Aside0.mk ((by rw [hg]; exact (below_size (bl HB.out)) : w.heap.size ≤ gb651)); replace HB := bst HB hb; clear hb hbox hg; have hcz7_0 : w6.cell? ⟨gb651, 0, none⟩ = some (.slice A0_0 l0_0.length c0_0) := (blk_cell BK651.out 0).trans rfl; have hcz7_1 : w6.cell? ⟨gb651, 1, none⟩ = some (.slice A0_1 l0_1.length c0_1) := (blk_cell BK651.out 1).trans rfl; have hfz7_0 := blk_frozen BK651.out 0; have hfz7_1 := blk_frozen BK651.out 1) | (go_at_call 65; (with_reducible refine (impl_IsSystem.calls k _ _ l0_0 true _ ?side1 HC0_0.out A2.out).mono ?_); (case side1 => exact cw (Kd.C_below HR0_0.out HB.out)); rintro e w' ⟨rfl, ⟨nd, rfl⟩⟩) | (go_at_call 65; (with_reducible refine (impl_IsSystem.calls k _ _ l0_1 true _ ?side1 HC0_1.out A4.out).mono ?_); (case side1 => exact cw (Kd.C_below HR0_1.out (bs1 HB.out GE651.out))); rintro e w' ⟨rfl, ⟨nd, rfl⟩⟩)); go_ret; exact ⟨sr, bs1 HB.out GE651.out⟩
  replace c5 := Bool.eq_false_iff.mpr c5; subst c5; rw [if_neg (show ¬ (false = true) by decide)] at H; obtain rfl := Option.some.inj H; go_enter Tryz.func73, Tryz.ntmps73; go_wp2_with (first | ((with_reducible refine gate_dst (N := 1) rfl ?_); (try (refine gate_guard (by rfl) ?_; dsimp only)); refine box_event ?hg (N := 1) ?hd (cs := #[.slice A0_0 l0_0.length c0_0, .slice A0_1 l0_1.length c0_1]) (t := 45) ?hr ?_; (case hd => rfl); (case hg => rfl); (case hr => first | (go_simp; done) | (go_simp; rfl)); intro gb651 hg w8 hbox hb; have BK651 := Aside0.mk (hbox); have GW651 := Aside0.mk ((by rw [hg]; exact (below_size (bl HB.out)) : w.heap.size ≤ gb651)); have GE651 := Aside0.mk ((by rw [hg]; exact (below_size (bl HB.out)) : w.heap.size ≤ gb651)); replace HB := bst HB hb; clear hb hbox hg; have hcz9_0 : w8.cell? ⟨gb651, 0, none⟩ = some (.slice A0_0 l0_0.length c0_0) := (blk_cell BK651.out 0).trans rfl; have hcz9_1 : w8.cell? ⟨gb651, 1, none⟩ = some (.slice A0_1 l0_1.length c0_1) := (blk_cell BK651.out 1).trans rfl; have hfz9_0 := blk_frozen BK651.out 0; have hfz9_1 := blk_frozen BK651.out 1) | (go_at_call 65; (with_reducible refine (impl_IsSystem.calls k _ _ l0_0 true _ ?side1 HC0_0.out A2.out).mono ?_); (case side1 => exact cw (Kd.C_below HR0_0.out HB.out)); rintro e w' ⟨rfl, ⟨nd, rfl⟩⟩) | (go_at_call 65; (with_reducible refine (impl_IsSystem.calls k _ _ l0_1 false _ ?side1 HC0_1.out A4.out).mono ?_); (case side1 => exact cw (Kd.C_below HR0_1.out (bs1 HB.out GE651.out))); rintro e w' ⟨rfl, ⟨nd, rfl⟩⟩)); go_ret; exact ⟨sr, bs1 HB.out GE651.out⟩
 replace c3 := Bool.eq_false_iff.mpr c3; subst c3; rw [if_neg (show ¬ (false = true) by decide)] at H; obtain rfl := Option.some.inj H; go_enter Tryz.func73, Tryz.ntmps73; go_wp2_with (first | ((with_reducible refine gate_dst (N := 1) rfl ?_); (try (refine gate_guard (by rfl) ?_; dsimp only)); refine box_event ?hg (N := 1) ?hd (cs := #[.slice A0_0 l0_0.length c0_0, .slice A0_1 l0_1.length c0_1]) (t := 45) ?hr ?_; (case hd => rfl); (case hg => rfl); (case hr => first | (go_simp; done) | (go_simp; rfl)); intro gb651 hg w10 hbox hb; have BK651 := Aside0.mk (hbox); have GW651 := Aside0.mk ((by rw [hg]; exact (below_size (bl HB.out)) : w.heap.size ≤ gb651)); have GE651 := Aside0.mk ((by rw [hg]; exact (below_size (bl HB.out)) : w.heap.size ≤ gb651)); replace HB := bst HB hb; clear hb hbox hg; have hcz11_0 : w10.cell? ⟨gb651, 0, none⟩ = some (.slice A0_0 l0_0.length c0_0) := (blk_cell BK651.out 0).trans rfl; have hcz11_1 : w10.cell? ⟨gb651, 1, none⟩ = some (.slice A0_1 l0_1.length c0_1) := (blk_cell BK651.out 1).trans rfl; have hfz11_0 := blk_frozen BK651.out 0; have hfz11_1 := blk_frozen BK651.out 1) | (go_at_call 65; (with_reducible refine (impl_IsSystem.calls k _ _ l0_0 false _ ?side1 HC0_0.out A2.out).mono ?_); (case side1 => exact cw (Kd.C_below HR0_0.out HB.out)); rintro e w' ⟨rfl, ⟨nd, rfl⟩⟩)); go_ret; exact ⟨sr, bs1 HB.out GE651.out⟩
/-! ### impl_IsMeander: function 34 -/
def impl_IsMeander.f (k : Nat) (l0_0 : List Int) (l0_1 : List Int) : Option (Bool × Bool) := (impl_IsPair.f k l0_0 l0_1).bind fun t655 => (if t655 = true then ((impl_Meander_isOne.f k l0_0 l0_1).bind fun t656 => (some (t656, true))) else (some (false, false)))
theorem impl_IsMeander.mono : ∀ a0 a1 k, LeO (impl_IsMeander.f k a0 a1) (impl_IsMeander.f (k + 1) a0 a1) := by
 intro a0 a1 k; unfold impl_IsMeander.f
 repeat' first
   | (with_reducible exact impl_IsPair.mono _ _ _)
   | (with_reducible exact impl_Meander_isOne.mono _ _ _)
   | (with_reducible exact LeO.refl _)
   | (with_reducible exact LeO.none _)
   | (with_reducible refine LeO.ite ?_ ?_)
   | (with_reducible refine LeO.bind ?_ (fun _ => ?_))
   | exact impl_IsPair.mono _ _ _
   | exact impl_Meander_isOne.mono _ _ _
   | exact LeO.none _
   | refine LeO.ite ?_ ?_
   | refine LeO.bind ?_ (fun _ => ?_)
theorem impl_IsMeander.calls (k : Nat) (A0_0 : Option Addr) (c0_0 : Nat) (l0_0 : List Int) (A0_1 : Option Addr) (c0_1 : Nat) (l0_1 : List Int) (r1 : Bool) (r2 : Bool) (w : World) (hr0_0 : Kd.C (Kd.int .i64) w A0_0 l0_0.length l0_0) (hc0_0 : l0_0.length ≤ c0_0) (hr0_1 : Kd.C (Kd.int .i64) w A0_1 l0_1.length l0_1) (hc0_1 : l0_1.length ≤ c0_1) (h : impl_IsMeander.f k l0_0 l0_1 = some (r1, r2)) :
  Calls Tryz.prog 34 #[.agg #[.slice A0_0 l0_0.length c0_0, .slice A0_1 l0_1.length c0_1]] w fun e w' => e = .returned (.tuple #[.bool r1, .bool r2]) ∧ Below w.heap.size w w' := by
 have hu45 := Tryz.underlying45; have HR0_0 := Aside0.mk hr0_0; have HC0_0 := Aside0.mk hc0_0; clear hr0_0 hc0_0; have HR0_1 := Aside0.mk hr0_1; have HC0_1 := Aside0.mk hc0_1; clear hr0_1 hc0_1; have HB := Aside0.mk (Below.refl w.heap.size w); have H : ((impl_IsPair.f k l0_0 l0_1).bind fun t655 => (if t655 = true then ((impl_Meander_isOne.f k l0_0 l0_1).bind fun t656 => (some (t656, true))) else (some (false, false)))) = some (r1, r2) := h; clear h; obtain ⟨t655, A2, H⟩ := bi H; (try dsimp only at H)
 by_cases c3 : t655 = true
 ·subst c3; rw [if_pos rfl] at H; obtain ⟨t656, A4, H⟩ := bi H; (try dsimp only at H); simp only [Option.some.injEq, Prod.mk.injEq] at H; obtain ⟨rfl, rfl⟩ := H; go_enter Tryz.func34, Tryz.ntmps34; go_wp2_with (first | ((with_reducible refine gate_dst (N := 1) rfl ?_); refine box_event ?hg (N := 1) ?hd (cs := #[.slice A0_0 l0_0.length c0_0, .slice A0_1 l0_1.length c0_1]) (t := 45) ?hr ?_; (case hd => rfl); (case hg => rfl); (case hr => first | (go_simp; done) | (go_simp; rfl)); intro gb654 hg w5 hbox hb; have BK654 := Aside0.mk (hbox); have GW654 := Aside0.mk ((by rw [hg]; exact (below_size (bl HB.out)) : w.heap.size ≤ gb654)); have GE654 := Aside0.mk ((by rw [hg]; exact (below_size (bl HB.out)) : w.heap.size ≤ gb654)); replace HB := bst HB hb; clear hb hbox hg; have hcz6_0 : w5.cell? ⟨gb654, 0, none⟩ = some (.slice A0_0 l0_0.length c0_0) := (blk_cell BK654.out 0).trans rfl; have hcz6_1 : w5.cell? ⟨gb654, 1, none⟩ = some (.slice A0_1 l0_1.length c0_1) := (blk_cell BK654.out 1).trans rfl; have hfz6_0 := blk_frozen BK654.out 0; have hfz6_1 := blk_frozen BK654.out 1) | (go_at_call 73; (with_reducible refine (impl_IsPair.calls k _ _ l0_0 _ _ l0_1 true _ ?side1 ?side2 ?side3 HC0_1.out A2.out).mono ?_); (case side1 => exact cw (Kd.C_below HR0_0.out HB.out)); (case side2 => exact HC0_0.out); (case side3 => exact cw (Kd.C_below HR0_1.out HB.out)); rintro e w7 ⟨rfl, hb⟩; replace BK654 := bkb BK654 hb; replace HB := Aside0.mk (below_step (bs1 HB.out GE654.out) hb); have hcz8_0 : w7.cell? ⟨gb654, 0, none⟩ = some (.slice A0_0 l0_0.length c0_0) := (blk_cell BK654.out 0).trans rfl; have hcz8_1 : w7.cell? ⟨gb654, 1, none⟩ = some (.slice A0_1 l0_1.length c0_1) := (blk_cell BK654.out 1).trans rfl; have hfz8_0 := blk_frozen BK654.out 0; have hfz8_1 := blk_frozen BK654.out 1) | (go_at_call 74; (with_reducible refine (impl_Meander_isOne.calls k _ _ l0_0 _ _ l0_1 t656 _ ?side1 ?side2 ?side3 HC0_1.out A4.out).mono ?_); (case side1 => exact cw (Kd.C_below HR0_0.out HB.out)); (case side2 => exact HC0_0.out); (case side3 => exact cw (Kd.C_below HR0_1.out HB.out)); rintro e w9 ⟨rfl, hb⟩; replace BK654 := bkb BK654 hb; replace HB := Aside0.mk (below_step (bs1 HB.out GE654.out) hb))); go_ret2; exact ⟨sr, bs1 HB.out GE654.out⟩
 replace c3 := Bool.eq_false_iff.mpr c3; subst c3; rw [if_neg (show ¬ (false = true) by decide)] at H; simp only [Option.some.injEq, Prod.mk.injEq] at H; obtain ⟨rfl, rfl⟩ := H; go_enter Tryz.func34, Tryz.ntmps34; go_wp2_with (first | ((with_reducible refine gate_dst (N := 1) rfl ?_); refine box_event ?hg (N := 1) ?hd (cs := #[.slice A0_0 l0_0.length c0_0, .slice A0_1 l0_1.length c0_1]) (t := 45) ?hr ?_; (case hd => rfl); (case hg => rfl); (case hr => first | (go_simp; done) | (go_simp; rfl)); intro gb654 hg w10 hbox hb; have BK654 := Aside0.mk (hbox); have GW654 := Aside0.mk ((by rw [hg]; exact (below_size (bl HB.out)) : w.heap.size ≤ gb654)); have GE654 := Aside0.mk ((by rw [hg]; exact (below_size (bl HB.out)) : w.heap.size ≤ gb654)); replace HB := bst HB hb; clear hb hbox hg; have hcz11_0 : w10.cell? ⟨gb654, 0, none⟩ = some (.slice A0_0 l0_0.length c0_0) := (blk_cell BK654.out 0).trans rfl; have hcz11_1 : w10.cell? ⟨gb654, 1, none⟩ = some (.slice A0_1 l0_1.length c0_1) := (blk_cell BK654.out 1).trans rfl; have hfz11_0 := blk_frozen BK654.out 0; have hfz11_1 := blk_frozen BK654.out 1) | (go_at_call 73; (with_reducible refine (impl_IsPair.calls k _ _ l0_0 _ _ l0_1 false _ ?side1 ?side2 ?side3 HC0_1.out A2.out).mono ?_); (case side1 => exact cw (Kd.C_below HR0_0.out HB.out)); (case side2 => exact HC0_0.out); (case side3 => exact cw (Kd.C_below HR0_1.out HB.out)); rintro e w12 ⟨rfl, hb⟩; replace BK654 := bkb BK654 hb; replace HB := Aside0.mk (below_step (bs1 HB.out GE654.out) hb))); go_ret2; exact ⟨sr, bs1 HB.out GE654.out⟩
/-! ### impl_winding: function 75 -/
def impl_winding.l0 : Nat → List Int → Int → List Int → Int → Int → Option (Int)
 | 0, _, _, _, _, _ => none
 | k + 1, x0, x3, x10, x11, x12 => if x12 < x11 then (if 0 ≤ x12 then (if x12 < (x10.length : Int) then (if (rd x10 x12) ≥ (wrap64 ((x0.length : Int) / 2)) then (impl_winding.l0 k x0 (wrap64 (x3 + 1)) x10 x11 (wrap64 (x12 + 1))) else (impl_winding.l0 k x0 x3 x10 x11 (wrap64 (x12 + 1)))) else (none)) else (none)) else (some x3)
def impl_winding.f (k : Nat) (l0 : List Int) : Option (Int) := if 0 ≤ (wrap64 ((l0.length : Int) / 2)) then (if (wrap64 ((l0.length : Int) / 2)) ≤ (l0.length : Int) then (impl_winding.l0 k l0 0 (l0.take ((wrap64 ((l0.length : Int) / 2)) : Int).toNat) ((l0.take ((wrap64 ((l0.length : Int) / 2)) : Int).toNat).length : Int) 0) else (none)) else (none)
theorem impl_winding.mono_l : ∀ k, (∀ y0 y1 y2 y3 y4, LeO (impl_winding.l0 k y0 y1 y2 y3 y4) (impl_winding.l0 (k + 1) y0 y1 y2 y3 y4))
 | 0 => fun _ _ _ _ _ r h => by simp [impl_winding.l0] at h
 | k + 1 => by
  have ih0 := impl_winding.mono_l k
  ·intro y0 y1 y2 y3 y4
   unfold impl_winding.l0
   repeat' first
   | (with_reducible exact ih0 _ _ _ _ _)
   | (with_reducible exact LeO.refl _)
   | (with_reducible exact LeO.none _)
   | (with_reducible refine LeO.ite ?_ ?_)
   | (with_reducible refine LeO.bind ?_ (fun _ => ?_))
   | exact ih0 _ _ _ _ _
   | exact LeO.none _
   | refine LeO.ite ?_ ?_
   | refine LeO.bind ?_ (fun _ => ?_)
theorem impl_winding.mono : ∀ a0 k, LeO (impl_winding.f k a0) (impl_winding.f (k + 1) a0) := by
 intro a0 k; have ih0 := impl_winding.mono_l k; unfold impl_winding.f
 repeat' first
   | (with_reducible exact ih0 _ _ _ _ _)
   | (with_reducible exact LeO.refl _)
   | (with_reducible exact LeO.none _)
   | (with_reducible refine LeO.ite ?_ ?_)
   | (with_reducible refine LeO.bind ?_ (fun _ => ?_))
   | exact ih0 _ _ _ _ _
   | exact LeO.none _
   | refine LeO.ite ?_ ?_
   | refine LeO.bind ?_ (fun _ => ?_)
theorem impl_winding.calls (k : Nat) (A0 : Option Addr) (c0 : Nat) (l0 : List Int) (r : Int) (w : World) (hr0 : Kd.C (Kd.int .i64) w A0 l0.length l0) (hc0 : l0.length ≤ c0) (h : impl_winding.f k l0 = some r) :
  Calls Tryz.prog 75 #[.slice A0 l0.length c0] w fun e w' => e = .returned (.int .i64 r) ∧ Drawn0 w w' := by
 have HR0 := Aside0.mk hr0; have HC0 := Aside0.mk hc0; clear hr0 hc0; have H : (if 0 ≤ (wrap64 ((l0.length : Int) / 2)) then (if (wrap64 ((l0.length : Int) / 2)) ≤ (l0.length : Int) then (impl_winding.l0 k l0 0 (l0.take ((wrap64 ((l0.length : Int) / 2)) : Int).toNat) ((l0.take ((wrap64 ((l0.length : Int) / 2)) : Int).toNat).length : Int) 0) else (none)) else (none)) = some r := h; clear h; obtain ⟨ji2, hji2⟩ : ∃ j_ : Int, (wrap64 ((l0.length : Int) / 2)) = j_ := ⟨_, rfl⟩; (replace H : (if 0 ≤ (ji2) then (if (ji2) ≤ (l0.length : Int) then (impl_winding.l0 k l0 0 (l0.take ((ji2) : Int).toNat) ((l0.take ((ji2) : Int).toNat).length : Int) 0) else (none)) else (none)) = some r := by first | (rw [hji2] at H; exact H) | (simp only [hji2] at H ⊢; exact H)); have hji2w : (IntKind.i64.wrap ((l0.length : Int) / 2)) = ji2 := (i64_w _).trans hji2
 by_cases c3 : 0 ≤ (ji2)
 ·rw [if_pos c3] at H; have c3b0 := eq_true c3; have c3b1 := decide_eq_true c3; clear c3
  by_cases c4 : (ji2) ≤ (l0.length : Int)
  ·rw [if_pos c4] at H; have c4b0 := eq_true c4; have c4b1 := decide_eq_true c4; clear c4; have H' := Aside0.mk H; clear H; obtain ⟨i05, hi05, _, hsz5, _⟩ := info_parts info3; obtain ⟨hcut5, hA5, hC5⟩ := print_take_of (P := Tryz.prog) (Value.int .i64) 0 31 3 .i64 Tryz.underlying31 hi05 hsz5 A0 c0 l0 (ji2) (od) (od) HC0.out; have HR657 := Aside0.mk (Kd.C_of_reads (h1 := fun _ => rfl) (hA5 _ (Kd.reads_of_C HR0.out))); have HC657 := Aside0.mk hC5; clear hA5 hC5 hi05 hsz5; obtain ⟨qq5, hqq5⟩ : ∃ qq, (l0.take ((ji2) : Int).toNat) = qq := ⟨_, rfl⟩; rw [hqq5] at hcut5 HR657 HC657 H'; go_enter Tryz.func75, Tryz.ntmps75; go_wp2
   go_loopg [3, 12] k (fun kq v3 v12 w' => ∃ (x3_1 : Int) (x12_1 : Int), v3 = .int .i64 x3_1 ∧ v12 = .int .i64 x12_1 ∧ Aside0 (impl_winding.l0 kq l0 x3_1 qq5 (qq5.length : Int) x12_1 = some r) ∧ Aside0 (kq ≤ k) ∧ Drawn0 w w')
   case atStart => exact ⟨(0), (0), (sr2), (sr2), H', ⟨Nat.le_refl _⟩, by repeat (first | exact Drawn0.refl _ | apply Drawn0.step)⟩
   case round =>
    clear H'; obtain ⟨x3_1, x12_1, rfl, rfl, HA, HK1, ⟨m1, rfl⟩⟩ := hrel
    cases gk with
    | zero => exact absurd HA.out (by simp [impl_winding.l0])
    | succ k1 =>
     have H := HA.out; clear HA; simp only [impl_winding.l0, hji2] at H
     by_cases c6 : x12_1 < (qq5.length : Int)
     ·rw [if_pos c6] at H; have c6b0 := decide_eq_true c6; clear c6
      by_cases c7 : 0 ≤ x12_1
      ·rw [if_pos c7] at H; have c7b0 := decide_eq_true c7; clear c7
       by_cases c8 : x12_1 < (qq5.length : Int)
       ·rw [if_pos c8] at H; have c8b0 := decide_eq_true c8; clear c8
        by_cases c9 : (rd qq5 x12_1) ≥ ji2
        ·rw [if_pos c9] at H; have c9b0 := decide_eq_true c9; clear c9; have H' := Aside0.mk H; clear H; obtain ⟨ad658, e658, hx658_0, p658, q658⟩ := atI HR657.out x12_1; cases e658; go_wp2
         first | go_roundg k1 | (simp only [← hji2]; go_roundg k1)
         case measure => have := HK1.out; omega
         case rel => exact ⟨(wrap64 (x3_1 + 1)), (wrap64 (x12_1 + 1)), (sr2), (sr2), H', ⟨by have := HK1.out; omega⟩, by repeat (first | exact Drawn0.refl _ | apply Drawn0.step)⟩
        rw [if_neg c9] at H; have c9b0 := decide_eq_false c9; clear c9; have H' := Aside0.mk H; clear H; obtain ⟨ad658, e658, hx658_0, p658, q658⟩ := atI HR657.out x12_1; cases e658; go_wp2
        first | go_roundg k1 | (simp only [← hji2]; go_roundg k1)
        case measure => have := HK1.out; omega
        case rel => exact ⟨(x3_1), (wrap64 (x12_1 + 1)), (sr2), (sr2), H', ⟨by have := HK1.out; omega⟩, by repeat (first | exact Drawn0.refl _ | apply Drawn0.step)⟩
       rw [if_neg c8] at H; exact absurd H (by simp)
      rw [if_neg c7] at H; exact absurd H (by simp)
     rw [if_neg c6] at H; have c6b0 := decide_eq_false c6; clear c6; obtain rfl := Option.some.inj H; go_wp2; go_ret; exact ⟨by first | rfl | (simp; done) | (simp only [← hji2] <;> (first | rfl | simp)) | (simp [*]; done), by repeat (first | exact Drawn0.refl _ | apply Drawn0.step)⟩
  rw [if_neg c4] at H; exact absurd H (by simp)
 rw [if_neg c3] at H; exact absurd H (by simp)
/-! ### impl_WindingOf: function 35 -/
def impl_WindingOf.f (k : Nat) (l0 : List Int) : Option (Int × Bool) := (impl_IsSystem.f k l0).bind fun t659 => (if t659 = true then ((impl_winding.f k l0).bind fun t660 => (some (t660, true))) else (some (0, false)))
theorem impl_WindingOf.mono : ∀ a0 k, LeO (impl_WindingOf.f k a0) (impl_WindingOf.f (k + 1) a0) := by
 intro a0 k; unfold impl_WindingOf.f
 repeat' first
   | (with_reducible exact impl_IsSystem.mono _ _)
   | (with_reducible exact impl_winding.mono _ _)
   | (with_reducible exact LeO.refl _)
   | (with_reducible exact LeO.none _)
   | (with_reducible refine LeO.ite ?_ ?_)
   | (with_reducible refine LeO.bind ?_ (fun _ => ?_))
   | exact impl_IsSystem.mono _ _
   | exact impl_winding.mono _ _
   | exact LeO.none _
   | refine LeO.ite ?_ ?_
   | refine LeO.bind ?_ (fun _ => ?_)
theorem impl_WindingOf.calls (k : Nat) (A0 : Option Addr) (c0 : Nat) (l0 : List Int) (r1 : Int) (r2 : Bool) (w : World) (hr0 : Kd.C (Kd.int .i64) w A0 l0.length l0) (hc0 : l0.length ≤ c0) (h : impl_WindingOf.f k l0 = some (r1, r2)) :
  Calls Tryz.prog 35 #[.slice A0 l0.length c0] w fun e w' => e = .returned (.tuple #[.int .i64 r1, .bool r2]) ∧ Drawn0 w w' := by
 have HR0 := Aside0.mk hr0; have HC0 := Aside0.mk hc0; clear hr0 hc0; have H : ((impl_IsSystem.f k l0).bind fun t659 => (if t659 = true then ((impl_winding.f k l0).bind fun t660 => (some (t660, true))) else (some (0, false)))) = some (r1, r2) := h; clear h; obtain ⟨t659, A2, H⟩ := bi H; (try dsimp only at H)
 by_cases c3 : t659 = true
 ·subst c3; rw [if_pos rfl] at H; obtain ⟨t660, A4, H⟩ := bi H; (try dsimp only at H); simp only [Option.some.injEq, Prod.mk.injEq] at H; obtain ⟨rfl, rfl⟩ := H; go_enter Tryz.func35, Tryz.ntmps35; go_wp2_with (first | (go_at_call 65; (with_reducible refine (impl_IsSystem.calls k _ _ l0 true _ ?side1 HC0.out A2.out).mono ?_); (case side1 => exact cw HR0.out); rintro e w' ⟨rfl, ⟨nd, rfl⟩⟩) | (go_at_call 75; (with_reducible refine (impl_winding.calls k _ _ l0 t660 _ ?side1 HC0.out A4.out).mono ?_); (case side1 => exact cw HR0.out); rintro e w' ⟨rfl, ⟨nd, rfl⟩⟩)); go_ret2; exact ⟨sr2, by repeat (first | exact Drawn0.refl _ | apply Drawn0.step)⟩
 replace c3 := Bool.eq_false_iff.mpr c3; subst c3; rw [if_neg (show ¬ (false = true) by decide)] at H; simp only [Option.some.injEq, Prod.mk.injEq] at H; obtain ⟨rfl, rfl⟩ := H; go_enter Tryz.func35, Tryz.ntmps35; go_wp2_with (first | (go_at_call 65; (with_reducible refine (impl_IsSystem.calls k _ _ l0 false _ ?side1 HC0.out A2.out).mono ?_); (case side1 => exact cw HR0.out); rintro e w' ⟨rfl, ⟨nd, rfl⟩⟩)); go_ret2; exact ⟨sr2, by repeat (first | exact Drawn0.refl _ | apply Drawn0.step)⟩
/-! ### spec_DrawSemiOfFolding: function 36 -/
def spec_DrawSemiOfFolding.j0 : Nat → List Int → Bool → Option (List Int)
 | 0, _, _ => none
 | k + 1, x4, x16 => if x16 = true then ((spec_spPlaces.f k x4).bind fun t671 => (if 0 < (t671.length : Int) then ((spec_spTurn.f k x4 (wrap64 (-(rd t671 0)))).bind fun t675 => (some t675)) else (none))) else (some x4)
def spec_DrawSemiOfFolding.f (k : Nat) (l0 : List Int) : Option (List Int) := (spec_l1Cur_stack.f k l0 0 0 7).bind fun bt662 => ((spec_spStack.f k bt662.1).bind fun t667 => (if t667 = true then ((spec_l1Cur_one.f l0 bt662.2.1 bt662.2.2 6).bind fun bt668 => (spec_DrawSemiOfFolding.j0 k bt662.1 (!bt668.1))) else (spec_DrawSemiOfFolding.j0 k bt662.1 false)))
theorem spec_DrawSemiOfFolding.calls (k : Nat) (A0 : Option Addr) (c0 : Nat) (l0 : List Int) (r : List Int) (w : World) (hr0 : Kd.C (Kd.int .u8) w A0 l0.length l0) (hc0 : l0.length ≤ c0) (h : spec_DrawSemiOfFolding.f k l0 = some r) :
  Calls Tryz.prog 36 #[.slice A0 l0.length c0] w fun e w' => ∃ v0_ : Value, e = .returned (v0_) ∧ Kd.R (Kd.int .i64) 3 w' w.heap.size (fun _ => True) v0_ r ∧ Below w.heap.size w w' := by
 have hu51 := Tryz.underlying51; have HR0 := Aside0.mk hr0; have HC0 := Aside0.mk hc0; clear hr0 hc0; have HB := Aside0.mk (Below.refl w.heap.size w); have H : ((spec_l1Cur_stack.f k l0 0 0 7).bind fun bt662 => ((spec_spStack.f k bt662.1).bind fun t667 => (if t667 = true then ((spec_l1Cur_one.f l0 bt662.2.1 bt662.2.2 6).bind fun bt668 => (spec_DrawSemiOfFolding.j0 k bt662.1 (!bt668.1))) else (spec_DrawSemiOfFolding.j0 k bt662.1 false)))) = some r := h; clear h; obtain ⟨⟨t662, t665, t666⟩, A2, H⟩ := bi H; (try dsimp only at H); have HC3 := Aside0.mk H; clear H; go_enter Tryz.func36, Tryz.ntmps36
 go_upto_region 3 with (first | ((with_reducible refine gate_dst (N := 7) rfl ?_); refine box_event ?hg (N := 7) ?hd (cs := #[.slice A0 l0.length c0, .int .i64 0, .int .u64 0]) (t := 51) ?hr ?_; (case hd => rfl); (case hg => rfl); (case hr => first | (go_simp; done) | (go_simp; rfl)); intro gb661 hg w4 hbox hb; have HI661 := Aside0.mk ((show IsS51 w w4 gb661 l0 0 0 from ⟨_, _, hbox, (by rw [hg]; exact (below_size (bl HB.out)) : w.heap.size ≤ gb661), HR0.out⟩)); replace HB := bst HB hb; clear hb hbox hg) | (go_at_call 61; (with_reducible refine (spec_l1Cur_stack.calls k gb661 l0 0 0 7 t662 t665 t666 w _ ?side1 (bs1 HB.out (IsS51.ge HI661.out)) A2.out).mono ?_); (case side1 => exact iS HI661.out); rintro e w5 ⟨v663, rfl, ho0, hi, hb, hk⟩; have HO664 := Aside0.mk (Kd.R_lower ho0 (below_size (bs1 HB.out (IsS51.ge HI661.out)))); replace HB := Aside0.mk (hb); replace HI661 := Aside0.mk (hi)))
 (try simp only [Act.put, List.setIfInBounds_toArray, List.set_cons_zero, List.set_cons_succ])
 go_cut [16] (fun v16 wc => ∃ (kq : Nat) (x16_2 : Bool), v16 = .bool x16_2 ∧ Aside0 (spec_DrawSemiOfFolding.j0 kq t662 x16_2 = some r) ∧ Aside0 (kq ≤ k) ∧ Aside0 (Kd.R (Kd.int .i64) 3 wc w.heap.size (fun _ => True) v663 t662) ∧ Aside0 (Below w.heap.size w wc))
 case first =>
  have H := HC3.out; clear HC3; obtain ⟨t667, A6, H⟩ := bi H; (try dsimp only at H)
  by_cases c7 : t667 = true
  ·subst c7; rw [if_pos rfl] at H; obtain ⟨⟨t668, t669, t670⟩, A8, H⟩ := bi H; (try dsimp only at H); have H' := Aside0.mk H; clear H; obtain ⟨Ao9, co9, eo9⟩ := Kd.R_slice HO664.out; subst eo9; go_wp2_with (first | (go_at_call 59; (with_reducible refine (spec_spStack.calls k _ _ t662 true _ ?side1 ((Kd.R_reads' HO664.out).2.1) A6.out).mono ?_); (case side1 => exact cw ((Kd.R_reads' HO664.out).2.2)); rintro e w' ⟨rfl, ⟨nd, rfl⟩⟩) | (go_at_call 62; (with_reducible refine (spec_l1Cur_one.calls gb661 l0 t665 t666 6 t668 t669 t670 w _ ?side1 (bs1 HB.out (IsS51.ge HI661.out)) A8.out).mono ?_); (case side1 => exact iS HI661.out); rintro e w10 ⟨rfl, hi, hb, hk⟩; replace HO664 := Aside0.mk (Kd.R_mono (Kd.R_keep (IsS51.apart (show IsS51 w _ gb661 l0 t665 t666 from iS HI661.out) (rR HO664.out) (by decide)) hk (fun _ h => h.2)) (fun _ h => h.1)); replace HB := Aside0.mk (hb); replace HI661 := Aside0.mk (hi))); go_meet
   case rel => exact ⟨_, (!t668), (sr2), H', ⟨by first | omega | exact Nat.le_refl _⟩, ⟨rR HO664.out⟩, ⟨bs1 HB.out (IsS51.ge HI661.out)⟩⟩
  replace c7 := Bool.eq_false_iff.mpr c7; subst c7; rw [if_neg (show ¬ (false = true) by decide)] at H; have H' := Aside0.mk H; clear H; obtain ⟨Ao11, co11, eo11⟩ := Kd.R_slice HO664.out; subst eo11; go_wp2_with (first | (go_at_call 59; (with_reducible refine (spec_spStack.calls k _ _ t662 false _ ?side1 ((Kd.R_reads' HO664.out).2.1) A6.out).mono ?_); (case side1 => exact cw ((Kd.R_reads' HO664.out).2.2)); rintro e w' ⟨rfl, ⟨nd, rfl⟩⟩)); go_meet
  case rel => exact ⟨_, (false), (sr2), H', ⟨by first | omega | exact Nat.le_refl _⟩, ⟨rR HO664.out⟩, ⟨bs1 HB.out (IsS51.ge HI661.out)⟩⟩
 case rest =>
  clear HC3; obtain ⟨kq, x16_2, rfl, HA, HJ2, HO_4, HB⟩ := hcut
  cases kq with
  | zero => exact absurd HA.out (by simp [spec_DrawSemiOfFolding.j0])
  | succ kj2 =>
   have H := HA.out; clear HA; simp only [spec_DrawSemiOfFolding.j0] at H
   by_cases c12 : x16_2 = true
   ·subst c12; rw [if_pos rfl] at H; obtain ⟨t671, A13, H⟩ := bi H; (try dsimp only at H)
    by_cases c14 : 0 < (t671.length : Int)
    ·rw [if_pos c14] at H; have c14b0 := decide_eq_true c14; have c14b1 : decide (0 < t671.length) = true := decide_eq_true (by omega); clear c14; obtain ⟨t675, A15, H⟩ := bi H; (try dsimp only at H); obtain rfl := Option.some.inj H; obtain ⟨Ao16, co16, eo16⟩ := Kd.R_slice HO_4.out; subst eo16; go_wp2_with (first | (go_at_call 76; (with_reducible refine (spec_spPlaces.calls kj2 _ _ t662 t671 _ ?side1 ((Kd.R_reads' HO_4.out).2.1) A13.out).mono ?_); (case side1 => exact cw ((Kd.R_reads' HO_4.out).2.2)); rintro e w17 ⟨v672, rfl, ho0, hb⟩; have HO673 := Aside0.mk (Kd.R_lower (Kd.R_new' ho0 (Kd.R_lt (rR HO_4.out))) (below_size (bl HB.out))); replace HO_4 := Aside0.mk (Kd.R_elder' (rR HO_4.out) (Kd.R_base ho0) hb); replace HB := bst HB hb; obtain ⟨Ao18, co18, eo18⟩ := Kd.R_slice HO673.out; subst eo18; have p674 : 0 ≤ (0 : Int) := (by omega); have q674 : 0 < (t671.length : Int) := od; obtain ⟨ad674, e674, hx674_0⟩ := Kd.at_int (Kd.R_reads' HO673.out).2.2 0 p674 q674; cases e674; have qi674 : (0 < t671.length) = True := eq_true (by omega); (try rw [show ((0 : Int)).toNat = 0 from rfl] at hx674_0); (try rw [Addr.add_zero'] at hx674_0); replace p674 := eq_true p674; replace q674 := eq_true q674) | (go_at_call 51; (with_reducible refine (spec_spTurn.calls kj2 _ _ t662 (wrap64 (-(rd t671 0))) t675 _ ?side1 ((Kd.R_reads' HO_4.out).2.1) A15.out).mono ?_); (case side1 => exact cw ((Kd.R_reads' HO_4.out).2.2)); rintro e w19 ⟨v676, rfl, ho0, hb⟩; have HO677 := Aside0.mk (Kd.R_lower (Kd.R_new' (Kd.R_new' ho0 (Kd.R_lt (rR HO_4.out))) (Kd.R_lt (rR HO673.out))) (below_size (bl HB.out))); replace HO_4 := Aside0.mk (Kd.R_elder' (rR HO_4.out) (Kd.R_base ho0) hb); replace HO673 := Aside0.mk (Kd.R_elder' (rR HO673.out) (Kd.R_base ho0) hb); replace HB := bst HB hb)); go_ret; exact ⟨_, sr, rR (Kd.R_mono HO677.out (fun _ hk => trivial)), bl HB.out⟩
    rw [if_neg c14] at H; exact absurd H (by simp)
   replace c12 := Bool.eq_false_iff.mpr c12; subst c12; rw [if_neg (show ¬ (false = true) by decide)] at H; obtain rfl := Option.some.inj H; go_wp2; go_ret; exact ⟨_, sr, rR HO_4.out, bl HB.out⟩
/-! ### spec_SemiOfFolding: function 37 -/
def spec_SemiOfFolding.f (k : Nat) (l0 : List Int) : Option (List Int × Bool) := (spec_spStack.f k l0).bind fun t678 => (if t678 = true then ((spec_spIs.f k l0).bind fun t679 => (if t679 = true then (if 0 < (l0.length : Int) then (if (rd l0 0) = 0 then (if (l0.length : Int) > 6 then (some (([] : List Int), false)) else ((spec_spSystem.f k l0).bind fun t681 => (some (t681, true)))) else (some (([] : List Int), false))) else (none)) else (some (([] : List Int), false)))) else (some (([] : List Int), false)))
theorem spec_SemiOfFolding.mono : ∀ a0 k, LeO (spec_SemiOfFolding.f k a0) (spec_SemiOfFolding.f (k + 1) a0) := by
 intro a0 k; unfold spec_SemiOfFolding.f
 repeat' first
   | (with_reducible exact spec_spIs.mono _ _)
   | (with_reducible exact spec_spStack.mono _ _)
   | (with_reducible exact spec_spSystem.mono _ _)
   | (with_reducible exact LeO.refl _)
   | (with_reducible exact LeO.none _)
   | (with_reducible refine LeO.ite ?_ ?_)
   | (with_reducible refine LeO.bind ?_ (fun _ => ?_))
   | exact spec_spIs.mono _ _
   | exact spec_spStack.mono _ _
   | exact spec_spSystem.mono _ _
   | exact LeO.none _
   | refine LeO.ite ?_ ?_
   | refine LeO.bind ?_ (fun _ => ?_)
theorem spec_SemiOfFolding.calls (k : Nat) (A0 : Option Addr) (c0 : Nat) (l0 : List Int) (r1 : List Int) (r2 : Bool) (w : World) (hr0 : Kd.C (Kd.int .i64) w A0 l0.length l0) (hc0 : l0.length ≤ c0) (h : spec_SemiOfFolding.f k l0 = some (r1, r2)) :
  Calls Tryz.prog 37 #[.slice A0 l0.length c0] w fun e w' => ∃ v0_ : Value, e = .returned (.tuple #[v0_, .bool r2]) ∧ Kd.R (Kd.int .i64) 3 w' w.heap.size (fun _ => True) v0_ r1 ∧ Below w.heap.size w w' := by
 have HR0 := Aside0.mk hr0; have HC0 := Aside0.mk hc0; clear hr0 hc0; have HB := Aside0.mk (Below.refl w.heap.size w); have H : ((spec_spStack.f k l0).bind fun t678 => (if t678 = true then ((spec_spIs.f k l0).bind fun t679 => (if t679 = true then (if 0 < (l0.length : Int) then (if (rd l0 0) = 0 then (if (l0.length : Int) > 6 then (some (([] : List Int), false)) else ((spec_spSystem.f k l0).bind fun t681 => (some (t681, true)))) else (some (([] : List Int), false))) else (none)) else (some (([] : List Int), false)))) else (some (([] : List Int), false)))) = some (r1, r2) := h; clear h; obtain ⟨t678, A2, H⟩ := bi H; (try dsimp only at H)
 by_cases c3 : t678 = true
 ·subst c3; rw [if_pos rfl] at H; obtain ⟨t679, A4, H⟩ := bi H; (try dsimp only at H)
  by_cases c5 : t679 = true
  ·subst c5; rw [if_pos rfl] at H
   by_cases c6 : 0 < (l0.length : Int)
   ·rw [if_pos c6] at H; have c6b0 := decide_eq_true c6; have c6b1 : decide (0 < l0.length) = true := decide_eq_true (by omega); clear c6
    by_cases c7 : (rd l0 0) = 0
    ·rw [if_pos c7] at H; have c7b0 := beq_iff_eq.mpr c7; have c7b1 := bne_eq_false_iff_eq.mpr c7; clear c7
     by_cases c8 : (l0.length : Int) > 6
     ·rw [if_pos c8] at H; have c8b0 := decide_eq_true c8; have c8b1 : decide (6 < l0.length) = true := decide_eq_true (by omega); clear c8; simp only [Option.some.injEq, Prod.mk.injEq] at H; obtain ⟨rfl, rfl⟩ := H; go_enter Tryz.func37, Tryz.ntmps37; go_wp2_with (first | (go_at_call 59; (with_reducible refine (spec_spStack.calls k _ _ l0 true _ ?side1 HC0.out A2.out).mono ?_); (case side1 => exact cw HR0.out); rintro e w' ⟨rfl, ⟨nd, rfl⟩⟩) | (go_at_call 77; (with_reducible refine (spec_spIs.calls k _ _ l0 true _ ?side1 HC0.out A4.out).mono ?_); (case side1 => exact cw HR0.out); rintro e w9 ⟨rfl, hb⟩; replace HB := bst HB hb; have p680 : 0 ≤ (0 : Int) := (by omega); have q680 : 0 < (l0.length : Int) := od; obtain ⟨ad680, e680, hx680_0⟩ := Kd.at_int HR0.out 0 p680 q680; cases e680; have qi680 : (0 < l0.length) = True := eq_true (by omega); (try rw [show ((0 : Int)).toNat = 0 from rfl] at hx680_0); (try rw [Addr.add_zero'] at hx680_0); replace hx680_0 := hbx HB hx680_0; replace p680 := eq_true p680; replace q680 := eq_true q680)); go_ret2; exact ⟨_, sr, by first | exact Kd.R_nil _ _ _ _ _ | exact Kd.N_nil _ _ _ _ _ | exact Kd.V_nil _ _ _ _ _ | exact Kd.Q_nil _ _ _ _ _ | exact Kd.S_nil _ _ _ _ _, bl HB.out⟩
     rw [if_neg c8] at H; have c8b0 := decide_eq_false c8; have c8b1 : decide (6 < l0.length) = false := decide_eq_false (by omega); clear c8; obtain ⟨t681, A10, H⟩ := bi H; (try dsimp only at H); simp only [Option.some.injEq, Prod.mk.injEq] at H; obtain ⟨rfl, rfl⟩ := H; go_enter Tryz.func37, Tryz.ntmps37; go_wp2_with (first | (go_at_call 59; (with_reducible refine (spec_spStack.calls k _ _ l0 true _ ?side1 HC0.out A2.out).mono ?_); (case side1 => exact cw HR0.out); rintro e w' ⟨rfl, ⟨nd, rfl⟩⟩) | (go_at_call 77; (with_reducible refine (spec_spIs.calls k _ _ l0 true _ ?side1 HC0.out A4.out).mono ?_); (case side1 => exact cw HR0.out); rintro e w11 ⟨rfl, hb⟩; replace HB := bst HB hb; have p680 : 0 ≤ (0 : Int) := (by omega); have q680 : 0 < (l0.length : Int) := od; obtain ⟨ad680, e680, hx680_0⟩ := Kd.at_int HR0.out 0 p680 q680; cases e680; have qi680 : (0 < l0.length) = True := eq_true (by omega); (try rw [show ((0 : Int)).toNat = 0 from rfl] at hx680_0); (try rw [Addr.add_zero'] at hx680_0); replace hx680_0 := hbx HB hx680_0; replace p680 := eq_true p680; replace q680 := eq_true q680) | (go_at_call 78; (with_reducible refine (spec_spSystem.calls k _ _ l0 t681 _ ?side1 HC0.out A10.out).mono ?_); (case side1 => exact cw (Kd.C_below HR0.out HB.out)); rintro e w12 ⟨v682, rfl, ho0, hb⟩; have HO683 := Aside0.mk (Kd.R_lower ho0 (below_size (bl HB.out))); replace HB := bst HB hb)); go_ret2; exact ⟨_, sr, rR HO683.out, bl HB.out⟩
    rw [if_neg c7] at H; have c7b0 := beq_eq_false_iff_ne.mpr c7; have c7b1 := bne_iff_ne.mpr c7; simp only [Option.some.injEq, Prod.mk.injEq] at H; obtain ⟨rfl, rfl⟩ := H; go_enter Tryz.func37, Tryz.ntmps37; go_wp2_with (first | (go_at_call 59; (with_reducible refine (spec_spStack.calls k _ _ l0 true _ ?side1 HC0.out A2.out).mono ?_); (case side1 => exact cw HR0.out); rintro e w' ⟨rfl, ⟨nd, rfl⟩⟩) | (go_at_call 77; (with_reducible refine (spec_spIs.calls k _ _ l0 true _ ?side1 HC0.out A4.out).mono ?_); (case side1 => exact cw HR0.out); rintro e w13 ⟨rfl, hb⟩; replace HB := bst HB hb; have p680 : 0 ≤ (0 : Int) := (by omega); have q680 : 0 < (l0.length : Int) := od; obtain ⟨ad680, e680, hx680_0⟩ := Kd.at_int HR0.out 0 p680 q680; cases e680; have qi680 : (0 < l0.length) = True := eq_true (by omega); (try rw [show ((0 : Int)).toNat = 0 from rfl] at hx680_0); (try rw [Addr.add_zero'] at hx680_0); replace hx680_0 := hbx HB hx680_0; replace p680 := eq_true p680; replace q680 := eq_true q680)); go_ret2; exact ⟨_, sr, by first | exact Kd.R_nil _ _ _ _ _ | exact Kd.N_nil _ _ _ _ _ | exact Kd.V_nil _ _ _ _ _ | exact Kd.Q_nil _ _ _ _ _ | exact Kd.S_nil _ _ _ _ _, bl HB.out⟩
   rw [if_neg c6] at H; exact absurd H (by simp)
  replace c5 := Bool.eq_false_iff.mpr c5; subst c5; rw [if_neg (show ¬ (false = true) by decide)] at H; simp only [Option.some.injEq, Prod.mk.injEq] at H; obtain ⟨rfl, rfl⟩ := H; go_enter Tryz.func37, Tryz.ntmps37; go_wp2_with (first | (go_at_call 59; (with_reducible refine (spec_spStack.calls k _ _ l0 true _ ?side1 HC0.out A2.out).mono ?_); (case side1 => exact cw HR0.out); rintro e w' ⟨rfl, ⟨nd, rfl⟩⟩) | (go_at_call 77; (with_reducible refine (spec_spIs.calls k _ _ l0 false _ ?side1 HC0.out A4.out).mono ?_); (case side1 => exact cw HR0.out); rintro e w14 ⟨rfl, hb⟩; replace HB := bst HB hb)); go_ret2; exact ⟨_, sr, by first | exact Kd.R_nil _ _ _ _ _ | exact Kd.N_nil _ _ _ _ _ | exact Kd.V_nil _ _ _ _ _ | exact Kd.Q_nil _ _ _ _ _ | exact Kd.S_nil _ _ _ _ _, bl HB.out⟩
 replace c3 := Bool.eq_false_iff.mpr c3; subst c3; rw [if_neg (show ¬ (false = true) by decide)] at H; simp only [Option.some.injEq, Prod.mk.injEq] at H; obtain ⟨rfl, rfl⟩ := H; go_enter Tryz.func37, Tryz.ntmps37; go_wp2_with (first | (go_at_call 59; (with_reducible refine (spec_spStack.calls k _ _ l0 false _ ?side1 HC0.out A2.out).mono ?_); (case side1 => exact cw HR0.out); rintro e w' ⟨rfl, ⟨nd, rfl⟩⟩)); go_ret2; exact ⟨_, sr, by first | exact Kd.R_nil _ _ _ _ _ | exact Kd.N_nil _ _ _ _ _ | exact Kd.V_nil _ _ _ _ _ | exact Kd.Q_nil _ _ _ _ _ | exact Kd.S_nil _ _ _ _ _, bl HB.out⟩
/-! ### spec_DrawAllSemis: function 79 -/
def spec_DrawAllSemis.f (l0 : List Int) : Option (Int) := (spec_l1Cur_among.f l0 0 0 (([1, 2, 3, 4, 5, 6, 7, 0] : List Int))).bind fun bt688 => (some bt688.1)
theorem spec_DrawAllSemis.calls (A0 : Option Addr) (c0 : Nat) (l0 : List Int) (r : Int) (w : World) (hr0 : Kd.C (Kd.int .u8) w A0 l0.length l0) (hc0 : l0.length ≤ c0) (h : spec_DrawAllSemis.f l0 = some r) :
  Calls Tryz.prog 79 #[.slice A0 l0.length c0] w fun e w' => e = .returned (.int .i64 r) ∧ Below w.heap.size w w' := by
 have hu51 := Tryz.underlying51; have HR0 := Aside0.mk hr0; have HC0 := Aside0.mk hc0; clear hr0 hc0; have HB := Aside0.mk (Below.refl w.heap.size w); have H : ((spec_l1Cur_among.f l0 0 0 (([1, 2, 3, 4, 5, 6, 7, 0] : List Int))).bind fun bt688 => (some bt688.1)) = some r := h; clear h; obtain ⟨y685, hy685⟩ := yy (([1, 2, 3, 4, 5, 6, 7, 0] : List Int))
 (try rw [Option.bind_some] at H); (try dsimp only at H); rw [← hy685] at H
 have Ny685 := Aside0.mk hy685; clear hy685; obtain ⟨⟨t688, t689, t690⟩, A2, H⟩ := bi H; (try dsimp only at H); obtain rfl := Option.some.inj H; go_enter Tryz.func79, Tryz.ntmps79; go_wp2_with (first | ((with_reducible refine gate_dst (N := 6) rfl ?_); refine box_event ?hg (N := 6) ?hd (cs := #[.slice A0 l0.length c0, .int .i64 0, .int .u64 0]) (t := 51) ?hr ?_; (case hd => rfl); (case hg => rfl); (case hr => first | (go_simp; done) | (go_simp; rfl)); intro gb684 hg w3 hbox hb; have HI684 := Aside0.mk ((show IsS51 w w3 gb684 l0 0 0 from ⟨_, _, hbox, (by rw [hg]; exact (below_size (bl HB.out)) : w.heap.size ≤ gb684), HR0.out⟩)); replace HB := bst HB hb; clear hb hbox hg) | ((with_reducible refine gate_dst (N := 8) rfl ?_); refine Kd.R_lit (Kd.int .i64) _ 3 ?hg (N := 8) ?hd (xs := ([1, 2, 3, 4, 5, 6, 7, 0] : List Int)) (inner := [.int .i64 1, .int .i64 2, .int .i64 3, .int .i64 4, .int .i64 5, .int .i64 6, .int .i64 7, .int .i64 0]) (ok := fun _ => True) (okp := fun _ => True) ?hr ?hp (fun _ hk => hk) trivial (Below.refl _ _) (Nat.le_refl _) (by simp) ?_; (case hd => rfl); (case hg => rfl); (case hr => first | (go_simp; done) | (go_simp; rfl)); (case hp => exact (Reps.one (show Kd.M (Kd.int .i64) _ _ _ 1 [.int .i64 1] from rfl) (Reps.one (show Kd.M (Kd.int .i64) _ _ _ 2 [.int .i64 2] from rfl) (Reps.one (show Kd.M (Kd.int .i64) _ _ _ 3 [.int .i64 3] from rfl) (Reps.one (show Kd.M (Kd.int .i64) _ _ _ 4 [.int .i64 4] from rfl) (Reps.one (show Kd.M (Kd.int .i64) _ _ _ 5 [.int .i64 5] from rfl) (Reps.one (show Kd.M (Kd.int .i64) _ _ _ 6 [.int .i64 6] from rfl) (Reps.one (show Kd.M (Kd.int .i64) _ _ _ 7 [.int .i64 7] from rfl) (Reps.one (show Kd.M (Kd.int .i64) _ _ _ 0 [.int .i64 0] from rfl) (Reps.none _ _)))))))))); intro v686 w4 ho5 hb hg_ hnew_; clear hg_ hnew_; (first | rw [← Ny685.out] at ho5 | (simp only [Int.reduceToNat] at ho5; rw [← Ny685.out] at ho5)); have HO687 := Aside0.mk (Kd.R_lower ho5 (below_size (bs1 HB.out (IsS51.ge HI684.out)))); replace HB := Aside0.mk (below_step (bs1 HB.out (IsS51.ge HI684.out)) hb); replace HI684 := Aside0.mk (IsS51.below (iS HI684.out) hb); clear hb ho5; obtain ⟨Ao6, co6, eo6⟩ := Kd.R_slice HO687.out; subst eo6) | (go_at_call 45; (with_reducible refine (spec_l1Cur_among.calls gb684 l0 0 0 _ _ y685 t688 t689 t690 w _ ?side1 ?side2 ?side3 ?side4 (far_slice (IsS51.own_ne HI684.out HO687.out (by decide))) A2.out).mono ?_); (case side1 => exact iS HI684.out); (case side2 => exact bs1 HB.out (IsS51.ge HI684.out)); (case side3 => exact cw ((Kd.R_reads' HO687.out).2.2)); (case side4 => exact (Kd.R_reads' HO687.out).2.1); rintro e w7 ⟨rfl, hi, hb, hk⟩; replace HO687 := Aside0.mk (Kd.R_mono (Kd.R_keep (IsS51.apart (show IsS51 w _ gb684 l0 0 0 from iS HI684.out) (rR HO687.out) (by decide)) hk (fun _ h => h.2)) (fun _ h => h.1)); replace HB := Aside0.mk (hb); replace HI684 := Aside0.mk (hi))); go_ret; exact ⟨sr, bs1 HB.out (IsS51.ge HI684.out)⟩
/-! ### spec_DrawSpreadOfWindings: function 38 -/
def spec_DrawSpreadOfWindings.f (l0 : List Int) : Option (Int) := (spec_DrawAllSemis.f l0).bind fun t691 => (some t691)
theorem spec_DrawSpreadOfWindings.calls (A0 : Option Addr) (c0 : Nat) (l0 : List Int) (r : Int) (w : World) (hr0 : Kd.C (Kd.int .u8) w A0 l0.length l0) (hc0 : l0.length ≤ c0) (h : spec_DrawSpreadOfWindings.f l0 = some r) :
  Calls Tryz.prog 38 #[.slice A0 l0.length c0] w fun e w' => e = .returned (.int .i64 r) ∧ Below w.heap.size w w' := by
 have HR0 := Aside0.mk hr0; have HC0 := Aside0.mk hc0; clear hr0 hc0; have HB := Aside0.mk (Below.refl w.heap.size w); have H : ((spec_DrawAllSemis.f l0).bind fun t691 => (some t691)) = some r := h; clear h; obtain ⟨t691, A2, H⟩ := bi H; (try dsimp only at H); obtain rfl := Option.some.inj H; go_enter Tryz.func38, Tryz.ntmps38; go_wp2_with (first | (go_at_call 79; (with_reducible refine (spec_DrawAllSemis.calls _ _ l0 t691 _ ?side1 HC0.out A2.out).mono ?_); (case side1 => exact cw HR0.out); rintro e w3 ⟨rfl, hb⟩; replace HB := bst HB hb)); go_ret; exact ⟨sr, bl HB.out⟩
/-! ### impl_SpreadOfWindings: function 39 -/
def impl_SpreadOfWindings.l0 : Nat → List Int → List (List Int) → Int → Int → Option (List Int × Bool)
 | 0, _, _, _, _ => none
 | k + 1, x4, x14, x15, x16 => if x16 < x15 then (if 0 ≤ x16 then (if x16 < (x14.length : Int) then ((impl_winding.f k (rd_L2 x14 x16)).bind fun t700 => (if 0 ≤ t700 then (if t700 < (x4.length : Int) then (impl_SpreadOfWindings.l0 k (x4.set (t700 : Int).toNat (wrap64 ((rd x4 t700) + 1))) x14 x15 (wrap64 (x16 + 1))) else (none)) else (none))) else (none)) else (none)) else (some (x4, true))
def impl_SpreadOfWindings.f (k : Nat) (a0 : Int) : Option (List Int × Bool) := (impl_in.f a0 1 6).bind fun t692 => (if t692 = true then (if 0 ≤ (wrap64 (a0 + 1)) then (if (wrap64 (a0 + 1) : Int).toNat ≤ 35184372088832 then ((impl_semis.f k a0).bind fun t696 => (impl_SpreadOfWindings.l0 k (List.replicate (wrap64 (a0 + 1) : Int).toNat 0) t696 (t696.length : Int) 0)) else (none)) else (none)) else (some (([] : List Int), false)))
theorem impl_SpreadOfWindings.mono_l : ∀ k, (∀ y0 y1 y2 y3, LeO (impl_SpreadOfWindings.l0 k y0 y1 y2 y3) (impl_SpreadOfWindings.l0 (k + 1) y0 y1 y2 y3))
 | 0 => fun _ _ _ _ r h => by simp [impl_SpreadOfWindings.l0] at h
 | k + 1 => by
  have ih0 := impl_SpreadOfWindings.mono_l k
  ·intro y0 y1 y2 y3
   unfold impl_SpreadOfWindings.l0
   repeat' first
   | (with_reducible exact ih0 _ _ _ _)
   | (with_reducible exact impl_semis.mono _ _)
   | (with_reducible exact impl_winding.mono _ _)
   | (with_reducible exact LeO.refl _)
   | (with_reducible exact LeO.none _)
   | (with_reducible refine LeO.ite ?_ ?_)
   | (with_reducible refine LeO.bind ?_ (fun _ => ?_))
   | exact ih0 _ _ _ _
   | exact impl_semis.mono _ _
   | exact impl_winding.mono _ _
   | exact LeO.none _
   | refine LeO.ite ?_ ?_
   | refine LeO.bind ?_ (fun _ => ?_)
theorem impl_SpreadOfWindings.mono : ∀ a0 k, LeO (impl_SpreadOfWindings.f k a0) (impl_SpreadOfWindings.f (k + 1) a0) := by
 intro a0 k; have ih0 := impl_SpreadOfWindings.mono_l k; unfold impl_SpreadOfWindings.f
 repeat' first
   | (with_reducible exact ih0 _ _ _ _)
   | (with_reducible exact impl_semis.mono _ _)
   | (with_reducible exact impl_winding.mono _ _)
   | (with_reducible exact LeO.refl _)
   | (with_reducible exact LeO.none _)
   | (with_reducible refine LeO.ite ?_ ?_)
   | (with_reducible refine LeO.bind ?_ (fun _ => ?_))
   | exact ih0 _ _ _ _
   | exact impl_semis.mono _ _
   | exact impl_winding.mono _ _
   | exact LeO.none _
   | refine LeO.ite ?_ ?_
   | refine LeO.bind ?_ (fun _ => ?_)
theorem impl_SpreadOfWindings.calls (k : Nat) (a0 : Int) (r1 : List Int) (r2 : Bool) (w : World) (h : impl_SpreadOfWindings.f k a0 = some (r1, r2)) :
  Calls Tryz.prog 39 #[.int .i64 a0] w fun e w' => ∃ v0_ : Value, e = .returned (.tuple #[v0_, .bool r2]) ∧ Kd.R (Kd.int .i64) 3 w' w.heap.size (fun _ => True) v0_ r1 ∧ Below w.heap.size w w' := by
 have HB := Aside0.mk (Below.refl w.heap.size w); have H : ((impl_in.f a0 1 6).bind fun t692 => (if t692 = true then (if 0 ≤ (wrap64 (a0 + 1)) then (if (wrap64 (a0 + 1) : Int).toNat ≤ 35184372088832 then ((impl_semis.f k a0).bind fun t696 => (impl_SpreadOfWindings.l0 k (List.replicate (wrap64 (a0 + 1) : Int).toNat 0) t696 (t696.length : Int) 0)) else (none)) else (none)) else (some (([] : List Int), false)))) = some (r1, r2) := h; clear h; obtain ⟨t692, A2, H⟩ := bi H; (try dsimp only at H)
 by_cases c3 : t692 = true
 ·subst c3; rw [if_pos rfl] at H; obtain ⟨ji4, hji4⟩ : ∃ j_ : Int, (wrap64 (a0 + 1)) = j_ := ⟨_, rfl⟩; (replace H : (if 0 ≤ (ji4) then (if (ji4 : Int).toNat ≤ 35184372088832 then ((impl_semis.f k a0).bind fun t696 => (impl_SpreadOfWindings.l0 k (List.replicate (ji4 : Int).toNat 0) t696 (t696.length : Int) 0)) else (none)) else (none)) = some (r1, r2) := by first | (rw [hji4] at H; exact H) | (simp only [hji4] at H ⊢; exact H)); (try rw [hji4] at A2); have hji4w : (IntKind.i64.wrap (a0 + 1)) = ji4 := (i64_w _).trans hji4
  by_cases c5 : 0 ≤ (ji4)
  ·rw [if_pos c5] at H; have c5b0 := eq_true c5; have c5b1 := decide_eq_true c5; clear c5
   by_cases c6 : (ji4 : Int).toNat ≤ 35184372088832
   ·rw [if_pos c6] at H
    have c6b0 := eq_true c6
    have c6b1 : decide ((ji4 : Int).toNat ≤ 35184372088832) = true := decide_eq_true c6
    clear c6
    obtain ⟨y693, hy693⟩ : ∃ y_ : List Int, y_ = (List.replicate (ji4 : Int).toNat 0) := ⟨_, rfl⟩
    (try rw [Option.bind_some] at H); (try dsimp only at H); rw [← hy693] at H
    have Ny693 := Aside0.mk hy693; clear hy693; obtain ⟨t696, A7, H⟩ := bi H; (try dsimp only at H); have H' := Aside0.mk H; clear H; go_enter Tryz.func39, Tryz.ntmps39; go_wp2_with (first | (go_at_call 46; (with_reducible refine (impl_in.calls a0 1 6 true _ A2.out).mono ?_); rintro e w' ⟨rfl, ⟨nd, rfl⟩⟩) | ((with_reducible refine gate_dst (N := 12) rfl ?_); refine Kd.R_make (Kd.int .i64) _ 3 rfl (N := 12) rfl 31 _ _ rfl ji4 rfl rfl Tryz.underlying31 (.int .i64 0) 8 info3 rfl (by decide) (by omega) 0 (ok := fun _ => True) (okp := fun _ => True) rfl (fun _ hk => hk) trivial (od) (Nat.le_trans (Nat.mul_le_mul_right _ (od : ji4.toNat ≤ 35184372088832)) (by omega)) (Below.refl _ _) (Nat.le_refl _) ?_; intro v694 w8 ho9 hb hg_ hnew_; clear hg_ hnew_; (first | rw [← Ny693.out] at ho9 | (simp only [Int.reduceToNat] at ho9; rw [← Ny693.out] at ho9)); have HO695 := Aside0.mk (Kd.R_lower ho9 (below_size (bl HB.out))); replace HB := bst HB hb; clear hb ho9) | (go_at_call 52; (with_reducible refine (impl_semis.calls k a0 t696 _ A7.out).mono ?_); rintro e w10 ⟨v697, rfl, ho0, hb⟩; have HO698 := Aside0.mk (Kd.S_lower (Kd.S_new' ho0 (Kd.R_lt (rR HO695.out))) (below_size (bl HB.out))); replace HO695 := Aside0.mk (Kd.R_below (rR HO695.out) hb); replace HB := bst HB hb; obtain ⟨Ao11, co11, eo11⟩ := Kd.S_slice HO698.out; subst eo11))
    go_loopg [16] k (fun kq v16 w' => ∃ (x4_1 : List Int) (x16_1 : Int), v16 = .int .i64 x16_1 ∧ Aside0 (impl_SpreadOfWindings.l0 kq x4_1 t696 (t696.length : Int) x16_1 = some (r1, r2)) ∧ Aside0 (kq ≤ k) ∧ Aside0 (Kd.R (Kd.int .i64) 3 w' w.heap.size (fun _ => True) v694 x4_1) ∧ Aside0 (Kd.S (Kd.slice 3 (Kd.int .i64)) 31 w' w.heap.size (fun k_ => some k_ ≠ (v694 : Value).ownBlock) (.slice Ao11 t696.length co11) t696) ∧ Aside0 (Below w.heap.size w w'))
    case atStart => exact ⟨(y693), (0), (sr2), H', ⟨Nat.le_refl _⟩, ⟨rR HO695.out⟩, ⟨rS (Kd.S_mono HO698.out (fun _ hk => hk.2))⟩, ⟨bl HB.out⟩⟩
    case round =>
     clear H'; obtain ⟨x4_1, x16_1, rfl, HA, HK1, HO_4, HO_14, HB⟩ := hrel
     cases gk with
     | zero => exact absurd HA.out (by simp [impl_SpreadOfWindings.l0])
     | succ k1 =>
      have H := HA.out; clear HA; simp only [impl_SpreadOfWindings.l0] at H
      by_cases c12 : x16_1 < (t696.length : Int)
      ·rw [if_pos c12] at H; have c12b0 := decide_eq_true c12; clear c12
       by_cases c13 : 0 ≤ x16_1
       ·rw [if_pos c13] at H; have c13b0 := decide_eq_true c13; clear c13
        by_cases c14 : x16_1 < (t696.length : Int)
        ·rw [if_pos c14] at H; have c14b0 := decide_eq_true c14; clear c14; obtain ⟨t700, A15, H⟩ := bi H; (try dsimp only at H)
         by_cases c16 : 0 ≤ t700
         ·rw [if_pos c16] at H; have c16b0 := decide_eq_true c16; clear c16
          by_cases c17 : t700 < (x4_1.length : Int)
          ·rw [if_pos c17] at H; have c17b0 := decide_eq_true c17; clear c17; obtain ⟨y702, hy702⟩ := yy (x4_1.set (t700 : Int).toNat (wrap64 ((rd x4_1 t700) + 1)))
           (try rw [Option.bind_some] at H); (try dsimp only at H); rw [← hy702] at H
           have Ny702 := Aside0.mk hy702; clear hy702; have H' := Aside0.mk H; clear H; have p699 : 0 ≤ (x16_1 : Int) := od; have q699 : x16_1 < (t696.length : Int) := od; obtain ⟨ad699, A699_0, c699_0, e699, hx699_0, hl699_0, hi699_0⟩ := at_L2 (Kd.S_reads' HO_14.out).2.2 x16_1 p699 q699; cases e699; obtain ⟨ce699, hce699, hMe699, hcc699⟩ := Kd.S_get HO_14.out [] x16_1 p699 (by first | exact q699 | exact od | (have e_ := (Kd.S_reads' HO_14.out).1; omega)); obtain ⟨ve699_0, rfl, ge699_0⟩ := hMe699; have hv699_0 := hcc699 0 _ rfl; rw [Nat.add_zero, show ((Kd.slice 3 (Kd.int .i64))).sz = 1 from rfl, Nat.mul_one] at hv699_0; replace hv699_0 := Option.some.inj (hv699_0.symm.trans hx699_0); rw [hv699_0] at ge699_0; have HL699_0 := Aside0.mk (show Kd.R (Kd.int .i64) 3 _ _ _ _ (rd_L2 t696 x16_1) from ge699_0); clear hv699_0 ge699_0; clear hcc699 hce699; have HR699_0 := Aside0.mk hi699_0; have HC699_0 := Aside0.mk hl699_0; clear hi699_0 hl699_0; replace p699 := eq_true p699; replace q699 := eq_true q699; go_wp2_with (first | (go_at_call 75; (with_reducible refine (impl_winding.calls k1 _ _ (rd_L2 t696 x16_1) t700 _ ?side1 HC699_0.out A15.out).mono ?_); (case side1 => repeat (first | exact (by repeat (first | (with_reducible exact HR699_0.out) | (with_reducible refine Kd.C_alloc ?_ _) | (with_reducible refine Kd.C_drewN ?_ _) | (with_reducible refine Kd.C_drew ?_) | exact HR699_0.out)) | (with_reducible refine Kd.C_alloc ?_ _) | (with_reducible refine Kd.C_drewN ?_ _) | (with_reducible refine Kd.C_drew ?_))); rintro e w' ⟨rfl, ⟨nd, rfl⟩⟩; (try (rw [drewN_self wr]; generalize hq_ : World.drewN wr _ = wr; have n0_ : Aside0 (Kd.R (Kd.int .i64) 3 wr w.heap.size (fun k_ => some k_ ≠ (.slice (some ad699) t696.length co11 : Value).ownBlock ∧ some k_ ≠ (v694 : Value).ownBlock) (.slice A699_0 (rd_L2 t696 x16_1).length c699_0) (rd_L2 t696 x16_1)) := ⟨by rw [← hq_]; exact (rR (Kd.R_mono HL699_0.out (fun _ hk => by first | exact ⟨hk.2, hk.1⟩ | exact ⟨hk.1, hk.2⟩)))⟩; have n1_ : Aside0 (Kd.S (Kd.slice 3 (Kd.int .i64)) 31 wr w.heap.size (fun k_ => some k_ ≠ (v694 : Value).ownBlock) (.slice (some ad699) t696.length co11) t696) := ⟨by rw [← hq_]; exact (rS HO_14.out)⟩; have n2_ : Aside0 (Kd.R (Kd.int .i64) 3 wr w.heap.size (fun _ => True) v694 x4_1) := ⟨by rw [← hq_]; exact (rR HO_4.out)⟩; have n3_ : Aside0 (Below w.heap.size w wr) := ⟨by rw [← hq_]; exact (bl HB.out)⟩; have n4_ : Aside0 (Kd.C (Kd.int .i64) wr A699_0 (rd_L2 t696 x16_1).length (rd_L2 t696 x16_1)) := ⟨by rw [← hq_]; exact (by repeat (first | (with_reducible exact HR699_0.out) | (with_reducible refine Kd.C_alloc ?_ _) | (with_reducible refine Kd.C_drewN ?_ _) | (with_reducible refine Kd.C_drew ?_) | exact HR699_0.out))⟩; clear HL699_0 HO_14 HO_4 HB HR699_0 hq_; have HL699_0 := n0_; have HO_14 := n1_; have HO_4 := n2_; have HB := n3_; have HR699_0 := n4_; clear n0_ n1_ n2_ n3_ n4_)); obtain ⟨Ao19, co19, eo19⟩ := Kd.R_slice HO_4.out; subst eo19; have p701 : 0 ≤ (t700 : Int) := od; have q701 : t700 < (x4_1.length : Int) := od; obtain ⟨ad701, e701, hx701_0⟩ := Kd.at_int (Kd.R_reads' HO_4.out).2.2 t700 p701 q701; cases e701; replace p701 := eq_true p701; replace q701 := eq_true q701; have p18 : 0 ≤ (t700 : Int) := od; have q18 : (t700 : Int) < ((x4_1.length : Int) : Int) := od; obtain ⟨go18, co18, eo18, gb18, gl18, cl18, HG18⟩ := Kd.R_form HO_4.out (by omega); (first | cases eo18 | (injection eo18 with ea_ en_ ec_; (first | subst ea_ | (injection ea_ with ea_; subst ea_)); subst ec_; clear en_)); have GB18 := Aside0.mk gb18; have GG18 := Aside0.mk HG18; clear gb18 gl18 HG18; (first | simp only [add_plain] at hx701_0 | skip); obtain ⟨hx18_0, hf18_0⟩ := Kd.R_celln 0 HO_4.out (t700 : Int) p18 q18; replace p18 := eq_true p18; replace q18 := eq_true q18; obtain ⟨hy20_, hz20_⟩ := Kd.R_celln 0 HO_4.out (t700 : Int) (od) (od); have HP20 := Kd.R_putg HO_4.out (t700 : Int) (wrap64 ((rd x4_1 t700) + 1))) | ((with_reducible refine gate_store (t := 3) (p := 26) rfl ?_); refine store_event (t := 3) (p := 26) (v := ?vo_w21) (w1 := (wr.setCell ⟨go18, (t700 : Int).toNat, none⟩ (.int .i64 (wrap64 ((rd x4_1 t700) + 1))))) ?hg ?ho ?hn ?hr ?_; (case ho => rfl); (case hg => rfl); (case hn => rfl); (case hr => first | (go_simp; done) | (go_simp; rfl)); intro w21 hw; have hg : wr.grownBy w21 (some go18) := (by rw [hw]; exact HP20.2); have hp_ : Kd.R (Kd.int .i64) 3 w21 w.heap.size (fun _ => True) (.slice (some ⟨go18, 0, none⟩) x4_1.length co19) y702 := (by rw [hw, Ny702.out]; exact HP20.1); clear HP20; replace HO_4 := Aside0.mk (hp_); replace HO_14 := Aside0.mk (Kd.S_after (v := (.slice (some ⟨go18, 0, none⟩) x4_1.length co19)) (v1 := (.slice (some ⟨go18, 0, none⟩) x4_1.length co19)) (ok := (fun _ => True)) (rS (Kd.S_mono HO_14.out (fun _ hk => ⟨trivial, hk⟩))) hg (.inl rfl)); replace HL699_0 := Aside0.mk (Kd.R_after (v := (.slice (some ⟨go18, 0, none⟩) x4_1.length co19)) (v1 := (.slice (some ⟨go18, 0, none⟩) x4_1.length co19)) (ok := (fun k_ => some k_ ≠ (.slice (some ad699) t696.length co11 : Value).ownBlock)) (rR (Kd.R_mono HL699_0.out (fun _ hk => by first | exact ⟨hk.2, hk.1⟩ | exact ⟨hk.1, hk.2⟩))) hg (.inl rfl)); replace HB := Aside0.mk ((by rw [hw]; exact below_set (HB.out) GB18.out : Below w.heap.size w w21)); clear hg hw hp_))
           first | go_roundg k1 | (simp only [← hji4]; go_roundg k1)
           case measure => have := HK1.out; omega
           case rel => exact ⟨(y702), (wrap64 (x16_1 + 1)), (sr2), H', ⟨by have := HK1.out; omega⟩, ⟨rR HO_4.out⟩, ⟨rS (Kd.S_mono HO_14.out (fun _ hk => hk.2))⟩, ⟨bl HB.out⟩⟩
          rw [if_neg c17] at H; exact absurd H (by simp)
         rw [if_neg c16] at H; exact absurd H (by simp)
        rw [if_neg c14] at H; exact absurd H (by simp)
       rw [if_neg c13] at H; exact absurd H (by simp)
      rw [if_neg c12] at H; have c12b0 := decide_eq_false c12; clear c12; simp only [Option.some.injEq, Prod.mk.injEq] at H; obtain ⟨rfl, rfl⟩ := H; go_wp2; go_ret2; exact ⟨_, by first | rfl | (simp [errW_none, errW_some] <;> rfl) | (simp only [← hji4]; first | rfl | (simp [errW_none, errW_some] <;> rfl)) | (simp [*, errW_none, errW_some] <;> rfl), rR HO_4.out, bl HB.out⟩
   rw [if_neg c6] at H; exact absurd H (by simp)
  rw [if_neg c5] at H; exact absurd H (by simp)
 replace c3 := Bool.eq_false_iff.mpr c3; subst c3; rw [if_neg (show ¬ (false = true) by decide)] at H; simp only [Option.some.injEq, Prod.mk.injEq] at H; obtain ⟨rfl, rfl⟩ := H; go_enter Tryz.func39, Tryz.ntmps39; go_wp2_with (first | (go_at_call 46; (with_reducible refine (impl_in.calls a0 1 6 false _ A2.out).mono ?_); rintro e w' ⟨rfl, ⟨nd, rfl⟩⟩)); go_ret2; exact ⟨_, sr, by first | exact Kd.R_nil _ _ _ _ _ | exact Kd.N_nil _ _ _ _ _ | exact Kd.V_nil _ _ _ _ _ | exact Kd.Q_nil _ _ _ _ _ | exact Kd.S_nil _ _ _ _ _, bl HB.out⟩
/-! ### spec_ahAll: function 104 -/
mutual
def spec_ahAll.l0 : Nat → Int → Int → List (List Int) → Int → Option ((List (List Int)))
 | 0, _, _, _, _ => none
 | k + 1, x0, x1, x5, x6 => if x6 < x0 then ((spec_ahAll.f k x6 (wrap64 (x1 + 1))).bind fun t706 => (spec_ahAll.l1 k x0 x1 x5 x6 t706 (t706.length : Int) 0)) else (some x5)
def spec_ahAll.l1 : Nat → Int → Int → List (List Int) → Int → List (List Int) → Int → Int → Option ((List (List Int)))
 | 0, _, _, _, _, _, _, _ => none
 | k + 1, x0, x1, x5, x6, x23, x24, x25 => if x25 < x24 then (if 0 ≤ x25 then (if x25 < (x23.length : Int) then ((spec_ahAll.f k (wrap64 ((wrap64 (x0 - 1)) - x6)) (wrap64 ((wrap64 (x1 + (wrap64 (2 * x6)))) + 2))).bind fun t710 => (spec_ahAll.l2 k x0 x1 x5 x6 (rd_L2 x23 x25) x23 x24 x25 t710 (t710.length : Int) 0)) else (none)) else (none)) else (spec_ahAll.l0 k x0 x1 x5 (wrap64 (x6 + 1)))
def spec_ahAll.l2 : Nat → Int → Int → List (List Int) → Int → List Int → List (List Int) → Int → Int → List (List Int) → Int → Int → Option ((List (List Int)))
 | 0, _, _, _, _, _, _, _, _, _, _, _ => none
 | k + 1, x0, x1, x5, x6, x8, x23, x24, x25, x38, x39, x40 => if x40 < x39 then (if 0 ≤ x40 then (if x40 < (x38.length : Int) then ((some (([wrap64 ((wrap64 (x1 + (wrap64 (2 * x6)))) + 1)] : List Int) : List Int)).bind fun y714 => (if y714.length + x8.length < 17592186044416 then ((some (y714 ++ x8 : List Int)).bind fun y717 => (if y717.length < 17592186044416 then ((some (y717 ++ [x1] : List Int)).bind fun y720 => (if y720.length + (rd_L2 x38 x40).length < 17592186044416 then (if x5.length < 5864062014805 then (spec_ahAll.l2 k x0 x1 (x5 ++ [(y720 ++ (rd_L2 x38 x40))]) x6 x8 x23 x24 x25 x38 x39 (wrap64 (x40 + 1))) else (none)) else (none))) else (none))) else (none))) else (none)) else (none)) else (spec_ahAll.l1 k x0 x1 x5 x6 x23 x24 (wrap64 (x25 + 1)))
def spec_ahAll.f : Nat → Int → Int → Option ((List (List Int)))
 | 0, _, _ => none
 | k + 1, a0, a1 => if a0 = 0 then (some (([[]] : List (List Int)))) else (spec_ahAll.l0 k a0 a1 ([] : List (List Int)) 0)
end
theorem spec_ahAll.mono_l : ∀ k, (∀ y0 y1, LeO (spec_ahAll.f k y0 y1) (spec_ahAll.f (k + 1) y0 y1)) ∧ (∀ y0 y1 y2 y3, LeO (spec_ahAll.l0 k y0 y1 y2 y3) (spec_ahAll.l0 (k + 1) y0 y1 y2 y3)) ∧ (∀ y0 y1 y2 y3 y4 y5 y6, LeO (spec_ahAll.l1 k y0 y1 y2 y3 y4 y5 y6) (spec_ahAll.l1 (k + 1) y0 y1 y2 y3 y4 y5 y6)) ∧ (∀ y0 y1 y2 y3 y4 y5 y6 y7 y8 y9 y10, LeO (spec_ahAll.l2 k y0 y1 y2 y3 y4 y5 y6 y7 y8 y9 y10) (spec_ahAll.l2 (k + 1) y0 y1 y2 y3 y4 y5 y6 y7 y8 y9 y10))
 | 0 => ⟨fun _ _ r h => by simp [spec_ahAll.f] at h, fun _ _ _ _ r h => by simp [spec_ahAll.l0] at h, fun _ _ _ _ _ _ _ r h => by simp [spec_ahAll.l1] at h, fun _ _ _ _ _ _ _ _ _ _ _ r h => by simp [spec_ahAll.l2] at h⟩
 | k + 1 => by
  obtain ⟨ih0, ih1, ih2, ih3⟩ := spec_ahAll.mono_l k
  refine ⟨?_, ?_, ?_, ?_⟩
  ·intro y0 y1
   unfold spec_ahAll.f
   repeat' first
   | (with_reducible exact ih0 _ _)
   | (with_reducible exact ih1 _ _ _ _)
   | (with_reducible exact ih2 _ _ _ _ _ _ _)
   | (with_reducible exact ih3 _ _ _ _ _ _ _ _ _ _ _)
   | (with_reducible exact LeO.refl _)
   | (with_reducible exact LeO.none _)
   | (with_reducible refine LeO.ite ?_ ?_)
   | (with_reducible refine LeO.bind ?_ (fun _ => ?_))
   | exact ih0 _ _
   | exact ih1 _ _ _ _
   | exact ih2 _ _ _ _ _ _ _
   | exact ih3 _ _ _ _ _ _ _ _ _ _ _
   | exact LeO.none _
   | refine LeO.ite ?_ ?_
   | refine LeO.bind ?_ (fun _ => ?_)
  ·intro y0 y1 y2 y3
   unfold spec_ahAll.l0
   repeat' first
   | (with_reducible exact ih0 _ _)
   | (with_reducible exact ih1 _ _ _ _)
   | (with_reducible exact ih2 _ _ _ _ _ _ _)
   | (with_reducible exact ih3 _ _ _ _ _ _ _ _ _ _ _)
   | (with_reducible exact LeO.refl _)
   | (with_reducible exact LeO.none _)
   | (with_reducible refine LeO.ite ?_ ?_)
   | (with_reducible refine LeO.bind ?_ (fun _ => ?_))
   | exact ih0 _ _
   | exact ih1 _ _ _ _
   | exact ih2 _ _ _ _ _ _ _
   | exact ih3 _ _ _ _ _ _ _ _ _ _ _
   | exact LeO.none _
   | refine LeO.ite ?_ ?_
   | refine LeO.bind ?_ (fun _ => ?_)
  ·intro y0 y1 y2 y3 y4 y5 y6
   unfold spec_ahAll.l1
   repeat' first
   | (with_reducible exact ih0 _ _)
   | (with_reducible exact ih1 _ _ _ _)
   | (with_reducible exact ih2 _ _ _ _ _ _ _)
   | (with_reducible exact ih3 _ _ _ _ _ _ _ _ _ _ _)
   | (with_reducible exact LeO.refl _)
   | (with_reducible exact LeO.none _)
   | (with_reducible refine LeO.ite ?_ ?_)
   | (with_reducible refine LeO.bind ?_ (fun _ => ?_))
   | exact ih0 _ _
   | exact ih1 _ _ _ _
   | exact ih2 _ _ _ _ _ _ _
   | exact ih3 _ _ _ _ _ _ _ _ _ _ _
   | exact LeO.none _
   | refine LeO.ite ?_ ?_
   | refine LeO.bind ?_ (fun _ => ?_)
  ·intro y0 y1 y2 y3 y4 y5 y6 y7 y8 y9 y10
   unfold spec_ahAll.l2
   repeat' first
   | (with_reducible exact ih0 _ _)
   | (with_reducible exact ih1 _ _ _ _)
   | (with_reducible exact ih2 _ _ _ _ _ _ _)
   | (with_reducible exact ih3 _ _ _ _ _ _ _ _ _ _ _)
   | (with_reducible exact LeO.refl _)
   | (with_reducible exact LeO.none _)
   | (with_reducible refine LeO.ite ?_ ?_)
   | (with_reducible refine LeO.bind ?_ (fun _ => ?_))
   | exact ih0 _ _
   | exact ih1 _ _ _ _
   | exact ih2 _ _ _ _ _ _ _
   | exact ih3 _ _ _ _ _ _ _ _ _ _ _
   | exact LeO.none _
   | refine LeO.ite ?_ ?_
   | refine LeO.bind ?_ (fun _ => ?_)
theorem spec_ahAll.mono : ∀ a0 a1 k, LeO (spec_ahAll.f k a0 a1) (spec_ahAll.f (k + 1) a0 a1) := by
 intro a0 a1 k; obtain ⟨ih0, ih1, ih2, ih3⟩ := spec_ahAll.mono_l k; exact ih0 a0 a1
theorem spec_ahAll.calls (k : Nat) : ∀ (a0 : Int) (a1 : Int) (r : List (List Int)) (w : World) (h : spec_ahAll.f k a0 a1 = some r),
  Calls Tryz.prog 104 #[.int .i64 a0, .int .i64 a1] w fun e w' => ∃ v0_ : Value, e = .returned (v0_) ∧ Kd.S (Kd.slice 3 (Kd.int .i64)) 31 w' w.heap.size (fun _ => True) v0_ r ∧ Below w.heap.size w w' := by
 induction k using Nat.strongRecOn with
 | _ k ih =>
 intro a0 a1 r w h
 cases k with
 | zero => exact absurd h (by simp [spec_ahAll.f])
 | succ k =>
 simp only [spec_ahAll.f] at h; have HB := Aside0.mk (Below.refl w.heap.size w); have H : (if a0 = 0 then (some (([[]] : List (List Int)))) else (spec_ahAll.l0 k a0 a1 ([] : List (List Int)) 0)) = some r := h; clear h
 by_cases c3 : a0 = 0
 ·rw [if_pos c3] at H; have c3b0 := beq_iff_eq.mpr c3; have c3b1 := bne_eq_false_iff_eq.mpr c3; clear c3; obtain ⟨y703, hy703⟩ := yy (([[]] : List (List Int)))
  (try rw [Option.bind_some] at H); (try dsimp only at H); rw [← hy703] at H
  have Ny703 := Aside0.mk hy703; clear hy703; obtain rfl := Option.some.inj H; go_enter Tryz.func104, Tryz.ntmps104; go_wp2_with (first | ((with_reducible refine gate_dst (N := 14) rfl ?_); refine Kd.S_lit (Kd.slice 3 (Kd.int .i64)) _ 31 ?hg (N := 14) ?hd (xs := ([[]] : List (List Int))) (inner := [.slice none 0 0]) (ok := fun _ => True) (okp := fun _ => True) ?hr ?hp (fun _ hk => hk) trivial (Below.refl _ _) (Nat.le_refl _) (by simp) ?_; (case hd => rfl); (case hg => rfl); (case hr => first | (go_simp; done) | (go_simp; rfl)); (case hp => exact (Reps.one (show Kd.M (Kd.slice 3 (Kd.int .i64)) _ _ _ [] [.slice none 0 0] from ⟨_, rfl, Kd.R_nil _ _ _ _ _⟩) (Reps.none _ _))); intro v704 w4 ho5 hb hg_ hnew_; clear hg_ hnew_; (first | rw [← Ny703.out] at ho5 | (simp only [Int.reduceToNat] at ho5; rw [← Ny703.out] at ho5)); have HO705 := Aside0.mk (Kd.S_lower ho5 (below_size (by repeat (first | (with_reducible first | exact HB.out | apply below_alloc | apply pw_below_drewN | apply below_drew1) | exact HB.out)))); replace HB := Aside0.mk (below_step (by repeat (first | (with_reducible first | exact HB.out | apply below_alloc | apply pw_below_drewN | apply below_drew1) | exact HB.out)) hb); clear hb ho5)); go_ret; exact ⟨_, sr, rS HO705.out, by repeat (first | (with_reducible first | exact HB.out | apply below_alloc | apply pw_below_drewN | apply below_drew1) | exact HB.out)⟩
 rw [if_neg c3] at H; have c3b0 := beq_eq_false_iff_ne.mpr c3; have c3b1 := bne_iff_ne.mpr c3; have H' := Aside0.mk H; clear H; go_enter Tryz.func104, Tryz.ntmps104; go_wp2
 go_loopg [5, 6] k (fun kq v5 v6 w' => ∃ (x5_1 : List (List Int)) (x6_1 : Int), v6 = .int .i64 x6_1 ∧ Aside0 (spec_ahAll.l0 kq a0 a1 x5_1 x6_1 = some r) ∧ Aside0 (kq ≤ k) ∧ Aside0 (Kd.S (Kd.slice 3 (Kd.int .i64)) 31 w' w.heap.size (fun _ => True) v5 x5_1) ∧ Aside0 (Below w.heap.size w w'))
 case atStart => exact ⟨(([] : List (List Int))), (0), (sr2), H', ⟨Nat.le_refl _⟩, ⟨by first | exact Kd.S_nil _ _ _ _ _ | exact Kd.N_nil _ _ _ _ _ | exact Kd.V_nil _ _ _ _ _ | exact Kd.Q_nil _ _ _ _ _ | exact Kd.R_nil _ _ _ _ _⟩, ⟨by repeat (first | (with_reducible first | exact HB.out | apply below_alloc | apply pw_below_drewN | apply below_drew1) | exact HB.out)⟩⟩
 case round =>
  clear H'; (try clear c1); (try clear p2); (try clear c3); (try clear c3b0); (try clear c3b1); obtain ⟨x5_1, x6_1, rfl, HA, HK1, HO_5, HB⟩ := hrel
  cases gk with
  | zero => exact absurd HA.out (by simp [spec_ahAll.l0])
  | succ k1 =>
   have H := HA.out; clear HA; simp only [spec_ahAll.l0] at H
   by_cases c6 : x6_1 < a0
   ·rw [if_pos c6] at H; have c6b0 := decide_eq_true c6; clear c6; obtain ⟨t706, A7, H⟩ := bi H; (try dsimp only at H); have H' := Aside0.mk H; clear H; go_wp2_with (first | ((with_reducible refine gate_callee (f := 104) rfl ?_); refine goesL_ (some 23) rfl rfl Tryz.func104 (by kernel_rfl) rfl #[.int .i64 x6_1, .int .i64 (wrap64 (a1 + 1))] rfl mp ?_; (with_reducible refine (ih k1 (by have := HK1.out; omega) x6_1 (wrap64 (a1 + 1)) t706 _ A7.out).mono ?_); rintro e w8 ⟨v707, rfl, ho0, hb⟩; refine ⟨_, rfl, ?_⟩; have HO708 := Aside0.mk (Kd.S_lower (Kd.S_new' ho0 (Kd.S_lt (rS HO_5.out))) (below_size (by repeat (first | (with_reducible first | exact HB.out | apply below_alloc | apply pw_below_drewN | apply below_drew1) | exact HB.out)))); replace HO_5 := Aside0.mk (Kd.S_elder' (rS HO_5.out) (Kd.S_base ho0) hb); replace HB := Aside0.mk (below_step (by repeat (first | (with_reducible first | exact HB.out | apply below_alloc | apply pw_below_drewN | apply below_drew1) | exact HB.out)) hb); (try clear hb); (try clear hb2); (try clear hk); (try clear hi); (try clear ho0); obtain ⟨Ao9, co9, eo9⟩ := Kd.S_slice HO708.out; subst eo9))
    go_loopg [5, 25] k1 (fun kq v5 v25 w' => ∃ (x5_2 : List (List Int)) (x25_2 : Int), v25 = .int .i64 x25_2 ∧ Aside0 (spec_ahAll.l1 kq a0 a1 x5_2 x6_1 t706 (t706.length : Int) x25_2 = some r) ∧ Aside0 (kq ≤ k1) ∧ Aside0 (Kd.S (Kd.slice 3 (Kd.int .i64)) 31 w' w.heap.size (fun k_ => some k_ ≠ ((.slice Ao9 t706.length co9) : Value).ownBlock) v5 x5_2) ∧ Aside0 (Kd.S (Kd.slice 3 (Kd.int .i64)) 31 w' w.heap.size (fun k_ => some k_ ≠ (v5 : Value).ownBlock) (.slice Ao9 t706.length co9) t706) ∧ Aside0 (Below w.heap.size w w'))
    case atStart => exact ⟨(x5_1), (0), (sr2), H', ⟨Nat.le_refl _⟩, ⟨rS (Kd.S_mono HO_5.out (fun _ hk => hk.2))⟩, ⟨rS (Kd.S_mono HO708.out (fun _ hk => hk.2))⟩, ⟨by repeat (first | (with_reducible first | exact HB.out | apply below_alloc | apply pw_below_drewN | apply below_drew1) | exact HB.out)⟩⟩
    case round =>
     clear H'; (try clear c1); (try clear p2); (try clear c3); (try clear c3b0); (try clear c3b1); (try clear c6); (try clear c6b0); (try clear p6); (try clear p2); obtain ⟨x5_2, x25_2, rfl, HA, HK2, HO_5, HO_23, HB⟩ := hrel
     cases gk with
     | zero => exact absurd HA.out (by simp [spec_ahAll.l1])
     | succ k2 =>
      have H := HA.out; clear HA; simp only [spec_ahAll.l1] at H
      by_cases c10 : x25_2 < (t706.length : Int)
      ·rw [if_pos c10] at H; have c10b0 := decide_eq_true c10; clear c10
       by_cases c11 : 0 ≤ x25_2
       ·rw [if_pos c11] at H; have c11b0 := decide_eq_true c11; clear c11
        by_cases c12 : x25_2 < (t706.length : Int)
        ·rw [if_pos c12] at H; have c12b0 := decide_eq_true c12; clear c12; obtain ⟨t710, A13, H⟩ := bi H; (try dsimp only at H); have H' := Aside0.mk H; clear H; have p709 : 0 ≤ (x25_2 : Int) := od; have q709 : x25_2 < (t706.length : Int) := od; obtain ⟨ad709, A709_0, c709_0, e709, hx709_0, hl709_0, hi709_0⟩ := at_L2 (Kd.S_reads' HO_23.out).2.2 x25_2 p709 q709; cases e709; obtain ⟨ce709, hce709, hMe709, hcc709⟩ := Kd.S_get HO_23.out [] x25_2 p709 (by first | exact q709 | exact od | (have e_ := (Kd.S_reads' HO_23.out).1; omega)); obtain ⟨ve709_0, rfl, ge709_0⟩ := hMe709; have hv709_0 := hcc709 0 _ rfl; rw [Nat.add_zero, show ((Kd.slice 3 (Kd.int .i64))).sz = 1 from rfl, Nat.mul_one] at hv709_0; replace hv709_0 := Option.some.inj (hv709_0.symm.trans hx709_0); rw [hv709_0] at ge709_0; have HL709_0 := Aside0.mk (show Kd.R (Kd.int .i64) 3 _ _ _ _ (rd_L2 t706 x25_2) from ge709_0); clear hv709_0 ge709_0; clear hcc709 hce709; have HR709_0 := Aside0.mk hi709_0; have HC709_0 := Aside0.mk hl709_0; clear hi709_0 hl709_0; replace p709 := eq_true p709; replace q709 := eq_true q709; go_wp2_with (first | ((with_reducible refine gate_callee (f := 104) rfl ?_); refine goesL_ (some 38) rfl rfl Tryz.func104 (by kernel_rfl) rfl #[.int .i64 (wrap64 ((wrap64 (a0 - 1)) - x6_1)), .int .i64 (wrap64 ((wrap64 (a1 + (wrap64 (2 * x6_1)))) + 2))] rfl mp ?_; (with_reducible refine (ih k2 (by have := HK1.out; have := HK2.out; omega) (wrap64 ((wrap64 (a0 - 1)) - x6_1)) (wrap64 ((wrap64 (a1 + (wrap64 (2 * x6_1)))) + 2)) t710 _ A13.out).mono ?_); rintro e w14 ⟨v711, rfl, ho0, hb⟩; refine ⟨_, rfl, ?_⟩; have HO712 := Aside0.mk (Kd.S_lower (Kd.S_new' (Kd.S_new' (Kd.S_new' ho0 (Kd.S_lt (rS HO_5.out))) (Kd.S_lt (rS HO_23.out))) (Kd.R_lt (rR HL709_0.out))) (below_size (by repeat (first | (with_reducible first | exact HB.out | apply below_alloc | apply pw_below_drewN | apply below_drew1) | exact HB.out)))); replace HO_5 := Aside0.mk (Kd.S_elder' (rS HO_5.out) (Kd.S_base ho0) hb); replace HO_23 := Aside0.mk (Kd.S_elder' (rS HO_23.out) (Kd.S_base ho0) hb); replace HL709_0 := Aside0.mk (Kd.R_below (rR HL709_0.out) hb); replace HR709_0 := Aside0.mk (Kd.C_below (by repeat (first | (with_reducible exact HR709_0.out) | (with_reducible refine Kd.C_alloc ?_ _) | (with_reducible refine Kd.C_drewN ?_ _) | (with_reducible refine Kd.C_drew ?_) | exact HR709_0.out)) hb); replace HB := Aside0.mk (below_step (by repeat (first | (with_reducible first | exact HB.out | apply below_alloc | apply pw_below_drewN | apply below_drew1) | exact HB.out)) hb); (try clear hb); (try clear hb2); (try clear hk); (try clear hi); (try clear ho0); obtain ⟨Ao15, co15, eo15⟩ := Kd.S_slice HO712.out; subst eo15))
         go_loopg [5, 40] k2 (fun kq v5 v40 w' => ∃ (x5_3 : List (List Int)) (x40_3 : Int), v40 = .int .i64 x40_3 ∧ Aside0 (spec_ahAll.l2 kq a0 a1 x5_3 x6_1 (rd_L2 t706 x25_2) t706 (t706.length : Int) x25_2 t710 (t710.length : Int) x40_3 = some r) ∧ Aside0 (kq ≤ k2) ∧ Aside0 (Kd.S (Kd.slice 3 (Kd.int .i64)) 31 w' w.heap.size (fun k_ => some k_ ≠ ((.slice (some ad709) t706.length co9) : Value).ownBlock ∧ some k_ ≠ ((.slice Ao15 t710.length co15) : Value).ownBlock) v5 x5_3) ∧ Aside0 (Kd.R (Kd.int .i64) 3 w' w.heap.size (fun _ => True) (.slice A709_0 (rd_L2 t706 x25_2).length c709_0) (rd_L2 t706 x25_2)) ∧ Aside0 (Kd.S (Kd.slice 3 (Kd.int .i64)) 31 w' w.heap.size (fun k_ => some k_ ≠ (v5 : Value).ownBlock ∧ some k_ ≠ ((.slice Ao15 t710.length co15) : Value).ownBlock) (.slice (some ad709) t706.length co9) t706) ∧ Aside0 (Kd.S (Kd.slice 3 (Kd.int .i64)) 31 w' w.heap.size (fun k_ => some k_ ≠ (v5 : Value).ownBlock ∧ some k_ ≠ ((.slice (some ad709) t706.length co9) : Value).ownBlock) (.slice Ao15 t710.length co15) t710) ∧ Aside0 (Below w.heap.size w w'))
         case atStart => exact ⟨(x5_2), (0), (sr2), H', ⟨Nat.le_refl _⟩, ⟨rS HO_5.out⟩, ⟨rR (Kd.R_mono HL709_0.out (fun _ hk => trivial))⟩, ⟨rS HO_23.out⟩, ⟨rS (Kd.S_mono HO712.out (fun _ hk => ⟨hk.1.1.2, hk.1.2⟩))⟩, ⟨by repeat (first | (with_reducible first | exact HB.out | apply below_alloc | apply pw_below_drewN | apply below_drew1) | exact HB.out)⟩⟩
         case round =>
          clear H'; (try clear c1); (try clear p2); (try clear c3); (try clear c3b0); (try clear c3b1); (try clear c6); (try clear c6b0); (try clear p6); (try clear c7); (try clear p7); (try clear q7); (try clear hx7); (try clear c10); (try clear c10b0); (try clear c11); (try clear c11b0); (try clear c12); (try clear c12b0); (try clear hx709_0); (try clear p2); (try clear p6); (try clear p709); (try clear q709); obtain ⟨x5_3, x40_3, rfl, HA, HK3, HO_5, HO_8, HO_23, HO_38, HB⟩ := hrel
          cases gk with
          | zero => exact absurd HA.out (by simp [spec_ahAll.l2])
          | succ k3 =>
           have H := HA.out; clear HA; simp only [spec_ahAll.l2] at H
           by_cases c16 : x40_3 < (t710.length : Int)
           ·rw [if_pos c16] at H; have c16b0 := decide_eq_true c16; clear c16
            by_cases c17 : 0 ≤ x40_3
            ·rw [if_pos c17] at H; have c17b0 := decide_eq_true c17; clear c17
             by_cases c18 : x40_3 < (t710.length : Int)
             ·rw [if_pos c18] at H; have c18b0 := decide_eq_true c18; clear c18; obtain ⟨y714, hy714⟩ := yy (([wrap64 ((wrap64 (a1 + (wrap64 (2 * x6_1)))) + 1)] : List Int))
              (try rw [Option.bind_some] at H); (try dsimp only at H); rw [← hy714] at H
              have Ny714 := Aside0.mk hy714; clear hy714
              by_cases c19 : y714.length + (rd_L2 t706 x25_2).length < 17592186044416
              ·rw [if_pos c19] at H; have LMc19 := Aside0.mk c19; clear c19; obtain ⟨y717, hy717⟩ := yy (y714 ++ (rd_L2 t706 x25_2))
               (try rw [Option.bind_some] at H); (try dsimp only at H); rw [← hy717] at H
               have Ny717 := Aside0.mk hy717; clear hy717
               by_cases c20 : y717.length < 17592186044416
               ·rw [if_pos c20] at H; have LMc20 := Aside0.mk c20; clear c20; obtain ⟨y720, hy720⟩ := yy (y717 ++ [a1])
                (try rw [Option.bind_some] at H); (try dsimp only at H); rw [← hy720] at H
                have Ny720 := Aside0.mk hy720; clear hy720
                by_cases c21 : y720.length + (rd_L2 t710 x40_3).length < 17592186044416
                ·rw [if_pos c21] at H; have LMc21 := Aside0.mk c21; clear c21; obtain ⟨y723, hy723⟩ := yy (y720 ++ (rd_L2 t710 x40_3))
                 (try rw [Option.bind_some] at H); (try dsimp only at H); rw [← hy723] at H
                 have Ny723 := Aside0.mk hy723; clear hy723
                 by_cases c22 : x5_3.length < 5864062014805
                 ·rw [if_pos c22] at H; have LMc22 := Aside0.mk c22; clear c22; obtain ⟨y726, hy726⟩ := yy (x5_3 ++ [y723])
                  (try rw [Option.bind_some] at H); (try dsimp only at H); rw [← hy726] at H
                  have Ny726 := Aside0.mk hy726; clear hy726; have H' := Aside0.mk H; clear H; have p713 : 0 ≤ (x40_3 : Int) := od; have q713 : x40_3 < (t710.length : Int) := od; obtain ⟨ad713, A713_0, c713_0, e713, hx713_0, hl713_0, hi713_0⟩ := at_L2 (Kd.S_reads' HO_38.out).2.2 x40_3 p713 q713; cases e713; obtain ⟨ce713, hce713, hMe713, hcc713⟩ := Kd.S_get HO_38.out [] x40_3 p713 (by first | exact q713 | exact od | (have e_ := (Kd.S_reads' HO_38.out).1; omega)); obtain ⟨ve713_0, rfl, ge713_0⟩ := hMe713; have hv713_0 := hcc713 0 _ rfl; rw [Nat.add_zero, show ((Kd.slice 3 (Kd.int .i64))).sz = 1 from rfl, Nat.mul_one] at hv713_0; replace hv713_0 := Option.some.inj (hv713_0.symm.trans hx713_0); rw [hv713_0] at ge713_0; have HL713_0 := Aside0.mk (show Kd.R (Kd.int .i64) 3 _ _ _ _ (rd_L2 t710 x40_3) from ge713_0); clear hv713_0 ge713_0; clear hcc713 hce713; have HR713_0 := Aside0.mk hi713_0; have HC713_0 := Aside0.mk hl713_0; clear hi713_0 hl713_0; replace p713 := eq_true p713; replace q713 := eq_true q713; go_wp2_with (first | ((with_reducible refine gate_dst (N := 49) rfl ?_); refine Kd.R_lit (Kd.int .i64) _ 3 ?hg (N := 49) ?hd (xs := ([wrap64 ((wrap64 (a1 + (wrap64 (2 * x6_1)))) + 1)] : List Int)) (inner := [.int .i64 (wrap64 ((wrap64 (a1 + (wrap64 (2 * x6_1)))) + 1))]) (ok := fun _ => True) (okp := fun _ => True) ?hr ?hp (fun _ hk => hk) trivial (Below.refl _ _) (Nat.le_refl _) (by simp) ?_; (case hd => rfl); (case hg => rfl); (case hr => first | (go_simp; done) | (go_simp; rfl)); (case hp => exact (Reps.one (show Kd.M (Kd.int .i64) _ _ _ (wrap64 ((wrap64 (a1 + (wrap64 (2 * x6_1)))) + 1)) [.int .i64 (wrap64 ((wrap64 (a1 + (wrap64 (2 * x6_1)))) + 1))] from rfl) (Reps.none _ _))); intro v715 w23 ho24 hb hg_ hnew_; clear hg_ hnew_; (first | rw [← Ny714.out] at ho24 | (simp only [Int.reduceToNat] at ho24; rw [← Ny714.out] at ho24)); replace HO_5 := Aside0.mk (Kd.S_elder' (rS HO_5.out) (Kd.R_base ho24) hb); replace HO_23 := Aside0.mk (Kd.S_elder' (rS HO_23.out) (Kd.R_base ho24) hb); replace HO_38 := Aside0.mk (Kd.S_elder' (rS HO_38.out) (Kd.R_base ho24) hb); have HO716 := Aside0.mk (Kd.R_lower (Kd.R_new' (Kd.R_new' ho24 (Kd.R_lt (rR HO_8.out))) (Kd.R_lt (rR HL713_0.out))) (below_size (by repeat (first | (with_reducible first | exact HB.out | apply below_alloc | apply pw_below_drewN | apply below_drew1) | exact HB.out)))); replace HO_8 := Aside0.mk (Kd.R_elder' (rR HO_8.out) (Kd.R_base ho24) hb); replace HL713_0 := Aside0.mk (Kd.R_elder' (rR HL713_0.out) (Kd.R_base ho24) hb); replace HR713_0 := Aside0.mk (Kd.C_below (by repeat (first | (with_reducible exact HR713_0.out) | (with_reducible refine Kd.C_alloc ?_ _) | (with_reducible refine Kd.C_drewN ?_ _) | (with_reducible refine Kd.C_drew ?_) | exact HR713_0.out)) hb); replace HB := Aside0.mk (below_step (by repeat (first | (with_reducible first | exact HB.out | apply below_alloc | apply pw_below_drewN | apply below_drew1) | exact HB.out)) hb); clear hb ho24) | ((with_reducible refine gate_builtin (b := .append) (xs := #[.tmp 49, .tmp 50]) rfl ?_); at_builtin; refine Kd.R_append_rows (Kd.int .i64) (w0 := w) w.heap.size rfl (.tmp 49) (.tmp 50) 31 3 (.int .i64 0) 8 rfl Tryz.underlying31 info3 rfl (by decide) (by omega) v715 y714 (rd_L2 t706 x25_2) _ _ _ (fun k_ => some k_ ≠ (.slice A709_0 (rd_L2 t706 x25_2).length c709_0 : Value).ownBlock ∧ some k_ ≠ (.slice A713_0 (rd_L2 t710 x40_3).length c713_0 : Value).ownBlock) (fun _ => False) rfl rfl ?aO ?aR (fun _ _ h => h) (fun _ h => h.elim) ?aF ?aB ?aS ?aL ?_; (case aR => repeat (first | exact (Kd.R_reads' HO_8.out).2.2 | (with_reducible refine Kd.C_alloc ?_ _) | (with_reducible refine Kd.C_drewN ?_ _) | (with_reducible refine Kd.C_drew ?_))); (case aB => exact (by repeat (first | (with_reducible first | exact HB.out | apply below_alloc | apply pw_below_drewN | apply below_drew1) | exact HB.out))); (case aF => exact (fun k_ hk => ⟨Kd.fresh' (Kd.R_lt (rR HO_8.out)) k_ hk, Kd.fresh' (Kd.R_lt (rR HL713_0.out)) k_ hk⟩)); (case aO => exact (rR (Kd.R_mono HO716.out (fun _ hk => ⟨hk.1.2, hk.2⟩)))); (case aS => exact (below_size (by repeat (first | (with_reducible first | exact HB.out | apply below_alloc | apply pw_below_drewN | apply below_drew1) | exact HB.out)))); (case aL => have := LMc19.out; omega); intro v718 w25 ho hb hg hat; rw [← Ny717.out] at ho; replace HO_5 := Aside0.mk (Kd.S_after (ok := (fun k_ => some k_ ≠ (.slice (some ad709) t706.length co9 : Value).ownBlock ∧ some k_ ≠ (.slice (some ad713) t710.length co15 : Value).ownBlock)) (rS HO_5.out) hg hat); replace HO_8 := Aside0.mk (Kd.R_after (ok := (fun _ => True)) (rR HO_8.out) hg hat); replace HO_23 := Aside0.mk (Kd.S_after (ok := (fun k_ => some k_ ≠ (u5 : Value).ownBlock ∧ some k_ ≠ (.slice (some ad713) t710.length co15 : Value).ownBlock)) (rS HO_23.out) hg hat); replace HO_38 := Aside0.mk (Kd.S_after (ok := (fun k_ => some k_ ≠ (u5 : Value).ownBlock ∧ some k_ ≠ (.slice (some ad709) t706.length co9 : Value).ownBlock)) (rS HO_38.out) hg hat); replace HL713_0 := Aside0.mk (Kd.R_after (ok := (fun k_ => some k_ ≠ (u5 : Value).ownBlock ∧ some k_ ≠ (.slice (some ad709) t706.length co9 : Value).ownBlock ∧ some k_ ≠ (.slice (some ad713) t710.length co15 : Value).ownBlock)) (rR (Kd.R_mono HL713_0.out (fun _ hk => ⟨⟨hk.1.1.1, ⟨hk.1.1.2, hk.1.2⟩⟩, hk.2⟩))) hg hat); replace HB := Aside0.mk (hb); have HO719 := Aside0.mk (ho); clear HO716; clear ho hb hg hat) | ((with_reducible refine gate_builtin (b := .append) (xs := #[.tmp 52, .tmp 54]) rfl ?_); at_builtin; refine Kd.R_append (Kd.int .i64) (w0 := w) w.heap.size rfl (.tmp 52) (.tmp 54) 31 3 (.int .i64 0) 8 rfl Tryz.underlying31 info3 rfl (by decide) (by omega) v718 y717 a1 [.int .i64 a1] (fun k_ => some k_ ≠ (.slice A709_0 (rd_L2 t706 x25_2).length c709_0 : Value).ownBlock ∧ some k_ ≠ (.slice A713_0 (rd_L2 t710 x40_3).length c713_0 : Value).ownBlock) (fun _ => False) rfl rfl ?aP (fun _ hk => hk.elim) ?aF ?aO ?aB ?aS ?aL ?_; (case aP => exact rfl); (case aB => exact (by repeat (first | (with_reducible first | exact HB.out | apply below_alloc | apply pw_below_drewN | apply below_drew1) | exact HB.out))); (case aF => exact (fun k_ hk => ⟨Kd.fresh' (Kd.R_lt (rR HO_8.out)) k_ hk, Kd.fresh' (Kd.R_lt (rR HL713_0.out)) k_ hk⟩)); (case aO => exact (rR HO719.out)); (case aS => exact (below_size (by repeat (first | (with_reducible first | exact HB.out | apply below_alloc | apply pw_below_drewN | apply below_drew1) | exact HB.out)))); (case aL => have := LMc20.out; omega); intro v721 w26 ho hb hg hat; rw [← Ny720.out] at ho; replace HO_5 := Aside0.mk (Kd.S_after (ok := (fun k_ => some k_ ≠ (.slice (some ad709) t706.length co9 : Value).ownBlock ∧ some k_ ≠ (.slice (some ad713) t710.length co15 : Value).ownBlock)) (rS HO_5.out) hg hat); replace HO_8 := Aside0.mk (Kd.R_after (ok := (fun _ => True)) (rR HO_8.out) hg hat); replace HO_23 := Aside0.mk (Kd.S_after (ok := (fun k_ => some k_ ≠ (u5 : Value).ownBlock ∧ some k_ ≠ (.slice (some ad713) t710.length co15 : Value).ownBlock)) (rS HO_23.out) hg hat); replace HO_38 := Aside0.mk (Kd.S_after (ok := (fun k_ => some k_ ≠ (u5 : Value).ownBlock ∧ some k_ ≠ (.slice (some ad709) t706.length co9 : Value).ownBlock)) (rS HO_38.out) hg hat); replace HL713_0 := Aside0.mk (Kd.R_after (ok := (fun k_ => some k_ ≠ (u5 : Value).ownBlock ∧ some k_ ≠ (.slice (some ad709) t706.length co9 : Value).ownBlock ∧ some k_ ≠ (.slice (some ad713) t710.length co15 : Value).ownBlock)) (rR HL713_0.out) hg hat); replace HB := Aside0.mk (hb); have HO722 := Aside0.mk (ho); clear HO719; clear ho hb hg hat) | ((with_reducible refine gate_builtin (b := .append) (xs := #[.tmp 55, .tmp 56]) rfl ?_); at_builtin; refine Kd.R_append_rows (Kd.int .i64) (w0 := w) w.heap.size rfl (.tmp 55) (.tmp 56) 31 3 (.int .i64 0) 8 rfl Tryz.underlying31 info3 rfl (by decide) (by omega) v721 y720 (rd_L2 t710 x40_3) _ _ _ (fun k_ => some k_ ≠ (.slice A709_0 (rd_L2 t706 x25_2).length c709_0 : Value).ownBlock ∧ some k_ ≠ (.slice A713_0 (rd_L2 t710 x40_3).length c713_0 : Value).ownBlock) (fun _ => False) rfl rfl ?aO ?aR (fun _ _ h => h) (fun _ h => h.elim) ?aF ?aB ?aS ?aL ?_; (case aR => repeat (first | exact ((Kd.R_reads' (rR HL713_0.out)).2.2) | (with_reducible refine Kd.C_alloc ?_ _) | (with_reducible refine Kd.C_drewN ?_ _) | (with_reducible refine Kd.C_drew ?_))); (case aB => exact (by repeat (first | (with_reducible first | exact HB.out | apply below_alloc | apply pw_below_drewN | apply below_drew1) | exact HB.out))); (case aF => exact (fun k_ hk => ⟨Kd.fresh' (Kd.R_lt (rR HO_8.out)) k_ hk, Kd.fresh' (Kd.R_lt (rR HL713_0.out)) k_ hk⟩)); (case aO => exact (rR HO722.out)); (case aS => exact (below_size (by repeat (first | (with_reducible first | exact HB.out | apply below_alloc | apply pw_below_drewN | apply below_drew1) | exact HB.out)))); (case aL => have := LMc21.out; omega); intro v724 w27 ho hb hg hat; rw [← Ny723.out] at ho; replace HO_5 := Aside0.mk (Kd.S_after (ok := (fun k_ => some k_ ≠ (.slice (some ad709) t706.length co9 : Value).ownBlock ∧ some k_ ≠ (.slice (some ad713) t710.length co15 : Value).ownBlock)) (rS HO_5.out) hg hat); replace HO_8 := Aside0.mk (Kd.R_after (ok := (fun _ => True)) (rR HO_8.out) hg hat); replace HO_23 := Aside0.mk (Kd.S_after (ok := (fun k_ => some k_ ≠ (u5 : Value).ownBlock ∧ some k_ ≠ (.slice (some ad713) t710.length co15 : Value).ownBlock)) (rS HO_23.out) hg hat); replace HO_38 := Aside0.mk (Kd.S_after (ok := (fun k_ => some k_ ≠ (u5 : Value).ownBlock ∧ some k_ ≠ (.slice (some ad709) t706.length co9 : Value).ownBlock)) (rS HO_38.out) hg hat); replace HL713_0 := Aside0.mk (Kd.R_after (ok := (fun k_ => some k_ ≠ (u5 : Value).ownBlock ∧ some k_ ≠ (.slice (some ad709) t706.length co9 : Value).ownBlock ∧ some k_ ≠ (.slice (some ad713) t710.length co15 : Value).ownBlock)) (rR HL713_0.out) hg hat); replace HB := Aside0.mk (hb); have HO725 := Aside0.mk (ho); clear HO722; clear ho hb hg hat; obtain ⟨Ao29, co29, eo29⟩ := Kd.R_slice HO725.out; subst eo29) | ((with_reducible refine gate_builtin (b := .append) (xs := #[.tmp 58, .tmp 60]) rfl ?_); at_builtin; refine Kd.S_append (Kd.slice 3 (Kd.int .i64)) (w0 := w) w.heap.size rfl (.tmp 58) (.tmp 60) 25 31 (.slice none 0 0) 24 rfl Tryz.underlying25 info31 rfl (by decide) (by omega) u5 x5_3 y723 [.slice Ao29 y723.length co29] (fun k_ => some k_ ≠ (.slice (some ad709) t706.length co9 : Value).ownBlock ∧ some k_ ≠ (.slice (some ad713) t710.length co15 : Value).ownBlock) (fun k_ => some k_ = (.slice Ao29 y723.length co29 : Value).ownBlock) rfl rfl ?aP (fun k_ hk_ => ((Kd.R_mono (ok' := fun k_ => ((fun k_ => some k_ ≠ (.slice (some ad709) t706.length co9 : Value).ownBlock ∧ some k_ ≠ (.slice (some ad713) t710.length co15 : Value).ownBlock)) k_ ∧ some k_ ≠ (u5 : Value).ownBlock) (Kd.R_apart' (Kd.R_apart' (Kd.R_apart' (HO725.out) (Kd.S_typed HO_23.out) (by decide)) (Kd.S_typed HO_38.out) (by decide)) (Kd.S_typed HO_5.out) (by decide)) (fun k_ hk => ⟨⟨hk.1.1.2, hk.1.2⟩, hk.2⟩))).1 k_ hk_.symm) ?aF ?aO ?aB ?aS ?aL ?_; (case aP => exact Kd.M_row (Kd.R_mono (Kd.R_tight rfl (Kd.R_mono (ok' := fun k_ => ((fun k_ => some k_ ≠ (.slice (some ad709) t706.length co9 : Value).ownBlock ∧ some k_ ≠ (.slice (some ad713) t710.length co15 : Value).ownBlock)) k_ ∧ some k_ ≠ (u5 : Value).ownBlock) (Kd.R_apart' (Kd.R_apart' (Kd.R_apart' (HO725.out) (Kd.S_typed HO_23.out) (by decide)) (Kd.S_typed HO_38.out) (by decide)) (Kd.S_typed HO_5.out) (by decide)) (fun k_ hk => ⟨⟨hk.1.1.2, hk.1.2⟩, hk.2⟩))) (fun _ h_ => h_))); (case aB => exact (by repeat (first | (with_reducible first | exact HB.out | apply below_alloc | apply pw_below_drewN | apply below_drew1) | exact HB.out))); (case aF => exact (fun k_ hk => ⟨Kd.fresh' (Kd.S_lt (rS HO_23.out)) k_ hk, Kd.fresh' (Kd.S_lt (rS HO_38.out)) k_ hk⟩)); (case aO => exact (rS (Kd.S_mono HO_5.out (fun k_ hk => ⟨⟨hk.1.1, hk.1.2⟩, fun e_ => hk.2 e_⟩)))); (case aS => exact (below_size (by repeat (first | (with_reducible first | exact HB.out | apply below_alloc | apply pw_below_drewN | apply below_drew1) | exact HB.out)))); (case aL => have := LMc22.out; omega); intro v727 w28 ho hb hg hat; rw [← Ny726.out] at ho; replace HO_8 := Aside0.mk (Kd.R_over' (rR HO_8.out) (Kd.S_typed (rS HO_5.out)) (by decide) hg); replace HO_23 := Aside0.mk (Kd.S_after (ok := (fun k_ => some k_ ≠ (.slice (some ad713) t710.length co15 : Value).ownBlock ∧ some k_ ≠ (.slice Ao29 y723.length co29 : Value).ownBlock)) (rS (Kd.S_mono HO_23.out (fun _ hk => ⟨⟨hk.1.2, hk.2⟩, hk.1.1⟩))) hg hat); replace HO_38 := Aside0.mk (Kd.S_after (ok := (fun k_ => some k_ ≠ (.slice (some ad709) t706.length co9 : Value).ownBlock ∧ some k_ ≠ (.slice Ao29 y723.length co29 : Value).ownBlock)) (rS (Kd.S_mono HO_38.out (fun _ hk => ⟨⟨hk.1.2, hk.2⟩, hk.1.1⟩))) hg hat); replace HL713_0 := Aside0.mk (Kd.R_after (ok := (fun k_ => some k_ ≠ (.slice (some ad709) t706.length co9 : Value).ownBlock ∧ some k_ ≠ (.slice (some ad713) t710.length co15 : Value).ownBlock ∧ some k_ ≠ (.slice Ao29 y723.length co29 : Value).ownBlock)) (rR (Kd.R_mono HL713_0.out (fun _ hk => ⟨⟨hk.1.2.1, ⟨hk.1.2.2, hk.2⟩⟩, hk.1.1⟩))) hg hat); replace HB := Aside0.mk (hb); have HO728 := Aside0.mk (ho); clear HO_5 HO725; clear ho hb hg hat))
                  go_roundg k3
                  case measure => have := HK1.out; have := HK2.out; have := HK3.out; omega
                  case rel => exact ⟨(y726), (wrap64 (x40_3 + 1)), (sr2), H', ⟨by have := HK1.out; have := HK2.out; have := HK3.out; omega⟩, ⟨rS HO728.out⟩, ⟨rR (Kd.R_mono HO_8.out (fun _ hk => trivial))⟩, ⟨rS (Kd.S_mono HO_23.out (fun _ hk => ⟨hk.2, hk.1.1⟩))⟩, ⟨rS (Kd.S_mono HO_38.out (fun _ hk => ⟨hk.2, hk.1.1⟩))⟩, ⟨by repeat (first | (with_reducible first | exact HB.out | apply below_alloc | apply pw_below_drewN | apply below_drew1) | exact HB.out)⟩⟩
                 rw [if_neg c22] at H; exact absurd H (by simp)
                rw [if_neg c21] at H; exact absurd H (by simp)
               rw [if_neg c20] at H; exact absurd H (by simp)
              rw [if_neg c19] at H; exact absurd H (by simp)
             rw [if_neg c18] at H; exact absurd H (by simp)
            rw [if_neg c17] at H; exact absurd H (by simp)
           rw [if_neg c16] at H; have c16b0 := decide_eq_false c16; clear c16; have H' := Aside0.mk H; clear H; go_wp2
           go_roundg k3
           case measure => have := HK1.out; have := HK2.out; have := HK3.out; omega
           case rel => exact ⟨(x5_3), (wrap64 (x25_2 + 1)), (sr2), H', ⟨by have := HK1.out; have := HK2.out; have := HK3.out; omega⟩, ⟨rS (Kd.S_mono HO_5.out (fun _ hk => hk.1))⟩, ⟨rS (Kd.S_mono HO_23.out (fun _ hk => hk.1))⟩, ⟨by repeat (first | (with_reducible first | exact HB.out | apply below_alloc | apply pw_below_drewN | apply below_drew1) | exact HB.out)⟩⟩
        rw [if_neg c12] at H; exact absurd H (by simp)
       rw [if_neg c11] at H; exact absurd H (by simp)
      rw [if_neg c10] at H; have c10b0 := decide_eq_false c10; clear c10; have H' := Aside0.mk H; clear H; go_wp2
      go_roundg k2
      case measure => have := HK1.out; have := HK2.out; omega
      case rel => exact ⟨(x5_2), (wrap64 (x6_1 + 1)), (sr2), H', ⟨by have := HK1.out; have := HK2.out; omega⟩, ⟨rS (Kd.S_mono HO_5.out (fun _ hk => trivial))⟩, ⟨by repeat (first | (with_reducible first | exact HB.out | apply below_alloc | apply pw_below_drewN | apply below_drew1) | exact HB.out)⟩⟩
   rw [if_neg c6] at H; have c6b0 := decide_eq_false c6; clear c6; obtain rfl := Option.some.inj H; go_wp2; go_ret; exact ⟨_, sr, rS HO_5.out, by repeat (first | (with_reducible first | exact HB.out | apply below_alloc | apply pw_below_drewN | apply below_drew1) | exact HB.out)⟩
/-! ### spec_spSemis: function 80 -/
def spec_spSemis.l0 : Nat → List (List Int) → List (List Int) → Int → Int → Option ((List (List Int)))
 | 0, _, _, _, _ => none
 | k + 1, x3, x7, x8, x9 => if x9 < x8 then (if 0 ≤ x9 then (if x9 < (x7.length : Int) then ((spec_spSemi.f k (rd_L2 x7 x9)).bind fun t733 => (if t733 = true then (if x3.length < 5864062014805 then (spec_spSemis.l0 k (x3 ++ [rd_L2 x7 x9]) x7 x8 (wrap64 (x9 + 1))) else (none)) else (spec_spSemis.l0 k x3 x7 x8 (wrap64 (x9 + 1))))) else (none)) else (none)) else (some x3)
def spec_spSemis.f (k : Nat) (a0 : Int) : Option ((List (List Int))) := (spec_ahAll.f k a0 0).bind fun t729 => (spec_spSemis.l0 k ([] : List (List Int)) t729 (t729.length : Int) 0)
theorem spec_spSemis.mono_l : ∀ k, (∀ y0 y1 y2 y3, LeO (spec_spSemis.l0 k y0 y1 y2 y3) (spec_spSemis.l0 (k + 1) y0 y1 y2 y3))
 | 0 => fun _ _ _ _ r h => by simp [spec_spSemis.l0] at h
 | k + 1 => by
  have ih0 := spec_spSemis.mono_l k
  ·intro y0 y1 y2 y3
   unfold spec_spSemis.l0
   repeat' first
   | (with_reducible exact ih0 _ _ _ _)
   | (with_reducible exact spec_ahAll.mono _ _ _)
   | (with_reducible exact spec_spSemi.mono _ _)
   | (with_reducible exact LeO.refl _)
   | (with_reducible exact LeO.none _)
   | (with_reducible refine LeO.ite ?_ ?_)
   | (with_reducible refine LeO.bind ?_ (fun _ => ?_))
   | exact ih0 _ _ _ _
   | exact spec_ahAll.mono _ _ _
   | exact spec_spSemi.mono _ _
   | exact LeO.none _
   | refine LeO.ite ?_ ?_
   | refine LeO.bind ?_ (fun _ => ?_)
theorem spec_spSemis.mono : ∀ a0 k, LeO (spec_spSemis.f k a0) (spec_spSemis.f (k + 1) a0) := by
 intro a0 k; have ih0 := spec_spSemis.mono_l k; unfold spec_spSemis.f
 repeat' first
   | (with_reducible exact ih0 _ _ _ _)
   | (with_reducible exact spec_ahAll.mono _ _ _)
   | (with_reducible exact spec_spSemi.mono _ _)
   | (with_reducible exact LeO.refl _)
   | (with_reducible exact LeO.none _)
   | (with_reducible refine LeO.ite ?_ ?_)
   | (with_reducible refine LeO.bind ?_ (fun _ => ?_))
   | exact ih0 _ _ _ _
   | exact spec_ahAll.mono _ _ _
   | exact spec_spSemi.mono _ _
   | exact LeO.none _
   | refine LeO.ite ?_ ?_
   | refine LeO.bind ?_ (fun _ => ?_)
theorem spec_spSemis.calls (k : Nat) (a0 : Int) (r : List (List Int)) (w : World) (h : spec_spSemis.f k a0 = some r) :
  Calls Tryz.prog 80 #[.int .i64 a0] w fun e w' => ∃ v0_ : Value, e = .returned (v0_) ∧ Kd.N (Kd.slice 3 (Kd.int .i64)) 31 w' w.heap.size (fun k_ => (w.heap.size ≤ k_)) v0_ r ∧ Below w.heap.size w w' := by
 have HB := Aside0.mk (Below.refl w.heap.size w); have H : ((spec_ahAll.f k a0 0).bind fun t729 => (spec_spSemis.l0 k ([] : List (List Int)) t729 (t729.length : Int) 0)) = some r := h; clear h; obtain ⟨t729, A2, H⟩ := bi H; (try dsimp only at H); have H' := Aside0.mk H; clear H; go_enter Tryz.func80, Tryz.ntmps80; go_wp2_with (first | (go_at_call 104; (with_reducible refine (spec_ahAll.calls k a0 0 t729 _ A2.out).mono ?_); rintro e w3 ⟨v730, rfl, ho0, hb⟩; have HO731 := Aside0.mk (Kd.N_lower (Kd.N_mono (ok' := fun k_ => (w.heap.size ≤ k_)) (Kd.S_N (Kd.S_bound ho0)) (fun k_ hk_ => (Nat.le_trans (below_size (bl HB.out)) hk_.2.1))) (below_size (bl HB.out))); replace HB := bst HB hb; obtain ⟨Ao4, co4, eo4⟩ := Kd.N_slice HO731.out; subst eo4))
 go_loopg [3, 9] k (fun kq v3 v9 w' => ∃ (x3_1 : List (List Int)) (x9_1 : Int), v9 = .int .i64 x9_1 ∧ Aside0 (spec_spSemis.l0 kq x3_1 t729 (t729.length : Int) x9_1 = some r) ∧ Aside0 (kq ≤ k) ∧ Aside0 (Kd.N (Kd.slice 3 (Kd.int .i64)) 31 w' w.heap.size (fun k_ => (w.heap.size ≤ k_) ∧ some k_ ≠ ((.slice Ao4 t729.length co4) : Value).ownBlock) v3 x3_1) ∧ Aside0 (Kd.N (Kd.slice 3 (Kd.int .i64)) 31 w' w.heap.size (fun k_ => (w.heap.size ≤ k_) ∧ some k_ ≠ (v3 : Value).ownBlock) (.slice Ao4 t729.length co4) t729) ∧ Aside0 (Below w.heap.size w w'))
 case atStart => exact ⟨(([] : List (List Int))), (0), (sr2), H', ⟨Nat.le_refl _⟩, ⟨by first | exact Kd.S_nil _ _ _ _ _ | exact Kd.N_nil _ _ _ _ _ | exact Kd.V_nil _ _ _ _ _ | exact Kd.Q_nil _ _ _ _ _ | exact Kd.R_nil _ _ _ _ _⟩, ⟨rN (Kd.N_mono HO731.out (fun _ hk => ⟨hk, (by simp [Value.ownBlock])⟩))⟩, ⟨bl HB.out⟩⟩
 case round =>
  clear H'; obtain ⟨x3_1, x9_1, rfl, HA, HK1, HO_3, HO_7, HB⟩ := hrel
  cases gk with
  | zero => exact absurd HA.out (by simp [spec_spSemis.l0])
  | succ k1 =>
   have H := HA.out; clear HA; simp only [spec_spSemis.l0] at H
   by_cases c5 : x9_1 < (t729.length : Int)
   ·rw [if_pos c5] at H; have c5b0 := decide_eq_true c5; clear c5
    by_cases c6 : 0 ≤ x9_1
    ·rw [if_pos c6] at H; have c6b0 := decide_eq_true c6; clear c6
     by_cases c7 : x9_1 < (t729.length : Int)
     ·rw [if_pos c7] at H; have c7b0 := decide_eq_true c7; clear c7; obtain ⟨t733, A8, H⟩ := bi H; (try dsimp only at H)
      by_cases c9 : t733 = true
      ·subst c9; rw [if_pos rfl] at H
       by_cases c10 : x3_1.length < 5864062014805
       ·rw [if_pos c10] at H; have LMc10 := Aside0.mk c10; clear c10; obtain ⟨y734, hy734⟩ := yy (x3_1 ++ [rd_L2 t729 x9_1])
        (try rw [Option.bind_some] at H); (try dsimp only at H); rw [← hy734] at H
        have Ny734 := Aside0.mk hy734; clear hy734; have H' := Aside0.mk H; clear H; have p732 : 0 ≤ (x9_1 : Int) := od; have q732 : x9_1 < (t729.length : Int) := od; obtain ⟨ad732, A732_0, c732_0, e732, hx732_0, hl732_0, hi732_0⟩ := at_L2 (Kd.N_reads' HO_7.out).2.2 x9_1 p732 q732; cases e732; obtain ⟨ce732, hce732, hMe732, hcc732⟩ := Kd.N_get HO_7.out [] x9_1 p732 (by first | exact q732 | exact od | (have e_ := (Kd.N_reads' HO_7.out).1; omega)); obtain ⟨ua732_0, uc732_0, rfl, ul732_0, ge732_0⟩ := Kd.FK_slice_open hMe732; have hv732_0 := hcc732 0 _ rfl; rw [Nat.add_zero, show ((Kd.slice 3 (Kd.int .i64))).sz = 1 from rfl, Nat.mul_one] at hv732_0; replace hv732_0 := Option.some.inj (hv732_0.symm.trans hx732_0); (injection hv732_0 with hva_ hvn_ hvc_); rw [hva_] at ge732_0; rw [hvc_] at ul732_0; have HL732_0 := Aside0.mk (show Kd.V (Kd.int .i64) 3 _ w.heap.size _ _ (rd_L2 t729 x9_1) from Kd.V_mk ul732_0 ge732_0); clear hva_ hvn_ hvc_ ge732_0 ul732_0; clear hcc732 hce732; have HR732_0 := Aside0.mk hi732_0; have HC732_0 := Aside0.mk hl732_0; clear hi732_0 hl732_0; replace p732 := eq_true p732; replace q732 := eq_true q732; go_wp2_with (first | (go_at_call 69; (with_reducible refine (spec_spSemi.calls k1 _ _ (rd_L2 t729 x9_1) true _ ?side1 HC732_0.out A8.out).mono ?_); (case side1 => repeat (first | exact (by repeat (first | (with_reducible exact HR732_0.out) | (with_reducible refine Kd.C_alloc ?_ _) | (with_reducible refine Kd.C_drewN ?_ _) | (with_reducible refine Kd.C_drew ?_) | exact HR732_0.out)) | (with_reducible refine Kd.C_alloc ?_ _) | (with_reducible refine Kd.C_drewN ?_ _) | (with_reducible refine Kd.C_drew ?_))); rintro e w11 ⟨rfl, hb⟩; replace HO_3 := Aside0.mk (Kd.N_below (rN HO_3.out) hb); replace HO_7 := Aside0.mk (Kd.N_below (rN HO_7.out) hb); replace HL732_0 := Aside0.mk (Kd.V_below (rV HL732_0.out) hb); replace HR732_0 := Aside0.mk (Kd.C_below (by repeat (first | (with_reducible exact HR732_0.out) | (with_reducible refine Kd.C_alloc ?_ _) | (with_reducible refine Kd.C_drewN ?_ _) | (with_reducible refine Kd.C_drew ?_) | exact HR732_0.out)) hb); replace HB := bst HB hb) | ((with_reducible refine gate_builtin (b := .append) (xs := #[.tmp 15, .tmp 17]) rfl ?_); at_builtin; refine Kd.N_append (Kd.slice 3 (Kd.int .i64)) (w0 := w) w.heap.size rfl (.tmp 15) (.tmp 17) 25 31 (.slice none 0 0) 24 rfl Tryz.underlying25 info31 rfl (by decide) (by omega) u3 x3_1 (rd_L2 t729 x9_1) [.slice A732_0 (rd_L2 t729 x9_1).length c732_0] (fun k_ => (w.heap.size ≤ k_) ∧ some k_ ≠ (.slice (some ad732) t729.length co4 : Value).ownBlock) (fun k_ => ((fun k_ => (w.heap.size ≤ k_) ∧ some k_ ≠ (.slice (some ad732) t729.length co4 : Value).ownBlock)) k_ ∧ some k_ ≠ (u3 : Value).ownBlock) rfl rfl ?aP (fun _ hk => hk) ?aF ?aO ?aB ?aS (by have := LMc10.out; omega) ?_; (case aP => exact (Kd.FK_slice_mk (Kd.V_reads' (Kd.V_mono (ok' := (fun k_ => ((fun k_ => (w.heap.size ≤ k_) ∧ some k_ ≠ (.slice (some ad732) t729.length co4 : Value).ownBlock)) k_ ∧ some k_ ≠ (u3 : Value).ownBlock)) (HL732_0.out) (fun k_ hk => ⟨⟨hk.1.1, hk.2⟩, hk.1.2⟩))).2.1 (Kd.V_F (Kd.V_mono (ok' := (fun k_ => ((fun k_ => (w.heap.size ≤ k_) ∧ some k_ ≠ (.slice (some ad732) t729.length co4 : Value).ownBlock)) k_ ∧ some k_ ≠ (u3 : Value).ownBlock)) (HL732_0.out) (fun k_ hk => ⟨⟨hk.1.1, hk.2⟩, hk.1.2⟩))))); (case aB => exact (bl HB.out)); (case aF => exact (fun k_ hk => ⟨(Nat.le_trans (below_size (bl HB.out)) hk), Kd.fresh' (Kd.N_lt (rN HO_7.out)) k_ hk⟩)); (case aO => exact (rN HO_3.out)); (case aS => exact (below_size (bl HB.out))); intro v735 w12 ho hb hg hat; rw [← Ny734.out] at ho; replace HO_7 := Aside0.mk (Kd.N_afterv (ok := (fun k_ => (w.heap.size ≤ k_))) (rN HO_7.out) hg hat); replace HL732_0 := Aside0.mk (Kd.V_afterv (ok := (fun k_ => (w.heap.size ≤ k_) ∧ some k_ ≠ (.slice (some ad732) t729.length co4 : Value).ownBlock)) (rV (Kd.V_mono HL732_0.out (fun _ hk => ⟨⟨hk.1.1, hk.2⟩, hk.1.2⟩))) hg hat); replace HB := Aside0.mk (hb); have HO736 := Aside0.mk (ho); clear HO_3; clear ho hb hg hat))
        go_roundg k1
        case measure => have := HK1.out; omega
        case rel => exact ⟨(y734), (wrap64 (x9_1 + 1)), (sr2), H', ⟨by have := HK1.out; omega⟩, ⟨rN HO736.out⟩, ⟨rN HO_7.out⟩, ⟨bl HB.out⟩⟩
       rw [if_neg c10] at H; exact absurd H (by simp)
      replace c9 := Bool.eq_false_iff.mpr c9; subst c9; rw [if_neg (show ¬ (false = true) by decide)] at H; have H' := Aside0.mk H; clear H; have p732 : 0 ≤ (x9_1 : Int) := od; have q732 : x9_1 < (t729.length : Int) := od; obtain ⟨ad732, A732_0, c732_0, e732, hx732_0, hl732_0, hi732_0⟩ := at_L2 (Kd.N_reads' HO_7.out).2.2 x9_1 p732 q732; cases e732; obtain ⟨ce732, hce732, hMe732, hcc732⟩ := Kd.N_get HO_7.out [] x9_1 p732 (by first | exact q732 | exact od | (have e_ := (Kd.N_reads' HO_7.out).1; omega)); obtain ⟨ua732_0, uc732_0, rfl, ul732_0, ge732_0⟩ := Kd.FK_slice_open hMe732; have hv732_0 := hcc732 0 _ rfl; rw [Nat.add_zero, show ((Kd.slice 3 (Kd.int .i64))).sz = 1 from rfl, Nat.mul_one] at hv732_0; replace hv732_0 := Option.some.inj (hv732_0.symm.trans hx732_0); (injection hv732_0 with hva_ hvn_ hvc_); rw [hva_] at ge732_0; rw [hvc_] at ul732_0; have HL732_0 := Aside0.mk (show Kd.V (Kd.int .i64) 3 _ w.heap.size _ _ (rd_L2 t729 x9_1) from Kd.V_mk ul732_0 ge732_0); clear hva_ hvn_ hvc_ ge732_0 ul732_0; clear hcc732 hce732; have HR732_0 := Aside0.mk hi732_0; have HC732_0 := Aside0.mk hl732_0; clear hi732_0 hl732_0; replace p732 := eq_true p732; replace q732 := eq_true q732; go_wp2_with (first | (go_at_call 69; (with_reducible refine (spec_spSemi.calls k1 _ _ (rd_L2 t729 x9_1) false _ ?side1 HC732_0.out A8.out).mono ?_); (case side1 => repeat (first | exact (by repeat (first | (with_reducible exact HR732_0.out) | (with_reducible refine Kd.C_alloc ?_ _) | (with_reducible refine Kd.C_drewN ?_ _) | (with_reducible refine Kd.C_drew ?_) | exact HR732_0.out)) | (with_reducible refine Kd.C_alloc ?_ _) | (with_reducible refine Kd.C_drewN ?_ _) | (with_reducible refine Kd.C_drew ?_))); rintro e w13 ⟨rfl, hb⟩; replace HO_3 := Aside0.mk (Kd.N_below (rN HO_3.out) hb); replace HO_7 := Aside0.mk (Kd.N_below (rN HO_7.out) hb); replace HL732_0 := Aside0.mk (Kd.V_below (rV HL732_0.out) hb); replace HR732_0 := Aside0.mk (Kd.C_below (by repeat (first | (with_reducible exact HR732_0.out) | (with_reducible refine Kd.C_alloc ?_ _) | (with_reducible refine Kd.C_drewN ?_ _) | (with_reducible refine Kd.C_drew ?_) | exact HR732_0.out)) hb); replace HB := bst HB hb))
      go_roundg k1
      case measure => have := HK1.out; omega
      case rel => exact ⟨(x3_1), (wrap64 (x9_1 + 1)), (sr2), H', ⟨by have := HK1.out; omega⟩, ⟨rN HO_3.out⟩, ⟨rN HO_7.out⟩, ⟨bl HB.out⟩⟩
     rw [if_neg c7] at H; exact absurd H (by simp)
    rw [if_neg c6] at H; exact absurd H (by simp)
   rw [if_neg c5] at H; have c5b0 := decide_eq_false c5; clear c5; obtain rfl := Option.some.inj H; go_wp2; go_ret; exact ⟨_, sr, rN (Kd.N_mono HO_3.out (fun _ hk => hk.1)), bl HB.out⟩
/-! ### spec_spWinding: function 81 -/
def spec_spWinding.l0 : Nat → List Int → Int → Int → Option (Int)
 | 0, _, _, _ => none
 | k + 1, x0, x3, x4 => if x4 < (wrap64 ((x0.length : Int) / 2)) then (if 0 ≤ x4 then (if x4 < (x0.length : Int) then (if (rd x0 x4) ≥ (wrap64 ((x0.length : Int) / 2)) then (spec_spWinding.l0 k x0 (wrap64 (x3 + 1)) (wrap64 (x4 + 1))) else (spec_spWinding.l0 k x0 x3 (wrap64 (x4 + 1)))) else (none)) else (none)) else (some x3)
def spec_spWinding.f (k : Nat) (l0 : List Int) : Option (Int) := spec_spWinding.l0 k l0 0 0
theorem spec_spWinding.mono_l : ∀ k, (∀ y0 y1 y2, LeO (spec_spWinding.l0 k y0 y1 y2) (spec_spWinding.l0 (k + 1) y0 y1 y2))
 | 0 => fun _ _ _ r h => by simp [spec_spWinding.l0] at h
 | k + 1 => by
  have ih0 := spec_spWinding.mono_l k
  ·intro y0 y1 y2
   unfold spec_spWinding.l0
   repeat' first
   | (with_reducible exact ih0 _ _ _)
   | (with_reducible exact LeO.refl _)
   | (with_reducible exact LeO.none _)
   | (with_reducible refine LeO.ite ?_ ?_)
   | (with_reducible refine LeO.bind ?_ (fun _ => ?_))
   | exact ih0 _ _ _
   | exact LeO.none _
   | refine LeO.ite ?_ ?_
   | refine LeO.bind ?_ (fun _ => ?_)
theorem spec_spWinding.mono : ∀ a0 k, LeO (spec_spWinding.f k a0) (spec_spWinding.f (k + 1) a0) := by
 intro a0 k; have ih0 := spec_spWinding.mono_l k; unfold spec_spWinding.f
 repeat' first
   | (with_reducible exact ih0 _ _ _)
   | (with_reducible exact LeO.refl _)
   | (with_reducible exact LeO.none _)
   | (with_reducible refine LeO.ite ?_ ?_)
   | (with_reducible refine LeO.bind ?_ (fun _ => ?_))
   | exact ih0 _ _ _
   | exact LeO.none _
   | refine LeO.ite ?_ ?_
   | refine LeO.bind ?_ (fun _ => ?_)
theorem spec_spWinding.calls (k : Nat) (A0 : Option Addr) (c0 : Nat) (l0 : List Int) (r : Int) (w : World) (hr0 : Kd.C (Kd.int .i64) w A0 l0.length l0) (hc0 : l0.length ≤ c0) (h : spec_spWinding.f k l0 = some r) :
  Calls Tryz.prog 81 #[.slice A0 l0.length c0] w fun e w' => e = .returned (.int .i64 r) ∧ Drawn0 w w' := by
 have HR0 := Aside0.mk hr0; have HC0 := Aside0.mk hc0; clear hr0 hc0; have H : (spec_spWinding.l0 k l0 0 0) = some r := h; clear h; have H' := Aside0.mk H; clear H; go_enter Tryz.func81, Tryz.ntmps81; go_wp2
 go_loopg [3, 4] k (fun kq v3 v4 w' => ∃ (x3_1 : Int) (x4_1 : Int), v3 = .int .i64 x3_1 ∧ v4 = .int .i64 x4_1 ∧ Aside0 (spec_spWinding.l0 kq l0 x3_1 x4_1 = some r) ∧ Aside0 (kq ≤ k) ∧ Drawn0 w w')
 case atStart => exact ⟨(0), (0), (sr2), (sr2), H', ⟨Nat.le_refl _⟩, by repeat (first | exact Drawn0.refl _ | apply Drawn0.step)⟩
 case round =>
  clear H'; obtain ⟨x3_1, x4_1, rfl, rfl, HA, HK1, ⟨m1, rfl⟩⟩ := hrel
  cases gk with
  | zero => exact absurd HA.out (by simp [spec_spWinding.l0])
  | succ k1 =>
   have H := HA.out; clear HA; simp only [spec_spWinding.l0] at H
   by_cases c2 : x4_1 < (wrap64 ((l0.length : Int) / 2))
   ·rw [if_pos c2] at H; have c2b0 := decide_eq_true c2; clear c2
    by_cases c3 : 0 ≤ x4_1
    ·rw [if_pos c3] at H; have c3b0 := decide_eq_true c3; clear c3
     by_cases c4 : x4_1 < (l0.length : Int)
     ·rw [if_pos c4] at H; have c4b0 := decide_eq_true c4; clear c4
      by_cases c5 : (rd l0 x4_1) ≥ (wrap64 ((l0.length : Int) / 2))
      ·rw [if_pos c5] at H; have c5b0 := decide_eq_true c5; clear c5; have H' := Aside0.mk H; clear H; obtain ⟨ad737, e737, hx737_0, p737, q737⟩ := atI HR0.out x4_1; cases e737; go_wp2
       go_roundg k1
       case measure => have := HK1.out; omega
       case rel => exact ⟨(wrap64 (x3_1 + 1)), (wrap64 (x4_1 + 1)), (sr2), (sr2), H', ⟨by have := HK1.out; omega⟩, by repeat (first | exact Drawn0.refl _ | apply Drawn0.step)⟩
      rw [if_neg c5] at H; have c5b0 := decide_eq_false c5; clear c5; have H' := Aside0.mk H; clear H; obtain ⟨ad737, e737, hx737_0, p737, q737⟩ := atI HR0.out x4_1; cases e737; go_wp2
      go_roundg k1
      case measure => have := HK1.out; omega
      case rel => exact ⟨(x3_1), (wrap64 (x4_1 + 1)), (sr2), (sr2), H', ⟨by have := HK1.out; omega⟩, by repeat (first | exact Drawn0.refl _ | apply Drawn0.step)⟩
     rw [if_neg c4] at H; exact absurd H (by simp)
    rw [if_neg c3] at H; exact absurd H (by simp)
   rw [if_neg c2] at H; have c2b0 := decide_eq_false c2; clear c2; obtain rfl := Option.some.inj H; go_wp2; go_ret; exact ⟨sr2, by repeat (first | exact Drawn0.refl _ | apply Drawn0.step)⟩
/-! ### spec_SpreadOfWindings: function 40 -/
def spec_SpreadOfWindings.l0 : Nat → List Int → List (List Int) → Int → Int → Option (List Int × Bool)
 | 0, _, _, _, _ => none
 | k + 1, x4, x14, x15, x16 => if x16 < x15 then (if 0 ≤ x16 then (if x16 < (x14.length : Int) then ((spec_spWinding.f k (rd_L2 x14 x16)).bind fun t746 => (if 0 ≤ t746 then (if t746 < (x4.length : Int) then (spec_SpreadOfWindings.l0 k (x4.set (t746 : Int).toNat (wrap64 ((rd x4 t746) + 1))) x14 x15 (wrap64 (x16 + 1))) else (none)) else (none))) else (none)) else (none)) else (some (x4, true))
def spec_SpreadOfWindings.f (k : Nat) (a0 : Int) : Option (List Int × Bool) := (spec_l1In.f a0 1 6).bind fun t738 => (if t738 = true then (if 0 ≤ (wrap64 (a0 + 1)) then (if (wrap64 (a0 + 1) : Int).toNat ≤ 35184372088832 then ((spec_spSemis.f k a0).bind fun t742 => (spec_SpreadOfWindings.l0 k (List.replicate (wrap64 (a0 + 1) : Int).toNat 0) t742 (t742.length : Int) 0)) else (none)) else (none)) else (some (([] : List Int), false)))
theorem spec_SpreadOfWindings.mono_l : ∀ k, (∀ y0 y1 y2 y3, LeO (spec_SpreadOfWindings.l0 k y0 y1 y2 y3) (spec_SpreadOfWindings.l0 (k + 1) y0 y1 y2 y3))
 | 0 => fun _ _ _ _ r h => by simp [spec_SpreadOfWindings.l0] at h
 | k + 1 => by
  have ih0 := spec_SpreadOfWindings.mono_l k
  ·intro y0 y1 y2 y3
   unfold spec_SpreadOfWindings.l0
   repeat' first
   | (with_reducible exact ih0 _ _ _ _)
   | (with_reducible exact spec_spSemis.mono _ _)
   | (with_reducible exact spec_spWinding.mono _ _)
   | (with_reducible exact LeO.refl _)
   | (with_reducible exact LeO.none _)
   | (with_reducible refine LeO.ite ?_ ?_)
   | (with_reducible refine LeO.bind ?_ (fun _ => ?_))
   | exact ih0 _ _ _ _
   | exact spec_spSemis.mono _ _
   | exact spec_spWinding.mono _ _
   | exact LeO.none _
   | refine LeO.ite ?_ ?_
   | refine LeO.bind ?_ (fun _ => ?_)
theorem spec_SpreadOfWindings.mono : ∀ a0 k, LeO (spec_SpreadOfWindings.f k a0) (spec_SpreadOfWindings.f (k + 1) a0) := by
 intro a0 k; have ih0 := spec_SpreadOfWindings.mono_l k; unfold spec_SpreadOfWindings.f
 repeat' first
   | (with_reducible exact ih0 _ _ _ _)
   | (with_reducible exact spec_spSemis.mono _ _)
   | (with_reducible exact spec_spWinding.mono _ _)
   | (with_reducible exact LeO.refl _)
   | (with_reducible exact LeO.none _)
   | (with_reducible refine LeO.ite ?_ ?_)
   | (with_reducible refine LeO.bind ?_ (fun _ => ?_))
   | exact ih0 _ _ _ _
   | exact spec_spSemis.mono _ _
   | exact spec_spWinding.mono _ _
   | exact LeO.none _
   | refine LeO.ite ?_ ?_
   | refine LeO.bind ?_ (fun _ => ?_)
theorem spec_SpreadOfWindings.calls (k : Nat) (a0 : Int) (r1 : List Int) (r2 : Bool) (w : World) (h : spec_SpreadOfWindings.f k a0 = some (r1, r2)) :
  Calls Tryz.prog 40 #[.int .i64 a0] w fun e w' => ∃ v0_ : Value, e = .returned (.tuple #[v0_, .bool r2]) ∧ Kd.R (Kd.int .i64) 3 w' w.heap.size (fun _ => True) v0_ r1 ∧ Below w.heap.size w w' := by
 have HB := Aside0.mk (Below.refl w.heap.size w); have H : ((spec_l1In.f a0 1 6).bind fun t738 => (if t738 = true then (if 0 ≤ (wrap64 (a0 + 1)) then (if (wrap64 (a0 + 1) : Int).toNat ≤ 35184372088832 then ((spec_spSemis.f k a0).bind fun t742 => (spec_SpreadOfWindings.l0 k (List.replicate (wrap64 (a0 + 1) : Int).toNat 0) t742 (t742.length : Int) 0)) else (none)) else (none)) else (some (([] : List Int), false)))) = some (r1, r2) := h; clear h; obtain ⟨t738, A2, H⟩ := bi H; (try dsimp only at H)
 by_cases c3 : t738 = true
 ·subst c3; rw [if_pos rfl] at H; obtain ⟨ji4, hji4⟩ : ∃ j_ : Int, (wrap64 (a0 + 1)) = j_ := ⟨_, rfl⟩; (replace H : (if 0 ≤ (ji4) then (if (ji4 : Int).toNat ≤ 35184372088832 then ((spec_spSemis.f k a0).bind fun t742 => (spec_SpreadOfWindings.l0 k (List.replicate (ji4 : Int).toNat 0) t742 (t742.length : Int) 0)) else (none)) else (none)) = some (r1, r2) := by first | (rw [hji4] at H; exact H) | (simp only [hji4] at H ⊢; exact H)); (try rw [hji4] at A2); have hji4w : (IntKind.i64.wrap (a0 + 1)) = ji4 := (i64_w _).trans hji4
  by_cases c5 : 0 ≤ (ji4)
  ·rw [if_pos c5] at H; have c5b0 := eq_true c5; have c5b1 := decide_eq_true c5; clear c5
   by_cases c6 : (ji4 : Int).toNat ≤ 35184372088832
   ·rw [if_pos c6] at H
    have c6b0 := eq_true c6
    have c6b1 : decide ((ji4 : Int).toNat ≤ 35184372088832) = true := decide_eq_true c6
    clear c6
    obtain ⟨y739, hy739⟩ : ∃ y_ : List Int, y_ = (List.replicate (ji4 : Int).toNat 0) := ⟨_, rfl⟩
    (try rw [Option.bind_some] at H); (try dsimp only at H); rw [← hy739] at H
    have Ny739 := Aside0.mk hy739; clear hy739; obtain ⟨t742, A7, H⟩ := bi H; (try dsimp only at H); have H' := Aside0.mk H; clear H; go_enter Tryz.func40, Tryz.ntmps40; go_wp2_with (first | (go_at_call 48; (with_reducible refine (spec_l1In.calls a0 1 6 true _ A2.out).mono ?_); rintro e w' ⟨rfl, ⟨nd, rfl⟩⟩) | ((with_reducible refine gate_dst (N := 12) rfl ?_); refine Kd.R_make (Kd.int .i64) _ 3 rfl (N := 12) rfl 31 _ _ rfl ji4 rfl rfl Tryz.underlying31 (.int .i64 0) 8 info3 rfl (by decide) (by omega) 0 (ok := fun _ => True) (okp := fun _ => True) rfl (fun _ hk => hk) trivial (od) (Nat.le_trans (Nat.mul_le_mul_right _ (od : ji4.toNat ≤ 35184372088832)) (by omega)) (Below.refl _ _) (Nat.le_refl _) ?_; intro v740 w8 ho9 hb hg_ hnew_; clear hg_ hnew_; (first | rw [← Ny739.out] at ho9 | (simp only [Int.reduceToNat] at ho9; rw [← Ny739.out] at ho9)); have HO741 := Aside0.mk (Kd.R_lower ho9 (below_size (bl HB.out))); replace HB := bst HB hb; clear hb ho9) | (go_at_call 80; (with_reducible refine (spec_spSemis.calls k a0 t742 _ A7.out).mono ?_); rintro e w10 ⟨v743, rfl, ho0, hb⟩; have HO744 := Aside0.mk (Kd.N_lower (Kd.N_mono (ok' := fun k_ => some k_ ≠ (v740 : Value).ownBlock) ho0 (fun k_ hk_ => (Kd.fresh' (Kd.R_lt (rR HO741.out)) k_ hk_))) (below_size (bl HB.out))); replace HO741 := Aside0.mk (Kd.R_below (rR HO741.out) hb); replace HB := bst HB hb; obtain ⟨Ao11, co11, eo11⟩ := Kd.N_slice HO744.out; subst eo11))
    go_loopg [16] k (fun kq v16 w' => ∃ (x4_1 : List Int) (x16_1 : Int), v16 = .int .i64 x16_1 ∧ Aside0 (spec_SpreadOfWindings.l0 kq x4_1 t742 (t742.length : Int) x16_1 = some (r1, r2)) ∧ Aside0 (kq ≤ k) ∧ Aside0 (Kd.R (Kd.int .i64) 3 w' w.heap.size (fun _ => True) v740 x4_1) ∧ Aside0 (Kd.N (Kd.slice 3 (Kd.int .i64)) 31 w' w.heap.size (fun k_ => some k_ ≠ (v740 : Value).ownBlock) (.slice Ao11 t742.length co11) t742) ∧ Aside0 (Below w.heap.size w w'))
    case atStart => exact ⟨(y739), (0), (sr2), H', ⟨Nat.le_refl _⟩, ⟨rR HO741.out⟩, ⟨rN HO744.out⟩, ⟨bl HB.out⟩⟩
    case round =>
     clear H'; obtain ⟨x4_1, x16_1, rfl, HA, HK1, HO_4, HO_14, HB⟩ := hrel
     cases gk with
     | zero => exact absurd HA.out (by simp [spec_SpreadOfWindings.l0])
     | succ k1 =>
      have H := HA.out; clear HA; simp only [spec_SpreadOfWindings.l0] at H
      by_cases c12 : x16_1 < (t742.length : Int)
      ·rw [if_pos c12] at H; have c12b0 := decide_eq_true c12; clear c12
       by_cases c13 : 0 ≤ x16_1
       ·rw [if_pos c13] at H; have c13b0 := decide_eq_true c13; clear c13
        by_cases c14 : x16_1 < (t742.length : Int)
        ·rw [if_pos c14] at H; have c14b0 := decide_eq_true c14; clear c14; obtain ⟨t746, A15, H⟩ := bi H; (try dsimp only at H)
         by_cases c16 : 0 ≤ t746
         ·rw [if_pos c16] at H; have c16b0 := decide_eq_true c16; clear c16
          by_cases c17 : t746 < (x4_1.length : Int)
          ·rw [if_pos c17] at H; have c17b0 := decide_eq_true c17; clear c17; obtain ⟨y748, hy748⟩ := yy (x4_1.set (t746 : Int).toNat (wrap64 ((rd x4_1 t746) + 1)))
           (try rw [Option.bind_some] at H); (try dsimp only at H); rw [← hy748] at H
           have Ny748 := Aside0.mk hy748; clear hy748; have H' := Aside0.mk H; clear H; have p745 : 0 ≤ (x16_1 : Int) := od; have q745 : x16_1 < (t742.length : Int) := od; obtain ⟨ad745, A745_0, c745_0, e745, hx745_0, hl745_0, hi745_0⟩ := at_L2 (Kd.N_reads' HO_14.out).2.2 x16_1 p745 q745; cases e745; obtain ⟨ce745, hce745, hMe745, hcc745⟩ := Kd.N_get HO_14.out [] x16_1 p745 (by first | exact q745 | exact od | (have e_ := (Kd.N_reads' HO_14.out).1; omega)); obtain ⟨ua745_0, uc745_0, rfl, ul745_0, ge745_0⟩ := Kd.FK_slice_open hMe745; have hv745_0 := hcc745 0 _ rfl; rw [Nat.add_zero, show ((Kd.slice 3 (Kd.int .i64))).sz = 1 from rfl, Nat.mul_one] at hv745_0; replace hv745_0 := Option.some.inj (hv745_0.symm.trans hx745_0); (injection hv745_0 with hva_ hvn_ hvc_); rw [hva_] at ge745_0; rw [hvc_] at ul745_0; have HL745_0 := Aside0.mk (show Kd.V (Kd.int .i64) 3 _ w.heap.size _ _ (rd_L2 t742 x16_1) from Kd.V_mk ul745_0 ge745_0); clear hva_ hvn_ hvc_ ge745_0 ul745_0; clear hcc745 hce745; have HR745_0 := Aside0.mk hi745_0; have HC745_0 := Aside0.mk hl745_0; clear hi745_0 hl745_0; replace p745 := eq_true p745; replace q745 := eq_true q745; go_wp2_with (first | (go_at_call 81; (with_reducible refine (spec_spWinding.calls k1 _ _ (rd_L2 t742 x16_1) t746 _ ?side1 HC745_0.out A15.out).mono ?_); (case side1 => repeat (first | exact (by repeat (first | (with_reducible exact HR745_0.out) | (with_reducible refine Kd.C_alloc ?_ _) | (with_reducible refine Kd.C_drewN ?_ _) | (with_reducible refine Kd.C_drew ?_) | exact HR745_0.out)) | (with_reducible refine Kd.C_alloc ?_ _) | (with_reducible refine Kd.C_drewN ?_ _) | (with_reducible refine Kd.C_drew ?_))); rintro e w' ⟨rfl, ⟨nd, rfl⟩⟩; (try (rw [drewN_self wr]; generalize hq_ : World.drewN wr _ = wr; have n0_ : Aside0 (Kd.V (Kd.int .i64) 3 wr w.heap.size (fun k_ => some k_ ≠ (.slice (some ad745) t742.length co11 : Value).ownBlock ∧ some k_ ≠ (v740 : Value).ownBlock) (.slice A745_0 (rd_L2 t742 x16_1).length c745_0) (rd_L2 t742 x16_1)) := ⟨by rw [← hq_]; exact (rV (Kd.V_mono HL745_0.out (fun _ hk => by first | exact ⟨hk.2, hk.1⟩ | exact ⟨hk.1, hk.2⟩)))⟩; have n1_ : Aside0 (Kd.N (Kd.slice 3 (Kd.int .i64)) 31 wr w.heap.size (fun k_ => some k_ ≠ (v740 : Value).ownBlock) (.slice (some ad745) t742.length co11) t742) := ⟨by rw [← hq_]; exact (rN HO_14.out)⟩; have n2_ : Aside0 (Kd.R (Kd.int .i64) 3 wr w.heap.size (fun _ => True) v740 x4_1) := ⟨by rw [← hq_]; exact (rR HO_4.out)⟩; have n3_ : Aside0 (Below w.heap.size w wr) := ⟨by rw [← hq_]; exact (bl HB.out)⟩; have n4_ : Aside0 (Kd.C (Kd.int .i64) wr A745_0 (rd_L2 t742 x16_1).length (rd_L2 t742 x16_1)) := ⟨by rw [← hq_]; exact (by repeat (first | (with_reducible exact HR745_0.out) | (with_reducible refine Kd.C_alloc ?_ _) | (with_reducible refine Kd.C_drewN ?_ _) | (with_reducible refine Kd.C_drew ?_) | exact HR745_0.out))⟩; clear HL745_0 HO_14 HO_4 HB HR745_0 hq_; have HL745_0 := n0_; have HO_14 := n1_; have HO_4 := n2_; have HB := n3_; have HR745_0 := n4_; clear n0_ n1_ n2_ n3_ n4_)); obtain ⟨Ao19, co19, eo19⟩ := Kd.R_slice HO_4.out; subst eo19; have p747 : 0 ≤ (t746 : Int) := od; have q747 : t746 < (x4_1.length : Int) := od; obtain ⟨ad747, e747, hx747_0⟩ := Kd.at_int (Kd.R_reads' HO_4.out).2.2 t746 p747 q747; cases e747; replace p747 := eq_true p747; replace q747 := eq_true q747; have p18 : 0 ≤ (t746 : Int) := od; have q18 : (t746 : Int) < ((x4_1.length : Int) : Int) := od; obtain ⟨go18, co18, eo18, gb18, gl18, cl18, HG18⟩ := Kd.R_form HO_4.out (by omega); (first | cases eo18 | (injection eo18 with ea_ en_ ec_; (first | subst ea_ | (injection ea_ with ea_; subst ea_)); subst ec_; clear en_)); have GB18 := Aside0.mk gb18; have GG18 := Aside0.mk HG18; clear gb18 gl18 HG18; (first | simp only [add_plain] at hx747_0 | skip); obtain ⟨hx18_0, hf18_0⟩ := Kd.R_celln 0 HO_4.out (t746 : Int) p18 q18; replace p18 := eq_true p18; replace q18 := eq_true q18; obtain ⟨hy20_, hz20_⟩ := Kd.R_celln 0 HO_4.out (t746 : Int) (od) (od); have HP20 := Kd.R_putg HO_4.out (t746 : Int) (wrap64 ((rd x4_1 t746) + 1))) | ((with_reducible refine gate_store (t := 3) (p := 26) rfl ?_); refine store_event (t := 3) (p := 26) (v := ?vo_w21) (w1 := (wr.setCell ⟨go18, (t746 : Int).toNat, none⟩ (.int .i64 (wrap64 ((rd x4_1 t746) + 1))))) ?hg ?ho ?hn ?hr ?_; (case ho => rfl); (case hg => rfl); (case hn => rfl); (case hr => first | (go_simp; done) | (go_simp; rfl)); intro w21 hw; have hg : wr.grownBy w21 (some go18) := (by rw [hw]; exact HP20.2); have hp_ : Kd.R (Kd.int .i64) 3 w21 w.heap.size (fun _ => True) (.slice (some ⟨go18, 0, none⟩) x4_1.length co19) y748 := (by rw [hw, Ny748.out]; exact HP20.1); clear HP20; replace HO_4 := Aside0.mk (hp_); replace HO_14 := Aside0.mk (Kd.N_afterv (v := (.slice (some ⟨go18, 0, none⟩) x4_1.length co19)) (v1 := (.slice (some ⟨go18, 0, none⟩) x4_1.length co19)) (ok := (fun _ => True)) (rN (Kd.N_mono HO_14.out (fun _ hk => ⟨trivial, hk⟩))) hg (.inl rfl)); replace HL745_0 := Aside0.mk (Kd.V_afterv (v := (.slice (some ⟨go18, 0, none⟩) x4_1.length co19)) (v1 := (.slice (some ⟨go18, 0, none⟩) x4_1.length co19)) (ok := (fun k_ => some k_ ≠ (.slice (some ad745) t742.length co11 : Value).ownBlock)) (rV (Kd.V_mono HL745_0.out (fun _ hk => by first | exact ⟨hk.2, hk.1⟩ | exact ⟨hk.1, hk.2⟩))) hg (.inl rfl)); replace HB := Aside0.mk ((by rw [hw]; exact below_set (HB.out) GB18.out : Below w.heap.size w w21)); clear hg hw hp_))
           first | go_roundg k1 | (simp only [← hji4]; go_roundg k1)
           case measure => have := HK1.out; omega
           case rel => exact ⟨(y748), (wrap64 (x16_1 + 1)), (sr2), H', ⟨by have := HK1.out; omega⟩, ⟨rR HO_4.out⟩, ⟨rN (Kd.N_mono HO_14.out (fun _ hk => hk.2))⟩, ⟨bl HB.out⟩⟩
          rw [if_neg c17] at H; exact absurd H (by simp)
         rw [if_neg c16] at H; exact absurd H (by simp)
        rw [if_neg c14] at H; exact absurd H (by simp)
       rw [if_neg c13] at H; exact absurd H (by simp)
      rw [if_neg c12] at H; have c12b0 := decide_eq_false c12; clear c12; simp only [Option.some.injEq, Prod.mk.injEq] at H; obtain ⟨rfl, rfl⟩ := H; go_wp2; go_ret2; exact ⟨_, by first | rfl | (simp [errW_none, errW_some] <;> rfl) | (simp only [← hji4]; first | rfl | (simp [errW_none, errW_some] <;> rfl)) | (simp [*, errW_none, errW_some] <;> rfl), rR HO_4.out, bl HB.out⟩
   rw [if_neg c6] at H; exact absurd H (by simp)
  rw [if_neg c5] at H; exact absurd H (by simp)
 replace c3 := Bool.eq_false_iff.mpr c3; subst c3; rw [if_neg (show ¬ (false = true) by decide)] at H; simp only [Option.some.injEq, Prod.mk.injEq] at H; obtain ⟨rfl, rfl⟩ := H; go_enter Tryz.func40, Tryz.ntmps40; go_wp2_with (first | (go_at_call 48; (with_reducible refine (spec_l1In.calls a0 1 6 false _ A2.out).mono ?_); rintro e w' ⟨rfl, ⟨nd, rfl⟩⟩)); go_ret2; exact ⟨_, sr, by first | exact Kd.R_nil _ _ _ _ _ | exact Kd.N_nil _ _ _ _ _ | exact Kd.V_nil _ _ _ _ _ | exact Kd.Q_nil _ _ _ _ _ | exact Kd.S_nil _ _ _ _ _, bl HB.out⟩
/-! ### spec_AllSemis: function 41 -/
def spec_AllSemis.f (k : Nat) (a0 : Int) : Option ((List (List Int)) × Bool) := (spec_l1In.f a0 1 6).bind fun t749 => (if t749 = true then ((spec_spSemis.f k a0).bind fun t750 => (some (t750, true))) else (some (([] : List (List Int)), false)))
theorem spec_AllSemis.mono : ∀ a0 k, LeO (spec_AllSemis.f k a0) (spec_AllSemis.f (k + 1) a0) := by
 intro a0 k; unfold spec_AllSemis.f
 repeat' first
   | (with_reducible exact spec_spSemis.mono _ _)
   | (with_reducible exact LeO.refl _)
   | (with_reducible exact LeO.none _)
   | (with_reducible refine LeO.ite ?_ ?_)
   | (with_reducible refine LeO.bind ?_ (fun _ => ?_))
   | exact spec_spSemis.mono _ _
   | exact LeO.none _
   | refine LeO.ite ?_ ?_
   | refine LeO.bind ?_ (fun _ => ?_)
theorem spec_AllSemis.calls (k : Nat) (a0 : Int) (r1 : List (List Int)) (r2 : Bool) (w : World) (h : spec_AllSemis.f k a0 = some (r1, r2)) :
  Calls Tryz.prog 41 #[.int .i64 a0] w fun e w' => ∃ v0_ : Value, e = .returned (.tuple #[v0_, .bool r2]) ∧ Kd.N (Kd.slice 3 (Kd.int .i64)) 31 w' w.heap.size (fun k_ => (w.heap.size ≤ k_)) v0_ r1 ∧ Below w.heap.size w w' := by
 have HB := Aside0.mk (Below.refl w.heap.size w); have H : ((spec_l1In.f a0 1 6).bind fun t749 => (if t749 = true then ((spec_spSemis.f k a0).bind fun t750 => (some (t750, true))) else (some (([] : List (List Int)), false)))) = some (r1, r2) := h; clear h; obtain ⟨t749, A2, H⟩ := bi H; (try dsimp only at H)
 by_cases c3 : t749 = true
 ·subst c3; rw [if_pos rfl] at H; obtain ⟨t750, A4, H⟩ := bi H; (try dsimp only at H); simp only [Option.some.injEq, Prod.mk.injEq] at H; obtain ⟨rfl, rfl⟩ := H; go_enter Tryz.func41, Tryz.ntmps41; go_wp2_with (first | (go_at_call 48; (with_reducible refine (spec_l1In.calls a0 1 6 true _ A2.out).mono ?_); rintro e w' ⟨rfl, ⟨nd, rfl⟩⟩) | (go_at_call 80; (with_reducible refine (spec_spSemis.calls k a0 t750 _ A4.out).mono ?_); rintro e w5 ⟨v751, rfl, ho0, hb⟩; have HO752 := Aside0.mk (Kd.N_lower (Kd.N_mono (ok' := fun k_ => (w.heap.size ≤ k_)) ho0 (fun k_ hk_ => (Nat.le_trans (below_size (bl HB.out)) hk_))) (below_size (bl HB.out))); replace HB := bst HB hb)); go_ret2; exact ⟨_, sr, rN HO752.out, bl HB.out⟩
 replace c3 := Bool.eq_false_iff.mpr c3; subst c3; rw [if_neg (show ¬ (false = true) by decide)] at H; simp only [Option.some.injEq, Prod.mk.injEq] at H; obtain ⟨rfl, rfl⟩ := H; go_enter Tryz.func41, Tryz.ntmps41; go_wp2_with (first | (go_at_call 48; (with_reducible refine (spec_l1In.calls a0 1 6 false _ A2.out).mono ?_); rintro e w' ⟨rfl, ⟨nd, rfl⟩⟩)); go_ret2; exact ⟨_, sr, by first | exact Kd.S_nil _ _ _ _ _ | exact Kd.N_nil _ _ _ _ _ | exact Kd.V_nil _ _ _ _ _ | exact Kd.Q_nil _ _ _ _ _ | exact Kd.R_nil _ _ _ _ _, bl HB.out⟩
/-! ### laws_ySum: function 42 -/
def laws_ySum.l0 : Nat → Int → List Int → Int → Int → Option (Int)
 | 0, _, _, _, _ => none
 | k + 1, x3, x6, x7, x8 => if x8 < x7 then (if 0 ≤ x8 then (if x8 < (x6.length : Int) then (laws_ySum.l0 k (wrap64 (x3 + (rd x6 x8))) x6 x7 (wrap64 (x8 + 1))) else (none)) else (none)) else (some x3)
def laws_ySum.f (k : Nat) (l0 : List Int) : Option (Int) := laws_ySum.l0 k 0 l0 (l0.length : Int) 0
theorem laws_ySum.mono_l : ∀ k, (∀ y0 y1 y2 y3, LeO (laws_ySum.l0 k y0 y1 y2 y3) (laws_ySum.l0 (k + 1) y0 y1 y2 y3))
 | 0 => fun _ _ _ _ r h => by simp [laws_ySum.l0] at h
 | k + 1 => by
  have ih0 := laws_ySum.mono_l k
  ·intro y0 y1 y2 y3
   unfold laws_ySum.l0
   repeat' first
   | (with_reducible exact ih0 _ _ _ _)
   | (with_reducible exact LeO.refl _)
   | (with_reducible exact LeO.none _)
   | (with_reducible refine LeO.ite ?_ ?_)
   | (with_reducible refine LeO.bind ?_ (fun _ => ?_))
   | exact ih0 _ _ _ _
   | exact LeO.none _
   | refine LeO.ite ?_ ?_
   | refine LeO.bind ?_ (fun _ => ?_)
theorem laws_ySum.mono : ∀ a0 k, LeO (laws_ySum.f k a0) (laws_ySum.f (k + 1) a0) := by
 intro a0 k; have ih0 := laws_ySum.mono_l k; unfold laws_ySum.f
 repeat' first
   | (with_reducible exact ih0 _ _ _ _)
   | (with_reducible exact LeO.refl _)
   | (with_reducible exact LeO.none _)
   | (with_reducible refine LeO.ite ?_ ?_)
   | (with_reducible refine LeO.bind ?_ (fun _ => ?_))
   | exact ih0 _ _ _ _
   | exact LeO.none _
   | refine LeO.ite ?_ ?_
   | refine LeO.bind ?_ (fun _ => ?_)
theorem laws_ySum.calls (k : Nat) (A0 : Option Addr) (c0 : Nat) (l0 : List Int) (r : Int) (w : World) (hr0 : Kd.C (Kd.int .i64) w A0 l0.length l0) (hc0 : l0.length ≤ c0) (h : laws_ySum.f k l0 = some r) :
  Calls Tryz.prog 42 #[.slice A0 l0.length c0] w fun e w' => e = .returned (.int .i64 r) ∧ Drawn0 w w' := by
 have HR0 := Aside0.mk hr0; have HC0 := Aside0.mk hc0; clear hr0 hc0; have H : (laws_ySum.l0 k 0 l0 (l0.length : Int) 0) = some r := h; clear h; have H' := Aside0.mk H; clear H; go_enter Tryz.func42, Tryz.ntmps42; go_wp2
 go_loopg [3, 8] k (fun kq v3 v8 w' => ∃ (x3_1 : Int) (x8_1 : Int), v3 = .int .i64 x3_1 ∧ v8 = .int .i64 x8_1 ∧ Aside0 (laws_ySum.l0 kq x3_1 l0 (l0.length : Int) x8_1 = some r) ∧ Aside0 (kq ≤ k) ∧ Drawn0 w w')
 case atStart => exact ⟨(0), (0), (sr2), (sr2), H', ⟨Nat.le_refl _⟩, by repeat (first | exact Drawn0.refl _ | apply Drawn0.step)⟩
 case round =>
  clear H'; obtain ⟨x3_1, x8_1, rfl, rfl, HA, HK1, ⟨m1, rfl⟩⟩ := hrel
  cases gk with
  | zero => exact absurd HA.out (by simp [laws_ySum.l0])
  | succ k1 =>
   have H := HA.out; clear HA; simp only [laws_ySum.l0] at H
   by_cases c2 : x8_1 < (l0.length : Int)
   ·rw [if_pos c2] at H; have c2b0 := decide_eq_true c2; clear c2
    by_cases c3 : 0 ≤ x8_1
    ·rw [if_pos c3] at H; have c3b0 := decide_eq_true c3; clear c3
     by_cases c4 : x8_1 < (l0.length : Int)
     ·rw [if_pos c4] at H; have c4b0 := decide_eq_true c4; clear c4; have H' := Aside0.mk H; clear H; obtain ⟨ad753, e753, hx753_0, p753, q753⟩ := atI HR0.out x8_1; cases e753; go_wp2
      go_roundg k1
      case measure => have := HK1.out; omega
      case rel => exact ⟨(wrap64 (x3_1 + (rd l0 x8_1))), (wrap64 (x8_1 + 1)), (sr2), (sr2), H', ⟨by have := HK1.out; omega⟩, by repeat (first | exact Drawn0.refl _ | apply Drawn0.step)⟩
     rw [if_neg c4] at H; exact absurd H (by simp)
    rw [if_neg c3] at H; exact absurd H (by simp)
   rw [if_neg c2] at H; have c2b0 := decide_eq_false c2; clear c2; obtain rfl := Option.some.inj H; go_wp2; go_ret; exact ⟨sr2, by repeat (first | exact Drawn0.refl _ | apply Drawn0.step)⟩
/-! ### spec_DrawWindingOf: function 43 -/
def spec_DrawWindingOf.f (k : Nat) (l0 : List Int) : Option (List Int) := (spec_DrawIsSemi.f k l0).bind fun t754 => (some t754)
theorem spec_DrawWindingOf.calls (k : Nat) (A0 : Option Addr) (c0 : Nat) (l0 : List Int) (r : List Int) (w : World) (hr0 : Kd.C (Kd.int .u8) w A0 l0.length l0) (hc0 : l0.length ≤ c0) (h : spec_DrawWindingOf.f k l0 = some r) :
  Calls Tryz.prog 43 #[.slice A0 l0.length c0] w fun e w' => ∃ v0_ : Value, e = .returned (v0_) ∧ Kd.R (Kd.int .i64) 3 w' w.heap.size (fun _ => True) v0_ r ∧ Below w.heap.size w w' := by
 have HR0 := Aside0.mk hr0; have HC0 := Aside0.mk hc0; clear hr0 hc0; have HB := Aside0.mk (Below.refl w.heap.size w); have H : ((spec_DrawIsSemi.f k l0).bind fun t754 => (some t754)) = some r := h; clear h; obtain ⟨t754, A2, H⟩ := bi H; (try dsimp only at H); obtain rfl := Option.some.inj H; go_enter Tryz.func43, Tryz.ntmps43; go_wp2_with (first | (go_at_call 64; (with_reducible refine (spec_DrawIsSemi.calls k _ _ l0 t754 _ ?side1 HC0.out A2.out).mono ?_); (case side1 => exact cw HR0.out); rintro e w3 ⟨v755, rfl, ho0, hb⟩; have HO756 := Aside0.mk (Kd.R_lower ho0 (below_size (bl HB.out))); replace HB := bst HB hb)); go_ret; exact ⟨_, sr, rR HO756.out, bl HB.out⟩
/-! ### spec_WindingOf: function 44 -/
def spec_WindingOf.f (k : Nat) (l0 : List Int) : Option (Int × Bool) := (spec_ahGood.f k l0).bind fun t757 => (if t757 = true then ((spec_spWinding.f k l0).bind fun t758 => (some (t758, true))) else (some (0, false)))
theorem spec_WindingOf.mono : ∀ a0 k, LeO (spec_WindingOf.f k a0) (spec_WindingOf.f (k + 1) a0) := by
 intro a0 k; unfold spec_WindingOf.f
 repeat' first
   | (with_reducible exact spec_ahGood.mono _ _)
   | (with_reducible exact spec_spWinding.mono _ _)
   | (with_reducible exact LeO.refl _)
   | (with_reducible exact LeO.none _)
   | (with_reducible refine LeO.ite ?_ ?_)
   | (with_reducible refine LeO.bind ?_ (fun _ => ?_))
   | exact spec_ahGood.mono _ _
   | exact spec_spWinding.mono _ _
   | exact LeO.none _
   | refine LeO.ite ?_ ?_
   | refine LeO.bind ?_ (fun _ => ?_)
theorem spec_WindingOf.calls (k : Nat) (A0 : Option Addr) (c0 : Nat) (l0 : List Int) (r1 : Int) (r2 : Bool) (w : World) (hr0 : Kd.C (Kd.int .i64) w A0 l0.length l0) (hc0 : l0.length ≤ c0) (h : spec_WindingOf.f k l0 = some (r1, r2)) :
  Calls Tryz.prog 44 #[.slice A0 l0.length c0] w fun e w' => e = .returned (.tuple #[.int .i64 r1, .bool r2]) ∧ Below w.heap.size w w' := by
 have HR0 := Aside0.mk hr0
 have HC0 := Aside0.mk hc0
 clear hr0 hc0
 have HB := Aside0.mk (Below.refl w.heap.size w)
 have H : ((spec_ahGood.f k l0).bind fun t757 => (if t757 = true then ((spec_spWinding.f k l0).bind fun t758 => (some (t758, true))) else (some (0, false)))) = some (r1, r2) := h
 clear h
 replace H := Option.bind_eq_some_iff.mp H
 obtain ⟨t757, A20, H⟩ := H
 try dsimp only at H
 have A2 := Aside0.mk A20
 clear A20
 by_cases c3 : t757 = true
 ·subst c3
  rw [if_pos rfl] at H
  replace H := Option.bind_eq_some_iff.mp H
  obtain ⟨t758, A40, H⟩ := H
  try dsimp only at H
  have A4 := Aside0.mk A40
  clear A40
  simp only [Option.some.injEq, Prod.mk.injEq] at H
  obtain ⟨rfl, rfl⟩ := H
  go_enter Tryz.func44, Tryz.ntmps44
  go_wp2_with (first | (go_at_call 68; (with_reducible refine (spec_ahGood.calls k _ _ l0 true _ ?side1 HC0.out A2.out).mono ?_); (case side1 => exact cw HR0.out); rintro e w5 ⟨rfl, hb⟩; replace HB := Aside0.mk (below_step (bl HB.out) hb)) | (go_at_call 81; (with_reducible refine (spec_spWinding.calls k _ _ l0 t758 _ ?side1 HC0.out A4.out).mono ?_); (case side1 => exact cw (Kd.C_below HR0.out HB.out)); rintro e w' ⟨rfl, ⟨nd, rfl⟩⟩))
  go_ret2
  exact ⟨by first | rfl | (simp [errW_none, errW_some] <;> rfl) | (simp [*, errW_none, errW_some] <;> rfl), bl HB.out⟩
 ·replace c3 := Bool.eq_false_iff.mpr c3
  subst c3
  rw [if_neg (show ¬ (false = true) by decide)] at H
  simp only [Option.some.injEq, Prod.mk.injEq] at H
  obtain ⟨rfl, rfl⟩ := H
  go_enter Tryz.func44, Tryz.ntmps44
  go_wp2_with (first | (go_at_call 68; (with_reducible refine (spec_ahGood.calls k _ _ l0 false _ ?side1 HC0.out A2.out).mono ?_); (case side1 => exact cw HR0.out); rintro e w6 ⟨rfl, hb⟩; replace HB := Aside0.mk (below_step (bl HB.out) hb)))
  go_ret2
  exact ⟨by first | rfl | (simp [errW_none, errW_some] <;> rfl) | (simp [*, errW_none, errW_some] <;> rfl), bl HB.out⟩

-- NOT PRINTED: function 4 (laws_FnSemisAreFoldings)
end Go.Proofs.YtjgkcknopnollaaGreat.D
