-- printed by wip/drv/xprint.py (our driver), shortened by wip/drv/squeeze.py: those functions that the claim reaches; Lean checks it
import Derived.Test.YtjgkcknopnollaaGreatQA0
namespace Go.Proofs.YtjgkcknopnollaaGreat.C
open Go.Proofs.YtjgkcknopnollaaGreat.Short Go.RowKit Go.Proofs.YtjgkcknopnollaaGreatW.PrintWords Go.Proofs.YtjgkcknopnollaaGreatW.PrintLast Go.Proofs.YtjgkcknopnollaaGreatW.PrintMore
attribute [local go_sem] max2_int min2_int max_two min_two max_three min_three max_four min_four   -- for this text's walks alone
set_option linter.unusedVariables false
set_option linter.unusedSimpArgs false



set_option maxHeartbeats 8000000
set_option maxRecDepth 100000
/-! ### laws_yRows: function 9 -/
def laws_yRows.l0 : Nat → List (List Int) → List (List Int) → Int → Int → Option (Bool)
 | 0, _, _, _, _ => none
 | k + 1, x0, x1, x12, x13 => if x13 < x12 then (if 0 ≤ x13 then (if x13 < (x0.length : Int) then (if x13 < (x1.length : Int) then ((laws_ySame.f k (rd_L3 x0 x13) (rd_L3 x1 x13)).bind fun t315 => (if t315 = true then (laws_yRows.l0 k x0 x1 x12 (wrap64 (x13 + 1))) else (some false))) else (none)) else (none)) else (none)) else (some true)
def laws_yRows.f (k : Nat) (l0 : List (List Int)) (l1 : List (List Int)) : Option (Bool) := if (l0.length : Int) = (l1.length : Int) then (laws_yRows.l0 k l0 l1 (l0.length : Int) 0) else (some false)
theorem laws_yRows.calls (k : Nat) (A0 : Option Addr) (c0 : Nat) (l0 : List (List Int)) (A1 : Option Addr) (c1 : Nat) (l1 : List (List Int)) (r : Bool) (w : World) (hr0 : Kd.C (Kd.slice 3 (Kd.int .i64)) w A0 l0.length l0) (hc0 : l0.length ≤ c0) (hr1 : Kd.C (Kd.slice 3 (Kd.int .i64)) w A1 l1.length l1) (hc1 : l1.length ≤ c1) (h : laws_yRows.f k l0 l1 = some r) :
  Calls Tryz.prog 9 #[.slice A0 l0.length c0, .slice A1 l1.length c1] w fun e w' => e = .returned (.bool r) ∧ Drawn0 w w' := by
 have HR0 := Aside0.mk hr0; have HC0 := Aside0.mk hc0; clear hr0 hc0; have HR1 := Aside0.mk hr1; have HC1 := Aside0.mk hc1; clear hr1 hc1; have H : (if (l0.length : Int) = (l1.length : Int) then (laws_yRows.l0 k l0 l1 (l0.length : Int) 0) else (some false)) = some r := h; clear h
 by_cases c3 : (l0.length : Int) = (l1.length : Int)
 ·rw [if_pos c3] at H; have c3b0 := beq_iff_eq.mpr c3; have c3b1 := bne_eq_false_iff_eq.mpr c3; (have c3b2 : (l0.length == l1.length) = true := by first | simpa using c3 | (simp at c3 ⊢; omega)); clear c3; have H' := Aside0.mk H; clear H; go_enter Tryz.func9, Tryz.ntmps9; go_wp2
  repeat (go_quiet (fail); try go_wp2)
  go_loopg [13] k (fun kq v13 w' => ∃ (x13_1 : Int), v13 = .int .i64 x13_1 ∧ Aside0 (laws_yRows.l0 kq l0 l1 (l0.length : Int) x13_1 = some r) ∧ Aside0 (kq ≤ k) ∧ Drawn0 w w')
  case atStart => exact ⟨(0), (sr2), H', ⟨Nat.le_refl _⟩, by repeat (first | exact Drawn0.refl _ | apply Drawn0.step)⟩
  case round =>
   clear H'; obtain ⟨x13_1, rfl, HA, HK1, ⟨m1, rfl⟩⟩ := hrel
   cases gk with
   | zero => exact absurd HA.out (by simp [laws_yRows.l0])
   | succ k1 =>
    have H := HA.out; clear HA; simp only [laws_yRows.l0] at H
    by_cases c4 : x13_1 < (l0.length : Int)
    ·rw [if_pos c4] at H; have c4b0 := decide_eq_true c4; clear c4
     by_cases c5 : 0 ≤ x13_1
     ·rw [if_pos c5] at H; have c5b0 := decide_eq_true c5; clear c5
      by_cases c6 : x13_1 < (l0.length : Int)
      ·rw [if_pos c6] at H; have c6b0 := decide_eq_true c6; clear c6
       by_cases c7 : x13_1 < (l1.length : Int)
       ·rw [if_pos c7] at H; have c7b0 := decide_eq_true c7; clear c7; obtain ⟨t315, A8, H⟩ := bi H; (try dsimp only at H)
        by_cases c9 : t315 = true
        ·subst c9; rw [if_pos rfl] at H; have H' := Aside0.mk H; clear H; have p313 : 0 ≤ (x13_1 : Int) := od; have q313 : x13_1 < (l0.length : Int) := od; obtain ⟨ad313, A313_0, c313_0, e313, hx313_0, hl313_0, hi313_0⟩ := at_L3 HR0.out x13_1 p313 q313; cases e313; have HR313_0 := Aside0.mk hi313_0; have HC313_0 := Aside0.mk hl313_0; clear hi313_0 hl313_0; replace p313 := eq_true p313; replace q313 := eq_true q313; have p314 : 0 ≤ (x13_1 : Int) := od; have q314 : x13_1 < (l1.length : Int) := od; obtain ⟨ad314, A314_0, c314_0, e314, hx314_0, hl314_0, hi314_0⟩ := at_L3 HR1.out x13_1 p314 q314; cases e314; have HR314_0 := Aside0.mk hi314_0; have HC314_0 := Aside0.mk hl314_0; clear hi314_0 hl314_0; replace p314 := eq_true p314; replace q314 := eq_true q314; go_wp2_with (first | (go_at_call 24; (with_reducible refine (laws_ySame.calls k1 _ _ (rd_L3 l0 x13_1) _ _ (rd_L3 l1 x13_1) true _ ?side1 ?side2 ?side3 HC314_0.out A8.out).mono ?_); (case side1 => exact cw HR313_0.out); (case side2 => exact HC313_0.out); (case side3 => exact cw HR314_0.out); rintro e w' ⟨rfl, ⟨nd, rfl⟩⟩; (try first | exact ⟨rfl, _, World.drewN_drewN _ _ _⟩ | exact ⟨rfl, _, Eq.trans (World.drewN_drewN _ _ _) (congrArg (World.drewN _) (Nat.add_assoc _ _ _))⟩)))
         repeat (go_quiet (first | (go_at_call 24; (with_reducible refine (laws_ySame.calls k1 _ _ (rd_L3 l0 x13_1) _ _ (rd_L3 l1 x13_1) true _ ?side1 ?side2 ?side3 HC314_0.out A8.out).mono ?_); (case side1 => exact cw HR313_0.out); (case side2 => exact HC313_0.out); (case side3 => exact cw HR314_0.out); rintro e w' ⟨rfl, ⟨nd, rfl⟩⟩; (try first | exact ⟨rfl, _, World.drewN_drewN _ _ _⟩ | exact ⟨rfl, _, Eq.trans (World.drewN_drewN _ _ _) (congrArg (World.drewN _) (Nat.add_assoc _ _ _))⟩))); try go_wp2_with (first | (go_at_call 24; (with_reducible refine (laws_ySame.calls k1 _ _ (rd_L3 l0 x13_1) _ _ (rd_L3 l1 x13_1) true _ ?side1 ?side2 ?side3 HC314_0.out A8.out).mono ?_); (case side1 => exact cw HR313_0.out); (case side2 => exact HC313_0.out); (case side3 => exact cw HR314_0.out); rintro e w' ⟨rfl, ⟨nd, rfl⟩⟩; (try first | exact ⟨rfl, _, World.drewN_drewN _ _ _⟩ | exact ⟨rfl, _, Eq.trans (World.drewN_drewN _ _ _) (congrArg (World.drewN _) (Nat.add_assoc _ _ _))⟩))))
         go_roundg k1
         case measure => have := HK1.out; omega
         case rel => exact ⟨(wrap64 (x13_1 + 1)), (sr2), H', ⟨by have := HK1.out; omega⟩, by repeat (first | exact Drawn0.refl _ | apply Drawn0.step)⟩
        replace c9 := Bool.eq_false_iff.mpr c9; subst c9; rw [if_neg (show ¬ (false = true) by decide)] at H; obtain rfl := Option.some.inj H; have p313 : 0 ≤ (x13_1 : Int) := od; have q313 : x13_1 < (l0.length : Int) := od; obtain ⟨ad313, A313_0, c313_0, e313, hx313_0, hl313_0, hi313_0⟩ := at_L3 HR0.out x13_1 p313 q313; cases e313; have HR313_0 := Aside0.mk hi313_0; have HC313_0 := Aside0.mk hl313_0; clear hi313_0 hl313_0; replace p313 := eq_true p313; replace q313 := eq_true q313; have p314 : 0 ≤ (x13_1 : Int) := od; have q314 : x13_1 < (l1.length : Int) := od; obtain ⟨ad314, A314_0, c314_0, e314, hx314_0, hl314_0, hi314_0⟩ := at_L3 HR1.out x13_1 p314 q314; cases e314; have HR314_0 := Aside0.mk hi314_0; have HC314_0 := Aside0.mk hl314_0; clear hi314_0 hl314_0; replace p314 := eq_true p314; replace q314 := eq_true q314; go_wp2_with (first | (go_at_call 24; (with_reducible refine (laws_ySame.calls k1 _ _ (rd_L3 l0 x13_1) _ _ (rd_L3 l1 x13_1) false _ ?side1 ?side2 ?side3 HC314_0.out A8.out).mono ?_); (case side1 => exact cw HR313_0.out); (case side2 => exact HC313_0.out); (case side3 => exact cw HR314_0.out); rintro e w' ⟨rfl, ⟨nd, rfl⟩⟩; (try first | exact ⟨rfl, _, World.drewN_drewN _ _ _⟩ | exact ⟨rfl, _, Eq.trans (World.drewN_drewN _ _ _) (congrArg (World.drewN _) (Nat.add_assoc _ _ _))⟩)))
        repeat (go_quiet (first | (go_at_call 24; (with_reducible refine (laws_ySame.calls k1 _ _ (rd_L3 l0 x13_1) _ _ (rd_L3 l1 x13_1) false _ ?side1 ?side2 ?side3 HC314_0.out A8.out).mono ?_); (case side1 => exact cw HR313_0.out); (case side2 => exact HC313_0.out); (case side3 => exact cw HR314_0.out); rintro e w' ⟨rfl, ⟨nd, rfl⟩⟩; (try first | exact ⟨rfl, _, World.drewN_drewN _ _ _⟩ | exact ⟨rfl, _, Eq.trans (World.drewN_drewN _ _ _) (congrArg (World.drewN _) (Nat.add_assoc _ _ _))⟩))); try go_wp2_with (first | (go_at_call 24; (with_reducible refine (laws_ySame.calls k1 _ _ (rd_L3 l0 x13_1) _ _ (rd_L3 l1 x13_1) false _ ?side1 ?side2 ?side3 HC314_0.out A8.out).mono ?_); (case side1 => exact cw HR313_0.out); (case side2 => exact HC313_0.out); (case side3 => exact cw HR314_0.out); rintro e w' ⟨rfl, ⟨nd, rfl⟩⟩; (try first | exact ⟨rfl, _, World.drewN_drewN _ _ _⟩ | exact ⟨rfl, _, Eq.trans (World.drewN_drewN _ _ _) (congrArg (World.drewN _) (Nat.add_assoc _ _ _))⟩))))
        go_ret; exact ⟨sr2, by repeat (first | exact Drawn0.refl _ | apply Drawn0.step)⟩
       rw [if_neg c7] at H; exact absurd H (by simp)
      rw [if_neg c6] at H; exact absurd H (by simp)
     rw [if_neg c5] at H; exact absurd H (by simp)
    rw [if_neg c4] at H; have c4b0 := decide_eq_false c4; clear c4; obtain rfl := Option.some.inj H; go_wp2
    repeat (go_quiet (fail); try go_wp2)
    go_ret; exact ⟨sr2, by repeat (first | exact Drawn0.refl _ | apply Drawn0.step)⟩
 rw [if_neg c3] at H; have c3b0 := beq_eq_false_iff_ne.mpr c3; have c3b1 := bne_iff_ne.mpr c3; (have c3b2 : (l0.length == l1.length) = false := by first | simpa using c3 | (simp at c3 ⊢; omega)); obtain rfl := Option.some.inj H; go_enter Tryz.func9, Tryz.ntmps9; go_wp2
 repeat (go_quiet (fail); try go_wp2)
 go_ret; exact ⟨sr2, by repeat (first | exact Drawn0.refl _ | apply Drawn0.step)⟩
/-! ### impl_CountFoldings: function 10 -/
def impl_CountFoldings.f (k : Nat) (a0 : Int) : Option (Int × Bool) := (impl_in.f a0 1 8).bind fun t316 => (if t316 = true then ((impl_foldings.f k a0 false).bind fun t317 => (some ((t317.length : Int), true))) else (some (0, false)))
theorem impl_CountFoldings.mono : ∀ a0 k, LeO (impl_CountFoldings.f k a0) (impl_CountFoldings.f (k + 1) a0) := by
 intro a0 k; unfold impl_CountFoldings.f
 repeat' first
   | (with_reducible exact impl_foldings.mono _ _ _)
   | (with_reducible exact LeO.refl _)
   | (with_reducible exact LeO.none _)
   | (with_reducible refine LeO.ite ?_ ?_)
   | (with_reducible refine LeO.bind ?_ (fun _ => ?_))
   | exact impl_foldings.mono _ _ _
   | exact LeO.none _
   | refine LeO.ite ?_ ?_
   | refine LeO.bind ?_ (fun _ => ?_)
theorem impl_CountFoldings.calls (k : Nat) (a0 : Int) (r1 : Int) (r2 : Bool) (w : World) (h : impl_CountFoldings.f k a0 = some (r1, r2)) :
  Calls Tryz.prog 10 #[.int .i64 a0] w fun e w' => e = .returned (.tuple #[.int .i64 r1, .bool r2]) ∧ Below w.heap.size w w' := by
 have HB := Aside0.mk (Below.refl w.heap.size w); have H : ((impl_in.f a0 1 8).bind fun t316 => (if t316 = true then ((impl_foldings.f k a0 false).bind fun t317 => (some ((t317.length : Int), true))) else (some (0, false)))) = some (r1, r2) := h; clear h; obtain ⟨t316, A2, H⟩ := bi H; (try dsimp only at H)
 by_cases c3 : t316 = true
 ·subst c3; rw [if_pos rfl] at H; obtain ⟨t317, A4, H⟩ := bi H; (try dsimp only at H); simp only [Option.some.injEq, Prod.mk.injEq] at H; obtain ⟨rfl, rfl⟩ := H; go_enter Tryz.func10, Tryz.ntmps10; go_wp2_with (first | (go_at_call 46; (with_reducible refine (impl_in.calls a0 1 8 true _ A2.out).mono ?_); rintro e w' ⟨rfl, ⟨nd, rfl⟩⟩) | (go_at_call 47; (with_reducible refine (impl_foldings.calls k a0 false t317 _ A4.out).mono ?_); rintro e w5 ⟨v318, rfl, ho0, hb⟩; have HO319 := Aside0.mk (Kd.S_lower ho0 (below_size (bl HB.out))); replace HB := bst HB hb; obtain ⟨Ao6, co6, eo6⟩ := Kd.S_slice HO319.out; subst eo6)); go_ret2; exact ⟨sr, bl HB.out⟩
 replace c3 := Bool.eq_false_iff.mpr c3; subst c3; rw [if_neg (show ¬ (false = true) by decide)] at H; simp only [Option.some.injEq, Prod.mk.injEq] at H; obtain ⟨rfl, rfl⟩ := H; go_enter Tryz.func10, Tryz.ntmps10; go_wp2_with (first | (go_at_call 46; (with_reducible refine (impl_in.calls a0 1 8 false _ A2.out).mono ?_); rintro e w' ⟨rfl, ⟨nd, rfl⟩⟩)); go_ret2; exact ⟨sr, bl HB.out⟩
/-! ### impl_CountOnTop: function 11 -/
def impl_CountOnTop.f (k : Nat) (a0 : Int) : Option (Int × Bool) := (impl_in.f a0 1 8).bind fun t320 => (if t320 = true then ((impl_foldings.f k a0 true).bind fun t321 => (some ((t321.length : Int), true))) else (some (0, false)))
theorem impl_CountOnTop.mono : ∀ a0 k, LeO (impl_CountOnTop.f k a0) (impl_CountOnTop.f (k + 1) a0) := by
 intro a0 k; unfold impl_CountOnTop.f
 repeat' first
   | (with_reducible exact impl_foldings.mono _ _ _)
   | (with_reducible exact LeO.refl _)
   | (with_reducible exact LeO.none _)
   | (with_reducible refine LeO.ite ?_ ?_)
   | (with_reducible refine LeO.bind ?_ (fun _ => ?_))
   | exact impl_foldings.mono _ _ _
   | exact LeO.none _
   | refine LeO.ite ?_ ?_
   | refine LeO.bind ?_ (fun _ => ?_)
theorem impl_CountOnTop.calls (k : Nat) (a0 : Int) (r1 : Int) (r2 : Bool) (w : World) (h : impl_CountOnTop.f k a0 = some (r1, r2)) :
  Calls Tryz.prog 11 #[.int .i64 a0] w fun e w' => e = .returned (.tuple #[.int .i64 r1, .bool r2]) ∧ Below w.heap.size w w' := by
 have HB := Aside0.mk (Below.refl w.heap.size w); have H : ((impl_in.f a0 1 8).bind fun t320 => (if t320 = true then ((impl_foldings.f k a0 true).bind fun t321 => (some ((t321.length : Int), true))) else (some (0, false)))) = some (r1, r2) := h; clear h; obtain ⟨t320, A2, H⟩ := bi H; (try dsimp only at H)
 by_cases c3 : t320 = true
 ·subst c3; rw [if_pos rfl] at H; obtain ⟨t321, A4, H⟩ := bi H; (try dsimp only at H); simp only [Option.some.injEq, Prod.mk.injEq] at H; obtain ⟨rfl, rfl⟩ := H; go_enter Tryz.func11, Tryz.ntmps11; go_wp2_with (first | (go_at_call 46; (with_reducible refine (impl_in.calls a0 1 8 true _ A2.out).mono ?_); rintro e w' ⟨rfl, ⟨nd, rfl⟩⟩) | (go_at_call 47; (with_reducible refine (impl_foldings.calls k a0 true t321 _ A4.out).mono ?_); rintro e w5 ⟨v322, rfl, ho0, hb⟩; have HO323 := Aside0.mk (Kd.S_lower ho0 (below_size (bl HB.out))); replace HB := bst HB hb; obtain ⟨Ao6, co6, eo6⟩ := Kd.S_slice HO323.out; subst eo6)); go_ret2; exact ⟨sr, bl HB.out⟩
 replace c3 := Bool.eq_false_iff.mpr c3; subst c3; rw [if_neg (show ¬ (false = true) by decide)] at H; simp only [Option.some.injEq, Prod.mk.injEq] at H; obtain ⟨rfl, rfl⟩ := H; go_enter Tryz.func11, Tryz.ntmps11; go_wp2_with (first | (go_at_call 46; (with_reducible refine (impl_in.calls a0 1 8 false _ A2.out).mono ?_); rintro e w' ⟨rfl, ⟨nd, rfl⟩⟩)); go_ret2; exact ⟨sr, bl HB.out⟩
/-! ### impl_joined: function 112 -/
def impl_joined.l0 : Nat → List Int → List Int → List Int → Int → Int → Option (List Int)
 | 0, _, _, _, _, _ => none
 | k + 1, x0, x5, x10, x11, x12 => if x12 < x11 then (if 0 ≤ x12 then (if x12 < (x10.length : Int) then (if x5.length < 17592186044416 then (impl_joined.l0 k x0 (x5 ++ [wrap64 ((rd x10 x12) + (x0.length : Int))]) x10 x11 (wrap64 (x12 + 1))) else (none)) else (none)) else (none)) else (some x5)
def impl_joined.f (k : Nat) (l0 : List Int) (l1 : List Int) : Option (List Int) := (slices_Clone_int_int.f l0).bind fun t324 => (impl_joined.l0 k l0 t324 l1 (l1.length : Int) 0)
theorem impl_joined.mono_l : ∀ k, (∀ y0 y1 y2 y3 y4, LeO (impl_joined.l0 k y0 y1 y2 y3 y4) (impl_joined.l0 (k + 1) y0 y1 y2 y3 y4))
 | 0 => fun _ _ _ _ _ r h => by simp [impl_joined.l0] at h
 | k + 1 => by
  have ih0 := impl_joined.mono_l k
  ·intro y0 y1 y2 y3 y4
   unfold impl_joined.l0
   repeat' first
   | (with_reducible exact ih0 _ _ _ _ _)
   | (with_reducible exact LeO.refl _)
   | (with_reducible exact LeO.none _)
   | (with_reducible refine LeO.ite ?_ ?_)
   | (with_reducible refine LeO.bind ?_ (fun _ => ?_))
   | exact ih0 _ _ _ _ _
   | exact LeO.none _
   | refine LeO.ite ?_ ?_
   | refine LeO.bind ?_ (fun _ => ?_)
theorem impl_joined.mono : ∀ a0 a1 k, LeO (impl_joined.f k a0 a1) (impl_joined.f (k + 1) a0 a1) := by
 intro a0 a1 k; have ih0 := impl_joined.mono_l k; unfold impl_joined.f
 repeat' first
   | (with_reducible exact ih0 _ _ _ _ _)
   | (with_reducible exact LeO.refl _)
   | (with_reducible exact LeO.none _)
   | (with_reducible refine LeO.ite ?_ ?_)
   | (with_reducible refine LeO.bind ?_ (fun _ => ?_))
   | exact ih0 _ _ _ _ _
   | exact LeO.none _
   | refine LeO.ite ?_ ?_
   | refine LeO.bind ?_ (fun _ => ?_)
theorem impl_joined.calls (k : Nat) (A0 : Option Addr) (c0 : Nat) (l0 : List Int) (A1 : Option Addr) (c1 : Nat) (l1 : List Int) (r : List Int) (w : World) (hr0 : Kd.C (Kd.int .i64) w A0 l0.length l0) (hc0 : l0.length ≤ c0) (hr1 : Kd.C (Kd.int .i64) w A1 l1.length l1) (hc1 : l1.length ≤ c1) (h : impl_joined.f k l0 l1 = some r) :
  Calls Tryz.prog 112 #[.slice A0 l0.length c0, .slice A1 l1.length c1] w fun e w' => ∃ v0_ : Value, e = .returned (v0_) ∧ Kd.R (Kd.int .i64) 3 w' w.heap.size (fun _ => True) v0_ r ∧ Below w.heap.size w w' := by
 have HR0 := Aside0.mk hr0; have HC0 := Aside0.mk hc0; clear hr0 hc0; have HR1 := Aside0.mk hr1; have HC1 := Aside0.mk hc1; clear hr1 hc1; have HB := Aside0.mk (Below.refl w.heap.size w); have H : ((slices_Clone_int_int.f l0).bind fun t324 => (impl_joined.l0 k l0 t324 l1 (l1.length : Int) 0)) = some r := h; clear h; obtain ⟨t324, A3, H⟩ := bi H; (try dsimp only at H); have H' := Aside0.mk H; clear H; go_enter Tryz.func112, Tryz.ntmps112; go_wp2_with (first | (go_at_call 107; (with_reducible refine (slices_Clone_int_int.calls _ _ l0 t324 _ ?side1 HC0.out A3.out).mono ?_); (case side1 => exact cw HR0.out); rintro e w4 ⟨v325, rfl, ho0, hb⟩; have HO326 := Aside0.mk (Kd.R_lower ho0 (below_size (bl HB.out))); replace HB := bst HB hb))
 go_loopg [5, 12] k (fun kq v5 v12 w' => ∃ (x5_1 : List Int) (x12_1 : Int), v12 = .int .i64 x12_1 ∧ Aside0 (impl_joined.l0 kq l0 x5_1 l1 (l1.length : Int) x12_1 = some r) ∧ Aside0 (kq ≤ k) ∧ Aside0 (Kd.R (Kd.int .i64) 3 w' w.heap.size (fun _ => True) v5 x5_1) ∧ Aside0 (Below w.heap.size w w'))
 case atStart => exact ⟨(t324), (0), (sr2), H', ⟨Nat.le_refl _⟩, ⟨rR HO326.out⟩, ⟨bl HB.out⟩⟩
 case round =>
  clear H'; obtain ⟨x5_1, x12_1, rfl, HA, HK1, HO_5, HB⟩ := hrel
  cases gk with
  | zero => exact absurd HA.out (by simp [impl_joined.l0])
  | succ k1 =>
   have H := HA.out; clear HA; simp only [impl_joined.l0] at H
   by_cases c5 : x12_1 < (l1.length : Int)
   ·rw [if_pos c5] at H; have c5b0 := decide_eq_true c5; clear c5
    by_cases c6 : 0 ≤ x12_1
    ·rw [if_pos c6] at H; have c6b0 := decide_eq_true c6; clear c6
     by_cases c7 : x12_1 < (l1.length : Int)
     ·rw [if_pos c7] at H; have c7b0 := decide_eq_true c7; clear c7
      by_cases c8 : x5_1.length < 17592186044416
      ·rw [if_pos c8] at H; have LMc8 := Aside0.mk c8; clear c8; obtain ⟨y328, hy328⟩ := yy (x5_1 ++ [wrap64 ((rd l1 x12_1) + (l0.length : Int))])
       (try rw [Option.bind_some] at H); (try dsimp only at H); rw [← hy328] at H
       have Ny328 := Aside0.mk hy328; clear hy328; have H' := Aside0.mk H; clear H; obtain ⟨ad327, e327, hx327_0, p327, q327⟩ := atI HR1.out x12_1; cases e327; replace hx327_0 := hbx HB hx327_0; go_wp2_with (first | ((with_reducible refine gate_builtin (b := .append) (xs := #[.tmp 16, .tmp 21]) rfl ?_); at_builtin; refine Kd.R_append (Kd.int .i64) (w0 := w) w.heap.size rfl (.tmp 16) (.tmp 21) 31 3 (.int .i64 0) 8 rfl Tryz.underlying31 info3 rfl (by decide) (by omega) u5 x5_1 (wrap64 ((rd l1 x12_1) + (l0.length : Int))) [.int .i64 (wrap64 ((rd l1 x12_1) + (l0.length : Int)))] (fun _ => True) (fun _ => False) rfl rfl ?aP (fun _ hk => hk.elim) ?aF ?aO ?aB ?aS (by have := LMc8.out; omega) ?_; (case aP => exact rfl); (case aB => exact (bl HB.out)); (case aF => exact (fun _ _ => trivial)); (case aO => exact (rR HO_5.out)); (case aS => exact (below_size (bl HB.out))); intro v329 w9 ho hb hg hat; rw [← Ny328.out] at ho; replace HB := Aside0.mk (hb); have HO330 := Aside0.mk (ho); clear HO_5; clear ho hb hg hat))
       go_roundg k1
       case measure => have := HK1.out; omega
       case rel => exact ⟨(y328), (wrap64 (x12_1 + 1)), (sr2), H', ⟨by have := HK1.out; omega⟩, ⟨rR HO330.out⟩, ⟨bl HB.out⟩⟩
      rw [if_neg c8] at H; exact absurd H (by simp)
     rw [if_neg c7] at H; exact absurd H (by simp)
    rw [if_neg c6] at H; exact absurd H (by simp)
   rw [if_neg c5] at H; have c5b0 := decide_eq_false c5; clear c5; obtain rfl := Option.some.inj H; go_wp2; go_ret; exact ⟨_, sr, rR HO_5.out, bl HB.out⟩
/-! ### impl_covered: function 113 -/
def impl_covered.l0 : Nat → List Int → List Int → Int → Int → Option (List Int)
 | 0, _, _, _, _ => none
 | k + 1, x3, x10, x11, x12 => if x12 < x11 then (if 0 ≤ x12 then (if x12 < (x10.length : Int) then (if x3.length < 17592186044416 then (impl_covered.l0 k (x3 ++ [wrap64 ((rd x10 x12) + 1)]) x10 x11 (wrap64 (x12 + 1))) else (none)) else (none)) else (none)) else (if x3.length < 17592186044416 then (some (x3 ++ [0])) else (none))
def impl_covered.f (k : Nat) (l0 : List Int) : Option (List Int) := impl_covered.l0 k (([wrap64 ((l0.length : Int) + 1)] : List Int)) l0 (l0.length : Int) 0
theorem impl_covered.mono_l : ∀ k, (∀ y0 y1 y2 y3, LeO (impl_covered.l0 k y0 y1 y2 y3) (impl_covered.l0 (k + 1) y0 y1 y2 y3))
 | 0 => fun _ _ _ _ r h => by simp [impl_covered.l0] at h
 | k + 1 => by
  have ih0 := impl_covered.mono_l k
  ·intro y0 y1 y2 y3
   unfold impl_covered.l0
   repeat' first
   | (with_reducible exact ih0 _ _ _ _)
   | (with_reducible exact LeO.refl _)
   | (with_reducible exact LeO.none _)
   | (with_reducible refine LeO.ite ?_ ?_)
   | (with_reducible refine LeO.bind ?_ (fun _ => ?_))
   | exact ih0 _ _ _ _
   | exact LeO.none _
   | refine LeO.ite ?_ ?_
   | refine LeO.bind ?_ (fun _ => ?_)
theorem impl_covered.mono : ∀ a0 k, LeO (impl_covered.f k a0) (impl_covered.f (k + 1) a0) := by
 intro a0 k; have ih0 := impl_covered.mono_l k; unfold impl_covered.f
 repeat' first
   | (with_reducible exact ih0 _ _ _ _)
   | (with_reducible exact LeO.refl _)
   | (with_reducible exact LeO.none _)
   | (with_reducible refine LeO.ite ?_ ?_)
   | (with_reducible refine LeO.bind ?_ (fun _ => ?_))
   | exact ih0 _ _ _ _
   | exact LeO.none _
   | refine LeO.ite ?_ ?_
   | refine LeO.bind ?_ (fun _ => ?_)
theorem impl_covered.calls (k : Nat) (A0 : Option Addr) (c0 : Nat) (l0 : List Int) (r : List Int) (w : World) (hr0 : Kd.C (Kd.int .i64) w A0 l0.length l0) (hc0 : l0.length ≤ c0) (h : impl_covered.f k l0 = some r) :
  Calls Tryz.prog 113 #[.slice A0 l0.length c0] w fun e w' => ∃ v0_ : Value, e = .returned (v0_) ∧ Kd.R (Kd.int .i64) 3 w' w.heap.size (fun _ => True) v0_ r ∧ Below w.heap.size w w' := by
 have HR0 := Aside0.mk hr0; have HC0 := Aside0.mk hc0; clear hr0 hc0; have HB := Aside0.mk (Below.refl w.heap.size w); have H : (impl_covered.l0 k (([wrap64 ((l0.length : Int) + 1)] : List Int)) l0 (l0.length : Int) 0) = some r := h; clear h; obtain ⟨y331, hy331⟩ := yy (([wrap64 ((l0.length : Int) + 1)] : List Int))
 (try rw [Option.bind_some] at H); (try dsimp only at H); rw [← hy331] at H
 have Ny331 := Aside0.mk hy331; clear hy331; have H' := Aside0.mk H; clear H; go_enter Tryz.func113, Tryz.ntmps113; go_wp2_with (first | ((with_reducible refine gate_dst (N := 9) rfl ?_); refine Kd.R_lit (Kd.int .i64) _ 3 ?hg (N := 9) ?hd (xs := ([wrap64 ((l0.length : Int) + 1)] : List Int)) (inner := [.int .i64 (wrap64 ((l0.length : Int) + 1))]) (ok := fun _ => True) (okp := fun _ => True) ?hr ?hp (fun _ hk => hk) trivial (Below.refl _ _) (Nat.le_refl _) (by simp) ?_; (case hd => rfl); (case hg => rfl); (case hr => first | (go_simp; done) | (go_simp; rfl)); (case hp => exact (Reps.one (show Kd.M (Kd.int .i64) _ _ _ (wrap64 ((l0.length : Int) + 1)) [.int .i64 (wrap64 ((l0.length : Int) + 1))] from rfl) (Reps.none _ _))); intro v332 w2 ho3 hb hg_ hnew_; clear hg_ hnew_; (first | rw [← Ny331.out] at ho3 | (simp only [Int.reduceToNat] at ho3; rw [← Ny331.out] at ho3)); have HO333 := Aside0.mk (Kd.R_lower ho3 (below_size (bl HB.out))); replace HB := bst HB hb; clear hb ho3))
 go_loopg [3, 12] k (fun kq v3 v12 w' => ∃ (x3_1 : List Int) (x12_1 : Int), v12 = .int .i64 x12_1 ∧ Aside0 (impl_covered.l0 kq x3_1 l0 (l0.length : Int) x12_1 = some r) ∧ Aside0 (kq ≤ k) ∧ Aside0 (Kd.R (Kd.int .i64) 3 w' w.heap.size (fun _ => True) v3 x3_1) ∧ Aside0 (Below w.heap.size w w'))
 case atStart => exact ⟨(y331), (0), (sr2), H', ⟨Nat.le_refl _⟩, ⟨rR HO333.out⟩, ⟨bl HB.out⟩⟩
 case round =>
  clear H'; obtain ⟨x3_1, x12_1, rfl, HA, HK1, HO_3, HB⟩ := hrel
  cases gk with
  | zero => exact absurd HA.out (by simp [impl_covered.l0])
  | succ k1 =>
   have H := HA.out; clear HA; simp only [impl_covered.l0] at H
   by_cases c4 : x12_1 < (l0.length : Int)
   ·rw [if_pos c4] at H; have c4b0 := decide_eq_true c4; clear c4
    by_cases c5 : 0 ≤ x12_1
    ·rw [if_pos c5] at H; have c5b0 := decide_eq_true c5; clear c5
     by_cases c6 : x12_1 < (l0.length : Int)
     ·rw [if_pos c6] at H; have c6b0 := decide_eq_true c6; clear c6
      by_cases c7 : x3_1.length < 17592186044416
      ·rw [if_pos c7] at H; have LMc7 := Aside0.mk c7; clear c7; obtain ⟨y335, hy335⟩ := yy (x3_1 ++ [wrap64 ((rd l0 x12_1) + 1)])
       (try rw [Option.bind_some] at H); (try dsimp only at H); rw [← hy335] at H
       have Ny335 := Aside0.mk hy335; clear hy335; have H' := Aside0.mk H; clear H; obtain ⟨ad334, e334, hx334_0, p334, q334⟩ := atI HR0.out x12_1; cases e334; replace hx334_0 := hbx HB hx334_0; go_wp2_with (first | ((with_reducible refine gate_builtin (b := .append) (xs := #[.tmp 16, .tmp 19]) rfl ?_); at_builtin; refine Kd.R_append (Kd.int .i64) (w0 := w) w.heap.size rfl (.tmp 16) (.tmp 19) 31 3 (.int .i64 0) 8 rfl Tryz.underlying31 info3 rfl (by decide) (by omega) u3 x3_1 (wrap64 ((rd l0 x12_1) + 1)) [.int .i64 (wrap64 ((rd l0 x12_1) + 1))] (fun _ => True) (fun _ => False) rfl rfl ?aP (fun _ hk => hk.elim) ?aF ?aO ?aB ?aS (by have := LMc7.out; omega) ?_; (case aP => exact rfl); (case aB => exact (bl HB.out)); (case aF => exact (fun _ _ => trivial)); (case aO => exact (rR HO_3.out)); (case aS => exact (below_size (bl HB.out))); intro v336 w8 ho hb hg hat; rw [← Ny335.out] at ho; replace HB := Aside0.mk (hb); have HO337 := Aside0.mk (ho); clear HO_3; clear ho hb hg hat))
       go_roundg k1
       case measure => have := HK1.out; omega
       case rel => exact ⟨(y335), (wrap64 (x12_1 + 1)), (sr2), H', ⟨by have := HK1.out; omega⟩, ⟨rR HO337.out⟩, ⟨bl HB.out⟩⟩
      rw [if_neg c7] at H; exact absurd H (by simp)
     rw [if_neg c6] at H; exact absurd H (by simp)
    rw [if_neg c5] at H; exact absurd H (by simp)
   rw [if_neg c4] at H; have c4b0 := decide_eq_false c4; clear c4
   by_cases c9 : x3_1.length < 17592186044416
   ·rw [if_pos c9] at H; have LMc9 := Aside0.mk c9; clear c9; obtain ⟨y338, hy338⟩ := yy (x3_1 ++ [0])
    (try rw [Option.bind_some] at H); (try dsimp only at H); rw [← hy338] at H
    have Ny338 := Aside0.mk hy338; clear hy338; obtain rfl := Option.some.inj H; go_wp2_with (first | ((with_reducible refine gate_builtin (b := .append) (xs := #[.tmp 22, .tmp 23]) rfl ?_); at_builtin; refine Kd.R_append (Kd.int .i64) (w0 := w) w.heap.size rfl (.tmp 22) (.tmp 23) 31 3 (.int .i64 0) 8 rfl Tryz.underlying31 info3 rfl (by decide) (by omega) u3 x3_1 0 [.int .i64 0] (fun _ => True) (fun _ => False) rfl rfl ?aP (fun _ hk => hk.elim) ?aF ?aO ?aB ?aS (by have := LMc9.out; omega) ?_; (case aP => exact rfl); (case aB => exact (bl HB.out)); (case aF => exact (fun _ _ => trivial)); (case aO => exact (rR HO_3.out)); (case aS => exact (below_size (bl HB.out))); intro v339 w10 ho hb hg hat; rw [← Ny338.out] at ho; replace HB := Aside0.mk (hb); have HO340 := Aside0.mk (ho); clear HO_3; clear ho hb hg hat)); go_ret; exact ⟨_, sr, rR HO340.out, bl HB.out⟩
   rw [if_neg c9] at H; exact absurd H (by simp)
/-! ### impl_systems: function 90 -/
mutual
def impl_systems.l0 : Nat → Int → List (List Int) → Int → Int → Option ((List (List Int)))
 | 0, _, _, _, _ => none
 | k + 1, x0, x3, x14, x15 => if x15 < x14 then ((impl_systems.f k x15).bind fun t351 => (impl_systems.l1 k x0 x3 x15 x14 x15 t351 (t351.length : Int) 0)) else ((slices_SortFunc_int_int_at_slices_Compare_int_int.f x3).bind fun t350 => (some t350))
def impl_systems.l1 : Nat → Int → List (List Int) → Int → Int → Int → List (List Int) → Int → Int → Option ((List (List Int)))
 | 0, _, _, _, _, _, _, _, _ => none
 | k + 1, x0, x3, x4, x14, x15, x19, x20, x21 => if x21 < x20 then (if 0 ≤ x21 then (if x21 < (x19.length : Int) then ((impl_systems.f k (wrap64 ((wrap64 (x0 - 1)) - x4))).bind fun t355 => (impl_systems.l2 k x0 x3 x4 (rd_L3 x19 x21) x14 x15 x19 x20 x21 t355 (t355.length : Int) 0)) else (none)) else (none)) else (impl_systems.l0 k x0 x3 x14 (wrap64 (x15 + 1)))
def impl_systems.l2 : Nat → Int → List (List Int) → Int → List Int → Int → Int → List (List Int) → Int → Int → List (List Int) → Int → Int → Option ((List (List Int)))
 | 0, _, _, _, _, _, _, _, _, _, _, _, _ => none
 | k + 1, x0, x3, x4, x6, x14, x15, x19, x20, x21, x29, x30, x31 => if x31 < x30 then (if 0 ≤ x31 then (if x31 < (x29.length : Int) then ((impl_covered.f k x6).bind fun t359 => ((impl_joined.f k t359 (rd_L3 x29 x31)).bind fun t362 => (if x3.length < 5864062014805 then (impl_systems.l2 k x0 (x3 ++ [t362]) x4 x6 x14 x15 x19 x20 x21 x29 x30 (wrap64 (x31 + 1))) else (none)))) else (none)) else (none)) else (impl_systems.l1 k x0 x3 x4 x14 x15 x19 x20 (wrap64 (x21 + 1)))
def impl_systems.f : Nat → Int → Option ((List (List Int)))
 | 0, _ => none
 | k + 1, a0 => if a0 = 0 then (some (([(([] : List Int))] : List (List Int)))) else (impl_systems.l0 k a0 (([] : List (List Int))) a0 0)
end
theorem impl_systems.mono_l : ∀ k, (∀ y0, LeO (impl_systems.f k y0) (impl_systems.f (k + 1) y0)) ∧ (∀ y0 y1 y2 y3, LeO (impl_systems.l0 k y0 y1 y2 y3) (impl_systems.l0 (k + 1) y0 y1 y2 y3)) ∧ (∀ y0 y1 y2 y3 y4 y5 y6 y7, LeO (impl_systems.l1 k y0 y1 y2 y3 y4 y5 y6 y7) (impl_systems.l1 (k + 1) y0 y1 y2 y3 y4 y5 y6 y7)) ∧ (∀ y0 y1 y2 y3 y4 y5 y6 y7 y8 y9 y10 y11, LeO (impl_systems.l2 k y0 y1 y2 y3 y4 y5 y6 y7 y8 y9 y10 y11) (impl_systems.l2 (k + 1) y0 y1 y2 y3 y4 y5 y6 y7 y8 y9 y10 y11))
 | 0 => ⟨fun _ r h => by simp [impl_systems.f] at h, fun _ _ _ _ r h => by simp [impl_systems.l0] at h, fun _ _ _ _ _ _ _ _ r h => by simp [impl_systems.l1] at h, fun _ _ _ _ _ _ _ _ _ _ _ _ r h => by simp [impl_systems.l2] at h⟩
 | k + 1 => by
  obtain ⟨ih0, ih1, ih2, ih3⟩ := impl_systems.mono_l k
  refine ⟨?_, ?_, ?_, ?_⟩
  ·intro y0
   unfold impl_systems.f
   repeat' first
   | (with_reducible exact ih0 _)
   | (with_reducible exact ih1 _ _ _ _)
   | (with_reducible exact ih2 _ _ _ _ _ _ _ _)
   | (with_reducible exact ih3 _ _ _ _ _ _ _ _ _ _ _ _)
   | (with_reducible exact impl_covered.mono _ _)
   | (with_reducible exact impl_joined.mono _ _ _)
   | (with_reducible exact LeO.refl _)
   | (with_reducible exact LeO.none _)
   | (with_reducible refine LeO.ite ?_ ?_)
   | (with_reducible refine LeO.bind ?_ (fun _ => ?_))
   | exact ih0 _
   | exact ih1 _ _ _ _
   | exact ih2 _ _ _ _ _ _ _ _
   | exact ih3 _ _ _ _ _ _ _ _ _ _ _ _
   | exact impl_covered.mono _ _
   | exact impl_joined.mono _ _ _
   | exact LeO.none _
   | refine LeO.ite ?_ ?_
   | refine LeO.bind ?_ (fun _ => ?_)
  ·intro y0 y1 y2 y3
   unfold impl_systems.l0
   repeat' first
   | (with_reducible exact ih0 _)
   | (with_reducible exact ih1 _ _ _ _)
   | (with_reducible exact ih2 _ _ _ _ _ _ _ _)
   | (with_reducible exact ih3 _ _ _ _ _ _ _ _ _ _ _ _)
   | (with_reducible exact impl_covered.mono _ _)
   | (with_reducible exact impl_joined.mono _ _ _)
   | (with_reducible exact LeO.refl _)
   | (with_reducible exact LeO.none _)
   | (with_reducible refine LeO.ite ?_ ?_)
   | (with_reducible refine LeO.bind ?_ (fun _ => ?_))
   | exact ih0 _
   | exact ih1 _ _ _ _
   | exact ih2 _ _ _ _ _ _ _ _
   | exact ih3 _ _ _ _ _ _ _ _ _ _ _ _
   | exact impl_covered.mono _ _
   | exact impl_joined.mono _ _ _
   | exact LeO.none _
   | refine LeO.ite ?_ ?_
   | refine LeO.bind ?_ (fun _ => ?_)
  ·intro y0 y1 y2 y3 y4 y5 y6 y7
   unfold impl_systems.l1
   repeat' first
   | (with_reducible exact ih0 _)
   | (with_reducible exact ih1 _ _ _ _)
   | (with_reducible exact ih2 _ _ _ _ _ _ _ _)
   | (with_reducible exact ih3 _ _ _ _ _ _ _ _ _ _ _ _)
   | (with_reducible exact impl_covered.mono _ _)
   | (with_reducible exact impl_joined.mono _ _ _)
   | (with_reducible exact LeO.refl _)
   | (with_reducible exact LeO.none _)
   | (with_reducible refine LeO.ite ?_ ?_)
   | (with_reducible refine LeO.bind ?_ (fun _ => ?_))
   | exact ih0 _
   | exact ih1 _ _ _ _
   | exact ih2 _ _ _ _ _ _ _ _
   | exact ih3 _ _ _ _ _ _ _ _ _ _ _ _
   | exact impl_covered.mono _ _
   | exact impl_joined.mono _ _ _
   | exact LeO.none _
   | refine LeO.ite ?_ ?_
   | refine LeO.bind ?_ (fun _ => ?_)
  ·intro y0 y1 y2 y3 y4 y5 y6 y7 y8 y9 y10 y11
   unfold impl_systems.l2
   repeat' first
   | (with_reducible exact ih0 _)
   | (with_reducible exact ih1 _ _ _ _)
   | (with_reducible exact ih2 _ _ _ _ _ _ _ _)
   | (with_reducible exact ih3 _ _ _ _ _ _ _ _ _ _ _ _)
   | (with_reducible exact impl_covered.mono _ _)
   | (with_reducible exact impl_joined.mono _ _ _)
   | (with_reducible exact LeO.refl _)
   | (with_reducible exact LeO.none _)
   | (with_reducible refine LeO.ite ?_ ?_)
   | (with_reducible refine LeO.bind ?_ (fun _ => ?_))
   | exact ih0 _
   | exact ih1 _ _ _ _
   | exact ih2 _ _ _ _ _ _ _ _
   | exact ih3 _ _ _ _ _ _ _ _ _ _ _ _
   | exact impl_covered.mono _ _
   | exact impl_joined.mono _ _ _
   | exact LeO.none _
   | refine LeO.ite ?_ ?_
   | refine LeO.bind ?_ (fun _ => ?_)
theorem impl_systems.mono : ∀ a0 k, LeO (impl_systems.f k a0) (impl_systems.f (k + 1) a0) := by
 intro a0 k; obtain ⟨ih0, ih1, ih2, ih3⟩ := impl_systems.mono_l k; exact ih0 a0
theorem impl_systems.calls (k : Nat) : ∀ (a0 : Int) (r : List (List Int)) (w : World) (h : impl_systems.f k a0 = some r),
  Calls Tryz.prog 90 #[.int .i64 a0] w fun e w' => ∃ v0_ : Value, e = .returned (v0_) ∧ Kd.S (Kd.slice 3 (Kd.int .i64)) 31 w' w.heap.size (fun _ => True) v0_ r ∧ Below w.heap.size w w' := by
 induction k using Nat.strongRecOn with
 | _ k ih =>
 intro a0 r w h
 cases k with
 | zero => exact absurd h (by simp [impl_systems.f])
 | succ k =>
 simp only [impl_systems.f] at h; have HB := Aside0.mk (Below.refl w.heap.size w); have H : (if a0 = 0 then (some (([(([] : List Int))] : List (List Int)))) else (impl_systems.l0 k a0 (([] : List (List Int))) a0 0)) = some r := h; clear h
 by_cases c2 : a0 = 0
 ·rw [if_pos c2] at H; have c2b0 := beq_iff_eq.mpr c2; have c2b1 := bne_eq_false_iff_eq.mpr c2; clear c2; obtain ⟨y341, hy341⟩ := yy (([] : List Int))
  (try rw [Option.bind_some] at H); (try dsimp only at H); rw [← hy341] at H
  have Ny341 := Aside0.mk hy341; clear hy341; obtain ⟨y344, hy344⟩ := yy (([y341] : List (List Int)))
  (try rw [Option.bind_some] at H); (try dsimp only at H); rw [← hy344] at H
  have Ny344 := Aside0.mk hy344; clear hy344; obtain rfl := Option.some.inj H; go_enter Tryz.func90, Tryz.ntmps90; go_wp2_with (first | ((with_reducible refine gate_dst (N := 11) rfl ?_); refine Kd.R_lit (Kd.int .i64) _ 3 ?hg (N := 11) ?hd (xs := ([] : List Int)) (inner := []) (ok := fun _ => True) (okp := fun _ => True) ?hr ?hp (fun _ hk => hk) trivial (Below.refl _ _) (Nat.le_refl _) (by simp) ?_; (case hd => rfl); (case hg => rfl); (case hr => first | (go_simp; done) | (go_simp; rfl)); (case hp => exact (Reps.none _ _)); intro v342 w3 ho4 hb hg_ hnew_; clear hg_ hnew_; (first | rw [← Ny341.out] at ho4 | (simp only [Int.reduceToNat] at ho4; rw [← Ny341.out] at ho4)); have HO343 := Aside0.mk (Kd.R_lower ho4 (below_size (bl HB.out))); replace HB := bst HB hb; clear hb ho4; obtain ⟨Ao5, co5, eo5⟩ := Kd.R_slice HO343.out; subst eo5) | ((with_reducible refine gate_dst (N := 12) rfl ?_); refine RowsS.S_lit1 (Kd.slice 3 (Kd.int .i64)) (w0 := w) w.heap.size 31 ?hg (N := 12) ?hd (x := y341) (cs := [.slice Ao5 y341.length co5]) ?hr ?hp ?hB ?hS ?_; (case hd => rfl); (case hg => rfl); (case hr => first | (go_simp; done) | (go_simp; rfl)); (case hp => exact Kd.M_row (Kd.R_mono (ok' := fun _ => True) (rR HO343.out) (fun _ _ => trivial))); (case hB => exact (bl HB.out)); (case hS => exact ((below_size (bl HB.out)))); intro v345 w6 ho7 hb hg_ hnew_; clear hg_ hnew_; (first | rw [← Ny344.out] at ho7 | (simp only [Int.reduceToNat] at ho7; rw [← Ny344.out] at ho7)); have HO346 := Aside0.mk (ho7); replace HB := bst HB hb; clear HO343; clear hb ho7)); go_ret; exact ⟨_, sr, rS HO346.out, bl HB.out⟩
 rw [if_neg c2] at H; have c2b0 := beq_eq_false_iff_ne.mpr c2; have c2b1 := bne_iff_ne.mpr c2; obtain ⟨y347, hy347⟩ := yy (([] : List (List Int)))
 (try rw [Option.bind_some] at H); (try dsimp only at H); rw [← hy347] at H
 have Ny347 := Aside0.mk hy347; clear hy347; have H' := Aside0.mk H; clear H; go_enter Tryz.func90, Tryz.ntmps90; go_wp2_with (first | ((with_reducible refine gate_dst (N := 13) rfl ?_); refine Kd.S_lit (Kd.slice 3 (Kd.int .i64)) _ 31 ?hg (N := 13) ?hd (xs := ([] : List (List Int))) (inner := []) (ok := fun _ => True) (okp := fun _ => True) ?hr ?hp (fun _ hk => hk) trivial (Below.refl _ _) (Nat.le_refl _) (by simp) ?_; (case hd => rfl); (case hg => rfl); (case hr => first | (go_simp; done) | (go_simp; rfl)); (case hp => exact (Reps.none _ _)); intro v348 w8 ho9 hb hg_ hnew_; clear hg_ hnew_; (first | rw [← Ny347.out] at ho9 | (simp only [Int.reduceToNat] at ho9; rw [← Ny347.out] at ho9)); have HO349 := Aside0.mk (Kd.S_lower ho9 (below_size (bl HB.out))); replace HB := bst HB hb; clear hb ho9))
 go_loopg [3, 15] k (fun kq v3 v15 w' => ∃ (x3_1 : List (List Int)) (x15_1 : Int), v15 = .int .i64 x15_1 ∧ Aside0 (impl_systems.l0 kq a0 x3_1 a0 x15_1 = some r) ∧ Aside0 (kq ≤ k) ∧ Aside0 (Kd.S (Kd.slice 3 (Kd.int .i64)) 31 w' w.heap.size (fun _ => True) v3 x3_1) ∧ Aside0 (Below w.heap.size w w'))
 case atStart => exact ⟨(y347), (0), (sr2), H', ⟨Nat.le_refl _⟩, ⟨rS HO349.out⟩, ⟨bl HB.out⟩⟩
 case round =>
  clear H'; obtain ⟨x3_1, x15_1, rfl, HA, HK1, HO_3, HB⟩ := hrel
  cases gk with
  | zero => exact absurd HA.out (by simp [impl_systems.l0])
  | succ k1 =>
   have H := HA.out; clear HA; simp only [impl_systems.l0] at H
   by_cases c10 : x15_1 < a0
   ·rw [if_pos c10] at H; have c10b0 := decide_eq_true c10; clear c10; obtain ⟨t351, A11, H⟩ := bi H; (try dsimp only at H); have H' := Aside0.mk H; clear H; go_wp2_with (first | (go_at_call 90; (with_reducible refine (ih k1 (by have := HK1.out; omega) x15_1 t351 _ A11.out).mono ?_); rintro e w12 ⟨v352, rfl, ho0, hb⟩; have HO353 := Aside0.mk (Kd.S_lower (Kd.S_new' ho0 (Kd.S_lt (rS HO_3.out))) (below_size (bl HB.out))); replace HO_3 := Aside0.mk (Kd.S_elder' (rS HO_3.out) (Kd.S_base ho0) hb); replace HB := bst HB hb; obtain ⟨Ao13, co13, eo13⟩ := Kd.S_slice HO353.out; subst eo13))
    go_loopg [3, 21] k1 (fun kq v3 v21 w' => ∃ (x3_2 : List (List Int)) (x21_2 : Int), v21 = .int .i64 x21_2 ∧ Aside0 (impl_systems.l1 kq a0 x3_2 x15_1 a0 x15_1 t351 (t351.length : Int) x21_2 = some r) ∧ Aside0 (kq ≤ k1) ∧ Aside0 (Kd.S (Kd.slice 3 (Kd.int .i64)) 31 w' w.heap.size (fun k_ => some k_ ≠ ((.slice Ao13 t351.length co13) : Value).ownBlock) v3 x3_2) ∧ Aside0 (Kd.S (Kd.slice 3 (Kd.int .i64)) 31 w' w.heap.size (fun k_ => some k_ ≠ (v3 : Value).ownBlock) (.slice Ao13 t351.length co13) t351) ∧ Aside0 (Below w.heap.size w w'))
    case atStart => exact ⟨(x3_1), (0), (sr2), H', ⟨Nat.le_refl _⟩, ⟨rS (Kd.S_mono HO_3.out (fun _ hk => hk.2))⟩, ⟨rS (Kd.S_mono HO353.out (fun _ hk => hk.2))⟩, ⟨bl HB.out⟩⟩
    case round =>
     clear H'; obtain ⟨x3_2, x21_2, rfl, HA, HK2, HO_3, HO_19, HB⟩ := hrel
     cases gk with
     | zero => exact absurd HA.out (by simp [impl_systems.l1])
     | succ k2 =>
      have H := HA.out; clear HA; simp only [impl_systems.l1] at H
      by_cases c14 : x21_2 < (t351.length : Int)
      ·rw [if_pos c14] at H; have c14b0 := decide_eq_true c14; clear c14
       by_cases c15 : 0 ≤ x21_2
       ·rw [if_pos c15] at H; have c15b0 := decide_eq_true c15; clear c15
        by_cases c16 : x21_2 < (t351.length : Int)
        ·rw [if_pos c16] at H; have c16b0 := decide_eq_true c16; clear c16; obtain ⟨t355, A17, H⟩ := bi H; (try dsimp only at H); have H' := Aside0.mk H; clear H; have p354 : 0 ≤ (x21_2 : Int) := od; have q354 : x21_2 < (t351.length : Int) := od; obtain ⟨ad354, A354_0, c354_0, e354, hx354_0, hl354_0, hi354_0⟩ := at_L3 (Kd.S_reads' HO_19.out).2.2 x21_2 p354 q354; cases e354; obtain ⟨ce354, hce354, hMe354, hcc354⟩ := Kd.S_get HO_19.out [] x21_2 p354 (by first | exact q354 | exact od | (have e_ := (Kd.S_reads' HO_19.out).1; omega)); obtain ⟨ve354_0, rfl, ge354_0⟩ := hMe354; have hv354_0 := hcc354 0 _ rfl; rw [Nat.add_zero, show ((Kd.slice 3 (Kd.int .i64))).sz = 1 from rfl, Nat.mul_one] at hv354_0; replace hv354_0 := Option.some.inj (hv354_0.symm.trans hx354_0); rw [hv354_0] at ge354_0; have HL354_0 := Aside0.mk (show Kd.R (Kd.int .i64) 3 _ _ _ _ (rd_L3 t351 x21_2) from ge354_0); clear hv354_0 ge354_0; clear hcc354 hce354; have HR354_0 := Aside0.mk hi354_0; have HC354_0 := Aside0.mk hl354_0; clear hi354_0 hl354_0; replace p354 := eq_true p354; replace q354 := eq_true q354; go_wp2_with (first | (go_at_call 90; (with_reducible refine (ih k2 (by have := HK1.out; have := HK2.out; omega) (wrap64 ((wrap64 (a0 - 1)) - x15_1)) t355 _ A17.out).mono ?_); rintro e w18 ⟨v356, rfl, ho0, hb⟩; have HO357 := Aside0.mk (Kd.S_lower (Kd.S_new' (Kd.S_new' (Kd.S_new' ho0 (Kd.S_lt (rS HO_3.out))) (Kd.S_lt (rS HO_19.out))) (Kd.R_lt (rR HL354_0.out))) (below_size (bl HB.out))); replace HO_3 := Aside0.mk (Kd.S_elder' (rS HO_3.out) (Kd.S_base ho0) hb); replace HO_19 := Aside0.mk (Kd.S_elder' (rS HO_19.out) (Kd.S_base ho0) hb); replace HL354_0 := Aside0.mk (Kd.R_below (rR HL354_0.out) hb); replace HR354_0 := Aside0.mk (Kd.C_below (by repeat (first | (with_reducible exact HR354_0.out) | (with_reducible refine Kd.C_alloc ?_ _) | (with_reducible refine Kd.C_drewN ?_ _) | (with_reducible refine Kd.C_drew ?_) | exact HR354_0.out)) hb); replace HB := bst HB hb; obtain ⟨Ao19, co19, eo19⟩ := Kd.S_slice HO357.out; subst eo19))
         go_loopg [3, 31] k2 (fun kq v3 v31 w' => ∃ (x3_3 : List (List Int)) (x31_3 : Int), v31 = .int .i64 x31_3 ∧ Aside0 (impl_systems.l2 kq a0 x3_3 x15_1 (rd_L3 t351 x21_2) a0 x15_1 t351 (t351.length : Int) x21_2 t355 (t355.length : Int) x31_3 = some r) ∧ Aside0 (kq ≤ k2) ∧ Aside0 (Kd.S (Kd.slice 3 (Kd.int .i64)) 31 w' w.heap.size (fun k_ => some k_ ≠ ((.slice (some ad354) t351.length co13) : Value).ownBlock ∧ some k_ ≠ ((.slice Ao19 t355.length co19) : Value).ownBlock) v3 x3_3) ∧ Aside0 (Kd.R (Kd.int .i64) 3 w' w.heap.size (fun _ => True) (.slice A354_0 (rd_L3 t351 x21_2).length c354_0) (rd_L3 t351 x21_2)) ∧ Aside0 (Kd.S (Kd.slice 3 (Kd.int .i64)) 31 w' w.heap.size (fun k_ => some k_ ≠ (v3 : Value).ownBlock ∧ some k_ ≠ ((.slice Ao19 t355.length co19) : Value).ownBlock) (.slice (some ad354) t351.length co13) t351) ∧ Aside0 (Kd.S (Kd.slice 3 (Kd.int .i64)) 31 w' w.heap.size (fun k_ => some k_ ≠ (v3 : Value).ownBlock ∧ some k_ ≠ ((.slice (some ad354) t351.length co13) : Value).ownBlock) (.slice Ao19 t355.length co19) t355) ∧ Aside0 (Below w.heap.size w w'))
         case atStart => exact ⟨(x3_2), (0), (sr2), H', ⟨Nat.le_refl _⟩, ⟨rS HO_3.out⟩, ⟨rR (Kd.R_mono HL354_0.out (fun _ hk => trivial))⟩, ⟨rS HO_19.out⟩, ⟨rS (Kd.S_mono HO357.out (fun _ hk => ⟨hk.1.1.2, hk.1.2⟩))⟩, ⟨bl HB.out⟩⟩
         case round =>
          clear H'; obtain ⟨x3_3, x31_3, rfl, HA, HK3, HO_3, HO_6, HO_19, HO_29, HB⟩ := hrel
          cases gk with
          | zero => exact absurd HA.out (by simp [impl_systems.l2])
          | succ k3 =>
           have H := HA.out; clear HA; simp only [impl_systems.l2] at H
           by_cases c20 : x31_3 < (t355.length : Int)
           ·rw [if_pos c20] at H; have c20b0 := decide_eq_true c20; clear c20
            by_cases c21 : 0 ≤ x31_3
            ·rw [if_pos c21] at H; have c21b0 := decide_eq_true c21; clear c21
             by_cases c22 : x31_3 < (t355.length : Int)
             ·rw [if_pos c22] at H; have c22b0 := decide_eq_true c22; clear c22; obtain ⟨t359, A23, H⟩ := bi H; (try dsimp only at H); obtain ⟨t362, A24, H⟩ := bi H; (try dsimp only at H)
              by_cases c25 : x3_3.length < 5864062014805
              ·rw [if_pos c25] at H; have LMc25 := Aside0.mk c25; clear c25; obtain ⟨y365, hy365⟩ := yy (x3_3 ++ [t362])
               (try rw [Option.bind_some] at H); (try dsimp only at H); rw [← hy365] at H
               have Ny365 := Aside0.mk hy365; clear hy365; have H' := Aside0.mk H; clear H; have p358 : 0 ≤ (x31_3 : Int) := od; have q358 : x31_3 < (t355.length : Int) := od; obtain ⟨ad358, A358_0, c358_0, e358, hx358_0, hl358_0, hi358_0⟩ := at_L3 (Kd.S_reads' HO_29.out).2.2 x31_3 p358 q358; cases e358; obtain ⟨ce358, hce358, hMe358, hcc358⟩ := Kd.S_get HO_29.out [] x31_3 p358 (by first | exact q358 | exact od | (have e_ := (Kd.S_reads' HO_29.out).1; omega)); obtain ⟨ve358_0, rfl, ge358_0⟩ := hMe358; have hv358_0 := hcc358 0 _ rfl; rw [Nat.add_zero, show ((Kd.slice 3 (Kd.int .i64))).sz = 1 from rfl, Nat.mul_one] at hv358_0; replace hv358_0 := Option.some.inj (hv358_0.symm.trans hx358_0); rw [hv358_0] at ge358_0; have HL358_0 := Aside0.mk (show Kd.R (Kd.int .i64) 3 _ _ _ _ (rd_L3 t355 x31_3) from ge358_0); clear hv358_0 ge358_0; clear hcc358 hce358; have HR358_0 := Aside0.mk hi358_0; have HC358_0 := Aside0.mk hl358_0; clear hi358_0 hl358_0; replace p358 := eq_true p358; replace q358 := eq_true q358; go_wp2_with (first | (go_at_call 113; (with_reducible refine (impl_covered.calls k3 _ _ (rd_L3 t351 x21_2) t359 _ ?side1 ((Kd.R_reads' HO_6.out).2.1) A23.out).mono ?_); (case side1 => exact cw ((Kd.R_reads' HO_6.out).2.2)); rintro e w26 ⟨v360, rfl, ho0, hb⟩; replace HO_3 := Aside0.mk (Kd.S_elder' (rS HO_3.out) (Kd.R_base ho0) hb); replace HO_19 := Aside0.mk (Kd.S_elder' (rS HO_19.out) (Kd.R_base ho0) hb); replace HO_29 := Aside0.mk (Kd.S_elder' (rS HO_29.out) (Kd.R_base ho0) hb); have HO361 := Aside0.mk (Kd.R_lower (Kd.R_new' (Kd.R_new' ho0 (Kd.R_lt (rR HO_6.out))) (Kd.R_lt (rR HL358_0.out))) (below_size (bl HB.out))); replace HO_6 := Aside0.mk (Kd.R_elder' (rR HO_6.out) (Kd.R_base ho0) hb); replace HL358_0 := Aside0.mk (Kd.R_elder' (rR HL358_0.out) (Kd.R_base ho0) hb); replace HR358_0 := Aside0.mk (Kd.C_below (by repeat (first | (with_reducible exact HR358_0.out) | (with_reducible refine Kd.C_alloc ?_ _) | (with_reducible refine Kd.C_drewN ?_ _) | (with_reducible refine Kd.C_drew ?_) | exact HR358_0.out)) hb); replace HB := bst HB hb; obtain ⟨Ao27, co27, eo27⟩ := Kd.R_slice HO361.out; subst eo27) | (go_at_call 112; (with_reducible refine (impl_joined.calls k3 _ _ t359 _ _ (rd_L3 t355 x31_3) t362 _ ?side1 ?side2 ?side3 HC358_0.out A24.out).mono ?_); (case side1 => exact cw ((Kd.R_reads' HO361.out).2.2)); (case side2 => exact (Kd.R_reads' HO361.out).2.1); (case side3 => repeat (first | exact (by repeat (first | (with_reducible exact HR358_0.out) | (with_reducible refine Kd.C_alloc ?_ _) | (with_reducible refine Kd.C_drewN ?_ _) | (with_reducible refine Kd.C_drew ?_) | exact HR358_0.out)) | (with_reducible refine Kd.C_alloc ?_ _) | (with_reducible refine Kd.C_drewN ?_ _) | (with_reducible refine Kd.C_drew ?_))); rintro e w28 ⟨v363, rfl, ho0, hb⟩; replace HO_3 := Aside0.mk (Kd.S_elder' (rS HO_3.out) (Kd.R_base ho0) hb); replace HO_19 := Aside0.mk (Kd.S_elder' (rS HO_19.out) (Kd.R_base ho0) hb); replace HO_29 := Aside0.mk (Kd.S_elder' (rS HO_29.out) (Kd.R_base ho0) hb); have HO364 := Aside0.mk (Kd.R_lower (Kd.R_new' (Kd.R_new' (Kd.R_new' ho0 (Kd.R_lt (rR HO_6.out))) (Kd.R_lt (rR HL358_0.out))) (Kd.R_lt (rR HO361.out))) (below_size (bl HB.out))); replace HO_6 := Aside0.mk (Kd.R_elder' (rR HO_6.out) (Kd.R_base ho0) hb); replace HL358_0 := Aside0.mk (Kd.R_elder' (rR HL358_0.out) (Kd.R_base ho0) hb); replace HO361 := Aside0.mk (Kd.R_elder' (rR HO361.out) (Kd.R_base ho0) hb); replace HR358_0 := Aside0.mk (Kd.C_below (by repeat (first | (with_reducible exact HR358_0.out) | (with_reducible refine Kd.C_alloc ?_ _) | (with_reducible refine Kd.C_drewN ?_ _) | (with_reducible refine Kd.C_drew ?_) | exact HR358_0.out)) hb); replace HB := bst HB hb; obtain ⟨Ao30, co30, eo30⟩ := Kd.R_slice HO364.out; subst eo30) | ((with_reducible refine gate_builtin (b := .append) (xs := #[.tmp 35, .tmp 40]) rfl ?_); at_builtin; refine Kd.S_append (Kd.slice 3 (Kd.int .i64)) (w0 := w) w.heap.size rfl (.tmp 35) (.tmp 40) 25 31 (.slice none 0 0) 24 rfl Tryz.underlying25 info31 rfl (by decide) (by omega) u3 x3_3 t362 [.slice Ao30 t362.length co30] (fun k_ => some k_ ≠ (.slice (some ad354) t351.length co13 : Value).ownBlock ∧ some k_ ≠ (.slice (some ad358) t355.length co19 : Value).ownBlock ∧ some k_ ≠ (.slice Ao27 t359.length co27 : Value).ownBlock) (fun k_ => some k_ = (.slice Ao30 t362.length co30 : Value).ownBlock) rfl rfl ?aP (fun k_ hk_ => ((Kd.R_mono (ok' := fun k_ => ((fun k_ => some k_ ≠ (.slice (some ad354) t351.length co13 : Value).ownBlock ∧ some k_ ≠ (.slice (some ad358) t355.length co19 : Value).ownBlock ∧ some k_ ≠ (.slice Ao27 t359.length co27 : Value).ownBlock)) k_ ∧ some k_ ≠ (u3 : Value).ownBlock) (Kd.R_apart' (Kd.R_apart' (Kd.R_apart' (HO364.out) (Kd.S_typed HO_19.out) (by decide)) (Kd.S_typed HO_29.out) (by decide)) (Kd.S_typed HO_3.out) (by decide)) (fun k_ hk => ⟨⟨hk.1.1.2, ⟨hk.1.2, hk.1.1.1.2⟩⟩, hk.2⟩))).1 k_ hk_.symm) ?aF ?aO ?aB ?aS (by have := LMc25.out; omega) ?_; (case aP => exact Kd.M_row (Kd.R_mono (Kd.R_tight rfl (Kd.R_mono (ok' := fun k_ => ((fun k_ => some k_ ≠ (.slice (some ad354) t351.length co13 : Value).ownBlock ∧ some k_ ≠ (.slice (some ad358) t355.length co19 : Value).ownBlock ∧ some k_ ≠ (.slice Ao27 t359.length co27 : Value).ownBlock)) k_ ∧ some k_ ≠ (u3 : Value).ownBlock) (Kd.R_apart' (Kd.R_apart' (Kd.R_apart' (HO364.out) (Kd.S_typed HO_19.out) (by decide)) (Kd.S_typed HO_29.out) (by decide)) (Kd.S_typed HO_3.out) (by decide)) (fun k_ hk => ⟨⟨hk.1.1.2, ⟨hk.1.2, hk.1.1.1.2⟩⟩, hk.2⟩))) (fun _ h_ => h_))); (case aB => exact (bl HB.out)); (case aF => exact (fun k_ hk => ⟨Kd.fresh' (Kd.S_lt (rS HO_19.out)) k_ hk, Kd.fresh' (Kd.S_lt (rS HO_29.out)) k_ hk, Kd.fresh' (Kd.R_lt (rR HO361.out)) k_ hk⟩)); (case aO => exact (rS (Kd.S_mono HO_3.out (fun k_ hk => ⟨⟨hk.1.1.1, ⟨hk.1.1.2, hk.1.2⟩⟩, fun e_ => hk.2 e_⟩)))); (case aS => exact (below_size (bl HB.out))); intro v366 w29 ho hb hg hat; rw [← Ny365.out] at ho; replace HO_6 := Aside0.mk (Kd.R_over' (rR HO_6.out) (Kd.S_typed (rS HO_3.out)) (by decide) hg); replace HO_19 := Aside0.mk (Kd.S_after (ok := (fun k_ => some k_ ≠ (.slice (some ad358) t355.length co19 : Value).ownBlock ∧ some k_ ≠ (.slice Ao27 t359.length co27 : Value).ownBlock ∧ some k_ ≠ (.slice Ao30 t362.length co30 : Value).ownBlock)) (rS (Kd.S_mono HO_19.out (fun _ hk => ⟨⟨hk.1.1.2, ⟨hk.1.2, hk.2⟩⟩, hk.1.1.1⟩))) hg hat); replace HO_29 := Aside0.mk (Kd.S_after (ok := (fun k_ => some k_ ≠ (.slice (some ad354) t351.length co13 : Value).ownBlock ∧ some k_ ≠ (.slice Ao27 t359.length co27 : Value).ownBlock ∧ some k_ ≠ (.slice Ao30 t362.length co30 : Value).ownBlock)) (rS (Kd.S_mono HO_29.out (fun _ hk => ⟨⟨hk.1.1.2, ⟨hk.1.2, hk.2⟩⟩, hk.1.1.1⟩))) hg hat); replace HL358_0 := Aside0.mk (Kd.R_after (ok := (fun k_ => some k_ ≠ (.slice (some ad354) t351.length co13 : Value).ownBlock ∧ some k_ ≠ (.slice (some ad358) t355.length co19 : Value).ownBlock ∧ some k_ ≠ (.slice Ao27 t359.length co27 : Value).ownBlock ∧ some k_ ≠ (.slice Ao30 t362.length co30 : Value).ownBlock)) (rR (Kd.R_mono HL358_0.out (fun _ hk => ⟨⟨hk.1.1.1.2, ⟨hk.1.1.2, ⟨hk.1.2, hk.2⟩⟩⟩, hk.1.1.1.1⟩))) hg hat); replace HO361 := Aside0.mk (Kd.R_over' (rR HO361.out) (Kd.S_typed (rS HO_3.out)) (by decide) hg); replace HB := Aside0.mk (hb); have HO367 := Aside0.mk (ho); clear HO_3 HO364; clear ho hb hg hat))
               go_roundg k3
               case measure => have := HK1.out; have := HK2.out; have := HK3.out; omega
               case rel => exact ⟨(y365), (wrap64 (x31_3 + 1)), (sr2), H', ⟨by have := HK1.out; have := HK2.out; have := HK3.out; omega⟩, ⟨rS (Kd.S_mono HO367.out (fun _ hk => ⟨hk.1, hk.2.1⟩))⟩, ⟨rR (Kd.R_mono HO_6.out (fun _ hk => trivial))⟩, ⟨rS (Kd.S_mono HO_19.out (fun _ hk => ⟨hk.2, hk.1.1⟩))⟩, ⟨rS (Kd.S_mono HO_29.out (fun _ hk => ⟨hk.2, hk.1.1⟩))⟩, ⟨bl HB.out⟩⟩
              rw [if_neg c25] at H; exact absurd H (by simp)
             rw [if_neg c22] at H; exact absurd H (by simp)
            rw [if_neg c21] at H; exact absurd H (by simp)
           rw [if_neg c20] at H; have c20b0 := decide_eq_false c20; clear c20; have H' := Aside0.mk H; clear H; go_wp2
           go_roundg k3
           case measure => have := HK1.out; have := HK2.out; have := HK3.out; omega
           case rel => exact ⟨(x3_3), (wrap64 (x21_2 + 1)), (sr2), H', ⟨by have := HK1.out; have := HK2.out; have := HK3.out; omega⟩, ⟨rS (Kd.S_mono HO_3.out (fun _ hk => hk.1))⟩, ⟨rS (Kd.S_mono HO_19.out (fun _ hk => hk.1))⟩, ⟨bl HB.out⟩⟩
        rw [if_neg c16] at H; exact absurd H (by simp)
       rw [if_neg c15] at H; exact absurd H (by simp)
      rw [if_neg c14] at H; have c14b0 := decide_eq_false c14; clear c14; have H' := Aside0.mk H; clear H; go_wp2
      go_roundg k2
      case measure => have := HK1.out; have := HK2.out; omega
      case rel => exact ⟨(x3_2), (wrap64 (x15_1 + 1)), (sr2), H', ⟨by have := HK1.out; have := HK2.out; omega⟩, ⟨rS (Kd.S_mono HO_3.out (fun _ hk => trivial))⟩, ⟨bl HB.out⟩⟩
   rw [if_neg c10] at H; have c10b0 := decide_eq_false c10; clear c10; obtain ⟨t350, A31, H⟩ := bi H; (try dsimp only at H); obtain rfl := Option.some.inj H; obtain ⟨Ao32, co32, eo32⟩ := Kd.S_slice HO_3.out; subst eo32; go_wp2_with (first | (go_at_call 86; (with_reducible refine (slices_SortFunc_int_int_at_slices_Compare_int_int.calls (fun k_ => True) (.slice Ao32 x3_1.length co32) x3_1  t350 w _ ?side1 HO_3.out A31.out).mono ?_); (case side1 => repeat (first | (with_reducible first | exact HB.out | apply below_alloc | apply pw_below_drewN | apply below_drew1) | exact HB.out)); rintro e w33 ⟨rfl, hy0, hb, hkp⟩; replace HO_3 := Aside0.mk (hy0); replace HB := Aside0.mk (hb))); go_ret; exact ⟨_, sr, rS HO_3.out, bl HB.out⟩
/-! ### impl_rainbow: function 72 -/
def impl_rainbow.l0 : Nat → Int → List Int → Int → Int → Option (List Int)
 | 0, _, _, _, _ => none
 | k + 1, x0, x3, x7, x8 => if x8 < x7 then (if x3.length < 17592186044416 then (impl_rainbow.l0 k x0 (x3 ++ [wrap64 ((wrap64 ((wrap64 (2 * x0)) - 1)) - x8)]) x7 (wrap64 (x8 + 1))) else (none)) else (some x3)
def impl_rainbow.f (k : Nat) (a0 : Int) : Option (List Int) := impl_rainbow.l0 k a0 (([] : List Int)) (wrap64 (2 * a0)) 0
theorem impl_rainbow.mono_l : ∀ k, (∀ y0 y1 y2 y3, LeO (impl_rainbow.l0 k y0 y1 y2 y3) (impl_rainbow.l0 (k + 1) y0 y1 y2 y3))
 | 0 => fun _ _ _ _ r h => by simp [impl_rainbow.l0] at h
 | k + 1 => by
  have ih0 := impl_rainbow.mono_l k
  ·intro y0 y1 y2 y3
   unfold impl_rainbow.l0
   repeat' first
   | (with_reducible exact ih0 _ _ _ _)
   | (with_reducible exact LeO.refl _)
   | (with_reducible exact LeO.none _)
   | (with_reducible refine LeO.ite ?_ ?_)
   | (with_reducible refine LeO.bind ?_ (fun _ => ?_))
   | exact ih0 _ _ _ _
   | exact LeO.none _
   | refine LeO.ite ?_ ?_
   | refine LeO.bind ?_ (fun _ => ?_)
theorem impl_rainbow.mono : ∀ a0 k, LeO (impl_rainbow.f k a0) (impl_rainbow.f (k + 1) a0) := by
 intro a0 k; have ih0 := impl_rainbow.mono_l k; unfold impl_rainbow.f
 repeat' first
   | (with_reducible exact ih0 _ _ _ _)
   | (with_reducible exact LeO.refl _)
   | (with_reducible exact LeO.none _)
   | (with_reducible refine LeO.ite ?_ ?_)
   | (with_reducible refine LeO.bind ?_ (fun _ => ?_))
   | exact ih0 _ _ _ _
   | exact LeO.none _
   | refine LeO.ite ?_ ?_
   | refine LeO.bind ?_ (fun _ => ?_)
theorem impl_rainbow.calls (k : Nat) (a0 : Int) (r : List Int) (w : World) (h : impl_rainbow.f k a0 = some r) :
  Calls Tryz.prog 72 #[.int .i64 a0] w fun e w' => ∃ v0_ : Value, e = .returned (v0_) ∧ Kd.R (Kd.int .i64) 3 w' w.heap.size (fun _ => True) v0_ r ∧ Below w.heap.size w w' := by
 have HB := Aside0.mk (Below.refl w.heap.size w); have H : (impl_rainbow.l0 k a0 (([] : List Int)) (wrap64 (2 * a0)) 0) = some r := h; clear h; obtain ⟨y368, hy368⟩ := yy (([] : List Int))
 (try rw [Option.bind_some] at H); (try dsimp only at H); rw [← hy368] at H
 have Ny368 := Aside0.mk hy368; clear hy368; have H' := Aside0.mk H; clear H; go_enter Tryz.func72, Tryz.ntmps72; go_wp2_with (first | ((with_reducible refine gate_dst (N := 5) rfl ?_); refine Kd.R_lit (Kd.int .i64) _ 3 ?hg (N := 5) ?hd (xs := ([] : List Int)) (inner := []) (ok := fun _ => True) (okp := fun _ => True) ?hr ?hp (fun _ hk => hk) trivial (Below.refl _ _) (Nat.le_refl _) (by simp) ?_; (case hd => rfl); (case hg => rfl); (case hr => first | (go_simp; done) | (go_simp; rfl)); (case hp => exact (Reps.none _ _)); intro v369 w2 ho3 hb hg_ hnew_; clear hg_ hnew_; (first | rw [← Ny368.out] at ho3 | (simp only [Int.reduceToNat] at ho3; rw [← Ny368.out] at ho3)); have HO370 := Aside0.mk (Kd.R_lower ho3 (below_size (bl HB.out))); replace HB := bst HB hb; clear hb ho3))
 go_loopg [3, 8] k (fun kq v3 v8 w' => ∃ (x3_1 : List Int) (x8_1 : Int), v8 = .int .i64 x8_1 ∧ Aside0 (impl_rainbow.l0 kq a0 x3_1 (wrap64 (2 * a0)) x8_1 = some r) ∧ Aside0 (kq ≤ k) ∧ Aside0 (Kd.R (Kd.int .i64) 3 w' w.heap.size (fun _ => True) v3 x3_1) ∧ Aside0 (Below w.heap.size w w'))
 case atStart => exact ⟨(y368), (0), (sr2), H', ⟨Nat.le_refl _⟩, ⟨rR HO370.out⟩, ⟨bl HB.out⟩⟩
 case round =>
  clear H'; obtain ⟨x3_1, x8_1, rfl, HA, HK1, HO_3, HB⟩ := hrel
  cases gk with
  | zero => exact absurd HA.out (by simp [impl_rainbow.l0])
  | succ k1 =>
   have H := HA.out; clear HA; simp only [impl_rainbow.l0] at H
   by_cases c4 : x8_1 < (wrap64 (2 * a0))
   ·rw [if_pos c4] at H; have c4b0 := decide_eq_true c4; clear c4
    by_cases c5 : x3_1.length < 17592186044416
    ·rw [if_pos c5] at H; have LMc5 := Aside0.mk c5; clear c5; obtain ⟨y371, hy371⟩ := yy (x3_1 ++ [wrap64 ((wrap64 ((wrap64 (2 * a0)) - 1)) - x8_1)])
     (try rw [Option.bind_some] at H); (try dsimp only at H); rw [← hy371] at H
     have Ny371 := Aside0.mk hy371; clear hy371; have H' := Aside0.mk H; clear H; go_wp2_with (first | ((with_reducible refine gate_builtin (b := .append) (xs := #[.tmp 11, .tmp 17]) rfl ?_); at_builtin; refine Kd.R_append (Kd.int .i64) (w0 := w) w.heap.size rfl (.tmp 11) (.tmp 17) 31 3 (.int .i64 0) 8 rfl Tryz.underlying31 info3 rfl (by decide) (by omega) u3 x3_1 (wrap64 ((wrap64 ((wrap64 (2 * a0)) - 1)) - x8_1)) [.int .i64 (wrap64 ((wrap64 ((wrap64 (2 * a0)) - 1)) - x8_1))] (fun _ => True) (fun _ => False) rfl rfl ?aP (fun _ hk => hk.elim) ?aF ?aO ?aB ?aS (by have := LMc5.out; omega) ?_; (case aP => exact rfl); (case aB => exact (bl HB.out)); (case aF => exact (fun _ _ => trivial)); (case aO => exact (rR HO_3.out)); (case aS => exact (below_size (bl HB.out))); intro v372 w6 ho hb hg hat; rw [← Ny371.out] at ho; replace HB := Aside0.mk (hb); have HO373 := Aside0.mk (ho); clear HO_3; clear ho hb hg hat))
     go_roundg k1
     case measure => have := HK1.out; omega
     case rel => exact ⟨(y371), (wrap64 (x8_1 + 1)), (sr2), H', ⟨by have := HK1.out; omega⟩, ⟨rR HO373.out⟩, ⟨bl HB.out⟩⟩
    rw [if_neg c5] at H; exact absurd H (by simp)
   rw [if_neg c4] at H; have c4b0 := decide_eq_false c4; clear c4; obtain rfl := Option.some.inj H; go_wp2; go_ret; exact ⟨_, sr, rR HO_3.out, bl HB.out⟩
/-! ### bits_Mul64: function 166 -/
def bits_Mul64.f (a0 : Int) (a1 : Int) : Option (Int × Int) := some (IntKind.u64.wrap ((IntKind.u64.wrap ((IntKind.u64.wrap ((a0 / 4294967296) * (a1 / 4294967296))) + ((IntKind.u64.wrap ((IntKind.u64.wrap ((a0 / 4294967296) * (Go.bits .and .u64 a1 4294967295))) + ((IntKind.u64.wrap ((Go.bits .and .u64 a0 4294967295) * (Go.bits .and .u64 a1 4294967295))) / 4294967296))) / 4294967296))) + ((IntKind.u64.wrap ((Go.bits .and .u64 (IntKind.u64.wrap ((IntKind.u64.wrap ((a0 / 4294967296) * (Go.bits .and .u64 a1 4294967295))) + ((IntKind.u64.wrap ((Go.bits .and .u64 a0 4294967295) * (Go.bits .and .u64 a1 4294967295))) / 4294967296))) 4294967295) + (IntKind.u64.wrap ((Go.bits .and .u64 a0 4294967295) * (a1 / 4294967296))))) / 4294967296)), IntKind.u64.wrap (a0 * a1))
theorem bits_Mul64.calls (a0 : Int) (a1 : Int) (r1 : Int) (r2 : Int) (w : World) (h : bits_Mul64.f a0 a1 = some (r1, r2)) :
  Calls Tryz.prog 166 #[.int .u64 a0, .int .u64 a1] w fun e w' => e = .returned (.tuple #[.int .u64 r1, .int .u64 r2]) ∧ Drawn0 w w' := by
 have H : (some (IntKind.u64.wrap ((IntKind.u64.wrap ((IntKind.u64.wrap ((a0 / 4294967296) * (a1 / 4294967296))) + ((IntKind.u64.wrap ((IntKind.u64.wrap ((a0 / 4294967296) * (Go.bits .and .u64 a1 4294967295))) + ((IntKind.u64.wrap ((Go.bits .and .u64 a0 4294967295) * (Go.bits .and .u64 a1 4294967295))) / 4294967296))) / 4294967296))) + ((IntKind.u64.wrap ((Go.bits .and .u64 (IntKind.u64.wrap ((IntKind.u64.wrap ((a0 / 4294967296) * (Go.bits .and .u64 a1 4294967295))) + ((IntKind.u64.wrap ((Go.bits .and .u64 a0 4294967295) * (Go.bits .and .u64 a1 4294967295))) / 4294967296))) 4294967295) + (IntKind.u64.wrap ((Go.bits .and .u64 a0 4294967295) * (a1 / 4294967296))))) / 4294967296)), IntKind.u64.wrap (a0 * a1))) = some (r1, r2) := h; clear h; simp only [Option.some.injEq, Prod.mk.injEq] at H; obtain ⟨rfl, rfl⟩ := H; go_enter Tryz.func166, Tryz.ntmps166; go_wp2; go_ret2; exact ⟨sr2, by repeat (first | exact Drawn0.refl _ | apply Drawn0.step)⟩
/-! ### bits_Mul: function 159 -/
def bits_Mul.f (a0 : Int) (a1 : Int) : Option (Int × Int) := (bits_Mul64.f a0 a1).bind fun bt374 => (some (bt374.1, bt374.2))
theorem bits_Mul.calls (a0 : Int) (a1 : Int) (r1 : Int) (r2 : Int) (w : World) (h : bits_Mul.f a0 a1 = some (r1, r2)) :
  Calls Tryz.prog 159 #[.int .u64 a0, .int .u64 a1] w fun e w' => e = .returned (.tuple #[.int .u64 r1, .int .u64 r2]) ∧ Drawn0 w w' := by
 have H : ((bits_Mul64.f a0 a1).bind fun bt374 => (some (bt374.1, bt374.2))) = some (r1, r2) := h; clear h; obtain ⟨⟨t374, t375⟩, A3, H⟩ := bi H; (try dsimp only at H); simp only [Option.some.injEq, Prod.mk.injEq] at H; obtain ⟨rfl, rfl⟩ := H; go_enter Tryz.func159, Tryz.ntmps159; go_wp2_with (first | (go_at_call 166; (with_reducible refine (bits_Mul64.calls a0 a1 t374 t375 _ A3.out).mono ?_); rintro e w' ⟨rfl, ⟨nd, rfl⟩⟩)); go_ret2; exact ⟨sr2, by repeat (first | exact Drawn0.refl _ | apply Drawn0.step)⟩
/-! ### slices_Repeat_int_int: function 140 -/
def slices_Repeat_int_int.f (l0 : List Int) (a1 : Int) : Option (List Int) := if l0.length = 1 ∧ 0 ≤ a1 ∧ a1 ≤ 64 then some (List.replicate a1.toNat (l0.getD 0 0)) else none
theorem slices_Repeat_int_int.mul : ∀ m : Fin 65, bits_Mul.f 1 (m.val : Int) = some (0, (m.val : Int)) := by decide +kernel
def slices_Repeat_int_int.lay (x : Int) (m n : Nat) : List Int := List.replicate m x ++ List.replicate (n - m) 0
/-- A copy within one row of the call's own, as one step of a region that draws. -/
theorem step_copy_own {P : Program} {ops : Array Oper} {o : Oper} {a : Act} {w : World} {K : Act → World → Prop} {Q : Exit → Act → World → Prop} {E : Prop} (hgd : o.guard = none) (d s : Operand) (dT sT : TypeId)
    (ho : o.op = .call { callee := .builtin .copy, args := #[d, s], argTypes := #[dT, sT] }) (elem : TypeId) (hu : P.underlying dT = some (.slice elem)) (hsz : (P.info? elem).map (·.size) = some 1)
    (g off dLen dCap : Nat) (ad : Addr) (sLen sCap : Nat) (hd : a.eval d = .slice (some ⟨g, off, none⟩) dLen dCap) (hs : a.eval s = .slice (some ad) sLen sCap)
    (cur : Array Value) (t : TypeId) (hg : w.heap[g]? = some (.cells cur t (0, 0))) (cs : List Value) (hn : cs.length = Nat.min sLen dLen)
    (hsrc : ∀ j v, cs[j]? = some v → w.cell? (ad.add j) = some v) (hfit : off + cs.length ≤ cur.size) (h1 : ∀ v ∈ cs, v.oneCell' = true)
    (h : ∀ w1, w1 = w.setRow g (cur.toList.take off ++ cs ++ cur.toList.drop (off + cs.length)).toArray → K (a.put o.dst (goInt cs.length)) w1) :
    if Region.wanted o (yielded ops a.tmps) = true then Oper.wp P o a w K Q else E := by
  have hw : Region.wanted o (yielded ops a.tmps) = true := by simp [Region.wanted, hgd]
  rw [if_pos hw]
  have hrun := run_copy_row (P := P) w dT sT o.type elem g off dLen dCap ad sLen sCap cur t cs hu hsz hg hn hsrc hfit h1
  have h' := h _ rfl
  unfold Oper.wp
  simp only [execOp, ho, resolve, invoke, builtin, List.map_toArray, List.map_cons, List.map_nil, hd, hs, Sem.run_bind, Sem.run_pure, hrun, Result.andThen_ok]
  exact h'
theorem slices_Repeat_int_int.row (x : Int) (m n : Nat) (h1 : 1 ≤ m) (h2 : m ≤ n) : (nums .i64 (slices_Repeat_int_int.lay x m n)).take m ++ (nums .i64 (slices_Repeat_int_int.lay x m n)).take (min m (n - m)) ++ (nums .i64 (slices_Repeat_int_int.lay x m n)).drop (m + min m (n - m)) = nums .i64 (slices_Repeat_int_int.lay x (m + min m (n - m)) n) := by
  unfold slices_Repeat_int_int.lay nums
  simp only [List.map_append, List.map_replicate]
  rw [List.take_append_of_le_length (by simp), List.take_append_of_le_length (by simp; omega), List.drop_append]
  simp only [List.take_replicate, List.drop_replicate, List.length_replicate, Nat.min_self]
  rw [show m - (m + min m (n - m)) = 0 by omega, List.replicate_zero, List.nil_append]
  congr 1
  · rw [← List.replicate_append_replicate]; simp
  · congr 1; omega
theorem slices_Repeat_int_int.cells {x : Int} {n g : Nat} {W : World} {base : Nat} (h : W.ownsRow base 3 1 (.slice (some ⟨g, 0, none⟩) n n) n (madeCells (Value.int .i64 0).cells (n * 1)).toList) : W.heap[g]? = some (.cells (nums .i64 (slices_Repeat_int_int.lay x 0 n)).toArray 3 (0, 0)) := by
  obtain ⟨_, h2⟩ := h
  rcases h2 with ⟨h2, _⟩ | ⟨g', cap, cur, e1, _, hh, _, _, hs, ht⟩
  · cases h2
  · injection e1 with e2 _ e3
    injection e2 with e4
    injection e4 with e5
    subst e5 e3
    rw [hh]
    have e6 : (madeCells (Value.int .i64 0).cells (n * 1)).toList = List.replicate n (.int .i64 0) := by
      rw [Nat.mul_one]; exact toList_madeCells_one _ n
    rw [e6, List.take_of_length_le (by simp [hs])] at ht
    have e7 : cur = (nums .i64 (slices_Repeat_int_int.lay x 0 n)).toArray := by
      apply Array.toList_inj.1
      rw [ht]; simp [nums, slices_Repeat_int_int.lay]
    rw [e7]
theorem slices_Repeat_int_int.src {x : Int} {n : Nat} {ad : Addr} {W : World} (h : W.cell? ad = some (.int .i64 x)) {j : Nat} {v : Value} (hj : ((nums .i64 [x]).take (min 1 n))[j]? = some v) : W.cell? (ad.add j) = some v := by
  have hj0 : j = 0 := by
    have := (List.getElem?_eq_some_iff.1 hj).1
    simp [nums] at this; omega
  subst hj0
  have e : v = .int .i64 x := by
    have := List.mem_of_mem_take (List.mem_of_getElem? hj)
    simpa [nums] using this
  subst e
  simpa [Addr.add] using h
theorem slices_Repeat_int_int.len (x : Int) (n : Nat) : (goInt ((nums .i64 [x]).take (min 1 n)).length) = .int .i64 ((min 1 n : Nat) : Int) := by
  simp [nums, goInt]
  try omega
theorem slices_Repeat_int_int.len0 (x : Int) (n : Nat) : ((nums .i64 [x]).take (min 1 n)).length = Nat.min 1 n := by
  simp only [nums, List.map_cons, List.map_nil, List.length_take, List.length_cons, List.length_nil]
  have : Nat.min 1 n = min 1 n := rfl
  omega
theorem slices_Repeat_int_int.fit (x : Int) (n : Nat) : 0 + ((nums .i64 [x]).take (min 1 n)).length ≤ (nums .i64 (slices_Repeat_int_int.lay x 0 n)).length := by
  simp only [nums, slices_Repeat_int_int.lay, List.map_cons, List.map_nil, List.length_take, List.length_cons, List.length_nil, List.length_map, List.length_append, List.length_replicate]
  omega
theorem slices_Repeat_int_int.one (x : Int) (n : Nat) : ∀ v ∈ (nums .i64 [x]).take (min 1 n), v.oneCell' = true := by
  intro v hv
  have := List.mem_of_mem_take hv
  simp [nums] at this
  subst this
  rfl
theorem slices_Repeat_int_int.size {i0 : TypeInfo} (h : Tryz.prog.info? 3 = some i0) (h1 : i0.size = 1) : (Tryz.prog.info? 3).map (·.size) = some 1 := by rw [h]; simp [h1]
theorem slices_Repeat_int_int.first (x : Int) (n : Nat) : splice (nums .i64 (slices_Repeat_int_int.lay x 0 n)) 0 ((nums .i64 [x]).take (min 1 n)) = nums .i64 (slices_Repeat_int_int.lay x (min 1 n) n) := by
  cases n with
  | zero => rfl
  | succ n =>
    have : min 1 (n + 1) = 1 := by omega
    rw [this]
    simp [splice, nums, slices_Repeat_int_int.lay, List.replicate_succ]
theorem slices_Repeat_int_int.wrapq (m q : Nat) (h : m + q ≤ 64) : IntKind.i64.wrap ((m : Int) + (q : Int)) = ((m + q : Nat) : Int) := by
  rw [i64_w]; unfold wrap64; omega
theorem slices_Repeat_int_int.done {x : Int} {n g : Nat} {w W : World} (hn : n ≤ 64) (hg : W.heap[g]? = some (.cells (nums .i64 (slices_Repeat_int_int.lay x n n)).toArray 3 (0, 0))) (hb : w.heap.size ≤ g) :
    Kd.R (Kd.int .i64) 3 W w.heap.size (fun _ => True) (.slice (some ⟨g, 0, none⟩) n n) (List.replicate n x) := by
  refine Kd.R_of_own ?_ (fun _ _ => trivial)
  refine ⟨by simp [encs], .inr ⟨g, n, _, by simp, hb, hg, by simp, by unfold maxLen; omega, by simp [nums, slices_Repeat_int_int.lay], ?_⟩⟩
  simp [nums, slices_Repeat_int_int.lay, encs]
theorem slices_Repeat_int_int.src2 {x : Int} {m n g : Nat} {W : World} (h1 : m ≤ n) (hg : W.heap[g]? = some (.cells (nums .i64 (slices_Repeat_int_int.lay x m n)).toArray 3 (0, 0))) {j : Nat} {v : Value} (hj : ((nums .i64 (slices_Repeat_int_int.lay x m n)).take (min m (n - m)))[j]? = some v) :
    W.cell? ((⟨g, 0, none⟩ : Addr).add j) = some v := by
  have hlt := (List.getElem?_eq_some_iff.1 hj).1
  rw [List.length_take] at hlt
  rw [List.getElem?_take_of_lt (by omega)] at hj
  have e : (⟨g, 0, none⟩ : Addr).add j = ⟨g, j, none⟩ := by unfold Addr.add; split <;> simp_all
  rw [e]
  simp only [World.cell?, hg]
  simpa using hj
theorem slices_Repeat_int_int.len2 (x : Int) (m n : Nat) (h1 : m ≤ n) : ((nums .i64 (slices_Repeat_int_int.lay x m n)).take (min m (n - m))).length = Nat.min m (n - m) := by
  simp only [nums, slices_Repeat_int_int.lay, List.length_take, List.length_map, List.length_append, List.length_replicate]
  have : Nat.min m (n - m) = min m (n - m) := rfl
  omega
theorem slices_Repeat_int_int.one2 (x : Int) (m n q : Nat) : ∀ v ∈ (nums .i64 (slices_Repeat_int_int.lay x m n)).take q, v.oneCell' = true := by
  intro v hv
  have := List.mem_of_mem_take hv
  simp only [nums, List.mem_map] at this
  obtain ⟨y, _, rfl⟩ := this
  rfl
theorem slices_Repeat_int_int.fit2 (x : Int) (m n : Nat) (h1 : m ≤ n) : m + ((nums .i64 (slices_Repeat_int_int.lay x m n)).take (min m (n - m))).length ≤ (nums .i64 (slices_Repeat_int_int.lay x m n)).toArray.size := by
  rw [slices_Repeat_int_int.len2 x m n h1]
  have : Nat.min m (n - m) = min m (n - m) := rfl
  simp only [nums, slices_Repeat_int_int.lay, List.size_toArray, List.length_map, List.length_append, List.length_replicate]
  omega
theorem slices_Repeat_int_int.next {x : Int} {m n q g : Nat} {W w1 : World} {cs : List Value} (hg : W.heap[g]? = some (.cells (nums .i64 (slices_Repeat_int_int.lay x m n)).toArray 3 (0, 0)))
    (hr : (nums .i64 (slices_Repeat_int_int.lay x m n)).take m ++ cs ++ (nums .i64 (slices_Repeat_int_int.lay x m n)).drop (m + q) = nums .i64 (slices_Repeat_int_int.lay x (m + q) n)) (hq : q = cs.length)
    (hw : w1 = W.drew.setRow g ((nums .i64 (slices_Repeat_int_int.lay x m n)).toArray.toList.take m ++ cs ++ (nums .i64 (slices_Repeat_int_int.lay x m n)).toArray.toList.drop (m + cs.length)).toArray) :
    w1.heap[g]? = some (.cells (nums .i64 (slices_Repeat_int_int.lay x (m + q) n)).toArray 3 (0, 0)) := by
  rw [hw, setRow_heap W.drew g _ _ 3 (0, 0) hg, ← hr, hq]
theorem slices_Repeat_int_int.below {w W w1 : World} {g : Nat} {cs : Array Value} (hb : Below w.heap.size w W) (hg : w.heap.size ≤ g) (hw : w1 = W.drew.setRow g cs) : Below w.heap.size w w1 := by
  rw [hw]; exact below_setRow (below_drew hb) hg cs
theorem slices_Repeat_int_int.calls (A0 : Option Addr) (c0 : Nat) (l0 : List Int) (a1 : Int) (r : List Int) (w : World) (hr0 : Kd.C (Kd.int .i64) w A0 l0.length l0) (hc0 : l0.length ≤ c0) (h : slices_Repeat_int_int.f l0 a1 = some r) :
    Calls Tryz.prog 140 #[.slice A0 l0.length c0, .int .i64 a1] w fun e w' => ∃ v0_ : Value, e = .returned (v0_) ∧ Kd.R (Kd.int .i64) 3 w' w.heap.size (fun _ => True) v0_ r ∧ Below w.heap.size w w' := by
  obtain ⟨x, n, rfl, rfl, hle, rfl⟩ : ∃ (x : Int) (n : Nat), l0 = [x] ∧ a1 = (n : Int) ∧ n ≤ 64 ∧ r = List.replicate n x := by
    unfold slices_Repeat_int_int.f at h
    split at h
    · rename_i hc
      obtain ⟨h1, h2, h3⟩ := hc
      obtain ⟨x, rfl⟩ : ∃ x, l0 = [x] := by
        match l0, h1 with
        | [x], _ => exact ⟨x, rfl⟩
      exact ⟨x, a1.toNat, rfl, by omega, by omega, (Option.some.inj h).symm⟩
    · cases h
  clear h
  have hm := slices_Repeat_int_int.mul ⟨n, by omega⟩
  simp only at hm
  obtain ⟨ad, c, rfl, hcl, hK, hcell⟩ := Kd.C_get hr0 (0 : Int) 0 (by omega) (by simp)
  have hc1 : c = [.int .i64 x] := hK
  subst hc1
  have hcc : w.cell? ad = some (.int .i64 x) := by
    have e := hcell 0 _ rfl
    simpa [Addr.add] using e
  obtain ⟨i0, hi, hzz⟩ := Option.map_eq_some_iff.1 info3
  simp only [Prod.mk.injEq] at hzz
  obtain ⟨hz0, hz1, hz2⟩ := hzz
  have HI := Aside0.mk hi
  have HZ0 := Aside0.mk hz0
  have HZ1 := Aside0.mk hz1
  have HZ2 := Aside0.mk hz2
  have HM := Aside0.mk hm
  have HCC := Aside0.mk hcc
  have HLT := Aside0.mk (World.block_lt_of_cell? _ _ hcc)
  have HC0 := Aside0.mk hc0
  clear hi hz0 hz1 hz2 hm hcc hcell hK hcl hr0 hc0
  have hu0_ := Tryz.underlying31
  have hn0 : (0 : Int) ≤ (n : Int) := by omega
  have hn1 : (n : Int) ≤ 64 := by omega
  go_enter Tryz.func140, Tryz.ntmps140
  go_wp2_with (first
    | (go_at_call 159; refine (bits_Mul.calls 1 (n : Int) 0 (n : Int) _ HM.out).mono ?_; rintro e w' ⟨rfl, ⟨nd, rfl⟩⟩)
    | ((with_reducible refine gate_dst (N := 30) rfl ?_); go_must (refine wpList_make_full _ rfl (.tmp 29) (.tmp 29) 31 rfl w.heap.size 3 i0 (.int .i64 0) 1 Tryz.underlying31 HI.out HZ0.out HZ1.out .i64 .i64 n n n rfl rfl rfl rfl ?b2 ?b3 ?b4 ?K
                                                                   case b2 => rw [HZ2.out]; omega
                                                                   case b3 => unfold maxLen; omega
                                                                   case b4 => simp
                                                                   intro w2 hown hgr
                                                                   obtain ⟨g, hg⟩ : ∃ g, g = (w.drewN nd).heap.size := ⟨_, rfl⟩
                                                                   rw [← hg] at hown ⊢
                                                                   have HGE := Aside0.mk (show w.heap.size ≤ g by rw [hg]; exact Nat.le_refl _)
                                                                   have HB := Aside0.mk (pw_below_grown (pw_below_drewN (Below.refl w.heap.size w) nd) none (Nat.le_refl _) hgr (by simp))
                                                                   have HG := Aside0.mk (slices_Repeat_int_int.cells (x := x) hown)
                                                                   have HCW := Aside0.mk ((HB.out.cell (p := ad) HLT.out).trans HCC.out)
                                                                   clear hg hown hgr))
    | ((with_reducible refine gate_dst (N := 33) rfl ?_); go_must (refine wpList_copy_splice rfl (.tmp 31) (.tmp 32) 31 31 rfl 3 Tryz.underlying31 ?hsz (some ⟨g, 0, none⟩) (some ad) n n 1 c0 ?e1 ?e2 g 0 (nums .i64 (slices_Repeat_int_int.lay x 0 n)) 3 HG.out ((nums .i64 [x]).take (min 1 n)) ?hn ?hpos ?hfit ?h1 w.heap.size w HB.out HGE.out ?_
                                                                   case hsz => exact slices_Repeat_int_int.size HI.out HZ1.out
                                                                   case e1 => rfl
                                                                   case e2 => rfl
                                                                   case hn => exact slices_Repeat_int_int.len0 x n
                                                                   case hpos => intro _; refine ⟨rfl, ad, rfl, ?_⟩; intro j v hj; exact slices_Repeat_int_int.src (HCW.out) hj
                                                                   case hfit => exact slices_Repeat_int_int.fit x n
                                                                   case h1 => exact slices_Repeat_int_int.one x n
                                                                   intro w3 hg3 hb3
                                                                   have HG3 := Aside0.mk (show w3.heap[g]? = some (.cells (nums .i64 (slices_Repeat_int_int.lay x (min 1 n) n)).toArray 3 (0, 0)) by rw [← slices_Repeat_int_int.first]; exact hg3.out)
                                                                   have HB3 := Aside0.mk hb3
                                                                   clear hg3 hb3 HG HB HCW
                                                                   rw [show (goInt ((nums .i64 [x]).take (min 1 n)).length) = .int .i64 ((min 1 n : Nat) : Int) from slices_Repeat_int_int.len x n]))
    | fail)
  go_loopw [8] (fun v8 w' => ∃ m : Nat, v8 = .int .i64 (m : Int) ∧ Aside0 (m ≤ n ∧ (1 ≤ m ∨ n = 0)) ∧ Aside0 (w'.heap[g]? = some (.cells (nums .i64 (slices_Repeat_int_int.lay x m n)).toArray 3 (0, 0))) ∧ Aside0 (Below w.heap.size w w')) (fun v8 _ => n - (intOf v8).toNat)
  case atStart => exact ⟨min 1 n, rfl, ⟨by omega⟩, HG3, HB3⟩
  case round =>
    obtain ⟨m, rfl, HMN, HGm, HBm⟩ := hrel
    by_cases hlt : m < n
    · have h1m : 1 ≤ m := by have := HMN.out; omega
      have hmi : (m : Int) < (n : Int) := by omega
      have hmi2 : (m : Int) ≤ (n : Int) := by omega
      have hnm : ¬ n = m := by omega
      obtain ⟨cs, hcs⟩ : ∃ cs, cs = (nums .i64 (slices_Repeat_int_int.lay x m n)).take (min m (n - m)) := ⟨_, rfl⟩
      have L1 := slices_Repeat_int_int.len2 x m n (by omega)
      have L2 : ∀ j v, cs[j]? = some v → wr.cell? ((⟨g, 0, none⟩ : Addr).add j) = some v := fun j v hj => slices_Repeat_int_int.src2 (by omega) HGm.out (by rw [← hcs]; exact hj)
      have L3 := slices_Repeat_int_int.fit2 x m n (by omega)
      have L4 := slices_Repeat_int_int.one2 x m n (min m (n - m))
      have L5 := slices_Repeat_int_int.row x m n h1m (by omega)
      rw [← hcs] at L1 L3 L4
      have hml : (nums .i64 (slices_Repeat_int_int.lay x m n)).take (min m (n - m)) = cs := hcs.symm
      rw [hml] at L5
      obtain ⟨q, hq⟩ : ∃ q, q = cs.length := ⟨_, rfl⟩
      have hq1 : 1 ≤ q := by rw [hq, L1]; have : Nat.min m (n - m) = min m (n - m) := rfl; omega
      have hq2 : m + q ≤ n := by rw [hq, L1]; have : Nat.min m (n - m) = min m (n - m) := rfl; omega
      have hq3 : min m (n - m) = q := by rw [hq, L1]
      rw [hq3] at L5
      have H1 := Aside0.mk L1
      have H2 := Aside0.mk L2
      have H3 := Aside0.mk L3
      have H4 := Aside0.mk L4
      have H5 := Aside0.mk L5
      have HQ := Aside0.mk hq
      clear hcs hml L1 L2 L3 L4 L5 hq hq3
      go_wp2_with fail
      go_region_law (refine step_copy_own rfl (.tmp 41) (.tmp 44) 31 31 rfl 3 Tryz.underlying31 (slices_Repeat_int_int.size HI.out HZ1.out) g m (n - m) (n - m) ⟨g, 0, none⟩ m n (by simp [Act.eval, Act.put, hnm]) (by simp [Act.eval, Act.put]) _ 3 HGm.out cs H1.out H2.out H3.out H4.out ?_; intro w1 hw1; (have HG1 := Aside0.mk (slices_Repeat_int_int.next HGm.out H5.out HQ.out hw1)); (have HB1 := Aside0.mk (slices_Repeat_int_int.below HBm.out HGE.out hw1)); clear hw1; rw [show goInt cs.length = .int .i64 (q : Int) by rw [HQ.out]; rfl])
      go_simp
      rw [slices_Repeat_int_int.wrapq m q (by omega)]
      go_roundw

      case rel => exact ⟨_, _, _, _, _, _, _, _, _, _, _, _, _, _, ⟨m + q, rfl, ⟨by omega⟩, HG1, HB1⟩, rfl⟩
      case measure => simp [intOf]; omega
    · have hmn : m = n := by have := HMN.out; omega
      subst hmn
      go_wp2
      go_ret
      exact ⟨_, rfl, slices_Repeat_int_int.done hle HGm.out HGE.out, HBm.out⟩
/-! ### impl_Meander_way: function 141 -/
def impl_Meander_way.l0 : Nat → Int → List Int → Int → List Int → List Int → Option (List Int)
 | 0, _, _, _, _, _ => none
 | k + 1, x1, x5, x6, x377000, x377001 => if 0 ≤ x6 then (if x6 < (x377000.length : Int) then ((some (([x6, rd x377000 x6] : List Int) : List Int)).bind fun y381 => (if x5.length + y381.length < 17592186044416 then ((some (x5 ++ y381 : List Int)).bind fun y384 => (if 0 ≤ (rd x377000 x6) then (if (rd x377000 x6) < (x377001.length : Int) then (if (rd x377001 (rd x377000 x6)) = x1 then (some y384) else (impl_Meander_way.l0 k x1 y384 (rd x377001 (rd x377000 x6)) x377000 x377001)) else (none)) else (none))) else (none))) else (none)) else (none)
def impl_Meander_way.f (k : Nat) (l0_0 : List Int) (l0_1 : List Int) (a1 : Int) : Option (List Int) := impl_Meander_way.l0 k a1 (([] : List Int)) a1 l0_0 l0_1
theorem impl_Meander_way.mono_l : ∀ k, (∀ y0 y1 y2 y3 y4, LeO (impl_Meander_way.l0 k y0 y1 y2 y3 y4) (impl_Meander_way.l0 (k + 1) y0 y1 y2 y3 y4))
 | 0 => fun _ _ _ _ _ r h => by simp [impl_Meander_way.l0] at h
 | k + 1 => by
  have ih0 := impl_Meander_way.mono_l k
  ·intro y0 y1 y2 y3 y4
   unfold impl_Meander_way.l0
   repeat' first
   | (with_reducible exact ih0 _ _ _ _ _)
   | (with_reducible exact LeO.refl _)
   | (with_reducible exact LeO.none _)
   | (with_reducible refine LeO.ite ?_ ?_)
   | (with_reducible refine LeO.bind ?_ (fun _ => ?_))
   | exact ih0 _ _ _ _ _
   | exact LeO.none _
   | refine LeO.ite ?_ ?_
   | refine LeO.bind ?_ (fun _ => ?_)
theorem impl_Meander_way.mono : ∀ a0 a1 a2 k, LeO (impl_Meander_way.f k a0 a1 a2) (impl_Meander_way.f (k + 1) a0 a1 a2) := by
 intro a0 a1 a2 k; have ih0 := impl_Meander_way.mono_l k; unfold impl_Meander_way.f
 repeat' first
   | (with_reducible exact ih0 _ _ _ _ _)
   | (with_reducible exact LeO.refl _)
   | (with_reducible exact LeO.none _)
   | (with_reducible refine LeO.ite ?_ ?_)
   | (with_reducible refine LeO.bind ?_ (fun _ => ?_))
   | exact ih0 _ _ _ _ _
   | exact LeO.none _
   | refine LeO.ite ?_ ?_
   | refine LeO.bind ?_ (fun _ => ?_)
theorem impl_Meander_way.calls (k : Nat) (A0_0 : Option Addr) (c0_0 : Nat) (l0_0 : List Int) (A0_1 : Option Addr) (c0_1 : Nat) (l0_1 : List Int) (a1 : Int) (r : List Int) (w : World) (hr0_0 : Kd.C (Kd.int .i64) w A0_0 l0_0.length l0_0) (hc0_0 : l0_0.length ≤ c0_0) (hr0_1 : Kd.C (Kd.int .i64) w A0_1 l0_1.length l0_1) (hc0_1 : l0_1.length ≤ c0_1) (h : impl_Meander_way.f k l0_0 l0_1 a1 = some r) :
  Calls Tryz.prog 141 #[.agg #[.slice A0_0 l0_0.length c0_0, .slice A0_1 l0_1.length c0_1], .int .i64 a1] w fun e w' => ∃ v0_ : Value, e = .returned (v0_) ∧ Kd.R (Kd.int .i64) 3 w' w.heap.size (fun _ => True) v0_ r ∧ Below w.heap.size w w' := by
 have hu45 := Tryz.underlying45; have HR0_0 := Aside0.mk hr0_0; have HC0_0 := Aside0.mk hc0_0; clear hr0_0 hc0_0; have HR0_1 := Aside0.mk hr0_1; have HC0_1 := Aside0.mk hc0_1; clear hr0_1 hc0_1; have HB := Aside0.mk (Below.refl w.heap.size w); have H : (impl_Meander_way.l0 k a1 (([] : List Int)) a1 l0_0 l0_1) = some r := h; clear h; obtain ⟨y377, hy377⟩ := yy (([] : List Int))
 (try rw [Option.bind_some] at H); (try dsimp only at H); rw [← hy377] at H
 have Ny377 := Aside0.mk hy377; clear hy377; have H' := Aside0.mk H; clear H; go_enter Tryz.func141, Tryz.ntmps141; go_wp2_with (first | ((with_reducible refine gate_dst (N := 2) rfl ?_); refine box_event ?hg (N := 2) ?hd (cs := #[.slice A0_0 l0_0.length c0_0, .slice A0_1 l0_1.length c0_1]) (t := 45) ?hr ?_; (case hd => rfl); (case hg => rfl); (case hr => first | (go_simp; done) | (go_simp; rfl)); intro gb376 hg w3 hbox hb; have BK376 := Aside0.mk (hbox); have GW376 := Aside0.mk ((by rw [hg]; exact (below_size (bl HB.out)) : w.heap.size ≤ gb376)); have GE376 := Aside0.mk ((by rw [hg]; exact (below_size (bl HB.out)) : w.heap.size ≤ gb376)); replace HB := bst HB hb; clear hb hbox hg) | ((with_reducible refine gate_dst (N := 8) rfl ?_); refine Kd.R_lit (Kd.int .i64) _ 3 ?hg (N := 8) ?hd (xs := ([] : List Int)) (inner := []) (ok := fun _ => True) (okp := fun _ => True) ?hr ?hp (fun _ hk => hk) trivial (Below.refl _ _) (Nat.le_refl _) (by simp) ?_; (case hd => rfl); (case hg => rfl); (case hr => first | (go_simp; done) | (go_simp; rfl)); (case hp => exact (Reps.none _ _)); intro v378 w4 ho5 hb hg_ hnew_; clear hg_ hnew_; (first | rw [← Ny377.out] at ho5 | (simp only [Int.reduceToNat] at ho5; rw [← Ny377.out] at ho5)); have HO379 := Aside0.mk (Kd.R_lower ho5 (below_size (bs1 HB.out GE376.out))); replace BK376 := bkb BK376 hb; replace HB := Aside0.mk (below_step (bs1 HB.out GE376.out) hb); clear hb ho5))
 go_loopg [5, 6] k (fun kq v5 v6 w' => ∃ (x5_1 : List Int) (x6_1 : Int), v6 = .int .i64 x6_1 ∧ Aside0 (impl_Meander_way.l0 kq a1 x5_1 x6_1 l0_0 l0_1 = some r) ∧ Aside0 (kq ≤ k) ∧ Aside0 (Kd.R (Kd.int .i64) 3 w' w.heap.size (fun _ => True) v5 x5_1) ∧ Aside0 (w'.heap[gb376]? = some (.cells #[(.slice A0_0 l0_0.length c0_0), (.slice A0_1 l0_1.length c0_1)] 45 (0, 0))) ∧ Aside0 (Below w.heap.size w w'))
 case atStart => exact ⟨(y377), (a1), (sr2), H', ⟨Nat.le_refl _⟩, ⟨rR HO379.out⟩, ⟨by (with_reducible repeat (first | refine blk_drewN ?_ _ | refine blk_drew ?_ | refine blk_alloc ?_ _)); exact BK376.out⟩, ⟨bs1 HB.out GE376.out⟩⟩
 case round =>
  clear H'; obtain ⟨x5_1, x6_1, rfl, HA, HK1, HO_5, BK376, HB⟩ := hrel
  cases gk with
  | zero => exact absurd HA.out (by simp [impl_Meander_way.l0])
  | succ k1 =>
   have H := HA.out; clear HA; simp only [impl_Meander_way.l0] at H
   by_cases c6 : 0 ≤ x6_1
   ·rw [if_pos c6] at H; have c6b0 := decide_eq_true c6; clear c6
    by_cases c7 : x6_1 < (l0_0.length : Int)
    ·rw [if_pos c7] at H; have c7b0 := decide_eq_true c7; clear c7; obtain ⟨y381, hy381⟩ := yy (([x6_1, rd l0_0 x6_1] : List Int))
     (try rw [Option.bind_some] at H); (try dsimp only at H); rw [← hy381] at H
     have Ny381 := Aside0.mk hy381; clear hy381
     by_cases c8 : x5_1.length + y381.length < 17592186044416
     ·rw [if_pos c8] at H; have LMc8 := Aside0.mk c8; clear c8; obtain ⟨y384, hy384⟩ := yy (x5_1 ++ y381)
      (try rw [Option.bind_some] at H); (try dsimp only at H); rw [← hy384] at H
      have Ny384 := Aside0.mk hy384; clear hy384
      by_cases c9 : 0 ≤ (rd l0_0 x6_1)
      ·rw [if_pos c9] at H; have c9b0 := decide_eq_true c9; clear c9
       by_cases c10 : (rd l0_0 x6_1) < (l0_1.length : Int)
       ·rw [if_pos c10] at H; have c10b0 := decide_eq_true c10; clear c10
        by_cases c11 : (rd l0_1 (rd l0_0 x6_1)) = a1
        ·rw [if_pos c11] at H; have c11b0 := beq_iff_eq.mpr c11; have c11b1 := bne_eq_false_iff_eq.mpr c11; clear c11; obtain rfl := Option.some.inj H; have hcz12_0 : wr.cell? ⟨gb376, 0, none⟩ = some (.slice A0_0 l0_0.length c0_0) := (blk_cell BK376.out 0).trans rfl; have hcz12_1 : wr.cell? ⟨gb376, 1, none⟩ = some (.slice A0_1 l0_1.length c0_1) := (blk_cell BK376.out 1).trans rfl; have hfz12_0 := blk_frozen BK376.out 0; have hfz12_1 := blk_frozen BK376.out 1; obtain ⟨ad380, e380, hx380_0, p380, q380⟩ := atI HR0_0.out x6_1; cases e380; replace hx380_0 := hbx HB hx380_0; go_wp2_with (first | ((with_reducible refine gate_dst (N := 18) rfl ?_); refine Kd.R_lit (Kd.int .i64) _ 3 ?hg (N := 18) ?hd (xs := ([x6_1, rd l0_0 x6_1] : List Int)) (inner := [.int .i64 x6_1, .int .i64 (rd l0_0 x6_1)]) (ok := fun _ => True) (okp := fun _ => True) ?hr ?hp (fun _ hk => hk) trivial (Below.refl _ _) (Nat.le_refl _) (by simp) ?_; (case hd => rfl); (case hg => rfl); (case hr => first | (go_simp; done) | (go_simp; rfl)); (case hp => exact (Reps.one (show Kd.M (Kd.int .i64) _ _ _ x6_1 [.int .i64 x6_1] from rfl) (Reps.one (show Kd.M (Kd.int .i64) _ _ _ (rd l0_0 x6_1) [.int .i64 (rd l0_0 x6_1)] from rfl) (Reps.none _ _)))); intro v382 w13 ho14 hb hg_ hnew_; clear hg_ hnew_; (first | rw [← Ny381.out] at ho14 | (simp only [Int.reduceToNat] at ho14; rw [← Ny381.out] at ho14)); have HO383 := Aside0.mk (Kd.R_lower (Kd.R_new' ho14 (Kd.R_lt (rR HO_5.out))) (below_size (bs1 HB.out GE376.out))); replace HO_5 := Aside0.mk (Kd.R_elder' (rR HO_5.out) (Kd.R_base ho14) hb); replace BK376 := bkb BK376 hb; replace HB := Aside0.mk (below_step (bs1 HB.out GE376.out) hb); clear hb ho14; obtain ⟨Ao16, co16, eo16⟩ := Kd.R_slice HO383.out; subst eo16) | ((with_reducible refine gate_builtin (b := .append) (xs := #[.tmp 15, .tmp 18]) rfl ?_); at_builtin; refine Kd.R_append_rows (Kd.int .i64) (w0 := w) w.heap.size rfl (.tmp 15) (.tmp 18) 31 3 (.int .i64 0) 8 rfl Tryz.underlying31 info3 rfl (by decide) (by omega) u5 x5_1 y381 _ _ _ (fun k_ => some k_ ≠ (.slice Ao16 y381.length co16 : Value).ownBlock) (fun _ => False) rfl rfl ?aO ?aR (fun _ _ h => h) (fun _ h => h.elim) ?aF ?aB ?aS (by have := LMc8.out; omega) ?_; (case aR => exact cw ((Kd.R_reads' HO383.out).2.2)); (case aB => exact (bs1 HB.out GE376.out)); (case aF => exact (fun k_ hk => Kd.fresh' (Kd.R_lt (rR HO383.out)) k_ hk)); (case aO => exact (rR (Kd.R_mono HO_5.out (fun _ hk => hk.2)))); (case aS => exact (below_size (bs1 HB.out GE376.out))); intro v385 w15 ho hb hg hat; rw [← Ny384.out] at ho; replace BK376 := Aside0.mk (blk_grown (bk BK376.out) hg (Kd.R_ne HO_5.out BK376.out (by decide))); replace HO383 := Aside0.mk (Kd.R_after (ok := (fun _ => True)) (rR HO383.out) hg hat); replace HB := Aside0.mk (hb); have HO386 := Aside0.mk (ho); clear HO_5; clear ho hb hg hat; have hcz17_0 : w15.cell? ⟨gb376, 0, none⟩ = some (.slice (some ad380) l0_0.length c0_0) := (blk_cell BK376.out 0).trans rfl; have hcz17_1 : w15.cell? ⟨gb376, 1, none⟩ = some (.slice A0_1 l0_1.length c0_1) := (blk_cell BK376.out 1).trans rfl; have hfz17_0 := blk_frozen BK376.out 0; have hfz17_1 := blk_frozen BK376.out 1; have p387 : 0 ≤ ((rd l0_0 x6_1) : Int) := od; have q387 : (rd l0_0 x6_1) < (l0_1.length : Int) := od; obtain ⟨ad387, e387, hx387_0⟩ := Kd.at_int HR0_1.out (rd l0_0 x6_1) p387 q387; cases e387; replace hx387_0 := hbx HB hx387_0; replace p387 := eq_true p387; replace q387 := eq_true q387)); go_ret; exact ⟨_, sr, rR (Kd.R_mono HO386.out (fun _ hk => trivial)), bs1 HB.out GE376.out⟩
        rw [if_neg c11] at H; have c11b0 := beq_eq_false_iff_ne.mpr c11; have c11b1 := bne_iff_ne.mpr c11; have H' := Aside0.mk H; clear H; have hcz18_0 : wr.cell? ⟨gb376, 0, none⟩ = some (.slice A0_0 l0_0.length c0_0) := (blk_cell BK376.out 0).trans rfl; have hcz18_1 : wr.cell? ⟨gb376, 1, none⟩ = some (.slice A0_1 l0_1.length c0_1) := (blk_cell BK376.out 1).trans rfl; have hfz18_0 := blk_frozen BK376.out 0; have hfz18_1 := blk_frozen BK376.out 1; obtain ⟨ad380, e380, hx380_0, p380, q380⟩ := atI HR0_0.out x6_1; cases e380; replace hx380_0 := hbx HB hx380_0; go_wp2_with (first | ((with_reducible refine gate_dst (N := 18) rfl ?_); refine Kd.R_lit (Kd.int .i64) _ 3 ?hg (N := 18) ?hd (xs := ([x6_1, rd l0_0 x6_1] : List Int)) (inner := [.int .i64 x6_1, .int .i64 (rd l0_0 x6_1)]) (ok := fun _ => True) (okp := fun _ => True) ?hr ?hp (fun _ hk => hk) trivial (Below.refl _ _) (Nat.le_refl _) (by simp) ?_; (case hd => rfl); (case hg => rfl); (case hr => first | (go_simp; done) | (go_simp; rfl)); (case hp => exact (Reps.one (show Kd.M (Kd.int .i64) _ _ _ x6_1 [.int .i64 x6_1] from rfl) (Reps.one (show Kd.M (Kd.int .i64) _ _ _ (rd l0_0 x6_1) [.int .i64 (rd l0_0 x6_1)] from rfl) (Reps.none _ _)))); intro v382 w19 ho20 hb hg_ hnew_; clear hg_ hnew_; (first | rw [← Ny381.out] at ho20 | (simp only [Int.reduceToNat] at ho20; rw [← Ny381.out] at ho20)); have HO383 := Aside0.mk (Kd.R_lower (Kd.R_new' ho20 (Kd.R_lt (rR HO_5.out))) (below_size (bs1 HB.out GE376.out))); replace HO_5 := Aside0.mk (Kd.R_elder' (rR HO_5.out) (Kd.R_base ho20) hb); replace BK376 := bkb BK376 hb; replace HB := Aside0.mk (below_step (bs1 HB.out GE376.out) hb); clear hb ho20; obtain ⟨Ao22, co22, eo22⟩ := Kd.R_slice HO383.out; subst eo22) | ((with_reducible refine gate_builtin (b := .append) (xs := #[.tmp 15, .tmp 18]) rfl ?_); at_builtin; refine Kd.R_append_rows (Kd.int .i64) (w0 := w) w.heap.size rfl (.tmp 15) (.tmp 18) 31 3 (.int .i64 0) 8 rfl Tryz.underlying31 info3 rfl (by decide) (by omega) u5 x5_1 y381 _ _ _ (fun k_ => some k_ ≠ (.slice Ao22 y381.length co22 : Value).ownBlock) (fun _ => False) rfl rfl ?aO ?aR (fun _ _ h => h) (fun _ h => h.elim) ?aF ?aB ?aS (by have := LMc8.out; omega) ?_; (case aR => exact cw ((Kd.R_reads' HO383.out).2.2)); (case aB => exact (bs1 HB.out GE376.out)); (case aF => exact (fun k_ hk => Kd.fresh' (Kd.R_lt (rR HO383.out)) k_ hk)); (case aO => exact (rR (Kd.R_mono HO_5.out (fun _ hk => hk.2)))); (case aS => exact (below_size (bs1 HB.out GE376.out))); intro v385 w21 ho hb hg hat; rw [← Ny384.out] at ho; replace BK376 := Aside0.mk (blk_grown (bk BK376.out) hg (Kd.R_ne HO_5.out BK376.out (by decide))); replace HO383 := Aside0.mk (Kd.R_after (ok := (fun _ => True)) (rR HO383.out) hg hat); replace HB := Aside0.mk (hb); have HO386 := Aside0.mk (ho); clear HO_5; clear ho hb hg hat; have hcz23_0 : w21.cell? ⟨gb376, 0, none⟩ = some (.slice (some ad380) l0_0.length c0_0) := (blk_cell BK376.out 0).trans rfl; have hcz23_1 : w21.cell? ⟨gb376, 1, none⟩ = some (.slice A0_1 l0_1.length c0_1) := (blk_cell BK376.out 1).trans rfl; have hfz23_0 := blk_frozen BK376.out 0; have hfz23_1 := blk_frozen BK376.out 1; have p387 : 0 ≤ ((rd l0_0 x6_1) : Int) := od; have q387 : (rd l0_0 x6_1) < (l0_1.length : Int) := od; obtain ⟨ad387, e387, hx387_0⟩ := Kd.at_int HR0_1.out (rd l0_0 x6_1) p387 q387; cases e387; replace hx387_0 := hbx HB hx387_0; replace p387 := eq_true p387; replace q387 := eq_true q387))
        go_roundg k1
        case measure => have := HK1.out; omega
        case rel => exact ⟨(y384), (rd l0_1 (rd l0_0 x6_1)), (sr2), H', ⟨by have := HK1.out; omega⟩, ⟨rR (Kd.R_mono HO386.out (fun _ hk => trivial))⟩, ⟨by (with_reducible repeat (first | refine blk_drewN ?_ _ | refine blk_drew ?_ | refine blk_alloc ?_ _)); exact BK376.out⟩, ⟨bs1 HB.out GE376.out⟩⟩
       rw [if_neg c10] at H; exact absurd H (by simp)
      rw [if_neg c9] at H; exact absurd H (by simp)
     rw [if_neg c8] at H; exact absurd H (by simp)
    rw [if_neg c7] at H; exact absurd H (by simp)
   rw [if_neg c6] at H; exact absurd H (by simp)
/-! ### impl_Meander_curves: function 120 -/
mutual
def impl_Meander_curves.l0 : Nat → List Int → Int → Int → Int → List Int → List Int → Option (List Int × Int)
 | 0, _, _, _, _, _, _ => none
 | k + 1, x4, x5, x15, x16, x389000, x389001 => if x16 < x15 then (if 0 ≤ x16 then (if x16 < (x4.length : Int) then (if (rd x4 x16) ≥ 0 then (impl_Meander_curves.l0 k x4 x5 x15 (wrap64 (x16 + 1)) x389000 x389001) else ((impl_Meander_way.f k x389000 x389001 x16).bind fun t396 => (impl_Meander_curves.l1 k x4 x5 x15 x16 t396 (t396.length : Int) 0 x389000 x389001))) else (none)) else (none)) else (some (x4, x5))
def impl_Meander_curves.l1 : Nat → List Int → Int → Int → Int → List Int → Int → Int → List Int → List Int → Option (List Int × Int)
 | 0, _, _, _, _, _, _, _, _, _ => none
 | k + 1, x4, x5, x15, x16, x26, x27, x28, x389000, x389001 => if x28 < x27 then (if 0 ≤ x28 then (if x28 < (x26.length : Int) then (if 0 ≤ (rd x26 x28) then (if (rd x26 x28) < (x4.length : Int) then (impl_Meander_curves.l1 k (x4.set ((rd x26 x28) : Int).toNat x5) x5 x15 x16 x26 x27 (wrap64 (x28 + 1)) x389000 x389001) else (none)) else (none)) else (none)) else (none)) else (impl_Meander_curves.l0 k x4 (wrap64 (x5 + 1)) x15 (wrap64 (x16 + 1)) x389000 x389001)
end
def impl_Meander_curves.f (k : Nat) (l0_0 : List Int) (l0_1 : List Int) : Option (List Int × Int) := (slices_Repeat_int_int.f (([(-1)] : List Int)) (l0_0.length : Int)).bind fun t392 => (impl_Meander_curves.l0 k t392 0 (t392.length : Int) 0 l0_0 l0_1)
theorem impl_Meander_curves.mono_l : ∀ k, (∀ y0 y1 y2 y3 y4 y5, LeO (impl_Meander_curves.l0 k y0 y1 y2 y3 y4 y5) (impl_Meander_curves.l0 (k + 1) y0 y1 y2 y3 y4 y5)) ∧ (∀ y0 y1 y2 y3 y4 y5 y6 y7 y8, LeO (impl_Meander_curves.l1 k y0 y1 y2 y3 y4 y5 y6 y7 y8) (impl_Meander_curves.l1 (k + 1) y0 y1 y2 y3 y4 y5 y6 y7 y8))
 | 0 => ⟨fun _ _ _ _ _ _ r h => by simp [impl_Meander_curves.l0] at h, fun _ _ _ _ _ _ _ _ _ r h => by simp [impl_Meander_curves.l1] at h⟩
 | k + 1 => by
  obtain ⟨ih0, ih1⟩ := impl_Meander_curves.mono_l k
  refine ⟨?_, ?_⟩
  ·intro y0 y1 y2 y3 y4 y5
   unfold impl_Meander_curves.l0
   repeat' first
   | (with_reducible exact ih0 _ _ _ _ _ _)
   | (with_reducible exact ih1 _ _ _ _ _ _ _ _ _)
   | (with_reducible exact impl_Meander_way.mono _ _ _ _)
   | (with_reducible exact LeO.refl _)
   | (with_reducible exact LeO.none _)
   | (with_reducible refine LeO.ite ?_ ?_)
   | (with_reducible refine LeO.bind ?_ (fun _ => ?_))
   | exact ih0 _ _ _ _ _ _
   | exact ih1 _ _ _ _ _ _ _ _ _
   | exact impl_Meander_way.mono _ _ _ _
   | exact LeO.none _
   | refine LeO.ite ?_ ?_
   | refine LeO.bind ?_ (fun _ => ?_)
  ·intro y0 y1 y2 y3 y4 y5 y6 y7 y8
   unfold impl_Meander_curves.l1
   repeat' first
   | (with_reducible exact ih0 _ _ _ _ _ _)
   | (with_reducible exact ih1 _ _ _ _ _ _ _ _ _)
   | (with_reducible exact impl_Meander_way.mono _ _ _ _)
   | (with_reducible exact LeO.refl _)
   | (with_reducible exact LeO.none _)
   | (with_reducible refine LeO.ite ?_ ?_)
   | (with_reducible refine LeO.bind ?_ (fun _ => ?_))
   | exact ih0 _ _ _ _ _ _
   | exact ih1 _ _ _ _ _ _ _ _ _
   | exact impl_Meander_way.mono _ _ _ _
   | exact LeO.none _
   | refine LeO.ite ?_ ?_
   | refine LeO.bind ?_ (fun _ => ?_)
theorem impl_Meander_curves.mono : ∀ a0 a1 k, LeO (impl_Meander_curves.f k a0 a1) (impl_Meander_curves.f (k + 1) a0 a1) := by
 intro a0 a1 k; obtain ⟨ih0, ih1⟩ := impl_Meander_curves.mono_l k; unfold impl_Meander_curves.f
 repeat' first
   | (with_reducible exact ih0 _ _ _ _ _ _)
   | (with_reducible exact ih1 _ _ _ _ _ _ _ _ _)
   | (with_reducible exact impl_Meander_way.mono _ _ _ _)
   | (with_reducible exact LeO.refl _)
   | (with_reducible exact LeO.none _)
   | (with_reducible refine LeO.ite ?_ ?_)
   | (with_reducible refine LeO.bind ?_ (fun _ => ?_))
   | exact ih0 _ _ _ _ _ _
   | exact ih1 _ _ _ _ _ _ _ _ _
   | exact impl_Meander_way.mono _ _ _ _
   | exact LeO.none _
   | refine LeO.ite ?_ ?_
   | refine LeO.bind ?_ (fun _ => ?_)
theorem impl_Meander_curves.calls (k : Nat) (A0_0 : Option Addr) (c0_0 : Nat) (l0_0 : List Int) (A0_1 : Option Addr) (c0_1 : Nat) (l0_1 : List Int) (r1 : List Int) (r2 : Int) (w : World) (hr0_0 : Kd.C (Kd.int .i64) w A0_0 l0_0.length l0_0) (hc0_0 : l0_0.length ≤ c0_0) (hr0_1 : Kd.C (Kd.int .i64) w A0_1 l0_1.length l0_1) (hc0_1 : l0_1.length ≤ c0_1) (h : impl_Meander_curves.f k l0_0 l0_1 = some (r1, r2)) :
  Calls Tryz.prog 120 #[.agg #[.slice A0_0 l0_0.length c0_0, .slice A0_1 l0_1.length c0_1]] w fun e w' => ∃ v0_ : Value, e = .returned (.tuple #[v0_, .int .i64 r2]) ∧ Kd.R (Kd.int .i64) 3 w' w.heap.size (fun _ => True) v0_ r1 ∧ Below w.heap.size w w' := by
 have hu45 := Tryz.underlying45; have HR0_0 := Aside0.mk hr0_0; have HC0_0 := Aside0.mk hc0_0; clear hr0_0 hc0_0; have HR0_1 := Aside0.mk hr0_1; have HC0_1 := Aside0.mk hc0_1; clear hr0_1 hc0_1; have HB := Aside0.mk (Below.refl w.heap.size w); have H : ((slices_Repeat_int_int.f (([(-1)] : List Int)) (l0_0.length : Int)).bind fun t392 => (impl_Meander_curves.l0 k t392 0 (t392.length : Int) 0 l0_0 l0_1)) = some (r1, r2) := h; clear h; obtain ⟨y389, hy389⟩ := yy (([(-1)] : List Int))
 (try rw [Option.bind_some] at H); (try dsimp only at H); rw [← hy389] at H
 have Ny389 := Aside0.mk hy389; clear hy389; obtain ⟨t392, A2, H⟩ := bi H; (try dsimp only at H); have H' := Aside0.mk H; clear H; go_enter Tryz.func120, Tryz.ntmps120; go_wp2_with (first | ((with_reducible refine gate_dst (N := 1) rfl ?_); refine box_event ?hg (N := 1) ?hd (cs := #[.slice A0_0 l0_0.length c0_0, .slice A0_1 l0_1.length c0_1]) (t := 45) ?hr ?_; (case hd => rfl); (case hg => rfl); (case hr => first | (go_simp; done) | (go_simp; rfl)); intro gb388 hg w3 hbox hb; have BK388 := Aside0.mk (hbox); have GW388 := Aside0.mk ((by rw [hg]; exact (below_size (bl HB.out)) : w.heap.size ≤ gb388)); have GE388 := Aside0.mk ((by rw [hg]; exact (below_size (bl HB.out)) : w.heap.size ≤ gb388)); replace HB := bst HB hb; clear hb hbox hg) | ((with_reducible refine gate_dst (N := 9) rfl ?_); refine Kd.R_lit (Kd.int .i64) _ 3 ?hg (N := 9) ?hd (xs := ([(-1)] : List Int)) (inner := [.int .i64 (-1)]) (ok := fun _ => True) (okp := fun _ => True) ?hr ?hp (fun _ hk => hk) trivial (Below.refl _ _) (Nat.le_refl _) (by simp) ?_; (case hd => rfl); (case hg => rfl); (case hr => first | (go_simp; done) | (go_simp; rfl)); (case hp => exact (Reps.one (show Kd.M (Kd.int .i64) _ _ _ (-1) [.int .i64 (-1)] from rfl) (Reps.none _ _))); intro v390 w4 ho5 hb hg_ hnew_; clear hg_ hnew_; (first | rw [← Ny389.out] at ho5 | (simp only [Int.reduceToNat] at ho5; rw [← Ny389.out] at ho5)); have HO391 := Aside0.mk (Kd.R_lower ho5 (below_size (bs1 HB.out GE388.out))); replace BK388 := bkb BK388 hb; replace HB := Aside0.mk (below_step (bs1 HB.out GE388.out) hb); clear hb ho5; have hcz6_0 : w4.cell? ⟨gb388, 0, none⟩ = some (.slice A0_0 l0_0.length c0_0) := (blk_cell BK388.out 0).trans rfl; have hcz6_1 : w4.cell? ⟨gb388, 1, none⟩ = some (.slice A0_1 l0_1.length c0_1) := (blk_cell BK388.out 1).trans rfl; have hfz6_0 := blk_frozen BK388.out 0; have hfz6_1 := blk_frozen BK388.out 1; obtain ⟨Ao7, co7, eo7⟩ := Kd.R_slice HO391.out; subst eo7) | (go_at_call 140; (with_reducible refine (slices_Repeat_int_int.calls _ _ y389 (l0_0.length : Int) t392 _ ?side1 ((Kd.R_reads' HO391.out).2.1) A2.out).mono ?_); (case side1 => exact cw ((Kd.R_reads' HO391.out).2.2)); rintro e w8 ⟨v393, rfl, ho0, hb⟩; have HO394 := Aside0.mk (Kd.R_lower (Kd.R_new' ho0 (Kd.R_lt (rR HO391.out))) (below_size (bs1 HB.out GE388.out))); replace HO391 := Aside0.mk (Kd.R_elder' (rR HO391.out) (Kd.R_base ho0) hb); replace BK388 := bkb BK388 hb; replace HB := Aside0.mk (below_step (bs1 HB.out GE388.out) hb); obtain ⟨Ao9, co9, eo9⟩ := Kd.R_slice HO394.out; subst eo9))
 go_loopg [5, 16] k (fun kq v5 v16 w' => ∃ (x4_1 : List Int) (x5_1 : Int) (x16_1 : Int), v5 = .int .i64 x5_1 ∧ v16 = .int .i64 x16_1 ∧ Aside0 (impl_Meander_curves.l0 kq x4_1 x5_1 (t392.length : Int) x16_1 l0_0 l0_1 = some (r1, r2)) ∧ Aside0 (kq ≤ k) ∧ Aside0 (Kd.R (Kd.int .i64) 3 w' w.heap.size (fun _ => True) (.slice Ao9 t392.length co9) x4_1) ∧ Aside0 (w'.heap[gb388]? = some (.cells #[(.slice A0_0 l0_0.length c0_0), (.slice A0_1 l0_1.length c0_1)] 45 (0, 0))) ∧ Aside0 (Below w.heap.size w w'))
 case atStart => exact ⟨(t392), (0), (0), (sr2), (sr2), H', ⟨Nat.le_refl _⟩, ⟨rR (Kd.R_mono HO394.out (fun _ hk => trivial))⟩, ⟨by (with_reducible repeat (first | refine blk_drewN ?_ _ | refine blk_drew ?_ | refine blk_alloc ?_ _)); exact BK388.out⟩, ⟨bs1 HB.out GE388.out⟩⟩
 case round =>
  clear H'; obtain ⟨x4_1, x5_1, x16_1, rfl, rfl, HA, HK1, HO_4, BK388, HB⟩ := hrel; have hl4_1 := (Kd.R_reads' HO_4.out).1; rw [hl4_1] at HO_4; (try simp only [hl4_1]); (try simp only [hl4_1] at BK388)
  cases gk with
  | zero => exact absurd HA.out (by simp [impl_Meander_curves.l0])
  | succ k1 =>
   have H := HA.out; clear HA; simp only [impl_Meander_curves.l0] at H
   by_cases c10 : x16_1 < (t392.length : Int)
   ·rw [if_pos c10] at H; have c10b0 := decide_eq_true c10; clear c10; (try simp only [hl4_1] at c10b0)
    by_cases c11 : 0 ≤ x16_1
    ·rw [if_pos c11] at H; have c11b0 := decide_eq_true c11; clear c11; (try simp only [hl4_1] at c11b0)
     by_cases c12 : x16_1 < (x4_1.length : Int)
     ·rw [if_pos c12] at H; have c12b0 := decide_eq_true c12; clear c12; (try simp only [hl4_1] at c12b0)
      by_cases c13 : (rd x4_1 x16_1) ≥ 0
      ·rw [if_pos c13] at H; have c13b0 := decide_eq_true c13; clear c13; (try simp only [hl4_1] at c13b0); have H' := Aside0.mk H; clear H; obtain ⟨ad395, e395, hx395_0, p395, q395⟩ := atI (Kd.R_reads' HO_4.out).2.2 x16_1; cases e395; go_wp2; (try simp only [← hl4_1])
       go_roundg k1
       case measure => have := HK1.out; omega
       case rel => exact ⟨(x4_1), (x5_1), (wrap64 (x16_1 + 1)), (sr2), (sr2), H', ⟨by have := HK1.out; omega⟩, ⟨by (try simp only [hl4_1]); (with_reducible repeat (first | apply Kd.R_alloc | apply Kd.R_drewN | apply Kd.R_drew)); exact HO_4.out⟩, ⟨by (try simp only [hl4_1]); (with_reducible repeat (first | refine blk_drewN ?_ _ | refine blk_drew ?_ | refine blk_alloc ?_ _)); exact BK388.out⟩, ⟨bs1 HB.out GE388.out⟩⟩
      rw [if_neg c13] at H; have c13b0 := decide_eq_false c13; clear c13; (try simp only [hl4_1] at c13b0); obtain ⟨t396, A14, H⟩ := bi H; (try dsimp only at H); have H' := Aside0.mk H; clear H; obtain ⟨ad395, e395, hx395_0, p395, q395⟩ := atI (Kd.R_reads' HO_4.out).2.2 x16_1; cases e395; have hcz15_0 : wr.cell? ⟨gb388, 0, none⟩ = some (.slice A0_0 l0_0.length c0_0) := (blk_cell BK388.out 0).trans rfl; have hcz15_1 : wr.cell? ⟨gb388, 1, none⟩ = some (.slice A0_1 l0_1.length c0_1) := (blk_cell BK388.out 1).trans rfl; have hfz15_0 := blk_frozen BK388.out 0; have hfz15_1 := blk_frozen BK388.out 1; go_wp2_with (first | (go_at_call 141; (with_reducible refine (impl_Meander_way.calls k1 _ _ l0_0 _ _ l0_1 x16_1 t396 _ ?side1 ?side2 ?side3 HC0_1.out A14.out).mono ?_); (case side1 => exact cw (Kd.C_below HR0_0.out HB.out)); (case side2 => exact HC0_0.out); (case side3 => exact cw (Kd.C_below HR0_1.out HB.out)); rintro e w16 ⟨v397, rfl, ho0, hb⟩; have HO398 := Aside0.mk (Kd.R_lower (Kd.R_new' ho0 (Kd.R_lt (rR HO_4.out))) (below_size (bs1 HB.out GE388.out))); replace HO_4 := Aside0.mk (Kd.R_elder' (rR HO_4.out) (Kd.R_base ho0) hb); replace BK388 := bkb BK388 hb; replace HB := Aside0.mk (below_step (bs1 HB.out GE388.out) hb); obtain ⟨Ao17, co17, eo17⟩ := Kd.R_slice HO398.out; subst eo17))
      go_loopg [28] k1 (fun kq v28 w' => ∃ (x4_2 : List Int) (x28_2 : Int), v28 = .int .i64 x28_2 ∧ Aside0 (impl_Meander_curves.l1 kq x4_2 x5_1 (t392.length : Int) x16_1 t396 (t396.length : Int) x28_2 l0_0 l0_1 = some (r1, r2)) ∧ Aside0 (kq ≤ k1) ∧ Aside0 (Kd.R (Kd.int .i64) 3 w' w.heap.size (fun k_ => some k_ ≠ ((.slice Ao17 t396.length co17) : Value).ownBlock) (.slice (some ad395) x4_1.length co9) x4_2) ∧ Aside0 (Kd.R (Kd.int .i64) 3 w' w.heap.size (fun k_ => some k_ ≠ ((.slice (some ad395) x4_1.length co9) : Value).ownBlock) (.slice Ao17 t396.length co17) t396) ∧ Aside0 (w'.heap[gb388]? = some (.cells #[(.slice A0_0 l0_0.length c0_0), (.slice A0_1 l0_1.length c0_1)] 45 (0, 0))) ∧ Aside0 (Below w.heap.size w w'))
      case atStart => exact ⟨(x4_1), (0), (sr2), H', ⟨Nat.le_refl _⟩, ⟨by (try simp only [hl4_1]); (with_reducible repeat (first | apply Kd.R_alloc | apply Kd.R_drewN | apply Kd.R_drew)); exact Kd.R_mono HO_4.out (fun _ hk => hk.2)⟩, ⟨by (try simp only [hl4_1]); (with_reducible repeat (first | apply Kd.R_alloc | apply Kd.R_drewN | apply Kd.R_drew)); exact Kd.R_mono HO398.out (fun _ hk => hk.2)⟩, ⟨by (try simp only [hl4_1]); (with_reducible repeat (first | refine blk_drewN ?_ _ | refine blk_drew ?_ | refine blk_alloc ?_ _)); exact BK388.out⟩, ⟨bs1 HB.out GE388.out⟩⟩
      case round =>
       clear H'; obtain ⟨x4_2, x28_2, rfl, HA, HK2, HO_4, HO_26, BK388, HB⟩ := hrel; have hl4_2 := (Kd.R_reads' HO_4.out).1; rw [hl4_2] at HO_4; (try simp only [hl4_2]); (try simp only [hl4_2] at BK388); (try simp only [hl4_2] at HO_26)
       cases gk with
       | zero => exact absurd HA.out (by simp [impl_Meander_curves.l1])
       | succ k2 =>
        have H := HA.out; clear HA; simp only [impl_Meander_curves.l1] at H
        by_cases c18 : x28_2 < (t396.length : Int)
        ·rw [if_pos c18] at H; have c18b0 := decide_eq_true c18; clear c18; (try simp only [hl4_1, hl4_2] at c18b0)
         by_cases c19 : 0 ≤ x28_2
         ·rw [if_pos c19] at H; have c19b0 := decide_eq_true c19; clear c19; (try simp only [hl4_1, hl4_2] at c19b0)
          by_cases c20 : x28_2 < (t396.length : Int)
          ·rw [if_pos c20] at H; have c20b0 := decide_eq_true c20; clear c20; (try simp only [hl4_1, hl4_2] at c20b0)
           by_cases c21 : 0 ≤ (rd t396 x28_2)
           ·rw [if_pos c21] at H; have c21b0 := decide_eq_true c21; clear c21; (try simp only [hl4_1, hl4_2] at c21b0)
            by_cases c22 : (rd t396 x28_2) < (x4_2.length : Int)
            ·rw [if_pos c22] at H; have c22b0 := decide_eq_true c22; clear c22; (try simp only [hl4_1, hl4_2] at c22b0); obtain ⟨y400, hy400⟩ := yy (x4_2.set ((rd t396 x28_2) : Int).toNat x5_1)
             (try rw [Option.bind_some] at H); (try dsimp only at H); rw [← hy400] at H
             have Ny400 := Aside0.mk hy400; clear hy400; have H' := Aside0.mk H; clear H; obtain ⟨ad399, e399, hx399_0, p399, q399⟩ := atI (Kd.R_reads' HO_26.out).2.2 x28_2; cases e399; have p23 : 0 ≤ ((rd t396 x28_2) : Int) := od; have q23 : ((rd t396 x28_2) : Int) < ((x4_2.length : Int) : Int) := od; obtain ⟨go23, co23, eo23, gb23, gl23, cl23, HG23⟩ := Kd.R_form HO_4.out (by omega); (first | cases eo23 | (injection eo23 with ea_ en_ ec_; (first | subst ea_ | (injection ea_ with ea_; subst ea_)); subst ec_; clear en_)); have GB23 := Aside0.mk gb23; have GG23 := Aside0.mk HG23; clear gb23 gl23 HG23; (first | simp only [add_plain] at hx395_0 | skip); obtain ⟨hx23_0, hf23_0⟩ := Kd.R_celln 0 HO_4.out ((rd t396 x28_2) : Int) p23 q23; replace p23 := eq_true p23; replace q23 := eq_true q23; have HP24 := Kd.R_putg HO_4.out ((rd t396 x28_2) : Int) x5_1; go_wp2_with (first | ((with_reducible refine gate_store (t := 3) (p := 35) rfl ?_); refine store_event (t := 3) (p := 35) (v := ?vo_w25) (w1 := (wr.setCell ⟨go23, ((rd t396 x28_2) : Int).toNat, none⟩ (.int .i64 x5_1))) ?hg ?ho ?hn ?hr ?_; (case ho => rfl); (case hg => rfl); (case hn => rfl); (case hr => first | (go_simp; done) | (go_simp; rfl)); intro w25 hw; have hg : wr.grownBy w25 (some go23) := (by rw [hw]; exact HP24.2); have hp_ : Kd.R (Kd.int .i64) 3 w25 w.heap.size (fun k_ => some k_ ≠ (.slice (some ad399) t396.length co17 : Value).ownBlock) (.slice (some ⟨go23, 0, none⟩) x4_2.length co9) y400 := (by rw [hw, Ny400.out]; exact HP24.1); clear HP24; replace HO_26 := Aside0.mk (Kd.R_after (v := (.slice (some ⟨go23, 0, none⟩) x4_2.length co9)) (v1 := (.slice (some ⟨go23, 0, none⟩) x4_2.length co9)) (ok := (fun _ => True)) (rR (Kd.R_mono HO_26.out (fun _ hk => ⟨trivial, hk⟩))) hg (.inl rfl)); replace BK388 := Aside0.mk (blk_grown (bk BK388.out) hg (Kd.R_ne HO_4.out BK388.out (by decide))); replace HO_4 := Aside0.mk (hp_); replace HB := Aside0.mk ((by rw [hw]; exact below_set (HB.out) GB23.out : Below w.heap.size w w25)); clear hg hw hp_)); (try simp only [← hl4_2])
             go_roundg k2
             case measure => have := HK1.out; have := HK2.out; omega
             case rel => exact ⟨(y400), (wrap64 (x28_2 + 1)), (sr2), H', ⟨by have := HK1.out; have := HK2.out; omega⟩, ⟨by (try simp only [hl4_1]); (try simp only [hl4_2]); (with_reducible repeat (first | apply Kd.R_alloc | apply Kd.R_drewN | apply Kd.R_drew)); exact HO_4.out⟩, ⟨by (try simp only [hl4_1]); (try simp only [hl4_2]); (with_reducible repeat (first | apply Kd.R_alloc | apply Kd.R_drewN | apply Kd.R_drew)); exact Kd.R_mono HO_26.out (fun _ hk => hk.2)⟩, ⟨by (try simp only [hl4_1]); (try simp only [hl4_2]); (with_reducible repeat (first | refine blk_drewN ?_ _ | refine blk_drew ?_ | refine blk_alloc ?_ _)); exact BK388.out⟩, ⟨bs1 HB.out GE388.out⟩⟩
            rw [if_neg c22] at H; exact absurd H (by simp)
           rw [if_neg c21] at H; exact absurd H (by simp)
          rw [if_neg c20] at H; exact absurd H (by simp)
         rw [if_neg c19] at H; exact absurd H (by simp)
        rw [if_neg c18] at H; have c18b0 := decide_eq_false c18; clear c18; (try simp only [hl4_1, hl4_2] at c18b0); have H' := Aside0.mk H; clear H; go_wp2; (try simp only [← hl4_1, ← hl4_2])
        go_roundg k2
        case measure => have := HK1.out; have := HK2.out; omega
        case rel => exact ⟨(x4_2), (wrap64 (x5_1 + 1)), (wrap64 (x16_1 + 1)), (sr2), (sr2), H', ⟨by have := HK1.out; have := HK2.out; omega⟩, ⟨by (try simp only [hl4_1]); (try simp only [hl4_2]); (with_reducible repeat (first | apply Kd.R_alloc | apply Kd.R_drewN | apply Kd.R_drew)); exact Kd.R_mono HO_4.out (fun _ hk => trivial)⟩, ⟨by (try simp only [hl4_1]); (try simp only [hl4_2]); (with_reducible repeat (first | refine blk_drewN ?_ _ | refine blk_drew ?_ | refine blk_alloc ?_ _)); exact BK388.out⟩, ⟨bs1 HB.out GE388.out⟩⟩
     rw [if_neg c12] at H; exact absurd H (by simp)
    rw [if_neg c11] at H; exact absurd H (by simp)
   rw [if_neg c10] at H; have c10b0 := decide_eq_false c10; clear c10; (try simp only [hl4_1] at c10b0); simp only [Option.some.injEq, Prod.mk.injEq] at H; obtain ⟨rfl, rfl⟩ := H; go_wp2; go_ret2; exact ⟨_, sr, rR HO_4.out, bs1 HB.out GE388.out⟩
/-! ### impl_Meander_components: function 102 -/
def impl_Meander_components.f (k : Nat) (l0_0 : List Int) (l0_1 : List Int) : Option (Int) := (impl_Meander_curves.f k l0_0 l0_1).bind fun bt402 => (some bt402.2)
theorem impl_Meander_components.mono : ∀ a0 a1 k, LeO (impl_Meander_components.f k a0 a1) (impl_Meander_components.f (k + 1) a0 a1) := by
 intro a0 a1 k; unfold impl_Meander_components.f
 repeat' first
   | (with_reducible exact impl_Meander_curves.mono _ _ _)
   | (with_reducible exact LeO.refl _)
   | (with_reducible exact LeO.none _)
   | (with_reducible refine LeO.ite ?_ ?_)
   | (with_reducible refine LeO.bind ?_ (fun _ => ?_))
   | exact impl_Meander_curves.mono _ _ _
   | exact LeO.none _
   | refine LeO.ite ?_ ?_
   | refine LeO.bind ?_ (fun _ => ?_)
theorem impl_Meander_components.calls (k : Nat) (A0_0 : Option Addr) (c0_0 : Nat) (l0_0 : List Int) (A0_1 : Option Addr) (c0_1 : Nat) (l0_1 : List Int) (r : Int) (w : World) (hr0_0 : Kd.C (Kd.int .i64) w A0_0 l0_0.length l0_0) (hc0_0 : l0_0.length ≤ c0_0) (hr0_1 : Kd.C (Kd.int .i64) w A0_1 l0_1.length l0_1) (hc0_1 : l0_1.length ≤ c0_1) (h : impl_Meander_components.f k l0_0 l0_1 = some r) :
  Calls Tryz.prog 102 #[.agg #[.slice A0_0 l0_0.length c0_0, .slice A0_1 l0_1.length c0_1]] w fun e w' => e = .returned (.int .i64 r) ∧ Below w.heap.size w w' := by
 have hu45 := Tryz.underlying45; have HR0_0 := Aside0.mk hr0_0; have HC0_0 := Aside0.mk hc0_0; clear hr0_0 hc0_0; have HR0_1 := Aside0.mk hr0_1; have HC0_1 := Aside0.mk hc0_1; clear hr0_1 hc0_1; have HB := Aside0.mk (Below.refl w.heap.size w); have H : ((impl_Meander_curves.f k l0_0 l0_1).bind fun bt402 => (some bt402.2)) = some r := h; clear h; obtain ⟨⟨t402, t405⟩, A2, H⟩ := bi H; (try dsimp only at H); obtain rfl := Option.some.inj H; go_enter Tryz.func102, Tryz.ntmps102; go_wp2_with (first | ((with_reducible refine gate_dst (N := 1) rfl ?_); refine box_event ?hg (N := 1) ?hd (cs := #[.slice A0_0 l0_0.length c0_0, .slice A0_1 l0_1.length c0_1]) (t := 45) ?hr ?_; (case hd => rfl); (case hg => rfl); (case hr => first | (go_simp; done) | (go_simp; rfl)); intro gb401 hg w3 hbox hb; have BK401 := Aside0.mk (hbox); have GW401 := Aside0.mk ((by rw [hg]; exact (below_size (bl HB.out)) : w.heap.size ≤ gb401)); have GE401 := Aside0.mk ((by rw [hg]; exact (below_size (bl HB.out)) : w.heap.size ≤ gb401)); replace HB := bst HB hb; clear hb hbox hg; have hcz4_0 : w3.cell? ⟨gb401, 0, none⟩ = some (.slice A0_0 l0_0.length c0_0) := (blk_cell BK401.out 0).trans rfl; have hcz4_1 : w3.cell? ⟨gb401, 1, none⟩ = some (.slice A0_1 l0_1.length c0_1) := (blk_cell BK401.out 1).trans rfl; have hfz4_0 := blk_frozen BK401.out 0; have hfz4_1 := blk_frozen BK401.out 1) | (go_at_call 120; (with_reducible refine (impl_Meander_curves.calls k _ _ l0_0 _ _ l0_1 t402 t405 _ ?side1 ?side2 ?side3 HC0_1.out A2.out).mono ?_); (case side1 => exact cw (Kd.C_below HR0_0.out HB.out)); (case side2 => exact HC0_0.out); (case side3 => exact cw (Kd.C_below HR0_1.out HB.out)); rintro e w5 ⟨v403, rfl, ho0, hb⟩; have HO404 := Aside0.mk (Kd.R_lower ho0 (below_size (bs1 HB.out GE401.out))); replace BK401 := bkb BK401 hb; replace HB := Aside0.mk (below_step (bs1 HB.out GE401.out) hb))); go_ret; exact ⟨sr, bs1 HB.out GE401.out⟩
/-! ### impl_Meander_isOne: function 74 -/
def impl_Meander_isOne.f (k : Nat) (l0_0 : List Int) (l0_1 : List Int) : Option (Bool) := (impl_Meander_components.f k l0_0 l0_1).bind fun t407 => (some (t407 == 1))
theorem impl_Meander_isOne.mono : ∀ a0 a1 k, LeO (impl_Meander_isOne.f k a0 a1) (impl_Meander_isOne.f (k + 1) a0 a1) := by
 intro a0 a1 k; unfold impl_Meander_isOne.f
 repeat' first
   | (with_reducible exact impl_Meander_components.mono _ _ _)
   | (with_reducible exact LeO.refl _)
   | (with_reducible exact LeO.none _)
   | (with_reducible refine LeO.ite ?_ ?_)
   | (with_reducible refine LeO.bind ?_ (fun _ => ?_))
   | exact impl_Meander_components.mono _ _ _
   | exact LeO.none _
   | refine LeO.ite ?_ ?_
   | refine LeO.bind ?_ (fun _ => ?_)
theorem impl_Meander_isOne.calls (k : Nat) (A0_0 : Option Addr) (c0_0 : Nat) (l0_0 : List Int) (A0_1 : Option Addr) (c0_1 : Nat) (l0_1 : List Int) (r : Bool) (w : World) (hr0_0 : Kd.C (Kd.int .i64) w A0_0 l0_0.length l0_0) (hc0_0 : l0_0.length ≤ c0_0) (hr0_1 : Kd.C (Kd.int .i64) w A0_1 l0_1.length l0_1) (hc0_1 : l0_1.length ≤ c0_1) (h : impl_Meander_isOne.f k l0_0 l0_1 = some r) :
  Calls Tryz.prog 74 #[.agg #[.slice A0_0 l0_0.length c0_0, .slice A0_1 l0_1.length c0_1]] w fun e w' => e = .returned (.bool r) ∧ Below w.heap.size w w' := by
 have hu45 := Tryz.underlying45; have HR0_0 := Aside0.mk hr0_0; have HC0_0 := Aside0.mk hc0_0; clear hr0_0 hc0_0; have HR0_1 := Aside0.mk hr0_1; have HC0_1 := Aside0.mk hc0_1; clear hr0_1 hc0_1; have HB := Aside0.mk (Below.refl w.heap.size w); have H : ((impl_Meander_components.f k l0_0 l0_1).bind fun t407 => (some (t407 == 1))) = some r := h; clear h; obtain ⟨t407, A2, H⟩ := bi H; (try dsimp only at H); obtain rfl := Option.some.inj H; go_enter Tryz.func74, Tryz.ntmps74; go_wp2_with (first | ((with_reducible refine gate_dst (N := 1) rfl ?_); refine box_event ?hg (N := 1) ?hd (cs := #[.slice A0_0 l0_0.length c0_0, .slice A0_1 l0_1.length c0_1]) (t := 45) ?hr ?_; (case hd => rfl); (case hg => rfl); (case hr => first | (go_simp; done) | (go_simp; rfl)); intro gb406 hg w3 hbox hb; have BK406 := Aside0.mk (hbox); have GW406 := Aside0.mk ((by rw [hg]; exact (below_size (bl HB.out)) : w.heap.size ≤ gb406)); have GE406 := Aside0.mk ((by rw [hg]; exact (below_size (bl HB.out)) : w.heap.size ≤ gb406)); replace HB := bst HB hb; clear hb hbox hg; have hcz4_0 : w3.cell? ⟨gb406, 0, none⟩ = some (.slice A0_0 l0_0.length c0_0) := (blk_cell BK406.out 0).trans rfl; have hcz4_1 : w3.cell? ⟨gb406, 1, none⟩ = some (.slice A0_1 l0_1.length c0_1) := (blk_cell BK406.out 1).trans rfl; have hfz4_0 := blk_frozen BK406.out 0; have hfz4_1 := blk_frozen BK406.out 1) | (go_at_call 102; (with_reducible refine (impl_Meander_components.calls k _ _ l0_0 _ _ l0_1 t407 _ ?side1 ?side2 ?side3 HC0_1.out A2.out).mono ?_); (case side1 => exact cw (Kd.C_below HR0_0.out HB.out)); (case side2 => exact HC0_0.out); (case side3 => exact cw (Kd.C_below HR0_1.out HB.out)); rintro e w5 ⟨rfl, hb⟩; replace BK406 := bkb BK406 hb; replace HB := Aside0.mk (below_step (bs1 HB.out GE406.out) hb))); go_ret; exact ⟨sr, bs1 HB.out GE406.out⟩
/-! ### impl_isSemi: function 66 -/
def impl_isSemi.f (k : Nat) (l0 : List Int) : Option (Bool) := (impl_rainbow.f k (wrap64 ((l0.length : Int) / 2))).bind fun t408 => ((impl_Meander_isOne.f k l0 t408).bind fun t411 => (some t411))
theorem impl_isSemi.mono : ∀ a0 k, LeO (impl_isSemi.f k a0) (impl_isSemi.f (k + 1) a0) := by
 intro a0 k; unfold impl_isSemi.f
 repeat' first
   | (with_reducible exact impl_Meander_isOne.mono _ _ _)
   | (with_reducible exact impl_rainbow.mono _ _)
   | (with_reducible exact LeO.refl _)
   | (with_reducible exact LeO.none _)
   | (with_reducible refine LeO.ite ?_ ?_)
   | (with_reducible refine LeO.bind ?_ (fun _ => ?_))
   | exact impl_Meander_isOne.mono _ _ _
   | exact impl_rainbow.mono _ _
   | exact LeO.none _
   | refine LeO.ite ?_ ?_
   | refine LeO.bind ?_ (fun _ => ?_)
theorem impl_isSemi.calls (k : Nat) (A0 : Option Addr) (c0 : Nat) (l0 : List Int) (r : Bool) (w : World) (hr0 : Kd.C (Kd.int .i64) w A0 l0.length l0) (hc0 : l0.length ≤ c0) (h : impl_isSemi.f k l0 = some r) :
  Calls Tryz.prog 66 #[.slice A0 l0.length c0] w fun e w' => e = .returned (.bool r) ∧ Below w.heap.size w w' := by
 have hu45 := Tryz.underlying45; have HR0 := Aside0.mk hr0; have HC0 := Aside0.mk hc0; clear hr0 hc0; have HB := Aside0.mk (Below.refl w.heap.size w); have H : ((impl_rainbow.f k (wrap64 ((l0.length : Int) / 2))).bind fun t408 => ((impl_Meander_isOne.f k l0 t408).bind fun t411 => (some t411))) = some r := h; clear h; obtain ⟨t408, A2, H⟩ := bi H; (try dsimp only at H); obtain ⟨t411, A3, H⟩ := bi H; (try dsimp only at H); obtain rfl := Option.some.inj H; go_enter Tryz.func66, Tryz.ntmps66; go_wp2_with (first | (go_at_call 72; (with_reducible refine (impl_rainbow.calls k (wrap64 ((l0.length : Int) / 2)) t408 _ A2.out).mono ?_); rintro e w4 ⟨v409, rfl, ho0, hb⟩; have HO410 := Aside0.mk (Kd.R_lower ho0 (below_size (bl HB.out))); replace HB := bst HB hb; obtain ⟨Ao5, co5, eo5⟩ := Kd.R_slice HO410.out; subst eo5) | (go_at_call 74; (with_reducible refine (impl_Meander_isOne.calls k _ _ l0 _ _ t408 t411 _ ?side1 ?side2 ?side3 ((Kd.R_reads' HO410.out).2.1) A3.out).mono ?_); (case side1 => exact cw (Kd.C_below HR0.out HB.out)); (case side2 => exact HC0.out); (case side3 => exact cw ((Kd.R_reads' HO410.out).2.2)); rintro e w6 ⟨rfl, hb⟩; replace HO410 := Aside0.mk (Kd.R_below (rR HO410.out) hb); replace HB := bst HB hb)); go_ret; exact ⟨sr, bl HB.out⟩
/-! ### impl_semis_1: function 91 -/
def impl_semis_1.f (k : Nat) (l0 : List Int) : Option (Bool) := (impl_isSemi.f k l0).bind fun t412 => (some (!t412))
theorem impl_semis_1.mono : ∀ a0 k, LeO (impl_semis_1.f k a0) (impl_semis_1.f (k + 1) a0) := by
 intro a0 k; unfold impl_semis_1.f
 repeat' first
   | (with_reducible exact impl_isSemi.mono _ _)
   | (with_reducible exact LeO.refl _)
   | (with_reducible exact LeO.none _)
   | (with_reducible refine LeO.ite ?_ ?_)
   | (with_reducible refine LeO.bind ?_ (fun _ => ?_))
   | exact impl_isSemi.mono _ _
   | exact LeO.none _
   | refine LeO.ite ?_ ?_
   | refine LeO.bind ?_ (fun _ => ?_)
theorem impl_semis_1.calls (k : Nat) (A0 : Option Addr) (c0 : Nat) (l0 : List Int) (r : Bool) (w : World) (hr0 : Kd.C (Kd.int .i64) w A0 l0.length l0) (hc0 : l0.length ≤ c0) (h : impl_semis_1.f k l0 = some r) :
  Calls Tryz.prog 91 #[.slice A0 l0.length c0] w fun e w' => e = .returned (.bool r) ∧ Below w.heap.size w w' := by
 have HR0 := Aside0.mk hr0; have HC0 := Aside0.mk hc0; clear hr0 hc0; have HB := Aside0.mk (Below.refl w.heap.size w); have H : ((impl_isSemi.f k l0).bind fun t412 => (some (!t412))) = some r := h; clear h; obtain ⟨t412, A2, H⟩ := bi H; (try dsimp only at H); obtain rfl := Option.some.inj H; go_enter Tryz.func91, Tryz.ntmps91; go_wp2_with (first | (go_at_call 66; (with_reducible refine (impl_isSemi.calls k _ _ l0 t412 _ ?side1 HC0.out A2.out).mono ?_); (case side1 => exact cw HR0.out); rintro e w3 ⟨rfl, hb⟩; replace HB := bst HB hb)); go_ret; exact ⟨sr, bl HB.out⟩
/-! ### slices_DeleteFunc_int_int_at_impl_semis_1: function 186 -/
def slices_DeleteFunc_int_int_at_impl_semis_1.sel (k : Nat) : List (List Int) → Option (List (List Int))
 | [] => some []
 | x :: t => (impl_semis_1.f k x).bind fun b => (slices_DeleteFunc_int_int_at_impl_semis_1.sel k t).bind fun r => some (if b = true then r else x :: r)
def slices_DeleteFunc_int_int_at_impl_semis_1.f (k : Nat) (l0 : List (List Int)) : Option (List (List Int)) := if l0.length = 0 then none else slices_DeleteFunc_int_int_at_impl_semis_1.sel k l0
theorem slices_DeleteFunc_int_int_at_impl_semis_1.sel_mono (k : Nat) : ∀ l, LeO (slices_DeleteFunc_int_int_at_impl_semis_1.sel k l) (slices_DeleteFunc_int_int_at_impl_semis_1.sel (k + 1) l)
 | [] => LeO.refl _
 | x :: t => LeO.bind (impl_semis_1.mono _ _) (fun _ => LeO.bind (slices_DeleteFunc_int_int_at_impl_semis_1.sel_mono k t) (fun _ => LeO.refl _))
theorem slices_DeleteFunc_int_int_at_impl_semis_1.mono : ∀ a0 k, LeO (slices_DeleteFunc_int_int_at_impl_semis_1.f k a0) (slices_DeleteFunc_int_int_at_impl_semis_1.f (k + 1) a0) := fun a0 k => LeO.ite (LeO.refl _) (slices_DeleteFunc_int_int_at_impl_semis_1.sel_mono k a0)
theorem slices_DeleteFunc_int_int_at_impl_semis_1.told (k : Nat) : ∀ (l r : List (List Int)), slices_DeleteFunc_int_int_at_impl_semis_1.sel k l = some r → (∀ x ∈ l, impl_semis_1.f k x = some ((impl_semis_1.f k x).getD false)) ∧ r = l.filter (fun x => !(impl_semis_1.f k x).getD false)
 | [], r, h => by
  obtain rfl := Option.some.inj h
  exact ⟨fun x hx => by simp at hx, rfl⟩
 | x :: t, r, h => by
  obtain ⟨b, hb, h⟩ := Option.bind_eq_some_iff.mp h
  obtain ⟨r', hr, h⟩ := Option.bind_eq_some_iff.mp h
  obtain rfl := Option.some.inj h
  obtain ⟨h1, h2⟩ := slices_DeleteFunc_int_int_at_impl_semis_1.told k t r' hr
  refine ⟨fun y hy => ?_, ?_⟩
  ·rcases List.mem_cons.1 hy with rfl | hy
   ·rw [hb]; rfl
   ·exact h1 y hy
  ·rw [List.filter_cons, hb, h2]
   cases b <;> simp
theorem slices_DeleteFunc_int_int_at_impl_semis_1.calls (k : Nat) (P0_ : Nat → Prop) (u9000_ : Value) (l0 : List (List Int)) (r : List (List Int)) (w0 w : World) (hB : Below w0.heap.size w0 w) (ho0 : Kd.S (Kd.slice 3 (Kd.int .i64)) 31 w w0.heap.size P0_ u9000_ l0) (h : slices_DeleteFunc_int_int_at_impl_semis_1.f k l0 = some r) :
  Calls Tryz.prog 84 #[u9000_, .func (.func 91) #[] #[]] w fun e w' => ∃ v0_ : Value, e = .returned v0_ ∧ Kd.S (Kd.slice 3 (Kd.int .i64)) 31 w' w0.heap.size (fun k_ => (P0_ k_ ∨ w.heap.size ≤ k_)) v0_ r ∧ Below w0.heap.size w0 w' ∧ Kept w w' (fun k_ => P0_ k_) := by
 unfold slices_DeleteFunc_int_int_at_impl_semis_1.f at h
 by_cases hl : l0.length = 0
 ·rw [if_pos hl] at h; cases h
 rw [if_neg hl] at h; obtain ⟨h1, rfl⟩ := slices_DeleteFunc_int_int_at_impl_semis_1.told k l0 r h
 have hcon := DelS.delete_S Shelf.delL 3 31 91 #[] (enters_of Tryz.func91 (by kernel_rfl) rfl) Tryz.zeroValue31 (fun x => (impl_semis_1.f k x).getD false)
  w0.heap.size P0_ u9000_ l0 w ho0 (fun e => hl (by rw [e]; rfl))
  (fun A c row W hrow hg hA hc => by
   refine (impl_semis_1.calls k A c row _ W hA hc (h1 row hrow)).mono ?_
   rintro en w' ⟨rfl, hb⟩
   exact ⟨rfl, hb⟩)
 refine hcon.mono ?_; rintro e w' ⟨v', rfl, hS, hg, hv⟩; refine ⟨v', rfl, Kd.S_mono hS (fun _ hk => .inl hk), Below.grown hB hg hB.size (Kd.S_base ho0), hg.size, fun i hi hn => hg.block i hi (fun e => hn ((Kd.S_R ho0).1 i e.symm))⟩
/-! ### impl_semis: function 52 -/
def impl_semis.f (k : Nat) (a0 : Int) : Option ((List (List Int))) := (impl_systems.f k a0).bind fun t413 => ((slices_DeleteFunc_int_int_at_impl_semis_1.f k t413).bind fun t416 => (some t416))
theorem impl_semis.mono : ∀ a0 k, LeO (impl_semis.f k a0) (impl_semis.f (k + 1) a0) := by
 intro a0 k; unfold impl_semis.f
 repeat' first
   | (with_reducible exact impl_systems.mono _ _)
   | (with_reducible exact slices_DeleteFunc_int_int_at_impl_semis_1.mono _ _)
   | (with_reducible exact LeO.refl _)
   | (with_reducible exact LeO.none _)
   | (with_reducible refine LeO.ite ?_ ?_)
   | (with_reducible refine LeO.bind ?_ (fun _ => ?_))
   | exact impl_systems.mono _ _
   | exact slices_DeleteFunc_int_int_at_impl_semis_1.mono _ _
   | exact LeO.none _
   | refine LeO.ite ?_ ?_
   | refine LeO.bind ?_ (fun _ => ?_)
theorem impl_semis.calls (k : Nat) (a0 : Int) (r : List (List Int)) (w : World) (h : impl_semis.f k a0 = some r) :
  Calls Tryz.prog 52 #[.int .i64 a0] w fun e w' => ∃ v0_ : Value, e = .returned (v0_) ∧ Kd.S (Kd.slice 3 (Kd.int .i64)) 31 w' w.heap.size (fun _ => True) v0_ r ∧ Below w.heap.size w w' := by
 have HB := Aside0.mk (Below.refl w.heap.size w); have H : ((impl_systems.f k a0).bind fun t413 => ((slices_DeleteFunc_int_int_at_impl_semis_1.f k t413).bind fun t416 => (some t416))) = some r := h; clear h; obtain ⟨t413, A2, H⟩ := bi H; (try dsimp only at H); obtain ⟨t416, A3, H⟩ := bi H; (try dsimp only at H); obtain rfl := Option.some.inj H; go_enter Tryz.func52, Tryz.ntmps52; go_wp2_with (first | (go_at_call 90; (with_reducible refine (impl_systems.calls k a0 t413 _ A2.out).mono ?_); rintro e w4 ⟨v414, rfl, ho0, hb⟩; have HO415 := Aside0.mk (Kd.S_lower ho0 (below_size (bl HB.out))); replace HB := bst HB hb; obtain ⟨Ao5, co5, eo5⟩ := Kd.S_slice HO415.out; subst eo5) | (go_at_call 84; (with_reducible refine (slices_DeleteFunc_int_int_at_impl_semis_1.calls k (fun k_ => True) (.slice Ao5 t413.length co5) t413  t416 w _ ?side1 HO415.out A3.out).mono ?_); (case side1 => repeat (first | (with_reducible first | exact HB.out | apply below_alloc | apply pw_below_drewN | apply below_drew1) | exact HB.out)); rintro e w6 ⟨v417, rfl, ho0, hb, hkp⟩; have HO418 := Aside0.mk (Kd.S_mono (ok' := fun k_ => True) ho0 (fun k_ hk_ => trivial)); replace HB := Aside0.mk (hb); clear HO415)); go_ret; exact ⟨_, sr, rS HO418.out, bl HB.out⟩
/-! ### impl_AllSemis: function 12 -/
def impl_AllSemis.f (k : Nat) (a0 : Int) : Option ((List (List Int)) × Bool) := (impl_in.f a0 1 6).bind fun t419 => (if t419 = true then ((impl_semis.f k a0).bind fun t420 => (some (t420, true))) else (some (([] : List (List Int)), false)))
theorem impl_AllSemis.mono : ∀ a0 k, LeO (impl_AllSemis.f k a0) (impl_AllSemis.f (k + 1) a0) := by
 intro a0 k; unfold impl_AllSemis.f
 repeat' first
   | (with_reducible exact impl_semis.mono _ _)
   | (with_reducible exact LeO.refl _)
   | (with_reducible exact LeO.none _)
   | (with_reducible refine LeO.ite ?_ ?_)
   | (with_reducible refine LeO.bind ?_ (fun _ => ?_))
   | exact impl_semis.mono _ _
   | exact LeO.none _
   | refine LeO.ite ?_ ?_
   | refine LeO.bind ?_ (fun _ => ?_)
theorem impl_AllSemis.calls (k : Nat) (a0 : Int) (r1 : List (List Int)) (r2 : Bool) (w : World) (h : impl_AllSemis.f k a0 = some (r1, r2)) :
  Calls Tryz.prog 12 #[.int .i64 a0] w fun e w' => ∃ v0_ : Value, e = .returned (.tuple #[v0_, .bool r2]) ∧ Kd.S (Kd.slice 3 (Kd.int .i64)) 31 w' w.heap.size (fun _ => True) v0_ r1 ∧ Below w.heap.size w w' := by
 have HB := Aside0.mk (Below.refl w.heap.size w); have H : ((impl_in.f a0 1 6).bind fun t419 => (if t419 = true then ((impl_semis.f k a0).bind fun t420 => (some (t420, true))) else (some (([] : List (List Int)), false)))) = some (r1, r2) := h; clear h; obtain ⟨t419, A2, H⟩ := bi H; (try dsimp only at H)
 by_cases c3 : t419 = true
 ·subst c3; rw [if_pos rfl] at H; obtain ⟨t420, A4, H⟩ := bi H; (try dsimp only at H); simp only [Option.some.injEq, Prod.mk.injEq] at H; obtain ⟨rfl, rfl⟩ := H; go_enter Tryz.func12, Tryz.ntmps12; go_wp2_with (first | (go_at_call 46; (with_reducible refine (impl_in.calls a0 1 6 true _ A2.out).mono ?_); rintro e w' ⟨rfl, ⟨nd, rfl⟩⟩) | (go_at_call 52; (with_reducible refine (impl_semis.calls k a0 t420 _ A4.out).mono ?_); rintro e w5 ⟨v421, rfl, ho0, hb⟩; have HO422 := Aside0.mk (Kd.S_lower ho0 (below_size (bl HB.out))); replace HB := bst HB hb)); go_ret2; exact ⟨_, sr, rS HO422.out, bl HB.out⟩
 replace c3 := Bool.eq_false_iff.mpr c3; subst c3; rw [if_neg (show ¬ (false = true) by decide)] at H; simp only [Option.some.injEq, Prod.mk.injEq] at H; obtain ⟨rfl, rfl⟩ := H; go_enter Tryz.func12, Tryz.ntmps12; go_wp2_with (first | (go_at_call 46; (with_reducible refine (impl_in.calls a0 1 6 false _ A2.out).mono ?_); rintro e w' ⟨rfl, ⟨nd, rfl⟩⟩)); go_ret2; exact ⟨_, sr, by first | exact Kd.S_nil _ _ _ _ _ | exact Kd.N_nil _ _ _ _ _ | exact Kd.V_nil _ _ _ _ _ | exact Kd.Q_nil _ _ _ _ _ | exact Kd.R_nil _ _ _ _ _, bl HB.out⟩
/-! ### cmp_Less_int: function 155 -/
def cmp_Less_int.f (a0 : Int) (a1 : Int) : Option (Bool) := (cmp_isNaN_int.f a0).bind fun t423 => (if t423 = true then ((cmp_isNaN_int.f a1).bind fun t424 => (if t424 = true then (some (decide (a0 < a1))) else (some true))) else (some (decide (a0 < a1))))
theorem cmp_Less_int.calls (a0 : Int) (a1 : Int) (r : Bool) (w : World) (h : cmp_Less_int.f a0 a1 = some r) :
  Calls Tryz.prog 155 #[.int .i64 a0, .int .i64 a1] w fun e w' => e = .returned (.bool r) ∧ Drawn0 w w' := by
 have H : ((cmp_isNaN_int.f a0).bind fun t423 => (if t423 = true then ((cmp_isNaN_int.f a1).bind fun t424 => (if t424 = true then (some (decide (a0 < a1))) else (some true))) else (some (decide (a0 < a1))))) = some r := h; clear h; obtain ⟨t423, A3, H⟩ := bi H; (try dsimp only at H)
 by_cases c4 : t423 = true
 ·subst c4; rw [if_pos rfl] at H; obtain ⟨t424, A5, H⟩ := bi H; (try dsimp only at H)
  by_cases c6 : t424 = true
  ·subst c6; rw [if_pos rfl] at H; obtain rfl := Option.some.inj H; go_enter Tryz.func155, Tryz.ntmps155; go_wp2_with (first | (go_at_call 134; (with_reducible refine (cmp_isNaN_int.calls a0 true _ A3.out).mono ?_); rintro e w' ⟨rfl, ⟨nd, rfl⟩⟩) | (go_at_call 134; (with_reducible refine (cmp_isNaN_int.calls a1 true _ A5.out).mono ?_); rintro e w' ⟨rfl, ⟨nd, rfl⟩⟩)); go_ret; exact ⟨sr2, by repeat (first | exact Drawn0.refl _ | apply Drawn0.step)⟩
  replace c6 := Bool.eq_false_iff.mpr c6; subst c6; rw [if_neg (show ¬ (false = true) by decide)] at H; obtain rfl := Option.some.inj H; go_enter Tryz.func155, Tryz.ntmps155; go_wp2_with (first | (go_at_call 134; (with_reducible refine (cmp_isNaN_int.calls a0 true _ A3.out).mono ?_); rintro e w' ⟨rfl, ⟨nd, rfl⟩⟩) | (go_at_call 134; (with_reducible refine (cmp_isNaN_int.calls a1 false _ A5.out).mono ?_); rintro e w' ⟨rfl, ⟨nd, rfl⟩⟩)); go_ret; exact ⟨sr2, by repeat (first | exact Drawn0.refl _ | apply Drawn0.step)⟩
 replace c4 := Bool.eq_false_iff.mpr c4; subst c4; rw [if_neg (show ¬ (false = true) by decide)] at H; obtain rfl := Option.some.inj H; go_enter Tryz.func155, Tryz.ntmps155; go_wp2_with (first | (go_at_call 134; (with_reducible refine (cmp_isNaN_int.calls a0 false _ A3.out).mono ?_); rintro e w' ⟨rfl, ⟨nd, rfl⟩⟩)); go_ret; exact ⟨sr2, by repeat (first | exact Drawn0.refl _ | apply Drawn0.step)⟩
/-! ### slices_insertionSortOrdered_int: function 149 -/
mutual
def slices_insertionSortOrdered_int.l0 : Nat → List Int → Int → Int → Int → Option (List Int)
 | 0, _, _, _, _ => none
 | k + 1, x0, x1, x2, x6 => if x6 < x2 then (slices_insertionSortOrdered_int.l1 k x0 x1 x2 x6 x6) else (some x0)
def slices_insertionSortOrdered_int.l1 : Nat → List Int → Int → Int → Int → Int → Option (List Int)
 | 0, _, _, _, _, _ => none
 | k + 1, x0, x1, x2, x6, x7 => if x7 > x1 then (if 0 ≤ x7 then (if x7 < (x0.length : Int) then (if 0 ≤ (wrap64 (x7 - 1)) then (if (wrap64 (x7 - 1)) < (x0.length : Int) then ((cmp_Less_int.f (rd x0 x7) (rd x0 (wrap64 (x7 - 1)))).bind fun t427 => (if t427 = true then (slices_insertionSortOrdered_int.l1 k ((x0.set (x7 : Int).toNat (rd x0 (wrap64 (x7 - 1)))).set ((wrap64 (x7 - 1)) : Int).toNat (rd x0 x7)) x1 x2 x6 (wrap64 (x7 - 1))) else (slices_insertionSortOrdered_int.l0 k x0 x1 x2 (wrap64 (x6 + 1))))) else (none)) else (none)) else (none)) else (none)) else (slices_insertionSortOrdered_int.l0 k x0 x1 x2 (wrap64 (x6 + 1)))
end
def slices_insertionSortOrdered_int.f (k : Nat) (l0 : List Int) (a1 : Int) (a2 : Int) : Option (List Int) := slices_insertionSortOrdered_int.l0 k l0 a1 a2 (wrap64 (a1 + 1))
def slices_insertionSortOrdered_int.T4 : Bool × List (List Nat × List Nat) := (true, [([], []), ([], []), ([0, 1], [0, 1]), ([2], [2]), ([3], [3]), ([3], [3]), ([4, 5, 3], [3, 4, 5]), ([6, 3], [3, 6]), ([3], [3]), ([3], [3]), ([9, 3], [3, 9]), ([8, 10, 3], [3, 8, 10]), ([11, 3], [3, 11]), ([7, 12, 3, 3], [3, 7, 12]), ([3, 13], [3, 13])])
def slices_insertionSortOrdered_int.B4 : List Nat := [0, 0, 3, 7, 15, 15, 63, 127, 15, 15, 527, 1807, 3855, 8191, 16383]
theorem slices_insertionSortOrdered_int.tab4 : rtab .any (opsOf Tryz.f149 4) = slices_insertionSortOrdered_int.T4 := by kernel_rfl
theorem slices_insertionSortOrdered_int.bits4 : waitsOk slices_insertionSortOrdered_int.T4.2 slices_insertionSortOrdered_int.B4 = true := by kernel_rfl
def slices_insertionSortOrdered_int.T6 : Bool × List (List Nat × List Nat) := (true, [([], []), ([], []), ([], []), ([], []), ([3], [3]), ([], []), ([], []), ([6], [6]), ([5, 7], [5, 7]), ([8], [8]), ([], []), ([], []), ([10, 11], [10, 11]), ([12], [12]), ([0, 1, 0, 1, 5, 6, 7, 8, 9, 13], [0, 1]), ([14, 9, 0, 1, 5, 6, 7, 8, 9, 13], [9, 14]), ([2, 4, 0, 1, 2, 3, 4, 5, 6, 7, 8, 9, 10, 11, 12, 13, 14, 15], [2, 4]), ([16, 13, 15, 0, 1, 2, 3, 4, 5, 6, 7, 8, 9, 10, 11, 12, 13, 14, 15], [13, 16])])
def slices_insertionSortOrdered_int.B6 : List Nat := [0, 0, 0, 0, 8, 0, 0, 64, 224, 480, 0, 0, 3072, 7168, 16355, 32739, 65535, 131071]
theorem slices_insertionSortOrdered_int.tab6 : rtab .any (opsOf Tryz.f149 6) = slices_insertionSortOrdered_int.T6 := by kernel_rfl
theorem slices_insertionSortOrdered_int.bits6 : waitsOk slices_insertionSortOrdered_int.T6.2 slices_insertionSortOrdered_int.B6 = true := by kernel_rfl
theorem slices_insertionSortOrdered_int.calls (k : Nat) (P0_ : Nat → Prop) (u9000_ : Value) (l0 : List Int) (a1 : Int) (a2 : Int) (r : List Int) (w0 w : World) (hB : Below w0.heap.size w0 w) (ho0 : Kd.R (Kd.int .i64) 3 w w0.heap.size P0_ u9000_ l0) (h : slices_insertionSortOrdered_int.f k l0 a1 a2 = some r) :
  Calls Tryz.prog 149 #[u9000_, .int .i64 a1, .int .i64 a2] w fun e w' => e = .returned (.tuple #[]) ∧ Kd.R (Kd.int .i64) 3 w' w0.heap.size (fun k_ => (P0_ k_ ∨ w.heap.size ≤ k_)) u9000_ r ∧ Below w0.heap.size w0 w' ∧ Kept w w' (fun k_ => P0_ k_) := by
 have HO0 := Aside0.mk (show Kd.R (Kd.int .i64) 3 w w0.heap.size (fun k_ => (P0_ k_ ∨ w.heap.size ≤ k_)) u9000_ l0 from Kd.R_mono ho0 (fun k_ hk => (.inl hk))); have HK := Aside0.mk (Kept.refl w (fun k_ => P0_ k_)); have HW0 := Aside0.mk hB.size; have HB := Aside0.mk hB; clear hB; have H : (slices_insertionSortOrdered_int.l0 k l0 a1 a2 (wrap64 (a1 + 1))) = some r := h; clear h; have H' := Aside0.mk H; clear H; go_enter Tryz.func149, Tryz.ntmps149; go_wp2
 go_loopg [6] k (fun kq v6 w' => ∃ (x0_1 : List Int) (x6_1 : Int), v6 = .int .i64 x6_1 ∧ Aside0 (slices_insertionSortOrdered_int.l0 kq x0_1 a1 a2 x6_1 = some r) ∧ Aside0 (kq ≤ k) ∧ Aside0 (Kd.R (Kd.int .i64) 3 w' w0.heap.size (fun k_ => (P0_ k_ ∨ w.heap.size ≤ k_)) u9000_ x0_1) ∧ Aside0 (Kept w w' (fun k_ => P0_ k_)) ∧ Aside0 (Below w0.heap.size w0 w'))
 case atStart => exact ⟨(l0), (wrap64 (a1 + 1)), (sr2), H', ⟨Nat.le_refl _⟩, ⟨rR HO0.out⟩, ⟨by repeat (first | (with_reducible first | exact HK.out | apply Kept.alloc | apply Kept.drewN | apply Kept.drew) | exact HK.out)⟩, ⟨bl HB.out⟩⟩
 case round =>
  clear H'; obtain ⟨x0_1, x6_1, rfl, HA, HK1, HO_0, HK, HB⟩ := hrel
  cases gk with
  | zero => exact absurd HA.out (by simp [slices_insertionSortOrdered_int.l0])
  | succ k1 =>
   have H := HA.out; clear HA; simp only [slices_insertionSortOrdered_int.l0] at H
   by_cases c4 : x6_1 < a2
   ·rw [if_pos c4] at H; have c4b0 := decide_eq_true c4; clear c4; have H' := Aside0.mk H; clear H; go_wp2
    go_loopg [7] k1 (fun kq v7 w' => ∃ (x0_2 : List Int) (x7_2 : Int), v7 = .int .i64 x7_2 ∧ Aside0 (slices_insertionSortOrdered_int.l1 kq x0_2 a1 a2 x6_1 x7_2 = some r) ∧ Aside0 (kq ≤ k1) ∧ Aside0 (Kd.R (Kd.int .i64) 3 w' w0.heap.size (fun k_ => (P0_ k_ ∨ w.heap.size ≤ k_)) u9000_ x0_2) ∧ Aside0 (Kept w w' (fun k_ => P0_ k_)) ∧ Aside0 (Below w0.heap.size w0 w'))
    case atStart => exact ⟨(x0_1), (x6_1), (sr2), H', ⟨Nat.le_refl _⟩, ⟨rR HO_0.out⟩, ⟨by repeat (first | (with_reducible first | exact HK.out | apply Kept.alloc | apply Kept.drewN | apply Kept.drew) | exact HK.out)⟩, ⟨bl HB.out⟩⟩
    case round =>
     clear H'; obtain ⟨x0_2, x7_2, rfl, HA, HK2, HO_0, HK, HB⟩ := hrel
     cases gk with
     | zero => exact absurd HA.out (by simp [slices_insertionSortOrdered_int.l1])
     | succ k2 =>
      have H := HA.out; clear HA; simp only [slices_insertionSortOrdered_int.l1] at H
      by_cases c5 : x7_2 > a1
      ·rw [if_pos c5] at H; have c5b0 := decide_eq_true c5; clear c5
       by_cases c6 : 0 ≤ x7_2
       ·rw [if_pos c6] at H; have c6b0 := decide_eq_true c6; clear c6
        by_cases c7 : x7_2 < (x0_2.length : Int)
        ·rw [if_pos c7] at H; have c7b0 := decide_eq_true c7; clear c7; obtain ⟨ji8, hji8⟩ : ∃ j_ : Int, (wrap64 (x7_2 - 1)) = j_ := ⟨_, rfl⟩; (replace H : (if 0 ≤ (ji8) then (if (ji8) < (x0_2.length : Int) then ((cmp_Less_int.f (rd x0_2 x7_2) (rd x0_2 (ji8))).bind fun t427 => (if t427 = true then (slices_insertionSortOrdered_int.l1 k2 ((x0_2.set (x7_2 : Int).toNat (rd x0_2 (ji8))).set ((ji8) : Int).toNat (rd x0_2 x7_2)) a1 a2 x6_1 ji8) else (slices_insertionSortOrdered_int.l0 k2 x0_2 a1 a2 (wrap64 (x6_1 + 1))))) else (none)) else (none)) = some r := by first | (rw [hji8] at H; exact H) | (simp only [hji8] at H ⊢; exact H)); have hji8w : (IntKind.i64.wrap (x7_2 - 1)) = ji8 := (i64_w _).trans hji8
         by_cases c9 : 0 ≤ (ji8)
         ·rw [if_pos c9] at H; have c9b0 := decide_eq_true c9; clear c9
          by_cases c10 : (ji8) < (x0_2.length : Int)
          ·rw [if_pos c10] at H; have c10b0 := decide_eq_true c10; clear c10; obtain ⟨t427, A11, H⟩ := bi H; (try dsimp only at H)
           by_cases c12 : t427 = true
           ·subst c12; rw [if_pos rfl] at H; obtain ⟨y430, hy430⟩ := yy (x0_2.set (x7_2 : Int).toNat (rd x0_2 (ji8)))
            (try rw [Option.bind_some] at H); (try dsimp only at H); rw [← hy430] at H
            have Ny430 := Aside0.mk hy430; clear hy430; obtain ⟨y431, hy431⟩ := yy (y430.set ((ji8) : Int).toNat (rd x0_2 x7_2))
            (try rw [Option.bind_some] at H); (try dsimp only at H); rw [← hy431] at H
            have Ny431 := Aside0.mk hy431; clear hy431; have H' := Aside0.mk H; clear H; (try go_wp2); replace HO_0 := Aside0.mk (Kd.R_drew HO_0.out); replace HK := Aside0.mk (Kept.drew HK.out); replace HB := bd1 HB; obtain ⟨Ao16, co16, eo16⟩ := Kd.R_slice HO_0.out; (first | subst eo16 | (injection eo16 with f1_ f2_ f3_; have f4_ := f1_.symm; have f5_ := f3_.symm; clear f1_ f2_ f3_; subst f4_; subst f5_)); obtain ⟨ad425, e425, hx425_0, p425, q425⟩ := atI (Kd.R_reads' HO_0.out).2.2 x7_2; cases e425; obtain ⟨ad426, e426, hx426_0, p426, q426⟩ := atI (Kd.R_reads' HO_0.out).2.2 (ji8); obtain rfl : ad425 = ad426 := (by injection e426); refine start_ (n := 15) (S := fun w' => w'.cell? (ad425.add (x7_2).toNat) = some (.int .i64 (rd x0_2 x7_2)) ∧ w'.cell? (ad425.add ((ji8)).toNat) = some (.int .i64 (rd x0_2 (ji8)))) (ds := []) #[false, false, false, false, false, false, false, false, false, false, false, false, false, false, false] (by kernel_rfl) rfl rfl ⟨hx425_0, hx426_0⟩ (fun hHeld => ?_); refine with_tabW slices_insertionSortOrdered_int.tab4 slices_insertionSortOrdered_int.bits4 (fun HT_ HW_ => ?_); generalize wr.drew = w15 at HO_0 HK HB hx425_0 hx426_0 hHeld ⊢; refine pu 0 16 HT_.out ?_; refine pu 1 17 HT_.out ?_; refine pu 2 18 HT_.out ?_; refine pu 3 19 HT_.out ?_; refine pu 4 20 HT_.out ?_; refine pu 5 21 HT_.out ?_; refine pu 6 22 HT_.out ?_; refine pu 8 24 HT_.out ?_; refine pu 9 25 HT_.out ?_; refine pu 10 26 HT_.out ?_; refine pu 11 27 HT_.out ?_; refine tk 7 23 HT_.out HW_.out hHeld ?_ (hy := by rintro w' ⟨s0, s1⟩; go_simp; with_reducible rfl); refine tk 12 28 HT_.out HW_.out hHeld ?_ (hy := by rintro w' ⟨s0, s1⟩; go_simp; with_reducible rfl); refine one_ (i := 13) (N := some 29) #[true, true, true, true, true, true, true, true, true, true, true, true, true, true, false] rfl rfl (one_of HT_.out (by kernel_rfl)) (by decide) (fun K hK => ?_); refine goes_ Tryz.func155 (by kernel_rfl) rfl #[.int .i64 (rd x0_2 x7_2), .int .i64 (rd x0_2 (ji8))] (by rfl) rfl rfl (by (try simp only [List.map_toArray, List.map_cons, List.map_nil]); first | done | (simp only [hji8]; rfl) | rfl | (simp only [List.length_drop, List.length_take]; rfl)) ?_; (with_reducible refine (cmp_Less_int.calls (rd x0_2 x7_2) (rd x0_2 (ji8)) true _ A11.out).mono ?_); rintro e w' ⟨rfl, ⟨nd, rfl⟩⟩; refine ⟨_, rfl, ?_⟩; refine hK.out _ _ ⟨hHeld.1, hHeld.2⟩ (fun hHeld => ?_); clear hK K; refine norm_ (a' := ?_) ?_ ?_
            rotate_left
            ·show Act.put _ (some 29) _ = _; simp only [Act.put, List.setIfInBounds_toArray, List.set_cons_zero, List.set_cons_succ, i64_w, i32_w]; rfl
            refine pu 14 30 HT_.out ?_; refine done_ (done_of HT_.out (by kernel_rfl)) ?_; (try go_wp2); (try (rw [drewN_self w15]; generalize hq_ : World.drewN w15 _ = w15; have n0_ : Aside0 (Kd.R (Kd.int .i64) 3 w15 w0.heap.size (fun k_ => (P0_ k_ ∨ w.heap.size ≤ k_)) (.slice (some ad425) x0_2.length co16) x0_2) := ⟨by rw [← hq_]; exact (rR HO_0.out)⟩; have n1_ : Aside0 (Kept w w15 (fun k_ => P0_ k_)) := ⟨by rw [← hq_]; exact (by repeat (first | (with_reducible first | exact HK.out | apply Kept.alloc | apply Kept.drewN | apply Kept.drew) | exact HK.out))⟩; have n2_ : Aside0 (Below w0.heap.size w0 w15) := ⟨by rw [← hq_]; exact (bl HB.out)⟩; clear HO_0 HK HB hq_; have HO_0 := n0_; have HK := n1_; have HB := n2_; clear n0_ n1_ n2_)); replace HO_0 := Aside0.mk (Kd.R_drew HO_0.out); replace HK := Aside0.mk (Kept.drew HK.out); replace HB := bd1 HB; obtain ⟨ad428, e428, hx428_0, p428, q428⟩ := atI (Kd.R_reads' HO_0.out).2.2 (ji8); obtain rfl : ad425 = ad428 := (by injection e428); obtain ⟨ad429, e429, hx429_0, p429, q429⟩ := atI (Kd.R_reads' HO_0.out).2.2 x7_2; obtain rfl : ad425 = ad429 := (by injection e429); have p13 : 0 ≤ (x7_2 : Int) := od; have q13 : (x7_2 : Int) < ((x0_2.length : Int) : Int) := od; obtain ⟨go13, co13, eo13, gb13, gl13, cl13, HG13⟩ := Kd.R_form HO_0.out (by omega); (first | cases eo13 | (injection eo13 with ea_ en_ ec_; (first | subst ea_ | (injection ea_ with ea_; subst ea_)); subst ec_; clear en_)); have GB13 := Aside0.mk gb13; have GG13 := Aside0.mk HG13; clear gb13 gl13 HG13; have HMgo13 := Aside0.mk (show (P0_ go13 ∨ w.heap.size ≤ go13) from (HO_0.out.1 _ rfl)); (first | simp only [add_plain] at hx425_0 | skip); (first | simp only [add_plain] at hx426_0 | skip); (first | simp only [add_plain] at hx428_0 | skip); (first | simp only [add_plain] at hx429_0 | skip); obtain ⟨hx13_0, hf13_0⟩ := Kd.R_celln 0 HO_0.out (x7_2 : Int) p13 q13; replace p13 := eq_true p13; replace q13 := eq_true q13; have HP18 := Kd.R_putn HO_0.out (x7_2 : Int) (rd x0_2 (ji8)); rw [← Ny430.out] at HP18; have HQ18 := Aside0.mk HP18; clear HP18; have p14 : 0 ≤ ((ji8) : Int) := od; have q14 : ((ji8) : Int) < ((x0_2.length : Int) : Int) := od; obtain ⟨hx14_0, hf14_0⟩ := Kd.R_celln 0 HQ18.out ((ji8) : Int) p14 q14; replace p14 := eq_true p14; replace q14 := eq_true q14; have HP19 := Kd.R_putn HQ18.out ((ji8) : Int) (rd x0_2 x7_2); rw [← Ny431.out] at HP19; have HQ19 := Aside0.mk HP19; clear HP19; refine start_ (n := 18) (S := fun w' => w'.cell? ⟨go13, ((ji8)).toNat, none⟩ = some (.int .i64 (rd x0_2 (ji8))) ∧ w'.cell? ⟨go13, (x7_2).toNat, none⟩ = some (.int .i64 (rd x0_2 x7_2))) (ds := [15, 17]) #[false, false, false, false, false, false, false, false, false, false, false, false, false, false, false, false, false, false] (by kernel_rfl) rfl rfl ⟨hx428_0, hx429_0⟩ (fun hHeld => ?_); refine with_tabW slices_insertionSortOrdered_int.tab6 slices_insertionSortOrdered_int.bits6 (fun HT_ HW_ => ?_); generalize w15.drew = w17 at HO_0 HK HB GG13 HQ18 HQ19 hf13_0 hf14_0 hx13_0 hx14_0 hx425_0 hx426_0 hx428_0 hx429_0 hHeld ⊢; refine pu 0 33 HT_.out ?_; refine pu 1 34 HT_.out ?_; refine pu 2 35 HT_.out ?_; refine pu 3 36 HT_.out ?_; refine pu 4 37 HT_.out ?_; refine pu 5 38 HT_.out ?_; refine pu 6 39 HT_.out ?_; refine pu 7 40 HT_.out ?_; refine pu 8 41 HT_.out ?_; refine pu 10 43 HT_.out ?_; refine pu 11 44 HT_.out ?_; refine pu 12 45 HT_.out ?_; refine tk 9 42 HT_.out HW_.out hHeld ?_ (hy := by rintro w' ⟨s0, s1⟩; go_simp; with_reducible rfl); refine tk 13 46 HT_.out HW_.out hHeld ?_ (hy := by rintro w' ⟨s0, s1⟩; go_simp; with_reducible rfl); refine pu 14 47 HT_.out ?_; refine last_ (i := 15) (N := none) #[true, true, true, true, true, true, true, true, true, true, true, true, true, true, true, true, false, false] rfl rfl (one_of HT_.out (by kernel_rfl)) (by decide) (fun K hK => ?_); refine skip_ (w1 := ?_) (by rfl) rfl ?_ ?_
            rotate_left
            ·go_simp; rfl
            refine hK.out _ _ ?_; clear hK K; refine pu 16 48 HT_.out ?_; refine last_ (i := 17) (N := none) #[true, true, true, true, true, true, true, true, true, true, true, true, true, true, true, true, true, true] rfl rfl (one_of HT_.out (by kernel_rfl)) (by decide) (fun K hK => ?_); refine skip_ (w1 := ?_) (by rfl) rfl ?_ ?_
            rotate_left
            ·go_simp; rfl
            refine hK.out _ _ ?_; clear hK K; refine done_ (done_of HT_.out (by kernel_rfl)) ?_; try go_wp2
            first | go_roundg k2 | (simp only [← hji8]; go_roundg k2)
            case measure => have := HK1.out; have := HK2.out; omega
            case rel => exact ⟨(y431), (ji8), (by first | rfl | (simp; done) | (simp only [← hji8] <;> (first | rfl | simp)) | (simp [*]; done)), H', ⟨by have := HK1.out; have := HK2.out; omega⟩, ⟨rR HQ19.out⟩, ⟨by repeat (first | (with_reducible first | exact HK.out | apply Kept.alloc | apply Kept.drewN | apply Kept.drew | refine Kept.setCell ?_ HMgo13.out _ | refine Kept.setCell ?_ HMgo13.out _) | exact HK.out)⟩, ⟨bs2 HB.out GB13.out GB13.out⟩⟩
           replace c12 := Bool.eq_false_iff.mpr c12; subst c12; rw [if_neg (show ¬ (false = true) by decide)] at H; have H' := Aside0.mk H; clear H; (try go_wp2); replace HO_0 := Aside0.mk (Kd.R_drew HO_0.out); replace HK := Aside0.mk (Kept.drew HK.out); replace HB := bd1 HB; obtain ⟨Ao21, co21, eo21⟩ := Kd.R_slice HO_0.out; (first | subst eo21 | (injection eo21 with f1_ f2_ f3_; have f4_ := f1_.symm; have f5_ := f3_.symm; clear f1_ f2_ f3_; subst f4_; subst f5_)); obtain ⟨ad425, e425, hx425_0, p425, q425⟩ := atI (Kd.R_reads' HO_0.out).2.2 x7_2; cases e425; obtain ⟨ad426, e426, hx426_0, p426, q426⟩ := atI (Kd.R_reads' HO_0.out).2.2 (ji8); obtain rfl : ad425 = ad426 := (by injection e426); refine start_ (n := 15) (S := fun w' => w'.cell? (ad425.add (x7_2).toNat) = some (.int .i64 (rd x0_2 x7_2)) ∧ w'.cell? (ad425.add ((ji8)).toNat) = some (.int .i64 (rd x0_2 (ji8)))) (ds := []) #[false, false, false, false, false, false, false, false, false, false, false, false, false, false, false] (by kernel_rfl) rfl rfl ⟨hx425_0, hx426_0⟩ (fun hHeld => ?_); refine with_tabW slices_insertionSortOrdered_int.tab4 slices_insertionSortOrdered_int.bits4 (fun HT_ HW_ => ?_); generalize wr.drew = w20 at HO_0 HK HB hx425_0 hx426_0 hHeld ⊢; refine pu 0 16 HT_.out ?_; refine pu 1 17 HT_.out ?_; refine pu 2 18 HT_.out ?_; refine pu 3 19 HT_.out ?_; refine pu 4 20 HT_.out ?_; refine pu 5 21 HT_.out ?_; refine pu 6 22 HT_.out ?_; refine pu 8 24 HT_.out ?_; refine pu 9 25 HT_.out ?_; refine pu 10 26 HT_.out ?_; refine pu 11 27 HT_.out ?_; refine tk 7 23 HT_.out HW_.out hHeld ?_ (hy := by rintro w' ⟨s0, s1⟩; go_simp; with_reducible rfl); refine tk 12 28 HT_.out HW_.out hHeld ?_ (hy := by rintro w' ⟨s0, s1⟩; go_simp; with_reducible rfl); refine one_ (i := 13) (N := some 29) #[true, true, true, true, true, true, true, true, true, true, true, true, true, true, false] rfl rfl (one_of HT_.out (by kernel_rfl)) (by decide) (fun K hK => ?_); refine goes_ Tryz.func155 (by kernel_rfl) rfl #[.int .i64 (rd x0_2 x7_2), .int .i64 (rd x0_2 (ji8))] (by rfl) rfl rfl (by (try simp only [List.map_toArray, List.map_cons, List.map_nil]); first | done | (simp only [hji8]; rfl) | rfl | (simp only [List.length_drop, List.length_take]; rfl)) ?_; (with_reducible refine (cmp_Less_int.calls (rd x0_2 x7_2) (rd x0_2 (ji8)) false _ A11.out).mono ?_); rintro e w' ⟨rfl, ⟨nd, rfl⟩⟩; refine ⟨_, rfl, ?_⟩; refine hK.out _ _ ⟨hHeld.1, hHeld.2⟩ (fun hHeld => ?_); clear hK K; refine norm_ (a' := ?_) ?_ ?_
           rotate_left
           ·show Act.put _ (some 29) _ = _; simp only [Act.put, List.setIfInBounds_toArray, List.set_cons_zero, List.set_cons_succ, i64_w, i32_w]; rfl
           refine pu 14 30 HT_.out ?_; refine done_ (done_of HT_.out (by kernel_rfl)) ?_; try go_wp2
           first | go_roundg k2 | (simp only [← hji8]; go_roundg k2)
           case measure => have := HK1.out; have := HK2.out; omega
           case rel => exact ⟨(x0_2), (wrap64 (x6_1 + 1)), (sr2), H', ⟨by have := HK1.out; have := HK2.out; omega⟩, ⟨rR HO_0.out⟩, ⟨by repeat (first | (with_reducible first | exact HK.out | apply Kept.alloc | apply Kept.drewN | apply Kept.drew) | exact HK.out)⟩, ⟨bl HB.out⟩⟩
          rw [if_neg c10] at H; exact absurd H (by simp)
         rw [if_neg c9] at H; exact absurd H (by simp)
        rw [if_neg c7] at H; exact absurd H (by simp)
       rw [if_neg c6] at H; exact absurd H (by simp)
      rw [if_neg c5] at H; have c5b0 := decide_eq_false c5; clear c5; have H' := Aside0.mk H; clear H; (try go_wp2); replace HO_0 := Aside0.mk (Kd.R_drew HO_0.out); replace HK := Aside0.mk (Kept.drew HK.out); replace HB := bd1 HB; refine start_ (n := 15) (S := fun w' => True) (ds := []) #[false, false, false, false, false, false, false, false, false, false, false, false, false, false, false] (by kernel_rfl) rfl rfl trivial (fun hHeld => ?_); refine with_tabW slices_insertionSortOrdered_int.tab4 slices_insertionSortOrdered_int.bits4 (fun HT_ HW_ => ?_); generalize wr.drew = w22 at HO_0 HK HB hHeld ⊢; refine pu 0 16 HT_.out ?_; refine pu 1 17 HT_.out ?_; refine pu 2 18 HT_.out ?_; refine pu 3 19 HT_.out ?_; refine pn 4 20 HT_.out ?_; refine pn 5 21 HT_.out ?_; refine pn 6 22 HT_.out ?_; refine pn 7 23 HT_.out ?_; refine pn 8 24 HT_.out ?_; refine pn 9 25 HT_.out ?_; refine pn 10 26 HT_.out ?_; refine pn 11 27 HT_.out ?_; refine pn 12 28 HT_.out ?_; refine pn 13 29 HT_.out ?_; refine pu 14 30 HT_.out ?_; refine done_ (done_of HT_.out (by kernel_rfl)) ?_; try go_wp2
      go_roundg k2
      case measure => have := HK1.out; have := HK2.out; omega
      case rel => exact ⟨(x0_2), (wrap64 (x6_1 + 1)), (sr2), H', ⟨by have := HK1.out; have := HK2.out; omega⟩, ⟨rR HO_0.out⟩, ⟨by repeat (first | (with_reducible first | exact HK.out | apply Kept.alloc | apply Kept.drewN | apply Kept.drew) | exact HK.out)⟩, ⟨bl HB.out⟩⟩
   rw [if_neg c4] at H; have c4b0 := decide_eq_false c4; clear c4; obtain rfl := Option.some.inj H; go_wp2
   first | go_end0 | ((try simp only [Exit.inBlock, Exit.then]); refine bodyPost_ret (results_none rfl _ _ _) rfl ?_)
   exact ⟨sr, rR HO_0.out, bl HB.out, by repeat (first | (with_reducible first | exact HK.out | apply Kept.alloc | apply Kept.drewN | apply Kept.drew) | exact HK.out)⟩
/-! ### slices_pdqsortOrdered_int: function 135 -/
mutual
def slices_pdqsortOrdered_int.l0 : Nat → List Int → Int → Int → Int → Bool → Option (List Int)
 | 0, _, _, _, _, _ => none
 | k + 1, x0, x1, x2, x3, x8 => if (wrap64 (x2 - x1)) ≤ 12 then ((slices_insertionSortOrdered_int.f k x0 x1 x2).bind fun t432 => (some t432)) else (if x3 = 0 then (none) else (if x8 = true then (none) else (none)))
def slices_pdqsortOrdered_int.f : Nat → List Int → Int → Int → Int → Option (List Int)
 | 0, _, _, _, _ => none
 | k + 1, l0, a1, a2, a3 => slices_pdqsortOrdered_int.l0 k l0 a1 a2 a3 true
end
theorem slices_pdqsortOrdered_int.calls (k : Nat) : ∀ (P0_ : Nat → Prop) (u9000_ : Value) (l0 : List Int) (a1 : Int) (a2 : Int) (a3 : Int) (r : List Int) (w0 w : World) (hB : Below w0.heap.size w0 w) (ho0 : Kd.R (Kd.int .i64) 3 w w0.heap.size P0_ u9000_ l0) (h : slices_pdqsortOrdered_int.f k l0 a1 a2 a3 = some r),
  Calls Tryz.prog 135 #[u9000_, .int .i64 a1, .int .i64 a2, .int .i64 a3] w fun e w' => e = .returned (.tuple #[]) ∧ Kd.R (Kd.int .i64) 3 w' w0.heap.size (fun k_ => (P0_ k_ ∨ w.heap.size ≤ k_)) u9000_ r ∧ Below w0.heap.size w0 w' ∧ Kept w w' (fun k_ => P0_ k_) := by
 induction k using Nat.strongRecOn with
 | _ k ih =>
 intro P0_ u9000_ l0 a1 a2 a3 r w0 w hB ho0 h
 cases k with
 | zero => exact absurd h (by simp [slices_pdqsortOrdered_int.f])
 | succ k =>
 simp only [slices_pdqsortOrdered_int.f] at h; have HO0 := Aside0.mk (show Kd.R (Kd.int .i64) 3 w w0.heap.size (fun k_ => (P0_ k_ ∨ w.heap.size ≤ k_)) u9000_ l0 from Kd.R_mono ho0 (fun k_ hk => (.inl hk))); have HK := Aside0.mk (Kept.refl w (fun k_ => P0_ k_)); have HW0 := Aside0.mk hB.size; have HB := Aside0.mk hB; clear hB; have H : (slices_pdqsortOrdered_int.l0 k l0 a1 a2 a3 true) = some r := h; clear h; have H' := Aside0.mk H; clear H; go_enter Tryz.func135, Tryz.ntmps135; go_wp2
 repeat (go_quiet (fail); try go_wp2)
 go_loopg [1, 2, 3, 8] k (fun kq v1 v2 v3 v8 w' => ∃ (x0_1 : List Int) (x1_1 : Int) (x2_1 : Int) (x3_1 : Int) (x8_1 : Bool), v1 = .int .i64 x1_1 ∧ v2 = .int .i64 x2_1 ∧ v3 = .int .i64 x3_1 ∧ v8 = .bool x8_1 ∧ Aside0 (slices_pdqsortOrdered_int.l0 kq x0_1 x1_1 x2_1 x3_1 x8_1 = some r) ∧ Aside0 (kq ≤ k) ∧ Aside0 (Kd.R (Kd.int .i64) 3 w' w0.heap.size (fun k_ => (P0_ k_ ∨ w.heap.size ≤ k_)) u9000_ x0_1) ∧ Aside0 (Kept w w' (fun k_ => P0_ k_)) ∧ Aside0 (Below w0.heap.size w0 w'))
 case atStart => exact ⟨(l0), (a1), (a2), (a3), (true), (sr2), (sr2), (sr2), (sr2), H', ⟨Nat.le_refl _⟩, ⟨rR HO0.out⟩, ⟨by repeat (first | (with_reducible first | exact HK.out | apply Kept.alloc | apply Kept.drewN | apply Kept.drew) | exact HK.out)⟩, ⟨bl HB.out⟩⟩
 case round =>
  clear H'; obtain ⟨x0_1, x1_1, x2_1, x3_1, x8_1, rfl, rfl, rfl, rfl, HA, HK1, HO_0, HK, HB⟩ := hrel
  cases gk with
  | zero => exact absurd HA.out (by simp [slices_pdqsortOrdered_int.l0])
  | succ k1 =>
   have H := HA.out; clear HA; simp only [slices_pdqsortOrdered_int.l0] at H
   by_cases c5 : (wrap64 (x2_1 - x1_1)) ≤ 12
   ·rw [if_pos c5] at H; have c5b0 := decide_eq_true c5; clear c5; obtain ⟨t432, A6, H⟩ := bi H; (try dsimp only at H); obtain rfl := Option.some.inj H; obtain ⟨Ao7, co7, eo7⟩ := Kd.R_slice HO_0.out; subst eo7; go_wp2_with (first | (go_at_call 149; (with_reducible refine (slices_insertionSortOrdered_int.calls k1 (fun k_ => some k_ = (.slice Ao7 x0_1.length co7 : Value).ownBlock) (.slice Ao7 x0_1.length co7) x0_1 x1_1 x2_1 t432 w0 _ ?side1 (Kd.R_tight rfl HO_0.out) A6.out).mono ?_); (case side1 => repeat (first | (with_reducible first | exact HB.out | apply below_alloc | apply pw_below_drewN | apply below_drew1) | exact HB.out)); rintro e w8 ⟨rfl, hy0, hb, hkp⟩; replace HK := Aside0.mk (Kept.then_ (S := (fun k_ => P0_ k_)) (by repeat (first | (with_reducible first | exact HK.out | apply Kept.alloc | apply Kept.drewN | apply Kept.drew) | exact HK.out)) hkp (fun k_ hs_ => (fun e_ => (HO_0.out.1 k_ e_.symm)) hs_)); replace HO_0 := Aside0.mk (Kd.R_reok rfl hy0 (fun k_ e_ => HO_0.out.1 k_ e_)); replace HB := Aside0.mk (hb)))
    repeat (go_quiet (first | (go_at_call 149; (with_reducible refine (slices_insertionSortOrdered_int.calls k1 (fun k_ => some k_ = (.slice Ao7 x0_1.length co7 : Value).ownBlock) (.slice Ao7 x0_1.length co7) x0_1 x1_1 x2_1 t432 w0 _ ?side1 (Kd.R_tight rfl HO_0.out) A6.out).mono ?_); (case side1 => repeat (first | (with_reducible first | exact HB.out | apply below_alloc | apply pw_below_drewN | apply below_drew1) | exact HB.out)); rintro e w8 ⟨rfl, hy0, hb, hkp⟩; replace HK := Aside0.mk (Kept.then_ (S := (fun k_ => P0_ k_)) (by repeat (first | (with_reducible first | exact HK.out | apply Kept.alloc | apply Kept.drewN | apply Kept.drew) | exact HK.out)) hkp (fun k_ hs_ => (fun e_ => (HO_0.out.1 k_ e_.symm)) hs_)); replace HO_0 := Aside0.mk (Kd.R_reok rfl hy0 (fun k_ e_ => HO_0.out.1 k_ e_)); replace HB := Aside0.mk (hb))); try go_wp2_with (first | (go_at_call 149; (with_reducible refine (slices_insertionSortOrdered_int.calls k1 (fun k_ => some k_ = (.slice Ao7 x0_1.length co7 : Value).ownBlock) (.slice Ao7 x0_1.length co7) x0_1 x1_1 x2_1 t432 w0 _ ?side1 (Kd.R_tight rfl HO_0.out) A6.out).mono ?_); (case side1 => repeat (first | (with_reducible first | exact HB.out | apply below_alloc | apply pw_below_drewN | apply below_drew1) | exact HB.out)); rintro e w8 ⟨rfl, hy0, hb, hkp⟩; replace HK := Aside0.mk (Kept.then_ (S := (fun k_ => P0_ k_)) (by repeat (first | (with_reducible first | exact HK.out | apply Kept.alloc | apply Kept.drewN | apply Kept.drew) | exact HK.out)) hkp (fun k_ hs_ => (fun e_ => (HO_0.out.1 k_ e_.symm)) hs_)); replace HO_0 := Aside0.mk (Kd.R_reok rfl hy0 (fun k_ e_ => HO_0.out.1 k_ e_)); replace HB := Aside0.mk (hb))))
    first | go_end0 | ((try simp only [Exit.inBlock, Exit.then]); refine bodyPost_ret (results_none rfl _ _ _) rfl ?_)
    exact ⟨sr, rR HO_0.out, bl HB.out, by repeat (first | (with_reducible first | exact HK.out | apply Kept.alloc | apply Kept.drewN | apply Kept.drew) | exact HK.out)⟩
   rw [if_neg c5] at H; have c5b0 := decide_eq_false c5; clear c5
   by_cases c9 : x3_1 = 0
   ·rw [if_pos c9] at H; exact absurd H (by simp)
   rw [if_neg c9] at H; have c9b0 := beq_eq_false_iff_ne.mpr c9; have c9b1 := bne_iff_ne.mpr c9
   by_cases c10 : x8_1 = true
   ·subst c10; rw [if_pos rfl] at H; exact absurd H (by simp)
   replace c10 := Bool.eq_false_iff.mpr c10; subst c10; rw [if_neg (show ¬ (false = true) by decide)] at H; exact absurd H (by simp)
/-! ### slices_Sort_int_int: function 114 -/
def slices_Sort_int_int.f (k : Nat) (l0 : List Int) : Option (List Int) := (bits_Len.f (IntKind.u64.wrap ((l0.length : Int)))).bind fun t433 => ((slices_pdqsortOrdered_int.f k l0 0 (l0.length : Int) t433).bind fun t434 => (some t434))
theorem slices_Sort_int_int.calls (k : Nat) (P0_ : Nat → Prop) (u9000_ : Value) (l0 : List Int) (r : List Int) (w0 w : World) (hB : Below w0.heap.size w0 w) (ho0 : Kd.R (Kd.int .i64) 3 w w0.heap.size P0_ u9000_ l0) (h : slices_Sort_int_int.f k l0 = some r) :
  Calls Tryz.prog 114 #[u9000_] w fun e w' => e = .returned (.tuple #[]) ∧ Kd.R (Kd.int .i64) 3 w' w0.heap.size (fun k_ => (P0_ k_ ∨ w.heap.size ≤ k_)) u9000_ r ∧ Below w0.heap.size w0 w' ∧ Kept w w' (fun k_ => P0_ k_) := by
 have HO0 := Aside0.mk (show Kd.R (Kd.int .i64) 3 w w0.heap.size (fun k_ => (P0_ k_ ∨ w.heap.size ≤ k_)) u9000_ l0 from Kd.R_mono ho0 (fun k_ hk => (.inl hk))); have HK := Aside0.mk (Kept.refl w (fun k_ => P0_ k_)); have HW0 := Aside0.mk hB.size; have HB := Aside0.mk hB; clear hB; have H : ((bits_Len.f (IntKind.u64.wrap ((l0.length : Int)))).bind fun t433 => ((slices_pdqsortOrdered_int.f k l0 0 (l0.length : Int) t433).bind fun t434 => (some t434))) = some r := h; clear h; obtain ⟨t433, A2, H⟩ := bi H; (try dsimp only at H); obtain ⟨t434, A3, H⟩ := bi H; (try dsimp only at H); obtain rfl := Option.some.inj H; obtain ⟨Ao4, co4, eo4⟩ := Kd.R_slice HO0.out; subst eo4; go_enter Tryz.func114, Tryz.ntmps114; go_wp2_with (first | ((with_reducible refine gate_callee (f := 110) rfl ?_); refine goesL_ (some 9) rfl rfl Tryz.func110 (by kernel_rfl) rfl #[.int .u64 (IntKind.u64.wrap ((l0.length : Int)))] rfl mp ?_; (with_reducible refine (bits_Len.calls (IntKind.u64.wrap ((l0.length : Int))) t433 _ A2.out).mono ?_); rintro e w' ⟨rfl, ⟨nd, rfl⟩⟩; refine ⟨_, rfl, ?_⟩) | ((with_reducible refine gate_callee (f := 135) rfl ?_); refine goesL_ (some 10) rfl rfl Tryz.func135 (by kernel_rfl) rfl #[.slice Ao4 l0.length co4, .int .i64 0, .int .i64 (l0.length : Int), .int .i64 t433] rfl mp ?_; (with_reducible refine (slices_pdqsortOrdered_int.calls k (fun k_ => some k_ = (.slice Ao4 l0.length co4 : Value).ownBlock) (.slice Ao4 l0.length co4) l0 0 (l0.length : Int) t433 t434 w0 _ ?side1 ?side2 A3.out).mono ?_); (case side1 => repeat (first | (with_reducible first | exact HB.out | apply below_alloc | apply pw_below_drewN | apply below_drew1) | exact HB.out)); (case side2 => exact Kd.R_tight rfl HO0.out); rintro e w5 ⟨rfl, hy0, hb, hkp⟩; refine ⟨_, rfl, ?_⟩; replace HK := Aside0.mk (Kept.then_ (S := (fun k_ => P0_ k_)) (by repeat (first | (with_reducible first | exact HK.out | apply Kept.alloc | apply Kept.drewN | apply Kept.drew) | exact HK.out)) hkp (fun k_ hs_ => (fun e_ => (HO0.out.1 k_ e_.symm)) hs_)); replace HO0 := Aside0.mk (Kd.R_reok rfl hy0 (fun k_ e_ => HO0.out.1 k_ e_)); replace HB := Aside0.mk (hb)))
 first | go_end0 | ((try simp only [Exit.inBlock, Exit.then]); refine bodyPost_ret (results_none rfl _ _ _) rfl ?_)
 exact ⟨sr, rR HO0.out, bl HB.out, by repeat (first | (with_reducible first | exact HK.out | apply Kept.alloc | apply Kept.drewN | apply Kept.drew) | exact HK.out)⟩
/-! ### impl_isWord: function 92 -/
def impl_isWord.l0 : Nat → List Int → Int → Int → Option (Bool)
 | 0, _, _, _ => none
 | k + 1, x10, x11, x12 => if x12 < x11 then (if 0 ≤ x12 then (if x12 < (x10.length : Int) then (if (rd x10 x12) = x12 then (impl_isWord.l0 k x10 x11 (wrap64 (x12 + 1))) else (some false)) else (none)) else (none)) else (some true)
def impl_isWord.f (k : Nat) (l0 : List Int) : Option (Bool) := (slices_Clone_int_int.f l0).bind fun t435 => ((slices_Sort_int_int.f k t435).bind fun t438 => (impl_isWord.l0 k t438 (t435.length : Int) 0))
theorem impl_isWord.calls (k : Nat) (A0 : Option Addr) (c0 : Nat) (l0 : List Int) (r : Bool) (w : World) (hr0 : Kd.C (Kd.int .i64) w A0 l0.length l0) (hc0 : l0.length ≤ c0) (h : impl_isWord.f k l0 = some r) :
  Calls Tryz.prog 92 #[.slice A0 l0.length c0] w fun e w' => e = .returned (.bool r) ∧ Below w.heap.size w w' := by
 have HR0 := Aside0.mk hr0; have HC0 := Aside0.mk hc0; clear hr0 hc0; have HB := Aside0.mk (Below.refl w.heap.size w); have H : ((slices_Clone_int_int.f l0).bind fun t435 => ((slices_Sort_int_int.f k t435).bind fun t438 => (impl_isWord.l0 k t438 (t435.length : Int) 0))) = some r := h; clear h; obtain ⟨t435, A2, H⟩ := bi H; (try dsimp only at H); obtain ⟨t438, A3, H⟩ := bi H; (try dsimp only at H); have H' := Aside0.mk H; clear H; go_enter Tryz.func92, Tryz.ntmps92; go_wp2_with (first | (go_at_call 107; (with_reducible refine (slices_Clone_int_int.calls _ _ l0 t435 _ ?side1 HC0.out A2.out).mono ?_); (case side1 => exact cw HR0.out); rintro e w4 ⟨v436, rfl, ho0, hb⟩; have HO437 := Aside0.mk (Kd.R_lower ho0 (below_size (bl HB.out))); replace HB := bst HB hb; obtain ⟨Ao5, co5, eo5⟩ := Kd.R_slice HO437.out; subst eo5) | (go_at_call 114; (with_reducible refine (slices_Sort_int_int.calls k (fun k_ => some k_ = (.slice Ao5 t435.length co5 : Value).ownBlock) (.slice Ao5 t435.length co5) t435 t438 w _ ?side1 (Kd.R_tight rfl HO437.out) A3.out).mono ?_); (case side1 => repeat (first | (with_reducible first | exact HB.out | apply below_alloc | apply pw_below_drewN | apply below_drew1) | exact HB.out)); rintro e w6 ⟨rfl, hy0, hb, hkp⟩; replace HO437 := Aside0.mk (Kd.R_reok rfl hy0 (fun k_ e_ => HO437.out.1 k_ e_)); replace HB := Aside0.mk (hb)))
 go_loopg [12] k (fun kq v12 w' => ∃ (x12_1 : Int), v12 = .int .i64 x12_1 ∧ Aside0 (impl_isWord.l0 kq t438 (t435.length : Int) x12_1 = some r) ∧ Aside0 (kq ≤ k) ∧ Aside0 (Kd.R (Kd.int .i64) 3 w' w.heap.size (fun _ => True) (.slice Ao5 t435.length co5) t438) ∧ Aside0 (Below w.heap.size w w'))
 case atStart => exact ⟨(0), (sr2), H', ⟨Nat.le_refl _⟩, ⟨rR HO437.out⟩, ⟨bl HB.out⟩⟩
 case round =>
  clear H'; obtain ⟨x12_1, rfl, HA, HK1, HO_10, HB⟩ := hrel; have hl10_1 := (Kd.R_reads' HO_10.out).1; rw [hl10_1] at HO_10; (try simp only [hl10_1])
  cases gk with
  | zero => exact absurd HA.out (by simp [impl_isWord.l0])
  | succ k1 =>
   have H := HA.out; clear HA; simp only [impl_isWord.l0] at H
   by_cases c7 : x12_1 < (t435.length : Int)
   ·rw [if_pos c7] at H; have c7b0 := decide_eq_true c7; clear c7; (try simp only [hl10_1] at c7b0)
    by_cases c8 : 0 ≤ x12_1
    ·rw [if_pos c8] at H; have c8b0 := decide_eq_true c8; clear c8; (try simp only [hl10_1] at c8b0)
     by_cases c9 : x12_1 < (t438.length : Int)
     ·rw [if_pos c9] at H; have c9b0 := decide_eq_true c9; clear c9; (try simp only [hl10_1] at c9b0)
      by_cases c10 : (rd t438 x12_1) = x12_1
      ·rw [if_pos c10] at H; have c10b0 := beq_iff_eq.mpr c10; have c10b1 := bne_eq_false_iff_eq.mpr c10; clear c10; (try simp only [hl10_1] at c10b0 c10b1); have H' := Aside0.mk H; clear H; obtain ⟨ad439, e439, hx439_0, p439, q439⟩ := atI (Kd.R_reads' HO_10.out).2.2 x12_1; cases e439; go_wp2; (try simp only [← hl10_1])
       go_roundg k1
       case measure => have := HK1.out; omega
       case rel => exact ⟨(wrap64 (x12_1 + 1)), (sr2), H', ⟨by have := HK1.out; omega⟩, ⟨by (try simp only [hl10_1]); (with_reducible repeat (first | apply Kd.R_alloc | apply Kd.R_drewN | apply Kd.R_drew)); exact HO_10.out⟩, ⟨bl HB.out⟩⟩
      rw [if_neg c10] at H; have c10b0 := beq_eq_false_iff_ne.mpr c10; have c10b1 := bne_iff_ne.mpr c10; (try simp only [hl10_1] at c10b0 c10b1); obtain rfl := Option.some.inj H; obtain ⟨ad439, e439, hx439_0, p439, q439⟩ := atI (Kd.R_reads' HO_10.out).2.2 x12_1; cases e439; go_wp2; go_ret; exact ⟨sr, bl HB.out⟩
     rw [if_neg c9] at H; exact absurd H (by simp)
    rw [if_neg c8] at H; exact absurd H (by simp)
   rw [if_neg c7] at H; have c7b0 := decide_eq_false c7; clear c7; (try simp only [hl10_1] at c7b0); obtain rfl := Option.some.inj H; go_wp2; go_ret; exact ⟨sr, bl HB.out⟩
/-! ### impl_isStack: function 53 -/
def impl_isStack.f (k : Nat) (l0 : List Int) : Option (Bool) := (impl_in.f (l0.length : Int) 1 8).bind fun t440 => (if t440 = true then ((impl_isWord.f k l0).bind fun t441 => (some t441)) else (some false))
theorem impl_isStack.calls (k : Nat) (A0 : Option Addr) (c0 : Nat) (l0 : List Int) (r : Bool) (w : World) (hr0 : Kd.C (Kd.int .i64) w A0 l0.length l0) (hc0 : l0.length ≤ c0) (h : impl_isStack.f k l0 = some r) :
  Calls Tryz.prog 53 #[.slice A0 l0.length c0] w fun e w' => e = .returned (.bool r) ∧ Below w.heap.size w w' := by
 have HR0 := Aside0.mk hr0; have HC0 := Aside0.mk hc0; clear hr0 hc0; have HB := Aside0.mk (Below.refl w.heap.size w); have H : ((impl_in.f (l0.length : Int) 1 8).bind fun t440 => (if t440 = true then ((impl_isWord.f k l0).bind fun t441 => (some t441)) else (some false))) = some r := h; clear h; obtain ⟨t440, A2, H⟩ := bi H; (try dsimp only at H)
 by_cases c3 : t440 = true
 ·subst c3; rw [if_pos rfl] at H; obtain ⟨t441, A4, H⟩ := bi H; (try dsimp only at H); obtain rfl := Option.some.inj H; go_enter Tryz.func53, Tryz.ntmps53; go_wp2_with (first | (go_at_call 46; (with_reducible refine (impl_in.calls (l0.length : Int) 1 8 true _ A2.out).mono ?_); rintro e w' ⟨rfl, ⟨nd, rfl⟩⟩) | (go_at_call 92; (with_reducible refine (impl_isWord.calls k _ _ l0 t441 _ ?side1 HC0.out A4.out).mono ?_); (case side1 => exact cw HR0.out); rintro e w5 ⟨rfl, hb⟩; replace HB := bst HB hb)); go_ret; exact ⟨sr, bl HB.out⟩
 replace c3 := Bool.eq_false_iff.mpr c3; subst c3; rw [if_neg (show ¬ (false = true) by decide)] at H; obtain rfl := Option.some.inj H; go_enter Tryz.func53, Tryz.ntmps53; go_wp2_with (first | (go_at_call 46; (with_reducible refine (impl_in.calls (l0.length : Int) 1 8 false _ A2.out).mono ?_); rintro e w' ⟨rfl, ⟨nd, rfl⟩⟩)); go_ret; exact ⟨sr, bl HB.out⟩
/-! ### impl_IsFolding: function 13 -/
def impl_IsFolding.f (k : Nat) (l0 : List Int) : Option (Bool × Bool) := (impl_isStack.f k l0).bind fun t442 => (if t442 = true then ((impl_isFolding.f k l0).bind fun t443 => (some (t443, true))) else (some (false, false)))
theorem impl_IsFolding.calls (k : Nat) (A0 : Option Addr) (c0 : Nat) (l0 : List Int) (r1 : Bool) (r2 : Bool) (w : World) (hr0 : Kd.C (Kd.int .i64) w A0 l0.length l0) (hc0 : l0.length ≤ c0) (h : impl_IsFolding.f k l0 = some (r1, r2)) :
  Calls Tryz.prog 13 #[.slice A0 l0.length c0] w fun e w' => e = .returned (.tuple #[.bool r1, .bool r2]) ∧ Below w.heap.size w w' := by
 have HR0 := Aside0.mk hr0; have HC0 := Aside0.mk hc0; clear hr0 hc0; have HB := Aside0.mk (Below.refl w.heap.size w); have H : ((impl_isStack.f k l0).bind fun t442 => (if t442 = true then ((impl_isFolding.f k l0).bind fun t443 => (some (t443, true))) else (some (false, false)))) = some (r1, r2) := h; clear h; obtain ⟨t442, A2, H⟩ := bi H; (try dsimp only at H)
 by_cases c3 : t442 = true
 ·subst c3; rw [if_pos rfl] at H; obtain ⟨t443, A4, H⟩ := bi H; (try dsimp only at H); simp only [Option.some.injEq, Prod.mk.injEq] at H; obtain ⟨rfl, rfl⟩ := H; go_enter Tryz.func13, Tryz.ntmps13; go_wp2_with (first | (go_at_call 53; (with_reducible refine (impl_isStack.calls k _ _ l0 true _ ?side1 HC0.out A2.out).mono ?_); (case side1 => exact cw HR0.out); rintro e w5 ⟨rfl, hb⟩; replace HB := bst HB hb) | (go_at_call 54; (with_reducible refine (impl_isFolding.calls k _ _ l0 t443 _ ?side1 HC0.out A4.out).mono ?_); (case side1 => exact cw (Kd.C_below HR0.out HB.out)); rintro e w6 ⟨rfl, hb⟩; replace HB := bst HB hb)); go_ret2; exact ⟨sr, bl HB.out⟩
 replace c3 := Bool.eq_false_iff.mpr c3; subst c3; rw [if_neg (show ¬ (false = true) by decide)] at H; simp only [Option.some.injEq, Prod.mk.injEq] at H; obtain ⟨rfl, rfl⟩ := H; go_enter Tryz.func13, Tryz.ntmps13; go_wp2_with (first | (go_at_call 53; (with_reducible refine (impl_isStack.calls k _ _ l0 false _ ?side1 HC0.out A2.out).mono ?_); (case side1 => exact cw HR0.out); rintro e w7 ⟨rfl, hb⟩; replace HB := bst HB hb)); go_ret2; exact ⟨sr, bl HB.out⟩
/-! ### laws_yLess: function 14 -/
def laws_yLess.l0 : Nat → List Int → List Int → Int → Int → Option (Bool)
 | 0, _, _, _, _ => none
 | k + 1, x0, x1, x7, x8 => if x8 < x7 then (if 0 ≤ x8 then (if x8 < (x0.length : Int) then (if x8 < (x1.length : Int) then (if (rd x0 x8) = (rd x1 x8) then (laws_yLess.l0 k x0 x1 x7 (wrap64 (x8 + 1))) else (some (decide ((rd x0 x8) < (rd x1 x8))))) else (none)) else (none)) else (none)) else (some false)
def laws_yLess.f (k : Nat) (l0 : List Int) (l1 : List Int) : Option (Bool) := laws_yLess.l0 k l0 l1 (l0.length : Int) 0
theorem laws_yLess.mono_l : ∀ k, (∀ y0 y1 y2 y3, LeO (laws_yLess.l0 k y0 y1 y2 y3) (laws_yLess.l0 (k + 1) y0 y1 y2 y3))
 | 0 => fun _ _ _ _ r h => by simp [laws_yLess.l0] at h
 | k + 1 => by
  have ih0 := laws_yLess.mono_l k
  ·intro y0 y1 y2 y3
   unfold laws_yLess.l0
   repeat' first
   | (with_reducible exact ih0 _ _ _ _)
   | (with_reducible exact LeO.refl _)
   | (with_reducible exact LeO.none _)
   | (with_reducible refine LeO.ite ?_ ?_)
   | (with_reducible refine LeO.bind ?_ (fun _ => ?_))
   | exact ih0 _ _ _ _
   | exact LeO.none _
   | refine LeO.ite ?_ ?_
   | refine LeO.bind ?_ (fun _ => ?_)
theorem laws_yLess.mono : ∀ a0 a1 k, LeO (laws_yLess.f k a0 a1) (laws_yLess.f (k + 1) a0 a1) := by
 intro a0 a1 k; have ih0 := laws_yLess.mono_l k; unfold laws_yLess.f
 repeat' first
   | (with_reducible exact ih0 _ _ _ _)
   | (with_reducible exact LeO.refl _)
   | (with_reducible exact LeO.none _)
   | (with_reducible refine LeO.ite ?_ ?_)
   | (with_reducible refine LeO.bind ?_ (fun _ => ?_))
   | exact ih0 _ _ _ _
   | exact LeO.none _
   | refine LeO.ite ?_ ?_
   | refine LeO.bind ?_ (fun _ => ?_)
theorem laws_yLess.calls (k : Nat) (A0 : Option Addr) (c0 : Nat) (l0 : List Int) (A1 : Option Addr) (c1 : Nat) (l1 : List Int) (r : Bool) (w : World) (hr0 : Kd.C (Kd.int .i64) w A0 l0.length l0) (hc0 : l0.length ≤ c0) (hr1 : Kd.C (Kd.int .i64) w A1 l1.length l1) (hc1 : l1.length ≤ c1) (h : laws_yLess.f k l0 l1 = some r) :
  Calls Tryz.prog 14 #[.slice A0 l0.length c0, .slice A1 l1.length c1] w fun e w' => e = .returned (.bool r) ∧ Drawn0 w w' := by
 have HR0 := Aside0.mk hr0; have HC0 := Aside0.mk hc0; clear hr0 hc0; have HR1 := Aside0.mk hr1; have HC1 := Aside0.mk hc1; clear hr1 hc1; have H : (laws_yLess.l0 k l0 l1 (l0.length : Int) 0) = some r := h; clear h; have H' := Aside0.mk H; clear H; go_enter Tryz.func14, Tryz.ntmps14; go_wp2
 repeat (go_quiet (fail); try go_wp2)
 go_loopg [8] k (fun kq v8 w' => ∃ (x8_1 : Int), v8 = .int .i64 x8_1 ∧ Aside0 (laws_yLess.l0 kq l0 l1 (l0.length : Int) x8_1 = some r) ∧ Aside0 (kq ≤ k) ∧ Drawn0 w w')
 case atStart => exact ⟨(0), (sr2), H', ⟨Nat.le_refl _⟩, by repeat (first | exact Drawn0.refl _ | apply Drawn0.step)⟩
 case round =>
  clear H'; obtain ⟨x8_1, rfl, HA, HK1, ⟨m1, rfl⟩⟩ := hrel
  cases gk with
  | zero => exact absurd HA.out (by simp [laws_yLess.l0])
  | succ k1 =>
   have H := HA.out; clear HA; simp only [laws_yLess.l0] at H
   by_cases c3 : x8_1 < (l0.length : Int)
   ·rw [if_pos c3] at H; have c3b0 := decide_eq_true c3; clear c3
    by_cases c4 : 0 ≤ x8_1
    ·rw [if_pos c4] at H; have c4b0 := decide_eq_true c4; clear c4
     by_cases c5 : x8_1 < (l0.length : Int)
     ·rw [if_pos c5] at H; have c5b0 := decide_eq_true c5; clear c5
      by_cases c6 : x8_1 < (l1.length : Int)
      ·rw [if_pos c6] at H; have c6b0 := decide_eq_true c6; clear c6
       by_cases c7 : (rd l0 x8_1) = (rd l1 x8_1)
       ·rw [if_pos c7] at H; have c7b0 := beq_iff_eq.mpr c7; have c7b1 := bne_eq_false_iff_eq.mpr c7; clear c7; have H' := Aside0.mk H; clear H; obtain ⟨ad444, e444, hx444_0, p444, q444⟩ := atI HR0.out x8_1; cases e444; obtain ⟨ad445, e445, hx445_0, p445, q445⟩ := atI HR1.out x8_1; cases e445; go_wp2
        repeat (go_quiet (fail); try go_wp2)
        go_roundg k1
        case measure => have := HK1.out; omega
        case rel => exact ⟨(wrap64 (x8_1 + 1)), (sr2), H', ⟨by have := HK1.out; omega⟩, by repeat (first | exact Drawn0.refl _ | apply Drawn0.step)⟩
       rw [if_neg c7] at H; have c7b0 := beq_eq_false_iff_ne.mpr c7; have c7b1 := bne_iff_ne.mpr c7; obtain rfl := Option.some.inj H; obtain ⟨ad444, e444, hx444_0, p444, q444⟩ := atI HR0.out x8_1; cases e444; obtain ⟨ad445, e445, hx445_0, p445, q445⟩ := atI HR1.out x8_1; cases e445; obtain ⟨ad446, e446, hx446_0, p446, q446⟩ := atI HR0.out x8_1; obtain rfl : ad444 = ad446 := (by injection e446); obtain ⟨ad447, e447, hx447_0, p447, q447⟩ := atI HR1.out x8_1; obtain rfl : ad445 = ad447 := (by injection e447); go_wp2
       repeat (go_quiet (fail); try go_wp2)
       go_ret; exact ⟨sr2, by repeat (first | exact Drawn0.refl _ | apply Drawn0.step)⟩
      rw [if_neg c6] at H; exact absurd H (by simp)
     rw [if_neg c5] at H; exact absurd H (by simp)
    rw [if_neg c4] at H; exact absurd H (by simp)
   rw [if_neg c3] at H; have c3b0 := decide_eq_false c3; clear c3; obtain rfl := Option.some.inj H; go_wp2
   repeat (go_quiet (fail); try go_wp2)
   go_ret; exact ⟨sr2, by repeat (first | exact Drawn0.refl _ | apply Drawn0.step)⟩
/-! ### spec_DrawCountFoldings: function 55 -/
def spec_DrawCountFoldings.f (l0 : List Int) : Option (Int) := (spec_l1Cur_among.f l0 0 0 (([1, 2, 3, 4, 5, 6, 7, 8, 9, 0] : List Int))).bind fun bt452 => (some bt452.1)
theorem spec_DrawCountFoldings.calls (A0 : Option Addr) (c0 : Nat) (l0 : List Int) (r : Int) (w : World) (hr0 : Kd.C (Kd.int .u8) w A0 l0.length l0) (hc0 : l0.length ≤ c0) (h : spec_DrawCountFoldings.f l0 = some r) :
  Calls Tryz.prog 55 #[.slice A0 l0.length c0] w fun e w' => e = .returned (.int .i64 r) ∧ Below w.heap.size w w' := by
 have hu51 := Tryz.underlying51; have HR0 := Aside0.mk hr0; have HC0 := Aside0.mk hc0; clear hr0 hc0; have HB := Aside0.mk (Below.refl w.heap.size w); have H : ((spec_l1Cur_among.f l0 0 0 (([1, 2, 3, 4, 5, 6, 7, 8, 9, 0] : List Int))).bind fun bt452 => (some bt452.1)) = some r := h; clear h; obtain ⟨y449, hy449⟩ := yy (([1, 2, 3, 4, 5, 6, 7, 8, 9, 0] : List Int))
 (try rw [Option.bind_some] at H); (try dsimp only at H); rw [← hy449] at H
 have Ny449 := Aside0.mk hy449; clear hy449; obtain ⟨⟨t452, t453, t454⟩, A2, H⟩ := bi H; (try dsimp only at H); obtain rfl := Option.some.inj H; go_enter Tryz.func55, Tryz.ntmps55; go_wp2_with (first | ((with_reducible refine gate_dst (N := 6) rfl ?_); refine box_event ?hg (N := 6) ?hd (cs := #[.slice A0 l0.length c0, .int .i64 0, .int .u64 0]) (t := 51) ?hr ?_; (case hd => rfl); (case hg => rfl); (case hr => first | (go_simp; done) | (go_simp; rfl)); intro gb448 hg w3 hbox hb; have HI448 := Aside0.mk ((show IsS51 w w3 gb448 l0 0 0 from ⟨_, _, hbox, (by rw [hg]; exact (below_size (bl HB.out)) : w.heap.size ≤ gb448), HR0.out⟩)); replace HB := bst HB hb; clear hb hbox hg) | ((with_reducible refine gate_dst (N := 8) rfl ?_); refine Kd.R_lit (Kd.int .i64) _ 3 ?hg (N := 8) ?hd (xs := ([1, 2, 3, 4, 5, 6, 7, 8, 9, 0] : List Int)) (inner := [.int .i64 1, .int .i64 2, .int .i64 3, .int .i64 4, .int .i64 5, .int .i64 6, .int .i64 7, .int .i64 8, .int .i64 9, .int .i64 0]) (ok := fun _ => True) (okp := fun _ => True) ?hr ?hp (fun _ hk => hk) trivial (Below.refl _ _) (Nat.le_refl _) (by simp) ?_; (case hd => rfl); (case hg => rfl); (case hr => first | (go_simp; done) | (go_simp; rfl)); (case hp => exact (Reps.one (show Kd.M (Kd.int .i64) _ _ _ 1 [.int .i64 1] from rfl) (Reps.one (show Kd.M (Kd.int .i64) _ _ _ 2 [.int .i64 2] from rfl) (Reps.one (show Kd.M (Kd.int .i64) _ _ _ 3 [.int .i64 3] from rfl) (Reps.one (show Kd.M (Kd.int .i64) _ _ _ 4 [.int .i64 4] from rfl) (Reps.one (show Kd.M (Kd.int .i64) _ _ _ 5 [.int .i64 5] from rfl) (Reps.one (show Kd.M (Kd.int .i64) _ _ _ 6 [.int .i64 6] from rfl) (Reps.one (show Kd.M (Kd.int .i64) _ _ _ 7 [.int .i64 7] from rfl) (Reps.one (show Kd.M (Kd.int .i64) _ _ _ 8 [.int .i64 8] from rfl) (Reps.one (show Kd.M (Kd.int .i64) _ _ _ 9 [.int .i64 9] from rfl) (Reps.one (show Kd.M (Kd.int .i64) _ _ _ 0 [.int .i64 0] from rfl) (Reps.none _ _)))))))))))); intro v450 w4 ho5 hb hg_ hnew_; clear hg_ hnew_; (first | rw [← Ny449.out] at ho5 | (simp only [Int.reduceToNat] at ho5; rw [← Ny449.out] at ho5)); have HO451 := Aside0.mk (Kd.R_lower ho5 (below_size (bs1 HB.out (IsS51.ge HI448.out)))); replace HB := Aside0.mk (below_step (bs1 HB.out (IsS51.ge HI448.out)) hb); replace HI448 := Aside0.mk (IsS51.below (iS HI448.out) hb); clear hb ho5; obtain ⟨Ao6, co6, eo6⟩ := Kd.R_slice HO451.out; subst eo6) | (go_at_call 45; (with_reducible refine (spec_l1Cur_among.calls gb448 l0 0 0 _ _ y449 t452 t453 t454 w _ ?side1 ?side2 ?side3 ?side4 (far_slice (IsS51.own_ne HI448.out HO451.out (by decide))) A2.out).mono ?_); (case side1 => exact iS HI448.out); (case side2 => exact bs1 HB.out (IsS51.ge HI448.out)); (case side3 => exact cw ((Kd.R_reads' HO451.out).2.2)); (case side4 => exact (Kd.R_reads' HO451.out).2.1); rintro e w7 ⟨rfl, hi, hb, hk⟩; replace HO451 := Aside0.mk (Kd.R_mono (Kd.R_keep (IsS51.apart (show IsS51 w _ gb448 l0 0 0 from iS HI448.out) (rR HO451.out) (by decide)) hk (fun _ h => h.2)) (fun _ h => h.1)); replace HB := Aside0.mk (hb); replace HI448 := Aside0.mk (hi))); go_ret; exact ⟨sr, bs1 HB.out (IsS51.ge HI448.out)⟩
/-! ### spec_DrawFoldingsOnTop: function 15 -/
def spec_DrawFoldingsOnTop.f (l0 : List Int) : Option (Int) := (spec_DrawCountFoldings.f l0).bind fun t455 => (some t455)
theorem spec_DrawFoldingsOnTop.calls (A0 : Option Addr) (c0 : Nat) (l0 : List Int) (r : Int) (w : World) (hr0 : Kd.C (Kd.int .u8) w A0 l0.length l0) (hc0 : l0.length ≤ c0) (h : spec_DrawFoldingsOnTop.f l0 = some r) :
  Calls Tryz.prog 15 #[.slice A0 l0.length c0] w fun e w' => e = .returned (.int .i64 r) ∧ Below w.heap.size w w' := by
 have HR0 := Aside0.mk hr0; have HC0 := Aside0.mk hc0; clear hr0 hc0; have HB := Aside0.mk (Below.refl w.heap.size w); have H : ((spec_DrawCountFoldings.f l0).bind fun t455 => (some t455)) = some r := h; clear h; obtain ⟨t455, A2, H⟩ := bi H; (try dsimp only at H); obtain rfl := Option.some.inj H; go_enter Tryz.func15, Tryz.ntmps15; go_wp2_with (first | (go_at_call 55; (with_reducible refine (spec_DrawCountFoldings.calls _ _ l0 t455 _ ?side1 HC0.out A2.out).mono ?_); (case side1 => exact cw HR0.out); rintro e w3 ⟨rfl, hb⟩; replace HB := bst HB hb)); go_ret; exact ⟨sr, bl HB.out⟩
/-! ### impl_FoldingsOnTop: function 16 -/
def impl_FoldingsOnTop.f (k : Nat) (a0 : Int) : Option ((List (List Int)) × Bool) := (impl_in.f a0 1 8).bind fun t456 => (if t456 = true then ((impl_foldings.f k a0 true).bind fun t457 => (some (t457, true))) else (some (([] : List (List Int)), false)))
theorem impl_FoldingsOnTop.calls (k : Nat) (a0 : Int) (r1 : List (List Int)) (r2 : Bool) (w : World) (h : impl_FoldingsOnTop.f k a0 = some (r1, r2)) :
  Calls Tryz.prog 16 #[.int .i64 a0] w fun e w' => ∃ v0_ : Value, e = .returned (.tuple #[v0_, .bool r2]) ∧ Kd.S (Kd.slice 3 (Kd.int .i64)) 31 w' w.heap.size (fun _ => True) v0_ r1 ∧ Below w.heap.size w w' := by
 have HB := Aside0.mk (Below.refl w.heap.size w); have H : ((impl_in.f a0 1 8).bind fun t456 => (if t456 = true then ((impl_foldings.f k a0 true).bind fun t457 => (some (t457, true))) else (some (([] : List (List Int)), false)))) = some (r1, r2) := h; clear h; obtain ⟨t456, A2, H⟩ := bi H; (try dsimp only at H)
 by_cases c3 : t456 = true
 ·subst c3; rw [if_pos rfl] at H; obtain ⟨t457, A4, H⟩ := bi H; (try dsimp only at H); simp only [Option.some.injEq, Prod.mk.injEq] at H; obtain ⟨rfl, rfl⟩ := H; go_enter Tryz.func16, Tryz.ntmps16; go_wp2_with (first | (go_at_call 46; (with_reducible refine (impl_in.calls a0 1 8 true _ A2.out).mono ?_); rintro e w' ⟨rfl, ⟨nd, rfl⟩⟩) | (go_at_call 47; (with_reducible refine (impl_foldings.calls k a0 true t457 _ A4.out).mono ?_); rintro e w5 ⟨v458, rfl, ho0, hb⟩; have HO459 := Aside0.mk (Kd.S_lower ho0 (below_size (bl HB.out))); replace HB := bst HB hb)); go_ret2; exact ⟨_, sr, rS HO459.out, bl HB.out⟩
 replace c3 := Bool.eq_false_iff.mpr c3; subst c3; rw [if_neg (show ¬ (false = true) by decide)] at H; simp only [Option.some.injEq, Prod.mk.injEq] at H; obtain ⟨rfl, rfl⟩ := H; go_enter Tryz.func16, Tryz.ntmps16; go_wp2_with (first | (go_at_call 46; (with_reducible refine (impl_in.calls a0 1 8 false _ A2.out).mono ?_); rintro e w' ⟨rfl, ⟨nd, rfl⟩⟩)); go_ret2; exact ⟨_, sr, by first | exact Kd.S_nil _ _ _ _ _ | exact Kd.N_nil _ _ _ _ _ | exact Kd.V_nil _ _ _ _ _ | exact Kd.Q_nil _ _ _ _ _ | exact Kd.R_nil _ _ _ _ _, bl HB.out⟩
/-! ### spec_spStamps: function 56 -/
def spec_spStamps.f (a0 : Int) : Option (Bool) := (spec_l1In.f a0 1 8).bind fun t460 => (some t460)
theorem spec_spStamps.calls (a0 : Int) (r : Bool) (w : World) (h : spec_spStamps.f a0 = some r) :
  Calls Tryz.prog 56 #[.int .i64 a0] w fun e w' => e = .returned (.bool r) ∧ Drawn0 w w' := by
 have H : ((spec_l1In.f a0 1 8).bind fun t460 => (some t460)) = some r := h; clear h; obtain ⟨t460, A2, H⟩ := bi H; (try dsimp only at H); obtain rfl := Option.some.inj H; go_enter Tryz.func56, Tryz.ntmps56; go_wp2_with (first | (go_at_call 48; (with_reducible refine (spec_l1In.calls a0 1 8 t460 _ A2.out).mono ?_); rintro e w' ⟨rfl, ⟨nd, rfl⟩⟩)); go_ret; exact ⟨sr2, by repeat (first | exact Drawn0.refl _ | apply Drawn0.step)⟩
/-! ### spec_FoldingsOnTop: function 17 -/
def spec_FoldingsOnTop.l0 : Nat → List (List Int) → List (List Int) → Int → Int → Option ((List (List Int)) × Bool)
 | 0, _, _, _, _ => none
 | k + 1, x4, x11, x12, x13 => if x13 < x12 then (if 0 ≤ x13 then (if x13 < (x11.length : Int) then ((spec_spPut.f k x4 (rd_L3 x11 x13)).bind fun t466 => (spec_FoldingsOnTop.l0 k t466 x11 x12 (wrap64 (x13 + 1)))) else (none)) else (none)) else (some (x4, true))
def spec_FoldingsOnTop.f (k : Nat) (a0 : Int) : Option ((List (List Int)) × Bool) := (spec_spStamps.f a0).bind fun t461 => (if t461 = true then ((spec_spTop.f k a0).bind fun t462 => (spec_FoldingsOnTop.l0 k ([] : List (List Int)) t462 (t462.length : Int) 0)) else (some (([] : List (List Int)), false)))
theorem spec_FoldingsOnTop.calls (k : Nat) (a0 : Int) (r1 : List (List Int)) (r2 : Bool) (w : World) (h : spec_FoldingsOnTop.f k a0 = some (r1, r2)) :
  Calls Tryz.prog 17 #[.int .i64 a0] w fun e w' => ∃ v0_ : Value, e = .returned (.tuple #[v0_, .bool r2]) ∧ Kd.N (Kd.slice 3 (Kd.int .i64)) 31 w' w.heap.size (fun k_ => (w.heap.size ≤ k_)) v0_ r1 ∧ Below w.heap.size w w' := by
 have HB := Aside0.mk (Below.refl w.heap.size w); have H : ((spec_spStamps.f a0).bind fun t461 => (if t461 = true then ((spec_spTop.f k a0).bind fun t462 => (spec_FoldingsOnTop.l0 k ([] : List (List Int)) t462 (t462.length : Int) 0)) else (some (([] : List (List Int)), false)))) = some (r1, r2) := h; clear h; obtain ⟨t461, A2, H⟩ := bi H; (try dsimp only at H)
 by_cases c3 : t461 = true
 ·subst c3; rw [if_pos rfl] at H; obtain ⟨t462, A4, H⟩ := bi H; (try dsimp only at H); have H' := Aside0.mk H; clear H; go_enter Tryz.func17, Tryz.ntmps17; go_wp2_with (first | (go_at_call 56; (with_reducible refine (spec_spStamps.calls a0 true _ A2.out).mono ?_); rintro e w' ⟨rfl, ⟨nd, rfl⟩⟩) | (go_at_call 49; (with_reducible refine (spec_spTop.calls k a0 t462 _ A4.out).mono ?_); rintro e w5 ⟨v463, rfl, ho0, hb⟩; have HO464 := Aside0.mk (Kd.N_lower (Kd.N_mono (ok' := fun k_ => (w.heap.size ≤ k_)) ho0 (fun k_ hk_ => (Nat.le_trans (below_size (bl HB.out)) hk_))) (below_size (bl HB.out))); replace HB := bst HB hb; obtain ⟨Ao6, co6, eo6⟩ := Kd.N_slice HO464.out; subst eo6))
  go_loopg [4, 13] k (fun kq v4 v13 w' => ∃ (x4_1 : List (List Int)) (x13_1 : Int), v13 = .int .i64 x13_1 ∧ Aside0 (spec_FoldingsOnTop.l0 kq x4_1 t462 (t462.length : Int) x13_1 = some (r1, r2)) ∧ Aside0 (kq ≤ k) ∧ Aside0 (Kd.N (Kd.slice 3 (Kd.int .i64)) 31 w' w.heap.size (fun k_ => (w.heap.size ≤ k_) ∧ some k_ ≠ ((.slice Ao6 t462.length co6) : Value).ownBlock) v4 x4_1) ∧ Aside0 (Kd.N (Kd.slice 3 (Kd.int .i64)) 31 w' w.heap.size (fun k_ => (w.heap.size ≤ k_) ∧ some k_ ≠ (v4 : Value).ownBlock) (.slice Ao6 t462.length co6) t462) ∧ Aside0 (Below w.heap.size w w'))
  case atStart => exact ⟨(([] : List (List Int))), (0), (sr2), H', ⟨Nat.le_refl _⟩, ⟨by first | exact Kd.S_nil _ _ _ _ _ | exact Kd.N_nil _ _ _ _ _ | exact Kd.V_nil _ _ _ _ _ | exact Kd.Q_nil _ _ _ _ _ | exact Kd.R_nil _ _ _ _ _⟩, ⟨rN (Kd.N_mono HO464.out (fun _ hk => ⟨hk, (by simp [Value.ownBlock])⟩))⟩, ⟨bl HB.out⟩⟩
  case round =>
   clear H'; obtain ⟨x4_1, x13_1, rfl, HA, HK1, HO_4, HO_11, HB⟩ := hrel
   cases gk with
   | zero => exact absurd HA.out (by simp [spec_FoldingsOnTop.l0])
   | succ k1 =>
    have H := HA.out; clear HA; simp only [spec_FoldingsOnTop.l0] at H
    by_cases c7 : x13_1 < (t462.length : Int)
    ·rw [if_pos c7] at H; have c7b0 := decide_eq_true c7; clear c7
     by_cases c8 : 0 ≤ x13_1
     ·rw [if_pos c8] at H; have c8b0 := decide_eq_true c8; clear c8
      by_cases c9 : x13_1 < (t462.length : Int)
      ·rw [if_pos c9] at H; have c9b0 := decide_eq_true c9; clear c9; obtain ⟨t466, A10, H⟩ := bi H; (try dsimp only at H); have H' := Aside0.mk H; clear H; have p465 : 0 ≤ (x13_1 : Int) := od; have q465 : x13_1 < (t462.length : Int) := od; obtain ⟨ad465, A465_0, c465_0, e465, hx465_0, hl465_0, hi465_0⟩ := at_L3 (Kd.N_reads' HO_11.out).2.2 x13_1 p465 q465; cases e465; obtain ⟨ce465, hce465, hMe465, hcc465⟩ := Kd.N_get HO_11.out [] x13_1 p465 (by first | exact q465 | exact od | (have e_ := (Kd.N_reads' HO_11.out).1; omega)); obtain ⟨ua465_0, uc465_0, rfl, ul465_0, ge465_0⟩ := Kd.FK_slice_open hMe465; have hv465_0 := hcc465 0 _ rfl; rw [Nat.add_zero, show ((Kd.slice 3 (Kd.int .i64))).sz = 1 from rfl, Nat.mul_one] at hv465_0; replace hv465_0 := Option.some.inj (hv465_0.symm.trans hx465_0); (injection hv465_0 with hva_ hvn_ hvc_); rw [hva_] at ge465_0; rw [hvc_] at ul465_0; have HL465_0 := Aside0.mk (show Kd.V (Kd.int .i64) 3 _ w.heap.size _ _ (rd_L3 t462 x13_1) from Kd.V_mk ul465_0 ge465_0); clear hva_ hvn_ hvc_ ge465_0 ul465_0; clear hcc465 hce465; have HR465_0 := Aside0.mk hi465_0; have HC465_0 := Aside0.mk hl465_0; clear hi465_0 hl465_0; replace p465 := eq_true p465; replace q465 := eq_true q465; obtain ⟨Ao11, co11, eo11⟩ := Kd.N_slice HO_4.out; subst eo11; go_wp2_with (first | (go_at_call 50; (with_reducible refine (spec_spPut.calls k1 (fun k_ => ((w.heap.size ≤ k_) ∧ some k_ ≠ (.slice (some ad465) t462.length co6 : Value).ownBlock)) _ _ x4_1 (fun k_ => (((w.heap.size ≤ k_) ∧ some k_ ≠ (.slice Ao11 x4_1.length co11 : Value).ownBlock) ∧ some k_ ≠ (.slice (some ad465) t462.length co6 : Value).ownBlock)) _ _ (rd_L3 t462 x13_1) t466 _ ?side1 HL465_0.out A10.out).mono ?_); (case side1 => exact Kd.N_V (HO_4.out)); rintro e w12 ⟨v467, rfl, ho0, hb⟩; replace HO_4 := Aside0.mk (Kd.N_elder' (rN HO_4.out) (Kd.N_base ho0) hb); replace HL465_0 := Aside0.mk (Kd.V_elder' (rV HL465_0.out) (Kd.N_base ho0) hb); have HO468 := Aside0.mk (Kd.N_lower (Kd.N_mono (ok' := fun k_ => (w.heap.size ≤ k_) ∧ some k_ ≠ (.slice (some ad465) t462.length co6 : Value).ownBlock) ho0 (fun k_ hk_ => ⟨Or.elim hk_ (fun hs_ => Or.elim hs_ (fun hs_ => hs_.1) (fun hs_ => hs_.1.1)) (fun hn_ => (Nat.le_trans (below_size (bl HB.out)) hn_)), Or.elim hk_ (fun hs_ => Or.elim hs_ (fun hs_ => hs_.2) (fun hs_ => hs_.2)) (fun hn_ => (Kd.fresh' (Kd.N_lt (rN HO_11.out)) k_ hn_))⟩)) (below_size (bl HB.out))); replace HO_11 := Aside0.mk (Kd.N_elder' (rN HO_11.out) (Kd.N_base ho0) hb); replace HR465_0 := Aside0.mk (Kd.C_below (by repeat (first | (with_reducible exact HR465_0.out) | (with_reducible refine Kd.C_alloc ?_ _) | (with_reducible refine Kd.C_drewN ?_ _) | (with_reducible refine Kd.C_drew ?_) | exact HR465_0.out)) hb); replace HB := bst HB hb))
       go_roundg k1
       case measure => have := HK1.out; omega
       case rel => exact ⟨(t466), (wrap64 (x13_1 + 1)), (sr2), H', ⟨by have := HK1.out; omega⟩, ⟨rN HO468.out⟩, ⟨rN (Kd.N_mono HO_11.out (fun _ hk => ⟨hk.1.1, hk.2⟩))⟩, ⟨bl HB.out⟩⟩
      rw [if_neg c9] at H; exact absurd H (by simp)
     rw [if_neg c8] at H; exact absurd H (by simp)
    rw [if_neg c7] at H; have c7b0 := decide_eq_false c7; clear c7; simp only [Option.some.injEq, Prod.mk.injEq] at H; obtain ⟨rfl, rfl⟩ := H; go_wp2; go_ret2; exact ⟨_, sr, rN (Kd.N_mono HO_4.out (fun _ hk => hk.1)), bl HB.out⟩
 replace c3 := Bool.eq_false_iff.mpr c3; subst c3; rw [if_neg (show ¬ (false = true) by decide)] at H; simp only [Option.some.injEq, Prod.mk.injEq] at H; obtain ⟨rfl, rfl⟩ := H; go_enter Tryz.func17, Tryz.ntmps17; go_wp2_with (first | (go_at_call 56; (with_reducible refine (spec_spStamps.calls a0 false _ A2.out).mono ?_); rintro e w' ⟨rfl, ⟨nd, rfl⟩⟩)); go_ret2; exact ⟨_, sr, by first | exact Kd.S_nil _ _ _ _ _ | exact Kd.N_nil _ _ _ _ _ | exact Kd.V_nil _ _ _ _ _ | exact Kd.Q_nil _ _ _ _ _ | exact Kd.R_nil _ _ _ _ _, bl HB.out⟩
/-! ### spec_CountOnTop: function 18 -/
def spec_CountOnTop.f (k : Nat) (a0 : Int) : Option (Int × Bool) := (spec_spStamps.f a0).bind fun t469 => (if t469 = true then ((spec_spTop.f k a0).bind fun t470 => (some ((t470.length : Int), true))) else (some (0, false)))
theorem spec_CountOnTop.calls (k : Nat) (a0 : Int) (r1 : Int) (r2 : Bool) (w : World) (h : spec_CountOnTop.f k a0 = some (r1, r2)) :
  Calls Tryz.prog 18 #[.int .i64 a0] w fun e w' => e = .returned (.tuple #[.int .i64 r1, .bool r2]) ∧ Below w.heap.size w w' := by
 have HB := Aside0.mk (Below.refl w.heap.size w); have H : ((spec_spStamps.f a0).bind fun t469 => (if t469 = true then ((spec_spTop.f k a0).bind fun t470 => (some ((t470.length : Int), true))) else (some (0, false)))) = some (r1, r2) := h; clear h; obtain ⟨t469, A2, H⟩ := bi H; (try dsimp only at H)
 by_cases c3 : t469 = true
 ·subst c3; rw [if_pos rfl] at H; obtain ⟨t470, A4, H⟩ := bi H; (try dsimp only at H); simp only [Option.some.injEq, Prod.mk.injEq] at H; obtain ⟨rfl, rfl⟩ := H; go_enter Tryz.func18, Tryz.ntmps18; go_wp2_with (first | (go_at_call 56; (with_reducible refine (spec_spStamps.calls a0 true _ A2.out).mono ?_); rintro e w' ⟨rfl, ⟨nd, rfl⟩⟩) | (go_at_call 49; (with_reducible refine (spec_spTop.calls k a0 t470 _ A4.out).mono ?_); rintro e w5 ⟨v471, rfl, ho0, hb⟩; have HO472 := Aside0.mk (Kd.N_lower (Kd.N_mono (ok' := fun k_ => True) ho0 (fun k_ hk_ => trivial)) (below_size (bl HB.out))); replace HB := bst HB hb; obtain ⟨Ao6, co6, eo6⟩ := Kd.N_slice HO472.out; subst eo6)); go_ret2; exact ⟨sr, bl HB.out⟩
 replace c3 := Bool.eq_false_iff.mpr c3; subst c3; rw [if_neg (show ¬ (false = true) by decide)] at H; simp only [Option.some.injEq, Prod.mk.injEq] at H; obtain ⟨rfl, rfl⟩ := H; go_enter Tryz.func18, Tryz.ntmps18; go_wp2_with (first | (go_at_call 56; (with_reducible refine (spec_spStamps.calls a0 false _ A2.out).mono ?_); rintro e w' ⟨rfl, ⟨nd, rfl⟩⟩)); go_ret2; exact ⟨sr, bl HB.out⟩
/-! ### spec_CountFoldings: function 19 -/
def spec_CountFoldings.f (k : Nat) (a0 : Int) : Option (Int × Bool) := (spec_spStamps.f a0).bind fun t473 => (if t473 = true then ((spec_spTop.f k a0).bind fun t474 => (some (wrap64 (a0 * (t474.length : Int)), true))) else (some (0, false)))
theorem spec_CountFoldings.calls (k : Nat) (a0 : Int) (r1 : Int) (r2 : Bool) (w : World) (h : spec_CountFoldings.f k a0 = some (r1, r2)) :
  Calls Tryz.prog 19 #[.int .i64 a0] w fun e w' => e = .returned (.tuple #[.int .i64 r1, .bool r2]) ∧ Below w.heap.size w w' := by
 have HB := Aside0.mk (Below.refl w.heap.size w); have H : ((spec_spStamps.f a0).bind fun t473 => (if t473 = true then ((spec_spTop.f k a0).bind fun t474 => (some (wrap64 (a0 * (t474.length : Int)), true))) else (some (0, false)))) = some (r1, r2) := h; clear h; obtain ⟨t473, A2, H⟩ := bi H; (try dsimp only at H)
 by_cases c3 : t473 = true
 ·subst c3; rw [if_pos rfl] at H; obtain ⟨t474, A4, H⟩ := bi H; (try dsimp only at H); simp only [Option.some.injEq, Prod.mk.injEq] at H; obtain ⟨rfl, rfl⟩ := H; go_enter Tryz.func19, Tryz.ntmps19; go_wp2_with (first | (go_at_call 56; (with_reducible refine (spec_spStamps.calls a0 true _ A2.out).mono ?_); rintro e w' ⟨rfl, ⟨nd, rfl⟩⟩) | (go_at_call 49; (with_reducible refine (spec_spTop.calls k a0 t474 _ A4.out).mono ?_); rintro e w5 ⟨v475, rfl, ho0, hb⟩; have HO476 := Aside0.mk (Kd.N_lower (Kd.N_mono (ok' := fun k_ => True) ho0 (fun k_ hk_ => trivial)) (below_size (bl HB.out))); replace HB := bst HB hb; obtain ⟨Ao6, co6, eo6⟩ := Kd.N_slice HO476.out; subst eo6)); go_ret2; exact ⟨sr, bl HB.out⟩
 replace c3 := Bool.eq_false_iff.mpr c3; subst c3; rw [if_neg (show ¬ (false = true) by decide)] at H; simp only [Option.some.injEq, Prod.mk.injEq] at H; obtain ⟨rfl, rfl⟩ := H; go_enter Tryz.func19, Tryz.ntmps19; go_wp2_with (first | (go_at_call 56; (with_reducible refine (spec_spStamps.calls a0 false _ A2.out).mono ?_); rintro e w' ⟨rfl, ⟨nd, rfl⟩⟩)); go_ret2; exact ⟨sr, bl HB.out⟩
/-! ### spec_l1Cur_one: function 62 -/
def spec_l1Cur_one.f (s0_0 : List Int) (s0_1 : Int) (s0_2 : Int) (a1 : Int) : Option (Bool × Int × Int) := (spec_l1Cur_pick.f s0_0 s0_1 s0_2 a1).bind fun bt477 => (some ((bt477.1 == 0), bt477.2.1, bt477.2.2))
theorem spec_l1Cur_one.calls (g : Nat) (s0_0 : List Int) (s0_1 : Int) (s0_2 : Int) (a1 : Int) (r1 : Bool) (r2 : Int) (r3 : Int) (w0 w : World) (hI : IsS51 w0 w g s0_0 s0_1 s0_2) (hB : Below w0.heap.size w0 w) (h : spec_l1Cur_one.f s0_0 s0_1 s0_2 a1 = some (r1, r2, r3)) :
  Calls Tryz.prog 62 #[.pointer (some ⟨g, 0, none⟩), .int .i64 a1] w fun e w' => e = .returned (.bool r1) ∧ IsS51 w0 w' g s0_0 r2 r3 ∧ Below w0.heap.size w0 w' ∧ KeepBut w w' g none := by
 have HI0 := Aside0.mk hI; have HK := Aside0.mk (KeepBut.refl w g none); have HL := Aside0.mk hB.size; clear hI; have HW0 := Aside0.mk hB.size; have HB := Aside0.mk hB; clear hB; have H : ((spec_l1Cur_pick.f s0_0 s0_1 s0_2 a1).bind fun bt477 => (some ((bt477.1 == 0), bt477.2.1, bt477.2.2))) = some (r1, r2, r3) := h; clear h; obtain ⟨⟨t477, t478, t479⟩, A3, H⟩ := bi H; (try dsimp only at H); simp only [Option.some.injEq, Prod.mk.injEq] at H; obtain ⟨rfl, rfl, rfl⟩ := H; go_enter Tryz.func62, Tryz.ntmps62; go_wp2_with (first | (go_at_call 82; (with_reducible refine (spec_l1Cur_pick.calls g s0_0 s0_1 s0_2 a1 t477 t478 t479 w0 _ ?side1 (bs1 HB.out (IsS51.ge HI0.out)) A3.out).mono ?_); (case side1 => exact iS HI0.out); rintro e w4 ⟨rfl, hi, hb, hk⟩; replace HK := kt HK hk; replace HB := Aside0.mk (hb); replace HI0 := Aside0.mk (hi))); go_ret; exact ⟨sr, iS HI0.out, bs1 HB.out (IsS51.ge HI0.out), kb HK.out⟩
/-! ### spec_l1Cur_stack: function 61 -/
mutual
def spec_l1Cur_stack.l0 : Nat → Int → List Int → List Int → Int → Int → Option (List Int × Int × Int)
 | 0, _, _, _, _, _ => none
 | k + 1, x5, x6, x1000, x1001, x1002 => if (x6.length : Int) < x5 then ((spec_l1Cur_pick.f x1000 x1001 x1002 (wrap64 ((x6.length : Int) + 1))).bind fun bt486 => ((spec_spAdded.f k x6).bind fun t489 => (if (t489.length : Int) > 0 then ((spec_l1Cur_one.f x1000 bt486.2.1 bt486.2.2 8).bind fun bt492 => (spec_l1Cur_stack.j1 k x5 x6 bt486.1 t489 (!bt492.1) x1000 bt492.2.1 bt492.2.2)) else (spec_l1Cur_stack.j1 k x5 x6 bt486.1 t489 false x1000 bt486.2.1 bt486.2.2)))) else ((spec_l1Own.f x6).bind fun t518 => ((spec_l1Cur_pick.f x1000 x1001 x1002 14).bind fun bt521 => (if bt521.1 = 0 then ((spec_l1Cur_pick.f x1000 bt521.2.1 bt521.2.2 (t518.length : Int)).bind fun bt524 => ((spec_l1Cur_among.f x1000 bt524.2.1 bt524.2.2 (([(-1), 0, (t518.length : Int), 4611686018427387904] : List Int))).bind fun bt530 => (if 0 ≤ bt524.1 then (if bt524.1 < (t518.length : Int) then (some ((t518.set (bt524.1 : Int).toNat bt530.1), bt530.2.1, bt530.2.2)) else (none)) else (none)))) else (if bt521.1 = 1 then (some (([] : List Int), bt521.2.1, bt521.2.2)) else (if bt521.1 = 2 then (some ((([8, 7, 6, 5, 4, 3, 2, 1, 0] : List Int)), bt521.2.1, bt521.2.2)) else (some (t518, bt521.2.1, bt521.2.2)))))))
def spec_l1Cur_stack.j1 : Nat → Int → List Int → Int → List (List Int) → Bool → List Int → Int → Int → Option (List Int × Int × Int)
 | 0, _, _, _, _, _, _, _, _ => none
 | k + 1, x5, x6, x7, x8, x33, x1000, x1001, x1002 => if x33 = true then ((spec_l1Cur_pick.f x1000 x1001 x1002 (x8.length : Int)).bind fun bt495 => (if 0 ≤ bt495.1 then (if bt495.1 < (x8.length : Int) then (spec_l1Cur_stack.l0 k x5 (rd_L3 x8 bt495.1) x1000 bt495.2.1 bt495.2.2) else (none)) else (none))) else (if 0 ≤ x7 then (if x7 ≤ (x6.length : Int) then ((spec_l1Own.f (x6.take (x7 : Int).toNat)).bind fun t504 => (if t504.length < 17592186044416 then ((some (t504 ++ [(x6.length : Int)] : List Int)).bind fun y507 => ((some (x6.drop (x7 : Int).toNat : List Int)).bind fun y510 => (if y507.length + y510.length < 17592186044416 then (spec_l1Cur_stack.l0 k x5 (y507 ++ y510) x1000 x1001 x1002) else (none)))) else (none))) else (none)) else (none))
end
def spec_l1Cur_stack.f (k : Nat) (s0_0 : List Int) (s0_1 : Int) (s0_2 : Int) (a1 : Int) : Option (List Int × Int × Int) := (spec_l1Cur_pick.f s0_0 s0_1 s0_2 a1).bind fun bt480 => (spec_l1Cur_stack.l0 k (wrap64 (1 + bt480.1)) (([0] : List Int)) s0_0 bt480.2.1 bt480.2.2)
theorem spec_l1Cur_stack.calls (k : Nat) (g : Nat) (s0_0 : List Int) (s0_1 : Int) (s0_2 : Int) (a1 : Int) (r1 : List Int) (r2 : Int) (r3 : Int) (w0 w : World) (hI : IsS51 w0 w g s0_0 s0_1 s0_2) (hB : Below w0.heap.size w0 w) (h : spec_l1Cur_stack.f k s0_0 s0_1 s0_2 a1 = some (r1, r2, r3)) :
  Calls Tryz.prog 61 #[.pointer (some ⟨g, 0, none⟩), .int .i64 a1] w fun e w' => ∃ v0_ : Value, e = .returned (v0_) ∧ Kd.R (Kd.int .i64) 3 w' w.heap.size (fun _ => True) v0_ r1 ∧ IsS51 w0 w' g s0_0 r2 r3 ∧ Below w0.heap.size w0 w' ∧ KeepBut w w' g none := by
 have HI0 := Aside0.mk hI; have HK := Aside0.mk (KeepBut.refl w g none); have HL := Aside0.mk hB.size; clear hI; have HW0 := Aside0.mk hB.size; have HB := Aside0.mk hB; clear hB; have H : ((spec_l1Cur_pick.f s0_0 s0_1 s0_2 a1).bind fun bt480 => (spec_l1Cur_stack.l0 k (wrap64 (1 + bt480.1)) (([0] : List Int)) s0_0 bt480.2.1 bt480.2.2)) = some (r1, r2, r3) := h; clear h; obtain ⟨⟨t480, t481, t482⟩, A3, H⟩ := bi H; (try dsimp only at H); obtain ⟨y483, hy483⟩ := yy (([0] : List Int))
 (try rw [Option.bind_some] at H); (try dsimp only at H); rw [← hy483] at H
 have Ny483 := Aside0.mk hy483; clear hy483; have H' := Aside0.mk H; clear H; go_enter Tryz.func61, Tryz.ntmps61; go_wp2_with (first | (go_at_call 82; (with_reducible refine (spec_l1Cur_pick.calls g s0_0 s0_1 s0_2 a1 t480 t481 t482 w0 _ ?side1 (bs1 HB.out (IsS51.ge HI0.out)) A3.out).mono ?_); (case side1 => exact iS HI0.out); rintro e w4 ⟨rfl, hi, hb, hk⟩; replace HK := kt HK hk; replace HB := Aside0.mk (hb); replace HI0 := Aside0.mk (hi)) | ((with_reducible refine gate_dst (N := 14) rfl ?_); refine Kd.R_lit (Kd.int .i64) _ 3 ?hg (N := 14) ?hd (xs := ([0] : List Int)) (inner := [.int .i64 0]) (ok := fun _ => True) (okp := fun _ => True) ?hr ?hp (fun _ hk => hk) trivial (Below.refl _ _) (Nat.le_refl _) (by simp) ?_; (case hd => rfl); (case hg => rfl); (case hr => first | (go_simp; done) | (go_simp; rfl)); (case hp => exact (Reps.one (show Kd.M (Kd.int .i64) _ _ _ 0 [.int .i64 0] from rfl) (Reps.none _ _))); intro v484 w5 ho6 hb hg_ hnew_; clear hg_ hnew_; (first | rw [← Ny483.out] at ho6 | (simp only [Int.reduceToNat] at ho6; rw [← Ny483.out] at ho6)); have HO485 := Aside0.mk (Kd.R_lower ho6 (keep_size (w := w) (g := g) (row := none) (kb HK.out))); replace HK := Aside0.mk (KeepBut.trans (kb HK.out) (KeepBut.of_below hb g none) (.inl rfl)); replace HB := Aside0.mk (below_step (bs1 HB.out (IsS51.ge HI0.out)) hb); replace HI0 := Aside0.mk (IsS51.below (iS HI0.out) hb); clear hb ho6))
 go_loopg [6] k (fun kq v6 w' => ∃ (x6_1 : List Int) (x1001_1 : Int) (x1002_1 : Int), Aside0 (spec_l1Cur_stack.l0 kq (wrap64 (1 + t480)) x6_1 s0_0 x1001_1 x1002_1 = some (r1, r2, r3)) ∧ Aside0 (kq ≤ k) ∧ Aside0 (Kd.V (Kd.int .i64) 3 w' w.heap.size (fun k_ => k_ ≠ g) v6 x6_1) ∧ Aside0 (IsS51 w0 w' g s0_0 x1001_1 x1002_1) ∧ Aside0 (KeepBut w w' g none) ∧ Aside0 (Below w0.heap.size w0 w'))
 case atStart => exact ⟨(y483), (t481), (t482), H', ⟨Nat.le_refl _⟩, ⟨Kd.R_V (rR (Kd.R_mono (IsS51.apart HI0.out HO485.out (by decide)) (fun _ hk => hk.2)))⟩, ⟨iS HI0.out⟩, ⟨kb HK.out⟩, ⟨bs1 HB.out (IsS51.ge HI0.out)⟩⟩
 case round =>
  clear H'; obtain ⟨x6_1, x1001_1, x1002_1, HA, HK1, HO_6, HI0, HK, HB⟩ := hrel
  cases gk with
  | zero => exact absurd HA.out (by simp [spec_l1Cur_stack.l0])
  | succ k1 =>
   have H := HA.out; clear HA; simp only [spec_l1Cur_stack.l0] at H
   by_cases c7 : (x6_1.length : Int) < (wrap64 (1 + t480))
   ·rw [if_pos c7] at H; have c7b0 := decide_eq_true c7; clear c7; obtain ⟨⟨t486, t487, t488⟩, A8, H⟩ := bi H; (try dsimp only at H); obtain ⟨t489, A9, H⟩ := bi H; (try dsimp only at H); have HC10 := Aside0.mk H; clear H; obtain ⟨Ao11, co11, eo11⟩ := Kd.V_slice HO_6.out; subst eo11
    go_upto_region 6 with (first | (go_at_call 82; (with_reducible refine (spec_l1Cur_pick.calls g s0_0 x1001_1 x1002_1 (wrap64 ((x6_1.length : Int) + 1)) t486 t487 t488 w0 _ ?side1 (bs1 HB.out (IsS51.ge HI0.out)) A8.out).mono ?_); (case side1 => exact iS HI0.out); rintro e w12 ⟨rfl, hi, hb, hk⟩; replace HO_6 := Aside0.mk (Kd.V_mono (Kd.V_keep (Kd.V_mono (ok := fun k_ => k_ ≠ g) (rV HO_6.out) (fun k_ hk_ => (⟨hk_, hk_⟩ : _ ∧ k_ ≠ g))) hk (fun _ h => h.2)) (fun _ h => h.1)); replace HK := kt HK hk; replace HB := Aside0.mk (hb); replace HI0 := Aside0.mk (hi)) | (go_at_call 88; (with_reducible refine (spec_spAdded.calls k1 _ _ x6_1 t489 _ ?side1 ((Kd.V_reads' HO_6.out).2.1) A9.out).mono ?_); (case side1 => exact cw ((Kd.V_reads' HO_6.out).2.2)); rintro e w13 ⟨v490, rfl, ho0, hb⟩; replace HO_6 := Aside0.mk (Kd.V_elder' (rV HO_6.out) (Kd.N_base ho0) hb); have HO491 := Aside0.mk (Kd.N_lower (Kd.N_mono (ok' := fun k_ => k_ ≠ g) ho0 (fun k_ hk_ => (IsS51.fresh (iS HI0.out) k_ hk_))) (keep_size (w := w) (g := g) (row := none) (kb HK.out))); replace HK := Aside0.mk (KeepBut.trans (kb HK.out) (KeepBut.of_below hb g none) (.inl rfl)); replace HB := Aside0.mk (below_step (bs1 HB.out (IsS51.ge HI0.out)) hb); replace HI0 := Aside0.mk (IsS51.below (iS HI0.out) hb)))
    (try simp only [Act.put, List.setIfInBounds_toArray, List.set_cons_zero, List.set_cons_succ])
    go_cut [33] (fun v33 wc => ∃ (kq : Nat) (x33_9 : Bool) (x1001_9 : Int) (x1002_9 : Int), v33 = .bool x33_9 ∧ Aside0 (spec_l1Cur_stack.j1 kq (wrap64 (1 + t480)) x6_1 t486 t489 x33_9 s0_0 x1001_9 x1002_9 = some (r1, r2, r3)) ∧ Aside0 (kq ≤ k1) ∧ Aside0 (Kd.V (Kd.int .i64) 3 wc w.heap.size (fun k_ => some k_ ≠ (v490 : Value).ownBlock ∧ k_ ≠ g) (.slice Ao11 x6_1.length co11) x6_1) ∧ Aside0 (Kd.N (Kd.slice 3 (Kd.int .i64)) 31 wc w.heap.size (fun k_ => k_ ≠ g) v490 t489) ∧ Aside0 (IsS51 w0 wc g s0_0 x1001_9 x1002_9) ∧ Aside0 (KeepBut w wc g none) ∧ Aside0 (Below w0.heap.size w0 wc))
    case first =>
     have H := HC10.out; clear HC10
     by_cases c14 : (t489.length : Int) > 0
     ·rw [if_pos c14] at H; have c14b0 := decide_eq_true c14; have c14b1 : decide (0 < t489.length) = true := decide_eq_true (by omega); clear c14; (first | rw [c14b0] | (simp only [i64_w, i32_w]; rw [c14b0]) | skip); obtain ⟨⟨t492, t493, t494⟩, A15, H⟩ := bi H; (try dsimp only at H); have H' := Aside0.mk H; clear H; obtain ⟨Ao16, co16, eo16⟩ := Kd.N_slice HO491.out; subst eo16; go_wp2_with (first | (go_at_call 62; (with_reducible refine (spec_l1Cur_one.calls g s0_0 t487 t488 8 t492 t493 t494 w0 _ ?side1 (bs1 HB.out (IsS51.ge HI0.out)) A15.out).mono ?_); (case side1 => exact iS HI0.out); rintro e w17 ⟨rfl, hi, hb, hk⟩; replace HO_6 := Aside0.mk (Kd.V_mono (Kd.V_keep (Kd.V_mono (ok := fun k_ => (k_ ≠ g ∧ some k_ ≠ (.slice Ao16 t489.length co16 : Value).ownBlock)) (rV HO_6.out) (fun k_ hk_ => (⟨hk_, hk_.1⟩ : _ ∧ k_ ≠ g))) hk (fun _ h => h.2)) (fun _ h => h.1)); replace HO491 := Aside0.mk (Kd.N_mono (Kd.N_keep (Kd.N_mono (ok := fun k_ => k_ ≠ g) (rN HO491.out) (fun k_ hk_ => (⟨hk_, hk_⟩ : _ ∧ k_ ≠ g))) hk (fun _ h => h.2)) (fun _ h => h.1)); replace HK := kt HK hk; replace HB := Aside0.mk (hb); replace HI0 := Aside0.mk (hi))); go_meet
      case rel => exact ⟨_, (!t492), (t493), (t494), (sr2), H', ⟨by have := HK1.out; first | omega | exact Nat.le_refl _⟩, ⟨rV (Kd.V_mono HO_6.out (fun _ hk => by first | exact ⟨hk.2, hk.1⟩ | exact ⟨hk.1, hk.2⟩))⟩, ⟨rN HO491.out⟩, ⟨iS HI0.out⟩, ⟨kb HK.out⟩, ⟨bs1 HB.out (IsS51.ge HI0.out)⟩⟩
     rw [if_neg c14] at H; have c14b0 := decide_eq_false c14; have c14b1 : decide (0 < t489.length) = false := decide_eq_false (by omega); clear c14; (first | rw [c14b0] | (simp only [i64_w, i32_w]; rw [c14b0]) | skip); have H' := Aside0.mk H; clear H; obtain ⟨Ao18, co18, eo18⟩ := Kd.N_slice HO491.out; subst eo18; go_wp2; go_meet
     case rel => exact ⟨_, (false), (t487), (t488), (sr2), H', ⟨by have := HK1.out; first | omega | exact Nat.le_refl _⟩, ⟨rV (Kd.V_mono HO_6.out (fun _ hk => by first | exact ⟨hk.2, hk.1⟩ | exact ⟨hk.1, hk.2⟩))⟩, ⟨rN HO491.out⟩, ⟨iS HI0.out⟩, ⟨kb HK.out⟩, ⟨bs1 HB.out (IsS51.ge HI0.out)⟩⟩
    case rest =>
     clear HC10; obtain ⟨kq, x33_9, x1001_9, x1002_9, rfl, HA, HJ9, HO_6, HO_8, HI0, HK, HB⟩ := hcut
     cases kq with
     | zero => exact absurd HA.out (by simp [spec_l1Cur_stack.j1])
     | succ kj9 =>
      have H := HA.out; clear HA; simp only [spec_l1Cur_stack.j1] at H
      by_cases c19 : x33_9 = true
      ·subst c19; rw [if_pos rfl] at H; obtain ⟨⟨t495, t496, t497⟩, A20, H⟩ := bi H; (try dsimp only at H)
       by_cases c21 : 0 ≤ t495
       ·rw [if_pos c21] at H; have c21b0 := decide_eq_true c21; clear c21
        by_cases c22 : t495 < (t489.length : Int)
        ·rw [if_pos c22] at H; have c22b0 := decide_eq_true c22; clear c22; have H' := Aside0.mk H; clear H; obtain ⟨Ao23, co23, eo23⟩ := Kd.N_slice HO_8.out; subst eo23; go_wp2_with (first | (go_at_call 82; (with_reducible refine (spec_l1Cur_pick.calls g s0_0 x1001_9 x1002_9 (t489.length : Int) t495 t496 t497 w0 _ ?side1 (bs1 HB.out (IsS51.ge HI0.out)) A20.out).mono ?_); (case side1 => exact iS HI0.out); rintro e w24 ⟨rfl, hi, hb, hk⟩; replace HO_6 := Aside0.mk (Kd.V_mono (Kd.V_keep (Kd.V_mono (ok := fun k_ => (some k_ ≠ (.slice Ao23 t489.length co23 : Value).ownBlock ∧ k_ ≠ g)) (rV HO_6.out) (fun k_ hk_ => (⟨hk_, hk_.2⟩ : _ ∧ k_ ≠ g))) hk (fun _ h => h.2)) (fun _ h => h.1)); replace HO_8 := Aside0.mk (Kd.N_mono (Kd.N_keep (Kd.N_mono (ok := fun k_ => k_ ≠ g) (rN HO_8.out) (fun k_ hk_ => (⟨hk_, hk_⟩ : _ ∧ k_ ≠ g))) hk (fun _ h => h.2)) (fun _ h => h.1)); replace HK := kt HK hk; replace HB := Aside0.mk (hb); replace HI0 := Aside0.mk (hi); have p498 : 0 ≤ (t495 : Int) := od; have q498 : t495 < (t489.length : Int) := od; obtain ⟨ad498, A498_0, c498_0, e498, hx498_0, hl498_0, hi498_0⟩ := at_L3 (Kd.N_reads' HO_8.out).2.2 t495 p498 q498; cases e498; obtain ⟨ce498, hce498, hMe498, hcc498⟩ := Kd.N_get HO_8.out [] t495 p498 (by first | exact q498 | exact od | (have e_ := (Kd.N_reads' HO_8.out).1; omega)); obtain ⟨ua498_0, uc498_0, rfl, ul498_0, ge498_0⟩ := Kd.FK_slice_open hMe498; have hv498_0 := hcc498 0 _ rfl; rw [Nat.add_zero, show ((Kd.slice 3 (Kd.int .i64))).sz = 1 from rfl, Nat.mul_one] at hv498_0; replace hv498_0 := Option.some.inj (hv498_0.symm.trans hx498_0); injection hv498_0 with hva_ hvn_ hvc_; rw [hva_] at ge498_0; rw [hvc_] at ul498_0; have HL498_0 := Aside0.mk (show Kd.V (Kd.int .i64) 3 _ w.heap.size _ _ (rd_L3 t489 t495) from Kd.V_mk ul498_0 ge498_0); clear hva_ hvn_ hvc_ ge498_0 ul498_0; clear hcc498 hce498; have HR498_0 := Aside0.mk hi498_0; have HC498_0 := Aside0.mk hl498_0; clear hi498_0 hl498_0; replace p498 := eq_true p498; replace q498 := eq_true q498))
         go_roundg kj9
         case measure => have := HK1.out; have := HJ9.out; omega
         case rel => exact ⟨(rd_L3 t489 t495), (t496), (t497), H', ⟨by have := HK1.out; have := HJ9.out; omega⟩, ⟨rV (Kd.V_mono HL498_0.out (fun _ hk => hk.1))⟩, ⟨iS HI0.out⟩, ⟨kb HK.out⟩, ⟨bs1 HB.out (IsS51.ge HI0.out)⟩⟩
        rw [if_neg c22] at H; exact absurd H (by simp)
       rw [if_neg c21] at H; exact absurd H (by simp)
      replace c19 := Bool.eq_false_iff.mpr c19; subst c19; rw [if_neg (show ¬ (false = true) by decide)] at H
      by_cases c25 : 0 ≤ t486
      ·rw [if_pos c25] at H; have c25b0 := eq_true c25; have c25b1 := decide_eq_true c25; clear c25
       by_cases c26 : t486 ≤ (x6_1.length : Int)
       ·rw [if_pos c26] at H; have c26b0 := eq_true c26; have c26b1 := decide_eq_true c26; clear c26; obtain ⟨y499, hy499⟩ := yy (x6_1.take (t486 : Int).toNat)
        (try rw [Option.bind_some] at H); (try dsimp only at H); rw [← hy499] at H
        have Ny499 := Aside0.mk hy499; clear hy499; obtain ⟨t504, A27, H⟩ := bi H; (try dsimp only at H)
        by_cases c28 : t504.length < 17592186044416
        ·rw [if_pos c28] at H; have LMc28 := Aside0.mk c28; clear c28; obtain ⟨y507, hy507⟩ := yy (t504 ++ [(x6_1.length : Int)])
         (try rw [Option.bind_some] at H); (try dsimp only at H); rw [← hy507] at H
         have Ny507 := Aside0.mk hy507; clear hy507; have c29b0 := eq_true (od : 0 ≤ t486); have c30b0 := eq_true (od : t486 ≤ (x6_1.length : Int)); obtain ⟨y510, hy510⟩ := yy (x6_1.drop (t486 : Int).toNat)
         (try rw [Option.bind_some] at H); (try dsimp only at H); rw [← hy510] at H
         have Ny510 := Aside0.mk hy510; clear hy510
         by_cases c31 : y507.length + y510.length < 17592186044416
         ·rw [if_pos c31] at H; have LMc31 := Aside0.mk c31; clear c31; obtain ⟨y515, hy515⟩ := yy (y507 ++ y510)
          (try rw [Option.bind_some] at H); (try dsimp only at H); rw [← hy515] at H
          have Ny515 := Aside0.mk hy515; clear hy515; have H' := Aside0.mk H; clear H; have q32 : (t486 : Int) ≤ ((x6_1.length : Int) : Int) := od; obtain ⟨i032, hi032, _, hsz32, _⟩ := info_parts info3; have hroom32 : x6_1.length ≤ co11 := (Kd.V_reads' HO_6.out).2.1; have hC32 : Kd.F (Kd.int .i64) _ _ Ao11 x6_1.length x6_1 := (Kd.V_at (base := w.heap.size) HO_6.out).2.2; have hcut32 := cut_to (P := Tryz.prog) 31 3 .i64 Tryz.underlying31 hi032 Ao11 x6_1.length co11 t486 (od) q32 hroom32; have hr32 := Kd.F_take (m := (t486 : Int).toNat) hC32 (by omega); have hy32 : y499.length = (t486 : Int).toNat := (by rw [Ny499.out, List.length_take]; omega); rw [← Ny499.out] at hr32; rw [← hy32] at hcut32; have HO503 := Aside0.mk (show Kd.V (Kd.int .i64) 3 _ w.heap.size _ (.slice Ao11 y499.length co11) y499 from Kd.V_mk (by omega) hr32); have HC503 := Aside0.mk (show y499.length ≤ co11 from by omega); clear hr32 hC32 hroom32 hi032 hsz32; have KY32 := Aside0.mk hy32; clear hy32; replace q32 := eq_true q32; go_wp2_with (first | (go_at_call 97; (with_reducible refine (spec_l1Own.calls _ _ y499 t504 _ ?side1 ((Kd.V_reads' HO503.out).2.1) A27.out).mono ?_); (case side1 => exact cw ((Kd.V_reads' HO503.out).2.2)); rintro e w33 ⟨v505, rfl, ho0, hb⟩; replace HO_6 := Aside0.mk (Kd.V_elder' (rV HO_6.out) (Kd.R_base ho0) hb); replace HO_8 := Aside0.mk (Kd.N_elder' (rN HO_8.out) (Kd.R_base ho0) hb); replace HO503 := Aside0.mk (Kd.V_elder' (rV HO503.out) (Kd.R_base ho0) hb); have HO506 := Aside0.mk (Kd.R_lower ho0 (keep_size (w := w) (g := g) (row := none) (kb HK.out))); replace HK := Aside0.mk (KeepBut.trans (kb HK.out) (KeepBut.of_below hb g none) (.inl rfl)); replace HB := Aside0.mk (below_step (bs1 HB.out (IsS51.ge HI0.out)) hb); replace HI0 := Aside0.mk (IsS51.below (iS HI0.out) hb)) | ((with_reducible refine gate_builtin (b := .append) (xs := #[.tmp 44, .tmp 47]) rfl ?_); at_builtin; refine Kd.R_append (Kd.int .i64) w.heap.size rfl (.tmp 44) (.tmp 47) 31 3 (.int .i64 0) 8 rfl Tryz.underlying31 info3 rfl (by decide) (by omega) v505 t504 (x6_1.length : Int) [.int .i64 (x6_1.length : Int)] (fun _ => True) (fun _ => False) rfl rfl ?aP (fun _ hk => hk.elim) ?aF ?aO (Below.refl _ _) ?aS (by have := LMc28.out; omega) ?_; (case aP => exact rfl); (case aF => exact (fun _ _ => trivial)); (case aO => exact (rR HO506.out)); (case aS => exact (keep_size (w := w) (g := g) (row := none) (kb HK.out))); intro v508 w34 ho hb hg hat; rw [← Ny507.out] at ho; replace HO_6 := Aside0.mk (Kd.V_afterv (ok := (fun k_ => some k_ ≠ (v490 : Value).ownBlock ∧ k_ ≠ g)) (rV HO_6.out) hg hat); replace HO_8 := Aside0.mk (Kd.N_afterv (ok := (fun k_ => k_ ≠ g)) (rN HO_8.out) hg hat); replace HO503 := Aside0.mk (Kd.V_afterv (ok := (fun k_ => some k_ ≠ (v490 : Value).ownBlock ∧ k_ ≠ g)) (rV HO503.out) hg hat); replace HB := Aside0.mk (below_weaken (bs1 HB.out (IsS51.ge HI0.out)) HL.out hb); replace HI0 := Aside0.mk (IsS51.grown (iS HI0.out) hg (IsS51.own_ne HI0.out HO506.out (by decide))); replace HK := Aside0.mk (KeepBut.trans (kb HK.out) (KeepBut.of_grown hg g) (Kd.R_base2 HO506.out)); have HO509 := Aside0.mk (ho); clear HO506; clear ho hb hg hat; have q35 : (t486 : Int) ≤ ((x6_1.length : Int) : Int) := od; obtain ⟨i035, hi035, _, hsz35, _⟩ := info_parts info3; have hroom35 : x6_1.length ≤ co11 := (Kd.V_reads' HO_6.out).2.1; have hC35 : Kd.F (Kd.int .i64) _ _ Ao11 x6_1.length x6_1 := (Kd.V_at (base := w.heap.size) HO_6.out).2.2; have q035 : (0 : Int) ≤ (t486 : Int) := od; have hcut35 := cut_from (P := Tryz.prog) 31 3 .i64 Tryz.underlying31 hi035 1 hsz35 Ao11 x6_1.length co11 t486 q035 q35; have hr35 := Kd.F_cut (m := (t486 : Int).toNat) (c := co11) hC35 (by omega) hroom35; obtain ⟨A35, hA35⟩ : ∃ A1, A1 = (if co11 = (t486 : Int).toNat then Ao11 else (Ao11 : Option Addr).map (·.add ((t486 : Int).toNat * 1))) := ⟨_, rfl⟩; obtain ⟨c35, hc35⟩ : ∃ c1, c1 = co11 - (t486 : Int).toNat := ⟨_, rfl⟩; have hy35 : y510.length = x6_1.length - (t486 : Int).toNat := (by rw [Ny510.out, List.length_drop] <;> omega); rw [show (x6_1).drop (t486 : Int).toNat = y510 from Ny510.out.symm] at hr35; replace hr35 : Kd.F (Kd.int .i64) _ _ A35 y510.length y510 := (by rw [hA35]; exact hr35); rw [← hy35, ← hA35, ← hc35] at hcut35; have HO514 := Aside0.mk (show Kd.V (Kd.int .i64) 3 _ w.heap.size _ (.slice A35 y510.length c35) y510 from Kd.V_mk (by rw [hy35, hc35]; exact Nat.sub_le_sub_right hroom35 _) hr35); have HC514 := Aside0.mk (show y510.length ≤ c35 from by rw [hy35, hc35]; exact Nat.sub_le_sub_right hroom35 _); clear hr35 hC35 hroom35 hi035 hsz35 hc35; have KY35 := Aside0.mk hy35; have KA35 := Aside0.mk hA35; clear hy35 hA35; replace q35 := eq_true q35) | ((with_reducible refine gate_builtin (b := .append) (xs := #[.tmp 49, .tmp 52]) rfl ?_); at_builtin; refine Kd.R_append_rows (Kd.int .i64) w.heap.size rfl (.tmp 49) (.tmp 52) 31 3 (.int .i64 0) 8 rfl Tryz.underlying31 info3 rfl (by decide) (by omega) v508 y507 y510 _ _ _ (fun _ => True) (fun _ => False) rfl rfl ?aO ?aR (fun _ _ h => h) (fun _ h => h.elim) ?aF (Below.refl _ _) ?aS (by have := LMc31.out; omega) ?_; (case aR => exact cw ((Kd.V_reads' HO514.out).2.2)); (case aF => exact (fun _ _ => trivial)); (case aO => exact (rR HO509.out)); (case aS => exact (keep_size (w := w) (g := g) (row := none) (kb HK.out))); intro v516 w36 ho hb hg hat; rw [← Ny515.out] at ho; replace HO_6 := Aside0.mk (Kd.V_afterv (ok := (fun k_ => some k_ ≠ (v490 : Value).ownBlock ∧ k_ ≠ g)) (rV HO_6.out) hg hat); replace HO_8 := Aside0.mk (Kd.N_afterv (ok := (fun k_ => k_ ≠ g)) (rN HO_8.out) hg hat); replace HO503 := Aside0.mk (Kd.V_afterv (ok := (fun k_ => some k_ ≠ (v490 : Value).ownBlock ∧ k_ ≠ g)) (rV HO503.out) hg hat); replace HO514 := Aside0.mk (Kd.V_afterv (ok := (fun k_ => some k_ ≠ (v490 : Value).ownBlock ∧ k_ ≠ g)) (rV HO514.out) hg hat); replace HB := Aside0.mk (below_weaken (bs1 HB.out (IsS51.ge HI0.out)) HL.out hb); replace HI0 := Aside0.mk (IsS51.grown (iS HI0.out) hg (IsS51.own_ne HI0.out HO509.out (by decide))); replace HK := Aside0.mk (KeepBut.trans (kb HK.out) (KeepBut.of_grown hg g) (Kd.R_base2 HO509.out)); have HO517 := Aside0.mk (ho); clear HO509; clear ho hb hg hat))
          go_roundg kj9
          case measure => have := HK1.out; have := HJ9.out; omega
          case rel => exact ⟨(y515), (x1001_9), (x1002_9), H', ⟨by have := HK1.out; have := HJ9.out; omega⟩, ⟨Kd.R_V (rR (Kd.R_mono (IsS51.apart HI0.out HO517.out (by decide)) (fun _ hk => hk.2)))⟩, ⟨iS HI0.out⟩, ⟨kb HK.out⟩, ⟨bs1 HB.out (IsS51.ge HI0.out)⟩⟩
         rw [if_neg c31] at H; exact absurd H (by simp)
        rw [if_neg c28] at H; exact absurd H (by simp)
       rw [if_neg c26] at H; exact absurd H (by simp)
      rw [if_neg c25] at H; exact absurd H (by simp)
   rw [if_neg c7] at H; have c7b0 := decide_eq_false c7; clear c7; obtain ⟨t518, A37, H⟩ := bi H; (try dsimp only at H); obtain ⟨⟨t521, t522, t523⟩, A38, H⟩ := bi H; (try dsimp only at H)
   by_cases c39 : t521 = 0
   ·rw [if_pos c39] at H; have c39b0 := beq_iff_eq.mpr c39; have c39b1 := bne_eq_false_iff_eq.mpr c39; clear c39; obtain ⟨⟨t524, t525, t526⟩, A40, H⟩ := bi H; (try dsimp only at H); obtain ⟨y527, hy527⟩ := yy (([(-1), 0, (t518.length : Int), 4611686018427387904] : List Int))
    (try rw [Option.bind_some] at H); (try dsimp only at H); rw [← hy527] at H
    have Ny527 := Aside0.mk hy527; clear hy527; obtain ⟨⟨t530, t531, t532⟩, A41, H⟩ := bi H; (try dsimp only at H)
    by_cases c42 : 0 ≤ t524
    ·rw [if_pos c42] at H; have c42b0 := decide_eq_true c42; clear c42
     by_cases c43 : t524 < (t518.length : Int)
     ·rw [if_pos c43] at H; have c43b0 := decide_eq_true c43; clear c43; obtain ⟨y533, hy533⟩ := yy (t518.set (t524 : Int).toNat t530)
      (try rw [Option.bind_some] at H); (try dsimp only at H); rw [← hy533] at H
      have Ny533 := Aside0.mk hy533; clear hy533; simp only [Option.some.injEq, Prod.mk.injEq] at H; obtain ⟨rfl, rfl, rfl⟩ := H; obtain ⟨Ao45, co45, eo45⟩ := Kd.V_slice HO_6.out; subst eo45; go_wp2_with (first | (go_at_call 97; (with_reducible refine (spec_l1Own.calls _ _ x6_1 t518 _ ?side1 ((Kd.V_reads' HO_6.out).2.1) A37.out).mono ?_); (case side1 => exact cw ((Kd.V_reads' HO_6.out).2.2)); rintro e w46 ⟨v519, rfl, ho0, hb⟩; replace HO_6 := Aside0.mk (Kd.V_elder' (rV HO_6.out) (Kd.R_base ho0) hb); have HO520 := Aside0.mk (Kd.R_lower ho0 (keep_size (w := w) (g := g) (row := none) (kb HK.out))); replace HK := Aside0.mk (KeepBut.trans (kb HK.out) (KeepBut.of_below hb g none) (.inl rfl)); replace HB := Aside0.mk (below_step (bs1 HB.out (IsS51.ge HI0.out)) hb); replace HI0 := Aside0.mk (IsS51.below (iS HI0.out) hb)) | (go_at_call 82; (with_reducible refine (spec_l1Cur_pick.calls g s0_0 x1001_1 x1002_1 14 t521 t522 t523 w0 _ ?side1 (bs1 HB.out (IsS51.ge HI0.out)) A38.out).mono ?_); (case side1 => exact iS HI0.out); rintro e w47 ⟨rfl, hi, hb, hk⟩; replace HO_6 := Aside0.mk (Kd.V_mono (Kd.V_keep (Kd.V_mono (ok := fun k_ => (k_ ≠ g ∧ some k_ ≠ (v519 : Value).ownBlock)) (rV HO_6.out) (fun k_ hk_ => (⟨hk_, hk_.1⟩ : _ ∧ k_ ≠ g))) hk (fun _ h => h.2)) (fun _ h => h.1)); replace HO520 := Aside0.mk (Kd.R_mono (Kd.R_keep (IsS51.apart (show IsS51 w0 _ g s0_0 x1001_1 x1002_1 from iS HI0.out) (rR HO520.out) (by decide)) hk (fun _ h => h.2)) (fun _ h => h.1)); replace HK := kt HK hk; replace HB := Aside0.mk (hb); replace HI0 := Aside0.mk (hi); obtain ⟨Ao48, co48, eo48⟩ := Kd.R_slice HO520.out; subst eo48) | (go_at_call 82; (with_reducible refine (spec_l1Cur_pick.calls g s0_0 t522 t523 (t518.length : Int) t524 t525 t526 w0 _ ?side1 (bs1 HB.out (IsS51.ge HI0.out)) A40.out).mono ?_); (case side1 => exact iS HI0.out); rintro e w49 ⟨rfl, hi, hb, hk⟩; replace HO_6 := Aside0.mk (Kd.V_mono (Kd.V_keep (Kd.V_mono (ok := fun k_ => (k_ ≠ g ∧ some k_ ≠ (.slice Ao48 t518.length co48 : Value).ownBlock)) (rV HO_6.out) (fun k_ hk_ => (⟨hk_, hk_.1⟩ : _ ∧ k_ ≠ g))) hk (fun _ h => h.2)) (fun _ h => h.1)); replace HO520 := Aside0.mk (Kd.R_mono (Kd.R_keep (IsS51.apart (show IsS51 w0 _ g s0_0 t522 t523 from iS HI0.out) (rR HO520.out) (by decide)) hk (fun _ h => h.2)) (fun _ h => h.1)); replace HK := kt HK hk; replace HB := Aside0.mk (hb); replace HI0 := Aside0.mk (hi)) | ((with_reducible refine gate_dst (N := 68) rfl ?_); refine Kd.R_lit (Kd.int .i64) _ 3 ?hg (N := 68) ?hd (xs := ([(-1), 0, (t518.length : Int), 4611686018427387904] : List Int)) (inner := [.int .i64 (-1), .int .i64 0, .int .i64 (t518.length : Int), .int .i64 4611686018427387904]) (ok := fun _ => True) (okp := fun _ => True) ?hr ?hp (fun _ hk => hk) trivial (Below.refl _ _) (Nat.le_refl _) (by simp) ?_; (case hd => rfl); (case hg => rfl); (case hr => first | (go_simp; done) | (go_simp; rfl)); (case hp => exact (Reps.one (show Kd.M (Kd.int .i64) _ _ _ (-1) [.int .i64 (-1)] from rfl) (Reps.one (show Kd.M (Kd.int .i64) _ _ _ 0 [.int .i64 0] from rfl) (Reps.one (show Kd.M (Kd.int .i64) _ _ _ (t518.length : Int) [.int .i64 (t518.length : Int)] from rfl) (Reps.one (show Kd.M (Kd.int .i64) _ _ _ 4611686018427387904 [.int .i64 4611686018427387904] from rfl) (Reps.none _ _)))))); intro v528 w50 ho51 hb hg_ hnew_; clear hg_ hnew_; (first | rw [← Ny527.out] at ho51 | (simp only [Int.reduceToNat] at ho51; rw [← Ny527.out] at ho51)); replace HO_6 := Aside0.mk (Kd.V_elder' (rV HO_6.out) (Kd.R_base ho51) hb); have HO529 := Aside0.mk (Kd.R_lower (Kd.R_new' ho51 (Kd.R_lt (rR HO520.out))) (keep_size (w := w) (g := g) (row := none) (kb HK.out))); replace HO520 := Aside0.mk (Kd.R_elder' (rR HO520.out) (Kd.R_base ho51) hb); replace HK := Aside0.mk (KeepBut.trans (kb HK.out) (KeepBut.of_below hb g none) (.inl rfl)); replace HB := Aside0.mk (below_step (bs1 HB.out (IsS51.ge HI0.out)) hb); replace HI0 := Aside0.mk (IsS51.below (iS HI0.out) hb); clear hb ho51; obtain ⟨Ao52, co52, eo52⟩ := Kd.R_slice HO529.out; subst eo52) | (go_at_call 45; (with_reducible refine (spec_l1Cur_among.calls g s0_0 t525 t526 _ _ y527 t530 t531 t532 w0 _ ?side1 ?side2 ?side3 ?side4 (far_slice (IsS51.own_ne HI0.out HO529.out (by decide))) A41.out).mono ?_); (case side1 => exact iS HI0.out); (case side2 => exact bs1 HB.out (IsS51.ge HI0.out)); (case side3 => exact cw ((Kd.R_reads' HO529.out).2.2)); (case side4 => exact (Kd.R_reads' HO529.out).2.1); rintro e w53 ⟨rfl, hi, hb, hk⟩; replace HO_6 := Aside0.mk (Kd.V_mono (Kd.V_keep (Kd.V_mono (ok := fun k_ => ((k_ ≠ g ∧ some k_ ≠ (.slice Ao48 t518.length co48 : Value).ownBlock) ∧ some k_ ≠ (.slice Ao52 y527.length co52 : Value).ownBlock)) (rV HO_6.out) (fun k_ hk_ => (⟨hk_, hk_.1.1⟩ : _ ∧ k_ ≠ g))) hk (fun _ h => h.2)) (fun _ h => h.1)); replace HO520 := Aside0.mk (Kd.R_mono (Kd.R_keep (IsS51.apart (show IsS51 w0 _ g s0_0 t525 t526 from iS HI0.out) (rR HO520.out) (by decide)) hk (fun _ h => h.2)) (fun _ h => h.1)); replace HO529 := Aside0.mk (Kd.R_mono (Kd.R_keep (IsS51.apart (show IsS51 w0 _ g s0_0 t525 t526 from iS HI0.out) (rR HO529.out) (by decide)) hk (fun _ h => h.2)) (fun _ h => h.1)); replace HK := kt HK hk; replace HB := Aside0.mk (hb); replace HI0 := Aside0.mk (hi); have p44 : 0 ≤ (t524 : Int) := od; have q44 : (t524 : Int) < ((t518.length : Int) : Int) := od; obtain ⟨go44, co44, eo44, gb44, gl44, cl44, HG44⟩ := Kd.R_form HO520.out (by omega); (first | cases eo44 | (injection eo44 with ea_ en_ ec_; (first | subst ea_ | (injection ea_ with ea_; subst ea_)); subst ec_; clear en_)); have GB44 := Aside0.mk gb44; have GG44 := Aside0.mk HG44; clear gb44 gl44 HG44; obtain ⟨hx44_0, hf44_0⟩ := Kd.R_celln 0 HO520.out (t524 : Int) p44 q44; replace p44 := eq_true p44; replace q44 := eq_true q44; have n_ := Aside0.mk (Kd.R_mono (ok' := (fun k_ => some k_ ≠ (.slice Ao52 y527.length co52 : Value).ownBlock)) HO520.out (fun k_ hk => hk.2)); clear HO520; have HO520 := n_; clear n_; obtain ⟨hy54_, hz54_⟩ := Kd.R_celln 0 HO520.out (t524 : Int) (od) (od); have HP54 := Kd.R_putg HO520.out (t524 : Int) t530) | ((with_reducible refine gate_store (t := 3) (p := 70) rfl ?_); refine store_event (t := 3) (p := 70) (v := ?vo_w55) (w1 := (w53.setCell ⟨go44, (t524 : Int).toNat, none⟩ (.int .i64 t530))) ?hg ?ho ?hn ?hr ?_; (case ho => rfl); (case hg => rfl); (case hn => rfl); (case hr => first | (go_simp; done) | (go_simp; rfl)); intro w55 hw; have hg : w53.grownBy w55 (some go44) := (by rw [hw]; exact HP54.2); have hp_ : Kd.R (Kd.int .i64) 3 w55 w.heap.size (fun k_ => some k_ ≠ (.slice Ao52 y527.length co52 : Value).ownBlock) (.slice (some ⟨go44, 0, none⟩) t518.length co48) y533 := (by rw [hw, Ny533.out]; exact HP54.1); clear HP54; replace HO_6 := Aside0.mk (Kd.V_afterv (v := (.slice (some ⟨go44, 0, none⟩) t518.length co48)) (v1 := (.slice (some ⟨go44, 0, none⟩) t518.length co48)) (ok := (fun k_ => some k_ ≠ (.slice Ao52 y527.length co52 : Value).ownBlock ∧ k_ ≠ g)) (rV (Kd.V_mono HO_6.out (fun _ hk => ⟨⟨hk.2, hk.1.1⟩, hk.1.2⟩))) hg (.inl rfl)); replace HI0 := Aside0.mk (IsS51.grown (iS HI0.out) hg (IsS51.own_ne HI0.out HO520.out (by decide))); replace HO529 := Aside0.mk (Kd.R_after (v := (.slice (some ⟨go44, 0, none⟩) t518.length co48)) (v1 := (.slice (some ⟨go44, 0, none⟩) t518.length co48)) (ok := (fun _ => True)) (rR HO529.out) hg (.inl rfl)); replace HB := Aside0.mk ((by rw [hw]; exact below_set (HB.out) (Nat.le_trans HL.out GB44.out) : Below w0.heap.size w0 w55)); replace HK := Aside0.mk (KeepBut.trans (kb HK.out) (KeepBut.of_grown hg g) (Kd.R_base2 HO520.out)); replace HO520 := Aside0.mk (hp_); clear hg hw hp_)); go_ret; exact ⟨_, sr, rR (Kd.R_mono HO520.out (fun _ hk => trivial)), iS HI0.out, bs1 HB.out (IsS51.ge HI0.out), kb HK.out⟩
     rw [if_neg c43] at H; exact absurd H (by simp)
    rw [if_neg c42] at H; exact absurd H (by simp)
   rw [if_neg c39] at H; have c39b0 := beq_eq_false_iff_ne.mpr c39; have c39b1 := bne_iff_ne.mpr c39
   by_cases c56 : t521 = 1
   ·rw [if_pos c56] at H; have c56b0 := beq_iff_eq.mpr c56; have c56b1 := bne_eq_false_iff_eq.mpr c56; clear c56; simp only [Option.some.injEq, Prod.mk.injEq] at H; obtain ⟨rfl, rfl, rfl⟩ := H; obtain ⟨Ao57, co57, eo57⟩ := Kd.V_slice HO_6.out; subst eo57; go_wp2_with (first | (go_at_call 97; (with_reducible refine (spec_l1Own.calls _ _ x6_1 t518 _ ?side1 ((Kd.V_reads' HO_6.out).2.1) A37.out).mono ?_); (case side1 => exact cw ((Kd.V_reads' HO_6.out).2.2)); rintro e w58 ⟨v519, rfl, ho0, hb⟩; replace HO_6 := Aside0.mk (Kd.V_elder' (rV HO_6.out) (Kd.R_base ho0) hb); have HO520 := Aside0.mk (Kd.R_lower ho0 (keep_size (w := w) (g := g) (row := none) (kb HK.out))); replace HK := Aside0.mk (KeepBut.trans (kb HK.out) (KeepBut.of_below hb g none) (.inl rfl)); replace HB := Aside0.mk (below_step (bs1 HB.out (IsS51.ge HI0.out)) hb); replace HI0 := Aside0.mk (IsS51.below (iS HI0.out) hb)) | (go_at_call 82; (with_reducible refine (spec_l1Cur_pick.calls g s0_0 x1001_1 x1002_1 14 t521 t522 t523 w0 _ ?side1 (bs1 HB.out (IsS51.ge HI0.out)) A38.out).mono ?_); (case side1 => exact iS HI0.out); rintro e w59 ⟨rfl, hi, hb, hk⟩; replace HO_6 := Aside0.mk (Kd.V_mono (Kd.V_keep (Kd.V_mono (ok := fun k_ => (k_ ≠ g ∧ some k_ ≠ (v519 : Value).ownBlock)) (rV HO_6.out) (fun k_ hk_ => (⟨hk_, hk_.1⟩ : _ ∧ k_ ≠ g))) hk (fun _ h => h.2)) (fun _ h => h.1)); replace HO520 := Aside0.mk (Kd.R_mono (Kd.R_keep (IsS51.apart (show IsS51 w0 _ g s0_0 x1001_1 x1002_1 from iS HI0.out) (rR HO520.out) (by decide)) hk (fun _ h => h.2)) (fun _ h => h.1)); replace HK := kt HK hk; replace HB := Aside0.mk (hb); replace HI0 := Aside0.mk (hi))); go_ret; exact ⟨_, sr, by first | exact Kd.R_nil _ _ _ _ _ | exact Kd.N_nil _ _ _ _ _ | exact Kd.V_nil _ _ _ _ _ | exact Kd.Q_nil _ _ _ _ _ | exact Kd.S_nil _ _ _ _ _, iS HI0.out, bs1 HB.out (IsS51.ge HI0.out), kb HK.out⟩
   rw [if_neg c56] at H; have c56b0 := beq_eq_false_iff_ne.mpr c56; have c56b1 := bne_iff_ne.mpr c56
   by_cases c60 : t521 = 2
   ·rw [if_pos c60] at H; have c60b0 := beq_iff_eq.mpr c60; have c60b1 := bne_eq_false_iff_eq.mpr c60; clear c60; obtain ⟨y534, hy534⟩ := yy (([8, 7, 6, 5, 4, 3, 2, 1, 0] : List Int))
    (try rw [Option.bind_some] at H); (try dsimp only at H); rw [← hy534] at H
    have Ny534 := Aside0.mk hy534; clear hy534; simp only [Option.some.injEq, Prod.mk.injEq] at H; obtain ⟨rfl, rfl, rfl⟩ := H; obtain ⟨Ao61, co61, eo61⟩ := Kd.V_slice HO_6.out; subst eo61; go_wp2_with (first | (go_at_call 97; (with_reducible refine (spec_l1Own.calls _ _ x6_1 t518 _ ?side1 ((Kd.V_reads' HO_6.out).2.1) A37.out).mono ?_); (case side1 => exact cw ((Kd.V_reads' HO_6.out).2.2)); rintro e w62 ⟨v519, rfl, ho0, hb⟩; replace HO_6 := Aside0.mk (Kd.V_elder' (rV HO_6.out) (Kd.R_base ho0) hb); have HO520 := Aside0.mk (Kd.R_lower ho0 (keep_size (w := w) (g := g) (row := none) (kb HK.out))); replace HK := Aside0.mk (KeepBut.trans (kb HK.out) (KeepBut.of_below hb g none) (.inl rfl)); replace HB := Aside0.mk (below_step (bs1 HB.out (IsS51.ge HI0.out)) hb); replace HI0 := Aside0.mk (IsS51.below (iS HI0.out) hb)) | (go_at_call 82; (with_reducible refine (spec_l1Cur_pick.calls g s0_0 x1001_1 x1002_1 14 t521 t522 t523 w0 _ ?side1 (bs1 HB.out (IsS51.ge HI0.out)) A38.out).mono ?_); (case side1 => exact iS HI0.out); rintro e w63 ⟨rfl, hi, hb, hk⟩; replace HO_6 := Aside0.mk (Kd.V_mono (Kd.V_keep (Kd.V_mono (ok := fun k_ => (k_ ≠ g ∧ some k_ ≠ (v519 : Value).ownBlock)) (rV HO_6.out) (fun k_ hk_ => (⟨hk_, hk_.1⟩ : _ ∧ k_ ≠ g))) hk (fun _ h => h.2)) (fun _ h => h.1)); replace HO520 := Aside0.mk (Kd.R_mono (Kd.R_keep (IsS51.apart (show IsS51 w0 _ g s0_0 x1001_1 x1002_1 from iS HI0.out) (rR HO520.out) (by decide)) hk (fun _ h => h.2)) (fun _ h => h.1)); replace HK := kt HK hk; replace HB := Aside0.mk (hb); replace HI0 := Aside0.mk (hi)) | ((with_reducible refine gate_dst (N := 75) rfl ?_); refine Kd.R_lit (Kd.int .i64) _ 3 ?hg (N := 75) ?hd (xs := ([8, 7, 6, 5, 4, 3, 2, 1, 0] : List Int)) (inner := [.int .i64 8, .int .i64 7, .int .i64 6, .int .i64 5, .int .i64 4, .int .i64 3, .int .i64 2, .int .i64 1, .int .i64 0]) (ok := fun _ => True) (okp := fun _ => True) ?hr ?hp (fun _ hk => hk) trivial (Below.refl _ _) (Nat.le_refl _) (by simp) ?_; (case hd => rfl); (case hg => rfl); (case hr => first | (go_simp; done) | (go_simp; rfl)); (case hp => exact (Reps.one (show Kd.M (Kd.int .i64) _ _ _ 8 [.int .i64 8] from rfl) (Reps.one (show Kd.M (Kd.int .i64) _ _ _ 7 [.int .i64 7] from rfl) (Reps.one (show Kd.M (Kd.int .i64) _ _ _ 6 [.int .i64 6] from rfl) (Reps.one (show Kd.M (Kd.int .i64) _ _ _ 5 [.int .i64 5] from rfl) (Reps.one (show Kd.M (Kd.int .i64) _ _ _ 4 [.int .i64 4] from rfl) (Reps.one (show Kd.M (Kd.int .i64) _ _ _ 3 [.int .i64 3] from rfl) (Reps.one (show Kd.M (Kd.int .i64) _ _ _ 2 [.int .i64 2] from rfl) (Reps.one (show Kd.M (Kd.int .i64) _ _ _ 1 [.int .i64 1] from rfl) (Reps.one (show Kd.M (Kd.int .i64) _ _ _ 0 [.int .i64 0] from rfl) (Reps.none _ _))))))))))); intro v535 w64 ho65 hb hg_ hnew_; clear hg_ hnew_; (first | rw [← Ny534.out] at ho65 | (simp only [Int.reduceToNat] at ho65; rw [← Ny534.out] at ho65)); replace HO_6 := Aside0.mk (Kd.V_elder' (rV HO_6.out) (Kd.R_base ho65) hb); have HO536 := Aside0.mk (Kd.R_lower (Kd.R_new' ho65 (Kd.R_lt (rR HO520.out))) (keep_size (w := w) (g := g) (row := none) (kb HK.out))); replace HO520 := Aside0.mk (Kd.R_elder' (rR HO520.out) (Kd.R_base ho65) hb); replace HK := Aside0.mk (KeepBut.trans (kb HK.out) (KeepBut.of_below hb g none) (.inl rfl)); replace HB := Aside0.mk (below_step (bs1 HB.out (IsS51.ge HI0.out)) hb); replace HI0 := Aside0.mk (IsS51.below (iS HI0.out) hb); clear hb ho65)); go_ret; exact ⟨_, sr, rR (Kd.R_mono HO536.out (fun _ hk => trivial)), iS HI0.out, bs1 HB.out (IsS51.ge HI0.out), kb HK.out⟩
   rw [if_neg c60] at H; have c60b0 := beq_eq_false_iff_ne.mpr c60; have c60b1 := bne_iff_ne.mpr c60; simp only [Option.some.injEq, Prod.mk.injEq] at H; obtain ⟨rfl, rfl, rfl⟩ := H; obtain ⟨Ao66, co66, eo66⟩ := Kd.V_slice HO_6.out; subst eo66; go_wp2_with (first | (go_at_call 97; (with_reducible refine (spec_l1Own.calls _ _ x6_1 t518 _ ?side1 ((Kd.V_reads' HO_6.out).2.1) A37.out).mono ?_); (case side1 => exact cw ((Kd.V_reads' HO_6.out).2.2)); rintro e w67 ⟨v519, rfl, ho0, hb⟩; replace HO_6 := Aside0.mk (Kd.V_elder' (rV HO_6.out) (Kd.R_base ho0) hb); have HO520 := Aside0.mk (Kd.R_lower ho0 (keep_size (w := w) (g := g) (row := none) (kb HK.out))); replace HK := Aside0.mk (KeepBut.trans (kb HK.out) (KeepBut.of_below hb g none) (.inl rfl)); replace HB := Aside0.mk (below_step (bs1 HB.out (IsS51.ge HI0.out)) hb); replace HI0 := Aside0.mk (IsS51.below (iS HI0.out) hb)) | (go_at_call 82; (with_reducible refine (spec_l1Cur_pick.calls g s0_0 x1001_1 x1002_1 14 t521 t522 t523 w0 _ ?side1 (bs1 HB.out (IsS51.ge HI0.out)) A38.out).mono ?_); (case side1 => exact iS HI0.out); rintro e w68 ⟨rfl, hi, hb, hk⟩; replace HO_6 := Aside0.mk (Kd.V_mono (Kd.V_keep (Kd.V_mono (ok := fun k_ => (k_ ≠ g ∧ some k_ ≠ (v519 : Value).ownBlock)) (rV HO_6.out) (fun k_ hk_ => (⟨hk_, hk_.1⟩ : _ ∧ k_ ≠ g))) hk (fun _ h => h.2)) (fun _ h => h.1)); replace HO520 := Aside0.mk (Kd.R_mono (Kd.R_keep (IsS51.apart (show IsS51 w0 _ g s0_0 x1001_1 x1002_1 from iS HI0.out) (rR HO520.out) (by decide)) hk (fun _ h => h.2)) (fun _ h => h.1)); replace HK := kt HK hk; replace HB := Aside0.mk (hb); replace HI0 := Aside0.mk (hi))); go_ret; exact ⟨_, sr, rR HO520.out, iS HI0.out, bs1 HB.out (IsS51.ge HI0.out), kb HK.out⟩
/-! ### spec_DrawIsFolding: function 57 -/
def spec_DrawIsFolding.f (k : Nat) (l0 : List Int) : Option (List Int) := (spec_l1Cur_stack.f k l0 0 0 8).bind fun bt538 => (some bt538.1)
theorem spec_DrawIsFolding.calls (k : Nat) (A0 : Option Addr) (c0 : Nat) (l0 : List Int) (r : List Int) (w : World) (hr0 : Kd.C (Kd.int .u8) w A0 l0.length l0) (hc0 : l0.length ≤ c0) (h : spec_DrawIsFolding.f k l0 = some r) :
  Calls Tryz.prog 57 #[.slice A0 l0.length c0] w fun e w' => ∃ v0_ : Value, e = .returned (v0_) ∧ Kd.R (Kd.int .i64) 3 w' w.heap.size (fun _ => True) v0_ r ∧ Below w.heap.size w w' := by
 have hu51 := Tryz.underlying51; have HR0 := Aside0.mk hr0; have HC0 := Aside0.mk hc0; clear hr0 hc0; have HB := Aside0.mk (Below.refl w.heap.size w); have H : ((spec_l1Cur_stack.f k l0 0 0 8).bind fun bt538 => (some bt538.1)) = some r := h; clear h; obtain ⟨⟨t538, t541, t542⟩, A2, H⟩ := bi H; (try dsimp only at H); obtain rfl := Option.some.inj H; go_enter Tryz.func57, Tryz.ntmps57; go_wp2_with (first | ((with_reducible refine gate_dst (N := 6) rfl ?_); refine box_event ?hg (N := 6) ?hd (cs := #[.slice A0 l0.length c0, .int .i64 0, .int .u64 0]) (t := 51) ?hr ?_; (case hd => rfl); (case hg => rfl); (case hr => first | (go_simp; done) | (go_simp; rfl)); intro gb537 hg w3 hbox hb; have HI537 := Aside0.mk ((show IsS51 w w3 gb537 l0 0 0 from ⟨_, _, hbox, (by rw [hg]; exact (below_size (bl HB.out)) : w.heap.size ≤ gb537), HR0.out⟩)); replace HB := bst HB hb; clear hb hbox hg) | (go_at_call 61; (with_reducible refine (spec_l1Cur_stack.calls k gb537 l0 0 0 8 t538 t541 t542 w _ ?side1 (bs1 HB.out (IsS51.ge HI537.out)) A2.out).mono ?_); (case side1 => exact iS HI537.out); rintro e w4 ⟨v539, rfl, ho0, hi, hb, hk⟩; have HO540 := Aside0.mk (Kd.R_lower ho0 (below_size (bs1 HB.out (IsS51.ge HI537.out)))); replace HB := Aside0.mk (hb); replace HI537 := Aside0.mk (hi))); go_ret; exact ⟨_, sr, rR HO540.out, bs1 HB.out (IsS51.ge HI537.out)⟩
/-! ### spec_DrawFoldingText: function 20 -/
def spec_DrawFoldingText.f (k : Nat) (l0 : List Int) : Option (List Int) := (spec_DrawIsFolding.f k l0).bind fun t543 => (some t543)
theorem spec_DrawFoldingText.calls (k : Nat) (A0 : Option Addr) (c0 : Nat) (l0 : List Int) (r : List Int) (w : World) (hr0 : Kd.C (Kd.int .u8) w A0 l0.length l0) (hc0 : l0.length ≤ c0) (h : spec_DrawFoldingText.f k l0 = some r) :
  Calls Tryz.prog 20 #[.slice A0 l0.length c0] w fun e w' => ∃ v0_ : Value, e = .returned (v0_) ∧ Kd.R (Kd.int .i64) 3 w' w.heap.size (fun _ => True) v0_ r ∧ Below w.heap.size w w' := by
 have HR0 := Aside0.mk hr0; have HC0 := Aside0.mk hc0; clear hr0 hc0; have HB := Aside0.mk (Below.refl w.heap.size w); have H : ((spec_DrawIsFolding.f k l0).bind fun t543 => (some t543)) = some r := h; clear h; obtain ⟨t543, A2, H⟩ := bi H; (try dsimp only at H); obtain rfl := Option.some.inj H; go_enter Tryz.func20, Tryz.ntmps20; go_wp2_with (first | (go_at_call 57; (with_reducible refine (spec_DrawIsFolding.calls k _ _ l0 t543 _ ?side1 HC0.out A2.out).mono ?_); (case side1 => exact cw HR0.out); rintro e w3 ⟨v544, rfl, ho0, hb⟩; have HO545 := Aside0.mk (Kd.R_lower ho0 (below_size (bl HB.out))); replace HB := bst HB hb)); go_ret; exact ⟨_, sr, rR HO545.out, bl HB.out⟩
/-! ### impl_digits: function 58 -/
def impl_digits.l0 : Nat → List Int → List Int → Int → Int → Option (ByteArray)
 | 0, _, _, _, _ => none
 | k + 1, x3, x7, x8, x9 => if x9 < x8 then (if 0 ≤ x9 then (if x9 < (x7.length : Int) then (if x3.length < 140737488355328 then (impl_digits.l0 k (x3 ++ [(wrap64 (48 + (rd x7 x9))) % 256]) x7 x8 (wrap64 (x9 + 1))) else (none)) else (none)) else (none)) else (some (strOfNums x3))
def impl_digits.f (k : Nat) (l0 : List Int) : Option (ByteArray) := impl_digits.l0 k (([] : List Int)) l0 (l0.length : Int) 0
theorem impl_digits.calls (k : Nat) (A0 : Option Addr) (c0 : Nat) (l0 : List Int) (r : ByteArray) (w : World) (hr0 : Kd.C (Kd.int .i64) w A0 l0.length l0) (hc0 : l0.length ≤ c0) (h : impl_digits.f k l0 = some r) :
  Calls Tryz.prog 58 #[.slice A0 l0.length c0] w fun e w' => e = .returned (.string r) ∧ Below w.heap.size w w' := by
 have HR0 := Aside0.mk hr0; have HC0 := Aside0.mk hc0; clear hr0 hc0; have HB := Aside0.mk (Below.refl w.heap.size w); have H : (impl_digits.l0 k (([] : List Int)) l0 (l0.length : Int) 0) = some r := h; clear h; obtain ⟨y546, hy546⟩ := yy (([] : List Int))
 (try rw [Option.bind_some] at H); (try dsimp only at H); rw [← hy546] at H
 have Ny546 := Aside0.mk hy546; clear hy546; have H' := Aside0.mk H; clear H; go_enter Tryz.func58, Tryz.ntmps58; go_wp2_with (first | ((with_reducible refine gate_dst (N := 6) rfl ?_); refine Kd.R_lit (Kd.int .u8) _ 5 ?hg (N := 6) ?hd (xs := ([] : List Int)) (inner := []) (ok := fun _ => True) (okp := fun _ => True) ?hr ?hp (fun _ hk => hk) trivial (Below.refl _ _) (Nat.le_refl _) (by simp) ?_; (case hd => rfl); (case hg => rfl); (case hr => first | (go_simp; done) | (go_simp; rfl)); (case hp => exact (Reps.none _ _)); intro v547 w2 ho3 hb hg_ hnew_; clear hg_ hnew_; (first | rw [← Ny546.out] at ho3 | (simp only [Int.reduceToNat] at ho3; rw [← Ny546.out] at ho3)); have HO548 := Aside0.mk (Kd.R_lower ho3 (below_size (bl HB.out))); replace HB := bst HB hb; clear hb ho3))
 go_loopg [3, 9] k (fun kq v3 v9 w' => ∃ (x3_1 : List Int) (x9_1 : Int), v9 = .int .i64 x9_1 ∧ Aside0 (impl_digits.l0 kq x3_1 l0 (l0.length : Int) x9_1 = some r) ∧ Aside0 (kq ≤ k) ∧ Aside0 (Kd.R (Kd.int .u8) 5 w' w.heap.size (fun _ => True) v3 x3_1) ∧ Aside0 (Below w.heap.size w w'))
 case atStart => exact ⟨(y546), (0), (sr2), H', ⟨Nat.le_refl _⟩, ⟨rR HO548.out⟩, ⟨bl HB.out⟩⟩
 case round =>
  clear H'; obtain ⟨x3_1, x9_1, rfl, HA, HK1, HO_3, HB⟩ := hrel
  cases gk with
  | zero => exact absurd HA.out (by simp [impl_digits.l0])
  | succ k1 =>
   have H := HA.out; clear HA; simp only [impl_digits.l0] at H
   by_cases c4 : x9_1 < (l0.length : Int)
   ·rw [if_pos c4] at H; have c4b0 := decide_eq_true c4; clear c4
    by_cases c5 : 0 ≤ x9_1
    ·rw [if_pos c5] at H; have c5b0 := decide_eq_true c5; clear c5
     by_cases c6 : x9_1 < (l0.length : Int)
     ·rw [if_pos c6] at H; have c6b0 := decide_eq_true c6; clear c6
      by_cases c7 : x3_1.length < 140737488355328
      ·rw [if_pos c7] at H; have LMc7 := Aside0.mk c7; clear c7; obtain ⟨y550, hy550⟩ := yy (x3_1 ++ [(wrap64 (48 + (rd l0 x9_1))) % 256])
       (try rw [Option.bind_some] at H); (try dsimp only at H); rw [← hy550] at H
       have Ny550 := Aside0.mk hy550; clear hy550; have H' := Aside0.mk H; clear H; obtain ⟨ad549, e549, hx549_0, p549, q549⟩ := atI HR0.out x9_1; cases e549; replace hx549_0 := hbx HB hx549_0; go_wp2_with (first | ((with_reducible refine gate_builtin (b := .append) (xs := #[.tmp 13, .tmp 17]) rfl ?_); at_builtin; refine Kd.R_append (Kd.int .u8) (w0 := w) w.heap.size rfl (.tmp 13) (.tmp 17) 22 5 (.int .u8 0) 1 rfl Tryz.underlying22 info5 rfl (by decide) (by omega) u3 x3_1 ((wrap64 (48 + (rd l0 x9_1))) % 256) [.int .u8 ((wrap64 (48 + (rd l0 x9_1))) % 256)] (fun _ => True) (fun _ => False) rfl rfl ?aP (fun _ hk => hk.elim) ?aF ?aO ?aB ?aS (by have := LMc7.out; omega) ?_; (case aP => exact rfl); (case aB => exact (bl HB.out)); (case aF => exact (fun _ _ => trivial)); (case aO => exact (rR HO_3.out)); (case aS => exact (below_size (bl HB.out))); intro v551 w8 ho hb hg hat; rw [← Ny550.out] at ho; replace HB := Aside0.mk (hb); have HO552 := Aside0.mk (ho); clear HO_3; clear ho hb hg hat))
       go_roundg k1
       case measure => have := HK1.out; omega
       case rel => exact ⟨(y550), (wrap64 (x9_1 + 1)), (sr2), H', ⟨by have := HK1.out; omega⟩, ⟨rR HO552.out⟩, ⟨bl HB.out⟩⟩
      rw [if_neg c7] at H; exact absurd H (by simp)
     rw [if_neg c6] at H; exact absurd H (by simp)
    rw [if_neg c5] at H; exact absurd H (by simp)
   rw [if_neg c4] at H; have c4b0 := decide_eq_false c4; clear c4; obtain rfl := Option.some.inj H; have hcv9 := own_string (P := Tryz.prog) Tryz.underlying22 Tryz.underlying5 Tryz.underlying9 (Kd.own_of_R HO_3.out); go_wp2; go_ret; exact ⟨sr, bl HB.out⟩
/-! ### impl_FoldingText: function 21 -/
def impl_FoldingText.f (k : Nat) (l0 : List Int) : Option (ByteArray × Bool) := (impl_isStack.f k l0).bind fun t553 => (if t553 = true then ((impl_digits.f k l0).bind fun t554 => (some (t554, true))) else (some ((⟨#[]⟩ : ByteArray), false)))
theorem impl_FoldingText.calls (k : Nat) (A0 : Option Addr) (c0 : Nat) (l0 : List Int) (r1 : ByteArray) (r2 : Bool) (w : World) (hr0 : Kd.C (Kd.int .i64) w A0 l0.length l0) (hc0 : l0.length ≤ c0) (h : impl_FoldingText.f k l0 = some (r1, r2)) :
  Calls Tryz.prog 21 #[.slice A0 l0.length c0] w fun e w' => e = .returned (.tuple #[.string r1, .bool r2]) ∧ Below w.heap.size w w' := by
 have HR0 := Aside0.mk hr0; have HC0 := Aside0.mk hc0; clear hr0 hc0; have HB := Aside0.mk (Below.refl w.heap.size w); have H : ((impl_isStack.f k l0).bind fun t553 => (if t553 = true then ((impl_digits.f k l0).bind fun t554 => (some (t554, true))) else (some ((⟨#[]⟩ : ByteArray), false)))) = some (r1, r2) := h; clear h; obtain ⟨t553, A2, H⟩ := bi H; (try dsimp only at H)
 by_cases c3 : t553 = true
 ·subst c3; rw [if_pos rfl] at H; obtain ⟨t554, A4, H⟩ := bi H; (try dsimp only at H); simp only [Option.some.injEq, Prod.mk.injEq] at H; obtain ⟨rfl, rfl⟩ := H; go_enter Tryz.func21, Tryz.ntmps21; go_wp2_with (first | (go_at_call 53; (with_reducible refine (impl_isStack.calls k _ _ l0 true _ ?side1 HC0.out A2.out).mono ?_); (case side1 => exact cw HR0.out); rintro e w5 ⟨rfl, hb⟩; replace HB := bst HB hb) | (go_at_call 58; (with_reducible refine (impl_digits.calls k _ _ l0 t554 _ ?side1 HC0.out A4.out).mono ?_); (case side1 => exact cw (Kd.C_below HR0.out HB.out)); rintro e w6 ⟨rfl, hb⟩; replace HB := bst HB hb)); go_ret2; exact ⟨sr, bl HB.out⟩
 replace c3 := Bool.eq_false_iff.mpr c3; subst c3; rw [if_neg (show ¬ (false = true) by decide)] at H; simp only [Option.some.injEq, Prod.mk.injEq] at H; obtain ⟨rfl, rfl⟩ := H; go_enter Tryz.func21, Tryz.ntmps21; go_wp2_with (first | (go_at_call 53; (with_reducible refine (impl_isStack.calls k _ _ l0 false _ ?side1 HC0.out A2.out).mono ?_); (case side1 => exact cw HR0.out); rintro e w7 ⟨rfl, hb⟩; replace HB := bst HB hb)); go_ret2; exact ⟨sr, bl HB.out⟩
/-! ### spec_l1All: function 94 -/
def spec_l1All.l0 : Nat → Int → Int → List Int → Int → Int → Option (Bool)
 | 0, _, _, _, _, _ => none
 | k + 1, x1, x2, x9, x10, x11 => if x11 < x10 then (if 0 ≤ x11 then (if x11 < (x9.length : Int) then ((spec_l1In.f (rd x9 x11) x1 x2).bind fun t556 => (if t556 = true then (spec_l1All.l0 k x1 x2 x9 x10 (wrap64 (x11 + 1))) else (some false))) else (none)) else (none)) else (some true)
def spec_l1All.f (k : Nat) (l0 : List Int) (a1 : Int) (a2 : Int) : Option (Bool) := spec_l1All.l0 k a1 a2 l0 (l0.length : Int) 0
theorem spec_l1All.calls (k : Nat) (A0 : Option Addr) (c0 : Nat) (l0 : List Int) (a1 : Int) (a2 : Int) (r : Bool) (w : World) (hr0 : Kd.C (Kd.int .i64) w A0 l0.length l0) (hc0 : l0.length ≤ c0) (h : spec_l1All.f k l0 a1 a2 = some r) :
  Calls Tryz.prog 94 #[.slice A0 l0.length c0, .int .i64 a1, .int .i64 a2] w fun e w' => e = .returned (.bool r) ∧ Drawn0 w w' := by
 have HR0 := Aside0.mk hr0; have HC0 := Aside0.mk hc0; clear hr0 hc0; have H : (spec_l1All.l0 k a1 a2 l0 (l0.length : Int) 0) = some r := h; clear h; have H' := Aside0.mk H; clear H; go_enter Tryz.func94, Tryz.ntmps94; go_wp2
 go_loopg [11] k (fun kq v11 w' => ∃ (x11_1 : Int), v11 = .int .i64 x11_1 ∧ Aside0 (spec_l1All.l0 kq a1 a2 l0 (l0.length : Int) x11_1 = some r) ∧ Aside0 (kq ≤ k) ∧ Drawn0 w w')
 case atStart => exact ⟨(0), (sr2), H', ⟨Nat.le_refl _⟩, by repeat (first | exact Drawn0.refl _ | apply Drawn0.step)⟩
 case round =>
  clear H'; obtain ⟨x11_1, rfl, HA, HK1, ⟨m1, rfl⟩⟩ := hrel
  cases gk with
  | zero => exact absurd HA.out (by simp [spec_l1All.l0])
  | succ k1 =>
   have H := HA.out; clear HA; simp only [spec_l1All.l0] at H
   by_cases c4 : x11_1 < (l0.length : Int)
   ·rw [if_pos c4] at H; have c4b0 := decide_eq_true c4; clear c4
    by_cases c5 : 0 ≤ x11_1
    ·rw [if_pos c5] at H; have c5b0 := decide_eq_true c5; clear c5
     by_cases c6 : x11_1 < (l0.length : Int)
     ·rw [if_pos c6] at H; have c6b0 := decide_eq_true c6; clear c6; obtain ⟨t556, A7, H⟩ := bi H; (try dsimp only at H)
      by_cases c8 : t556 = true
      ·subst c8; rw [if_pos rfl] at H; have H' := Aside0.mk H; clear H; obtain ⟨ad555, e555, hx555_0, p555, q555⟩ := atI HR0.out x11_1; cases e555; go_wp2_with (first | (go_at_call 48; (with_reducible refine (spec_l1In.calls (rd l0 x11_1) a1 a2 true _ A7.out).mono ?_); rintro e w' ⟨rfl, ⟨nd, rfl⟩⟩))
       go_roundg k1
       case measure => have := HK1.out; omega
       case rel => exact ⟨(wrap64 (x11_1 + 1)), (sr2), H', ⟨by have := HK1.out; omega⟩, by repeat (first | exact Drawn0.refl _ | apply Drawn0.step)⟩
      replace c8 := Bool.eq_false_iff.mpr c8; subst c8; rw [if_neg (show ¬ (false = true) by decide)] at H; obtain rfl := Option.some.inj H; obtain ⟨ad555, e555, hx555_0, p555, q555⟩ := atI HR0.out x11_1; cases e555; go_wp2_with (first | (go_at_call 48; (with_reducible refine (spec_l1In.calls (rd l0 x11_1) a1 a2 false _ A7.out).mono ?_); rintro e w' ⟨rfl, ⟨nd, rfl⟩⟩)); go_ret; exact ⟨sr2, by repeat (first | exact Drawn0.refl _ | apply Drawn0.step)⟩
     rw [if_neg c6] at H; exact absurd H (by simp)
    rw [if_neg c5] at H; exact absurd H (by simp)
   rw [if_neg c4] at H; have c4b0 := decide_eq_false c4; clear c4; obtain rfl := Option.some.inj H; go_wp2; go_ret; exact ⟨sr2, by repeat (first | exact Drawn0.refl _ | apply Drawn0.step)⟩
/-! ### spec_l1Has: function 95 -/
def spec_l1Has.l0 : Nat → Int → List Int → Int → Int → Option (Bool)
 | 0, _, _, _, _ => none
 | k + 1, x1, x7, x8, x9 => if x9 < x8 then (if 0 ≤ x9 then (if x9 < (x7.length : Int) then (if (rd x7 x9) = x1 then (some true) else (spec_l1Has.l0 k x1 x7 x8 (wrap64 (x9 + 1)))) else (none)) else (none)) else (some false)
def spec_l1Has.f (k : Nat) (l0 : List Int) (a1 : Int) : Option (Bool) := spec_l1Has.l0 k a1 l0 (l0.length : Int) 0
theorem spec_l1Has.calls (k : Nat) (A0 : Option Addr) (c0 : Nat) (l0 : List Int) (a1 : Int) (r : Bool) (w : World) (hr0 : Kd.C (Kd.int .i64) w A0 l0.length l0) (hc0 : l0.length ≤ c0) (h : spec_l1Has.f k l0 a1 = some r) :
  Calls Tryz.prog 95 #[.slice A0 l0.length c0, .int .i64 a1] w fun e w' => e = .returned (.bool r) ∧ Drawn0 w w' := by
 have HR0 := Aside0.mk hr0; have HC0 := Aside0.mk hc0; clear hr0 hc0; have H : (spec_l1Has.l0 k a1 l0 (l0.length : Int) 0) = some r := h; clear h; have H' := Aside0.mk H; clear H; go_enter Tryz.func95, Tryz.ntmps95; go_wp2
 go_loopg [9] k (fun kq v9 w' => ∃ (x9_1 : Int), v9 = .int .i64 x9_1 ∧ Aside0 (spec_l1Has.l0 kq a1 l0 (l0.length : Int) x9_1 = some r) ∧ Aside0 (kq ≤ k) ∧ Drawn0 w w')
 case atStart => exact ⟨(0), (sr2), H', ⟨Nat.le_refl _⟩, by repeat (first | exact Drawn0.refl _ | apply Drawn0.step)⟩
 case round =>
  clear H'; obtain ⟨x9_1, rfl, HA, HK1, ⟨m1, rfl⟩⟩ := hrel
  cases gk with
  | zero => exact absurd HA.out (by simp [spec_l1Has.l0])
  | succ k1 =>
   have H := HA.out; clear HA; simp only [spec_l1Has.l0] at H
   by_cases c3 : x9_1 < (l0.length : Int)
   ·rw [if_pos c3] at H; have c3b0 := decide_eq_true c3; clear c3
    by_cases c4 : 0 ≤ x9_1
    ·rw [if_pos c4] at H; have c4b0 := decide_eq_true c4; clear c4
     by_cases c5 : x9_1 < (l0.length : Int)
     ·rw [if_pos c5] at H; have c5b0 := decide_eq_true c5; clear c5
      by_cases c6 : (rd l0 x9_1) = a1
      ·rw [if_pos c6] at H; have c6b0 := beq_iff_eq.mpr c6; have c6b1 := bne_eq_false_iff_eq.mpr c6; clear c6; obtain rfl := Option.some.inj H; obtain ⟨ad557, e557, hx557_0, p557, q557⟩ := atI HR0.out x9_1; cases e557; go_wp2; go_ret; exact ⟨sr2, by repeat (first | exact Drawn0.refl _ | apply Drawn0.step)⟩
      rw [if_neg c6] at H; have c6b0 := beq_eq_false_iff_ne.mpr c6; have c6b1 := bne_iff_ne.mpr c6; have H' := Aside0.mk H; clear H; obtain ⟨ad557, e557, hx557_0, p557, q557⟩ := atI HR0.out x9_1; cases e557; go_wp2
      go_roundg k1
      case measure => have := HK1.out; omega
      case rel => exact ⟨(wrap64 (x9_1 + 1)), (sr2), H', ⟨by have := HK1.out; omega⟩, by repeat (first | exact Drawn0.refl _ | apply Drawn0.step)⟩
     rw [if_neg c5] at H; exact absurd H (by simp)
    rw [if_neg c4] at H; exact absurd H (by simp)
   rw [if_neg c3] at H; have c3b0 := decide_eq_false c3; clear c3; obtain rfl := Option.some.inj H; go_wp2; go_ret; exact ⟨sr2, by repeat (first | exact Drawn0.refl _ | apply Drawn0.step)⟩
/-! ### spec_spStack: function 59 -/
mutual
def spec_spStack.j0 : Nat → List Int → Bool → Option (Bool)
 | 0, _, _ => none
 | k + 1, x0, x16 => if x16 = true then (some false) else (spec_spStack.l0 k x0 x0 (x0.length : Int) 0)
def spec_spStack.l0 : Nat → List Int → List Int → Int → Int → Option (Bool)
 | 0, _, _, _, _ => none
 | k + 1, x0, x17, x18, x19 => if x19 < x18 then (if 0 ≤ x19 then (if x19 < (x17.length : Int) then (if x19 ≤ (x0.length : Int) then ((spec_l1Has.f k (x0.take (x19 : Int).toNat) (rd x17 x19)).bind fun t562 => (if t562 = true then (some false) else (spec_spStack.l0 k x0 x17 x18 (wrap64 (x19 + 1))))) else (none)) else (none)) else (none)) else (some true)
end
def spec_spStack.f (k : Nat) (l0 : List Int) : Option (Bool) := (spec_l1In.f (l0.length : Int) 1 8).bind fun t558 => (if t558 = true then ((spec_l1All.f k l0 0 (wrap64 ((l0.length : Int) - 1))).bind fun t559 => (spec_spStack.j0 k l0 (!t559))) else (spec_spStack.j0 k l0 true))
theorem spec_spStack.calls (k : Nat) (A0 : Option Addr) (c0 : Nat) (l0 : List Int) (r : Bool) (w : World) (hr0 : Kd.C (Kd.int .i64) w A0 l0.length l0) (hc0 : l0.length ≤ c0) (h : spec_spStack.f k l0 = some r) :
  Calls Tryz.prog 59 #[.slice A0 l0.length c0] w fun e w' => e = .returned (.bool r) ∧ Drawn0 w w' := by
 have HR0 := Aside0.mk hr0; have HC0 := Aside0.mk hc0; clear hr0 hc0; have H : ((spec_l1In.f (l0.length : Int) 1 8).bind fun t558 => (if t558 = true then ((spec_l1All.f k l0 0 (wrap64 ((l0.length : Int) - 1))).bind fun t559 => (spec_spStack.j0 k l0 (!t559))) else (spec_spStack.j0 k l0 true))) = some r := h; clear h; have HC2 := Aside0.mk H; clear H; go_enter Tryz.func59, Tryz.ntmps59
 go_upto_region 1 with (fail)
 go_cut [16] (fun v16 wc => ∃ (kq : Nat) (x16_1 : Bool), v16 = .bool x16_1 ∧ Aside0 (spec_spStack.j0 kq l0 x16_1 = some r) ∧ Aside0 (kq ≤ k) ∧ Drawn0 w wc)
 case first =>
  have H := HC2.out; clear HC2; obtain ⟨t558, A3, H⟩ := bi H; (try dsimp only at H)
  by_cases c4 : t558 = true
  ·subst c4; rw [if_pos rfl] at H; obtain ⟨t559, A5, H⟩ := bi H; (try dsimp only at H); have H' := Aside0.mk H; clear H; go_wp2_with (first | (go_at_call 48; (with_reducible refine (spec_l1In.calls (l0.length : Int) 1 8 true _ A3.out).mono ?_); rintro e w' ⟨rfl, ⟨nd, rfl⟩⟩) | (go_at_call 94; (with_reducible refine (spec_l1All.calls k _ _ l0 0 (wrap64 ((l0.length : Int) - 1)) t559 _ ?side1 HC0.out A5.out).mono ?_); (case side1 => exact cw HR0.out); rintro e w' ⟨rfl, ⟨nd, rfl⟩⟩)); go_meet
   case rel => exact ⟨_, (!t559), (sr2), H', ⟨by first | omega | exact Nat.le_refl _⟩, by repeat (first | exact Drawn0.refl _ | apply Drawn0.step)⟩
  replace c4 := Bool.eq_false_iff.mpr c4; subst c4; rw [if_neg (show ¬ (false = true) by decide)] at H; have H' := Aside0.mk H; clear H; go_wp2_with (first | (go_at_call 48; (with_reducible refine (spec_l1In.calls (l0.length : Int) 1 8 false _ A3.out).mono ?_); rintro e w' ⟨rfl, ⟨nd, rfl⟩⟩)); go_meet
  case rel => exact ⟨_, (true), (sr2), H', ⟨by first | omega | exact Nat.le_refl _⟩, by repeat (first | exact Drawn0.refl _ | apply Drawn0.step)⟩
 case rest =>
  clear HC2; obtain ⟨kq, x16_1, rfl, HA, HJ1, ⟨mc1, rfl⟩⟩ := hcut
  cases kq with
  | zero => exact absurd HA.out (by simp [spec_spStack.j0])
  | succ kj1 =>
   have H := HA.out; clear HA; simp only [spec_spStack.j0] at H
   by_cases c6 : x16_1 = true
   ·subst c6; rw [if_pos rfl] at H; obtain rfl := Option.some.inj H; go_wp2; go_ret; exact ⟨sr2, by repeat (first | exact Drawn0.refl _ | apply Drawn0.step)⟩
   replace c6 := Bool.eq_false_iff.mpr c6; subst c6; rw [if_neg (show ¬ (false = true) by decide)] at H; have H' := Aside0.mk H; clear H; go_wp2
   go_loopg [19] kj1 (fun kq v19 w' => ∃ (x19_2 : Int), v19 = .int .i64 x19_2 ∧ Aside0 (spec_spStack.l0 kq l0 l0 (l0.length : Int) x19_2 = some r) ∧ Aside0 (kq ≤ kj1) ∧ Drawn0 w w')
   case atStart => exact ⟨(0), (sr2), H', ⟨Nat.le_refl _⟩, by repeat (first | exact Drawn0.refl _ | apply Drawn0.step)⟩
   case round =>
    clear H'; obtain ⟨x19_2, rfl, HA, HK2, ⟨m2, rfl⟩⟩ := hrel
    cases gk with
    | zero => exact absurd HA.out (by simp [spec_spStack.l0])
    | succ k2 =>
     have H := HA.out; clear HA; simp only [spec_spStack.l0] at H
     by_cases c7 : x19_2 < (l0.length : Int)
     ·rw [if_pos c7] at H; have c7b0 := decide_eq_true c7; clear c7
      by_cases c8 : 0 ≤ x19_2
      ·rw [if_pos c8] at H; have c8b0 := decide_eq_true c8; clear c8
       by_cases c9 : x19_2 < (l0.length : Int)
       ·rw [if_pos c9] at H; have c9b0 := decide_eq_true c9; clear c9; have c10b0 := eq_true (od : 0 ≤ x19_2)
        by_cases c11 : x19_2 ≤ (l0.length : Int)
        ·rw [if_pos c11] at H; have c11b0 := eq_true c11; have c11b1 := decide_eq_true c11; clear c11; obtain ⟨t562, A12, H⟩ := bi H; (try dsimp only at H)
         by_cases c13 : t562 = true
         ·subst c13; rw [if_pos rfl] at H; obtain rfl := Option.some.inj H; obtain ⟨ad560, e560, hx560_0, p560, q560⟩ := atI HR0.out x19_2; cases e560; obtain ⟨i014, hi014, _, hsz14, _⟩ := info_parts info3; obtain ⟨hcut14, hA14, hC14⟩ := print_take_of (P := Tryz.prog) (Value.int .i64) 0 31 3 .i64 Tryz.underlying31 hi014 hsz14 (some ad560) c0 l0 x19_2 (od) (od) HC0.out; have HR561 := Aside0.mk (Kd.C_of_reads (h1 := fun _ => rfl) (hA14 _ (Kd.reads_of_C HR0.out))); have HC561 := Aside0.mk hC14; clear hA14 hC14 hi014 hsz14; go_wp2_with (first | ((with_reducible refine gate_callee (f := 95) rfl ?_); refine goesL_ (some 28) rfl rfl Tryz.func95 (by kernel_rfl) rfl #[.slice (some ad560) (l0.take (x19_2 : Int).toNat).length c0, .int .i64 (rd l0 x19_2)] rfl (by (try simp only [List.map_toArray, List.map_cons, List.map_nil]); first | done | (rw [show (l0.take (x19_2 : Int).toNat).length = x19_2.toNat from (by rw [List.length_take]; have h_ : (x19_2 : Int) ≤ (l0.length : Int) := od; omega)] <;> rfl) | rfl | (simp only [List.length_drop, List.length_take]; rfl)) ?_; (with_reducible refine (spec_l1Has.calls k2 _ _ (l0.take (x19_2 : Int).toNat) (rd l0 x19_2) true _ ?side1 HC561.out A12.out).mono ?_); (case side1 => exact cw HR561.out); rintro e w' ⟨rfl, ⟨nd, rfl⟩⟩; refine ⟨_, rfl, ?_⟩)); go_ret; exact ⟨sr2, by repeat (first | exact Drawn0.refl _ | apply Drawn0.step)⟩
         replace c13 := Bool.eq_false_iff.mpr c13; subst c13; rw [if_neg (show ¬ (false = true) by decide)] at H; have H' := Aside0.mk H; clear H; obtain ⟨ad560, e560, hx560_0, p560, q560⟩ := atI HR0.out x19_2; cases e560; obtain ⟨i015, hi015, _, hsz15, _⟩ := info_parts info3; obtain ⟨hcut15, hA15, hC15⟩ := print_take_of (P := Tryz.prog) (Value.int .i64) 0 31 3 .i64 Tryz.underlying31 hi015 hsz15 (some ad560) c0 l0 x19_2 (od) (od) HC0.out; have HR561 := Aside0.mk (Kd.C_of_reads (h1 := fun _ => rfl) (hA15 _ (Kd.reads_of_C HR0.out))); have HC561 := Aside0.mk hC15; clear hA15 hC15 hi015 hsz15; go_wp2_with (first | ((with_reducible refine gate_callee (f := 95) rfl ?_); refine goesL_ (some 28) rfl rfl Tryz.func95 (by kernel_rfl) rfl #[.slice (some ad560) (l0.take (x19_2 : Int).toNat).length c0, .int .i64 (rd l0 x19_2)] rfl (by (try simp only [List.map_toArray, List.map_cons, List.map_nil]); first | done | (rw [show (l0.take (x19_2 : Int).toNat).length = x19_2.toNat from (by rw [List.length_take]; have h_ : (x19_2 : Int) ≤ (l0.length : Int) := od; omega)] <;> rfl) | rfl | (simp only [List.length_drop, List.length_take]; rfl)) ?_; (with_reducible refine (spec_l1Has.calls k2 _ _ (l0.take (x19_2 : Int).toNat) (rd l0 x19_2) false _ ?side1 HC561.out A12.out).mono ?_); (case side1 => exact cw HR561.out); rintro e w' ⟨rfl, ⟨nd, rfl⟩⟩; refine ⟨_, rfl, ?_⟩))
         go_roundg k2
         case measure => have := HJ1.out; have := HK2.out; omega
         case rel => exact ⟨(wrap64 (x19_2 + 1)), (sr2), H', ⟨by have := HJ1.out; have := HK2.out; omega⟩, by repeat (first | exact Drawn0.refl _ | apply Drawn0.step)⟩
        rw [if_neg c11] at H; exact absurd H (by simp)
       rw [if_neg c9] at H; exact absurd H (by simp)
      rw [if_neg c8] at H; exact absurd H (by simp)
     rw [if_neg c7] at H; have c7b0 := decide_eq_false c7; clear c7; obtain rfl := Option.some.inj H; go_wp2; go_ret; exact ⟨sr2, by repeat (first | exact Drawn0.refl _ | apply Drawn0.step)⟩
/-! ### spec_l1Num: function 96 -/
def spec_l1Num.f : Nat → Int → Option (ByteArray)
 | 0, _ => none
 | k + 1, a0 => if a0 < 10 then (some (strOfNums (([(wrap64 (48 + a0)) % 256] : List Int)))) else ((spec_l1Num.f k (wrap64 (Int.tdiv a0 10))).bind fun t566 => ((some (([(wrap64 (48 + (Int.tmod a0 10))) % 256] : List Int) : List Int)).bind fun y567 => (if t566.size + (strOfNums y567).size ≤ 9223372036854775807 then (some (t566 ++ (strOfNums y567))) else (none))))
def spec_l1Num.T3 : Bool × List (List Nat × List Nat) := (true, [([], []), ([0], [0]), ([1], [1]), ([], []), ([3], [3]), ([4], [4]), ([5], [5]), ([6], [6]), ([7], [7]), ([2, 8], [2, 8]), ([9, 2, 0, 1, 2, 3, 4, 5, 6, 7, 8, 9], [9])])
def spec_l1Num.B3 : List Nat := [0, 1, 3, 0, 8, 24, 56, 120, 248, 511, 1023]
theorem spec_l1Num.tab3 : rtab .any (opsOf Tryz.f96 3) = spec_l1Num.T3 := by kernel_rfl
theorem spec_l1Num.bits3 : waitsOk spec_l1Num.T3.2 spec_l1Num.B3 = true := by kernel_rfl
theorem spec_l1Num.calls (k : Nat) : ∀ (a0 : Int) (r : ByteArray) (w : World) (h : spec_l1Num.f k a0 = some r),
  Calls Tryz.prog 96 #[.int .i64 a0] w fun e w' => e = .returned (.string r) ∧ Below w.heap.size w w' := by
 induction k using Nat.strongRecOn with
 | _ k ih =>
 intro a0 r w h
 cases k with
 | zero => exact absurd h (by simp [spec_l1Num.f])
 | succ k =>
 simp only [spec_l1Num.f] at h; have HB := Aside0.mk (Below.refl w.heap.size w); have H : (if a0 < 10 then (some (strOfNums (([(wrap64 (48 + a0)) % 256] : List Int)))) else ((spec_l1Num.f k (wrap64 (Int.tdiv a0 10))).bind fun t566 => ((some (([(wrap64 (48 + (Int.tmod a0 10))) % 256] : List Int) : List Int)).bind fun y567 => (if t566.size + (strOfNums y567).size ≤ 9223372036854775807 then (some (t566 ++ (strOfNums y567))) else (none))))) = some r := h; clear h
 by_cases c2 : a0 < 10
 ·rw [if_pos c2] at H; have c2b0 := decide_eq_true c2; clear c2; obtain ⟨y563, hy563⟩ := yy (([(wrap64 (48 + a0)) % 256] : List Int))
  (try rw [Option.bind_some] at H); (try dsimp only at H); rw [← hy563] at H
  have Ny563 := Aside0.mk hy563; clear hy563; obtain rfl := Option.some.inj H; go_enter Tryz.func96, Tryz.ntmps96; go_wp2_with (first | ((with_reducible refine gate_dst (N := 8) rfl ?_); refine Kd.R_lit (Kd.int .u8) _ 5 ?hg (N := 8) ?hd (xs := ([(wrap64 (48 + a0)) % 256] : List Int)) (inner := [.int .u8 ((wrap64 (48 + a0)) % 256)]) (ok := fun _ => True) (okp := fun _ => True) ?hr ?hp (fun _ hk => hk) trivial (Below.refl _ _) (Nat.le_refl _) (by simp) ?_; (case hd => rfl); (case hg => rfl); (case hr => first | (go_simp; done) | (go_simp; rfl)); (case hp => exact (Reps.one (show Kd.M (Kd.int .u8) _ _ _ ((wrap64 (48 + a0)) % 256) [.int .u8 ((wrap64 (48 + a0)) % 256)] from rfl) (Reps.none _ _))); intro v564 w3 ho4 hb hg_ hnew_; clear hg_ hnew_; (first | rw [← Ny563.out] at ho4 | (simp only [Int.reduceToNat] at ho4; rw [← Ny563.out] at ho4)); have HO565 := Aside0.mk (Kd.R_lower ho4 (below_size (bl HB.out))); replace HB := bst HB hb; clear hb ho4; have hcv5 := own_string (P := Tryz.prog) Tryz.underlying22 Tryz.underlying5 Tryz.underlying9 (Kd.own_of_R HO565.out))); go_ret; exact ⟨sr, bl HB.out⟩
 rw [if_neg c2] at H; have c2b0 := decide_eq_false c2; clear c2; obtain ⟨t566, A6, H⟩ := bi H; (try dsimp only at H); obtain ⟨y567, hy567⟩ := yy (([(wrap64 (48 + (Int.tmod a0 10))) % 256] : List Int))
 (try rw [Option.bind_some] at H); (try dsimp only at H); rw [← hy567] at H
 have Ny567 := Aside0.mk hy567; clear hy567
 by_cases c7 : t566.size + (strOfNums y567).size ≤ 9223372036854775807
 ·rw [if_pos c7] at H; have c7b0 := eq_true c7; have c7b1 := decide_eq_true c7; (try have c7b2 : (9223372036854775807 < t566.size + (strOfNums y567).size) = False := eq_false (Nat.not_lt.2 c7)); obtain rfl := Option.some.inj H; go_enter Tryz.func96, Tryz.ntmps96; (try go_wp2); replace HB := bd1 HB; refine start_ (n := 11) (S := fun w' => True) (ds := []) #[false, false, false, false, false, false, false, false, false, false, false] (by kernel_rfl) rfl rfl trivial (fun hHeld => ?_); refine with_tabW spec_l1Num.tab3 spec_l1Num.bits3 (fun HT_ HW_ => ?_); generalize w.drew = w8 at HB hHeld ⊢; refine pu 0 10 HT_.out ?_; refine pu 1 11 HT_.out ?_; refine pu 3 13 HT_.out ?_; refine pu 4 14 HT_.out ?_; refine pu 5 15 HT_.out ?_; refine pu 6 16 HT_.out ?_; refine join_ (σ := Value) 2 #[true, true, true, true, true, true, true, true, true, false, false] (fun s_ => [(12, .string t566), (17, s_), (18, .string (strOfNums y567))]) (fun s_ w' => (Kd.R (Kd.int .u8) 5 w' w.heap.size (fun _ => True) s_ y567) ∧ (Below w.heap.size w w')) ?_ ?_
  rotate_left
  ·intro hCont
   refine two_ (i := 2) (j := 7) (Ni := some 12) (Nj := some 17) #[true, true, true, true, true, true, true, false, false, false, false] #[true, true, false, true, true, true, true, true, false, false, false] rfl rfl rfl rfl (two_of HT_.out (by kernel_rfl)) (by decide) (by decide) (fun K hK => ?_) (fun K hK => ?_)
   ·skip; refine goes_ Tryz.func96 (by kernel_rfl) rfl #[.int .i64 (wrap64 (Int.tdiv a0 10))] (by rfl) rfl rfl mp ?_; (with_reducible refine (ih k (by omega) (wrap64 (Int.tdiv a0 10)) t566 _ A6.out).mono ?_); rintro e w9 ⟨rfl, hb⟩; refine ⟨_, rfl, ?_⟩; replace HB := bst HB hb; (try clear hb); (try clear hb2); (try clear hk); (try clear hi); refine hK.out _ _ trivial (fun hHeld => ?_); clear hK K; refine norm_ (a' := ?_) ?_ ?_
    rotate_left
    ·show Act.put _ (some 12) _ = _; simp only [Act.put, List.setIfInBounds_toArray, List.set_cons_zero, List.set_cons_succ, i64_w, i32_w]; rfl
    refine one_ (i := 7) (N := some 17) #[true, true, true, true, true, true, true, true, false, false, false] rfl rfl (one_of HT_.out (by kernel_rfl)) (by decide) (fun K hK => ?_); refine Kd.R_lit_step (Kd.int .u8) _ 5 ?hg (N := 17) ?hd (xs := ([(wrap64 (48 + (Int.tmod a0 10))) % 256] : List Int)) (inner := [.int .u8 ((wrap64 (48 + (Int.tmod a0 10))) % 256)]) (ok := fun _ => True) (okp := fun _ => True) ?hr ?hp (fun _ hk => hk) trivial (Below.refl _ _) (Nat.le_refl _) (by simp) ?_; (case hd => rfl); (case hg => rfl); (case hr => first | (go_simp; done) | (go_simp; rfl)); (case hp => exact (Reps.one (show Kd.M (Kd.int .u8) _ _ _ ((wrap64 (48 + (Int.tmod a0 10))) % 256) [.int .u8 ((wrap64 (48 + (Int.tmod a0 10))) % 256)] from rfl) (Reps.none _ _))); intro v568 w10 ho11 hb hg_ hnew_; clear hg_ hnew_; (first | rw [← Ny567.out] at ho11 | (simp only [Int.reduceToNat] at ho11; rw [← Ny567.out] at ho11)); have HO569 := Aside0.mk (Kd.R_lower ho11 (below_size (bl HB.out))); replace HB := bst HB hb; clear hb ho11; refine hK.out _ _ trivial (fun hHeld => ?_); clear hK K; refine norm_ (a' := ?_) ?_ ?_
    rotate_left
    ·show Act.put _ (some 17) _ = _; simp only [Act.put, List.setIfInBounds_toArray, List.set_cons_zero, List.set_cons_succ, i64_w, i32_w]; rfl
    refine one_ (i := 8) (N := some 18) #[true, true, true, true, true, true, true, true, true, false, false] rfl rfl (one_of HT_.out (by kernel_rfl)) (by decide) (fun K hK => ?_); have hcv12 := own_string (P := Tryz.prog) Tryz.underlying22 Tryz.underlying5 Tryz.underlying9 (Kd.own_of_R HO569.out); refine value_ (w1 := ?_) (v := ?_) (by rfl) rfl ?_ ?_
    rotate_left 2
    ·go_simp
     constructor
     ·rfl
     rfl
    clear hcv12; refine hK.out _ _ trivial (fun hHeld => ?_); clear hK K; refine norm_ (a' := ?_) ?_ ?_
    rotate_left
    ·show Act.put _ (some 18) _ = _; simp only [Act.put, List.setIfInBounds_toArray, List.set_cons_zero, List.set_cons_succ, i64_w, i32_w]; rfl
    exact norm_ (by simp only [putAll, Act.put, List.setIfInBounds_toArray, List.set_cons_zero, List.set_cons_succ]) (hCont (v568) _ ⟨(rR HO569.out), (bl HB.out)⟩)
   skip; refine Kd.R_lit_step (Kd.int .u8) _ 5 ?hg (N := 17) ?hd (xs := ([(wrap64 (48 + (Int.tmod a0 10))) % 256] : List Int)) (inner := [.int .u8 ((wrap64 (48 + (Int.tmod a0 10))) % 256)]) (ok := fun _ => True) (okp := fun _ => True) ?hr ?hp (fun _ hk => hk) trivial (Below.refl _ _) (Nat.le_refl _) (by simp) ?_; (case hd => rfl); (case hg => rfl); (case hr => first | (go_simp; done) | (go_simp; rfl)); (case hp => exact (Reps.one (show Kd.M (Kd.int .u8) _ _ _ ((wrap64 (48 + (Int.tmod a0 10))) % 256) [.int .u8 ((wrap64 (48 + (Int.tmod a0 10))) % 256)] from rfl) (Reps.none _ _))); intro v568 w9 ho10 hb hg_ hnew_; clear hg_ hnew_; (first | rw [← Ny567.out] at ho10 | (simp only [Int.reduceToNat] at ho10; rw [← Ny567.out] at ho10)); have HO569 := Aside0.mk (Kd.R_lower ho10 (below_size (bl HB.out))); replace HB := bst HB hb; clear hb ho10; refine hK.out _ _ trivial (fun hHeld => ?_); clear hK K; refine norm_ (a' := ?_) ?_ ?_
   rotate_left
   ·show Act.put _ (some 17) _ = _; simp only [Act.put, List.setIfInBounds_toArray, List.set_cons_zero, List.set_cons_succ, i64_w, i32_w]; rfl
   refine two_ (i := 2) (j := 8) (Ni := some 12) (Nj := some 18) #[true, true, true, true, true, true, true, true, false, false, false] #[true, true, false, true, true, true, true, true, true, false, false] rfl rfl rfl rfl (two_of HT_.out (by kernel_rfl)) (by decide) (by decide) (fun K hK => ?_) (fun K hK => ?_)
   ·skip; refine goes_ Tryz.func96 (by kernel_rfl) rfl #[.int .i64 (wrap64 (Int.tdiv a0 10))] (by rfl) rfl rfl mp ?_; (with_reducible refine (ih k (by omega) (wrap64 (Int.tdiv a0 10)) t566 _ A6.out).mono ?_); rintro e w11 ⟨rfl, hb⟩; refine ⟨_, rfl, ?_⟩; replace HO569 := Aside0.mk (Kd.R_below (rR HO569.out) hb); replace HB := bst HB hb; (try clear hb); (try clear hb2); (try clear hk); (try clear hi); refine hK.out _ _ trivial (fun hHeld => ?_); clear hK K; refine norm_ (a' := ?_) ?_ ?_
    rotate_left
    ·show Act.put _ (some 12) _ = _; simp only [Act.put, List.setIfInBounds_toArray, List.set_cons_zero, List.set_cons_succ, i64_w, i32_w]; rfl
    refine one_ (i := 8) (N := some 18) #[true, true, true, true, true, true, true, true, true, false, false] rfl rfl (one_of HT_.out (by kernel_rfl)) (by decide) (fun K hK => ?_); have hcv12 := own_string (P := Tryz.prog) Tryz.underlying22 Tryz.underlying5 Tryz.underlying9 (Kd.own_of_R HO569.out); refine value_ (w1 := ?_) (v := ?_) (by rfl) rfl ?_ ?_
    rotate_left 2
    ·go_simp
     constructor
     ·rfl
     rfl
    clear hcv12; refine hK.out _ _ trivial (fun hHeld => ?_); clear hK K; refine norm_ (a' := ?_) ?_ ?_
    rotate_left
    ·show Act.put _ (some 18) _ = _; simp only [Act.put, List.setIfInBounds_toArray, List.set_cons_zero, List.set_cons_succ, i64_w, i32_w]; rfl
    exact norm_ (by simp only [putAll, Act.put, List.setIfInBounds_toArray, List.set_cons_zero, List.set_cons_succ]) (hCont (v568) _ ⟨(rR HO569.out), (bl HB.out)⟩)
   skip; have hcv11 := own_string (P := Tryz.prog) Tryz.underlying22 Tryz.underlying5 Tryz.underlying9 (Kd.own_of_R HO569.out); refine value_ (w1 := ?_) (v := ?_) (by rfl) rfl ?_ ?_
   rotate_left 2
   ·go_simp
    constructor
    ·rfl
    rfl
   clear hcv11; refine hK.out _ _ trivial (fun hHeld => ?_); clear hK K; refine norm_ (a' := ?_) ?_ ?_
   rotate_left
   ·show Act.put _ (some 18) _ = _; simp only [Act.put, List.setIfInBounds_toArray, List.set_cons_zero, List.set_cons_succ, i64_w, i32_w]; rfl
   refine one_ (i := 2) (N := some 12) #[true, true, true, true, true, true, true, true, true, false, false] rfl rfl (one_of HT_.out (by kernel_rfl)) (by decide) (fun K hK => ?_); refine goes_ Tryz.func96 (by kernel_rfl) rfl #[.int .i64 (wrap64 (Int.tdiv a0 10))] (by rfl) rfl rfl mp ?_; (with_reducible refine (ih k (by omega) (wrap64 (Int.tdiv a0 10)) t566 _ A6.out).mono ?_); rintro e w12 ⟨rfl, hb⟩; refine ⟨_, rfl, ?_⟩; replace HO569 := Aside0.mk (Kd.R_below (rR HO569.out) hb); replace HB := bst HB hb; (try clear hb); (try clear hb2); (try clear hk); (try clear hi); refine hK.out _ _ trivial (fun hHeld => ?_); clear hK K; refine norm_ (a' := ?_) ?_ ?_
   rotate_left
   ·show Act.put _ (some 12) _ = _; simp only [Act.put, List.setIfInBounds_toArray, List.set_cons_zero, List.set_cons_succ, i64_w, i32_w]; rfl
   exact norm_ (by simp only [putAll, Act.put, List.setIfInBounds_toArray, List.set_cons_zero, List.set_cons_succ]) (hCont (v568) _ ⟨(rR HO569.out), (bl HB.out)⟩)
  rintro v568 w13 ⟨h0_, h1_⟩; have HO569 : Aside0 (Kd.R (Kd.int .u8) 5 w13 w.heap.size (fun _ => True) v568 y567) := ⟨h0_⟩; replace HB : Aside0 (Below w.heap.size w w13) := ⟨h1_⟩; clear h0_ h1_; have hHeld := trivial; refine norm_ (a' := ?_) ?_ ?_
  rotate_left
  ·simp only [putAll, Act.put, List.setIfInBounds_toArray, List.set_cons_zero, List.set_cons_succ]; rfl
  refine pu 9 19 HT_.out ?_; refine pu 10 2 HT_.out ?_; refine done_ (done_of HT_.out (by kernel_rfl)) ?_; (try go_wp2); go_ret; exact ⟨sr, bl HB.out⟩
 rw [if_neg c7] at H; exact absurd H (by simp)
/-! ### spec_spText: function 60 -/
def spec_spText.l0 : Nat → ByteArray → List Int → Int → Int → Option (ByteArray)
 | 0, _, _, _, _ => none
 | k + 1, x3, x6, x7, x8 => if x8 < x7 then (if 0 ≤ x8 then (if x8 < (x6.length : Int) then ((spec_l1Num.f k (rd x6 x8)).bind fun t571 => (if x3.size + t571.size ≤ 9223372036854775807 then (spec_spText.l0 k (x3 ++ t571) x6 x7 (wrap64 (x8 + 1))) else (none))) else (none)) else (none)) else (some x3)
def spec_spText.f (k : Nat) (l0 : List Int) : Option (ByteArray) := spec_spText.l0 k (⟨#[]⟩ : ByteArray) l0 (l0.length : Int) 0
theorem spec_spText.calls (k : Nat) (A0 : Option Addr) (c0 : Nat) (l0 : List Int) (r : ByteArray) (w : World) (hr0 : Kd.C (Kd.int .i64) w A0 l0.length l0) (hc0 : l0.length ≤ c0) (h : spec_spText.f k l0 = some r) :
  Calls Tryz.prog 60 #[.slice A0 l0.length c0] w fun e w' => e = .returned (.string r) ∧ Below w.heap.size w w' := by
 have HR0 := Aside0.mk hr0; have HC0 := Aside0.mk hc0; clear hr0 hc0; have HB := Aside0.mk (Below.refl w.heap.size w); have H : (spec_spText.l0 k (⟨#[]⟩ : ByteArray) l0 (l0.length : Int) 0) = some r := h; clear h; have H' := Aside0.mk H; clear H; go_enter Tryz.func60, Tryz.ntmps60; go_wp2
 go_loopg [3, 8] k (fun kq v3 v8 w' => ∃ (x3_1 : ByteArray) (x8_1 : Int), v3 = .string x3_1 ∧ v8 = .int .i64 x8_1 ∧ Aside0 (spec_spText.l0 kq x3_1 l0 (l0.length : Int) x8_1 = some r) ∧ Aside0 (kq ≤ k) ∧ Aside0 (Below w.heap.size w w'))
 case atStart => exact ⟨((⟨#[]⟩ : ByteArray)), (0), (sr2), (sr2), H', ⟨Nat.le_refl _⟩, ⟨bl HB.out⟩⟩
 case round =>
  clear H'; obtain ⟨x3_1, x8_1, rfl, rfl, HA, HK1, HB⟩ := hrel
  cases gk with
  | zero => exact absurd HA.out (by simp [spec_spText.l0])
  | succ k1 =>
   have H := HA.out; clear HA; simp only [spec_spText.l0] at H
   by_cases c2 : x8_1 < (l0.length : Int)
   ·rw [if_pos c2] at H; have c2b0 := decide_eq_true c2; clear c2
    by_cases c3 : 0 ≤ x8_1
    ·rw [if_pos c3] at H; have c3b0 := decide_eq_true c3; clear c3
     by_cases c4 : x8_1 < (l0.length : Int)
     ·rw [if_pos c4] at H; have c4b0 := decide_eq_true c4; clear c4; obtain ⟨t571, A5, H⟩ := bi H; (try dsimp only at H)
      by_cases c6 : x3_1.size + t571.size ≤ 9223372036854775807
      ·rw [if_pos c6] at H; have c6b0 := eq_true c6; have c6b1 := decide_eq_true c6; (try have c6b2 : (9223372036854775807 < x3_1.size + t571.size) = False := eq_false (Nat.not_lt.2 c6)); have H' := Aside0.mk H; clear H; obtain ⟨ad570, e570, hx570_0, p570, q570⟩ := atI HR0.out x8_1; cases e570; replace hx570_0 := hbx HB hx570_0; go_wp2_with (first | (go_at_call 96; (with_reducible refine (spec_l1Num.calls k1 (rd l0 x8_1) t571 _ A5.out).mono ?_); rintro e w7 ⟨rfl, hb⟩; replace HB := bst HB hb))
       go_roundg k1
       case measure => have := HK1.out; omega
       case rel => exact ⟨(x3_1 ++ t571), (wrap64 (x8_1 + 1)), (sr2), (sr2), H', ⟨by have := HK1.out; omega⟩, ⟨bl HB.out⟩⟩
      rw [if_neg c6] at H; exact absurd H (by simp)
     rw [if_neg c4] at H; exact absurd H (by simp)
    rw [if_neg c3] at H; exact absurd H (by simp)
   rw [if_neg c2] at H; have c2b0 := decide_eq_false c2; clear c2; obtain rfl := Option.some.inj H; go_wp2; go_ret; exact ⟨sr, bl HB.out⟩
/-! ### spec_FoldingText: function 22 -/
def spec_FoldingText.f (k : Nat) (l0 : List Int) : Option (ByteArray × Bool) := (spec_spStack.f k l0).bind fun t572 => (if t572 = true then ((spec_spText.f k l0).bind fun t573 => (some (t573, true))) else (some ((⟨#[]⟩ : ByteArray), false)))
theorem spec_FoldingText.calls (k : Nat) (A0 : Option Addr) (c0 : Nat) (l0 : List Int) (r1 : ByteArray) (r2 : Bool) (w : World) (hr0 : Kd.C (Kd.int .i64) w A0 l0.length l0) (hc0 : l0.length ≤ c0) (h : spec_FoldingText.f k l0 = some (r1, r2)) :
  Calls Tryz.prog 22 #[.slice A0 l0.length c0] w fun e w' => e = .returned (.tuple #[.string r1, .bool r2]) ∧ Below w.heap.size w w' := by
 have HR0 := Aside0.mk hr0; have HC0 := Aside0.mk hc0; clear hr0 hc0; have HB := Aside0.mk (Below.refl w.heap.size w); have H : ((spec_spStack.f k l0).bind fun t572 => (if t572 = true then ((spec_spText.f k l0).bind fun t573 => (some (t573, true))) else (some ((⟨#[]⟩ : ByteArray), false)))) = some (r1, r2) := h; clear h; obtain ⟨t572, A2, H⟩ := bi H; (try dsimp only at H)
 by_cases c3 : t572 = true
 ·subst c3; rw [if_pos rfl] at H; obtain ⟨t573, A4, H⟩ := bi H; (try dsimp only at H); simp only [Option.some.injEq, Prod.mk.injEq] at H; obtain ⟨rfl, rfl⟩ := H; go_enter Tryz.func22, Tryz.ntmps22; go_wp2_with (first | (go_at_call 59; (with_reducible refine (spec_spStack.calls k _ _ l0 true _ ?side1 HC0.out A2.out).mono ?_); (case side1 => exact cw HR0.out); rintro e w' ⟨rfl, ⟨nd, rfl⟩⟩) | (go_at_call 60; (with_reducible refine (spec_spText.calls k _ _ l0 t573 _ ?side1 HC0.out A4.out).mono ?_); (case side1 => exact cw HR0.out); rintro e w5 ⟨rfl, hb⟩; replace HB := bst HB hb)); go_ret2; exact ⟨sr, bl HB.out⟩
 replace c3 := Bool.eq_false_iff.mpr c3; subst c3; rw [if_neg (show ¬ (false = true) by decide)] at H; simp only [Option.some.injEq, Prod.mk.injEq] at H; obtain ⟨rfl, rfl⟩ := H; go_enter Tryz.func22, Tryz.ntmps22; go_wp2_with (first | (go_at_call 59; (with_reducible refine (spec_spStack.calls k _ _ l0 false _ ?side1 HC0.out A2.out).mono ?_); (case side1 => exact cw HR0.out); rintro e w' ⟨rfl, ⟨nd, rfl⟩⟩)); go_ret2; exact ⟨sr, bl HB.out⟩
end Go.Proofs.YtjgkcknopnollaaGreat.C
