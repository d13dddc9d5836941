-- printed by wip/drv/xprint.py (our driver) out of the translation; Lean checks it
import Derived.Test.YtjgkcknopnollaaQ0
import Derived.Test.YtjgkcknopnollaaQ1
namespace Go.Proofs.Ytjgkcknopnollaa.Q
open Go.RowKit Go.Proofs.YtjgkcknopnollaaW.PrintWords Go.Proofs.YtjgkcknopnollaaW.PrintLast Go.Proofs.YtjgkcknopnollaaW.PrintMore
attribute [local go_sem] max2_int min2_int max_two min_two max_three min_three max_four min_four   -- for this text's walks alone
set_option linter.unusedVariables false
set_option linter.unusedSimpArgs false

/-! ### spec_spStack: function 55 -/
mutual
def spec_spStack.j0 : Nat → List Int → Bool → Option (Bool)
  | 0, _, _ => none
  | k + 1, x0, x16 => if x16 = true then (some false) else (spec_spStack.l0 k x0 x0 (x0.length : Int) 0)
def spec_spStack.l0 : Nat → List Int → List Int → Int → Int → Option (Bool)
  | 0, _, _, _, _ => none
  | k + 1, x0, x17, x18, x19 => if x19 < x18 then (if 0 ≤ x19 then (if x19 < (x17.length : Int) then (if x19 ≤ (x0.length : Int) then ((spec_l1Has.f k (x0.take (x19 : Int).toNat) (rd x17 x19)).bind fun t116 => (if t116 = true then (some false) else (spec_spStack.l0 k x0 x17 x18 (wrap64 (x19 + 1))))) else (none)) else (none)) else (none)) else (some true)
end
def spec_spStack.f (k : Nat) (l0 : List Int) : Option (Bool) := (spec_l1In.f (l0.length : Int) 1 8).bind fun t112 => (if t112 = true then ((spec_l1All.f k l0 0 (wrap64 ((l0.length : Int) - 1))).bind fun t113 => (spec_spStack.j0 k l0 (!t113))) else (spec_spStack.j0 k l0 true))
theorem spec_spStack.mono_l : ∀ k, (∀ y0 y1, LeO (spec_spStack.j0 k y0 y1) (spec_spStack.j0 (k + 1) y0 y1)) ∧ (∀ y0 y1 y2 y3, LeO (spec_spStack.l0 k y0 y1 y2 y3) (spec_spStack.l0 (k + 1) y0 y1 y2 y3))
  | 0 => ⟨fun _ _ r h => by simp [spec_spStack.j0] at h, fun _ _ _ _ r h => by simp [spec_spStack.l0] at h⟩
  | k + 1 => by
    obtain ⟨ih0, ih1⟩ := spec_spStack.mono_l k
    refine ⟨?_, ?_⟩
    · intro y0 y1
      unfold spec_spStack.j0
      repeat' first
      | (with_reducible exact ih0 _ _)
      | (with_reducible exact ih1 _ _ _ _)
      | (with_reducible exact spec_l1All.mono _ _ _ _)
      | (with_reducible exact spec_l1Has.mono _ _ _)
      | (with_reducible exact LeO.refl _)
      | (with_reducible exact LeO.none _)
      | (with_reducible refine LeO.ite ?_ ?_)
      | (with_reducible refine LeO.bind ?_ (fun _ => ?_))
      | exact ih0 _ _
      | exact ih1 _ _ _ _
      | exact spec_l1All.mono _ _ _ _
      | exact spec_l1Has.mono _ _ _
      | exact LeO.none _
      | refine LeO.ite ?_ ?_
      | refine LeO.bind ?_ (fun _ => ?_)
    · intro y0 y1 y2 y3
      unfold spec_spStack.l0
      repeat' first
      | (with_reducible exact ih0 _ _)
      | (with_reducible exact ih1 _ _ _ _)
      | (with_reducible exact spec_l1All.mono _ _ _ _)
      | (with_reducible exact spec_l1Has.mono _ _ _)
      | (with_reducible exact LeO.refl _)
      | (with_reducible exact LeO.none _)
      | (with_reducible refine LeO.ite ?_ ?_)
      | (with_reducible refine LeO.bind ?_ (fun _ => ?_))
      | exact ih0 _ _
      | exact ih1 _ _ _ _
      | exact spec_l1All.mono _ _ _ _
      | exact spec_l1Has.mono _ _ _
      | exact LeO.none _
      | refine LeO.ite ?_ ?_
      | refine LeO.bind ?_ (fun _ => ?_)
theorem spec_spStack.mono : ∀ a0 k, LeO (spec_spStack.f k a0) (spec_spStack.f (k + 1) a0) := by
  intro a0 k
  obtain ⟨ih0, ih1⟩ := spec_spStack.mono_l k
  unfold spec_spStack.f
  repeat' first
      | (with_reducible exact ih0 _ _)
      | (with_reducible exact ih1 _ _ _ _)
      | (with_reducible exact spec_l1All.mono _ _ _ _)
      | (with_reducible exact spec_l1Has.mono _ _ _)
      | (with_reducible exact LeO.refl _)
      | (with_reducible exact LeO.none _)
      | (with_reducible refine LeO.ite ?_ ?_)
      | (with_reducible refine LeO.bind ?_ (fun _ => ?_))
      | exact ih0 _ _
      | exact ih1 _ _ _ _
      | exact spec_l1All.mono _ _ _ _
      | exact spec_l1Has.mono _ _ _
      | exact LeO.none _
      | refine LeO.ite ?_ ?_
      | refine LeO.bind ?_ (fun _ => ?_)
set_option maxHeartbeats 8000000 in
set_option maxRecDepth 100000 in
theorem spec_spStack.calls (k : Nat) (A0 : Option Addr) (c0 : Nat) (l0 : List Int) (r : Bool) (w : World) (hr0 : Kd.C (Kd.int .i64) w A0 l0.length l0) (hc0 : l0.length ≤ c0) (h : spec_spStack.f k l0 = some r) :
    Calls Try.prog 55 #[.slice A0 l0.length c0] w fun e w' => e = .returned (.bool r) ∧ Drawn0 w w' := by
  have HR0 := Aside0.mk hr0
  have HC0 := Aside0.mk hc0
  clear hr0 hc0
  have H : ((spec_l1In.f (l0.length : Int) 1 8).bind fun t112 => (if t112 = true then ((spec_l1All.f k l0 0 (wrap64 ((l0.length : Int) - 1))).bind fun t113 => (spec_spStack.j0 k l0 (!t113))) else (spec_spStack.j0 k l0 true))) = some r := h
  clear h
  have HC2 := Aside0.mk H
  clear H
  go_enter Try.func55, Try.ntmps55
  go_upto_region 1 with (fail)
  go_cut [16] (fun v16 wc => ∃ (kq : Nat) (x16_1 : Bool), v16 = .bool x16_1 ∧ Aside0 (spec_spStack.j0 kq l0 x16_1 = some r) ∧ Aside0 (kq ≤ k) ∧ Drawn0 w wc)
  case first =>
    have H := HC2.out
    clear HC2
    replace H := Option.bind_eq_some_iff.mp H
    obtain ⟨t112, A30, H⟩ := H
    replace H : (if t112 = true then ((spec_l1All.f k l0 0 (wrap64 ((l0.length : Int) - 1))).bind fun t113 => (spec_spStack.j0 k l0 (!t113))) else (spec_spStack.j0 k l0 true)) = some r := H
    have A3 := Aside0.mk A30
    clear A30
    by_cases c4 : t112 = true
    · subst c4
      have H1 : ((spec_l1All.f k l0 0 (wrap64 ((l0.length : Int) - 1))).bind fun t113 => (spec_spStack.j0 k l0 (!t113))) = some r := by rw [if_pos rfl] at H; exact H
      clear H
      have H := H1
      clear H1
      replace H := Option.bind_eq_some_iff.mp H
      obtain ⟨t113, A50, H⟩ := H
      replace H : (spec_spStack.j0 k l0 (!t113)) = some r := H
      have A5 := Aside0.mk A50
      clear A50
      have H' := Aside0.mk H
      clear H
      go_wp2_with (first | ((with_reducible refine gate_callee (f := 53) rfl ?_); refine goesL_ (some 7) rfl rfl Try.func53 (by kernel_rfl) rfl #[.int .i64 (l0.length : Int), .int .i64 1, .int .i64 8] rfl (by (try simp only [List.map_toArray, List.map_cons, List.map_nil]); first | done | rfl) ?_; (with_reducible refine (spec_l1In.calls (l0.length : Int) 1 8 true _ A3.out).mono ?_); rintro e w' ⟨rfl, ⟨nd, rfl⟩⟩; refine ⟨_, rfl, ?_⟩) | (go_at_call 81; (with_reducible refine (spec_l1All.calls k _ _ l0 0 (wrap64 ((l0.length : Int) - 1)) t113 _ ?side1 ?side2 A5.out).mono ?_); (case side1 => repeat (first | exact HR0.out | (with_reducible refine Kd.C_alloc ?_ _) | (with_reducible refine Kd.C_drewN ?_ _) | (with_reducible refine Kd.C_drew ?_))); (case side2 => exact HC0.out); rintro e w' ⟨rfl, ⟨nd, rfl⟩⟩))
      go_meet
      case rel => exact ⟨_, (!t113), (by first | rfl | simp | simp [*]), H', ⟨by first | omega | exact Nat.le_refl _⟩, by repeat (first | exact Drawn0.refl _ | apply Drawn0.step)⟩
    · replace c4 := Bool.eq_false_iff.mpr c4
      subst c4
      have H1 : (spec_spStack.j0 k l0 true) = some r := by rw [if_neg (show ¬ (false = true) by decide)] at H; exact H
      clear H
      have H := H1
      clear H1
      have H' := Aside0.mk H
      clear H
      go_wp2_with (first | ((with_reducible refine gate_callee (f := 53) rfl ?_); refine goesL_ (some 7) rfl rfl Try.func53 (by kernel_rfl) rfl #[.int .i64 (l0.length : Int), .int .i64 1, .int .i64 8] rfl (by (try simp only [List.map_toArray, List.map_cons, List.map_nil]); first | done | rfl) ?_; (with_reducible refine (spec_l1In.calls (l0.length : Int) 1 8 false _ A3.out).mono ?_); rintro e w' ⟨rfl, ⟨nd, rfl⟩⟩; refine ⟨_, rfl, ?_⟩))
      go_meet
      case rel => exact ⟨_, (true), (by first | rfl | simp | simp [*]), H', ⟨by first | omega | exact Nat.le_refl _⟩, by repeat (first | exact Drawn0.refl _ | apply Drawn0.step)⟩
  case rest =>
    clear HC2
    try clear p2
    try clear c4
    try clear c5
    obtain ⟨kq, x16_1, rfl, HA, HJ1, ⟨mc1, rfl⟩⟩ := hcut
    cases kq with
    | zero => exact absurd HA.out (by simp [spec_spStack.j0])
    | succ kj1 =>
      have H := HA.out
      clear HA
      simp only [spec_spStack.j0] at H
      by_cases c6 : x16_1 = true
      · subst c6
        have H1 : (some false) = some r := by rw [if_pos rfl] at H; exact H
        clear H
        have H := H1
        clear H1
        obtain rfl := Option.some.inj H
        go_wp2
        go_ret
        exact ⟨by first | rfl | simp | simp [*], by repeat (first | exact Drawn0.refl _ | apply Drawn0.step)⟩
      · replace c6 := Bool.eq_false_iff.mpr c6
        subst c6
        have H1 : (spec_spStack.l0 kj1 l0 l0 (l0.length : Int) 0) = some r := by rw [if_neg (show ¬ (false = true) by decide)] at H; exact H
        clear H
        have H := H1
        clear H1
        have H' := Aside0.mk H
        clear H
        go_wp2
        go_loopg [19] kj1 (fun kq v19 w' => ∃ (x19_2 : Int), v19 = .int .i64 x19_2 ∧ Aside0 (spec_spStack.l0 kq l0 l0 (l0.length : Int) x19_2 = some r) ∧ Aside0 (kq ≤ kj1) ∧ Drawn0 w w')
        case atStart => exact ⟨(0), (by first | rfl | simp | simp [*]), H', ⟨Nat.le_refl _⟩, by repeat (first | exact Drawn0.refl _ | apply Drawn0.step)⟩
        case round =>
          clear H'
          try clear c1
          try clear p2
          try clear c4
          try clear c5
          try clear c6
          try clear p6
          try clear p2
          obtain ⟨x19_2, rfl, HA, HK2, ⟨m2, rfl⟩⟩ := hrel
          cases gk with
          | zero => exact absurd HA.out (by simp [spec_spStack.l0])
          | succ k2 =>
            have H := HA.out
            clear HA
            simp only [spec_spStack.l0] at H
            by_cases c7 : x19_2 < (l0.length : Int)
            · rw [if_pos c7] at H
              have c7b0 : decide (x19_2 < (l0.length : Int)) = true := decide_eq_true c7
              clear c7
              by_cases c8 : 0 ≤ x19_2
              · rw [if_pos c8] at H
                have c8b0 : decide (0 ≤ x19_2) = true := decide_eq_true c8
                clear c8
                by_cases c9 : x19_2 < (l0.length : Int)
                · rw [if_pos c9] at H
                  have c9b0 : decide (x19_2 < (l0.length : Int)) = true := decide_eq_true c9
                  clear c9
                  have c10b0 := eq_true (of_decide_eq_true (by with_reducible assumption) : 0 ≤ x19_2)
                  by_cases c11 : x19_2 ≤ (l0.length : Int)
                  · rw [if_pos c11] at H
                    have c11b0 := eq_true c11
                    have c11b1 : decide (x19_2 ≤ (l0.length : Int)) = true := decide_eq_true c11
                    clear c11
                    replace H := Option.bind_eq_some_iff.mp H
                    obtain ⟨t116, A120, H⟩ := H
                    replace H : (if t116 = true then (some false) else (spec_spStack.l0 k2 l0 l0 (l0.length : Int) (wrap64 (x19_2 + 1)))) = some r := H
                    have A12 := Aside0.mk A120
                    clear A120
                    by_cases c13 : t116 = true
                    · subst c13
                      have H1 : (some false) = some r := by rw [if_pos rfl] at H; exact H
                      clear H
                      have H := H1
                      clear H1
                      obtain rfl := Option.some.inj H
                      have p114 : 0 ≤ (x19_2 : Int) := of_decide_eq_true (by with_reducible assumption)
                      have q114 : x19_2 < (l0.length : Int) := of_decide_eq_true (by with_reducible assumption)
                      obtain ⟨ad114, e114, hx114_0⟩ := Kd.at_int HR0.out x19_2 p114 q114
                      cases e114
                      replace p114 := eq_true p114
                      replace q114 := eq_true q114
                      obtain ⟨i014, hi014, _, hsz14, _⟩ := info_parts info3
                      obtain ⟨hcut14, hA14, hC14⟩ := print_take_of (P := Try.prog) (Value.int .i64) 0 30 3 .i64 Try.underlying30 hi014 hsz14 (some ad114) c0 l0 x19_2 (of_decide_eq_true (by with_reducible assumption)) (of_decide_eq_true (by with_reducible assumption)) HC0.out
                      have HR115 := Aside0.mk (Kd.C_of_reads (h1 := fun _ => rfl) (hA14 _ (Kd.reads_of_C HR0.out)))
                      have HC115 := Aside0.mk hC14
                      clear hA14 hC14 hi014 hsz14
                      go_wp2_with (first | ((with_reducible refine gate_callee (f := 82) rfl ?_); refine goesL_ (some 28) rfl rfl Try.func82 (by kernel_rfl) rfl #[.slice (some ad114) (l0.take (x19_2 : Int).toNat).length c0, .int .i64 (rd l0 x19_2)] rfl (by (try simp only [List.map_toArray, List.map_cons, List.map_nil]); first | done | (rw [show (l0.take (x19_2 : Int).toNat).length = x19_2.toNat from (by rw [List.length_take]; have h_ : (x19_2 : Int) ≤ (l0.length : Int) := of_decide_eq_true (by with_reducible assumption); omega)] <;> rfl) | rfl | (simp only [List.length_drop, List.length_take]; rfl)) ?_; (with_reducible refine (spec_l1Has.calls k2 _ _ (l0.take (x19_2 : Int).toNat) (rd l0 x19_2) true _ ?side1 ?side2 A12.out).mono ?_); (case side1 => repeat (first | exact HR115.out | (with_reducible refine Kd.C_alloc ?_ _) | (with_reducible refine Kd.C_drewN ?_ _) | (with_reducible refine Kd.C_drew ?_))); (case side2 => exact HC115.out); rintro e w' ⟨rfl, ⟨nd, rfl⟩⟩; refine ⟨_, rfl, ?_⟩))
                      go_ret
                      exact ⟨by first | rfl | simp | simp [*], by repeat (first | exact Drawn0.refl _ | apply Drawn0.step)⟩
                    · replace c13 := Bool.eq_false_iff.mpr c13
                      subst c13
                      have H1 : (spec_spStack.l0 k2 l0 l0 (l0.length : Int) (wrap64 (x19_2 + 1))) = some r := by rw [if_neg (show ¬ (false = true) by decide)] at H; exact H
                      clear H
                      have H := H1
                      clear H1
                      have H' := Aside0.mk H
                      clear H
                      have p114 : 0 ≤ (x19_2 : Int) := of_decide_eq_true (by with_reducible assumption)
                      have q114 : x19_2 < (l0.length : Int) := of_decide_eq_true (by with_reducible assumption)
                      obtain ⟨ad114, e114, hx114_0⟩ := Kd.at_int HR0.out x19_2 p114 q114
                      cases e114
                      replace p114 := eq_true p114
                      replace q114 := eq_true q114
                      obtain ⟨i015, hi015, _, hsz15, _⟩ := info_parts info3
                      obtain ⟨hcut15, hA15, hC15⟩ := print_take_of (P := Try.prog) (Value.int .i64) 0 30 3 .i64 Try.underlying30 hi015 hsz15 (some ad114) c0 l0 x19_2 (of_decide_eq_true (by with_reducible assumption)) (of_decide_eq_true (by with_reducible assumption)) HC0.out
                      have HR115 := Aside0.mk (Kd.C_of_reads (h1 := fun _ => rfl) (hA15 _ (Kd.reads_of_C HR0.out)))
                      have HC115 := Aside0.mk hC15
                      clear hA15 hC15 hi015 hsz15
                      go_wp2_with (first | ((with_reducible refine gate_callee (f := 82) rfl ?_); refine goesL_ (some 28) rfl rfl Try.func82 (by kernel_rfl) rfl #[.slice (some ad114) (l0.take (x19_2 : Int).toNat).length c0, .int .i64 (rd l0 x19_2)] rfl (by (try simp only [List.map_toArray, List.map_cons, List.map_nil]); first | done | (rw [show (l0.take (x19_2 : Int).toNat).length = x19_2.toNat from (by rw [List.length_take]; have h_ : (x19_2 : Int) ≤ (l0.length : Int) := of_decide_eq_true (by with_reducible assumption); omega)] <;> rfl) | rfl | (simp only [List.length_drop, List.length_take]; rfl)) ?_; (with_reducible refine (spec_l1Has.calls k2 _ _ (l0.take (x19_2 : Int).toNat) (rd l0 x19_2) false _ ?side1 ?side2 A12.out).mono ?_); (case side1 => repeat (first | exact HR115.out | (with_reducible refine Kd.C_alloc ?_ _) | (with_reducible refine Kd.C_drewN ?_ _) | (with_reducible refine Kd.C_drew ?_))); (case side2 => exact HC115.out); rintro e w' ⟨rfl, ⟨nd, rfl⟩⟩; refine ⟨_, rfl, ?_⟩))
                      go_roundg k2
                      case measure => have := HJ1.out; have := HK2.out; omega
                      case rel => exact ⟨(wrap64 (x19_2 + 1)), (by first | rfl | simp | simp [*]), H', ⟨by have := HJ1.out; have := HK2.out; omega⟩, by repeat (first | exact Drawn0.refl _ | apply Drawn0.step)⟩
                  · rw [if_neg c11] at H
                    exact absurd H (by simp)
                · rw [if_neg c9] at H
                  exact absurd H (by simp)
              · rw [if_neg c8] at H
                exact absurd H (by simp)
            · rw [if_neg c7] at H
              have c7b0 : decide (x19_2 < (l0.length : Int)) = false := decide_eq_false c7
              clear c7
              obtain rfl := Option.some.inj H
              go_wp2
              go_ret
              exact ⟨by first | rfl | simp | simp [*], by repeat (first | exact Drawn0.refl _ | apply Drawn0.step)⟩

/-! ### spec_spPlaces: function 95 -/
def spec_spPlaces.l0 : Nat → List Int → List Int → Int → Int → Option (List Int)
  | 0, _, _, _, _ => none
  | k + 1, x3, x9, x10, x11 => if x11 < x10 then (if 0 ≤ x11 then (if x11 < (x9.length : Int) then (if 0 ≤ (rd x9 x11) then (if (rd x9 x11) < (x3.length : Int) then (spec_spPlaces.l0 k (x3.set ((rd x9 x11) : Int).toNat x11) x9 x10 (wrap64 (x11 + 1))) else (none)) else (none)) else (none)) else (none)) else (some x3)
def spec_spPlaces.f (k : Nat) (l0 : List Int) : Option (List Int) := if 0 ≤ (l0.length : Int) then (if ((l0.length : Int) : Int).toNat ≤ 35184372088832 then (spec_spPlaces.l0 k (List.replicate ((l0.length : Int) : Int).toNat 0) l0 (l0.length : Int) 0) else (none)) else (none)
theorem spec_spPlaces.mono_l : ∀ k, (∀ y0 y1 y2 y3, LeO (spec_spPlaces.l0 k y0 y1 y2 y3) (spec_spPlaces.l0 (k + 1) y0 y1 y2 y3))
  | 0 => fun _ _ _ _ r h => by simp [spec_spPlaces.l0] at h
  | k + 1 => by
    have ih0 := spec_spPlaces.mono_l k
    · intro y0 y1 y2 y3
      unfold spec_spPlaces.l0
      repeat' first
      | (with_reducible exact ih0 _ _ _ _)
      | (with_reducible exact LeO.refl _)
      | (with_reducible exact LeO.none _)
      | (with_reducible refine LeO.ite ?_ ?_)
      | (with_reducible refine LeO.bind ?_ (fun _ => ?_))
      | exact ih0 _ _ _ _
      | exact LeO.none _
      | refine LeO.ite ?_ ?_
      | refine LeO.bind ?_ (fun _ => ?_)
theorem spec_spPlaces.mono : ∀ a0 k, LeO (spec_spPlaces.f k a0) (spec_spPlaces.f (k + 1) a0) := by
  intro a0 k
  have ih0 := spec_spPlaces.mono_l k
  unfold spec_spPlaces.f
  repeat' first
      | (with_reducible exact ih0 _ _ _ _)
      | (with_reducible exact LeO.refl _)
      | (with_reducible exact LeO.none _)
      | (with_reducible refine LeO.ite ?_ ?_)
      | (with_reducible refine LeO.bind ?_ (fun _ => ?_))
      | exact ih0 _ _ _ _
      | exact LeO.none _
      | refine LeO.ite ?_ ?_
      | refine LeO.bind ?_ (fun _ => ?_)
set_option maxHeartbeats 8000000 in
set_option maxRecDepth 100000 in
theorem spec_spPlaces.calls (k : Nat) (A0 : Option Addr) (c0 : Nat) (l0 : List Int) (r : List Int) (w : World) (hr0 : Kd.C (Kd.int .i64) w A0 l0.length l0) (hc0 : l0.length ≤ c0) (h : spec_spPlaces.f k l0 = some r) :
    Calls Try.prog 95 #[.slice A0 l0.length c0] w fun e w' => ∃ v0_ : Value, e = .returned (v0_) ∧ Kd.R (Kd.int .i64) 3 w' w.heap.size (fun _ => True) v0_ r ∧ Below w.heap.size w w' := by
  have HR0 := Aside0.mk hr0
  have HC0 := Aside0.mk hc0
  clear hr0 hc0
  have HB := Aside0.mk (Below.refl w.heap.size w)
  have H : (if 0 ≤ (l0.length : Int) then (if ((l0.length : Int) : Int).toNat ≤ 35184372088832 then (spec_spPlaces.l0 k (List.replicate ((l0.length : Int) : Int).toNat 0) l0 (l0.length : Int) 0) else (none)) else (none)) = some r := h
  clear h
  by_cases c2 : 0 ≤ (l0.length : Int)
  · rw [if_pos c2] at H
    have c2b0 := eq_true c2
    have c2b1 : decide (0 ≤ (l0.length : Int)) = true := decide_eq_true c2
    clear c2
    by_cases c3 : ((l0.length : Int) : Int).toNat ≤ 35184372088832
    · rw [if_pos c3] at H
      have c3b0 := eq_true c3
      have c3b1 : decide (((l0.length : Int) : Int).toNat ≤ 35184372088832) = true := decide_eq_true c3
      clear c3
      obtain ⟨y117, hy117⟩ : ∃ y_ : List Int, y_ = (List.replicate ((l0.length : Int) : Int).toNat 0) := ⟨_, rfl⟩
      replace H : (spec_spPlaces.l0 k y117 l0 (l0.length : Int) 0) = some r := by first | (rw [hy117]; with_reducible exact H) | (have H2_ := (Option.bind_some _ _).symm.trans H; rw [hy117]; with_reducible exact H2_) | (have H2_ := (Option.bind_some _ _).symm.trans H; with_reducible exact H2_) | with_reducible exact H | (rw [hy117]; exact H) | exact H
      have Ny117 := Aside0.mk hy117
      clear hy117
      have H' := Aside0.mk H
      clear H
      go_enter Try.func95, Try.ntmps95
      go_wp2_with (first | ((with_reducible refine gate_dst (N := 8) rfl ?_); refine Kd.R_make (Kd.int .i64) _ 3 rfl (N := 8) rfl 30 _ _ rfl (l0.length : Int) rfl rfl Try.underlying30 (.int .i64 0) 8 info3 rfl (by decide) (by omega) 0 (ok := fun _ => True) (okp := fun _ => True) rfl (fun _ hk => hk) trivial (of_decide_eq_true (by with_reducible assumption)) (Nat.le_trans (Nat.mul_le_mul_right _ (of_decide_eq_true (by with_reducible assumption) : (l0.length : Int).toNat ≤ 35184372088832)) (by omega)) (Below.refl _ _) (Nat.le_refl _) ?_; intro v118 w4 ho5 hb hg_ hnew_; clear hg_ hnew_; (first | rw [← Ny117.out] at ho5 | (simp only [Int.reduceToNat] at ho5; rw [← Ny117.out] at ho5)); have n0_ := Aside0.mk (Kd.R_lower ho5 (below_size (by repeat (first | (with_reducible first | exact HB.out | apply below_alloc | apply pw_below_drewN | apply below_drew1) | exact HB.out)))); have n1_ := Aside0.mk (below_step (by repeat (first | (with_reducible first | exact HB.out | apply below_alloc | apply pw_below_drewN | apply below_drew1) | exact HB.out)) hb); clear HB; have HO119 := n0_; have HB := n1_; clear n0_ n1_; clear hb ho5))
      go_loopg [11] k (fun kq v11 w' => ∃ (x3_1 : List Int) (x11_1 : Int), v11 = .int .i64 x11_1 ∧ Aside0 (spec_spPlaces.l0 kq x3_1 l0 (l0.length : Int) x11_1 = some r) ∧ Aside0 (kq ≤ k) ∧ Aside0 (Kd.R (Kd.int .i64) 3 w' w.heap.size (fun _ => True) v118 x3_1) ∧ Aside0 (Below w.heap.size w w'))
      case atStart => exact ⟨(y117), (0), (by first | rfl | simp | simp [*]), H', ⟨Nat.le_refl _⟩, ⟨by (with_reducible repeat (first | apply Kd.R_alloc | apply Kd.R_drewN | apply Kd.R_drew)); exact HO119.out⟩, ⟨by repeat (first | (with_reducible first | exact HB.out | apply below_alloc | apply pw_below_drewN | apply below_drew1) | exact HB.out)⟩⟩
      case round =>
        clear H'
        try clear c2
        try clear c2b0
        try clear c2b1
        try clear p2
        try clear c3
        try clear c3b0
        try clear c3b1
        obtain ⟨x3_1, x11_1, rfl, HA, HK1, HO_3, HB⟩ := hrel
        cases gk with
        | zero => exact absurd HA.out (by simp [spec_spPlaces.l0])
        | succ k1 =>
          have H := HA.out
          clear HA
          simp only [spec_spPlaces.l0] at H
          by_cases c6 : x11_1 < (l0.length : Int)
          · rw [if_pos c6] at H
            have c6b0 : decide (x11_1 < (l0.length : Int)) = true := decide_eq_true c6
            clear c6
            by_cases c7 : 0 ≤ x11_1
            · rw [if_pos c7] at H
              have c7b0 : decide (0 ≤ x11_1) = true := decide_eq_true c7
              clear c7
              by_cases c8 : x11_1 < (l0.length : Int)
              · rw [if_pos c8] at H
                have c8b0 : decide (x11_1 < (l0.length : Int)) = true := decide_eq_true c8
                clear c8
                by_cases c9 : 0 ≤ (rd l0 x11_1)
                · rw [if_pos c9] at H
                  have c9b0 : decide (0 ≤ (rd l0 x11_1)) = true := decide_eq_true c9
                  clear c9
                  by_cases c10 : (rd l0 x11_1) < (x3_1.length : Int)
                  · rw [if_pos c10] at H
                    have c10b0 : decide ((rd l0 x11_1) < (x3_1.length : Int)) = true := decide_eq_true c10
                    clear c10
                    obtain ⟨y121, hy121⟩ : ∃ y_ : List Int, y_ = (x3_1.set ((rd l0 x11_1) : Int).toNat x11_1) := ⟨_, rfl⟩
                    replace H : (spec_spPlaces.l0 k1 y121 l0 (l0.length : Int) (wrap64 (x11_1 + 1))) = some r := by first | (rw [hy121]; with_reducible exact H) | (have H2_ := (Option.bind_some _ _).symm.trans H; rw [hy121]; with_reducible exact H2_) | (have H2_ := (Option.bind_some _ _).symm.trans H; with_reducible exact H2_) | with_reducible exact H | (rw [hy121]; exact H) | exact H
                    have Ny121 := Aside0.mk hy121
                    clear hy121
                    have H' := Aside0.mk H
                    clear H
                    have p120 : 0 ≤ (x11_1 : Int) := of_decide_eq_true (by with_reducible assumption)
                    have q120 : x11_1 < (l0.length : Int) := of_decide_eq_true (by with_reducible assumption)
                    obtain ⟨ad120, e120, hx120_0⟩ := Kd.at_int HR0.out x11_1 p120 q120
                    cases e120
                    replace hx120_0 := (HB.out.cell (World.block_lt_of_cell? w _ hx120_0)).trans hx120_0
                    replace p120 := eq_true p120
                    replace q120 := eq_true q120
                    have p11 : 0 ≤ ((rd l0 x11_1) : Int) := of_decide_eq_true (by with_reducible assumption)
                    have q11 : ((rd l0 x11_1) : Int) < ((x3_1.length : Int) : Int) := of_decide_eq_true (by with_reducible assumption)
                    obtain ⟨go11, co11, eo11, gb11, gl11, cl11, HG11⟩ := Kd.R_form HO_3.out (by omega)
                    (first | cases eo11 | (injection eo11 with ea_ en_ ec_; (first | subst ea_ | (injection ea_ with ea_; subst ea_)); subst ec_; clear en_))
                    have GB11 := Aside0.mk gb11
                    have GG11 := Aside0.mk HG11
                    clear gb11 gl11 HG11
                    obtain ⟨hx11_0, hf11_0⟩ := Kd.R_celln 0 HO_3.out ((rd l0 x11_1) : Int) p11 q11
                    replace p11 := eq_true p11
                    replace q11 := eq_true q11
                    have HP12 := Kd.R_putg HO_3.out ((rd l0 x11_1) : Int) x11_1
                    go_wp2_with (first | ((with_reducible refine gate_store (t := 3) (p := 19) rfl ?_); refine store_event (t := 3) (p := 19) (v := ?vo_w13) (w1 := (wr.setCell ⟨go11, ((rd l0 x11_1) : Int).toNat, none⟩ (.int .i64 x11_1))) ?hg ?ho ?hn ?hr ?_; (case ho => rfl); (case hg => rfl); (case hn => rfl); (case hr => first | (go_simp; done) | (go_simp; rfl)); intro w13 hw; have hg : wr.grownBy w13 (some go11) := (by rw [hw]; exact HP12.2); have hp_ : Kd.R (Kd.int .i64) 3 w13 w.heap.size (fun _ => True) (.slice (some ⟨go11, 0, none⟩) x3_1.length co11) y121 := (by rw [hw, Ny121.out]; exact HP12.1); clear HP12; have n0_ := Aside0.mk (hp_); have n1_ := Aside0.mk ((by rw [hw]; exact below_set (HB.out) GB11.out : Below w.heap.size w w13)); clear HO_3; clear HB; have HO_3 := n0_; have HB := n1_; clear n0_ n1_; clear hg hw hp_))
                    go_roundg k1
                    case measure => have := HK1.out; omega
                    case rel => exact ⟨(y121), (wrap64 (x11_1 + 1)), (by first | rfl | simp | simp [*]), H', ⟨by have := HK1.out; omega⟩, ⟨by (with_reducible repeat (first | apply Kd.R_alloc | apply Kd.R_drewN | apply Kd.R_drew)); exact HO_3.out⟩, ⟨by repeat (first | (with_reducible first | exact HB.out | apply below_alloc | apply pw_below_drewN | apply below_drew1) | exact HB.out)⟩⟩
                  · rw [if_neg c10] at H
                    exact absurd H (by simp)
                · rw [if_neg c9] at H
                  exact absurd H (by simp)
              · rw [if_neg c8] at H
                exact absurd H (by simp)
            · rw [if_neg c7] at H
              exact absurd H (by simp)
          · rw [if_neg c6] at H
            have c6b0 : decide (x11_1 < (l0.length : Int)) = false := decide_eq_false c6
            clear c6
            obtain rfl := Option.some.inj H
            go_wp2
            go_ret
            exact ⟨_, by first | rfl | (simp [errW_none, errW_some] <;> rfl) | (simp [*, errW_none, errW_some] <;> rfl), by (with_reducible repeat (first | apply Kd.R_alloc | apply Kd.R_drewN | apply Kd.R_drew)); exact HO_3.out, by repeat (first | (with_reducible first | exact HB.out | apply below_alloc | apply pw_below_drewN | apply below_drew1) | exact HB.out)⟩
    · rw [if_neg c3] at H
      exact absurd H (by simp)
  · rw [if_neg c2] at H
    exact absurd H (by simp)

/-! ### spec_l1Least: function 112 -/
def spec_l1Least.f (a0 : Int) (a1 : Int) : Option (Int) := if a0 < a1 then (some a0) else (some a1)
set_option maxHeartbeats 8000000 in
set_option maxRecDepth 100000 in
theorem spec_l1Least.calls (a0 : Int) (a1 : Int) (r : Int) (w : World) (h : spec_l1Least.f a0 a1 = some r) :
    Calls Try.prog 112 #[.int .i64 a0, .int .i64 a1] w fun e w' => e = .returned (.int .i64 r) ∧ Drawn0 w w' := by
  have H : (if a0 < a1 then (some a0) else (some a1)) = some r := h
  clear h
  by_cases c3 : a0 < a1
  · rw [if_pos c3] at H
    have c3b0 : decide (a0 < a1) = true := decide_eq_true c3
    clear c3
    obtain rfl := Option.some.inj H
    go_enter Try.func112, Try.ntmps112
    go_wp2
    go_ret
    exact ⟨by first | rfl | simp | simp [*], by repeat (first | exact Drawn0.refl _ | apply Drawn0.step)⟩
  · rw [if_neg c3] at H
    have c3b0 : decide (a0 < a1) = false := decide_eq_false c3
    clear c3
    obtain rfl := Option.some.inj H
    go_enter Try.func112, Try.ntmps112
    go_wp2
    go_ret
    exact ⟨by first | rfl | simp | simp [*], by repeat (first | exact Drawn0.refl _ | apply Drawn0.step)⟩

/-! ### spec_l1Most: function 113 -/
def spec_l1Most.f (a0 : Int) (a1 : Int) : Option (Int) := if a0 > a1 then (some a0) else (some a1)
set_option maxHeartbeats 8000000 in
set_option maxRecDepth 100000 in
theorem spec_l1Most.calls (a0 : Int) (a1 : Int) (r : Int) (w : World) (h : spec_l1Most.f a0 a1 = some r) :
    Calls Try.prog 113 #[.int .i64 a0, .int .i64 a1] w fun e w' => e = .returned (.int .i64 r) ∧ Drawn0 w w' := by
  have H : (if a0 > a1 then (some a0) else (some a1)) = some r := h
  clear h
  by_cases c3 : a0 > a1
  · rw [if_pos c3] at H
    have c3b0 : decide (a1 < a0) = true := decide_eq_true c3
    clear c3
    obtain rfl := Option.some.inj H
    go_enter Try.func113, Try.ntmps113
    go_wp2
    go_ret
    exact ⟨by first | rfl | simp | simp [*], by repeat (first | exact Drawn0.refl _ | apply Drawn0.step)⟩
  · rw [if_neg c3] at H
    have c3b0 : decide (a1 < a0) = false := decide_eq_false c3
    clear c3
    obtain rfl := Option.some.inj H
    go_enter Try.func113, Try.ntmps113
    go_wp2
    go_ret
    exact ⟨by first | rfl | simp | simp [*], by repeat (first | exact Drawn0.refl _ | apply Drawn0.step)⟩

/-! ### spec_spCross: function 96 -/
def spec_spCross.f (l0 : List Int) (a1 : Int) (a2 : Int) : Option (Bool) := if (Int.tmod (wrap64 (a2 - a1)) 2) = 1 then (some false) else (if 0 ≤ a1 then (if a1 < (l0.length : Int) then (if 0 ≤ (wrap64 (a1 + 1)) then (if (wrap64 (a1 + 1)) < (l0.length : Int) then ((spec_l1Least.f (rd l0 a1) (rd l0 (wrap64 (a1 + 1)))).bind fun t124 => ((spec_l1Most.f (rd l0 a1) (rd l0 (wrap64 (a1 + 1)))).bind fun t127 => (if 0 ≤ a2 then (if a2 < (l0.length : Int) then (if 0 ≤ (wrap64 (a2 + 1)) then (if (wrap64 (a2 + 1)) < (l0.length : Int) then ((spec_l1Least.f (rd l0 a2) (rd l0 (wrap64 (a2 + 1)))).bind fun t130 => ((spec_l1Most.f (rd l0 a2) (rd l0 (wrap64 (a2 + 1)))).bind fun t133 => (if t124 < t130 then (if t130 < t127 then (if t127 < t133 then (some true) else (if t130 < t124 then (if t124 < t133 then (some (decide (t133 < t127))) else (some false)) else (some false))) else (if t130 < t124 then (if t124 < t133 then (some (decide (t133 < t127))) else (some false)) else (some false))) else (if t130 < t124 then (if t124 < t133 then (some (decide (t133 < t127))) else (some false)) else (some false))))) else (none)) else (none)) else (none)) else (none)))) else (none)) else (none)) else (none)) else (none))
set_option maxHeartbeats 8000000 in
set_option maxRecDepth 100000 in
theorem spec_spCross.calls (A0 : Option Addr) (c0 : Nat) (l0 : List Int) (a1 : Int) (a2 : Int) (r : Bool) (w : World) (hr0 : Kd.C (Kd.int .i64) w A0 l0.length l0) (hc0 : l0.length ≤ c0) (h : spec_spCross.f l0 a1 a2 = some r) :
    Calls Try.prog 96 #[.slice A0 l0.length c0, .int .i64 a1, .int .i64 a2] w fun e w' => e = .returned (.bool r) ∧ Drawn0 w w' := by
  have HR0 := Aside0.mk hr0
  have HC0 := Aside0.mk hc0
  clear hr0 hc0
  have H : (if (Int.tmod (wrap64 (a2 - a1)) 2) = 1 then (some false) else (if 0 ≤ a1 then (if a1 < (l0.length : Int) then (if 0 ≤ (wrap64 (a1 + 1)) then (if (wrap64 (a1 + 1)) < (l0.length : Int) then ((spec_l1Least.f (rd l0 a1) (rd l0 (wrap64 (a1 + 1)))).bind fun t124 => ((spec_l1Most.f (rd l0 a1) (rd l0 (wrap64 (a1 + 1)))).bind fun t127 => (if 0 ≤ a2 then (if a2 < (l0.length : Int) then (if 0 ≤ (wrap64 (a2 + 1)) then (if (wrap64 (a2 + 1)) < (l0.length : Int) then ((spec_l1Least.f (rd l0 a2) (rd l0 (wrap64 (a2 + 1)))).bind fun t130 => ((spec_l1Most.f (rd l0 a2) (rd l0 (wrap64 (a2 + 1)))).bind fun t133 => (if t124 < t130 then (if t130 < t127 then (if t127 < t133 then (some true) else (if t130 < t124 then (if t124 < t133 then (some (decide (t133 < t127))) else (some false)) else (some false))) else (if t130 < t124 then (if t124 < t133 then (some (decide (t133 < t127))) else (some false)) else (some false))) else (if t130 < t124 then (if t124 < t133 then (some (decide (t133 < t127))) else (some false)) else (some false))))) else (none)) else (none)) else (none)) else (none)))) else (none)) else (none)) else (none)) else (none))) = some r := h
  clear h
  by_cases c4 : (Int.tmod (wrap64 (a2 - a1)) 2) = 1
  · rw [if_pos c4] at H
    have c4b0 : ((Int.tmod (wrap64 (a2 - a1)) 2) == 1) = true := beq_iff_eq.mpr c4
    have c4b1 : ((Int.tmod (wrap64 (a2 - a1)) 2) != 1) = false := bne_eq_false_iff_eq.mpr c4
    clear c4
    obtain rfl := Option.some.inj H
    go_enter Try.func96, Try.ntmps96
    go_wp2
    repeat (go_quiet (fail); try go_wp2)
    go_ret
    exact ⟨by first | rfl | simp | simp [*], by repeat (first | exact Drawn0.refl _ | apply Drawn0.step)⟩
  · rw [if_neg c4] at H
    have c4b0 : ((Int.tmod (wrap64 (a2 - a1)) 2) == 1) = false := beq_eq_false_iff_ne.mpr c4
    have c4b1 : ((Int.tmod (wrap64 (a2 - a1)) 2) != 1) = true := bne_iff_ne.mpr c4
    by_cases c5 : 0 ≤ a1
    · rw [if_pos c5] at H
      have c5b0 : decide (0 ≤ a1) = true := decide_eq_true c5
      clear c5
      by_cases c6 : a1 < (l0.length : Int)
      · rw [if_pos c6] at H
        have c6b0 : decide (a1 < (l0.length : Int)) = true := decide_eq_true c6
        clear c6
        obtain ⟨ji7, hji7⟩ : ∃ j_ : Int, (wrap64 (a1 + 1)) = j_ := ⟨_, rfl⟩
        replace H : (if 0 ≤ (ji7) then (if (ji7) < (l0.length : Int) then ((spec_l1Least.f (rd l0 a1) (rd l0 (ji7))).bind fun t124 => ((spec_l1Most.f (rd l0 a1) (rd l0 (ji7))).bind fun t127 => (if 0 ≤ a2 then (if a2 < (l0.length : Int) then (if 0 ≤ (wrap64 (a2 + 1)) then (if (wrap64 (a2 + 1)) < (l0.length : Int) then ((spec_l1Least.f (rd l0 a2) (rd l0 (wrap64 (a2 + 1)))).bind fun t130 => ((spec_l1Most.f (rd l0 a2) (rd l0 (wrap64 (a2 + 1)))).bind fun t133 => (if t124 < t130 then (if t130 < t127 then (if t127 < t133 then (some true) else (if t130 < t124 then (if t124 < t133 then (some (decide (t133 < t127))) else (some false)) else (some false))) else (if t130 < t124 then (if t124 < t133 then (some (decide (t133 < t127))) else (some false)) else (some false))) else (if t130 < t124 then (if t124 < t133 then (some (decide (t133 < t127))) else (some false)) else (some false))))) else (none)) else (none)) else (none)) else (none)))) else (none)) else (none)) = some r := by first | (rw [hji7] at H; exact H) | (simp only [hji7] at H ⊢; exact H)
        have hji7w : (IntKind.i64.wrap (a1 + 1)) = ji7 := (i64_w _).trans hji7
        by_cases c8 : 0 ≤ (ji7)
        · rw [if_pos c8] at H
          have c8b0 : decide (0 ≤ (ji7)) = true := decide_eq_true c8
          clear c8
          by_cases c9 : (ji7) < (l0.length : Int)
          · rw [if_pos c9] at H
            have c9b0 : decide ((ji7) < (l0.length : Int)) = true := decide_eq_true c9
            clear c9
            replace H := Option.bind_eq_some_iff.mp H
            obtain ⟨t124, A100, H⟩ := H
            replace H : ((spec_l1Most.f (rd l0 a1) (rd l0 (ji7))).bind fun t127 => (if 0 ≤ a2 then (if a2 < (l0.length : Int) then (if 0 ≤ (wrap64 (a2 + 1)) then (if (wrap64 (a2 + 1)) < (l0.length : Int) then ((spec_l1Least.f (rd l0 a2) (rd l0 (wrap64 (a2 + 1)))).bind fun t130 => ((spec_l1Most.f (rd l0 a2) (rd l0 (wrap64 (a2 + 1)))).bind fun t133 => (if t124 < t130 then (if t130 < t127 then (if t127 < t133 then (some true) else (if t130 < t124 then (if t124 < t133 then (some (decide (t133 < t127))) else (some false)) else (some false))) else (if t130 < t124 then (if t124 < t133 then (some (decide (t133 < t127))) else (some false)) else (some false))) else (if t130 < t124 then (if t124 < t133 then (some (decide (t133 < t127))) else (some false)) else (some false))))) else (none)) else (none)) else (none)) else (none))) = some r := H
            have A10 := Aside0.mk A100
            clear A100
            replace H := Option.bind_eq_some_iff.mp H
            obtain ⟨t127, A110, H⟩ := H
            replace H : (if 0 ≤ a2 then (if a2 < (l0.length : Int) then (if 0 ≤ (wrap64 (a2 + 1)) then (if (wrap64 (a2 + 1)) < (l0.length : Int) then ((spec_l1Least.f (rd l0 a2) (rd l0 (wrap64 (a2 + 1)))).bind fun t130 => ((spec_l1Most.f (rd l0 a2) (rd l0 (wrap64 (a2 + 1)))).bind fun t133 => (if t124 < t130 then (if t130 < t127 then (if t127 < t133 then (some true) else (if t130 < t124 then (if t124 < t133 then (some (decide (t133 < t127))) else (some false)) else (some false))) else (if t130 < t124 then (if t124 < t133 then (some (decide (t133 < t127))) else (some false)) else (some false))) else (if t130 < t124 then (if t124 < t133 then (some (decide (t133 < t127))) else (some false)) else (some false))))) else (none)) else (none)) else (none)) else (none)) = some r := H
            have A11 := Aside0.mk A110
            clear A110
            by_cases c12 : 0 ≤ a2
            · rw [if_pos c12] at H
              have c12b0 : decide (0 ≤ a2) = true := decide_eq_true c12
              clear c12
              by_cases c13 : a2 < (l0.length : Int)
              · rw [if_pos c13] at H
                have c13b0 : decide (a2 < (l0.length : Int)) = true := decide_eq_true c13
                clear c13
                obtain ⟨ji14, hji14⟩ : ∃ j_ : Int, (wrap64 (a2 + 1)) = j_ := ⟨_, rfl⟩
                replace H : (if 0 ≤ (ji14) then (if (ji14) < (l0.length : Int) then ((spec_l1Least.f (rd l0 a2) (rd l0 (ji14))).bind fun t130 => ((spec_l1Most.f (rd l0 a2) (rd l0 (ji14))).bind fun t133 => (if t124 < t130 then (if t130 < t127 then (if t127 < t133 then (some true) else (if t130 < t124 then (if t124 < t133 then (some (decide (t133 < t127))) else (some false)) else (some false))) else (if t130 < t124 then (if t124 < t133 then (some (decide (t133 < t127))) else (some false)) else (some false))) else (if t130 < t124 then (if t124 < t133 then (some (decide (t133 < t127))) else (some false)) else (some false))))) else (none)) else (none)) = some r := by first | (rw [hji14] at H; exact H) | (simp only [hji14] at H ⊢; exact H)
                (try rw [hji14] at A10)
                (try rw [hji14] at A11)
                have hji14w : (IntKind.i64.wrap (a2 + 1)) = ji14 := (i64_w _).trans hji14
                by_cases c15 : 0 ≤ (ji14)
                · rw [if_pos c15] at H
                  have c15b0 : decide (0 ≤ (ji14)) = true := decide_eq_true c15
                  clear c15
                  by_cases c16 : (ji14) < (l0.length : Int)
                  · rw [if_pos c16] at H
                    have c16b0 : decide ((ji14) < (l0.length : Int)) = true := decide_eq_true c16
                    clear c16
                    replace H := Option.bind_eq_some_iff.mp H
                    obtain ⟨t130, A170, H⟩ := H
                    replace H : ((spec_l1Most.f (rd l0 a2) (rd l0 (ji14))).bind fun t133 => (if t124 < t130 then (if t130 < t127 then (if t127 < t133 then (some true) else (if t130 < t124 then (if t124 < t133 then (some (decide (t133 < t127))) else (some false)) else (some false))) else (if t130 < t124 then (if t124 < t133 then (some (decide (t133 < t127))) else (some false)) else (some false))) else (if t130 < t124 then (if t124 < t133 then (some (decide (t133 < t127))) else (some false)) else (some false)))) = some r := H
                    have A17 := Aside0.mk A170
                    clear A170
                    replace H := Option.bind_eq_some_iff.mp H
                    obtain ⟨t133, A180, H⟩ := H
                    replace H : (if t124 < t130 then (if t130 < t127 then (if t127 < t133 then (some true) else (if t130 < t124 then (if t124 < t133 then (some (decide (t133 < t127))) else (some false)) else (some false))) else (if t130 < t124 then (if t124 < t133 then (some (decide (t133 < t127))) else (some false)) else (some false))) else (if t130 < t124 then (if t124 < t133 then (some (decide (t133 < t127))) else (some false)) else (some false))) = some r := H
                    have A18 := Aside0.mk A180
                    clear A180
                    by_cases c19 : t124 < t130
                    · rw [if_pos c19] at H
                      have c19b0 : decide (t124 < t130) = true := decide_eq_true c19
                      clear c19
                      by_cases c20 : t130 < t127
                      · rw [if_pos c20] at H
                        have c20b0 : decide (t130 < t127) = true := decide_eq_true c20
                        clear c20
                        by_cases c21 : t127 < t133
                        · rw [if_pos c21] at H
                          have c21b0 : decide (t127 < t133) = true := decide_eq_true c21
                          clear c21
                          obtain rfl := Option.some.inj H
                          have p122 : 0 ≤ (a1 : Int) := of_decide_eq_true (by with_reducible assumption)
                          have q122 : a1 < (l0.length : Int) := of_decide_eq_true (by with_reducible assumption)
                          obtain ⟨ad122, e122, hx122_0⟩ := Kd.at_int HR0.out a1 p122 q122
                          cases e122
                          replace p122 := eq_true p122
                          replace q122 := eq_true q122
                          have p123 : 0 ≤ ((ji7) : Int) := of_decide_eq_true (by with_reducible assumption)
                          have q123 : (ji7) < (l0.length : Int) := of_decide_eq_true (by with_reducible assumption)
                          obtain ⟨ad123, e123, hx123_0⟩ := Kd.at_int HR0.out (ji7) p123 q123
                          obtain rfl : ad122 = ad123 := (by injection e123)
                          replace p123 := eq_true p123
                          replace q123 := eq_true q123
                          go_enter Try.func96, Try.ntmps96
                          go_wp2_with (first | (go_at_call 112; (with_reducible refine (spec_l1Least.calls (rd l0 a1) (rd l0 (ji7)) t124 _ A10.out).mono ?_); rintro e w' ⟨rfl, ⟨nd, rfl⟩⟩; (try first | exact ⟨rfl, _, World.drewN_drewN _ _ _⟩ | exact ⟨rfl, _, Eq.trans (World.drewN_drewN _ _ _) (congrArg (World.drewN _) (Nat.add_assoc _ _ _))⟩); have p125 : 0 ≤ (a1 : Int) := of_decide_eq_true (by with_reducible assumption); have q125 : a1 < (l0.length : Int) := of_decide_eq_true (by with_reducible assumption); obtain ⟨ad125, e125, hx125_0⟩ := Kd.at_int HR0.out a1 p125 q125; obtain rfl : ad122 = ad125 := (by injection e125); replace p125 := eq_true p125; replace q125 := eq_true q125; have p126 : 0 ≤ ((ji7) : Int) := of_decide_eq_true (by with_reducible assumption); have q126 : (ji7) < (l0.length : Int) := of_decide_eq_true (by with_reducible assumption); obtain ⟨ad126, e126, hx126_0⟩ := Kd.at_int HR0.out (ji7) p126 q126; obtain rfl : ad122 = ad126 := (by injection e126); replace p126 := eq_true p126; replace q126 := eq_true q126) | (go_at_call 113; (with_reducible refine (spec_l1Most.calls (rd l0 a1) (rd l0 (ji7)) t127 _ A11.out).mono ?_); rintro e w' ⟨rfl, ⟨nd, rfl⟩⟩; (try first | exact ⟨rfl, _, World.drewN_drewN _ _ _⟩ | exact ⟨rfl, _, Eq.trans (World.drewN_drewN _ _ _) (congrArg (World.drewN _) (Nat.add_assoc _ _ _))⟩); have p128 : 0 ≤ (a2 : Int) := of_decide_eq_true (by with_reducible assumption); have q128 : a2 < (l0.length : Int) := of_decide_eq_true (by with_reducible assumption); obtain ⟨ad128, e128, hx128_0⟩ := Kd.at_int HR0.out a2 p128 q128; obtain rfl : ad122 = ad128 := (by injection e128); replace p128 := eq_true p128; replace q128 := eq_true q128; have p129 : 0 ≤ ((ji14) : Int) := of_decide_eq_true (by with_reducible assumption); have q129 : (ji14) < (l0.length : Int) := of_decide_eq_true (by with_reducible assumption); obtain ⟨ad129, e129, hx129_0⟩ := Kd.at_int HR0.out (ji14) p129 q129; obtain rfl : ad122 = ad129 := (by injection e129); replace p129 := eq_true p129; replace q129 := eq_true q129) | (go_at_call 112; (with_reducible refine (spec_l1Least.calls (rd l0 a2) (rd l0 (ji14)) t130 _ A17.out).mono ?_); rintro e w' ⟨rfl, ⟨nd, rfl⟩⟩; (try first | exact ⟨rfl, _, World.drewN_drewN _ _ _⟩ | exact ⟨rfl, _, Eq.trans (World.drewN_drewN _ _ _) (congrArg (World.drewN _) (Nat.add_assoc _ _ _))⟩); have p131 : 0 ≤ (a2 : Int) := of_decide_eq_true (by with_reducible assumption); have q131 : a2 < (l0.length : Int) := of_decide_eq_true (by with_reducible assumption); obtain ⟨ad131, e131, hx131_0⟩ := Kd.at_int HR0.out a2 p131 q131; obtain rfl : ad122 = ad131 := (by injection e131); replace p131 := eq_true p131; replace q131 := eq_true q131; have p132 : 0 ≤ ((ji14) : Int) := of_decide_eq_true (by with_reducible assumption); have q132 : (ji14) < (l0.length : Int) := of_decide_eq_true (by with_reducible assumption); obtain ⟨ad132, e132, hx132_0⟩ := Kd.at_int HR0.out (ji14) p132 q132; obtain rfl : ad122 = ad132 := (by injection e132); replace p132 := eq_true p132; replace q132 := eq_true q132) | (go_at_call 113; (with_reducible refine (spec_l1Most.calls (rd l0 a2) (rd l0 (ji14)) t133 _ A18.out).mono ?_); rintro e w' ⟨rfl, ⟨nd, rfl⟩⟩; (try first | exact ⟨rfl, _, World.drewN_drewN _ _ _⟩ | exact ⟨rfl, _, Eq.trans (World.drewN_drewN _ _ _) (congrArg (World.drewN _) (Nat.add_assoc _ _ _))⟩)))
                          repeat (go_quiet (first | (go_at_call 112; (with_reducible refine (spec_l1Least.calls (rd l0 a1) (rd l0 (ji7)) t124 _ A10.out).mono ?_); rintro e w' ⟨rfl, ⟨nd, rfl⟩⟩; (try first | exact ⟨rfl, _, World.drewN_drewN _ _ _⟩ | exact ⟨rfl, _, Eq.trans (World.drewN_drewN _ _ _) (congrArg (World.drewN _) (Nat.add_assoc _ _ _))⟩); have p125 : 0 ≤ (a1 : Int) := of_decide_eq_true (by with_reducible assumption); have q125 : a1 < (l0.length : Int) := of_decide_eq_true (by with_reducible assumption); obtain ⟨ad125, e125, hx125_0⟩ := Kd.at_int HR0.out a1 p125 q125; obtain rfl : ad122 = ad125 := (by injection e125); replace p125 := eq_true p125; replace q125 := eq_true q125; have p126 : 0 ≤ ((ji7) : Int) := of_decide_eq_true (by with_reducible assumption); have q126 : (ji7) < (l0.length : Int) := of_decide_eq_true (by with_reducible assumption); obtain ⟨ad126, e126, hx126_0⟩ := Kd.at_int HR0.out (ji7) p126 q126; obtain rfl : ad122 = ad126 := (by injection e126); replace p126 := eq_true p126; replace q126 := eq_true q126) | (go_at_call 113; (with_reducible refine (spec_l1Most.calls (rd l0 a1) (rd l0 (ji7)) t127 _ A11.out).mono ?_); rintro e w' ⟨rfl, ⟨nd, rfl⟩⟩; (try first | exact ⟨rfl, _, World.drewN_drewN _ _ _⟩ | exact ⟨rfl, _, Eq.trans (World.drewN_drewN _ _ _) (congrArg (World.drewN _) (Nat.add_assoc _ _ _))⟩); have p128 : 0 ≤ (a2 : Int) := of_decide_eq_true (by with_reducible assumption); have q128 : a2 < (l0.length : Int) := of_decide_eq_true (by with_reducible assumption); obtain ⟨ad128, e128, hx128_0⟩ := Kd.at_int HR0.out a2 p128 q128; obtain rfl : ad122 = ad128 := (by injection e128); replace p128 := eq_true p128; replace q128 := eq_true q128; have p129 : 0 ≤ ((ji14) : Int) := of_decide_eq_true (by with_reducible assumption); have q129 : (ji14) < (l0.length : Int) := of_decide_eq_true (by with_reducible assumption); obtain ⟨ad129, e129, hx129_0⟩ := Kd.at_int HR0.out (ji14) p129 q129; obtain rfl : ad122 = ad129 := (by injection e129); replace p129 := eq_true p129; replace q129 := eq_true q129) | (go_at_call 112; (with_reducible refine (spec_l1Least.calls (rd l0 a2) (rd l0 (ji14)) t130 _ A17.out).mono ?_); rintro e w' ⟨rfl, ⟨nd, rfl⟩⟩; (try first | exact ⟨rfl, _, World.drewN_drewN _ _ _⟩ | exact ⟨rfl, _, Eq.trans (World.drewN_drewN _ _ _) (congrArg (World.drewN _) (Nat.add_assoc _ _ _))⟩); have p131 : 0 ≤ (a2 : Int) := of_decide_eq_true (by with_reducible assumption); have q131 : a2 < (l0.length : Int) := of_decide_eq_true (by with_reducible assumption); obtain ⟨ad131, e131, hx131_0⟩ := Kd.at_int HR0.out a2 p131 q131; obtain rfl : ad122 = ad131 := (by injection e131); replace p131 := eq_true p131; replace q131 := eq_true q131; have p132 : 0 ≤ ((ji14) : Int) := of_decide_eq_true (by with_reducible assumption); have q132 : (ji14) < (l0.length : Int) := of_decide_eq_true (by with_reducible assumption); obtain ⟨ad132, e132, hx132_0⟩ := Kd.at_int HR0.out (ji14) p132 q132; obtain rfl : ad122 = ad132 := (by injection e132); replace p132 := eq_true p132; replace q132 := eq_true q132) | (go_at_call 113; (with_reducible refine (spec_l1Most.calls (rd l0 a2) (rd l0 (ji14)) t133 _ A18.out).mono ?_); rintro e w' ⟨rfl, ⟨nd, rfl⟩⟩; (try first | exact ⟨rfl, _, World.drewN_drewN _ _ _⟩ | exact ⟨rfl, _, Eq.trans (World.drewN_drewN _ _ _) (congrArg (World.drewN _) (Nat.add_assoc _ _ _))⟩))); try go_wp2_with (first | (go_at_call 112; (with_reducible refine (spec_l1Least.calls (rd l0 a1) (rd l0 (ji7)) t124 _ A10.out).mono ?_); rintro e w' ⟨rfl, ⟨nd, rfl⟩⟩; (try first | exact ⟨rfl, _, World.drewN_drewN _ _ _⟩ | exact ⟨rfl, _, Eq.trans (World.drewN_drewN _ _ _) (congrArg (World.drewN _) (Nat.add_assoc _ _ _))⟩); have p125 : 0 ≤ (a1 : Int) := of_decide_eq_true (by with_reducible assumption); have q125 : a1 < (l0.length : Int) := of_decide_eq_true (by with_reducible assumption); obtain ⟨ad125, e125, hx125_0⟩ := Kd.at_int HR0.out a1 p125 q125; obtain rfl : ad122 = ad125 := (by injection e125); replace p125 := eq_true p125; replace q125 := eq_true q125; have p126 : 0 ≤ ((ji7) : Int) := of_decide_eq_true (by with_reducible assumption); have q126 : (ji7) < (l0.length : Int) := of_decide_eq_true (by with_reducible assumption); obtain ⟨ad126, e126, hx126_0⟩ := Kd.at_int HR0.out (ji7) p126 q126; obtain rfl : ad122 = ad126 := (by injection e126); replace p126 := eq_true p126; replace q126 := eq_true q126) | (go_at_call 113; (with_reducible refine (spec_l1Most.calls (rd l0 a1) (rd l0 (ji7)) t127 _ A11.out).mono ?_); rintro e w' ⟨rfl, ⟨nd, rfl⟩⟩; (try first | exact ⟨rfl, _, World.drewN_drewN _ _ _⟩ | exact ⟨rfl, _, Eq.trans (World.drewN_drewN _ _ _) (congrArg (World.drewN _) (Nat.add_assoc _ _ _))⟩); have p128 : 0 ≤ (a2 : Int) := of_decide_eq_true (by with_reducible assumption); have q128 : a2 < (l0.length : Int) := of_decide_eq_true (by with_reducible assumption); obtain ⟨ad128, e128, hx128_0⟩ := Kd.at_int HR0.out a2 p128 q128; obtain rfl : ad122 = ad128 := (by injection e128); replace p128 := eq_true p128; replace q128 := eq_true q128; have p129 : 0 ≤ ((ji14) : Int) := of_decide_eq_true (by with_reducible assumption); have q129 : (ji14) < (l0.length : Int) := of_decide_eq_true (by with_reducible assumption); obtain ⟨ad129, e129, hx129_0⟩ := Kd.at_int HR0.out (ji14) p129 q129; obtain rfl : ad122 = ad129 := (by injection e129); replace p129 := eq_true p129; replace q129 := eq_true q129) | (go_at_call 112; (with_reducible refine (spec_l1Least.calls (rd l0 a2) (rd l0 (ji14)) t130 _ A17.out).mono ?_); rintro e w' ⟨rfl, ⟨nd, rfl⟩⟩; (try first | exact ⟨rfl, _, World.drewN_drewN _ _ _⟩ | exact ⟨rfl, _, Eq.trans (World.drewN_drewN _ _ _) (congrArg (World.drewN _) (Nat.add_assoc _ _ _))⟩); have p131 : 0 ≤ (a2 : Int) := of_decide_eq_true (by with_reducible assumption); have q131 : a2 < (l0.length : Int) := of_decide_eq_true (by with_reducible assumption); obtain ⟨ad131, e131, hx131_0⟩ := Kd.at_int HR0.out a2 p131 q131; obtain rfl : ad122 = ad131 := (by injection e131); replace p131 := eq_true p131; replace q131 := eq_true q131; have p132 : 0 ≤ ((ji14) : Int) := of_decide_eq_true (by with_reducible assumption); have q132 : (ji14) < (l0.length : Int) := of_decide_eq_true (by with_reducible assumption); obtain ⟨ad132, e132, hx132_0⟩ := Kd.at_int HR0.out (ji14) p132 q132; obtain rfl : ad122 = ad132 := (by injection e132); replace p132 := eq_true p132; replace q132 := eq_true q132) | (go_at_call 113; (with_reducible refine (spec_l1Most.calls (rd l0 a2) (rd l0 (ji14)) t133 _ A18.out).mono ?_); rintro e w' ⟨rfl, ⟨nd, rfl⟩⟩; (try first | exact ⟨rfl, _, World.drewN_drewN _ _ _⟩ | exact ⟨rfl, _, Eq.trans (World.drewN_drewN _ _ _) (congrArg (World.drewN _) (Nat.add_assoc _ _ _))⟩))))
                          go_ret
                          exact ⟨by first | rfl | (simp; done) | (simp only [← hji7, ← hji14] <;> (first | rfl | simp)) | (simp [*]; done), by repeat (first | exact Drawn0.refl _ | apply Drawn0.step)⟩
                        · rw [if_neg c21] at H
                          have c21b0 : decide (t127 < t133) = false := decide_eq_false c21
                          clear c21
                          by_cases c22 : t130 < t124
                          · rw [if_pos c22] at H
                            have c22b0 : decide (t130 < t124) = true := decide_eq_true c22
                            clear c22
                            by_cases c23 : t124 < t133
                            · rw [if_pos c23] at H
                              have c23b0 : decide (t124 < t133) = true := decide_eq_true c23
                              clear c23
                              obtain rfl := Option.some.inj H
                              have p122 : 0 ≤ (a1 : Int) := of_decide_eq_true (by with_reducible assumption)
                              have q122 : a1 < (l0.length : Int) := of_decide_eq_true (by with_reducible assumption)
                              obtain ⟨ad122, e122, hx122_0⟩ := Kd.at_int HR0.out a1 p122 q122
                              cases e122
                              replace p122 := eq_true p122
                              replace q122 := eq_true q122
                              have p123 : 0 ≤ ((ji7) : Int) := of_decide_eq_true (by with_reducible assumption)
                              have q123 : (ji7) < (l0.length : Int) := of_decide_eq_true (by with_reducible assumption)
                              obtain ⟨ad123, e123, hx123_0⟩ := Kd.at_int HR0.out (ji7) p123 q123
                              obtain rfl : ad122 = ad123 := (by injection e123)
                              replace p123 := eq_true p123
                              replace q123 := eq_true q123
                              go_enter Try.func96, Try.ntmps96
                              go_wp2_with (first | (go_at_call 112; (with_reducible refine (spec_l1Least.calls (rd l0 a1) (rd l0 (ji7)) t124 _ A10.out).mono ?_); rintro e w' ⟨rfl, ⟨nd, rfl⟩⟩; (try first | exact ⟨rfl, _, World.drewN_drewN _ _ _⟩ | exact ⟨rfl, _, Eq.trans (World.drewN_drewN _ _ _) (congrArg (World.drewN _) (Nat.add_assoc _ _ _))⟩); have p125 : 0 ≤ (a1 : Int) := of_decide_eq_true (by with_reducible assumption); have q125 : a1 < (l0.length : Int) := of_decide_eq_true (by with_reducible assumption); obtain ⟨ad125, e125, hx125_0⟩ := Kd.at_int HR0.out a1 p125 q125; obtain rfl : ad122 = ad125 := (by injection e125); replace p125 := eq_true p125; replace q125 := eq_true q125; have p126 : 0 ≤ ((ji7) : Int) := of_decide_eq_true (by with_reducible assumption); have q126 : (ji7) < (l0.length : Int) := of_decide_eq_true (by with_reducible assumption); obtain ⟨ad126, e126, hx126_0⟩ := Kd.at_int HR0.out (ji7) p126 q126; obtain rfl : ad122 = ad126 := (by injection e126); replace p126 := eq_true p126; replace q126 := eq_true q126) | (go_at_call 113; (with_reducible refine (spec_l1Most.calls (rd l0 a1) (rd l0 (ji7)) t127 _ A11.out).mono ?_); rintro e w' ⟨rfl, ⟨nd, rfl⟩⟩; (try first | exact ⟨rfl, _, World.drewN_drewN _ _ _⟩ | exact ⟨rfl, _, Eq.trans (World.drewN_drewN _ _ _) (congrArg (World.drewN _) (Nat.add_assoc _ _ _))⟩); have p128 : 0 ≤ (a2 : Int) := of_decide_eq_true (by with_reducible assumption); have q128 : a2 < (l0.length : Int) := of_decide_eq_true (by with_reducible assumption); obtain ⟨ad128, e128, hx128_0⟩ := Kd.at_int HR0.out a2 p128 q128; obtain rfl : ad122 = ad128 := (by injection e128); replace p128 := eq_true p128; replace q128 := eq_true q128; have p129 : 0 ≤ ((ji14) : Int) := of_decide_eq_true (by with_reducible assumption); have q129 : (ji14) < (l0.length : Int) := of_decide_eq_true (by with_reducible assumption); obtain ⟨ad129, e129, hx129_0⟩ := Kd.at_int HR0.out (ji14) p129 q129; obtain rfl : ad122 = ad129 := (by injection e129); replace p129 := eq_true p129; replace q129 := eq_true q129) | (go_at_call 112; (with_reducible refine (spec_l1Least.calls (rd l0 a2) (rd l0 (ji14)) t130 _ A17.out).mono ?_); rintro e w' ⟨rfl, ⟨nd, rfl⟩⟩; (try first | exact ⟨rfl, _, World.drewN_drewN _ _ _⟩ | exact ⟨rfl, _, Eq.trans (World.drewN_drewN _ _ _) (congrArg (World.drewN _) (Nat.add_assoc _ _ _))⟩); have p131 : 0 ≤ (a2 : Int) := of_decide_eq_true (by with_reducible assumption); have q131 : a2 < (l0.length : Int) := of_decide_eq_true (by with_reducible assumption); obtain ⟨ad131, e131, hx131_0⟩ := Kd.at_int HR0.out a2 p131 q131; obtain rfl : ad122 = ad131 := (by injection e131); replace p131 := eq_true p131; replace q131 := eq_true q131; have p132 : 0 ≤ ((ji14) : Int) := of_decide_eq_true (by with_reducible assumption); have q132 : (ji14) < (l0.length : Int) := of_decide_eq_true (by with_reducible assumption); obtain ⟨ad132, e132, hx132_0⟩ := Kd.at_int HR0.out (ji14) p132 q132; obtain rfl : ad122 = ad132 := (by injection e132); replace p132 := eq_true p132; replace q132 := eq_true q132) | (go_at_call 113; (with_reducible refine (spec_l1Most.calls (rd l0 a2) (rd l0 (ji14)) t133 _ A18.out).mono ?_); rintro e w' ⟨rfl, ⟨nd, rfl⟩⟩; (try first | exact ⟨rfl, _, World.drewN_drewN _ _ _⟩ | exact ⟨rfl, _, Eq.trans (World.drewN_drewN _ _ _) (congrArg (World.drewN _) (Nat.add_assoc _ _ _))⟩)))
                              repeat (go_quiet (first | (go_at_call 112; (with_reducible refine (spec_l1Least.calls (rd l0 a1) (rd l0 (ji7)) t124 _ A10.out).mono ?_); rintro e w' ⟨rfl, ⟨nd, rfl⟩⟩; (try first | exact ⟨rfl, _, World.drewN_drewN _ _ _⟩ | exact ⟨rfl, _, Eq.trans (World.drewN_drewN _ _ _) (congrArg (World.drewN _) (Nat.add_assoc _ _ _))⟩); have p125 : 0 ≤ (a1 : Int) := of_decide_eq_true (by with_reducible assumption); have q125 : a1 < (l0.length : Int) := of_decide_eq_true (by with_reducible assumption); obtain ⟨ad125, e125, hx125_0⟩ := Kd.at_int HR0.out a1 p125 q125; obtain rfl : ad122 = ad125 := (by injection e125); replace p125 := eq_true p125; replace q125 := eq_true q125; have p126 : 0 ≤ ((ji7) : Int) := of_decide_eq_true (by with_reducible assumption); have q126 : (ji7) < (l0.length : Int) := of_decide_eq_true (by with_reducible assumption); obtain ⟨ad126, e126, hx126_0⟩ := Kd.at_int HR0.out (ji7) p126 q126; obtain rfl : ad122 = ad126 := (by injection e126); replace p126 := eq_true p126; replace q126 := eq_true q126) | (go_at_call 113; (with_reducible refine (spec_l1Most.calls (rd l0 a1) (rd l0 (ji7)) t127 _ A11.out).mono ?_); rintro e w' ⟨rfl, ⟨nd, rfl⟩⟩; (try first | exact ⟨rfl, _, World.drewN_drewN _ _ _⟩ | exact ⟨rfl, _, Eq.trans (World.drewN_drewN _ _ _) (congrArg (World.drewN _) (Nat.add_assoc _ _ _))⟩); have p128 : 0 ≤ (a2 : Int) := of_decide_eq_true (by with_reducible assumption); have q128 : a2 < (l0.length : Int) := of_decide_eq_true (by with_reducible assumption); obtain ⟨ad128, e128, hx128_0⟩ := Kd.at_int HR0.out a2 p128 q128; obtain rfl : ad122 = ad128 := (by injection e128); replace p128 := eq_true p128; replace q128 := eq_true q128; have p129 : 0 ≤ ((ji14) : Int) := of_decide_eq_true (by with_reducible assumption); have q129 : (ji14) < (l0.length : Int) := of_decide_eq_true (by with_reducible assumption); obtain ⟨ad129, e129, hx129_0⟩ := Kd.at_int HR0.out (ji14) p129 q129; obtain rfl : ad122 = ad129 := (by injection e129); replace p129 := eq_true p129; replace q129 := eq_true q129) | (go_at_call 112; (with_reducible refine (spec_l1Least.calls (rd l0 a2) (rd l0 (ji14)) t130 _ A17.out).mono ?_); rintro e w' ⟨rfl, ⟨nd, rfl⟩⟩; (try first | exact ⟨rfl, _, World.drewN_drewN _ _ _⟩ | exact ⟨rfl, _, Eq.trans (World.drewN_drewN _ _ _) (congrArg (World.drewN _) (Nat.add_assoc _ _ _))⟩); have p131 : 0 ≤ (a2 : Int) := of_decide_eq_true (by with_reducible assumption); have q131 : a2 < (l0.length : Int) := of_decide_eq_true (by with_reducible assumption); obtain ⟨ad131, e131, hx131_0⟩ := Kd.at_int HR0.out a2 p131 q131; obtain rfl : ad122 = ad131 := (by injection e131); replace p131 := eq_true p131; replace q131 := eq_true q131; have p132 : 0 ≤ ((ji14) : Int) := of_decide_eq_true (by with_reducible assumption); have q132 : (ji14) < (l0.length : Int) := of_decide_eq_true (by with_reducible assumption); obtain ⟨ad132, e132, hx132_0⟩ := Kd.at_int HR0.out (ji14) p132 q132; obtain rfl : ad122 = ad132 := (by injection e132); replace p132 := eq_true p132; replace q132 := eq_true q132) | (go_at_call 113; (with_reducible refine (spec_l1Most.calls (rd l0 a2) (rd l0 (ji14)) t133 _ A18.out).mono ?_); rintro e w' ⟨rfl, ⟨nd, rfl⟩⟩; (try first | exact ⟨rfl, _, World.drewN_drewN _ _ _⟩ | exact ⟨rfl, _, Eq.trans (World.drewN_drewN _ _ _) (congrArg (World.drewN _) (Nat.add_assoc _ _ _))⟩))); try go_wp2_with (first | (go_at_call 112; (with_reducible refine (spec_l1Least.calls (rd l0 a1) (rd l0 (ji7)) t124 _ A10.out).mono ?_); rintro e w' ⟨rfl, ⟨nd, rfl⟩⟩; (try first | exact ⟨rfl, _, World.drewN_drewN _ _ _⟩ | exact ⟨rfl, _, Eq.trans (World.drewN_drewN _ _ _) (congrArg (World.drewN _) (Nat.add_assoc _ _ _))⟩); have p125 : 0 ≤ (a1 : Int) := of_decide_eq_true (by with_reducible assumption); have q125 : a1 < (l0.length : Int) := of_decide_eq_true (by with_reducible assumption); obtain ⟨ad125, e125, hx125_0⟩ := Kd.at_int HR0.out a1 p125 q125; obtain rfl : ad122 = ad125 := (by injection e125); replace p125 := eq_true p125; replace q125 := eq_true q125; have p126 : 0 ≤ ((ji7) : Int) := of_decide_eq_true (by with_reducible assumption); have q126 : (ji7) < (l0.length : Int) := of_decide_eq_true (by with_reducible assumption); obtain ⟨ad126, e126, hx126_0⟩ := Kd.at_int HR0.out (ji7) p126 q126; obtain rfl : ad122 = ad126 := (by injection e126); replace p126 := eq_true p126; replace q126 := eq_true q126) | (go_at_call 113; (with_reducible refine (spec_l1Most.calls (rd l0 a1) (rd l0 (ji7)) t127 _ A11.out).mono ?_); rintro e w' ⟨rfl, ⟨nd, rfl⟩⟩; (try first | exact ⟨rfl, _, World.drewN_drewN _ _ _⟩ | exact ⟨rfl, _, Eq.trans (World.drewN_drewN _ _ _) (congrArg (World.drewN _) (Nat.add_assoc _ _ _))⟩); have p128 : 0 ≤ (a2 : Int) := of_decide_eq_true (by with_reducible assumption); have q128 : a2 < (l0.length : Int) := of_decide_eq_true (by with_reducible assumption); obtain ⟨ad128, e128, hx128_0⟩ := Kd.at_int HR0.out a2 p128 q128; obtain rfl : ad122 = ad128 := (by injection e128); replace p128 := eq_true p128; replace q128 := eq_true q128; have p129 : 0 ≤ ((ji14) : Int) := of_decide_eq_true (by with_reducible assumption); have q129 : (ji14) < (l0.length : Int) := of_decide_eq_true (by with_reducible assumption); obtain ⟨ad129, e129, hx129_0⟩ := Kd.at_int HR0.out (ji14) p129 q129; obtain rfl : ad122 = ad129 := (by injection e129); replace p129 := eq_true p129; replace q129 := eq_true q129) | (go_at_call 112; (with_reducible refine (spec_l1Least.calls (rd l0 a2) (rd l0 (ji14)) t130 _ A17.out).mono ?_); rintro e w' ⟨rfl, ⟨nd, rfl⟩⟩; (try first | exact ⟨rfl, _, World.drewN_drewN _ _ _⟩ | exact ⟨rfl, _, Eq.trans (World.drewN_drewN _ _ _) (congrArg (World.drewN _) (Nat.add_assoc _ _ _))⟩); have p131 : 0 ≤ (a2 : Int) := of_decide_eq_true (by with_reducible assumption); have q131 : a2 < (l0.length : Int) := of_decide_eq_true (by with_reducible assumption); obtain ⟨ad131, e131, hx131_0⟩ := Kd.at_int HR0.out a2 p131 q131; obtain rfl : ad122 = ad131 := (by injection e131); replace p131 := eq_true p131; replace q131 := eq_true q131; have p132 : 0 ≤ ((ji14) : Int) := of_decide_eq_true (by with_reducible assumption); have q132 : (ji14) < (l0.length : Int) := of_decide_eq_true (by with_reducible assumption); obtain ⟨ad132, e132, hx132_0⟩ := Kd.at_int HR0.out (ji14) p132 q132; obtain rfl : ad122 = ad132 := (by injection e132); replace p132 := eq_true p132; replace q132 := eq_true q132) | (go_at_call 113; (with_reducible refine (spec_l1Most.calls (rd l0 a2) (rd l0 (ji14)) t133 _ A18.out).mono ?_); rintro e w' ⟨rfl, ⟨nd, rfl⟩⟩; (try first | exact ⟨rfl, _, World.drewN_drewN _ _ _⟩ | exact ⟨rfl, _, Eq.trans (World.drewN_drewN _ _ _) (congrArg (World.drewN _) (Nat.add_assoc _ _ _))⟩))))
                              go_ret
                              exact ⟨by first | rfl | (simp; done) | (simp only [← hji7, ← hji14] <;> (first | rfl | simp)) | (simp [*]; done), by repeat (first | exact Drawn0.refl _ | apply Drawn0.step)⟩
                            · rw [if_neg c23] at H
                              have c23b0 : decide (t124 < t133) = false := decide_eq_false c23
                              clear c23
                              obtain rfl := Option.some.inj H
                              have p122 : 0 ≤ (a1 : Int) := of_decide_eq_true (by with_reducible assumption)
                              have q122 : a1 < (l0.length : Int) := of_decide_eq_true (by with_reducible assumption)
                              obtain ⟨ad122, e122, hx122_0⟩ := Kd.at_int HR0.out a1 p122 q122
                              cases e122
                              replace p122 := eq_true p122
                              replace q122 := eq_true q122
                              have p123 : 0 ≤ ((ji7) : Int) := of_decide_eq_true (by with_reducible assumption)
                              have q123 : (ji7) < (l0.length : Int) := of_decide_eq_true (by with_reducible assumption)
                              obtain ⟨ad123, e123, hx123_0⟩ := Kd.at_int HR0.out (ji7) p123 q123
                              obtain rfl : ad122 = ad123 := (by injection e123)
                              replace p123 := eq_true p123
                              replace q123 := eq_true q123
                              go_enter Try.func96, Try.ntmps96
                              go_wp2_with (first | (go_at_call 112; (with_reducible refine (spec_l1Least.calls (rd l0 a1) (rd l0 (ji7)) t124 _ A10.out).mono ?_); rintro e w' ⟨rfl, ⟨nd, rfl⟩⟩; (try first | exact ⟨rfl, _, World.drewN_drewN _ _ _⟩ | exact ⟨rfl, _, Eq.trans (World.drewN_drewN _ _ _) (congrArg (World.drewN _) (Nat.add_assoc _ _ _))⟩); have p125 : 0 ≤ (a1 : Int) := of_decide_eq_true (by with_reducible assumption); have q125 : a1 < (l0.length : Int) := of_decide_eq_true (by with_reducible assumption); obtain ⟨ad125, e125, hx125_0⟩ := Kd.at_int HR0.out a1 p125 q125; obtain rfl : ad122 = ad125 := (by injection e125); replace p125 := eq_true p125; replace q125 := eq_true q125; have p126 : 0 ≤ ((ji7) : Int) := of_decide_eq_true (by with_reducible assumption); have q126 : (ji7) < (l0.length : Int) := of_decide_eq_true (by with_reducible assumption); obtain ⟨ad126, e126, hx126_0⟩ := Kd.at_int HR0.out (ji7) p126 q126; obtain rfl : ad122 = ad126 := (by injection e126); replace p126 := eq_true p126; replace q126 := eq_true q126) | (go_at_call 113; (with_reducible refine (spec_l1Most.calls (rd l0 a1) (rd l0 (ji7)) t127 _ A11.out).mono ?_); rintro e w' ⟨rfl, ⟨nd, rfl⟩⟩; (try first | exact ⟨rfl, _, World.drewN_drewN _ _ _⟩ | exact ⟨rfl, _, Eq.trans (World.drewN_drewN _ _ _) (congrArg (World.drewN _) (Nat.add_assoc _ _ _))⟩); have p128 : 0 ≤ (a2 : Int) := of_decide_eq_true (by with_reducible assumption); have q128 : a2 < (l0.length : Int) := of_decide_eq_true (by with_reducible assumption); obtain ⟨ad128, e128, hx128_0⟩ := Kd.at_int HR0.out a2 p128 q128; obtain rfl : ad122 = ad128 := (by injection e128); replace p128 := eq_true p128; replace q128 := eq_true q128; have p129 : 0 ≤ ((ji14) : Int) := of_decide_eq_true (by with_reducible assumption); have q129 : (ji14) < (l0.length : Int) := of_decide_eq_true (by with_reducible assumption); obtain ⟨ad129, e129, hx129_0⟩ := Kd.at_int HR0.out (ji14) p129 q129; obtain rfl : ad122 = ad129 := (by injection e129); replace p129 := eq_true p129; replace q129 := eq_true q129) | (go_at_call 112; (with_reducible refine (spec_l1Least.calls (rd l0 a2) (rd l0 (ji14)) t130 _ A17.out).mono ?_); rintro e w' ⟨rfl, ⟨nd, rfl⟩⟩; (try first | exact ⟨rfl, _, World.drewN_drewN _ _ _⟩ | exact ⟨rfl, _, Eq.trans (World.drewN_drewN _ _ _) (congrArg (World.drewN _) (Nat.add_assoc _ _ _))⟩); have p131 : 0 ≤ (a2 : Int) := of_decide_eq_true (by with_reducible assumption); have q131 : a2 < (l0.length : Int) := of_decide_eq_true (by with_reducible assumption); obtain ⟨ad131, e131, hx131_0⟩ := Kd.at_int HR0.out a2 p131 q131; obtain rfl : ad122 = ad131 := (by injection e131); replace p131 := eq_true p131; replace q131 := eq_true q131; have p132 : 0 ≤ ((ji14) : Int) := of_decide_eq_true (by with_reducible assumption); have q132 : (ji14) < (l0.length : Int) := of_decide_eq_true (by with_reducible assumption); obtain ⟨ad132, e132, hx132_0⟩ := Kd.at_int HR0.out (ji14) p132 q132; obtain rfl : ad122 = ad132 := (by injection e132); replace p132 := eq_true p132; replace q132 := eq_true q132) | (go_at_call 113; (with_reducible refine (spec_l1Most.calls (rd l0 a2) (rd l0 (ji14)) t133 _ A18.out).mono ?_); rintro e w' ⟨rfl, ⟨nd, rfl⟩⟩; (try first | exact ⟨rfl, _, World.drewN_drewN _ _ _⟩ | exact ⟨rfl, _, Eq.trans (World.drewN_drewN _ _ _) (congrArg (World.drewN _) (Nat.add_assoc _ _ _))⟩)))
                              repeat (go_quiet (first | (go_at_call 112; (with_reducible refine (spec_l1Least.calls (rd l0 a1) (rd l0 (ji7)) t124 _ A10.out).mono ?_); rintro e w' ⟨rfl, ⟨nd, rfl⟩⟩; (try first | exact ⟨rfl, _, World.drewN_drewN _ _ _⟩ | exact ⟨rfl, _, Eq.trans (World.drewN_drewN _ _ _) (congrArg (World.drewN _) (Nat.add_assoc _ _ _))⟩); have p125 : 0 ≤ (a1 : Int) := of_decide_eq_true (by with_reducible assumption); have q125 : a1 < (l0.length : Int) := of_decide_eq_true (by with_reducible assumption); obtain ⟨ad125, e125, hx125_0⟩ := Kd.at_int HR0.out a1 p125 q125; obtain rfl : ad122 = ad125 := (by injection e125); replace p125 := eq_true p125; replace q125 := eq_true q125; have p126 : 0 ≤ ((ji7) : Int) := of_decide_eq_true (by with_reducible assumption); have q126 : (ji7) < (l0.length : Int) := of_decide_eq_true (by with_reducible assumption); obtain ⟨ad126, e126, hx126_0⟩ := Kd.at_int HR0.out (ji7) p126 q126; obtain rfl : ad122 = ad126 := (by injection e126); replace p126 := eq_true p126; replace q126 := eq_true q126) | (go_at_call 113; (with_reducible refine (spec_l1Most.calls (rd l0 a1) (rd l0 (ji7)) t127 _ A11.out).mono ?_); rintro e w' ⟨rfl, ⟨nd, rfl⟩⟩; (try first | exact ⟨rfl, _, World.drewN_drewN _ _ _⟩ | exact ⟨rfl, _, Eq.trans (World.drewN_drewN _ _ _) (congrArg (World.drewN _) (Nat.add_assoc _ _ _))⟩); have p128 : 0 ≤ (a2 : Int) := of_decide_eq_true (by with_reducible assumption); have q128 : a2 < (l0.length : Int) := of_decide_eq_true (by with_reducible assumption); obtain ⟨ad128, e128, hx128_0⟩ := Kd.at_int HR0.out a2 p128 q128; obtain rfl : ad122 = ad128 := (by injection e128); replace p128 := eq_true p128; replace q128 := eq_true q128; have p129 : 0 ≤ ((ji14) : Int) := of_decide_eq_true (by with_reducible assumption); have q129 : (ji14) < (l0.length : Int) := of_decide_eq_true (by with_reducible assumption); obtain ⟨ad129, e129, hx129_0⟩ := Kd.at_int HR0.out (ji14) p129 q129; obtain rfl : ad122 = ad129 := (by injection e129); replace p129 := eq_true p129; replace q129 := eq_true q129) | (go_at_call 112; (with_reducible refine (spec_l1Least.calls (rd l0 a2) (rd l0 (ji14)) t130 _ A17.out).mono ?_); rintro e w' ⟨rfl, ⟨nd, rfl⟩⟩; (try first | exact ⟨rfl, _, World.drewN_drewN _ _ _⟩ | exact ⟨rfl, _, Eq.trans (World.drewN_drewN _ _ _) (congrArg (World.drewN _) (Nat.add_assoc _ _ _))⟩); have p131 : 0 ≤ (a2 : Int) := of_decide_eq_true (by with_reducible assumption); have q131 : a2 < (l0.length : Int) := of_decide_eq_true (by with_reducible assumption); obtain ⟨ad131, e131, hx131_0⟩ := Kd.at_int HR0.out a2 p131 q131; obtain rfl : ad122 = ad131 := (by injection e131); replace p131 := eq_true p131; replace q131 := eq_true q131; have p132 : 0 ≤ ((ji14) : Int) := of_decide_eq_true (by with_reducible assumption); have q132 : (ji14) < (l0.length : Int) := of_decide_eq_true (by with_reducible assumption); obtain ⟨ad132, e132, hx132_0⟩ := Kd.at_int HR0.out (ji14) p132 q132; obtain rfl : ad122 = ad132 := (by injection e132); replace p132 := eq_true p132; replace q132 := eq_true q132) | (go_at_call 113; (with_reducible refine (spec_l1Most.calls (rd l0 a2) (rd l0 (ji14)) t133 _ A18.out).mono ?_); rintro e w' ⟨rfl, ⟨nd, rfl⟩⟩; (try first | exact ⟨rfl, _, World.drewN_drewN _ _ _⟩ | exact ⟨rfl, _, Eq.trans (World.drewN_drewN _ _ _) (congrArg (World.drewN _) (Nat.add_assoc _ _ _))⟩))); try go_wp2_with (first | (go_at_call 112; (with_reducible refine (spec_l1Least.calls (rd l0 a1) (rd l0 (ji7)) t124 _ A10.out).mono ?_); rintro e w' ⟨rfl, ⟨nd, rfl⟩⟩; (try first | exact ⟨rfl, _, World.drewN_drewN _ _ _⟩ | exact ⟨rfl, _, Eq.trans (World.drewN_drewN _ _ _) (congrArg (World.drewN _) (Nat.add_assoc _ _ _))⟩); have p125 : 0 ≤ (a1 : Int) := of_decide_eq_true (by with_reducible assumption); have q125 : a1 < (l0.length : Int) := of_decide_eq_true (by with_reducible assumption); obtain ⟨ad125, e125, hx125_0⟩ := Kd.at_int HR0.out a1 p125 q125; obtain rfl : ad122 = ad125 := (by injection e125); replace p125 := eq_true p125; replace q125 := eq_true q125; have p126 : 0 ≤ ((ji7) : Int) := of_decide_eq_true (by with_reducible assumption); have q126 : (ji7) < (l0.length : Int) := of_decide_eq_true (by with_reducible assumption); obtain ⟨ad126, e126, hx126_0⟩ := Kd.at_int HR0.out (ji7) p126 q126; obtain rfl : ad122 = ad126 := (by injection e126); replace p126 := eq_true p126; replace q126 := eq_true q126) | (go_at_call 113; (with_reducible refine (spec_l1Most.calls (rd l0 a1) (rd l0 (ji7)) t127 _ A11.out).mono ?_); rintro e w' ⟨rfl, ⟨nd, rfl⟩⟩; (try first | exact ⟨rfl, _, World.drewN_drewN _ _ _⟩ | exact ⟨rfl, _, Eq.trans (World.drewN_drewN _ _ _) (congrArg (World.drewN _) (Nat.add_assoc _ _ _))⟩); have p128 : 0 ≤ (a2 : Int) := of_decide_eq_true (by with_reducible assumption); have q128 : a2 < (l0.length : Int) := of_decide_eq_true (by with_reducible assumption); obtain ⟨ad128, e128, hx128_0⟩ := Kd.at_int HR0.out a2 p128 q128; obtain rfl : ad122 = ad128 := (by injection e128); replace p128 := eq_true p128; replace q128 := eq_true q128; have p129 : 0 ≤ ((ji14) : Int) := of_decide_eq_true (by with_reducible assumption); have q129 : (ji14) < (l0.length : Int) := of_decide_eq_true (by with_reducible assumption); obtain ⟨ad129, e129, hx129_0⟩ := Kd.at_int HR0.out (ji14) p129 q129; obtain rfl : ad122 = ad129 := (by injection e129); replace p129 := eq_true p129; replace q129 := eq_true q129) | (go_at_call 112; (with_reducible refine (spec_l1Least.calls (rd l0 a2) (rd l0 (ji14)) t130 _ A17.out).mono ?_); rintro e w' ⟨rfl, ⟨nd, rfl⟩⟩; (try first | exact ⟨rfl, _, World.drewN_drewN _ _ _⟩ | exact ⟨rfl, _, Eq.trans (World.drewN_drewN _ _ _) (congrArg (World.drewN _) (Nat.add_assoc _ _ _))⟩); have p131 : 0 ≤ (a2 : Int) := of_decide_eq_true (by with_reducible assumption); have q131 : a2 < (l0.length : Int) := of_decide_eq_true (by with_reducible assumption); obtain ⟨ad131, e131, hx131_0⟩ := Kd.at_int HR0.out a2 p131 q131; obtain rfl : ad122 = ad131 := (by injection e131); replace p131 := eq_true p131; replace q131 := eq_true q131; have p132 : 0 ≤ ((ji14) : Int) := of_decide_eq_true (by with_reducible assumption); have q132 : (ji14) < (l0.length : Int) := of_decide_eq_true (by with_reducible assumption); obtain ⟨ad132, e132, hx132_0⟩ := Kd.at_int HR0.out (ji14) p132 q132; obtain rfl : ad122 = ad132 := (by injection e132); replace p132 := eq_true p132; replace q132 := eq_true q132) | (go_at_call 113; (with_reducible refine (spec_l1Most.calls (rd l0 a2) (rd l0 (ji14)) t133 _ A18.out).mono ?_); rintro e w' ⟨rfl, ⟨nd, rfl⟩⟩; (try first | exact ⟨rfl, _, World.drewN_drewN _ _ _⟩ | exact ⟨rfl, _, Eq.trans (World.drewN_drewN _ _ _) (congrArg (World.drewN _) (Nat.add_assoc _ _ _))⟩))))
                              go_ret
                              exact ⟨by first | rfl | (simp; done) | (simp only [← hji7, ← hji14] <;> (first | rfl | simp)) | (simp [*]; done), by repeat (first | exact Drawn0.refl _ | apply Drawn0.step)⟩
                          · rw [if_neg c22] at H
                            have c22b0 : decide (t130 < t124) = false := decide_eq_false c22
                            clear c22
                            obtain rfl := Option.some.inj H
                            have p122 : 0 ≤ (a1 : Int) := of_decide_eq_true (by with_reducible assumption)
                            have q122 : a1 < (l0.length : Int) := of_decide_eq_true (by with_reducible assumption)
                            obtain ⟨ad122, e122, hx122_0⟩ := Kd.at_int HR0.out a1 p122 q122
                            cases e122
                            replace p122 := eq_true p122
                            replace q122 := eq_true q122
                            have p123 : 0 ≤ ((ji7) : Int) := of_decide_eq_true (by with_reducible assumption)
                            have q123 : (ji7) < (l0.length : Int) := of_decide_eq_true (by with_reducible assumption)
                            obtain ⟨ad123, e123, hx123_0⟩ := Kd.at_int HR0.out (ji7) p123 q123
                            obtain rfl : ad122 = ad123 := (by injection e123)
                            replace p123 := eq_true p123
                            replace q123 := eq_true q123
                            go_enter Try.func96, Try.ntmps96
                            go_wp2_with (first | (go_at_call 112; (with_reducible refine (spec_l1Least.calls (rd l0 a1) (rd l0 (ji7)) t124 _ A10.out).mono ?_); rintro e w' ⟨rfl, ⟨nd, rfl⟩⟩; (try first | exact ⟨rfl, _, World.drewN_drewN _ _ _⟩ | exact ⟨rfl, _, Eq.trans (World.drewN_drewN _ _ _) (congrArg (World.drewN _) (Nat.add_assoc _ _ _))⟩); have p125 : 0 ≤ (a1 : Int) := of_decide_eq_true (by with_reducible assumption); have q125 : a1 < (l0.length : Int) := of_decide_eq_true (by with_reducible assumption); obtain ⟨ad125, e125, hx125_0⟩ := Kd.at_int HR0.out a1 p125 q125; obtain rfl : ad122 = ad125 := (by injection e125); replace p125 := eq_true p125; replace q125 := eq_true q125; have p126 : 0 ≤ ((ji7) : Int) := of_decide_eq_true (by with_reducible assumption); have q126 : (ji7) < (l0.length : Int) := of_decide_eq_true (by with_reducible assumption); obtain ⟨ad126, e126, hx126_0⟩ := Kd.at_int HR0.out (ji7) p126 q126; obtain rfl : ad122 = ad126 := (by injection e126); replace p126 := eq_true p126; replace q126 := eq_true q126) | (go_at_call 113; (with_reducible refine (spec_l1Most.calls (rd l0 a1) (rd l0 (ji7)) t127 _ A11.out).mono ?_); rintro e w' ⟨rfl, ⟨nd, rfl⟩⟩; (try first | exact ⟨rfl, _, World.drewN_drewN _ _ _⟩ | exact ⟨rfl, _, Eq.trans (World.drewN_drewN _ _ _) (congrArg (World.drewN _) (Nat.add_assoc _ _ _))⟩); have p128 : 0 ≤ (a2 : Int) := of_decide_eq_true (by with_reducible assumption); have q128 : a2 < (l0.length : Int) := of_decide_eq_true (by with_reducible assumption); obtain ⟨ad128, e128, hx128_0⟩ := Kd.at_int HR0.out a2 p128 q128; obtain rfl : ad122 = ad128 := (by injection e128); replace p128 := eq_true p128; replace q128 := eq_true q128; have p129 : 0 ≤ ((ji14) : Int) := of_decide_eq_true (by with_reducible assumption); have q129 : (ji14) < (l0.length : Int) := of_decide_eq_true (by with_reducible assumption); obtain ⟨ad129, e129, hx129_0⟩ := Kd.at_int HR0.out (ji14) p129 q129; obtain rfl : ad122 = ad129 := (by injection e129); replace p129 := eq_true p129; replace q129 := eq_true q129) | (go_at_call 112; (with_reducible refine (spec_l1Least.calls (rd l0 a2) (rd l0 (ji14)) t130 _ A17.out).mono ?_); rintro e w' ⟨rfl, ⟨nd, rfl⟩⟩; (try first | exact ⟨rfl, _, World.drewN_drewN _ _ _⟩ | exact ⟨rfl, _, Eq.trans (World.drewN_drewN _ _ _) (congrArg (World.drewN _) (Nat.add_assoc _ _ _))⟩); have p131 : 0 ≤ (a2 : Int) := of_decide_eq_true (by with_reducible assumption); have q131 : a2 < (l0.length : Int) := of_decide_eq_true (by with_reducible assumption); obtain ⟨ad131, e131, hx131_0⟩ := Kd.at_int HR0.out a2 p131 q131; obtain rfl : ad122 = ad131 := (by injection e131); replace p131 := eq_true p131; replace q131 := eq_true q131; have p132 : 0 ≤ ((ji14) : Int) := of_decide_eq_true (by with_reducible assumption); have q132 : (ji14) < (l0.length : Int) := of_decide_eq_true (by with_reducible assumption); obtain ⟨ad132, e132, hx132_0⟩ := Kd.at_int HR0.out (ji14) p132 q132; obtain rfl : ad122 = ad132 := (by injection e132); replace p132 := eq_true p132; replace q132 := eq_true q132) | (go_at_call 113; (with_reducible refine (spec_l1Most.calls (rd l0 a2) (rd l0 (ji14)) t133 _ A18.out).mono ?_); rintro e w' ⟨rfl, ⟨nd, rfl⟩⟩; (try first | exact ⟨rfl, _, World.drewN_drewN _ _ _⟩ | exact ⟨rfl, _, Eq.trans (World.drewN_drewN _ _ _) (congrArg (World.drewN _) (Nat.add_assoc _ _ _))⟩)))
                            repeat (go_quiet (first | (go_at_call 112; (with_reducible refine (spec_l1Least.calls (rd l0 a1) (rd l0 (ji7)) t124 _ A10.out).mono ?_); rintro e w' ⟨rfl, ⟨nd, rfl⟩⟩; (try first | exact ⟨rfl, _, World.drewN_drewN _ _ _⟩ | exact ⟨rfl, _, Eq.trans (World.drewN_drewN _ _ _) (congrArg (World.drewN _) (Nat.add_assoc _ _ _))⟩); have p125 : 0 ≤ (a1 : Int) := of_decide_eq_true (by with_reducible assumption); have q125 : a1 < (l0.length : Int) := of_decide_eq_true (by with_reducible assumption); obtain ⟨ad125, e125, hx125_0⟩ := Kd.at_int HR0.out a1 p125 q125; obtain rfl : ad122 = ad125 := (by injection e125); replace p125 := eq_true p125; replace q125 := eq_true q125; have p126 : 0 ≤ ((ji7) : Int) := of_decide_eq_true (by with_reducible assumption); have q126 : (ji7) < (l0.length : Int) := of_decide_eq_true (by with_reducible assumption); obtain ⟨ad126, e126, hx126_0⟩ := Kd.at_int HR0.out (ji7) p126 q126; obtain rfl : ad122 = ad126 := (by injection e126); replace p126 := eq_true p126; replace q126 := eq_true q126) | (go_at_call 113; (with_reducible refine (spec_l1Most.calls (rd l0 a1) (rd l0 (ji7)) t127 _ A11.out).mono ?_); rintro e w' ⟨rfl, ⟨nd, rfl⟩⟩; (try first | exact ⟨rfl, _, World.drewN_drewN _ _ _⟩ | exact ⟨rfl, _, Eq.trans (World.drewN_drewN _ _ _) (congrArg (World.drewN _) (Nat.add_assoc _ _ _))⟩); have p128 : 0 ≤ (a2 : Int) := of_decide_eq_true (by with_reducible assumption); have q128 : a2 < (l0.length : Int) := of_decide_eq_true (by with_reducible assumption); obtain ⟨ad128, e128, hx128_0⟩ := Kd.at_int HR0.out a2 p128 q128; obtain rfl : ad122 = ad128 := (by injection e128); replace p128 := eq_true p128; replace q128 := eq_true q128; have p129 : 0 ≤ ((ji14) : Int) := of_decide_eq_true (by with_reducible assumption); have q129 : (ji14) < (l0.length : Int) := of_decide_eq_true (by with_reducible assumption); obtain ⟨ad129, e129, hx129_0⟩ := Kd.at_int HR0.out (ji14) p129 q129; obtain rfl : ad122 = ad129 := (by injection e129); replace p129 := eq_true p129; replace q129 := eq_true q129) | (go_at_call 112; (with_reducible refine (spec_l1Least.calls (rd l0 a2) (rd l0 (ji14)) t130 _ A17.out).mono ?_); rintro e w' ⟨rfl, ⟨nd, rfl⟩⟩; (try first | exact ⟨rfl, _, World.drewN_drewN _ _ _⟩ | exact ⟨rfl, _, Eq.trans (World.drewN_drewN _ _ _) (congrArg (World.drewN _) (Nat.add_assoc _ _ _))⟩); have p131 : 0 ≤ (a2 : Int) := of_decide_eq_true (by with_reducible assumption); have q131 : a2 < (l0.length : Int) := of_decide_eq_true (by with_reducible assumption); obtain ⟨ad131, e131, hx131_0⟩ := Kd.at_int HR0.out a2 p131 q131; obtain rfl : ad122 = ad131 := (by injection e131); replace p131 := eq_true p131; replace q131 := eq_true q131; have p132 : 0 ≤ ((ji14) : Int) := of_decide_eq_true (by with_reducible assumption); have q132 : (ji14) < (l0.length : Int) := of_decide_eq_true (by with_reducible assumption); obtain ⟨ad132, e132, hx132_0⟩ := Kd.at_int HR0.out (ji14) p132 q132; obtain rfl : ad122 = ad132 := (by injection e132); replace p132 := eq_true p132; replace q132 := eq_true q132) | (go_at_call 113; (with_reducible refine (spec_l1Most.calls (rd l0 a2) (rd l0 (ji14)) t133 _ A18.out).mono ?_); rintro e w' ⟨rfl, ⟨nd, rfl⟩⟩; (try first | exact ⟨rfl, _, World.drewN_drewN _ _ _⟩ | exact ⟨rfl, _, Eq.trans (World.drewN_drewN _ _ _) (congrArg (World.drewN _) (Nat.add_assoc _ _ _))⟩))); try go_wp2_with (first | (go_at_call 112; (with_reducible refine (spec_l1Least.calls (rd l0 a1) (rd l0 (ji7)) t124 _ A10.out).mono ?_); rintro e w' ⟨rfl, ⟨nd, rfl⟩⟩; (try first | exact ⟨rfl, _, World.drewN_drewN _ _ _⟩ | exact ⟨rfl, _, Eq.trans (World.drewN_drewN _ _ _) (congrArg (World.drewN _) (Nat.add_assoc _ _ _))⟩); have p125 : 0 ≤ (a1 : Int) := of_decide_eq_true (by with_reducible assumption); have q125 : a1 < (l0.length : Int) := of_decide_eq_true (by with_reducible assumption); obtain ⟨ad125, e125, hx125_0⟩ := Kd.at_int HR0.out a1 p125 q125; obtain rfl : ad122 = ad125 := (by injection e125); replace p125 := eq_true p125; replace q125 := eq_true q125; have p126 : 0 ≤ ((ji7) : Int) := of_decide_eq_true (by with_reducible assumption); have q126 : (ji7) < (l0.length : Int) := of_decide_eq_true (by with_reducible assumption); obtain ⟨ad126, e126, hx126_0⟩ := Kd.at_int HR0.out (ji7) p126 q126; obtain rfl : ad122 = ad126 := (by injection e126); replace p126 := eq_true p126; replace q126 := eq_true q126) | (go_at_call 113; (with_reducible refine (spec_l1Most.calls (rd l0 a1) (rd l0 (ji7)) t127 _ A11.out).mono ?_); rintro e w' ⟨rfl, ⟨nd, rfl⟩⟩; (try first | exact ⟨rfl, _, World.drewN_drewN _ _ _⟩ | exact ⟨rfl, _, Eq.trans (World.drewN_drewN _ _ _) (congrArg (World.drewN _) (Nat.add_assoc _ _ _))⟩); have p128 : 0 ≤ (a2 : Int) := of_decide_eq_true (by with_reducible assumption); have q128 : a2 < (l0.length : Int) := of_decide_eq_true (by with_reducible assumption); obtain ⟨ad128, e128, hx128_0⟩ := Kd.at_int HR0.out a2 p128 q128; obtain rfl : ad122 = ad128 := (by injection e128); replace p128 := eq_true p128; replace q128 := eq_true q128; have p129 : 0 ≤ ((ji14) : Int) := of_decide_eq_true (by with_reducible assumption); have q129 : (ji14) < (l0.length : Int) := of_decide_eq_true (by with_reducible assumption); obtain ⟨ad129, e129, hx129_0⟩ := Kd.at_int HR0.out (ji14) p129 q129; obtain rfl : ad122 = ad129 := (by injection e129); replace p129 := eq_true p129; replace q129 := eq_true q129) | (go_at_call 112; (with_reducible refine (spec_l1Least.calls (rd l0 a2) (rd l0 (ji14)) t130 _ A17.out).mono ?_); rintro e w' ⟨rfl, ⟨nd, rfl⟩⟩; (try first | exact ⟨rfl, _, World.drewN_drewN _ _ _⟩ | exact ⟨rfl, _, Eq.trans (World.drewN_drewN _ _ _) (congrArg (World.drewN _) (Nat.add_assoc _ _ _))⟩); have p131 : 0 ≤ (a2 : Int) := of_decide_eq_true (by with_reducible assumption); have q131 : a2 < (l0.length : Int) := of_decide_eq_true (by with_reducible assumption); obtain ⟨ad131, e131, hx131_0⟩ := Kd.at_int HR0.out a2 p131 q131; obtain rfl : ad122 = ad131 := (by injection e131); replace p131 := eq_true p131; replace q131 := eq_true q131; have p132 : 0 ≤ ((ji14) : Int) := of_decide_eq_true (by with_reducible assumption); have q132 : (ji14) < (l0.length : Int) := of_decide_eq_true (by with_reducible assumption); obtain ⟨ad132, e132, hx132_0⟩ := Kd.at_int HR0.out (ji14) p132 q132; obtain rfl : ad122 = ad132 := (by injection e132); replace p132 := eq_true p132; replace q132 := eq_true q132) | (go_at_call 113; (with_reducible refine (spec_l1Most.calls (rd l0 a2) (rd l0 (ji14)) t133 _ A18.out).mono ?_); rintro e w' ⟨rfl, ⟨nd, rfl⟩⟩; (try first | exact ⟨rfl, _, World.drewN_drewN _ _ _⟩ | exact ⟨rfl, _, Eq.trans (World.drewN_drewN _ _ _) (congrArg (World.drewN _) (Nat.add_assoc _ _ _))⟩))))
                            go_ret
                            exact ⟨by first | rfl | (simp; done) | (simp only [← hji7, ← hji14] <;> (first | rfl | simp)) | (simp [*]; done), by repeat (first | exact Drawn0.refl _ | apply Drawn0.step)⟩
                      · rw [if_neg c20] at H
                        have c20b0 : decide (t130 < t127) = false := decide_eq_false c20
                        clear c20
                        by_cases c24 : t130 < t124
                        · rw [if_pos c24] at H
                          have c24b0 : decide (t130 < t124) = true := decide_eq_true c24
                          clear c24
                          by_cases c25 : t124 < t133
                          · rw [if_pos c25] at H
                            have c25b0 : decide (t124 < t133) = true := decide_eq_true c25
                            clear c25
                            obtain rfl := Option.some.inj H
                            have p122 : 0 ≤ (a1 : Int) := of_decide_eq_true (by with_reducible assumption)
                            have q122 : a1 < (l0.length : Int) := of_decide_eq_true (by with_reducible assumption)
                            obtain ⟨ad122, e122, hx122_0⟩ := Kd.at_int HR0.out a1 p122 q122
                            cases e122
                            replace p122 := eq_true p122
                            replace q122 := eq_true q122
                            have p123 : 0 ≤ ((ji7) : Int) := of_decide_eq_true (by with_reducible assumption)
                            have q123 : (ji7) < (l0.length : Int) := of_decide_eq_true (by with_reducible assumption)
                            obtain ⟨ad123, e123, hx123_0⟩ := Kd.at_int HR0.out (ji7) p123 q123
                            obtain rfl : ad122 = ad123 := (by injection e123)
                            replace p123 := eq_true p123
                            replace q123 := eq_true q123
                            go_enter Try.func96, Try.ntmps96
                            go_wp2_with (first | (go_at_call 112; (with_reducible refine (spec_l1Least.calls (rd l0 a1) (rd l0 (ji7)) t124 _ A10.out).mono ?_); rintro e w' ⟨rfl, ⟨nd, rfl⟩⟩; (try first | exact ⟨rfl, _, World.drewN_drewN _ _ _⟩ | exact ⟨rfl, _, Eq.trans (World.drewN_drewN _ _ _) (congrArg (World.drewN _) (Nat.add_assoc _ _ _))⟩); have p125 : 0 ≤ (a1 : Int) := of_decide_eq_true (by with_reducible assumption); have q125 : a1 < (l0.length : Int) := of_decide_eq_true (by with_reducible assumption); obtain ⟨ad125, e125, hx125_0⟩ := Kd.at_int HR0.out a1 p125 q125; obtain rfl : ad122 = ad125 := (by injection e125); replace p125 := eq_true p125; replace q125 := eq_true q125; have p126 : 0 ≤ ((ji7) : Int) := of_decide_eq_true (by with_reducible assumption); have q126 : (ji7) < (l0.length : Int) := of_decide_eq_true (by with_reducible assumption); obtain ⟨ad126, e126, hx126_0⟩ := Kd.at_int HR0.out (ji7) p126 q126; obtain rfl : ad122 = ad126 := (by injection e126); replace p126 := eq_true p126; replace q126 := eq_true q126) | (go_at_call 113; (with_reducible refine (spec_l1Most.calls (rd l0 a1) (rd l0 (ji7)) t127 _ A11.out).mono ?_); rintro e w' ⟨rfl, ⟨nd, rfl⟩⟩; (try first | exact ⟨rfl, _, World.drewN_drewN _ _ _⟩ | exact ⟨rfl, _, Eq.trans (World.drewN_drewN _ _ _) (congrArg (World.drewN _) (Nat.add_assoc _ _ _))⟩); have p128 : 0 ≤ (a2 : Int) := of_decide_eq_true (by with_reducible assumption); have q128 : a2 < (l0.length : Int) := of_decide_eq_true (by with_reducible assumption); obtain ⟨ad128, e128, hx128_0⟩ := Kd.at_int HR0.out a2 p128 q128; obtain rfl : ad122 = ad128 := (by injection e128); replace p128 := eq_true p128; replace q128 := eq_true q128; have p129 : 0 ≤ ((ji14) : Int) := of_decide_eq_true (by with_reducible assumption); have q129 : (ji14) < (l0.length : Int) := of_decide_eq_true (by with_reducible assumption); obtain ⟨ad129, e129, hx129_0⟩ := Kd.at_int HR0.out (ji14) p129 q129; obtain rfl : ad122 = ad129 := (by injection e129); replace p129 := eq_true p129; replace q129 := eq_true q129) | (go_at_call 112; (with_reducible refine (spec_l1Least.calls (rd l0 a2) (rd l0 (ji14)) t130 _ A17.out).mono ?_); rintro e w' ⟨rfl, ⟨nd, rfl⟩⟩; (try first | exact ⟨rfl, _, World.drewN_drewN _ _ _⟩ | exact ⟨rfl, _, Eq.trans (World.drewN_drewN _ _ _) (congrArg (World.drewN _) (Nat.add_assoc _ _ _))⟩); have p131 : 0 ≤ (a2 : Int) := of_decide_eq_true (by with_reducible assumption); have q131 : a2 < (l0.length : Int) := of_decide_eq_true (by with_reducible assumption); obtain ⟨ad131, e131, hx131_0⟩ := Kd.at_int HR0.out a2 p131 q131; obtain rfl : ad122 = ad131 := (by injection e131); replace p131 := eq_true p131; replace q131 := eq_true q131; have p132 : 0 ≤ ((ji14) : Int) := of_decide_eq_true (by with_reducible assumption); have q132 : (ji14) < (l0.length : Int) := of_decide_eq_true (by with_reducible assumption); obtain ⟨ad132, e132, hx132_0⟩ := Kd.at_int HR0.out (ji14) p132 q132; obtain rfl : ad122 = ad132 := (by injection e132); replace p132 := eq_true p132; replace q132 := eq_true q132) | (go_at_call 113; (with_reducible refine (spec_l1Most.calls (rd l0 a2) (rd l0 (ji14)) t133 _ A18.out).mono ?_); rintro e w' ⟨rfl, ⟨nd, rfl⟩⟩; (try first | exact ⟨rfl, _, World.drewN_drewN _ _ _⟩ | exact ⟨rfl, _, Eq.trans (World.drewN_drewN _ _ _) (congrArg (World.drewN _) (Nat.add_assoc _ _ _))⟩)))
                            repeat (go_quiet (first | (go_at_call 112; (with_reducible refine (spec_l1Least.calls (rd l0 a1) (rd l0 (ji7)) t124 _ A10.out).mono ?_); rintro e w' ⟨rfl, ⟨nd, rfl⟩⟩; (try first | exact ⟨rfl, _, World.drewN_drewN _ _ _⟩ | exact ⟨rfl, _, Eq.trans (World.drewN_drewN _ _ _) (congrArg (World.drewN _) (Nat.add_assoc _ _ _))⟩); have p125 : 0 ≤ (a1 : Int) := of_decide_eq_true (by with_reducible assumption); have q125 : a1 < (l0.length : Int) := of_decide_eq_true (by with_reducible assumption); obtain ⟨ad125, e125, hx125_0⟩ := Kd.at_int HR0.out a1 p125 q125; obtain rfl : ad122 = ad125 := (by injection e125); replace p125 := eq_true p125; replace q125 := eq_true q125; have p126 : 0 ≤ ((ji7) : Int) := of_decide_eq_true (by with_reducible assumption); have q126 : (ji7) < (l0.length : Int) := of_decide_eq_true (by with_reducible assumption); obtain ⟨ad126, e126, hx126_0⟩ := Kd.at_int HR0.out (ji7) p126 q126; obtain rfl : ad122 = ad126 := (by injection e126); replace p126 := eq_true p126; replace q126 := eq_true q126) | (go_at_call 113; (with_reducible refine (spec_l1Most.calls (rd l0 a1) (rd l0 (ji7)) t127 _ A11.out).mono ?_); rintro e w' ⟨rfl, ⟨nd, rfl⟩⟩; (try first | exact ⟨rfl, _, World.drewN_drewN _ _ _⟩ | exact ⟨rfl, _, Eq.trans (World.drewN_drewN _ _ _) (congrArg (World.drewN _) (Nat.add_assoc _ _ _))⟩); have p128 : 0 ≤ (a2 : Int) := of_decide_eq_true (by with_reducible assumption); have q128 : a2 < (l0.length : Int) := of_decide_eq_true (by with_reducible assumption); obtain ⟨ad128, e128, hx128_0⟩ := Kd.at_int HR0.out a2 p128 q128; obtain rfl : ad122 = ad128 := (by injection e128); replace p128 := eq_true p128; replace q128 := eq_true q128; have p129 : 0 ≤ ((ji14) : Int) := of_decide_eq_true (by with_reducible assumption); have q129 : (ji14) < (l0.length : Int) := of_decide_eq_true (by with_reducible assumption); obtain ⟨ad129, e129, hx129_0⟩ := Kd.at_int HR0.out (ji14) p129 q129; obtain rfl : ad122 = ad129 := (by injection e129); replace p129 := eq_true p129; replace q129 := eq_true q129) | (go_at_call 112; (with_reducible refine (spec_l1Least.calls (rd l0 a2) (rd l0 (ji14)) t130 _ A17.out).mono ?_); rintro e w' ⟨rfl, ⟨nd, rfl⟩⟩; (try first | exact ⟨rfl, _, World.drewN_drewN _ _ _⟩ | exact ⟨rfl, _, Eq.trans (World.drewN_drewN _ _ _) (congrArg (World.drewN _) (Nat.add_assoc _ _ _))⟩); have p131 : 0 ≤ (a2 : Int) := of_decide_eq_true (by with_reducible assumption); have q131 : a2 < (l0.length : Int) := of_decide_eq_true (by with_reducible assumption); obtain ⟨ad131, e131, hx131_0⟩ := Kd.at_int HR0.out a2 p131 q131; obtain rfl : ad122 = ad131 := (by injection e131); replace p131 := eq_true p131; replace q131 := eq_true q131; have p132 : 0 ≤ ((ji14) : Int) := of_decide_eq_true (by with_reducible assumption); have q132 : (ji14) < (l0.length : Int) := of_decide_eq_true (by with_reducible assumption); obtain ⟨ad132, e132, hx132_0⟩ := Kd.at_int HR0.out (ji14) p132 q132; obtain rfl : ad122 = ad132 := (by injection e132); replace p132 := eq_true p132; replace q132 := eq_true q132) | (go_at_call 113; (with_reducible refine (spec_l1Most.calls (rd l0 a2) (rd l0 (ji14)) t133 _ A18.out).mono ?_); rintro e w' ⟨rfl, ⟨nd, rfl⟩⟩; (try first | exact ⟨rfl, _, World.drewN_drewN _ _ _⟩ | exact ⟨rfl, _, Eq.trans (World.drewN_drewN _ _ _) (congrArg (World.drewN _) (Nat.add_assoc _ _ _))⟩))); try go_wp2_with (first | (go_at_call 112; (with_reducible refine (spec_l1Least.calls (rd l0 a1) (rd l0 (ji7)) t124 _ A10.out).mono ?_); rintro e w' ⟨rfl, ⟨nd, rfl⟩⟩; (try first | exact ⟨rfl, _, World.drewN_drewN _ _ _⟩ | exact ⟨rfl, _, Eq.trans (World.drewN_drewN _ _ _) (congrArg (World.drewN _) (Nat.add_assoc _ _ _))⟩); have p125 : 0 ≤ (a1 : Int) := of_decide_eq_true (by with_reducible assumption); have q125 : a1 < (l0.length : Int) := of_decide_eq_true (by with_reducible assumption); obtain ⟨ad125, e125, hx125_0⟩ := Kd.at_int HR0.out a1 p125 q125; obtain rfl : ad122 = ad125 := (by injection e125); replace p125 := eq_true p125; replace q125 := eq_true q125; have p126 : 0 ≤ ((ji7) : Int) := of_decide_eq_true (by with_reducible assumption); have q126 : (ji7) < (l0.length : Int) := of_decide_eq_true (by with_reducible assumption); obtain ⟨ad126, e126, hx126_0⟩ := Kd.at_int HR0.out (ji7) p126 q126; obtain rfl : ad122 = ad126 := (by injection e126); replace p126 := eq_true p126; replace q126 := eq_true q126) | (go_at_call 113; (with_reducible refine (spec_l1Most.calls (rd l0 a1) (rd l0 (ji7)) t127 _ A11.out).mono ?_); rintro e w' ⟨rfl, ⟨nd, rfl⟩⟩; (try first | exact ⟨rfl, _, World.drewN_drewN _ _ _⟩ | exact ⟨rfl, _, Eq.trans (World.drewN_drewN _ _ _) (congrArg (World.drewN _) (Nat.add_assoc _ _ _))⟩); have p128 : 0 ≤ (a2 : Int) := of_decide_eq_true (by with_reducible assumption); have q128 : a2 < (l0.length : Int) := of_decide_eq_true (by with_reducible assumption); obtain ⟨ad128, e128, hx128_0⟩ := Kd.at_int HR0.out a2 p128 q128; obtain rfl : ad122 = ad128 := (by injection e128); replace p128 := eq_true p128; replace q128 := eq_true q128; have p129 : 0 ≤ ((ji14) : Int) := of_decide_eq_true (by with_reducible assumption); have q129 : (ji14) < (l0.length : Int) := of_decide_eq_true (by with_reducible assumption); obtain ⟨ad129, e129, hx129_0⟩ := Kd.at_int HR0.out (ji14) p129 q129; obtain rfl : ad122 = ad129 := (by injection e129); replace p129 := eq_true p129; replace q129 := eq_true q129) | (go_at_call 112; (with_reducible refine (spec_l1Least.calls (rd l0 a2) (rd l0 (ji14)) t130 _ A17.out).mono ?_); rintro e w' ⟨rfl, ⟨nd, rfl⟩⟩; (try first | exact ⟨rfl, _, World.drewN_drewN _ _ _⟩ | exact ⟨rfl, _, Eq.trans (World.drewN_drewN _ _ _) (congrArg (World.drewN _) (Nat.add_assoc _ _ _))⟩); have p131 : 0 ≤ (a2 : Int) := of_decide_eq_true (by with_reducible assumption); have q131 : a2 < (l0.length : Int) := of_decide_eq_true (by with_reducible assumption); obtain ⟨ad131, e131, hx131_0⟩ := Kd.at_int HR0.out a2 p131 q131; obtain rfl : ad122 = ad131 := (by injection e131); replace p131 := eq_true p131; replace q131 := eq_true q131; have p132 : 0 ≤ ((ji14) : Int) := of_decide_eq_true (by with_reducible assumption); have q132 : (ji14) < (l0.length : Int) := of_decide_eq_true (by with_reducible assumption); obtain ⟨ad132, e132, hx132_0⟩ := Kd.at_int HR0.out (ji14) p132 q132; obtain rfl : ad122 = ad132 := (by injection e132); replace p132 := eq_true p132; replace q132 := eq_true q132) | (go_at_call 113; (with_reducible refine (spec_l1Most.calls (rd l0 a2) (rd l0 (ji14)) t133 _ A18.out).mono ?_); rintro e w' ⟨rfl, ⟨nd, rfl⟩⟩; (try first | exact ⟨rfl, _, World.drewN_drewN _ _ _⟩ | exact ⟨rfl, _, Eq.trans (World.drewN_drewN _ _ _) (congrArg (World.drewN _) (Nat.add_assoc _ _ _))⟩))))
                            go_ret
                            exact ⟨by first | rfl | (simp; done) | (simp only [← hji7, ← hji14] <;> (first | rfl | simp)) | (simp [*]; done), by repeat (first | exact Drawn0.refl _ | apply Drawn0.step)⟩
                          · rw [if_neg c25] at H
                            have c25b0 : decide (t124 < t133) = false := decide_eq_false c25
                            clear c25
                            obtain rfl := Option.some.inj H
                            have p122 : 0 ≤ (a1 : Int) := of_decide_eq_true (by with_reducible assumption)
                            have q122 : a1 < (l0.length : Int) := of_decide_eq_true (by with_reducible assumption)
                            obtain ⟨ad122, e122, hx122_0⟩ := Kd.at_int HR0.out a1 p122 q122
                            cases e122
                            replace p122 := eq_true p122
                            replace q122 := eq_true q122
                            have p123 : 0 ≤ ((ji7) : Int) := of_decide_eq_true (by with_reducible assumption)
                            have q123 : (ji7) < (l0.length : Int) := of_decide_eq_true (by with_reducible assumption)
                            obtain ⟨ad123, e123, hx123_0⟩ := Kd.at_int HR0.out (ji7) p123 q123
                            obtain rfl : ad122 = ad123 := (by injection e123)
                            replace p123 := eq_true p123
                            replace q123 := eq_true q123
                            go_enter Try.func96, Try.ntmps96
                            go_wp2_with (first | (go_at_call 112; (with_reducible refine (spec_l1Least.calls (rd l0 a1) (rd l0 (ji7)) t124 _ A10.out).mono ?_); rintro e w' ⟨rfl, ⟨nd, rfl⟩⟩; (try first | exact ⟨rfl, _, World.drewN_drewN _ _ _⟩ | exact ⟨rfl, _, Eq.trans (World.drewN_drewN _ _ _) (congrArg (World.drewN _) (Nat.add_assoc _ _ _))⟩); have p125 : 0 ≤ (a1 : Int) := of_decide_eq_true (by with_reducible assumption); have q125 : a1 < (l0.length : Int) := of_decide_eq_true (by with_reducible assumption); obtain ⟨ad125, e125, hx125_0⟩ := Kd.at_int HR0.out a1 p125 q125; obtain rfl : ad122 = ad125 := (by injection e125); replace p125 := eq_true p125; replace q125 := eq_true q125; have p126 : 0 ≤ ((ji7) : Int) := of_decide_eq_true (by with_reducible assumption); have q126 : (ji7) < (l0.length : Int) := of_decide_eq_true (by with_reducible assumption); obtain ⟨ad126, e126, hx126_0⟩ := Kd.at_int HR0.out (ji7) p126 q126; obtain rfl : ad122 = ad126 := (by injection e126); replace p126 := eq_true p126; replace q126 := eq_true q126) | (go_at_call 113; (with_reducible refine (spec_l1Most.calls (rd l0 a1) (rd l0 (ji7)) t127 _ A11.out).mono ?_); rintro e w' ⟨rfl, ⟨nd, rfl⟩⟩; (try first | exact ⟨rfl, _, World.drewN_drewN _ _ _⟩ | exact ⟨rfl, _, Eq.trans (World.drewN_drewN _ _ _) (congrArg (World.drewN _) (Nat.add_assoc _ _ _))⟩); have p128 : 0 ≤ (a2 : Int) := of_decide_eq_true (by with_reducible assumption); have q128 : a2 < (l0.length : Int) := of_decide_eq_true (by with_reducible assumption); obtain ⟨ad128, e128, hx128_0⟩ := Kd.at_int HR0.out a2 p128 q128; obtain rfl : ad122 = ad128 := (by injection e128); replace p128 := eq_true p128; replace q128 := eq_true q128; have p129 : 0 ≤ ((ji14) : Int) := of_decide_eq_true (by with_reducible assumption); have q129 : (ji14) < (l0.length : Int) := of_decide_eq_true (by with_reducible assumption); obtain ⟨ad129, e129, hx129_0⟩ := Kd.at_int HR0.out (ji14) p129 q129; obtain rfl : ad122 = ad129 := (by injection e129); replace p129 := eq_true p129; replace q129 := eq_true q129) | (go_at_call 112; (with_reducible refine (spec_l1Least.calls (rd l0 a2) (rd l0 (ji14)) t130 _ A17.out).mono ?_); rintro e w' ⟨rfl, ⟨nd, rfl⟩⟩; (try first | exact ⟨rfl, _, World.drewN_drewN _ _ _⟩ | exact ⟨rfl, _, Eq.trans (World.drewN_drewN _ _ _) (congrArg (World.drewN _) (Nat.add_assoc _ _ _))⟩); have p131 : 0 ≤ (a2 : Int) := of_decide_eq_true (by with_reducible assumption); have q131 : a2 < (l0.length : Int) := of_decide_eq_true (by with_reducible assumption); obtain ⟨ad131, e131, hx131_0⟩ := Kd.at_int HR0.out a2 p131 q131; obtain rfl : ad122 = ad131 := (by injection e131); replace p131 := eq_true p131; replace q131 := eq_true q131; have p132 : 0 ≤ ((ji14) : Int) := of_decide_eq_true (by with_reducible assumption); have q132 : (ji14) < (l0.length : Int) := of_decide_eq_true (by with_reducible assumption); obtain ⟨ad132, e132, hx132_0⟩ := Kd.at_int HR0.out (ji14) p132 q132; obtain rfl : ad122 = ad132 := (by injection e132); replace p132 := eq_true p132; replace q132 := eq_true q132) | (go_at_call 113; (with_reducible refine (spec_l1Most.calls (rd l0 a2) (rd l0 (ji14)) t133 _ A18.out).mono ?_); rintro e w' ⟨rfl, ⟨nd, rfl⟩⟩; (try first | exact ⟨rfl, _, World.drewN_drewN _ _ _⟩ | exact ⟨rfl, _, Eq.trans (World.drewN_drewN _ _ _) (congrArg (World.drewN _) (Nat.add_assoc _ _ _))⟩)))
                            repeat (go_quiet (first | (go_at_call 112; (with_reducible refine (spec_l1Least.calls (rd l0 a1) (rd l0 (ji7)) t124 _ A10.out).mono ?_); rintro e w' ⟨rfl, ⟨nd, rfl⟩⟩; (try first | exact ⟨rfl, _, World.drewN_drewN _ _ _⟩ | exact ⟨rfl, _, Eq.trans (World.drewN_drewN _ _ _) (congrArg (World.drewN _) (Nat.add_assoc _ _ _))⟩); have p125 : 0 ≤ (a1 : Int) := of_decide_eq_true (by with_reducible assumption); have q125 : a1 < (l0.length : Int) := of_decide_eq_true (by with_reducible assumption); obtain ⟨ad125, e125, hx125_0⟩ := Kd.at_int HR0.out a1 p125 q125; obtain rfl : ad122 = ad125 := (by injection e125); replace p125 := eq_true p125; replace q125 := eq_true q125; have p126 : 0 ≤ ((ji7) : Int) := of_decide_eq_true (by with_reducible assumption); have q126 : (ji7) < (l0.length : Int) := of_decide_eq_true (by with_reducible assumption); obtain ⟨ad126, e126, hx126_0⟩ := Kd.at_int HR0.out (ji7) p126 q126; obtain rfl : ad122 = ad126 := (by injection e126); replace p126 := eq_true p126; replace q126 := eq_true q126) | (go_at_call 113; (with_reducible refine (spec_l1Most.calls (rd l0 a1) (rd l0 (ji7)) t127 _ A11.out).mono ?_); rintro e w' ⟨rfl, ⟨nd, rfl⟩⟩; (try first | exact ⟨rfl, _, World.drewN_drewN _ _ _⟩ | exact ⟨rfl, _, Eq.trans (World.drewN_drewN _ _ _) (congrArg (World.drewN _) (Nat.add_assoc _ _ _))⟩); have p128 : 0 ≤ (a2 : Int) := of_decide_eq_true (by with_reducible assumption); have q128 : a2 < (l0.length : Int) := of_decide_eq_true (by with_reducible assumption); obtain ⟨ad128, e128, hx128_0⟩ := Kd.at_int HR0.out a2 p128 q128; obtain rfl : ad122 = ad128 := (by injection e128); replace p128 := eq_true p128; replace q128 := eq_true q128; have p129 : 0 ≤ ((ji14) : Int) := of_decide_eq_true (by with_reducible assumption); have q129 : (ji14) < (l0.length : Int) := of_decide_eq_true (by with_reducible assumption); obtain ⟨ad129, e129, hx129_0⟩ := Kd.at_int HR0.out (ji14) p129 q129; obtain rfl : ad122 = ad129 := (by injection e129); replace p129 := eq_true p129; replace q129 := eq_true q129) | (go_at_call 112; (with_reducible refine (spec_l1Least.calls (rd l0 a2) (rd l0 (ji14)) t130 _ A17.out).mono ?_); rintro e w' ⟨rfl, ⟨nd, rfl⟩⟩; (try first | exact ⟨rfl, _, World.drewN_drewN _ _ _⟩ | exact ⟨rfl, _, Eq.trans (World.drewN_drewN _ _ _) (congrArg (World.drewN _) (Nat.add_assoc _ _ _))⟩); have p131 : 0 ≤ (a2 : Int) := of_decide_eq_true (by with_reducible assumption); have q131 : a2 < (l0.length : Int) := of_decide_eq_true (by with_reducible assumption); obtain ⟨ad131, e131, hx131_0⟩ := Kd.at_int HR0.out a2 p131 q131; obtain rfl : ad122 = ad131 := (by injection e131); replace p131 := eq_true p131; replace q131 := eq_true q131; have p132 : 0 ≤ ((ji14) : Int) := of_decide_eq_true (by with_reducible assumption); have q132 : (ji14) < (l0.length : Int) := of_decide_eq_true (by with_reducible assumption); obtain ⟨ad132, e132, hx132_0⟩ := Kd.at_int HR0.out (ji14) p132 q132; obtain rfl : ad122 = ad132 := (by injection e132); replace p132 := eq_true p132; replace q132 := eq_true q132) | (go_at_call 113; (with_reducible refine (spec_l1Most.calls (rd l0 a2) (rd l0 (ji14)) t133 _ A18.out).mono ?_); rintro e w' ⟨rfl, ⟨nd, rfl⟩⟩; (try first | exact ⟨rfl, _, World.drewN_drewN _ _ _⟩ | exact ⟨rfl, _, Eq.trans (World.drewN_drewN _ _ _) (congrArg (World.drewN _) (Nat.add_assoc _ _ _))⟩))); try go_wp2_with (first | (go_at_call 112; (with_reducible refine (spec_l1Least.calls (rd l0 a1) (rd l0 (ji7)) t124 _ A10.out).mono ?_); rintro e w' ⟨rfl, ⟨nd, rfl⟩⟩; (try first | exact ⟨rfl, _, World.drewN_drewN _ _ _⟩ | exact ⟨rfl, _, Eq.trans (World.drewN_drewN _ _ _) (congrArg (World.drewN _) (Nat.add_assoc _ _ _))⟩); have p125 : 0 ≤ (a1 : Int) := of_decide_eq_true (by with_reducible assumption); have q125 : a1 < (l0.length : Int) := of_decide_eq_true (by with_reducible assumption); obtain ⟨ad125, e125, hx125_0⟩ := Kd.at_int HR0.out a1 p125 q125; obtain rfl : ad122 = ad125 := (by injection e125); replace p125 := eq_true p125; replace q125 := eq_true q125; have p126 : 0 ≤ ((ji7) : Int) := of_decide_eq_true (by with_reducible assumption); have q126 : (ji7) < (l0.length : Int) := of_decide_eq_true (by with_reducible assumption); obtain ⟨ad126, e126, hx126_0⟩ := Kd.at_int HR0.out (ji7) p126 q126; obtain rfl : ad122 = ad126 := (by injection e126); replace p126 := eq_true p126; replace q126 := eq_true q126) | (go_at_call 113; (with_reducible refine (spec_l1Most.calls (rd l0 a1) (rd l0 (ji7)) t127 _ A11.out).mono ?_); rintro e w' ⟨rfl, ⟨nd, rfl⟩⟩; (try first | exact ⟨rfl, _, World.drewN_drewN _ _ _⟩ | exact ⟨rfl, _, Eq.trans (World.drewN_drewN _ _ _) (congrArg (World.drewN _) (Nat.add_assoc _ _ _))⟩); have p128 : 0 ≤ (a2 : Int) := of_decide_eq_true (by with_reducible assumption); have q128 : a2 < (l0.length : Int) := of_decide_eq_true (by with_reducible assumption); obtain ⟨ad128, e128, hx128_0⟩ := Kd.at_int HR0.out a2 p128 q128; obtain rfl : ad122 = ad128 := (by injection e128); replace p128 := eq_true p128; replace q128 := eq_true q128; have p129 : 0 ≤ ((ji14) : Int) := of_decide_eq_true (by with_reducible assumption); have q129 : (ji14) < (l0.length : Int) := of_decide_eq_true (by with_reducible assumption); obtain ⟨ad129, e129, hx129_0⟩ := Kd.at_int HR0.out (ji14) p129 q129; obtain rfl : ad122 = ad129 := (by injection e129); replace p129 := eq_true p129; replace q129 := eq_true q129) | (go_at_call 112; (with_reducible refine (spec_l1Least.calls (rd l0 a2) (rd l0 (ji14)) t130 _ A17.out).mono ?_); rintro e w' ⟨rfl, ⟨nd, rfl⟩⟩; (try first | exact ⟨rfl, _, World.drewN_drewN _ _ _⟩ | exact ⟨rfl, _, Eq.trans (World.drewN_drewN _ _ _) (congrArg (World.drewN _) (Nat.add_assoc _ _ _))⟩); have p131 : 0 ≤ (a2 : Int) := of_decide_eq_true (by with_reducible assumption); have q131 : a2 < (l0.length : Int) := of_decide_eq_true (by with_reducible assumption); obtain ⟨ad131, e131, hx131_0⟩ := Kd.at_int HR0.out a2 p131 q131; obtain rfl : ad122 = ad131 := (by injection e131); replace p131 := eq_true p131; replace q131 := eq_true q131; have p132 : 0 ≤ ((ji14) : Int) := of_decide_eq_true (by with_reducible assumption); have q132 : (ji14) < (l0.length : Int) := of_decide_eq_true (by with_reducible assumption); obtain ⟨ad132, e132, hx132_0⟩ := Kd.at_int HR0.out (ji14) p132 q132; obtain rfl : ad122 = ad132 := (by injection e132); replace p132 := eq_true p132; replace q132 := eq_true q132) | (go_at_call 113; (with_reducible refine (spec_l1Most.calls (rd l0 a2) (rd l0 (ji14)) t133 _ A18.out).mono ?_); rintro e w' ⟨rfl, ⟨nd, rfl⟩⟩; (try first | exact ⟨rfl, _, World.drewN_drewN _ _ _⟩ | exact ⟨rfl, _, Eq.trans (World.drewN_drewN _ _ _) (congrArg (World.drewN _) (Nat.add_assoc _ _ _))⟩))))
                            go_ret
                            exact ⟨by first | rfl | (simp; done) | (simp only [← hji7, ← hji14] <;> (first | rfl | simp)) | (simp [*]; done), by repeat (first | exact Drawn0.refl _ | apply Drawn0.step)⟩
                        · rw [if_neg c24] at H
                          have c24b0 : decide (t130 < t124) = false := decide_eq_false c24
                          clear c24
                          obtain rfl := Option.some.inj H
                          have p122 : 0 ≤ (a1 : Int) := of_decide_eq_true (by with_reducible assumption)
                          have q122 : a1 < (l0.length : Int) := of_decide_eq_true (by with_reducible assumption)
                          obtain ⟨ad122, e122, hx122_0⟩ := Kd.at_int HR0.out a1 p122 q122
                          cases e122
                          replace p122 := eq_true p122
                          replace q122 := eq_true q122
                          have p123 : 0 ≤ ((ji7) : Int) := of_decide_eq_true (by with_reducible assumption)
                          have q123 : (ji7) < (l0.length : Int) := of_decide_eq_true (by with_reducible assumption)
                          obtain ⟨ad123, e123, hx123_0⟩ := Kd.at_int HR0.out (ji7) p123 q123
                          obtain rfl : ad122 = ad123 := (by injection e123)
                          replace p123 := eq_true p123
                          replace q123 := eq_true q123
                          go_enter Try.func96, Try.ntmps96
                          go_wp2_with (first | (go_at_call 112; (with_reducible refine (spec_l1Least.calls (rd l0 a1) (rd l0 (ji7)) t124 _ A10.out).mono ?_); rintro e w' ⟨rfl, ⟨nd, rfl⟩⟩; (try first | exact ⟨rfl, _, World.drewN_drewN _ _ _⟩ | exact ⟨rfl, _, Eq.trans (World.drewN_drewN _ _ _) (congrArg (World.drewN _) (Nat.add_assoc _ _ _))⟩); have p125 : 0 ≤ (a1 : Int) := of_decide_eq_true (by with_reducible assumption); have q125 : a1 < (l0.length : Int) := of_decide_eq_true (by with_reducible assumption); obtain ⟨ad125, e125, hx125_0⟩ := Kd.at_int HR0.out a1 p125 q125; obtain rfl : ad122 = ad125 := (by injection e125); replace p125 := eq_true p125; replace q125 := eq_true q125; have p126 : 0 ≤ ((ji7) : Int) := of_decide_eq_true (by with_reducible assumption); have q126 : (ji7) < (l0.length : Int) := of_decide_eq_true (by with_reducible assumption); obtain ⟨ad126, e126, hx126_0⟩ := Kd.at_int HR0.out (ji7) p126 q126; obtain rfl : ad122 = ad126 := (by injection e126); replace p126 := eq_true p126; replace q126 := eq_true q126) | (go_at_call 113; (with_reducible refine (spec_l1Most.calls (rd l0 a1) (rd l0 (ji7)) t127 _ A11.out).mono ?_); rintro e w' ⟨rfl, ⟨nd, rfl⟩⟩; (try first | exact ⟨rfl, _, World.drewN_drewN _ _ _⟩ | exact ⟨rfl, _, Eq.trans (World.drewN_drewN _ _ _) (congrArg (World.drewN _) (Nat.add_assoc _ _ _))⟩); have p128 : 0 ≤ (a2 : Int) := of_decide_eq_true (by with_reducible assumption); have q128 : a2 < (l0.length : Int) := of_decide_eq_true (by with_reducible assumption); obtain ⟨ad128, e128, hx128_0⟩ := Kd.at_int HR0.out a2 p128 q128; obtain rfl : ad122 = ad128 := (by injection e128); replace p128 := eq_true p128; replace q128 := eq_true q128; have p129 : 0 ≤ ((ji14) : Int) := of_decide_eq_true (by with_reducible assumption); have q129 : (ji14) < (l0.length : Int) := of_decide_eq_true (by with_reducible assumption); obtain ⟨ad129, e129, hx129_0⟩ := Kd.at_int HR0.out (ji14) p129 q129; obtain rfl : ad122 = ad129 := (by injection e129); replace p129 := eq_true p129; replace q129 := eq_true q129) | (go_at_call 112; (with_reducible refine (spec_l1Least.calls (rd l0 a2) (rd l0 (ji14)) t130 _ A17.out).mono ?_); rintro e w' ⟨rfl, ⟨nd, rfl⟩⟩; (try first | exact ⟨rfl, _, World.drewN_drewN _ _ _⟩ | exact ⟨rfl, _, Eq.trans (World.drewN_drewN _ _ _) (congrArg (World.drewN _) (Nat.add_assoc _ _ _))⟩); have p131 : 0 ≤ (a2 : Int) := of_decide_eq_true (by with_reducible assumption); have q131 : a2 < (l0.length : Int) := of_decide_eq_true (by with_reducible assumption); obtain ⟨ad131, e131, hx131_0⟩ := Kd.at_int HR0.out a2 p131 q131; obtain rfl : ad122 = ad131 := (by injection e131); replace p131 := eq_true p131; replace q131 := eq_true q131; have p132 : 0 ≤ ((ji14) : Int) := of_decide_eq_true (by with_reducible assumption); have q132 : (ji14) < (l0.length : Int) := of_decide_eq_true (by with_reducible assumption); obtain ⟨ad132, e132, hx132_0⟩ := Kd.at_int HR0.out (ji14) p132 q132; obtain rfl : ad122 = ad132 := (by injection e132); replace p132 := eq_true p132; replace q132 := eq_true q132) | (go_at_call 113; (with_reducible refine (spec_l1Most.calls (rd l0 a2) (rd l0 (ji14)) t133 _ A18.out).mono ?_); rintro e w' ⟨rfl, ⟨nd, rfl⟩⟩; (try first | exact ⟨rfl, _, World.drewN_drewN _ _ _⟩ | exact ⟨rfl, _, Eq.trans (World.drewN_drewN _ _ _) (congrArg (World.drewN _) (Nat.add_assoc _ _ _))⟩)))
                          repeat (go_quiet (first | (go_at_call 112; (with_reducible refine (spec_l1Least.calls (rd l0 a1) (rd l0 (ji7)) t124 _ A10.out).mono ?_); rintro e w' ⟨rfl, ⟨nd, rfl⟩⟩; (try first | exact ⟨rfl, _, World.drewN_drewN _ _ _⟩ | exact ⟨rfl, _, Eq.trans (World.drewN_drewN _ _ _) (congrArg (World.drewN _) (Nat.add_assoc _ _ _))⟩); have p125 : 0 ≤ (a1 : Int) := of_decide_eq_true (by with_reducible assumption); have q125 : a1 < (l0.length : Int) := of_decide_eq_true (by with_reducible assumption); obtain ⟨ad125, e125, hx125_0⟩ := Kd.at_int HR0.out a1 p125 q125; obtain rfl : ad122 = ad125 := (by injection e125); replace p125 := eq_true p125; replace q125 := eq_true q125; have p126 : 0 ≤ ((ji7) : Int) := of_decide_eq_true (by with_reducible assumption); have q126 : (ji7) < (l0.length : Int) := of_decide_eq_true (by with_reducible assumption); obtain ⟨ad126, e126, hx126_0⟩ := Kd.at_int HR0.out (ji7) p126 q126; obtain rfl : ad122 = ad126 := (by injection e126); replace p126 := eq_true p126; replace q126 := eq_true q126) | (go_at_call 113; (with_reducible refine (spec_l1Most.calls (rd l0 a1) (rd l0 (ji7)) t127 _ A11.out).mono ?_); rintro e w' ⟨rfl, ⟨nd, rfl⟩⟩; (try first | exact ⟨rfl, _, World.drewN_drewN _ _ _⟩ | exact ⟨rfl, _, Eq.trans (World.drewN_drewN _ _ _) (congrArg (World.drewN _) (Nat.add_assoc _ _ _))⟩); have p128 : 0 ≤ (a2 : Int) := of_decide_eq_true (by with_reducible assumption); have q128 : a2 < (l0.length : Int) := of_decide_eq_true (by with_reducible assumption); obtain ⟨ad128, e128, hx128_0⟩ := Kd.at_int HR0.out a2 p128 q128; obtain rfl : ad122 = ad128 := (by injection e128); replace p128 := eq_true p128; replace q128 := eq_true q128; have p129 : 0 ≤ ((ji14) : Int) := of_decide_eq_true (by with_reducible assumption); have q129 : (ji14) < (l0.length : Int) := of_decide_eq_true (by with_reducible assumption); obtain ⟨ad129, e129, hx129_0⟩ := Kd.at_int HR0.out (ji14) p129 q129; obtain rfl : ad122 = ad129 := (by injection e129); replace p129 := eq_true p129; replace q129 := eq_true q129) | (go_at_call 112; (with_reducible refine (spec_l1Least.calls (rd l0 a2) (rd l0 (ji14)) t130 _ A17.out).mono ?_); rintro e w' ⟨rfl, ⟨nd, rfl⟩⟩; (try first | exact ⟨rfl, _, World.drewN_drewN _ _ _⟩ | exact ⟨rfl, _, Eq.trans (World.drewN_drewN _ _ _) (congrArg (World.drewN _) (Nat.add_assoc _ _ _))⟩); have p131 : 0 ≤ (a2 : Int) := of_decide_eq_true (by with_reducible assumption); have q131 : a2 < (l0.length : Int) := of_decide_eq_true (by with_reducible assumption); obtain ⟨ad131, e131, hx131_0⟩ := Kd.at_int HR0.out a2 p131 q131; obtain rfl : ad122 = ad131 := (by injection e131); replace p131 := eq_true p131; replace q131 := eq_true q131; have p132 : 0 ≤ ((ji14) : Int) := of_decide_eq_true (by with_reducible assumption); have q132 : (ji14) < (l0.length : Int) := of_decide_eq_true (by with_reducible assumption); obtain ⟨ad132, e132, hx132_0⟩ := Kd.at_int HR0.out (ji14) p132 q132; obtain rfl : ad122 = ad132 := (by injection e132); replace p132 := eq_true p132; replace q132 := eq_true q132) | (go_at_call 113; (with_reducible refine (spec_l1Most.calls (rd l0 a2) (rd l0 (ji14)) t133 _ A18.out).mono ?_); rintro e w' ⟨rfl, ⟨nd, rfl⟩⟩; (try first | exact ⟨rfl, _, World.drewN_drewN _ _ _⟩ | exact ⟨rfl, _, Eq.trans (World.drewN_drewN _ _ _) (congrArg (World.drewN _) (Nat.add_assoc _ _ _))⟩))); try go_wp2_with (first | (go_at_call 112; (with_reducible refine (spec_l1Least.calls (rd l0 a1) (rd l0 (ji7)) t124 _ A10.out).mono ?_); rintro e w' ⟨rfl, ⟨nd, rfl⟩⟩; (try first | exact ⟨rfl, _, World.drewN_drewN _ _ _⟩ | exact ⟨rfl, _, Eq.trans (World.drewN_drewN _ _ _) (congrArg (World.drewN _) (Nat.add_assoc _ _ _))⟩); have p125 : 0 ≤ (a1 : Int) := of_decide_eq_true (by with_reducible assumption); have q125 : a1 < (l0.length : Int) := of_decide_eq_true (by with_reducible assumption); obtain ⟨ad125, e125, hx125_0⟩ := Kd.at_int HR0.out a1 p125 q125; obtain rfl : ad122 = ad125 := (by injection e125); replace p125 := eq_true p125; replace q125 := eq_true q125; have p126 : 0 ≤ ((ji7) : Int) := of_decide_eq_true (by with_reducible assumption); have q126 : (ji7) < (l0.length : Int) := of_decide_eq_true (by with_reducible assumption); obtain ⟨ad126, e126, hx126_0⟩ := Kd.at_int HR0.out (ji7) p126 q126; obtain rfl : ad122 = ad126 := (by injection e126); replace p126 := eq_true p126; replace q126 := eq_true q126) | (go_at_call 113; (with_reducible refine (spec_l1Most.calls (rd l0 a1) (rd l0 (ji7)) t127 _ A11.out).mono ?_); rintro e w' ⟨rfl, ⟨nd, rfl⟩⟩; (try first | exact ⟨rfl, _, World.drewN_drewN _ _ _⟩ | exact ⟨rfl, _, Eq.trans (World.drewN_drewN _ _ _) (congrArg (World.drewN _) (Nat.add_assoc _ _ _))⟩); have p128 : 0 ≤ (a2 : Int) := of_decide_eq_true (by with_reducible assumption); have q128 : a2 < (l0.length : Int) := of_decide_eq_true (by with_reducible assumption); obtain ⟨ad128, e128, hx128_0⟩ := Kd.at_int HR0.out a2 p128 q128; obtain rfl : ad122 = ad128 := (by injection e128); replace p128 := eq_true p128; replace q128 := eq_true q128; have p129 : 0 ≤ ((ji14) : Int) := of_decide_eq_true (by with_reducible assumption); have q129 : (ji14) < (l0.length : Int) := of_decide_eq_true (by with_reducible assumption); obtain ⟨ad129, e129, hx129_0⟩ := Kd.at_int HR0.out (ji14) p129 q129; obtain rfl : ad122 = ad129 := (by injection e129); replace p129 := eq_true p129; replace q129 := eq_true q129) | (go_at_call 112; (with_reducible refine (spec_l1Least.calls (rd l0 a2) (rd l0 (ji14)) t130 _ A17.out).mono ?_); rintro e w' ⟨rfl, ⟨nd, rfl⟩⟩; (try first | exact ⟨rfl, _, World.drewN_drewN _ _ _⟩ | exact ⟨rfl, _, Eq.trans (World.drewN_drewN _ _ _) (congrArg (World.drewN _) (Nat.add_assoc _ _ _))⟩); have p131 : 0 ≤ (a2 : Int) := of_decide_eq_true (by with_reducible assumption); have q131 : a2 < (l0.length : Int) := of_decide_eq_true (by with_reducible assumption); obtain ⟨ad131, e131, hx131_0⟩ := Kd.at_int HR0.out a2 p131 q131; obtain rfl : ad122 = ad131 := (by injection e131); replace p131 := eq_true p131; replace q131 := eq_true q131; have p132 : 0 ≤ ((ji14) : Int) := of_decide_eq_true (by with_reducible assumption); have q132 : (ji14) < (l0.length : Int) := of_decide_eq_true (by with_reducible assumption); obtain ⟨ad132, e132, hx132_0⟩ := Kd.at_int HR0.out (ji14) p132 q132; obtain rfl : ad122 = ad132 := (by injection e132); replace p132 := eq_true p132; replace q132 := eq_true q132) | (go_at_call 113; (with_reducible refine (spec_l1Most.calls (rd l0 a2) (rd l0 (ji14)) t133 _ A18.out).mono ?_); rintro e w' ⟨rfl, ⟨nd, rfl⟩⟩; (try first | exact ⟨rfl, _, World.drewN_drewN _ _ _⟩ | exact ⟨rfl, _, Eq.trans (World.drewN_drewN _ _ _) (congrArg (World.drewN _) (Nat.add_assoc _ _ _))⟩))))
                          go_ret
                          exact ⟨by first | rfl | (simp; done) | (simp only [← hji7, ← hji14] <;> (first | rfl | simp)) | (simp [*]; done), by repeat (first | exact Drawn0.refl _ | apply Drawn0.step)⟩
                    · rw [if_neg c19] at H
                      have c19b0 : decide (t124 < t130) = false := decide_eq_false c19
                      clear c19
                      by_cases c26 : t130 < t124
                      · rw [if_pos c26] at H
                        have c26b0 : decide (t130 < t124) = true := decide_eq_true c26
                        clear c26
                        by_cases c27 : t124 < t133
                        · rw [if_pos c27] at H
                          have c27b0 : decide (t124 < t133) = true := decide_eq_true c27
                          clear c27
                          obtain rfl := Option.some.inj H
                          have p122 : 0 ≤ (a1 : Int) := of_decide_eq_true (by with_reducible assumption)
                          have q122 : a1 < (l0.length : Int) := of_decide_eq_true (by with_reducible assumption)
                          obtain ⟨ad122, e122, hx122_0⟩ := Kd.at_int HR0.out a1 p122 q122
                          cases e122
                          replace p122 := eq_true p122
                          replace q122 := eq_true q122
                          have p123 : 0 ≤ ((ji7) : Int) := of_decide_eq_true (by with_reducible assumption)
                          have q123 : (ji7) < (l0.length : Int) := of_decide_eq_true (by with_reducible assumption)
                          obtain ⟨ad123, e123, hx123_0⟩ := Kd.at_int HR0.out (ji7) p123 q123
                          obtain rfl : ad122 = ad123 := (by injection e123)
                          replace p123 := eq_true p123
                          replace q123 := eq_true q123
                          go_enter Try.func96, Try.ntmps96
                          go_wp2_with (first | (go_at_call 112; (with_reducible refine (spec_l1Least.calls (rd l0 a1) (rd l0 (ji7)) t124 _ A10.out).mono ?_); rintro e w' ⟨rfl, ⟨nd, rfl⟩⟩; (try first | exact ⟨rfl, _, World.drewN_drewN _ _ _⟩ | exact ⟨rfl, _, Eq.trans (World.drewN_drewN _ _ _) (congrArg (World.drewN _) (Nat.add_assoc _ _ _))⟩); have p125 : 0 ≤ (a1 : Int) := of_decide_eq_true (by with_reducible assumption); have q125 : a1 < (l0.length : Int) := of_decide_eq_true (by with_reducible assumption); obtain ⟨ad125, e125, hx125_0⟩ := Kd.at_int HR0.out a1 p125 q125; obtain rfl : ad122 = ad125 := (by injection e125); replace p125 := eq_true p125; replace q125 := eq_true q125; have p126 : 0 ≤ ((ji7) : Int) := of_decide_eq_true (by with_reducible assumption); have q126 : (ji7) < (l0.length : Int) := of_decide_eq_true (by with_reducible assumption); obtain ⟨ad126, e126, hx126_0⟩ := Kd.at_int HR0.out (ji7) p126 q126; obtain rfl : ad122 = ad126 := (by injection e126); replace p126 := eq_true p126; replace q126 := eq_true q126) | (go_at_call 113; (with_reducible refine (spec_l1Most.calls (rd l0 a1) (rd l0 (ji7)) t127 _ A11.out).mono ?_); rintro e w' ⟨rfl, ⟨nd, rfl⟩⟩; (try first | exact ⟨rfl, _, World.drewN_drewN _ _ _⟩ | exact ⟨rfl, _, Eq.trans (World.drewN_drewN _ _ _) (congrArg (World.drewN _) (Nat.add_assoc _ _ _))⟩); have p128 : 0 ≤ (a2 : Int) := of_decide_eq_true (by with_reducible assumption); have q128 : a2 < (l0.length : Int) := of_decide_eq_true (by with_reducible assumption); obtain ⟨ad128, e128, hx128_0⟩ := Kd.at_int HR0.out a2 p128 q128; obtain rfl : ad122 = ad128 := (by injection e128); replace p128 := eq_true p128; replace q128 := eq_true q128; have p129 : 0 ≤ ((ji14) : Int) := of_decide_eq_true (by with_reducible assumption); have q129 : (ji14) < (l0.length : Int) := of_decide_eq_true (by with_reducible assumption); obtain ⟨ad129, e129, hx129_0⟩ := Kd.at_int HR0.out (ji14) p129 q129; obtain rfl : ad122 = ad129 := (by injection e129); replace p129 := eq_true p129; replace q129 := eq_true q129) | (go_at_call 112; (with_reducible refine (spec_l1Least.calls (rd l0 a2) (rd l0 (ji14)) t130 _ A17.out).mono ?_); rintro e w' ⟨rfl, ⟨nd, rfl⟩⟩; (try first | exact ⟨rfl, _, World.drewN_drewN _ _ _⟩ | exact ⟨rfl, _, Eq.trans (World.drewN_drewN _ _ _) (congrArg (World.drewN _) (Nat.add_assoc _ _ _))⟩); have p131 : 0 ≤ (a2 : Int) := of_decide_eq_true (by with_reducible assumption); have q131 : a2 < (l0.length : Int) := of_decide_eq_true (by with_reducible assumption); obtain ⟨ad131, e131, hx131_0⟩ := Kd.at_int HR0.out a2 p131 q131; obtain rfl : ad122 = ad131 := (by injection e131); replace p131 := eq_true p131; replace q131 := eq_true q131; have p132 : 0 ≤ ((ji14) : Int) := of_decide_eq_true (by with_reducible assumption); have q132 : (ji14) < (l0.length : Int) := of_decide_eq_true (by with_reducible assumption); obtain ⟨ad132, e132, hx132_0⟩ := Kd.at_int HR0.out (ji14) p132 q132; obtain rfl : ad122 = ad132 := (by injection e132); replace p132 := eq_true p132; replace q132 := eq_true q132) | (go_at_call 113; (with_reducible refine (spec_l1Most.calls (rd l0 a2) (rd l0 (ji14)) t133 _ A18.out).mono ?_); rintro e w' ⟨rfl, ⟨nd, rfl⟩⟩; (try first | exact ⟨rfl, _, World.drewN_drewN _ _ _⟩ | exact ⟨rfl, _, Eq.trans (World.drewN_drewN _ _ _) (congrArg (World.drewN _) (Nat.add_assoc _ _ _))⟩)))
                          repeat (go_quiet (first | (go_at_call 112; (with_reducible refine (spec_l1Least.calls (rd l0 a1) (rd l0 (ji7)) t124 _ A10.out).mono ?_); rintro e w' ⟨rfl, ⟨nd, rfl⟩⟩; (try first | exact ⟨rfl, _, World.drewN_drewN _ _ _⟩ | exact ⟨rfl, _, Eq.trans (World.drewN_drewN _ _ _) (congrArg (World.drewN _) (Nat.add_assoc _ _ _))⟩); have p125 : 0 ≤ (a1 : Int) := of_decide_eq_true (by with_reducible assumption); have q125 : a1 < (l0.length : Int) := of_decide_eq_true (by with_reducible assumption); obtain ⟨ad125, e125, hx125_0⟩ := Kd.at_int HR0.out a1 p125 q125; obtain rfl : ad122 = ad125 := (by injection e125); replace p125 := eq_true p125; replace q125 := eq_true q125; have p126 : 0 ≤ ((ji7) : Int) := of_decide_eq_true (by with_reducible assumption); have q126 : (ji7) < (l0.length : Int) := of_decide_eq_true (by with_reducible assumption); obtain ⟨ad126, e126, hx126_0⟩ := Kd.at_int HR0.out (ji7) p126 q126; obtain rfl : ad122 = ad126 := (by injection e126); replace p126 := eq_true p126; replace q126 := eq_true q126) | (go_at_call 113; (with_reducible refine (spec_l1Most.calls (rd l0 a1) (rd l0 (ji7)) t127 _ A11.out).mono ?_); rintro e w' ⟨rfl, ⟨nd, rfl⟩⟩; (try first | exact ⟨rfl, _, World.drewN_drewN _ _ _⟩ | exact ⟨rfl, _, Eq.trans (World.drewN_drewN _ _ _) (congrArg (World.drewN _) (Nat.add_assoc _ _ _))⟩); have p128 : 0 ≤ (a2 : Int) := of_decide_eq_true (by with_reducible assumption); have q128 : a2 < (l0.length : Int) := of_decide_eq_true (by with_reducible assumption); obtain ⟨ad128, e128, hx128_0⟩ := Kd.at_int HR0.out a2 p128 q128; obtain rfl : ad122 = ad128 := (by injection e128); replace p128 := eq_true p128; replace q128 := eq_true q128; have p129 : 0 ≤ ((ji14) : Int) := of_decide_eq_true (by with_reducible assumption); have q129 : (ji14) < (l0.length : Int) := of_decide_eq_true (by with_reducible assumption); obtain ⟨ad129, e129, hx129_0⟩ := Kd.at_int HR0.out (ji14) p129 q129; obtain rfl : ad122 = ad129 := (by injection e129); replace p129 := eq_true p129; replace q129 := eq_true q129) | (go_at_call 112; (with_reducible refine (spec_l1Least.calls (rd l0 a2) (rd l0 (ji14)) t130 _ A17.out).mono ?_); rintro e w' ⟨rfl, ⟨nd, rfl⟩⟩; (try first | exact ⟨rfl, _, World.drewN_drewN _ _ _⟩ | exact ⟨rfl, _, Eq.trans (World.drewN_drewN _ _ _) (congrArg (World.drewN _) (Nat.add_assoc _ _ _))⟩); have p131 : 0 ≤ (a2 : Int) := of_decide_eq_true (by with_reducible assumption); have q131 : a2 < (l0.length : Int) := of_decide_eq_true (by with_reducible assumption); obtain ⟨ad131, e131, hx131_0⟩ := Kd.at_int HR0.out a2 p131 q131; obtain rfl : ad122 = ad131 := (by injection e131); replace p131 := eq_true p131; replace q131 := eq_true q131; have p132 : 0 ≤ ((ji14) : Int) := of_decide_eq_true (by with_reducible assumption); have q132 : (ji14) < (l0.length : Int) := of_decide_eq_true (by with_reducible assumption); obtain ⟨ad132, e132, hx132_0⟩ := Kd.at_int HR0.out (ji14) p132 q132; obtain rfl : ad122 = ad132 := (by injection e132); replace p132 := eq_true p132; replace q132 := eq_true q132) | (go_at_call 113; (with_reducible refine (spec_l1Most.calls (rd l0 a2) (rd l0 (ji14)) t133 _ A18.out).mono ?_); rintro e w' ⟨rfl, ⟨nd, rfl⟩⟩; (try first | exact ⟨rfl, _, World.drewN_drewN _ _ _⟩ | exact ⟨rfl, _, Eq.trans (World.drewN_drewN _ _ _) (congrArg (World.drewN _) (Nat.add_assoc _ _ _))⟩))); try go_wp2_with (first | (go_at_call 112; (with_reducible refine (spec_l1Least.calls (rd l0 a1) (rd l0 (ji7)) t124 _ A10.out).mono ?_); rintro e w' ⟨rfl, ⟨nd, rfl⟩⟩; (try first | exact ⟨rfl, _, World.drewN_drewN _ _ _⟩ | exact ⟨rfl, _, Eq.trans (World.drewN_drewN _ _ _) (congrArg (World.drewN _) (Nat.add_assoc _ _ _))⟩); have p125 : 0 ≤ (a1 : Int) := of_decide_eq_true (by with_reducible assumption); have q125 : a1 < (l0.length : Int) := of_decide_eq_true (by with_reducible assumption); obtain ⟨ad125, e125, hx125_0⟩ := Kd.at_int HR0.out a1 p125 q125; obtain rfl : ad122 = ad125 := (by injection e125); replace p125 := eq_true p125; replace q125 := eq_true q125; have p126 : 0 ≤ ((ji7) : Int) := of_decide_eq_true (by with_reducible assumption); have q126 : (ji7) < (l0.length : Int) := of_decide_eq_true (by with_reducible assumption); obtain ⟨ad126, e126, hx126_0⟩ := Kd.at_int HR0.out (ji7) p126 q126; obtain rfl : ad122 = ad126 := (by injection e126); replace p126 := eq_true p126; replace q126 := eq_true q126) | (go_at_call 113; (with_reducible refine (spec_l1Most.calls (rd l0 a1) (rd l0 (ji7)) t127 _ A11.out).mono ?_); rintro e w' ⟨rfl, ⟨nd, rfl⟩⟩; (try first | exact ⟨rfl, _, World.drewN_drewN _ _ _⟩ | exact ⟨rfl, _, Eq.trans (World.drewN_drewN _ _ _) (congrArg (World.drewN _) (Nat.add_assoc _ _ _))⟩); have p128 : 0 ≤ (a2 : Int) := of_decide_eq_true (by with_reducible assumption); have q128 : a2 < (l0.length : Int) := of_decide_eq_true (by with_reducible assumption); obtain ⟨ad128, e128, hx128_0⟩ := Kd.at_int HR0.out a2 p128 q128; obtain rfl : ad122 = ad128 := (by injection e128); replace p128 := eq_true p128; replace q128 := eq_true q128; have p129 : 0 ≤ ((ji14) : Int) := of_decide_eq_true (by with_reducible assumption); have q129 : (ji14) < (l0.length : Int) := of_decide_eq_true (by with_reducible assumption); obtain ⟨ad129, e129, hx129_0⟩ := Kd.at_int HR0.out (ji14) p129 q129; obtain rfl : ad122 = ad129 := (by injection e129); replace p129 := eq_true p129; replace q129 := eq_true q129) | (go_at_call 112; (with_reducible refine (spec_l1Least.calls (rd l0 a2) (rd l0 (ji14)) t130 _ A17.out).mono ?_); rintro e w' ⟨rfl, ⟨nd, rfl⟩⟩; (try first | exact ⟨rfl, _, World.drewN_drewN _ _ _⟩ | exact ⟨rfl, _, Eq.trans (World.drewN_drewN _ _ _) (congrArg (World.drewN _) (Nat.add_assoc _ _ _))⟩); have p131 : 0 ≤ (a2 : Int) := of_decide_eq_true (by with_reducible assumption); have q131 : a2 < (l0.length : Int) := of_decide_eq_true (by with_reducible assumption); obtain ⟨ad131, e131, hx131_0⟩ := Kd.at_int HR0.out a2 p131 q131; obtain rfl : ad122 = ad131 := (by injection e131); replace p131 := eq_true p131; replace q131 := eq_true q131; have p132 : 0 ≤ ((ji14) : Int) := of_decide_eq_true (by with_reducible assumption); have q132 : (ji14) < (l0.length : Int) := of_decide_eq_true (by with_reducible assumption); obtain ⟨ad132, e132, hx132_0⟩ := Kd.at_int HR0.out (ji14) p132 q132; obtain rfl : ad122 = ad132 := (by injection e132); replace p132 := eq_true p132; replace q132 := eq_true q132) | (go_at_call 113; (with_reducible refine (spec_l1Most.calls (rd l0 a2) (rd l0 (ji14)) t133 _ A18.out).mono ?_); rintro e w' ⟨rfl, ⟨nd, rfl⟩⟩; (try first | exact ⟨rfl, _, World.drewN_drewN _ _ _⟩ | exact ⟨rfl, _, Eq.trans (World.drewN_drewN _ _ _) (congrArg (World.drewN _) (Nat.add_assoc _ _ _))⟩))))
                          go_ret
                          exact ⟨by first | rfl | (simp; done) | (simp only [← hji7, ← hji14] <;> (first | rfl | simp)) | (simp [*]; done), by repeat (first | exact Drawn0.refl _ | apply Drawn0.step)⟩
                        · rw [if_neg c27] at H
                          have c27b0 : decide (t124 < t133) = false := decide_eq_false c27
                          clear c27
                          obtain rfl := Option.some.inj H
                          have p122 : 0 ≤ (a1 : Int) := of_decide_eq_true (by with_reducible assumption)
                          have q122 : a1 < (l0.length : Int) := of_decide_eq_true (by with_reducible assumption)
                          obtain ⟨ad122, e122, hx122_0⟩ := Kd.at_int HR0.out a1 p122 q122
                          cases e122
                          replace p122 := eq_true p122
                          replace q122 := eq_true q122
                          have p123 : 0 ≤ ((ji7) : Int) := of_decide_eq_true (by with_reducible assumption)
                          have q123 : (ji7) < (l0.length : Int) := of_decide_eq_true (by with_reducible assumption)
                          obtain ⟨ad123, e123, hx123_0⟩ := Kd.at_int HR0.out (ji7) p123 q123
                          obtain rfl : ad122 = ad123 := (by injection e123)
                          replace p123 := eq_true p123
                          replace q123 := eq_true q123
                          go_enter Try.func96, Try.ntmps96
                          go_wp2_with (first | (go_at_call 112; (with_reducible refine (spec_l1Least.calls (rd l0 a1) (rd l0 (ji7)) t124 _ A10.out).mono ?_); rintro e w' ⟨rfl, ⟨nd, rfl⟩⟩; (try first | exact ⟨rfl, _, World.drewN_drewN _ _ _⟩ | exact ⟨rfl, _, Eq.trans (World.drewN_drewN _ _ _) (congrArg (World.drewN _) (Nat.add_assoc _ _ _))⟩); have p125 : 0 ≤ (a1 : Int) := of_decide_eq_true (by with_reducible assumption); have q125 : a1 < (l0.length : Int) := of_decide_eq_true (by with_reducible assumption); obtain ⟨ad125, e125, hx125_0⟩ := Kd.at_int HR0.out a1 p125 q125; obtain rfl : ad122 = ad125 := (by injection e125); replace p125 := eq_true p125; replace q125 := eq_true q125; have p126 : 0 ≤ ((ji7) : Int) := of_decide_eq_true (by with_reducible assumption); have q126 : (ji7) < (l0.length : Int) := of_decide_eq_true (by with_reducible assumption); obtain ⟨ad126, e126, hx126_0⟩ := Kd.at_int HR0.out (ji7) p126 q126; obtain rfl : ad122 = ad126 := (by injection e126); replace p126 := eq_true p126; replace q126 := eq_true q126) | (go_at_call 113; (with_reducible refine (spec_l1Most.calls (rd l0 a1) (rd l0 (ji7)) t127 _ A11.out).mono ?_); rintro e w' ⟨rfl, ⟨nd, rfl⟩⟩; (try first | exact ⟨rfl, _, World.drewN_drewN _ _ _⟩ | exact ⟨rfl, _, Eq.trans (World.drewN_drewN _ _ _) (congrArg (World.drewN _) (Nat.add_assoc _ _ _))⟩); have p128 : 0 ≤ (a2 : Int) := of_decide_eq_true (by with_reducible assumption); have q128 : a2 < (l0.length : Int) := of_decide_eq_true (by with_reducible assumption); obtain ⟨ad128, e128, hx128_0⟩ := Kd.at_int HR0.out a2 p128 q128; obtain rfl : ad122 = ad128 := (by injection e128); replace p128 := eq_true p128; replace q128 := eq_true q128; have p129 : 0 ≤ ((ji14) : Int) := of_decide_eq_true (by with_reducible assumption); have q129 : (ji14) < (l0.length : Int) := of_decide_eq_true (by with_reducible assumption); obtain ⟨ad129, e129, hx129_0⟩ := Kd.at_int HR0.out (ji14) p129 q129; obtain rfl : ad122 = ad129 := (by injection e129); replace p129 := eq_true p129; replace q129 := eq_true q129) | (go_at_call 112; (with_reducible refine (spec_l1Least.calls (rd l0 a2) (rd l0 (ji14)) t130 _ A17.out).mono ?_); rintro e w' ⟨rfl, ⟨nd, rfl⟩⟩; (try first | exact ⟨rfl, _, World.drewN_drewN _ _ _⟩ | exact ⟨rfl, _, Eq.trans (World.drewN_drewN _ _ _) (congrArg (World.drewN _) (Nat.add_assoc _ _ _))⟩); have p131 : 0 ≤ (a2 : Int) := of_decide_eq_true (by with_reducible assumption); have q131 : a2 < (l0.length : Int) := of_decide_eq_true (by with_reducible assumption); obtain ⟨ad131, e131, hx131_0⟩ := Kd.at_int HR0.out a2 p131 q131; obtain rfl : ad122 = ad131 := (by injection e131); replace p131 := eq_true p131; replace q131 := eq_true q131; have p132 : 0 ≤ ((ji14) : Int) := of_decide_eq_true (by with_reducible assumption); have q132 : (ji14) < (l0.length : Int) := of_decide_eq_true (by with_reducible assumption); obtain ⟨ad132, e132, hx132_0⟩ := Kd.at_int HR0.out (ji14) p132 q132; obtain rfl : ad122 = ad132 := (by injection e132); replace p132 := eq_true p132; replace q132 := eq_true q132) | (go_at_call 113; (with_reducible refine (spec_l1Most.calls (rd l0 a2) (rd l0 (ji14)) t133 _ A18.out).mono ?_); rintro e w' ⟨rfl, ⟨nd, rfl⟩⟩; (try first | exact ⟨rfl, _, World.drewN_drewN _ _ _⟩ | exact ⟨rfl, _, Eq.trans (World.drewN_drewN _ _ _) (congrArg (World.drewN _) (Nat.add_assoc _ _ _))⟩)))
                          repeat (go_quiet (first | (go_at_call 112; (with_reducible refine (spec_l1Least.calls (rd l0 a1) (rd l0 (ji7)) t124 _ A10.out).mono ?_); rintro e w' ⟨rfl, ⟨nd, rfl⟩⟩; (try first | exact ⟨rfl, _, World.drewN_drewN _ _ _⟩ | exact ⟨rfl, _, Eq.trans (World.drewN_drewN _ _ _) (congrArg (World.drewN _) (Nat.add_assoc _ _ _))⟩); have p125 : 0 ≤ (a1 : Int) := of_decide_eq_true (by with_reducible assumption); have q125 : a1 < (l0.length : Int) := of_decide_eq_true (by with_reducible assumption); obtain ⟨ad125, e125, hx125_0⟩ := Kd.at_int HR0.out a1 p125 q125; obtain rfl : ad122 = ad125 := (by injection e125); replace p125 := eq_true p125; replace q125 := eq_true q125; have p126 : 0 ≤ ((ji7) : Int) := of_decide_eq_true (by with_reducible assumption); have q126 : (ji7) < (l0.length : Int) := of_decide_eq_true (by with_reducible assumption); obtain ⟨ad126, e126, hx126_0⟩ := Kd.at_int HR0.out (ji7) p126 q126; obtain rfl : ad122 = ad126 := (by injection e126); replace p126 := eq_true p126; replace q126 := eq_true q126) | (go_at_call 113; (with_reducible refine (spec_l1Most.calls (rd l0 a1) (rd l0 (ji7)) t127 _ A11.out).mono ?_); rintro e w' ⟨rfl, ⟨nd, rfl⟩⟩; (try first | exact ⟨rfl, _, World.drewN_drewN _ _ _⟩ | exact ⟨rfl, _, Eq.trans (World.drewN_drewN _ _ _) (congrArg (World.drewN _) (Nat.add_assoc _ _ _))⟩); have p128 : 0 ≤ (a2 : Int) := of_decide_eq_true (by with_reducible assumption); have q128 : a2 < (l0.length : Int) := of_decide_eq_true (by with_reducible assumption); obtain ⟨ad128, e128, hx128_0⟩ := Kd.at_int HR0.out a2 p128 q128; obtain rfl : ad122 = ad128 := (by injection e128); replace p128 := eq_true p128; replace q128 := eq_true q128; have p129 : 0 ≤ ((ji14) : Int) := of_decide_eq_true (by with_reducible assumption); have q129 : (ji14) < (l0.length : Int) := of_decide_eq_true (by with_reducible assumption); obtain ⟨ad129, e129, hx129_0⟩ := Kd.at_int HR0.out (ji14) p129 q129; obtain rfl : ad122 = ad129 := (by injection e129); replace p129 := eq_true p129; replace q129 := eq_true q129) | (go_at_call 112; (with_reducible refine (spec_l1Least.calls (rd l0 a2) (rd l0 (ji14)) t130 _ A17.out).mono ?_); rintro e w' ⟨rfl, ⟨nd, rfl⟩⟩; (try first | exact ⟨rfl, _, World.drewN_drewN _ _ _⟩ | exact ⟨rfl, _, Eq.trans (World.drewN_drewN _ _ _) (congrArg (World.drewN _) (Nat.add_assoc _ _ _))⟩); have p131 : 0 ≤ (a2 : Int) := of_decide_eq_true (by with_reducible assumption); have q131 : a2 < (l0.length : Int) := of_decide_eq_true (by with_reducible assumption); obtain ⟨ad131, e131, hx131_0⟩ := Kd.at_int HR0.out a2 p131 q131; obtain rfl : ad122 = ad131 := (by injection e131); replace p131 := eq_true p131; replace q131 := eq_true q131; have p132 : 0 ≤ ((ji14) : Int) := of_decide_eq_true (by with_reducible assumption); have q132 : (ji14) < (l0.length : Int) := of_decide_eq_true (by with_reducible assumption); obtain ⟨ad132, e132, hx132_0⟩ := Kd.at_int HR0.out (ji14) p132 q132; obtain rfl : ad122 = ad132 := (by injection e132); replace p132 := eq_true p132; replace q132 := eq_true q132) | (go_at_call 113; (with_reducible refine (spec_l1Most.calls (rd l0 a2) (rd l0 (ji14)) t133 _ A18.out).mono ?_); rintro e w' ⟨rfl, ⟨nd, rfl⟩⟩; (try first | exact ⟨rfl, _, World.drewN_drewN _ _ _⟩ | exact ⟨rfl, _, Eq.trans (World.drewN_drewN _ _ _) (congrArg (World.drewN _) (Nat.add_assoc _ _ _))⟩))); try go_wp2_with (first | (go_at_call 112; (with_reducible refine (spec_l1Least.calls (rd l0 a1) (rd l0 (ji7)) t124 _ A10.out).mono ?_); rintro e w' ⟨rfl, ⟨nd, rfl⟩⟩; (try first | exact ⟨rfl, _, World.drewN_drewN _ _ _⟩ | exact ⟨rfl, _, Eq.trans (World.drewN_drewN _ _ _) (congrArg (World.drewN _) (Nat.add_assoc _ _ _))⟩); have p125 : 0 ≤ (a1 : Int) := of_decide_eq_true (by with_reducible assumption); have q125 : a1 < (l0.length : Int) := of_decide_eq_true (by with_reducible assumption); obtain ⟨ad125, e125, hx125_0⟩ := Kd.at_int HR0.out a1 p125 q125; obtain rfl : ad122 = ad125 := (by injection e125); replace p125 := eq_true p125; replace q125 := eq_true q125; have p126 : 0 ≤ ((ji7) : Int) := of_decide_eq_true (by with_reducible assumption); have q126 : (ji7) < (l0.length : Int) := of_decide_eq_true (by with_reducible assumption); obtain ⟨ad126, e126, hx126_0⟩ := Kd.at_int HR0.out (ji7) p126 q126; obtain rfl : ad122 = ad126 := (by injection e126); replace p126 := eq_true p126; replace q126 := eq_true q126) | (go_at_call 113; (with_reducible refine (spec_l1Most.calls (rd l0 a1) (rd l0 (ji7)) t127 _ A11.out).mono ?_); rintro e w' ⟨rfl, ⟨nd, rfl⟩⟩; (try first | exact ⟨rfl, _, World.drewN_drewN _ _ _⟩ | exact ⟨rfl, _, Eq.trans (World.drewN_drewN _ _ _) (congrArg (World.drewN _) (Nat.add_assoc _ _ _))⟩); have p128 : 0 ≤ (a2 : Int) := of_decide_eq_true (by with_reducible assumption); have q128 : a2 < (l0.length : Int) := of_decide_eq_true (by with_reducible assumption); obtain ⟨ad128, e128, hx128_0⟩ := Kd.at_int HR0.out a2 p128 q128; obtain rfl : ad122 = ad128 := (by injection e128); replace p128 := eq_true p128; replace q128 := eq_true q128; have p129 : 0 ≤ ((ji14) : Int) := of_decide_eq_true (by with_reducible assumption); have q129 : (ji14) < (l0.length : Int) := of_decide_eq_true (by with_reducible assumption); obtain ⟨ad129, e129, hx129_0⟩ := Kd.at_int HR0.out (ji14) p129 q129; obtain rfl : ad122 = ad129 := (by injection e129); replace p129 := eq_true p129; replace q129 := eq_true q129) | (go_at_call 112; (with_reducible refine (spec_l1Least.calls (rd l0 a2) (rd l0 (ji14)) t130 _ A17.out).mono ?_); rintro e w' ⟨rfl, ⟨nd, rfl⟩⟩; (try first | exact ⟨rfl, _, World.drewN_drewN _ _ _⟩ | exact ⟨rfl, _, Eq.trans (World.drewN_drewN _ _ _) (congrArg (World.drewN _) (Nat.add_assoc _ _ _))⟩); have p131 : 0 ≤ (a2 : Int) := of_decide_eq_true (by with_reducible assumption); have q131 : a2 < (l0.length : Int) := of_decide_eq_true (by with_reducible assumption); obtain ⟨ad131, e131, hx131_0⟩ := Kd.at_int HR0.out a2 p131 q131; obtain rfl : ad122 = ad131 := (by injection e131); replace p131 := eq_true p131; replace q131 := eq_true q131; have p132 : 0 ≤ ((ji14) : Int) := of_decide_eq_true (by with_reducible assumption); have q132 : (ji14) < (l0.length : Int) := of_decide_eq_true (by with_reducible assumption); obtain ⟨ad132, e132, hx132_0⟩ := Kd.at_int HR0.out (ji14) p132 q132; obtain rfl : ad122 = ad132 := (by injection e132); replace p132 := eq_true p132; replace q132 := eq_true q132) | (go_at_call 113; (with_reducible refine (spec_l1Most.calls (rd l0 a2) (rd l0 (ji14)) t133 _ A18.out).mono ?_); rintro e w' ⟨rfl, ⟨nd, rfl⟩⟩; (try first | exact ⟨rfl, _, World.drewN_drewN _ _ _⟩ | exact ⟨rfl, _, Eq.trans (World.drewN_drewN _ _ _) (congrArg (World.drewN _) (Nat.add_assoc _ _ _))⟩))))
                          go_ret
                          exact ⟨by first | rfl | (simp; done) | (simp only [← hji7, ← hji14] <;> (first | rfl | simp)) | (simp [*]; done), by repeat (first | exact Drawn0.refl _ | apply Drawn0.step)⟩
                      · rw [if_neg c26] at H
                        have c26b0 : decide (t130 < t124) = false := decide_eq_false c26
                        clear c26
                        obtain rfl := Option.some.inj H
                        have p122 : 0 ≤ (a1 : Int) := of_decide_eq_true (by with_reducible assumption)
                        have q122 : a1 < (l0.length : Int) := of_decide_eq_true (by with_reducible assumption)
                        obtain ⟨ad122, e122, hx122_0⟩ := Kd.at_int HR0.out a1 p122 q122
                        cases e122
                        replace p122 := eq_true p122
                        replace q122 := eq_true q122
                        have p123 : 0 ≤ ((ji7) : Int) := of_decide_eq_true (by with_reducible assumption)
                        have q123 : (ji7) < (l0.length : Int) := of_decide_eq_true (by with_reducible assumption)
                        obtain ⟨ad123, e123, hx123_0⟩ := Kd.at_int HR0.out (ji7) p123 q123
                        obtain rfl : ad122 = ad123 := (by injection e123)
                        replace p123 := eq_true p123
                        replace q123 := eq_true q123
                        go_enter Try.func96, Try.ntmps96
                        go_wp2_with (first | (go_at_call 112; (with_reducible refine (spec_l1Least.calls (rd l0 a1) (rd l0 (ji7)) t124 _ A10.out).mono ?_); rintro e w' ⟨rfl, ⟨nd, rfl⟩⟩; (try first | exact ⟨rfl, _, World.drewN_drewN _ _ _⟩ | exact ⟨rfl, _, Eq.trans (World.drewN_drewN _ _ _) (congrArg (World.drewN _) (Nat.add_assoc _ _ _))⟩); have p125 : 0 ≤ (a1 : Int) := of_decide_eq_true (by with_reducible assumption); have q125 : a1 < (l0.length : Int) := of_decide_eq_true (by with_reducible assumption); obtain ⟨ad125, e125, hx125_0⟩ := Kd.at_int HR0.out a1 p125 q125; obtain rfl : ad122 = ad125 := (by injection e125); replace p125 := eq_true p125; replace q125 := eq_true q125; have p126 : 0 ≤ ((ji7) : Int) := of_decide_eq_true (by with_reducible assumption); have q126 : (ji7) < (l0.length : Int) := of_decide_eq_true (by with_reducible assumption); obtain ⟨ad126, e126, hx126_0⟩ := Kd.at_int HR0.out (ji7) p126 q126; obtain rfl : ad122 = ad126 := (by injection e126); replace p126 := eq_true p126; replace q126 := eq_true q126) | (go_at_call 113; (with_reducible refine (spec_l1Most.calls (rd l0 a1) (rd l0 (ji7)) t127 _ A11.out).mono ?_); rintro e w' ⟨rfl, ⟨nd, rfl⟩⟩; (try first | exact ⟨rfl, _, World.drewN_drewN _ _ _⟩ | exact ⟨rfl, _, Eq.trans (World.drewN_drewN _ _ _) (congrArg (World.drewN _) (Nat.add_assoc _ _ _))⟩); have p128 : 0 ≤ (a2 : Int) := of_decide_eq_true (by with_reducible assumption); have q128 : a2 < (l0.length : Int) := of_decide_eq_true (by with_reducible assumption); obtain ⟨ad128, e128, hx128_0⟩ := Kd.at_int HR0.out a2 p128 q128; obtain rfl : ad122 = ad128 := (by injection e128); replace p128 := eq_true p128; replace q128 := eq_true q128; have p129 : 0 ≤ ((ji14) : Int) := of_decide_eq_true (by with_reducible assumption); have q129 : (ji14) < (l0.length : Int) := of_decide_eq_true (by with_reducible assumption); obtain ⟨ad129, e129, hx129_0⟩ := Kd.at_int HR0.out (ji14) p129 q129; obtain rfl : ad122 = ad129 := (by injection e129); replace p129 := eq_true p129; replace q129 := eq_true q129) | (go_at_call 112; (with_reducible refine (spec_l1Least.calls (rd l0 a2) (rd l0 (ji14)) t130 _ A17.out).mono ?_); rintro e w' ⟨rfl, ⟨nd, rfl⟩⟩; (try first | exact ⟨rfl, _, World.drewN_drewN _ _ _⟩ | exact ⟨rfl, _, Eq.trans (World.drewN_drewN _ _ _) (congrArg (World.drewN _) (Nat.add_assoc _ _ _))⟩); have p131 : 0 ≤ (a2 : Int) := of_decide_eq_true (by with_reducible assumption); have q131 : a2 < (l0.length : Int) := of_decide_eq_true (by with_reducible assumption); obtain ⟨ad131, e131, hx131_0⟩ := Kd.at_int HR0.out a2 p131 q131; obtain rfl : ad122 = ad131 := (by injection e131); replace p131 := eq_true p131; replace q131 := eq_true q131; have p132 : 0 ≤ ((ji14) : Int) := of_decide_eq_true (by with_reducible assumption); have q132 : (ji14) < (l0.length : Int) := of_decide_eq_true (by with_reducible assumption); obtain ⟨ad132, e132, hx132_0⟩ := Kd.at_int HR0.out (ji14) p132 q132; obtain rfl : ad122 = ad132 := (by injection e132); replace p132 := eq_true p132; replace q132 := eq_true q132) | (go_at_call 113; (with_reducible refine (spec_l1Most.calls (rd l0 a2) (rd l0 (ji14)) t133 _ A18.out).mono ?_); rintro e w' ⟨rfl, ⟨nd, rfl⟩⟩; (try first | exact ⟨rfl, _, World.drewN_drewN _ _ _⟩ | exact ⟨rfl, _, Eq.trans (World.drewN_drewN _ _ _) (congrArg (World.drewN _) (Nat.add_assoc _ _ _))⟩)))
                        repeat (go_quiet (first | (go_at_call 112; (with_reducible refine (spec_l1Least.calls (rd l0 a1) (rd l0 (ji7)) t124 _ A10.out).mono ?_); rintro e w' ⟨rfl, ⟨nd, rfl⟩⟩; (try first | exact ⟨rfl, _, World.drewN_drewN _ _ _⟩ | exact ⟨rfl, _, Eq.trans (World.drewN_drewN _ _ _) (congrArg (World.drewN _) (Nat.add_assoc _ _ _))⟩); have p125 : 0 ≤ (a1 : Int) := of_decide_eq_true (by with_reducible assumption); have q125 : a1 < (l0.length : Int) := of_decide_eq_true (by with_reducible assumption); obtain ⟨ad125, e125, hx125_0⟩ := Kd.at_int HR0.out a1 p125 q125; obtain rfl : ad122 = ad125 := (by injection e125); replace p125 := eq_true p125; replace q125 := eq_true q125; have p126 : 0 ≤ ((ji7) : Int) := of_decide_eq_true (by with_reducible assumption); have q126 : (ji7) < (l0.length : Int) := of_decide_eq_true (by with_reducible assumption); obtain ⟨ad126, e126, hx126_0⟩ := Kd.at_int HR0.out (ji7) p126 q126; obtain rfl : ad122 = ad126 := (by injection e126); replace p126 := eq_true p126; replace q126 := eq_true q126) | (go_at_call 113; (with_reducible refine (spec_l1Most.calls (rd l0 a1) (rd l0 (ji7)) t127 _ A11.out).mono ?_); rintro e w' ⟨rfl, ⟨nd, rfl⟩⟩; (try first | exact ⟨rfl, _, World.drewN_drewN _ _ _⟩ | exact ⟨rfl, _, Eq.trans (World.drewN_drewN _ _ _) (congrArg (World.drewN _) (Nat.add_assoc _ _ _))⟩); have p128 : 0 ≤ (a2 : Int) := of_decide_eq_true (by with_reducible assumption); have q128 : a2 < (l0.length : Int) := of_decide_eq_true (by with_reducible assumption); obtain ⟨ad128, e128, hx128_0⟩ := Kd.at_int HR0.out a2 p128 q128; obtain rfl : ad122 = ad128 := (by injection e128); replace p128 := eq_true p128; replace q128 := eq_true q128; have p129 : 0 ≤ ((ji14) : Int) := of_decide_eq_true (by with_reducible assumption); have q129 : (ji14) < (l0.length : Int) := of_decide_eq_true (by with_reducible assumption); obtain ⟨ad129, e129, hx129_0⟩ := Kd.at_int HR0.out (ji14) p129 q129; obtain rfl : ad122 = ad129 := (by injection e129); replace p129 := eq_true p129; replace q129 := eq_true q129) | (go_at_call 112; (with_reducible refine (spec_l1Least.calls (rd l0 a2) (rd l0 (ji14)) t130 _ A17.out).mono ?_); rintro e w' ⟨rfl, ⟨nd, rfl⟩⟩; (try first | exact ⟨rfl, _, World.drewN_drewN _ _ _⟩ | exact ⟨rfl, _, Eq.trans (World.drewN_drewN _ _ _) (congrArg (World.drewN _) (Nat.add_assoc _ _ _))⟩); have p131 : 0 ≤ (a2 : Int) := of_decide_eq_true (by with_reducible assumption); have q131 : a2 < (l0.length : Int) := of_decide_eq_true (by with_reducible assumption); obtain ⟨ad131, e131, hx131_0⟩ := Kd.at_int HR0.out a2 p131 q131; obtain rfl : ad122 = ad131 := (by injection e131); replace p131 := eq_true p131; replace q131 := eq_true q131; have p132 : 0 ≤ ((ji14) : Int) := of_decide_eq_true (by with_reducible assumption); have q132 : (ji14) < (l0.length : Int) := of_decide_eq_true (by with_reducible assumption); obtain ⟨ad132, e132, hx132_0⟩ := Kd.at_int HR0.out (ji14) p132 q132; obtain rfl : ad122 = ad132 := (by injection e132); replace p132 := eq_true p132; replace q132 := eq_true q132) | (go_at_call 113; (with_reducible refine (spec_l1Most.calls (rd l0 a2) (rd l0 (ji14)) t133 _ A18.out).mono ?_); rintro e w' ⟨rfl, ⟨nd, rfl⟩⟩; (try first | exact ⟨rfl, _, World.drewN_drewN _ _ _⟩ | exact ⟨rfl, _, Eq.trans (World.drewN_drewN _ _ _) (congrArg (World.drewN _) (Nat.add_assoc _ _ _))⟩))); try go_wp2_with (first | (go_at_call 112; (with_reducible refine (spec_l1Least.calls (rd l0 a1) (rd l0 (ji7)) t124 _ A10.out).mono ?_); rintro e w' ⟨rfl, ⟨nd, rfl⟩⟩; (try first | exact ⟨rfl, _, World.drewN_drewN _ _ _⟩ | exact ⟨rfl, _, Eq.trans (World.drewN_drewN _ _ _) (congrArg (World.drewN _) (Nat.add_assoc _ _ _))⟩); have p125 : 0 ≤ (a1 : Int) := of_decide_eq_true (by with_reducible assumption); have q125 : a1 < (l0.length : Int) := of_decide_eq_true (by with_reducible assumption); obtain ⟨ad125, e125, hx125_0⟩ := Kd.at_int HR0.out a1 p125 q125; obtain rfl : ad122 = ad125 := (by injection e125); replace p125 := eq_true p125; replace q125 := eq_true q125; have p126 : 0 ≤ ((ji7) : Int) := of_decide_eq_true (by with_reducible assumption); have q126 : (ji7) < (l0.length : Int) := of_decide_eq_true (by with_reducible assumption); obtain ⟨ad126, e126, hx126_0⟩ := Kd.at_int HR0.out (ji7) p126 q126; obtain rfl : ad122 = ad126 := (by injection e126); replace p126 := eq_true p126; replace q126 := eq_true q126) | (go_at_call 113; (with_reducible refine (spec_l1Most.calls (rd l0 a1) (rd l0 (ji7)) t127 _ A11.out).mono ?_); rintro e w' ⟨rfl, ⟨nd, rfl⟩⟩; (try first | exact ⟨rfl, _, World.drewN_drewN _ _ _⟩ | exact ⟨rfl, _, Eq.trans (World.drewN_drewN _ _ _) (congrArg (World.drewN _) (Nat.add_assoc _ _ _))⟩); have p128 : 0 ≤ (a2 : Int) := of_decide_eq_true (by with_reducible assumption); have q128 : a2 < (l0.length : Int) := of_decide_eq_true (by with_reducible assumption); obtain ⟨ad128, e128, hx128_0⟩ := Kd.at_int HR0.out a2 p128 q128; obtain rfl : ad122 = ad128 := (by injection e128); replace p128 := eq_true p128; replace q128 := eq_true q128; have p129 : 0 ≤ ((ji14) : Int) := of_decide_eq_true (by with_reducible assumption); have q129 : (ji14) < (l0.length : Int) := of_decide_eq_true (by with_reducible assumption); obtain ⟨ad129, e129, hx129_0⟩ := Kd.at_int HR0.out (ji14) p129 q129; obtain rfl : ad122 = ad129 := (by injection e129); replace p129 := eq_true p129; replace q129 := eq_true q129) | (go_at_call 112; (with_reducible refine (spec_l1Least.calls (rd l0 a2) (rd l0 (ji14)) t130 _ A17.out).mono ?_); rintro e w' ⟨rfl, ⟨nd, rfl⟩⟩; (try first | exact ⟨rfl, _, World.drewN_drewN _ _ _⟩ | exact ⟨rfl, _, Eq.trans (World.drewN_drewN _ _ _) (congrArg (World.drewN _) (Nat.add_assoc _ _ _))⟩); have p131 : 0 ≤ (a2 : Int) := of_decide_eq_true (by with_reducible assumption); have q131 : a2 < (l0.length : Int) := of_decide_eq_true (by with_reducible assumption); obtain ⟨ad131, e131, hx131_0⟩ := Kd.at_int HR0.out a2 p131 q131; obtain rfl : ad122 = ad131 := (by injection e131); replace p131 := eq_true p131; replace q131 := eq_true q131; have p132 : 0 ≤ ((ji14) : Int) := of_decide_eq_true (by with_reducible assumption); have q132 : (ji14) < (l0.length : Int) := of_decide_eq_true (by with_reducible assumption); obtain ⟨ad132, e132, hx132_0⟩ := Kd.at_int HR0.out (ji14) p132 q132; obtain rfl : ad122 = ad132 := (by injection e132); replace p132 := eq_true p132; replace q132 := eq_true q132) | (go_at_call 113; (with_reducible refine (spec_l1Most.calls (rd l0 a2) (rd l0 (ji14)) t133 _ A18.out).mono ?_); rintro e w' ⟨rfl, ⟨nd, rfl⟩⟩; (try first | exact ⟨rfl, _, World.drewN_drewN _ _ _⟩ | exact ⟨rfl, _, Eq.trans (World.drewN_drewN _ _ _) (congrArg (World.drewN _) (Nat.add_assoc _ _ _))⟩))))
                        go_ret
                        exact ⟨by first | rfl | (simp; done) | (simp only [← hji7, ← hji14] <;> (first | rfl | simp)) | (simp [*]; done), by repeat (first | exact Drawn0.refl _ | apply Drawn0.step)⟩
                  · rw [if_neg c16] at H
                    exact absurd H (by simp)
                · rw [if_neg c15] at H
                  exact absurd H (by simp)
              · rw [if_neg c13] at H
                exact absurd H (by simp)
            · rw [if_neg c12] at H
              exact absurd H (by simp)
          · rw [if_neg c9] at H
            exact absurd H (by simp)
        · rw [if_neg c8] at H
          exact absurd H (by simp)
      · rw [if_neg c6] at H
        exact absurd H (by simp)
    · rw [if_neg c5] at H
      exact absurd H (by simp)

end Go.Proofs.Ytjgkcknopnollaa.Q
