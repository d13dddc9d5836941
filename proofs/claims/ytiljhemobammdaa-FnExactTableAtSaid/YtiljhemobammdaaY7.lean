-- printed by wip/drv/xprint.py (our driver) out of the translation; Lean checks it
import Derived.Test.YtiljhemobammdaaY0
import Derived.Test.YtiljhemobammdaaY1
import Derived.Test.YtiljhemobammdaaY3
import Derived.Test.YtiljhemobammdaaY5
import Derived.Test.YtiljhemobammdaaY6
namespace Go.Proofs.Ytiljhemobammdaa.Y
open Go.RowKit Go.Proofs.YtiljhemobammdaaW.PrintWords Go.Proofs.YtiljhemobammdaaW.PrintLast Go.Proofs.YtiljhemobammdaaW.PrintMore
attribute [local go_sem] max2_int min2_int max_two min_two max_three min_three max_four min_four   -- for this text's walks alone
set_option linter.unusedVariables false
set_option linter.unusedSimpArgs false

/-! ### spec_TableAt: function 15 -/
def spec_TableAt.f (k : Nat) (a0 : Int) (a1 : Int) : Option ((List (List Int)) × Bool) := (spec_taAsked.f a0 a1).bind fun t293 => (if t293 = true then ((spec_taTable.f k a0 a1).bind fun t294 => (some (t294, true))) else (some (([] : List (List Int)), false)))
theorem spec_TableAt.mono : ∀ a0 a1 k, LeO (spec_TableAt.f k a0 a1) (spec_TableAt.f (k + 1) a0 a1) := by
  intro a0 a1 k
  unfold spec_TableAt.f
  repeat' first
      | (with_reducible exact spec_taTable.mono _ _ _)
      | (with_reducible exact LeO.refl _)
      | (with_reducible exact LeO.none _)
      | (with_reducible refine LeO.ite ?_ ?_)
      | (with_reducible refine LeO.bind ?_ (fun _ => ?_))
      | exact spec_taTable.mono _ _ _
      | exact LeO.none _
      | refine LeO.ite ?_ ?_
      | refine LeO.bind ?_ (fun _ => ?_)
set_option maxHeartbeats 8000000 in
set_option maxRecDepth 100000 in
theorem spec_TableAt.calls (k : Nat) (a0 : Int) (a1 : Int) (r1 : List (List Int)) (r2 : Bool) (w : World) (h : spec_TableAt.f k a0 a1 = some (r1, r2)) :
    Calls Try.prog 15 #[.int .i64 a0, .int .i64 a1] w fun e w' => ∃ v0_ : Value, e = .returned (.tuple #[v0_, .bool r2]) ∧ Kd.S (Kd.slice 3 (Kd.int .i64)) 34 w' w.heap.size (fun _ => True) v0_ r1 ∧ Below w.heap.size w w' := by
  have HB := Aside0.mk (Below.refl w.heap.size w)
  have H : ((spec_taAsked.f a0 a1).bind fun t293 => (if t293 = true then ((spec_taTable.f k a0 a1).bind fun t294 => (some (t294, true))) else (some (([] : List (List Int)), false)))) = some (r1, r2) := h
  clear h
  replace H := Option.bind_eq_some_iff.mp H
  obtain ⟨t293, A30, H⟩ := H
  replace H : (if t293 = true then ((spec_taTable.f k a0 a1).bind fun t294 => (some (t294, true))) else (some (([] : List (List Int)), false))) = some (r1, r2) := H
  have A3 := Aside0.mk A30
  clear A30
  by_cases c4 : t293 = true
  · subst c4
    have H1 : ((spec_taTable.f k a0 a1).bind fun t294 => (some (t294, true))) = some (r1, r2) := by rw [if_pos rfl] at H; exact H
    clear H
    have H := H1
    clear H1
    replace H := Option.bind_eq_some_iff.mp H
    obtain ⟨t294, A50, H⟩ := H
    replace H : (some (t294, true)) = some (r1, r2) := H
    have A5 := Aside0.mk A50
    clear A50
    simp only [Option.some.injEq, Prod.mk.injEq] at H
    obtain ⟨rfl, rfl⟩ := H
    go_enter Try.func15, Try.ntmps15
    go_wp2_with (first | ((with_reducible refine gate_callee (f := 40) rfl ?_); refine goesL_ (some 8) rfl rfl Try.func40 (by kernel_rfl) rfl #[.int .i64 a0, .int .i64 a1] rfl (by (try simp only [List.map_toArray, List.map_cons, List.map_nil]); first | done | rfl | (simp only [List.length_drop, List.length_take]; rfl)) ?_; (with_reducible refine (spec_taAsked.calls a0 a1 true _ A3.out).mono ?_); rintro e w' ⟨rfl, ⟨nd, rfl⟩⟩; refine ⟨_, rfl, ?_⟩) | ((with_reducible refine gate_callee (f := 41) rfl ?_); refine goesL_ (some 12) rfl rfl Try.func41 (by kernel_rfl) rfl #[.int .i64 a0, .int .i64 a1] rfl (by (try simp only [List.map_toArray, List.map_cons, List.map_nil]); first | done | rfl | (simp only [List.length_drop, List.length_take]; rfl)) ?_; (with_reducible refine (spec_taTable.calls k a0 a1 t294 _ A5.out).mono ?_); rintro e w6 ⟨v295, rfl, ho0, hb⟩; refine ⟨_, rfl, ?_⟩; have n0_ := Aside0.mk (Kd.S_lower ho0 (below_size (by repeat (first | (with_reducible first | exact HB.out | apply below_alloc | apply pw_below_drewN | apply below_drew1) | exact HB.out)))); have n1_ := Aside0.mk (below_step (by repeat (first | (with_reducible first | exact HB.out | apply below_alloc | apply pw_below_drewN | apply below_drew1) | exact HB.out)) hb); clear HB; have HO296 := n0_; have HB := n1_; clear n0_ n1_; (try clear hb); (try clear hb2); (try clear hk); (try clear hi); (try clear ho0)))
    go_ret2
    exact ⟨_, by first | rfl | (simp [errW_none, errW_some] <;> rfl) | (simp [*, errW_none, errW_some] <;> rfl), by (with_reducible repeat (first | apply Kd.S_alloc | apply Kd.S_drewN | apply Kd.S_drew)); exact HO296.out, by repeat (first | (with_reducible first | exact HB.out | apply below_alloc | apply pw_below_drewN | apply below_drew1) | exact HB.out)⟩
  · replace c4 := Bool.eq_false_iff.mpr c4
    subst c4
    have H1 : (some (([] : List (List Int)), false)) = some (r1, r2) := by rw [if_neg (show ¬ (false = true) by decide)] at H; exact H
    clear H
    have H := H1
    clear H1
    simp only [Option.some.injEq, Prod.mk.injEq] at H
    obtain ⟨rfl, rfl⟩ := H
    go_enter Try.func15, Try.ntmps15
    go_wp2_with (first | ((with_reducible refine gate_callee (f := 40) rfl ?_); refine goesL_ (some 8) rfl rfl Try.func40 (by kernel_rfl) rfl #[.int .i64 a0, .int .i64 a1] rfl (by (try simp only [List.map_toArray, List.map_cons, List.map_nil]); first | done | rfl | (simp only [List.length_drop, List.length_take]; rfl)) ?_; (with_reducible refine (spec_taAsked.calls a0 a1 false _ A3.out).mono ?_); rintro e w' ⟨rfl, ⟨nd, rfl⟩⟩; refine ⟨_, rfl, ?_⟩))
    go_ret2
    exact ⟨_, by first | rfl | (simp [errW_none, errW_some] <;> rfl) | (simp [*, errW_none, errW_some] <;> rfl), by first | exact Kd.S_nil _ _ _ _ _ | exact Kd.N_nil _ _ _ _ _ | exact Kd.V_nil _ _ _ _ _ | exact Kd.Q_nil _ _ _ _ _ | exact Kd.R_nil _ _ _ _ _, by repeat (first | (with_reducible first | exact HB.out | apply below_alloc | apply pw_below_drewN | apply below_drew1) | exact HB.out)⟩

/-! ### impl_isTable: function 42 -/
def impl_isTable.f (a0 : Int) (a1 : Int) : Option (Bool) := (impl_in.f a0 0 4).bind fun t297 => (if t297 = true then ((impl_in.f a1 (-3) 3).bind fun t298 => (if t298 = true then (if a0 < 4 then (some true) else ((impl_in.f a1 (-2) 2).bind fun t299 => (some t299))) else (some false))) else (some false))
set_option maxHeartbeats 8000000 in
set_option maxRecDepth 100000 in
theorem impl_isTable.calls (a0 : Int) (a1 : Int) (r : Bool) (w : World) (h : impl_isTable.f a0 a1 = some r) :
    Calls Try.prog 42 #[.int .i64 a0, .int .i64 a1] w fun e w' => e = .returned (.bool r) ∧ Drawn0 w w' := by
  have H : ((impl_in.f a0 0 4).bind fun t297 => (if t297 = true then ((impl_in.f a1 (-3) 3).bind fun t298 => (if t298 = true then (if a0 < 4 then (some true) else ((impl_in.f a1 (-2) 2).bind fun t299 => (some t299))) else (some false))) else (some false))) = some r := h
  clear h
  replace H := Option.bind_eq_some_iff.mp H
  obtain ⟨t297, A30, H⟩ := H
  replace H : (if t297 = true then ((impl_in.f a1 (-3) 3).bind fun t298 => (if t298 = true then (if a0 < 4 then (some true) else ((impl_in.f a1 (-2) 2).bind fun t299 => (some t299))) else (some false))) else (some false)) = some r := H
  have A3 := Aside0.mk A30
  clear A30
  by_cases c4 : t297 = true
  · subst c4
    have H1 : ((impl_in.f a1 (-3) 3).bind fun t298 => (if t298 = true then (if a0 < 4 then (some true) else ((impl_in.f a1 (-2) 2).bind fun t299 => (some t299))) else (some false))) = some r := by rw [if_pos rfl] at H; exact H
    clear H
    have H := H1
    clear H1
    replace H := Option.bind_eq_some_iff.mp H
    obtain ⟨t298, A50, H⟩ := H
    replace H : (if t298 = true then (if a0 < 4 then (some true) else ((impl_in.f a1 (-2) 2).bind fun t299 => (some t299))) else (some false)) = some r := H
    have A5 := Aside0.mk A50
    clear A50
    by_cases c6 : t298 = true
    · subst c6
      have H1 : (if a0 < 4 then (some true) else ((impl_in.f a1 (-2) 2).bind fun t299 => (some t299))) = some r := by rw [if_pos rfl] at H; exact H
      clear H
      have H := H1
      clear H1
      by_cases c7 : a0 < 4
      · rw [if_pos c7] at H
        have c7b0 : decide (a0 < 4) = true := decide_eq_true c7
        clear c7
        obtain rfl := Option.some.inj H
        go_enter Try.func42, Try.ntmps42
        go_wp2_with (first | ((with_reducible refine gate_callee (f := 45) rfl ?_); refine goesL_ (some 6) rfl rfl Try.func45 (by kernel_rfl) rfl #[.int .i64 a0, .int .i64 0, .int .i64 4] rfl (by (try simp only [List.map_toArray, List.map_cons, List.map_nil]); first | done | rfl | (simp only [List.length_drop, List.length_take]; rfl)) ?_; (with_reducible refine (impl_in.calls a0 0 4 true _ A3.out).mono ?_); rintro e w' ⟨rfl, ⟨nd, rfl⟩⟩; refine ⟨_, rfl, ?_⟩) | (go_at_call 45; (with_reducible refine (impl_in.calls a1 (-3) 3 true _ A5.out).mono ?_); rintro e w' ⟨rfl, ⟨nd, rfl⟩⟩))
        go_ret
        exact ⟨by first | rfl | (simp; done) | (simp [*]; done), by repeat (first | exact Drawn0.refl _ | apply Drawn0.step)⟩
      · rw [if_neg c7] at H
        have c7b0 : decide (a0 < 4) = false := decide_eq_false c7
        clear c7
        replace H := Option.bind_eq_some_iff.mp H
        obtain ⟨t299, A80, H⟩ := H
        replace H : (some t299) = some r := H
        have A8 := Aside0.mk A80
        clear A80
        obtain rfl := Option.some.inj H
        go_enter Try.func42, Try.ntmps42
        go_wp2_with (first | ((with_reducible refine gate_callee (f := 45) rfl ?_); refine goesL_ (some 6) rfl rfl Try.func45 (by kernel_rfl) rfl #[.int .i64 a0, .int .i64 0, .int .i64 4] rfl (by (try simp only [List.map_toArray, List.map_cons, List.map_nil]); first | done | rfl | (simp only [List.length_drop, List.length_take]; rfl)) ?_; (with_reducible refine (impl_in.calls a0 0 4 true _ A3.out).mono ?_); rintro e w' ⟨rfl, ⟨nd, rfl⟩⟩; refine ⟨_, rfl, ?_⟩) | (go_at_call 45; (with_reducible refine (impl_in.calls a1 (-3) 3 true _ A5.out).mono ?_); rintro e w' ⟨rfl, ⟨nd, rfl⟩⟩) | (go_at_call 45; (with_reducible refine (impl_in.calls a1 (-2) 2 t299 _ A8.out).mono ?_); rintro e w' ⟨rfl, ⟨nd, rfl⟩⟩))
        go_ret
        exact ⟨by first | rfl | (simp; done) | (simp [*]; done), by repeat (first | exact Drawn0.refl _ | apply Drawn0.step)⟩
    · replace c6 := Bool.eq_false_iff.mpr c6
      subst c6
      have H1 : (some false) = some r := by rw [if_neg (show ¬ (false = true) by decide)] at H; exact H
      clear H
      have H := H1
      clear H1
      obtain rfl := Option.some.inj H
      go_enter Try.func42, Try.ntmps42
      go_wp2_with (first | ((with_reducible refine gate_callee (f := 45) rfl ?_); refine goesL_ (some 6) rfl rfl Try.func45 (by kernel_rfl) rfl #[.int .i64 a0, .int .i64 0, .int .i64 4] rfl (by (try simp only [List.map_toArray, List.map_cons, List.map_nil]); first | done | rfl | (simp only [List.length_drop, List.length_take]; rfl)) ?_; (with_reducible refine (impl_in.calls a0 0 4 true _ A3.out).mono ?_); rintro e w' ⟨rfl, ⟨nd, rfl⟩⟩; refine ⟨_, rfl, ?_⟩) | (go_at_call 45; (with_reducible refine (impl_in.calls a1 (-3) 3 false _ A5.out).mono ?_); rintro e w' ⟨rfl, ⟨nd, rfl⟩⟩))
      go_ret
      exact ⟨by first | rfl | (simp; done) | (simp [*]; done), by repeat (first | exact Drawn0.refl _ | apply Drawn0.step)⟩
  · replace c4 := Bool.eq_false_iff.mpr c4
    subst c4
    have H1 : (some false) = some r := by rw [if_neg (show ¬ (false = true) by decide)] at H; exact H
    clear H
    have H := H1
    clear H1
    obtain rfl := Option.some.inj H
    go_enter Try.func42, Try.ntmps42
    go_wp2_with (first | ((with_reducible refine gate_callee (f := 45) rfl ?_); refine goesL_ (some 6) rfl rfl Try.func45 (by kernel_rfl) rfl #[.int .i64 a0, .int .i64 0, .int .i64 4] rfl (by (try simp only [List.map_toArray, List.map_cons, List.map_nil]); first | done | rfl | (simp only [List.length_drop, List.length_take]; rfl)) ?_; (with_reducible refine (impl_in.calls a0 0 4 false _ A3.out).mono ?_); rintro e w' ⟨rfl, ⟨nd, rfl⟩⟩; refine ⟨_, rfl, ?_⟩))
    go_ret
    exact ⟨by first | rfl | (simp; done) | (simp [*]; done), by repeat (first | exact Drawn0.refl _ | apply Drawn0.step)⟩

/-! ### impl_power: function 61 -/
def impl_power.l0 : Nat → Int → Int → Int → Int → Option (Int)
  | 0, _, _, _, _ => none
  | k + 1, x0, x5, x6, x7 => if x7 < x6 then (impl_power.l0 k x0 (wrap64 (x5 * x0)) x6 (wrap64 (x7 + 1))) else (some x5)
def impl_power.f (k : Nat) (a0 : Int) (a1 : Int) : Option (Int) := impl_power.l0 k a0 1 a1 0
theorem impl_power.mono_l : ∀ k, (∀ y0 y1 y2 y3, LeO (impl_power.l0 k y0 y1 y2 y3) (impl_power.l0 (k + 1) y0 y1 y2 y3))
  | 0 => fun _ _ _ _ r h => by simp [impl_power.l0] at h
  | k + 1 => by
    have ih0 := impl_power.mono_l k
    · intro y0 y1 y2 y3
      unfold impl_power.l0
      repeat' first
      | (with_reducible exact ih0 _ _ _ _)
      | (with_reducible exact LeO.refl _)
      | (with_reducible exact LeO.none _)
      | (with_reducible refine LeO.ite ?_ ?_)
      | (with_reducible refine LeO.bind ?_ (fun _ => ?_))
      | exact ih0 _ _ _ _
      | exact LeO.none _
      | refine LeO.ite ?_ ?_
      | refine LeO.bind ?_ (fun _ => ?_)
theorem impl_power.mono : ∀ a0 a1 k, LeO (impl_power.f k a0 a1) (impl_power.f (k + 1) a0 a1) := by
  intro a0 a1 k
  have ih0 := impl_power.mono_l k
  unfold impl_power.f
  repeat' first
      | (with_reducible exact ih0 _ _ _ _)
      | (with_reducible exact LeO.refl _)
      | (with_reducible exact LeO.none _)
      | (with_reducible refine LeO.ite ?_ ?_)
      | (with_reducible refine LeO.bind ?_ (fun _ => ?_))
      | exact ih0 _ _ _ _
      | exact LeO.none _
      | refine LeO.ite ?_ ?_
      | refine LeO.bind ?_ (fun _ => ?_)
set_option maxHeartbeats 8000000 in
set_option maxRecDepth 100000 in
theorem impl_power.calls (k : Nat) (a0 : Int) (a1 : Int) (r : Int) (w : World) (h : impl_power.f k a0 a1 = some r) :
    Calls Try.prog 61 #[.int .i64 a0, .int .i64 a1] w fun e w' => e = .returned (.int .i64 r) ∧ Drawn0 w w' := by
  have H : (impl_power.l0 k a0 1 a1 0) = some r := h
  clear h
  have H' := Aside0.mk H
  clear H
  go_enter Try.func61, Try.ntmps61
  go_wp2
  go_loopg [5, 7] k (fun kq v5 v7 w' => ∃ (x5_1 : Int) (x7_1 : Int), v5 = .int .i64 x5_1 ∧ v7 = .int .i64 x7_1 ∧ Aside0 (impl_power.l0 kq a0 x5_1 a1 x7_1 = some r) ∧ Aside0 (kq ≤ k) ∧ Drawn0 w w')
  case atStart => exact ⟨(1), (0), (by first | rfl | (simp; done) | (simp [*]; done)), (by first | rfl | (simp; done) | (simp [*]; done)), H', ⟨Nat.le_refl _⟩, by repeat (first | exact Drawn0.refl _ | apply Drawn0.step)⟩
  case round =>
    clear H'
    try clear p2
    obtain ⟨x5_1, x7_1, rfl, rfl, HA, HK1, ⟨m1, rfl⟩⟩ := hrel
    cases gk with
    | zero => exact absurd HA.out (by simp [impl_power.l0])
    | succ k1 =>
      have H := HA.out
      clear HA
      simp only [impl_power.l0] at H
      by_cases c3 : x7_1 < a1
      · rw [if_pos c3] at H
        have c3b0 : decide (x7_1 < a1) = true := decide_eq_true c3
        clear c3
        have H' := Aside0.mk H
        clear H
        go_wp2
        go_roundg k1
        case measure => have := HK1.out; omega
        case rel => exact ⟨(wrap64 (x5_1 * a0)), (wrap64 (x7_1 + 1)), (by first | rfl | (simp; done) | (simp [*]; done)), (by first | rfl | (simp; done) | (simp [*]; done)), H', ⟨by have := HK1.out; omega⟩, by repeat (first | exact Drawn0.refl _ | apply Drawn0.step)⟩
      · rw [if_neg c3] at H
        have c3b0 : decide (x7_1 < a1) = false := decide_eq_false c3
        clear c3
        obtain rfl := Option.some.inj H
        go_wp2
        go_ret
        exact ⟨by first | rfl | (simp; done) | (simp [*]; done), by repeat (first | exact Drawn0.refl _ | apply Drawn0.step)⟩

/-! ### impl_table: function 43 -/
def impl_table.row (k : Nat) (x : Int) : List Int → Option (List Int)
  | [] => some []
  | v :: t => (impl_power.f k x v).bind fun p => (impl_table.row k x t).bind fun r => some (p :: r)
def impl_table.tab (k : Nat) (x : Int) : List (List Int) → Option (List (List Int))
  | [] => some []
  | v :: t => (impl_table.row k x v).bind fun p => (impl_table.tab k x t).bind fun r => some (p :: r)
def impl_table.f (k : Nat) (a0 a1 : Int) : Option (List (List Int)) := (impl_exponents.f k a0).bind fun R => impl_table.tab k a1 R
theorem impl_table.row_mono (k : Nat) (x : Int) : ∀ l, LeO (impl_table.row k x l) (impl_table.row (k + 1) x l)
  | [] => LeO.refl _
  | v :: t => LeO.bind (impl_power.mono _ _ _) (fun _ => LeO.bind (impl_table.row_mono k x t) (fun _ => LeO.refl _))
theorem impl_table.tab_mono (k : Nat) (x : Int) : ∀ l, LeO (impl_table.tab k x l) (impl_table.tab (k + 1) x l)
  | [] => LeO.refl _
  | v :: t => LeO.bind (impl_table.row_mono k x v) (fun _ => LeO.bind (impl_table.tab_mono k x t) (fun _ => LeO.refl _))
theorem impl_table.mono : ∀ a0 a1 k, LeO (impl_table.f k a0 a1) (impl_table.f (k + 1) a0 a1) := fun a0 a1 k => LeO.bind (impl_exponents.mono _ _) (fun _ => impl_table.tab_mono k a1 _)
theorem impl_table.row_get (k : Nat) (x : Int) : ∀ (l T : List Int), impl_table.row k x l = some T → T.length = l.length ∧ ∀ i (h : i < l.length) (h2 : i < T.length), impl_power.f k x l[i] = some T[i]
  | [], T, h => by
    obtain rfl := Option.some.inj h
    exact ⟨rfl, fun i h => absurd h (Nat.not_lt_zero _)⟩
  | v :: t, T, h => by
    obtain ⟨p, hp, h⟩ := Option.bind_eq_some_iff.mp h
    obtain ⟨r, hr, h⟩ := Option.bind_eq_some_iff.mp h
    obtain rfl := Option.some.inj h
    have ih := impl_table.row_get k x t r hr
    refine ⟨by simp [ih.1], fun i h1 h2 => ?_⟩
    cases i with
    | zero => exact hp
    | succ i => exact ih.2 i (by simpa using h1) (by simpa using h2)
theorem impl_table.tab_get (k : Nat) (x : Int) : ∀ (l T : List (List Int)), impl_table.tab k x l = some T → T.length = l.length ∧ ∀ i (h : i < l.length) (h2 : i < T.length), impl_table.row k x l[i] = some T[i]
  | [], T, h => by
    obtain rfl := Option.some.inj h
    exact ⟨rfl, fun i h => absurd h (Nat.not_lt_zero _)⟩
  | v :: t, T, h => by
    obtain ⟨p, hp, h⟩ := Option.bind_eq_some_iff.mp h
    obtain ⟨r, hr, h⟩ := Option.bind_eq_some_iff.mp h
    obtain rfl := Option.some.inj h
    have ih := impl_table.tab_get k x t r hr
    refine ⟨by simp [ih.1], fun i h1 h2 => ?_⟩
    cases i with
    | zero => exact hp
    | succ i => exact ih.2 i (by simpa using h1) (by simpa using h2)
theorem impl_table.step {α : Type} (T R : List α) (i : Nat) (h : i < R.length) (hT : i < T.length) : (T.take i ++ R.drop i).set i T[i] = T.take (i + 1) ++ R.drop (i + 1) := by
  have hl : (T.take i).length = i := by rw [List.length_take]; omega
  rw [List.set_append_right _ _ (by omega), hl, Nat.sub_self, List.drop_eq_getElem_cons h, List.set_cons_zero, List.take_succ_eq_append_getElem hT, List.append_assoc]; rfl
theorem impl_table.at_ {α : Type} (T R : List α) (i : Nat) (h : i < R.length) (hT : T.length = R.length) (h2 : i < (T.take i ++ R.drop i).length) : (T.take i ++ R.drop i)[i] = R[i] := by
  have hl : (T.take i).length = i := by rw [List.length_take]; omega
  rw [List.getElem_append_right (by omega)]
  simp [hl]
theorem impl_table.len_ {α : Type} (T R : List α) (i : Nat) (h : i ≤ R.length) (hT : T.length = R.length) : (T.take i ++ R.drop i).length = R.length := by
  rw [List.length_append, List.length_take, List.length_drop]; omega
set_option maxHeartbeats 8000000 in
set_option maxRecDepth 100000 in
theorem impl_table.calls (k : Nat) (a0 a1 : Int) (r : List (List Int)) (w : World) (h : impl_table.f k a0 a1 = some r) :
    Calls Try.prog 43 #[.int .i64 a0, .int .i64 a1] w fun e w' => ∃ v0_ : Value, e = .returned (v0_) ∧ Kd.S (Kd.slice 3 (Kd.int .i64)) 34 w' w.heap.size (fun _ => True) v0_ r ∧ Below w.heap.size w w' := by
  obtain ⟨R, hR, hT⟩ := Option.bind_eq_some_iff.mp h
  obtain ⟨hlen, hget⟩ := impl_table.tab_get k a1 R r hT
  have FR := Aside0.mk hR
  have FG := Aside0.mk hget
  have FL := Aside0.mk hlen
  clear h hR hT hget hlen
  go_enter Try.func43, Try.ntmps43
  go_wp2_with (go_at_call 46; (with_reducible refine (impl_exponents.calls k a0 R _ FR.out).mono ?_); rintro e w2 ⟨v2, rfl, ho, hb⟩; obtain ⟨A, c, rfl⟩ := Kd.S_slice ho; have HO := Aside0.mk ho; have HB := Aside0.mk hb; clear ho hb)
  go_loopg [14] R.length (fun kq v14 w' => ∃ (i : Nat), v14 = .int .i64 i ∧ i ≤ R.length ∧ R.length - i ≤ kq ∧ Aside0 (Kd.S (Kd.slice 3 (Kd.int .i64)) 34 w' w.heap.size (fun _ => True) (.slice A R.length c) (r.take i ++ R.drop i)) ∧ Aside0 (Below w.heap.size w w'))
  case atStart => exact ⟨0, by go_num, Nat.zero_le _, by omega, ⟨by simpa using HO.out⟩, HB⟩
  case round =>
    clear HO HB
    obtain ⟨i, rfl, hi, hg, HO, HB⟩ := hrel
    by_cases hlt : i < R.length
    · have hltz : (i : Int) < (R.length : Int) := by omega
      have hll := impl_table.len_ r R i hi FL.out
      have hrow := FG.out i hlt (by have := FL.out; omega)
      have HRL := Aside0.mk hrow
      obtain ⟨g, v, oki, rfl, hcell, hRw, hoki, hback⟩ := RowsS.S_one i (by omega) HO.out
      rw [impl_table.at_ r R i hlt FL.out (by omega)] at hRw
      obtain ⟨Ai, ci, rfl⟩ := Kd.R_slice hRw
      obtain ⟨hTl, hTg⟩ := impl_table.row_get k a1 _ _ HRL.out
      generalize hrw : R[i] = row at hRw hTl hTg hcell hback HRL
      have hrl : i < r.length := by have := FL.out; omega
      generalize htw : r[i] = T at hTl hTg HRL
      have TW := Aside0.mk htw
      clear htw hrw hrow
      have TL := Aside0.mk hTl
      have TG := Aside0.mk hTg
      have RW := Aside0.mk hRw
      have BK := Aside0.mk hback
      have HK := Aside0.mk (Kept.refl wr oki)
      have HO2 := HO
      clear hTl hTg hRw hback hll hoki HO HRL
      go_wp2
      go_loopg [20] row.length (fun kq v20 w' => ∃ (j : Nat), v20 = .int .i64 j ∧ j ≤ row.length ∧ row.length - j ≤ kq ∧ Aside0 (Kd.R (Kd.int .i64) 3 w' w.heap.size oki (.slice Ai row.length ci) (T.take j ++ row.drop j)) ∧ Aside0 (Kept wr w' oki) ∧ Aside0 (Below w.heap.size w w'))
      case atStart => exact ⟨0, by go_num, Nat.zero_le _, by omega, ⟨by simpa using RW.out⟩, HK, HB⟩
      case round =>
        clear RW HK HB
        obtain ⟨j, rfl, hj, hgj, RW, HK, HB⟩ := hrel
        by_cases hltj : j < row.length
        · have hltzj : (j : Int) < (row.length : Int) := by omega
          have hlj := impl_table.len_ T row j hj TL.out
          obtain ⟨go, co, eo, gb, gl, cl, HG⟩ := Kd.R_form RW.out (by omega)
          injection eo with e1 e2 e3
          subst e1 e3
          have p5 : (0 : Int) ≤ (j : Int) := by omega
          have q5 : (j : Int) < ((row.length : Nat) : Int) := by omega
          obtain ⟨hx, hf⟩ := Kd.R_celln 0 RW.out (j : Int) p5 q5
          have hv : rdOf 0 (T.take j ++ row.drop j) (j : Int) = row[j] := by
            unfold rdOf
            rw [Int.toNat_natCast, List.getD_eq_getElem?_getD, List.getElem?_eq_getElem (by omega)]
            exact impl_table.at_ T row j hltj TL.out (by omega)
          have hp := TG.out j hltj (by have := TL.out; omega)
          have FP := Aside0.mk hp
          have HN := Aside0.mk (impl_table.step T row j hltj (by have := TL.out; omega))
          simp only [Int.toNat_natCast] at hx hf
          rw [hv] at hx
          generalize row[j] = vj at hx FP
          clear hv
          generalize T[j]'(by have := TL.out; omega) = tj at FP HN
          clear hp hlj p5 e2
          go_wp2_with (go_at_call 61; (with_reducible refine (impl_power.calls k a1 vj tj _ FP.out).mono ?_); rintro e w4 ⟨rfl, hd⟩; have hb := RowsS.drawn_below hd; clear hd; have RW4 := Aside0.mk (Kd.R_below RW.out hb); have hK4 := Aside0.mk (Kept.below HK.out hb); have hB4 := Aside0.mk (below_step HB.out hb); clear RW HK HB hb hx hf; have RW := RW4; have HK := hK4; have HB := hB4; clear RW4 hK4 hB4; obtain ⟨hx, hf⟩ := Kd.R_celln 0 RW.out (j : Int) (by omega) (by omega); simp only [Int.toNat_natCast] at hx hf)
          have hw1 : wrap64 ((j : Int) + 1) = ((j + 1 : Nat) : Int) := by
            have hm := (Kd.R_reads' RW.out).2.2.2.1
            rw [impl_table.len_ T row j hj TL.out] at hm
            unfold wrap64; omega
          have hP := Kd.R_putg RW.out (j : Int) tj
          rw [Int.toNat_natCast, HN.out] at hP
          have hs1 : Value.int .i64 (wrap64 ((j : Int) + 1)) = Value.int .i64 ((j + 1 : Nat) : Int) := by rw [hw1]
          have hj1 : j + 1 ≤ row.length := hltj
          clear hw1
          go_roundg (row.length - (j + 1))
          case measure => exact Nat.lt_of_lt_of_le (Nat.sub_lt_sub_left hltj (Nat.lt_succ_self j)) hgj
          case rel => exact ⟨j + 1, hs1, hj1, Nat.le_refl _, ⟨hP.1⟩, ⟨Kept.of_grown hP.2 HK.out (fun q hq => .inl (RW.out.1 q hq))⟩, ⟨below_set HB.out gb⟩⟩
        · have hje : j = row.length := by omega
          subst hje
          have hltzj : ¬ ((row.length : Int) < (row.length : Int)) := by omega
          have hrow2 : T.take row.length ++ row.drop row.length = T := by
            rw [List.drop_length, List.append_nil]; exact List.take_of_length_le (Nat.le_of_eq TL.out)
          rw [hrow2] at RW
          have HS := BK.out _ T oki RW.out HK.out
          have hw1 : wrap64 ((i : Int) + 1) = ((i + 1 : Nat) : Int) := by
            have hm := (Kd.S_reads' HO2.out).2.2.2.1
            rw [impl_table.len_ r R i hi FL.out] at hm
            unfold wrap64; omega
          have HN := impl_table.step r R i hlt (by have := FL.out; omega)
          rw [TW.out] at HN
          rw [HN] at HS
          have HS2 := Aside0.mk HS
          clear HS HN hrow2 RW
          go_wp2
          have hi1 : i + 1 ≤ R.length := hlt
          clear hw1
          go_roundg (R.length - (i + 1))
          case measure => exact Nat.lt_of_lt_of_le (Nat.sub_lt_sub_left hlt (Nat.lt_succ_self i)) hg
          case rel => exact ⟨i + 1, by go_num, hi1, Nat.le_refl _, HS2, HB⟩
    · have hie : i = R.length := by omega
      subst hie
      have hltz : ¬ ((R.length : Int) < (R.length : Int)) := by omega
      have hr2 : r.take R.length ++ R.drop R.length = r := by
        rw [List.drop_length, List.append_nil]; exact List.take_of_length_le (Nat.le_of_eq FL.out)
      rw [hr2] at HO
      clear hr2
      go_wp2
      go_ret
      exact ⟨.slice A R.length c, rfl, HO.out, HB.out⟩

/-! ### impl_TableAt: function 16 -/
def impl_TableAt.f (k : Nat) (a0 : Int) (a1 : Int) : Option ((List (List Int)) × Bool) := (impl_isTable.f a0 a1).bind fun t300 => (if t300 = true then ((impl_table.f k a0 a1).bind fun t301 => (some (t301, true))) else (some (([] : List (List Int)), false)))
theorem impl_TableAt.mono : ∀ a0 a1 k, LeO (impl_TableAt.f k a0 a1) (impl_TableAt.f (k + 1) a0 a1) := by
  intro a0 a1 k
  unfold impl_TableAt.f
  repeat' first
      | (with_reducible exact impl_table.mono _ _ _)
      | (with_reducible exact LeO.refl _)
      | (with_reducible exact LeO.none _)
      | (with_reducible refine LeO.ite ?_ ?_)
      | (with_reducible refine LeO.bind ?_ (fun _ => ?_))
      | exact impl_table.mono _ _ _
      | exact LeO.none _
      | refine LeO.ite ?_ ?_
      | refine LeO.bind ?_ (fun _ => ?_)
set_option maxHeartbeats 8000000 in
set_option maxRecDepth 100000 in
theorem impl_TableAt.calls (k : Nat) (a0 : Int) (a1 : Int) (r1 : List (List Int)) (r2 : Bool) (w : World) (h : impl_TableAt.f k a0 a1 = some (r1, r2)) :
    Calls Try.prog 16 #[.int .i64 a0, .int .i64 a1] w fun e w' => ∃ v0_ : Value, e = .returned (.tuple #[v0_, .bool r2]) ∧ Kd.S (Kd.slice 3 (Kd.int .i64)) 34 w' w.heap.size (fun _ => True) v0_ r1 ∧ Below w.heap.size w w' := by
  have HB := Aside0.mk (Below.refl w.heap.size w)
  have H : ((impl_isTable.f a0 a1).bind fun t300 => (if t300 = true then ((impl_table.f k a0 a1).bind fun t301 => (some (t301, true))) else (some (([] : List (List Int)), false)))) = some (r1, r2) := h
  clear h
  replace H := Option.bind_eq_some_iff.mp H
  obtain ⟨t300, A30, H⟩ := H
  replace H : (if t300 = true then ((impl_table.f k a0 a1).bind fun t301 => (some (t301, true))) else (some (([] : List (List Int)), false))) = some (r1, r2) := H
  have A3 := Aside0.mk A30
  clear A30
  by_cases c4 : t300 = true
  · subst c4
    have H1 : ((impl_table.f k a0 a1).bind fun t301 => (some (t301, true))) = some (r1, r2) := by rw [if_pos rfl] at H; exact H
    clear H
    have H := H1
    clear H1
    replace H := Option.bind_eq_some_iff.mp H
    obtain ⟨t301, A50, H⟩ := H
    replace H : (some (t301, true)) = some (r1, r2) := H
    have A5 := Aside0.mk A50
    clear A50
    simp only [Option.some.injEq, Prod.mk.injEq] at H
    obtain ⟨rfl, rfl⟩ := H
    go_enter Try.func16, Try.ntmps16
    go_wp2_with (first | ((with_reducible refine gate_callee (f := 42) rfl ?_); refine goesL_ (some 8) rfl rfl Try.func42 (by kernel_rfl) rfl #[.int .i64 a0, .int .i64 a1] rfl (by (try simp only [List.map_toArray, List.map_cons, List.map_nil]); first | done | rfl | (simp only [List.length_drop, List.length_take]; rfl)) ?_; (with_reducible refine (impl_isTable.calls a0 a1 true _ A3.out).mono ?_); rintro e w' ⟨rfl, ⟨nd, rfl⟩⟩; refine ⟨_, rfl, ?_⟩) | ((with_reducible refine gate_callee (f := 43) rfl ?_); refine goesL_ (some 12) rfl rfl Try.func43 (by kernel_rfl) rfl #[.int .i64 a0, .int .i64 a1] rfl (by (try simp only [List.map_toArray, List.map_cons, List.map_nil]); first | done | rfl | (simp only [List.length_drop, List.length_take]; rfl)) ?_; (with_reducible refine (impl_table.calls k a0 a1 t301 _ A5.out).mono ?_); rintro e w6 ⟨v302, rfl, ho0, hb⟩; refine ⟨_, rfl, ?_⟩; have n0_ := Aside0.mk (Kd.S_lower ho0 (below_size (by repeat (first | (with_reducible first | exact HB.out | apply below_alloc | apply pw_below_drewN | apply below_drew1) | exact HB.out)))); have n1_ := Aside0.mk (below_step (by repeat (first | (with_reducible first | exact HB.out | apply below_alloc | apply pw_below_drewN | apply below_drew1) | exact HB.out)) hb); clear HB; have HO303 := n0_; have HB := n1_; clear n0_ n1_; (try clear hb); (try clear hb2); (try clear hk); (try clear hi); (try clear ho0)))
    go_ret2
    exact ⟨_, by first | rfl | (simp [errW_none, errW_some] <;> rfl) | (simp [*, errW_none, errW_some] <;> rfl), by (with_reducible repeat (first | apply Kd.S_alloc | apply Kd.S_drewN | apply Kd.S_drew)); exact HO303.out, by repeat (first | (with_reducible first | exact HB.out | apply below_alloc | apply pw_below_drewN | apply below_drew1) | exact HB.out)⟩
  · replace c4 := Bool.eq_false_iff.mpr c4
    subst c4
    have H1 : (some (([] : List (List Int)), false)) = some (r1, r2) := by rw [if_neg (show ¬ (false = true) by decide)] at H; exact H
    clear H
    have H := H1
    clear H1
    simp only [Option.some.injEq, Prod.mk.injEq] at H
    obtain ⟨rfl, rfl⟩ := H
    go_enter Try.func16, Try.ntmps16
    go_wp2_with (first | ((with_reducible refine gate_callee (f := 42) rfl ?_); refine goesL_ (some 8) rfl rfl Try.func42 (by kernel_rfl) rfl #[.int .i64 a0, .int .i64 a1] rfl (by (try simp only [List.map_toArray, List.map_cons, List.map_nil]); first | done | rfl | (simp only [List.length_drop, List.length_take]; rfl)) ?_; (with_reducible refine (impl_isTable.calls a0 a1 false _ A3.out).mono ?_); rintro e w' ⟨rfl, ⟨nd, rfl⟩⟩; refine ⟨_, rfl, ?_⟩))
    go_ret2
    exact ⟨_, by first | rfl | (simp [errW_none, errW_some] <;> rfl) | (simp [*, errW_none, errW_some] <;> rfl), by first | exact Kd.S_nil _ _ _ _ _ | exact Kd.N_nil _ _ _ _ _ | exact Kd.V_nil _ _ _ _ _ | exact Kd.Q_nil _ _ _ _ _ | exact Kd.R_nil _ _ _ _ _, by repeat (first | (with_reducible first | exact HB.out | apply below_alloc | apply pw_below_drewN | apply below_drew1) | exact HB.out)⟩

-- NOT PRINTED: function 5 (laws_FnExactTableAt)

end Go.Proofs.Ytiljhemobammdaa.Y
