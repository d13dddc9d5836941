-- printed by wip/drv/xprint.py (our driver) out of the translation; Lean checks it
import Derived.Test.YtoblagangofflaaT0
namespace Go.Proofs.Ytoblagangofflaa.T
open Go.RowKit Go.Proofs.YtoblagangofflaaW.PrintWords Go.Proofs.YtoblagangofflaaW.PrintLast Go.Proofs.YtoblagangofflaaW.PrintMore
attribute [local go_sem] max2_int min2_int max_two min_two max_three min_three max_four min_four   -- for this text's walks alone
set_option linter.unusedVariables false
set_option linter.unusedSimpArgs false

/-! ### impl_in: function 42 -/
def impl_in.f (a0 : Int) (a1 : Int) (a2 : Int) : Option (Bool) := if a1 ≤ a0 then (some (decide (a0 ≤ a2))) else (some false)
set_option maxHeartbeats 8000000 in
set_option maxRecDepth 100000 in
theorem impl_in.calls (a0 : Int) (a1 : Int) (a2 : Int) (r : Bool) (w : World) (h : impl_in.f a0 a1 a2 = some r) :
    Calls Try.prog 42 #[.int .i64 a0, .int .i64 a1, .int .i64 a2] w fun e w' => e = .returned (.bool r) ∧ Drawn0 w w' := by
  have H : (if a1 ≤ a0 then (some (decide (a0 ≤ a2))) else (some false)) = some r := h
  clear h
  by_cases c4 : a1 ≤ a0
  · rw [if_pos c4] at H
    have c4b0 : decide (a1 ≤ a0) = true := decide_eq_true c4
    clear c4
    obtain rfl := Option.some.inj H
    go_enter Try.func42, Try.ntmps42
    go_wp2
    go_ret
    exact ⟨by first | rfl | (simp; done) | (simp [*]; done), by repeat (first | exact Drawn0.refl _ | apply Drawn0.step)⟩
  · rw [if_neg c4] at H
    have c4b0 : decide (a1 ≤ a0) = false := decide_eq_false c4
    clear c4
    obtain rfl := Option.some.inj H
    go_enter Try.func42, Try.ntmps42
    go_wp2
    go_ret
    exact ⟨by first | rfl | (simp; done) | (simp [*]; done), by repeat (first | exact Drawn0.refl _ | apply Drawn0.step)⟩

/-! ### impl_areRows: function 47 -/
def impl_areRows.most (n : Nat) : Int := if n ≤ 5 then 100 else 16
def impl_areRows.bad (n : Nat) (row : List Int) : Bool := !((row.length : Int) == (n : Int)) || row.any fun x => !(decide (-(impl_areRows.most n) ≤ x) && decide (x ≤ impl_areRows.most n))
def impl_areRows.f (l0 : List (List Int)) : Option Bool := some (decide (1 ≤ (l0.length : Int)) && decide ((l0.length : Int) ≤ 14) && !(l0.any (impl_areRows.bad l0.length)))
theorem impl_areRows.in_val (a b c : Int) : impl_in.f a b c = some (decide (b ≤ a) && decide (a ≤ c)) := by
  unfold impl_in.f
  by_cases h : b ≤ a <;> simp [h]
set_option maxHeartbeats 8000000 in
theorem impl_areRows.deep (x m : Int) (b : Nat) (W : World) (hm : 0 ≤ m ∧ m ≤ 100) (hb : W.cell? ⟨b, 0, none⟩ = some (.int .i64 m)) :
    Calls Try.prog 64 #[.int .i64 x, .pointer (some ⟨b, 0, none⟩)] W fun e w' => e = .returned (.bool (!(decide (-m ≤ x) && decide (x ≤ m)))) ∧ Drawn0 W w' := by
  have hw : wrap64 (-m) = -m := by unfold wrap64; omega
  have hw2 : IntKind.i64.wrap (-m) = -m := (i64_w _).trans hw
  have hin := Aside0.mk (impl_areRows.in_val x (-m) m)
  clear hm
  go_enter Try.func64, Try.ntmps64
  go_wp2_with ((go_at_call 42); (with_reducible refine (impl_in.calls x (-m) m _ _ hin.out).mono ?_); rintro e w' ⟨rfl, ⟨nd, rfl⟩⟩)
  go_ret
  exact ⟨by simp, by repeat (first | exact Drawn0.refl _ | apply Drawn0.step)⟩
set_option maxHeartbeats 8000000 in
/-- slices.IndexFunc over numbers, by the inner closure -/
theorem impl_areRows.index (q : Int → Bool) (b : Nat) (A0 : Option Addr) (c0 : Nat) (l0 : List Int) (w : World) (hr0 : Kd.C (Kd.int .i64) w A0 l0.length l0) (hc0 : l0.length ≤ c0) (hl : l0.length < 4611686018427387904)
    (hq : ∀ x n, Calls Try.prog 64 #[.int .i64 x, .pointer (some ⟨b, 0, none⟩)] (w.drewN n) fun e w' => e = .returned (.bool (q x)) ∧ Drawn0 (w.drewN n) w') :
    Calls Try.prog 65 #[.slice A0 l0.length c0, .func (.func 64) #[] #[.pointer (some ⟨b, 0, none⟩)]] w fun e w' => (∃ z : Int, e = .returned (.int .i64 z) ∧ decide (0 ≤ z) = l0.any q) ∧ Drawn0 w w' := by
  have HR0 := Aside0.mk hr0
  have HQ := Aside0.mk hq
  clear hr0 hq
  go_enter Try.func65, Try.ntmps65
  go_wp2
  go_loopg [8] (l0.length + 1) (fun kq v8 w' => ∃ (j : Nat), v8 = .int .i64 j ∧ j ≤ l0.length ∧ l0.length - j < kq ∧ Aside0 ((l0.drop j).any q = l0.any q) ∧ Drawn0 w w')
  case atStart => exact ⟨0, by go_num, Nat.zero_le _, by omega, ⟨by rw [List.drop_zero]⟩, by repeat (first | exact Drawn0.refl _ | apply Drawn0.step)⟩
  case round =>
    obtain ⟨j, rfl, hj, hm, HA, ⟨m1, rfl⟩⟩ := hrel
    obtain ⟨k1, rfl⟩ : ∃ m, gk = m + 1 := ⟨gk - 1, by omega⟩
    by_cases hjl : j < l0.length
    · have hjz : (j : Int) < (l0.length : Int) := by omega
      have hA := HA.out
      rw [List.drop_eq_getElem_cons hjl, List.any_cons] at hA
      obtain ⟨ad, e0, hx0⟩ := Kd.at_int HR0.out (j : Int) (by omega) hjz
      have hrd : rd l0 (j : Int) = l0[j] := by unfold rd; simp [hjl]
      rw [hrd, Int.toNat_natCast] at hx0
      cases e0
      have p1 : (0 ≤ (j : Int)) = True := eq_true (by omega)
      have p2 : ((j : Int) < (l0.length : Int)) = True := eq_true hjz
      have HC := Aside0.mk (HQ.out l0[j] m1)
      cases hqx : q l0[j] with
      | true =>
        rw [hqx] at hA HC
        have HF := Aside0.mk hA
        clear hA HA
        go_wp2_with ((go_at_call 64); (with_reducible refine HC.out.mono ?_); rintro e w' ⟨rfl, ⟨nd, rfl⟩⟩)
        go_ret
        exact ⟨⟨_, rfl, by rw [← HF.out, Bool.true_or]; exact decide_eq_true (by omega)⟩, by repeat (first | exact Drawn0.refl _ | apply Drawn0.step)⟩
      | false =>
        rw [hqx] at hA HC
        rw [Bool.false_or] at hA
        have HF := Aside0.mk hA
        clear hA HA
        go_wp2_with ((go_at_call 64); (with_reducible refine HC.out.mono ?_); rintro e w' ⟨rfl, ⟨nd, rfl⟩⟩)
        go_roundg k1
        case measure => exact Nat.lt_succ_self _
        case rel => exact ⟨j + 1, by go_num, by omega, by omega, HF, by repeat (first | exact Drawn0.refl _ | apply Drawn0.step)⟩
    · obtain rfl : j = l0.length := by omega
      have hA := HA.out
      rw [List.drop_length, List.any_nil] at hA
      have HF := Aside0.mk hA
      clear hA HA
      go_wp2
      go_ret
      exact ⟨⟨_, rfl, by rw [← HF.out]; exact decide_eq_false (by omega)⟩, by repeat (first | exact Drawn0.refl _ | apply Drawn0.step)⟩
set_option maxHeartbeats 8000000 in
theorem impl_areRows.has (q : Int → Bool) (b : Nat) (A0 : Option Addr) (c0 : Nat) (l0 : List Int) (w : World) (hr0 : Kd.C (Kd.int .i64) w A0 l0.length l0) (hc0 : l0.length ≤ c0) (hl : l0.length < 4611686018427387904)
    (hq : ∀ x n, Calls Try.prog 64 #[.int .i64 x, .pointer (some ⟨b, 0, none⟩)] (w.drewN n) fun e w' => e = .returned (.bool (q x)) ∧ Drawn0 (w.drewN n) w') :
    Calls Try.prog 48 #[.slice A0 l0.length c0, .func (.func 64) #[] #[.pointer (some ⟨b, 0, none⟩)]] w fun e w' => e = .returned (.bool (l0.any q)) ∧ Drawn0 w w' := by
  have HI := Aside0.mk (impl_areRows.index q b A0 c0 l0 w hr0 hc0 hl hq)
  clear hr0 hc0 hq
  go_enter Try.func48, Try.ntmps48
  go_wp2_with ((go_at_call 65); (with_reducible refine HI.out.mono ?_); rintro e w' ⟨⟨z, rfl, hz⟩, ⟨nd, rfl⟩⟩)
  go_ret
  exact ⟨by first | (rw [← hz]; done) | (simp [← hz]; done) | (simp [hz]; done), by repeat (first | exact Drawn0.refl _ | apply Drawn0.step)⟩
set_option maxHeartbeats 8000000 in
/-- the outer closure -/
theorem impl_areRows.outer (n : Nat) (bn bm : Nat) (A0 : Option Addr) (c0 : Nat) (row : List Int) (w : World) (hr0 : Kd.C (Kd.int .i64) w A0 row.length row) (hc0 : row.length ≤ c0)
    (hn : w.cell? ⟨bn, 0, none⟩ = some (.int .i64 (n : Int))) (hm : w.cell? ⟨bm, 0, none⟩ = some (.int .i64 (impl_areRows.most n))) (hs : n ≤ 14) :
    Calls Try.prog 63 #[.slice A0 row.length c0, .pointer (some ⟨bn, 0, none⟩), .pointer (some ⟨bm, 0, none⟩)] w fun e w' => e = .returned (.bool (impl_areRows.bad n row)) ∧ Drawn0 w w' := by
  have hmb : 0 ≤ impl_areRows.most n ∧ impl_areRows.most n ≤ 100 := by unfold impl_areRows.most; split <;> omega
  by_cases h : row.length = n
  · subst h
    have HH := Aside0.mk (impl_areRows.has (fun x => !(decide (-(impl_areRows.most row.length) ≤ x) && decide (x ≤ impl_areRows.most row.length))) bm A0 c0 row w hr0 hc0 (by omega) (fun x k => impl_areRows.deep x _ bm _ hmb ((pw_below_drewN (Below.refl _ _) k).cell (World.block_lt_of_cell? w _ hm) |>.trans hm)))
    have hb : impl_areRows.bad row.length row = row.any fun x => !(decide (-(impl_areRows.most row.length) ≤ x) && decide (x ≤ impl_areRows.most row.length)) := by
      unfold impl_areRows.bad
      rw [show ((row.length : Int) == (row.length : Int)) = true from beq_iff_eq.mpr rfl]; rfl
    rw [hb]
    clear hb hr0 hc0 hm hmb hs
    go_enter Try.func63, Try.ntmps63
    go_wp2_with ((go_at_call 48); (with_reducible refine HH.out.mono ?_); rintro e w' ⟨rfl, ⟨nd, rfl⟩⟩)
    all_goals (go_ret; exact ⟨by simp, by repeat (first | exact Drawn0.refl _ | apply Drawn0.step)⟩)
  · have hb : impl_areRows.bad n row = true := by
      unfold impl_areRows.bad
      rw [show ((row.length : Int) == (n : Int)) = false from beq_eq_false_iff_ne.mpr (by omega)]; rfl
    have e1 : ((row.length : Int) != (n : Int)) = true := bne_iff_ne.mpr (by omega)
    have e2 : ((row.length : Int) = (n : Int)) = False := eq_false (by omega)
    rw [hb]
    clear hb hr0 hc0 hm hmb hs
    go_enter Try.func63, Try.ntmps63
    go_wp2
    all_goals (go_ret; exact ⟨by simp [*], by repeat (first | exact Drawn0.refl _ | apply Drawn0.step)⟩)
set_option maxHeartbeats 8000000 in
/-- slices.IndexFunc over rows, by the outer closure -/
theorem impl_areRows.indexR (q : List Int → Bool) (bn bm : Nat) (A0 : Option Addr) (c0 : Nat) (l0 : List (List Int)) (w : World) (hr0 : Kd.C (Kd.slice 3 (Kd.int .i64)) w A0 l0.length l0) (hc0 : l0.length ≤ c0) (hl : l0.length < 4611686018427387904)
    (hq : ∀ (A : Option Addr) (c : Nat) (row : List Int) (n : Nat), Kd.C (Kd.int .i64) (w.drewN n) A row.length row → row.length ≤ c → Calls Try.prog 63 #[.slice A row.length c, .pointer (some ⟨bn, 0, none⟩), .pointer (some ⟨bm, 0, none⟩)] (w.drewN n) fun e w' => e = .returned (.bool (q row)) ∧ Drawn0 (w.drewN n) w') :
    Calls Try.prog 70 #[.slice A0 l0.length c0, .func (.func 63) #[] #[.pointer (some ⟨bn, 0, none⟩), .pointer (some ⟨bm, 0, none⟩)]] w fun e w' => (∃ z : Int, e = .returned (.int .i64 z) ∧ decide (0 ≤ z) = l0.any q) ∧ Drawn0 w w' := by
  have HR0 := Aside0.mk hr0
  have HQ := Aside0.mk hq
  clear hr0 hq
  go_enter Try.func70, Try.ntmps70
  go_wp2
  go_loopg [8] (l0.length + 1) (fun kq v8 w' => ∃ (j : Nat), v8 = .int .i64 j ∧ j ≤ l0.length ∧ l0.length - j < kq ∧ Aside0 ((l0.drop j).any q = l0.any q) ∧ Drawn0 w w')
  case atStart => exact ⟨0, by go_num, Nat.zero_le _, by omega, ⟨by rw [List.drop_zero]⟩, by repeat (first | exact Drawn0.refl _ | apply Drawn0.step)⟩
  case round =>
    obtain ⟨j, rfl, hj, hm, HA, ⟨m1, rfl⟩⟩ := hrel
    obtain ⟨k1, rfl⟩ : ∃ m, gk = m + 1 := ⟨gk - 1, by omega⟩
    by_cases hjl : j < l0.length
    · have hjz : (j : Int) < (l0.length : Int) := by omega
      have hA := HA.out
      rw [List.drop_eq_getElem_cons hjl, List.any_cons] at hA
      obtain ⟨ad, A1, c1, e0, hx0, hl1, hi1⟩ := at_L1 HR0.out (j : Int) (by omega) hjz
      have hrd : rd_L1 l0 (j : Int) = l0[j] := by unfold rd_L1; simp [hjl]
      rw [hrd] at hx0 hl1 hi1
      rw [Int.toNat_natCast] at hx0
      cases e0
      have p1 : (0 ≤ (j : Int)) = True := eq_true (by omega)
      have p2 : ((j : Int) < (l0.length : Int)) = True := eq_true hjz
      have HC := Aside0.mk (HQ.out A1 c1 l0[j] m1 (Kd.C_drewN hi1 m1) hl1)
      clear hi1
      cases hqx : q l0[j] with
      | true =>
        rw [hqx] at hA HC
        have HF := Aside0.mk hA
        clear hA HA
        go_wp2_with ((go_at_call 63); (with_reducible refine HC.out.mono ?_); rintro e w' ⟨rfl, ⟨nd, rfl⟩⟩)
        go_ret
        exact ⟨⟨_, rfl, by rw [← HF.out, Bool.true_or]; exact decide_eq_true (by omega)⟩, by repeat (first | exact Drawn0.refl _ | apply Drawn0.step)⟩
      | false =>
        rw [hqx] at hA HC
        rw [Bool.false_or] at hA
        have HF := Aside0.mk hA
        clear hA HA
        go_wp2_with ((go_at_call 63); (with_reducible refine HC.out.mono ?_); rintro e w' ⟨rfl, ⟨nd, rfl⟩⟩)
        go_roundg k1
        case measure => exact Nat.lt_succ_self _
        case rel => exact ⟨j + 1, by go_num, by omega, by omega, HF, by repeat (first | exact Drawn0.refl _ | apply Drawn0.step)⟩
    · obtain rfl : j = l0.length := by omega
      have hA := HA.out
      rw [List.drop_length, List.any_nil] at hA
      have HF := Aside0.mk hA
      clear hA HA
      go_wp2
      go_ret
      exact ⟨⟨_, rfl, by rw [← HF.out]; exact decide_eq_false (by omega)⟩, by repeat (first | exact Drawn0.refl _ | apply Drawn0.step)⟩
set_option maxHeartbeats 8000000 in
theorem impl_areRows.hasR (q : List Int → Bool) (bn bm : Nat) (A0 : Option Addr) (c0 : Nat) (l0 : List (List Int)) (w : World) (hr0 : Kd.C (Kd.slice 3 (Kd.int .i64)) w A0 l0.length l0) (hc0 : l0.length ≤ c0) (hl : l0.length < 4611686018427387904)
    (hq : ∀ (A : Option Addr) (c : Nat) (row : List Int) (n : Nat), Kd.C (Kd.int .i64) (w.drewN n) A row.length row → row.length ≤ c → Calls Try.prog 63 #[.slice A row.length c, .pointer (some ⟨bn, 0, none⟩), .pointer (some ⟨bm, 0, none⟩)] (w.drewN n) fun e w' => e = .returned (.bool (q row)) ∧ Drawn0 (w.drewN n) w') :
    Calls Try.prog 62 #[.slice A0 l0.length c0, .func (.func 63) #[] #[.pointer (some ⟨bn, 0, none⟩), .pointer (some ⟨bm, 0, none⟩)]] w fun e w' => e = .returned (.bool (l0.any q)) ∧ Drawn0 w w' := by
  have HI := Aside0.mk (impl_areRows.indexR q bn bm A0 c0 l0 w hr0 hc0 hl hq)
  clear hr0 hc0 hq
  go_enter Try.func62, Try.ntmps62
  go_wp2_with ((go_at_call 70); (with_reducible refine HI.out.mono ?_); rintro e w' ⟨⟨z, rfl, hz⟩, ⟨nd, rfl⟩⟩)
  go_ret
  exact ⟨by first | (rw [← hz]; done) | (simp [← hz]; done) | (simp [hz]; done), by repeat (first | exact Drawn0.refl _ | apply Drawn0.step)⟩
set_option maxHeartbeats 8000000 in
theorem impl_areRows.calls (A0 : Option Addr) (c0 : Nat) (l0 : List (List Int)) (r : Bool) (w : World) (hr0 : Kd.C (Kd.slice 3 (Kd.int .i64)) w A0 l0.length l0) (hc0 : l0.length ≤ c0) (h : impl_areRows.f l0 = some r) :
    Calls Try.prog 47 #[.slice A0 l0.length c0] w fun e w' => e = .returned (.bool r) ∧ Below w.heap.size w w' := by
  obtain rfl := Option.some.inj h
  clear h
  have HR0 := Aside0.mk hr0
  clear hr0
  have cells : ∀ (m : Int) (n : Nat), impl_areRows.most l0.length = m → l0.length ≤ 14 → l0.length < 4611686018427387904 →
      Calls Try.prog 62 #[.slice A0 l0.length c0, .func (.func 63) #[] #[.pointer (some ⟨w.heap.size, 0, none⟩), .pointer (some ⟨w.heap.size + 1, 0, none⟩)]] (((w.alloc (.cells #[.int .i64 (l0.length : Int)] 3)).alloc (.cells #[.int .i64 m] 3)).drewN n) fun e w' => e = .returned (.bool (l0.any (impl_areRows.bad l0.length))) ∧ Drawn0 (((w.alloc (.cells #[.int .i64 (l0.length : Int)] 3)).alloc (.cells #[.int .i64 m] 3)).drewN n) w' := by
    intro m n hm hs hl
    refine impl_areRows.hasR (impl_areRows.bad l0.length) w.heap.size (w.heap.size + 1) A0 c0 l0 _ (Kd.C_drewN (Kd.C_alloc (Kd.C_alloc HR0.out _) _) n) hc0 hl (fun A c row k hC hc => ?_)
    refine impl_areRows.outer l0.length w.heap.size (w.heap.size + 1) A c row _ hC hc ?_ ?_ hs
    · refine (pw_cell_below (pw_below_drewN (Below.refl _ _) k) (pw_cell_below (pw_below_drewN (Below.refl _ _) n) ?_))
      simp
    · refine (pw_cell_below (pw_below_drewN (Below.refl _ _) k) (pw_cell_below (pw_below_drewN (Below.refl _ _) n) ?_))
      rw [hm]; simp
  by_cases hr : 1 ≤ l0.length ∧ l0.length ≤ 14
  · have hin := Aside0.mk (show impl_in.f (l0.length : Int) 1 14 = some true by rw [impl_areRows.in_val, decide_eq_true (show (1 : Int) ≤ (l0.length : Int) by omega), decide_eq_true (show (l0.length : Int) ≤ 14 by omega)]; rfl)
    rw [decide_eq_true (show (1 : Int) ≤ (l0.length : Int) by omega), decide_eq_true (show (l0.length : Int) ≤ 14 by omega), Bool.true_and, Bool.true_and]
    by_cases h5 : l0.length ≤ 5
    · have CC := Aside0.mk (fun n => cells 100 n (by unfold impl_areRows.most; rw [if_pos h5]) hr.2 (by omega))
      have e5 : ((l0.length : Int) ≤ 5) = True := eq_true (by omega)
      clear cells hr h5 hc0
      go_enter Try.func47, Try.ntmps47
      go_wp2_with (first
        | ((go_at_call 42); (with_reducible refine (impl_in.calls _ _ _ _ _ hin.out).mono ?_); rintro e w' ⟨rfl, ⟨nd, rfl⟩⟩)
        | ((go_at_call 62); (with_reducible refine (CC.out nd).mono ?_); rintro e w' ⟨rfl, ⟨nd2, rfl⟩⟩))
      go_ret
      exact ⟨by simp, pw_below_drewN (((Below.refl _ w).alloc (Nat.le_refl _) _).alloc (by simp) _) (nd + nd2)⟩
    · have CC := Aside0.mk (fun n => cells 16 n (by unfold impl_areRows.most; rw [if_neg h5]) hr.2 (by omega))
      have e5 : ((l0.length : Int) ≤ 5) = False := eq_false (by omega)
      clear cells hr h5 hc0
      go_enter Try.func47, Try.ntmps47
      go_wp2_with (first
        | ((go_at_call 42); (with_reducible refine (impl_in.calls _ _ _ _ _ hin.out).mono ?_); rintro e w' ⟨rfl, ⟨nd, rfl⟩⟩)
        | ((go_at_call 62); (with_reducible refine (CC.out nd).mono ?_); rintro e w' ⟨rfl, ⟨nd2, rfl⟩⟩))
      go_ret
      exact ⟨by simp, pw_below_drewN (((Below.refl _ w).alloc (Nat.le_refl _) _).alloc (by simp) _) (nd + nd2)⟩
  · have ho : (decide ((1 : Int) ≤ (l0.length : Int)) && decide ((l0.length : Int) ≤ 14)) = false := by
      rw [Bool.and_eq_false_iff]
      by_cases h1 : (1 : Int) ≤ (l0.length : Int)
      · exact .inr (decide_eq_false (by omega))
      · exact .inl (decide_eq_false h1)
    have hin := Aside0.mk (show impl_in.f (l0.length : Int) 1 14 = some false by rw [impl_areRows.in_val, ho])
    rw [ho, Bool.false_and]
    clear cells hr ho hc0
    go_enter Try.func47, Try.ntmps47
    go_wp2_with ((go_at_call 42); (with_reducible refine (impl_in.calls _ _ _ _ _ hin.out).mono ?_); rintro e w' ⟨rfl, ⟨nd, rfl⟩⟩)
    all_goals (go_ret; exact ⟨by simp, pw_below_drewN (((Below.refl _ w).alloc (Nat.le_refl _) _).alloc (by simp) _) nd⟩)

/-! ### impl_ApplyTable_1: function 49 -/
def impl_ApplyTable_1.f (a0 : Int) : Option (Bool) := (impl_in.f a0 (-1000) 1000).bind fun t133 => (some (!t133))
set_option maxHeartbeats 8000000 in
set_option maxRecDepth 100000 in
theorem impl_ApplyTable_1.calls (a0 : Int) (r : Bool) (w : World) (h : impl_ApplyTable_1.f a0 = some r) :
    Calls Try.prog 49 #[.int .i64 a0] w fun e w' => e = .returned (.bool r) ∧ Drawn0 w w' := by
  have H : ((impl_in.f a0 (-1000) 1000).bind fun t133 => (some (!t133))) = some r := h
  clear h
  replace H := Option.bind_eq_some_iff.mp H
  obtain ⟨t133, A20, H⟩ := H
  replace H : (some (!t133)) = some r := H
  have A2 := Aside0.mk A20
  clear A20
  obtain rfl := Option.some.inj H
  go_enter Try.func49, Try.ntmps49
  go_wp2_with (first | ((with_reducible refine gate_callee (f := 42) rfl ?_); refine goesL_ (some 4) rfl rfl Try.func42 (by kernel_rfl) rfl #[.int .i64 a0, .int .i64 (-1000), .int .i64 1000] rfl (by (try simp only [List.map_toArray, List.map_cons, List.map_nil]); first | done | rfl | (simp only [List.length_drop, List.length_take]; rfl)) ?_; (with_reducible refine (impl_in.calls a0 (-1000) 1000 t133 _ A2.out).mono ?_); rintro e w' ⟨rfl, ⟨nd, rfl⟩⟩; refine ⟨_, rfl, ?_⟩))
  go_ret
  exact ⟨by first | rfl | (simp; done) | (simp [*]; done), by repeat (first | exact Drawn0.refl _ | apply Drawn0.step)⟩

/-! ### slices_IndexFunc_int_int_at_impl_ApplyTable_1: function 125 -/
def slices_IndexFunc_int_int_at_impl_ApplyTable_1.l0 : Nat → List Int → Int → Int → Option (Int)
  | 0, _, _, _ => none
  | k + 1, x0, x7, x8 => if x8 < x7 then (if 0 ≤ x8 then (if x8 < (x0.length : Int) then ((impl_ApplyTable_1.f (rd x0 x8)).bind fun t135 => (if t135 = true then (some x8) else (slices_IndexFunc_int_int_at_impl_ApplyTable_1.l0 k x0 x7 (wrap64 (x8 + 1))))) else (none)) else (none)) else (some (-1))
def slices_IndexFunc_int_int_at_impl_ApplyTable_1.f (k : Nat) (l0 : List Int)  : Option (Int) := slices_IndexFunc_int_int_at_impl_ApplyTable_1.l0 k l0 (l0.length : Int) 0
theorem slices_IndexFunc_int_int_at_impl_ApplyTable_1.mono_l : ∀ k, (∀ y0 y1 y2, LeO (slices_IndexFunc_int_int_at_impl_ApplyTable_1.l0 k y0 y1 y2) (slices_IndexFunc_int_int_at_impl_ApplyTable_1.l0 (k + 1) y0 y1 y2))
  | 0 => fun _ _ _ r h => by simp [slices_IndexFunc_int_int_at_impl_ApplyTable_1.l0] at h
  | k + 1 => by
    have ih0 := slices_IndexFunc_int_int_at_impl_ApplyTable_1.mono_l k
    · intro y0 y1 y2
      unfold slices_IndexFunc_int_int_at_impl_ApplyTable_1.l0
      repeat' first
      | (with_reducible exact ih0 _ _ _)
      | (with_reducible exact LeO.refl _)
      | (with_reducible exact LeO.none _)
      | (with_reducible refine LeO.ite ?_ ?_)
      | (with_reducible refine LeO.bind ?_ (fun _ => ?_))
      | exact ih0 _ _ _
      | exact LeO.none _
      | refine LeO.ite ?_ ?_
      | refine LeO.bind ?_ (fun _ => ?_)
theorem slices_IndexFunc_int_int_at_impl_ApplyTable_1.mono : ∀ a0 k, LeO (slices_IndexFunc_int_int_at_impl_ApplyTable_1.f k a0) (slices_IndexFunc_int_int_at_impl_ApplyTable_1.f (k + 1) a0) := by
  intro a0 k
  have ih0 := slices_IndexFunc_int_int_at_impl_ApplyTable_1.mono_l k
  unfold slices_IndexFunc_int_int_at_impl_ApplyTable_1.f
  repeat' first
      | (with_reducible exact ih0 _ _ _)
      | (with_reducible exact LeO.refl _)
      | (with_reducible exact LeO.none _)
      | (with_reducible refine LeO.ite ?_ ?_)
      | (with_reducible refine LeO.bind ?_ (fun _ => ?_))
      | exact ih0 _ _ _
      | exact LeO.none _
      | refine LeO.ite ?_ ?_
      | refine LeO.bind ?_ (fun _ => ?_)
set_option maxHeartbeats 8000000 in
set_option maxRecDepth 100000 in
theorem slices_IndexFunc_int_int_at_impl_ApplyTable_1.calls (k : Nat) (A0 : Option Addr) (c0 : Nat) (l0 : List Int)  (r : Int) (w : World) (hr0 : Kd.C (Kd.int .i64) w A0 l0.length l0) (hc0 : l0.length ≤ c0) (h : slices_IndexFunc_int_int_at_impl_ApplyTable_1.f k l0 = some r) :
    Calls Try.prog 65 #[.slice A0 l0.length c0, .func (.func 49) #[] #[]] w fun e w' => e = .returned (.int .i64 r) ∧ Drawn0 w w' := by
  have HR0 := Aside0.mk hr0
  have HC0 := Aside0.mk hc0
  clear hr0 hc0
  have H : (slices_IndexFunc_int_int_at_impl_ApplyTable_1.l0 k l0 (l0.length : Int) 0) = some r := h
  clear h
  have H' := Aside0.mk H
  clear H
  go_enter Try.func65, Try.ntmps65
  go_wp2
  go_loopg [8] k (fun kq v8 w' => ∃ (x8_1 : Int), v8 = .int .i64 x8_1 ∧ Aside0 (slices_IndexFunc_int_int_at_impl_ApplyTable_1.l0 kq l0 (l0.length : Int) x8_1 = some r) ∧ Aside0 (kq ≤ k) ∧ Drawn0 w w')
  case atStart => exact ⟨(0), (by first | rfl | (simp; done) | (simp [*]; done)), H', ⟨Nat.le_refl _⟩, by repeat (first | exact Drawn0.refl _ | apply Drawn0.step)⟩
  case round =>
    clear H'
    try clear p2
    obtain ⟨x8_1, rfl, HA, HK1, ⟨m1, rfl⟩⟩ := hrel
    cases gk with
    | zero => exact absurd HA.out (by simp [slices_IndexFunc_int_int_at_impl_ApplyTable_1.l0])
    | succ k1 =>
      have H := HA.out
      clear HA
      simp only [slices_IndexFunc_int_int_at_impl_ApplyTable_1.l0] at H
      by_cases c3 : x8_1 < (l0.length : Int)
      · rw [if_pos c3] at H
        have c3b0 : decide (x8_1 < (l0.length : Int)) = true := decide_eq_true c3
        clear c3
        by_cases c4 : 0 ≤ x8_1
        · rw [if_pos c4] at H
          have c4b0 : decide (0 ≤ x8_1) = true := decide_eq_true c4
          clear c4
          by_cases c5 : x8_1 < (l0.length : Int)
          · rw [if_pos c5] at H
            have c5b0 : decide (x8_1 < (l0.length : Int)) = true := decide_eq_true c5
            clear c5
            replace H := Option.bind_eq_some_iff.mp H
            obtain ⟨t135, A60, H⟩ := H
            replace H : (if t135 = true then (some x8_1) else (slices_IndexFunc_int_int_at_impl_ApplyTable_1.l0 k1 l0 (l0.length : Int) (wrap64 (x8_1 + 1)))) = some r := H
            have A6 := Aside0.mk A60
            clear A60
            by_cases c7 : t135 = true
            · subst c7
              have H1 : (some x8_1) = some r := by rw [if_pos rfl] at H; exact H
              clear H
              have H := H1
              clear H1
              obtain rfl := Option.some.inj H
              have p134 : 0 ≤ (x8_1 : Int) := of_decide_eq_true (by first | (with_reducible assumption) | assumption)
              have q134 : x8_1 < (l0.length : Int) := of_decide_eq_true (by first | (with_reducible assumption) | assumption)
              obtain ⟨ad134, e134, hx134_0⟩ := Kd.at_int HR0.out x8_1 p134 q134
              cases e134
              replace p134 := eq_true p134
              replace q134 := eq_true q134
              go_wp2_with (first | (go_at_call 49; (with_reducible refine (impl_ApplyTable_1.calls (rd l0 x8_1) true _ A6.out).mono ?_); rintro e w' ⟨rfl, ⟨nd, rfl⟩⟩))
              go_ret
              exact ⟨by first | rfl | (simp; done) | (simp [*]; done), by repeat (first | exact Drawn0.refl _ | apply Drawn0.step)⟩
            · replace c7 := Bool.eq_false_iff.mpr c7
              subst c7
              have H1 : (slices_IndexFunc_int_int_at_impl_ApplyTable_1.l0 k1 l0 (l0.length : Int) (wrap64 (x8_1 + 1))) = some r := by rw [if_neg (show ¬ (false = true) by decide)] at H; exact H
              clear H
              have H := H1
              clear H1
              have H' := Aside0.mk H
              clear H
              have p134 : 0 ≤ (x8_1 : Int) := of_decide_eq_true (by first | (with_reducible assumption) | assumption)
              have q134 : x8_1 < (l0.length : Int) := of_decide_eq_true (by first | (with_reducible assumption) | assumption)
              obtain ⟨ad134, e134, hx134_0⟩ := Kd.at_int HR0.out x8_1 p134 q134
              cases e134
              replace p134 := eq_true p134
              replace q134 := eq_true q134
              go_wp2_with (first | (go_at_call 49; (with_reducible refine (impl_ApplyTable_1.calls (rd l0 x8_1) false _ A6.out).mono ?_); rintro e w' ⟨rfl, ⟨nd, rfl⟩⟩))
              go_roundg k1
              case measure => have := HK1.out; omega
              case rel => exact ⟨(wrap64 (x8_1 + 1)), (by first | rfl | (simp; done) | (simp [*]; done)), H', ⟨by have := HK1.out; omega⟩, by repeat (first | exact Drawn0.refl _ | apply Drawn0.step)⟩
          · rw [if_neg c5] at H
            exact absurd H (by simp)
        · rw [if_neg c4] at H
          exact absurd H (by simp)
      · rw [if_neg c3] at H
        have c3b0 : decide (x8_1 < (l0.length : Int)) = false := decide_eq_false c3
        clear c3
        obtain rfl := Option.some.inj H
        go_wp2
        go_ret
        exact ⟨by first | rfl | (simp; done) | (simp [*]; done), by repeat (first | exact Drawn0.refl _ | apply Drawn0.step)⟩

/-! ### slices_ContainsFunc_int_int_at_impl_ApplyTable_1: function 124 -/
def slices_ContainsFunc_int_int_at_impl_ApplyTable_1.f (k : Nat) (l0 : List Int)  : Option (Bool) := (slices_IndexFunc_int_int_at_impl_ApplyTable_1.f k l0).bind fun t136 => (some (decide (t136 ≥ 0)))
theorem slices_ContainsFunc_int_int_at_impl_ApplyTable_1.mono : ∀ a0 k, LeO (slices_ContainsFunc_int_int_at_impl_ApplyTable_1.f k a0) (slices_ContainsFunc_int_int_at_impl_ApplyTable_1.f (k + 1) a0) := by
  intro a0 k
  unfold slices_ContainsFunc_int_int_at_impl_ApplyTable_1.f
  repeat' first
      | (with_reducible exact slices_IndexFunc_int_int_at_impl_ApplyTable_1.mono _ _)
      | (with_reducible exact LeO.refl _)
      | (with_reducible exact LeO.none _)
      | (with_reducible refine LeO.ite ?_ ?_)
      | (with_reducible refine LeO.bind ?_ (fun _ => ?_))
      | exact slices_IndexFunc_int_int_at_impl_ApplyTable_1.mono _ _
      | exact LeO.none _
      | refine LeO.ite ?_ ?_
      | refine LeO.bind ?_ (fun _ => ?_)
set_option maxHeartbeats 8000000 in
set_option maxRecDepth 100000 in
theorem slices_ContainsFunc_int_int_at_impl_ApplyTable_1.calls (k : Nat) (A0 : Option Addr) (c0 : Nat) (l0 : List Int)  (r : Bool) (w : World) (hr0 : Kd.C (Kd.int .i64) w A0 l0.length l0) (hc0 : l0.length ≤ c0) (h : slices_ContainsFunc_int_int_at_impl_ApplyTable_1.f k l0 = some r) :
    Calls Try.prog 48 #[.slice A0 l0.length c0, .func (.func 49) #[] #[]] w fun e w' => e = .returned (.bool r) ∧ Drawn0 w w' := by
  have HR0 := Aside0.mk hr0
  have HC0 := Aside0.mk hc0
  clear hr0 hc0
  have H : ((slices_IndexFunc_int_int_at_impl_ApplyTable_1.f k l0).bind fun t136 => (some (decide (t136 ≥ 0)))) = some r := h
  clear h
  replace H := Option.bind_eq_some_iff.mp H
  obtain ⟨t136, A30, H⟩ := H
  replace H : (some (decide (t136 ≥ 0))) = some r := H
  have A3 := Aside0.mk A30
  clear A30
  obtain rfl := Option.some.inj H
  go_enter Try.func48, Try.ntmps48
  go_wp2_with (first | ((with_reducible refine gate_callee (f := 65) rfl ?_); refine goesL_ (some 7) rfl rfl Try.func65 (by kernel_rfl) rfl #[.slice A0 l0.length c0, .func (.func 49) #[] #[]] rfl (by (try simp only [List.map_toArray, List.map_cons, List.map_nil]); first | done | rfl | (simp only [List.length_drop, List.length_take]; rfl)) ?_; (with_reducible refine (slices_IndexFunc_int_int_at_impl_ApplyTable_1.calls k _ _ l0  t136 _ ?side1 ?side2 A3.out).mono ?_); (case side1 => repeat (first | exact HR0.out | (with_reducible refine Kd.C_alloc ?_ _) | (with_reducible refine Kd.C_drewN ?_ _) | (with_reducible refine Kd.C_drew ?_))); (case side2 => exact HC0.out); rintro e w' ⟨rfl, ⟨nd, rfl⟩⟩; refine ⟨_, rfl, ?_⟩))
  go_ret
  exact ⟨by first | rfl | (simp; done) | (simp [*]; done), by repeat (first | exact Drawn0.refl _ | apply Drawn0.step)⟩

/-! ### impl_ApplyTable: function 28 -/
mutual
def impl_ApplyTable.j0 : Nat → List (List Int) → List Int → Bool → Option (List Int × Bool)
  | 0, _, _, _ => none
  | k + 1, x0, x1, x25 => if x25 = true then (some (([] : List Int), false)) else (impl_ApplyTable.l0 k x1 (([] : List Int)) x0 (x0.length : Int) 0)
def impl_ApplyTable.l0 : Nat → List Int → List Int → List (List Int) → Int → Int → Option (List Int × Bool)
  | 0, _, _, _, _, _ => none
  | k + 1, x1, x6, x27, x28, x29 => if x29 < x28 then (if 0 ≤ x29 then (if x29 < (x27.length : Int) then (impl_ApplyTable.l1 k x1 x6 0 x27 x28 x29 (rd_L1 x27 x29) ((rd_L1 x27 x29).length : Int) 0) else (none)) else (none)) else (some (x6, true))
def impl_ApplyTable.l1 : Nat → List Int → List Int → Int → List (List Int) → Int → Int → List Int → Int → Int → Option (List Int × Bool)
  | 0, _, _, _, _, _, _, _, _, _ => none
  | k + 1, x1, x6, x9, x27, x28, x29, x33, x34, x35 => if x35 < x34 then (if 0 ≤ x35 then (if x35 < (x33.length : Int) then (if x35 < (x1.length : Int) then (impl_ApplyTable.l1 k x1 x6 (wrap64 (x9 + (wrap64 ((rd x33 x35) * (rd x1 x35))))) x27 x28 x29 x33 x34 (wrap64 (x35 + 1))) else (none)) else (none)) else (none)) else (if x6.length < 17592186044416 then (impl_ApplyTable.l0 k x1 (x6 ++ [x9]) x27 x28 (wrap64 (x29 + 1))) else (none))
end
def impl_ApplyTable.f (k : Nat) (l0 : List (List Int)) (l1 : List Int) : Option (List Int × Bool) := (impl_areRows.f l0).bind fun t137 => (if t137 = true then (if (l1.length : Int) = (l0.length : Int) then ((slices_ContainsFunc_int_int_at_impl_ApplyTable_1.f k l1).bind fun t138 => (impl_ApplyTable.j0 k l0 l1 t138)) else (impl_ApplyTable.j0 k l0 l1 true)) else (impl_ApplyTable.j0 k l0 l1 true))
theorem impl_ApplyTable.mono_l : ∀ k, (∀ y0 y1 y2, LeO (impl_ApplyTable.j0 k y0 y1 y2) (impl_ApplyTable.j0 (k + 1) y0 y1 y2)) ∧ (∀ y0 y1 y2 y3 y4, LeO (impl_ApplyTable.l0 k y0 y1 y2 y3 y4) (impl_ApplyTable.l0 (k + 1) y0 y1 y2 y3 y4)) ∧ (∀ y0 y1 y2 y3 y4 y5 y6 y7 y8, LeO (impl_ApplyTable.l1 k y0 y1 y2 y3 y4 y5 y6 y7 y8) (impl_ApplyTable.l1 (k + 1) y0 y1 y2 y3 y4 y5 y6 y7 y8))
  | 0 => ⟨fun _ _ _ r h => by simp [impl_ApplyTable.j0] at h, fun _ _ _ _ _ r h => by simp [impl_ApplyTable.l0] at h, fun _ _ _ _ _ _ _ _ _ r h => by simp [impl_ApplyTable.l1] at h⟩
  | k + 1 => by
    obtain ⟨ih0, ih1, ih2⟩ := impl_ApplyTable.mono_l k
    refine ⟨?_, ?_, ?_⟩
    · intro y0 y1 y2
      unfold impl_ApplyTable.j0
      repeat' first
      | (with_reducible exact ih0 _ _ _)
      | (with_reducible exact ih1 _ _ _ _ _)
      | (with_reducible exact ih2 _ _ _ _ _ _ _ _ _)
      | (with_reducible exact slices_ContainsFunc_int_int_at_impl_ApplyTable_1.mono _ _)
      | (with_reducible exact LeO.refl _)
      | (with_reducible exact LeO.none _)
      | (with_reducible refine LeO.ite ?_ ?_)
      | (with_reducible refine LeO.bind ?_ (fun _ => ?_))
      | exact ih0 _ _ _
      | exact ih1 _ _ _ _ _
      | exact ih2 _ _ _ _ _ _ _ _ _
      | exact slices_ContainsFunc_int_int_at_impl_ApplyTable_1.mono _ _
      | exact LeO.none _
      | refine LeO.ite ?_ ?_
      | refine LeO.bind ?_ (fun _ => ?_)
    · intro y0 y1 y2 y3 y4
      unfold impl_ApplyTable.l0
      repeat' first
      | (with_reducible exact ih0 _ _ _)
      | (with_reducible exact ih1 _ _ _ _ _)
      | (with_reducible exact ih2 _ _ _ _ _ _ _ _ _)
      | (with_reducible exact slices_ContainsFunc_int_int_at_impl_ApplyTable_1.mono _ _)
      | (with_reducible exact LeO.refl _)
      | (with_reducible exact LeO.none _)
      | (with_reducible refine LeO.ite ?_ ?_)
      | (with_reducible refine LeO.bind ?_ (fun _ => ?_))
      | exact ih0 _ _ _
      | exact ih1 _ _ _ _ _
      | exact ih2 _ _ _ _ _ _ _ _ _
      | exact slices_ContainsFunc_int_int_at_impl_ApplyTable_1.mono _ _
      | exact LeO.none _
      | refine LeO.ite ?_ ?_
      | refine LeO.bind ?_ (fun _ => ?_)
    · intro y0 y1 y2 y3 y4 y5 y6 y7 y8
      unfold impl_ApplyTable.l1
      repeat' first
      | (with_reducible exact ih0 _ _ _)
      | (with_reducible exact ih1 _ _ _ _ _)
      | (with_reducible exact ih2 _ _ _ _ _ _ _ _ _)
      | (with_reducible exact slices_ContainsFunc_int_int_at_impl_ApplyTable_1.mono _ _)
      | (with_reducible exact LeO.refl _)
      | (with_reducible exact LeO.none _)
      | (with_reducible refine LeO.ite ?_ ?_)
      | (with_reducible refine LeO.bind ?_ (fun _ => ?_))
      | exact ih0 _ _ _
      | exact ih1 _ _ _ _ _
      | exact ih2 _ _ _ _ _ _ _ _ _
      | exact slices_ContainsFunc_int_int_at_impl_ApplyTable_1.mono _ _
      | exact LeO.none _
      | refine LeO.ite ?_ ?_
      | refine LeO.bind ?_ (fun _ => ?_)
theorem impl_ApplyTable.mono : ∀ a0 a1 k, LeO (impl_ApplyTable.f k a0 a1) (impl_ApplyTable.f (k + 1) a0 a1) := by
  intro a0 a1 k
  obtain ⟨ih0, ih1, ih2⟩ := impl_ApplyTable.mono_l k
  unfold impl_ApplyTable.f
  repeat' first
      | (with_reducible exact ih0 _ _ _)
      | (with_reducible exact ih1 _ _ _ _ _)
      | (with_reducible exact ih2 _ _ _ _ _ _ _ _ _)
      | (with_reducible exact slices_ContainsFunc_int_int_at_impl_ApplyTable_1.mono _ _)
      | (with_reducible exact LeO.refl _)
      | (with_reducible exact LeO.none _)
      | (with_reducible refine LeO.ite ?_ ?_)
      | (with_reducible refine LeO.bind ?_ (fun _ => ?_))
      | exact ih0 _ _ _
      | exact ih1 _ _ _ _ _
      | exact ih2 _ _ _ _ _ _ _ _ _
      | exact slices_ContainsFunc_int_int_at_impl_ApplyTable_1.mono _ _
      | exact LeO.none _
      | refine LeO.ite ?_ ?_
      | refine LeO.bind ?_ (fun _ => ?_)
set_option maxHeartbeats 8000000 in
set_option maxRecDepth 100000 in
theorem impl_ApplyTable.calls (k : Nat) (A0 : Option Addr) (c0 : Nat) (l0 : List (List Int)) (A1 : Option Addr) (c1 : Nat) (l1 : List Int) (r1 : List Int) (r2 : Bool) (w : World) (hr0 : Kd.C (Kd.slice 3 (Kd.int .i64)) w A0 l0.length l0) (hc0 : l0.length ≤ c0) (hr1 : Kd.C (Kd.int .i64) w A1 l1.length l1) (hc1 : l1.length ≤ c1) (h : impl_ApplyTable.f k l0 l1 = some (r1, r2)) :
    Calls Try.prog 28 #[.slice A0 l0.length c0, .slice A1 l1.length c1] w fun e w' => ∃ v0_ : Value, e = .returned (.tuple #[v0_, .bool r2]) ∧ Kd.R (Kd.int .i64) 3 w' w.heap.size (fun _ => True) v0_ r1 ∧ Below w.heap.size w w' := by
  have HR0 := Aside0.mk hr0
  have HC0 := Aside0.mk hc0
  clear hr0 hc0
  have HR1 := Aside0.mk hr1
  have HC1 := Aside0.mk hc1
  clear hr1 hc1
  have HB := Aside0.mk (Below.refl w.heap.size w)
  have H : ((impl_areRows.f l0).bind fun t137 => (if t137 = true then (if (l1.length : Int) = (l0.length : Int) then ((slices_ContainsFunc_int_int_at_impl_ApplyTable_1.f k l1).bind fun t138 => (impl_ApplyTable.j0 k l0 l1 t138)) else (impl_ApplyTable.j0 k l0 l1 true)) else (impl_ApplyTable.j0 k l0 l1 true))) = some (r1, r2) := h
  clear h
  have HC3 := Aside0.mk H
  clear H
  go_enter Try.func28, Try.ntmps28
  go_upto_region 1 with (fail)
  go_cut [25] (fun v25 wc => ∃ (kq : Nat) (x25_2 : Bool), v25 = .bool x25_2 ∧ Aside0 (impl_ApplyTable.j0 kq l0 l1 x25_2 = some (r1, r2)) ∧ Aside0 (kq ≤ k) ∧ Aside0 (Below w.heap.size w wc))
  case first =>
    have H := HC3.out
    clear HC3
    replace H := Option.bind_eq_some_iff.mp H
    obtain ⟨t137, A40, H⟩ := H
    replace H : (if t137 = true then (if (l1.length : Int) = (l0.length : Int) then ((slices_ContainsFunc_int_int_at_impl_ApplyTable_1.f k l1).bind fun t138 => (impl_ApplyTable.j0 k l0 l1 t138)) else (impl_ApplyTable.j0 k l0 l1 true)) else (impl_ApplyTable.j0 k l0 l1 true)) = some (r1, r2) := H
    have A4 := Aside0.mk A40
    clear A40
    by_cases c5 : t137 = true
    · subst c5
      have H1 : (if (l1.length : Int) = (l0.length : Int) then ((slices_ContainsFunc_int_int_at_impl_ApplyTable_1.f k l1).bind fun t138 => (impl_ApplyTable.j0 k l0 l1 t138)) else (impl_ApplyTable.j0 k l0 l1 true)) = some (r1, r2) := by rw [if_pos rfl] at H; exact H
      clear H
      have H := H1
      clear H1
      by_cases c6 : (l1.length : Int) = (l0.length : Int)
      · rw [if_pos c6] at H
        have c6b0 : ((l1.length : Int) == (l0.length : Int)) = true := beq_iff_eq.mpr c6
        have c6b1 : ((l1.length : Int) != (l0.length : Int)) = false := bne_eq_false_iff_eq.mpr c6
        have c6b2 : (l1.length == l0.length) = true := by first | simpa using c6 | (simp at c6 ⊢; omega)
        clear c6
        (first | rw [c6b0] | (simp only [i64_w, i32_w]; rw [c6b0]) | skip)
        replace H := Option.bind_eq_some_iff.mp H
        obtain ⟨t138, A70, H⟩ := H
        replace H : (impl_ApplyTable.j0 k l0 l1 t138) = some (r1, r2) := H
        have A7 := Aside0.mk A70
        clear A70
        have H' := Aside0.mk H
        clear H
        go_wp2_with (first | ((with_reducible refine gate_callee (f := 47) rfl ?_); refine goesL_ (some 13) rfl rfl Try.func47 (by kernel_rfl) rfl #[.slice A0 l0.length c0] rfl (by (try simp only [List.map_toArray, List.map_cons, List.map_nil]); first | done | rfl | (simp only [List.length_drop, List.length_take]; rfl)) ?_; (with_reducible refine (impl_areRows.calls _ _ l0 true _ ?side1 ?side2 A4.out).mono ?_); (case side1 => repeat (first | exact (Kd.C_below HR0.out HB.out) | (with_reducible refine Kd.C_alloc ?_ _) | (with_reducible refine Kd.C_drewN ?_ _) | (with_reducible refine Kd.C_drew ?_))); (case side2 => exact HC0.out); rintro e w8 ⟨rfl, hb⟩; refine ⟨_, rfl, ?_⟩; have n0_ := Aside0.mk (below_step (by repeat (first | (with_reducible first | exact HB.out | apply below_alloc | apply pw_below_drewN | apply below_drew1) | exact HB.out)) hb); clear HB; have HB := n0_; clear n0_; (try clear hb); (try clear hb2); (try clear hk); (try clear hi)) | (go_at_call 48; (with_reducible refine (slices_ContainsFunc_int_int_at_impl_ApplyTable_1.calls k _ _ l1  t138 _ ?side1 ?side2 A7.out).mono ?_); (case side1 => repeat (first | exact (Kd.C_below HR1.out HB.out) | (with_reducible refine Kd.C_alloc ?_ _) | (with_reducible refine Kd.C_drewN ?_ _) | (with_reducible refine Kd.C_drew ?_))); (case side2 => exact HC1.out); rintro e w' ⟨rfl, ⟨nd, rfl⟩⟩))
        go_meet
        case rel => exact ⟨_, (t138), (by first | rfl | (simp; done) | (simp [*]; done)), H', ⟨by first | omega | exact Nat.le_refl _⟩, ⟨by repeat (first | (with_reducible first | exact HB.out | apply below_alloc | apply pw_below_drewN | apply below_drew1) | exact HB.out)⟩⟩
      · rw [if_neg c6] at H
        have c6b0 : ((l1.length : Int) == (l0.length : Int)) = false := beq_eq_false_iff_ne.mpr c6
        have c6b1 : ((l1.length : Int) != (l0.length : Int)) = true := bne_iff_ne.mpr c6
        have c6b2 : (l1.length == l0.length) = false := by first | simpa using c6 | (simp at c6 ⊢; omega)
        (first | rw [c6b0] | (simp only [i64_w, i32_w]; rw [c6b0]) | skip)
        have H' := Aside0.mk H
        clear H
        go_wp2_with (first | ((with_reducible refine gate_callee (f := 47) rfl ?_); refine goesL_ (some 13) rfl rfl Try.func47 (by kernel_rfl) rfl #[.slice A0 l0.length c0] rfl (by (try simp only [List.map_toArray, List.map_cons, List.map_nil]); first | done | rfl | (simp only [List.length_drop, List.length_take]; rfl)) ?_; (with_reducible refine (impl_areRows.calls _ _ l0 true _ ?side1 ?side2 A4.out).mono ?_); (case side1 => repeat (first | exact (Kd.C_below HR0.out HB.out) | (with_reducible refine Kd.C_alloc ?_ _) | (with_reducible refine Kd.C_drewN ?_ _) | (with_reducible refine Kd.C_drew ?_))); (case side2 => exact HC0.out); rintro e w9 ⟨rfl, hb⟩; refine ⟨_, rfl, ?_⟩; have n0_ := Aside0.mk (below_step (by repeat (first | (with_reducible first | exact HB.out | apply below_alloc | apply pw_below_drewN | apply below_drew1) | exact HB.out)) hb); clear HB; have HB := n0_; clear n0_; (try clear hb); (try clear hb2); (try clear hk); (try clear hi)))
        go_meet
        case rel => exact ⟨_, (true), (by first | rfl | (simp; done) | (simp [*]; done)), H', ⟨by first | omega | exact Nat.le_refl _⟩, ⟨by repeat (first | (with_reducible first | exact HB.out | apply below_alloc | apply pw_below_drewN | apply below_drew1) | exact HB.out)⟩⟩
    · replace c5 := Bool.eq_false_iff.mpr c5
      subst c5
      have H1 : (impl_ApplyTable.j0 k l0 l1 true) = some (r1, r2) := by rw [if_neg (show ¬ (false = true) by decide)] at H; exact H
      clear H
      have H := H1
      clear H1
      have H' := Aside0.mk H
      clear H
      go_wp2_with (first | ((with_reducible refine gate_callee (f := 47) rfl ?_); refine goesL_ (some 13) rfl rfl Try.func47 (by kernel_rfl) rfl #[.slice A0 l0.length c0] rfl (by (try simp only [List.map_toArray, List.map_cons, List.map_nil]); first | done | rfl | (simp only [List.length_drop, List.length_take]; rfl)) ?_; (with_reducible refine (impl_areRows.calls _ _ l0 false _ ?side1 ?side2 A4.out).mono ?_); (case side1 => repeat (first | exact (Kd.C_below HR0.out HB.out) | (with_reducible refine Kd.C_alloc ?_ _) | (with_reducible refine Kd.C_drewN ?_ _) | (with_reducible refine Kd.C_drew ?_))); (case side2 => exact HC0.out); rintro e w10 ⟨rfl, hb⟩; refine ⟨_, rfl, ?_⟩; have n0_ := Aside0.mk (below_step (by repeat (first | (with_reducible first | exact HB.out | apply below_alloc | apply pw_below_drewN | apply below_drew1) | exact HB.out)) hb); clear HB; have HB := n0_; clear n0_; (try clear hb); (try clear hb2); (try clear hk); (try clear hi)))
      go_meet
      case rel => exact ⟨_, (true), (by first | rfl | (simp; done) | (simp [*]; done)), H', ⟨by first | omega | exact Nat.le_refl _⟩, ⟨by repeat (first | (with_reducible first | exact HB.out | apply below_alloc | apply pw_below_drewN | apply below_drew1) | exact HB.out)⟩⟩
  case rest =>
    clear HC3
    try clear c1
    try clear c2
    try clear p2
    try clear c4
    try clear c5
    try clear c6
    try clear c6b0
    try clear c6b1
    try clear c6b2
    obtain ⟨kq, x25_2, rfl, HA, HJ2, HB⟩ := hcut
    cases kq with
    | zero => exact absurd HA.out (by simp [impl_ApplyTable.j0])
    | succ kj2 =>
      have H := HA.out
      clear HA
      simp only [impl_ApplyTable.j0] at H
      by_cases c11 : x25_2 = true
      · subst c11
        have H1 : (some (([] : List Int), false)) = some (r1, r2) := by rw [if_pos rfl] at H; exact H
        clear H
        have H := H1
        clear H1
        simp only [Option.some.injEq, Prod.mk.injEq] at H
        obtain ⟨rfl, rfl⟩ := H
        go_wp2
        go_ret2
        exact ⟨_, by first | rfl | (simp [errW_none, errW_some] <;> rfl) | (simp [*, errW_none, errW_some] <;> rfl), by first | exact Kd.R_nil _ _ _ _ _ | exact Kd.N_nil _ _ _ _ _ | exact Kd.V_nil _ _ _ _ _ | exact Kd.Q_nil _ _ _ _ _ | exact Kd.S_nil _ _ _ _ _, by repeat (first | (with_reducible first | exact HB.out | apply below_alloc | apply pw_below_drewN | apply below_drew1) | exact HB.out)⟩
      · replace c11 := Bool.eq_false_iff.mpr c11
        subst c11
        have H1 : (impl_ApplyTable.l0 kj2 l1 (([] : List Int)) l0 (l0.length : Int) 0) = some (r1, r2) := by rw [if_neg (show ¬ (false = true) by decide)] at H; exact H
        clear H
        have H := H1
        clear H1
        obtain ⟨y139, hy139⟩ : ∃ y_ : List Int, y_ = (([] : List Int)) := ⟨_, rfl⟩
        replace H : (impl_ApplyTable.l0 kj2 l1 y139 l0 (l0.length : Int) 0) = some (r1, r2) := by first | (rw [hy139]; with_reducible exact H) | (have H2_ := (Option.bind_some _ _).symm.trans H; rw [hy139]; with_reducible exact H2_) | (have H2_ := (Option.bind_some _ _).symm.trans H; with_reducible exact H2_) | with_reducible exact H | (rw [hy139]; exact H) | exact H
        have Ny139 := Aside0.mk hy139
        clear hy139
        have H' := Aside0.mk H
        clear H
        go_wp2_with (first | ((with_reducible refine gate_dst (N := 26) rfl ?_); (try (refine gate_guard (by rfl) ?_; dsimp only)); refine Kd.R_lit (Kd.int .i64) _ 3 ?hg (N := 26) ?hd (xs := ([] : List Int)) (inner := []) (ok := fun _ => True) (okp := fun _ => True) ?hr ?hp (fun _ hk => hk) trivial (Below.refl _ _) (Nat.le_refl _) (by simp) ?_; (case hd => rfl); (case hg => rfl); (case hr => first | (go_simp; done) | (go_simp; rfl)); (case hp => exact (Reps.none _ _)); intro v140 w12 ho13 hb hg_ hnew_; clear hg_ hnew_; (first | rw [← Ny139.out] at ho13 | (simp only [Int.reduceToNat] at ho13; rw [← Ny139.out] at ho13)); have n0_ := Aside0.mk (Kd.R_lower ho13 (below_size (by repeat (first | (with_reducible first | exact HB.out | apply below_alloc | apply pw_below_drewN | apply below_drew1) | exact HB.out)))); have n1_ := Aside0.mk (below_step (by repeat (first | (with_reducible first | exact HB.out | apply below_alloc | apply pw_below_drewN | apply below_drew1) | exact HB.out)) hb); clear HB; have HO141 := n0_; have HB := n1_; clear n0_ n1_; clear hb ho13))
        go_loopg [6, 29] kj2 (fun kq v6 v29 w' => ∃ (x6_2 : List Int) (x29_2 : Int), v29 = .int .i64 x29_2 ∧ Aside0 (impl_ApplyTable.l0 kq l1 x6_2 l0 (l0.length : Int) x29_2 = some (r1, r2)) ∧ Aside0 (kq ≤ kj2) ∧ Aside0 (Kd.R (Kd.int .i64) 3 w' w.heap.size (fun _ => True) v6 x6_2) ∧ Aside0 (Below w.heap.size w w'))
        case atStart => exact ⟨(y139), (0), (by first | rfl | (simp; done) | (simp [*]; done)), H', ⟨Nat.le_refl _⟩, ⟨by (with_reducible repeat (first | apply Kd.R_alloc | apply Kd.R_drewN | apply Kd.R_drew)); exact HO141.out⟩, ⟨by repeat (first | (with_reducible first | exact HB.out | apply below_alloc | apply pw_below_drewN | apply below_drew1) | exact HB.out)⟩⟩
        case round =>
          clear H'
          try clear c1
          try clear c2
          try clear p2
          try clear c4
          try clear c5
          try clear c6
          try clear c6b0
          try clear c6b1
          try clear c6b2
          try clear c11
          try clear p2
          obtain ⟨x6_2, x29_2, rfl, HA, HK2, HO_6, HB⟩ := hrel
          cases gk with
          | zero => exact absurd HA.out (by simp [impl_ApplyTable.l0])
          | succ k2 =>
            have H := HA.out
            clear HA
            simp only [impl_ApplyTable.l0] at H
            by_cases c14 : x29_2 < (l0.length : Int)
            · rw [if_pos c14] at H
              have c14b0 : decide (x29_2 < (l0.length : Int)) = true := decide_eq_true c14
              clear c14
              by_cases c15 : 0 ≤ x29_2
              · rw [if_pos c15] at H
                have c15b0 : decide (0 ≤ x29_2) = true := decide_eq_true c15
                clear c15
                by_cases c16 : x29_2 < (l0.length : Int)
                · rw [if_pos c16] at H
                  have c16b0 : decide (x29_2 < (l0.length : Int)) = true := decide_eq_true c16
                  clear c16
                  have H' := Aside0.mk H
                  clear H
                  have p142 : 0 ≤ (x29_2 : Int) := of_decide_eq_true (by first | (with_reducible assumption) | assumption)
                  have q142 : x29_2 < (l0.length : Int) := of_decide_eq_true (by first | (with_reducible assumption) | assumption)
                  obtain ⟨ad142, A142_0, c142_0, e142, hx142_0, hl142_0, hi142_0⟩ := at_L1 HR0.out x29_2 p142 q142
                  cases e142
                  replace hx142_0 := (HB.out.cell (World.block_lt_of_cell? w _ hx142_0)).trans hx142_0
                  have HR142_0 := Aside0.mk hi142_0
                  have HC142_0 := Aside0.mk hl142_0
                  clear hi142_0 hl142_0
                  replace p142 := eq_true p142
                  replace q142 := eq_true q142
                  go_wp2
                  go_loopg [9, 35] k2 (fun kq v9 v35 w' => ∃ (x9_3 : Int) (x35_3 : Int), v9 = .int .i64 x9_3 ∧ v35 = .int .i64 x35_3 ∧ Aside0 (impl_ApplyTable.l1 kq l1 x6_2 x9_3 l0 (l0.length : Int) x29_2 (rd_L1 l0 x29_2) ((rd_L1 l0 x29_2).length : Int) x35_3 = some (r1, r2)) ∧ Aside0 (kq ≤ k2) ∧ Aside0 (Kd.R (Kd.int .i64) 3 w' w.heap.size (fun _ => True) u6 x6_2) ∧ Aside0 (Below w.heap.size w w'))
                  case atStart => exact ⟨(0), (0), (by first | rfl | (simp; done) | (simp [*]; done)), (by first | rfl | (simp; done) | (simp [*]; done)), H', ⟨Nat.le_refl _⟩, ⟨by (with_reducible repeat (first | apply Kd.R_alloc | apply Kd.R_drewN | apply Kd.R_drew)); exact HO_6.out⟩, ⟨by repeat (first | (with_reducible first | exact HB.out | apply below_alloc | apply pw_below_drewN | apply below_drew1) | exact HB.out)⟩⟩
                  case round =>
                    clear H'
                    try clear c1
                    try clear p1
                    try clear q1
                    try clear hx1
                    try clear c2
                    try clear p2
                    try clear c4
                    try clear c5
                    try clear c6
                    try clear c6b0
                    try clear c6b1
                    try clear c6b2
                    try clear c11
                    try clear c14
                    try clear c14b0
                    try clear p14
                    try clear q14
                    try clear hx14
                    try clear c15
                    try clear c15b0
                    try clear c16
                    try clear c16b0
                    try clear hx142_0
                    try clear p142
                    try clear p2
                    try clear q142
                    obtain ⟨x9_3, x35_3, rfl, rfl, HA, HK3, HO_6, HB⟩ := hrel
                    cases gk with
                    | zero => exact absurd HA.out (by simp [impl_ApplyTable.l1])
                    | succ k3 =>
                      have H := HA.out
                      clear HA
                      simp only [impl_ApplyTable.l1] at H
                      by_cases c17 : x35_3 < ((rd_L1 l0 x29_2).length : Int)
                      · rw [if_pos c17] at H
                        have c17b0 : decide (x35_3 < ((rd_L1 l0 x29_2).length : Int)) = true := decide_eq_true c17
                        clear c17
                        by_cases c18 : 0 ≤ x35_3
                        · rw [if_pos c18] at H
                          have c18b0 : decide (0 ≤ x35_3) = true := decide_eq_true c18
                          clear c18
                          by_cases c19 : x35_3 < ((rd_L1 l0 x29_2).length : Int)
                          · rw [if_pos c19] at H
                            have c19b0 : decide (x35_3 < ((rd_L1 l0 x29_2).length : Int)) = true := decide_eq_true c19
                            clear c19
                            by_cases c20 : x35_3 < (l1.length : Int)
                            · rw [if_pos c20] at H
                              have c20b0 : decide (x35_3 < (l1.length : Int)) = true := decide_eq_true c20
                              clear c20
                              have H' := Aside0.mk H
                              clear H
                              have p143 : 0 ≤ (x35_3 : Int) := of_decide_eq_true (by first | (with_reducible assumption) | assumption)
                              have q143 : x35_3 < ((rd_L1 l0 x29_2).length : Int) := of_decide_eq_true (by first | (with_reducible assumption) | assumption)
                              obtain ⟨ad143, e143, hx143_0⟩ := Kd.at_int HR142_0.out x35_3 p143 q143
                              cases e143
                              replace hx143_0 := (HB.out.cell (World.block_lt_of_cell? w _ hx143_0)).trans hx143_0
                              replace p143 := eq_true p143
                              replace q143 := eq_true q143
                              have p144 : 0 ≤ (x35_3 : Int) := of_decide_eq_true (by first | (with_reducible assumption) | assumption)
                              have q144 : x35_3 < (l1.length : Int) := of_decide_eq_true (by first | (with_reducible assumption) | assumption)
                              obtain ⟨ad144, e144, hx144_0⟩ := Kd.at_int HR1.out x35_3 p144 q144
                              cases e144
                              replace hx144_0 := (HB.out.cell (World.block_lt_of_cell? w _ hx144_0)).trans hx144_0
                              replace p144 := eq_true p144
                              replace q144 := eq_true q144
                              go_wp2
                              go_roundg k3
                              case measure => have := HJ2.out; have := HK2.out; have := HK3.out; omega
                              case rel => exact ⟨(wrap64 (x9_3 + (wrap64 ((rd (rd_L1 l0 x29_2) x35_3) * (rd l1 x35_3))))), (wrap64 (x35_3 + 1)), (by first | rfl | (simp; done) | (simp [*]; done)), (by first | rfl | (simp; done) | (simp [*]; done)), H', ⟨by have := HJ2.out; have := HK2.out; have := HK3.out; omega⟩, ⟨by (with_reducible repeat (first | apply Kd.R_alloc | apply Kd.R_drewN | apply Kd.R_drew)); exact HO_6.out⟩, ⟨by repeat (first | (with_reducible first | exact HB.out | apply below_alloc | apply pw_below_drewN | apply below_drew1) | exact HB.out)⟩⟩
                            · rw [if_neg c20] at H
                              exact absurd H (by simp)
                          · rw [if_neg c19] at H
                            exact absurd H (by simp)
                        · rw [if_neg c18] at H
                          exact absurd H (by simp)
                      · rw [if_neg c17] at H
                        have c17b0 : decide (x35_3 < ((rd_L1 l0 x29_2).length : Int)) = false := decide_eq_false c17
                        clear c17
                        by_cases c21 : x6_2.length < 17592186044416
                        · rw [if_pos c21] at H
                          have LMc21 := Aside0.mk c21
                          clear c21
                          obtain ⟨y145, hy145⟩ : ∃ y_ : List Int, y_ = (x6_2 ++ [x9_3]) := ⟨_, rfl⟩
                          replace H : (impl_ApplyTable.l0 k3 l1 y145 l0 (l0.length : Int) (wrap64 (x29_2 + 1))) = some (r1, r2) := by first | (rw [hy145]; with_reducible exact H) | (have H2_ := (Option.bind_some _ _).symm.trans H; rw [hy145]; with_reducible exact H2_) | (have H2_ := (Option.bind_some _ _).symm.trans H; with_reducible exact H2_) | with_reducible exact H | (rw [hy145]; exact H) | exact H
                          have Ny145 := Aside0.mk hy145
                          clear hy145
                          have H' := Aside0.mk H
                          clear H
                          go_wp2_with (first | ((with_reducible refine gate_builtin (b := .append) (xs := #[.tmp 49, .tmp 51]) rfl ?_); (try (refine gate_guard (by rfl) ?_; dsimp only)); at_builtin; refine Kd.R_append (Kd.int .i64) (w0 := w) w.heap.size rfl (.tmp 49) (.tmp 51) 22 3 (.int .i64 0) 8 rfl Try.underlying22 info3 rfl (by decide) (by omega) u6 x6_2 x9_3 [.int .i64 x9_3] (fun _ => True) (fun _ => False) rfl rfl ?aP (fun _ hk => hk.elim) ?aF ?aO ?aB ?aS ?aL ?_; (case aP => exact rfl); (case aB => exact (by repeat (first | (with_reducible first | exact HB.out | apply below_alloc | apply pw_below_drewN | apply below_drew1) | exact HB.out))); (case aF => exact (fun _ _ => trivial)); (case aO => exact (by (with_reducible repeat (first | apply Kd.R_alloc | apply Kd.R_drewN | apply Kd.R_drew)); exact HO_6.out)); (case aS => exact (below_size (by repeat (first | (with_reducible first | exact HB.out | apply below_alloc | apply pw_below_drewN | apply below_drew1) | exact HB.out)))); (case aL => have := LMc21.out; omega); intro v146 w22 ho hb hg hat; rw [← Ny145.out] at ho; have n0_ := Aside0.mk (hb); have n1_ := Aside0.mk (ho); clear HB; clear HO_6; have HB := n0_; have HO147 := n1_; clear n0_ n1_; clear ho hb hg hat))
                          go_roundg k3
                          case measure => have := HJ2.out; have := HK2.out; have := HK3.out; omega
                          case rel => exact ⟨(y145), (wrap64 (x29_2 + 1)), (by first | rfl | (simp; done) | (simp [*]; done)), H', ⟨by have := HJ2.out; have := HK2.out; have := HK3.out; omega⟩, ⟨by (with_reducible repeat (first | apply Kd.R_alloc | apply Kd.R_drewN | apply Kd.R_drew)); exact HO147.out⟩, ⟨by repeat (first | (with_reducible first | exact HB.out | apply below_alloc | apply pw_below_drewN | apply below_drew1) | exact HB.out)⟩⟩
                        · rw [if_neg c21] at H
                          exact absurd H (by simp)
                · rw [if_neg c16] at H
                  exact absurd H (by simp)
              · rw [if_neg c15] at H
                exact absurd H (by simp)
            · rw [if_neg c14] at H
              have c14b0 : decide (x29_2 < (l0.length : Int)) = false := decide_eq_false c14
              clear c14
              simp only [Option.some.injEq, Prod.mk.injEq] at H
              obtain ⟨rfl, rfl⟩ := H
              go_wp2
              go_ret2
              exact ⟨_, by first | rfl | (simp [errW_none, errW_some] <;> rfl) | (simp [*, errW_none, errW_some] <;> rfl), by (with_reducible repeat (first | apply Kd.R_alloc | apply Kd.R_drewN | apply Kd.R_drew)); exact HO_6.out, by repeat (first | (with_reducible first | exact HB.out | apply below_alloc | apply pw_below_drewN | apply below_drew1) | exact HB.out)⟩

end Go.Proofs.Ytoblagangofflaa.T
