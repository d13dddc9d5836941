-- printed by wip/drv/xprint.py (our driver), shortened by wip/drv/squeeze.py: those functions that the claim reaches; Lean checks it
import Derived.Test.YtldbkkfkgfacdaaQA1
namespace Go.Proofs.Ytldbkkfkgfacdaa.P
open Go.Proofs.Ytldbkkfkgfacdaa.Short Go.RowKit Go.Proofs.YtldbkkfkgfacdaaW.PrintWords Go.Proofs.YtldbkkfkgfacdaaW.PrintLast Go.Proofs.YtldbkkfkgfacdaaW.PrintMore
attribute [local go_sem] max2_int min2_int max_two min_two max_three min_three max_four min_four   -- for this text's walks alone
set_option linter.unusedVariables false
set_option linter.unusedSimpArgs false



set_option maxHeartbeats 8000000
set_option maxRecDepth 100000
/-! ### impl_fromLast: function 56 -/
def impl_fromLast.l0 : Nat → List Int → List Int → List Int → Int → Int → Option (List Int)
 | 0, _, _, _, _, _ => none
 | k + 1, x0, x3, x7, x8, x9 => if x9 < x8 then (if 0 ≤ x9 then (if x9 < (x7.length : Int) then (if x3.length < 17592186044416 then (impl_fromLast.l0 k x0 (x3 ++ [wrap64 ((wrap64 ((x0.length : Int) - 1)) - (rd x7 x9))]) x7 x8 (wrap64 (x9 + 1))) else (none)) else (none)) else (none)) else (some x3)
def impl_fromLast.f (k : Nat) (l0 : List Int) : Option (List Int) := impl_fromLast.l0 k l0 (([] : List Int)) l0 (l0.length : Int) 0
theorem impl_fromLast.calls (k : Nat) (A0 : Option Addr) (c0 : Nat) (l0 : List Int) (r : List Int) (w : World) (hr0 : Kd.C (Kd.int .i64) w A0 l0.length l0) (hc0 : l0.length ≤ c0) (h : impl_fromLast.f k l0 = some r) :
  Calls Try.prog 56 #[.slice A0 l0.length c0] w fun e w' => ∃ v0_ : Value, e = .returned (v0_) ∧ Kd.R (Kd.int .i64) 3 w' w.heap.size (fun _ => True) v0_ r ∧ Below w.heap.size w w' := by
 have HR0 := Aside0.mk hr0; have HC0 := Aside0.mk hc0; clear hr0 hc0; have HB := Aside0.mk (Below.refl w.heap.size w); have H : (impl_fromLast.l0 k l0 (([] : List Int)) l0 (l0.length : Int) 0) = some r := h; clear h; obtain ⟨y553, hy553⟩ := yy (([] : List Int))
 (try rw [Option.bind_some] at H); (try dsimp only at H); rw [← hy553] at H
 have Ny553 := Aside0.mk hy553; clear hy553; have H' := Aside0.mk H; clear H; go_enter Try.func56, Try.ntmps56; go_wp2_with (first | ((with_reducible refine gate_dst (N := 6) rfl ?_); refine Kd.R_lit (Kd.int .i64) _ 3 ?hg (N := 6) ?hd (xs := ([] : List Int)) (inner := []) (ok := fun _ => True) (okp := fun _ => True) ?hr ?hp (fun _ hk => hk) trivial (Below.refl _ _) (Nat.le_refl _) (by simp) ?_; (case hd => rfl); (case hg => rfl); (case hr => first | (go_simp; done) | (go_simp; rfl)); (case hp => exact (Reps.none _ _)); intro v554 w2 ho3 hb hg_ hnew_; clear hg_ hnew_; (first | rw [← Ny553.out] at ho3 | (simp only [Int.reduceToNat] at ho3; rw [← Ny553.out] at ho3)); have HO555 := Aside0.mk (Kd.R_lower ho3 (below_size (bl HB.out))); replace HB := bst HB hb; clear hb ho3))
 go_loopg [3, 9] k (fun kq v3 v9 w' => ∃ (x3_1 : List Int) (x9_1 : Int), v9 = .int .i64 x9_1 ∧ Aside0 (impl_fromLast.l0 kq l0 x3_1 l0 (l0.length : Int) x9_1 = some r) ∧ Aside0 (kq ≤ k) ∧ Aside0 (Kd.R (Kd.int .i64) 3 w' w.heap.size (fun _ => True) v3 x3_1) ∧ Aside0 (Below w.heap.size w w'))
 case atStart => exact ⟨(y553), (0), (sr2), H', ⟨Nat.le_refl _⟩, ⟨rR HO555.out⟩, ⟨bl HB.out⟩⟩
 case round =>
  clear H'; obtain ⟨x3_1, x9_1, rfl, HA, HK1, HO_3, HB⟩ := hrel
  cases gk with
  | zero => exact absurd HA.out (by simp [impl_fromLast.l0])
  | succ k1 =>
   have H := HA.out; clear HA; simp only [impl_fromLast.l0] at H
   by_cases c4 : x9_1 < (l0.length : Int)
   ·rw [if_pos c4] at H; have c4b0 := decide_eq_true c4; clear c4
    by_cases c5 : 0 ≤ x9_1
    ·rw [if_pos c5] at H; have c5b0 := decide_eq_true c5; clear c5
     by_cases c6 : x9_1 < (l0.length : Int)
     ·rw [if_pos c6] at H; have c6b0 := decide_eq_true c6; clear c6
      by_cases c7 : x3_1.length < 17592186044416
      ·rw [if_pos c7] at H; have LMc7 := Aside0.mk c7; clear c7; obtain ⟨y557, hy557⟩ := yy (x3_1 ++ [wrap64 ((wrap64 ((l0.length : Int) - 1)) - (rd l0 x9_1))])
       (try rw [Option.bind_some] at H); (try dsimp only at H); rw [← hy557] at H
       have Ny557 := Aside0.mk hy557; clear hy557; have H' := Aside0.mk H; clear H; obtain ⟨ad556, e556, hx556_0, p556, q556⟩ := atI HR0.out x9_1; cases e556; replace hx556_0 := hbx HB hx556_0; go_wp2_with (first | ((with_reducible refine gate_builtin (b := .append) (xs := #[.tmp 13, .tmp 19]) rfl ?_); at_builtin; refine Kd.R_append (Kd.int .i64) (w0 := w) w.heap.size rfl (.tmp 13) (.tmp 19) 24 3 (.int .i64 0) 8 rfl Try.underlying24 info3 rfl (by decide) (by omega) u3 x3_1 (wrap64 ((wrap64 ((l0.length : Int) - 1)) - (rd l0 x9_1))) [.int .i64 (wrap64 ((wrap64 ((l0.length : Int) - 1)) - (rd l0 x9_1)))] (fun _ => True) (fun _ => False) rfl rfl ?aP (fun _ hk => hk.elim) ?aF ?aO ?aB ?aS (by have := LMc7.out; omega) ?_; (case aP => exact rfl); (case aB => exact (bl HB.out)); (case aF => exact (fun _ _ => trivial)); (case aO => exact (rR HO_3.out)); (case aS => exact (below_size (bl HB.out))); intro v558 w8 ho hb hg hat; rw [← Ny557.out] at ho; replace HB := Aside0.mk (hb); have HO559 := Aside0.mk (ho); clear HO_3; clear ho hb hg hat))
       go_roundg k1
       case measure => have := HK1.out; omega
       case rel => exact ⟨(y557), (wrap64 (x9_1 + 1)), (sr2), H', ⟨by have := HK1.out; omega⟩, ⟨rR HO559.out⟩, ⟨bl HB.out⟩⟩
      rw [if_neg c7] at H; exact absurd H (by simp)
     rw [if_neg c6] at H; exact absurd H (by simp)
    rw [if_neg c5] at H; exact absurd H (by simp)
   rw [if_neg c4] at H; have c4b0 := decide_eq_false c4; clear c4; obtain rfl := Option.some.inj H; go_wp2; go_ret; exact ⟨_, sr, rR HO_3.out, bl HB.out⟩
/-! ### impl_MirrorPermutation: function 16 -/
def impl_MirrorPermutation.f (k : Nat) (l0 : List Int) : Option (List Int × Bool) := (impl_isPoints.f k l0).bind fun t560 => (if t560 = true then ((impl_fromLast.f k l0).bind fun t561 => (some (t561, true))) else (some (([] : List Int), false)))
theorem impl_MirrorPermutation.calls (k : Nat) (A0 : Option Addr) (c0 : Nat) (l0 : List Int) (r1 : List Int) (r2 : Bool) (w : World) (hr0 : Kd.C (Kd.int .i64) w A0 l0.length l0) (hc0 : l0.length ≤ c0) (h : impl_MirrorPermutation.f k l0 = some (r1, r2)) :
  Calls Try.prog 16 #[.slice A0 l0.length c0] w fun e w' => ∃ v0_ : Value, e = .returned (.tuple #[v0_, .bool r2]) ∧ Kd.R (Kd.int .i64) 3 w' w.heap.size (fun _ => True) v0_ r1 ∧ Below w.heap.size w w' := by
 have HR0 := Aside0.mk hr0; have HC0 := Aside0.mk hc0; clear hr0 hc0; have HB := Aside0.mk (Below.refl w.heap.size w); have H : ((impl_isPoints.f k l0).bind fun t560 => (if t560 = true then ((impl_fromLast.f k l0).bind fun t561 => (some (t561, true))) else (some (([] : List Int), false)))) = some (r1, r2) := h; clear h; obtain ⟨t560, A2, H⟩ := bi H; (try dsimp only at H)
 by_cases c3 : t560 = true
 ·subst c3; rw [if_pos rfl] at H; obtain ⟨t561, A4, H⟩ := bi H; (try dsimp only at H); simp only [Option.some.injEq, Prod.mk.injEq] at H; obtain ⟨rfl, rfl⟩ := H; go_enter Try.func16, Try.ntmps16; go_wp2_with (first | (go_at_call 48; (with_reducible refine (impl_isPoints.calls k _ _ l0 true _ ?side1 HC0.out A2.out).mono ?_); (case side1 => exact cw HR0.out); rintro e w5 ⟨rfl, hb⟩; replace HB := bst HB hb) | (go_at_call 56; (with_reducible refine (impl_fromLast.calls k _ _ l0 t561 _ ?side1 HC0.out A4.out).mono ?_); (case side1 => exact cw (Kd.C_below HR0.out HB.out)); rintro e w6 ⟨v562, rfl, ho0, hb⟩; have HO563 := Aside0.mk (Kd.R_lower ho0 (below_size (bl HB.out))); replace HB := bst HB hb)); go_ret2; exact ⟨_, sr, rR HO563.out, bl HB.out⟩
 replace c3 := Bool.eq_false_iff.mpr c3; subst c3; rw [if_neg (show ¬ (false = true) by decide)] at H; simp only [Option.some.injEq, Prod.mk.injEq] at H; obtain ⟨rfl, rfl⟩ := H; go_enter Try.func16, Try.ntmps16; go_wp2_with (first | (go_at_call 48; (with_reducible refine (impl_isPoints.calls k _ _ l0 false _ ?side1 HC0.out A2.out).mono ?_); (case side1 => exact cw HR0.out); rintro e w7 ⟨rfl, hb⟩; replace HB := bst HB hb)); go_ret2; exact ⟨_, sr, by first | exact Kd.R_nil _ _ _ _ _ | exact Kd.N_nil _ _ _ _ _ | exact Kd.V_nil _ _ _ _ _ | exact Kd.Q_nil _ _ _ _ _ | exact Kd.S_nil _ _ _ _ _, bl HB.out⟩
/-! ### spec_MirrorPermutation: function 17 -/
def spec_MirrorPermutation.l0 : Nat → List Int → List Int → List Int → Int → Int → Option (List Int × Bool)
 | 0, _, _, _, _, _ => none
 | k + 1, x0, x4, x10, x11, x12 => if x12 < x11 then (if 0 ≤ x12 then (if x12 < (x10.length : Int) then (if x4.length < 17592186044416 then (spec_MirrorPermutation.l0 k x0 (x4 ++ [wrap64 ((wrap64 ((x0.length : Int) - 1)) - (rd x10 x12))]) x10 x11 (wrap64 (x12 + 1))) else (none)) else (none)) else (none)) else (some (x4, true))
def spec_MirrorPermutation.f (k : Nat) (l0 : List Int) : Option (List Int × Bool) := (spec_peWord.f k l0).bind fun t564 => (if t564 = true then (spec_MirrorPermutation.l0 k l0 ([] : List Int) l0 (l0.length : Int) 0) else (some (([] : List Int), false)))
theorem spec_MirrorPermutation.calls (k : Nat) (A0 : Option Addr) (c0 : Nat) (l0 : List Int) (r1 : List Int) (r2 : Bool) (w : World) (hr0 : Kd.C (Kd.int .i64) w A0 l0.length l0) (hc0 : l0.length ≤ c0) (h : spec_MirrorPermutation.f k l0 = some (r1, r2)) :
  Calls Try.prog 17 #[.slice A0 l0.length c0] w fun e w' => ∃ v0_ : Value, e = .returned (.tuple #[v0_, .bool r2]) ∧ Kd.R (Kd.int .i64) 3 w' w.heap.size (fun _ => True) v0_ r1 ∧ Below w.heap.size w w' := by
 have HR0 := Aside0.mk hr0; have HC0 := Aside0.mk hc0; clear hr0 hc0; have HB := Aside0.mk (Below.refl w.heap.size w); have H : ((spec_peWord.f k l0).bind fun t564 => (if t564 = true then (spec_MirrorPermutation.l0 k l0 ([] : List Int) l0 (l0.length : Int) 0) else (some (([] : List Int), false)))) = some (r1, r2) := h; clear h; obtain ⟨t564, A2, H⟩ := bi H; (try dsimp only at H)
 by_cases c3 : t564 = true
 ·subst c3; rw [if_pos rfl] at H; have H' := Aside0.mk H; clear H; go_enter Try.func17, Try.ntmps17; go_wp2_with (first | (go_at_call 50; (with_reducible refine (spec_peWord.calls k _ _ l0 true _ ?side1 HC0.out A2.out).mono ?_); (case side1 => exact cw HR0.out); rintro e w' ⟨rfl, ⟨nd, rfl⟩⟩))
  go_loopg [4, 12] k (fun kq v4 v12 w' => ∃ (x4_1 : List Int) (x12_1 : Int), v12 = .int .i64 x12_1 ∧ Aside0 (spec_MirrorPermutation.l0 kq l0 x4_1 l0 (l0.length : Int) x12_1 = some (r1, r2)) ∧ Aside0 (kq ≤ k) ∧ Aside0 (Kd.R (Kd.int .i64) 3 w' w.heap.size (fun _ => True) v4 x4_1) ∧ Aside0 (Below w.heap.size w w'))
  case atStart => exact ⟨(([] : List Int)), (0), (sr2), H', ⟨Nat.le_refl _⟩, ⟨by first | exact Kd.R_nil _ _ _ _ _ | exact Kd.N_nil _ _ _ _ _ | exact Kd.V_nil _ _ _ _ _ | exact Kd.Q_nil _ _ _ _ _ | exact Kd.S_nil _ _ _ _ _⟩, ⟨bl HB.out⟩⟩
  case round =>
   clear H'; obtain ⟨x4_1, x12_1, rfl, HA, HK1, HO_4, HB⟩ := hrel
   cases gk with
   | zero => exact absurd HA.out (by simp [spec_MirrorPermutation.l0])
   | succ k1 =>
    have H := HA.out; clear HA; simp only [spec_MirrorPermutation.l0] at H
    by_cases c4 : x12_1 < (l0.length : Int)
    ·rw [if_pos c4] at H; have c4b0 := decide_eq_true c4; clear c4
     by_cases c5 : 0 ≤ x12_1
     ·rw [if_pos c5] at H; have c5b0 := decide_eq_true c5; clear c5
      by_cases c6 : x12_1 < (l0.length : Int)
      ·rw [if_pos c6] at H; have c6b0 := decide_eq_true c6; clear c6
       by_cases c7 : x4_1.length < 17592186044416
       ·rw [if_pos c7] at H; have LMc7 := Aside0.mk c7; clear c7; obtain ⟨y566, hy566⟩ := yy (x4_1 ++ [wrap64 ((wrap64 ((l0.length : Int) - 1)) - (rd l0 x12_1))])
        (try rw [Option.bind_some] at H); (try dsimp only at H); rw [← hy566] at H
        have Ny566 := Aside0.mk hy566; clear hy566; have H' := Aside0.mk H; clear H; obtain ⟨ad565, e565, hx565_0, p565, q565⟩ := atI HR0.out x12_1; cases e565; replace hx565_0 := hbx HB hx565_0; go_wp2_with (first | ((with_reducible refine gate_builtin (b := .append) (xs := #[.tmp 16, .tmp 22]) rfl ?_); at_builtin; refine Kd.R_append (Kd.int .i64) (w0 := w) w.heap.size rfl (.tmp 16) (.tmp 22) 24 3 (.int .i64 0) 8 rfl Try.underlying24 info3 rfl (by decide) (by omega) u4 x4_1 (wrap64 ((wrap64 ((l0.length : Int) - 1)) - (rd l0 x12_1))) [.int .i64 (wrap64 ((wrap64 ((l0.length : Int) - 1)) - (rd l0 x12_1)))] (fun _ => True) (fun _ => False) rfl rfl ?aP (fun _ hk => hk.elim) ?aF ?aO ?aB ?aS (by have := LMc7.out; omega) ?_; (case aP => exact rfl); (case aB => exact (bl HB.out)); (case aF => exact (fun _ _ => trivial)); (case aO => exact (rR HO_4.out)); (case aS => exact (below_size (bl HB.out))); intro v567 w8 ho hb hg hat; rw [← Ny566.out] at ho; replace HB := Aside0.mk (hb); have HO568 := Aside0.mk (ho); clear HO_4; clear ho hb hg hat))
        go_roundg k1
        case measure => have := HK1.out; omega
        case rel => exact ⟨(y566), (wrap64 (x12_1 + 1)), (sr2), H', ⟨by have := HK1.out; omega⟩, ⟨rR HO568.out⟩, ⟨bl HB.out⟩⟩
       rw [if_neg c7] at H; exact absurd H (by simp)
      rw [if_neg c6] at H; exact absurd H (by simp)
     rw [if_neg c5] at H; exact absurd H (by simp)
    rw [if_neg c4] at H; have c4b0 := decide_eq_false c4; clear c4; simp only [Option.some.injEq, Prod.mk.injEq] at H; obtain ⟨rfl, rfl⟩ := H; go_wp2; go_ret2; exact ⟨_, sr, rR HO_4.out, bl HB.out⟩
 replace c3 := Bool.eq_false_iff.mpr c3; subst c3; rw [if_neg (show ¬ (false = true) by decide)] at H; simp only [Option.some.injEq, Prod.mk.injEq] at H; obtain ⟨rfl, rfl⟩ := H; go_enter Try.func17, Try.ntmps17; go_wp2_with (first | (go_at_call 50; (with_reducible refine (spec_peWord.calls k _ _ l0 false _ ?side1 HC0.out A2.out).mono ?_); (case side1 => exact cw HR0.out); rintro e w' ⟨rfl, ⟨nd, rfl⟩⟩)); go_ret2; exact ⟨_, sr, by first | exact Kd.R_nil _ _ _ _ _ | exact Kd.N_nil _ _ _ _ _ | exact Kd.V_nil _ _ _ _ _ | exact Kd.Q_nil _ _ _ _ _ | exact Kd.S_nil _ _ _ _ _, bl HB.out⟩
/-! ### impl_inverse: function 57 -/
def impl_inverse.l0 : Nat → List Int → List Int → Int → Int → Option (List Int)
 | 0, _, _, _, _ => none
 | k + 1, x3, x9, x10, x11 => if x11 < x10 then (if 0 ≤ x11 then (if x11 < (x9.length : Int) then (if 0 ≤ (rd x9 x11) then (if (rd x9 x11) < (x3.length : Int) then (impl_inverse.l0 k (x3.set ((rd x9 x11) : Int).toNat x11) x9 x10 (wrap64 (x11 + 1))) else (none)) else (none)) else (none)) else (none)) else (some x3)
def impl_inverse.f (k : Nat) (l0 : List Int) : Option (List Int) := if 0 ≤ (l0.length : Int) then (if ((l0.length : Int) : Int).toNat ≤ 35184372088832 then (impl_inverse.l0 k (List.replicate ((l0.length : Int) : Int).toNat 0) l0 (l0.length : Int) 0) else (none)) else (none)
theorem impl_inverse.calls (k : Nat) (A0 : Option Addr) (c0 : Nat) (l0 : List Int) (r : List Int) (w : World) (hr0 : Kd.C (Kd.int .i64) w A0 l0.length l0) (hc0 : l0.length ≤ c0) (h : impl_inverse.f k l0 = some r) :
  Calls Try.prog 57 #[.slice A0 l0.length c0] w fun e w' => ∃ v0_ : Value, e = .returned (v0_) ∧ Kd.R (Kd.int .i64) 3 w' w.heap.size (fun _ => True) v0_ r ∧ Below w.heap.size w w' := by
 have HR0 := Aside0.mk hr0; have HC0 := Aside0.mk hc0; clear hr0 hc0; have HB := Aside0.mk (Below.refl w.heap.size w); have H : (if 0 ≤ (l0.length : Int) then (if ((l0.length : Int) : Int).toNat ≤ 35184372088832 then (impl_inverse.l0 k (List.replicate ((l0.length : Int) : Int).toNat 0) l0 (l0.length : Int) 0) else (none)) else (none)) = some r := h; clear h
 by_cases c2 : 0 ≤ (l0.length : Int)
 ·rw [if_pos c2] at H; have c2b0 := eq_true c2; have c2b1 := decide_eq_true c2; clear c2
  by_cases c3 : ((l0.length : Int) : Int).toNat ≤ 35184372088832
  ·rw [if_pos c3] at H
   have c3b0 := eq_true c3
   have c3b1 : decide (((l0.length : Int) : Int).toNat ≤ 35184372088832) = true := decide_eq_true c3
   clear c3
   obtain ⟨y569, hy569⟩ : ∃ y_ : List Int, y_ = (List.replicate ((l0.length : Int) : Int).toNat 0) := ⟨_, rfl⟩
   (try rw [Option.bind_some] at H); (try dsimp only at H); rw [← hy569] at H
   have Ny569 := Aside0.mk hy569; clear hy569; have H' := Aside0.mk H; clear H; go_enter Try.func57, Try.ntmps57; go_wp2_with (first | ((with_reducible refine gate_dst (N := 8) rfl ?_); refine Kd.R_make (Kd.int .i64) _ 3 rfl (N := 8) rfl 24 _ _ rfl (l0.length : Int) rfl rfl Try.underlying24 (.int .i64 0) 8 info3 rfl (by decide) (by omega) 0 (ok := fun _ => True) (okp := fun _ => True) rfl (fun _ hk => hk) trivial (od) (Nat.le_trans (Nat.mul_le_mul_right _ (od : (l0.length : Int).toNat ≤ 35184372088832)) (by omega)) (Below.refl _ _) (Nat.le_refl _) ?_; intro v570 w4 ho5 hb hg_ hnew_; clear hg_ hnew_; (first | rw [← Ny569.out] at ho5 | (simp only [Int.reduceToNat] at ho5; rw [← Ny569.out] at ho5)); have HO571 := Aside0.mk (Kd.R_lower ho5 (below_size (bl HB.out))); replace HB := bst HB hb; clear hb ho5))
   go_loopg [11] k (fun kq v11 w' => ∃ (x3_1 : List Int) (x11_1 : Int), v11 = .int .i64 x11_1 ∧ Aside0 (impl_inverse.l0 kq x3_1 l0 (l0.length : Int) x11_1 = some r) ∧ Aside0 (kq ≤ k) ∧ Aside0 (Kd.R (Kd.int .i64) 3 w' w.heap.size (fun _ => True) v570 x3_1) ∧ Aside0 (Below w.heap.size w w'))
   case atStart => exact ⟨(y569), (0), (sr2), H', ⟨Nat.le_refl _⟩, ⟨rR HO571.out⟩, ⟨bl HB.out⟩⟩
   case round =>
    clear H'; obtain ⟨x3_1, x11_1, rfl, HA, HK1, HO_3, HB⟩ := hrel
    cases gk with
    | zero => exact absurd HA.out (by simp [impl_inverse.l0])
    | succ k1 =>
     have H := HA.out; clear HA; simp only [impl_inverse.l0] at H
     by_cases c6 : x11_1 < (l0.length : Int)
     ·rw [if_pos c6] at H; have c6b0 := decide_eq_true c6; clear c6
      by_cases c7 : 0 ≤ x11_1
      ·rw [if_pos c7] at H; have c7b0 := decide_eq_true c7; clear c7
       by_cases c8 : x11_1 < (l0.length : Int)
       ·rw [if_pos c8] at H; have c8b0 := decide_eq_true c8; clear c8
        by_cases c9 : 0 ≤ (rd l0 x11_1)
        ·rw [if_pos c9] at H; have c9b0 := decide_eq_true c9; clear c9
         by_cases c10 : (rd l0 x11_1) < (x3_1.length : Int)
         ·rw [if_pos c10] at H; have c10b0 := decide_eq_true c10; clear c10; obtain ⟨y573, hy573⟩ := yy (x3_1.set ((rd l0 x11_1) : Int).toNat x11_1)
          (try rw [Option.bind_some] at H); (try dsimp only at H); rw [← hy573] at H
          have Ny573 := Aside0.mk hy573; clear hy573; have H' := Aside0.mk H; clear H; obtain ⟨ad572, e572, hx572_0, p572, q572⟩ := atI HR0.out x11_1; cases e572; replace hx572_0 := hbx HB hx572_0; have p11 : 0 ≤ ((rd l0 x11_1) : Int) := od; have q11 : ((rd l0 x11_1) : Int) < ((x3_1.length : Int) : Int) := od; obtain ⟨go11, co11, eo11, gb11, gl11, cl11, HG11⟩ := Kd.R_form HO_3.out (by omega); (first | cases eo11 | (injection eo11 with ea_ en_ ec_; (first | subst ea_ | (injection ea_ with ea_; subst ea_)); subst ec_; clear en_)); have GB11 := Aside0.mk gb11; have GG11 := Aside0.mk HG11; clear gb11 gl11 HG11; obtain ⟨hx11_0, hf11_0⟩ := Kd.R_celln 0 HO_3.out ((rd l0 x11_1) : Int) p11 q11; replace p11 := eq_true p11; replace q11 := eq_true q11; have HP12 := Kd.R_putg HO_3.out ((rd l0 x11_1) : Int) x11_1; go_wp2_with (first | ((with_reducible refine gate_store (t := 3) (p := 19) rfl ?_); refine store_event (t := 3) (p := 19) (v := ?vo_w13) (w1 := (wr.setCell ⟨go11, ((rd l0 x11_1) : Int).toNat, none⟩ (.int .i64 x11_1))) ?hg ?ho ?hn ?hr ?_; (case ho => rfl); (case hg => rfl); (case hn => rfl); (case hr => first | (go_simp; done) | (go_simp; rfl)); intro w13 hw; have hg : wr.grownBy w13 (some go11) := (by rw [hw]; exact HP12.2); have hp_ : Kd.R (Kd.int .i64) 3 w13 w.heap.size (fun _ => True) (.slice (some ⟨go11, 0, none⟩) x3_1.length co11) y573 := (by rw [hw, Ny573.out]; exact HP12.1); clear HP12; replace HO_3 := Aside0.mk (hp_); replace HB := Aside0.mk ((by rw [hw]; exact below_set (HB.out) GB11.out : Below w.heap.size w w13)); clear hg hw hp_))
          go_roundg k1
          case measure => have := HK1.out; omega
          case rel => exact ⟨(y573), (wrap64 (x11_1 + 1)), (sr2), H', ⟨by have := HK1.out; omega⟩, ⟨rR HO_3.out⟩, ⟨bl HB.out⟩⟩
         rw [if_neg c10] at H; exact absurd H (by simp)
        rw [if_neg c9] at H; exact absurd H (by simp)
       rw [if_neg c8] at H; exact absurd H (by simp)
      rw [if_neg c7] at H; exact absurd H (by simp)
     rw [if_neg c6] at H; have c6b0 := decide_eq_false c6; clear c6; obtain rfl := Option.some.inj H; go_wp2; go_ret; exact ⟨_, sr, rR HO_3.out, bl HB.out⟩
  rw [if_neg c3] at H; exact absurd H (by simp)
 rw [if_neg c2] at H; exact absurd H (by simp)
/-! ### impl_InverseOf: function 18 -/
def impl_InverseOf.f (k : Nat) (l0 : List Int) : Option (List Int × Bool) := (impl_isPoints.f k l0).bind fun t574 => (if t574 = true then ((impl_inverse.f k l0).bind fun t575 => (some (t575, true))) else (some (([] : List Int), false)))
theorem impl_InverseOf.calls (k : Nat) (A0 : Option Addr) (c0 : Nat) (l0 : List Int) (r1 : List Int) (r2 : Bool) (w : World) (hr0 : Kd.C (Kd.int .i64) w A0 l0.length l0) (hc0 : l0.length ≤ c0) (h : impl_InverseOf.f k l0 = some (r1, r2)) :
  Calls Try.prog 18 #[.slice A0 l0.length c0] w fun e w' => ∃ v0_ : Value, e = .returned (.tuple #[v0_, .bool r2]) ∧ Kd.R (Kd.int .i64) 3 w' w.heap.size (fun _ => True) v0_ r1 ∧ Below w.heap.size w w' := by
 have HR0 := Aside0.mk hr0; have HC0 := Aside0.mk hc0; clear hr0 hc0; have HB := Aside0.mk (Below.refl w.heap.size w); have H : ((impl_isPoints.f k l0).bind fun t574 => (if t574 = true then ((impl_inverse.f k l0).bind fun t575 => (some (t575, true))) else (some (([] : List Int), false)))) = some (r1, r2) := h; clear h; obtain ⟨t574, A2, H⟩ := bi H; (try dsimp only at H)
 by_cases c3 : t574 = true
 ·subst c3; rw [if_pos rfl] at H; obtain ⟨t575, A4, H⟩ := bi H; (try dsimp only at H); simp only [Option.some.injEq, Prod.mk.injEq] at H; obtain ⟨rfl, rfl⟩ := H; go_enter Try.func18, Try.ntmps18; go_wp2_with (first | (go_at_call 48; (with_reducible refine (impl_isPoints.calls k _ _ l0 true _ ?side1 HC0.out A2.out).mono ?_); (case side1 => exact cw HR0.out); rintro e w5 ⟨rfl, hb⟩; replace HB := bst HB hb) | (go_at_call 57; (with_reducible refine (impl_inverse.calls k _ _ l0 t575 _ ?side1 HC0.out A4.out).mono ?_); (case side1 => exact cw (Kd.C_below HR0.out HB.out)); rintro e w6 ⟨v576, rfl, ho0, hb⟩; have HO577 := Aside0.mk (Kd.R_lower ho0 (below_size (bl HB.out))); replace HB := bst HB hb)); go_ret2; exact ⟨_, sr, rR HO577.out, bl HB.out⟩
 replace c3 := Bool.eq_false_iff.mpr c3; subst c3; rw [if_neg (show ¬ (false = true) by decide)] at H; simp only [Option.some.injEq, Prod.mk.injEq] at H; obtain ⟨rfl, rfl⟩ := H; go_enter Try.func18, Try.ntmps18; go_wp2_with (first | (go_at_call 48; (with_reducible refine (impl_isPoints.calls k _ _ l0 false _ ?side1 HC0.out A2.out).mono ?_); (case side1 => exact cw HR0.out); rintro e w7 ⟨rfl, hb⟩; replace HB := bst HB hb)); go_ret2; exact ⟨_, sr, by first | exact Kd.R_nil _ _ _ _ _ | exact Kd.N_nil _ _ _ _ _ | exact Kd.V_nil _ _ _ _ _ | exact Kd.Q_nil _ _ _ _ _ | exact Kd.S_nil _ _ _ _ _, bl HB.out⟩
/-! ### spec_InverseOf: function 19 -/
def spec_InverseOf.l0 : Nat → List Int → List Int → Int → Int → Option (List Int × Bool)
 | 0, _, _, _, _ => none
 | k + 1, x4, x13, x14, x15 => if x15 < x14 then (if 0 ≤ x15 then (if x15 < (x13.length : Int) then (if 0 ≤ (rd x13 x15) then (if (rd x13 x15) < (x4.length : Int) then (spec_InverseOf.l0 k (x4.set ((rd x13 x15) : Int).toNat x15) x13 x14 (wrap64 (x15 + 1))) else (none)) else (none)) else (none)) else (none)) else (some (x4, true))
def spec_InverseOf.f (k : Nat) (l0 : List Int) : Option (List Int × Bool) := (spec_peWord.f k l0).bind fun t578 => (if t578 = true then (if 0 ≤ (l0.length : Int) then (if ((l0.length : Int) : Int).toNat ≤ 35184372088832 then (spec_InverseOf.l0 k (List.replicate ((l0.length : Int) : Int).toNat 0) l0 (l0.length : Int) 0) else (none)) else (none)) else (some (([] : List Int), false)))
theorem spec_InverseOf.calls (k : Nat) (A0 : Option Addr) (c0 : Nat) (l0 : List Int) (r1 : List Int) (r2 : Bool) (w : World) (hr0 : Kd.C (Kd.int .i64) w A0 l0.length l0) (hc0 : l0.length ≤ c0) (h : spec_InverseOf.f k l0 = some (r1, r2)) :
  Calls Try.prog 19 #[.slice A0 l0.length c0] w fun e w' => ∃ v0_ : Value, e = .returned (.tuple #[v0_, .bool r2]) ∧ Kd.R (Kd.int .i64) 3 w' w.heap.size (fun _ => True) v0_ r1 ∧ Below w.heap.size w w' := by
 have HR0 := Aside0.mk hr0; have HC0 := Aside0.mk hc0; clear hr0 hc0; have HB := Aside0.mk (Below.refl w.heap.size w); have H : ((spec_peWord.f k l0).bind fun t578 => (if t578 = true then (if 0 ≤ (l0.length : Int) then (if ((l0.length : Int) : Int).toNat ≤ 35184372088832 then (spec_InverseOf.l0 k (List.replicate ((l0.length : Int) : Int).toNat 0) l0 (l0.length : Int) 0) else (none)) else (none)) else (some (([] : List Int), false)))) = some (r1, r2) := h; clear h; obtain ⟨t578, A2, H⟩ := bi H; (try dsimp only at H)
 by_cases c3 : t578 = true
 ·subst c3; rw [if_pos rfl] at H
  by_cases c4 : 0 ≤ (l0.length : Int)
  ·rw [if_pos c4] at H; have c4b0 := eq_true c4; have c4b1 := decide_eq_true c4; clear c4
   by_cases c5 : ((l0.length : Int) : Int).toNat ≤ 35184372088832
   ·rw [if_pos c5] at H
    have c5b0 := eq_true c5
    have c5b1 : decide (((l0.length : Int) : Int).toNat ≤ 35184372088832) = true := decide_eq_true c5
    clear c5
    obtain ⟨y579, hy579⟩ : ∃ y_ : List Int, y_ = (List.replicate ((l0.length : Int) : Int).toNat 0) := ⟨_, rfl⟩
    (try rw [Option.bind_some] at H); (try dsimp only at H); rw [← hy579] at H
    have Ny579 := Aside0.mk hy579; clear hy579; have H' := Aside0.mk H; clear H; go_enter Try.func19, Try.ntmps19; go_wp2_with (first | (go_at_call 50; (with_reducible refine (spec_peWord.calls k _ _ l0 true _ ?side1 HC0.out A2.out).mono ?_); (case side1 => exact cw HR0.out); rintro e w' ⟨rfl, ⟨nd, rfl⟩⟩) | ((with_reducible refine gate_dst (N := 12) rfl ?_); refine Kd.R_make (Kd.int .i64) _ 3 rfl (N := 12) rfl 24 _ _ rfl (l0.length : Int) rfl rfl Try.underlying24 (.int .i64 0) 8 info3 rfl (by decide) (by omega) 0 (ok := fun _ => True) (okp := fun _ => True) rfl (fun _ hk => hk) trivial (od) (Nat.le_trans (Nat.mul_le_mul_right _ (od : (l0.length : Int).toNat ≤ 35184372088832)) (by omega)) (Below.refl _ _) (Nat.le_refl _) ?_; intro v580 w6 ho7 hb hg_ hnew_; clear hg_ hnew_; (first | rw [← Ny579.out] at ho7 | (simp only [Int.reduceToNat] at ho7; rw [← Ny579.out] at ho7)); have HO581 := Aside0.mk (Kd.R_lower ho7 (below_size (bl HB.out))); replace HB := bst HB hb; clear hb ho7))
    go_loopg [15] k (fun kq v15 w' => ∃ (x4_1 : List Int) (x15_1 : Int), v15 = .int .i64 x15_1 ∧ Aside0 (spec_InverseOf.l0 kq x4_1 l0 (l0.length : Int) x15_1 = some (r1, r2)) ∧ Aside0 (kq ≤ k) ∧ Aside0 (Kd.R (Kd.int .i64) 3 w' w.heap.size (fun _ => True) v580 x4_1) ∧ Aside0 (Below w.heap.size w w'))
    case atStart => exact ⟨(y579), (0), (sr2), H', ⟨Nat.le_refl _⟩, ⟨rR HO581.out⟩, ⟨bl HB.out⟩⟩
    case round =>
     clear H'; obtain ⟨x4_1, x15_1, rfl, HA, HK1, HO_4, HB⟩ := hrel
     cases gk with
     | zero => exact absurd HA.out (by simp [spec_InverseOf.l0])
     | succ k1 =>
      have H := HA.out; clear HA; simp only [spec_InverseOf.l0] at H
      by_cases c8 : x15_1 < (l0.length : Int)
      ·rw [if_pos c8] at H; have c8b0 := decide_eq_true c8; clear c8
       by_cases c9 : 0 ≤ x15_1
       ·rw [if_pos c9] at H; have c9b0 := decide_eq_true c9; clear c9
        by_cases c10 : x15_1 < (l0.length : Int)
        ·rw [if_pos c10] at H; have c10b0 := decide_eq_true c10; clear c10
         by_cases c11 : 0 ≤ (rd l0 x15_1)
         ·rw [if_pos c11] at H; have c11b0 := decide_eq_true c11; clear c11
          by_cases c12 : (rd l0 x15_1) < (x4_1.length : Int)
          ·rw [if_pos c12] at H; have c12b0 := decide_eq_true c12; clear c12; obtain ⟨y583, hy583⟩ := yy (x4_1.set ((rd l0 x15_1) : Int).toNat x15_1)
           (try rw [Option.bind_some] at H); (try dsimp only at H); rw [← hy583] at H
           have Ny583 := Aside0.mk hy583; clear hy583; have H' := Aside0.mk H; clear H; obtain ⟨ad582, e582, hx582_0, p582, q582⟩ := atI HR0.out x15_1; cases e582; replace hx582_0 := hbx HB hx582_0; have p13 : 0 ≤ ((rd l0 x15_1) : Int) := od; have q13 : ((rd l0 x15_1) : Int) < ((x4_1.length : Int) : Int) := od; obtain ⟨go13, co13, eo13, gb13, gl13, cl13, HG13⟩ := Kd.R_form HO_4.out (by omega); (first | cases eo13 | (injection eo13 with ea_ en_ ec_; (first | subst ea_ | (injection ea_ with ea_; subst ea_)); subst ec_; clear en_)); have GB13 := Aside0.mk gb13; have GG13 := Aside0.mk HG13; clear gb13 gl13 HG13; obtain ⟨hx13_0, hf13_0⟩ := Kd.R_celln 0 HO_4.out ((rd l0 x15_1) : Int) p13 q13; replace p13 := eq_true p13; replace q13 := eq_true q13; have HP14 := Kd.R_putg HO_4.out ((rd l0 x15_1) : Int) x15_1; go_wp2_with (first | ((with_reducible refine gate_store (t := 3) (p := 23) rfl ?_); refine store_event (t := 3) (p := 23) (v := ?vo_w15) (w1 := (wr.setCell ⟨go13, ((rd l0 x15_1) : Int).toNat, none⟩ (.int .i64 x15_1))) ?hg ?ho ?hn ?hr ?_; (case ho => rfl); (case hg => rfl); (case hn => rfl); (case hr => first | (go_simp; done) | (go_simp; rfl)); intro w15 hw; have hg : wr.grownBy w15 (some go13) := (by rw [hw]; exact HP14.2); have hp_ : Kd.R (Kd.int .i64) 3 w15 w.heap.size (fun _ => True) (.slice (some ⟨go13, 0, none⟩) x4_1.length co13) y583 := (by rw [hw, Ny583.out]; exact HP14.1); clear HP14; replace HO_4 := Aside0.mk (hp_); replace HB := Aside0.mk ((by rw [hw]; exact below_set (HB.out) GB13.out : Below w.heap.size w w15)); clear hg hw hp_))
           go_roundg k1
           case measure => have := HK1.out; omega
           case rel => exact ⟨(y583), (wrap64 (x15_1 + 1)), (sr2), H', ⟨by have := HK1.out; omega⟩, ⟨rR HO_4.out⟩, ⟨bl HB.out⟩⟩
          rw [if_neg c12] at H; exact absurd H (by simp)
         rw [if_neg c11] at H; exact absurd H (by simp)
        rw [if_neg c10] at H; exact absurd H (by simp)
       rw [if_neg c9] at H; exact absurd H (by simp)
      rw [if_neg c8] at H; have c8b0 := decide_eq_false c8; clear c8; simp only [Option.some.injEq, Prod.mk.injEq] at H; obtain ⟨rfl, rfl⟩ := H; go_wp2; go_ret2; exact ⟨_, sr, rR HO_4.out, bl HB.out⟩
   rw [if_neg c5] at H; exact absurd H (by simp)
  rw [if_neg c4] at H; exact absurd H (by simp)
 replace c3 := Bool.eq_false_iff.mpr c3; subst c3; rw [if_neg (show ¬ (false = true) by decide)] at H; simp only [Option.some.injEq, Prod.mk.injEq] at H; obtain ⟨rfl, rfl⟩ := H; go_enter Try.func19, Try.ntmps19; go_wp2_with (first | (go_at_call 50; (with_reducible refine (spec_peWord.calls k _ _ l0 false _ ?side1 HC0.out A2.out).mono ?_); (case side1 => exact cw HR0.out); rintro e w' ⟨rfl, ⟨nd, rfl⟩⟩)); go_ret2; exact ⟨_, sr, by first | exact Kd.R_nil _ _ _ _ _ | exact Kd.N_nil _ _ _ _ _ | exact Kd.V_nil _ _ _ _ _ | exact Kd.Q_nil _ _ _ _ _ | exact Kd.S_nil _ _ _ _ _, bl HB.out⟩
/-! ### spec_l1Cur_among: function 59 -/
def spec_l1Cur_among.f (s0_0 : List Int) (s0_1 : Int) (s0_2 : Int) (l1 : List Int) : Option (Int × Int × Int) := (spec_l1Cur_pick.f s0_0 s0_1 s0_2 (l1.length : Int)).bind fun bt584 => (if 0 ≤ bt584.1 then (if bt584.1 < (l1.length : Int) then (some (rd l1 bt584.1, bt584.2.1, bt584.2.2)) else (none)) else (none))
theorem spec_l1Cur_among.calls (g : Nat) (s0_0 : List Int) (s0_1 : Int) (s0_2 : Int) (A1 : Option Addr) (c1 : Nat) (l1 : List Int) (r1 : Int) (r2 : Int) (r3 : Int) (w0 w : World) (hI : IsS49 w0 w g s0_0 s0_1 s0_2) (hB : Below w0.heap.size w0 w) (hr1 : Kd.C (Kd.int .i64) w A1 l1.length l1) (hc1 : l1.length ≤ c1) (hf1 : ∀ ad, A1 = some ad → 0 < l1.length → ad.block ≠ g) (h : spec_l1Cur_among.f s0_0 s0_1 s0_2 l1 = some (r1, r2, r3)) :
  Calls Try.prog 59 #[.pointer (some ⟨g, 0, none⟩), .slice A1 l1.length c1] w fun e w' => e = .returned (.int .i64 r1) ∧ IsS49 w0 w' g s0_0 r2 r3 ∧ Below w0.heap.size w0 w' ∧ KeepBut w w' g none := by
 have HR1 := Aside0.mk hr1; have HC1 := Aside0.mk hc1; clear hr1 hc1; have HI0 := Aside0.mk hI; have HK := Aside0.mk (KeepBut.refl w g none); have HL := Aside0.mk hB.size; clear hI; have HW0 := Aside0.mk hB.size; have HB := Aside0.mk hB; clear hB; have H : ((spec_l1Cur_pick.f s0_0 s0_1 s0_2 (l1.length : Int)).bind fun bt584 => (if 0 ≤ bt584.1 then (if bt584.1 < (l1.length : Int) then (some (rd l1 bt584.1, bt584.2.1, bt584.2.2)) else (none)) else (none))) = some (r1, r2, r3) := h; clear h; obtain ⟨⟨t584, t585, t586⟩, A3, H⟩ := bi H; (try dsimp only at H)
 by_cases c4 : 0 ≤ t584
 ·rw [if_pos c4] at H; have c4b0 := decide_eq_true c4; clear c4
  by_cases c5 : t584 < (l1.length : Int)
  ·rw [if_pos c5] at H; have c5b0 := decide_eq_true c5; clear c5; simp only [Option.some.injEq, Prod.mk.injEq] at H; obtain ⟨rfl, rfl, rfl⟩ := H; go_enter Try.func59, Try.ntmps59; go_wp2_with (first | (go_at_call 60; (with_reducible refine (spec_l1Cur_pick.calls g s0_0 s0_1 s0_2 (l1.length : Int) t584 t585 t586 w0 _ ?side1 (bs1 HB.out (IsS49.ge HI0.out)) A3.out).mono ?_); (case side1 => exact iS HI0.out); rintro e w6 ⟨rfl, hi, hb, hk⟩; replace HK := kt HK hk; replace HB := Aside0.mk (hb); replace HI0 := Aside0.mk (hi); have p587 : 0 ≤ (t584 : Int) := od; have q587 : t584 < (l1.length : Int) := od; obtain ⟨ad587, e587, hx587_0⟩ := Kd.at_int HR1.out t584 p587 q587; cases e587; replace hx587_0 := keep_cell HK.out hx587_0 (by first | (rw [add_block]; exact hf1 _ rfl (by omega)) | exact hf1 _ rfl (by omega) | exact hf1 ad587 rfl (by omega)); replace p587 := eq_true p587; replace q587 := eq_true q587)); go_ret; exact ⟨sr, iS HI0.out, bs1 HB.out (IsS49.ge HI0.out), kb HK.out⟩
  rw [if_neg c5] at H; exact absurd H (by simp)
 rw [if_neg c4] at H; exact absurd H (by simp)
/-! ### spec_DrawOpenPermutations: function 20 -/
def spec_DrawOpenPermutations.f (l0 : List Int) : Option (Int) := (spec_l1Cur_one.f l0 0 0 6).bind fun bt589 => (if bt589.1 = true then ((spec_l1Cur_among.f l0 bt589.2.1 bt589.2.2 (([(-1), 7, 8] : List Int))).bind fun bt595 => (some bt595.1)) else ((spec_l1Cur_pick.f l0 bt589.2.1 bt589.2.2 7).bind fun bt598 => (some bt598.1)))
theorem spec_DrawOpenPermutations.calls (A0 : Option Addr) (c0 : Nat) (l0 : List Int) (r : Int) (w : World) (hr0 : Kd.C (Kd.int .u8) w A0 l0.length l0) (hc0 : l0.length ≤ c0) (h : spec_DrawOpenPermutations.f l0 = some r) :
  Calls Try.prog 20 #[.slice A0 l0.length c0] w fun e w' => e = .returned (.int .i64 r) ∧ Below w.heap.size w w' := by
 have hu49 := Try.underlying49; have HR0 := Aside0.mk hr0; have HC0 := Aside0.mk hc0; clear hr0 hc0; have HB := Aside0.mk (Below.refl w.heap.size w); have H : ((spec_l1Cur_one.f l0 0 0 6).bind fun bt589 => (if bt589.1 = true then ((spec_l1Cur_among.f l0 bt589.2.1 bt589.2.2 (([(-1), 7, 8] : List Int))).bind fun bt595 => (some bt595.1)) else ((spec_l1Cur_pick.f l0 bt589.2.1 bt589.2.2 7).bind fun bt598 => (some bt598.1)))) = some r := h; clear h; obtain ⟨⟨t589, t590, t591⟩, A2, H⟩ := bi H; (try dsimp only at H)
 by_cases c3 : t589 = true
 ·subst c3; rw [if_pos rfl] at H; obtain ⟨y592, hy592⟩ := yy ([(-1), 7, 8] : List Int)
  (try rw [Option.bind_some] at H); (try dsimp only at H); rw [← hy592] at H
  have Ny592 := Aside0.mk hy592; clear hy592; obtain ⟨⟨t595, t596, t597⟩, A4, H⟩ := bi H; (try dsimp only at H); obtain rfl := Option.some.inj H; go_enter Try.func20, Try.ntmps20; go_wp2_with (first | ((with_reducible refine gate_dst (N := 6) rfl ?_); refine box_event ?hg (N := 6) ?hd (cs := #[.slice A0 l0.length c0, .int .i64 0, .int .u64 0]) (t := 49) ?hr ?_; (case hd => rfl); (case hg => rfl); (case hr => first | (go_simp; done) | (go_simp; rfl)); intro gb588 hg w5 hbox hb; have HI588 := Aside0.mk ((show IsS49 w w5 gb588 l0 0 0 from ⟨_, _, hbox, (by rw [hg]; exact (below_size (bl HB.out)) : w.heap.size ≤ gb588), HR0.out⟩)); replace HB := bst HB hb; clear hb hbox hg) | (go_at_call 58; (with_reducible refine (spec_l1Cur_one.calls gb588 l0 0 0 6 true t590 t591 w _ ?side1 (bs1 HB.out (IsS49.ge HI588.out)) A2.out).mono ?_); (case side1 => exact iS HI588.out); rintro e w6 ⟨rfl, hi, hb, hk⟩; replace HB := Aside0.mk (hb); replace HI588 := Aside0.mk (hi)) | ((with_reducible refine gate_dst (N := 10) rfl ?_); refine Kd.R_lit (Kd.int .i64) _ 3 ?hg (N := 10) ?hd (xs := ([(-1), 7, 8] : List Int)) (inner := [.int .i64 (-1), .int .i64 7, .int .i64 8]) (ok := fun _ => True) (okp := fun _ => True) ?hr ?hp (fun _ hk => hk) trivial (Below.refl _ _) (Nat.le_refl _) (by simp) ?_; (case hd => rfl); (case hg => rfl); (case hr => first | (go_simp; done) | (go_simp; rfl)); (case hp => exact (Reps.one (show Kd.M (Kd.int .i64) _ _ _ (-1) [.int .i64 (-1)] from rfl) (Reps.one (show Kd.M (Kd.int .i64) _ _ _ 7 [.int .i64 7] from rfl) (Reps.one (show Kd.M (Kd.int .i64) _ _ _ 8 [.int .i64 8] from rfl) (Reps.none _ _))))); intro v593 w7 ho8 hb hg_ hnew_; clear hg_ hnew_; (first | rw [← Ny592.out] at ho8 | (simp only [Int.reduceToNat] at ho8; rw [← Ny592.out] at ho8)); have HO594 := Aside0.mk (Kd.R_lower ho8 (below_size (bs1 HB.out (IsS49.ge HI588.out)))); replace HB := Aside0.mk (below_step (bs1 HB.out (IsS49.ge HI588.out)) hb); replace HI588 := Aside0.mk (IsS49.below (iS HI588.out) hb); clear hb ho8; obtain ⟨Ao9, co9, eo9⟩ := Kd.R_slice HO594.out; subst eo9) | (go_at_call 59; (with_reducible refine (spec_l1Cur_among.calls gb588 l0 t590 t591 _ _ y592 t595 t596 t597 w _ ?side1 ?side2 ?side3 ?side4 (far_slice (IsS49.own_ne HI588.out HO594.out (by decide))) A4.out).mono ?_); (case side1 => exact iS HI588.out); (case side2 => exact bs1 HB.out (IsS49.ge HI588.out)); (case side3 => exact cw ((Kd.R_reads' HO594.out).2.2)); (case side4 => exact (Kd.R_reads' HO594.out).2.1); rintro e w10 ⟨rfl, hi, hb, hk⟩; replace HO594 := Aside0.mk (Kd.R_mono (Kd.R_keep (IsS49.apart (show IsS49 w _ gb588 l0 t590 t591 from iS HI588.out) (rR HO594.out) (by decide)) hk (fun _ h => h.2)) (fun _ h => h.1)); replace HB := Aside0.mk (hb); replace HI588 := Aside0.mk (hi))); go_ret; exact ⟨sr, bs1 HB.out (IsS49.ge HI588.out)⟩
 replace c3 := Bool.eq_false_iff.mpr c3; subst c3; rw [if_neg (show ¬ (false = true) by decide)] at H; obtain ⟨⟨t598, t599, t600⟩, A11, H⟩ := bi H; (try dsimp only at H); obtain rfl := Option.some.inj H; go_enter Try.func20, Try.ntmps20; go_wp2_with (first | ((with_reducible refine gate_dst (N := 6) rfl ?_); refine box_event ?hg (N := 6) ?hd (cs := #[.slice A0 l0.length c0, .int .i64 0, .int .u64 0]) (t := 49) ?hr ?_; (case hd => rfl); (case hg => rfl); (case hr => first | (go_simp; done) | (go_simp; rfl)); intro gb588 hg w12 hbox hb; have HI588 := Aside0.mk ((show IsS49 w w12 gb588 l0 0 0 from ⟨_, _, hbox, (by rw [hg]; exact (below_size (bl HB.out)) : w.heap.size ≤ gb588), HR0.out⟩)); replace HB := bst HB hb; clear hb hbox hg) | (go_at_call 58; (with_reducible refine (spec_l1Cur_one.calls gb588 l0 0 0 6 false t590 t591 w _ ?side1 (bs1 HB.out (IsS49.ge HI588.out)) A2.out).mono ?_); (case side1 => exact iS HI588.out); rintro e w13 ⟨rfl, hi, hb, hk⟩; replace HB := Aside0.mk (hb); replace HI588 := Aside0.mk (hi)) | (go_at_call 60; (with_reducible refine (spec_l1Cur_pick.calls gb588 l0 t590 t591 7 t598 t599 t600 w _ ?side1 (bs1 HB.out (IsS49.ge HI588.out)) A11.out).mono ?_); (case side1 => exact iS HI588.out); rintro e w14 ⟨rfl, hi, hb, hk⟩; replace HB := Aside0.mk (hb); replace HI588 := Aside0.mk (hi))); go_ret; exact ⟨sr, bs1 HB.out (IsS49.ge HI588.out)⟩
/-! ### impl_in: function 61 -/
def impl_in.f (a0 : Int) (a1 : Int) (a2 : Int) : Option (Bool) := if a1 ≤ a0 then (some (decide (a0 ≤ a2))) else (some false)
theorem impl_in.calls (a0 : Int) (a1 : Int) (a2 : Int) (r : Bool) (w : World) (h : impl_in.f a0 a1 a2 = some r) :
  Calls Try.prog 61 #[.int .i64 a0, .int .i64 a1, .int .i64 a2] w fun e w' => e = .returned (.bool r) ∧ Drawn0 w w' := by
 have H : (if a1 ≤ a0 then (some (decide (a0 ≤ a2))) else (some false)) = some r := h; clear h
 by_cases c4 : a1 ≤ a0
 ·rw [if_pos c4] at H; have c4b0 := decide_eq_true c4; clear c4; obtain rfl := Option.some.inj H; go_enter Try.func61, Try.ntmps61; go_wp2; go_ret; exact ⟨sr2, by repeat (first | exact Drawn0.refl _ | apply Drawn0.step)⟩
 rw [if_neg c4] at H; have c4b0 := decide_eq_false c4; clear c4; obtain rfl := Option.some.inj H; go_enter Try.func61, Try.ntmps61; go_wp2; go_ret; exact ⟨sr2, by repeat (first | exact Drawn0.refl _ | apply Drawn0.step)⟩
/-! ### slices_Index_int_int: function 94 -/
def slices_Index_int_int.l0 : Nat → List Int → Int → Int → Int → Option (Int)
 | 0, _, _, _, _ => none
 | k + 1, x0, x1, x7, x8 => if x8 < x7 then (if 0 ≤ x8 then (if x8 < (x0.length : Int) then (if x1 = (rd x0 x8) then (some x8) else (slices_Index_int_int.l0 k x0 x1 x7 (wrap64 (x8 + 1)))) else (none)) else (none)) else (some (-1))
def slices_Index_int_int.f (k : Nat) (l0 : List Int) (a1 : Int) : Option (Int) := slices_Index_int_int.l0 k l0 a1 (l0.length : Int) 0
theorem slices_Index_int_int.calls (k : Nat) (A0 : Option Addr) (c0 : Nat) (l0 : List Int) (a1 : Int) (r : Int) (w : World) (hr0 : Kd.C (Kd.int .i64) w A0 l0.length l0) (hc0 : l0.length ≤ c0) (h : slices_Index_int_int.f k l0 a1 = some r) :
  Calls Try.prog 94 #[.slice A0 l0.length c0, .int .i64 a1] w fun e w' => e = .returned (.int .i64 r) ∧ Drawn0 w w' := by
 have HR0 := Aside0.mk hr0; have HC0 := Aside0.mk hc0; clear hr0 hc0; have H : (slices_Index_int_int.l0 k l0 a1 (l0.length : Int) 0) = some r := h; clear h; have H' := Aside0.mk H; clear H; go_enter Try.func94, Try.ntmps94; go_wp2
 go_loopg [8] k (fun kq v8 w' => ∃ (x8_1 : Int), v8 = .int .i64 x8_1 ∧ Aside0 (slices_Index_int_int.l0 kq l0 a1 (l0.length : Int) x8_1 = some r) ∧ Aside0 (kq ≤ k) ∧ Drawn0 w w')
 case atStart => exact ⟨(0), (sr2), H', ⟨Nat.le_refl _⟩, by repeat (first | exact Drawn0.refl _ | apply Drawn0.step)⟩
 case round =>
  clear H'; obtain ⟨x8_1, rfl, HA, HK1, ⟨m1, rfl⟩⟩ := hrel
  cases gk with
  | zero => exact absurd HA.out (by simp [slices_Index_int_int.l0])
  | succ k1 =>
   have H := HA.out; clear HA; simp only [slices_Index_int_int.l0] at H
   by_cases c3 : x8_1 < (l0.length : Int)
   ·rw [if_pos c3] at H; have c3b0 := decide_eq_true c3; clear c3
    by_cases c4 : 0 ≤ x8_1
    ·rw [if_pos c4] at H; have c4b0 := decide_eq_true c4; clear c4
     by_cases c5 : x8_1 < (l0.length : Int)
     ·rw [if_pos c5] at H; have c5b0 := decide_eq_true c5; clear c5
      by_cases c6 : a1 = (rd l0 x8_1)
      ·rw [if_pos c6] at H; have c6b0 := beq_iff_eq.mpr c6; have c6b1 := bne_eq_false_iff_eq.mpr c6; clear c6; obtain rfl := Option.some.inj H; obtain ⟨ad601, e601, hx601_0, p601, q601⟩ := atI HR0.out x8_1; cases e601; go_wp2; go_ret; exact ⟨sr2, by repeat (first | exact Drawn0.refl _ | apply Drawn0.step)⟩
      rw [if_neg c6] at H; have c6b0 := beq_eq_false_iff_ne.mpr c6; have c6b1 := bne_iff_ne.mpr c6; have H' := Aside0.mk H; clear H; obtain ⟨ad601, e601, hx601_0, p601, q601⟩ := atI HR0.out x8_1; cases e601; go_wp2
      go_roundg k1
      case measure => have := HK1.out; omega
      case rel => exact ⟨(wrap64 (x8_1 + 1)), (sr2), H', ⟨by have := HK1.out; omega⟩, by repeat (first | exact Drawn0.refl _ | apply Drawn0.step)⟩
     rw [if_neg c5] at H; exact absurd H (by simp)
    rw [if_neg c4] at H; exact absurd H (by simp)
   rw [if_neg c3] at H; have c3b0 := decide_eq_false c3; clear c3; obtain rfl := Option.some.inj H; go_wp2; go_ret; exact ⟨sr2, by repeat (first | exact Drawn0.refl _ | apply Drawn0.step)⟩
/-! ### slices_Contains_int_int: function 83 -/
def slices_Contains_int_int.f (k : Nat) (l0 : List Int) (a1 : Int) : Option (Bool) := (slices_Index_int_int.f k l0 a1).bind fun t602 => (some (decide (t602 ≥ 0)))
theorem slices_Contains_int_int.calls (k : Nat) (A0 : Option Addr) (c0 : Nat) (l0 : List Int) (a1 : Int) (r : Bool) (w : World) (hr0 : Kd.C (Kd.int .i64) w A0 l0.length l0) (hc0 : l0.length ≤ c0) (h : slices_Contains_int_int.f k l0 a1 = some r) :
  Calls Try.prog 83 #[.slice A0 l0.length c0, .int .i64 a1] w fun e w' => e = .returned (.bool r) ∧ Drawn0 w w' := by
 have HR0 := Aside0.mk hr0; have HC0 := Aside0.mk hc0; clear hr0 hc0; have H : ((slices_Index_int_int.f k l0 a1).bind fun t602 => (some (decide (t602 ≥ 0)))) = some r := h; clear h; obtain ⟨t602, A3, H⟩ := bi H; (try dsimp only at H); obtain rfl := Option.some.inj H; go_enter Try.func83, Try.ntmps83; go_wp2_with (first | (go_at_call 94; (with_reducible refine (slices_Index_int_int.calls k _ _ l0 a1 t602 _ ?side1 HC0.out A3.out).mono ?_); (case side1 => exact cw HR0.out); rintro e w' ⟨rfl, ⟨nd, rfl⟩⟩)); go_ret; exact ⟨sr2, by repeat (first | exact Drawn0.refl _ | apply Drawn0.step)⟩
/-! ### impl_openWords: function 62 -/
mutual
def impl_openWords.l0 : Nat → List Int → Int → List (List Int) → Int → Int → Option ((List (List Int)))
 | 0, _, _, _, _, _ => none
 | k + 1, x0, x1, x5, x16, x17 => if x17 < x16 then ((slices_Clone_int_int.f x0).bind fun t167 => (if t167.length < 17592186044416 then ((some (t167 ++ [x17] : List Int)).bind fun y170 => ((slices_Contains_int_int.f k x0 x17).bind fun t173 => (if t173 = true then (impl_openWords.l0 k x0 x1 x5 x16 (wrap64 (x17 + 1))) else ((impl_crossing.f k y170).bind fun t174 => (if t174 = [] then ((impl_openWords.f k y170 x1).bind fun t177 => (if x5.length + t177.length < 5864062014805 then (impl_openWords.l0 k x0 x1 (x5 ++ t177) x16 (wrap64 (x17 + 1))) else (none))) else (impl_openWords.l0 k x0 x1 x5 x16 (wrap64 (x17 + 1)))))))) else (none))) else (some x5)
def impl_openWords.f : Nat → List Int → Int → Option ((List (List Int)))
 | 0, _, _ => none
 | k + 1, l0, a1 => if (l0.length : Int) = a1 then ((slices_Clone_int_int.f l0).bind fun t158 => (some (([t158] : List (List Int))))) else (impl_openWords.l0 k l0 a1 (([] : List (List Int))) a1 0)
end
theorem impl_openWords.calls (k : Nat) : ∀ (A0 : Option Addr) (c0 : Nat) (l0 : List Int) (a1 : Int) (r : List (List Int)) (w : World) (hr0 : Kd.C (Kd.int .i64) w A0 l0.length l0) (hc0 : l0.length ≤ c0) (h : impl_openWords.f k l0 a1 = some r),
  Calls Try.prog 62 #[.slice A0 l0.length c0, .int .i64 a1] w fun e w' => ∃ v0_ : Value, e = .returned (v0_) ∧ Kd.S (Kd.slice 3 (Kd.int .i64)) 24 w' w.heap.size (fun _ => True) v0_ r ∧ Below w.heap.size w w' := by
 induction k using Nat.strongRecOn with
 | _ k ih =>
 intro A0 c0 l0 a1 r w hr0 hc0 h
 cases k with
 | zero => exact absurd h (by simp [impl_openWords.f])
 | succ k =>
 simp only [impl_openWords.f] at h; have HR0 := Aside0.mk hr0; have HC0 := Aside0.mk hc0; clear hr0 hc0; have HB := Aside0.mk (Below.refl w.heap.size w)
 by_cases c3 : (l0.length : Int) = a1
 ·rw [if_pos c3] at h; have c3b0 := beq_iff_eq.mpr c3; clear c3; obtain ⟨t1, hA1, h⟩ := Option.bind_eq_some_iff.mp h; obtain rfl := Option.some.inj h; have A1 := Aside0.mk hA1; clear h hA1; go_enter Try.func62, Try.ntmps62
  go_wp2_with (first
   | ((with_reducible refine gate_callee (f := 54) rfl ?_); refine goesL_ (some 13) rfl rfl Try.func54 (by kernel_rfl) rfl #[.slice A0 l0.length c0] rfl (by (try simp only [List.map_toArray, List.map_cons, List.map_nil]); first | done | rfl) ?_; (with_reducible refine (slices_Clone_int_int.calls _ _ l0 t1 _ (Kd.C_below HR0.out HB.out) HC0.out A1.out).mono ?_); rintro e w1 ⟨v1, rfl, ho0, hb⟩; refine ⟨_, rfl, ?_⟩; have HN := Aside0.mk ho0; have HBr := Aside0.mk hb; clear ho0 hb; obtain ⟨An, cn, en⟩ := Kd.R_slice HN.out; subst en)
   | ((with_reducible refine gate_dst (N := 14) rfl ?_); refine RowsS.S_lit1 (Kd.slice 3 (Kd.int .i64)) (w0 := w) w.heap.size 24 ?hg (N := 14) ?hd (x := t1) (cs := [.slice An t1.length cn]) ?hr ?hp ?hB ?hS ?_; (case hd => rfl); (case hg => rfl); (case hr => first | (go_simp; done) | (go_simp; rfl)); (case hp => exact Kd.M_row (Kd.R_mono (ok' := fun _ => True) HN.out (fun _ _ => trivial))); (case hB => exact HBr.out); (case hS => exact HBr.out.size); intro v2 w2 ho hb hg_ hnew_; clear hg_ hnew_; have HX := Aside0.mk ho; have HB2 := Aside0.mk (below_step HBr.out hb); clear ho hb HN HBr))
  go_ret; exact ⟨_, rfl, HX.out, HB2.out⟩
 rw [if_neg c3] at h; have c3b0 := beq_eq_false_iff_ne.mpr c3; clear c3; have H' := Aside0.mk h; clear h; go_enter Try.func62, Try.ntmps62; go_wp2_with ((with_reducible refine gate_dst (N := 15) rfl ?_); refine Kd.S_lit (Kd.slice 3 (Kd.int .i64)) _ 24 ?hg (N := 15) ?hd (xs := ([] : List (List Int))) (inner := []) (ok := fun _ => True) (okp := fun _ => True) ?hr ?hp (fun _ hk => hk) trivial (Below.refl _ _) (Nat.le_refl _) (by simp) ?_; (case hd => rfl); (case hg => rfl); (case hr => first | (go_simp; done) | (go_simp; rfl)); (case hp => exact (Reps.none _ _)); intro v15 w4 ho hb hg_ hnew_; clear hg_ hnew_; have HX := Aside0.mk ho; have HB2 := Aside0.mk hb; clear ho hb)
 go_loopg [5, 17] k (fun kq v5 v17 w' => ∃ (acc : List (List Int)) (x17 : Int), v17 = .int .i64 x17 ∧ Aside0 (impl_openWords.l0 kq l0 a1 acc a1 x17 = some r) ∧ Aside0 (kq ≤ k) ∧ Aside0 (Kd.S (Kd.slice 3 (Kd.int .i64)) 24 w' w.heap.size (fun _ => True) v5 acc) ∧ Aside0 (Below w.heap.size w w'))
 case atStart => exact ⟨[], 0, by first | rfl | (simp; done), H', ⟨Nat.le_refl _⟩, HX, HB2⟩
 case round =>
  clear H' HX HB2 HB; obtain ⟨acc, x17, rfl, HA, HK1, HX, HB⟩ := hrel
  cases gk with
  | zero => exact absurd HA.out (by simp [impl_openWords.l0])
  | succ k1 =>
   have H := HA.out; clear HA; simp only [impl_openWords.l0] at H
   by_cases c11 : x17 < a1
   ·rw [if_pos c11] at H; have c11b0 := decide_eq_true c11; clear c11; obtain ⟨t1, hA1, H⟩ := Option.bind_eq_some_iff.mp H; have A1 := Aside0.mk hA1; clear hA1; by_cases c13 : t1.length < 17592186044416
    case neg => rw [if_neg c13] at H; cases H
    rw [if_pos c13, Option.bind_some] at H; have LM1 := Aside0.mk c13; clear c13; obtain ⟨y, hy⟩ : ∃ y, t1 ++ [x17] = y := ⟨_, rfl⟩; rw [hy] at H; have NY := Aside0.mk hy; clear hy; obtain ⟨t2, hA2, H⟩ := Option.bind_eq_some_iff.mp H; have A2 := Aside0.mk hA2; clear hA2
    cases t2 with
    | true =>
     rw [if_pos rfl] at H; have H' := Aside0.mk H; clear H
     go_wp2_with (first
      | ((with_reducible refine gate_callee (f := 54) rfl ?_); refine goesL_ (some 21) rfl rfl Try.func54 (by kernel_rfl) rfl #[.slice A0 l0.length c0] rfl (by (try simp only [List.map_toArray, List.map_cons, List.map_nil]); first | done | rfl) ?_; (with_reducible refine (slices_Clone_int_int.calls _ _ l0 t1 _ (Kd.C_below HR0.out HB.out) HC0.out A1.out).mono ?_); rintro e w1 ⟨v1, rfl, ho0, hb⟩; refine ⟨_, rfl, ?_⟩; have HN := Aside0.mk ho0; have HBr := Aside0.mk hb; clear ho0 hb)
      | ((with_reducible refine gate_builtin (b := .append) (xs := #[.tmp 21, .tmp 23]) rfl ?_); at_builtin; refine Kd.R_append (Kd.int .i64) (w0 := wr) wr.heap.size rfl (.tmp 21) (.tmp 23) 24 3 (.int .i64 0) 8 rfl Try.underlying24 info3 rfl (by decide) (by omega) v1 t1 x17 [.int .i64 x17] (fun _ => True) (fun _ => False) rfl rfl ?aP (fun _ hk => hk.elim) ?aF ?aO ?aB ?aS ?aL ?_; (case aP => exact rfl); (case aB => exact HBr.out); (case aF => exact (fun _ _ => trivial)); (case aO => first | exact Kd.R_mono HN.out (fun _ _ => trivial) | exact Kd.R_mono HN.out (fun _ _ => ⟨trivial, id⟩)); (case aS => exact HBr.out.size); (case aL => have := LM1.out; omega); intro v2 w2 ho hb hg hat; rw [NY.out] at ho; have HN2 := Aside0.mk ho; have HBr2 := Aside0.mk hb; clear ho hb hg hat HN HBr; have HN := HN2; have HBr := HBr2; clear HN2 HBr2; obtain ⟨An, cn, en⟩ := Kd.R_slice HN.out; subst en)
      | ((with_reducible refine gate_callee (f := 83) rfl ?_); refine goesL_ (some 27) rfl rfl Try.func83 (by kernel_rfl) rfl #[.slice A0 l0.length c0, .int .i64 x17] rfl (by (try simp only [List.map_toArray, List.map_cons, List.map_nil]); first | done | rfl) ?_; (with_reducible refine (slices_Contains_int_int.calls k1 _ _ l0 x17 true _ (Kd.C_below HR0.out (below_step HB.out HBr.out)) HC0.out A2.out).mono ?_); rintro e w' ⟨rfl, ⟨nd, rfl⟩⟩; refine ⟨_, rfl, ?_⟩; have HN2 := Aside0.mk (Kd.R_drewN HN.out nd); have HBr2 := Aside0.mk (pw_below_drewN HBr.out nd); clear HN HBr; have HN := HN2; have HBr := HBr2; clear HN2 HBr2))
     go_roundg k1
     case measure => have := HK1.out; omega
     case rel => exact ⟨acc, wrap64 (x17 + 1), by first | rfl | (simp; done), H', ⟨by have := HK1.out; omega⟩, ⟨Kd.S_below HX.out HBr.out⟩, ⟨below_step HB.out HBr.out⟩⟩
    | false =>
     rw [if_neg (show ¬ (false = true) by decide)] at H; obtain ⟨t3, hA3, H⟩ := Option.bind_eq_some_iff.mp H; have A3 := Aside0.mk hA3; clear hA3
     by_cases c19 : t3 = []
     ·rw [if_pos c19] at H; have c19b0 := beq_iff_eq.mpr c19; have c19b1 := bne_eq_false_iff_eq.mpr c19; clear c19; obtain ⟨t4, hA4, H⟩ := Option.bind_eq_some_iff.mp H; have A4 := Aside0.mk hA4; clear hA4; by_cases c21 : acc.length + t4.length < 5864062014805
      case neg => rw [if_neg c21] at H; cases H
      rw [if_pos c21] at H; have LM2 := Aside0.mk c21; clear c21; have H' := Aside0.mk H; clear H
      go_wp2_with (first
       | ((with_reducible refine gate_callee (f := 54) rfl ?_); refine goesL_ (some 21) rfl rfl Try.func54 (by kernel_rfl) rfl #[.slice A0 l0.length c0] rfl (by (try simp only [List.map_toArray, List.map_cons, List.map_nil]); first | done | rfl) ?_; (with_reducible refine (slices_Clone_int_int.calls _ _ l0 t1 _ (Kd.C_below HR0.out HB.out) HC0.out A1.out).mono ?_); rintro e w1 ⟨v1, rfl, ho0, hb⟩; refine ⟨_, rfl, ?_⟩; have HN := Aside0.mk ho0; have HBr := Aside0.mk hb; clear ho0 hb)
       | ((with_reducible refine gate_builtin (b := .append) (xs := #[.tmp 21, .tmp 23]) rfl ?_); at_builtin; refine Kd.R_append (Kd.int .i64) (w0 := wr) wr.heap.size rfl (.tmp 21) (.tmp 23) 24 3 (.int .i64 0) 8 rfl Try.underlying24 info3 rfl (by decide) (by omega) v1 t1 x17 [.int .i64 x17] (fun _ => True) (fun _ => False) rfl rfl ?aP (fun _ hk => hk.elim) ?aF ?aO ?aB ?aS ?aL ?_; (case aP => exact rfl); (case aB => exact HBr.out); (case aF => exact (fun _ _ => trivial)); (case aO => first | exact Kd.R_mono HN.out (fun _ _ => trivial) | exact Kd.R_mono HN.out (fun _ _ => ⟨trivial, id⟩)); (case aS => exact HBr.out.size); (case aL => have := LM1.out; omega); intro v2 w2 ho hb hg hat; rw [NY.out] at ho; have HN2 := Aside0.mk ho; have HBr2 := Aside0.mk hb; clear ho hb hg hat HN HBr; have HN := HN2; have HBr := HBr2; clear HN2 HBr2; obtain ⟨An, cn, en⟩ := Kd.R_slice HN.out; subst en)
       | ((with_reducible refine gate_callee (f := 83) rfl ?_); refine goesL_ (some 27) rfl rfl Try.func83 (by kernel_rfl) rfl #[.slice A0 l0.length c0, .int .i64 x17] rfl (by (try simp only [List.map_toArray, List.map_cons, List.map_nil]); first | done | rfl) ?_; (with_reducible refine (slices_Contains_int_int.calls k1 _ _ l0 x17 false _ (Kd.C_below HR0.out (below_step HB.out HBr.out)) HC0.out A2.out).mono ?_); rintro e w' ⟨rfl, ⟨nd, rfl⟩⟩; refine ⟨_, rfl, ?_⟩; have HN2 := Aside0.mk (Kd.R_drewN HN.out nd); have HBr2 := Aside0.mk (pw_below_drewN HBr.out nd); clear HN HBr; have HN := HN2; have HBr := HBr2; clear HN2 HBr2)
       | ((go_at_call 49); (with_reducible refine (impl_crossing.calls k1 _ _ y t3 _ (Kd.R_reads' HN.out).2.2 (Kd.R_reads' HN.out).2.1 A3.out).mono ?_); rintro e w3 ⟨v3, rfl, ho0, hnl, hb⟩; have nq_ := fun w_ n_ c_  => (impl_crossing.nil_eql ho0 hnl w_ n_ c_ (Operand.tmp 0) (Operand.tmp 0)).1; have nr_ := fun w_ n_ c_  => (impl_crossing.nil_eql ho0 hnl w_ n_ c_ (Operand.tmp 0) (Operand.tmp 0)).2.1; have ng_ := fun w_ n_ c_ o1_ o2_ => (impl_crossing.nil_eql ho0 hnl w_ n_ c_ o1_ o2_).2.2.1; have nh_ := fun w_ n_ c_ o1_ o2_ => (impl_crossing.nil_eql ho0 hnl w_ n_ c_ o1_ o2_).2.2.2; clear hnl; have HN2 := Aside0.mk (Kd.R_below HN.out hb); have HBr2 := Aside0.mk (below_step HBr.out hb); clear HN HBr hb ho0; have HN := HN2; have HBr := HBr2; clear HN2 HBr2)
       | ((with_reducible refine gate_callee (f := 62) rfl ?_); refine goesL_ (some 37) rfl rfl Try.func62 (by kernel_rfl) rfl #[.slice An y.length cn, .int .i64 a1] rfl (by (try simp only [List.map_toArray, List.map_cons, List.map_nil]); first | done | rfl) ?_; (with_reducible refine (ih k1 (by have := HK1.out; omega) _ _ y a1 t4 _ (Kd.R_reads' HN.out).2.2 (Kd.R_reads' HN.out).2.1 A4.out).mono ?_); rintro e w4 ⟨v4, rfl, ho0, hb⟩; refine ⟨_, rfl, ?_⟩; have HY := Aside0.mk (Kd.S_lower (Kd.S_mono (ok' := fun k_ => wr.heap.size ≤ k_) (RowsS.S_young (base := 0) ho0) (fun k_ hk => Nat.le_trans HBr.out.size hk)) (Nat.le_trans HB.out.size HBr.out.size)); have HBr2 := Aside0.mk (below_step HBr.out hb); clear HN HBr hb ho0; have HBr := HBr2; clear HBr2; obtain ⟨A4s, c4s, e4⟩ := Kd.S_slice HY.out; subst e4)
       | ((with_reducible refine gate_builtin (b := .append) (xs := #[.tmp 34, .tmp 37]) rfl ?_); at_builtin; refine RowsS.S_append_rows (Kd.slice 3 (Kd.int .i64)) (w0 := w) w.heap.size rfl (.tmp 34) (.tmp 37) 32 24 (.slice none 0 0) 24 rfl Try.underlying32 info24 rfl (by decide) (by omega) u5 acc t4 A4s t4.length c4s (fun _ => True) (fun k_ => True ∧ k_ < wr.heap.size) (fun k_ => wr.heap.size ≤ k_) rfl rfl (Kd.S_old HX.out HBr.out) HY.out ?aA (fun _ _ => trivial) (fun _ _ => trivial) (fun _ _ => trivial) (below_step HB.out HBr.out) (Nat.le_trans HB.out.size HBr.out.size) ?aL ?_; (case aA => intro k_ h1 h2; exact absurd h2.2 (Nat.not_lt.2 h1)); (case aL => have := LM2.out; omega); intro v5 w5 ho hb _ _; have HX2 := Aside0.mk ho; have HB2 := Aside0.mk hb; clear ho hb HX HB HY HBr; have HX := HX2; have HB := HB2; clear HX2 HB2))
      go_roundg k1
      case measure => have := HK1.out; omega
      case rel => exact ⟨acc ++ t4, wrap64 (x17 + 1), by first | rfl | (simp; done), H', ⟨by have := HK1.out; omega⟩, HX, HB⟩
     rw [if_neg c19] at H; have c19b0 := beq_eq_false_iff_ne.mpr c19; have c19b1 := bne_iff_ne.mpr c19; clear c19; have H' := Aside0.mk H; clear H
     go_wp2_with (first
      | ((with_reducible refine gate_callee (f := 54) rfl ?_); refine goesL_ (some 21) rfl rfl Try.func54 (by kernel_rfl) rfl #[.slice A0 l0.length c0] rfl (by (try simp only [List.map_toArray, List.map_cons, List.map_nil]); first | done | rfl) ?_; (with_reducible refine (slices_Clone_int_int.calls _ _ l0 t1 _ (Kd.C_below HR0.out HB.out) HC0.out A1.out).mono ?_); rintro e w1 ⟨v1, rfl, ho0, hb⟩; refine ⟨_, rfl, ?_⟩; have HN := Aside0.mk ho0; have HBr := Aside0.mk hb; clear ho0 hb)
      | ((with_reducible refine gate_builtin (b := .append) (xs := #[.tmp 21, .tmp 23]) rfl ?_); at_builtin; refine Kd.R_append (Kd.int .i64) (w0 := wr) wr.heap.size rfl (.tmp 21) (.tmp 23) 24 3 (.int .i64 0) 8 rfl Try.underlying24 info3 rfl (by decide) (by omega) v1 t1 x17 [.int .i64 x17] (fun _ => True) (fun _ => False) rfl rfl ?aP (fun _ hk => hk.elim) ?aF ?aO ?aB ?aS ?aL ?_; (case aP => exact rfl); (case aB => exact HBr.out); (case aF => exact (fun _ _ => trivial)); (case aO => first | exact Kd.R_mono HN.out (fun _ _ => trivial) | exact Kd.R_mono HN.out (fun _ _ => ⟨trivial, id⟩)); (case aS => exact HBr.out.size); (case aL => have := LM1.out; omega); intro v2 w2 ho hb hg hat; rw [NY.out] at ho; have HN2 := Aside0.mk ho; have HBr2 := Aside0.mk hb; clear ho hb hg hat HN HBr; have HN := HN2; have HBr := HBr2; clear HN2 HBr2; obtain ⟨An, cn, en⟩ := Kd.R_slice HN.out; subst en)
      | ((with_reducible refine gate_callee (f := 83) rfl ?_); refine goesL_ (some 27) rfl rfl Try.func83 (by kernel_rfl) rfl #[.slice A0 l0.length c0, .int .i64 x17] rfl (by (try simp only [List.map_toArray, List.map_cons, List.map_nil]); first | done | rfl) ?_; (with_reducible refine (slices_Contains_int_int.calls k1 _ _ l0 x17 false _ (Kd.C_below HR0.out (below_step HB.out HBr.out)) HC0.out A2.out).mono ?_); rintro e w' ⟨rfl, ⟨nd, rfl⟩⟩; refine ⟨_, rfl, ?_⟩; have HN2 := Aside0.mk (Kd.R_drewN HN.out nd); have HBr2 := Aside0.mk (pw_below_drewN HBr.out nd); clear HN HBr; have HN := HN2; have HBr := HBr2; clear HN2 HBr2)
      | ((go_at_call 49); (with_reducible refine (impl_crossing.calls k1 _ _ y t3 _ (Kd.R_reads' HN.out).2.2 (Kd.R_reads' HN.out).2.1 A3.out).mono ?_); rintro e w3 ⟨v3, rfl, ho0, hnl, hb⟩; have nq_ := fun w_ n_ c_  => (impl_crossing.nil_eql ho0 hnl w_ n_ c_ (Operand.tmp 0) (Operand.tmp 0)).1; have nr_ := fun w_ n_ c_  => (impl_crossing.nil_eql ho0 hnl w_ n_ c_ (Operand.tmp 0) (Operand.tmp 0)).2.1; have ng_ := fun w_ n_ c_ o1_ o2_ => (impl_crossing.nil_eql ho0 hnl w_ n_ c_ o1_ o2_).2.2.1; have nh_ := fun w_ n_ c_ o1_ o2_ => (impl_crossing.nil_eql ho0 hnl w_ n_ c_ o1_ o2_).2.2.2; clear hnl; have HN2 := Aside0.mk (Kd.R_below HN.out hb); have HBr2 := Aside0.mk (below_step HBr.out hb); clear HN HBr hb ho0; have HN := HN2; have HBr := HBr2; clear HN2 HBr2))
     go_roundg k1
     case measure => have := HK1.out; omega
     case rel => exact ⟨acc, wrap64 (x17 + 1), by first | rfl | (simp; done), H', ⟨by have := HK1.out; omega⟩, ⟨Kd.S_below HX.out HBr.out⟩, ⟨below_step HB.out HBr.out⟩⟩
   rw [if_neg c11] at H; have c11b0 := decide_eq_false c11; clear c11; obtain rfl := Option.some.inj H; go_wp2; go_ret; exact ⟨_, rfl, HX.out, HB.out⟩
/-! ### impl_OpenPermutations: function 21 -/
def impl_OpenPermutations.f (k : Nat) (a0 : Int) : Option ((List (List Int)) × Bool) := (impl_in.f a0 0 7).bind fun t603 => (if t603 = true then ((impl_openWords.f k ([] : List Int) a0).bind fun t604 => (some (t604, true))) else (some (([] : List (List Int)), false)))
theorem impl_OpenPermutations.calls (k : Nat) (a0 : Int) (r1 : List (List Int)) (r2 : Bool) (w : World) (h : impl_OpenPermutations.f k a0 = some (r1, r2)) :
  Calls Try.prog 21 #[.int .i64 a0] w fun e w' => ∃ v0_ : Value, e = .returned (.tuple #[v0_, .bool r2]) ∧ Kd.S (Kd.slice 3 (Kd.int .i64)) 24 w' w.heap.size (fun _ => True) v0_ r1 ∧ Below w.heap.size w w' := by
 have HB := Aside0.mk (Below.refl w.heap.size w); have H : ((impl_in.f a0 0 7).bind fun t603 => (if t603 = true then ((impl_openWords.f k ([] : List Int) a0).bind fun t604 => (some (t604, true))) else (some (([] : List (List Int)), false)))) = some (r1, r2) := h; clear h; obtain ⟨t603, A2, H⟩ := bi H; (try dsimp only at H)
 by_cases c3 : t603 = true
 ·subst c3; rw [if_pos rfl] at H; obtain ⟨t604, A4, H⟩ := bi H; (try dsimp only at H); simp only [Option.some.injEq, Prod.mk.injEq] at H; obtain ⟨rfl, rfl⟩ := H; go_enter Try.func21, Try.ntmps21; go_wp2_with (first | (go_at_call 61; (with_reducible refine (impl_in.calls a0 0 7 true _ A2.out).mono ?_); rintro e w' ⟨rfl, ⟨nd, rfl⟩⟩) | (go_at_call 62; (refine (impl_openWords.calls k _ _ ([] : List Int) a0 t604 _ ?side1 (Nat.le_refl _) A4.out).mono ?_); (case side1 => exact Kd.C_nil _ _); rintro e w5 ⟨v605, rfl, ho0, hb⟩; have HO606 := Aside0.mk (Kd.S_lower ho0 (below_size (bl HB.out))); replace HB := bst HB hb)); go_ret2; exact ⟨_, sr, rS HO606.out, bl HB.out⟩
 replace c3 := Bool.eq_false_iff.mpr c3; subst c3; rw [if_neg (show ¬ (false = true) by decide)] at H; simp only [Option.some.injEq, Prod.mk.injEq] at H; obtain ⟨rfl, rfl⟩ := H; go_enter Try.func21, Try.ntmps21; go_wp2_with (first | (go_at_call 61; (with_reducible refine (impl_in.calls a0 0 7 false _ A2.out).mono ?_); rintro e w' ⟨rfl, ⟨nd, rfl⟩⟩)); go_ret2; exact ⟨_, sr, by first | exact Kd.S_nil _ _ _ _ _ | exact Kd.N_nil _ _ _ _ _ | exact Kd.V_nil _ _ _ _ _ | exact Kd.Q_nil _ _ _ _ _ | exact Kd.R_nil _ _ _ _ _, bl HB.out⟩
/-! ### spec_peListed: function 63 -/
def spec_peListed.f (a0 : Int) : Option (Bool) := (spec_l1In.f a0 0 7).bind fun t607 => (some t607)
theorem spec_peListed.calls (a0 : Int) (r : Bool) (w : World) (h : spec_peListed.f a0 = some r) :
  Calls Try.prog 63 #[.int .i64 a0] w fun e w' => e = .returned (.bool r) ∧ Drawn0 w w' := by
 have H : ((spec_l1In.f a0 0 7).bind fun t607 => (some t607)) = some r := h; clear h; obtain ⟨t607, A2, H⟩ := bi H; (try dsimp only at H); obtain rfl := Option.some.inj H; go_enter Try.func63, Try.ntmps63; go_wp2_with (first | (go_at_call 84; (with_reducible refine (spec_l1In.calls a0 0 7 t607 _ A2.out).mono ?_); rintro e w' ⟨rfl, ⟨nd, rfl⟩⟩)); go_ret; exact ⟨sr2, by repeat (first | exact Drawn0.refl _ | apply Drawn0.step)⟩
/-! ### spec_OpenPermutations: function 22 -/
def spec_OpenPermutations.f (k : Nat) (a0 : Int) : Option ((List (List Int)) × Bool) := (spec_peListed.f a0).bind fun t608 => (if t608 = true then ((spec_peAll.f k ([] : List Int) a0).bind fun t609 => (some (t609, true))) else (some (([] : List (List Int)), false)))
theorem spec_OpenPermutations.calls (k : Nat) (a0 : Int) (r1 : List (List Int)) (r2 : Bool) (w : World) (h : spec_OpenPermutations.f k a0 = some (r1, r2)) :
  Calls Try.prog 22 #[.int .i64 a0] w fun e w' => ∃ v0_ : Value, e = .returned (.tuple #[v0_, .bool r2]) ∧ Kd.N (Kd.slice 3 (Kd.int .i64)) 24 w' w.heap.size (fun k_ => (w.heap.size ≤ k_)) v0_ r1 ∧ Below w.heap.size w w' := by
 have HB := Aside0.mk (Below.refl w.heap.size w); have H : ((spec_peListed.f a0).bind fun t608 => (if t608 = true then ((spec_peAll.f k ([] : List Int) a0).bind fun t609 => (some (t609, true))) else (some (([] : List (List Int)), false)))) = some (r1, r2) := h; clear h; obtain ⟨t608, A2, H⟩ := bi H; (try dsimp only at H)
 by_cases c3 : t608 = true
 ·subst c3; rw [if_pos rfl] at H; obtain ⟨t609, A4, H⟩ := bi H; (try dsimp only at H); simp only [Option.some.injEq, Prod.mk.injEq] at H; obtain ⟨rfl, rfl⟩ := H; go_enter Try.func22, Try.ntmps22; go_wp2_with (first | (go_at_call 63; (with_reducible refine (spec_peListed.calls a0 true _ A2.out).mono ?_); rintro e w' ⟨rfl, ⟨nd, rfl⟩⟩) | (go_at_call 64; (refine (spec_peAll.calls k _ _ ([] : List Int) a0 t609 _ ?side1 (Nat.le_refl _) A4.out).mono ?_); (case side1 => exact Kd.C_nil _ _); rintro e w5 ⟨v610, rfl, ho0, hb⟩; have HO611 := Aside0.mk (Kd.N_lower (Kd.N_mono (ok' := fun k_ => (w.heap.size ≤ k_)) ho0 (fun k_ hk_ => (Nat.le_trans (below_size (bl HB.out)) hk_))) (below_size (bl HB.out))); replace HB := bst HB hb)); go_ret2; exact ⟨_, sr, rN HO611.out, bl HB.out⟩
 replace c3 := Bool.eq_false_iff.mpr c3; subst c3; rw [if_neg (show ¬ (false = true) by decide)] at H; simp only [Option.some.injEq, Prod.mk.injEq] at H; obtain ⟨rfl, rfl⟩ := H; go_enter Try.func22, Try.ntmps22; go_wp2_with (first | (go_at_call 63; (with_reducible refine (spec_peListed.calls a0 false _ A2.out).mono ?_); rintro e w' ⟨rfl, ⟨nd, rfl⟩⟩)); go_ret2; exact ⟨_, sr, by first | exact Kd.S_nil _ _ _ _ _ | exact Kd.N_nil _ _ _ _ _ | exact Kd.V_nil _ _ _ _ _ | exact Kd.Q_nil _ _ _ _ _ | exact Kd.R_nil _ _ _ _ _, bl HB.out⟩
/-! ### impl_CountOpen: function 23 -/
def impl_CountOpen.f (k : Nat) (a0 : Int) : Option (Int × Bool) := (impl_OpenPermutations.f k a0).bind fun bt612 => (some ((bt612.1.length : Int), bt612.2))
theorem impl_CountOpen.calls (k : Nat) (a0 : Int) (r1 : Int) (r2 : Bool) (w : World) (h : impl_CountOpen.f k a0 = some (r1, r2)) :
  Calls Try.prog 23 #[.int .i64 a0] w fun e w' => e = .returned (.tuple #[.int .i64 r1, .bool r2]) ∧ Below w.heap.size w w' := by
 have HB := Aside0.mk (Below.refl w.heap.size w); have H : ((impl_OpenPermutations.f k a0).bind fun bt612 => (some ((bt612.1.length : Int), bt612.2))) = some (r1, r2) := h; clear h; obtain ⟨⟨t612, t613⟩, A2, H⟩ := bi H; (try dsimp only at H); simp only [Option.some.injEq, Prod.mk.injEq] at H; obtain ⟨rfl, rfl⟩ := H; go_enter Try.func23, Try.ntmps23; go_wp2_with (first | (go_at_call 21; (with_reducible refine (impl_OpenPermutations.calls k a0 t612 t613 _ A2.out).mono ?_); rintro e w3 ⟨v614, rfl, ho0, hb⟩; have HO615 := Aside0.mk (Kd.S_lower ho0 (below_size (bl HB.out))); replace HB := bst HB hb; obtain ⟨Ao4, co4, eo4⟩ := Kd.S_slice HO615.out; subst eo4)); go_ret2; exact ⟨sr, bl HB.out⟩
/-! ### laws_sSameRows: function 24 -/
def laws_sSameRows.l0 : Nat → List (List Int) → List (List Int) → Int → Int → Option (Bool)
 | 0, _, _, _, _ => none
 | k + 1, x0, x1, x12, x13 => if x13 < x12 then (if 0 ≤ x13 then (if x13 < (x0.length : Int) then (if x13 < (x1.length : Int) then ((laws_sSame.f k (rd_L2 x0 x13) (rd_L2 x1 x13)).bind fun t618 => (if t618 = true then (laws_sSameRows.l0 k x0 x1 x12 (wrap64 (x13 + 1))) else (some false))) else (none)) else (none)) else (none)) else (some true)
def laws_sSameRows.f (k : Nat) (l0 : List (List Int)) (l1 : List (List Int)) : Option (Bool) := if (l0.length : Int) = (l1.length : Int) then (laws_sSameRows.l0 k l0 l1 (l0.length : Int) 0) else (some false)
theorem laws_sSameRows.calls (k : Nat) (A0 : Option Addr) (c0 : Nat) (l0 : List (List Int)) (A1 : Option Addr) (c1 : Nat) (l1 : List (List Int)) (r : Bool) (w : World) (hr0 : Kd.C (Kd.slice 3 (Kd.int .i64)) w A0 l0.length l0) (hc0 : l0.length ≤ c0) (hr1 : Kd.C (Kd.slice 3 (Kd.int .i64)) w A1 l1.length l1) (hc1 : l1.length ≤ c1) (h : laws_sSameRows.f k l0 l1 = some r) :
  Calls Try.prog 24 #[.slice A0 l0.length c0, .slice A1 l1.length c1] w fun e w' => e = .returned (.bool r) ∧ Drawn0 w w' := by
 have HR0 := Aside0.mk hr0; have HC0 := Aside0.mk hc0; clear hr0 hc0; have HR1 := Aside0.mk hr1; have HC1 := Aside0.mk hc1; clear hr1 hc1; have H : (if (l0.length : Int) = (l1.length : Int) then (laws_sSameRows.l0 k l0 l1 (l0.length : Int) 0) else (some false)) = some r := h; clear h
 by_cases c3 : (l0.length : Int) = (l1.length : Int)
 ·rw [if_pos c3] at H; have c3b0 := beq_iff_eq.mpr c3; have c3b1 := bne_eq_false_iff_eq.mpr c3; (have c3b2 : (l0.length == l1.length) = true := by first | simpa using c3 | (simp at c3 ⊢; omega)); clear c3; have H' := Aside0.mk H; clear H; go_enter Try.func24, Try.ntmps24; go_wp2
  repeat (go_quiet (fail); try go_wp2)
  go_loopg [13] k (fun kq v13 w' => ∃ (x13_1 : Int), v13 = .int .i64 x13_1 ∧ Aside0 (laws_sSameRows.l0 kq l0 l1 (l0.length : Int) x13_1 = some r) ∧ Aside0 (kq ≤ k) ∧ Drawn0 w w')
  case atStart => exact ⟨(0), (sr2), H', ⟨Nat.le_refl _⟩, by repeat (first | exact Drawn0.refl _ | apply Drawn0.step)⟩
  case round =>
   clear H'; obtain ⟨x13_1, rfl, HA, HK1, ⟨m1, rfl⟩⟩ := hrel
   cases gk with
   | zero => exact absurd HA.out (by simp [laws_sSameRows.l0])
   | succ k1 =>
    have H := HA.out; clear HA; simp only [laws_sSameRows.l0] at H
    by_cases c4 : x13_1 < (l0.length : Int)
    ·rw [if_pos c4] at H; have c4b0 := decide_eq_true c4; clear c4
     by_cases c5 : 0 ≤ x13_1
     ·rw [if_pos c5] at H; have c5b0 := decide_eq_true c5; clear c5
      by_cases c6 : x13_1 < (l0.length : Int)
      ·rw [if_pos c6] at H; have c6b0 := decide_eq_true c6; clear c6
       by_cases c7 : x13_1 < (l1.length : Int)
       ·rw [if_pos c7] at H; have c7b0 := decide_eq_true c7; clear c7; obtain ⟨t618, A8, H⟩ := bi H; (try dsimp only at H)
        by_cases c9 : t618 = true
        ·subst c9; rw [if_pos rfl] at H; have H' := Aside0.mk H; clear H; have p616 : 0 ≤ (x13_1 : Int) := od; have q616 : x13_1 < (l0.length : Int) := od; obtain ⟨ad616, A616_0, c616_0, e616, hx616_0, hl616_0, hi616_0⟩ := at_L2 HR0.out x13_1 p616 q616; cases e616; have HR616_0 := Aside0.mk hi616_0; have HC616_0 := Aside0.mk hl616_0; clear hi616_0 hl616_0; replace p616 := eq_true p616; replace q616 := eq_true q616; have p617 : 0 ≤ (x13_1 : Int) := od; have q617 : x13_1 < (l1.length : Int) := od; obtain ⟨ad617, A617_0, c617_0, e617, hx617_0, hl617_0, hi617_0⟩ := at_L2 HR1.out x13_1 p617 q617; cases e617; have HR617_0 := Aside0.mk hi617_0; have HC617_0 := Aside0.mk hl617_0; clear hi617_0 hl617_0; replace p617 := eq_true p617; replace q617 := eq_true q617; go_wp2_with (first | (go_at_call 11; (with_reducible refine (laws_sSame.calls k1 _ _ (rd_L2 l0 x13_1) _ _ (rd_L2 l1 x13_1) true _ ?side1 ?side2 ?side3 HC617_0.out A8.out).mono ?_); (case side1 => exact cw HR616_0.out); (case side2 => exact HC616_0.out); (case side3 => exact cw HR617_0.out); rintro e w' ⟨rfl, ⟨nd, rfl⟩⟩; (try first | exact ⟨rfl, _, World.drewN_drewN _ _ _⟩ | exact ⟨rfl, _, Eq.trans (World.drewN_drewN _ _ _) (congrArg (World.drewN _) (Nat.add_assoc _ _ _))⟩)))
         repeat (go_quiet (first | (go_at_call 11; (with_reducible refine (laws_sSame.calls k1 _ _ (rd_L2 l0 x13_1) _ _ (rd_L2 l1 x13_1) true _ ?side1 ?side2 ?side3 HC617_0.out A8.out).mono ?_); (case side1 => exact cw HR616_0.out); (case side2 => exact HC616_0.out); (case side3 => exact cw HR617_0.out); rintro e w' ⟨rfl, ⟨nd, rfl⟩⟩; (try first | exact ⟨rfl, _, World.drewN_drewN _ _ _⟩ | exact ⟨rfl, _, Eq.trans (World.drewN_drewN _ _ _) (congrArg (World.drewN _) (Nat.add_assoc _ _ _))⟩))); try go_wp2_with (first | (go_at_call 11; (with_reducible refine (laws_sSame.calls k1 _ _ (rd_L2 l0 x13_1) _ _ (rd_L2 l1 x13_1) true _ ?side1 ?side2 ?side3 HC617_0.out A8.out).mono ?_); (case side1 => exact cw HR616_0.out); (case side2 => exact HC616_0.out); (case side3 => exact cw HR617_0.out); rintro e w' ⟨rfl, ⟨nd, rfl⟩⟩; (try first | exact ⟨rfl, _, World.drewN_drewN _ _ _⟩ | exact ⟨rfl, _, Eq.trans (World.drewN_drewN _ _ _) (congrArg (World.drewN _) (Nat.add_assoc _ _ _))⟩))))
         go_roundg k1
         case measure => have := HK1.out; omega
         case rel => exact ⟨(wrap64 (x13_1 + 1)), (sr2), H', ⟨by have := HK1.out; omega⟩, by repeat (first | exact Drawn0.refl _ | apply Drawn0.step)⟩
        replace c9 := Bool.eq_false_iff.mpr c9; subst c9; rw [if_neg (show ¬ (false = true) by decide)] at H; obtain rfl := Option.some.inj H; have p616 : 0 ≤ (x13_1 : Int) := od; have q616 : x13_1 < (l0.length : Int) := od; obtain ⟨ad616, A616_0, c616_0, e616, hx616_0, hl616_0, hi616_0⟩ := at_L2 HR0.out x13_1 p616 q616; cases e616; have HR616_0 := Aside0.mk hi616_0; have HC616_0 := Aside0.mk hl616_0; clear hi616_0 hl616_0; replace p616 := eq_true p616; replace q616 := eq_true q616; have p617 : 0 ≤ (x13_1 : Int) := od; have q617 : x13_1 < (l1.length : Int) := od; obtain ⟨ad617, A617_0, c617_0, e617, hx617_0, hl617_0, hi617_0⟩ := at_L2 HR1.out x13_1 p617 q617; cases e617; have HR617_0 := Aside0.mk hi617_0; have HC617_0 := Aside0.mk hl617_0; clear hi617_0 hl617_0; replace p617 := eq_true p617; replace q617 := eq_true q617; go_wp2_with (first | (go_at_call 11; (with_reducible refine (laws_sSame.calls k1 _ _ (rd_L2 l0 x13_1) _ _ (rd_L2 l1 x13_1) false _ ?side1 ?side2 ?side3 HC617_0.out A8.out).mono ?_); (case side1 => exact cw HR616_0.out); (case side2 => exact HC616_0.out); (case side3 => exact cw HR617_0.out); rintro e w' ⟨rfl, ⟨nd, rfl⟩⟩; (try first | exact ⟨rfl, _, World.drewN_drewN _ _ _⟩ | exact ⟨rfl, _, Eq.trans (World.drewN_drewN _ _ _) (congrArg (World.drewN _) (Nat.add_assoc _ _ _))⟩)))
        repeat (go_quiet (first | (go_at_call 11; (with_reducible refine (laws_sSame.calls k1 _ _ (rd_L2 l0 x13_1) _ _ (rd_L2 l1 x13_1) false _ ?side1 ?side2 ?side3 HC617_0.out A8.out).mono ?_); (case side1 => exact cw HR616_0.out); (case side2 => exact HC616_0.out); (case side3 => exact cw HR617_0.out); rintro e w' ⟨rfl, ⟨nd, rfl⟩⟩; (try first | exact ⟨rfl, _, World.drewN_drewN _ _ _⟩ | exact ⟨rfl, _, Eq.trans (World.drewN_drewN _ _ _) (congrArg (World.drewN _) (Nat.add_assoc _ _ _))⟩))); try go_wp2_with (first | (go_at_call 11; (with_reducible refine (laws_sSame.calls k1 _ _ (rd_L2 l0 x13_1) _ _ (rd_L2 l1 x13_1) false _ ?side1 ?side2 ?side3 HC617_0.out A8.out).mono ?_); (case side1 => exact cw HR616_0.out); (case side2 => exact HC616_0.out); (case side3 => exact cw HR617_0.out); rintro e w' ⟨rfl, ⟨nd, rfl⟩⟩; (try first | exact ⟨rfl, _, World.drewN_drewN _ _ _⟩ | exact ⟨rfl, _, Eq.trans (World.drewN_drewN _ _ _) (congrArg (World.drewN _) (Nat.add_assoc _ _ _))⟩))))
        go_ret; exact ⟨sr2, by repeat (first | exact Drawn0.refl _ | apply Drawn0.step)⟩
       rw [if_neg c7] at H; exact absurd H (by simp)
      rw [if_neg c6] at H; exact absurd H (by simp)
     rw [if_neg c5] at H; exact absurd H (by simp)
    rw [if_neg c4] at H; have c4b0 := decide_eq_false c4; clear c4; obtain rfl := Option.some.inj H; go_wp2
    repeat (go_quiet (fail); try go_wp2)
    go_ret; exact ⟨sr2, by repeat (first | exact Drawn0.refl _ | apply Drawn0.step)⟩
 rw [if_neg c3] at H; have c3b0 := beq_eq_false_iff_ne.mpr c3; have c3b1 := bne_iff_ne.mpr c3; (have c3b2 : (l0.length == l1.length) = false := by first | simpa using c3 | (simp at c3 ⊢; omega)); obtain rfl := Option.some.inj H; go_enter Try.func24, Try.ntmps24; go_wp2
 repeat (go_quiet (fail); try go_wp2)
 go_ret; exact ⟨sr2, by repeat (first | exact Drawn0.refl _ | apply Drawn0.step)⟩
/-! ### laws_sLess: function 25 -/
def laws_sLess.l0 : Nat → List Int → List Int → Int → Int → Option (Bool)
 | 0, _, _, _, _ => none
 | k + 1, x0, x1, x7, x8 => if x8 < x7 then (if 0 ≤ x8 then (if x8 < (x0.length : Int) then (if x8 < (x1.length : Int) then (if (rd x0 x8) = (rd x1 x8) then (laws_sLess.l0 k x0 x1 x7 (wrap64 (x8 + 1))) else (some (decide ((rd x0 x8) < (rd x1 x8))))) else (none)) else (none)) else (none)) else (some false)
def laws_sLess.f (k : Nat) (l0 : List Int) (l1 : List Int) : Option (Bool) := laws_sLess.l0 k l0 l1 (l0.length : Int) 0
theorem laws_sLess.calls (k : Nat) (A0 : Option Addr) (c0 : Nat) (l0 : List Int) (A1 : Option Addr) (c1 : Nat) (l1 : List Int) (r : Bool) (w : World) (hr0 : Kd.C (Kd.int .i64) w A0 l0.length l0) (hc0 : l0.length ≤ c0) (hr1 : Kd.C (Kd.int .i64) w A1 l1.length l1) (hc1 : l1.length ≤ c1) (h : laws_sLess.f k l0 l1 = some r) :
  Calls Try.prog 25 #[.slice A0 l0.length c0, .slice A1 l1.length c1] w fun e w' => e = .returned (.bool r) ∧ Drawn0 w w' := by
 have HR0 := Aside0.mk hr0
 have HC0 := Aside0.mk hc0
 clear hr0 hc0
 have HR1 := Aside0.mk hr1
 have HC1 := Aside0.mk hc1
 clear hr1 hc1
 have H : (laws_sLess.l0 k l0 l1 (l0.length : Int) 0) = some r := h
 clear h
 have H' := Aside0.mk H
 clear H
 go_enter Try.func25, Try.ntmps25
 go_wp2
 repeat (go_quiet (fail); try go_wp2)
 go_loopg [8] k (fun kq v8 w' => ∃ (x8_1 : Int), v8 = .int .i64 x8_1 ∧ Aside0 (laws_sLess.l0 kq l0 l1 (l0.length : Int) x8_1 = some r) ∧ Aside0 (kq ≤ k) ∧ Drawn0 w w')
 case atStart => exact ⟨(0), (by first | rfl | (simp; done) | (simp [*]; done)), H', ⟨Nat.le_refl _⟩, by repeat (first | exact Drawn0.refl _ | apply Drawn0.step)⟩
 case round =>
  clear H'
  obtain ⟨x8_1, rfl, HA, HK1, ⟨m1, rfl⟩⟩ := hrel
  cases gk with
  | zero => exact absurd HA.out (by simp [laws_sLess.l0])
  | succ k1 =>
   have H := HA.out
   clear HA
   simp only [laws_sLess.l0] at H
   by_cases c3 : x8_1 < (l0.length : Int)
   ·rw [if_pos c3] at H
    have c3b0 : decide (x8_1 < (l0.length : Int)) = true := decide_eq_true c3
    clear c3
    by_cases c4 : 0 ≤ x8_1
    ·rw [if_pos c4] at H
     have c4b0 : decide (0 ≤ x8_1) = true := decide_eq_true c4
     clear c4
     by_cases c5 : x8_1 < (l0.length : Int)
     ·rw [if_pos c5] at H
      have c5b0 : decide (x8_1 < (l0.length : Int)) = true := decide_eq_true c5
      clear c5
      by_cases c6 : x8_1 < (l1.length : Int)
      ·rw [if_pos c6] at H
       have c6b0 : decide (x8_1 < (l1.length : Int)) = true := decide_eq_true c6
       clear c6
       by_cases c7 : (rd l0 x8_1) = (rd l1 x8_1)
       ·rw [if_pos c7] at H
        have c7b0 : ((rd l0 x8_1) == (rd l1 x8_1)) = true := beq_iff_eq.mpr c7
        have c7b1 : ((rd l0 x8_1) != (rd l1 x8_1)) = false := bne_eq_false_iff_eq.mpr c7
        clear c7
        have H' := Aside0.mk H
        clear H
        have p619 : 0 ≤ (x8_1 : Int) := of_decide_eq_true (by first | (with_reducible assumption) | assumption)
        have q619 : x8_1 < (l0.length : Int) := of_decide_eq_true (by first | (with_reducible assumption) | assumption)
        obtain ⟨ad619, e619, hx619_0⟩ := Kd.at_int HR0.out x8_1 p619 q619
        cases e619
        replace p619 := eq_true p619
        replace q619 := eq_true q619
        have p620 : 0 ≤ (x8_1 : Int) := of_decide_eq_true (by first | (with_reducible assumption) | assumption)
        have q620 : x8_1 < (l1.length : Int) := of_decide_eq_true (by first | (with_reducible assumption) | assumption)
        obtain ⟨ad620, e620, hx620_0⟩ := Kd.at_int HR1.out x8_1 p620 q620
        cases e620
        replace p620 := eq_true p620
        replace q620 := eq_true q620
        go_wp2
        repeat (go_quiet (fail); try go_wp2)
        go_roundg k1
        case measure => have := HK1.out; omega
        case rel => exact ⟨(wrap64 (x8_1 + 1)), (by first | rfl | (simp; done) | (simp [*]; done)), H', ⟨by have := HK1.out; omega⟩, by repeat (first | exact Drawn0.refl _ | apply Drawn0.step)⟩
       ·rw [if_neg c7] at H
        have c7b0 : ((rd l0 x8_1) == (rd l1 x8_1)) = false := beq_eq_false_iff_ne.mpr c7
        have c7b1 : ((rd l0 x8_1) != (rd l1 x8_1)) = true := bne_iff_ne.mpr c7
        obtain rfl := Option.some.inj H
        have p619 : 0 ≤ (x8_1 : Int) := of_decide_eq_true (by first | (with_reducible assumption) | assumption)
        have q619 : x8_1 < (l0.length : Int) := of_decide_eq_true (by first | (with_reducible assumption) | assumption)
        obtain ⟨ad619, e619, hx619_0⟩ := Kd.at_int HR0.out x8_1 p619 q619
        cases e619
        replace p619 := eq_true p619
        replace q619 := eq_true q619
        have p620 : 0 ≤ (x8_1 : Int) := of_decide_eq_true (by first | (with_reducible assumption) | assumption)
        have q620 : x8_1 < (l1.length : Int) := of_decide_eq_true (by first | (with_reducible assumption) | assumption)
        obtain ⟨ad620, e620, hx620_0⟩ := Kd.at_int HR1.out x8_1 p620 q620
        cases e620
        replace p620 := eq_true p620
        replace q620 := eq_true q620
        have p621 : 0 ≤ (x8_1 : Int) := of_decide_eq_true (by first | (with_reducible assumption) | assumption)
        have q621 : x8_1 < (l0.length : Int) := of_decide_eq_true (by first | (with_reducible assumption) | assumption)
        obtain ⟨ad621, e621, hx621_0⟩ := Kd.at_int HR0.out x8_1 p621 q621
        obtain rfl : ad619 = ad621 := (by injection e621)
        replace p621 := eq_true p621
        replace q621 := eq_true q621
        have p622 : 0 ≤ (x8_1 : Int) := of_decide_eq_true (by first | (with_reducible assumption) | assumption)
        have q622 : x8_1 < (l1.length : Int) := of_decide_eq_true (by first | (with_reducible assumption) | assumption)
        obtain ⟨ad622, e622, hx622_0⟩ := Kd.at_int HR1.out x8_1 p622 q622
        obtain rfl : ad620 = ad622 := (by injection e622)
        replace p622 := eq_true p622
        replace q622 := eq_true q622
        go_wp2
        repeat (go_quiet (fail); try go_wp2)
        go_ret
        exact ⟨by first | rfl | (simp; done) | (simp [*]; done), by repeat (first | exact Drawn0.refl _ | apply Drawn0.step)⟩
      ·rw [if_neg c6] at H
       exact absurd H (by simp)
     ·rw [if_neg c5] at H
      exact absurd H (by simp)
    ·rw [if_neg c4] at H
     exact absurd H (by simp)
   ·rw [if_neg c3] at H
    have c3b0 : decide (x8_1 < (l0.length : Int)) = false := decide_eq_false c3
    clear c3
    obtain rfl := Option.some.inj H
    go_wp2
    repeat (go_quiet (fail); try go_wp2)
    go_ret
    exact ⟨by first | rfl | (simp; done) | (simp [*]; done), by repeat (first | exact Drawn0.refl _ | apply Drawn0.step)⟩

-- NOT PRINTED: function 3 (laws_FnOpenWords)
end Go.Proofs.Ytldbkkfkgfacdaa.P
