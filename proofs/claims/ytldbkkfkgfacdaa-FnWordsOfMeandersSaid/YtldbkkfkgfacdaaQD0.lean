-- printed by wip/drv/xprint.py (our driver), shortened by wip/drv/squeeze.py: those functions that the claim reaches; Lean checks it
import Derived.Test.YtldbkkfkgfacdaaQA3
namespace Go.Proofs.Ytldbkkfkgfacdaa.P
open Go.Proofs.Ytldbkkfkgfacdaa.Short Go.RowKit Go.Proofs.YtldbkkfkgfacdaaW.PrintWords Go.Proofs.YtldbkkfkgfacdaaW.PrintLast Go.Proofs.YtldbkkfkgfacdaaW.PrintMore
attribute [local go_sem] max2_int min2_int max_two min_two max_three min_three max_four min_four   -- for this text's walks alone
set_option linter.unusedVariables false
set_option linter.unusedSimpArgs false



set_option maxHeartbeats 8000000
set_option maxRecDepth 100000
/-! ### impl_CrossingOf: function 8 -/
def impl_CrossingOf.f (k : Nat) (l0 : List Int) : Option (List Int × Bool) := (impl_isPoints.f k l0).bind fun t209 => (if t209 = true then ((impl_crossing.f k l0).bind fun t210 => (some (t210, (t210 != [])))) else (some (([] : List Int), false)))
theorem impl_CrossingOf.calls (k : Nat) (A0 : Option Addr) (c0 : Nat) (l0 : List Int) (r1 : List Int) (r2 : Bool) (w : World) (hr0 : Kd.C (Kd.int .i64) w A0 l0.length l0) (hc0 : l0.length ≤ c0) (h : impl_CrossingOf.f k l0 = some (r1, r2)) :
  Calls Try.prog 8 #[.slice A0 l0.length c0] w fun e w' => ∃ v0_ : Value, e = .returned (.tuple #[v0_, .bool r2]) ∧ Kd.R (Kd.int .i64) 3 w' w.heap.size (fun _ => True) v0_ r1 ∧ Below w.heap.size w w' := by
 have HR0 := Aside0.mk hr0; have HC0 := Aside0.mk hc0; clear hr0 hc0; have HB := Aside0.mk (Below.refl w.heap.size w); have H : ((impl_isPoints.f k l0).bind fun t209 => (if t209 = true then ((impl_crossing.f k l0).bind fun t210 => (some (t210, (t210 != [])))) else (some (([] : List Int), false)))) = some (r1, r2) := h; clear h; obtain ⟨t209, A2, H⟩ := bi H; (try dsimp only at H)
 by_cases c3 : t209 = true
 ·subst c3; rw [if_pos rfl] at H; obtain ⟨t210, A4, H⟩ := bi H; (try dsimp only at H); simp only [Option.some.injEq, Prod.mk.injEq] at H; obtain ⟨rfl, rfl⟩ := H; go_enter Try.func8, Try.ntmps8; go_wp2_with (first | (go_at_call 48; (with_reducible refine (impl_isPoints.calls k _ _ l0 true _ ?side1 HC0.out A2.out).mono ?_); (case side1 => exact cw HR0.out); rintro e w5 ⟨rfl, hb⟩; replace HB := bst HB hb) | (go_at_call 49; (with_reducible refine (impl_crossing.calls k _ _ l0 t210 _ ?side1 HC0.out A4.out).mono ?_); (case side1 => exact cw (Kd.C_below HR0.out HB.out)); rintro e w6 ⟨v211, rfl, ho0, hnl, hb⟩; have nq_v211 := fun w_ n_ c_  => (impl_crossing.nil_eql ho0 hnl w_ n_ c_ (Operand.tmp 0) (Operand.tmp 0)).1; have nr_v211 := fun w_ n_ c_  => (impl_crossing.nil_eql ho0 hnl w_ n_ c_ (Operand.tmp 0) (Operand.tmp 0)).2.1; have ng_v211 := fun w_ n_ c_ o1_ o2_ => (impl_crossing.nil_eql ho0 hnl w_ n_ c_ o1_ o2_).2.2.1; have nh_v211 := fun w_ n_ c_ o1_ o2_ => (impl_crossing.nil_eql ho0 hnl w_ n_ c_ o1_ o2_).2.2.2; clear hnl; have HO212 := Aside0.mk (Kd.R_lower ho0 (below_size (bl HB.out))); replace HB := bst HB hb)); go_ret2; exact ⟨_, sr, rR HO212.out, bl HB.out⟩
 replace c3 := Bool.eq_false_iff.mpr c3; subst c3; rw [if_neg (show ¬ (false = true) by decide)] at H; simp only [Option.some.injEq, Prod.mk.injEq] at H; obtain ⟨rfl, rfl⟩ := H; go_enter Try.func8, Try.ntmps8; go_wp2_with (first | (go_at_call 48; (with_reducible refine (impl_isPoints.calls k _ _ l0 false _ ?side1 HC0.out A2.out).mono ?_); (case side1 => exact cw HR0.out); rintro e w7 ⟨rfl, hb⟩; replace HB := bst HB hb)); go_ret2; exact ⟨_, sr, by first | exact Kd.R_nil _ _ _ _ _ | exact Kd.N_nil _ _ _ _ _ | exact Kd.V_nil _ _ _ _ _ | exact Kd.Q_nil _ _ _ _ _ | exact Kd.S_nil _ _ _ _ _, bl HB.out⟩
/-! ### impl_inverse: function 57 -/
def impl_inverse.l0 : Nat → List Int → List Int → Int → Int → Option (List Int)
 | 0, _, _, _, _ => none
 | k + 1, x3, x9, x10, x11 => if x11 < x10 then (if 0 ≤ x11 then (if x11 < (x9.length : Int) then (if 0 ≤ (rd x9 x11) then (if (rd x9 x11) < (x3.length : Int) then (impl_inverse.l0 k (x3.set ((rd x9 x11) : Int).toNat x11) x9 x10 (wrap64 (x11 + 1))) else (none)) else (none)) else (none)) else (none)) else (some x3)
def impl_inverse.f (k : Nat) (l0 : List Int) : Option (List Int) := if 0 ≤ (l0.length : Int) then (if ((l0.length : Int) : Int).toNat ≤ 35184372088832 then (impl_inverse.l0 k (List.replicate ((l0.length : Int) : Int).toNat 0) l0 (l0.length : Int) 0) else (none)) else (none)
theorem impl_inverse.calls (k : Nat) (A0 : Option Addr) (c0 : Nat) (l0 : List Int) (r : List Int) (w : World) (hr0 : Kd.C (Kd.int .i64) w A0 l0.length l0) (hc0 : l0.length ≤ c0) (h : impl_inverse.f k l0 = some r) :
  Calls Try.prog 57 #[.slice A0 l0.length c0] w fun e w' => ∃ v0_ : Value, e = .returned (v0_) ∧ Kd.R (Kd.int .i64) 3 w' w.heap.size (fun _ => True) v0_ r ∧ Below w.heap.size w w' := by
 have HR0 := Aside0.mk hr0; have HC0 := Aside0.mk hc0; clear hr0 hc0; have HB := Aside0.mk (Below.refl w.heap.size w); have H : (if 0 ≤ (l0.length : Int) then (if ((l0.length : Int) : Int).toNat ≤ 35184372088832 then (impl_inverse.l0 k (List.replicate ((l0.length : Int) : Int).toNat 0) l0 (l0.length : Int) 0) else (none)) else (none)) = some r := h; clear h
 by_cases c2 : 0 ≤ (l0.length : Int)
 ·rw [if_pos c2] at H; have c2b0 := eq_true c2; have c2b1 := decide_eq_true c2; clear c2
  by_cases c3 : ((l0.length : Int) : Int).toNat ≤ 35184372088832
  ·rw [if_pos c3] at H
   have c3b0 := eq_true c3
   have c3b1 : decide (((l0.length : Int) : Int).toNat ≤ 35184372088832) = true := decide_eq_true c3
   clear c3
   obtain ⟨y569, hy569⟩ : ∃ y_ : List Int, y_ = (List.replicate ((l0.length : Int) : Int).toNat 0) := ⟨_, rfl⟩
   (try rw [Option.bind_some] at H); (try dsimp only at H); rw [← hy569] at H
   have Ny569 := Aside0.mk hy569; clear hy569; have H' := Aside0.mk H; clear H; go_enter Try.func57, Try.ntmps57; go_wp2_with (first | ((with_reducible refine gate_dst (N := 8) rfl ?_); refine Kd.R_make (Kd.int .i64) _ 3 rfl (N := 8) rfl 24 _ _ rfl (l0.length : Int) rfl rfl Try.underlying24 (.int .i64 0) 8 info3 rfl (by decide) (by omega) 0 (ok := fun _ => True) (okp := fun _ => True) rfl (fun _ hk => hk) trivial (od) (Nat.le_trans (Nat.mul_le_mul_right _ (od : (l0.length : Int).toNat ≤ 35184372088832)) (by omega)) (Below.refl _ _) (Nat.le_refl _) ?_; intro v570 w4 ho5 hb hg_ hnew_; clear hg_ hnew_; (first | rw [← Ny569.out] at ho5 | (simp only [Int.reduceToNat] at ho5; rw [← Ny569.out] at ho5)); have HO571 := Aside0.mk (Kd.R_lower ho5 (below_size (bl HB.out))); replace HB := bst HB hb; clear hb ho5))
   go_loopg [11] k (fun kq v11 w' => ∃ (x3_1 : List Int) (x11_1 : Int), v11 = .int .i64 x11_1 ∧ Aside0 (impl_inverse.l0 kq x3_1 l0 (l0.length : Int) x11_1 = some r) ∧ Aside0 (kq ≤ k) ∧ Aside0 (Kd.R (Kd.int .i64) 3 w' w.heap.size (fun _ => True) v570 x3_1) ∧ Aside0 (Below w.heap.size w w'))
   case atStart => exact ⟨(y569), (0), (sr2), H', ⟨Nat.le_refl _⟩, ⟨rR HO571.out⟩, ⟨bl HB.out⟩⟩
   case round =>
    clear H'; obtain ⟨x3_1, x11_1, rfl, HA, HK1, HO_3, HB⟩ := hrel
    cases gk with
    | zero => exact absurd HA.out (by simp [impl_inverse.l0])
    | succ k1 =>
     have H := HA.out; clear HA; simp only [impl_inverse.l0] at H
     by_cases c6 : x11_1 < (l0.length : Int)
     ·rw [if_pos c6] at H; have c6b0 := decide_eq_true c6; clear c6
      by_cases c7 : 0 ≤ x11_1
      ·rw [if_pos c7] at H; have c7b0 := decide_eq_true c7; clear c7
       by_cases c8 : x11_1 < (l0.length : Int)
       ·rw [if_pos c8] at H; have c8b0 := decide_eq_true c8; clear c8
        by_cases c9 : 0 ≤ (rd l0 x11_1)
        ·rw [if_pos c9] at H; have c9b0 := decide_eq_true c9; clear c9
         by_cases c10 : (rd l0 x11_1) < (x3_1.length : Int)
         ·rw [if_pos c10] at H; have c10b0 := decide_eq_true c10; clear c10; obtain ⟨y573, hy573⟩ := yy (x3_1.set ((rd l0 x11_1) : Int).toNat x11_1)
          (try rw [Option.bind_some] at H); (try dsimp only at H); rw [← hy573] at H
          have Ny573 := Aside0.mk hy573; clear hy573; have H' := Aside0.mk H; clear H; obtain ⟨ad572, e572, hx572_0, p572, q572⟩ := atI HR0.out x11_1; cases e572; replace hx572_0 := hbx HB hx572_0; have p11 : 0 ≤ ((rd l0 x11_1) : Int) := od; have q11 : ((rd l0 x11_1) : Int) < ((x3_1.length : Int) : Int) := od; obtain ⟨go11, co11, eo11, gb11, gl11, cl11, HG11⟩ := Kd.R_form HO_3.out (by omega); (first | cases eo11 | (injection eo11 with ea_ en_ ec_; (first | subst ea_ | (injection ea_ with ea_; subst ea_)); subst ec_; clear en_)); have GB11 := Aside0.mk gb11; have GG11 := Aside0.mk HG11; clear gb11 gl11 HG11; obtain ⟨hx11_0, hf11_0⟩ := Kd.R_celln 0 HO_3.out ((rd l0 x11_1) : Int) p11 q11; replace p11 := eq_true p11; replace q11 := eq_true q11; have HP12 := Kd.R_putg HO_3.out ((rd l0 x11_1) : Int) x11_1; go_wp2_with (first | ((with_reducible refine gate_store (t := 3) (p := 19) rfl ?_); refine store_event (t := 3) (p := 19) (v := ?vo_w13) (w1 := (wr.setCell ⟨go11, ((rd l0 x11_1) : Int).toNat, none⟩ (.int .i64 x11_1))) ?hg ?ho ?hn ?hr ?_; (case ho => rfl); (case hg => rfl); (case hn => rfl); (case hr => first | (go_simp; done) | (go_simp; rfl)); intro w13 hw; have hg : wr.grownBy w13 (some go11) := (by rw [hw]; exact HP12.2); have hp_ : Kd.R (Kd.int .i64) 3 w13 w.heap.size (fun _ => True) (.slice (some ⟨go11, 0, none⟩) x3_1.length co11) y573 := (by rw [hw, Ny573.out]; exact HP12.1); clear HP12; replace HO_3 := Aside0.mk (hp_); replace HB := Aside0.mk ((by rw [hw]; exact below_set (HB.out) GB11.out : Below w.heap.size w w13)); clear hg hw hp_))
          go_roundg k1
          case measure => have := HK1.out; omega
          case rel => exact ⟨(y573), (wrap64 (x11_1 + 1)), (sr2), H', ⟨by have := HK1.out; omega⟩, ⟨rR HO_3.out⟩, ⟨bl HB.out⟩⟩
         rw [if_neg c10] at H; exact absurd H (by simp)
        rw [if_neg c9] at H; exact absurd H (by simp)
       rw [if_neg c8] at H; exact absurd H (by simp)
      rw [if_neg c7] at H; exact absurd H (by simp)
     rw [if_neg c6] at H; have c6b0 := decide_eq_false c6; clear c6; obtain rfl := Option.some.inj H; go_wp2; go_ret; exact ⟨_, sr, rR HO_3.out, bl HB.out⟩
  rw [if_neg c3] at H; exact absurd H (by simp)
 rw [if_neg c2] at H; exact absurd H (by simp)
/-! ### spec_DrawPermutationOf: function 35 -/
def spec_DrawPermutationOf.f (k : Nat) (l0 : List Int) : Option (List Int × List Int) := (spec_DrawIsMeander.f k l0).bind fun bt943 => (some (bt943.1, bt943.2))
theorem spec_DrawPermutationOf.calls (k : Nat) (A0 : Option Addr) (c0 : Nat) (l0 : List Int) (r1 : List Int) (r2 : List Int) (w : World) (hr0 : Kd.C (Kd.int .u8) w A0 l0.length l0) (hc0 : l0.length ≤ c0) (h : spec_DrawPermutationOf.f k l0 = some (r1, r2)) :
  Calls Try.prog 35 #[.slice A0 l0.length c0] w fun e w' => ∃ v0_ v1_ : Value, e = .returned (.agg #[v0_, v1_]) ∧ Kd.R (Kd.int .i64) 3 w' w.heap.size (fun k_ => some k_ ≠ (v1_ : Value).ownBlock) v0_ r1 ∧ Kd.R (Kd.int .i64) 3 w' w.heap.size (fun k_ => some k_ ≠ (v0_ : Value).ownBlock) v1_ r2 ∧ Below w.heap.size w w' := by
 have hu39 := Try.underlying39; have HR0 := Aside0.mk hr0; have HC0 := Aside0.mk hc0; clear hr0 hc0; have HB := Aside0.mk (Below.refl w.heap.size w); have H : ((spec_DrawIsMeander.f k l0).bind fun bt943 => (some (bt943.1, bt943.2))) = some (r1, r2) := h; clear h; obtain ⟨⟨t943, t946⟩, A2, H⟩ := bi H; (try dsimp only at H); simp only [Option.some.injEq, Prod.mk.injEq] at H; obtain ⟨rfl, rfl⟩ := H; go_enter Try.func35, Try.ntmps35; go_wp2_with (first | ((with_reducible refine gate_dst (N := 2) rfl ?_); refine box_event ?hg (N := 2) ?hd (cs := #[.slice none 0 0, .slice none 0 0]) (t := 39) ?hr ?_; (case hd => rfl); (case hg => rfl); (case hr => first | (go_simp; done) | (go_simp; rfl)); intro gb942 hg w3 hbox hb; have BK942 := Aside0.mk (hbox); have GW942 := Aside0.mk ((by rw [hg]; exact (below_size (bl HB.out)) : w.heap.size ≤ gb942)); have GE942 := Aside0.mk ((by rw [hg]; exact (below_size (bl HB.out)) : w.heap.size ≤ gb942)); replace HB := bst HB hb; clear hb hbox hg) | (go_at_call 71; (with_reducible refine (spec_DrawIsMeander.calls k _ _ l0 t943 t946 _ ?side1 HC0.out A2.out).mono ?_); (case side1 => exact cw (Kd.C_below HR0.out HB.out)); rintro e w4 ⟨v944, v947, rfl, ho0, ho1, hb⟩; have HO945 := Aside0.mk (Kd.R_lower ho0 (below_size (bs1 HB.out GE942.out))); have HO948 := Aside0.mk (Kd.R_lower ho1 (below_size (bs1 HB.out GE942.out))); replace BK942 := bkb BK942 hb; replace HB := Aside0.mk (below_step (bs1 HB.out GE942.out) hb); obtain ⟨Ao5, co5, eo5⟩ := Kd.R_slice HO945.out; subst eo5; have hcz6_0 : w4.cell? ⟨gb942, 0, none⟩ = some (.slice none 0 0) := (blk_cell BK942.out 0).trans rfl; have hcz6_1 : w4.cell? ⟨gb942, 1, none⟩ = some (.slice none 0 0) := (blk_cell BK942.out 1).trans rfl; have hfz6_0 := blk_frozen BK942.out 0; have hfz6_1 := blk_frozen BK942.out 1; obtain ⟨Ao7, co7, eo7⟩ := Kd.R_slice HO948.out; subst eo7)); refine bodyPost_ret (results_cell_row rfl _ _ gb942 39 #[.slice Ao5 t943.length co5, .slice Ao7 t946.length co7] (0, 0) _ rfl (by (with_reducible repeat (first | refine blk_drewN ?_ _ | refine blk_drew ?_ | refine blk_alloc ?_ _)); refine blk_put (cs := #[.slice Ao5 t943.length co5, .slice none 0 0]) ?_ 1 _ rfl; (with_reducible repeat (first | refine blk_drewN ?_ _ | refine blk_drew ?_ | refine blk_alloc ?_ _)); refine blk_put (cs := #[.slice none 0 0, .slice none 0 0]) ?_ 0 _ rfl; (with_reducible repeat (first | refine blk_drewN ?_ _ | refine blk_drew ?_ | refine blk_alloc ?_ _)); exact BK942.out) Try.underlying39 rfl (by kernel_rfl)) rfl ?_; exact ⟨_, _, sr, rR (Kd.R_mono (Kd.R_far (p := ⟨gb942, 1, none⟩) (Kd.R_far (p := ⟨gb942, 0, none⟩) (Kd.R_types HO945.out BK942.out (by decide)) (fun _ hk => hk.2) (.slice Ao5 t943.length co5)) (fun _ hk => hk.2) (.slice Ao7 t946.length co7)) (fun _ hk => hk.1)), rR (Kd.R_mono (Kd.R_far (p := ⟨gb942, 1, none⟩) (Kd.R_far (p := ⟨gb942, 0, none⟩) (Kd.R_types HO948.out BK942.out (by decide)) (fun _ hk => hk.2) (.slice Ao5 t943.length co5)) (fun _ hk => hk.2) (.slice Ao7 t946.length co7)) (fun _ hk => hk.1)), bs1 HB.out GE942.out⟩
/-! ### impl_CycleOf: function 37 -/
def impl_CycleOf.l0 : Nat → List Int → List Int → List Int → Int → Int → Option (List Int × Bool)
 | 0, _, _, _, _, _ => none
 | k + 1, x4, x6, x19, x20, x21 => if x21 < x20 then (if 0 ≤ x21 then (if x21 < (x19.length : Int) then (if (x4.length : Int) = 0 then (none) else (if 0 ≤ (Int.tmod (wrap64 (x21 + 1)) (x4.length : Int)) then (if (Int.tmod (wrap64 (x21 + 1)) (x4.length : Int)) < (x4.length : Int) then (if 0 ≤ (rd x19 x21) then (if (rd x19 x21) < (x6.length : Int) then (impl_CycleOf.l0 k x4 (x6.set ((rd x19 x21) : Int).toNat (rd x4 (Int.tmod (wrap64 (x21 + 1)) (x4.length : Int)))) x19 x20 (wrap64 (x21 + 1))) else (none)) else (none)) else (none)) else (none))) else (none)) else (none)) else (some (x6, true))
def impl_CycleOf.f (k : Nat) (l0_0 : List Int) (l0_1 : List Int) : Option (List Int × Bool) := (impl_PermutationOf.f k l0_0 l0_1).bind fun bt955 => (if bt955.2 = true then (if 0 ≤ (bt955.1.length : Int) then (if ((bt955.1.length : Int) : Int).toNat ≤ 35184372088832 then (impl_CycleOf.l0 k bt955.1 (List.replicate ((bt955.1.length : Int) : Int).toNat 0) bt955.1 (bt955.1.length : Int) 0) else (none)) else (none)) else (some (([] : List Int), false)))
theorem impl_CycleOf.calls (k : Nat) (A0_0 : Option Addr) (c0_0 : Nat) (l0_0 : List Int) (A0_1 : Option Addr) (c0_1 : Nat) (l0_1 : List Int) (r1 : List Int) (r2 : Bool) (w : World) (hr0_0 : Kd.C (Kd.int .i64) w A0_0 l0_0.length l0_0) (hc0_0 : l0_0.length ≤ c0_0) (hr0_1 : Kd.C (Kd.int .i64) w A0_1 l0_1.length l0_1) (hc0_1 : l0_1.length ≤ c0_1) (h : impl_CycleOf.f k l0_0 l0_1 = some (r1, r2)) :
  Calls Try.prog 37 #[.agg #[.slice A0_0 l0_0.length c0_0, .slice A0_1 l0_1.length c0_1]] w fun e w' => ∃ v0_ : Value, e = .returned (.tuple #[v0_, .bool r2]) ∧ Kd.R (Kd.int .i64) 3 w' w.heap.size (fun _ => True) v0_ r1 ∧ Below w.heap.size w w' := by
 have hu39 := Try.underlying39; have HR0_0 := Aside0.mk hr0_0; have HC0_0 := Aside0.mk hc0_0; clear hr0_0 hc0_0; have HR0_1 := Aside0.mk hr0_1; have HC0_1 := Aside0.mk hc0_1; clear hr0_1 hc0_1; have HB := Aside0.mk (Below.refl w.heap.size w); have H : ((impl_PermutationOf.f k l0_0 l0_1).bind fun bt955 => (if bt955.2 = true then (if 0 ≤ (bt955.1.length : Int) then (if ((bt955.1.length : Int) : Int).toNat ≤ 35184372088832 then (impl_CycleOf.l0 k bt955.1 (List.replicate ((bt955.1.length : Int) : Int).toNat 0) bt955.1 (bt955.1.length : Int) 0) else (none)) else (none)) else (some (([] : List Int), false)))) = some (r1, r2) := h; clear h; obtain ⟨⟨t955, t958⟩, A2, H⟩ := bi H; (try dsimp only at H)
 by_cases c3 : t958 = true
 ·subst c3; rw [if_pos rfl] at H
  by_cases c4 : 0 ≤ (t955.length : Int)
  ·rw [if_pos c4] at H; have c4b0 := eq_true c4; have c4b1 := decide_eq_true c4; clear c4
   by_cases c5 : ((t955.length : Int) : Int).toNat ≤ 35184372088832
   ·rw [if_pos c5] at H
    have c5b0 := eq_true c5
    have c5b1 : decide (((t955.length : Int) : Int).toNat ≤ 35184372088832) = true := decide_eq_true c5
    clear c5
    obtain ⟨y959, hy959⟩ : ∃ y_ : List Int, y_ = (List.replicate ((t955.length : Int) : Int).toNat 0) := ⟨_, rfl⟩
    (try rw [Option.bind_some] at H); (try dsimp only at H); rw [← hy959] at H
    have Ny959 := Aside0.mk hy959; clear hy959; have H' := Aside0.mk H; clear H; go_enter Try.func37, Try.ntmps37; go_wp2_with (first | ((with_reducible refine gate_dst (N := 1) rfl ?_); refine box_event ?hg (N := 1) ?hd (cs := #[.slice A0_0 l0_0.length c0_0, .slice A0_1 l0_1.length c0_1]) (t := 39) ?hr ?_; (case hd => rfl); (case hg => rfl); (case hr => first | (go_simp; done) | (go_simp; rfl)); intro gb954 hg w6 hbox hb; have BK954 := Aside0.mk (hbox); have GW954 := Aside0.mk ((by rw [hg]; exact (below_size (bl HB.out)) : w.heap.size ≤ gb954)); have GE954 := Aside0.mk ((by rw [hg]; exact (below_size (bl HB.out)) : w.heap.size ≤ gb954)); replace HB := bst HB hb; clear hb hbox hg; have hcz7_0 : w6.cell? ⟨gb954, 0, none⟩ = some (.slice A0_0 l0_0.length c0_0) := (blk_cell BK954.out 0).trans rfl; have hcz7_1 : w6.cell? ⟨gb954, 1, none⟩ = some (.slice A0_1 l0_1.length c0_1) := (blk_cell BK954.out 1).trans rfl; have hfz7_0 := blk_frozen BK954.out 0; have hfz7_1 := blk_frozen BK954.out 1) | (go_at_call 32; (with_reducible refine (impl_PermutationOf.calls k _ _ l0_0 _ _ l0_1 t955 true _ ?side1 ?side2 ?side3 HC0_1.out A2.out).mono ?_); (case side1 => exact cw (Kd.C_below HR0_0.out HB.out)); (case side2 => exact HC0_0.out); (case side3 => exact cw (Kd.C_below HR0_1.out HB.out)); rintro e w8 ⟨v956, rfl, ho0, hb⟩; have HO957 := Aside0.mk (Kd.R_lower ho0 (below_size (bs1 HB.out GE954.out))); replace BK954 := bkb BK954 hb; replace HB := Aside0.mk (below_step (bs1 HB.out GE954.out) hb); obtain ⟨Ao9, co9, eo9⟩ := Kd.R_slice HO957.out; subst eo9) | ((with_reducible refine gate_dst (N := 18) rfl ?_); refine Kd.R_make (Kd.int .i64) _ 3 rfl (N := 18) rfl 24 _ _ rfl (t955.length : Int) rfl rfl Try.underlying24 (.int .i64 0) 8 info3 rfl (by decide) (by omega) 0 (ok := fun _ => True) (okp := fun _ => True) rfl (fun _ hk => hk) trivial (od) (Nat.le_trans (Nat.mul_le_mul_right _ (od : (t955.length : Int).toNat ≤ 35184372088832)) (by omega)) (Below.refl _ _) (Nat.le_refl _) ?_; intro v960 w10 ho11 hb hg_ hnew_; clear hg_ hnew_; (first | rw [← Ny959.out] at ho11 | (simp only [Int.reduceToNat] at ho11; rw [← Ny959.out] at ho11)); have HO961 := Aside0.mk (Kd.R_lower (Kd.R_new' ho11 (Kd.R_lt (rR HO957.out))) (below_size (bs1 HB.out GE954.out))); replace HO957 := Aside0.mk (Kd.R_elder' (rR HO957.out) (Kd.R_base ho11) hb); replace BK954 := bkb BK954 hb; replace HB := Aside0.mk (below_step (bs1 HB.out GE954.out) hb); clear hb ho11))
    go_loopg [21] k (fun kq v21 w' => ∃ (x6_1 : List Int) (x21_1 : Int), v21 = .int .i64 x21_1 ∧ Aside0 (impl_CycleOf.l0 kq t955 x6_1 t955 (t955.length : Int) x21_1 = some (r1, r2)) ∧ Aside0 (kq ≤ k) ∧ Aside0 (Kd.R (Kd.int .i64) 3 w' w.heap.size (fun k_ => some k_ ≠ (v960 : Value).ownBlock) (.slice Ao9 t955.length co9) t955) ∧ Aside0 (Kd.R (Kd.int .i64) 3 w' w.heap.size (fun k_ => some k_ ≠ ((.slice Ao9 t955.length co9) : Value).ownBlock ∧ some k_ ≠ ((.slice Ao9 t955.length co9) : Value).ownBlock) v960 x6_1) ∧ Aside0 (Kd.R (Kd.int .i64) 3 w' w.heap.size (fun k_ => some k_ ≠ (v960 : Value).ownBlock) (.slice Ao9 t955.length co9) t955) ∧ Aside0 (w'.heap[gb954]? = some (.cells #[(.slice A0_0 l0_0.length c0_0), (.slice A0_1 l0_1.length c0_1)] 39 (0, 0))) ∧ Aside0 (Below w.heap.size w w'))
    case atStart => exact ⟨(y959), (0), (sr2), H', ⟨Nat.le_refl _⟩, ⟨rR (Kd.R_mono HO957.out (fun _ hk => hk.2))⟩, ⟨rR (Kd.R_mono HO961.out (fun _ hk => ⟨hk.2, hk.2⟩))⟩, ⟨rR (Kd.R_mono HO957.out (fun _ hk => hk.2))⟩, ⟨by (with_reducible repeat (first | refine blk_drewN ?_ _ | refine blk_drew ?_ | refine blk_alloc ?_ _)); exact BK954.out⟩, ⟨bs1 HB.out GE954.out⟩⟩
    case round =>
     clear H'; obtain ⟨x6_1, x21_1, rfl, HA, HK1, HO_4, HO_6, HO_19, BK954, HB⟩ := hrel
     cases gk with
     | zero => exact absurd HA.out (by simp [impl_CycleOf.l0])
     | succ k1 =>
      have H := HA.out; clear HA; simp only [impl_CycleOf.l0] at H
      by_cases c12 : x21_1 < (t955.length : Int)
      ·rw [if_pos c12] at H; have c12b0 := decide_eq_true c12; clear c12
       by_cases c13 : 0 ≤ x21_1
       ·rw [if_pos c13] at H; have c13b0 := decide_eq_true c13; clear c13
        by_cases c14 : x21_1 < (t955.length : Int)
        ·rw [if_pos c14] at H; have c14b0 := decide_eq_true c14; clear c14
         by_cases c15 : (t955.length : Int) = 0
         ·rw [if_pos c15] at H; exact absurd H (by simp)
         rw [if_neg c15] at H; have c15b0 := beq_eq_false_iff_ne.mpr c15; have c15b1 := bne_iff_ne.mpr c15; have c15b2 : ¬ (t955 = []) := fun h_ => c15 (by rw [h_]; rfl); obtain ⟨ji16, hji16⟩ : ∃ j_ : Int, (Int.tmod (wrap64 (x21_1 + 1)) (t955.length : Int)) = j_ := ⟨_, rfl⟩; replace H : (if 0 ≤ (ji16) then (if (ji16) < (t955.length : Int) then (if 0 ≤ (rd t955 x21_1) then (if (rd t955 x21_1) < (x6_1.length : Int) then (impl_CycleOf.l0 k1 t955 (x6_1.set ((rd t955 x21_1) : Int).toNat (rd t955 (ji16))) t955 (t955.length : Int) (wrap64 (x21_1 + 1))) else (none)) else (none)) else (none)) else (none)) = some (r1, r2) := by first | (rw [hji16] at H; exact H) | (simp only [hji16] at H ⊢; exact H)
         by_cases c17 : 0 ≤ (ji16)
         ·rw [if_pos c17] at H; have c17b0 := decide_eq_true c17; clear c17
          by_cases c18 : (ji16) < (t955.length : Int)
          ·rw [if_pos c18] at H; have c18b0 := decide_eq_true c18; clear c18
           by_cases c19 : 0 ≤ (rd t955 x21_1)
           ·rw [if_pos c19] at H; have c19b0 := decide_eq_true c19; clear c19
            by_cases c20 : (rd t955 x21_1) < (x6_1.length : Int)
            ·rw [if_pos c20] at H; have c20b0 := decide_eq_true c20; clear c20; obtain ⟨y964, hy964⟩ := yy (x6_1.set ((rd t955 x21_1) : Int).toNat (rd t955 (ji16)))
             (try rw [Option.bind_some] at H); (try dsimp only at H); rw [← hy964] at H
             have Ny964 := Aside0.mk hy964; clear hy964; have H' := Aside0.mk H; clear H; obtain ⟨ad962, e962, hx962_0, p962, q962⟩ := atI (Kd.R_reads' HO_19.out).2.2 x21_1; cases e962; obtain ⟨ad963, e963, hx963_0, p963, q963⟩ := atI (Kd.R_reads' HO_4.out).2.2 (ji16); obtain rfl : ad962 = ad963 := (by injection e963); have p21 : 0 ≤ ((rd t955 x21_1) : Int) := od; have q21 : ((rd t955 x21_1) : Int) < ((x6_1.length : Int) : Int) := od; obtain ⟨go21, co21, eo21, gb21, gl21, cl21, HG21⟩ := Kd.R_form HO_6.out (by omega); (first | cases eo21 | (injection eo21 with ea_ en_ ec_; (first | subst ea_ | (injection ea_ with ea_; subst ea_)); subst ec_; clear en_)); have GB21 := Aside0.mk gb21; have GG21 := Aside0.mk HG21; clear gb21 gl21 HG21; obtain ⟨hx21_0, hf21_0⟩ := Kd.R_celln 0 HO_6.out ((rd t955 x21_1) : Int) p21 q21; replace p21 := eq_true p21; replace q21 := eq_true q21; have HP22 := Kd.R_putg HO_6.out ((rd t955 x21_1) : Int) (rd t955 (ji16)); go_wp2_with (first | ((with_reducible refine gate_store (t := 3) (p := 36) rfl ?_); refine store_event (t := 3) (p := 36) (v := ?vo_w23) (w1 := (wr.setCell ⟨go21, ((rd t955 x21_1) : Int).toNat, none⟩ (.int .i64 (rd t955 (ji16))))) ?hg ?ho ?hn ?hr ?_; (case ho => rfl); (case hg => rfl); (case hn => rfl); (case hr => first | (go_simp; done) | (go_simp; rfl)); intro w23 hw; have hg : wr.grownBy w23 (some go21) := (by rw [hw]; exact HP22.2); have hp_ : Kd.R (Kd.int .i64) 3 w23 w.heap.size (fun k_ => some k_ ≠ (.slice (some ad962) t955.length co9 : Value).ownBlock ∧ some k_ ≠ (.slice (some ad962) t955.length co9 : Value).ownBlock) (.slice (some ⟨go21, 0, none⟩) x6_1.length co21) y964 := (by rw [hw, Ny964.out]; exact HP22.1); clear HP22; replace HO_4 := Aside0.mk (Kd.R_after (v := (.slice (some ⟨go21, 0, none⟩) x6_1.length co21)) (v1 := (.slice (some ⟨go21, 0, none⟩) x6_1.length co21)) (ok := (fun _ => True)) (rR (Kd.R_mono HO_4.out (fun _ hk => ⟨trivial, hk⟩))) hg (.inl rfl)); replace HO_19 := Aside0.mk (Kd.R_after (v := (.slice (some ⟨go21, 0, none⟩) x6_1.length co21)) (v1 := (.slice (some ⟨go21, 0, none⟩) x6_1.length co21)) (ok := (fun _ => True)) (rR (Kd.R_mono HO_19.out (fun _ hk => ⟨trivial, hk⟩))) hg (.inl rfl)); replace BK954 := Aside0.mk (blk_grown (bk BK954.out) hg (Kd.R_ne HO_6.out BK954.out (by decide))); replace HO_6 := Aside0.mk (hp_); replace HB := Aside0.mk ((by rw [hw]; exact below_set (HB.out) GB21.out : Below w.heap.size w w23)); clear hg hw hp_))
             first | go_roundg k1 | (simp only [← hji16]; go_roundg k1)
             case measure => have := HK1.out; omega
             case rel => exact ⟨(y964), (wrap64 (x21_1 + 1)), (sr2), H', ⟨by have := HK1.out; omega⟩, ⟨rR (Kd.R_mono HO_4.out (fun _ hk => hk.2))⟩, ⟨rR HO_6.out⟩, ⟨rR (Kd.R_mono HO_19.out (fun _ hk => hk.2))⟩, ⟨by (with_reducible repeat (first | refine blk_drewN ?_ _ | refine blk_drew ?_ | refine blk_alloc ?_ _)); exact BK954.out⟩, ⟨bs1 HB.out GE954.out⟩⟩
            rw [if_neg c20] at H; exact absurd H (by simp)
           rw [if_neg c19] at H; exact absurd H (by simp)
          rw [if_neg c18] at H; exact absurd H (by simp)
         rw [if_neg c17] at H; exact absurd H (by simp)
        rw [if_neg c14] at H; exact absurd H (by simp)
       rw [if_neg c13] at H; exact absurd H (by simp)
      rw [if_neg c12] at H; have c12b0 := decide_eq_false c12; clear c12; simp only [Option.some.injEq, Prod.mk.injEq] at H; obtain ⟨rfl, rfl⟩ := H; go_wp2; go_ret2; exact ⟨_, sr, rR (Kd.R_mono HO_6.out (fun _ hk => trivial)), bs1 HB.out GE954.out⟩
   rw [if_neg c5] at H; exact absurd H (by simp)
  rw [if_neg c4] at H; exact absurd H (by simp)
 replace c3 := Bool.eq_false_iff.mpr c3; subst c3; rw [if_neg (show ¬ (false = true) by decide)] at H; simp only [Option.some.injEq, Prod.mk.injEq] at H; obtain ⟨rfl, rfl⟩ := H; go_enter Try.func37, Try.ntmps37; go_wp2_with (first | ((with_reducible refine gate_dst (N := 1) rfl ?_); refine box_event ?hg (N := 1) ?hd (cs := #[.slice A0_0 l0_0.length c0_0, .slice A0_1 l0_1.length c0_1]) (t := 39) ?hr ?_; (case hd => rfl); (case hg => rfl); (case hr => first | (go_simp; done) | (go_simp; rfl)); intro gb954 hg w24 hbox hb; have BK954 := Aside0.mk (hbox); have GW954 := Aside0.mk ((by rw [hg]; exact (below_size (bl HB.out)) : w.heap.size ≤ gb954)); have GE954 := Aside0.mk ((by rw [hg]; exact (below_size (bl HB.out)) : w.heap.size ≤ gb954)); replace HB := bst HB hb; clear hb hbox hg; have hcz25_0 : w24.cell? ⟨gb954, 0, none⟩ = some (.slice A0_0 l0_0.length c0_0) := (blk_cell BK954.out 0).trans rfl; have hcz25_1 : w24.cell? ⟨gb954, 1, none⟩ = some (.slice A0_1 l0_1.length c0_1) := (blk_cell BK954.out 1).trans rfl; have hfz25_0 := blk_frozen BK954.out 0; have hfz25_1 := blk_frozen BK954.out 1) | (go_at_call 32; (with_reducible refine (impl_PermutationOf.calls k _ _ l0_0 _ _ l0_1 t955 false _ ?side1 ?side2 ?side3 HC0_1.out A2.out).mono ?_); (case side1 => exact cw (Kd.C_below HR0_0.out HB.out)); (case side2 => exact HC0_0.out); (case side3 => exact cw (Kd.C_below HR0_1.out HB.out)); rintro e w26 ⟨v956, rfl, ho0, hb⟩; have HO957 := Aside0.mk (Kd.R_lower ho0 (below_size (bs1 HB.out GE954.out))); replace BK954 := bkb BK954 hb; replace HB := Aside0.mk (below_step (bs1 HB.out GE954.out) hb))); go_ret2; exact ⟨_, sr, by first | exact Kd.R_nil _ _ _ _ _ | exact Kd.N_nil _ _ _ _ _ | exact Kd.V_nil _ _ _ _ _ | exact Kd.Q_nil _ _ _ _ _ | exact Kd.S_nil _ _ _ _ _, bs1 HB.out GE954.out⟩
/-! ### spec_CycleOf: function 38 -/
def spec_CycleOf.l0 : Nat → List Int → List Int → List Int → Int → Int → Option (List Int × Bool)
 | 0, _, _, _, _, _ => none
 | k + 1, x4, x5, x16, x17, x18 => if x18 < x17 then (if 0 ≤ x18 then (if x18 < (x16.length : Int) then (if (x4.length : Int) = 0 then (none) else (if 0 ≤ (Int.tmod (wrap64 (x18 + 1)) (x4.length : Int)) then (if (Int.tmod (wrap64 (x18 + 1)) (x4.length : Int)) < (x4.length : Int) then (if 0 ≤ (rd x16 x18) then (if (rd x16 x18) < (x5.length : Int) then (spec_CycleOf.l0 k x4 (x5.set ((rd x16 x18) : Int).toNat (rd x4 (Int.tmod (wrap64 (x18 + 1)) (x4.length : Int)))) x16 x17 (wrap64 (x18 + 1))) else (none)) else (none)) else (none)) else (none))) else (none)) else (none)) else (some (x5, true))
def spec_CycleOf.f (k : Nat) (l0_0 : List Int) (l0_1 : List Int) : Option (List Int × Bool) := (spec_peSingle.f k l0_0 l0_1).bind fun t966 => (if t966 = true then ((spec_meWay.f k l0_0 l0_1 0).bind fun t967 => (if 0 ≤ (t967.length : Int) then (if ((t967.length : Int) : Int).toNat ≤ 35184372088832 then (spec_CycleOf.l0 k t967 (List.replicate ((t967.length : Int) : Int).toNat 0) t967 (t967.length : Int) 0) else (none)) else (none))) else (some (([] : List Int), false)))
theorem spec_CycleOf.calls (k : Nat) (A0_0 : Option Addr) (c0_0 : Nat) (l0_0 : List Int) (A0_1 : Option Addr) (c0_1 : Nat) (l0_1 : List Int) (r1 : List Int) (r2 : Bool) (w : World) (hr0_0 : Kd.C (Kd.int .i64) w A0_0 l0_0.length l0_0) (hc0_0 : l0_0.length ≤ c0_0) (hr0_1 : Kd.C (Kd.int .i64) w A0_1 l0_1.length l0_1) (hc0_1 : l0_1.length ≤ c0_1) (h : spec_CycleOf.f k l0_0 l0_1 = some (r1, r2)) :
  Calls Try.prog 38 #[.agg #[.slice A0_0 l0_0.length c0_0, .slice A0_1 l0_1.length c0_1]] w fun e w' => ∃ v0_ : Value, e = .returned (.tuple #[v0_, .bool r2]) ∧ Kd.R (Kd.int .i64) 3 w' w.heap.size (fun _ => True) v0_ r1 ∧ Below w.heap.size w w' := by
 have hu39 := Try.underlying39; have HR0_0 := Aside0.mk hr0_0; have HC0_0 := Aside0.mk hc0_0; clear hr0_0 hc0_0; have HR0_1 := Aside0.mk hr0_1; have HC0_1 := Aside0.mk hc0_1; clear hr0_1 hc0_1; have HB := Aside0.mk (Below.refl w.heap.size w); have H : ((spec_peSingle.f k l0_0 l0_1).bind fun t966 => (if t966 = true then ((spec_meWay.f k l0_0 l0_1 0).bind fun t967 => (if 0 ≤ (t967.length : Int) then (if ((t967.length : Int) : Int).toNat ≤ 35184372088832 then (spec_CycleOf.l0 k t967 (List.replicate ((t967.length : Int) : Int).toNat 0) t967 (t967.length : Int) 0) else (none)) else (none))) else (some (([] : List Int), false)))) = some (r1, r2) := h; clear h; obtain ⟨t966, A2, H⟩ := bi H; (try dsimp only at H)
 by_cases c3 : t966 = true
 ·subst c3; rw [if_pos rfl] at H; obtain ⟨t967, A4, H⟩ := bi H; (try dsimp only at H)
  by_cases c5 : 0 ≤ (t967.length : Int)
  ·rw [if_pos c5] at H; have c5b0 := eq_true c5; have c5b1 := decide_eq_true c5; clear c5
   by_cases c6 : ((t967.length : Int) : Int).toNat ≤ 35184372088832
   ·rw [if_pos c6] at H
    have c6b0 := eq_true c6
    have c6b1 : decide (((t967.length : Int) : Int).toNat ≤ 35184372088832) = true := decide_eq_true c6
    clear c6
    obtain ⟨y970, hy970⟩ : ∃ y_ : List Int, y_ = (List.replicate ((t967.length : Int) : Int).toNat 0) := ⟨_, rfl⟩
    (try rw [Option.bind_some] at H); (try dsimp only at H); rw [← hy970] at H
    have Ny970 := Aside0.mk hy970; clear hy970; have H' := Aside0.mk H; clear H; go_enter Try.func38, Try.ntmps38; go_wp2_with (first | ((with_reducible refine gate_dst (N := 1) rfl ?_); refine box_event ?hg (N := 1) ?hd (cs := #[.slice A0_0 l0_0.length c0_0, .slice A0_1 l0_1.length c0_1]) (t := 39) ?hr ?_; (case hd => rfl); (case hg => rfl); (case hr => first | (go_simp; done) | (go_simp; rfl)); intro gb965 hg w7 hbox hb; have BK965 := Aside0.mk (hbox); have GW965 := Aside0.mk ((by rw [hg]; exact (below_size (bl HB.out)) : w.heap.size ≤ gb965)); have GE965 := Aside0.mk ((by rw [hg]; exact (below_size (bl HB.out)) : w.heap.size ≤ gb965)); replace HB := bst HB hb; clear hb hbox hg; have hcz8_0 : w7.cell? ⟨gb965, 0, none⟩ = some (.slice A0_0 l0_0.length c0_0) := (blk_cell BK965.out 0).trans rfl; have hcz8_1 : w7.cell? ⟨gb965, 1, none⟩ = some (.slice A0_1 l0_1.length c0_1) := (blk_cell BK965.out 1).trans rfl; have hfz8_0 := blk_frozen BK965.out 0; have hfz8_1 := blk_frozen BK965.out 1) | (go_at_call 72; (with_reducible refine (spec_peSingle.calls k _ _ l0_0 _ _ l0_1 true _ ?side1 ?side2 ?side3 HC0_1.out A2.out).mono ?_); (case side1 => exact cw (Kd.C_below HR0_0.out HB.out)); (case side2 => exact HC0_0.out); (case side3 => exact cw (Kd.C_below HR0_1.out HB.out)); rintro e w9 ⟨rfl, hb⟩; replace BK965 := bkb BK965 hb; replace HB := Aside0.mk (below_step (bs1 HB.out GE965.out) hb); have hcz10_0 : w9.cell? ⟨gb965, 0, none⟩ = some (.slice A0_0 l0_0.length c0_0) := (blk_cell BK965.out 0).trans rfl; have hcz10_1 : w9.cell? ⟨gb965, 1, none⟩ = some (.slice A0_1 l0_1.length c0_1) := (blk_cell BK965.out 1).trans rfl; have hfz10_0 := blk_frozen BK965.out 0; have hfz10_1 := blk_frozen BK965.out 1) | (go_at_call 73; (with_reducible refine (spec_meWay.calls k _ _ l0_0 _ _ l0_1 0 t967 _ ?side1 ?side2 ?side3 HC0_1.out A4.out).mono ?_); (case side1 => exact cw (Kd.C_below HR0_0.out HB.out)); (case side2 => exact HC0_0.out); (case side3 => exact cw (Kd.C_below HR0_1.out HB.out)); rintro e w11 ⟨v968, rfl, ho0, hb⟩; have HO969 := Aside0.mk (Kd.R_lower ho0 (below_size (bs1 HB.out GE965.out))); replace BK965 := bkb BK965 hb; replace HB := Aside0.mk (below_step (bs1 HB.out GE965.out) hb); obtain ⟨Ao12, co12, eo12⟩ := Kd.R_slice HO969.out; subst eo12) | ((with_reducible refine gate_dst (N := 15) rfl ?_); refine Kd.R_make (Kd.int .i64) _ 3 rfl (N := 15) rfl 24 _ _ rfl (t967.length : Int) rfl rfl Try.underlying24 (.int .i64 0) 8 info3 rfl (by decide) (by omega) 0 (ok := fun _ => True) (okp := fun _ => True) rfl (fun _ hk => hk) trivial (od) (Nat.le_trans (Nat.mul_le_mul_right _ (od : (t967.length : Int).toNat ≤ 35184372088832)) (by omega)) (Below.refl _ _) (Nat.le_refl _) ?_; intro v971 w13 ho14 hb hg_ hnew_; clear hg_ hnew_; (first | rw [← Ny970.out] at ho14 | (simp only [Int.reduceToNat] at ho14; rw [← Ny970.out] at ho14)); have HO972 := Aside0.mk (Kd.R_lower (Kd.R_new' ho14 (Kd.R_lt (rR HO969.out))) (below_size (bs1 HB.out GE965.out))); replace HO969 := Aside0.mk (Kd.R_elder' (rR HO969.out) (Kd.R_base ho14) hb); replace BK965 := bkb BK965 hb; replace HB := Aside0.mk (below_step (bs1 HB.out GE965.out) hb); clear hb ho14))
    go_loopg [18] k (fun kq v18 w' => ∃ (x5_1 : List Int) (x18_1 : Int), v18 = .int .i64 x18_1 ∧ Aside0 (spec_CycleOf.l0 kq t967 x5_1 t967 (t967.length : Int) x18_1 = some (r1, r2)) ∧ Aside0 (kq ≤ k) ∧ Aside0 (Kd.R (Kd.int .i64) 3 w' w.heap.size (fun k_ => some k_ ≠ (v971 : Value).ownBlock) (.slice Ao12 t967.length co12) t967) ∧ Aside0 (Kd.R (Kd.int .i64) 3 w' w.heap.size (fun k_ => some k_ ≠ ((.slice Ao12 t967.length co12) : Value).ownBlock ∧ some k_ ≠ ((.slice Ao12 t967.length co12) : Value).ownBlock) v971 x5_1) ∧ Aside0 (Kd.R (Kd.int .i64) 3 w' w.heap.size (fun k_ => some k_ ≠ (v971 : Value).ownBlock) (.slice Ao12 t967.length co12) t967) ∧ Aside0 (w'.heap[gb965]? = some (.cells #[(.slice A0_0 l0_0.length c0_0), (.slice A0_1 l0_1.length c0_1)] 39 (0, 0))) ∧ Aside0 (Below w.heap.size w w'))
    case atStart => exact ⟨(y970), (0), (sr2), H', ⟨Nat.le_refl _⟩, ⟨rR (Kd.R_mono HO969.out (fun _ hk => hk.2))⟩, ⟨rR (Kd.R_mono HO972.out (fun _ hk => ⟨hk.2, hk.2⟩))⟩, ⟨rR (Kd.R_mono HO969.out (fun _ hk => hk.2))⟩, ⟨by (with_reducible repeat (first | refine blk_drewN ?_ _ | refine blk_drew ?_ | refine blk_alloc ?_ _)); exact BK965.out⟩, ⟨bs1 HB.out GE965.out⟩⟩
    case round =>
     clear H'; obtain ⟨x5_1, x18_1, rfl, HA, HK1, HO_4, HO_5, HO_16, BK965, HB⟩ := hrel
     cases gk with
     | zero => exact absurd HA.out (by simp [spec_CycleOf.l0])
     | succ k1 =>
      have H := HA.out; clear HA; simp only [spec_CycleOf.l0] at H
      by_cases c15 : x18_1 < (t967.length : Int)
      ·rw [if_pos c15] at H; have c15b0 := decide_eq_true c15; clear c15
       by_cases c16 : 0 ≤ x18_1
       ·rw [if_pos c16] at H; have c16b0 := decide_eq_true c16; clear c16
        by_cases c17 : x18_1 < (t967.length : Int)
        ·rw [if_pos c17] at H; have c17b0 := decide_eq_true c17; clear c17
         by_cases c18 : (t967.length : Int) = 0
         ·rw [if_pos c18] at H; exact absurd H (by simp)
         rw [if_neg c18] at H; have c18b0 := beq_eq_false_iff_ne.mpr c18; have c18b1 := bne_iff_ne.mpr c18; have c18b2 : ¬ (t967 = []) := fun h_ => c18 (by rw [h_]; rfl); obtain ⟨ji19, hji19⟩ : ∃ j_ : Int, (Int.tmod (wrap64 (x18_1 + 1)) (t967.length : Int)) = j_ := ⟨_, rfl⟩; replace H : (if 0 ≤ (ji19) then (if (ji19) < (t967.length : Int) then (if 0 ≤ (rd t967 x18_1) then (if (rd t967 x18_1) < (x5_1.length : Int) then (spec_CycleOf.l0 k1 t967 (x5_1.set ((rd t967 x18_1) : Int).toNat (rd t967 (ji19))) t967 (t967.length : Int) (wrap64 (x18_1 + 1))) else (none)) else (none)) else (none)) else (none)) = some (r1, r2) := by first | (rw [hji19] at H; exact H) | (simp only [hji19] at H ⊢; exact H)
         by_cases c20 : 0 ≤ (ji19)
         ·rw [if_pos c20] at H; have c20b0 := decide_eq_true c20; clear c20
          by_cases c21 : (ji19) < (t967.length : Int)
          ·rw [if_pos c21] at H; have c21b0 := decide_eq_true c21; clear c21
           by_cases c22 : 0 ≤ (rd t967 x18_1)
           ·rw [if_pos c22] at H; have c22b0 := decide_eq_true c22; clear c22
            by_cases c23 : (rd t967 x18_1) < (x5_1.length : Int)
            ·rw [if_pos c23] at H; have c23b0 := decide_eq_true c23; clear c23; obtain ⟨y975, hy975⟩ := yy (x5_1.set ((rd t967 x18_1) : Int).toNat (rd t967 (ji19)))
             (try rw [Option.bind_some] at H); (try dsimp only at H); rw [← hy975] at H
             have Ny975 := Aside0.mk hy975; clear hy975; have H' := Aside0.mk H; clear H; obtain ⟨ad973, e973, hx973_0, p973, q973⟩ := atI (Kd.R_reads' HO_16.out).2.2 x18_1; cases e973; obtain ⟨ad974, e974, hx974_0, p974, q974⟩ := atI (Kd.R_reads' HO_4.out).2.2 (ji19); obtain rfl : ad973 = ad974 := (by injection e974); have p24 : 0 ≤ ((rd t967 x18_1) : Int) := od; have q24 : ((rd t967 x18_1) : Int) < ((x5_1.length : Int) : Int) := od; obtain ⟨go24, co24, eo24, gb24, gl24, cl24, HG24⟩ := Kd.R_form HO_5.out (by omega); (first | cases eo24 | (injection eo24 with ea_ en_ ec_; (first | subst ea_ | (injection ea_ with ea_; subst ea_)); subst ec_; clear en_)); have GB24 := Aside0.mk gb24; have GG24 := Aside0.mk HG24; clear gb24 gl24 HG24; obtain ⟨hx24_0, hf24_0⟩ := Kd.R_celln 0 HO_5.out ((rd t967 x18_1) : Int) p24 q24; replace p24 := eq_true p24; replace q24 := eq_true q24; have HP25 := Kd.R_putg HO_5.out ((rd t967 x18_1) : Int) (rd t967 (ji19)); go_wp2_with (first | ((with_reducible refine gate_store (t := 3) (p := 33) rfl ?_); refine store_event (t := 3) (p := 33) (v := ?vo_w26) (w1 := (wr.setCell ⟨go24, ((rd t967 x18_1) : Int).toNat, none⟩ (.int .i64 (rd t967 (ji19))))) ?hg ?ho ?hn ?hr ?_; (case ho => rfl); (case hg => rfl); (case hn => rfl); (case hr => first | (go_simp; done) | (go_simp; rfl)); intro w26 hw; have hg : wr.grownBy w26 (some go24) := (by rw [hw]; exact HP25.2); have hp_ : Kd.R (Kd.int .i64) 3 w26 w.heap.size (fun k_ => some k_ ≠ (.slice (some ad973) t967.length co12 : Value).ownBlock ∧ some k_ ≠ (.slice (some ad973) t967.length co12 : Value).ownBlock) (.slice (some ⟨go24, 0, none⟩) x5_1.length co24) y975 := (by rw [hw, Ny975.out]; exact HP25.1); clear HP25; replace HO_4 := Aside0.mk (Kd.R_after (v := (.slice (some ⟨go24, 0, none⟩) x5_1.length co24)) (v1 := (.slice (some ⟨go24, 0, none⟩) x5_1.length co24)) (ok := (fun _ => True)) (rR (Kd.R_mono HO_4.out (fun _ hk => ⟨trivial, hk⟩))) hg (.inl rfl)); replace HO_16 := Aside0.mk (Kd.R_after (v := (.slice (some ⟨go24, 0, none⟩) x5_1.length co24)) (v1 := (.slice (some ⟨go24, 0, none⟩) x5_1.length co24)) (ok := (fun _ => True)) (rR (Kd.R_mono HO_16.out (fun _ hk => ⟨trivial, hk⟩))) hg (.inl rfl)); replace BK965 := Aside0.mk (blk_grown (bk BK965.out) hg (Kd.R_ne HO_5.out BK965.out (by decide))); replace HO_5 := Aside0.mk (hp_); replace HB := Aside0.mk ((by rw [hw]; exact below_set (HB.out) GB24.out : Below w.heap.size w w26)); clear hg hw hp_))
             first | go_roundg k1 | (simp only [← hji19]; go_roundg k1)
             case measure => have := HK1.out; omega
             case rel => exact ⟨(y975), (wrap64 (x18_1 + 1)), (sr2), H', ⟨by have := HK1.out; omega⟩, ⟨rR (Kd.R_mono HO_4.out (fun _ hk => hk.2))⟩, ⟨rR HO_5.out⟩, ⟨rR (Kd.R_mono HO_16.out (fun _ hk => hk.2))⟩, ⟨by (with_reducible repeat (first | refine blk_drewN ?_ _ | refine blk_drew ?_ | refine blk_alloc ?_ _)); exact BK965.out⟩, ⟨bs1 HB.out GE965.out⟩⟩
            rw [if_neg c23] at H; exact absurd H (by simp)
           rw [if_neg c22] at H; exact absurd H (by simp)
          rw [if_neg c21] at H; exact absurd H (by simp)
         rw [if_neg c20] at H; exact absurd H (by simp)
        rw [if_neg c17] at H; exact absurd H (by simp)
       rw [if_neg c16] at H; exact absurd H (by simp)
      rw [if_neg c15] at H; have c15b0 := decide_eq_false c15; clear c15; simp only [Option.some.injEq, Prod.mk.injEq] at H; obtain ⟨rfl, rfl⟩ := H; go_wp2; go_ret2; exact ⟨_, sr, rR (Kd.R_mono HO_5.out (fun _ hk => trivial)), bs1 HB.out GE965.out⟩
   rw [if_neg c6] at H; exact absurd H (by simp)
  rw [if_neg c5] at H; exact absurd H (by simp)
 replace c3 := Bool.eq_false_iff.mpr c3; subst c3; rw [if_neg (show ¬ (false = true) by decide)] at H; simp only [Option.some.injEq, Prod.mk.injEq] at H; obtain ⟨rfl, rfl⟩ := H; go_enter Try.func38, Try.ntmps38; go_wp2_with (first | ((with_reducible refine gate_dst (N := 1) rfl ?_); refine box_event ?hg (N := 1) ?hd (cs := #[.slice A0_0 l0_0.length c0_0, .slice A0_1 l0_1.length c0_1]) (t := 39) ?hr ?_; (case hd => rfl); (case hg => rfl); (case hr => first | (go_simp; done) | (go_simp; rfl)); intro gb965 hg w27 hbox hb; have BK965 := Aside0.mk (hbox); have GW965 := Aside0.mk ((by rw [hg]; exact (below_size (bl HB.out)) : w.heap.size ≤ gb965)); have GE965 := Aside0.mk ((by rw [hg]; exact (below_size (bl HB.out)) : w.heap.size ≤ gb965)); replace HB := bst HB hb; clear hb hbox hg; have hcz28_0 : w27.cell? ⟨gb965, 0, none⟩ = some (.slice A0_0 l0_0.length c0_0) := (blk_cell BK965.out 0).trans rfl; have hcz28_1 : w27.cell? ⟨gb965, 1, none⟩ = some (.slice A0_1 l0_1.length c0_1) := (blk_cell BK965.out 1).trans rfl; have hfz28_0 := blk_frozen BK965.out 0; have hfz28_1 := blk_frozen BK965.out 1) | (go_at_call 72; (with_reducible refine (spec_peSingle.calls k _ _ l0_0 _ _ l0_1 false _ ?side1 ?side2 ?side3 HC0_1.out A2.out).mono ?_); (case side1 => exact cw (Kd.C_below HR0_0.out HB.out)); (case side2 => exact HC0_0.out); (case side3 => exact cw (Kd.C_below HR0_1.out HB.out)); rintro e w29 ⟨rfl, hb⟩; replace BK965 := bkb BK965 hb; replace HB := Aside0.mk (below_step (bs1 HB.out GE965.out) hb))); go_ret2; exact ⟨_, sr, by first | exact Kd.R_nil _ _ _ _ _ | exact Kd.N_nil _ _ _ _ _ | exact Kd.V_nil _ _ _ _ _ | exact Kd.Q_nil _ _ _ _ _ | exact Kd.S_nil _ _ _ _ _, bs1 HB.out GE965.out⟩
/-! ### impl_IsPermutation: function 42 -/
def impl_IsPermutation.f (k : Nat) (l0 : List Int) : Option (Bool × Bool) := (impl_isMeanderWord.f k l0).bind fun t990 => (some (t990, decide ((l0.length : Int) ≤ 12)))
theorem impl_IsPermutation.calls (k : Nat) (A0 : Option Addr) (c0 : Nat) (l0 : List Int) (r1 : Bool) (r2 : Bool) (w : World) (hr0 : Kd.C (Kd.int .i64) w A0 l0.length l0) (hc0 : l0.length ≤ c0) (h : impl_IsPermutation.f k l0 = some (r1, r2)) :
  Calls Try.prog 42 #[.slice A0 l0.length c0] w fun e w' => e = .returned (.tuple #[.bool r1, .bool r2]) ∧ Below w.heap.size w w' := by
 have HR0 := Aside0.mk hr0; have HC0 := Aside0.mk hc0; clear hr0 hc0; have HB := Aside0.mk (Below.refl w.heap.size w); have H : ((impl_isMeanderWord.f k l0).bind fun t990 => (some (t990, decide ((l0.length : Int) ≤ 12)))) = some (r1, r2) := h; clear h; obtain ⟨t990, A2, H⟩ := bi H; (try dsimp only at H); simp only [Option.some.injEq, Prod.mk.injEq] at H; obtain ⟨rfl, rfl⟩ := H; go_enter Try.func42, Try.ntmps42; go_wp2_with (first | (go_at_call 75; (with_reducible refine (impl_isMeanderWord.calls k _ _ l0 t990 _ ?side1 HC0.out A2.out).mono ?_); (case side1 => exact cw HR0.out); rintro e w3 ⟨rfl, hb⟩; replace HB := bst HB hb)); go_ret2; exact ⟨sr, bl HB.out⟩
/-! ### spec_IsPermutation: function 43 -/
def spec_IsPermutation.f (k : Nat) (l0 : List Int) : Option (Bool × Bool) := if (l0.length : Int) > 12 then (some (false, false)) else ((spec_peClosed.f k l0).bind fun t991 => (some (t991, true)))
theorem spec_IsPermutation.calls (k : Nat) (A0 : Option Addr) (c0 : Nat) (l0 : List Int) (r1 : Bool) (r2 : Bool) (w : World) (hr0 : Kd.C (Kd.int .i64) w A0 l0.length l0) (hc0 : l0.length ≤ c0) (h : spec_IsPermutation.f k l0 = some (r1, r2)) :
  Calls Try.prog 43 #[.slice A0 l0.length c0] w fun e w' => e = .returned (.tuple #[.bool r1, .bool r2]) ∧ Below w.heap.size w w' := by
 have HR0 := Aside0.mk hr0; have HC0 := Aside0.mk hc0; clear hr0 hc0; have HB := Aside0.mk (Below.refl w.heap.size w); have H : (if (l0.length : Int) > 12 then (some (false, false)) else ((spec_peClosed.f k l0).bind fun t991 => (some (t991, true)))) = some (r1, r2) := h; clear h
 by_cases c2 : (l0.length : Int) > 12
 ·rw [if_pos c2] at H; have c2b0 := decide_eq_true c2; have c2b1 : decide (12 < l0.length) = true := decide_eq_true (by omega); clear c2; simp only [Option.some.injEq, Prod.mk.injEq] at H; obtain ⟨rfl, rfl⟩ := H; go_enter Try.func43, Try.ntmps43; go_wp2; go_ret2; exact ⟨sr, bl HB.out⟩
 rw [if_neg c2] at H; have c2b0 := decide_eq_false c2; have c2b1 : decide (12 < l0.length) = false := decide_eq_false (by omega); clear c2; obtain ⟨t991, A3, H⟩ := bi H; (try dsimp only at H); simp only [Option.some.injEq, Prod.mk.injEq] at H; obtain ⟨rfl, rfl⟩ := H; go_enter Try.func43, Try.ntmps43; go_wp2_with (first | (go_at_call 66; (with_reducible refine (spec_peClosed.calls k _ _ l0 t991 _ ?side1 HC0.out A3.out).mono ?_); (case side1 => exact cw HR0.out); rintro e w4 ⟨rfl, hb⟩; replace HB := bst HB hb)); go_ret2; exact ⟨sr, bl HB.out⟩
/-! ### impl_PositionsOf: function 44 -/
def impl_PositionsOf.l0 : Nat → List Int → List Int → Int → Int → Option (List Int × Bool)
 | 0, _, _, _, _ => none
 | k + 1, x4, x12, x13, x14 => if x14 < x13 then (if 0 ≤ x14 then (if x14 < (x12.length : Int) then (if x4.length < 17592186044416 then (impl_PositionsOf.l0 k (x4 ++ [Int.tmod (rd x12 x14) 2]) x12 x13 (wrap64 (x14 + 1))) else (none)) else (none)) else (none)) else (some (x4, true))
def impl_PositionsOf.f (k : Nat) (l0 : List Int) : Option (List Int × Bool) := (impl_isMeanderWord.f k l0).bind fun t992 => (if t992 = true then ((impl_inverse.f k l0).bind fun t996 => (impl_PositionsOf.l0 k (([] : List Int)) t996 (t996.length : Int) 0)) else (some (([] : List Int), false)))
theorem impl_PositionsOf.calls (k : Nat) (A0 : Option Addr) (c0 : Nat) (l0 : List Int) (r1 : List Int) (r2 : Bool) (w : World) (hr0 : Kd.C (Kd.int .i64) w A0 l0.length l0) (hc0 : l0.length ≤ c0) (h : impl_PositionsOf.f k l0 = some (r1, r2)) :
  Calls Try.prog 44 #[.slice A0 l0.length c0] w fun e w' => ∃ v0_ : Value, e = .returned (.tuple #[v0_, .bool r2]) ∧ Kd.R (Kd.int .i64) 3 w' w.heap.size (fun _ => True) v0_ r1 ∧ Below w.heap.size w w' := by
 have HR0 := Aside0.mk hr0; have HC0 := Aside0.mk hc0; clear hr0 hc0; have HB := Aside0.mk (Below.refl w.heap.size w); have H : ((impl_isMeanderWord.f k l0).bind fun t992 => (if t992 = true then ((impl_inverse.f k l0).bind fun t996 => (impl_PositionsOf.l0 k (([] : List Int)) t996 (t996.length : Int) 0)) else (some (([] : List Int), false)))) = some (r1, r2) := h; clear h; obtain ⟨t992, A2, H⟩ := bi H; (try dsimp only at H)
 by_cases c3 : t992 = true
 ·subst c3; rw [if_pos rfl] at H; obtain ⟨y993, hy993⟩ := yy (([] : List Int))
  (try rw [Option.bind_some] at H); (try dsimp only at H); rw [← hy993] at H
  have Ny993 := Aside0.mk hy993; clear hy993; obtain ⟨t996, A4, H⟩ := bi H; (try dsimp only at H); have H' := Aside0.mk H; clear H; go_enter Try.func44, Try.ntmps44; go_wp2_with (first | (go_at_call 75; (with_reducible refine (impl_isMeanderWord.calls k _ _ l0 true _ ?side1 HC0.out A2.out).mono ?_); (case side1 => exact cw HR0.out); rintro e w5 ⟨rfl, hb⟩; replace HB := bst HB hb) | ((with_reducible refine gate_dst (N := 10) rfl ?_); refine Kd.R_lit (Kd.int .i64) _ 3 ?hg (N := 10) ?hd (xs := ([] : List Int)) (inner := []) (ok := fun _ => True) (okp := fun _ => True) ?hr ?hp (fun _ hk => hk) trivial (Below.refl _ _) (Nat.le_refl _) (by simp) ?_; (case hd => rfl); (case hg => rfl); (case hr => first | (go_simp; done) | (go_simp; rfl)); (case hp => exact (Reps.none _ _)); intro v994 w6 ho7 hb hg_ hnew_; clear hg_ hnew_; (first | rw [← Ny993.out] at ho7 | (simp only [Int.reduceToNat] at ho7; rw [← Ny993.out] at ho7)); have HO995 := Aside0.mk (Kd.R_lower ho7 (below_size (bl HB.out))); replace HB := bst HB hb; clear hb ho7) | (go_at_call 57; (with_reducible refine (impl_inverse.calls k _ _ l0 t996 _ ?side1 HC0.out A4.out).mono ?_); (case side1 => exact cw (Kd.C_below HR0.out HB.out)); rintro e w8 ⟨v997, rfl, ho0, hb⟩; have HO998 := Aside0.mk (Kd.R_lower (Kd.R_new' ho0 (Kd.R_lt (rR HO995.out))) (below_size (bl HB.out))); replace HO995 := Aside0.mk (Kd.R_elder' (rR HO995.out) (Kd.R_base ho0) hb); replace HB := bst HB hb; obtain ⟨Ao9, co9, eo9⟩ := Kd.R_slice HO998.out; subst eo9))
  go_loopg [4, 14] k (fun kq v4 v14 w' => ∃ (x4_1 : List Int) (x14_1 : Int), v14 = .int .i64 x14_1 ∧ Aside0 (impl_PositionsOf.l0 kq x4_1 t996 (t996.length : Int) x14_1 = some (r1, r2)) ∧ Aside0 (kq ≤ k) ∧ Aside0 (Kd.R (Kd.int .i64) 3 w' w.heap.size (fun k_ => some k_ ≠ ((.slice Ao9 t996.length co9) : Value).ownBlock) v4 x4_1) ∧ Aside0 (Kd.R (Kd.int .i64) 3 w' w.heap.size (fun k_ => some k_ ≠ (v4 : Value).ownBlock) (.slice Ao9 t996.length co9) t996) ∧ Aside0 (Below w.heap.size w w'))
  case atStart => exact ⟨(y993), (0), (sr2), H', ⟨Nat.le_refl _⟩, ⟨rR (Kd.R_mono HO995.out (fun _ hk => hk.2))⟩, ⟨rR (Kd.R_mono HO998.out (fun _ hk => hk.2))⟩, ⟨bl HB.out⟩⟩
  case round =>
   clear H'; obtain ⟨x4_1, x14_1, rfl, HA, HK1, HO_4, HO_12, HB⟩ := hrel
   cases gk with
   | zero => exact absurd HA.out (by simp [impl_PositionsOf.l0])
   | succ k1 =>
    have H := HA.out; clear HA; simp only [impl_PositionsOf.l0] at H
    by_cases c10 : x14_1 < (t996.length : Int)
    ·rw [if_pos c10] at H; have c10b0 := decide_eq_true c10; clear c10
     by_cases c11 : 0 ≤ x14_1
     ·rw [if_pos c11] at H; have c11b0 := decide_eq_true c11; clear c11
      by_cases c12 : x14_1 < (t996.length : Int)
      ·rw [if_pos c12] at H; have c12b0 := decide_eq_true c12; clear c12
       by_cases c13 : x4_1.length < 17592186044416
       ·rw [if_pos c13] at H; have LMc13 := Aside0.mk c13; clear c13; obtain ⟨y1000, hy1000⟩ := yy (x4_1 ++ [Int.tmod (rd t996 x14_1) 2])
        (try rw [Option.bind_some] at H); (try dsimp only at H); rw [← hy1000] at H
        have Ny1000 := Aside0.mk hy1000; clear hy1000; have H' := Aside0.mk H; clear H; obtain ⟨ad999, e999, hx999_0, p999, q999⟩ := atI (Kd.R_reads' HO_12.out).2.2 x14_1; cases e999; go_wp2_with (first | ((with_reducible refine gate_builtin (b := .append) (xs := #[.tmp 18, .tmp 21]) rfl ?_); at_builtin; refine Kd.R_append (Kd.int .i64) (w0 := w) w.heap.size rfl (.tmp 18) (.tmp 21) 24 3 (.int .i64 0) 8 rfl Try.underlying24 info3 rfl (by decide) (by omega) u4 x4_1 (Int.tmod (rd t996 x14_1) 2) [.int .i64 (Int.tmod (rd t996 x14_1) 2)] (fun k_ => some k_ ≠ (.slice (some ad999) t996.length co9 : Value).ownBlock) (fun _ => False) rfl rfl ?aP (fun _ hk => hk.elim) ?aF ?aO ?aB ?aS (by have := LMc13.out; omega) ?_; (case aP => exact rfl); (case aB => exact (bl HB.out)); (case aF => exact (fun k_ hk => Kd.fresh' (Kd.R_lt (rR HO_12.out)) k_ hk)); (case aO => exact (rR HO_4.out)); (case aS => exact (below_size (bl HB.out))); intro v1001 w14 ho hb hg hat; rw [← Ny1000.out] at ho; replace HO_12 := Aside0.mk (Kd.R_after (ok := (fun _ => True)) (rR (Kd.R_mono HO_12.out (fun _ hk => ⟨trivial, hk⟩))) hg hat); replace HB := Aside0.mk (hb); have HO1002 := Aside0.mk (ho); clear HO_4; clear ho hb hg hat))
        go_roundg k1
        case measure => have := HK1.out; omega
        case rel => exact ⟨(y1000), (wrap64 (x14_1 + 1)), (sr2), H', ⟨by have := HK1.out; omega⟩, ⟨rR HO1002.out⟩, ⟨rR (Kd.R_mono HO_12.out (fun _ hk => hk.2))⟩, ⟨bl HB.out⟩⟩
       rw [if_neg c13] at H; exact absurd H (by simp)
      rw [if_neg c12] at H; exact absurd H (by simp)
     rw [if_neg c11] at H; exact absurd H (by simp)
    rw [if_neg c10] at H; have c10b0 := decide_eq_false c10; clear c10; simp only [Option.some.injEq, Prod.mk.injEq] at H; obtain ⟨rfl, rfl⟩ := H; go_wp2; go_ret2; exact ⟨_, sr, rR (Kd.R_mono HO_4.out (fun _ hk => trivial)), bl HB.out⟩
 replace c3 := Bool.eq_false_iff.mpr c3; subst c3; rw [if_neg (show ¬ (false = true) by decide)] at H; simp only [Option.some.injEq, Prod.mk.injEq] at H; obtain ⟨rfl, rfl⟩ := H; go_enter Try.func44, Try.ntmps44; go_wp2_with (first | (go_at_call 75; (with_reducible refine (impl_isMeanderWord.calls k _ _ l0 false _ ?side1 HC0.out A2.out).mono ?_); (case side1 => exact cw HR0.out); rintro e w15 ⟨rfl, hb⟩; replace HB := bst HB hb)); go_ret2; exact ⟨_, sr, by first | exact Kd.R_nil _ _ _ _ _ | exact Kd.N_nil _ _ _ _ _ | exact Kd.V_nil _ _ _ _ _ | exact Kd.Q_nil _ _ _ _ _ | exact Kd.S_nil _ _ _ _ _, bl HB.out⟩
/-! ### spec_DrawPositionsOf: function 45 -/
def spec_DrawPositionsOf.f (k : Nat) (l0 : List Int) : Option (List Int) := (spec_DrawFromPermutation.f k l0).bind fun t1003 => (some t1003)
theorem spec_DrawPositionsOf.calls (k : Nat) (A0 : Option Addr) (c0 : Nat) (l0 : List Int) (r : List Int) (w : World) (hr0 : Kd.C (Kd.int .u8) w A0 l0.length l0) (hc0 : l0.length ≤ c0) (h : spec_DrawPositionsOf.f k l0 = some r) :
  Calls Try.prog 45 #[.slice A0 l0.length c0] w fun e w' => ∃ v0_ : Value, e = .returned (v0_) ∧ Kd.R (Kd.int .i64) 3 w' w.heap.size (fun _ => True) v0_ r ∧ Below w.heap.size w w' := by
 have HR0 := Aside0.mk hr0; have HC0 := Aside0.mk hc0; clear hr0 hc0; have HB := Aside0.mk (Below.refl w.heap.size w); have H : ((spec_DrawFromPermutation.f k l0).bind fun t1003 => (some t1003)) = some r := h; clear h; obtain ⟨t1003, A2, H⟩ := bi H; (try dsimp only at H); obtain rfl := Option.some.inj H; go_enter Try.func45, Try.ntmps45; go_wp2_with (first | (go_at_call 39; (with_reducible refine (spec_DrawFromPermutation.calls k _ _ l0 t1003 _ ?side1 HC0.out A2.out).mono ?_); (case side1 => exact cw HR0.out); rintro e w3 ⟨v1004, rfl, ho0, hb⟩; have HO1005 := Aside0.mk (Kd.R_lower ho0 (below_size (bl HB.out))); replace HB := bst HB hb)); go_ret; exact ⟨_, sr, rR HO1005.out, bl HB.out⟩
/-! ### spec_PositionsOf: function 46 -/
def spec_PositionsOf.l0 : Nat → List Int → List Int → Int → Int → Option (List Int × Bool)
 | 0, _, _, _, _ => none
 | k + 1, x4, x13, x14, x15 => if x15 < x14 then (if 0 ≤ x15 then (if x15 < (x13.length : Int) then (if 0 ≤ (rd x13 x15) then (if (rd x13 x15) < (x4.length : Int) then (spec_PositionsOf.l0 k (x4.set ((rd x13 x15) : Int).toNat (Int.tmod x15 2)) x13 x14 (wrap64 (x15 + 1))) else (none)) else (none)) else (none)) else (none)) else (some (x4, true))
def spec_PositionsOf.f (k : Nat) (l0 : List Int) : Option (List Int × Bool) := (spec_peClosed.f k l0).bind fun t1006 => (if t1006 = true then (if 0 ≤ (l0.length : Int) then (if ((l0.length : Int) : Int).toNat ≤ 35184372088832 then (spec_PositionsOf.l0 k (List.replicate ((l0.length : Int) : Int).toNat 0) l0 (l0.length : Int) 0) else (none)) else (none)) else (some (([] : List Int), false)))
theorem spec_PositionsOf.calls (k : Nat) (A0 : Option Addr) (c0 : Nat) (l0 : List Int) (r1 : List Int) (r2 : Bool) (w : World) (hr0 : Kd.C (Kd.int .i64) w A0 l0.length l0) (hc0 : l0.length ≤ c0) (h : spec_PositionsOf.f k l0 = some (r1, r2)) :
  Calls Try.prog 46 #[.slice A0 l0.length c0] w fun e w' => ∃ v0_ : Value, e = .returned (.tuple #[v0_, .bool r2]) ∧ Kd.R (Kd.int .i64) 3 w' w.heap.size (fun _ => True) v0_ r1 ∧ Below w.heap.size w w' := by
 have HR0 := Aside0.mk hr0
 have HC0 := Aside0.mk hc0
 clear hr0 hc0
 have HB := Aside0.mk (Below.refl w.heap.size w)
 have H : ((spec_peClosed.f k l0).bind fun t1006 => (if t1006 = true then (if 0 ≤ (l0.length : Int) then (if ((l0.length : Int) : Int).toNat ≤ 35184372088832 then (spec_PositionsOf.l0 k (List.replicate ((l0.length : Int) : Int).toNat 0) l0 (l0.length : Int) 0) else (none)) else (none)) else (some (([] : List Int), false)))) = some (r1, r2) := h
 clear h
 replace H := Option.bind_eq_some_iff.mp H
 obtain ⟨t1006, A20, H⟩ := H
 try dsimp only at H
 have A2 := Aside0.mk A20
 clear A20
 by_cases c3 : t1006 = true
 ·subst c3
  rw [if_pos rfl] at H
  by_cases c4 : 0 ≤ (l0.length : Int)
  ·rw [if_pos c4] at H
   have c4b0 := eq_true c4
   have c4b1 : decide (0 ≤ (l0.length : Int)) = true := decide_eq_true c4
   clear c4
   by_cases c5 : ((l0.length : Int) : Int).toNat ≤ 35184372088832
   ·rw [if_pos c5] at H
    have c5b0 := eq_true c5
    have c5b1 : decide (((l0.length : Int) : Int).toNat ≤ 35184372088832) = true := decide_eq_true c5
    clear c5
    obtain ⟨y1007, hy1007⟩ : ∃ y_ : List Int, y_ = (List.replicate ((l0.length : Int) : Int).toNat 0) := ⟨_, rfl⟩
    (try rw [Option.bind_some] at H); (try dsimp only at H); rw [← hy1007] at H
    have Ny1007 := Aside0.mk hy1007
    clear hy1007
    have H' := Aside0.mk H
    clear H
    go_enter Try.func46, Try.ntmps46
    go_wp2_with (first | (go_at_call 66; (with_reducible refine (spec_peClosed.calls k _ _ l0 true _ ?side1 HC0.out A2.out).mono ?_); (case side1 => exact cw HR0.out); rintro e w6 ⟨rfl, hb⟩; replace HB := Aside0.mk (below_step (bl HB.out) hb)) | ((with_reducible refine gate_dst (N := 12) rfl ?_); refine Kd.R_make (Kd.int .i64) _ 3 rfl (N := 12) rfl 24 _ _ rfl (l0.length : Int) rfl rfl Try.underlying24 (.int .i64 0) 8 info3 rfl (by decide) (by omega) 0 (ok := fun _ => True) (okp := fun _ => True) rfl (fun _ hk => hk) trivial (of_decide_eq_true (by first | (with_reducible assumption) | assumption)) (Nat.le_trans (Nat.mul_le_mul_right _ (of_decide_eq_true (by first | (with_reducible assumption) | assumption) : (l0.length : Int).toNat ≤ 35184372088832)) (by omega)) (Below.refl _ _) (Nat.le_refl _) ?_; intro v1008 w7 ho8 hb hg_ hnew_; clear hg_ hnew_; (first | rw [← Ny1007.out] at ho8 | (simp only [Int.reduceToNat] at ho8; rw [← Ny1007.out] at ho8)); have HO1009 := Aside0.mk (Kd.R_lower ho8 (below_size (bl HB.out))); replace HB := Aside0.mk (below_step (bl HB.out) hb); clear hb ho8))
    go_loopg [15] k (fun kq v15 w' => ∃ (x4_1 : List Int) (x15_1 : Int), v15 = .int .i64 x15_1 ∧ Aside0 (spec_PositionsOf.l0 kq x4_1 l0 (l0.length : Int) x15_1 = some (r1, r2)) ∧ Aside0 (kq ≤ k) ∧ Aside0 (Kd.R (Kd.int .i64) 3 w' w.heap.size (fun _ => True) v1008 x4_1) ∧ Aside0 (Below w.heap.size w w'))
    case atStart => exact ⟨(y1007), (0), (by first | rfl | (simp; done) | (simp [*]; done)), H', ⟨Nat.le_refl _⟩, ⟨rR HO1009.out⟩, ⟨bl HB.out⟩⟩
    case round =>
     clear H'
     obtain ⟨x4_1, x15_1, rfl, HA, HK1, HO_4, HB⟩ := hrel
     cases gk with
     | zero => exact absurd HA.out (by simp [spec_PositionsOf.l0])
     | succ k1 =>
      have H := HA.out
      clear HA
      simp only [spec_PositionsOf.l0] at H
      by_cases c9 : x15_1 < (l0.length : Int)
      ·rw [if_pos c9] at H
       have c9b0 : decide (x15_1 < (l0.length : Int)) = true := decide_eq_true c9
       clear c9
       by_cases c10 : 0 ≤ x15_1
       ·rw [if_pos c10] at H
        have c10b0 : decide (0 ≤ x15_1) = true := decide_eq_true c10
        clear c10
        by_cases c11 : x15_1 < (l0.length : Int)
        ·rw [if_pos c11] at H
         have c11b0 : decide (x15_1 < (l0.length : Int)) = true := decide_eq_true c11
         clear c11
         by_cases c12 : 0 ≤ (rd l0 x15_1)
         ·rw [if_pos c12] at H
          have c12b0 : decide (0 ≤ (rd l0 x15_1)) = true := decide_eq_true c12
          clear c12
          by_cases c13 : (rd l0 x15_1) < (x4_1.length : Int)
          ·rw [if_pos c13] at H
           have c13b0 : decide ((rd l0 x15_1) < (x4_1.length : Int)) = true := decide_eq_true c13
           clear c13
           obtain ⟨y1011, hy1011⟩ : ∃ y_ : List Int, y_ = (x4_1.set ((rd l0 x15_1) : Int).toNat (Int.tmod x15_1 2)) := ⟨_, rfl⟩
           (try rw [Option.bind_some] at H); (try dsimp only at H); rw [← hy1011] at H
           have Ny1011 := Aside0.mk hy1011
           clear hy1011
           have H' := Aside0.mk H
           clear H
           have p1010 : 0 ≤ (x15_1 : Int) := of_decide_eq_true (by first | (with_reducible assumption) | assumption)
           have q1010 : x15_1 < (l0.length : Int) := of_decide_eq_true (by first | (with_reducible assumption) | assumption)
           obtain ⟨ad1010, e1010, hx1010_0⟩ := Kd.at_int HR0.out x15_1 p1010 q1010
           cases e1010
           replace hx1010_0 := (HB.out.cell (World.block_lt_of_cell? w _ hx1010_0)).trans hx1010_0
           replace p1010 := eq_true p1010
           replace q1010 := eq_true q1010
           have p14 : 0 ≤ ((rd l0 x15_1) : Int) := of_decide_eq_true (by first | (with_reducible assumption) | assumption)
           have q14 : ((rd l0 x15_1) : Int) < ((x4_1.length : Int) : Int) := of_decide_eq_true (by first | (with_reducible assumption) | assumption)
           obtain ⟨go14, co14, eo14, gb14, gl14, cl14, HG14⟩ := Kd.R_form HO_4.out (by omega)
           (first | cases eo14 | (injection eo14 with ea_ en_ ec_; (first | subst ea_ | (injection ea_ with ea_; subst ea_)); subst ec_; clear en_))
           have GB14 := Aside0.mk gb14
           have GG14 := Aside0.mk HG14
           clear gb14 gl14 HG14
           obtain ⟨hx14_0, hf14_0⟩ := Kd.R_celln 0 HO_4.out ((rd l0 x15_1) : Int) p14 q14
           replace p14 := eq_true p14
           replace q14 := eq_true q14
           have HP15 := Kd.R_putg HO_4.out ((rd l0 x15_1) : Int) (Int.tmod x15_1 2)
           go_wp2_with (first | ((with_reducible refine gate_store (t := 3) (p := 24) rfl ?_); refine store_event (t := 3) (p := 24) (v := ?vo_w16) (w1 := (wr.setCell ⟨go14, ((rd l0 x15_1) : Int).toNat, none⟩ (.int .i64 (Int.tmod x15_1 2)))) ?hg ?ho ?hn ?hr ?_; (case ho => rfl); (case hg => rfl); (case hn => rfl); (case hr => first | (go_simp; done) | (go_simp; rfl)); intro w16 hw; have hg : wr.grownBy w16 (some go14) := (by rw [hw]; exact HP15.2); have hp_ : Kd.R (Kd.int .i64) 3 w16 w.heap.size (fun _ => True) (.slice (some ⟨go14, 0, none⟩) x4_1.length co14) y1011 := (by rw [hw, Ny1011.out]; exact HP15.1); clear HP15; replace HO_4 := Aside0.mk (hp_); replace HB := Aside0.mk ((by rw [hw]; exact below_set (HB.out) GB14.out : Below w.heap.size w w16)); clear hg hw hp_))
           go_roundg k1
           case measure => have := HK1.out; omega
           case rel => exact ⟨(y1011), (wrap64 (x15_1 + 1)), (by first | rfl | (simp; done) | (simp [*]; done)), H', ⟨by have := HK1.out; omega⟩, ⟨rR HO_4.out⟩, ⟨bl HB.out⟩⟩
          ·rw [if_neg c13] at H
           exact absurd H (by simp)
         ·rw [if_neg c12] at H
          exact absurd H (by simp)
        ·rw [if_neg c11] at H
         exact absurd H (by simp)
       ·rw [if_neg c10] at H
        exact absurd H (by simp)
      ·rw [if_neg c9] at H
       have c9b0 : decide (x15_1 < (l0.length : Int)) = false := decide_eq_false c9
       clear c9
       simp only [Option.some.injEq, Prod.mk.injEq] at H
       obtain ⟨rfl, rfl⟩ := H
       go_wp2
       go_ret2
       exact ⟨_, by first | rfl | (simp [errW_none, errW_some] <;> rfl) | (simp [*, errW_none, errW_some] <;> rfl), by (with_reducible repeat (first | apply Kd.R_alloc | apply Kd.R_drewN | apply Kd.R_drew)); exact HO_4.out, bl HB.out⟩
   ·rw [if_neg c5] at H
    exact absurd H (by simp)
  ·rw [if_neg c4] at H
   exact absurd H (by simp)
 ·replace c3 := Bool.eq_false_iff.mpr c3
  subst c3
  rw [if_neg (show ¬ (false = true) by decide)] at H
  simp only [Option.some.injEq, Prod.mk.injEq] at H
  obtain ⟨rfl, rfl⟩ := H
  go_enter Try.func46, Try.ntmps46
  go_wp2_with (first | (go_at_call 66; (with_reducible refine (spec_peClosed.calls k _ _ l0 false _ ?side1 HC0.out A2.out).mono ?_); (case side1 => exact cw HR0.out); rintro e w17 ⟨rfl, hb⟩; replace HB := Aside0.mk (below_step (bl HB.out) hb)))
  go_ret2
  exact ⟨_, by first | rfl | (simp [errW_none, errW_some] <;> rfl) | (simp [*, errW_none, errW_some] <;> rfl), by first | exact Kd.R_nil _ _ _ _ _ | exact Kd.N_nil _ _ _ _ _ | exact Kd.V_nil _ _ _ _ _ | exact Kd.Q_nil _ _ _ _ _ | exact Kd.S_nil _ _ _ _ _, bl HB.out⟩

-- NOT PRINTED: function 5 (laws_FnWordsOfMeanders)
end Go.Proofs.Ytldbkkfkgfacdaa.P
