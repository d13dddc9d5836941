-- printed by wip/drv/xprint.py (our driver), shortened by wip/drv/squeeze.py: those functions that the claim reaches; Lean checks it
import Derived.Test.YtbphdjnainlbhaaQB1
namespace Go.Proofs.Ytbphdjnainlbhaa.R
open Go.Proofs.Ytbphdjnainlbhaa.Short Go.RowKit Go.Proofs.YtbphdjnainlbhaaW.PrintWords Go.Proofs.YtbphdjnainlbhaaW.PrintLast Go.Proofs.YtbphdjnainlbhaaW.PrintMore
attribute [local go_sem] max2_int min2_int max_two min_two max_three min_three max_four min_four   -- for this text's walks alone
set_option linter.unusedVariables false
set_option linter.unusedSimpArgs false



set_option maxHeartbeats 8000000
set_option maxRecDepth 100000
/-! ### impl_pairs: function 81 -/
mutual
def impl_pairs.l0 : Nat → Int → List (S71) → List (List Int) → Int → Int → Option ((List (S71)))
 | 0, _, _, _, _, _ => none
 | k + 1, x0, x3, x10, x11, x12 => if x12 < x11 then (if 0 ≤ x12 then (if x12 < (x10.length : Int) then ((impl_systems.f k x0).bind fun t641 => (impl_pairs.l1 k x0 x3 (rd_L1 x10 x12) x10 x11 x12 t641 (t641.length : Int) 0)) else (none)) else (none)) else (some x3)
def impl_pairs.l1 : Nat → Int → List (S71) → List Int → List (List Int) → Int → Int → List (List Int) → Int → Int → Option ((List (S71)))
 | 0, _, _, _, _, _, _, _, _, _ => none
 | k + 1, x0, x3, x5, x10, x11, x12, x17, x18, x19 => if x19 < x18 then (if 0 ≤ x19 then (if x19 < (x17.length : Int) then ((slices_Clone_int_int.f x5).bind fun t645 => (if x3.length < 2932031007402 then (impl_pairs.l1 k x0 (x3 ++ [(⟨t645, rd_L1 x17 x19⟩ : S71)]) x5 x10 x11 x12 x17 x18 (wrap64 (x19 + 1))) else (none))) else (none)) else (none)) else (impl_pairs.l0 k x0 x3 x10 x11 (wrap64 (x12 + 1)))
end
def impl_pairs.f (k : Nat) (a0 : Int) : Option ((List (S71))) := (impl_systems.f k a0).bind fun t637 => (impl_pairs.l0 k a0 (([] : List (S71))) t637 (t637.length : Int) 0)
theorem impl_pairs.mono_l : ∀ k, (∀ y0 y1 y2 y3 y4, LeO (impl_pairs.l0 k y0 y1 y2 y3 y4) (impl_pairs.l0 (k + 1) y0 y1 y2 y3 y4)) ∧ (∀ y0 y1 y2 y3 y4 y5 y6 y7 y8, LeO (impl_pairs.l1 k y0 y1 y2 y3 y4 y5 y6 y7 y8) (impl_pairs.l1 (k + 1) y0 y1 y2 y3 y4 y5 y6 y7 y8))
 | 0 => ⟨fun _ _ _ _ _ r h => by simp [impl_pairs.l0] at h, fun _ _ _ _ _ _ _ _ _ r h => by simp [impl_pairs.l1] at h⟩
 | k + 1 => by
  obtain ⟨ih0, ih1⟩ := impl_pairs.mono_l k
  refine ⟨?_, ?_⟩
  ·intro y0 y1 y2 y3 y4
   unfold impl_pairs.l0
   repeat' first
   | (with_reducible exact ih0 _ _ _ _ _)
   | (with_reducible exact ih1 _ _ _ _ _ _ _ _ _)
   | (with_reducible exact impl_systems.mono _ _)
   | (with_reducible exact LeO.refl _)
   | (with_reducible exact LeO.none _)
   | (with_reducible refine LeO.ite ?_ ?_)
   | (with_reducible refine LeO.bind ?_ (fun _ => ?_))
   | exact ih0 _ _ _ _ _
   | exact ih1 _ _ _ _ _ _ _ _ _
   | exact impl_systems.mono _ _
   | exact LeO.none _
   | refine LeO.ite ?_ ?_
   | refine LeO.bind ?_ (fun _ => ?_)
  ·intro y0 y1 y2 y3 y4 y5 y6 y7 y8
   unfold impl_pairs.l1
   repeat' first
   | (with_reducible exact ih0 _ _ _ _ _)
   | (with_reducible exact ih1 _ _ _ _ _ _ _ _ _)
   | (with_reducible exact impl_systems.mono _ _)
   | (with_reducible exact LeO.refl _)
   | (with_reducible exact LeO.none _)
   | (with_reducible refine LeO.ite ?_ ?_)
   | (with_reducible refine LeO.bind ?_ (fun _ => ?_))
   | exact ih0 _ _ _ _ _
   | exact ih1 _ _ _ _ _ _ _ _ _
   | exact impl_systems.mono _ _
   | exact LeO.none _
   | refine LeO.ite ?_ ?_
   | refine LeO.bind ?_ (fun _ => ?_)
theorem impl_pairs.mono : ∀ a0 k, LeO (impl_pairs.f k a0) (impl_pairs.f (k + 1) a0) := by
 intro a0 k; obtain ⟨ih0, ih1⟩ := impl_pairs.mono_l k; unfold impl_pairs.f
 repeat' first
   | (with_reducible exact ih0 _ _ _ _ _)
   | (with_reducible exact ih1 _ _ _ _ _ _ _ _ _)
   | (with_reducible exact impl_systems.mono _ _)
   | (with_reducible exact LeO.refl _)
   | (with_reducible exact LeO.none _)
   | (with_reducible refine LeO.ite ?_ ?_)
   | (with_reducible refine LeO.bind ?_ (fun _ => ?_))
   | exact ih0 _ _ _ _ _
   | exact ih1 _ _ _ _ _ _ _ _ _
   | exact impl_systems.mono _ _
   | exact LeO.none _
   | refine LeO.ite ?_ ?_
   | refine LeO.bind ?_ (fun _ => ?_)
theorem impl_pairs.calls (k : Nat) (a0 : Int) (r : List (S71)) (w : World) (h : impl_pairs.f k a0 = some r) :
  Calls Try.prog 81 #[.int .i64 a0] w fun e w' => ∃ v0_ : Value, e = .returned (v0_) ∧ Kd.N k71 71 w' w.heap.size (fun k_ => (w.heap.size ≤ k_)) v0_ r ∧ Below w.heap.size w w' := by
 have hu71 := Try.underlying71; have HB := Aside0.mk (Below.refl w.heap.size w); have H : ((impl_systems.f k a0).bind fun t637 => (impl_pairs.l0 k a0 (([] : List (S71))) t637 (t637.length : Int) 0)) = some r := h; clear h; obtain ⟨y634, hy634⟩ : ∃ y_ : List (S71), y_ = (([] : List (S71))) := ⟨_, rfl⟩
 (try rw [Option.bind_some] at H); (try dsimp only at H); rw [← hy634] at H
 have Ny634 := Aside0.mk hy634; clear hy634; obtain ⟨t637, A2, H⟩ := bi H; (try dsimp only at H); have H' := Aside0.mk H; clear H; go_enter Try.func81, Try.ntmps81; go_wp2_with (first | ((with_reducible refine gate_dst (N := 8) rfl ?_); refine Kd.N_lit k71 _ 71 ?hg (N' := 8) ?hd (xs := ([] : List (S71))) (inner := []) (ok := (fun k_ => (w.heap.size ≤ k_))) (okp := (fun k_ => (w.heap.size ≤ k_))) ?hr ?hp (fun _ hk => hk) ((show ∀ k_, w.heap.size ≤ k_ → (fun k_ => (w.heap.size ≤ k_)) k_ from fun k_ hk => (Nat.le_trans (below_size (bl HB.out)) hk)) _ (Nat.le_refl _)) (Below.refl _ _) (Nat.le_refl _) (by simp) ?_; (case hd => rfl); (case hg => rfl); (case hr => first | (go_simp; done) | (go_simp; rfl)); (case hp => exact (Reps.none _ _)); intro v635 w3 ho4 hb hg_ hnew_; clear hg_ hnew_; (first | rw [← Ny634.out] at ho4 | (simp only [Int.reduceToNat] at ho4; rw [← Ny634.out] at ho4)); have HO636 := Aside0.mk (Kd.N_lower ho4 (below_size (bl HB.out))); replace HB := bst HB hb; clear hb ho4) | (go_at_call 90; (with_reducible refine (impl_systems.calls k a0 t637 _ A2.out).mono ?_); rintro e w5 ⟨v638, rfl, ho0, hb⟩; have HO639 := Aside0.mk (Kd.N_lower (Kd.N_mono (ok' := fun k_ => (w.heap.size ≤ k_) ∧ some k_ ≠ (v635 : Value).ownBlock) (Kd.S_N (Kd.S_bound ho0)) (fun k_ hk_ => ⟨(Nat.le_trans (below_size (bl HB.out)) hk_.2.1), (Kd.fresh' (Kd.N_lt (rN HO636.out)) k_ hk_.2.1)⟩)) (below_size (bl HB.out))); replace HO636 := Aside0.mk (Kd.N_elder' (rN HO636.out) (Kd.S_base ho0) hb); replace HB := bst HB hb; obtain ⟨Ao6, co6, eo6⟩ := Kd.N_slice HO639.out; subst eo6))
 go_loopg [3, 12] k (fun kq v3 v12 w' => ∃ (x3_1 : List (S71)) (x12_1 : Int), v12 = .int .i64 x12_1 ∧ Aside0 (impl_pairs.l0 kq a0 x3_1 t637 (t637.length : Int) x12_1 = some r) ∧ Aside0 (kq ≤ k) ∧ Aside0 (Kd.N k71 71 w' w.heap.size (fun k_ => (w.heap.size ≤ k_) ∧ some k_ ≠ ((.slice Ao6 t637.length co6) : Value).ownBlock) v3 x3_1) ∧ Aside0 (Kd.N (Kd.slice 3 (Kd.int .i64)) 35 w' w.heap.size (fun k_ => (w.heap.size ≤ k_) ∧ some k_ ≠ (v3 : Value).ownBlock) (.slice Ao6 t637.length co6) t637) ∧ Aside0 (Below w.heap.size w w'))
 case atStart => exact ⟨(y634), (0), (sr2), H', ⟨Nat.le_refl _⟩, ⟨rN HO636.out⟩, ⟨rN HO639.out⟩, ⟨bl HB.out⟩⟩
 case round =>
  clear H'; obtain ⟨x3_1, x12_1, rfl, HA, HK1, HO_3, HO_10, HB⟩ := hrel
  cases gk with
  | zero => exact absurd HA.out (by simp [impl_pairs.l0])
  | succ k1 =>
   have H := HA.out; clear HA; simp only [impl_pairs.l0] at H
   by_cases c7 : x12_1 < (t637.length : Int)
   ·rw [if_pos c7] at H; have c7b0 := decide_eq_true c7; clear c7
    by_cases c8 : 0 ≤ x12_1
    ·rw [if_pos c8] at H; have c8b0 := decide_eq_true c8; clear c8
     by_cases c9 : x12_1 < (t637.length : Int)
     ·rw [if_pos c9] at H; have c9b0 := decide_eq_true c9; clear c9; obtain ⟨t641, A10, H⟩ := bi H; (try dsimp only at H); have H' := Aside0.mk H; clear H; have p640 : 0 ≤ (x12_1 : Int) := od; have q640 : x12_1 < (t637.length : Int) := od; obtain ⟨ad640, A640_0, c640_0, e640, hx640_0, hl640_0, hi640_0⟩ := at_L1 (Kd.N_reads' HO_10.out).2.2 x12_1 p640 q640; cases e640; obtain ⟨ce640, hce640, hMe640, hcc640⟩ := Kd.N_get HO_10.out [] x12_1 p640 (by first | exact q640 | exact od | (have e_ := (Kd.N_reads' HO_10.out).1; omega)); obtain ⟨ua640_0, uc640_0, rfl, ul640_0, ge640_0⟩ := Kd.FK_slice_open hMe640; have hv640_0 := hcc640 0 _ rfl; rw [Nat.add_zero, show ((Kd.slice 3 (Kd.int .i64))).sz = 1 from rfl, Nat.mul_one] at hv640_0; replace hv640_0 := Option.some.inj (hv640_0.symm.trans hx640_0); (injection hv640_0 with hva_ hvn_ hvc_); rw [hva_] at ge640_0; rw [hvc_] at ul640_0; have HL640_0 := Aside0.mk (show Kd.V (Kd.int .i64) 3 _ w.heap.size _ _ (rd_L1 t637 x12_1) from Kd.V_mk ul640_0 ge640_0); clear hva_ hvn_ hvc_ ge640_0 ul640_0; clear hcc640 hce640; have HR640_0 := Aside0.mk hi640_0; have HC640_0 := Aside0.mk hl640_0; clear hi640_0 hl640_0; replace p640 := eq_true p640; replace q640 := eq_true q640; go_wp2_with (first | (go_at_call 90; (with_reducible refine (impl_systems.calls k1 a0 t641 _ A10.out).mono ?_); rintro e w11 ⟨v642, rfl, ho0, hb⟩; replace HL640_0 := Aside0.mk (Kd.V_elder' (rV HL640_0.out) (Kd.S_base ho0) hb); have HO643 := Aside0.mk (Kd.N_lower (Kd.N_mono (ok' := fun k_ => (w.heap.size ≤ k_) ∧ some k_ ≠ (u3 : Value).ownBlock ∧ some k_ ≠ (.slice (some ad640) t637.length co6 : Value).ownBlock) (Kd.S_N (Kd.S_bound ho0)) (fun k_ hk_ => ⟨(Nat.le_trans (below_size (bl HB.out)) hk_.2.1), (Kd.fresh' (Kd.N_lt (rN HO_3.out)) k_ hk_.2.1), (Kd.fresh' (Kd.N_lt (rN HO_10.out)) k_ hk_.2.1)⟩)) (below_size (bl HB.out))); replace HO_3 := Aside0.mk (Kd.N_elder' (rN HO_3.out) (Kd.S_base ho0) hb); replace HO_10 := Aside0.mk (Kd.N_elder' (rN HO_10.out) (Kd.S_base ho0) hb); replace HR640_0 := Aside0.mk (Kd.C_below (by repeat (first | (with_reducible exact HR640_0.out) | (with_reducible refine Kd.C_alloc ?_ _) | (with_reducible refine Kd.C_drewN ?_ _) | (with_reducible refine Kd.C_drew ?_) | exact HR640_0.out)) hb); replace HB := bst HB hb; obtain ⟨Ao12, co12, eo12⟩ := Kd.N_slice HO643.out; subst eo12))
      go_loopg [3, 19] k1 (fun kq v3 v19 w' => ∃ (x3_2 : List (S71)) (x19_2 : Int), v19 = .int .i64 x19_2 ∧ Aside0 (impl_pairs.l1 kq a0 x3_2 (rd_L1 t637 x12_1) t637 (t637.length : Int) x12_1 t641 (t641.length : Int) x19_2 = some r) ∧ Aside0 (kq ≤ k1) ∧ Aside0 (Kd.N k71 71 w' w.heap.size (fun k_ => (w.heap.size ≤ k_) ∧ some k_ ≠ ((.slice (some ad640) t637.length co6) : Value).ownBlock ∧ some k_ ≠ ((.slice Ao12 t641.length co12) : Value).ownBlock) v3 x3_2) ∧ Aside0 (Kd.N (Kd.slice 3 (Kd.int .i64)) 35 w' w.heap.size (fun k_ => (w.heap.size ≤ k_) ∧ some k_ ≠ (v3 : Value).ownBlock ∧ some k_ ≠ ((.slice Ao12 t641.length co12) : Value).ownBlock) (.slice (some ad640) t637.length co6) t637) ∧ Aside0 (Kd.N (Kd.slice 3 (Kd.int .i64)) 35 w' w.heap.size (fun k_ => (w.heap.size ≤ k_) ∧ some k_ ≠ (v3 : Value).ownBlock ∧ some k_ ≠ ((.slice (some ad640) t637.length co6) : Value).ownBlock) (.slice Ao12 t641.length co12) t641) ∧ Aside0 (Below w.heap.size w w') ∧ Aside0 (Kd.V (Kd.int .i64) 3 w' w.heap.size (fun k_ => (w.heap.size ≤ k_) ∧ some k_ ≠ (v3 : Value).ownBlock) (.slice A640_0 (rd_L1 t637 x12_1).length c640_0) (rd_L1 t637 x12_1)))
      case atStart => exact ⟨(x3_1), (0), (sr2), H', ⟨Nat.le_refl _⟩, ⟨rN (Kd.N_mono HO_3.out (fun _ hk => ⟨hk.1.1, ⟨hk.1.2, hk.2⟩⟩))⟩, ⟨rN (Kd.N_mono HO_10.out (fun _ hk => ⟨hk.1.1, ⟨hk.1.2, hk.2⟩⟩))⟩, ⟨rN HO643.out⟩, ⟨bl HB.out⟩, ⟨Kd.V_mono HL640_0.out (fun _ hk => hk.1.1)⟩⟩
      case round =>
       clear H'; obtain ⟨x3_2, x19_2, rfl, HA, HK2, HO_3, HO_10, HO_17, HB, HLP⟩ := hrel
       cases gk with
       | zero => exact absurd HA.out (by simp [impl_pairs.l1])
       | succ k2 =>
        have H := HA.out; clear HA; simp only [impl_pairs.l1] at H
        by_cases c13 : x19_2 < (t641.length : Int)
        ·rw [if_pos c13] at H; have c13b0 := decide_eq_true c13; clear c13
         by_cases c14 : 0 ≤ x19_2
         ·rw [if_pos c14] at H; have c14b0 := decide_eq_true c14; clear c14
          by_cases c15 : x19_2 < (t641.length : Int)
          ·rw [if_pos c15] at H; have c15b0 := decide_eq_true c15; clear c15; obtain ⟨t645, A16, H⟩ := bi H; (try dsimp only at H)
           by_cases c17 : x3_2.length < 2932031007402
           ·rw [if_pos c17] at H; have LMc17 := Aside0.mk c17; clear c17; obtain ⟨y648, hy648⟩ : ∃ y_ : List (S71), y_ = (x3_2 ++ [(⟨t645, rd_L1 t641 x19_2⟩ : S71)]) := ⟨_, rfl⟩
            (try rw [Option.bind_some] at H); (try dsimp only at H); rw [← hy648] at H
            have Ny648 := Aside0.mk hy648; clear hy648; have H' := Aside0.mk H; clear H; have p644 : 0 ≤ (x19_2 : Int) := od; have q644 : x19_2 < (t641.length : Int) := od; obtain ⟨ad644, A644_0, c644_0, e644, hx644_0, hl644_0, hi644_0⟩ := at_L1 (Kd.N_reads' HO_17.out).2.2 x19_2 p644 q644; cases e644; obtain ⟨ce644, hce644, hMe644, hcc644⟩ := Kd.N_get HO_17.out [] x19_2 p644 (by first | exact q644 | exact od | (have e_ := (Kd.N_reads' HO_17.out).1; omega)); obtain ⟨ua644_0, uc644_0, rfl, ul644_0, ge644_0⟩ := Kd.FK_slice_open hMe644; have hv644_0 := hcc644 0 _ rfl; rw [Nat.add_zero, show ((Kd.slice 3 (Kd.int .i64))).sz = 1 from rfl, Nat.mul_one] at hv644_0; replace hv644_0 := Option.some.inj (hv644_0.symm.trans hx644_0); (injection hv644_0 with hva_ hvn_ hvc_); rw [hva_] at ge644_0; rw [hvc_] at ul644_0; have HL644_0 := Aside0.mk (show Kd.V (Kd.int .i64) 3 _ w.heap.size _ _ (rd_L1 t641 x19_2) from Kd.V_mk ul644_0 ge644_0); clear hva_ hvn_ hvc_ ge644_0 ul644_0; clear hcc644 hce644; have HR644_0 := Aside0.mk hi644_0; have HC644_0 := Aside0.mk hl644_0; clear hi644_0 hl644_0; replace p644 := eq_true p644; replace q644 := eq_true q644; go_wp2_with (first | (go_at_call 97; (with_reducible refine (slices_Clone_int_int.calls _ _ (rd_L1 t637 x12_1) t645 _ ?side1 HC640_0.out A16.out).mono ?_); (case side1 => exact cw ((Kd.V_reads' HLP.out).2.2)); rintro e w18 ⟨v646, rfl, ho0, hb⟩; have n0_ := Aside0.mk (Kd.N_elder' (rN HO_3.out) (Kd.R_base ho0) hb); have n1_ := Aside0.mk (Kd.N_elder' (rN HO_10.out) (Kd.R_base ho0) hb); have n2_ := Aside0.mk (Kd.N_elder' (rN HO_17.out) (Kd.R_base ho0) hb); have n3_ := Aside0.mk (Kd.V_elder' (rV HL644_0.out) (Kd.R_base ho0) hb); have n4_ := Aside0.mk (Kd.R_lower (Kd.R_newM (M := fun k_ => (w.heap.size ≤ k_)) ho0 (below_size (bl HB.out)) (fun k_ h_ => h_)) (below_size (bl HB.out))); have n5_ := Aside0.mk (Kd.C_below (by repeat (first | (with_reducible exact HR644_0.out) | (with_reducible refine Kd.C_alloc ?_ _) | (with_reducible refine Kd.C_drewN ?_ _) | (with_reducible refine Kd.C_drew ?_) | exact HR644_0.out)) hb); have n6_ := bst HB hb; have nP_ := Aside0.mk (Kd.V_elder' HLP.out (Kd.R_base ho0) hb); clear HLP; have HLP := nP_; clear nP_; clear HO_3; clear HO_10; clear HO_17; clear HL644_0; clear HR644_0; clear HB; have HO_3 := n0_; have HO_10 := n1_; have HO_17 := n2_; have HL644_0 := n3_; have HO647 := n4_; have HR644_0 := n5_; have HB := n6_; clear n0_ n1_ n2_ n3_ n4_ n5_ n6_; obtain ⟨Ao19, co19, eo19⟩ := Kd.R_slice HO647.out; subst eo19) | ((with_reducible refine gate_builtin (b := .append) (xs := #[.tmp 23, .tmp 28]) rfl ?_); at_builtin; refine Kd.N_append k71 (w0 := w) w.heap.size rfl (.tmp 23) (.tmp 28) 68 71 (.agg #[(.slice none 0 0), (.slice none 0 0)]) 48 rfl Try.underlying68 info71 rfl (by decide) (by omega) u3 x3_2 (⟨t645, rd_L1 t641 x19_2⟩ : S71) [.slice Ao19 t645.length co19, .slice A644_0 (rd_L1 t641 x19_2).length c644_0] (fun k_ => (w.heap.size ≤ k_) ∧ some k_ ≠ (.slice (some ad640) t637.length co6 : Value).ownBlock ∧ some k_ ≠ (.slice (some ad644) t641.length co12 : Value).ownBlock) (fun k_ => ((fun k_ => (w.heap.size ≤ k_) ∧ some k_ ≠ (.slice (some ad640) t637.length co6 : Value).ownBlock ∧ some k_ ≠ (.slice (some ad644) t641.length co12 : Value).ownBlock)) k_ ∧ some k_ ≠ (u3 : Value).ownBlock) rfl rfl ?aP (fun _ hk => hk) ?aF ?aO ?aB ?aS (by have := LMc17.out; omega) ?_; (case aP => exact (k71_mkF _ _ (⟨t645, rd_L1 t641 x19_2⟩ : S71) (Kd.R_reads' (Kd.R_mono (ok' := (fun k_ => ((fun k_ => (w.heap.size ≤ k_) ∧ some k_ ≠ (.slice (some ad640) t637.length co6 : Value).ownBlock ∧ some k_ ≠ (.slice (some ad644) t641.length co12 : Value).ownBlock)) k_ ∧ some k_ ≠ (u3 : Value).ownBlock)) (Kd.R_apart' (Kd.R_apart' (Kd.R_apart' (HO647.out) (Kd.N_typed HO_10.out) (by decide)) (Kd.N_typed HO_17.out) (by decide)) (Kd.N_typed HO_3.out) (by decide)) (fun k_ hk => ⟨⟨hk.1.1.1.1, ⟨hk.1.1.2, hk.1.2⟩⟩, hk.2⟩))).2.1 (Kd.R_F (Kd.R_mono (ok' := (fun k_ => ((fun k_ => (w.heap.size ≤ k_) ∧ some k_ ≠ (.slice (some ad640) t637.length co6 : Value).ownBlock ∧ some k_ ≠ (.slice (some ad644) t641.length co12 : Value).ownBlock)) k_ ∧ some k_ ≠ (u3 : Value).ownBlock)) (Kd.R_apart' (Kd.R_apart' (Kd.R_apart' (HO647.out) (Kd.N_typed HO_10.out) (by decide)) (Kd.N_typed HO_17.out) (by decide)) (Kd.N_typed HO_3.out) (by decide)) (fun k_ hk => ⟨⟨hk.1.1.1.1, ⟨hk.1.1.2, hk.1.2⟩⟩, hk.2⟩))) (Kd.V_reads' (Kd.V_mono (ok' := (fun k_ => ((fun k_ => (w.heap.size ≤ k_) ∧ some k_ ≠ (.slice (some ad640) t637.length co6 : Value).ownBlock ∧ some k_ ≠ (.slice (some ad644) t641.length co12 : Value).ownBlock)) k_ ∧ some k_ ≠ (u3 : Value).ownBlock)) (HL644_0.out) (fun k_ hk => ⟨⟨hk.1.1.1, ⟨hk.1.1.2.2, hk.1.2⟩⟩, hk.1.1.2.1⟩))).2.1 (Kd.V_F (Kd.V_mono (ok' := (fun k_ => ((fun k_ => (w.heap.size ≤ k_) ∧ some k_ ≠ (.slice (some ad640) t637.length co6 : Value).ownBlock ∧ some k_ ≠ (.slice (some ad644) t641.length co12 : Value).ownBlock)) k_ ∧ some k_ ≠ (u3 : Value).ownBlock)) (HL644_0.out) (fun k_ hk => ⟨⟨hk.1.1.1, ⟨hk.1.1.2.2, hk.1.2⟩⟩, hk.1.1.2.1⟩))))); (case aB => exact (bl HB.out)); (case aF => exact (fun k_ hk => ⟨(Nat.le_trans (below_size (bl HB.out)) hk), Kd.fresh' (Kd.N_lt (rN HO_10.out)) k_ hk, Kd.fresh' (Kd.N_lt (rN HO_17.out)) k_ hk⟩)); (case aO => exact (rN (Kd.N_mono HO_3.out (fun _ hk => ⟨hk.1.1, ⟨hk.1.2.1, hk.1.2.2⟩⟩)))); (case aS => exact (below_size (bl HB.out))); intro v649 w20 ho hb hg hat; rw [← Ny648.out] at ho; have n0_ := Aside0.mk (Kd.N_afterv (ok := (fun k_ => (w.heap.size ≤ k_) ∧ some k_ ≠ (.slice (some ad644) t641.length co12 : Value).ownBlock ∧ some k_ ≠ (.slice Ao19 t645.length co19 : Value).ownBlock)) (rN (Kd.N_mono HO_10.out (fun _ hk => ⟨⟨hk.1.1, ⟨hk.1.2.2, hk.2⟩⟩, hk.1.2.1⟩))) hg hat); have n1_ := Aside0.mk (Kd.N_afterv (ok := (fun k_ => (w.heap.size ≤ k_) ∧ some k_ ≠ (.slice (some ad640) t637.length co6 : Value).ownBlock ∧ some k_ ≠ (.slice Ao19 t645.length co19 : Value).ownBlock)) (rN (Kd.N_mono HO_17.out (fun _ hk => ⟨⟨hk.1.1, ⟨hk.1.2.2, hk.2⟩⟩, hk.1.2.1⟩))) hg hat); have n2_ := Aside0.mk (Kd.V_afterv (ok := (fun k_ => (w.heap.size ≤ k_) ∧ some k_ ≠ (.slice (some ad640) t637.length co6 : Value).ownBlock ∧ some k_ ≠ (.slice (some ad644) t641.length co12 : Value).ownBlock ∧ some k_ ≠ (.slice Ao19 t645.length co19 : Value).ownBlock)) (rV (Kd.V_mono HL644_0.out (fun _ hk => ⟨⟨hk.1.1.1, ⟨hk.1.1.2.2, ⟨hk.1.2, hk.2⟩⟩⟩, hk.1.1.2.1⟩))) hg hat); have n3_ := Aside0.mk (hb); have n4_ := Aside0.mk (ho); have nP_ := Aside0.mk (Kd.V_afterv (ok := (fun k_ => (w.heap.size ≤ k_))) (Kd.V_mono HLP.out (fun _ hk => ⟨hk.1.1, hk.1.2⟩)) hg hat); clear HLP; have HLP := nP_; clear nP_; clear HO_10; clear HO_17; clear HL644_0; clear HB; clear HO_3; clear HO647; have HO_10 := n0_; have HO_17 := n1_; have HL644_0 := n2_; have HB := n3_; have HO650 := n4_; clear n0_ n1_ n2_ n3_ n4_; clear ho hb hg hat))
            go_roundg k2
            case measure => have := HK1.out; have := HK2.out; omega
            case rel => exact ⟨(y648), (wrap64 (x19_2 + 1)), (sr2), H', ⟨by have := HK1.out; have := HK2.out; omega⟩, ⟨rN HO650.out⟩, ⟨rN (Kd.N_mono HO_10.out (fun _ hk => ⟨hk.1.1, ⟨hk.2, hk.1.2.1⟩⟩))⟩, ⟨rN (Kd.N_mono HO_17.out (fun _ hk => ⟨hk.1.1, ⟨hk.2, hk.1.2.1⟩⟩))⟩, ⟨bl HB.out⟩, HLP⟩
           rw [if_neg c17] at H; exact absurd H (by simp)
          rw [if_neg c15] at H; exact absurd H (by simp)
         rw [if_neg c14] at H; exact absurd H (by simp)
        rw [if_neg c13] at H; have c13b0 := decide_eq_false c13; clear c13; have H' := Aside0.mk H; clear H; go_wp2
        go_roundg k2
        case measure => have := HK1.out; have := HK2.out; omega
        case rel => exact ⟨(x3_2), (wrap64 (x12_1 + 1)), (sr2), H', ⟨by have := HK1.out; have := HK2.out; omega⟩, ⟨rN (Kd.N_mono HO_3.out (fun _ hk => ⟨hk.1, hk.2.1⟩))⟩, ⟨rN (Kd.N_mono HO_10.out (fun _ hk => ⟨hk.1, hk.2.1⟩))⟩, ⟨bl HB.out⟩⟩
     rw [if_neg c9] at H; exact absurd H (by simp)
    rw [if_neg c8] at H; exact absurd H (by simp)
   rw [if_neg c7] at H; have c7b0 := decide_eq_false c7; clear c7; obtain rfl := Option.some.inj H; go_wp2; go_ret; exact ⟨_, sr, rN (Kd.N_mono HO_3.out (fun _ hk => hk.1)), bl HB.out⟩
/-! ### impl_CountByComponents: function 42 -/
def impl_CountByComponents.l0 : Nat → List Int → List (S71) → Int → Int → Option (List Int × Bool)
 | 0, _, _, _, _ => none
 | k + 1, x4, x14, x15, x16 => if x16 < x15 then (if 0 ≤ x16 then (if x16 < (x14.length : Int) then ((impl_Meander_components.f k ((rd_T71 x14 x16).f0) ((rd_T71 x14 x16).f1)).bind fun t660 => (if 0 ≤ t660 then (if t660 < (x4.length : Int) then (impl_CountByComponents.l0 k (x4.set (t660 : Int).toNat (wrap64 ((rd x4 t660) + 1))) x14 x15 (wrap64 (x16 + 1))) else (none)) else (none))) else (none)) else (none)) else (some (x4, true))
def impl_CountByComponents.f (k : Nat) (a0 : Int) : Option (List Int × Bool) := (impl_isListed.f a0).bind fun t651 => (if t651 = true then (if 0 ≤ (wrap64 (a0 + 1)) then (if (wrap64 (a0 + 1) : Int).toNat ≤ 35184372088832 then ((impl_pairs.f k a0).bind fun t655 => (impl_CountByComponents.l0 k (List.replicate (wrap64 (a0 + 1) : Int).toNat 0) t655 (t655.length : Int) 0)) else (none)) else (none)) else (some (([] : List Int), false)))
theorem impl_CountByComponents.mono_l : ∀ k, (∀ y0 y1 y2 y3, LeO (impl_CountByComponents.l0 k y0 y1 y2 y3) (impl_CountByComponents.l0 (k + 1) y0 y1 y2 y3))
 | 0 => fun _ _ _ _ r h => by simp [impl_CountByComponents.l0] at h
 | k + 1 => by
  have ih0 := impl_CountByComponents.mono_l k
  ·intro y0 y1 y2 y3
   unfold impl_CountByComponents.l0
   repeat' first
   | (with_reducible exact ih0 _ _ _ _)
   | (with_reducible exact impl_Meander_components.mono _ _ _)
   | (with_reducible exact impl_pairs.mono _ _)
   | (with_reducible exact LeO.refl _)
   | (with_reducible exact LeO.none _)
   | (with_reducible refine LeO.ite ?_ ?_)
   | (with_reducible refine LeO.bind ?_ (fun _ => ?_))
   | exact ih0 _ _ _ _
   | exact impl_Meander_components.mono _ _ _
   | exact impl_pairs.mono _ _
   | exact LeO.none _
   | refine LeO.ite ?_ ?_
   | refine LeO.bind ?_ (fun _ => ?_)
theorem impl_CountByComponents.mono : ∀ a0 k, LeO (impl_CountByComponents.f k a0) (impl_CountByComponents.f (k + 1) a0) := by
 intro a0 k; have ih0 := impl_CountByComponents.mono_l k; unfold impl_CountByComponents.f
 repeat' first
   | (with_reducible exact ih0 _ _ _ _)
   | (with_reducible exact impl_Meander_components.mono _ _ _)
   | (with_reducible exact impl_pairs.mono _ _)
   | (with_reducible exact LeO.refl _)
   | (with_reducible exact LeO.none _)
   | (with_reducible refine LeO.ite ?_ ?_)
   | (with_reducible refine LeO.bind ?_ (fun _ => ?_))
   | exact ih0 _ _ _ _
   | exact impl_Meander_components.mono _ _ _
   | exact impl_pairs.mono _ _
   | exact LeO.none _
   | refine LeO.ite ?_ ?_
   | refine LeO.bind ?_ (fun _ => ?_)
theorem impl_CountByComponents.calls (k : Nat) (a0 : Int) (r1 : List Int) (r2 : Bool) (w : World) (h : impl_CountByComponents.f k a0 = some (r1, r2)) :
  Calls Try.prog 42 #[.int .i64 a0] w fun e w' => ∃ v0_ : Value, e = .returned (.tuple #[v0_, .bool r2]) ∧ Kd.R (Kd.int .i64) 3 w' w.heap.size (fun _ => True) v0_ r1 ∧ Below w.heap.size w w' := by
 have hu71 := Try.underlying71
 have HB := Aside0.mk (Below.refl w.heap.size w)
 have H : ((impl_isListed.f a0).bind fun t651 => (if t651 = true then (if 0 ≤ (wrap64 (a0 + 1)) then (if (wrap64 (a0 + 1) : Int).toNat ≤ 35184372088832 then ((impl_pairs.f k a0).bind fun t655 => (impl_CountByComponents.l0 k (List.replicate (wrap64 (a0 + 1) : Int).toNat 0) t655 (t655.length : Int) 0)) else (none)) else (none)) else (some (([] : List Int), false)))) = some (r1, r2) := h
 clear h
 replace H := Option.bind_eq_some_iff.mp H
 obtain ⟨t651, A20, H⟩ := H
 try dsimp only at H
 have A2 := Aside0.mk A20
 clear A20
 by_cases c3 : t651 = true
 ·subst c3
  rw [if_pos rfl] at H
  obtain ⟨ji4, hji4⟩ : ∃ j_ : Int, (wrap64 (a0 + 1)) = j_ := ⟨_, rfl⟩
  replace H : (if 0 ≤ (ji4) then (if (ji4 : Int).toNat ≤ 35184372088832 then ((impl_pairs.f k a0).bind fun t655 => (impl_CountByComponents.l0 k (List.replicate (ji4 : Int).toNat 0) t655 (t655.length : Int) 0)) else (none)) else (none)) = some (r1, r2) := by first | (rw [hji4] at H; exact H) | (simp only [hji4] at H ⊢; exact H)
  (try rw [hji4] at A2)
  have hji4w : (IntKind.i64.wrap (a0 + 1)) = ji4 := (i64_w _).trans hji4
  by_cases c5 : 0 ≤ (ji4)
  ·rw [if_pos c5] at H
   have c5b0 := eq_true c5
   have c5b1 : decide (0 ≤ (ji4)) = true := decide_eq_true c5
   clear c5
   by_cases c6 : (ji4 : Int).toNat ≤ 35184372088832
   ·rw [if_pos c6] at H
    have c6b0 := eq_true c6
    have c6b1 : decide ((ji4 : Int).toNat ≤ 35184372088832) = true := decide_eq_true c6
    clear c6
    obtain ⟨y652, hy652⟩ : ∃ y_ : List Int, y_ = (List.replicate (ji4 : Int).toNat 0) := ⟨_, rfl⟩
    (try rw [Option.bind_some] at H); (try dsimp only at H); rw [← hy652] at H
    have Ny652 := Aside0.mk hy652
    clear hy652
    replace H := Option.bind_eq_some_iff.mp H
    obtain ⟨t655, A70, H⟩ := H
    try dsimp only at H
    have A7 := Aside0.mk A70
    clear A70
    have H' := Aside0.mk H
    clear H
    go_enter Try.func42, Try.ntmps42
    go_wp2_with (first | (go_at_call 80; (with_reducible refine (impl_isListed.calls a0 true _ A2.out).mono ?_); rintro e w' ⟨rfl, ⟨nd, rfl⟩⟩) | ((with_reducible refine gate_dst (N := 12) rfl ?_); refine Kd.R_make (Kd.int .i64) _ 3 rfl (N := 12) rfl 35 _ _ rfl ji4 rfl rfl Try.underlying35 (.int .i64 0) 8 info3 rfl (by decide) (by omega) 0 (ok := fun _ => True) (okp := fun _ => True) rfl (fun _ hk => hk) trivial (of_decide_eq_true (by first | (with_reducible assumption) | assumption)) (Nat.le_trans (Nat.mul_le_mul_right _ (of_decide_eq_true (by first | (with_reducible assumption) | assumption) : ji4.toNat ≤ 35184372088832)) (by omega)) (Below.refl _ _) (Nat.le_refl _) ?_; intro v653 w8 ho9 hb hg_ hnew_; clear hg_ hnew_; (first | rw [← Ny652.out] at ho9 | (simp only [Int.reduceToNat] at ho9; rw [← Ny652.out] at ho9)); have HO654 := Aside0.mk (Kd.R_lower ho9 (below_size (bl HB.out))); replace HB := Aside0.mk (below_step (bl HB.out) hb); clear hb ho9) | (go_at_call 81; (with_reducible refine (impl_pairs.calls k a0 t655 _ A7.out).mono ?_); rintro e w10 ⟨v656, rfl, ho0, hb⟩; have HO657 := Aside0.mk (Kd.N_lower (Kd.N_mono (ok' := fun k_ => some k_ ≠ (v653 : Value).ownBlock) ho0 (fun k_ hk_ => (Kd.fresh' (Kd.R_lt (rR HO654.out)) k_ hk_))) (below_size (bl HB.out))); replace HO654 := Aside0.mk (Kd.R_below (rR HO654.out) hb); replace HB := Aside0.mk (below_step (bl HB.out) hb); obtain ⟨Ao11, co11, eo11⟩ := Kd.N_slice HO657.out; subst eo11))
    go_loopg [16] k (fun kq v16 w' => ∃ (x4_1 : List Int) (x16_1 : Int), v16 = .int .i64 x16_1 ∧ Aside0 (impl_CountByComponents.l0 kq x4_1 t655 (t655.length : Int) x16_1 = some (r1, r2)) ∧ Aside0 (kq ≤ k) ∧ Aside0 (Kd.R (Kd.int .i64) 3 w' w.heap.size (fun _ => True) v653 x4_1) ∧ Aside0 (Kd.N k71 71 w' w.heap.size (fun k_ => some k_ ≠ (v653 : Value).ownBlock) (.slice Ao11 t655.length co11) t655) ∧ Aside0 (Below w.heap.size w w'))
    case atStart => exact ⟨(y652), (0), (by first | rfl | (simp; done) | (simp [*]; done)), H', ⟨Nat.le_refl _⟩, ⟨rR HO654.out⟩, ⟨rN HO657.out⟩, ⟨bl HB.out⟩⟩
    case round =>
     clear H'
     obtain ⟨x4_1, x16_1, rfl, HA, HK1, HO_4, HO_14, HB⟩ := hrel
     cases gk with
     | zero => exact absurd HA.out (by simp [impl_CountByComponents.l0])
     | succ k1 =>
      have H := HA.out
      clear HA
      simp only [impl_CountByComponents.l0] at H
      by_cases c12 : x16_1 < (t655.length : Int)
      ·rw [if_pos c12] at H
       have c12b0 : decide (x16_1 < (t655.length : Int)) = true := decide_eq_true c12
       clear c12
       by_cases c13 : 0 ≤ x16_1
       ·rw [if_pos c13] at H
        have c13b0 : decide (0 ≤ x16_1) = true := decide_eq_true c13
        clear c13
        by_cases c14 : x16_1 < (t655.length : Int)
        ·rw [if_pos c14] at H
         have c14b0 : decide (x16_1 < (t655.length : Int)) = true := decide_eq_true c14
         clear c14
         replace H := Option.bind_eq_some_iff.mp H
         obtain ⟨t660, A150, H⟩ := H
         try dsimp only at H
         have A15 := Aside0.mk A150
         clear A150
         by_cases c16 : 0 ≤ t660
         ·rw [if_pos c16] at H
          have c16b0 : decide (0 ≤ t660) = true := decide_eq_true c16
          clear c16
          by_cases c17 : t660 < (x4_1.length : Int)
          ·rw [if_pos c17] at H
           have c17b0 : decide (t660 < (x4_1.length : Int)) = true := decide_eq_true c17
           clear c17
           obtain ⟨y662, hy662⟩ : ∃ y_ : List Int, y_ = (x4_1.set (t660 : Int).toNat (wrap64 ((rd x4_1 t660) + 1))) := ⟨_, rfl⟩
           (try rw [Option.bind_some] at H); (try dsimp only at H); rw [← hy662] at H
           have Ny662 := Aside0.mk hy662
           clear hy662
           have H' := Aside0.mk H
           clear H
           have p658 : 0 ≤ (x16_1 : Int) := of_decide_eq_true (by first | (with_reducible assumption) | assumption)
           have q658 : x16_1 < (t655.length : Int) := of_decide_eq_true (by first | (with_reducible assumption) | assumption)
           obtain ⟨ad658, A658_0, c658_0, A658_1, c658_1, e658, hx658_0, hx658_1, hl658_0, hi658_0, hl658_1, hi658_1⟩ := at_T71 (Kd.N_reads' HO_14.out).2.2 x16_1 p658 q658
           cases e658
           obtain ⟨ce658, hce658, hMe658, hcc658⟩ := Kd.N_get HO_14.out z71 x16_1 p658 (by first | exact q658 | exact of_decide_eq_true (by first | (with_reducible assumption) | assumption) | (have e_ := (Kd.N_reads' HO_14.out).1; omega))
           obtain ⟨ua658_0, uc658_0, ua658_1, uc658_1, rfl, ul658_0, ge658_0, ul658_1, ge658_1⟩ := k71_openF hMe658
           have hv658_0 := hcc658 0 _ rfl
           rw [Nat.add_zero] at hv658_0
           replace hv658_0 := Option.some.inj (hv658_0.symm.trans hx658_0)
           injection hv658_0 with hva_ hvn_ hvc_
           rw [hva_] at ge658_0
           rw [hvc_] at ul658_0
           have HL658_0 := Aside0.mk (show Kd.V (Kd.int .i64) 3 _ w.heap.size _ _ ((rd_T71 t655 x16_1).f0) from Kd.V_mk ul658_0 ge658_0)
           clear hva_ hvn_ hvc_ ge658_0 ul658_0
           have hv658_1 := hcc658 1 _ rfl
           rw [add_field _ _ 1 (by omega)] at hv658_1
           replace hv658_1 := Option.some.inj (hv658_1.symm.trans hx658_1)
           injection hv658_1 with hva_ hvn_ hvc_
           rw [hva_] at ge658_1
           rw [hvc_] at ul658_1
           have HL658_1 := Aside0.mk (show Kd.V (Kd.int .i64) 3 _ w.heap.size _ _ ((rd_T71 t655 x16_1).f1) from Kd.V_mk ul658_1 ge658_1)
           clear hva_ hvn_ hvc_ ge658_1 ul658_1
           clear hcc658 hce658
           have HR658_0 := Aside0.mk hi658_0
           have HC658_0 := Aside0.mk hl658_0
           clear hi658_0 hl658_0
           have HR658_1 := Aside0.mk hi658_1
           have HC658_1 := Aside0.mk hl658_1
           clear hi658_1 hl658_1
           replace p658 := eq_true p658
           replace q658 := eq_true q658
           go_wp2_with (first | ((with_reducible refine gate_dst (N := 6) rfl ?_); refine box_event ?hg (N := 6) ?hd (cs := #[.slice none 0 0, .slice none 0 0]) (t := 71) ?hr ?_; (case hd => rfl); (case hg => rfl); (case hr => first | (go_simp; done) | (go_simp; rfl)); intro gb659 hg w19 hbox hb; replace HO_4 := Aside0.mk (Kd.R_below (rR HO_4.out) hb); replace HO_14 := Aside0.mk (Kd.N_below (Kd.N_elderB (rN HO_14.out) gb659 (Nat.le_of_eq hg.symm)) hb); replace HL658_0 := Aside0.mk (Kd.V_below (Kd.V_elderB (rV HL658_0.out) gb659 (Nat.le_of_eq hg.symm)) hb); replace HL658_1 := Aside0.mk (Kd.V_below (Kd.V_elderB (rV HL658_1.out) gb659 (Nat.le_of_eq hg.symm)) hb); replace HR658_0 := Aside0.mk (Kd.C_below (by repeat (first | (with_reducible exact HR658_0.out) | (with_reducible refine Kd.C_alloc ?_ _) | (with_reducible refine Kd.C_drewN ?_ _) | (with_reducible refine Kd.C_drew ?_) | exact HR658_0.out)) hb); replace HR658_1 := Aside0.mk (Kd.C_below (by repeat (first | (with_reducible exact HR658_1.out) | (with_reducible refine Kd.C_alloc ?_ _) | (with_reducible refine Kd.C_drewN ?_ _) | (with_reducible refine Kd.C_drew ?_) | exact HR658_1.out)) hb); have BK659 := Aside0.mk (hbox); have GW659 := Aside0.mk ((by rw [hg]; exact (below_size (bl HB.out)) : w.heap.size ≤ gb659)); have GE659 := Aside0.mk ((by rw [hg]; exact (below_size (bl HB.out)) : w.heap.size ≤ gb659)); replace HB := Aside0.mk (below_step (bl HB.out) hb); clear hb hbox hg; have hcz20_0 : w19.cell? ⟨gb659, 0, none⟩ = some (.slice none 0 0) := (blk_cell BK659.out 0).trans rfl; have hcz20_1 : w19.cell? ⟨gb659, 1, none⟩ = some (.slice none 0 0) := (blk_cell BK659.out 1).trans rfl; have hfz20_0 := blk_frozen BK659.out 0; have hfz20_1 := blk_frozen BK659.out 1) | (go_at_call 82; (with_reducible refine (impl_Meander_components.calls k1 _ _ ((rd_T71 t655 x16_1).f0) _ _ ((rd_T71 t655 x16_1).f1) t660 _ ?side1 ?side2 ?side3 HC658_1.out A15.out).mono ?_); (case side1 => repeat (first | exact ((Kd.V_reads' (by (with_reducible repeat (first | apply Kd.V_alloc | apply Kd.V_drewN | apply Kd.V_drew)); exact (Kd.V_mono (Kd.V_far (p := ⟨gb659, 1, none⟩) (Kd.V_far (p := ⟨gb659, 0, none⟩) (Kd.V_mono HL658_0.out (fun k_ hk => (⟨hk, hk.2⟩ : _ ∧ k_ ≠ gb659))) (fun _ hk => hk.2) (.slice A658_0 ((rd_T71 t655 x16_1).f0).length c658_0)) (fun _ hk => hk.2) (.slice A658_1 ((rd_T71 t655 x16_1).f1).length c658_1)) (fun _ h_ => h_.1)))).2.2) | (with_reducible refine Kd.C_alloc ?_ _) | (with_reducible refine Kd.C_drewN ?_ _) | (with_reducible refine Kd.C_drew ?_))); (case side2 => exact HC658_0.out); (case side3 => repeat (first | exact ((Kd.V_reads' (by (with_reducible repeat (first | apply Kd.V_alloc | apply Kd.V_drewN | apply Kd.V_drew)); exact (Kd.V_mono (Kd.V_far (p := ⟨gb659, 1, none⟩) (Kd.V_far (p := ⟨gb659, 0, none⟩) (Kd.V_mono HL658_1.out (fun k_ hk => (⟨hk, hk.2⟩ : _ ∧ k_ ≠ gb659))) (fun _ hk => hk.2) (.slice A658_0 ((rd_T71 t655 x16_1).f0).length c658_0)) (fun _ hk => hk.2) (.slice A658_1 ((rd_T71 t655 x16_1).f1).length c658_1)) (fun _ h_ => h_.1)))).2.2) | (with_reducible refine Kd.C_alloc ?_ _) | (with_reducible refine Kd.C_drewN ?_ _) | (with_reducible refine Kd.C_drew ?_))); rintro e w21 ⟨rfl, hb⟩; replace HO_4 := Aside0.mk (Kd.R_below (by (with_reducible repeat (first | apply Kd.R_alloc | apply Kd.R_drewN | apply Kd.R_drew)); exact (Kd.R_mono (Kd.R_far (p := ⟨gb659, 1, none⟩) (Kd.R_far (p := ⟨gb659, 0, none⟩) (Kd.R_types HO_4.out BK659.out (by decide)) (fun _ hk => hk.2) (.slice A658_0 ((rd_T71 t655 x16_1).f0).length c658_0)) (fun _ hk => hk.2) (.slice A658_1 ((rd_T71 t655 x16_1).f1).length c658_1)) (fun _ h_ => h_.1))) hb); replace HO_14 := Aside0.mk (Kd.N_below (by (with_reducible repeat (first | apply Kd.N_alloc | apply Kd.N_drewN | apply Kd.N_drew)); exact (Kd.N_mono (Kd.N_far (p := ⟨gb659, 1, none⟩) (Kd.N_far (p := ⟨gb659, 0, none⟩) (Kd.N_mono HO_14.out (fun k_ hk => (⟨hk, hk.2⟩ : _ ∧ k_ ≠ gb659))) (fun _ hk => hk.2) (.slice A658_0 ((rd_T71 t655 x16_1).f0).length c658_0)) (fun _ hk => hk.2) (.slice A658_1 ((rd_T71 t655 x16_1).f1).length c658_1)) (fun _ h_ => h_.1))) hb); replace HR658_0 := Aside0.mk (Kd.C_below ((Kd.V_reads' (by (with_reducible repeat (first | apply Kd.V_alloc | apply Kd.V_drewN | apply Kd.V_drew)); exact (Kd.V_mono (Kd.V_far (p := ⟨gb659, 1, none⟩) (Kd.V_far (p := ⟨gb659, 0, none⟩) (Kd.V_mono HL658_0.out (fun k_ hk => (⟨hk, hk.2⟩ : _ ∧ k_ ≠ gb659))) (fun _ hk => hk.2) (.slice A658_0 ((rd_T71 t655 x16_1).f0).length c658_0)) (fun _ hk => hk.2) (.slice A658_1 ((rd_T71 t655 x16_1).f1).length c658_1)) (fun _ h_ => h_.1)))).2.2) hb); replace HL658_0 := Aside0.mk (Kd.V_below (by (with_reducible repeat (first | apply Kd.V_alloc | apply Kd.V_drewN | apply Kd.V_drew)); exact (Kd.V_mono (Kd.V_far (p := ⟨gb659, 1, none⟩) (Kd.V_far (p := ⟨gb659, 0, none⟩) (Kd.V_mono HL658_0.out (fun k_ hk => (⟨hk, hk.2⟩ : _ ∧ k_ ≠ gb659))) (fun _ hk => hk.2) (.slice A658_0 ((rd_T71 t655 x16_1).f0).length c658_0)) (fun _ hk => hk.2) (.slice A658_1 ((rd_T71 t655 x16_1).f1).length c658_1)) (fun _ h_ => h_.1))) hb); replace HR658_1 := Aside0.mk (Kd.C_below ((Kd.V_reads' (by (with_reducible repeat (first | apply Kd.V_alloc | apply Kd.V_drewN | apply Kd.V_drew)); exact (Kd.V_mono (Kd.V_far (p := ⟨gb659, 1, none⟩) (Kd.V_far (p := ⟨gb659, 0, none⟩) (Kd.V_mono HL658_1.out (fun k_ hk => (⟨hk, hk.2⟩ : _ ∧ k_ ≠ gb659))) (fun _ hk => hk.2) (.slice A658_0 ((rd_T71 t655 x16_1).f0).length c658_0)) (fun _ hk => hk.2) (.slice A658_1 ((rd_T71 t655 x16_1).f1).length c658_1)) (fun _ h_ => h_.1)))).2.2) hb); replace HL658_1 := Aside0.mk (Kd.V_below (by (with_reducible repeat (first | apply Kd.V_alloc | apply Kd.V_drewN | apply Kd.V_drew)); exact (Kd.V_mono (Kd.V_far (p := ⟨gb659, 1, none⟩) (Kd.V_far (p := ⟨gb659, 0, none⟩) (Kd.V_mono HL658_1.out (fun k_ hk => (⟨hk, hk.2⟩ : _ ∧ k_ ≠ gb659))) (fun _ hk => hk.2) (.slice A658_0 ((rd_T71 t655 x16_1).f0).length c658_0)) (fun _ hk => hk.2) (.slice A658_1 ((rd_T71 t655 x16_1).f1).length c658_1)) (fun _ h_ => h_.1))) hb); replace BK659 := Aside0.mk (blk_below (g := gb659) (o := .cells #[.slice A658_0 ((rd_T71 t655 x16_1).f0).length c658_0, .slice A658_1 ((rd_T71 t655 x16_1).f1).length c658_1] 71 (0, 0)) (by (with_reducible repeat (first | refine blk_drewN ?_ _ | refine blk_drew ?_ | refine blk_alloc ?_ _)); refine blk_put (cs := #[.slice A658_0 ((rd_T71 t655 x16_1).f0).length c658_0, .slice none 0 0]) ?_ 1 _ rfl; (with_reducible repeat (first | refine blk_drewN ?_ _ | refine blk_drew ?_ | refine blk_alloc ?_ _)); refine blk_put (cs := #[.slice none 0 0, .slice none 0 0]) ?_ 0 _ rfl; (with_reducible repeat (first | refine blk_drewN ?_ _ | refine blk_drew ?_ | refine blk_alloc ?_ _)); exact BK659.out) hb); replace HB := Aside0.mk (below_step (bs1 HB.out GE659.out) hb); obtain ⟨Ao22, co22, eo22⟩ := Kd.R_slice HO_4.out; subst eo22; have p661 : 0 ≤ (t660 : Int) := of_decide_eq_true (by first | (with_reducible assumption) | assumption); have q661 : t660 < (x4_1.length : Int) := of_decide_eq_true (by first | (with_reducible assumption) | assumption); obtain ⟨ad661, e661, hx661_0⟩ := Kd.at_int (Kd.R_reads' HO_4.out).2.2 t660 p661 q661; cases e661; replace p661 := eq_true p661; replace q661 := eq_true q661; have p18 : 0 ≤ (t660 : Int) := of_decide_eq_true (by first | (with_reducible assumption) | assumption); have q18 : (t660 : Int) < ((x4_1.length : Int) : Int) := of_decide_eq_true (by first | (with_reducible assumption) | assumption); obtain ⟨go18, co18, eo18, gb18, gl18, cl18, HG18⟩ := Kd.R_form HO_4.out (by omega); (first | cases eo18 | (injection eo18 with ea_ en_ ec_; (first | subst ea_ | (injection ea_ with ea_; subst ea_)); subst ec_; clear en_)); have GB18 := Aside0.mk gb18; have GG18 := Aside0.mk HG18; clear gb18 gl18 HG18; (first | simp only [add_plain] at hx661_0 | skip); obtain ⟨hx18_0, hf18_0⟩ := Kd.R_celln 0 HO_4.out (t660 : Int) p18 q18; replace p18 := eq_true p18; replace q18 := eq_true q18; obtain ⟨hy23_, hz23_⟩ := Kd.R_celln 0 HO_4.out (t660 : Int) (of_decide_eq_true (by first | (with_reducible assumption) | assumption)) (of_decide_eq_true (by first | (with_reducible assumption) | assumption)); have HP23 := Kd.R_putg HO_4.out (t660 : Int) (wrap64 ((rd x4_1 t660) + 1))) | ((with_reducible refine gate_store (t := 3) (p := 26) rfl ?_); refine store_event (t := 3) (p := 26) (v := ?vo_w24) (w1 := (w21.setCell ⟨go18, (t660 : Int).toNat, none⟩ (.int .i64 (wrap64 ((rd x4_1 t660) + 1))))) ?hg ?ho ?hn ?hr ?_; (case ho => rfl); (case hg => rfl); (case hn => rfl); (case hr => first | (go_simp; done) | (go_simp; rfl)); intro w24 hw; have hg : w21.grownBy w24 (some go18) := (by rw [hw]; exact HP23.2); have hp_ : Kd.R (Kd.int .i64) 3 w24 w.heap.size (fun _ => True) (.slice (some ⟨go18, 0, none⟩) x4_1.length co22) y662 := (by rw [hw, Ny662.out]; exact HP23.1); clear HP23; replace HO_14 := Aside0.mk (Kd.N_afterv (v := (.slice (some ⟨go18, 0, none⟩) x4_1.length co22)) (v1 := (.slice (some ⟨go18, 0, none⟩) x4_1.length co22)) (ok := (fun k_ => k_ ≠ gb659)) (by (with_reducible repeat (first | apply Kd.N_alloc | apply Kd.N_drewN | apply Kd.N_drew)); exact Kd.N_mono HO_14.out (fun _ hk => by first | exact ⟨hk.2, hk.1⟩ | exact ⟨hk.1, hk.2⟩)) hg (.inl rfl)); replace HL658_0 := Aside0.mk (Kd.V_afterv (v := (.slice (some ⟨go18, 0, none⟩) x4_1.length co22)) (v1 := (.slice (some ⟨go18, 0, none⟩) x4_1.length co22)) (ok := (fun k_ => some k_ ≠ (.slice (some ad658) t655.length co11 : Value).ownBlock ∧ k_ ≠ gb659)) (by (with_reducible repeat (first | apply Kd.V_alloc | apply Kd.V_drewN | apply Kd.V_drew)); exact Kd.V_mono HL658_0.out (fun _ hk => ⟨⟨hk.1.2, hk.2⟩, hk.1.1⟩)) hg (.inl rfl)); replace HL658_1 := Aside0.mk (Kd.V_afterv (v := (.slice (some ⟨go18, 0, none⟩) x4_1.length co22)) (v1 := (.slice (some ⟨go18, 0, none⟩) x4_1.length co22)) (ok := (fun k_ => some k_ ≠ (.slice (some ad658) t655.length co11 : Value).ownBlock ∧ k_ ≠ gb659)) (by (with_reducible repeat (first | apply Kd.V_alloc | apply Kd.V_drewN | apply Kd.V_drew)); exact Kd.V_mono HL658_1.out (fun _ hk => ⟨⟨hk.1.2, hk.2⟩, hk.1.1⟩)) hg (.inl rfl)); replace BK659 := Aside0.mk (blk_grown (g := gb659) (o := .cells #[.slice A658_0 ((rd_T71 t655 x16_1).f0).length c658_0, .slice A658_1 ((rd_T71 t655 x16_1).f1).length c658_1] 71 (0, 0)) (by (with_reducible repeat (first | refine blk_drewN ?_ _ | refine blk_drew ?_ | refine blk_alloc ?_ _)); exact BK659.out) hg (Kd.R_ne HO_4.out BK659.out (by decide))); replace HO_4 := Aside0.mk (hp_); replace HB := Aside0.mk ((by rw [hw]; exact below_set (HB.out) GB18.out : Below w.heap.size w w24)); clear hg hw hp_))
           first | go_roundg k1 | (simp only [← hji4]; go_roundg k1)
           case measure => have := HK1.out; omega
           case rel => exact ⟨(y662), (wrap64 (x16_1 + 1)), (by first | rfl | (simp; done) | (simp [*]; done)), H', ⟨by have := HK1.out; omega⟩, ⟨rR HO_4.out⟩, ⟨rN (Kd.N_mono HO_14.out (fun _ hk => hk.2))⟩, ⟨bs1 HB.out GE659.out⟩⟩
          ·rw [if_neg c17] at H
           exact absurd H (by simp)
         ·rw [if_neg c16] at H
          exact absurd H (by simp)
        ·rw [if_neg c14] at H
         exact absurd H (by simp)
       ·rw [if_neg c13] at H
        exact absurd H (by simp)
      ·rw [if_neg c12] at H
       have c12b0 : decide (x16_1 < (t655.length : Int)) = false := decide_eq_false c12
       clear c12
       simp only [Option.some.injEq, Prod.mk.injEq] at H
       obtain ⟨rfl, rfl⟩ := H
       go_wp2
       go_ret2
       exact ⟨_, by first | rfl | (simp [errW_none, errW_some] <;> rfl) | (simp only [← hji4]; first | rfl | (simp [errW_none, errW_some] <;> rfl)) | (simp [*, errW_none, errW_some] <;> rfl), by (with_reducible repeat (first | apply Kd.R_alloc | apply Kd.R_drewN | apply Kd.R_drew)); exact HO_4.out, bl HB.out⟩
   ·rw [if_neg c6] at H
    exact absurd H (by simp)
  ·rw [if_neg c5] at H
   exact absurd H (by simp)
 ·replace c3 := Bool.eq_false_iff.mpr c3
  subst c3
  rw [if_neg (show ¬ (false = true) by decide)] at H
  simp only [Option.some.injEq, Prod.mk.injEq] at H
  obtain ⟨rfl, rfl⟩ := H
  go_enter Try.func42, Try.ntmps42
  go_wp2_with (first | (go_at_call 80; (with_reducible refine (impl_isListed.calls a0 false _ A2.out).mono ?_); rintro e w' ⟨rfl, ⟨nd, rfl⟩⟩))
  go_ret2
  exact ⟨_, by first | rfl | (simp [errW_none, errW_some] <;> rfl) | (simp [*, errW_none, errW_some] <;> rfl), by first | exact Kd.R_nil _ _ _ _ _ | exact Kd.N_nil _ _ _ _ _ | exact Kd.V_nil _ _ _ _ _ | exact Kd.Q_nil _ _ _ _ _ | exact Kd.S_nil _ _ _ _ _, bl HB.out⟩

-- NOT PRINTED: function 7 (laws_FnTablesOfArches)
end Go.Proofs.Ytbphdjnainlbhaa.R
