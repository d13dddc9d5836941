/- The law FnExactJoinSeaweeds, walked by hand over our printed contracts: printed, it is longer than a claim's file may be. -/
import Derived.Test.YtoblagangofflaaJ1
import Derived.Test.YtoblagangofflaaJ2
import Derived.Test.YtoblagangofflaaJ3
import Derived.Test.YtoblagangofflaaJ4
set_option linter.unusedVariables false
set_option linter.unusedSimpArgs false
namespace Go.Proofs.Ytoblagangofflaa.J
open Go.RowKit Go.Proofs.YtoblagangofflaaW.PrintWords Go.Proofs.YtoblagangofflaaW.PrintLast Go.Proofs.YtoblagangofflaaW.PrintMore
theorem apart {α β : Type} {d : Kd α} {d' : Kd β} {e e' b : Nat} {ok ok' : Nat → Prop} {W W' : World} {v u : Value} {xs : List α} {ys : List β} (h : d.R e W b ok v xs) (h' : d'.R e' W' W.heap.size ok' u ys) : ∀ k, some k = v.ownBlock → ¬ some k = u.ownBlock :=
  fun k h1 h2 => Nat.lt_irrefl _ (Nat.lt_of_lt_of_le (Kd.R_lt h k h1.symm) (Kd.R_base h' k h2.symm))
theorem apart2 {α : Type} {d : Kd α} {e b : Nat} {W : World} {v u : Value} {xs : List α} (h : d.R e W b (fun k => some k ≠ u.ownBlock) v xs) : ∀ k, some k = v.ownBlock → ¬ some k = u.ownBlock := fun k h1 => h.1 k h1.symm
theorem swap_ap {A B : Nat → Prop} (h : ∀ k, A k → ¬ B k) : ∀ k, B k → ¬ A k := fun k h1 h2 => h k h2 h1
theorem kept_box {W w' : World} {g : Nat} {o : Obj} {S : Nat → Prop} (hb : W.heap[g]? = some o) (hk : Kept W w' S) (hne : ∀ k, S k → k ≠ g) : w'.heap[g]? = some o := (hk.2 g (blk_lt hb) (fun h => hne g h rfl)).trans hb
theorem held_told (k : Nat) (A0 : Option Addr) (n0 c0 : Nat) (A1 : Option Addr) (n1 c1 : Nat) (L1 L2 : List Int) (m : Int) (W : World) {b0 b1 : Nat} {ok0 ok1 : Nat → Prop} (h0 : Kd.R (Kd.int .i64) 3 W b0 ok0 (.slice A0 n0 c0) L1) (h1 : Kd.R (Kd.int .i64) 3 W b1 ok1 (.slice A1 n1 c1) L2) (h : laws_heldSeaweed.f k L1 L2 1 = some m) :
    Calls Try.prog 14 #[.agg #[.slice A0 n0 c0, .slice A1 n1 c1], .int .i64 1] W fun e w' => e = .returned (.int .i64 m) ∧ Below W.heap.size W w' := by
  obtain ⟨rfl, h2, h3⟩ := Kd.R_reads' h0
  obtain ⟨rfl, h4, h5⟩ := Kd.R_reads' h1
  exact laws_heldSeaweed.calls k A0 c0 L1 A1 c1 L2 1 m W h3 h2 h5 h4 h
theorem up_off {b : Nat → Bool} {i j : Nat} (h : b j = false) (hne : j ≠ i) : up b i j = false := by unfold up; rw [if_neg hne]; exact h
theorem putSel_chg {b : Nat → Bool} {i : Nat} {t : Tmp} {v0 v : Value} : ∀ {L L' : List (Nat × Tmp × Value)} {a : Act} (k : Nat) (_ : b i = false) (_ : L[k]? = some (i, t, v0)) (_ : L.set k (i, t, v) = L'), putSel a b L = putSel a b L'
  | [], _, _, _, _, hL, _ => by cases hL
  | e :: r, _, a, 0, hb, hL, hL' => by
    subst hL'
    cases Option.some.inj hL
    simp only [List.set_cons_zero, putSel, hb, Bool.false_eq_true, if_false]
  | e :: r, _, a, k + 1, hb, hL, hL' => by
    subst hL'
    simp only [List.set_cons_succ, putSel]
    exact putSel_chg k hb hL rfl
def laws_FnExactJoinSeaweeds.T8 : Bool × List (List Nat × List Nat) := (true, [([], []), ([0], [0]), ([], []), ([2, 1], [2]), ([1, 3, 3], [1, 3]), ([4], [4]), ([5], [5]), ([5], [5]), ([], []), ([8, 6, 4, 0, 1, 2, 3, 4, 5, 6, 8], [6, 8]), ([7, 9, 0, 1, 2, 3, 4, 5, 6, 7, 8, 9], [7])])
def laws_FnExactJoinSeaweeds.B8 : List Nat := [0, 1, 0, 7, 15, 31, 63, 63, 0, 383, 1023]
theorem laws_FnExactJoinSeaweeds.tab8 : rtab .any (opsOf Try.f3 8) = laws_FnExactJoinSeaweeds.T8 := by kernel_rfl
theorem laws_FnExactJoinSeaweeds.bits8 : waitsOk laws_FnExactJoinSeaweeds.T8.2 laws_FnExactJoinSeaweeds.B8 = true := by kernel_rfl
theorem laws_FnExactJoinSeaweeds.tab31 : rtab .any (opsOf Try.f3 31) = laws_FnExactJoinSeaweeds.T8 := by kernel_rfl
theorem laws_FnExactJoinSeaweeds.bits31 : waitsOk laws_FnExactJoinSeaweeds.T8.2 laws_FnExactJoinSeaweeds.B8 = true := by kernel_rfl
/-- what the law asks for, as plain lists tell it -/
structure laws_FnExactJoinSeaweeds.Told (k : Nat) (p q u v : List Int) : Prop where
  ok : ∃ (left1 left2 : Int) (r1 r2 : List Int) (bq : Bool) (k1 k2 m : Int) (Y1 Y2 Y3 Y4 L1 L2 : List Int),
    laws_szSeaweed.f p q 1048576 = some left1 ∧ 0 ≤ left1 ∧ laws_szSeaweed.f u v left1 = some left2 ∧ 0 ≤ left2 ∧ spec_JoinSeaweeds.f k p q u v = some (r1, r2, bq) ∧ impl_JoinSeaweeds.f k p q u v = some (r1, r2, bq) ∧ laws_toSeaweed.f k p q = some (p, q) ∧ laws_toSeaweed.f k u v = some (u, v) ∧
    laws_eqSeaweed.f k r1 r2 r1 r2 = some true ∧ laws_eqSeaweed.f k p q p q = some true ∧ laws_eqSeaweed.f k u v u v = some true ∧ laws_markSeaweed.f k p q 1 = some (k1, Y1, Y2) ∧ laws_markSeaweed.f k u v k1 = some (k2, Y3, Y4) ∧ 0 ≤ k2 ∧ laws_markSeaweed.f k r1 r2 1 = some (m, L1, L2) ∧ 0 ≤ m ∧ laws_heldSeaweed.f k L1 L2 1 = some m
set_option maxHeartbeats 32000000 in
set_option maxRecDepth 100000 in
theorem laws_FnExactJoinSeaweeds.calls (k : Nat) (A0_0 : Option Addr) (c0_0 : Nat) (p : List Int) (A0_1 : Option Addr) (c0_1 : Nat) (q : List Int) (A1_0 : Option Addr) (c1_0 : Nat) (u : List Int) (A1_1 : Option Addr) (c1_1 : Nat) (v : List Int) (w : World) (hr0 : Kd.C (Kd.int .i64) w A0_0 p.length p) (hc0 : p.length ≤ c0_0) (hr1 : Kd.C (Kd.int .i64) w A0_1 q.length q) (hc1 : q.length ≤ c0_1) (hr2 : Kd.C (Kd.int .i64) w A1_0 u.length u) (hc2 : u.length ≤ c1_0) (hr3 : Kd.C (Kd.int .i64) w A1_1 v.length v) (hc3 : v.length ≤ c1_1)
    (h : (∃ left, laws_szSeaweed.f p q 1048576 = some left ∧ left < 0) ∨ (∃ left1 left2, laws_szSeaweed.f p q 1048576 = some left1 ∧ 0 ≤ left1 ∧ laws_szSeaweed.f u v left1 = some left2 ∧ left2 < 0) ∨ laws_FnExactJoinSeaweeds.Told k p q u v) :
    Calls Try.prog 3 #[.agg #[.slice A0_0 p.length c0_0, .slice A0_1 q.length c0_1], .agg #[.slice A1_0 u.length c1_0, .slice A1_1 v.length c1_1]] w fun e w' => e = .returned (.bool true) ∧ Below w.heap.size w w' := by
  have K0 := Aside0.mk True.intro
  have H0 := Aside0.mk hr0
  have H1 := Aside0.mk hr1
  have H2 := Aside0.mk hr2
  have H3 := Aside0.mk hr3
  have C0 := Aside0.mk hc0
  have C1 := Aside0.mk hc1
  have C2 := Aside0.mk hc2
  have C3 := Aside0.mk hc3
  have HB := Aside0.mk (Below.refl w.heap.size w)
  clear hr0 hr1 hr2 hr3 hc0 hc1 hc2 hc3
  rcases h with ⟨left1, hz, hneg⟩ | ⟨left1, left2, hz, hz0, hz2, hneg⟩ | h
  · have FZ1 := Aside0.mk hz
    have c3b0 : decide (left1 < 0) = true := decide_eq_true hneg
    clear hz hneg
    go_enter Try.func3, Try.ntmps3
    go_wp2_with (first
      | (go_at_call 8; have hK := K2.out; (with_reducible refine (laws_szSeaweed.calls _ _ p _ _ q 1048576 left1 _ (Kd.C_below H0.out HB.out) C0.out (Kd.C_below H1.out HB.out) C1.out FZ1.out).mono ?_); rintro e w2_ ⟨rfl, hb⟩; clear hK K2; clear hx_g20 hf_g20 hx_g21 hf_g21 hx_g30 hf_g30 hx_g31 hf_g31; have n_g2 := Aside0.mk (blk_below BKg2.out hb); clear BKg2; have BKg2 := n_g2; clear n_g2; have n_g3 := Aside0.mk (blk_below BKg3.out hb); clear BKg3; have BKg3 := n_g3; clear n_g3; have nHB := Aside0.mk (below_step HB.out hb); clear HB; have HB := nHB; clear nHB; have K3 := Aside0.mk True.intro; have hx_g20 : World.cell? _ ⟨g2, 0, none⟩ = some (.slice A0_0 p.length c0_0) := (blk_cell BKg2.out 0).trans rfl; have hf_g20 := blk_frozen BKg2.out 0; have hx_g21 : World.cell? _ ⟨g2, 1, none⟩ = some (.slice A0_1 q.length c0_1) := (blk_cell BKg2.out 1).trans rfl; have hf_g21 := blk_frozen BKg2.out 1; have hx_g30 : World.cell? _ ⟨g3, 0, none⟩ = some (.slice A1_0 u.length c1_0) := (blk_cell BKg3.out 0).trans rfl; have hf_g30 := blk_frozen BKg3.out 0; have hx_g31 : World.cell? _ ⟨g3, 1, none⟩ = some (.slice A1_1 v.length c1_1) := (blk_cell BKg3.out 1).trans rfl; have hf_g31 := blk_frozen BKg3.out 1; clear hb)
      | ((with_reducible refine gate_dst (N := 3) rfl ?_); have hK := K1.out; refine box_event ?hg (N := 3) ?hd (cs := #[.slice A1_0 u.length c1_0, .slice A1_1 v.length c1_1]) (t := 24) ?hr ?_; (case hd => rfl); (case hg => rfl); (case hr => first | (go_simp; done) | (go_simp; rfl)); intro g3 hg w1_ hbox hb; clear hK K1; have GE_g3 := Aside0.mk ((by rw [hg]; exact HB.out.size) : w.heap.size ≤ g3); have NB_g2_g3 := Aside0.mk ((by rw [hg]; exact Nat.ne_of_lt (blk_lt BKg2.out)) : g2 ≠ g3); have hn_g2_g3 := NB_g2_g3.out; have hm_g2_g3 := NB_g2_g3.out.symm; clear hx_g20 hf_g20 hx_g21 hf_g21; have n_g2 := Aside0.mk (blk_below BKg2.out hb); clear BKg2; have BKg2 := n_g2; clear n_g2; have BKg3 := Aside0.mk hbox; have nHB := Aside0.mk (below_step HB.out hb); clear HB hbox hb hg; have HB := nHB; clear nHB; have K2 := Aside0.mk True.intro; have hx_g20 : World.cell? _ ⟨g2, 0, none⟩ = some (.slice A0_0 p.length c0_0) := (blk_cell BKg2.out 0).trans rfl; have hf_g20 := blk_frozen BKg2.out 0; have hx_g21 : World.cell? _ ⟨g2, 1, none⟩ = some (.slice A0_1 q.length c0_1) := (blk_cell BKg2.out 1).trans rfl; have hf_g21 := blk_frozen BKg2.out 1; have hx_g30 : World.cell? _ ⟨g3, 0, none⟩ = some (.slice A1_0 u.length c1_0) := (blk_cell BKg3.out 0).trans rfl; have hf_g30 := blk_frozen BKg3.out 0; have hx_g31 : World.cell? _ ⟨g3, 1, none⟩ = some (.slice A1_1 v.length c1_1) := (blk_cell BKg3.out 1).trans rfl; have hf_g31 := blk_frozen BKg3.out 1)
      | ((with_reducible refine gate_dst (N := 2) rfl ?_); have hK := K0.out; refine box_event ?hg (N := 2) ?hd (cs := #[.slice A0_0 p.length c0_0, .slice A0_1 q.length c0_1]) (t := 24) ?hr ?_; (case hd => rfl); (case hg => rfl); (case hr => first | (go_simp; done) | (go_simp; rfl)); intro g2 hg w0_ hbox hb; clear hK K0; have GE_g2 := Aside0.mk ((by rw [hg]; exact HB.out.size) : w.heap.size ≤ g2); have BKg2 := Aside0.mk hbox; have nHB := Aside0.mk (below_step HB.out hb); clear HB hbox hb hg; have HB := nHB; clear nHB; have K1 := Aside0.mk True.intro; have hx_g20 : World.cell? _ ⟨g2, 0, none⟩ = some (.slice A0_0 p.length c0_0) := (blk_cell BKg2.out 0).trans rfl; have hf_g20 := blk_frozen BKg2.out 0; have hx_g21 : World.cell? _ ⟨g2, 1, none⟩ = some (.slice A0_1 q.length c0_1) := (blk_cell BKg2.out 1).trans rfl; have hf_g21 := blk_frozen BKg2.out 1))
    go_ret
    exact ⟨rfl, HB.out⟩
  · have FZ1 := Aside0.mk hz
    have FZ2 := Aside0.mk hz2
    have c3b0 : decide (left1 < 0) = false := decide_eq_false (by omega)
    have c3b1 : decide (left2 < 0) = true := decide_eq_true hneg
    clear hz hz0 hz2 hneg
    go_enter Try.func3, Try.ntmps3
    go_wp2_with (first
      | (go_at_call 8; have hK := K3.out; (with_reducible refine (laws_szSeaweed.calls _ _ u _ _ v left1 left2 _ (Kd.C_below H2.out HB.out) C2.out (Kd.C_below H3.out HB.out) C3.out FZ2.out).mono ?_); rintro e w3_ ⟨rfl, hb⟩; clear hK K3; clear hx_g20 hf_g20 hx_g21 hf_g21 hx_g30 hf_g30 hx_g31 hf_g31; have n_g2 := Aside0.mk (blk_below BKg2.out hb); clear BKg2; have BKg2 := n_g2; clear n_g2; have n_g3 := Aside0.mk (blk_below BKg3.out hb); clear BKg3; have BKg3 := n_g3; clear n_g3; have nHB := Aside0.mk (below_step HB.out hb); clear HB; have HB := nHB; clear nHB; have K4 := Aside0.mk True.intro; have hx_g20 : World.cell? _ ⟨g2, 0, none⟩ = some (.slice A0_0 p.length c0_0) := (blk_cell BKg2.out 0).trans rfl; have hf_g20 := blk_frozen BKg2.out 0; have hx_g21 : World.cell? _ ⟨g2, 1, none⟩ = some (.slice A0_1 q.length c0_1) := (blk_cell BKg2.out 1).trans rfl; have hf_g21 := blk_frozen BKg2.out 1; have hx_g30 : World.cell? _ ⟨g3, 0, none⟩ = some (.slice A1_0 u.length c1_0) := (blk_cell BKg3.out 0).trans rfl; have hf_g30 := blk_frozen BKg3.out 0; have hx_g31 : World.cell? _ ⟨g3, 1, none⟩ = some (.slice A1_1 v.length c1_1) := (blk_cell BKg3.out 1).trans rfl; have hf_g31 := blk_frozen BKg3.out 1; clear hb)
      | (go_at_call 8; have hK := K2.out; (with_reducible refine (laws_szSeaweed.calls _ _ p _ _ q 1048576 left1 _ (Kd.C_below H0.out HB.out) C0.out (Kd.C_below H1.out HB.out) C1.out FZ1.out).mono ?_); rintro e w2_ ⟨rfl, hb⟩; clear hK K2; clear hx_g20 hf_g20 hx_g21 hf_g21 hx_g30 hf_g30 hx_g31 hf_g31; have n_g2 := Aside0.mk (blk_below BKg2.out hb); clear BKg2; have BKg2 := n_g2; clear n_g2; have n_g3 := Aside0.mk (blk_below BKg3.out hb); clear BKg3; have BKg3 := n_g3; clear n_g3; have nHB := Aside0.mk (below_step HB.out hb); clear HB; have HB := nHB; clear nHB; have K3 := Aside0.mk True.intro; have hx_g20 : World.cell? _ ⟨g2, 0, none⟩ = some (.slice A0_0 p.length c0_0) := (blk_cell BKg2.out 0).trans rfl; have hf_g20 := blk_frozen BKg2.out 0; have hx_g21 : World.cell? _ ⟨g2, 1, none⟩ = some (.slice A0_1 q.length c0_1) := (blk_cell BKg2.out 1).trans rfl; have hf_g21 := blk_frozen BKg2.out 1; have hx_g30 : World.cell? _ ⟨g3, 0, none⟩ = some (.slice A1_0 u.length c1_0) := (blk_cell BKg3.out 0).trans rfl; have hf_g30 := blk_frozen BKg3.out 0; have hx_g31 : World.cell? _ ⟨g3, 1, none⟩ = some (.slice A1_1 v.length c1_1) := (blk_cell BKg3.out 1).trans rfl; have hf_g31 := blk_frozen BKg3.out 1; clear hb)
      | ((with_reducible refine gate_dst (N := 3) rfl ?_); have hK := K1.out; refine box_event ?hg (N := 3) ?hd (cs := #[.slice A1_0 u.length c1_0, .slice A1_1 v.length c1_1]) (t := 24) ?hr ?_; (case hd => rfl); (case hg => rfl); (case hr => first | (go_simp; done) | (go_simp; rfl)); intro g3 hg w1_ hbox hb; clear hK K1; have GE_g3 := Aside0.mk ((by rw [hg]; exact HB.out.size) : w.heap.size ≤ g3); have NB_g2_g3 := Aside0.mk ((by rw [hg]; exact Nat.ne_of_lt (blk_lt BKg2.out)) : g2 ≠ g3); have hn_g2_g3 := NB_g2_g3.out; have hm_g2_g3 := NB_g2_g3.out.symm; clear hx_g20 hf_g20 hx_g21 hf_g21; have n_g2 := Aside0.mk (blk_below BKg2.out hb); clear BKg2; have BKg2 := n_g2; clear n_g2; have BKg3 := Aside0.mk hbox; have nHB := Aside0.mk (below_step HB.out hb); clear HB hbox hb hg; have HB := nHB; clear nHB; have K2 := Aside0.mk True.intro; have hx_g20 : World.cell? _ ⟨g2, 0, none⟩ = some (.slice A0_0 p.length c0_0) := (blk_cell BKg2.out 0).trans rfl; have hf_g20 := blk_frozen BKg2.out 0; have hx_g21 : World.cell? _ ⟨g2, 1, none⟩ = some (.slice A0_1 q.length c0_1) := (blk_cell BKg2.out 1).trans rfl; have hf_g21 := blk_frozen BKg2.out 1; have hx_g30 : World.cell? _ ⟨g3, 0, none⟩ = some (.slice A1_0 u.length c1_0) := (blk_cell BKg3.out 0).trans rfl; have hf_g30 := blk_frozen BKg3.out 0; have hx_g31 : World.cell? _ ⟨g3, 1, none⟩ = some (.slice A1_1 v.length c1_1) := (blk_cell BKg3.out 1).trans rfl; have hf_g31 := blk_frozen BKg3.out 1)
      | ((with_reducible refine gate_dst (N := 2) rfl ?_); have hK := K0.out; refine box_event ?hg (N := 2) ?hd (cs := #[.slice A0_0 p.length c0_0, .slice A0_1 q.length c0_1]) (t := 24) ?hr ?_; (case hd => rfl); (case hg => rfl); (case hr => first | (go_simp; done) | (go_simp; rfl)); intro g2 hg w0_ hbox hb; clear hK K0; have GE_g2 := Aside0.mk ((by rw [hg]; exact HB.out.size) : w.heap.size ≤ g2); have BKg2 := Aside0.mk hbox; have nHB := Aside0.mk (below_step HB.out hb); clear HB hbox hb hg; have HB := nHB; clear nHB; have K1 := Aside0.mk True.intro; have hx_g20 : World.cell? _ ⟨g2, 0, none⟩ = some (.slice A0_0 p.length c0_0) := (blk_cell BKg2.out 0).trans rfl; have hf_g20 := blk_frozen BKg2.out 0; have hx_g21 : World.cell? _ ⟨g2, 1, none⟩ = some (.slice A0_1 q.length c0_1) := (blk_cell BKg2.out 1).trans rfl; have hf_g21 := blk_frozen BKg2.out 1))
    go_ret
    exact ⟨rfl, HB.out⟩
  obtain ⟨left1, left2, r1, r2, bq, k1, k2, m, Y1, Y2, Y3, Y4, L1, L2, hz1, hp1, hz2, hp2, hs, hi, hTA, hTB, hE, hEA, hEB, hM1, hM2, hk2, hMG, hm, hH⟩ := h.ok
  have c1b0 : decide (left1 < 0) = false := decide_eq_false (by omega)
  have c2b0 : decide (left2 < 0) = false := decide_eq_false (by omega)
  have c4b0 : decide (k2 < 0) = false := decide_eq_false (by omega)
  have c5b0 : decide (m < 0) = false := decide_eq_false (by omega)
  have c6b0 : (bq != bq) = false := bne_self_eq_false bq
  have FZ1 := Aside0.mk hz1
  have FZ2 := Aside0.mk hz2
  have Fs := Aside0.mk hs
  have Fi := Aside0.mk hi
  have FTA := Aside0.mk hTA
  have FTB := Aside0.mk hTB
  have FE := Aside0.mk hE
  have FEA := Aside0.mk hEA
  have FEB := Aside0.mk hEB
  have FM1 := Aside0.mk hM1
  have FM2 := Aside0.mk hM2
  have FMG := Aside0.mk hMG
  have FH := Aside0.mk hH
  clear h hz1 hp1 hz2 hp2 hs hi hTA hTB hE hEA hEB hM1 hM2 hk2 hMG hm hH
  go_enter Try.func3, Try.ntmps3
  go_wp2_with (first
    | (go_at_call 8; have hK := K3.out; (with_reducible refine (laws_szSeaweed.calls _ _ u _ _ v left1 left2 _ (Kd.C_below H2.out HB.out) C2.out (Kd.C_below H3.out HB.out) C3.out FZ2.out).mono ?_); rintro e w3_ ⟨rfl, hb⟩; clear hK K3; clear hx_g20 hf_g20 hx_g21 hf_g21 hx_g30 hf_g30 hx_g31 hf_g31; have n_g2 := Aside0.mk (blk_below BKg2.out hb); clear BKg2; have BKg2 := n_g2; clear n_g2; have n_g3 := Aside0.mk (blk_below BKg3.out hb); clear BKg3; have BKg3 := n_g3; clear n_g3; have nHB := Aside0.mk (below_step HB.out hb); clear HB; have HB := nHB; clear nHB; have K4 := Aside0.mk True.intro; have hx_g20 : World.cell? _ ⟨g2, 0, none⟩ = some (.slice A0_0 p.length c0_0) := (blk_cell BKg2.out 0).trans rfl; have hf_g20 := blk_frozen BKg2.out 0; have hx_g21 : World.cell? _ ⟨g2, 1, none⟩ = some (.slice A0_1 q.length c0_1) := (blk_cell BKg2.out 1).trans rfl; have hf_g21 := blk_frozen BKg2.out 1; have hx_g30 : World.cell? _ ⟨g3, 0, none⟩ = some (.slice A1_0 u.length c1_0) := (blk_cell BKg3.out 0).trans rfl; have hf_g30 := blk_frozen BKg3.out 0; have hx_g31 : World.cell? _ ⟨g3, 1, none⟩ = some (.slice A1_1 v.length c1_1) := (blk_cell BKg3.out 1).trans rfl; have hf_g31 := blk_frozen BKg3.out 1; clear hb)
    | (go_at_call 8; have hK := K2.out; (with_reducible refine (laws_szSeaweed.calls _ _ p _ _ q 1048576 left1 _ (Kd.C_below H0.out HB.out) C0.out (Kd.C_below H1.out HB.out) C1.out FZ1.out).mono ?_); rintro e w2_ ⟨rfl, hb⟩; clear hK K2; clear hx_g20 hf_g20 hx_g21 hf_g21 hx_g30 hf_g30 hx_g31 hf_g31; have n_g2 := Aside0.mk (blk_below BKg2.out hb); clear BKg2; have BKg2 := n_g2; clear n_g2; have n_g3 := Aside0.mk (blk_below BKg3.out hb); clear BKg3; have BKg3 := n_g3; clear n_g3; have nHB := Aside0.mk (below_step HB.out hb); clear HB; have HB := nHB; clear nHB; have K3 := Aside0.mk True.intro; have hx_g20 : World.cell? _ ⟨g2, 0, none⟩ = some (.slice A0_0 p.length c0_0) := (blk_cell BKg2.out 0).trans rfl; have hf_g20 := blk_frozen BKg2.out 0; have hx_g21 : World.cell? _ ⟨g2, 1, none⟩ = some (.slice A0_1 q.length c0_1) := (blk_cell BKg2.out 1).trans rfl; have hf_g21 := blk_frozen BKg2.out 1; have hx_g30 : World.cell? _ ⟨g3, 0, none⟩ = some (.slice A1_0 u.length c1_0) := (blk_cell BKg3.out 0).trans rfl; have hf_g30 := blk_frozen BKg3.out 0; have hx_g31 : World.cell? _ ⟨g3, 1, none⟩ = some (.slice A1_1 v.length c1_1) := (blk_cell BKg3.out 1).trans rfl; have hf_g31 := blk_frozen BKg3.out 1; clear hb)
    | ((with_reducible refine gate_dst (N := 3) rfl ?_); have hK := K1.out; refine box_event ?hg (N := 3) ?hd (cs := #[.slice A1_0 u.length c1_0, .slice A1_1 v.length c1_1]) (t := 24) ?hr ?_; (case hd => rfl); (case hg => rfl); (case hr => first | (go_simp; done) | (go_simp; rfl)); intro g3 hg w1_ hbox hb; clear hK K1; have GE_g3 := Aside0.mk ((by rw [hg]; exact HB.out.size) : w.heap.size ≤ g3); have NB_g2_g3 := Aside0.mk ((by rw [hg]; exact Nat.ne_of_lt (blk_lt BKg2.out)) : g2 ≠ g3); have hn_g2_g3 := NB_g2_g3.out; have hm_g2_g3 := NB_g2_g3.out.symm; clear hx_g20 hf_g20 hx_g21 hf_g21; have n_g2 := Aside0.mk (blk_below BKg2.out hb); clear BKg2; have BKg2 := n_g2; clear n_g2; have BKg3 := Aside0.mk hbox; have nHB := Aside0.mk (below_step HB.out hb); clear HB hbox hb hg; have HB := nHB; clear nHB; have K2 := Aside0.mk True.intro; have hx_g20 : World.cell? _ ⟨g2, 0, none⟩ = some (.slice A0_0 p.length c0_0) := (blk_cell BKg2.out 0).trans rfl; have hf_g20 := blk_frozen BKg2.out 0; have hx_g21 : World.cell? _ ⟨g2, 1, none⟩ = some (.slice A0_1 q.length c0_1) := (blk_cell BKg2.out 1).trans rfl; have hf_g21 := blk_frozen BKg2.out 1; have hx_g30 : World.cell? _ ⟨g3, 0, none⟩ = some (.slice A1_0 u.length c1_0) := (blk_cell BKg3.out 0).trans rfl; have hf_g30 := blk_frozen BKg3.out 0; have hx_g31 : World.cell? _ ⟨g3, 1, none⟩ = some (.slice A1_1 v.length c1_1) := (blk_cell BKg3.out 1).trans rfl; have hf_g31 := blk_frozen BKg3.out 1)
    | ((with_reducible refine gate_dst (N := 2) rfl ?_); have hK := K0.out; refine box_event ?hg (N := 2) ?hd (cs := #[.slice A0_0 p.length c0_0, .slice A0_1 q.length c0_1]) (t := 24) ?hr ?_; (case hd => rfl); (case hg => rfl); (case hr => first | (go_simp; done) | (go_simp; rfl)); intro g2 hg w0_ hbox hb; clear hK K0; have GE_g2 := Aside0.mk ((by rw [hg]; exact HB.out.size) : w.heap.size ≤ g2); have BKg2 := Aside0.mk hbox; have nHB := Aside0.mk (below_step HB.out hb); clear HB hbox hb hg; have HB := nHB; clear nHB; have K1 := Aside0.mk True.intro; have hx_g20 : World.cell? _ ⟨g2, 0, none⟩ = some (.slice A0_0 p.length c0_0) := (blk_cell BKg2.out 0).trans rfl; have hf_g20 := blk_frozen BKg2.out 0; have hx_g21 : World.cell? _ ⟨g2, 1, none⟩ = some (.slice A0_1 q.length c0_1) := (blk_cell BKg2.out 1).trans rfl; have hf_g21 := blk_frozen BKg2.out 1))
  clear hx_g20 hf_g20 hx_g21 hf_g21 hx_g30 hf_g30 hx_g31 hf_g31
  have n_g2 := Aside0.mk (blk_drew BKg2.out)
  clear BKg2
  have BKg2 := n_g2
  clear n_g2
  have n_g3 := Aside0.mk (blk_drew BKg3.out)
  clear BKg3
  have BKg3 := n_g3
  clear n_g3
  have nHB := Aside0.mk (below_drew1 HB.out)
  clear HB
  have HB := nHB
  clear nHB
  refine start_ (n := 11) (S := fun w' => True) (ds := []) #[false, false, false, false, false, false, false, false, false, false, false] (by kernel_rfl) rfl rfl trivial (fun hHeld => ?_); refine with_tabW laws_FnExactJoinSeaweeds.tab8 laws_FnExactJoinSeaweeds.bits8 (fun HT_ HW_ => ?_)
  generalize w3_.drew = wd4_ at BKg2 BKg3 HB hHeld ⊢
  refine inv_at [0, 1, 2, 3, 4, 5, 6, 7, 8, 9, 10] (fun a0_ b a w' => ∃ (va vb vc vd vx vy : Value) (gn : Nat), a = putSel a0_ b [(0, 28, .agg #[.slice A0_0 p.length c0_0, .slice A0_1 q.length c0_1]), (1, 29, .agg #[va, vb]), (2, 30, .agg #[.slice A1_0 u.length c1_0, .slice A1_1 v.length c1_1]), (3, 31, .agg #[vc, vd]), (4, 32, .tuple #[.agg #[vx, vy], .bool bq]), (5, 27, .tuple #[.agg #[vx, vy], .bool bq]), (6, 33, .agg #[vx, vy]), (7, 34, .bool bq), (8, 6, .pointer (some ⟨gn, 0, none⟩)), (10, 7, .bool bq)] ∧ (w'.heap[g2]? = some (.cells #[.slice A0_0 p.length c0_0, .slice A0_1 q.length c0_1] 24 (0, 0))) ∧ (w'.heap[g3]? = some (.cells #[.slice A1_0 u.length c1_0, .slice A1_1 v.length c1_1] 24 (0, 0))) ∧ (Below w.heap.size w w') ∧ (b 1 = true → b 9 = false → Kd.R (Kd.int .i64) 3 w' w.heap.size (fun _ => True) va p) ∧ (b 1 = true → b 9 = false → Kd.R (Kd.int .i64) 3 w' w.heap.size (fun _ => True) vb q) ∧ (b 3 = true → b 9 = false → Kd.R (Kd.int .i64) 3 w' w.heap.size (fun _ => True) vc u) ∧ (b 3 = true → b 9 = false → Kd.R (Kd.int .i64) 3 w' w.heap.size (fun _ => True) vd v) ∧ (b 4 = true → Kd.R (Kd.int .i64) 3 w' w.heap.size (fun k_ => some k_ = (vx : Value).ownBlock) (vx) r1) ∧ (b 4 = true → Kd.R (Kd.int .i64) 3 w' w.heap.size (fun k_ => some k_ = (vy : Value).ownBlock) (vy) r2) ∧ (b 4 = true → ∀ k_, some k_ = (vx : Value).ownBlock → ¬ some k_ = (vy : Value).ownBlock) ∧ (b 8 = true → (w.heap.size ≤ gn ∧ g2 ≠ gn ∧ g3 ≠ gn)) ∧ (b 8 = true → b 9 = false → w'.heap[gn]? = some (.cells #[.slice none 0 0, .slice none 0 0] 26 (0, 0))) ∧ (b 9 = true → w'.heap[gn]? = some (.cells #[vx, vy] 26 (0, 0)))) HT_.out HW_.out (by kernel_rfl) (by kernel_rfl) ?_ ?_ ?_
  · exact ⟨.bool false, .bool false, .bool false, .bool false, .bool false, .bool false, 0, by simp only [putSel, Bool.false_eq_true, if_false], BKg2.out, BKg3.out, HB.out, fun h_ => absurd h_ (by decide), fun h_ => absurd h_ (by decide), fun h_ => absurd h_ (by decide), fun h_ => absurd h_ (by decide), fun h_ => absurd h_ (by decide), fun h_ => absurd h_ (by decide), fun h_ => absurd h_ (by decide), fun h_ => absurd h_ (by decide), fun h_ => absurd h_ (by decide), fun h_ => absurd h_ (by decide)⟩
  · skip
    clear BKg2 BKg3 HB
    refine steps_cons ?_ ?_
    · rintro b a w' ⟨va, vb, vc, vd, vx, vy, gn, ha, QBg2, QBg3, QH, Qva, Qvb, Qvc, Qvd, QX, QY, QP, QG, QZ, QS⟩ hb_ hon hoff
      refine ⟨_, rfl, fun K hK => ?_⟩
      have e2 : a.tmps[2]? = some (.pointer (some ⟨g2, 0, none⟩)) := by rw [ha]; exact (putSel_off rfl).trans rfl
      replace ha := Aside0.mk ha
      have hc0_ : w'.cell? ⟨g2, 0, none⟩ = some (.slice A0_0 p.length c0_0) := (blk_cell QBg2 0).trans rfl
      have hc1_ : w'.cell? ⟨g2, 1, none⟩ = some (.slice A0_1 q.length c0_1) := (blk_cell QBg2 1).trans rfl
      refine value_ (w1 := w') (v := .agg #[.slice A0_0 p.length c0_0, .slice A0_1 q.length c0_1]) (by rfl) rfl ?_ ?_
      · go_simp
        (try simp only [i64_w])
        try rfl
      refine hK.out _ _ ⟨va, vb, vc, vd, vx, vy, gn, (by rw [ha.out]; exact putSel_upk 0 hb_ rfl rfl rfl), QBg2, QBg3, QH, Qva, Qvb, Qvc, Qvd, QX, QY, QP, QG, QZ, fun h0_ => absurd ((hoff 9 (by kernel_rfl)).symm.trans h0_) (by decide)⟩
    refine steps_cons ?_ ?_
    · rintro b a w' ⟨va, vb, vc, vd, vx, vy, gn, ha, QBg2, QBg3, QH, Qva, Qvb, Qvc, Qvd, QX, QY, QP, QG, QZ, QS⟩ hb_ hon hoff
      refine ⟨_, rfl, fun K hK => ?_⟩
      have e28 : a.tmps[28]? = some (.agg #[.slice A0_0 p.length c0_0, .slice A0_1 q.length c0_1]) := by rw [ha]; exact putSel_on (e := (0, 28, Value.agg #[.slice A0_0 p.length c0_0, .slice A0_1 q.length c0_1])) 0 rfl rfl (hon 0 (by kernel_rfl)) rfl
      replace ha := Aside0.mk ha
      have HBq := Aside0.mk QH
      refine goes_ Try.func10 (by kernel_rfl) rfl #[.agg #[.slice A0_0 p.length c0_0, .slice A0_1 q.length c0_1]] (by rfl) rfl rfl (by first | (simp only [List.map_toArray, List.map_cons, List.map_nil, Act.eval, Array.getD_eq_getD_getElem?, Option.getD_some, e28]; done) | (simp only [List.map_toArray, List.map_cons, List.map_nil, Act.eval, Array.getD_eq_getD_getElem?, Option.getD_some, e28]; rfl)) ?_
      refine (laws_toSeaweed.calls k _ _ p _ _ q p q _ (Kd.C_below H0.out HBq.out) C0.out (Kd.C_below H1.out HBq.out) C1.out FTA.out).mono ?_
      rintro e wn ⟨u1, u2, rfl, h1, h2, hb⟩
      refine ⟨_, rfl, ?_⟩
      refine hK.out _ _ ⟨u1, u2, vc, vd, vx, vy, gn, (by rw [ha.out]; exact putSel_upk 1 hb_ rfl rfl rfl), blk_below QBg2 hb, blk_below QBg3 hb, below_step QH hb, fun _ _ => Kd.R_mono (Kd.R_lower h1 QH.size) (fun _ _ => trivial), fun _ _ => Kd.R_mono (Kd.R_lower h2 QH.size) (fun _ _ => trivial), fun h1_ h2_ => Kd.R_below (Qvc h1_ h2_) hb, fun h1_ h2_ => Kd.R_below (Qvd h1_ h2_) hb, fun h1_ => Kd.R_below (QX h1_) hb, fun h1_ => Kd.R_below (QY h1_) hb, QP, QG, fun h1_ h2_ => blk_below (QZ h1_ h2_) hb, fun h0_ => absurd ((hoff 9 (by kernel_rfl)).symm.trans h0_) (by decide)⟩
    refine steps_cons ?_ ?_
    · rintro b a w' ⟨va, vb, vc, vd, vx, vy, gn, ha, QBg2, QBg3, QH, Qva, Qvb, Qvc, Qvd, QX, QY, QP, QG, QZ, QS⟩ hb_ hon hoff
      refine ⟨_, rfl, fun K hK => ?_⟩
      have e3 : a.tmps[3]? = some (.pointer (some ⟨g3, 0, none⟩)) := by rw [ha]; exact (putSel_off rfl).trans rfl
      replace ha := Aside0.mk ha
      have hc0_ : w'.cell? ⟨g3, 0, none⟩ = some (.slice A1_0 u.length c1_0) := (blk_cell QBg3 0).trans rfl
      have hc1_ : w'.cell? ⟨g3, 1, none⟩ = some (.slice A1_1 v.length c1_1) := (blk_cell QBg3 1).trans rfl
      refine value_ (w1 := w') (v := .agg #[.slice A1_0 u.length c1_0, .slice A1_1 v.length c1_1]) (by rfl) rfl ?_ ?_
      · go_simp
        (try simp only [i64_w])
        try rfl
      refine hK.out _ _ ⟨va, vb, vc, vd, vx, vy, gn, (by rw [ha.out]; exact putSel_upk 2 hb_ rfl rfl rfl), QBg2, QBg3, QH, Qva, Qvb, Qvc, Qvd, QX, QY, QP, QG, QZ, fun h0_ => absurd ((hoff 9 (by kernel_rfl)).symm.trans h0_) (by decide)⟩
    refine steps_cons ?_ ?_
    · rintro b a w' ⟨va, vb, vc, vd, vx, vy, gn, ha, QBg2, QBg3, QH, Qva, Qvb, Qvc, Qvd, QX, QY, QP, QG, QZ, QS⟩ hb_ hon hoff
      refine ⟨_, rfl, fun K hK => ?_⟩
      have e30 : a.tmps[30]? = some (.agg #[.slice A1_0 u.length c1_0, .slice A1_1 v.length c1_1]) := by rw [ha]; exact putSel_on (e := (2, 30, Value.agg #[.slice A1_0 u.length c1_0, .slice A1_1 v.length c1_1])) 2 rfl rfl (hon 2 (by kernel_rfl)) rfl
      replace ha := Aside0.mk ha
      have HBq := Aside0.mk QH
      refine goes_ Try.func10 (by kernel_rfl) rfl #[.agg #[.slice A1_0 u.length c1_0, .slice A1_1 v.length c1_1]] (by rfl) rfl rfl (by first | (simp only [List.map_toArray, List.map_cons, List.map_nil, Act.eval, Array.getD_eq_getD_getElem?, Option.getD_some, e30]; done) | (simp only [List.map_toArray, List.map_cons, List.map_nil, Act.eval, Array.getD_eq_getD_getElem?, Option.getD_some, e30]; rfl)) ?_
      refine (laws_toSeaweed.calls k _ _ u _ _ v u v _ (Kd.C_below H2.out HBq.out) C2.out (Kd.C_below H3.out HBq.out) C3.out FTB.out).mono ?_
      rintro e wn ⟨u1, u2, rfl, h1, h2, hb⟩
      refine ⟨_, rfl, ?_⟩
      refine hK.out _ _ ⟨va, vb, u1, u2, vx, vy, gn, (by rw [ha.out]; exact putSel_upk 3 hb_ rfl rfl rfl), blk_below QBg2 hb, blk_below QBg3 hb, below_step QH hb, fun h1_ h2_ => Kd.R_below (Qva h1_ h2_) hb, fun h1_ h2_ => Kd.R_below (Qvb h1_ h2_) hb, fun _ _ => Kd.R_mono (Kd.R_lower h1 QH.size) (fun _ _ => trivial), fun _ _ => Kd.R_mono (Kd.R_lower h2 QH.size) (fun _ _ => trivial), fun h1_ => Kd.R_below (QX h1_) hb, fun h1_ => Kd.R_below (QY h1_) hb, QP, QG, fun h1_ h2_ => blk_below (QZ h1_ h2_) hb, fun h0_ => absurd ((hoff 9 (by kernel_rfl)).symm.trans h0_) (by decide)⟩
    refine steps_cons ?_ ?_
    · rintro b a w' ⟨va, vb, vc, vd, vx, vy, gn, ha, QBg2, QBg3, QH, Qva, Qvb, Qvc, Qvd, QX, QY, QP, QG, QZ, QS⟩ hb_ hon hoff
      refine ⟨_, rfl, fun K hK => ?_⟩
      have e29 : a.tmps[29]? = some (.agg #[va, vb]) := by rw [ha]; exact putSel_on (e := (1, 29, Value.agg #[va, vb])) 1 rfl rfl (hon 1 (by kernel_rfl)) rfl
      have e31 : a.tmps[31]? = some (.agg #[vc, vd]) := by rw [ha]; exact putSel_on (e := (3, 31, Value.agg #[vc, vd])) 3 rfl rfl (hon 3 (by kernel_rfl)) rfl
      replace ha := Aside0.mk ha
      have hva := Aside0.mk (Qva (hon 1 (by kernel_rfl)) (hoff 9 (by kernel_rfl)))
      obtain ⟨Ava, cva, e_va⟩ := Kd.R_slice hva.out
      subst e_va
      have hvb := Aside0.mk (Qvb (hon 1 (by kernel_rfl)) (hoff 9 (by kernel_rfl)))
      obtain ⟨Avb, cvb, e_vb⟩ := Kd.R_slice hvb.out
      subst e_vb
      have hvc := Aside0.mk (Qvc (hon 3 (by kernel_rfl)) (hoff 9 (by kernel_rfl)))
      obtain ⟨Avc, cvc, e_vc⟩ := Kd.R_slice hvc.out
      subst e_vc
      have hvd := Aside0.mk (Qvd (hon 3 (by kernel_rfl)) (hoff 9 (by kernel_rfl)))
      obtain ⟨Avd, cvd, e_vd⟩ := Kd.R_slice hvd.out
      subst e_vd
      refine goes_ Try.func9 (by kernel_rfl) rfl #[.agg #[.slice Ava p.length cva, .slice Avb q.length cvb], .agg #[.slice Avc u.length cvc, .slice Avd v.length cvd]] (by rfl) rfl rfl (by first | (simp only [List.map_toArray, List.map_cons, List.map_nil, Act.eval, Array.getD_eq_getD_getElem?, Option.getD_some, e29, e31]; done) | (simp only [List.map_toArray, List.map_cons, List.map_nil, Act.eval, Array.getD_eq_getD_getElem?, Option.getD_some, e29, e31]; rfl)) ?_
      refine (spec_JoinSeaweeds.calls k _ _ p _ _ q _ _ u _ _ v r1 r2 bq _ (Kd.R_reads' hva.out).2.2 (Kd.R_reads' hva.out).2.1 (Kd.R_reads' hvb.out).2.2 (Kd.R_reads' hvb.out).2.1 (Kd.R_reads' hvc.out).2.2 (Kd.R_reads' hvc.out).2.1 (Kd.R_reads' hvd.out).2.2 (Kd.R_reads' hvd.out).2.1 Fs.out).mono ?_
      rintro e wn ⟨u1, u2, rfl, h1, h2, hb⟩
      refine ⟨_, rfl, ?_⟩
      refine hK.out _ _ ⟨.slice Ava p.length cva, .slice Avb q.length cvb, .slice Avc u.length cvc, .slice Avd v.length cvd, u1, u2, gn, (by rw [ha.out]; exact Eq.trans (putSel_upk 4 hb_ rfl rfl rfl) (Eq.trans (putSel_chg 5 (up_off (hoff 5 (by kernel_rfl)) (by decide)) rfl rfl) (putSel_chg 6 (up_off (hoff 6 (by kernel_rfl)) (by decide)) rfl rfl))), blk_below QBg2 hb, blk_below QBg3 hb, below_step QH hb, fun h1_ h2_ => Kd.R_below (Qva h1_ h2_) hb, fun h1_ h2_ => Kd.R_below (Qvb h1_ h2_) hb, fun h1_ h2_ => Kd.R_below (Qvc h1_ h2_) hb, fun h1_ h2_ => Kd.R_below (Qvd h1_ h2_) hb, fun _ => Kd.R_tight rfl (Kd.R_lower h1 QH.size), fun _ => Kd.R_tight rfl (Kd.R_lower h2 QH.size), fun _ => apart2 h1, QG, fun h1_ h2_ => blk_below (QZ h1_ h2_) hb, fun h0_ => absurd ((hoff 9 (by kernel_rfl)).symm.trans h0_) (by decide)⟩
    refine steps_cons ?_ ?_
    · rintro b a w' ⟨va, vb, vc, vd, vx, vy, gn, ha, QBg2, QBg3, QH, Qva, Qvb, Qvc, Qvd, QX, QY, QP, QG, QZ, QS⟩ hb_ hon hoff
      refine ⟨_, rfl, fun K hK => ?_⟩
      have e32 : a.tmps[32]? = some (.tuple #[.agg #[vx, vy], .bool bq]) := by rw [ha]; exact putSel_on (e := (4, 32, Value.tuple #[.agg #[vx, vy], .bool bq])) 4 rfl rfl (hon 4 (by kernel_rfl)) rfl
      replace ha := Aside0.mk ha
      refine value_ (w1 := w') (v := .tuple #[.agg #[vx, vy], .bool bq]) (by rfl) rfl ?_ ?_
      · go_simp
        (try simp only [i64_w])
        try rfl
      refine hK.out _ _ ⟨va, vb, vc, vd, vx, vy, gn, (by rw [ha.out]; exact putSel_upk 5 hb_ rfl rfl rfl), QBg2, QBg3, QH, Qva, Qvb, Qvc, Qvd, QX, QY, QP, QG, QZ, fun h0_ => absurd ((hoff 9 (by kernel_rfl)).symm.trans h0_) (by decide)⟩
    refine steps_cons ?_ ?_
    · rintro b a w' ⟨va, vb, vc, vd, vx, vy, gn, ha, QBg2, QBg3, QH, Qva, Qvb, Qvc, Qvd, QX, QY, QP, QG, QZ, QS⟩ hb_ hon hoff
      refine ⟨_, rfl, fun K hK => ?_⟩
      have e27 : a.tmps[27]? = some (.tuple #[.agg #[vx, vy], .bool bq]) := by rw [ha]; exact putSel_on (e := (5, 27, Value.tuple #[.agg #[vx, vy], .bool bq])) 5 rfl rfl (hon 5 (by kernel_rfl)) rfl
      replace ha := Aside0.mk ha
      refine value_ (w1 := w') (v := .agg #[vx, vy]) (by rfl) rfl ?_ ?_
      · go_simp
        (try simp only [i64_w])
        try rfl
      refine hK.out _ _ ⟨va, vb, vc, vd, vx, vy, gn, (by rw [ha.out]; exact putSel_upk 6 hb_ rfl rfl rfl), QBg2, QBg3, QH, Qva, Qvb, Qvc, Qvd, QX, QY, QP, QG, QZ, fun h0_ => absurd ((hoff 9 (by kernel_rfl)).symm.trans h0_) (by decide)⟩
    refine steps_cons ?_ ?_
    · rintro b a w' ⟨va, vb, vc, vd, vx, vy, gn, ha, QBg2, QBg3, QH, Qva, Qvb, Qvc, Qvd, QX, QY, QP, QG, QZ, QS⟩ hb_ hon hoff
      refine ⟨_, rfl, fun K hK => ?_⟩
      have e27 : a.tmps[27]? = some (.tuple #[.agg #[vx, vy], .bool bq]) := by rw [ha]; exact putSel_on (e := (5, 27, Value.tuple #[.agg #[vx, vy], .bool bq])) 5 rfl rfl (hon 5 (by kernel_rfl)) rfl
      replace ha := Aside0.mk ha
      refine value_ (w1 := w') (v := .bool bq) (by rfl) rfl ?_ ?_
      · go_simp
        (try simp only [i64_w])
        try rfl
      refine hK.out _ _ ⟨va, vb, vc, vd, vx, vy, gn, (by rw [ha.out]; exact putSel_upk 7 hb_ rfl rfl rfl), QBg2, QBg3, QH, Qva, Qvb, Qvc, Qvd, QX, QY, QP, QG, QZ, QS⟩
    refine steps_cons ?_ ?_
    · rintro b a w' ⟨va, vb, vc, vd, vx, vy, gn, ha, QBg2, QBg3, QH, Qva, Qvb, Qvc, Qvd, QX, QY, QP, QG, QZ, QS⟩ hb_ hon hoff
      refine ⟨_, rfl, fun K hK => ?_⟩
      replace ha := Aside0.mk ha
      refine box_step ?hg (N := 6) ?hd (cs := #[.slice none 0 0, .slice none 0 0]) (t := 26) ?hr ?_; (case hd => rfl); (case hg => rfl); (case hr => first | (go_simp; done) | (go_simp; rfl))
      intro gq hg wn hbox hb
      refine hK.out _ _ ⟨va, vb, vc, vd, vx, vy, gq, (by rw [ha.out]; exact putSel_upk 8 hb_ rfl rfl rfl), blk_below QBg2 hb, blk_below QBg3 hb, below_step QH hb, fun h1_ h2_ => Kd.R_below (Qva h1_ h2_) hb, fun h1_ h2_ => Kd.R_below (Qvb h1_ h2_) hb, fun h1_ h2_ => Kd.R_below (Qvc h1_ h2_) hb, fun h1_ h2_ => Kd.R_below (Qvd h1_ h2_) hb, fun h1_ => Kd.R_below (QX h1_) hb, fun h1_ => Kd.R_below (QY h1_) hb, QP, fun _ => ⟨by rw [hg]; exact QH.size, by rw [hg]; exact Nat.ne_of_lt (blk_lt QBg2), by rw [hg]; exact Nat.ne_of_lt (blk_lt QBg3)⟩, fun _ _ => hbox, fun h0_ => absurd ((hoff 9 (by kernel_rfl)).symm.trans h0_) (by decide)⟩
    refine steps_cons ?_ ?_
    · rintro b a w' ⟨va, vb, vc, vd, vx, vy, gn, ha, QBg2, QBg3, QH, Qva, Qvb, Qvc, Qvd, QX, QY, QP, QG, QZ, QS⟩ hb_ hon hoff
      refine ⟨_, rfl, fun K hK => ?_⟩
      have e6 : a.tmps[6]? = some (.pointer (some ⟨gn, 0, none⟩)) := by rw [ha]; exact putSel_on (e := (8, 6, Value.pointer (some ⟨gn, 0, none⟩))) 8 rfl rfl (hon 8 (by kernel_rfl)) rfl
      have e33 : a.tmps[33]? = some (.agg #[vx, vy]) := by rw [ha]; exact putSel_on (e := (6, 33, Value.agg #[vx, vy])) 6 rfl rfl (hon 6 (by kernel_rfl)) rfl
      replace ha := Aside0.mk ha
      obtain ⟨hg0, hg_g2, hg_g3⟩ := QG (hon 8 (by kernel_rfl))
      have hz := QZ (hon 8 (by kernel_rfl)) hb_
      have HOX := Aside0.mk (QX (hon 4 (by kernel_rfl)))
      have HOY := Aside0.mk (QY (hon 4 (by kernel_rfl)))
      obtain ⟨AX, cX, eX⟩ := Kd.R_slice HOX.out
      subst eX
      obtain ⟨AY, cY, eY⟩ := Kd.R_slice HOY.out
      subst eY
      have hs0 : w'.cell? ⟨gn, 0, none⟩ = some (.slice none 0 0) := (blk_cell hz 0).trans rfl
      have hs1 : w'.cell? ⟨gn, 1, none⟩ = some (.slice none 0 0) := (blk_cell hz 1).trans rfl
      have hf0 := blk_frozen hz 0
      have hf1 := blk_frozen hz 1
      have A_hg0 := Aside0.mk hg0
      clear hg0
      have A_hg_g2 := Aside0.mk hg_g2
      clear hg_g2
      have A_hg_g3 := Aside0.mk hg_g3
      clear hg_g3
      have ZZ := Aside0.mk hz
      clear hz
      refine skip_ (w1 := ?_) (by rfl) rfl ?_ ?_
      rotate_left
      · go_simp
        rfl
      refine hK.out _ _ ⟨va, vb, vc, vd, .slice AX r1.length cX, .slice AY r2.length cY, gn, (by rw [ha.out]; exact putSel_none (v := undef) rfl), blk_far (p := ⟨gn, 1, none⟩) (blk_far (p := ⟨gn, 0, none⟩) QBg2 A_hg_g2.out _) A_hg_g2.out _, blk_far (p := ⟨gn, 1, none⟩) (blk_far (p := ⟨gn, 0, none⟩) QBg3 A_hg_g3.out _) A_hg_g3.out _, below_set (below_set QH A_hg0.out) A_hg0.out, fun _ h0_ => absurd ((up_self b 9).symm.trans h0_) (by decide), fun _ h0_ => absurd ((up_self b 9).symm.trans h0_) (by decide), fun _ h0_ => absurd ((up_self b 9).symm.trans h0_) (by decide), fun _ h0_ => absurd ((up_self b 9).symm.trans h0_) (by decide), fun _ => Kd.R_tight rfl (Kd.R_far (p := ⟨gn, 1, none⟩) (Kd.R_far (p := ⟨gn, 0, none⟩) (Kd.R_types HOX.out ZZ.out (by decide)) (fun _ hk => hk.2) _) (fun _ hk => hk.2) _), fun _ => Kd.R_tight rfl (Kd.R_far (p := ⟨gn, 1, none⟩) (Kd.R_far (p := ⟨gn, 0, none⟩) (Kd.R_types HOY.out ZZ.out (by decide)) (fun _ hk => hk.2) _) (fun _ hk => hk.2) _), QP, QG, fun _ h0_ => absurd ((up_self b 9).symm.trans h0_) (by decide), fun _ => blk_put (cs := #[.slice AX r1.length cX, .slice none 0 0]) (blk_put (cs := #[.slice none 0 0, .slice none 0 0]) ZZ.out 0 _ rfl) 1 _ rfl⟩
    refine steps_cons ?_ ?_
    · rintro b a w' ⟨va, vb, vc, vd, vx, vy, gn, ha, QBg2, QBg3, QH, Qva, Qvb, Qvc, Qvd, QX, QY, QP, QG, QZ, QS⟩ hb_ hon hoff
      refine ⟨_, rfl, fun K hK => ?_⟩
      have e34 : a.tmps[34]? = some (.bool bq) := by rw [ha]; exact putSel_on (e := (7, 34, Value.bool bq)) 7 rfl rfl (hon 7 (by kernel_rfl)) rfl
      replace ha := Aside0.mk ha
      refine value_ (w1 := w') (v := .bool bq) (by rfl) rfl ?_ ?_
      · go_simp
        (try simp only [i64_w])
        try rfl
      refine hK.out _ _ ⟨va, vb, vc, vd, vx, vy, gn, (by rw [ha.out]; exact putSel_upk 9 hb_ rfl rfl rfl), QBg2, QBg3, QH, Qva, Qvb, Qvc, Qvd, QX, QY, QP, QG, QZ, QS⟩
    exact steps_nil
  rintro b a we4_ hall ⟨va, vb, vc, vd, vx, vy, g6, ha, QBg2, QBg3, QH, Qva, Qvb, Qvc, Qvd, QX, QY, QP, QG, QZ, QS⟩
  have hb0_ := hall 0 (by kernel_rfl)
  have hb1_ := hall 1 (by kernel_rfl)
  have hb2_ := hall 2 (by kernel_rfl)
  have hb3_ := hall 3 (by kernel_rfl)
  have hb4_ := hall 4 (by kernel_rfl)
  have hb5_ := hall 5 (by kernel_rfl)
  have hb6_ := hall 6 (by kernel_rfl)
  have hb7_ := hall 7 (by kernel_rfl)
  have hb8_ := hall 8 (by kernel_rfl)
  have hb9_ := hall 9 (by kernel_rfl)
  have hb10_ := hall 10 (by kernel_rfl)
  subst ha
  simp only [putSel, hb0_, hb1_, hb2_, hb3_, hb4_, hb5_, hb6_, hb7_, hb8_, hb9_, hb10_, if_true, Act.put, List.setIfInBounds_toArray, List.set_cons_zero, List.set_cons_succ]
  clear BKg2 BKg3 HB hHeld
  have BKg2 := Aside0.mk QBg2
  have BKg3 := Aside0.mk QBg3
  have HB := Aside0.mk QH
  have W1 := Aside0.mk (QX hb4_)
  have W2 := Aside0.mk (QY hb4_)
  have AP_W1_W2 := Aside0.mk (QP hb4_)
  have BKg6 := Aside0.mk (QS hb9_)
  obtain ⟨hg0, hg_g2, hg_g3⟩ := QG hb8_
  have GE_g6 := Aside0.mk hg0
  have NB_g2_g6 := Aside0.mk hg_g2
  have NB_g3_g6 := Aside0.mk hg_g3
  clear QBg2 QBg3 QH Qva Qvb Qvc Qvd QX QY QP QG QZ QS hg0 hg_g2 hg_g3 hall hb0_ hb1_ hb2_ hb3_ hb4_ hb5_ hb6_ hb7_ hb8_ hb9_ hb10_
  obtain ⟨AW1, cW1, eX⟩ := Kd.R_slice W1.out
  subst eX
  obtain ⟨AW2, cW2, eY⟩ := Kd.R_slice W2.out
  subst eY
  have nK := Aside0.mk True.intro
  clear K4
  have K5 := nK
  clear nK
  have hn_g2_g6 := NB_g2_g6.out
  have hm_g2_g6 := NB_g2_g6.out.symm
  have hn_g3_g6 := NB_g3_g6.out
  have hm_g3_g6 := NB_g3_g6.out.symm
  have hx_g20 : World.cell? _ ⟨g2, 0, none⟩ = some (.slice A0_0 p.length c0_0) := (blk_cell BKg2.out 0).trans rfl
  have hf_g20 := blk_frozen BKg2.out 0
  have hx_g21 : World.cell? _ ⟨g2, 1, none⟩ = some (.slice A0_1 q.length c0_1) := (blk_cell BKg2.out 1).trans rfl
  have hf_g21 := blk_frozen BKg2.out 1
  have hx_g30 : World.cell? _ ⟨g3, 0, none⟩ = some (.slice A1_0 u.length c1_0) := (blk_cell BKg3.out 0).trans rfl
  have hf_g30 := blk_frozen BKg3.out 0
  have hx_g31 : World.cell? _ ⟨g3, 1, none⟩ = some (.slice A1_1 v.length c1_1) := (blk_cell BKg3.out 1).trans rfl
  have hf_g31 := blk_frozen BKg3.out 1
  have hx_g60 : World.cell? _ ⟨g6, 0, none⟩ = some (.slice AW1 r1.length cW1) := (blk_cell BKg6.out 0).trans rfl
  have hf_g60 := blk_frozen BKg6.out 0
  have hx_g61 : World.cell? _ ⟨g6, 1, none⟩ = some (.slice AW2 r2.length cW2) := (blk_cell BKg6.out 1).trans rfl
  have hf_g61 := blk_frozen BKg6.out 1
  go_wp2_with (first
    | (go_at_call 12; have hK := K11.out; clear hx_g20 hf_g20 hx_g21 hf_g21 hx_g30 hf_g30 hx_g31 hf_g31 hx_g60 hf_g60 hx_g61 hf_g61 hx_g80 hf_g80 hx_g81 hf_g81 hx_g90 hf_g90 hx_g91 hf_g91 hx_g100 hf_g100 hx_g101 hf_g101; have n_W1 := Aside0.mk (Kd.R_tight rfl (Kd.R_far (p := ⟨g10, 1, none⟩) (Kd.R_far (p := ⟨g10, 0, none⟩) (Kd.R_types W1.out BKg10.out (by decide)) (fun _ hk => hk.2) (.slice AG1 r1.length cG1)) (fun _ hk => hk.2) (.slice AG2 r2.length cG2))); have n_W2 := Aside0.mk (Kd.R_tight rfl (Kd.R_far (p := ⟨g10, 1, none⟩) (Kd.R_far (p := ⟨g10, 0, none⟩) (Kd.R_types W2.out BKg10.out (by decide)) (fun _ hk => hk.2) (.slice AG1 r1.length cG1)) (fun _ hk => hk.2) (.slice AG2 r2.length cG2))); have n_X1 := Aside0.mk (Kd.R_tight rfl (Kd.R_far (p := ⟨g10, 1, none⟩) (Kd.R_far (p := ⟨g10, 0, none⟩) (Kd.R_types X1.out BKg10.out (by decide)) (fun _ hk => hk.2) (.slice AG1 r1.length cG1)) (fun _ hk => hk.2) (.slice AG2 r2.length cG2))); have n_X2 := Aside0.mk (Kd.R_tight rfl (Kd.R_far (p := ⟨g10, 1, none⟩) (Kd.R_far (p := ⟨g10, 0, none⟩) (Kd.R_types X2.out BKg10.out (by decide)) (fun _ hk => hk.2) (.slice AG1 r1.length cG1)) (fun _ hk => hk.2) (.slice AG2 r2.length cG2))); have n_X3 := Aside0.mk (Kd.R_tight rfl (Kd.R_far (p := ⟨g10, 1, none⟩) (Kd.R_far (p := ⟨g10, 0, none⟩) (Kd.R_types X3.out BKg10.out (by decide)) (fun _ hk => hk.2) (.slice AG1 r1.length cG1)) (fun _ hk => hk.2) (.slice AG2 r2.length cG2))); have n_X4 := Aside0.mk (Kd.R_tight rfl (Kd.R_far (p := ⟨g10, 1, none⟩) (Kd.R_far (p := ⟨g10, 0, none⟩) (Kd.R_types X4.out BKg10.out (by decide)) (fun _ hk => hk.2) (.slice AG1 r1.length cG1)) (fun _ hk => hk.2) (.slice AG2 r2.length cG2))); have n_G1 := Aside0.mk (Kd.R_tight rfl (Kd.R_far (p := ⟨g10, 1, none⟩) (Kd.R_far (p := ⟨g10, 0, none⟩) (Kd.R_types G1.out BKg10.out (by decide)) (fun _ hk => hk.2) (.slice AG1 r1.length cG1)) (fun _ hk => hk.2) (.slice AG2 r2.length cG2))); have n_G2 := Aside0.mk (Kd.R_tight rfl (Kd.R_far (p := ⟨g10, 1, none⟩) (Kd.R_far (p := ⟨g10, 0, none⟩) (Kd.R_types G2.out BKg10.out (by decide)) (fun _ hk => hk.2) (.slice AG1 r1.length cG1)) (fun _ hk => hk.2) (.slice AG2 r2.length cG2))); have n_g2 := Aside0.mk (blk_far (p := ⟨g10, 1, none⟩) (blk_far (p := ⟨g10, 0, none⟩) BKg2.out NB_g2_g10.out (.slice AG1 r1.length cG1)) NB_g2_g10.out (.slice AG2 r2.length cG2)); have n_g3 := Aside0.mk (blk_far (p := ⟨g10, 1, none⟩) (blk_far (p := ⟨g10, 0, none⟩) BKg3.out NB_g3_g10.out (.slice AG1 r1.length cG1)) NB_g3_g10.out (.slice AG2 r2.length cG2)); have n_g6 := Aside0.mk (blk_far (p := ⟨g10, 1, none⟩) (blk_far (p := ⟨g10, 0, none⟩) BKg6.out NB_g6_g10.out (.slice AG1 r1.length cG1)) NB_g6_g10.out (.slice AG2 r2.length cG2)); have n_g8 := Aside0.mk (blk_far (p := ⟨g10, 1, none⟩) (blk_far (p := ⟨g10, 0, none⟩) BKg8.out NB_g8_g10.out (.slice AG1 r1.length cG1)) NB_g8_g10.out (.slice AG2 r2.length cG2)); have n_g9 := Aside0.mk (blk_far (p := ⟨g10, 1, none⟩) (blk_far (p := ⟨g10, 0, none⟩) BKg9.out NB_g9_g10.out (.slice AG1 r1.length cG1)) NB_g9_g10.out (.slice AG2 r2.length cG2)); have n_g10 := Aside0.mk (blk_put (cs := #[.slice AG1 r1.length cG1, .slice none 0 0]) (blk_put (cs := #[.slice none 0 0, .slice none 0 0]) BKg10.out 0 (.slice AG1 r1.length cG1) rfl) 1 (.slice AG2 r2.length cG2) rfl); have nHB := Aside0.mk (below_set (g := g10) (j := 1) (v := .slice AG2 r2.length cG2) (below_set (g := g10) (j := 0) (v := .slice AG1 r1.length cG1) HB.out GE_g10.out) GE_g10.out); clear W1; have W1 := n_W1; clear n_W1; clear W2; have W2 := n_W2; clear n_W2; clear X1; have X1 := n_X1; clear n_X1; clear X2; have X2 := n_X2; clear n_X2; clear X3; have X3 := n_X3; clear n_X3; clear X4; have X4 := n_X4; clear n_X4; clear G1; have G1 := n_G1; clear n_G1; clear G2; have G2 := n_G2; clear n_G2; clear BKg2; have BKg2 := n_g2; clear n_g2; clear BKg3; have BKg3 := n_g3; clear n_g3; clear BKg6; have BKg6 := n_g6; clear n_g6; clear BKg8; have BKg8 := n_g8; clear n_g8; clear BKg9; have BKg9 := n_g9; clear n_g9; clear BKg10; have BKg10 := n_g10; clear n_g10; clear HB; have HB := nHB; clear nHB; (with_reducible refine (laws_eqSeaweed.calls k _ _ r1 _ _ r2 _ _ r1 _ _ r2 true _ (Kd.R_reads' G1.out).2.2 (Kd.R_reads' G1.out).2.1 (Kd.R_reads' G2.out).2.2 (Kd.R_reads' G2.out).2.1 (Kd.R_reads' W1.out).2.2 (Kd.R_reads' W1.out).2.1 (Kd.R_reads' W2.out).2.2 (Kd.R_reads' W2.out).2.1 FE.out).mono ?_); rintro e w11_ ⟨rfl, hb⟩; clear hK K11; have n_W1 := Aside0.mk (Kd.R_below W1.out hb); clear W1; have W1 := n_W1; clear n_W1; have n_W2 := Aside0.mk (Kd.R_below W2.out hb); clear W2; have W2 := n_W2; clear n_W2; have n_X1 := Aside0.mk (Kd.R_below X1.out hb); clear X1; have X1 := n_X1; clear n_X1; have n_X2 := Aside0.mk (Kd.R_below X2.out hb); clear X2; have X2 := n_X2; clear n_X2; have n_X3 := Aside0.mk (Kd.R_below X3.out hb); clear X3; have X3 := n_X3; clear n_X3; have n_X4 := Aside0.mk (Kd.R_below X4.out hb); clear X4; have X4 := n_X4; clear n_X4; have n_G1 := Aside0.mk (Kd.R_below G1.out hb); clear G1; have G1 := n_G1; clear n_G1; have n_G2 := Aside0.mk (Kd.R_below G2.out hb); clear G2; have G2 := n_G2; clear n_G2; have n_g2 := Aside0.mk (blk_below BKg2.out hb); clear BKg2; have BKg2 := n_g2; clear n_g2; have n_g3 := Aside0.mk (blk_below BKg3.out hb); clear BKg3; have BKg3 := n_g3; clear n_g3; have n_g6 := Aside0.mk (blk_below BKg6.out hb); clear BKg6; have BKg6 := n_g6; clear n_g6; have n_g8 := Aside0.mk (blk_below BKg8.out hb); clear BKg8; have BKg8 := n_g8; clear n_g8; have n_g9 := Aside0.mk (blk_below BKg9.out hb); clear BKg9; have BKg9 := n_g9; clear n_g9; have n_g10 := Aside0.mk (blk_below BKg10.out hb); clear BKg10; have BKg10 := n_g10; clear n_g10; have nHB := Aside0.mk (below_step HB.out hb); clear HB; have HB := nHB; clear nHB; have K12 := Aside0.mk True.intro; have hx_g20 : World.cell? _ ⟨g2, 0, none⟩ = some (.slice A0_0 p.length c0_0) := (blk_cell BKg2.out 0).trans rfl; have hf_g20 := blk_frozen BKg2.out 0; have hx_g21 : World.cell? _ ⟨g2, 1, none⟩ = some (.slice A0_1 q.length c0_1) := (blk_cell BKg2.out 1).trans rfl; have hf_g21 := blk_frozen BKg2.out 1; have hx_g30 : World.cell? _ ⟨g3, 0, none⟩ = some (.slice A1_0 u.length c1_0) := (blk_cell BKg3.out 0).trans rfl; have hf_g30 := blk_frozen BKg3.out 0; have hx_g31 : World.cell? _ ⟨g3, 1, none⟩ = some (.slice A1_1 v.length c1_1) := (blk_cell BKg3.out 1).trans rfl; have hf_g31 := blk_frozen BKg3.out 1; have hx_g60 : World.cell? _ ⟨g6, 0, none⟩ = some (.slice AW1 r1.length cW1) := (blk_cell BKg6.out 0).trans rfl; have hf_g60 := blk_frozen BKg6.out 0; have hx_g61 : World.cell? _ ⟨g6, 1, none⟩ = some (.slice AW2 r2.length cW2) := (blk_cell BKg6.out 1).trans rfl; have hf_g61 := blk_frozen BKg6.out 1; have hx_g80 : World.cell? _ ⟨g8, 0, none⟩ = some (.slice AX1 p.length cX1) := (blk_cell BKg8.out 0).trans rfl; have hf_g80 := blk_frozen BKg8.out 0; have hx_g81 : World.cell? _ ⟨g8, 1, none⟩ = some (.slice AX2 q.length cX2) := (blk_cell BKg8.out 1).trans rfl; have hf_g81 := blk_frozen BKg8.out 1; have hx_g90 : World.cell? _ ⟨g9, 0, none⟩ = some (.slice AX3 u.length cX3) := (blk_cell BKg9.out 0).trans rfl; have hf_g90 := blk_frozen BKg9.out 0; have hx_g91 : World.cell? _ ⟨g9, 1, none⟩ = some (.slice AX4 v.length cX4) := (blk_cell BKg9.out 1).trans rfl; have hf_g91 := blk_frozen BKg9.out 1; have hx_g100 : World.cell? _ ⟨g10, 0, none⟩ = some (.slice AG1 r1.length cG1) := (blk_cell BKg10.out 0).trans rfl; have hf_g100 := blk_frozen BKg10.out 0; have hx_g101 : World.cell? _ ⟨g10, 1, none⟩ = some (.slice AG2 r2.length cG2) := (blk_cell BKg10.out 1).trans rfl; have hf_g101 := blk_frozen BKg10.out 1; clear hb)
    | ((with_reducible refine gate_dst (N := 10) rfl ?_); have hK := K10.out; refine box_event ?hg (N := 10) ?hd (cs := #[.slice none 0 0, .slice none 0 0]) (t := 26) ?hr ?_; (case hd => rfl); (case hg => rfl); (case hr => first | (go_simp; done) | (go_simp; rfl)); intro g10 hg w10_ hbox hb; clear hK K10; have GE_g10 := Aside0.mk ((by rw [hg]; exact HB.out.size) : w.heap.size ≤ g10); have NB_g2_g10 := Aside0.mk ((by rw [hg]; exact Nat.ne_of_lt (blk_lt BKg2.out)) : g2 ≠ g10); have hn_g2_g10 := NB_g2_g10.out; have hm_g2_g10 := NB_g2_g10.out.symm; have NB_g3_g10 := Aside0.mk ((by rw [hg]; exact Nat.ne_of_lt (blk_lt BKg3.out)) : g3 ≠ g10); have hn_g3_g10 := NB_g3_g10.out; have hm_g3_g10 := NB_g3_g10.out.symm; have NB_g6_g10 := Aside0.mk ((by rw [hg]; exact Nat.ne_of_lt (blk_lt BKg6.out)) : g6 ≠ g10); have hn_g6_g10 := NB_g6_g10.out; have hm_g6_g10 := NB_g6_g10.out.symm; have NB_g8_g10 := Aside0.mk ((by rw [hg]; exact Nat.ne_of_lt (blk_lt BKg8.out)) : g8 ≠ g10); have hn_g8_g10 := NB_g8_g10.out; have hm_g8_g10 := NB_g8_g10.out.symm; have NB_g9_g10 := Aside0.mk ((by rw [hg]; exact Nat.ne_of_lt (blk_lt BKg9.out)) : g9 ≠ g10); have hn_g9_g10 := NB_g9_g10.out; have hm_g9_g10 := NB_g9_g10.out.symm; clear hx_g20 hf_g20 hx_g21 hf_g21 hx_g30 hf_g30 hx_g31 hf_g31 hx_g60 hf_g60 hx_g61 hf_g61 hx_g80 hf_g80 hx_g81 hf_g81 hx_g90 hf_g90 hx_g91 hf_g91; have n_W1 := Aside0.mk (Kd.R_below W1.out hb); clear W1; have W1 := n_W1; clear n_W1; have n_W2 := Aside0.mk (Kd.R_below W2.out hb); clear W2; have W2 := n_W2; clear n_W2; have n_X1 := Aside0.mk (Kd.R_below X1.out hb); clear X1; have X1 := n_X1; clear n_X1; have n_X2 := Aside0.mk (Kd.R_below X2.out hb); clear X2; have X2 := n_X2; clear n_X2; have n_X3 := Aside0.mk (Kd.R_below X3.out hb); clear X3; have X3 := n_X3; clear n_X3; have n_X4 := Aside0.mk (Kd.R_below X4.out hb); clear X4; have X4 := n_X4; clear n_X4; have n_G1 := Aside0.mk (Kd.R_below G1.out hb); clear G1; have G1 := n_G1; clear n_G1; have n_G2 := Aside0.mk (Kd.R_below G2.out hb); clear G2; have G2 := n_G2; clear n_G2; have n_g2 := Aside0.mk (blk_below BKg2.out hb); clear BKg2; have BKg2 := n_g2; clear n_g2; have n_g3 := Aside0.mk (blk_below BKg3.out hb); clear BKg3; have BKg3 := n_g3; clear n_g3; have n_g6 := Aside0.mk (blk_below BKg6.out hb); clear BKg6; have BKg6 := n_g6; clear n_g6; have n_g8 := Aside0.mk (blk_below BKg8.out hb); clear BKg8; have BKg8 := n_g8; clear n_g8; have n_g9 := Aside0.mk (blk_below BKg9.out hb); clear BKg9; have BKg9 := n_g9; clear n_g9; have BKg10 := Aside0.mk hbox; have nHB := Aside0.mk (below_step HB.out hb); clear HB hbox hb hg; have HB := nHB; clear nHB; have K11 := Aside0.mk True.intro; have hx_g20 : World.cell? _ ⟨g2, 0, none⟩ = some (.slice A0_0 p.length c0_0) := (blk_cell BKg2.out 0).trans rfl; have hf_g20 := blk_frozen BKg2.out 0; have hx_g21 : World.cell? _ ⟨g2, 1, none⟩ = some (.slice A0_1 q.length c0_1) := (blk_cell BKg2.out 1).trans rfl; have hf_g21 := blk_frozen BKg2.out 1; have hx_g30 : World.cell? _ ⟨g3, 0, none⟩ = some (.slice A1_0 u.length c1_0) := (blk_cell BKg3.out 0).trans rfl; have hf_g30 := blk_frozen BKg3.out 0; have hx_g31 : World.cell? _ ⟨g3, 1, none⟩ = some (.slice A1_1 v.length c1_1) := (blk_cell BKg3.out 1).trans rfl; have hf_g31 := blk_frozen BKg3.out 1; have hx_g60 : World.cell? _ ⟨g6, 0, none⟩ = some (.slice AW1 r1.length cW1) := (blk_cell BKg6.out 0).trans rfl; have hf_g60 := blk_frozen BKg6.out 0; have hx_g61 : World.cell? _ ⟨g6, 1, none⟩ = some (.slice AW2 r2.length cW2) := (blk_cell BKg6.out 1).trans rfl; have hf_g61 := blk_frozen BKg6.out 1; have hx_g80 : World.cell? _ ⟨g8, 0, none⟩ = some (.slice AX1 p.length cX1) := (blk_cell BKg8.out 0).trans rfl; have hf_g80 := blk_frozen BKg8.out 0; have hx_g81 : World.cell? _ ⟨g8, 1, none⟩ = some (.slice AX2 q.length cX2) := (blk_cell BKg8.out 1).trans rfl; have hf_g81 := blk_frozen BKg8.out 1; have hx_g90 : World.cell? _ ⟨g9, 0, none⟩ = some (.slice AX3 u.length cX3) := (blk_cell BKg9.out 0).trans rfl; have hf_g90 := blk_frozen BKg9.out 0; have hx_g91 : World.cell? _ ⟨g9, 1, none⟩ = some (.slice AX4 v.length cX4) := (blk_cell BKg9.out 1).trans rfl; have hf_g91 := blk_frozen BKg9.out 1; have hx_g100 : World.cell? _ ⟨g10, 0, none⟩ = some (.slice none 0 0) := (blk_cell BKg10.out 0).trans rfl; have hf_g100 := blk_frozen BKg10.out 0; have hx_g101 : World.cell? _ ⟨g10, 1, none⟩ = some (.slice none 0 0) := (blk_cell BKg10.out 1).trans rfl; have hf_g101 := blk_frozen BKg10.out 1)
    | (go_at_call 11; have hK := K9.out; clear hx_g20 hf_g20 hx_g21 hf_g21 hx_g30 hf_g30 hx_g31 hf_g31 hx_g60 hf_g60 hx_g61 hf_g61 hx_g80 hf_g80 hx_g81 hf_g81 hx_g90 hf_g90 hx_g91 hf_g91; have n_W1 := Aside0.mk (Kd.R_tight rfl (Kd.R_far (p := ⟨g9, 1, none⟩) (Kd.R_far (p := ⟨g9, 0, none⟩) (Kd.R_types W1.out BKg9.out (by decide)) (fun _ hk => hk.2) (.slice AX3 u.length cX3)) (fun _ hk => hk.2) (.slice AX4 v.length cX4))); have n_W2 := Aside0.mk (Kd.R_tight rfl (Kd.R_far (p := ⟨g9, 1, none⟩) (Kd.R_far (p := ⟨g9, 0, none⟩) (Kd.R_types W2.out BKg9.out (by decide)) (fun _ hk => hk.2) (.slice AX3 u.length cX3)) (fun _ hk => hk.2) (.slice AX4 v.length cX4))); have n_X1 := Aside0.mk (Kd.R_tight rfl (Kd.R_far (p := ⟨g9, 1, none⟩) (Kd.R_far (p := ⟨g9, 0, none⟩) (Kd.R_types X1.out BKg9.out (by decide)) (fun _ hk => hk.2) (.slice AX3 u.length cX3)) (fun _ hk => hk.2) (.slice AX4 v.length cX4))); have n_X2 := Aside0.mk (Kd.R_tight rfl (Kd.R_far (p := ⟨g9, 1, none⟩) (Kd.R_far (p := ⟨g9, 0, none⟩) (Kd.R_types X2.out BKg9.out (by decide)) (fun _ hk => hk.2) (.slice AX3 u.length cX3)) (fun _ hk => hk.2) (.slice AX4 v.length cX4))); have n_X3 := Aside0.mk (Kd.R_tight rfl (Kd.R_far (p := ⟨g9, 1, none⟩) (Kd.R_far (p := ⟨g9, 0, none⟩) (Kd.R_types X3.out BKg9.out (by decide)) (fun _ hk => hk.2) (.slice AX3 u.length cX3)) (fun _ hk => hk.2) (.slice AX4 v.length cX4))); have n_X4 := Aside0.mk (Kd.R_tight rfl (Kd.R_far (p := ⟨g9, 1, none⟩) (Kd.R_far (p := ⟨g9, 0, none⟩) (Kd.R_types X4.out BKg9.out (by decide)) (fun _ hk => hk.2) (.slice AX3 u.length cX3)) (fun _ hk => hk.2) (.slice AX4 v.length cX4))); have n_g2 := Aside0.mk (blk_far (p := ⟨g9, 1, none⟩) (blk_far (p := ⟨g9, 0, none⟩) BKg2.out NB_g2_g9.out (.slice AX3 u.length cX3)) NB_g2_g9.out (.slice AX4 v.length cX4)); have n_g3 := Aside0.mk (blk_far (p := ⟨g9, 1, none⟩) (blk_far (p := ⟨g9, 0, none⟩) BKg3.out NB_g3_g9.out (.slice AX3 u.length cX3)) NB_g3_g9.out (.slice AX4 v.length cX4)); have n_g6 := Aside0.mk (blk_far (p := ⟨g9, 1, none⟩) (blk_far (p := ⟨g9, 0, none⟩) BKg6.out NB_g6_g9.out (.slice AX3 u.length cX3)) NB_g6_g9.out (.slice AX4 v.length cX4)); have n_g8 := Aside0.mk (blk_far (p := ⟨g9, 1, none⟩) (blk_far (p := ⟨g9, 0, none⟩) BKg8.out NB_g8_g9.out (.slice AX3 u.length cX3)) NB_g8_g9.out (.slice AX4 v.length cX4)); have n_g9 := Aside0.mk (blk_put (cs := #[.slice AX3 u.length cX3, .slice none 0 0]) (blk_put (cs := #[.slice none 0 0, .slice none 0 0]) BKg9.out 0 (.slice AX3 u.length cX3) rfl) 1 (.slice AX4 v.length cX4) rfl); have nHB := Aside0.mk (below_set (g := g9) (j := 1) (v := .slice AX4 v.length cX4) (below_set (g := g9) (j := 0) (v := .slice AX3 u.length cX3) HB.out GE_g9.out) GE_g9.out); clear W1; have W1 := n_W1; clear n_W1; clear W2; have W2 := n_W2; clear n_W2; clear X1; have X1 := n_X1; clear n_X1; clear X2; have X2 := n_X2; clear n_X2; clear X3; have X3 := n_X3; clear n_X3; clear X4; have X4 := n_X4; clear n_X4; clear BKg2; have BKg2 := n_g2; clear n_g2; clear BKg3; have BKg3 := n_g3; clear n_g3; clear BKg6; have BKg6 := n_g6; clear n_g6; clear BKg8; have BKg8 := n_g8; clear n_g8; clear BKg9; have BKg9 := n_g9; clear n_g9; clear HB; have HB := nHB; clear nHB; (with_reducible refine (impl_JoinSeaweeds.calls k _ _ p _ _ q _ _ u _ _ v r1 r2 bq _ (Kd.R_reads' X1.out).2.2 (Kd.R_reads' X1.out).2.1 (Kd.R_reads' X2.out).2.2 (Kd.R_reads' X2.out).2.1 (Kd.R_reads' X3.out).2.2 (Kd.R_reads' X3.out).2.1 (Kd.R_reads' X4.out).2.2 (Kd.R_reads' X4.out).2.1 Fi.out).mono ?_); rintro e w9_ ⟨vG1, vG2, rfl, hoG1, hoG2, hb⟩; clear hK K9; obtain ⟨AG1, cG1, eG1⟩ := Kd.R_slice hoG1; subst eG1; obtain ⟨AG2, cG2, eG2⟩ := Kd.R_slice hoG2; subst eG2; have AP_W1_G1 := Aside0.mk (apart W1.out hoG1); have AP_W2_G1 := Aside0.mk (apart W2.out hoG1); have AP_X1_G1 := Aside0.mk (apart X1.out hoG1); have AP_X2_G1 := Aside0.mk (apart X2.out hoG1); have AP_X3_G1 := Aside0.mk (apart X3.out hoG1); have AP_X4_G1 := Aside0.mk (apart X4.out hoG1); have AP_W1_G2 := Aside0.mk (apart W1.out hoG2); have AP_W2_G2 := Aside0.mk (apart W2.out hoG2); have AP_X1_G2 := Aside0.mk (apart X1.out hoG2); have AP_X2_G2 := Aside0.mk (apart X2.out hoG2); have AP_X3_G2 := Aside0.mk (apart X3.out hoG2); have AP_X4_G2 := Aside0.mk (apart X4.out hoG2); have AP_G1_G2 := Aside0.mk (apart2 hoG1); have q_G1 := Aside0.mk (Kd.R_lower (Kd.R_tight rfl hoG1) HB.out.size); clear hoG1; have q_G2 := Aside0.mk (Kd.R_lower (Kd.R_tight rfl hoG2) HB.out.size); clear hoG2; have n_W1 := Aside0.mk (Kd.R_below W1.out hb); clear W1; have W1 := n_W1; clear n_W1; have n_W2 := Aside0.mk (Kd.R_below W2.out hb); clear W2; have W2 := n_W2; clear n_W2; have n_X1 := Aside0.mk (Kd.R_below X1.out hb); clear X1; have X1 := n_X1; clear n_X1; have n_X2 := Aside0.mk (Kd.R_below X2.out hb); clear X2; have X2 := n_X2; clear n_X2; have n_X3 := Aside0.mk (Kd.R_below X3.out hb); clear X3; have X3 := n_X3; clear n_X3; have n_X4 := Aside0.mk (Kd.R_below X4.out hb); clear X4; have X4 := n_X4; clear n_X4; have n_g2 := Aside0.mk (blk_below BKg2.out hb); clear BKg2; have BKg2 := n_g2; clear n_g2; have n_g3 := Aside0.mk (blk_below BKg3.out hb); clear BKg3; have BKg3 := n_g3; clear n_g3; have n_g6 := Aside0.mk (blk_below BKg6.out hb); clear BKg6; have BKg6 := n_g6; clear n_g6; have n_g8 := Aside0.mk (blk_below BKg8.out hb); clear BKg8; have BKg8 := n_g8; clear n_g8; have n_g9 := Aside0.mk (blk_below BKg9.out hb); clear BKg9; have BKg9 := n_g9; clear n_g9; have G1 := q_G1; clear q_G1; have G2 := q_G2; clear q_G2; have nHB := Aside0.mk (below_step HB.out hb); clear HB; have HB := nHB; clear nHB; have K10 := Aside0.mk True.intro; have hx_g20 : World.cell? _ ⟨g2, 0, none⟩ = some (.slice A0_0 p.length c0_0) := (blk_cell BKg2.out 0).trans rfl; have hf_g20 := blk_frozen BKg2.out 0; have hx_g21 : World.cell? _ ⟨g2, 1, none⟩ = some (.slice A0_1 q.length c0_1) := (blk_cell BKg2.out 1).trans rfl; have hf_g21 := blk_frozen BKg2.out 1; have hx_g30 : World.cell? _ ⟨g3, 0, none⟩ = some (.slice A1_0 u.length c1_0) := (blk_cell BKg3.out 0).trans rfl; have hf_g30 := blk_frozen BKg3.out 0; have hx_g31 : World.cell? _ ⟨g3, 1, none⟩ = some (.slice A1_1 v.length c1_1) := (blk_cell BKg3.out 1).trans rfl; have hf_g31 := blk_frozen BKg3.out 1; have hx_g60 : World.cell? _ ⟨g6, 0, none⟩ = some (.slice AW1 r1.length cW1) := (blk_cell BKg6.out 0).trans rfl; have hf_g60 := blk_frozen BKg6.out 0; have hx_g61 : World.cell? _ ⟨g6, 1, none⟩ = some (.slice AW2 r2.length cW2) := (blk_cell BKg6.out 1).trans rfl; have hf_g61 := blk_frozen BKg6.out 1; have hx_g80 : World.cell? _ ⟨g8, 0, none⟩ = some (.slice AX1 p.length cX1) := (blk_cell BKg8.out 0).trans rfl; have hf_g80 := blk_frozen BKg8.out 0; have hx_g81 : World.cell? _ ⟨g8, 1, none⟩ = some (.slice AX2 q.length cX2) := (blk_cell BKg8.out 1).trans rfl; have hf_g81 := blk_frozen BKg8.out 1; have hx_g90 : World.cell? _ ⟨g9, 0, none⟩ = some (.slice AX3 u.length cX3) := (blk_cell BKg9.out 0).trans rfl; have hf_g90 := blk_frozen BKg9.out 0; have hx_g91 : World.cell? _ ⟨g9, 1, none⟩ = some (.slice AX4 v.length cX4) := (blk_cell BKg9.out 1).trans rfl; have hf_g91 := blk_frozen BKg9.out 1; clear hb)
    | ((with_reducible refine gate_dst (N := 9) rfl ?_); have hK := K8.out; refine box_event ?hg (N := 9) ?hd (cs := #[.slice none 0 0, .slice none 0 0]) (t := 26) ?hr ?_; (case hd => rfl); (case hg => rfl); (case hr => first | (go_simp; done) | (go_simp; rfl)); intro g9 hg w8_ hbox hb; clear hK K8; have GE_g9 := Aside0.mk ((by rw [hg]; exact HB.out.size) : w.heap.size ≤ g9); have NB_g2_g9 := Aside0.mk ((by rw [hg]; exact Nat.ne_of_lt (blk_lt BKg2.out)) : g2 ≠ g9); have hn_g2_g9 := NB_g2_g9.out; have hm_g2_g9 := NB_g2_g9.out.symm; have NB_g3_g9 := Aside0.mk ((by rw [hg]; exact Nat.ne_of_lt (blk_lt BKg3.out)) : g3 ≠ g9); have hn_g3_g9 := NB_g3_g9.out; have hm_g3_g9 := NB_g3_g9.out.symm; have NB_g6_g9 := Aside0.mk ((by rw [hg]; exact Nat.ne_of_lt (blk_lt BKg6.out)) : g6 ≠ g9); have hn_g6_g9 := NB_g6_g9.out; have hm_g6_g9 := NB_g6_g9.out.symm; have NB_g8_g9 := Aside0.mk ((by rw [hg]; exact Nat.ne_of_lt (blk_lt BKg8.out)) : g8 ≠ g9); have hn_g8_g9 := NB_g8_g9.out; have hm_g8_g9 := NB_g8_g9.out.symm; clear hx_g20 hf_g20 hx_g21 hf_g21 hx_g30 hf_g30 hx_g31 hf_g31 hx_g60 hf_g60 hx_g61 hf_g61 hx_g80 hf_g80 hx_g81 hf_g81; have n_W1 := Aside0.mk (Kd.R_below W1.out hb); clear W1; have W1 := n_W1; clear n_W1; have n_W2 := Aside0.mk (Kd.R_below W2.out hb); clear W2; have W2 := n_W2; clear n_W2; have n_X1 := Aside0.mk (Kd.R_below X1.out hb); clear X1; have X1 := n_X1; clear n_X1; have n_X2 := Aside0.mk (Kd.R_below X2.out hb); clear X2; have X2 := n_X2; clear n_X2; have n_X3 := Aside0.mk (Kd.R_below X3.out hb); clear X3; have X3 := n_X3; clear n_X3; have n_X4 := Aside0.mk (Kd.R_below X4.out hb); clear X4; have X4 := n_X4; clear n_X4; have n_g2 := Aside0.mk (blk_below BKg2.out hb); clear BKg2; have BKg2 := n_g2; clear n_g2; have n_g3 := Aside0.mk (blk_below BKg3.out hb); clear BKg3; have BKg3 := n_g3; clear n_g3; have n_g6 := Aside0.mk (blk_below BKg6.out hb); clear BKg6; have BKg6 := n_g6; clear n_g6; have n_g8 := Aside0.mk (blk_below BKg8.out hb); clear BKg8; have BKg8 := n_g8; clear n_g8; have BKg9 := Aside0.mk hbox; have nHB := Aside0.mk (below_step HB.out hb); clear HB hbox hb hg; have HB := nHB; clear nHB; have K9 := Aside0.mk True.intro; have hx_g20 : World.cell? _ ⟨g2, 0, none⟩ = some (.slice A0_0 p.length c0_0) := (blk_cell BKg2.out 0).trans rfl; have hf_g20 := blk_frozen BKg2.out 0; have hx_g21 : World.cell? _ ⟨g2, 1, none⟩ = some (.slice A0_1 q.length c0_1) := (blk_cell BKg2.out 1).trans rfl; have hf_g21 := blk_frozen BKg2.out 1; have hx_g30 : World.cell? _ ⟨g3, 0, none⟩ = some (.slice A1_0 u.length c1_0) := (blk_cell BKg3.out 0).trans rfl; have hf_g30 := blk_frozen BKg3.out 0; have hx_g31 : World.cell? _ ⟨g3, 1, none⟩ = some (.slice A1_1 v.length c1_1) := (blk_cell BKg3.out 1).trans rfl; have hf_g31 := blk_frozen BKg3.out 1; have hx_g60 : World.cell? _ ⟨g6, 0, none⟩ = some (.slice AW1 r1.length cW1) := (blk_cell BKg6.out 0).trans rfl; have hf_g60 := blk_frozen BKg6.out 0; have hx_g61 : World.cell? _ ⟨g6, 1, none⟩ = some (.slice AW2 r2.length cW2) := (blk_cell BKg6.out 1).trans rfl; have hf_g61 := blk_frozen BKg6.out 1; have hx_g80 : World.cell? _ ⟨g8, 0, none⟩ = some (.slice AX1 p.length cX1) := (blk_cell BKg8.out 0).trans rfl; have hf_g80 := blk_frozen BKg8.out 0; have hx_g81 : World.cell? _ ⟨g8, 1, none⟩ = some (.slice AX2 q.length cX2) := (blk_cell BKg8.out 1).trans rfl; have hf_g81 := blk_frozen BKg8.out 1; have hx_g90 : World.cell? _ ⟨g9, 0, none⟩ = some (.slice none 0 0) := (blk_cell BKg9.out 0).trans rfl; have hf_g90 := blk_frozen BKg9.out 0; have hx_g91 : World.cell? _ ⟨g9, 1, none⟩ = some (.slice none 0 0) := (blk_cell BKg9.out 1).trans rfl; have hf_g91 := blk_frozen BKg9.out 1)
    | (go_at_call 10; have hK := K7.out; clear hx_g20 hf_g20 hx_g21 hf_g21 hx_g30 hf_g30 hx_g31 hf_g31 hx_g60 hf_g60 hx_g61 hf_g61 hx_g80 hf_g80 hx_g81 hf_g81; have n_W1 := Aside0.mk (Kd.R_tight rfl (Kd.R_far (p := ⟨g8, 1, none⟩) (Kd.R_far (p := ⟨g8, 0, none⟩) (Kd.R_types W1.out BKg8.out (by decide)) (fun _ hk => hk.2) (.slice AX1 p.length cX1)) (fun _ hk => hk.2) (.slice AX2 q.length cX2))); have n_W2 := Aside0.mk (Kd.R_tight rfl (Kd.R_far (p := ⟨g8, 1, none⟩) (Kd.R_far (p := ⟨g8, 0, none⟩) (Kd.R_types W2.out BKg8.out (by decide)) (fun _ hk => hk.2) (.slice AX1 p.length cX1)) (fun _ hk => hk.2) (.slice AX2 q.length cX2))); have n_X1 := Aside0.mk (Kd.R_tight rfl (Kd.R_far (p := ⟨g8, 1, none⟩) (Kd.R_far (p := ⟨g8, 0, none⟩) (Kd.R_types X1.out BKg8.out (by decide)) (fun _ hk => hk.2) (.slice AX1 p.length cX1)) (fun _ hk => hk.2) (.slice AX2 q.length cX2))); have n_X2 := Aside0.mk (Kd.R_tight rfl (Kd.R_far (p := ⟨g8, 1, none⟩) (Kd.R_far (p := ⟨g8, 0, none⟩) (Kd.R_types X2.out BKg8.out (by decide)) (fun _ hk => hk.2) (.slice AX1 p.length cX1)) (fun _ hk => hk.2) (.slice AX2 q.length cX2))); have n_g2 := Aside0.mk (blk_far (p := ⟨g8, 1, none⟩) (blk_far (p := ⟨g8, 0, none⟩) BKg2.out NB_g2_g8.out (.slice AX1 p.length cX1)) NB_g2_g8.out (.slice AX2 q.length cX2)); have n_g3 := Aside0.mk (blk_far (p := ⟨g8, 1, none⟩) (blk_far (p := ⟨g8, 0, none⟩) BKg3.out NB_g3_g8.out (.slice AX1 p.length cX1)) NB_g3_g8.out (.slice AX2 q.length cX2)); have n_g6 := Aside0.mk (blk_far (p := ⟨g8, 1, none⟩) (blk_far (p := ⟨g8, 0, none⟩) BKg6.out NB_g6_g8.out (.slice AX1 p.length cX1)) NB_g6_g8.out (.slice AX2 q.length cX2)); have n_g8 := Aside0.mk (blk_put (cs := #[.slice AX1 p.length cX1, .slice none 0 0]) (blk_put (cs := #[.slice none 0 0, .slice none 0 0]) BKg8.out 0 (.slice AX1 p.length cX1) rfl) 1 (.slice AX2 q.length cX2) rfl); have nHB := Aside0.mk (below_set (g := g8) (j := 1) (v := .slice AX2 q.length cX2) (below_set (g := g8) (j := 0) (v := .slice AX1 p.length cX1) HB.out GE_g8.out) GE_g8.out); clear W1; have W1 := n_W1; clear n_W1; clear W2; have W2 := n_W2; clear n_W2; clear X1; have X1 := n_X1; clear n_X1; clear X2; have X2 := n_X2; clear n_X2; clear BKg2; have BKg2 := n_g2; clear n_g2; clear BKg3; have BKg3 := n_g3; clear n_g3; clear BKg6; have BKg6 := n_g6; clear n_g6; clear BKg8; have BKg8 := n_g8; clear n_g8; clear HB; have HB := nHB; clear nHB; (with_reducible refine (laws_toSeaweed.calls k _ _ u _ _ v u v _ (Kd.C_below H2.out HB.out) C2.out (Kd.C_below H3.out HB.out) C3.out FTB.out).mono ?_); rintro e w7_ ⟨vX3, vX4, rfl, hoX3, hoX4, hb⟩; clear hK K7; obtain ⟨AX3, cX3, eX3⟩ := Kd.R_slice hoX3; subst eX3; obtain ⟨AX4, cX4, eX4⟩ := Kd.R_slice hoX4; subst eX4; have AP_W1_X3 := Aside0.mk (apart W1.out hoX3); have AP_W2_X3 := Aside0.mk (apart W2.out hoX3); have AP_X1_X3 := Aside0.mk (apart X1.out hoX3); have AP_X2_X3 := Aside0.mk (apart X2.out hoX3); have AP_W1_X4 := Aside0.mk (apart W1.out hoX4); have AP_W2_X4 := Aside0.mk (apart W2.out hoX4); have AP_X1_X4 := Aside0.mk (apart X1.out hoX4); have AP_X2_X4 := Aside0.mk (apart X2.out hoX4); have AP_X3_X4 := Aside0.mk (apart2 hoX3); have q_X3 := Aside0.mk (Kd.R_lower (Kd.R_tight rfl hoX3) HB.out.size); clear hoX3; have q_X4 := Aside0.mk (Kd.R_lower (Kd.R_tight rfl hoX4) HB.out.size); clear hoX4; have n_W1 := Aside0.mk (Kd.R_below W1.out hb); clear W1; have W1 := n_W1; clear n_W1; have n_W2 := Aside0.mk (Kd.R_below W2.out hb); clear W2; have W2 := n_W2; clear n_W2; have n_X1 := Aside0.mk (Kd.R_below X1.out hb); clear X1; have X1 := n_X1; clear n_X1; have n_X2 := Aside0.mk (Kd.R_below X2.out hb); clear X2; have X2 := n_X2; clear n_X2; have n_g2 := Aside0.mk (blk_below BKg2.out hb); clear BKg2; have BKg2 := n_g2; clear n_g2; have n_g3 := Aside0.mk (blk_below BKg3.out hb); clear BKg3; have BKg3 := n_g3; clear n_g3; have n_g6 := Aside0.mk (blk_below BKg6.out hb); clear BKg6; have BKg6 := n_g6; clear n_g6; have n_g8 := Aside0.mk (blk_below BKg8.out hb); clear BKg8; have BKg8 := n_g8; clear n_g8; have X3 := q_X3; clear q_X3; have X4 := q_X4; clear q_X4; have nHB := Aside0.mk (below_step HB.out hb); clear HB; have HB := nHB; clear nHB; have K8 := Aside0.mk True.intro; have hx_g20 : World.cell? _ ⟨g2, 0, none⟩ = some (.slice A0_0 p.length c0_0) := (blk_cell BKg2.out 0).trans rfl; have hf_g20 := blk_frozen BKg2.out 0; have hx_g21 : World.cell? _ ⟨g2, 1, none⟩ = some (.slice A0_1 q.length c0_1) := (blk_cell BKg2.out 1).trans rfl; have hf_g21 := blk_frozen BKg2.out 1; have hx_g30 : World.cell? _ ⟨g3, 0, none⟩ = some (.slice A1_0 u.length c1_0) := (blk_cell BKg3.out 0).trans rfl; have hf_g30 := blk_frozen BKg3.out 0; have hx_g31 : World.cell? _ ⟨g3, 1, none⟩ = some (.slice A1_1 v.length c1_1) := (blk_cell BKg3.out 1).trans rfl; have hf_g31 := blk_frozen BKg3.out 1; have hx_g60 : World.cell? _ ⟨g6, 0, none⟩ = some (.slice AW1 r1.length cW1) := (blk_cell BKg6.out 0).trans rfl; have hf_g60 := blk_frozen BKg6.out 0; have hx_g61 : World.cell? _ ⟨g6, 1, none⟩ = some (.slice AW2 r2.length cW2) := (blk_cell BKg6.out 1).trans rfl; have hf_g61 := blk_frozen BKg6.out 1; have hx_g80 : World.cell? _ ⟨g8, 0, none⟩ = some (.slice AX1 p.length cX1) := (blk_cell BKg8.out 0).trans rfl; have hf_g80 := blk_frozen BKg8.out 0; have hx_g81 : World.cell? _ ⟨g8, 1, none⟩ = some (.slice AX2 q.length cX2) := (blk_cell BKg8.out 1).trans rfl; have hf_g81 := blk_frozen BKg8.out 1; clear hb)
    | ((with_reducible refine gate_dst (N := 8) rfl ?_); have hK := K6.out; refine box_event ?hg (N := 8) ?hd (cs := #[.slice none 0 0, .slice none 0 0]) (t := 26) ?hr ?_; (case hd => rfl); (case hg => rfl); (case hr => first | (go_simp; done) | (go_simp; rfl)); intro g8 hg w6_ hbox hb; clear hK K6; have GE_g8 := Aside0.mk ((by rw [hg]; exact HB.out.size) : w.heap.size ≤ g8); have NB_g2_g8 := Aside0.mk ((by rw [hg]; exact Nat.ne_of_lt (blk_lt BKg2.out)) : g2 ≠ g8); have hn_g2_g8 := NB_g2_g8.out; have hm_g2_g8 := NB_g2_g8.out.symm; have NB_g3_g8 := Aside0.mk ((by rw [hg]; exact Nat.ne_of_lt (blk_lt BKg3.out)) : g3 ≠ g8); have hn_g3_g8 := NB_g3_g8.out; have hm_g3_g8 := NB_g3_g8.out.symm; have NB_g6_g8 := Aside0.mk ((by rw [hg]; exact Nat.ne_of_lt (blk_lt BKg6.out)) : g6 ≠ g8); have hn_g6_g8 := NB_g6_g8.out; have hm_g6_g8 := NB_g6_g8.out.symm; clear hx_g20 hf_g20 hx_g21 hf_g21 hx_g30 hf_g30 hx_g31 hf_g31 hx_g60 hf_g60 hx_g61 hf_g61; have n_W1 := Aside0.mk (Kd.R_below W1.out hb); clear W1; have W1 := n_W1; clear n_W1; have n_W2 := Aside0.mk (Kd.R_below W2.out hb); clear W2; have W2 := n_W2; clear n_W2; have n_X1 := Aside0.mk (Kd.R_below X1.out hb); clear X1; have X1 := n_X1; clear n_X1; have n_X2 := Aside0.mk (Kd.R_below X2.out hb); clear X2; have X2 := n_X2; clear n_X2; have n_g2 := Aside0.mk (blk_below BKg2.out hb); clear BKg2; have BKg2 := n_g2; clear n_g2; have n_g3 := Aside0.mk (blk_below BKg3.out hb); clear BKg3; have BKg3 := n_g3; clear n_g3; have n_g6 := Aside0.mk (blk_below BKg6.out hb); clear BKg6; have BKg6 := n_g6; clear n_g6; have BKg8 := Aside0.mk hbox; have nHB := Aside0.mk (below_step HB.out hb); clear HB hbox hb hg; have HB := nHB; clear nHB; have K7 := Aside0.mk True.intro; have hx_g20 : World.cell? _ ⟨g2, 0, none⟩ = some (.slice A0_0 p.length c0_0) := (blk_cell BKg2.out 0).trans rfl; have hf_g20 := blk_frozen BKg2.out 0; have hx_g21 : World.cell? _ ⟨g2, 1, none⟩ = some (.slice A0_1 q.length c0_1) := (blk_cell BKg2.out 1).trans rfl; have hf_g21 := blk_frozen BKg2.out 1; have hx_g30 : World.cell? _ ⟨g3, 0, none⟩ = some (.slice A1_0 u.length c1_0) := (blk_cell BKg3.out 0).trans rfl; have hf_g30 := blk_frozen BKg3.out 0; have hx_g31 : World.cell? _ ⟨g3, 1, none⟩ = some (.slice A1_1 v.length c1_1) := (blk_cell BKg3.out 1).trans rfl; have hf_g31 := blk_frozen BKg3.out 1; have hx_g60 : World.cell? _ ⟨g6, 0, none⟩ = some (.slice AW1 r1.length cW1) := (blk_cell BKg6.out 0).trans rfl; have hf_g60 := blk_frozen BKg6.out 0; have hx_g61 : World.cell? _ ⟨g6, 1, none⟩ = some (.slice AW2 r2.length cW2) := (blk_cell BKg6.out 1).trans rfl; have hf_g61 := blk_frozen BKg6.out 1; have hx_g80 : World.cell? _ ⟨g8, 0, none⟩ = some (.slice none 0 0) := (blk_cell BKg8.out 0).trans rfl; have hf_g80 := blk_frozen BKg8.out 0; have hx_g81 : World.cell? _ ⟨g8, 1, none⟩ = some (.slice none 0 0) := (blk_cell BKg8.out 1).trans rfl; have hf_g81 := blk_frozen BKg8.out 1)
    | (go_at_call 10; have hK := K5.out; (with_reducible refine (laws_toSeaweed.calls k _ _ p _ _ q p q _ (Kd.C_below H0.out HB.out) C0.out (Kd.C_below H1.out HB.out) C1.out FTA.out).mono ?_); rintro e w5_ ⟨vX1, vX2, rfl, hoX1, hoX2, hb⟩; clear hK K5; obtain ⟨AX1, cX1, eX1⟩ := Kd.R_slice hoX1; subst eX1; obtain ⟨AX2, cX2, eX2⟩ := Kd.R_slice hoX2; subst eX2; have AP_W1_X1 := Aside0.mk (apart W1.out hoX1); have AP_W2_X1 := Aside0.mk (apart W2.out hoX1); have AP_W1_X2 := Aside0.mk (apart W1.out hoX2); have AP_W2_X2 := Aside0.mk (apart W2.out hoX2); have AP_X1_X2 := Aside0.mk (apart2 hoX1); have q_X1 := Aside0.mk (Kd.R_lower (Kd.R_tight rfl hoX1) HB.out.size); clear hoX1; have q_X2 := Aside0.mk (Kd.R_lower (Kd.R_tight rfl hoX2) HB.out.size); clear hoX2; clear hx_g20 hf_g20 hx_g21 hf_g21 hx_g30 hf_g30 hx_g31 hf_g31 hx_g60 hf_g60 hx_g61 hf_g61; have n_W1 := Aside0.mk (Kd.R_below W1.out hb); clear W1; have W1 := n_W1; clear n_W1; have n_W2 := Aside0.mk (Kd.R_below W2.out hb); clear W2; have W2 := n_W2; clear n_W2; have n_g2 := Aside0.mk (blk_below BKg2.out hb); clear BKg2; have BKg2 := n_g2; clear n_g2; have n_g3 := Aside0.mk (blk_below BKg3.out hb); clear BKg3; have BKg3 := n_g3; clear n_g3; have n_g6 := Aside0.mk (blk_below BKg6.out hb); clear BKg6; have BKg6 := n_g6; clear n_g6; have X1 := q_X1; clear q_X1; have X2 := q_X2; clear q_X2; have nHB := Aside0.mk (below_step HB.out hb); clear HB; have HB := nHB; clear nHB; have K6 := Aside0.mk True.intro; have hx_g20 : World.cell? _ ⟨g2, 0, none⟩ = some (.slice A0_0 p.length c0_0) := (blk_cell BKg2.out 0).trans rfl; have hf_g20 := blk_frozen BKg2.out 0; have hx_g21 : World.cell? _ ⟨g2, 1, none⟩ = some (.slice A0_1 q.length c0_1) := (blk_cell BKg2.out 1).trans rfl; have hf_g21 := blk_frozen BKg2.out 1; have hx_g30 : World.cell? _ ⟨g3, 0, none⟩ = some (.slice A1_0 u.length c1_0) := (blk_cell BKg3.out 0).trans rfl; have hf_g30 := blk_frozen BKg3.out 0; have hx_g31 : World.cell? _ ⟨g3, 1, none⟩ = some (.slice A1_1 v.length c1_1) := (blk_cell BKg3.out 1).trans rfl; have hf_g31 := blk_frozen BKg3.out 1; have hx_g60 : World.cell? _ ⟨g6, 0, none⟩ = some (.slice AW1 r1.length cW1) := (blk_cell BKg6.out 0).trans rfl; have hf_g60 := blk_frozen BKg6.out 0; have hx_g61 : World.cell? _ ⟨g6, 1, none⟩ = some (.slice AW2 r2.length cW2) := (blk_cell BKg6.out 1).trans rfl; have hf_g61 := blk_frozen BKg6.out 1; clear hb))
  clear hx_g20 hf_g20 hx_g21 hf_g21 hx_g30 hf_g30 hx_g31 hf_g31 hx_g60 hf_g60 hx_g61 hf_g61 hx_g80 hf_g80 hx_g81 hf_g81 hx_g90 hf_g90 hx_g91 hf_g91 hx_g100 hf_g100 hx_g101 hf_g101
  have n_W1 := Aside0.mk (Kd.R_drew W1.out)
  clear W1
  have W1 := n_W1
  clear n_W1
  have n_W2 := Aside0.mk (Kd.R_drew W2.out)
  clear W2
  have W2 := n_W2
  clear n_W2
  have n_X1 := Aside0.mk (Kd.R_drew X1.out)
  clear X1
  have X1 := n_X1
  clear n_X1
  have n_X2 := Aside0.mk (Kd.R_drew X2.out)
  clear X2
  have X2 := n_X2
  clear n_X2
  have n_X3 := Aside0.mk (Kd.R_drew X3.out)
  clear X3
  have X3 := n_X3
  clear n_X3
  have n_X4 := Aside0.mk (Kd.R_drew X4.out)
  clear X4
  have X4 := n_X4
  clear n_X4
  have n_G1 := Aside0.mk (Kd.R_drew G1.out)
  clear G1
  have G1 := n_G1
  clear n_G1
  have n_G2 := Aside0.mk (Kd.R_drew G2.out)
  clear G2
  have G2 := n_G2
  clear n_G2
  have n_g2 := Aside0.mk (blk_drew BKg2.out)
  clear BKg2
  have BKg2 := n_g2
  clear n_g2
  have n_g3 := Aside0.mk (blk_drew BKg3.out)
  clear BKg3
  have BKg3 := n_g3
  clear n_g3
  have n_g6 := Aside0.mk (blk_drew BKg6.out)
  clear BKg6
  have BKg6 := n_g6
  clear n_g6
  have n_g8 := Aside0.mk (blk_drew BKg8.out)
  clear BKg8
  have BKg8 := n_g8
  clear n_g8
  have n_g9 := Aside0.mk (blk_drew BKg9.out)
  clear BKg9
  have BKg9 := n_g9
  clear n_g9
  have n_g10 := Aside0.mk (blk_drew BKg10.out)
  clear BKg10
  have BKg10 := n_g10
  clear n_g10
  have nHB := Aside0.mk (below_drew1 HB.out)
  clear HB
  have HB := nHB
  clear nHB
  refine start_ (n := 5) (S := fun w' => w'.cell? ⟨g8, 0, none⟩ = some (.slice AX1 p.length cX1) ∧ w'.cell? ⟨g8, 1, none⟩ = some (.slice AX2 q.length cX2) ∧ w'.cell? ⟨g2, 0, none⟩ = some (.slice A0_0 p.length c0_0) ∧ w'.cell? ⟨g2, 1, none⟩ = some (.slice A0_1 q.length c0_1)) (ds := []) #[false, false, false, false, false] (by kernel_rfl) rfl rfl ⟨(blk_cell BKg8.out 0).trans rfl, (blk_cell BKg8.out 1).trans rfl, (blk_cell BKg2.out 0).trans rfl, (blk_cell BKg2.out 1).trans rfl⟩ (fun hHeld => ?_)
  generalize w11_.drew = wd12_ at W1 W2 X1 X2 X3 X4 G1 G2 BKg2 BKg3 BKg6 BKg8 BKg9 BKg10 HB hHeld ⊢
  refine take_ (i := 0) (N := some 54) (v := ?_) (a' := ?_) #[true, false, false, false, false] rfl rfl (by kernel_rfl) (fun _ _ _ h => h) (Or.inl ⟨by rfl, ?_⟩) hHeld ?_ ?_
  rotate_left
  · rintro w' ⟨s0, s1, s2, s3⟩
    go_simp
    with_reducible rfl
  rotate_left
  · simp only [Act.put, List.setIfInBounds_toArray, List.set_cons_zero, List.set_cons_succ, i64_w, i32_w]
    rfl
  refine take_ (i := 1) (N := some 55) (v := ?_) (a' := ?_) #[true, true, false, false, false] rfl rfl (by kernel_rfl) (fun _ _ _ h => h) (Or.inl ⟨by rfl, ?_⟩) hHeld ?_ ?_
  rotate_left
  · rintro w' ⟨s0, s1, s2, s3⟩
    go_simp
    with_reducible rfl
  rotate_left
  · simp only [Act.put, List.setIfInBounds_toArray, List.set_cons_zero, List.set_cons_succ, i64_w, i32_w]
    rfl
  refine one_ (i := 2) (N := some 56) #[true, true, true, false, false] rfl rfl (by kernel_rfl) (by decide) (fun K hK => ?_)
  refine goes_ Try.func10 (by kernel_rfl) rfl #[.agg #[.slice A0_0 p.length c0_0, .slice A0_1 q.length c0_1]] (by rfl) rfl rfl (by (try simp only [List.map_toArray, List.map_cons, List.map_nil]); first | done | rfl) ?_
  with_reducible refine (laws_toSeaweed.calls k _ _ p _ _ q p q _ (Kd.C_below H0.out HB.out) C0.out (Kd.C_below H1.out HB.out) C1.out FTA.out).mono ?_
  rintro e wq2_ ⟨vP5, vQ5, rfl, hoP5, hoQ5, hb⟩
  obtain ⟨AP5, cP5, eP5⟩ := Kd.R_slice hoP5
  subst eP5
  obtain ⟨AQ5, cQ5, eQ5⟩ := Kd.R_slice hoQ5
  subst eQ5
  have AP_W1_P5 := Aside0.mk (apart W1.out hoP5)
  have AP_W2_P5 := Aside0.mk (apart W2.out hoP5)
  have AP_X1_P5 := Aside0.mk (apart X1.out hoP5)
  have AP_X2_P5 := Aside0.mk (apart X2.out hoP5)
  have AP_X3_P5 := Aside0.mk (apart X3.out hoP5)
  have AP_X4_P5 := Aside0.mk (apart X4.out hoP5)
  have AP_G1_P5 := Aside0.mk (apart G1.out hoP5)
  have AP_G2_P5 := Aside0.mk (apart G2.out hoP5)
  have AP_W1_Q5 := Aside0.mk (apart W1.out hoQ5)
  have AP_W2_Q5 := Aside0.mk (apart W2.out hoQ5)
  have AP_X1_Q5 := Aside0.mk (apart X1.out hoQ5)
  have AP_X2_Q5 := Aside0.mk (apart X2.out hoQ5)
  have AP_X3_Q5 := Aside0.mk (apart X3.out hoQ5)
  have AP_X4_Q5 := Aside0.mk (apart X4.out hoQ5)
  have AP_G1_Q5 := Aside0.mk (apart G1.out hoQ5)
  have AP_G2_Q5 := Aside0.mk (apart G2.out hoQ5)
  have AP_P5_Q5 := Aside0.mk (apart2 hoP5)
  have q_P5 := Aside0.mk (Kd.R_lower (Kd.R_tight rfl hoP5) HB.out.size)
  clear hoP5
  have q_Q5 := Aside0.mk (Kd.R_lower (Kd.R_tight rfl hoQ5) HB.out.size)
  clear hoQ5
  refine ⟨_, rfl, ?_⟩
  have n_W1 := Aside0.mk (Kd.R_below W1.out hb)
  clear W1
  have W1 := n_W1
  clear n_W1
  have n_W2 := Aside0.mk (Kd.R_below W2.out hb)
  clear W2
  have W2 := n_W2
  clear n_W2
  have n_X1 := Aside0.mk (Kd.R_below X1.out hb)
  clear X1
  have X1 := n_X1
  clear n_X1
  have n_X2 := Aside0.mk (Kd.R_below X2.out hb)
  clear X2
  have X2 := n_X2
  clear n_X2
  have n_X3 := Aside0.mk (Kd.R_below X3.out hb)
  clear X3
  have X3 := n_X3
  clear n_X3
  have n_X4 := Aside0.mk (Kd.R_below X4.out hb)
  clear X4
  have X4 := n_X4
  clear n_X4
  have n_G1 := Aside0.mk (Kd.R_below G1.out hb)
  clear G1
  have G1 := n_G1
  clear n_G1
  have n_G2 := Aside0.mk (Kd.R_below G2.out hb)
  clear G2
  have G2 := n_G2
  clear n_G2
  have n_g2 := Aside0.mk (blk_below BKg2.out hb)
  clear BKg2
  have BKg2 := n_g2
  clear n_g2
  have n_g3 := Aside0.mk (blk_below BKg3.out hb)
  clear BKg3
  have BKg3 := n_g3
  clear n_g3
  have n_g6 := Aside0.mk (blk_below BKg6.out hb)
  clear BKg6
  have BKg6 := n_g6
  clear n_g6
  have n_g8 := Aside0.mk (blk_below BKg8.out hb)
  clear BKg8
  have BKg8 := n_g8
  clear n_g8
  have n_g9 := Aside0.mk (blk_below BKg9.out hb)
  clear BKg9
  have BKg9 := n_g9
  clear n_g9
  have n_g10 := Aside0.mk (blk_below BKg10.out hb)
  clear BKg10
  have BKg10 := n_g10
  clear n_g10
  have P5 := q_P5
  clear q_P5
  have Q5 := q_Q5
  clear q_Q5
  have nHB := Aside0.mk (below_step HB.out hb)
  clear HB
  have HB := nHB
  clear nHB
  clear hb
  refine hK.out _ _ ⟨(blk_cell BKg8.out 0).trans rfl, (blk_cell BKg8.out 1).trans rfl, (blk_cell BKg2.out 0).trans rfl, (blk_cell BKg2.out 1).trans rfl⟩ (fun hHeld => ?_)
  clear hK K
  refine norm_ (a' := ?_) ?_ ?_
  rotate_left
  · show Act.put _ (some 56) _ = _
    simp only [Act.put, List.setIfInBounds_toArray, List.set_cons_zero, List.set_cons_succ, i64_w, i32_w]
    rfl
  refine one_ (i := 3) (N := some 57) #[true, true, true, true, false] rfl rfl (by kernel_rfl) (by decide) (fun K hK => ?_)
  refine goes_ Try.func12 (by kernel_rfl) rfl #[.agg #[.slice AX1 p.length cX1, .slice AX2 q.length cX2], .agg #[.slice AP5 p.length cP5, .slice AQ5 q.length cQ5]] (by rfl) rfl rfl (by (try simp only [List.map_toArray, List.map_cons, List.map_nil]); first | done | rfl) ?_
  with_reducible refine (laws_eqSeaweed.calls k _ _ p _ _ q _ _ p _ _ q true _ (Kd.R_reads' X1.out).2.2 (Kd.R_reads' X1.out).2.1 (Kd.R_reads' X2.out).2.2 (Kd.R_reads' X2.out).2.1 (Kd.R_reads' P5.out).2.2 (Kd.R_reads' P5.out).2.1 (Kd.R_reads' Q5.out).2.2 (Kd.R_reads' Q5.out).2.1 FEA.out).mono ?_
  rintro e wq3_ ⟨rfl, hb⟩
  refine ⟨_, rfl, ?_⟩
  have n_W1 := Aside0.mk (Kd.R_below W1.out hb)
  clear W1
  have W1 := n_W1
  clear n_W1
  have n_W2 := Aside0.mk (Kd.R_below W2.out hb)
  clear W2
  have W2 := n_W2
  clear n_W2
  have n_X1 := Aside0.mk (Kd.R_below X1.out hb)
  clear X1
  have X1 := n_X1
  clear n_X1
  have n_X2 := Aside0.mk (Kd.R_below X2.out hb)
  clear X2
  have X2 := n_X2
  clear n_X2
  have n_X3 := Aside0.mk (Kd.R_below X3.out hb)
  clear X3
  have X3 := n_X3
  clear n_X3
  have n_X4 := Aside0.mk (Kd.R_below X4.out hb)
  clear X4
  have X4 := n_X4
  clear n_X4
  have n_G1 := Aside0.mk (Kd.R_below G1.out hb)
  clear G1
  have G1 := n_G1
  clear n_G1
  have n_G2 := Aside0.mk (Kd.R_below G2.out hb)
  clear G2
  have G2 := n_G2
  clear n_G2
  have n_g2 := Aside0.mk (blk_below BKg2.out hb)
  clear BKg2
  have BKg2 := n_g2
  clear n_g2
  have n_g3 := Aside0.mk (blk_below BKg3.out hb)
  clear BKg3
  have BKg3 := n_g3
  clear n_g3
  have n_g6 := Aside0.mk (blk_below BKg6.out hb)
  clear BKg6
  have BKg6 := n_g6
  clear n_g6
  have n_g8 := Aside0.mk (blk_below BKg8.out hb)
  clear BKg8
  have BKg8 := n_g8
  clear n_g8
  have n_g9 := Aside0.mk (blk_below BKg9.out hb)
  clear BKg9
  have BKg9 := n_g9
  clear n_g9
  have n_g10 := Aside0.mk (blk_below BKg10.out hb)
  clear BKg10
  have BKg10 := n_g10
  clear n_g10
  have nHB := Aside0.mk (below_step HB.out hb)
  clear HB
  have HB := nHB
  clear nHB
  clear P5
  clear Q5
  clear hb
  refine hK.out _ _ ⟨(blk_cell BKg8.out 0).trans rfl, (blk_cell BKg8.out 1).trans rfl, (blk_cell BKg2.out 0).trans rfl, (blk_cell BKg2.out 1).trans rfl⟩ (fun hHeld => ?_)
  clear hK K
  refine norm_ (a' := ?_) ?_ ?_
  rotate_left
  · show Act.put _ (some 57) _ = _
    simp only [Act.put, List.setIfInBounds_toArray, List.set_cons_zero, List.set_cons_succ, i64_w, i32_w]
    rfl
  refine pure_ (i := 4) (N := some 58) (v := ?_) (a' := ?_) #[true, true, true, true, true] rfl rfl (by kernel_rfl) (fun _ _ _ h => h) (Or.inl ⟨by rfl, ?_⟩) ?_ ?_
  rotate_left
  · intro w'
    go_simp
    with_reducible rfl
  rotate_left
  · simp only [Act.put, List.setIfInBounds_toArray, List.set_cons_zero, List.set_cons_succ, i64_w, i32_w]
    rfl
  refine done_ (by kernel_rfl) ?_
  have nK := Aside0.mk True.intro
  clear K12
  have K13 := nK
  clear nK
  have hx_g20 : World.cell? _ ⟨g2, 0, none⟩ = some (.slice A0_0 p.length c0_0) := (blk_cell BKg2.out 0).trans rfl
  have hf_g20 := blk_frozen BKg2.out 0
  have hx_g21 : World.cell? _ ⟨g2, 1, none⟩ = some (.slice A0_1 q.length c0_1) := (blk_cell BKg2.out 1).trans rfl
  have hf_g21 := blk_frozen BKg2.out 1
  have hx_g30 : World.cell? _ ⟨g3, 0, none⟩ = some (.slice A1_0 u.length c1_0) := (blk_cell BKg3.out 0).trans rfl
  have hf_g30 := blk_frozen BKg3.out 0
  have hx_g31 : World.cell? _ ⟨g3, 1, none⟩ = some (.slice A1_1 v.length c1_1) := (blk_cell BKg3.out 1).trans rfl
  have hf_g31 := blk_frozen BKg3.out 1
  have hx_g60 : World.cell? _ ⟨g6, 0, none⟩ = some (.slice AW1 r1.length cW1) := (blk_cell BKg6.out 0).trans rfl
  have hf_g60 := blk_frozen BKg6.out 0
  have hx_g61 : World.cell? _ ⟨g6, 1, none⟩ = some (.slice AW2 r2.length cW2) := (blk_cell BKg6.out 1).trans rfl
  have hf_g61 := blk_frozen BKg6.out 1
  have hx_g80 : World.cell? _ ⟨g8, 0, none⟩ = some (.slice AX1 p.length cX1) := (blk_cell BKg8.out 0).trans rfl
  have hf_g80 := blk_frozen BKg8.out 0
  have hx_g81 : World.cell? _ ⟨g8, 1, none⟩ = some (.slice AX2 q.length cX2) := (blk_cell BKg8.out 1).trans rfl
  have hf_g81 := blk_frozen BKg8.out 1
  have hx_g90 : World.cell? _ ⟨g9, 0, none⟩ = some (.slice AX3 u.length cX3) := (blk_cell BKg9.out 0).trans rfl
  have hf_g90 := blk_frozen BKg9.out 0
  have hx_g91 : World.cell? _ ⟨g9, 1, none⟩ = some (.slice AX4 v.length cX4) := (blk_cell BKg9.out 1).trans rfl
  have hf_g91 := blk_frozen BKg9.out 1
  have hx_g100 : World.cell? _ ⟨g10, 0, none⟩ = some (.slice AG1 r1.length cG1) := (blk_cell BKg10.out 0).trans rfl
  have hf_g100 := blk_frozen BKg10.out 0
  have hx_g101 : World.cell? _ ⟨g10, 1, none⟩ = some (.slice AG2 r2.length cG2) := (blk_cell BKg10.out 1).trans rfl
  have hf_g101 := blk_frozen BKg10.out 1
  go_wp2
  clear hx_g20 hf_g20 hx_g21 hf_g21 hx_g30 hf_g30 hx_g31 hf_g31 hx_g60 hf_g60 hx_g61 hf_g61 hx_g80 hf_g80 hx_g81 hf_g81 hx_g90 hf_g90 hx_g91 hf_g91 hx_g100 hf_g100 hx_g101 hf_g101
  have n_W1 := Aside0.mk (Kd.R_drew W1.out)
  clear W1
  have W1 := n_W1
  clear n_W1
  have n_W2 := Aside0.mk (Kd.R_drew W2.out)
  clear W2
  have W2 := n_W2
  clear n_W2
  have n_X1 := Aside0.mk (Kd.R_drew X1.out)
  clear X1
  have X1 := n_X1
  clear n_X1
  have n_X2 := Aside0.mk (Kd.R_drew X2.out)
  clear X2
  have X2 := n_X2
  clear n_X2
  have n_X3 := Aside0.mk (Kd.R_drew X3.out)
  clear X3
  have X3 := n_X3
  clear n_X3
  have n_X4 := Aside0.mk (Kd.R_drew X4.out)
  clear X4
  have X4 := n_X4
  clear n_X4
  have n_G1 := Aside0.mk (Kd.R_drew G1.out)
  clear G1
  have G1 := n_G1
  clear n_G1
  have n_G2 := Aside0.mk (Kd.R_drew G2.out)
  clear G2
  have G2 := n_G2
  clear n_G2
  have n_g2 := Aside0.mk (blk_drew BKg2.out)
  clear BKg2
  have BKg2 := n_g2
  clear n_g2
  have n_g3 := Aside0.mk (blk_drew BKg3.out)
  clear BKg3
  have BKg3 := n_g3
  clear n_g3
  have n_g6 := Aside0.mk (blk_drew BKg6.out)
  clear BKg6
  have BKg6 := n_g6
  clear n_g6
  have n_g8 := Aside0.mk (blk_drew BKg8.out)
  clear BKg8
  have BKg8 := n_g8
  clear n_g8
  have n_g9 := Aside0.mk (blk_drew BKg9.out)
  clear BKg9
  have BKg9 := n_g9
  clear n_g9
  have n_g10 := Aside0.mk (blk_drew BKg10.out)
  clear BKg10
  have BKg10 := n_g10
  clear n_g10
  have nHB := Aside0.mk (below_drew1 HB.out)
  clear HB
  have HB := nHB
  clear nHB
  refine start_ (n := 5) (S := fun w' => w'.cell? ⟨g9, 0, none⟩ = some (.slice AX3 u.length cX3) ∧ w'.cell? ⟨g9, 1, none⟩ = some (.slice AX4 v.length cX4) ∧ w'.cell? ⟨g3, 0, none⟩ = some (.slice A1_0 u.length c1_0) ∧ w'.cell? ⟨g3, 1, none⟩ = some (.slice A1_1 v.length c1_1)) (ds := []) #[false, false, false, false, false] (by kernel_rfl) rfl rfl ⟨(blk_cell BKg9.out 0).trans rfl, (blk_cell BKg9.out 1).trans rfl, (blk_cell BKg3.out 0).trans rfl, (blk_cell BKg3.out 1).trans rfl⟩ (fun hHeld => ?_)
  generalize wq3_.drew = wd13_ at W1 W2 X1 X2 X3 X4 G1 G2 BKg2 BKg3 BKg6 BKg8 BKg9 BKg10 HB hHeld ⊢
  refine take_ (i := 0) (N := some 59) (v := ?_) (a' := ?_) #[true, false, false, false, false] rfl rfl (by kernel_rfl) (fun _ _ _ h => h) (Or.inl ⟨by rfl, ?_⟩) hHeld ?_ ?_
  rotate_left
  · rintro w' ⟨s0, s1, s2, s3⟩
    go_simp
    with_reducible rfl
  rotate_left
  · simp only [Act.put, List.setIfInBounds_toArray, List.set_cons_zero, List.set_cons_succ, i64_w, i32_w]
    rfl
  refine take_ (i := 1) (N := some 60) (v := ?_) (a' := ?_) #[true, true, false, false, false] rfl rfl (by kernel_rfl) (fun _ _ _ h => h) (Or.inl ⟨by rfl, ?_⟩) hHeld ?_ ?_
  rotate_left
  · rintro w' ⟨s0, s1, s2, s3⟩
    go_simp
    with_reducible rfl
  rotate_left
  · simp only [Act.put, List.setIfInBounds_toArray, List.set_cons_zero, List.set_cons_succ, i64_w, i32_w]
    rfl
  refine one_ (i := 2) (N := some 61) #[true, true, true, false, false] rfl rfl (by kernel_rfl) (by decide) (fun K hK => ?_)
  refine goes_ Try.func10 (by kernel_rfl) rfl #[.agg #[.slice A1_0 u.length c1_0, .slice A1_1 v.length c1_1]] (by rfl) rfl rfl (by (try simp only [List.map_toArray, List.map_cons, List.map_nil]); first | done | rfl) ?_
  with_reducible refine (laws_toSeaweed.calls k _ _ u _ _ v u v _ (Kd.C_below H2.out HB.out) C2.out (Kd.C_below H3.out HB.out) C3.out FTB.out).mono ?_
  rintro e wq2_ ⟨vP6, vQ6, rfl, hoP6, hoQ6, hb⟩
  obtain ⟨AP6, cP6, eP6⟩ := Kd.R_slice hoP6
  subst eP6
  obtain ⟨AQ6, cQ6, eQ6⟩ := Kd.R_slice hoQ6
  subst eQ6
  have AP_W1_P6 := Aside0.mk (apart W1.out hoP6)
  have AP_W2_P6 := Aside0.mk (apart W2.out hoP6)
  have AP_X1_P6 := Aside0.mk (apart X1.out hoP6)
  have AP_X2_P6 := Aside0.mk (apart X2.out hoP6)
  have AP_X3_P6 := Aside0.mk (apart X3.out hoP6)
  have AP_X4_P6 := Aside0.mk (apart X4.out hoP6)
  have AP_G1_P6 := Aside0.mk (apart G1.out hoP6)
  have AP_G2_P6 := Aside0.mk (apart G2.out hoP6)
  have AP_W1_Q6 := Aside0.mk (apart W1.out hoQ6)
  have AP_W2_Q6 := Aside0.mk (apart W2.out hoQ6)
  have AP_X1_Q6 := Aside0.mk (apart X1.out hoQ6)
  have AP_X2_Q6 := Aside0.mk (apart X2.out hoQ6)
  have AP_X3_Q6 := Aside0.mk (apart X3.out hoQ6)
  have AP_X4_Q6 := Aside0.mk (apart X4.out hoQ6)
  have AP_G1_Q6 := Aside0.mk (apart G1.out hoQ6)
  have AP_G2_Q6 := Aside0.mk (apart G2.out hoQ6)
  have AP_P6_Q6 := Aside0.mk (apart2 hoP6)
  have q_P6 := Aside0.mk (Kd.R_lower (Kd.R_tight rfl hoP6) HB.out.size)
  clear hoP6
  have q_Q6 := Aside0.mk (Kd.R_lower (Kd.R_tight rfl hoQ6) HB.out.size)
  clear hoQ6
  refine ⟨_, rfl, ?_⟩
  have n_W1 := Aside0.mk (Kd.R_below W1.out hb)
  clear W1
  have W1 := n_W1
  clear n_W1
  have n_W2 := Aside0.mk (Kd.R_below W2.out hb)
  clear W2
  have W2 := n_W2
  clear n_W2
  have n_X1 := Aside0.mk (Kd.R_below X1.out hb)
  clear X1
  have X1 := n_X1
  clear n_X1
  have n_X2 := Aside0.mk (Kd.R_below X2.out hb)
  clear X2
  have X2 := n_X2
  clear n_X2
  have n_X3 := Aside0.mk (Kd.R_below X3.out hb)
  clear X3
  have X3 := n_X3
  clear n_X3
  have n_X4 := Aside0.mk (Kd.R_below X4.out hb)
  clear X4
  have X4 := n_X4
  clear n_X4
  have n_G1 := Aside0.mk (Kd.R_below G1.out hb)
  clear G1
  have G1 := n_G1
  clear n_G1
  have n_G2 := Aside0.mk (Kd.R_below G2.out hb)
  clear G2
  have G2 := n_G2
  clear n_G2
  have n_g2 := Aside0.mk (blk_below BKg2.out hb)
  clear BKg2
  have BKg2 := n_g2
  clear n_g2
  have n_g3 := Aside0.mk (blk_below BKg3.out hb)
  clear BKg3
  have BKg3 := n_g3
  clear n_g3
  have n_g6 := Aside0.mk (blk_below BKg6.out hb)
  clear BKg6
  have BKg6 := n_g6
  clear n_g6
  have n_g8 := Aside0.mk (blk_below BKg8.out hb)
  clear BKg8
  have BKg8 := n_g8
  clear n_g8
  have n_g9 := Aside0.mk (blk_below BKg9.out hb)
  clear BKg9
  have BKg9 := n_g9
  clear n_g9
  have n_g10 := Aside0.mk (blk_below BKg10.out hb)
  clear BKg10
  have BKg10 := n_g10
  clear n_g10
  have P6 := q_P6
  clear q_P6
  have Q6 := q_Q6
  clear q_Q6
  have nHB := Aside0.mk (below_step HB.out hb)
  clear HB
  have HB := nHB
  clear nHB
  clear hb
  refine hK.out _ _ ⟨(blk_cell BKg9.out 0).trans rfl, (blk_cell BKg9.out 1).trans rfl, (blk_cell BKg3.out 0).trans rfl, (blk_cell BKg3.out 1).trans rfl⟩ (fun hHeld => ?_)
  clear hK K
  refine norm_ (a' := ?_) ?_ ?_
  rotate_left
  · show Act.put _ (some 61) _ = _
    simp only [Act.put, List.setIfInBounds_toArray, List.set_cons_zero, List.set_cons_succ, i64_w, i32_w]
    rfl
  refine one_ (i := 3) (N := some 62) #[true, true, true, true, false] rfl rfl (by kernel_rfl) (by decide) (fun K hK => ?_)
  refine goes_ Try.func12 (by kernel_rfl) rfl #[.agg #[.slice AX3 u.length cX3, .slice AX4 v.length cX4], .agg #[.slice AP6 u.length cP6, .slice AQ6 v.length cQ6]] (by rfl) rfl rfl (by (try simp only [List.map_toArray, List.map_cons, List.map_nil]); first | done | rfl) ?_
  with_reducible refine (laws_eqSeaweed.calls k _ _ u _ _ v _ _ u _ _ v true _ (Kd.R_reads' X3.out).2.2 (Kd.R_reads' X3.out).2.1 (Kd.R_reads' X4.out).2.2 (Kd.R_reads' X4.out).2.1 (Kd.R_reads' P6.out).2.2 (Kd.R_reads' P6.out).2.1 (Kd.R_reads' Q6.out).2.2 (Kd.R_reads' Q6.out).2.1 FEB.out).mono ?_
  rintro e wq3_ ⟨rfl, hb⟩
  refine ⟨_, rfl, ?_⟩
  have n_W1 := Aside0.mk (Kd.R_below W1.out hb)
  clear W1
  have W1 := n_W1
  clear n_W1
  have n_W2 := Aside0.mk (Kd.R_below W2.out hb)
  clear W2
  have W2 := n_W2
  clear n_W2
  have n_X1 := Aside0.mk (Kd.R_below X1.out hb)
  clear X1
  have X1 := n_X1
  clear n_X1
  have n_X2 := Aside0.mk (Kd.R_below X2.out hb)
  clear X2
  have X2 := n_X2
  clear n_X2
  have n_X3 := Aside0.mk (Kd.R_below X3.out hb)
  clear X3
  have X3 := n_X3
  clear n_X3
  have n_X4 := Aside0.mk (Kd.R_below X4.out hb)
  clear X4
  have X4 := n_X4
  clear n_X4
  have n_G1 := Aside0.mk (Kd.R_below G1.out hb)
  clear G1
  have G1 := n_G1
  clear n_G1
  have n_G2 := Aside0.mk (Kd.R_below G2.out hb)
  clear G2
  have G2 := n_G2
  clear n_G2
  have n_g2 := Aside0.mk (blk_below BKg2.out hb)
  clear BKg2
  have BKg2 := n_g2
  clear n_g2
  have n_g3 := Aside0.mk (blk_below BKg3.out hb)
  clear BKg3
  have BKg3 := n_g3
  clear n_g3
  have n_g6 := Aside0.mk (blk_below BKg6.out hb)
  clear BKg6
  have BKg6 := n_g6
  clear n_g6
  have n_g8 := Aside0.mk (blk_below BKg8.out hb)
  clear BKg8
  have BKg8 := n_g8
  clear n_g8
  have n_g9 := Aside0.mk (blk_below BKg9.out hb)
  clear BKg9
  have BKg9 := n_g9
  clear n_g9
  have n_g10 := Aside0.mk (blk_below BKg10.out hb)
  clear BKg10
  have BKg10 := n_g10
  clear n_g10
  have nHB := Aside0.mk (below_step HB.out hb)
  clear HB
  have HB := nHB
  clear nHB
  clear P6
  clear Q6
  clear hb
  refine hK.out _ _ ⟨(blk_cell BKg9.out 0).trans rfl, (blk_cell BKg9.out 1).trans rfl, (blk_cell BKg3.out 0).trans rfl, (blk_cell BKg3.out 1).trans rfl⟩ (fun hHeld => ?_)
  clear hK K
  refine norm_ (a' := ?_) ?_ ?_
  rotate_left
  · show Act.put _ (some 62) _ = _
    simp only [Act.put, List.setIfInBounds_toArray, List.set_cons_zero, List.set_cons_succ, i64_w, i32_w]
    rfl
  refine pure_ (i := 4) (N := some 63) (v := ?_) (a' := ?_) #[true, true, true, true, true] rfl rfl (by kernel_rfl) (fun _ _ _ h => h) (Or.inl ⟨by rfl, ?_⟩) ?_ ?_
  rotate_left
  · intro w'
    go_simp
    with_reducible rfl
  rotate_left
  · simp only [Act.put, List.setIfInBounds_toArray, List.set_cons_zero, List.set_cons_succ, i64_w, i32_w]
    rfl
  refine done_ (by kernel_rfl) ?_
  have nK := Aside0.mk True.intro
  clear K13
  have K14 := nK
  clear nK
  have hx_g20 : World.cell? _ ⟨g2, 0, none⟩ = some (.slice A0_0 p.length c0_0) := (blk_cell BKg2.out 0).trans rfl
  have hf_g20 := blk_frozen BKg2.out 0
  have hx_g21 : World.cell? _ ⟨g2, 1, none⟩ = some (.slice A0_1 q.length c0_1) := (blk_cell BKg2.out 1).trans rfl
  have hf_g21 := blk_frozen BKg2.out 1
  have hx_g30 : World.cell? _ ⟨g3, 0, none⟩ = some (.slice A1_0 u.length c1_0) := (blk_cell BKg3.out 0).trans rfl
  have hf_g30 := blk_frozen BKg3.out 0
  have hx_g31 : World.cell? _ ⟨g3, 1, none⟩ = some (.slice A1_1 v.length c1_1) := (blk_cell BKg3.out 1).trans rfl
  have hf_g31 := blk_frozen BKg3.out 1
  have hx_g60 : World.cell? _ ⟨g6, 0, none⟩ = some (.slice AW1 r1.length cW1) := (blk_cell BKg6.out 0).trans rfl
  have hf_g60 := blk_frozen BKg6.out 0
  have hx_g61 : World.cell? _ ⟨g6, 1, none⟩ = some (.slice AW2 r2.length cW2) := (blk_cell BKg6.out 1).trans rfl
  have hf_g61 := blk_frozen BKg6.out 1
  have hx_g80 : World.cell? _ ⟨g8, 0, none⟩ = some (.slice AX1 p.length cX1) := (blk_cell BKg8.out 0).trans rfl
  have hf_g80 := blk_frozen BKg8.out 0
  have hx_g81 : World.cell? _ ⟨g8, 1, none⟩ = some (.slice AX2 q.length cX2) := (blk_cell BKg8.out 1).trans rfl
  have hf_g81 := blk_frozen BKg8.out 1
  have hx_g90 : World.cell? _ ⟨g9, 0, none⟩ = some (.slice AX3 u.length cX3) := (blk_cell BKg9.out 0).trans rfl
  have hf_g90 := blk_frozen BKg9.out 0
  have hx_g91 : World.cell? _ ⟨g9, 1, none⟩ = some (.slice AX4 v.length cX4) := (blk_cell BKg9.out 1).trans rfl
  have hf_g91 := blk_frozen BKg9.out 1
  have hx_g100 : World.cell? _ ⟨g10, 0, none⟩ = some (.slice AG1 r1.length cG1) := (blk_cell BKg10.out 0).trans rfl
  have hf_g100 := blk_frozen BKg10.out 0
  have hx_g101 : World.cell? _ ⟨g10, 1, none⟩ = some (.slice AG2 r2.length cG2) := (blk_cell BKg10.out 1).trans rfl
  have hf_g101 := blk_frozen BKg10.out 1
  go_wp2_with (first
    | (go_at_call 14; have hK := K18.out; (with_reducible refine (held_told k _ _ _ _ _ _ L1 L2 m _ M1.out M2.out FH.out).mono ?_); rintro e w18_ ⟨rfl, hb⟩; clear hK K18; clear hx_g20 hf_g20 hx_g21 hf_g21 hx_g30 hf_g30 hx_g31 hf_g31 hx_g60 hf_g60 hx_g61 hf_g61 hx_g80 hf_g80 hx_g81 hf_g81 hx_g90 hf_g90 hx_g91 hf_g91 hx_g100 hf_g100 hx_g101 hf_g101; have n_W1 := Aside0.mk (Kd.R_below W1.out hb); clear W1; have W1 := n_W1; clear n_W1; have n_W2 := Aside0.mk (Kd.R_below W2.out hb); clear W2; have W2 := n_W2; clear n_W2; have n_M1 := Aside0.mk (Kd.R_below M1.out hb); clear M1; have M1 := n_M1; clear n_M1; have n_M2 := Aside0.mk (Kd.R_below M2.out hb); clear M2; have M2 := n_M2; clear n_M2; have n_g2 := Aside0.mk (blk_below BKg2.out hb); clear BKg2; have BKg2 := n_g2; clear n_g2; have n_g3 := Aside0.mk (blk_below BKg3.out hb); clear BKg3; have BKg3 := n_g3; clear n_g3; have n_g6 := Aside0.mk (blk_below BKg6.out hb); clear BKg6; have BKg6 := n_g6; clear n_g6; have n_g8 := Aside0.mk (blk_below BKg8.out hb); clear BKg8; have BKg8 := n_g8; clear n_g8; have n_g9 := Aside0.mk (blk_below BKg9.out hb); clear BKg9; have BKg9 := n_g9; clear n_g9; have n_g10 := Aside0.mk (blk_below BKg10.out hb); clear BKg10; have BKg10 := n_g10; clear n_g10; have nHB := Aside0.mk (below_step HB.out hb); clear HB; have HB := nHB; clear nHB; have K19 := Aside0.mk True.intro; have hx_g20 : World.cell? _ ⟨g2, 0, none⟩ = some (.slice A0_0 p.length c0_0) := (blk_cell BKg2.out 0).trans rfl; have hf_g20 := blk_frozen BKg2.out 0; have hx_g21 : World.cell? _ ⟨g2, 1, none⟩ = some (.slice A0_1 q.length c0_1) := (blk_cell BKg2.out 1).trans rfl; have hf_g21 := blk_frozen BKg2.out 1; have hx_g30 : World.cell? _ ⟨g3, 0, none⟩ = some (.slice A1_0 u.length c1_0) := (blk_cell BKg3.out 0).trans rfl; have hf_g30 := blk_frozen BKg3.out 0; have hx_g31 : World.cell? _ ⟨g3, 1, none⟩ = some (.slice A1_1 v.length c1_1) := (blk_cell BKg3.out 1).trans rfl; have hf_g31 := blk_frozen BKg3.out 1; have hx_g60 : World.cell? _ ⟨g6, 0, none⟩ = some (.slice AW1 r1.length cW1) := (blk_cell BKg6.out 0).trans rfl; have hf_g60 := blk_frozen BKg6.out 0; have hx_g61 : World.cell? _ ⟨g6, 1, none⟩ = some (.slice AW2 r2.length cW2) := (blk_cell BKg6.out 1).trans rfl; have hf_g61 := blk_frozen BKg6.out 1; have hx_g80 : World.cell? _ ⟨g8, 0, none⟩ = some (.slice AX1 p.length cX1) := (blk_cell BKg8.out 0).trans rfl; have hf_g80 := blk_frozen BKg8.out 0; have hx_g81 : World.cell? _ ⟨g8, 1, none⟩ = some (.slice AX2 q.length cX2) := (blk_cell BKg8.out 1).trans rfl; have hf_g81 := blk_frozen BKg8.out 1; have hx_g90 : World.cell? _ ⟨g9, 0, none⟩ = some (.slice AX3 u.length cX3) := (blk_cell BKg9.out 0).trans rfl; have hf_g90 := blk_frozen BKg9.out 0; have hx_g91 : World.cell? _ ⟨g9, 1, none⟩ = some (.slice AX4 v.length cX4) := (blk_cell BKg9.out 1).trans rfl; have hf_g91 := blk_frozen BKg9.out 1; have hx_g100 : World.cell? _ ⟨g10, 0, none⟩ = some (.slice AG1 r1.length cG1) := (blk_cell BKg10.out 0).trans rfl; have hf_g100 := blk_frozen BKg10.out 0; have hx_g101 : World.cell? _ ⟨g10, 1, none⟩ = some (.slice AG2 r2.length cG2) := (blk_cell BKg10.out 1).trans rfl; have hf_g101 := blk_frozen BKg10.out 1; clear hb)
    | (go_at_call 13; have hK := K17.out; (with_reducible refine (laws_markSeaweed.calls k (fun k_ => some k_ = (.slice AG1 r1.length cG1 : Value).ownBlock) _ r1 (fun k_ => some k_ = (.slice AG2 r2.length cG2 : Value).ownBlock) _ r2 1 m L1 L2 w _ HB.out G1.out AP_G1_G2.out G2.out (swap_ap AP_G1_G2.out) FMG.out).mono ?_); rintro e w17_ ⟨rfl, hoX, hoY, hb, hkp⟩; clear hK K17; have q_A := Aside0.mk (Kd.R_tight rfl hoX); have q_B := Aside0.mk (Kd.R_tight rfl hoY); clear hoX hoY; clear hx_g20 hf_g20 hx_g21 hf_g21 hx_g30 hf_g30 hx_g31 hf_g31 hx_g60 hf_g60 hx_g61 hf_g61 hx_g80 hf_g80 hx_g81 hf_g81 hx_g90 hf_g90 hx_g91 hf_g91 hx_g100 hf_g100 hx_g101 hf_g101; have n_W1 := Aside0.mk (Kd.R_step W1.out (fun k hk hlt => hkp.2 k hlt (fun e => e.elim (AP_W1_G1.out k hk) (AP_W1_G2.out k hk)))); clear W1; have W1 := n_W1; clear n_W1; have n_W2 := Aside0.mk (Kd.R_step W2.out (fun k hk hlt => hkp.2 k hlt (fun e => e.elim (AP_W2_G1.out k hk) (AP_W2_G2.out k hk)))); clear W2; have W2 := n_W2; clear n_W2; have n_g2 := Aside0.mk (kept_box BKg2.out hkp (fun k e hk => e.elim (fun e => (Kd.R_ne G1.out BKg2.out (by decide)) (hk ▸ e)) (fun e => (Kd.R_ne G2.out BKg2.out (by decide)) (hk ▸ e)))); clear BKg2; have BKg2 := n_g2; clear n_g2; have n_g3 := Aside0.mk (kept_box BKg3.out hkp (fun k e hk => e.elim (fun e => (Kd.R_ne G1.out BKg3.out (by decide)) (hk ▸ e)) (fun e => (Kd.R_ne G2.out BKg3.out (by decide)) (hk ▸ e)))); clear BKg3; have BKg3 := n_g3; clear n_g3; have n_g6 := Aside0.mk (kept_box BKg6.out hkp (fun k e hk => e.elim (fun e => (Kd.R_ne G1.out BKg6.out (by decide)) (hk ▸ e)) (fun e => (Kd.R_ne G2.out BKg6.out (by decide)) (hk ▸ e)))); clear BKg6; have BKg6 := n_g6; clear n_g6; have n_g8 := Aside0.mk (kept_box BKg8.out hkp (fun k e hk => e.elim (fun e => (Kd.R_ne G1.out BKg8.out (by decide)) (hk ▸ e)) (fun e => (Kd.R_ne G2.out BKg8.out (by decide)) (hk ▸ e)))); clear BKg8; have BKg8 := n_g8; clear n_g8; have n_g9 := Aside0.mk (kept_box BKg9.out hkp (fun k e hk => e.elim (fun e => (Kd.R_ne G1.out BKg9.out (by decide)) (hk ▸ e)) (fun e => (Kd.R_ne G2.out BKg9.out (by decide)) (hk ▸ e)))); clear BKg9; have BKg9 := n_g9; clear n_g9; have n_g10 := Aside0.mk (kept_box BKg10.out hkp (fun k e hk => e.elim (fun e => (Kd.R_ne G1.out BKg10.out (by decide)) (hk ▸ e)) (fun e => (Kd.R_ne G2.out BKg10.out (by decide)) (hk ▸ e)))); clear BKg10; have BKg10 := n_g10; clear n_g10; clear hkp; have M1 := q_A; have M2 := q_B; clear q_A q_B; have nHB := Aside0.mk (hb); clear HB; have HB := nHB; clear nHB; clear G1; clear G2; have K18 := Aside0.mk True.intro; have hx_g20 : World.cell? _ ⟨g2, 0, none⟩ = some (.slice A0_0 p.length c0_0) := (blk_cell BKg2.out 0).trans rfl; have hf_g20 := blk_frozen BKg2.out 0; have hx_g21 : World.cell? _ ⟨g2, 1, none⟩ = some (.slice A0_1 q.length c0_1) := (blk_cell BKg2.out 1).trans rfl; have hf_g21 := blk_frozen BKg2.out 1; have hx_g30 : World.cell? _ ⟨g3, 0, none⟩ = some (.slice A1_0 u.length c1_0) := (blk_cell BKg3.out 0).trans rfl; have hf_g30 := blk_frozen BKg3.out 0; have hx_g31 : World.cell? _ ⟨g3, 1, none⟩ = some (.slice A1_1 v.length c1_1) := (blk_cell BKg3.out 1).trans rfl; have hf_g31 := blk_frozen BKg3.out 1; have hx_g60 : World.cell? _ ⟨g6, 0, none⟩ = some (.slice AW1 r1.length cW1) := (blk_cell BKg6.out 0).trans rfl; have hf_g60 := blk_frozen BKg6.out 0; have hx_g61 : World.cell? _ ⟨g6, 1, none⟩ = some (.slice AW2 r2.length cW2) := (blk_cell BKg6.out 1).trans rfl; have hf_g61 := blk_frozen BKg6.out 1; have hx_g80 : World.cell? _ ⟨g8, 0, none⟩ = some (.slice AX1 p.length cX1) := (blk_cell BKg8.out 0).trans rfl; have hf_g80 := blk_frozen BKg8.out 0; have hx_g81 : World.cell? _ ⟨g8, 1, none⟩ = some (.slice AX2 q.length cX2) := (blk_cell BKg8.out 1).trans rfl; have hf_g81 := blk_frozen BKg8.out 1; have hx_g90 : World.cell? _ ⟨g9, 0, none⟩ = some (.slice AX3 u.length cX3) := (blk_cell BKg9.out 0).trans rfl; have hf_g90 := blk_frozen BKg9.out 0; have hx_g91 : World.cell? _ ⟨g9, 1, none⟩ = some (.slice AX4 v.length cX4) := (blk_cell BKg9.out 1).trans rfl; have hf_g91 := blk_frozen BKg9.out 1; have hx_g100 : World.cell? _ ⟨g10, 0, none⟩ = some (.slice AG1 r1.length cG1) := (blk_cell BKg10.out 0).trans rfl; have hf_g100 := blk_frozen BKg10.out 0; have hx_g101 : World.cell? _ ⟨g10, 1, none⟩ = some (.slice AG2 r2.length cG2) := (blk_cell BKg10.out 1).trans rfl; have hf_g101 := blk_frozen BKg10.out 1; clear hb)
    | (go_at_call 12; have hK := K16.out; (with_reducible refine (laws_eqSeaweed.calls k _ _ r1 _ _ r2 _ _ r1 _ _ r2 true _ (Kd.R_reads' G1.out).2.2 (Kd.R_reads' G1.out).2.1 (Kd.R_reads' G2.out).2.2 (Kd.R_reads' G2.out).2.1 (Kd.R_reads' W1.out).2.2 (Kd.R_reads' W1.out).2.1 (Kd.R_reads' W2.out).2.2 (Kd.R_reads' W2.out).2.1 FE.out).mono ?_); rintro e w16_ ⟨rfl, hb⟩; clear hK K16; clear hx_g20 hf_g20 hx_g21 hf_g21 hx_g30 hf_g30 hx_g31 hf_g31 hx_g60 hf_g60 hx_g61 hf_g61 hx_g80 hf_g80 hx_g81 hf_g81 hx_g90 hf_g90 hx_g91 hf_g91 hx_g100 hf_g100 hx_g101 hf_g101; have n_W1 := Aside0.mk (Kd.R_below W1.out hb); clear W1; have W1 := n_W1; clear n_W1; have n_W2 := Aside0.mk (Kd.R_below W2.out hb); clear W2; have W2 := n_W2; clear n_W2; have n_G1 := Aside0.mk (Kd.R_below G1.out hb); clear G1; have G1 := n_G1; clear n_G1; have n_G2 := Aside0.mk (Kd.R_below G2.out hb); clear G2; have G2 := n_G2; clear n_G2; have n_g2 := Aside0.mk (blk_below BKg2.out hb); clear BKg2; have BKg2 := n_g2; clear n_g2; have n_g3 := Aside0.mk (blk_below BKg3.out hb); clear BKg3; have BKg3 := n_g3; clear n_g3; have n_g6 := Aside0.mk (blk_below BKg6.out hb); clear BKg6; have BKg6 := n_g6; clear n_g6; have n_g8 := Aside0.mk (blk_below BKg8.out hb); clear BKg8; have BKg8 := n_g8; clear n_g8; have n_g9 := Aside0.mk (blk_below BKg9.out hb); clear BKg9; have BKg9 := n_g9; clear n_g9; have n_g10 := Aside0.mk (blk_below BKg10.out hb); clear BKg10; have BKg10 := n_g10; clear n_g10; have nHB := Aside0.mk (below_step HB.out hb); clear HB; have HB := nHB; clear nHB; have K17 := Aside0.mk True.intro; have hx_g20 : World.cell? _ ⟨g2, 0, none⟩ = some (.slice A0_0 p.length c0_0) := (blk_cell BKg2.out 0).trans rfl; have hf_g20 := blk_frozen BKg2.out 0; have hx_g21 : World.cell? _ ⟨g2, 1, none⟩ = some (.slice A0_1 q.length c0_1) := (blk_cell BKg2.out 1).trans rfl; have hf_g21 := blk_frozen BKg2.out 1; have hx_g30 : World.cell? _ ⟨g3, 0, none⟩ = some (.slice A1_0 u.length c1_0) := (blk_cell BKg3.out 0).trans rfl; have hf_g30 := blk_frozen BKg3.out 0; have hx_g31 : World.cell? _ ⟨g3, 1, none⟩ = some (.slice A1_1 v.length c1_1) := (blk_cell BKg3.out 1).trans rfl; have hf_g31 := blk_frozen BKg3.out 1; have hx_g60 : World.cell? _ ⟨g6, 0, none⟩ = some (.slice AW1 r1.length cW1) := (blk_cell BKg6.out 0).trans rfl; have hf_g60 := blk_frozen BKg6.out 0; have hx_g61 : World.cell? _ ⟨g6, 1, none⟩ = some (.slice AW2 r2.length cW2) := (blk_cell BKg6.out 1).trans rfl; have hf_g61 := blk_frozen BKg6.out 1; have hx_g80 : World.cell? _ ⟨g8, 0, none⟩ = some (.slice AX1 p.length cX1) := (blk_cell BKg8.out 0).trans rfl; have hf_g80 := blk_frozen BKg8.out 0; have hx_g81 : World.cell? _ ⟨g8, 1, none⟩ = some (.slice AX2 q.length cX2) := (blk_cell BKg8.out 1).trans rfl; have hf_g81 := blk_frozen BKg8.out 1; have hx_g90 : World.cell? _ ⟨g9, 0, none⟩ = some (.slice AX3 u.length cX3) := (blk_cell BKg9.out 0).trans rfl; have hf_g90 := blk_frozen BKg9.out 0; have hx_g91 : World.cell? _ ⟨g9, 1, none⟩ = some (.slice AX4 v.length cX4) := (blk_cell BKg9.out 1).trans rfl; have hf_g91 := blk_frozen BKg9.out 1; have hx_g100 : World.cell? _ ⟨g10, 0, none⟩ = some (.slice AG1 r1.length cG1) := (blk_cell BKg10.out 0).trans rfl; have hf_g100 := blk_frozen BKg10.out 0; have hx_g101 : World.cell? _ ⟨g10, 1, none⟩ = some (.slice AG2 r2.length cG2) := (blk_cell BKg10.out 1).trans rfl; have hf_g101 := blk_frozen BKg10.out 1; clear hb)
    | (go_at_call 13; have hK := K15.out; (with_reducible refine (laws_markSeaweed.calls k (fun k_ => some k_ = (.slice AX3 u.length cX3 : Value).ownBlock) _ u (fun k_ => some k_ = (.slice AX4 v.length cX4 : Value).ownBlock) _ v k1 k2 Y3 Y4 w _ HB.out X3.out AP_X3_X4.out X4.out (swap_ap AP_X3_X4.out) FM2.out).mono ?_); rintro e w15_ ⟨rfl, hoX, hoY, hb, hkp⟩; clear hK K15; have q_A := Aside0.mk (Kd.R_tight rfl hoX); have q_B := Aside0.mk (Kd.R_tight rfl hoY); clear hoX hoY; clear hx_g20 hf_g20 hx_g21 hf_g21 hx_g30 hf_g30 hx_g31 hf_g31 hx_g60 hf_g60 hx_g61 hf_g61 hx_g80 hf_g80 hx_g81 hf_g81 hx_g90 hf_g90 hx_g91 hf_g91 hx_g100 hf_g100 hx_g101 hf_g101; have n_W1 := Aside0.mk (Kd.R_step W1.out (fun k hk hlt => hkp.2 k hlt (fun e => e.elim (AP_W1_X3.out k hk) (AP_W1_X4.out k hk)))); clear W1; have W1 := n_W1; clear n_W1; have n_W2 := Aside0.mk (Kd.R_step W2.out (fun k hk hlt => hkp.2 k hlt (fun e => e.elim (AP_W2_X3.out k hk) (AP_W2_X4.out k hk)))); clear W2; have W2 := n_W2; clear n_W2; have n_G1 := Aside0.mk (Kd.R_step G1.out (fun k hk hlt => hkp.2 k hlt (fun e => e.elim (fun e => AP_X3_G1.out k e hk) (fun e => AP_X4_G1.out k e hk)))); clear G1; have G1 := n_G1; clear n_G1; have n_G2 := Aside0.mk (Kd.R_step G2.out (fun k hk hlt => hkp.2 k hlt (fun e => e.elim (fun e => AP_X3_G2.out k e hk) (fun e => AP_X4_G2.out k e hk)))); clear G2; have G2 := n_G2; clear n_G2; have n_g2 := Aside0.mk (kept_box BKg2.out hkp (fun k e hk => e.elim (fun e => (Kd.R_ne X3.out BKg2.out (by decide)) (hk ▸ e)) (fun e => (Kd.R_ne X4.out BKg2.out (by decide)) (hk ▸ e)))); clear BKg2; have BKg2 := n_g2; clear n_g2; have n_g3 := Aside0.mk (kept_box BKg3.out hkp (fun k e hk => e.elim (fun e => (Kd.R_ne X3.out BKg3.out (by decide)) (hk ▸ e)) (fun e => (Kd.R_ne X4.out BKg3.out (by decide)) (hk ▸ e)))); clear BKg3; have BKg3 := n_g3; clear n_g3; have n_g6 := Aside0.mk (kept_box BKg6.out hkp (fun k e hk => e.elim (fun e => (Kd.R_ne X3.out BKg6.out (by decide)) (hk ▸ e)) (fun e => (Kd.R_ne X4.out BKg6.out (by decide)) (hk ▸ e)))); clear BKg6; have BKg6 := n_g6; clear n_g6; have n_g8 := Aside0.mk (kept_box BKg8.out hkp (fun k e hk => e.elim (fun e => (Kd.R_ne X3.out BKg8.out (by decide)) (hk ▸ e)) (fun e => (Kd.R_ne X4.out BKg8.out (by decide)) (hk ▸ e)))); clear BKg8; have BKg8 := n_g8; clear n_g8; have n_g9 := Aside0.mk (kept_box BKg9.out hkp (fun k e hk => e.elim (fun e => (Kd.R_ne X3.out BKg9.out (by decide)) (hk ▸ e)) (fun e => (Kd.R_ne X4.out BKg9.out (by decide)) (hk ▸ e)))); clear BKg9; have BKg9 := n_g9; clear n_g9; have n_g10 := Aside0.mk (kept_box BKg10.out hkp (fun k e hk => e.elim (fun e => (Kd.R_ne X3.out BKg10.out (by decide)) (hk ▸ e)) (fun e => (Kd.R_ne X4.out BKg10.out (by decide)) (hk ▸ e)))); clear BKg10; have BKg10 := n_g10; clear n_g10; clear hkp; clear q_A q_B; have nHB := Aside0.mk (hb); clear HB; have HB := nHB; clear nHB; clear X3; clear X4; have K16 := Aside0.mk True.intro; have hx_g20 : World.cell? _ ⟨g2, 0, none⟩ = some (.slice A0_0 p.length c0_0) := (blk_cell BKg2.out 0).trans rfl; have hf_g20 := blk_frozen BKg2.out 0; have hx_g21 : World.cell? _ ⟨g2, 1, none⟩ = some (.slice A0_1 q.length c0_1) := (blk_cell BKg2.out 1).trans rfl; have hf_g21 := blk_frozen BKg2.out 1; have hx_g30 : World.cell? _ ⟨g3, 0, none⟩ = some (.slice A1_0 u.length c1_0) := (blk_cell BKg3.out 0).trans rfl; have hf_g30 := blk_frozen BKg3.out 0; have hx_g31 : World.cell? _ ⟨g3, 1, none⟩ = some (.slice A1_1 v.length c1_1) := (blk_cell BKg3.out 1).trans rfl; have hf_g31 := blk_frozen BKg3.out 1; have hx_g60 : World.cell? _ ⟨g6, 0, none⟩ = some (.slice AW1 r1.length cW1) := (blk_cell BKg6.out 0).trans rfl; have hf_g60 := blk_frozen BKg6.out 0; have hx_g61 : World.cell? _ ⟨g6, 1, none⟩ = some (.slice AW2 r2.length cW2) := (blk_cell BKg6.out 1).trans rfl; have hf_g61 := blk_frozen BKg6.out 1; have hx_g80 : World.cell? _ ⟨g8, 0, none⟩ = some (.slice AX1 p.length cX1) := (blk_cell BKg8.out 0).trans rfl; have hf_g80 := blk_frozen BKg8.out 0; have hx_g81 : World.cell? _ ⟨g8, 1, none⟩ = some (.slice AX2 q.length cX2) := (blk_cell BKg8.out 1).trans rfl; have hf_g81 := blk_frozen BKg8.out 1; have hx_g90 : World.cell? _ ⟨g9, 0, none⟩ = some (.slice AX3 u.length cX3) := (blk_cell BKg9.out 0).trans rfl; have hf_g90 := blk_frozen BKg9.out 0; have hx_g91 : World.cell? _ ⟨g9, 1, none⟩ = some (.slice AX4 v.length cX4) := (blk_cell BKg9.out 1).trans rfl; have hf_g91 := blk_frozen BKg9.out 1; have hx_g100 : World.cell? _ ⟨g10, 0, none⟩ = some (.slice AG1 r1.length cG1) := (blk_cell BKg10.out 0).trans rfl; have hf_g100 := blk_frozen BKg10.out 0; have hx_g101 : World.cell? _ ⟨g10, 1, none⟩ = some (.slice AG2 r2.length cG2) := (blk_cell BKg10.out 1).trans rfl; have hf_g101 := blk_frozen BKg10.out 1; clear hb)
    | (go_at_call 13; have hK := K14.out; (with_reducible refine (laws_markSeaweed.calls k (fun k_ => some k_ = (.slice AX1 p.length cX1 : Value).ownBlock) _ p (fun k_ => some k_ = (.slice AX2 q.length cX2 : Value).ownBlock) _ q 1 k1 Y1 Y2 w _ HB.out X1.out AP_X1_X2.out X2.out (swap_ap AP_X1_X2.out) FM1.out).mono ?_); rintro e w14_ ⟨rfl, hoX, hoY, hb, hkp⟩; clear hK K14; have q_A := Aside0.mk (Kd.R_tight rfl hoX); have q_B := Aside0.mk (Kd.R_tight rfl hoY); clear hoX hoY; clear hx_g20 hf_g20 hx_g21 hf_g21 hx_g30 hf_g30 hx_g31 hf_g31 hx_g60 hf_g60 hx_g61 hf_g61 hx_g80 hf_g80 hx_g81 hf_g81 hx_g90 hf_g90 hx_g91 hf_g91 hx_g100 hf_g100 hx_g101 hf_g101; have n_W1 := Aside0.mk (Kd.R_step W1.out (fun k hk hlt => hkp.2 k hlt (fun e => e.elim (AP_W1_X1.out k hk) (AP_W1_X2.out k hk)))); clear W1; have W1 := n_W1; clear n_W1; have n_W2 := Aside0.mk (Kd.R_step W2.out (fun k hk hlt => hkp.2 k hlt (fun e => e.elim (AP_W2_X1.out k hk) (AP_W2_X2.out k hk)))); clear W2; have W2 := n_W2; clear n_W2; have n_X3 := Aside0.mk (Kd.R_step X3.out (fun k hk hlt => hkp.2 k hlt (fun e => e.elim (fun e => AP_X1_X3.out k e hk) (fun e => AP_X2_X3.out k e hk)))); clear X3; have X3 := n_X3; clear n_X3; have n_X4 := Aside0.mk (Kd.R_step X4.out (fun k hk hlt => hkp.2 k hlt (fun e => e.elim (fun e => AP_X1_X4.out k e hk) (fun e => AP_X2_X4.out k e hk)))); clear X4; have X4 := n_X4; clear n_X4; have n_G1 := Aside0.mk (Kd.R_step G1.out (fun k hk hlt => hkp.2 k hlt (fun e => e.elim (fun e => AP_X1_G1.out k e hk) (fun e => AP_X2_G1.out k e hk)))); clear G1; have G1 := n_G1; clear n_G1; have n_G2 := Aside0.mk (Kd.R_step G2.out (fun k hk hlt => hkp.2 k hlt (fun e => e.elim (fun e => AP_X1_G2.out k e hk) (fun e => AP_X2_G2.out k e hk)))); clear G2; have G2 := n_G2; clear n_G2; have n_g2 := Aside0.mk (kept_box BKg2.out hkp (fun k e hk => e.elim (fun e => (Kd.R_ne X1.out BKg2.out (by decide)) (hk ▸ e)) (fun e => (Kd.R_ne X2.out BKg2.out (by decide)) (hk ▸ e)))); clear BKg2; have BKg2 := n_g2; clear n_g2; have n_g3 := Aside0.mk (kept_box BKg3.out hkp (fun k e hk => e.elim (fun e => (Kd.R_ne X1.out BKg3.out (by decide)) (hk ▸ e)) (fun e => (Kd.R_ne X2.out BKg3.out (by decide)) (hk ▸ e)))); clear BKg3; have BKg3 := n_g3; clear n_g3; have n_g6 := Aside0.mk (kept_box BKg6.out hkp (fun k e hk => e.elim (fun e => (Kd.R_ne X1.out BKg6.out (by decide)) (hk ▸ e)) (fun e => (Kd.R_ne X2.out BKg6.out (by decide)) (hk ▸ e)))); clear BKg6; have BKg6 := n_g6; clear n_g6; have n_g8 := Aside0.mk (kept_box BKg8.out hkp (fun k e hk => e.elim (fun e => (Kd.R_ne X1.out BKg8.out (by decide)) (hk ▸ e)) (fun e => (Kd.R_ne X2.out BKg8.out (by decide)) (hk ▸ e)))); clear BKg8; have BKg8 := n_g8; clear n_g8; have n_g9 := Aside0.mk (kept_box BKg9.out hkp (fun k e hk => e.elim (fun e => (Kd.R_ne X1.out BKg9.out (by decide)) (hk ▸ e)) (fun e => (Kd.R_ne X2.out BKg9.out (by decide)) (hk ▸ e)))); clear BKg9; have BKg9 := n_g9; clear n_g9; have n_g10 := Aside0.mk (kept_box BKg10.out hkp (fun k e hk => e.elim (fun e => (Kd.R_ne X1.out BKg10.out (by decide)) (hk ▸ e)) (fun e => (Kd.R_ne X2.out BKg10.out (by decide)) (hk ▸ e)))); clear BKg10; have BKg10 := n_g10; clear n_g10; clear hkp; clear q_A q_B; have nHB := Aside0.mk (hb); clear HB; have HB := nHB; clear nHB; clear X1; clear X2; have K15 := Aside0.mk True.intro; have hx_g20 : World.cell? _ ⟨g2, 0, none⟩ = some (.slice A0_0 p.length c0_0) := (blk_cell BKg2.out 0).trans rfl; have hf_g20 := blk_frozen BKg2.out 0; have hx_g21 : World.cell? _ ⟨g2, 1, none⟩ = some (.slice A0_1 q.length c0_1) := (blk_cell BKg2.out 1).trans rfl; have hf_g21 := blk_frozen BKg2.out 1; have hx_g30 : World.cell? _ ⟨g3, 0, none⟩ = some (.slice A1_0 u.length c1_0) := (blk_cell BKg3.out 0).trans rfl; have hf_g30 := blk_frozen BKg3.out 0; have hx_g31 : World.cell? _ ⟨g3, 1, none⟩ = some (.slice A1_1 v.length c1_1) := (blk_cell BKg3.out 1).trans rfl; have hf_g31 := blk_frozen BKg3.out 1; have hx_g60 : World.cell? _ ⟨g6, 0, none⟩ = some (.slice AW1 r1.length cW1) := (blk_cell BKg6.out 0).trans rfl; have hf_g60 := blk_frozen BKg6.out 0; have hx_g61 : World.cell? _ ⟨g6, 1, none⟩ = some (.slice AW2 r2.length cW2) := (blk_cell BKg6.out 1).trans rfl; have hf_g61 := blk_frozen BKg6.out 1; have hx_g80 : World.cell? _ ⟨g8, 0, none⟩ = some (.slice AX1 p.length cX1) := (blk_cell BKg8.out 0).trans rfl; have hf_g80 := blk_frozen BKg8.out 0; have hx_g81 : World.cell? _ ⟨g8, 1, none⟩ = some (.slice AX2 q.length cX2) := (blk_cell BKg8.out 1).trans rfl; have hf_g81 := blk_frozen BKg8.out 1; have hx_g90 : World.cell? _ ⟨g9, 0, none⟩ = some (.slice AX3 u.length cX3) := (blk_cell BKg9.out 0).trans rfl; have hf_g90 := blk_frozen BKg9.out 0; have hx_g91 : World.cell? _ ⟨g9, 1, none⟩ = some (.slice AX4 v.length cX4) := (blk_cell BKg9.out 1).trans rfl; have hf_g91 := blk_frozen BKg9.out 1; have hx_g100 : World.cell? _ ⟨g10, 0, none⟩ = some (.slice AG1 r1.length cG1) := (blk_cell BKg10.out 0).trans rfl; have hf_g100 := blk_frozen BKg10.out 0; have hx_g101 : World.cell? _ ⟨g10, 1, none⟩ = some (.slice AG2 r2.length cG2) := (blk_cell BKg10.out 1).trans rfl; have hf_g101 := blk_frozen BKg10.out 1; clear hb))
  clear hx_g20 hf_g20 hx_g21 hf_g21 hx_g30 hf_g30 hx_g31 hf_g31 hx_g60 hf_g60 hx_g61 hf_g61 hx_g80 hf_g80 hx_g81 hf_g81 hx_g90 hf_g90 hx_g91 hf_g91 hx_g100 hf_g100 hx_g101 hf_g101
  have n_W1 := Aside0.mk (Kd.R_drew W1.out)
  clear W1
  have W1 := n_W1
  clear n_W1
  have n_W2 := Aside0.mk (Kd.R_drew W2.out)
  clear W2
  have W2 := n_W2
  clear n_W2
  have n_M1 := Aside0.mk (Kd.R_drew M1.out)
  clear M1
  have M1 := n_M1
  clear n_M1
  have n_M2 := Aside0.mk (Kd.R_drew M2.out)
  clear M2
  have M2 := n_M2
  clear n_M2
  have n_g2 := Aside0.mk (blk_drew BKg2.out)
  clear BKg2
  have BKg2 := n_g2
  clear n_g2
  have n_g3 := Aside0.mk (blk_drew BKg3.out)
  clear BKg3
  have BKg3 := n_g3
  clear n_g3
  have n_g6 := Aside0.mk (blk_drew BKg6.out)
  clear BKg6
  have BKg6 := n_g6
  clear n_g6
  have n_g8 := Aside0.mk (blk_drew BKg8.out)
  clear BKg8
  have BKg8 := n_g8
  clear n_g8
  have n_g9 := Aside0.mk (blk_drew BKg9.out)
  clear BKg9
  have BKg9 := n_g9
  clear n_g9
  have n_g10 := Aside0.mk (blk_drew BKg10.out)
  clear BKg10
  have BKg10 := n_g10
  clear n_g10
  have nHB := Aside0.mk (below_drew1 HB.out)
  clear HB
  have HB := nHB
  clear nHB
  refine start_ (n := 11) (S := fun w' => True) (ds := []) #[false, false, false, false, false, false, false, false, false, false, false] (by kernel_rfl) rfl rfl trivial (fun hHeld => ?_); refine with_tabW laws_FnExactJoinSeaweeds.tab31 laws_FnExactJoinSeaweeds.bits31 (fun HT_ HW_ => ?_)
  generalize w18_.drew = wd19_ at W1 W2 M1 M2 BKg2 BKg3 BKg6 BKg8 BKg9 BKg10 HB hHeld ⊢
  refine inv_at [0, 1, 2, 3, 4, 5, 6, 7, 8, 9, 10] (fun a0_ b a w' => ∃ (va vb vc vd vx vy : Value) (gn : Nat), a = putSel a0_ b [(0, 95, .agg #[.slice A0_0 p.length c0_0, .slice A0_1 q.length c0_1]), (1, 96, .agg #[va, vb]), (2, 97, .agg #[.slice A1_0 u.length c1_0, .slice A1_1 v.length c1_1]), (3, 98, .agg #[vc, vd]), (4, 99, .tuple #[.agg #[vx, vy], .bool bq]), (5, 94, .tuple #[.agg #[vx, vy], .bool bq]), (6, 100, .agg #[vx, vy]), (7, 101, .bool bq), (8, 15, .pointer (some ⟨gn, 0, none⟩)), (10, 16, .bool bq)] ∧ (Kd.R (Kd.int .i64) 3 w' w.heap.size (fun k_ => some k_ = (.slice AW1 r1.length cW1 : Value).ownBlock) (.slice AW1 r1.length cW1) r1) ∧ (Kd.R (Kd.int .i64) 3 w' w.heap.size (fun k_ => some k_ = (.slice AW2 r2.length cW2 : Value).ownBlock) (.slice AW2 r2.length cW2) r2) ∧ (Kd.R (Kd.int .i64) 3 w' w.heap.size (fun k_ => some k_ = (.slice AG1 r1.length cG1 : Value).ownBlock) (.slice AG1 r1.length cG1) L1) ∧ (Kd.R (Kd.int .i64) 3 w' w.heap.size (fun k_ => some k_ = (.slice AG2 r2.length cG2 : Value).ownBlock) (.slice AG2 r2.length cG2) L2) ∧ (w'.heap[g2]? = some (.cells #[.slice A0_0 p.length c0_0, .slice A0_1 q.length c0_1] 24 (0, 0))) ∧ (w'.heap[g3]? = some (.cells #[.slice A1_0 u.length c1_0, .slice A1_1 v.length c1_1] 24 (0, 0))) ∧ (w'.heap[g6]? = some (.cells #[.slice AW1 r1.length cW1, .slice AW2 r2.length cW2] 26 (0, 0))) ∧ (w'.heap[g8]? = some (.cells #[.slice AX1 p.length cX1, .slice AX2 q.length cX2] 26 (0, 0))) ∧ (w'.heap[g9]? = some (.cells #[.slice AX3 u.length cX3, .slice AX4 v.length cX4] 26 (0, 0))) ∧ (w'.heap[g10]? = some (.cells #[.slice AG1 r1.length cG1, .slice AG2 r2.length cG2] 26 (0, 0))) ∧ (Below w.heap.size w w') ∧ (b 1 = true → b 9 = false → Kd.R (Kd.int .i64) 3 w' w.heap.size (fun _ => True) va p) ∧ (b 1 = true → b 9 = false → Kd.R (Kd.int .i64) 3 w' w.heap.size (fun _ => True) vb q) ∧ (b 3 = true → b 9 = false → Kd.R (Kd.int .i64) 3 w' w.heap.size (fun _ => True) vc u) ∧ (b 3 = true → b 9 = false → Kd.R (Kd.int .i64) 3 w' w.heap.size (fun _ => True) vd v) ∧ (b 4 = true → Kd.R (Kd.int .i64) 3 w' w.heap.size (fun k_ => some k_ = (vx : Value).ownBlock) (vx) r1) ∧ (b 4 = true → Kd.R (Kd.int .i64) 3 w' w.heap.size (fun k_ => some k_ = (vy : Value).ownBlock) (vy) r2) ∧ (b 4 = true → ∀ k_, some k_ = (vx : Value).ownBlock → ¬ some k_ = (vy : Value).ownBlock) ∧ (b 4 = true → ∀ k_, some k_ = (.slice AW1 r1.length cW1 : Value).ownBlock → ¬ some k_ = (vx : Value).ownBlock) ∧ (b 4 = true → ∀ k_, some k_ = (.slice AW1 r1.length cW1 : Value).ownBlock → ¬ some k_ = (vy : Value).ownBlock) ∧ (b 4 = true → ∀ k_, some k_ = (.slice AW2 r2.length cW2 : Value).ownBlock → ¬ some k_ = (vx : Value).ownBlock) ∧ (b 4 = true → ∀ k_, some k_ = (.slice AW2 r2.length cW2 : Value).ownBlock → ¬ some k_ = (vy : Value).ownBlock) ∧ (b 4 = true → ∀ k_, some k_ = (.slice AG1 r1.length cG1 : Value).ownBlock → ¬ some k_ = (vx : Value).ownBlock) ∧ (b 4 = true → ∀ k_, some k_ = (.slice AG1 r1.length cG1 : Value).ownBlock → ¬ some k_ = (vy : Value).ownBlock) ∧ (b 4 = true → ∀ k_, some k_ = (.slice AG2 r2.length cG2 : Value).ownBlock → ¬ some k_ = (vx : Value).ownBlock) ∧ (b 4 = true → ∀ k_, some k_ = (.slice AG2 r2.length cG2 : Value).ownBlock → ¬ some k_ = (vy : Value).ownBlock) ∧ (b 8 = true → (w.heap.size ≤ gn ∧ g2 ≠ gn ∧ g3 ≠ gn ∧ g6 ≠ gn ∧ g8 ≠ gn ∧ g9 ≠ gn ∧ g10 ≠ gn)) ∧ (b 8 = true → b 9 = false → w'.heap[gn]? = some (.cells #[.slice none 0 0, .slice none 0 0] 26 (0, 0))) ∧ (b 9 = true → w'.heap[gn]? = some (.cells #[vx, vy] 26 (0, 0)))) HT_.out HW_.out (by kernel_rfl) (by kernel_rfl) ?_ ?_ ?_
  · exact ⟨.bool false, .bool false, .bool false, .bool false, .bool false, .bool false, 0, by simp only [putSel, Bool.false_eq_true, if_false], W1.out, W2.out, M1.out, M2.out, BKg2.out, BKg3.out, BKg6.out, BKg8.out, BKg9.out, BKg10.out, HB.out, fun h_ => absurd h_ (by decide), fun h_ => absurd h_ (by decide), fun h_ => absurd h_ (by decide), fun h_ => absurd h_ (by decide), fun h_ => absurd h_ (by decide), fun h_ => absurd h_ (by decide), fun h_ => absurd h_ (by decide), fun h_ => absurd h_ (by decide), fun h_ => absurd h_ (by decide), fun h_ => absurd h_ (by decide), fun h_ => absurd h_ (by decide), fun h_ => absurd h_ (by decide), fun h_ => absurd h_ (by decide), fun h_ => absurd h_ (by decide), fun h_ => absurd h_ (by decide), fun h_ => absurd h_ (by decide), fun h_ => absurd h_ (by decide), fun h_ => absurd h_ (by decide)⟩
  · skip
    clear W1 W2 M1 M2 BKg2 BKg3 BKg6 BKg8 BKg9 BKg10 HB
    refine steps_cons ?_ ?_
    · rintro b a w' ⟨va, vb, vc, vd, vx, vy, gn, ha, QRW1, QRW2, QRM1, QRM2, QBg2, QBg3, QBg6, QBg8, QBg9, QBg10, QH, Qva, Qvb, Qvc, Qvd, QX, QY, QP, QPW1x, QPW1y, QPW2x, QPW2y, QPM1x, QPM1y, QPM2x, QPM2y, QG, QZ, QS⟩ hb_ hon hoff
      refine ⟨_, rfl, fun K hK => ?_⟩
      have e2 : a.tmps[2]? = some (.pointer (some ⟨g2, 0, none⟩)) := by rw [ha]; exact (putSel_off rfl).trans rfl
      replace ha := Aside0.mk ha
      have hc0_ : w'.cell? ⟨g2, 0, none⟩ = some (.slice A0_0 p.length c0_0) := (blk_cell QBg2 0).trans rfl
      have hc1_ : w'.cell? ⟨g2, 1, none⟩ = some (.slice A0_1 q.length c0_1) := (blk_cell QBg2 1).trans rfl
      refine value_ (w1 := w') (v := .agg #[.slice A0_0 p.length c0_0, .slice A0_1 q.length c0_1]) (by rfl) rfl ?_ ?_
      · go_simp
        (try simp only [i64_w])
        try rfl
      refine hK.out _ _ ⟨va, vb, vc, vd, vx, vy, gn, (by rw [ha.out]; exact putSel_upk 0 hb_ rfl rfl rfl), QRW1, QRW2, QRM1, QRM2, QBg2, QBg3, QBg6, QBg8, QBg9, QBg10, QH, Qva, Qvb, Qvc, Qvd, QX, QY, QP, QPW1x, QPW1y, QPW2x, QPW2y, QPM1x, QPM1y, QPM2x, QPM2y, QG, QZ, fun h0_ => absurd ((hoff 9 (by kernel_rfl)).symm.trans h0_) (by decide)⟩
    refine steps_cons ?_ ?_
    · rintro b a w' ⟨va, vb, vc, vd, vx, vy, gn, ha, QRW1, QRW2, QRM1, QRM2, QBg2, QBg3, QBg6, QBg8, QBg9, QBg10, QH, Qva, Qvb, Qvc, Qvd, QX, QY, QP, QPW1x, QPW1y, QPW2x, QPW2y, QPM1x, QPM1y, QPM2x, QPM2y, QG, QZ, QS⟩ hb_ hon hoff
      refine ⟨_, rfl, fun K hK => ?_⟩
      have e95 : a.tmps[95]? = some (.agg #[.slice A0_0 p.length c0_0, .slice A0_1 q.length c0_1]) := by rw [ha]; exact putSel_on (e := (0, 95, Value.agg #[.slice A0_0 p.length c0_0, .slice A0_1 q.length c0_1])) 0 rfl rfl (hon 0 (by kernel_rfl)) rfl
      replace ha := Aside0.mk ha
      have HBq := Aside0.mk QH
      refine goes_ Try.func10 (by kernel_rfl) rfl #[.agg #[.slice A0_0 p.length c0_0, .slice A0_1 q.length c0_1]] (by rfl) rfl rfl (by first | (simp only [List.map_toArray, List.map_cons, List.map_nil, Act.eval, Array.getD_eq_getD_getElem?, Option.getD_some, e95]; done) | (simp only [List.map_toArray, List.map_cons, List.map_nil, Act.eval, Array.getD_eq_getD_getElem?, Option.getD_some, e95]; rfl)) ?_
      refine (laws_toSeaweed.calls k _ _ p _ _ q p q _ (Kd.C_below H0.out HBq.out) C0.out (Kd.C_below H1.out HBq.out) C1.out FTA.out).mono ?_
      rintro e wn ⟨u1, u2, rfl, h1, h2, hb⟩
      refine ⟨_, rfl, ?_⟩
      refine hK.out _ _ ⟨u1, u2, vc, vd, vx, vy, gn, (by rw [ha.out]; exact putSel_upk 1 hb_ rfl rfl rfl), Kd.R_below QRW1 hb, Kd.R_below QRW2 hb, Kd.R_below QRM1 hb, Kd.R_below QRM2 hb, blk_below QBg2 hb, blk_below QBg3 hb, blk_below QBg6 hb, blk_below QBg8 hb, blk_below QBg9 hb, blk_below QBg10 hb, below_step QH hb, fun _ _ => Kd.R_mono (Kd.R_lower h1 QH.size) (fun _ _ => trivial), fun _ _ => Kd.R_mono (Kd.R_lower h2 QH.size) (fun _ _ => trivial), fun h1_ h2_ => Kd.R_below (Qvc h1_ h2_) hb, fun h1_ h2_ => Kd.R_below (Qvd h1_ h2_) hb, fun h1_ => Kd.R_below (QX h1_) hb, fun h1_ => Kd.R_below (QY h1_) hb, QP, QPW1x, QPW1y, QPW2x, QPW2y, QPM1x, QPM1y, QPM2x, QPM2y, QG, fun h1_ h2_ => blk_below (QZ h1_ h2_) hb, fun h0_ => absurd ((hoff 9 (by kernel_rfl)).symm.trans h0_) (by decide)⟩
    refine steps_cons ?_ ?_
    · rintro b a w' ⟨va, vb, vc, vd, vx, vy, gn, ha, QRW1, QRW2, QRM1, QRM2, QBg2, QBg3, QBg6, QBg8, QBg9, QBg10, QH, Qva, Qvb, Qvc, Qvd, QX, QY, QP, QPW1x, QPW1y, QPW2x, QPW2y, QPM1x, QPM1y, QPM2x, QPM2y, QG, QZ, QS⟩ hb_ hon hoff
      refine ⟨_, rfl, fun K hK => ?_⟩
      have e3 : a.tmps[3]? = some (.pointer (some ⟨g3, 0, none⟩)) := by rw [ha]; exact (putSel_off rfl).trans rfl
      replace ha := Aside0.mk ha
      have hc0_ : w'.cell? ⟨g3, 0, none⟩ = some (.slice A1_0 u.length c1_0) := (blk_cell QBg3 0).trans rfl
      have hc1_ : w'.cell? ⟨g3, 1, none⟩ = some (.slice A1_1 v.length c1_1) := (blk_cell QBg3 1).trans rfl
      refine value_ (w1 := w') (v := .agg #[.slice A1_0 u.length c1_0, .slice A1_1 v.length c1_1]) (by rfl) rfl ?_ ?_
      · go_simp
        (try simp only [i64_w])
        try rfl
      refine hK.out _ _ ⟨va, vb, vc, vd, vx, vy, gn, (by rw [ha.out]; exact putSel_upk 2 hb_ rfl rfl rfl), QRW1, QRW2, QRM1, QRM2, QBg2, QBg3, QBg6, QBg8, QBg9, QBg10, QH, Qva, Qvb, Qvc, Qvd, QX, QY, QP, QPW1x, QPW1y, QPW2x, QPW2y, QPM1x, QPM1y, QPM2x, QPM2y, QG, QZ, fun h0_ => absurd ((hoff 9 (by kernel_rfl)).symm.trans h0_) (by decide)⟩
    refine steps_cons ?_ ?_
    · rintro b a w' ⟨va, vb, vc, vd, vx, vy, gn, ha, QRW1, QRW2, QRM1, QRM2, QBg2, QBg3, QBg6, QBg8, QBg9, QBg10, QH, Qva, Qvb, Qvc, Qvd, QX, QY, QP, QPW1x, QPW1y, QPW2x, QPW2y, QPM1x, QPM1y, QPM2x, QPM2y, QG, QZ, QS⟩ hb_ hon hoff
      refine ⟨_, rfl, fun K hK => ?_⟩
      have e97 : a.tmps[97]? = some (.agg #[.slice A1_0 u.length c1_0, .slice A1_1 v.length c1_1]) := by rw [ha]; exact putSel_on (e := (2, 97, Value.agg #[.slice A1_0 u.length c1_0, .slice A1_1 v.length c1_1])) 2 rfl rfl (hon 2 (by kernel_rfl)) rfl
      replace ha := Aside0.mk ha
      have HBq := Aside0.mk QH
      refine goes_ Try.func10 (by kernel_rfl) rfl #[.agg #[.slice A1_0 u.length c1_0, .slice A1_1 v.length c1_1]] (by rfl) rfl rfl (by first | (simp only [List.map_toArray, List.map_cons, List.map_nil, Act.eval, Array.getD_eq_getD_getElem?, Option.getD_some, e97]; done) | (simp only [List.map_toArray, List.map_cons, List.map_nil, Act.eval, Array.getD_eq_getD_getElem?, Option.getD_some, e97]; rfl)) ?_
      refine (laws_toSeaweed.calls k _ _ u _ _ v u v _ (Kd.C_below H2.out HBq.out) C2.out (Kd.C_below H3.out HBq.out) C3.out FTB.out).mono ?_
      rintro e wn ⟨u1, u2, rfl, h1, h2, hb⟩
      refine ⟨_, rfl, ?_⟩
      refine hK.out _ _ ⟨va, vb, u1, u2, vx, vy, gn, (by rw [ha.out]; exact putSel_upk 3 hb_ rfl rfl rfl), Kd.R_below QRW1 hb, Kd.R_below QRW2 hb, Kd.R_below QRM1 hb, Kd.R_below QRM2 hb, blk_below QBg2 hb, blk_below QBg3 hb, blk_below QBg6 hb, blk_below QBg8 hb, blk_below QBg9 hb, blk_below QBg10 hb, below_step QH hb, fun h1_ h2_ => Kd.R_below (Qva h1_ h2_) hb, fun h1_ h2_ => Kd.R_below (Qvb h1_ h2_) hb, fun _ _ => Kd.R_mono (Kd.R_lower h1 QH.size) (fun _ _ => trivial), fun _ _ => Kd.R_mono (Kd.R_lower h2 QH.size) (fun _ _ => trivial), fun h1_ => Kd.R_below (QX h1_) hb, fun h1_ => Kd.R_below (QY h1_) hb, QP, QPW1x, QPW1y, QPW2x, QPW2y, QPM1x, QPM1y, QPM2x, QPM2y, QG, fun h1_ h2_ => blk_below (QZ h1_ h2_) hb, fun h0_ => absurd ((hoff 9 (by kernel_rfl)).symm.trans h0_) (by decide)⟩
    refine steps_cons ?_ ?_
    · rintro b a w' ⟨va, vb, vc, vd, vx, vy, gn, ha, QRW1, QRW2, QRM1, QRM2, QBg2, QBg3, QBg6, QBg8, QBg9, QBg10, QH, Qva, Qvb, Qvc, Qvd, QX, QY, QP, QPW1x, QPW1y, QPW2x, QPW2y, QPM1x, QPM1y, QPM2x, QPM2y, QG, QZ, QS⟩ hb_ hon hoff
      refine ⟨_, rfl, fun K hK => ?_⟩
      have e96 : a.tmps[96]? = some (.agg #[va, vb]) := by rw [ha]; exact putSel_on (e := (1, 96, Value.agg #[va, vb])) 1 rfl rfl (hon 1 (by kernel_rfl)) rfl
      have e98 : a.tmps[98]? = some (.agg #[vc, vd]) := by rw [ha]; exact putSel_on (e := (3, 98, Value.agg #[vc, vd])) 3 rfl rfl (hon 3 (by kernel_rfl)) rfl
      replace ha := Aside0.mk ha
      have hva := Aside0.mk (Qva (hon 1 (by kernel_rfl)) (hoff 9 (by kernel_rfl)))
      obtain ⟨Ava, cva, e_va⟩ := Kd.R_slice hva.out
      subst e_va
      have hvb := Aside0.mk (Qvb (hon 1 (by kernel_rfl)) (hoff 9 (by kernel_rfl)))
      obtain ⟨Avb, cvb, e_vb⟩ := Kd.R_slice hvb.out
      subst e_vb
      have hvc := Aside0.mk (Qvc (hon 3 (by kernel_rfl)) (hoff 9 (by kernel_rfl)))
      obtain ⟨Avc, cvc, e_vc⟩ := Kd.R_slice hvc.out
      subst e_vc
      have hvd := Aside0.mk (Qvd (hon 3 (by kernel_rfl)) (hoff 9 (by kernel_rfl)))
      obtain ⟨Avd, cvd, e_vd⟩ := Kd.R_slice hvd.out
      subst e_vd
      refine goes_ Try.func11 (by kernel_rfl) rfl #[.agg #[.slice Ava p.length cva, .slice Avb q.length cvb], .agg #[.slice Avc u.length cvc, .slice Avd v.length cvd]] (by rfl) rfl rfl (by first | (simp only [List.map_toArray, List.map_cons, List.map_nil, Act.eval, Array.getD_eq_getD_getElem?, Option.getD_some, e96, e98]; done) | (simp only [List.map_toArray, List.map_cons, List.map_nil, Act.eval, Array.getD_eq_getD_getElem?, Option.getD_some, e96, e98]; rfl)) ?_
      refine (impl_JoinSeaweeds.calls k _ _ p _ _ q _ _ u _ _ v r1 r2 bq _ (Kd.R_reads' hva.out).2.2 (Kd.R_reads' hva.out).2.1 (Kd.R_reads' hvb.out).2.2 (Kd.R_reads' hvb.out).2.1 (Kd.R_reads' hvc.out).2.2 (Kd.R_reads' hvc.out).2.1 (Kd.R_reads' hvd.out).2.2 (Kd.R_reads' hvd.out).2.1 Fi.out).mono ?_
      rintro e wn ⟨u1, u2, rfl, h1, h2, hb⟩
      refine ⟨_, rfl, ?_⟩
      refine hK.out _ _ ⟨.slice Ava p.length cva, .slice Avb q.length cvb, .slice Avc u.length cvc, .slice Avd v.length cvd, u1, u2, gn, (by rw [ha.out]; exact Eq.trans (putSel_upk 4 hb_ rfl rfl rfl) (Eq.trans (putSel_chg 5 (up_off (hoff 5 (by kernel_rfl)) (by decide)) rfl rfl) (putSel_chg 6 (up_off (hoff 6 (by kernel_rfl)) (by decide)) rfl rfl))), Kd.R_below QRW1 hb, Kd.R_below QRW2 hb, Kd.R_below QRM1 hb, Kd.R_below QRM2 hb, blk_below QBg2 hb, blk_below QBg3 hb, blk_below QBg6 hb, blk_below QBg8 hb, blk_below QBg9 hb, blk_below QBg10 hb, below_step QH hb, fun h1_ h2_ => Kd.R_below (Qva h1_ h2_) hb, fun h1_ h2_ => Kd.R_below (Qvb h1_ h2_) hb, fun h1_ h2_ => Kd.R_below (Qvc h1_ h2_) hb, fun h1_ h2_ => Kd.R_below (Qvd h1_ h2_) hb, fun _ => Kd.R_tight rfl (Kd.R_lower h1 QH.size), fun _ => Kd.R_tight rfl (Kd.R_lower h2 QH.size), fun _ => apart2 h1, fun _ => apart QRW1 h1, fun _ => apart QRW1 h2, fun _ => apart QRW2 h1, fun _ => apart QRW2 h2, fun _ => apart QRM1 h1, fun _ => apart QRM1 h2, fun _ => apart QRM2 h1, fun _ => apart QRM2 h2, QG, fun h1_ h2_ => blk_below (QZ h1_ h2_) hb, fun h0_ => absurd ((hoff 9 (by kernel_rfl)).symm.trans h0_) (by decide)⟩
    refine steps_cons ?_ ?_
    · rintro b a w' ⟨va, vb, vc, vd, vx, vy, gn, ha, QRW1, QRW2, QRM1, QRM2, QBg2, QBg3, QBg6, QBg8, QBg9, QBg10, QH, Qva, Qvb, Qvc, Qvd, QX, QY, QP, QPW1x, QPW1y, QPW2x, QPW2y, QPM1x, QPM1y, QPM2x, QPM2y, QG, QZ, QS⟩ hb_ hon hoff
      refine ⟨_, rfl, fun K hK => ?_⟩
      have e99 : a.tmps[99]? = some (.tuple #[.agg #[vx, vy], .bool bq]) := by rw [ha]; exact putSel_on (e := (4, 99, Value.tuple #[.agg #[vx, vy], .bool bq])) 4 rfl rfl (hon 4 (by kernel_rfl)) rfl
      replace ha := Aside0.mk ha
      refine value_ (w1 := w') (v := .tuple #[.agg #[vx, vy], .bool bq]) (by rfl) rfl ?_ ?_
      · go_simp
        (try simp only [i64_w])
        try rfl
      refine hK.out _ _ ⟨va, vb, vc, vd, vx, vy, gn, (by rw [ha.out]; exact putSel_upk 5 hb_ rfl rfl rfl), QRW1, QRW2, QRM1, QRM2, QBg2, QBg3, QBg6, QBg8, QBg9, QBg10, QH, Qva, Qvb, Qvc, Qvd, QX, QY, QP, QPW1x, QPW1y, QPW2x, QPW2y, QPM1x, QPM1y, QPM2x, QPM2y, QG, QZ, fun h0_ => absurd ((hoff 9 (by kernel_rfl)).symm.trans h0_) (by decide)⟩
    refine steps_cons ?_ ?_
    · rintro b a w' ⟨va, vb, vc, vd, vx, vy, gn, ha, QRW1, QRW2, QRM1, QRM2, QBg2, QBg3, QBg6, QBg8, QBg9, QBg10, QH, Qva, Qvb, Qvc, Qvd, QX, QY, QP, QPW1x, QPW1y, QPW2x, QPW2y, QPM1x, QPM1y, QPM2x, QPM2y, QG, QZ, QS⟩ hb_ hon hoff
      refine ⟨_, rfl, fun K hK => ?_⟩
      have e94 : a.tmps[94]? = some (.tuple #[.agg #[vx, vy], .bool bq]) := by rw [ha]; exact putSel_on (e := (5, 94, Value.tuple #[.agg #[vx, vy], .bool bq])) 5 rfl rfl (hon 5 (by kernel_rfl)) rfl
      replace ha := Aside0.mk ha
      refine value_ (w1 := w') (v := .agg #[vx, vy]) (by rfl) rfl ?_ ?_
      · go_simp
        (try simp only [i64_w])
        try rfl
      refine hK.out _ _ ⟨va, vb, vc, vd, vx, vy, gn, (by rw [ha.out]; exact putSel_upk 6 hb_ rfl rfl rfl), QRW1, QRW2, QRM1, QRM2, QBg2, QBg3, QBg6, QBg8, QBg9, QBg10, QH, Qva, Qvb, Qvc, Qvd, QX, QY, QP, QPW1x, QPW1y, QPW2x, QPW2y, QPM1x, QPM1y, QPM2x, QPM2y, QG, QZ, fun h0_ => absurd ((hoff 9 (by kernel_rfl)).symm.trans h0_) (by decide)⟩
    refine steps_cons ?_ ?_
    · rintro b a w' ⟨va, vb, vc, vd, vx, vy, gn, ha, QRW1, QRW2, QRM1, QRM2, QBg2, QBg3, QBg6, QBg8, QBg9, QBg10, QH, Qva, Qvb, Qvc, Qvd, QX, QY, QP, QPW1x, QPW1y, QPW2x, QPW2y, QPM1x, QPM1y, QPM2x, QPM2y, QG, QZ, QS⟩ hb_ hon hoff
      refine ⟨_, rfl, fun K hK => ?_⟩
      have e94 : a.tmps[94]? = some (.tuple #[.agg #[vx, vy], .bool bq]) := by rw [ha]; exact putSel_on (e := (5, 94, Value.tuple #[.agg #[vx, vy], .bool bq])) 5 rfl rfl (hon 5 (by kernel_rfl)) rfl
      replace ha := Aside0.mk ha
      refine value_ (w1 := w') (v := .bool bq) (by rfl) rfl ?_ ?_
      · go_simp
        (try simp only [i64_w])
        try rfl
      refine hK.out _ _ ⟨va, vb, vc, vd, vx, vy, gn, (by rw [ha.out]; exact putSel_upk 7 hb_ rfl rfl rfl), QRW1, QRW2, QRM1, QRM2, QBg2, QBg3, QBg6, QBg8, QBg9, QBg10, QH, Qva, Qvb, Qvc, Qvd, QX, QY, QP, QPW1x, QPW1y, QPW2x, QPW2y, QPM1x, QPM1y, QPM2x, QPM2y, QG, QZ, QS⟩
    refine steps_cons ?_ ?_
    · rintro b a w' ⟨va, vb, vc, vd, vx, vy, gn, ha, QRW1, QRW2, QRM1, QRM2, QBg2, QBg3, QBg6, QBg8, QBg9, QBg10, QH, Qva, Qvb, Qvc, Qvd, QX, QY, QP, QPW1x, QPW1y, QPW2x, QPW2y, QPM1x, QPM1y, QPM2x, QPM2y, QG, QZ, QS⟩ hb_ hon hoff
      refine ⟨_, rfl, fun K hK => ?_⟩
      replace ha := Aside0.mk ha
      refine box_step ?hg (N := 15) ?hd (cs := #[.slice none 0 0, .slice none 0 0]) (t := 26) ?hr ?_; (case hd => rfl); (case hg => rfl); (case hr => first | (go_simp; done) | (go_simp; rfl))
      intro gq hg wn hbox hb
      refine hK.out _ _ ⟨va, vb, vc, vd, vx, vy, gq, (by rw [ha.out]; exact putSel_upk 8 hb_ rfl rfl rfl), Kd.R_below QRW1 hb, Kd.R_below QRW2 hb, Kd.R_below QRM1 hb, Kd.R_below QRM2 hb, blk_below QBg2 hb, blk_below QBg3 hb, blk_below QBg6 hb, blk_below QBg8 hb, blk_below QBg9 hb, blk_below QBg10 hb, below_step QH hb, fun h1_ h2_ => Kd.R_below (Qva h1_ h2_) hb, fun h1_ h2_ => Kd.R_below (Qvb h1_ h2_) hb, fun h1_ h2_ => Kd.R_below (Qvc h1_ h2_) hb, fun h1_ h2_ => Kd.R_below (Qvd h1_ h2_) hb, fun h1_ => Kd.R_below (QX h1_) hb, fun h1_ => Kd.R_below (QY h1_) hb, QP, QPW1x, QPW1y, QPW2x, QPW2y, QPM1x, QPM1y, QPM2x, QPM2y, fun _ => ⟨by rw [hg]; exact QH.size, by rw [hg]; exact Nat.ne_of_lt (blk_lt QBg2), by rw [hg]; exact Nat.ne_of_lt (blk_lt QBg3), by rw [hg]; exact Nat.ne_of_lt (blk_lt QBg6), by rw [hg]; exact Nat.ne_of_lt (blk_lt QBg8), by rw [hg]; exact Nat.ne_of_lt (blk_lt QBg9), by rw [hg]; exact Nat.ne_of_lt (blk_lt QBg10)⟩, fun _ _ => hbox, fun h0_ => absurd ((hoff 9 (by kernel_rfl)).symm.trans h0_) (by decide)⟩
    refine steps_cons ?_ ?_
    · rintro b a w' ⟨va, vb, vc, vd, vx, vy, gn, ha, QRW1, QRW2, QRM1, QRM2, QBg2, QBg3, QBg6, QBg8, QBg9, QBg10, QH, Qva, Qvb, Qvc, Qvd, QX, QY, QP, QPW1x, QPW1y, QPW2x, QPW2y, QPM1x, QPM1y, QPM2x, QPM2y, QG, QZ, QS⟩ hb_ hon hoff
      refine ⟨_, rfl, fun K hK => ?_⟩
      have e15 : a.tmps[15]? = some (.pointer (some ⟨gn, 0, none⟩)) := by rw [ha]; exact putSel_on (e := (8, 15, Value.pointer (some ⟨gn, 0, none⟩))) 8 rfl rfl (hon 8 (by kernel_rfl)) rfl
      have e100 : a.tmps[100]? = some (.agg #[vx, vy]) := by rw [ha]; exact putSel_on (e := (6, 100, Value.agg #[vx, vy])) 6 rfl rfl (hon 6 (by kernel_rfl)) rfl
      replace ha := Aside0.mk ha
      obtain ⟨hg0, hg_g2, hg_g3, hg_g6, hg_g8, hg_g9, hg_g10⟩ := QG (hon 8 (by kernel_rfl))
      have hz := QZ (hon 8 (by kernel_rfl)) hb_
      have HOX := Aside0.mk (QX (hon 4 (by kernel_rfl)))
      have HOY := Aside0.mk (QY (hon 4 (by kernel_rfl)))
      obtain ⟨AX, cX, eX⟩ := Kd.R_slice HOX.out
      subst eX
      obtain ⟨AY, cY, eY⟩ := Kd.R_slice HOY.out
      subst eY
      have hs0 : w'.cell? ⟨gn, 0, none⟩ = some (.slice none 0 0) := (blk_cell hz 0).trans rfl
      have hs1 : w'.cell? ⟨gn, 1, none⟩ = some (.slice none 0 0) := (blk_cell hz 1).trans rfl
      have hf0 := blk_frozen hz 0
      have hf1 := blk_frozen hz 1
      have A_hg0 := Aside0.mk hg0
      clear hg0
      have A_hg_g2 := Aside0.mk hg_g2
      clear hg_g2
      have A_hg_g3 := Aside0.mk hg_g3
      clear hg_g3
      have A_hg_g6 := Aside0.mk hg_g6
      clear hg_g6
      have A_hg_g8 := Aside0.mk hg_g8
      clear hg_g8
      have A_hg_g9 := Aside0.mk hg_g9
      clear hg_g9
      have A_hg_g10 := Aside0.mk hg_g10
      clear hg_g10
      have ZZ := Aside0.mk hz
      clear hz
      refine skip_ (w1 := ?_) (by rfl) rfl ?_ ?_
      rotate_left
      · go_simp
        rfl
      refine hK.out _ _ ⟨va, vb, vc, vd, .slice AX r1.length cX, .slice AY r2.length cY, gn, (by rw [ha.out]; exact putSel_none (v := undef) rfl), Kd.R_tight rfl (Kd.R_far (p := ⟨gn, 1, none⟩) (Kd.R_far (p := ⟨gn, 0, none⟩) (Kd.R_types QRW1 ZZ.out (by decide)) (fun _ hk => hk.2) _) (fun _ hk => hk.2) _), Kd.R_tight rfl (Kd.R_far (p := ⟨gn, 1, none⟩) (Kd.R_far (p := ⟨gn, 0, none⟩) (Kd.R_types QRW2 ZZ.out (by decide)) (fun _ hk => hk.2) _) (fun _ hk => hk.2) _), Kd.R_tight rfl (Kd.R_far (p := ⟨gn, 1, none⟩) (Kd.R_far (p := ⟨gn, 0, none⟩) (Kd.R_types QRM1 ZZ.out (by decide)) (fun _ hk => hk.2) _) (fun _ hk => hk.2) _), Kd.R_tight rfl (Kd.R_far (p := ⟨gn, 1, none⟩) (Kd.R_far (p := ⟨gn, 0, none⟩) (Kd.R_types QRM2 ZZ.out (by decide)) (fun _ hk => hk.2) _) (fun _ hk => hk.2) _), blk_far (p := ⟨gn, 1, none⟩) (blk_far (p := ⟨gn, 0, none⟩) QBg2 A_hg_g2.out _) A_hg_g2.out _, blk_far (p := ⟨gn, 1, none⟩) (blk_far (p := ⟨gn, 0, none⟩) QBg3 A_hg_g3.out _) A_hg_g3.out _, blk_far (p := ⟨gn, 1, none⟩) (blk_far (p := ⟨gn, 0, none⟩) QBg6 A_hg_g6.out _) A_hg_g6.out _, blk_far (p := ⟨gn, 1, none⟩) (blk_far (p := ⟨gn, 0, none⟩) QBg8 A_hg_g8.out _) A_hg_g8.out _, blk_far (p := ⟨gn, 1, none⟩) (blk_far (p := ⟨gn, 0, none⟩) QBg9 A_hg_g9.out _) A_hg_g9.out _, blk_far (p := ⟨gn, 1, none⟩) (blk_far (p := ⟨gn, 0, none⟩) QBg10 A_hg_g10.out _) A_hg_g10.out _, below_set (below_set QH A_hg0.out) A_hg0.out, fun _ h0_ => absurd ((up_self b 9).symm.trans h0_) (by decide), fun _ h0_ => absurd ((up_self b 9).symm.trans h0_) (by decide), fun _ h0_ => absurd ((up_self b 9).symm.trans h0_) (by decide), fun _ h0_ => absurd ((up_self b 9).symm.trans h0_) (by decide), fun _ => Kd.R_tight rfl (Kd.R_far (p := ⟨gn, 1, none⟩) (Kd.R_far (p := ⟨gn, 0, none⟩) (Kd.R_types HOX.out ZZ.out (by decide)) (fun _ hk => hk.2) _) (fun _ hk => hk.2) _), fun _ => Kd.R_tight rfl (Kd.R_far (p := ⟨gn, 1, none⟩) (Kd.R_far (p := ⟨gn, 0, none⟩) (Kd.R_types HOY.out ZZ.out (by decide)) (fun _ hk => hk.2) _) (fun _ hk => hk.2) _), QP, QPW1x, QPW1y, QPW2x, QPW2y, QPM1x, QPM1y, QPM2x, QPM2y, QG, fun _ h0_ => absurd ((up_self b 9).symm.trans h0_) (by decide), fun _ => blk_put (cs := #[.slice AX r1.length cX, .slice none 0 0]) (blk_put (cs := #[.slice none 0 0, .slice none 0 0]) ZZ.out 0 _ rfl) 1 _ rfl⟩
    refine steps_cons ?_ ?_
    · rintro b a w' ⟨va, vb, vc, vd, vx, vy, gn, ha, QRW1, QRW2, QRM1, QRM2, QBg2, QBg3, QBg6, QBg8, QBg9, QBg10, QH, Qva, Qvb, Qvc, Qvd, QX, QY, QP, QPW1x, QPW1y, QPW2x, QPW2y, QPM1x, QPM1y, QPM2x, QPM2y, QG, QZ, QS⟩ hb_ hon hoff
      refine ⟨_, rfl, fun K hK => ?_⟩
      have e101 : a.tmps[101]? = some (.bool bq) := by rw [ha]; exact putSel_on (e := (7, 101, Value.bool bq)) 7 rfl rfl (hon 7 (by kernel_rfl)) rfl
      replace ha := Aside0.mk ha
      refine value_ (w1 := w') (v := .bool bq) (by rfl) rfl ?_ ?_
      · go_simp
        (try simp only [i64_w])
        try rfl
      refine hK.out _ _ ⟨va, vb, vc, vd, vx, vy, gn, (by rw [ha.out]; exact putSel_upk 9 hb_ rfl rfl rfl), QRW1, QRW2, QRM1, QRM2, QBg2, QBg3, QBg6, QBg8, QBg9, QBg10, QH, Qva, Qvb, Qvc, Qvd, QX, QY, QP, QPW1x, QPW1y, QPW2x, QPW2y, QPM1x, QPM1y, QPM2x, QPM2y, QG, QZ, QS⟩
    exact steps_nil
  rintro b a we19_ hall ⟨va, vb, vc, vd, vx, vy, g15, ha, QRW1, QRW2, QRM1, QRM2, QBg2, QBg3, QBg6, QBg8, QBg9, QBg10, QH, Qva, Qvb, Qvc, Qvd, QX, QY, QP, QPW1x, QPW1y, QPW2x, QPW2y, QPM1x, QPM1y, QPM2x, QPM2y, QG, QZ, QS⟩
  have hb0_ := hall 0 (by kernel_rfl)
  have hb1_ := hall 1 (by kernel_rfl)
  have hb2_ := hall 2 (by kernel_rfl)
  have hb3_ := hall 3 (by kernel_rfl)
  have hb4_ := hall 4 (by kernel_rfl)
  have hb5_ := hall 5 (by kernel_rfl)
  have hb6_ := hall 6 (by kernel_rfl)
  have hb7_ := hall 7 (by kernel_rfl)
  have hb8_ := hall 8 (by kernel_rfl)
  have hb9_ := hall 9 (by kernel_rfl)
  have hb10_ := hall 10 (by kernel_rfl)
  subst ha
  simp only [putSel, hb0_, hb1_, hb2_, hb3_, hb4_, hb5_, hb6_, hb7_, hb8_, hb9_, hb10_, if_true, Act.put, List.setIfInBounds_toArray, List.set_cons_zero, List.set_cons_succ]
  clear W1 W2 M1 M2 BKg2 BKg3 BKg6 BKg8 BKg9 BKg10 HB hHeld
  have W1 := Aside0.mk QRW1
  have W2 := Aside0.mk QRW2
  have M1 := Aside0.mk QRM1
  have M2 := Aside0.mk QRM2
  have BKg2 := Aside0.mk QBg2
  have BKg3 := Aside0.mk QBg3
  have BKg6 := Aside0.mk QBg6
  have BKg8 := Aside0.mk QBg8
  have BKg9 := Aside0.mk QBg9
  have BKg10 := Aside0.mk QBg10
  have HB := Aside0.mk QH
  have Z1 := Aside0.mk (QX hb4_)
  have Z2 := Aside0.mk (QY hb4_)
  have AP_Z1_Z2 := Aside0.mk (QP hb4_)
  have BKg15 := Aside0.mk (QS hb9_)
  have AP_W1_Z1 := Aside0.mk (QPW1x hb4_)
  have AP_W1_Z2 := Aside0.mk (QPW1y hb4_)
  have AP_W2_Z1 := Aside0.mk (QPW2x hb4_)
  have AP_W2_Z2 := Aside0.mk (QPW2y hb4_)
  have AP_M1_Z1 := Aside0.mk (QPM1x hb4_)
  have AP_M1_Z2 := Aside0.mk (QPM1y hb4_)
  have AP_M2_Z1 := Aside0.mk (QPM2x hb4_)
  have AP_M2_Z2 := Aside0.mk (QPM2y hb4_)
  obtain ⟨hg0, hg_g2, hg_g3, hg_g6, hg_g8, hg_g9, hg_g10⟩ := QG hb8_
  have GE_g15 := Aside0.mk hg0
  have NB_g2_g15 := Aside0.mk hg_g2
  have NB_g3_g15 := Aside0.mk hg_g3
  have NB_g6_g15 := Aside0.mk hg_g6
  have NB_g8_g15 := Aside0.mk hg_g8
  have NB_g9_g15 := Aside0.mk hg_g9
  have NB_g10_g15 := Aside0.mk hg_g10
  clear QRW1 QRW2 QRM1 QRM2 QBg2 QBg3 QBg6 QBg8 QBg9 QBg10 QH Qva Qvb Qvc Qvd QX QY QP QPW1x QPW1y QPW2x QPW2y QPM1x QPM1y QPM2x QPM2y QG QZ QS hg0 hg_g2 hg_g3 hg_g6 hg_g8 hg_g9 hg_g10 hall hb0_ hb1_ hb2_ hb3_ hb4_ hb5_ hb6_ hb7_ hb8_ hb9_ hb10_
  obtain ⟨AZ1, cZ1, eX⟩ := Kd.R_slice Z1.out
  subst eX
  obtain ⟨AZ2, cZ2, eY⟩ := Kd.R_slice Z2.out
  subst eY
  have nK := Aside0.mk True.intro
  clear K19
  have K20 := nK
  clear nK
  have hn_g2_g15 := NB_g2_g15.out
  have hm_g2_g15 := NB_g2_g15.out.symm
  have hn_g3_g15 := NB_g3_g15.out
  have hm_g3_g15 := NB_g3_g15.out.symm
  have hn_g6_g15 := NB_g6_g15.out
  have hm_g6_g15 := NB_g6_g15.out.symm
  have hn_g8_g15 := NB_g8_g15.out
  have hm_g8_g15 := NB_g8_g15.out.symm
  have hn_g9_g15 := NB_g9_g15.out
  have hm_g9_g15 := NB_g9_g15.out.symm
  have hn_g10_g15 := NB_g10_g15.out
  have hm_g10_g15 := NB_g10_g15.out.symm
  have hx_g20 : World.cell? _ ⟨g2, 0, none⟩ = some (.slice A0_0 p.length c0_0) := (blk_cell BKg2.out 0).trans rfl
  have hf_g20 := blk_frozen BKg2.out 0
  have hx_g21 : World.cell? _ ⟨g2, 1, none⟩ = some (.slice A0_1 q.length c0_1) := (blk_cell BKg2.out 1).trans rfl
  have hf_g21 := blk_frozen BKg2.out 1
  have hx_g30 : World.cell? _ ⟨g3, 0, none⟩ = some (.slice A1_0 u.length c1_0) := (blk_cell BKg3.out 0).trans rfl
  have hf_g30 := blk_frozen BKg3.out 0
  have hx_g31 : World.cell? _ ⟨g3, 1, none⟩ = some (.slice A1_1 v.length c1_1) := (blk_cell BKg3.out 1).trans rfl
  have hf_g31 := blk_frozen BKg3.out 1
  have hx_g60 : World.cell? _ ⟨g6, 0, none⟩ = some (.slice AW1 r1.length cW1) := (blk_cell BKg6.out 0).trans rfl
  have hf_g60 := blk_frozen BKg6.out 0
  have hx_g61 : World.cell? _ ⟨g6, 1, none⟩ = some (.slice AW2 r2.length cW2) := (blk_cell BKg6.out 1).trans rfl
  have hf_g61 := blk_frozen BKg6.out 1
  have hx_g80 : World.cell? _ ⟨g8, 0, none⟩ = some (.slice AX1 p.length cX1) := (blk_cell BKg8.out 0).trans rfl
  have hf_g80 := blk_frozen BKg8.out 0
  have hx_g81 : World.cell? _ ⟨g8, 1, none⟩ = some (.slice AX2 q.length cX2) := (blk_cell BKg8.out 1).trans rfl
  have hf_g81 := blk_frozen BKg8.out 1
  have hx_g90 : World.cell? _ ⟨g9, 0, none⟩ = some (.slice AX3 u.length cX3) := (blk_cell BKg9.out 0).trans rfl
  have hf_g90 := blk_frozen BKg9.out 0
  have hx_g91 : World.cell? _ ⟨g9, 1, none⟩ = some (.slice AX4 v.length cX4) := (blk_cell BKg9.out 1).trans rfl
  have hf_g91 := blk_frozen BKg9.out 1
  have hx_g100 : World.cell? _ ⟨g10, 0, none⟩ = some (.slice AG1 r1.length cG1) := (blk_cell BKg10.out 0).trans rfl
  have hf_g100 := blk_frozen BKg10.out 0
  have hx_g101 : World.cell? _ ⟨g10, 1, none⟩ = some (.slice AG2 r2.length cG2) := (blk_cell BKg10.out 1).trans rfl
  have hf_g101 := blk_frozen BKg10.out 1
  have hx_g150 : World.cell? _ ⟨g15, 0, none⟩ = some (.slice AZ1 r1.length cZ1) := (blk_cell BKg15.out 0).trans rfl
  have hf_g150 := blk_frozen BKg15.out 0
  have hx_g151 : World.cell? _ ⟨g15, 1, none⟩ = some (.slice AZ2 r2.length cZ2) := (blk_cell BKg15.out 1).trans rfl
  have hf_g151 := blk_frozen BKg15.out 1
  go_wp2_with (first
    | (go_at_call 14; have hK := K21.out; (with_reducible refine (held_told k _ _ _ _ _ _ L1 L2 m _ M1.out M2.out FH.out).mono ?_); rintro e w21_ ⟨rfl, hb⟩; clear hK K21; clear hx_g20 hf_g20 hx_g21 hf_g21 hx_g30 hf_g30 hx_g31 hf_g31 hx_g60 hf_g60 hx_g61 hf_g61 hx_g80 hf_g80 hx_g81 hf_g81 hx_g90 hf_g90 hx_g91 hf_g91 hx_g100 hf_g100 hx_g101 hf_g101 hx_g150 hf_g150 hx_g151 hf_g151; have n_W1 := Aside0.mk (Kd.R_below W1.out hb); clear W1; have W1 := n_W1; clear n_W1; have n_W2 := Aside0.mk (Kd.R_below W2.out hb); clear W2; have W2 := n_W2; clear n_W2; have n_M1 := Aside0.mk (Kd.R_below M1.out hb); clear M1; have M1 := n_M1; clear n_M1; have n_M2 := Aside0.mk (Kd.R_below M2.out hb); clear M2; have M2 := n_M2; clear n_M2; have n_Z1 := Aside0.mk (Kd.R_below Z1.out hb); clear Z1; have Z1 := n_Z1; clear n_Z1; have n_Z2 := Aside0.mk (Kd.R_below Z2.out hb); clear Z2; have Z2 := n_Z2; clear n_Z2; have n_g2 := Aside0.mk (blk_below BKg2.out hb); clear BKg2; have BKg2 := n_g2; clear n_g2; have n_g3 := Aside0.mk (blk_below BKg3.out hb); clear BKg3; have BKg3 := n_g3; clear n_g3; have n_g6 := Aside0.mk (blk_below BKg6.out hb); clear BKg6; have BKg6 := n_g6; clear n_g6; have n_g8 := Aside0.mk (blk_below BKg8.out hb); clear BKg8; have BKg8 := n_g8; clear n_g8; have n_g9 := Aside0.mk (blk_below BKg9.out hb); clear BKg9; have BKg9 := n_g9; clear n_g9; have n_g10 := Aside0.mk (blk_below BKg10.out hb); clear BKg10; have BKg10 := n_g10; clear n_g10; have n_g15 := Aside0.mk (blk_below BKg15.out hb); clear BKg15; have BKg15 := n_g15; clear n_g15; have nHB := Aside0.mk (below_step HB.out hb); clear HB; have HB := nHB; clear nHB; have K22 := Aside0.mk True.intro; have hx_g20 : World.cell? _ ⟨g2, 0, none⟩ = some (.slice A0_0 p.length c0_0) := (blk_cell BKg2.out 0).trans rfl; have hf_g20 := blk_frozen BKg2.out 0; have hx_g21 : World.cell? _ ⟨g2, 1, none⟩ = some (.slice A0_1 q.length c0_1) := (blk_cell BKg2.out 1).trans rfl; have hf_g21 := blk_frozen BKg2.out 1; have hx_g30 : World.cell? _ ⟨g3, 0, none⟩ = some (.slice A1_0 u.length c1_0) := (blk_cell BKg3.out 0).trans rfl; have hf_g30 := blk_frozen BKg3.out 0; have hx_g31 : World.cell? _ ⟨g3, 1, none⟩ = some (.slice A1_1 v.length c1_1) := (blk_cell BKg3.out 1).trans rfl; have hf_g31 := blk_frozen BKg3.out 1; have hx_g60 : World.cell? _ ⟨g6, 0, none⟩ = some (.slice AW1 r1.length cW1) := (blk_cell BKg6.out 0).trans rfl; have hf_g60 := blk_frozen BKg6.out 0; have hx_g61 : World.cell? _ ⟨g6, 1, none⟩ = some (.slice AW2 r2.length cW2) := (blk_cell BKg6.out 1).trans rfl; have hf_g61 := blk_frozen BKg6.out 1; have hx_g80 : World.cell? _ ⟨g8, 0, none⟩ = some (.slice AX1 p.length cX1) := (blk_cell BKg8.out 0).trans rfl; have hf_g80 := blk_frozen BKg8.out 0; have hx_g81 : World.cell? _ ⟨g8, 1, none⟩ = some (.slice AX2 q.length cX2) := (blk_cell BKg8.out 1).trans rfl; have hf_g81 := blk_frozen BKg8.out 1; have hx_g90 : World.cell? _ ⟨g9, 0, none⟩ = some (.slice AX3 u.length cX3) := (blk_cell BKg9.out 0).trans rfl; have hf_g90 := blk_frozen BKg9.out 0; have hx_g91 : World.cell? _ ⟨g9, 1, none⟩ = some (.slice AX4 v.length cX4) := (blk_cell BKg9.out 1).trans rfl; have hf_g91 := blk_frozen BKg9.out 1; have hx_g100 : World.cell? _ ⟨g10, 0, none⟩ = some (.slice AG1 r1.length cG1) := (blk_cell BKg10.out 0).trans rfl; have hf_g100 := blk_frozen BKg10.out 0; have hx_g101 : World.cell? _ ⟨g10, 1, none⟩ = some (.slice AG2 r2.length cG2) := (blk_cell BKg10.out 1).trans rfl; have hf_g101 := blk_frozen BKg10.out 1; have hx_g150 : World.cell? _ ⟨g15, 0, none⟩ = some (.slice AZ1 r1.length cZ1) := (blk_cell BKg15.out 0).trans rfl; have hf_g150 := blk_frozen BKg15.out 0; have hx_g151 : World.cell? _ ⟨g15, 1, none⟩ = some (.slice AZ2 r2.length cZ2) := (blk_cell BKg15.out 1).trans rfl; have hf_g151 := blk_frozen BKg15.out 1; clear hb)
    | (go_at_call 12; have hK := K20.out; (with_reducible refine (laws_eqSeaweed.calls k _ _ r1 _ _ r2 _ _ r1 _ _ r2 true _ (Kd.R_reads' Z1.out).2.2 (Kd.R_reads' Z1.out).2.1 (Kd.R_reads' Z2.out).2.2 (Kd.R_reads' Z2.out).2.1 (Kd.R_reads' W1.out).2.2 (Kd.R_reads' W1.out).2.1 (Kd.R_reads' W2.out).2.2 (Kd.R_reads' W2.out).2.1 FE.out).mono ?_); rintro e w20_ ⟨rfl, hb⟩; clear hK K20; clear hx_g20 hf_g20 hx_g21 hf_g21 hx_g30 hf_g30 hx_g31 hf_g31 hx_g60 hf_g60 hx_g61 hf_g61 hx_g80 hf_g80 hx_g81 hf_g81 hx_g90 hf_g90 hx_g91 hf_g91 hx_g100 hf_g100 hx_g101 hf_g101 hx_g150 hf_g150 hx_g151 hf_g151; have n_W1 := Aside0.mk (Kd.R_below W1.out hb); clear W1; have W1 := n_W1; clear n_W1; have n_W2 := Aside0.mk (Kd.R_below W2.out hb); clear W2; have W2 := n_W2; clear n_W2; have n_M1 := Aside0.mk (Kd.R_below M1.out hb); clear M1; have M1 := n_M1; clear n_M1; have n_M2 := Aside0.mk (Kd.R_below M2.out hb); clear M2; have M2 := n_M2; clear n_M2; have n_Z1 := Aside0.mk (Kd.R_below Z1.out hb); clear Z1; have Z1 := n_Z1; clear n_Z1; have n_Z2 := Aside0.mk (Kd.R_below Z2.out hb); clear Z2; have Z2 := n_Z2; clear n_Z2; have n_g2 := Aside0.mk (blk_below BKg2.out hb); clear BKg2; have BKg2 := n_g2; clear n_g2; have n_g3 := Aside0.mk (blk_below BKg3.out hb); clear BKg3; have BKg3 := n_g3; clear n_g3; have n_g6 := Aside0.mk (blk_below BKg6.out hb); clear BKg6; have BKg6 := n_g6; clear n_g6; have n_g8 := Aside0.mk (blk_below BKg8.out hb); clear BKg8; have BKg8 := n_g8; clear n_g8; have n_g9 := Aside0.mk (blk_below BKg9.out hb); clear BKg9; have BKg9 := n_g9; clear n_g9; have n_g10 := Aside0.mk (blk_below BKg10.out hb); clear BKg10; have BKg10 := n_g10; clear n_g10; have n_g15 := Aside0.mk (blk_below BKg15.out hb); clear BKg15; have BKg15 := n_g15; clear n_g15; have nHB := Aside0.mk (below_step HB.out hb); clear HB; have HB := nHB; clear nHB; have K21 := Aside0.mk True.intro; have hx_g20 : World.cell? _ ⟨g2, 0, none⟩ = some (.slice A0_0 p.length c0_0) := (blk_cell BKg2.out 0).trans rfl; have hf_g20 := blk_frozen BKg2.out 0; have hx_g21 : World.cell? _ ⟨g2, 1, none⟩ = some (.slice A0_1 q.length c0_1) := (blk_cell BKg2.out 1).trans rfl; have hf_g21 := blk_frozen BKg2.out 1; have hx_g30 : World.cell? _ ⟨g3, 0, none⟩ = some (.slice A1_0 u.length c1_0) := (blk_cell BKg3.out 0).trans rfl; have hf_g30 := blk_frozen BKg3.out 0; have hx_g31 : World.cell? _ ⟨g3, 1, none⟩ = some (.slice A1_1 v.length c1_1) := (blk_cell BKg3.out 1).trans rfl; have hf_g31 := blk_frozen BKg3.out 1; have hx_g60 : World.cell? _ ⟨g6, 0, none⟩ = some (.slice AW1 r1.length cW1) := (blk_cell BKg6.out 0).trans rfl; have hf_g60 := blk_frozen BKg6.out 0; have hx_g61 : World.cell? _ ⟨g6, 1, none⟩ = some (.slice AW2 r2.length cW2) := (blk_cell BKg6.out 1).trans rfl; have hf_g61 := blk_frozen BKg6.out 1; have hx_g80 : World.cell? _ ⟨g8, 0, none⟩ = some (.slice AX1 p.length cX1) := (blk_cell BKg8.out 0).trans rfl; have hf_g80 := blk_frozen BKg8.out 0; have hx_g81 : World.cell? _ ⟨g8, 1, none⟩ = some (.slice AX2 q.length cX2) := (blk_cell BKg8.out 1).trans rfl; have hf_g81 := blk_frozen BKg8.out 1; have hx_g90 : World.cell? _ ⟨g9, 0, none⟩ = some (.slice AX3 u.length cX3) := (blk_cell BKg9.out 0).trans rfl; have hf_g90 := blk_frozen BKg9.out 0; have hx_g91 : World.cell? _ ⟨g9, 1, none⟩ = some (.slice AX4 v.length cX4) := (blk_cell BKg9.out 1).trans rfl; have hf_g91 := blk_frozen BKg9.out 1; have hx_g100 : World.cell? _ ⟨g10, 0, none⟩ = some (.slice AG1 r1.length cG1) := (blk_cell BKg10.out 0).trans rfl; have hf_g100 := blk_frozen BKg10.out 0; have hx_g101 : World.cell? _ ⟨g10, 1, none⟩ = some (.slice AG2 r2.length cG2) := (blk_cell BKg10.out 1).trans rfl; have hf_g101 := blk_frozen BKg10.out 1; have hx_g150 : World.cell? _ ⟨g15, 0, none⟩ = some (.slice AZ1 r1.length cZ1) := (blk_cell BKg15.out 0).trans rfl; have hf_g150 := blk_frozen BKg15.out 0; have hx_g151 : World.cell? _ ⟨g15, 1, none⟩ = some (.slice AZ2 r2.length cZ2) := (blk_cell BKg15.out 1).trans rfl; have hf_g151 := blk_frozen BKg15.out 1; clear hb))
  go_ret
  exact ⟨rfl, HB.out⟩
def laws_FnExactJoinSeaweeds.Pure : Prop := ∀ (p q u v : List Int), p.length ≤ maxLen → (∀ x ∈ p, (Lit.int .i64 x).wf = true) → q.length ≤ maxLen → (∀ x ∈ q, (Lit.int .i64 x).wf = true) → u.length ≤ maxLen → (∀ x ∈ u, (Lit.int .i64 x).wf = true) → v.length ≤ maxLen → (∀ x ∈ v, (Lit.int .i64 x).wf = true) → ∃ k, (∃ left, laws_szSeaweed.f p q 1048576 = some left ∧ left < 0) ∨ (∃ left1 left2, laws_szSeaweed.f p q 1048576 = some left1 ∧ 0 ≤ left1 ∧ laws_szSeaweed.f u v left1 = some left2 ∧ left2 < 0) ∨ laws_FnExactJoinSeaweeds.Told k p q u v
def IsInts (w : World) (a : Option Addr) (len cap : Nat) (zs : List Int) : Prop := (a = none ∧ len = 0 ∧ cap = 0 ∧ zs = []) ∨ ∃ x, a = some x ∧ len ≤ cap ∧ cap ≤ maxLen ∧ zs.length = cap ∧ (∀ i, i < zs.length → w.cell? (x.add i) = some (.int .i64 (zs.getD i 0))) ∧ ∀ n ∈ zs, (Lit.int .i64 n).wf = true
theorem laws_FnExactJoinSeaweeds.walk (P : laws_FnExactJoinSeaweeds.Pure) (a0_0 : Option Addr) (len0_0 cap0_0 : Nat) (z0_0 : List Int) (a0_1 : Option Addr) (len0_1 cap0_1 : Nat) (z0_1 : List Int) (a1_0 : Option Addr) (len1_0 cap1_0 : Nat) (z1_0 : List Int) (a1_1 : Option Addr) (len1_1 cap1_1 : Nat) (z1_1 : List Int) (w : World) (w0_0 : IsInts w a0_0 len0_0 cap0_0 z0_0) (w0_1 : IsInts w a0_1 len0_1 cap0_1 z0_1) (w1_0 : IsInts w a1_0 len1_0 cap1_0 z1_0) (w1_1 : IsInts w a1_1 len1_1 cap1_1 z1_1) :
    Calls Try.prog 3 #[.agg #[.slice a0_0 len0_0 cap0_0, .slice a0_1 len0_1 cap0_1], .agg #[.slice a1_0 len1_0 cap1_0, .slice a1_1 len1_1 cap1_1]] w fun e w' => e = .returned (.bool true) ∧ Below w.heap.size w w' := by
  obtain ⟨l0_0, rfl, hr0_0, hm0_0, hw0_0, hc0_0⟩ := ReadsInt.ofRowC w0_0
  obtain ⟨l0_1, rfl, hr0_1, hm0_1, hw0_1, hc0_1⟩ := ReadsInt.ofRowC w0_1
  obtain ⟨l1_0, rfl, hr1_0, hm1_0, hw1_0, hc1_0⟩ := ReadsInt.ofRowC w1_0
  obtain ⟨l1_1, rfl, hr1_1, hm1_1, hw1_1, hc1_1⟩ := ReadsInt.ofRowC w1_1
  obtain ⟨k, h⟩ := P l0_0 l0_1 l1_0 l1_1 hm0_0 hw0_0 hm0_1 hw0_1 hm1_0 hw1_0 hm1_1 hw1_1
  refine (laws_FnExactJoinSeaweeds.calls k _ _ l0_0 _ _ l0_1 _ _ l1_0 _ _ l1_1 w (Kd.C_of_reads (d := (0 : Int)) (h1 := fun _ => rfl) hr0_0) hc0_0 (Kd.C_of_reads (d := (0 : Int)) (h1 := fun _ => rfl) hr0_1) hc0_1 (Kd.C_of_reads (d := (0 : Int)) (h1 := fun _ => rfl) hr1_0) hc1_0 (Kd.C_of_reads (d := (0 : Int)) (h1 := fun _ => rfl) hr1_1) hc1_1 h).mono ?_
  rintro e w' ⟨rfl, hd⟩
  exact ⟨rfl, hd⟩
end Go.Proofs.Ytoblagangofflaa.J
