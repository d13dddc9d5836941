/- The law FnExactClosedToOpen, walked by hand over our printed contracts: the program's answer is a cut of a whole row. -/
import Derived.Test.YteflkoghligofaaHCut
import Derived.Test.YteflkoghligofaaHOpenCut
import Derived.Test.YteflkoghligofaaC1
import Derived.Test.YteflkoghligofaaC3
import Derived.Test.YteflkoghligofaaC5
set_option linter.unusedVariables false
set_option linter.unusedSimpArgs false
namespace Go.Proofs.Yteflkoghligofaa.C
open Go.RowKit Go.Proofs.YteflkoghligofaaW.PrintWords Go.Proofs.YteflkoghligofaaW.PrintLast Go.Proofs.YteflkoghligofaaW.PrintMore
theorem drawn_below {w w' : World} (h : Drawn0 w w') : Below w.heap.size w w' := by
  obtain ⟨nd, rfl⟩ := h
  exact pw_below_drewN (Below.refl _ _) nd
theorem apart {α β : Type} {d : Kd α} {d' : Kd β} {e e' b : Nat} {ok ok' : Nat → Prop} {W W' : World} {v u : Value} {xs : List α} {ys : List β} (h : d.R e W b ok v xs) (h' : d'.R e' W' W.heap.size ok' u ys) : ∀ k, some k = v.ownBlock → ¬ some k = u.ownBlock :=
  fun k h1 h2 => Nat.lt_irrefl _ (Nat.lt_of_lt_of_le (Kd.R_lt h k h1.symm) (Kd.R_base h' k h2.symm))
theorem apart2 {α : Type} {d : Kd α} {e b : Nat} {W : World} {v u : Value} {xs : List α} (h : d.R e W b (fun k => some k ≠ u.ownBlock) v xs) : ∀ k, some k = v.ownBlock → ¬ some k = u.ownBlock := fun k h1 => h.1 k h1.symm
theorem swap_ap {A B : Nat → Prop} (h : ∀ k, A k → ¬ B k) : ∀ k, B k → ¬ A k := fun k h1 h2 => h k h2 h1
theorem kept_box {W w' : World} {g : Nat} {o : Obj} {S : Nat → Prop} (hb : W.heap[g]? = some o) (hk : Kept W w' S) (hne : ∀ k, S k → k ≠ g) : w'.heap[g]? = some o := (hk.2 g (blk_lt hb) (fun h => hne g h rfl)).trans hb
theorem cut_reads2 {w : World} {base : Nat} {ok : Nat → Prop} {A : Option Addr} {cap : Nat} {full r l : List Int} (hr : full.take r.length = r) (hl : l = full) (hn : r.length ≤ full.length) (h : Kd.R (Kd.int .i64) 3 w base ok (.slice A full.length cap) l) : Kd.C (Kd.int .i64) w A r.length r := by
  subst hl
  have h2 := cut_reads hn h
  rw [hr] at h2
  exact h2
theorem grow_len {w : World} {base : Nat} {ok : Nat → Prop} {A : Option Addr} {cap : Nat} {full r G : List Int} (hG : G.length = r.length) (hn : r.length ≤ full.length) (h : Kd.R (Kd.int .i64) 3 w base ok (.slice A full.length cap) (G ++ full.drop r.length)) : Kd.R (Kd.int .i64) 3 w base ok (.slice A (G ++ full.drop r.length).length cap) (G ++ full.drop r.length) := by
  have e : (G ++ full.drop r.length).length = full.length := by rw [List.length_append, List.length_drop]; omega
  rw [e]; exact h
theorem held_cut (k : Nat) (A : Option Addr) (cap n : Nat) (l G : List Int) (m : Int) (W : World) {base : Nat} {ok : Nat → Prop} (hG : G.length = n) (hn : n ≤ l.length) (ht : l.take n = G) (h : Kd.R (Kd.int .i64) 3 W base ok (.slice A l.length cap) l) (hh : laws_heldIntS.f k G 1 = some m) :
    Calls Try.prog 18 #[.slice A n n, .int .i64 1] W fun e w' => e = .returned (.int .i64 m) ∧ Drawn0 W w' := by
  have h2 := cut_reads hn h
  rw [ht] at h2
  subst hG
  exact laws_heldIntS.calls k A G.length G 1 m W h2 (Nat.le_refl _) hh
/-- what the law asks for, as plain lists tell it -/
structure laws_FnExactClosedToOpen.Told (k : Nat) (p q : List Int) : Prop where
  ok : ∃ (left : Int) (full r : List Int) (b : Bool) (k1 m : Int) (X Y G : List Int),
    laws_szMeander.f p q 1048576 = some left ∧ 0 ≤ left ∧ CutTold k p q full r.length b ∧ full.take r.length = r ∧ r.length ≤ full.length ∧ spec_ClosedToOpen.f k p q = some (r, b) ∧ laws_toMeander.f k p q = some (p, q) ∧
    laws_eqIntS.f k r r = some true ∧ laws_eqMeander.f k p q p q = some true ∧ laws_markMeander.f k p q 1 = some (k1, X, Y) ∧ 0 ≤ k1 ∧ laws_markIntS.f k r 1 = some (m, G) ∧ G.length = r.length ∧ 0 ≤ m ∧ laws_heldIntS.f k G 1 = some m
set_option maxHeartbeats 16000000 in
set_option maxRecDepth 100000 in
theorem laws_FnExactClosedToOpen.calls (k : Nat) (A0_0 : Option Addr) (c0_0 : Nat) (p : List Int) (A0_1 : Option Addr) (c0_1 : Nat) (q : List Int) (w : World) (hr0 : Kd.C (Kd.int .i64) w A0_0 p.length p) (hc0 : p.length ≤ c0_0) (hr1 : Kd.C (Kd.int .i64) w A0_1 q.length q) (hc1 : q.length ≤ c0_1)
    (h : (∃ left, laws_szMeander.f p q 1048576 = some left ∧ left < 0) ∨ laws_FnExactClosedToOpen.Told k p q) :
    Calls Try.prog 3 #[.agg #[.slice A0_0 p.length c0_0, .slice A0_1 q.length c0_1]] w fun e w' => e = .returned (.bool true) ∧ Below w.heap.size w w' := by
  have K0 := Aside0.mk True.intro
  have H0 := Aside0.mk hr0
  have H1 := Aside0.mk hr1
  have C0 := Aside0.mk hc0
  have C1 := Aside0.mk hc1
  have HB := Aside0.mk (Below.refl w.heap.size w)
  clear hr0 hr1 hc0 hc1
  rcases h with ⟨left, hz, hneg⟩ | h
  · have FZ := Aside0.mk hz
    have c3b0 : decide (left < 0) = true := decide_eq_true hneg
    clear hz hneg
    go_enter Try.func3, Try.ntmps3
    go_wp2_with (first
    | (go_at_call 10; have hK := K1.out; (with_reducible refine (laws_szMeander.calls _ _ p _ _ q 1048576 left _ (Kd.C_below H0.out HB.out) C0.out (Kd.C_below H1.out HB.out) C1.out FZ.out).mono ?_); rintro e w1_ ⟨rfl, hb⟩; clear hK K1; clear hx_g10 hf_g10 hx_g11 hf_g11; have n_g1 := Aside0.mk (blk_below BKg1.out hb); clear BKg1; have BKg1 := n_g1; clear n_g1; have nHB := Aside0.mk (below_step HB.out hb); clear HB; have HB := nHB; clear nHB; have K2 := Aside0.mk True.intro; have hx_g10 : World.cell? _ ⟨g1, 0, none⟩ = some (.slice A0_0 p.length c0_0) := (blk_cell BKg1.out 0).trans rfl; have hf_g10 := blk_frozen BKg1.out 0; have hx_g11 : World.cell? _ ⟨g1, 1, none⟩ = some (.slice A0_1 q.length c0_1) := (blk_cell BKg1.out 1).trans rfl; have hf_g11 := blk_frozen BKg1.out 1; clear hb)
    | ((with_reducible refine gate_dst (N := 1) rfl ?_); have hK := K0.out; refine box_event ?hg (N := 1) ?hd (cs := #[.slice A0_0 p.length c0_0, .slice A0_1 q.length c0_1]) (t := 24) ?hr ?_; (case hd => rfl); (case hg => rfl); (case hr => first | (go_simp; done) | (go_simp; rfl)); intro g1 hg w0_ hbox hb; clear hK K0; have GE_g1 := Aside0.mk ((by rw [hg]; exact HB.out.size) : w.heap.size ≤ g1); have BKg1 := Aside0.mk hbox; have nHB := Aside0.mk (below_step HB.out hb); clear HB hbox hb hg; have HB := nHB; clear nHB; have K1 := Aside0.mk True.intro; have hx_g10 : World.cell? _ ⟨g1, 0, none⟩ = some (.slice A0_0 p.length c0_0) := (blk_cell BKg1.out 0).trans rfl; have hf_g10 := blk_frozen BKg1.out 0; have hx_g11 : World.cell? _ ⟨g1, 1, none⟩ = some (.slice A0_1 q.length c0_1) := (blk_cell BKg1.out 1).trans rfl; have hf_g11 := blk_frozen BKg1.out 1))
    go_ret
    exact ⟨rfl, HB.out⟩
  obtain ⟨left, full, r, b, k1, m, X, Y, G, hz, hz0, hi, hr, hn, hs, hT, hE, hEM, hMM, hk1, hMc, hGl, hm, hH⟩ := h.ok
  have c3b0 : decide (left < 0) = false := decide_eq_false (by omega)
  have c4b0 : decide (k1 < 0) = false := decide_eq_false (by omega)
  have c5b0 : decide (m < 0) = false := decide_eq_false (by omega)
  have c6b0 : (b != b) = false := bne_self_eq_false b
  have hMc' : laws_markIntS.f k (full.take r.length) 1 = some (m, G) := by rw [hr]; exact hMc
  have FZ := Aside0.mk hz
  have Fi := Aside0.mk hi
  have FR := Aside0.mk hr
  have HN := Aside0.mk hn
  have Fs := Aside0.mk hs
  have FT := Aside0.mk hT
  have FE := Aside0.mk hE
  have FEM := Aside0.mk hEM
  have FMM := Aside0.mk hMM
  have FMc := Aside0.mk hMc'
  have HGL := Aside0.mk hGl
  have FH := Aside0.mk hH
  clear h hz hz0 hi hr hn hs hT hE hEM hMM hk1 hMc hMc' hGl hm hH
  go_enter Try.func3, Try.ntmps3
  go_wp2_with (first
    | (go_at_call 14; have hK := K7.out; (with_reducible refine (laws_eqIntS.calls k _ _ r _ _ r true _ (cut_reads2 FR.out rfl HN.out F.out) (Nat.le_refl _) (Kd.R_reads' R4.out).2.2 (Kd.R_reads' R4.out).2.1 FE.out).mono ?_); rintro e w7_ ⟨rfl, hd⟩; clear hK K7; have hb := drawn_below hd; clear hd; clear hx_g10 hf_g10 hx_g11 hf_g11 hx_g60 hf_g60 hx_g61 hf_g61; have n_R4 := Aside0.mk (Kd.R_below R4.out hb); clear R4; have R4 := n_R4; clear n_R4; have n_P := Aside0.mk (Kd.R_below P.out hb); clear P; have P := n_P; clear n_P; have n_Q := Aside0.mk (Kd.R_below Q.out hb); clear Q; have Q := n_Q; clear n_Q; have n_F := Aside0.mk (Kd.R_below F.out hb); clear F; have F := n_F; clear n_F; have n_g1 := Aside0.mk (blk_below BKg1.out hb); clear BKg1; have BKg1 := n_g1; clear n_g1; have n_g6 := Aside0.mk (blk_below BKg6.out hb); clear BKg6; have BKg6 := n_g6; clear n_g6; have nHB := Aside0.mk (below_step HB.out hb); clear HB; have HB := nHB; clear nHB; have K8 := Aside0.mk True.intro; have hx_g10 : World.cell? _ ⟨g1, 0, none⟩ = some (.slice A0_0 p.length c0_0) := (blk_cell BKg1.out 0).trans rfl; have hf_g10 := blk_frozen BKg1.out 0; have hx_g11 : World.cell? _ ⟨g1, 1, none⟩ = some (.slice A0_1 q.length c0_1) := (blk_cell BKg1.out 1).trans rfl; have hf_g11 := blk_frozen BKg1.out 1; have hx_g60 : World.cell? _ ⟨g6, 0, none⟩ = some (.slice AP p.length cP) := (blk_cell BKg6.out 0).trans rfl; have hf_g60 := blk_frozen BKg6.out 0; have hx_g61 : World.cell? _ ⟨g6, 1, none⟩ = some (.slice AQ q.length cQ) := (blk_cell BKg6.out 1).trans rfl; have hf_g61 := blk_frozen BKg6.out 1; clear hb)
    | (go_at_call 13; have hK := K6.out; clear hx_g10 hf_g10 hx_g11 hf_g11 hx_g60 hf_g60 hx_g61 hf_g61; have n_R4 := Aside0.mk (Kd.R_tight rfl (Kd.R_far (p := ⟨g6, 1, none⟩) (Kd.R_far (p := ⟨g6, 0, none⟩) (Kd.R_types R4.out BKg6.out (by decide)) (fun _ hk => hk.2) (.slice AP p.length cP)) (fun _ hk => hk.2) (.slice AQ q.length cQ))); have n_P := Aside0.mk (Kd.R_tight rfl (Kd.R_far (p := ⟨g6, 1, none⟩) (Kd.R_far (p := ⟨g6, 0, none⟩) (Kd.R_types P.out BKg6.out (by decide)) (fun _ hk => hk.2) (.slice AP p.length cP)) (fun _ hk => hk.2) (.slice AQ q.length cQ))); have n_Q := Aside0.mk (Kd.R_tight rfl (Kd.R_far (p := ⟨g6, 1, none⟩) (Kd.R_far (p := ⟨g6, 0, none⟩) (Kd.R_types Q.out BKg6.out (by decide)) (fun _ hk => hk.2) (.slice AP p.length cP)) (fun _ hk => hk.2) (.slice AQ q.length cQ))); have n_g1 := Aside0.mk (blk_far (p := ⟨g6, 1, none⟩) (blk_far (p := ⟨g6, 0, none⟩) BKg1.out NB_g1_g6.out (.slice AP p.length cP)) NB_g1_g6.out (.slice AQ q.length cQ)); have n_g6 := Aside0.mk (blk_put (cs := #[.slice AP p.length cP, .slice none 0 0]) (blk_put (cs := #[.slice none 0 0, .slice none 0 0]) BKg6.out 0 (.slice AP p.length cP) rfl) 1 (.slice AQ q.length cQ) rfl); have nHB := Aside0.mk (below_set (g := g6) (j := 1) (v := .slice AQ q.length cQ) (below_set (g := g6) (j := 0) (v := .slice AP p.length cP) HB.out GE_g6.out) GE_g6.out); clear R4; have R4 := n_R4; clear n_R4; clear P; have P := n_P; clear n_P; clear Q; have Q := n_Q; clear n_Q; clear BKg1; have BKg1 := n_g1; clear n_g1; clear BKg6; have BKg6 := n_g6; clear n_g6; clear HB; have HB := nHB; clear nHB; (with_reducible refine (impl_ClosedToOpen_told k _ _ p _ _ q full r.length b _ (Kd.R_reads' P.out).2.2 (Kd.R_reads' P.out).2.1 (Kd.R_reads' Q.out).2.2 (Kd.R_reads' Q.out).2.1 Fi.out).mono ?_); rintro e w6_ ⟨AF, cF, rfl, hoF, hb⟩; clear hK K6; have AP_R4_F := Aside0.mk (apart R4.out hoF); have AP_P_F := Aside0.mk (apart P.out hoF); have AP_Q_F := Aside0.mk (apart Q.out hoF); have q_F := Aside0.mk (Kd.R_lower (Kd.R_tight rfl hoF) HB.out.size); clear hoF; have n_R4 := Aside0.mk (Kd.R_below R4.out hb); clear R4; have R4 := n_R4; clear n_R4; have n_P := Aside0.mk (Kd.R_below P.out hb); clear P; have P := n_P; clear n_P; have n_Q := Aside0.mk (Kd.R_below Q.out hb); clear Q; have Q := n_Q; clear n_Q; have n_g1 := Aside0.mk (blk_below BKg1.out hb); clear BKg1; have BKg1 := n_g1; clear n_g1; have n_g6 := Aside0.mk (blk_below BKg6.out hb); clear BKg6; have BKg6 := n_g6; clear n_g6; have F := q_F; clear q_F; have nHB := Aside0.mk (below_step HB.out hb); clear HB; have HB := nHB; clear nHB; have K7 := Aside0.mk True.intro; have hx_g10 : World.cell? _ ⟨g1, 0, none⟩ = some (.slice A0_0 p.length c0_0) := (blk_cell BKg1.out 0).trans rfl; have hf_g10 := blk_frozen BKg1.out 0; have hx_g11 : World.cell? _ ⟨g1, 1, none⟩ = some (.slice A0_1 q.length c0_1) := (blk_cell BKg1.out 1).trans rfl; have hf_g11 := blk_frozen BKg1.out 1; have hx_g60 : World.cell? _ ⟨g6, 0, none⟩ = some (.slice AP p.length cP) := (blk_cell BKg6.out 0).trans rfl; have hf_g60 := blk_frozen BKg6.out 0; have hx_g61 : World.cell? _ ⟨g6, 1, none⟩ = some (.slice AQ q.length cQ) := (blk_cell BKg6.out 1).trans rfl; have hf_g61 := blk_frozen BKg6.out 1; clear hb)
    | ((with_reducible refine gate_dst (N := 6) rfl ?_); have hK := K5.out; refine box_event ?hg (N := 6) ?hd (cs := #[.slice none 0 0, .slice none 0 0]) (t := 28) ?hr ?_; (case hd => rfl); (case hg => rfl); (case hr => first | (go_simp; done) | (go_simp; rfl)); intro g6 hg w5_ hbox hb; clear hK K5; have GE_g6 := Aside0.mk ((by rw [hg]; exact HB.out.size) : w.heap.size ≤ g6); have NB_g1_g6 := Aside0.mk ((by rw [hg]; exact Nat.ne_of_lt (blk_lt BKg1.out)) : g1 ≠ g6); have hn_g1_g6 := NB_g1_g6.out; have hm_g1_g6 := NB_g1_g6.out.symm; clear hx_g10 hf_g10 hx_g11 hf_g11; have n_R4 := Aside0.mk (Kd.R_below R4.out hb); clear R4; have R4 := n_R4; clear n_R4; have n_P := Aside0.mk (Kd.R_below P.out hb); clear P; have P := n_P; clear n_P; have n_Q := Aside0.mk (Kd.R_below Q.out hb); clear Q; have Q := n_Q; clear n_Q; have n_g1 := Aside0.mk (blk_below BKg1.out hb); clear BKg1; have BKg1 := n_g1; clear n_g1; have BKg6 := Aside0.mk hbox; have nHB := Aside0.mk (below_step HB.out hb); clear HB hbox hb hg; have HB := nHB; clear nHB; have K6 := Aside0.mk True.intro; have hx_g10 : World.cell? _ ⟨g1, 0, none⟩ = some (.slice A0_0 p.length c0_0) := (blk_cell BKg1.out 0).trans rfl; have hf_g10 := blk_frozen BKg1.out 0; have hx_g11 : World.cell? _ ⟨g1, 1, none⟩ = some (.slice A0_1 q.length c0_1) := (blk_cell BKg1.out 1).trans rfl; have hf_g11 := blk_frozen BKg1.out 1; have hx_g60 : World.cell? _ ⟨g6, 0, none⟩ = some (.slice none 0 0) := (blk_cell BKg6.out 0).trans rfl; have hf_g60 := blk_frozen BKg6.out 0; have hx_g61 : World.cell? _ ⟨g6, 1, none⟩ = some (.slice none 0 0) := (blk_cell BKg6.out 1).trans rfl; have hf_g61 := blk_frozen BKg6.out 1)
    | (go_at_call 12; have hK := K4.out; (with_reducible refine (laws_toMeander.calls k _ _ p _ _ q p q _ (Kd.C_below H0.out HB.out) C0.out (Kd.C_below H1.out HB.out) C1.out FT.out).mono ?_); rintro e w4_ ⟨vP, vQ, rfl, hoP, hoQ, hb⟩; clear hK K4; obtain ⟨AP, cP, eP⟩ := Kd.R_slice hoP; subst eP; obtain ⟨AQ, cQ, eQ⟩ := Kd.R_slice hoQ; subst eQ; have AP_R4_P := Aside0.mk (apart R4.out hoP); have AP_R4_Q := Aside0.mk (apart R4.out hoQ); have AP_P_Q := Aside0.mk (apart2 hoP); have q_P := Aside0.mk (Kd.R_lower (Kd.R_tight rfl hoP) HB.out.size); clear hoP; have q_Q := Aside0.mk (Kd.R_lower (Kd.R_tight rfl hoQ) HB.out.size); clear hoQ; clear hx_g10 hf_g10 hx_g11 hf_g11; have n_R4 := Aside0.mk (Kd.R_below R4.out hb); clear R4; have R4 := n_R4; clear n_R4; have n_g1 := Aside0.mk (blk_below BKg1.out hb); clear BKg1; have BKg1 := n_g1; clear n_g1; have P := q_P; clear q_P; have Q := q_Q; clear q_Q; have nHB := Aside0.mk (below_step HB.out hb); clear HB; have HB := nHB; clear nHB; have K5 := Aside0.mk True.intro; have hx_g10 : World.cell? _ ⟨g1, 0, none⟩ = some (.slice A0_0 p.length c0_0) := (blk_cell BKg1.out 0).trans rfl; have hf_g10 := blk_frozen BKg1.out 0; have hx_g11 : World.cell? _ ⟨g1, 1, none⟩ = some (.slice A0_1 q.length c0_1) := (blk_cell BKg1.out 1).trans rfl; have hf_g11 := blk_frozen BKg1.out 1; clear hb)
    | (go_at_call 11; have hK := K3.out; (with_reducible refine (spec_ClosedToOpen.calls k _ _ p _ _ q r b _ (Kd.R_reads' P1.out).2.2 (Kd.R_reads' P1.out).2.1 (Kd.R_reads' Q1.out).2.2 (Kd.R_reads' Q1.out).2.1 Fs.out).mono ?_); rintro e w3_ ⟨v4, rfl, hoR4, hb⟩; clear hK K3; obtain ⟨A4, c4, e4⟩ := Kd.R_slice hoR4; subst e4; have AP_P1_R4 := Aside0.mk (apart P1.out hoR4); have AP_Q1_R4 := Aside0.mk (apart Q1.out hoR4); have q_R4 := Aside0.mk (Kd.R_lower (Kd.R_tight rfl hoR4) HB.out.size); clear hoR4; clear hx_g10 hf_g10 hx_g11 hf_g11; have n_g1 := Aside0.mk (blk_below BKg1.out hb); clear BKg1; have BKg1 := n_g1; clear n_g1; have R4 := q_R4; clear q_R4; have nHB := Aside0.mk (below_step HB.out hb); clear HB; have HB := nHB; clear nHB; clear P1; clear Q1; have K4 := Aside0.mk True.intro; have hx_g10 : World.cell? _ ⟨g1, 0, none⟩ = some (.slice A0_0 p.length c0_0) := (blk_cell BKg1.out 0).trans rfl; have hf_g10 := blk_frozen BKg1.out 0; have hx_g11 : World.cell? _ ⟨g1, 1, none⟩ = some (.slice A0_1 q.length c0_1) := (blk_cell BKg1.out 1).trans rfl; have hf_g11 := blk_frozen BKg1.out 1; clear hb)
    | (go_at_call 12; have hK := K2.out; (with_reducible refine (laws_toMeander.calls k _ _ p _ _ q p q _ (Kd.C_below H0.out HB.out) C0.out (Kd.C_below H1.out HB.out) C1.out FT.out).mono ?_); rintro e w2_ ⟨vP1, vQ1, rfl, hoP1, hoQ1, hb⟩; clear hK K2; obtain ⟨AP1, cP1, eP1⟩ := Kd.R_slice hoP1; subst eP1; obtain ⟨AQ1, cQ1, eQ1⟩ := Kd.R_slice hoQ1; subst eQ1; have AP_P1_Q1 := Aside0.mk (apart2 hoP1); have q_P1 := Aside0.mk (Kd.R_lower (Kd.R_tight rfl hoP1) HB.out.size); clear hoP1; have q_Q1 := Aside0.mk (Kd.R_lower (Kd.R_tight rfl hoQ1) HB.out.size); clear hoQ1; clear hx_g10 hf_g10 hx_g11 hf_g11; have n_g1 := Aside0.mk (blk_below BKg1.out hb); clear BKg1; have BKg1 := n_g1; clear n_g1; have P1 := q_P1; clear q_P1; have Q1 := q_Q1; clear q_Q1; have nHB := Aside0.mk (below_step HB.out hb); clear HB; have HB := nHB; clear nHB; have K3 := Aside0.mk True.intro; have hx_g10 : World.cell? _ ⟨g1, 0, none⟩ = some (.slice A0_0 p.length c0_0) := (blk_cell BKg1.out 0).trans rfl; have hf_g10 := blk_frozen BKg1.out 0; have hx_g11 : World.cell? _ ⟨g1, 1, none⟩ = some (.slice A0_1 q.length c0_1) := (blk_cell BKg1.out 1).trans rfl; have hf_g11 := blk_frozen BKg1.out 1; clear hb)
    | (go_at_call 10; have hK := K1.out; (with_reducible refine (laws_szMeander.calls _ _ p _ _ q 1048576 left _ (Kd.C_below H0.out HB.out) C0.out (Kd.C_below H1.out HB.out) C1.out FZ.out).mono ?_); rintro e w1_ ⟨rfl, hb⟩; clear hK K1; clear hx_g10 hf_g10 hx_g11 hf_g11; have n_g1 := Aside0.mk (blk_below BKg1.out hb); clear BKg1; have BKg1 := n_g1; clear n_g1; have nHB := Aside0.mk (below_step HB.out hb); clear HB; have HB := nHB; clear nHB; have K2 := Aside0.mk True.intro; have hx_g10 : World.cell? _ ⟨g1, 0, none⟩ = some (.slice A0_0 p.length c0_0) := (blk_cell BKg1.out 0).trans rfl; have hf_g10 := blk_frozen BKg1.out 0; have hx_g11 : World.cell? _ ⟨g1, 1, none⟩ = some (.slice A0_1 q.length c0_1) := (blk_cell BKg1.out 1).trans rfl; have hf_g11 := blk_frozen BKg1.out 1; clear hb)
    | ((with_reducible refine gate_dst (N := 1) rfl ?_); have hK := K0.out; refine box_event ?hg (N := 1) ?hd (cs := #[.slice A0_0 p.length c0_0, .slice A0_1 q.length c0_1]) (t := 24) ?hr ?_; (case hd => rfl); (case hg => rfl); (case hr => first | (go_simp; done) | (go_simp; rfl)); intro g1 hg w0_ hbox hb; clear hK K0; have GE_g1 := Aside0.mk ((by rw [hg]; exact HB.out.size) : w.heap.size ≤ g1); have BKg1 := Aside0.mk hbox; have nHB := Aside0.mk (below_step HB.out hb); clear HB hbox hb hg; have HB := nHB; clear nHB; have K1 := Aside0.mk True.intro; have hx_g10 : World.cell? _ ⟨g1, 0, none⟩ = some (.slice A0_0 p.length c0_0) := (blk_cell BKg1.out 0).trans rfl; have hf_g10 := blk_frozen BKg1.out 0; have hx_g11 : World.cell? _ ⟨g1, 1, none⟩ = some (.slice A0_1 q.length c0_1) := (blk_cell BKg1.out 1).trans rfl; have hf_g11 := blk_frozen BKg1.out 1))
  clear hx_g10 hf_g10 hx_g11 hf_g11 hx_g60 hf_g60 hx_g61 hf_g61
  have n_R4 := Aside0.mk (Kd.R_drew R4.out)
  clear R4
  have R4 := n_R4
  clear n_R4
  have n_P := Aside0.mk (Kd.R_drew P.out)
  clear P
  have P := n_P
  clear n_P
  have n_Q := Aside0.mk (Kd.R_drew Q.out)
  clear Q
  have Q := n_Q
  clear n_Q
  have n_F := Aside0.mk (Kd.R_drew F.out)
  clear F
  have F := n_F
  clear n_F
  have n_g1 := Aside0.mk (blk_drew BKg1.out)
  clear BKg1
  have BKg1 := n_g1
  clear n_g1
  have n_g6 := Aside0.mk (blk_drew BKg6.out)
  clear BKg6
  have BKg6 := n_g6
  clear n_g6
  have nHB := Aside0.mk (below_drew1 HB.out)
  clear HB
  have HB := nHB
  clear nHB
  refine start_ (n := 5) (S := fun w' => w'.cell? ⟨g6, 0, none⟩ = some (.slice AP p.length cP) ∧ w'.cell? ⟨g6, 1, none⟩ = some (.slice AQ q.length cQ) ∧ w'.cell? ⟨g1, 0, none⟩ = some (.slice A0_0 p.length c0_0) ∧ w'.cell? ⟨g1, 1, none⟩ = some (.slice A0_1 q.length c0_1)) (ds := []) #[false, false, false, false, false] (by kernel_rfl) rfl rfl ⟨(blk_cell BKg6.out 0).trans rfl, (blk_cell BKg6.out 1).trans rfl, (blk_cell BKg1.out 0).trans rfl, (blk_cell BKg1.out 1).trans rfl⟩ (fun hHeld => ?_)
  generalize w7_.drew = wd8_ at R4 P Q F BKg1 BKg6 HB hHeld ⊢
  refine take_ (i := 0) (N := some 41) (v := ?_) (a' := ?_) #[true, false, false, false, false] rfl rfl (by kernel_rfl) (fun _ _ _ h => h) (Or.inl ⟨by rfl, ?_⟩) hHeld ?_ ?_
  rotate_left
  · rintro w' ⟨s0, s1, s2, s3⟩
    go_simp
    with_reducible rfl
  rotate_left
  · simp only [Act.put, List.setIfInBounds_toArray, List.set_cons_zero, List.set_cons_succ, i64_w, i32_w]
    rfl
  refine take_ (i := 1) (N := some 42) (v := ?_) (a' := ?_) #[true, true, false, false, false] rfl rfl (by kernel_rfl) (fun _ _ _ h => h) (Or.inl ⟨by rfl, ?_⟩) hHeld ?_ ?_
  rotate_left
  · rintro w' ⟨s0, s1, s2, s3⟩
    go_simp
    with_reducible rfl
  rotate_left
  · simp only [Act.put, List.setIfInBounds_toArray, List.set_cons_zero, List.set_cons_succ, i64_w, i32_w]
    rfl
  refine one_ (i := 2) (N := some 43) #[true, true, true, false, false] rfl rfl (by kernel_rfl) (by decide) (fun K hK => ?_)
  refine goes_ Try.func12 (by kernel_rfl) rfl #[.agg #[.slice A0_0 p.length c0_0, .slice A0_1 q.length c0_1]] (by rfl) rfl rfl (by (try simp only [List.map_toArray, List.map_cons, List.map_nil]); first | done | rfl) ?_
  with_reducible refine (laws_toMeander.calls k _ _ p _ _ q p q _ (Kd.C_below H0.out HB.out) C0.out (Kd.C_below H1.out HB.out) C1.out FT.out).mono ?_
  rintro e wq2_ ⟨vP5, vQ5, rfl, hoP5, hoQ5, hb⟩
  obtain ⟨AP5, cP5, eP5⟩ := Kd.R_slice hoP5
  subst eP5
  obtain ⟨AQ5, cQ5, eQ5⟩ := Kd.R_slice hoQ5
  subst eQ5
  have AP_R4_P5 := Aside0.mk (apart R4.out hoP5)
  have AP_P_P5 := Aside0.mk (apart P.out hoP5)
  have AP_Q_P5 := Aside0.mk (apart Q.out hoP5)
  have AP_F_P5 := Aside0.mk (apart F.out hoP5)
  have AP_R4_Q5 := Aside0.mk (apart R4.out hoQ5)
  have AP_P_Q5 := Aside0.mk (apart P.out hoQ5)
  have AP_Q_Q5 := Aside0.mk (apart Q.out hoQ5)
  have AP_F_Q5 := Aside0.mk (apart F.out hoQ5)
  have AP_P5_Q5 := Aside0.mk (apart2 hoP5)
  have q_P5 := Aside0.mk (Kd.R_lower (Kd.R_tight rfl hoP5) HB.out.size)
  clear hoP5
  have q_Q5 := Aside0.mk (Kd.R_lower (Kd.R_tight rfl hoQ5) HB.out.size)
  clear hoQ5
  refine ⟨_, rfl, ?_⟩
  have n_R4 := Aside0.mk (Kd.R_below R4.out hb)
  clear R4
  have R4 := n_R4
  clear n_R4
  have n_P := Aside0.mk (Kd.R_below P.out hb)
  clear P
  have P := n_P
  clear n_P
  have n_Q := Aside0.mk (Kd.R_below Q.out hb)
  clear Q
  have Q := n_Q
  clear n_Q
  have n_F := Aside0.mk (Kd.R_below F.out hb)
  clear F
  have F := n_F
  clear n_F
  have n_g1 := Aside0.mk (blk_below BKg1.out hb)
  clear BKg1
  have BKg1 := n_g1
  clear n_g1
  have n_g6 := Aside0.mk (blk_below BKg6.out hb)
  clear BKg6
  have BKg6 := n_g6
  clear n_g6
  have P5 := q_P5
  clear q_P5
  have Q5 := q_Q5
  clear q_Q5
  have nHB := Aside0.mk (below_step HB.out hb)
  clear HB
  have HB := nHB
  clear nHB
  clear hb
  refine hK.out _ _ ⟨(blk_cell BKg6.out 0).trans rfl, (blk_cell BKg6.out 1).trans rfl, (blk_cell BKg1.out 0).trans rfl, (blk_cell BKg1.out 1).trans rfl⟩ (fun hHeld => ?_)
  clear hK K
  refine norm_ (a' := ?_) ?_ ?_
  rotate_left
  · show Act.put _ (some 43) _ = _
    simp only [Act.put, List.setIfInBounds_toArray, List.set_cons_zero, List.set_cons_succ, i64_w, i32_w]
    rfl
  refine one_ (i := 3) (N := some 44) #[true, true, true, true, false] rfl rfl (by kernel_rfl) (by decide) (fun K hK => ?_)
  refine goes_ Try.func15 (by kernel_rfl) rfl #[.agg #[.slice AP p.length cP, .slice AQ q.length cQ], .agg #[.slice AP5 p.length cP5, .slice AQ5 q.length cQ5]] (by rfl) rfl rfl (by (try simp only [List.map_toArray, List.map_cons, List.map_nil]); first | done | rfl) ?_
  with_reducible refine (laws_eqMeander.calls k _ _ p _ _ q _ _ p _ _ q true _ (Kd.R_reads' P.out).2.2 (Kd.R_reads' P.out).2.1 (Kd.R_reads' Q.out).2.2 (Kd.R_reads' Q.out).2.1 (Kd.R_reads' P5.out).2.2 (Kd.R_reads' P5.out).2.1 (Kd.R_reads' Q5.out).2.2 (Kd.R_reads' Q5.out).2.1 FEM.out).mono ?_
  rintro e wq3_ ⟨rfl, hb⟩
  refine ⟨_, rfl, ?_⟩
  have n_R4 := Aside0.mk (Kd.R_below R4.out hb)
  clear R4
  have R4 := n_R4
  clear n_R4
  have n_P := Aside0.mk (Kd.R_below P.out hb)
  clear P
  have P := n_P
  clear n_P
  have n_Q := Aside0.mk (Kd.R_below Q.out hb)
  clear Q
  have Q := n_Q
  clear n_Q
  have n_F := Aside0.mk (Kd.R_below F.out hb)
  clear F
  have F := n_F
  clear n_F
  have n_g1 := Aside0.mk (blk_below BKg1.out hb)
  clear BKg1
  have BKg1 := n_g1
  clear n_g1
  have n_g6 := Aside0.mk (blk_below BKg6.out hb)
  clear BKg6
  have BKg6 := n_g6
  clear n_g6
  have nHB := Aside0.mk (below_step HB.out hb)
  clear HB
  have HB := nHB
  clear nHB
  clear P5
  clear Q5
  clear hb
  refine hK.out _ _ ⟨(blk_cell BKg6.out 0).trans rfl, (blk_cell BKg6.out 1).trans rfl, (blk_cell BKg1.out 0).trans rfl, (blk_cell BKg1.out 1).trans rfl⟩ (fun hHeld => ?_)
  clear hK K
  refine norm_ (a' := ?_) ?_ ?_
  rotate_left
  · show Act.put _ (some 44) _ = _
    simp only [Act.put, List.setIfInBounds_toArray, List.set_cons_zero, List.set_cons_succ, i64_w, i32_w]
    rfl
  refine pure_ (i := 4) (N := some 45) (v := ?_) (a' := ?_) #[true, true, true, true, true] rfl rfl (by kernel_rfl) (fun _ _ _ h => h) (Or.inl ⟨by rfl, ?_⟩) ?_ ?_
  rotate_left
  · intro w'
    go_simp
    with_reducible rfl
  rotate_left
  · simp only [Act.put, List.setIfInBounds_toArray, List.set_cons_zero, List.set_cons_succ, i64_w, i32_w]
    rfl
  refine done_ (by kernel_rfl) ?_
  have nK := Aside0.mk True.intro
  clear K8
  have K9 := nK
  clear nK
  have hx_g10 : World.cell? _ ⟨g1, 0, none⟩ = some (.slice A0_0 p.length c0_0) := (blk_cell BKg1.out 0).trans rfl
  have hf_g10 := blk_frozen BKg1.out 0
  have hx_g11 : World.cell? _ ⟨g1, 1, none⟩ = some (.slice A0_1 q.length c0_1) := (blk_cell BKg1.out 1).trans rfl
  have hf_g11 := blk_frozen BKg1.out 1
  have hx_g60 : World.cell? _ ⟨g6, 0, none⟩ = some (.slice AP p.length cP) := (blk_cell BKg6.out 0).trans rfl
  have hf_g60 := blk_frozen BKg6.out 0
  have hx_g61 : World.cell? _ ⟨g6, 1, none⟩ = some (.slice AQ q.length cQ) := (blk_cell BKg6.out 1).trans rfl
  have hf_g61 := blk_frozen BKg6.out 1
  go_wp2_with (first
    | (go_at_call 18; have hK := K16.out; (with_reducible refine (held_cut k _ _ r.length _ G m _ HGL.out (by have := HGL.out; have := HN.out; simp only [List.length_append, List.length_drop]; omega) (by rw [← HGL.out, List.take_left]) G_.out FH.out).mono ?_); rintro e w16_ ⟨rfl, hd⟩; clear hK K16; have hb := drawn_below hd; clear hd; clear hx_g10 hf_g10 hx_g11 hf_g11 hx_g60 hf_g60 hx_g61 hf_g61; have n_R4 := Aside0.mk (Kd.R_below R4.out hb); clear R4; have R4 := n_R4; clear n_R4; have n_G_ := Aside0.mk (Kd.R_below G_.out hb); clear G_; have G_ := n_G_; clear n_G_; have n_F2 := Aside0.mk (Kd.R_below F2.out hb); clear F2; have F2 := n_F2; clear n_F2; have n_g1 := Aside0.mk (blk_below BKg1.out hb); clear BKg1; have BKg1 := n_g1; clear n_g1; have n_g6 := Aside0.mk (blk_below BKg6.out hb); clear BKg6; have BKg6 := n_g6; clear n_g6; have nHB := Aside0.mk (below_step HB.out hb); clear HB; have HB := nHB; clear nHB; have K17 := Aside0.mk True.intro; have hx_g10 : World.cell? _ ⟨g1, 0, none⟩ = some (.slice A0_0 p.length c0_0) := (blk_cell BKg1.out 0).trans rfl; have hf_g10 := blk_frozen BKg1.out 0; have hx_g11 : World.cell? _ ⟨g1, 1, none⟩ = some (.slice A0_1 q.length c0_1) := (blk_cell BKg1.out 1).trans rfl; have hf_g11 := blk_frozen BKg1.out 1; have hx_g60 : World.cell? _ ⟨g6, 0, none⟩ = some (.slice AP p.length cP) := (blk_cell BKg6.out 0).trans rfl; have hf_g60 := blk_frozen BKg6.out 0; have hx_g61 : World.cell? _ ⟨g6, 1, none⟩ = some (.slice AQ q.length cQ) := (blk_cell BKg6.out 1).trans rfl; have hf_g61 := blk_frozen BKg6.out 1; clear hb)
    | (go_at_call 14; have hK := K15.out; (with_reducible refine (laws_eqIntS.calls k _ _ r _ _ r true _ (cut_reads2 FR.out rfl HN.out F2.out) (Nat.le_refl _) (Kd.R_reads' R4.out).2.2 (Kd.R_reads' R4.out).2.1 FE.out).mono ?_); rintro e w15_ ⟨rfl, hd⟩; clear hK K15; have hb := drawn_below hd; clear hd; clear hx_g10 hf_g10 hx_g11 hf_g11 hx_g60 hf_g60 hx_g61 hf_g61; have n_R4 := Aside0.mk (Kd.R_below R4.out hb); clear R4; have R4 := n_R4; clear n_R4; have n_G_ := Aside0.mk (Kd.R_below G_.out hb); clear G_; have G_ := n_G_; clear n_G_; have n_F2 := Aside0.mk (Kd.R_below F2.out hb); clear F2; have F2 := n_F2; clear n_F2; have n_g1 := Aside0.mk (blk_below BKg1.out hb); clear BKg1; have BKg1 := n_g1; clear n_g1; have n_g6 := Aside0.mk (blk_below BKg6.out hb); clear BKg6; have BKg6 := n_g6; clear n_g6; have nHB := Aside0.mk (below_step HB.out hb); clear HB; have HB := nHB; clear nHB; have K16 := Aside0.mk True.intro; have hx_g10 : World.cell? _ ⟨g1, 0, none⟩ = some (.slice A0_0 p.length c0_0) := (blk_cell BKg1.out 0).trans rfl; have hf_g10 := blk_frozen BKg1.out 0; have hx_g11 : World.cell? _ ⟨g1, 1, none⟩ = some (.slice A0_1 q.length c0_1) := (blk_cell BKg1.out 1).trans rfl; have hf_g11 := blk_frozen BKg1.out 1; have hx_g60 : World.cell? _ ⟨g6, 0, none⟩ = some (.slice AP p.length cP) := (blk_cell BKg6.out 0).trans rfl; have hf_g60 := blk_frozen BKg6.out 0; have hx_g61 : World.cell? _ ⟨g6, 1, none⟩ = some (.slice AQ q.length cQ) := (blk_cell BKg6.out 1).trans rfl; have hf_g61 := blk_frozen BKg6.out 1; clear hb)
    | (go_at_call 13; have hK := K14.out; (with_reducible refine (impl_ClosedToOpen_told k _ _ p _ _ q full r.length b _ (Kd.R_reads' P7.out).2.2 (Kd.R_reads' P7.out).2.1 (Kd.R_reads' Q7.out).2.2 (Kd.R_reads' Q7.out).2.1 Fi.out).mono ?_); rintro e w14_ ⟨AF2, cF2, rfl, hoF2, hb⟩; clear hK K14; have AP_R4_F2 := Aside0.mk (apart R4.out hoF2); have AP_G__F2 := Aside0.mk (apart G_.out hoF2); have AP_P7_F2 := Aside0.mk (apart P7.out hoF2); have AP_Q7_F2 := Aside0.mk (apart Q7.out hoF2); have q_F2 := Aside0.mk (Kd.R_lower (Kd.R_tight rfl hoF2) HB.out.size); clear hoF2; clear hx_g10 hf_g10 hx_g11 hf_g11 hx_g60 hf_g60 hx_g61 hf_g61; have n_R4 := Aside0.mk (Kd.R_below R4.out hb); clear R4; have R4 := n_R4; clear n_R4; have n_G_ := Aside0.mk (Kd.R_below G_.out hb); clear G_; have G_ := n_G_; clear n_G_; have n_g1 := Aside0.mk (blk_below BKg1.out hb); clear BKg1; have BKg1 := n_g1; clear n_g1; have n_g6 := Aside0.mk (blk_below BKg6.out hb); clear BKg6; have BKg6 := n_g6; clear n_g6; have F2 := q_F2; clear q_F2; have nHB := Aside0.mk (below_step HB.out hb); clear HB; have HB := nHB; clear nHB; clear P7; clear Q7; have K15 := Aside0.mk True.intro; have hx_g10 : World.cell? _ ⟨g1, 0, none⟩ = some (.slice A0_0 p.length c0_0) := (blk_cell BKg1.out 0).trans rfl; have hf_g10 := blk_frozen BKg1.out 0; have hx_g11 : World.cell? _ ⟨g1, 1, none⟩ = some (.slice A0_1 q.length c0_1) := (blk_cell BKg1.out 1).trans rfl; have hf_g11 := blk_frozen BKg1.out 1; have hx_g60 : World.cell? _ ⟨g6, 0, none⟩ = some (.slice AP p.length cP) := (blk_cell BKg6.out 0).trans rfl; have hf_g60 := blk_frozen BKg6.out 0; have hx_g61 : World.cell? _ ⟨g6, 1, none⟩ = some (.slice AQ q.length cQ) := (blk_cell BKg6.out 1).trans rfl; have hf_g61 := blk_frozen BKg6.out 1; clear hb)
    | (go_at_call 12; have hK := K13.out; (with_reducible refine (laws_toMeander.calls k _ _ p _ _ q p q _ (Kd.C_below H0.out HB.out) C0.out (Kd.C_below H1.out HB.out) C1.out FT.out).mono ?_); rintro e w13_ ⟨vP7, vQ7, rfl, hoP7, hoQ7, hb⟩; clear hK K13; obtain ⟨AP7, cP7, eP7⟩ := Kd.R_slice hoP7; subst eP7; obtain ⟨AQ7, cQ7, eQ7⟩ := Kd.R_slice hoQ7; subst eQ7; have AP_R4_P7 := Aside0.mk (apart R4.out hoP7); have AP_G__P7 := Aside0.mk (apart G_.out hoP7); have AP_R4_Q7 := Aside0.mk (apart R4.out hoQ7); have AP_G__Q7 := Aside0.mk (apart G_.out hoQ7); have AP_P7_Q7 := Aside0.mk (apart2 hoP7); have q_P7 := Aside0.mk (Kd.R_lower (Kd.R_tight rfl hoP7) HB.out.size); clear hoP7; have q_Q7 := Aside0.mk (Kd.R_lower (Kd.R_tight rfl hoQ7) HB.out.size); clear hoQ7; clear hx_g10 hf_g10 hx_g11 hf_g11 hx_g60 hf_g60 hx_g61 hf_g61; have n_R4 := Aside0.mk (Kd.R_below R4.out hb); clear R4; have R4 := n_R4; clear n_R4; have n_G_ := Aside0.mk (Kd.R_below G_.out hb); clear G_; have G_ := n_G_; clear n_G_; have n_g1 := Aside0.mk (blk_below BKg1.out hb); clear BKg1; have BKg1 := n_g1; clear n_g1; have n_g6 := Aside0.mk (blk_below BKg6.out hb); clear BKg6; have BKg6 := n_g6; clear n_g6; have P7 := q_P7; clear q_P7; have Q7 := q_Q7; clear q_Q7; have nHB := Aside0.mk (below_step HB.out hb); clear HB; have HB := nHB; clear nHB; have K14 := Aside0.mk True.intro; have hx_g10 : World.cell? _ ⟨g1, 0, none⟩ = some (.slice A0_0 p.length c0_0) := (blk_cell BKg1.out 0).trans rfl; have hf_g10 := blk_frozen BKg1.out 0; have hx_g11 : World.cell? _ ⟨g1, 1, none⟩ = some (.slice A0_1 q.length c0_1) := (blk_cell BKg1.out 1).trans rfl; have hf_g11 := blk_frozen BKg1.out 1; have hx_g60 : World.cell? _ ⟨g6, 0, none⟩ = some (.slice AP p.length cP) := (blk_cell BKg6.out 0).trans rfl; have hf_g60 := blk_frozen BKg6.out 0; have hx_g61 : World.cell? _ ⟨g6, 1, none⟩ = some (.slice AQ q.length cQ) := (blk_cell BKg6.out 1).trans rfl; have hf_g61 := blk_frozen BKg6.out 1; clear hb)
    | (go_at_call 18; have hK := K12.out; (with_reducible refine (held_cut k _ _ r.length _ G m _ HGL.out (by have := HGL.out; have := HN.out; simp only [List.length_append, List.length_drop]; omega) (by rw [← HGL.out, List.take_left]) G_.out FH.out).mono ?_); rintro e w12_ ⟨rfl, hd⟩; clear hK K12; have hb := drawn_below hd; clear hd; clear hx_g10 hf_g10 hx_g11 hf_g11 hx_g60 hf_g60 hx_g61 hf_g61; have n_R4 := Aside0.mk (Kd.R_below R4.out hb); clear R4; have R4 := n_R4; clear n_R4; have n_G_ := Aside0.mk (Kd.R_below G_.out hb); clear G_; have G_ := n_G_; clear n_G_; have n_g1 := Aside0.mk (blk_below BKg1.out hb); clear BKg1; have BKg1 := n_g1; clear n_g1; have n_g6 := Aside0.mk (blk_below BKg6.out hb); clear BKg6; have BKg6 := n_g6; clear n_g6; have nHB := Aside0.mk (below_step HB.out hb); clear HB; have HB := nHB; clear nHB; have K13 := Aside0.mk True.intro; have hx_g10 : World.cell? _ ⟨g1, 0, none⟩ = some (.slice A0_0 p.length c0_0) := (blk_cell BKg1.out 0).trans rfl; have hf_g10 := blk_frozen BKg1.out 0; have hx_g11 : World.cell? _ ⟨g1, 1, none⟩ = some (.slice A0_1 q.length c0_1) := (blk_cell BKg1.out 1).trans rfl; have hf_g11 := blk_frozen BKg1.out 1; have hx_g60 : World.cell? _ ⟨g6, 0, none⟩ = some (.slice AP p.length cP) := (blk_cell BKg6.out 0).trans rfl; have hf_g60 := blk_frozen BKg6.out 0; have hx_g61 : World.cell? _ ⟨g6, 1, none⟩ = some (.slice AQ q.length cQ) := (blk_cell BKg6.out 1).trans rfl; have hf_g61 := blk_frozen BKg6.out 1; clear hb)
    | (go_at_call 17; have hK := K11.out; (with_reducible refine (markIntS_cut k (fun k_ => some k_ = (Value.slice AF full.length cF).ownBlock) AF cF r.length full HN.out 1 m G w _ HB.out F.out FMc.out).mono ?_); rintro e w11_ ⟨rfl, hoG, hb, hkp⟩; clear hK K11; have q_G_ := Aside0.mk (Kd.R_tight rfl (grow_len HGL.out HN.out hoG)); clear hoG; clear hx_g10 hf_g10 hx_g11 hf_g11 hx_g60 hf_g60 hx_g61 hf_g61; have n_R4 := Aside0.mk (Kd.R_step R4.out (fun k hk hlt => hkp.2 k hlt (AP_R4_F.out k hk))); clear R4; have R4 := n_R4; clear n_R4; have n_g1 := Aside0.mk (kept_box BKg1.out hkp (fun k e hk => (Kd.R_ne F.out BKg1.out (by decide)) (hk ▸ e))); clear BKg1; have BKg1 := n_g1; clear n_g1; have n_g6 := Aside0.mk (kept_box BKg6.out hkp (fun k e hk => (Kd.R_ne F.out BKg6.out (by decide)) (hk ▸ e))); clear BKg6; have BKg6 := n_g6; clear n_g6; clear hkp; have G_ := q_G_; clear q_G_; have nHB := Aside0.mk (hb); clear HB; have HB := nHB; clear nHB; clear F; have K12 := Aside0.mk True.intro; have hx_g10 : World.cell? _ ⟨g1, 0, none⟩ = some (.slice A0_0 p.length c0_0) := (blk_cell BKg1.out 0).trans rfl; have hf_g10 := blk_frozen BKg1.out 0; have hx_g11 : World.cell? _ ⟨g1, 1, none⟩ = some (.slice A0_1 q.length c0_1) := (blk_cell BKg1.out 1).trans rfl; have hf_g11 := blk_frozen BKg1.out 1; have hx_g60 : World.cell? _ ⟨g6, 0, none⟩ = some (.slice AP p.length cP) := (blk_cell BKg6.out 0).trans rfl; have hf_g60 := blk_frozen BKg6.out 0; have hx_g61 : World.cell? _ ⟨g6, 1, none⟩ = some (.slice AQ q.length cQ) := (blk_cell BKg6.out 1).trans rfl; have hf_g61 := blk_frozen BKg6.out 1; clear hb)
    | (go_at_call 14; have hK := K10.out; (with_reducible refine (laws_eqIntS.calls k _ _ r _ _ r true _ (cut_reads2 FR.out rfl HN.out F.out) (Nat.le_refl _) (Kd.R_reads' R4.out).2.2 (Kd.R_reads' R4.out).2.1 FE.out).mono ?_); rintro e w10_ ⟨rfl, hd⟩; clear hK K10; have hb := drawn_below hd; clear hd; clear hx_g10 hf_g10 hx_g11 hf_g11 hx_g60 hf_g60 hx_g61 hf_g61; have n_R4 := Aside0.mk (Kd.R_below R4.out hb); clear R4; have R4 := n_R4; clear n_R4; have n_F := Aside0.mk (Kd.R_below F.out hb); clear F; have F := n_F; clear n_F; have n_g1 := Aside0.mk (blk_below BKg1.out hb); clear BKg1; have BKg1 := n_g1; clear n_g1; have n_g6 := Aside0.mk (blk_below BKg6.out hb); clear BKg6; have BKg6 := n_g6; clear n_g6; have nHB := Aside0.mk (below_step HB.out hb); clear HB; have HB := nHB; clear nHB; have K11 := Aside0.mk True.intro; have hx_g10 : World.cell? _ ⟨g1, 0, none⟩ = some (.slice A0_0 p.length c0_0) := (blk_cell BKg1.out 0).trans rfl; have hf_g10 := blk_frozen BKg1.out 0; have hx_g11 : World.cell? _ ⟨g1, 1, none⟩ = some (.slice A0_1 q.length c0_1) := (blk_cell BKg1.out 1).trans rfl; have hf_g11 := blk_frozen BKg1.out 1; have hx_g60 : World.cell? _ ⟨g6, 0, none⟩ = some (.slice AP p.length cP) := (blk_cell BKg6.out 0).trans rfl; have hf_g60 := blk_frozen BKg6.out 0; have hx_g61 : World.cell? _ ⟨g6, 1, none⟩ = some (.slice AQ q.length cQ) := (blk_cell BKg6.out 1).trans rfl; have hf_g61 := blk_frozen BKg6.out 1; clear hb)
    | (go_at_call 16; have hK := K9.out; (with_reducible refine (laws_markMeander.calls k (fun k_ => some k_ = (.slice AP p.length cP : Value).ownBlock) _ p (fun k_ => some k_ = (.slice AQ q.length cQ : Value).ownBlock) _ q 1 k1 X Y w _ HB.out P.out AP_P_Q.out Q.out (swap_ap AP_P_Q.out) FMM.out).mono ?_); rintro e w9_ ⟨rfl, hoX, hoY, hb, hkp⟩; clear hK K9; clear hx_g10 hf_g10 hx_g11 hf_g11 hx_g60 hf_g60 hx_g61 hf_g61; have n_R4 := Aside0.mk (Kd.R_step R4.out (fun k hk hlt => hkp.2 k hlt (fun e => e.elim (AP_R4_P.out k hk) (AP_R4_Q.out k hk)))); clear R4; have R4 := n_R4; clear n_R4; have n_F := Aside0.mk (Kd.R_step F.out (fun k hk hlt => hkp.2 k hlt (fun e => e.elim (fun e => AP_P_F.out k e hk) (fun e => AP_Q_F.out k e hk)))); clear F; have F := n_F; clear n_F; have n_g1 := Aside0.mk (kept_box BKg1.out hkp (fun k e hk => e.elim (fun e => (Kd.R_ne P.out BKg1.out (by decide)) (hk ▸ e)) (fun e => (Kd.R_ne Q.out BKg1.out (by decide)) (hk ▸ e)))); clear BKg1; have BKg1 := n_g1; clear n_g1; have n_g6 := Aside0.mk (kept_box BKg6.out hkp (fun k e hk => e.elim (fun e => (Kd.R_ne P.out BKg6.out (by decide)) (hk ▸ e)) (fun e => (Kd.R_ne Q.out BKg6.out (by decide)) (hk ▸ e)))); clear BKg6; have BKg6 := n_g6; clear n_g6; clear hoX hoY hkp; have nHB := Aside0.mk (hb); clear HB; have HB := nHB; clear nHB; clear P; clear Q; have K10 := Aside0.mk True.intro; have hx_g10 : World.cell? _ ⟨g1, 0, none⟩ = some (.slice A0_0 p.length c0_0) := (blk_cell BKg1.out 0).trans rfl; have hf_g10 := blk_frozen BKg1.out 0; have hx_g11 : World.cell? _ ⟨g1, 1, none⟩ = some (.slice A0_1 q.length c0_1) := (blk_cell BKg1.out 1).trans rfl; have hf_g11 := blk_frozen BKg1.out 1; have hx_g60 : World.cell? _ ⟨g6, 0, none⟩ = some (.slice AP p.length cP) := (blk_cell BKg6.out 0).trans rfl; have hf_g60 := blk_frozen BKg6.out 0; have hx_g61 : World.cell? _ ⟨g6, 1, none⟩ = some (.slice AQ q.length cQ) := (blk_cell BKg6.out 1).trans rfl; have hf_g61 := blk_frozen BKg6.out 1; clear hb))
  go_ret
  exact ⟨rfl, HB.out⟩
def laws_FnExactClosedToOpen.Pure : Prop := ∀ (p : List Int) (q : List Int), p.length ≤ maxLen → (∀ x ∈ p, (Lit.int .i64 x).wf = true) → q.length ≤ maxLen → (∀ x ∈ q, (Lit.int .i64 x).wf = true) → ∃ k, (∃ left, laws_szMeander.f p q 1048576 = some left ∧ left < 0) ∨ laws_FnExactClosedToOpen.Told k p q
theorem laws_FnExactClosedToOpen.walk (P : laws_FnExactClosedToOpen.Pure) (a0_0 : Option Addr) (len0_0 cap0_0 : Nat) (z0_0 : List Int) (a0_1 : Option Addr) (len0_1 cap0_1 : Nat) (z0_1 : List Int) (w : World) (w0_0 : (a0_0 = none ∧ len0_0 = 0 ∧ cap0_0 = 0 ∧ z0_0 = []) ∨ ∃ x, a0_0 = some x ∧ len0_0 ≤ cap0_0 ∧ cap0_0 ≤ maxLen ∧ z0_0.length = cap0_0 ∧ (∀ i, i < z0_0.length → w.cell? (x.add i) = some (.int .i64 (z0_0.getD i 0))) ∧ ∀ n ∈ z0_0, (Lit.int .i64 n).wf = true) (w0_1 : (a0_1 = none ∧ len0_1 = 0 ∧ cap0_1 = 0 ∧ z0_1 = []) ∨ ∃ x, a0_1 = some x ∧ len0_1 ≤ cap0_1 ∧ cap0_1 ≤ maxLen ∧ z0_1.length = cap0_1 ∧ (∀ i, i < z0_1.length → w.cell? (x.add i) = some (.int .i64 (z0_1.getD i 0))) ∧ ∀ n ∈ z0_1, (Lit.int .i64 n).wf = true) :
    Calls Try.prog 3 #[.agg #[.slice a0_0 len0_0 cap0_0, .slice a0_1 len0_1 cap0_1]] w fun e w' => e = .returned (.bool true) ∧ Below w.heap.size w w' := by
  obtain ⟨l0_0, rfl, hr0_0, hm0_0, hw0_0, hc0_0⟩ := ReadsInt.ofRowC w0_0
  obtain ⟨l0_1, rfl, hr0_1, hm0_1, hw0_1, hc0_1⟩ := ReadsInt.ofRowC w0_1
  obtain ⟨k, h⟩ := P l0_0 l0_1 hm0_0 hw0_0 hm0_1 hw0_1
  refine (laws_FnExactClosedToOpen.calls k _ _ l0_0 _ _ l0_1 w (Kd.C_of_reads (d := (0 : Int)) (h1 := fun _ => rfl) hr0_0) hc0_0 (Kd.C_of_reads (d := (0 : Int)) (h1 := fun _ => rfl) hr0_1) hc0_1 h).mono ?_
  rintro e w' ⟨rfl, hd⟩
  exact ⟨rfl, hd⟩
end Go.Proofs.Yteflkoghligofaa.C
