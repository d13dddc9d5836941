/- The law FnExactApplyTable, walked by hand over our printed contracts: the print hands only flat rows to what writes them. -/
import Derived.Test.YtoblagangofflaaHRowsArg
import Derived.Test.YtoblagangofflaaT1
import Derived.Test.YtoblagangofflaaT2
import Derived.Test.YtoblagangofflaaT3
import Derived.Test.YtoblagangofflaaT4
set_option linter.unusedVariables false
namespace Go.Proofs.Ytoblagangofflaa.T
open Go.RowKit Go.Proofs.YtoblagangofflaaW.PrintWords Go.Proofs.YtoblagangofflaaW.PrintLast Go.Proofs.YtoblagangofflaaW.PrintMore
theorem drawn_below {w w' : World} (h : Drawn0 w w') : Below w.heap.size w w' := by
  obtain ⟨nd, rfl⟩ := h
  exact pw_below_drewN (Below.refl _ _) nd
theorem told {α : Type} {d : Kd α} {e base : Nat} {w : World} {v : Value} {xs : List α} (h : Kd.S d e w base (fun _ => True) v xs) : Kd.S d e w base (fun k => base ≤ k ∧ k < w.heap.size) v xs :=
  Kd.S_mono (Kd.S_bound h) (fun _ hk => ⟨hk.2.1, hk.2.2.1⟩)
theorem toldR {α : Type} {d : Kd α} {e base : Nat} {w : World} {v : Value} {xs : List α} (h : d.R e w base (fun _ => True) v xs) : d.R e w base (fun k => base ≤ k ∧ k < w.heap.size) v xs :=
  Kd.R_mono (Kd.R_bound h) (fun _ hk => ⟨hk.2.1, hk.2.2.1⟩)
theorem ne_lo {a b c d k : Nat} (hk : a ≤ k ∧ k < b) (h : b ≤ c) : ¬ (c ≤ k ∧ k < d) := fun e => Nat.lt_irrefl _ (Nat.lt_of_lt_of_le hk.2 (Nat.le_trans h e.1))
theorem ne_hi {a b c d k : Nat} (hk : a ≤ k ∧ k < b) (h : d ≤ a) : ¬ (c ≤ k ∧ k < d) := fun e => Nat.lt_irrefl _ (Nat.lt_of_lt_of_le e.2 (Nat.le_trans h hk.1))
theorem held_told (k : Nat) (A : Option Addr) (c n : Nat) (G : List Int) (m : Int) (W : World) {base : Nat} {ok : Nat → Prop} (hR : Kd.R (Kd.int .i64) 3 W base ok (.slice A n c) G) (h : laws_heldIntS.f k G 1 = some m) :
    Calls Try.prog 23 #[.slice A n c, .int .i64 1] W fun e w' => e = .returned (.int .i64 m) ∧ Drawn0 W w' := by
  obtain ⟨rfl, h1, h2⟩ := Kd.R_reads' hR
  exact laws_heldIntS.calls k A c G 1 m W h2 h1 h
/-- what the law asks for, as plain lists tell it -/
structure laws_FnExactApplyTable.Told (k : Nat) (l0 : List (List Int)) (l1 : List Int) : Prop where
  ok : ∃ (r : List Int) (b : Bool) (k1 k2 m left : Int) (X0 : List (List Int)) (X1 G : List Int),
    laws_szIntSS.f k l0 1048576 = some left ∧ 0 ≤ left ∧ spec_ApplyTable.f k l0 l1 = some (r, b) ∧ impl_ApplyTable.f k l0 l1 = some (r, b) ∧ laws_toIntSS.f k l0 = some l0 ∧ laws_toIntS.f k l1 = some l1 ∧
    laws_eqIntS.f k r r = some true ∧ laws_eqIntSS.f k l0 l0 = some true ∧ laws_eqIntS.f k l1 l1 = some true ∧ laws_markIntSS.f k l0 1 = some (k1, X0) ∧ laws_markIntS.f k l1 k1 = some (k2, X1) ∧ 0 ≤ k2 ∧ laws_markIntS.f k r 1 = some (m, G) ∧ 0 ≤ m ∧ laws_heldIntS.f k G 1 = some m
set_option maxHeartbeats 16000000 in
set_option maxRecDepth 100000 in
theorem laws_FnExactApplyTable.calls (k : Nat) (A0 : Option Addr) (c0 : Nat) (l0 : List (List Int)) (A1 : Option Addr) (c1 : Nat) (l1 : List Int) (w : World) (hr0 : Kd.C (Kd.slice 3 (Kd.int .i64)) w A0 l0.length l0) (hc0 : l0.length ≤ c0) (hr1 : Kd.C (Kd.int .i64) w A1 l1.length l1) (hc1 : l1.length ≤ c1)
    (h : (l1.length : Int) > 1048576 ∨ (∃ left, laws_szIntSS.f k l0 1048576 = some left ∧ left < 0) ∨ laws_FnExactApplyTable.Told k l0 l1) :
    Calls Try.prog 7 #[.slice A0 l0.length c0, .slice A1 l1.length c1] w fun e w' => e = .returned (.bool true) ∧ Below w.heap.size w w' := by
  by_cases hlen : (1048576 : Int) < (l1.length : Int)
  · have c2b0 : decide ((1048576 : Int) < (l1.length : Int)) = true := decide_eq_true hlen
    clear h
    go_enter Try.func7, Try.ntmps7
    go_wp2
    go_ret
    exact ⟨rfl, Below.refl _ _⟩
  have c2b0 : decide ((1048576 : Int) < (l1.length : Int)) = false := decide_eq_false hlen
  have h := h.resolve_left hlen
  have K0 := Aside0.mk True.intro
  have HR0 := Aside0.mk hr0
  have HC0 := Aside0.mk hc0
  have HR1 := Aside0.mk hr1
  have HC1 := Aside0.mk hc1
  have HB := Aside0.mk (Below.refl w.heap.size w)
  clear hr0 hc0 hr1 hc1 hlen
  rcases h with ⟨left, hz, hneg⟩ | h
  · have FZ := Aside0.mk hz
    have c3b0 : decide (left < 0) = true := decide_eq_true hneg
    clear hz hneg
    go_enter Try.func7, Try.ntmps7
    go_wp2_with (go_at_call 24; (with_reducible refine (laws_szIntSS.calls k _ _ l0 1048576 left _ HR0.out HC0.out FZ.out).mono ?_); rintro e w1 ⟨rfl, hd⟩; have B1 := Aside0.mk (drawn_below hd); clear hd HB; have HB := B1; clear B1)
    go_ret
    exact ⟨rfl, HB.out⟩
  obtain ⟨r, b, k1, k2, m, left, X0, X1, G, hz, hz0, hs, hi, hTS, hT, hE, hES, hE1, hMS, hM1, hk2, hM, hm, hH⟩ := h.ok
  have c3b0 : decide (left < 0) = false := decide_eq_false (by omega)
  have c4b0 : decide (k2 < 0) = false := decide_eq_false (by omega)
  have c5b0 : decide (m < 0) = false := decide_eq_false (by omega)
  have c6b0 : (b != b) = false := bne_self_eq_false b
  clear h hz0 hk2 hm
  have FZ := Aside0.mk hz
  have Fs := Aside0.mk hs
  have Fi := Aside0.mk hi
  have FTS := Aside0.mk hTS
  have FT := Aside0.mk hT
  have FE := Aside0.mk hE
  have FES := Aside0.mk hES
  have FE1 := Aside0.mk hE1
  have FMS := Aside0.mk hMS
  have FM1 := Aside0.mk hM1
  have FM := Aside0.mk hM
  have FH := Aside0.mk hH
  clear hz hs hi hTS hT hE hES hE1 hMS hM1 hM hH
  go_enter Try.func7, Try.ntmps7
  go_wp2_with (first
    | (go_at_call 23; have hK := K21.out; (with_reducible refine (held_told k _ _ _ G m _ RG.out FH.out).mono ?_); rintro e w21_ ⟨rfl, hd⟩; clear hK K21; have hb := drawn_below hd; clear hd; have nR2 := Aside0.mk (Kd.R_below R2.out hb); clear R2; have R2 := nR2; clear nR2; have nRG := Aside0.mk (Kd.R_below RG.out hb); clear RG; have RG := nRG; clear nRG; have nR62 := Aside0.mk (Kd.R_below R62.out hb); clear R62; have R62 := nR62; clear nR62; have nHB := Aside0.mk (below_step HB.out hb); clear HB; have HB := nHB; clear nHB; have K22 := Aside0.mk True.intro; clear hb)
    | (go_at_call 21; have hK := K20.out; (with_reducible refine (laws_eqIntS.calls k _ _ r _ _ r true _ (Kd.R_reads' R62.out).2.2 (Kd.R_reads' R62.out).2.1 (Kd.R_reads' R2.out).2.2 (Kd.R_reads' R2.out).2.1 FE.out).mono ?_); rintro e w20_ ⟨rfl, hd⟩; clear hK K20; have hb := drawn_below hd; clear hd; have nR2 := Aside0.mk (Kd.R_below R2.out hb); clear R2; have R2 := nR2; clear nR2; have nRG := Aside0.mk (Kd.R_below RG.out hb); clear RG; have RG := nRG; clear nRG; have nR62 := Aside0.mk (Kd.R_below R62.out hb); clear R62; have R62 := nR62; clear nR62; have nHB := Aside0.mk (below_step HB.out hb); clear HB; have HB := nHB; clear nHB; have K21 := Aside0.mk True.intro; clear hb)
    | (go_at_call 28; have hK := K19.out; (with_reducible refine (impl_ApplyTable.calls k _ _ l0 _ _ l1 r b _ (Kd.S_reads' S60.out).2.2 (Kd.S_reads' S60.out).2.1 (Kd.R_reads' R61.out).2.2 (Kd.R_reads' R61.out).2.1 Fi.out).mono ?_); rintro e w19_ ⟨vR62, rfl, ho, hb⟩; clear hK K19; obtain ⟨AR62, cR62, rfl⟩ := Kd.R_slice ho; have nR2 := Aside0.mk (Kd.R_below R2.out hb); clear R2; have R2 := nR2; clear nR2; have nRG := Aside0.mk (Kd.R_below RG.out hb); clear RG; have RG := nRG; clear nRG; have nHB := Aside0.mk (below_step HB.out hb); clear HB; have HB := nHB; clear nHB; have R62 := Aside0.mk (toldR ho); clear ho; clear S60; clear R61; have K20 := Aside0.mk True.intro; clear hb)
    | (go_at_call 27; have hK := K18.out; (with_reducible refine (laws_toIntS.calls k _ _ l1 l1 _ (Kd.C_below HR1.out HB.out) HC1.out FT.out).mono ?_); rintro e w18_ ⟨vR61, rfl, ho, hb⟩; clear hK K18; obtain ⟨AR61, cR61, rfl⟩ := Kd.R_slice ho; have nR2 := Aside0.mk (Kd.R_below R2.out hb); clear R2; have R2 := nR2; clear nR2; have nRG := Aside0.mk (Kd.R_below RG.out hb); clear RG; have RG := nRG; clear nRG; have nS60 := Aside0.mk (Kd.S_below S60.out hb); clear S60; have S60 := nS60; clear nS60; have nHB := Aside0.mk (below_step HB.out hb); clear HB; have HB := nHB; clear nHB; have R61 := Aside0.mk (ho); clear ho; have K19 := Aside0.mk True.intro; clear hb)
    | (go_at_call 26; have hK := K17.out; (with_reducible refine (laws_toIntSS.calls k _ _ l0 l0 _ (Kd.C_below HR0.out HB.out) HC0.out FTS.out).mono ?_); rintro e w17_ ⟨vS60, rfl, ho, hb⟩; clear hK K17; obtain ⟨AS60, cS60, rfl⟩ := Kd.S_slice ho; have nR2 := Aside0.mk (Kd.R_below R2.out hb); clear R2; have R2 := nR2; clear nR2; have nRG := Aside0.mk (Kd.R_below RG.out hb); clear RG; have RG := nRG; clear nRG; have nHB := Aside0.mk (below_step HB.out hb); clear HB; have HB := nHB; clear nHB; have S60 := Aside0.mk (ho); clear ho; have K18 := Aside0.mk True.intro; clear hb)
    | (go_at_call 23; have hK := K16.out; (with_reducible refine (held_told k _ _ _ G m _ RG.out FH.out).mono ?_); rintro e w16_ ⟨rfl, hd⟩; clear hK K16; have hb := drawn_below hd; clear hd; have nR2 := Aside0.mk (Kd.R_below R2.out hb); clear R2; have R2 := nR2; clear nR2; have nRG := Aside0.mk (Kd.R_below RG.out hb); clear RG; have RG := nRG; clear nRG; have nHB := Aside0.mk (below_step HB.out hb); clear HB; have HB := nHB; clear nHB; have K17 := Aside0.mk True.intro; clear hb)
    | (go_at_call 22; have hK := K15.out; (with_reducible refine (laws_markIntS.calls k _ _ r 1 m G w _ HB.out (Kd.R_lower R10.out Z5.out) FM.out).mono ?_); rintro e w15_ ⟨rfl, ho, hb, hkp⟩; clear hK K15; have nR2 := Aside0.mk (Kd.R_step R2.out (fun k hk hlt => hkp.2 k hlt (ne_lo hk (Nat.le_trans ZS8.out ZR9.out)))); clear R2; have R2 := nR2; clear nR2; have nHB := Aside0.mk (hb); clear HB; have HB := nHB; clear nHB; have RG := Aside0.mk ho; clear ho hkp; clear R10; have K16 := Aside0.mk True.intro; clear hb)
    | (go_at_call 21; have hK := K14.out; (with_reducible refine (laws_eqIntS.calls k _ _ r _ _ r true _ (Kd.R_reads' R10.out).2.2 (Kd.R_reads' R10.out).2.1 (Kd.R_reads' R2.out).2.2 (Kd.R_reads' R2.out).2.1 FE.out).mono ?_); rintro e w14_ ⟨rfl, hd⟩; clear hK K14; have hb := drawn_below hd; clear hd; have nR2 := Aside0.mk (Kd.R_below R2.out hb); clear R2; have R2 := nR2; clear nR2; have nR10 := Aside0.mk (Kd.R_below R10.out hb); clear R10; have R10 := nR10; clear nR10; have nHB := Aside0.mk (below_step HB.out hb); clear HB; have HB := nHB; clear nHB; have K15 := Aside0.mk True.intro; clear hb)
    | (go_at_call 22; have hK := K13.out; (with_reducible refine (laws_markIntS.calls k _ _ l1 k1 k2 X1 w _ HB.out (Kd.R_lower R9.out Z4.out) FM1.out).mono ?_); rintro e w13_ ⟨rfl, ho, hb, hkp⟩; clear hK K13; have nR2 := Aside0.mk (Kd.R_step R2.out (fun k hk hlt => hkp.2 k hlt (ne_lo hk ZS8.out))); clear R2; have R2 := nR2; clear nR2; have nR10 := Aside0.mk (Kd.R_step R10.out (fun k hk hlt => hkp.2 k hlt (ne_hi hk (Nat.le_refl _)))); clear R10; have R10 := nR10; clear nR10; have nHB := Aside0.mk (hb); clear HB; have HB := nHB; clear nHB; clear ho hkp; clear R9; have K14 := Aside0.mk True.intro; clear hb)
    | (go_at_call 30; have hK := K12.out; (with_reducible refine (laws_markIntSS.calls k _ _ l0 1 k1 X0 w _ HB.out (Kd.S_lower S8.out Z3.out) FMS.out).mono ?_); rintro e w12_ ⟨rfl, ho, hb, hkp⟩; clear hK K12; have nR2 := Aside0.mk (Kd.R_step R2.out (fun k hk hlt => hkp.2 k hlt (ne_lo hk (Nat.le_refl _)))); clear R2; have R2 := nR2; clear nR2; have nR9 := Aside0.mk (Kd.R_step R9.out (fun k hk hlt => hkp.2 k hlt (ne_hi hk (Nat.le_refl _)))); clear R9; have R9 := nR9; clear nR9; have nR10 := Aside0.mk (Kd.R_step R10.out (fun k hk hlt => hkp.2 k hlt (ne_hi hk ZR9.out))); clear R10; have R10 := nR10; clear nR10; have nHB := Aside0.mk (hb); clear HB; have HB := nHB; clear nHB; clear ho hkp; clear S8; have K13 := Aside0.mk True.intro; clear hb)
    | (go_at_call 21; have hK := K11.out; (with_reducible refine (laws_eqIntS.calls k _ _ l1 _ _ l1 true _ (Kd.R_reads' R9.out).2.2 (Kd.R_reads' R9.out).2.1 (Kd.R_reads' R59.out).2.2 (Kd.R_reads' R59.out).2.1 FE1.out).mono ?_); rintro e w11_ ⟨rfl, hd⟩; clear hK K11; have hb := drawn_below hd; clear hd; have nR2 := Aside0.mk (Kd.R_below R2.out hb); clear R2; have R2 := nR2; clear nR2; have nS8 := Aside0.mk (Kd.S_below S8.out hb); clear S8; have S8 := nS8; clear nS8; have nR9 := Aside0.mk (Kd.R_below R9.out hb); clear R9; have R9 := nR9; clear nR9; have nR10 := Aside0.mk (Kd.R_below R10.out hb); clear R10; have R10 := nR10; clear nR10; have nHB := Aside0.mk (below_step HB.out hb); clear HB; have HB := nHB; clear nHB; clear R59; have K12 := Aside0.mk True.intro; clear hb)
    | (go_at_call 27; have hK := K10.out; (with_reducible refine (laws_toIntS.calls k _ _ l1 l1 _ (Kd.C_below HR1.out HB.out) HC1.out FT.out).mono ?_); rintro e w10_ ⟨vR59, rfl, ho, hb⟩; clear hK K10; obtain ⟨AR59, cR59, rfl⟩ := Kd.R_slice ho; have nR2 := Aside0.mk (Kd.R_below R2.out hb); clear R2; have R2 := nR2; clear nR2; have nS8 := Aside0.mk (Kd.S_below S8.out hb); clear S8; have S8 := nS8; clear nS8; have nR9 := Aside0.mk (Kd.R_below R9.out hb); clear R9; have R9 := nR9; clear nR9; have nR10 := Aside0.mk (Kd.R_below R10.out hb); clear R10; have R10 := nR10; clear nR10; have nHB := Aside0.mk (below_step HB.out hb); clear HB; have HB := nHB; clear nHB; have R59 := Aside0.mk (ho); clear ho; have K11 := Aside0.mk True.intro; clear hb)
    | (go_at_call 29; have hK := K9.out; (with_reducible refine (laws_eqIntSS.calls k _ _ l0 _ _ l0 true _ (Kd.S_reads' S8.out).2.2 (Kd.S_reads' S8.out).2.1 (Kd.S_reads' S54.out).2.2 (Kd.S_reads' S54.out).2.1 FES.out).mono ?_); rintro e w9_ ⟨rfl, hd⟩; clear hK K9; have hb := drawn_below hd; clear hd; have nR2 := Aside0.mk (Kd.R_below R2.out hb); clear R2; have R2 := nR2; clear nR2; have nS8 := Aside0.mk (Kd.S_below S8.out hb); clear S8; have S8 := nS8; clear nS8; have nR9 := Aside0.mk (Kd.R_below R9.out hb); clear R9; have R9 := nR9; clear nR9; have nR10 := Aside0.mk (Kd.R_below R10.out hb); clear R10; have R10 := nR10; clear nR10; have nHB := Aside0.mk (below_step HB.out hb); clear HB; have HB := nHB; clear nHB; clear S54; have K10 := Aside0.mk True.intro; clear hb)
    | (go_at_call 26; have hK := K8.out; (with_reducible refine (laws_toIntSS.calls k _ _ l0 l0 _ (Kd.C_below HR0.out HB.out) HC0.out FTS.out).mono ?_); rintro e w8_ ⟨vS54, rfl, ho, hb⟩; clear hK K8; obtain ⟨AS54, cS54, rfl⟩ := Kd.S_slice ho; have nR2 := Aside0.mk (Kd.R_below R2.out hb); clear R2; have R2 := nR2; clear nR2; have nS8 := Aside0.mk (Kd.S_below S8.out hb); clear S8; have S8 := nS8; clear nS8; have nR9 := Aside0.mk (Kd.R_below R9.out hb); clear R9; have R9 := nR9; clear nR9; have nR10 := Aside0.mk (Kd.R_below R10.out hb); clear R10; have R10 := nR10; clear nR10; have nHB := Aside0.mk (below_step HB.out hb); clear HB; have HB := nHB; clear nHB; have S54 := Aside0.mk (ho); clear ho; have K9 := Aside0.mk True.intro; clear hb)
    | (go_at_call 21; have hK := K7.out; (with_reducible refine (laws_eqIntS.calls k _ _ r _ _ r true _ (Kd.R_reads' R10.out).2.2 (Kd.R_reads' R10.out).2.1 (Kd.R_reads' R2.out).2.2 (Kd.R_reads' R2.out).2.1 FE.out).mono ?_); rintro e w7_ ⟨rfl, hd⟩; clear hK K7; have hb := drawn_below hd; clear hd; have nR2 := Aside0.mk (Kd.R_below R2.out hb); clear R2; have R2 := nR2; clear nR2; have nS8 := Aside0.mk (Kd.S_below S8.out hb); clear S8; have S8 := nS8; clear nS8; have nR9 := Aside0.mk (Kd.R_below R9.out hb); clear R9; have R9 := nR9; clear nR9; have nR10 := Aside0.mk (Kd.R_below R10.out hb); clear R10; have R10 := nR10; clear nR10; have nHB := Aside0.mk (below_step HB.out hb); clear HB; have HB := nHB; clear nHB; have K8 := Aside0.mk True.intro; clear hb)
    | (go_at_call 28; have hK := K6.out; (with_reducible refine (impl_ApplyTable.calls k _ _ l0 _ _ l1 r b _ (Kd.S_reads' S8.out).2.2 (Kd.S_reads' S8.out).2.1 (Kd.R_reads' R9.out).2.2 (Kd.R_reads' R9.out).2.1 Fi.out).mono ?_); rintro e w6_ ⟨vR10, rfl, ho, hb⟩; clear hK K6; obtain ⟨AR10, cR10, rfl⟩ := Kd.R_slice ho; have nR2 := Aside0.mk (Kd.R_below R2.out hb); clear R2; have R2 := nR2; clear nR2; have nS8 := Aside0.mk (Kd.S_below S8.out hb); clear S8; have S8 := nS8; clear nS8; have nR9 := Aside0.mk (Kd.R_below R9.out hb); clear R9; have R9 := nR9; clear nR9; have nHB := Aside0.mk (below_step HB.out hb); clear HB; have HB := nHB; clear nHB; have R10 := Aside0.mk (toldR ho); clear ho; have K7 := Aside0.mk True.intro; clear hb)
    | (go_at_call 27; have hK := K5.out; (with_reducible refine (laws_toIntS.calls k _ _ l1 l1 _ (Kd.C_below HR1.out HB.out) HC1.out FT.out).mono ?_); rintro e w5_ ⟨vR9, rfl, ho, hb⟩; clear hK K5; obtain ⟨AR9, cR9, rfl⟩ := Kd.R_slice ho; have nR2 := Aside0.mk (Kd.R_below R2.out hb); clear R2; have R2 := nR2; clear nR2; have nS8 := Aside0.mk (Kd.S_below S8.out hb); clear S8; have S8 := nS8; clear nS8; have nHB := Aside0.mk (below_step HB.out hb); clear HB; have HB := nHB; clear nHB; have R9 := Aside0.mk (toldR ho); clear ho; have ZR9 := Aside0.mk hb.size; have K6 := Aside0.mk True.intro; have Z5 := Aside0.mk HB.out.size; clear hb)
    | (go_at_call 26; have hK := K4.out; (with_reducible refine (laws_toIntSS.calls k _ _ l0 l0 _ (Kd.C_below HR0.out HB.out) HC0.out FTS.out).mono ?_); rintro e w4_ ⟨vS8, rfl, ho, hb⟩; clear hK K4; obtain ⟨AS8, cS8, rfl⟩ := Kd.S_slice ho; have nR2 := Aside0.mk (Kd.R_below R2.out hb); clear R2; have R2 := nR2; clear nR2; have nHB := Aside0.mk (below_step HB.out hb); clear HB; have HB := nHB; clear nHB; have S8 := Aside0.mk (told ho); clear ho; have ZS8 := Aside0.mk hb.size; have K5 := Aside0.mk True.intro; have Z4 := Aside0.mk HB.out.size; clear hb)
    | (go_at_call 25; have hK := K3.out; (with_reducible refine (spec_ApplyTable.calls k _ _ l0 _ _ l1 r b _ (Kd.S_reads' S1.out).2.2 (Kd.S_reads' S1.out).2.1 (Kd.R_reads' R1.out).2.2 (Kd.R_reads' R1.out).2.1 Fs.out).mono ?_); rintro e w3_ ⟨vR2, rfl, ho, hb⟩; clear hK K3; obtain ⟨AR2, cR2, rfl⟩ := Kd.R_slice ho; have nHB := Aside0.mk (below_step HB.out hb); clear HB; have HB := nHB; clear nHB; have R2 := Aside0.mk (toldR ho); clear ho; clear S1; clear R1; have K4 := Aside0.mk True.intro; have Z3 := Aside0.mk HB.out.size; clear hb)
    | (go_at_call 27; have hK := K2.out; (with_reducible refine (laws_toIntS.calls k _ _ l1 l1 _ (Kd.C_below HR1.out HB.out) HC1.out FT.out).mono ?_); rintro e w2_ ⟨vR1, rfl, ho, hb⟩; clear hK K2; obtain ⟨AR1, cR1, rfl⟩ := Kd.R_slice ho; have nS1 := Aside0.mk (Kd.S_below S1.out hb); clear S1; have S1 := nS1; clear nS1; have nHB := Aside0.mk (below_step HB.out hb); clear HB; have HB := nHB; clear nHB; have R1 := Aside0.mk (ho); clear ho; have K3 := Aside0.mk True.intro; clear hb)
    | (go_at_call 26; have hK := K1.out; (with_reducible refine (laws_toIntSS.calls k _ _ l0 l0 _ (Kd.C_below HR0.out HB.out) HC0.out FTS.out).mono ?_); rintro e w1_ ⟨vS1, rfl, ho, hb⟩; clear hK K1; obtain ⟨AS1, cS1, rfl⟩ := Kd.S_slice ho; have nHB := Aside0.mk (below_step HB.out hb); clear HB; have HB := nHB; clear nHB; have S1 := Aside0.mk (ho); clear ho; have K2 := Aside0.mk True.intro; clear hb)
    | (go_at_call 24; have hK := K0.out; (with_reducible refine (laws_szIntSS.calls k _ _ l0 1048576 left _ HR0.out HC0.out FZ.out).mono ?_); rintro e w0_ ⟨rfl, hd⟩; clear hK K0; have hb := drawn_below hd; clear hd; have nHB := Aside0.mk (below_step HB.out hb); clear HB; have HB := nHB; clear nHB; have K1 := Aside0.mk True.intro; clear hb))
  go_ret
  exact ⟨rfl, HB.out⟩
def laws_FnExactApplyTable.Pure : Prop := ∀ (l0 : List (List Int)) (l1 : List Int), l0.length ≤ maxLen → (∀ x ∈ l0, x.length ≤ maxLen ∧ ∀ y ∈ x, (Lit.int .i64 y).wf = true) → l1.length ≤ maxLen → l1.length * 8 ≤ 140737488351232 → (∀ x ∈ l1, (Lit.int .i64 x).wf = true) → ∃ k, (l1.length : Int) > 1048576 ∨ (∃ left, laws_szIntSS.f k l0 1048576 = some left ∧ left < 0) ∨ laws_FnExactApplyTable.Told k l0 l1
theorem laws_FnExactApplyTable.walk (P : laws_FnExactApplyTable.Pure) (a0 : Option Addr) (len0 cap0 : Nat) (xs : List (List Int)) (a1 : Option Addr) (len1 cap1 : Nat) (z1 : List Int) (w : World) (w0 : RowsOf w a0 len0 cap0 xs) (w1 : (a1 = none ∧ len1 = 0 ∧ cap1 = 0 ∧ z1 = []) ∨ ∃ x, a1 = some x ∧ len1 ≤ cap1 ∧ cap1 ≤ maxLen ∧ z1.length = cap1 ∧ (∀ i, i < z1.length → w.cell? (x.add i) = some (.int .i64 (z1.getD i 0))) ∧ ∀ n ∈ z1, (Lit.int .i64 n).wf = true) (y1 : len1 * 8 ≤ 140737488351232) :
    Calls Try.prog 7 #[.slice a0 len0 cap0, .slice a1 len1 cap1] w fun e w' => e = .returned (.bool true) ∧ Below w.heap.size w w' := by
  obtain ⟨hC, rfl, hc, hm, hx⟩ := w0
  obtain ⟨l1, rfl, hr1, hm1, hw1, hc1⟩ := ReadsInt.ofRowC w1
  obtain ⟨k, h⟩ := P xs l1 (Nat.le_trans hc hm) hx hm1 y1 hw1
  refine (laws_FnExactApplyTable.calls k _ _ xs _ _ l1 w hC hc (Kd.C_of_reads (d := (0 : Int)) (h1 := fun _ => rfl) hr1) hc1 h).mono ?_
  rintro e w' ⟨rfl, hd⟩
  exact ⟨rfl, hd⟩
end Go.Proofs.Ytoblagangofflaa.T
