/- The law FnExactAddStamp, walked by hand over our printed contracts: the print hands only flat rows to what writes them. -/
import Derived.Test.YtjgkcknopnollaaA1
import Derived.Test.YtjgkcknopnollaaA4
import Derived.Test.YtjgkcknopnollaaA8
set_option linter.unusedVariables false
namespace Go.Proofs.Ytjgkcknopnollaa.A
open Go.RowKit Go.Proofs.YtjgkcknopnollaaW.PrintWords Go.Proofs.YtjgkcknopnollaaW.PrintLast Go.Proofs.YtjgkcknopnollaaW.PrintMore
theorem drawn_below {w w' : World} (h : Drawn0 w w') : Below w.heap.size w w' := by
  obtain ⟨nd, rfl⟩ := h
  exact pw_below_drewN (Below.refl _ _) nd
theorem told {α : Type} {d : Kd α} {e base : Nat} {w : World} {v : Value} {xs : List α} (h : Kd.S d e w base (fun _ => True) v xs) : Kd.S d e w base (fun k => base ≤ k ∧ k < w.heap.size) v xs :=
  Kd.S_mono (Kd.S_bound h) (fun _ hk => ⟨hk.2.1, hk.2.2.1⟩)
theorem toldN {α : Type} {d : Kd α} {e base : Nat} {w : World} {v : Value} {xs : List α} {ok : Nat → Prop} (h : Kd.N d e w base ok v xs) : Kd.N d e w base (fun k => 0 ≤ k ∧ k < w.heap.size) v xs :=
  Kd.N_mono (Kd.N_bound h) (fun k hk => ⟨Nat.zero_le _, hk.2⟩)
theorem ne_hi {a b k : Nat} {v : Value} (hk : a ≤ k ∧ k < b) (h : ∀ k, v.ownBlock = some k → k < a) : ¬ some k = v.ownBlock := fun e => Nat.lt_irrefl _ (Nat.lt_of_lt_of_le (h k e.symm) hk.1)
theorem ne_lo {a b k : Nat} {v : Value} (hk : a ≤ k ∧ k < b) (h : ∀ k, v.ownBlock = some k → b ≤ k) : ¬ some k = v.ownBlock := fun e => Nat.lt_irrefl _ (Nat.lt_of_lt_of_le hk.2 (h k e.symm))
theorem ne_iv {a b c d k : Nat} (hk : a ≤ k ∧ k < b) (h : b ≤ c) : ¬ (c ≤ k ∧ k < d) := fun e => Nat.lt_irrefl _ (Nat.lt_of_lt_of_le hk.2 (Nat.le_trans h e.1))
theorem held_told (k : Nat) (A : Option Addr) (c n : Nat) (R2 : List (List Int)) (m2 : Int) (W : World) {base : Nat} {ok : Nat → Prop} (hS : Kd.S (Kd.slice 3 (Kd.int .i64)) 30 W base ok (.slice A n c) R2) (h : laws_heldIntSS.f k R2 1 = some m2) :
    Calls Try.prog 19 #[.slice A n c, .int .i64 1] W fun e w' => e = .returned (.int .i64 m2) ∧ Drawn0 W w' := by
  obtain ⟨rfl, h1, h2⟩ := Kd.S_reads' hS
  exact laws_heldIntSS.calls k A c R2 1 m2 W h2 h1 h
/-- what the law asks for, as plain lists tell it -/
structure laws_FnExactAddStamp.Told (k : Nat) (l0 : List Int) : Prop where
  ok : ∃ (R : List (List Int)) (b : Bool) (m1 : Int) (x1 : List Int) (m2 : Int) (R2 : List (List Int)),
    spec_AddStamp.f k l0 = some (R, b) ∧ impl_AddStamp.f k l0 = some (R, b) ∧ laws_toIntS.f k l0 = some l0 ∧ laws_eqIntSS.f k R R = some true ∧ laws_eqIntS.f k l0 l0 = some true ∧
    laws_markIntS.f k l0 1 = some (m1, x1) ∧ 0 ≤ m1 ∧ laws_markIntSS.f k R 1 = some (m2, R2) ∧ 0 ≤ m2 ∧ laws_heldIntSS.f k R2 1 = some m2
set_option maxHeartbeats 16000000 in
set_option maxRecDepth 100000 in
theorem laws_FnExactAddStamp.calls (k : Nat) (A0 : Option Addr) (c0 : Nat) (l0 : List Int) (w : World) (hr0 : Kd.C (Kd.int .i64) w A0 l0.length l0) (hc0 : l0.length ≤ c0) (h : (l0.length : Int) > 1048576 ∨ laws_FnExactAddStamp.Told k l0) :
    Calls Try.prog 7 #[.slice A0 l0.length c0] w fun e w' => e = .returned (.bool true) ∧ Below w.heap.size w w' := by
  by_cases hlen : (1048576 : Int) < (l0.length : Int)
  · have c2b0 : decide ((1048576 : Int) < (l0.length : Int)) = true := decide_eq_true hlen
    clear h
    go_enter Try.func7, Try.ntmps7
    go_wp2
    go_ret
    exact ⟨rfl, Below.refl _ _⟩
  obtain ⟨R, b, m1, x1, m2, R2, hs, hi, hT, hE, hE1, hM1, hm1, hM, hm2, hH⟩ := (h.resolve_left hlen).ok
  have c2b0 : decide ((1048576 : Int) < (l0.length : Int)) = false := decide_eq_false hlen
  have c3b0 : decide (m1 < 0) = false := decide_eq_false (by omega)
  have c4b0 : decide (m2 < 0) = false := decide_eq_false (by omega)
  have c5b0 : (b != b) = false := bne_self_eq_false b
  clear h hlen hm1 hm2
  have HR0 := Aside0.mk hr0
  have HB := Aside0.mk (Below.refl w.heap.size w)
  have Fs := Aside0.mk hs
  have Fi := Aside0.mk hi
  have FT := Aside0.mk hT
  have FE := Aside0.mk hE
  have FE1 := Aside0.mk hE1
  have FM1 := Aside0.mk hM1
  have FM := Aside0.mk hM
  have FH := Aside0.mk hH
  have HC0 := Aside0.mk hc0
  clear hr0 hs hi hT hE hE1 hM1 hM hH hc0
  go_enter Try.func7, Try.ntmps7
  go_wp2_with (first
    | (go_at_call 19; (with_reducible refine (held_told k _ _ _ R2 m2 _ S14.out FH.out).mono ?_); rintro e w15 ⟨rfl, hd⟩; have B15 := Aside0.mk (below_step HB.out (drawn_below hd)); clear HB hd S14; have HB := B15; clear B15)
    | (go_at_call 17; (with_reducible refine (laws_eqIntSS.calls k _ _ R _ _ R true _ (Kd.S_reads' S13.out).2.2 (Kd.S_reads' S13.out).2.1 (Kd.N_reads' S2.out).2.2 (Kd.N_reads' S2.out).2.1 FE.out).mono ?_); rintro e w14 ⟨rfl, hd⟩; have hb := drawn_below hd; clear hd; have S14 := Aside0.mk (Kd.S_below S10.out hb); clear S13 S10; have B14 := Aside0.mk (below_step HB.out hb); clear HB hb; have HB := B14; clear B14)
    | (go_at_call 24; (with_reducible refine (impl_AddStamp.calls k _ _ l0 R b _ (Kd.R_reads' T12.out).2.2 (Kd.R_reads' T12.out).2.1 Fi.out).mono ?_); rintro e w13 ⟨v13, rfl, ho, hb⟩; obtain ⟨A13, c13, rfl⟩ := Kd.S_slice ho; have S13 := Aside0.mk ho; have n2 := Aside0.mk (Kd.N_below S2.out hb); clear S2; have S2 := n2; clear n2; have n10 := Aside0.mk (Kd.S_below S10.out hb); clear S10; have S10 := n10; clear n10; clear T12 ho; have B13 := Aside0.mk (below_step HB.out hb); clear HB hb; have HB := B13; clear B13)
    | (go_at_call 23; (with_reducible refine (laws_toIntS.calls k _ _ l0 l0 _ (Kd.C_below HR0.out HB.out) HC0.out FT.out).mono ?_); rintro e w12 ⟨v12, rfl, ho, hb⟩; have n10 := Aside0.mk (Kd.S_below S10.out hb); clear S10; have S10 := n10; clear n10; obtain ⟨A12, c12, rfl⟩ := Kd.R_slice ho; have T12 := Aside0.mk ho; have n2 := Aside0.mk (Kd.N_below S2.out hb); clear S2; have S2 := n2; clear n2 ho; have B12 := Aside0.mk (below_step HB.out hb); clear HB hb; have HB := B12; clear B12)
    | (go_at_call 19; (with_reducible refine (held_told k _ _ _ R2 m2 _ S10.out FH.out).mono ?_); rintro e w11 ⟨rfl, hd⟩; have hb := drawn_below hd; clear hd; have n10 := Aside0.mk (Kd.S_below S10.out hb); clear S10; have S10 := n10; clear n10; have n2 := Aside0.mk (Kd.N_below S2.out hb); clear S2; have S2 := n2; clear n2; have B11 := Aside0.mk (below_step HB.out hb); clear HB hb; have HB := B11; clear B11)
    | (go_at_call 18; (with_reducible refine (laws_markIntSS.calls k _ _ R 1 m2 R2 w _ HB.out (Kd.S_lower S4.out Z3.out) FM.out).mono ?_); rintro e w10 ⟨rfl, ho, hb, hkp⟩; have S10 := Aside0.mk ho; have n2 := Aside0.mk (Kd.N_step S2.out (fun k hk hlt => hkp.2 k hlt (ne_iv hk Z23.out))); clear S2; have S2 := n2; clear n2 S4 hkp ho; have B10 := Aside0.mk hb; clear HB hb; have HB := B10; clear B10)
    | (go_at_call 17; (with_reducible refine (laws_eqIntSS.calls k _ _ R _ _ R true _ (Kd.S_reads' S4.out).2.2 (Kd.S_reads' S4.out).2.1 (Kd.N_reads' S2.out).2.2 (Kd.N_reads' S2.out).2.1 FE.out).mono ?_); rintro e w9 ⟨rfl, hd⟩; have hb := drawn_below hd; clear hd; have n4 := Aside0.mk (Kd.S_below S4.out hb); clear S4; have S4 := n4; clear n4; have n2 := Aside0.mk (Kd.N_below S2.out hb); clear S2; have S2 := n2; clear n2; (try (have n3 := Aside0.mk (Kd.R_below R3.out hb); clear R3; have R3 := n3; clear n3)); have B9 := Aside0.mk (below_step HB.out hb); clear HB hb; have HB := B9; clear B9)
    | (go_at_call 26; (with_reducible refine (laws_markIntS.calls k _ _ l0 1 m1 x1 w _ HB.out (Kd.R_lower (Kd.R_tight rfl R3.out) Z2.out) FM1.out).mono ?_); rintro e w8 ⟨rfl, ho, hb, hkp⟩; have n4 := Aside0.mk (Kd.S_step S4.out (fun k hk hlt => hkp.2 k hlt (ne_hi hk L3.out))); clear S4; have S4 := n4; clear n4; have n2 := Aside0.mk (Kd.N_step S2.out (fun k hk hlt => hkp.2 k hlt (ne_lo hk G3.out))); clear S2; have S2 := n2; clear n2 R3 L3 G3 ho hkp; have B8 := Aside0.mk hb; clear HB hb; have HB := B8; clear B8)
    | (go_at_call 25; (with_reducible refine (laws_eqIntS.calls k _ _ l0 _ _ l0 true _ (Kd.R_reads' R3.out).2.2 (Kd.R_reads' R3.out).2.1 (Kd.R_reads' R6.out).2.2 (Kd.R_reads' R6.out).2.1 FE1.out).mono ?_); rintro e w7 ⟨rfl, hd⟩; have hb := drawn_below hd; clear hd R6; have n4 := Aside0.mk (Kd.S_below S4.out hb); clear S4; have S4 := n4; clear n4; have n2 := Aside0.mk (Kd.N_below S2.out hb); clear S2; have S2 := n2; clear n2; have n3 := Aside0.mk (Kd.R_below R3.out hb); clear R3; have R3 := n3; clear n3; have B7 := Aside0.mk (below_step HB.out hb); clear HB hb; have HB := B7; clear B7)
    | (go_at_call 23; (with_reducible refine (laws_toIntS.calls k _ _ l0 l0 _ (Kd.C_below HR0.out HB.out) HC0.out FT.out).mono ?_); rintro e w6 ⟨v6, rfl, ho, hb⟩; have n4 := Aside0.mk (Kd.S_below S4.out hb); clear S4; have S4 := n4; clear n4; obtain ⟨A6, c6, rfl⟩ := Kd.R_slice ho; have R6 := Aside0.mk ho; have n2 := Aside0.mk (Kd.N_below S2.out hb); clear S2; have S2 := n2; clear n2 ho; have n3 := Aside0.mk (Kd.R_below R3.out hb); clear R3; have R3 := n3; clear n3; have B6 := Aside0.mk (below_step HB.out hb); clear HB hb; have HB := B6; clear B6)
    | (go_at_call 24; (with_reducible refine (impl_AddStamp.calls k _ _ l0 R b _ (Kd.R_reads' R3.out).2.2 (Kd.R_reads' R3.out).2.1 Fi.out).mono ?_); rintro e w4 ⟨v4, rfl, ho, hb⟩; obtain ⟨A4, c4, rfl⟩ := Kd.S_slice ho; have S4 := Aside0.mk (told ho); have n2 := Aside0.mk (Kd.N_below S2.out hb); clear S2; have S2 := n2; clear n2 ho; have n3 := Aside0.mk (Kd.R_below R3.out hb); clear R3; have R3 := n3; clear n3; have B4 := Aside0.mk (below_step HB.out hb); clear HB hb; have HB := B4; clear B4)
    | (go_at_call 23; (with_reducible refine (laws_toIntS.calls k _ _ l0 l0 _ (Kd.C_below HR0.out HB.out) HC0.out FT.out).mono ?_); rintro e w3 ⟨v3, rfl, ho, hb⟩; have n2 := Aside0.mk (Kd.N_below S2.out hb); clear S2; have S2 := n2; clear n2; obtain ⟨A3, c3, rfl⟩ := Kd.R_slice ho; have R3 := Aside0.mk ho; have L3 := Aside0.mk (Kd.R_lt ho); have G3 := Aside0.mk (Kd.R_base ho); have Z23 := Aside0.mk hb.size; have B3 := Aside0.mk (below_step HB.out hb); clear HB hb ho; have HB := B3; clear B3; have Z3 := Aside0.mk HB.out.size)
    | (go_at_call 22; (with_reducible refine (spec_AddStamp.calls k _ _ l0 R b _ (Kd.R_reads' R1.out).2.2 (Kd.R_reads' R1.out).2.1 Fs.out).mono ?_); rintro e w2 ⟨v2, rfl, ho0, hb⟩; have ho := toldN (by first | exact Kd.S_N ho0 | exact ho0 | exact Kd.R_N ho0); clear ho0; obtain ⟨A2, c2, rfl⟩ := Kd.N_slice ho; have S2 := Aside0.mk ho; have B2 := Aside0.mk (below_step HB.out hb); clear HB hb ho R1; have HB := B2; clear B2; have Z2 := Aside0.mk HB.out.size)
    | (go_at_call 23; (with_reducible refine (laws_toIntS.calls k _ _ l0 l0 _ (Kd.C_below HR0.out HB.out) HC0.out FT.out).mono ?_); rintro e w1 ⟨v1, rfl, ho, hb⟩; obtain ⟨A1, c1, rfl⟩ := Kd.R_slice ho; have R1 := Aside0.mk ho; have B1 := Aside0.mk (below_step HB.out hb); clear HB hb ho; have HB := B1; clear B1))
  go_ret
  exact ⟨rfl, HB.out⟩
def laws_FnExactAddStamp.Pure : Prop := ∀ (l0 : List Int), l0.length ≤ maxLen → l0.length * 8 ≤ 140737488351232 → (∀ x ∈ l0, (Lit.int .i64 x).wf = true) → ∃ k, (l0.length : Int) > 1048576 ∨ laws_FnExactAddStamp.Told k l0
theorem laws_FnExactAddStamp.walk (P : laws_FnExactAddStamp.Pure) (a0 : Option Addr) (len0 cap0 : Nat) (z0 : List Int) (w : World) (w0 : (a0 = none ∧ len0 = 0 ∧ cap0 = 0 ∧ z0 = []) ∨ ∃ x, a0 = some x ∧ len0 ≤ cap0 ∧ cap0 ≤ maxLen ∧ z0.length = cap0 ∧ (∀ i, i < z0.length → w.cell? (x.add i) = some (.int .i64 (z0.getD i 0))) ∧ ∀ n ∈ z0, (Lit.int .i64 n).wf = true) (y0 : len0 * 8 ≤ 140737488351232) :
    Calls Try.prog 7 #[.slice a0 len0 cap0] w fun e w' => e = .returned (.bool true) ∧ Below w.heap.size w w' := by
  obtain ⟨l0, rfl, hr0, hm0, hw0, hc0⟩ := ReadsInt.ofRowC w0
  obtain ⟨k, h⟩ := P l0 hm0 y0 hw0
  refine (laws_FnExactAddStamp.calls k _ _ l0 w (Kd.C_of_reads (d := (0 : Int)) (h1 := fun _ => rfl) hr0) hc0 h).mono ?_
  rintro e w' ⟨rfl, hd⟩
  exact ⟨rfl, hd⟩
end Go.Proofs.Ytjgkcknopnollaa.A
