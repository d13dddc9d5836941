/- The law FnExactOpenPermutations, walked by hand over our printed contracts: the answer is rows of rows that lie apart, each marked and looked at again. -/
import Derived.Test.YteflkoghligofaaV1
import Derived.Test.YteflkoghligofaaV3
import Derived.Test.YteflkoghligofaaV4
set_option linter.unusedVariables false
namespace Go.Proofs.Yteflkoghligofaa.V
open Go.RowKit Go.Proofs.YteflkoghligofaaW.PrintWords Go.Proofs.YteflkoghligofaaW.PrintLast Go.Proofs.YteflkoghligofaaW.PrintMore
namespace HOpenPermutations
theorem drawn_below {w w' : World} (h : Drawn0 w w') : Below w.heap.size w w' := by
  obtain ⟨nd, rfl⟩ := h
  exact pw_below_drewN (Below.refl _ _) nd
theorem held_told (k : Nat) (A : Option Addr) (c n : Nat) (R2 : List (List Int)) (m2 : Int) (W : World) {base : Nat} {ok : Nat → Prop} (hS : Kd.S (Kd.slice 3 (Kd.int .i64)) 22 W base ok (.slice A n c) R2) (h : laws_heldIntSS.f k R2 1 = some m2) :
    Calls Try.prog 23 #[.slice A n c, .int .i64 1] W fun e w' => e = .returned (.int .i64 m2) ∧ Drawn0 W w' := by
  obtain ⟨rfl, h1, h2⟩ := Kd.S_reads' hS
  exact laws_heldIntSS.calls k A c R2 1 m2 W h2 h1 h
abbrev NF (w : World) (base : Nat) (ok : Nat → Prop) (v : Value) (xs : List (List Int)) : Prop := Kd.N (Kd.slice 3 (Kd.int .i64)) 22 w base ok v xs
abbrev SF (w : World) (base : Nat) (ok : Nat → Prop) (v : Value) (xs : List (List Int)) : Prop := Kd.S (Kd.slice 3 (Kd.int .i64)) 22 w base ok v xs
theorem ne_iv {a b k : Nat} (hk : k < a) (h : a ≤ b) : ¬ b ≤ k := fun e => Nat.lt_irrefl _ (Nat.lt_of_lt_of_le hk (Nat.le_trans h e))
end HOpenPermutations
open HOpenPermutations
/-- what the law asks for, as plain lists tell it -/
structure laws_FnExactOpenPermutations.Told (k : Nat) (a0 : Int) : Prop where
  ok : ∃ (R : List (List Int)) (b : Bool) (m2 : Int) (R2 : List (List Int)),
    spec_OpenPermutations.f k a0 = some (R, b) ∧ impl_OpenPermutations.f k a0 = some (R, b) ∧ laws_eqIntSS.f k R R = some true ∧ laws_markIntSS.f k R 1 = some (m2, R2) ∧ 0 ≤ m2 ∧ laws_heldIntSS.f k R2 1 = some m2
set_option maxHeartbeats 16000000 in
set_option maxRecDepth 100000 in
theorem laws_FnExactOpenPermutations.calls (k : Nat) (a0 : Int) (w : World) (h : laws_FnExactOpenPermutations.Told k a0) :
    Calls Try.prog 4 #[.int .i64 a0] w fun e w' => e = .returned (.bool true) ∧ Below w.heap.size w w' := by
  obtain ⟨R, b, m2, R2, hs, hi, hE, hM, hm2, hH⟩ := h.ok
  have c4b0 : decide (m2 < 0) = false := decide_eq_false (by omega)
  have c5b0 : (b != b) = false := bne_self_eq_false b
  clear h hm2
  have HB := Aside0.mk (Below.refl w.heap.size w)
  have Fs := Aside0.mk hs
  have Fi := Aside0.mk hi
  have FE := Aside0.mk hE
  have FM := Aside0.mk hM
  have FH := Aside0.mk hH
  clear hs hi hE hM hH
  go_enter Try.func4, Try.ntmps4
  go_wp2_with (first
    | (go_at_call 23; (with_reducible refine (held_told k _ _ _ R2 m2 _ S14.out FH.out).mono ?_); rintro e w15 ⟨rfl, hd⟩; have B15 := Aside0.mk (below_step HB.out (drawn_below hd)); clear HB hd S14; have HB := B15; clear B15)
    | (go_at_call 21; (with_reducible refine (laws_eqIntSS.calls k _ _ R _ _ R true _ (Kd.N_reads' S13.out).2.2 (Kd.N_reads' S13.out).2.1 (Kd.N_reads' S2.out).2.2 (Kd.N_reads' S2.out).2.1 FE.out).mono ?_); rintro e w14 ⟨rfl, hd⟩; have hb := drawn_below hd; clear hd; have S14 := Aside0.mk (Kd.S_below S10.out hb); clear S13 S10; have B14 := Aside0.mk (below_step HB.out hb); clear HB hb; have HB := B14; clear B14)
    | (go_at_call 20; (with_reducible refine (impl_OpenPermutations.calls k a0 R b _ Fi.out).mono ?_); rintro e w13 ⟨v13, rfl, ho0, hb⟩; have hS10 := S10.out; clear S10; have S10 := Aside0.mk (Kd.S_below hS10 hb); clear hS10; have hS2 := S2.out; clear S2; have S2 := Aside0.mk (Kd.N_below hS2 hb); clear hS2; have ho := Kd.S_N ho0; clear ho0; obtain ⟨A13, c13, rfl⟩ := Kd.N_slice ho; have S13 := Aside0.mk ho; clear ho; have B13 := Aside0.mk (below_step HB.out hb); clear HB hb; have HB := B13; clear B13)
    | (go_at_call 23; (with_reducible refine (held_told k _ _ _ R2 m2 _ S9.out FH.out).mono ?_); rintro e w11 ⟨rfl, hd⟩; have hb := drawn_below hd; clear hd; have S10 := Aside0.mk (Kd.S_below S9.out hb); clear S9; have hS2 := S2.out; clear S2; have S2 := Aside0.mk (Kd.N_below hS2 hb); clear hS2; have B11 := Aside0.mk (below_step HB.out hb); clear HB hb; have HB := B11; clear B11)
    | (go_at_call 22; (with_reducible refine (laws_markIntSS.calls k _ _ R 1 m2 R2 w _ HB.out (Kd.S_lower S4.out Z2.out) FM.out).mono ?_); rintro e w10 ⟨rfl, ho, hb, hkp⟩; have S9 := Aside0.mk ho; have hS2 := S2.out; clear S2; have S2 := Aside0.mk (Kd.N_mono (Kd.N_step (Kd.N_bound hS2) (fun k hk hlt => hkp.2 k hlt (ne_iv hk.1 (Nat.le_refl _)))) (fun k hk => hk.1)); clear hS2 S4 hkp ho; have B10 := Aside0.mk hb; clear HB hb; have HB := B10; clear B10)
    | (go_at_call 21; (with_reducible refine (laws_eqIntSS.calls k _ _ R _ _ R true _ (Kd.S_reads' S3.out).2.2 (Kd.S_reads' S3.out).2.1 (Kd.N_reads' S2.out).2.2 (Kd.N_reads' S2.out).2.1 FE.out).mono ?_); rintro e w9 ⟨rfl, hd⟩; have hb := drawn_below hd; clear hd; have S4 := Aside0.mk (Kd.S_below S3.out hb); clear S3; have hS2 := S2.out; clear S2; have S2 := Aside0.mk (Kd.N_below hS2 hb); clear hS2; have B9 := Aside0.mk (below_step HB.out hb); clear HB hb; have HB := B9; clear B9)
    | (go_at_call 20; (with_reducible refine (impl_OpenPermutations.calls k a0 R b _ Fi.out).mono ?_); rintro e w4 ⟨v4, rfl, ho, hb⟩; obtain ⟨A4, c4, rfl⟩ := Kd.S_slice ho; have S3 := Aside0.mk (Kd.S_mono (Kd.S_bound ho) (fun k hk => hk.2.1)); have hS2 := S2.out; clear S2; have S2 := Aside0.mk (Kd.N_below hS2 hb); clear hS2 ho; have B4 := Aside0.mk (below_step HB.out hb); clear HB hb; have HB := B4; clear B4)
    | (go_at_call 19; (with_reducible refine (spec_OpenPermutations.calls k a0 R b _ Fs.out).mono ?_); rintro e w2 ⟨v2, rfl, ho0, hb⟩; have ho1 : NF _ _ _ _ _ := (by first | exact Kd.S_N ho0 | exact ho0 | exact Kd.R_N ho0); clear ho0; have ho := Kd.N_mono (Kd.N_bound ho1) (fun k hk => hk.2); clear ho1; obtain ⟨A2, c2, rfl⟩ := Kd.N_slice ho; have S2 := Aside0.mk ho; have B2 := Aside0.mk (below_step HB.out hb); clear HB hb ho; have HB := B2; clear B2; have Z2 := Aside0.mk HB.out.size))
  go_ret
  exact ⟨rfl, HB.out⟩
def laws_FnExactOpenPermutations.Pure : Prop := ∀ (a0 : Int), (Lit.int .i64 a0).wf = true → ∃ k, laws_FnExactOpenPermutations.Told k a0
theorem laws_FnExactOpenPermutations.walk (P : laws_FnExactOpenPermutations.Pure) (a0 : Int) (w : World) (w0 : (Lit.int .i64 a0).wf = true) :
    Calls Try.prog 4 #[.int .i64 a0] w fun e w' => e = .returned (.bool true) ∧ Below w.heap.size w w' := by
  obtain ⟨k, h⟩ := P a0 w0
  exact laws_FnExactOpenPermutations.calls k a0 w h
end Go.Proofs.Yteflkoghligofaa.V
