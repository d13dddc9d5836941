/- The law FnExactDeterminantOf, walked by hand over our printed contracts: rows of whole numbers as argument, a number and a bool as answer. -/
import Derived.Test.YtbphdjnainlbhaaHRowsArg
import Derived.Test.YtbphdjnainlbhaaHDrawn
import Derived.Test.YtbphdjnainlbhaaL1
import Derived.Test.YtbphdjnainlbhaaL4
import Derived.Test.YtbphdjnainlbhaaL5
import Derived.Test.YtbphdjnainlbhaaL8
set_option linter.unusedVariables false
namespace Go.Proofs.Ytbphdjnainlbhaa.L
open Go.RowKit Go.Proofs.YtbphdjnainlbhaaW.PrintWords Go.Proofs.YtbphdjnainlbhaaW.PrintLast Go.Proofs.YtbphdjnainlbhaaW.PrintMore
/-- what the law asks for, as plain lists tell it -/
structure laws_FnExactDeterminantOf.Told (k : Nat) (l0 : List (List Int)) : Prop where
  ok : ∃ (r : Int) (b : Bool) (left : Int), laws_szIntSS.f k l0 1048576 = some left ∧ 0 ≤ left ∧ spec_DeterminantOf.f k l0 = some (r, b) ∧ impl_DeterminantOf.f k l0 = some (r, b) ∧ laws_toIntSS.f k l0 = some l0 ∧ laws_eqIntSS.f k l0 l0 = some true
set_option maxHeartbeats 16000000 in
set_option maxRecDepth 100000 in
theorem laws_FnExactDeterminantOf.calls (k : Nat) (A0 : Option Addr) (c0 : Nat) (l0 : List (List Int)) (w : World) (hr0 : Kd.C (Kd.slice 3 (Kd.int .i64)) w A0 l0.length l0) (hc0 : l0.length ≤ c0)
    (h : (∃ left, laws_szIntSS.f k l0 1048576 = some left ∧ left < 0) ∨ laws_FnExactDeterminantOf.Told k l0) :
    Calls Try.prog 5 #[.slice A0 l0.length c0] w fun e w' => e = .returned (.bool true) ∧ Below w.heap.size w w' := by
  have K0 := Aside0.mk True.intro
  have HR0 := Aside0.mk hr0
  have HC0 := Aside0.mk hc0
  have HB := Aside0.mk (Below.refl w.heap.size w)
  clear hr0 hc0
  rcases h with ⟨left, hz, hneg⟩ | h
  · have FZ := Aside0.mk hz
    have c3b0 : decide (left < 0) = true := decide_eq_true hneg
    clear hz hneg
    go_enter Try.func5, Try.ntmps5
    go_wp2_with (go_at_call 8; (with_reducible refine (laws_szIntSS.calls k _ _ l0 1048576 left _ HR0.out HC0.out FZ.out).mono ?_); rintro e w1 ⟨rfl, hd⟩; have B1 := Aside0.mk (drawn_below hd); clear hd HB; have HB := B1; clear B1)
    go_ret
    exact ⟨rfl, HB.out⟩
  obtain ⟨r, b, left, hz, hz0, hs, hi, hTS, hES⟩ := h.ok
  have c3b0 : decide (left < 0) = false := decide_eq_false (by omega)
  have c5b0 : (r != r) = false := bne_self_eq_false r
  have c6b0 : (b != b) = false := bne_self_eq_false b
  clear h hz0
  have FZ := Aside0.mk hz
  have Fs := Aside0.mk hs
  have Fi := Aside0.mk hi
  have FTS := Aside0.mk hTS
  have FES := Aside0.mk hES
  clear hz hs hi hTS hES
  go_enter Try.func5, Try.ntmps5
  go_wp2_with (first
    | (go_at_call 12; have hK := K6.out; (with_reducible refine (laws_eqIntSS.calls k _ _ l0 _ _ l0 true _ (Kd.S_reads' S2.out).2.2 (Kd.S_reads' S2.out).2.1 (Kd.S_reads' S3.out).2.2 (Kd.S_reads' S3.out).2.1 FES.out).mono ?_); rintro e w6_ ⟨rfl, hd⟩; clear hK K6; have hb := drawn_below hd; clear hd; have nHB := Aside0.mk (below_step HB.out hb); clear HB; have HB := nHB; clear nHB; clear S2; clear S3; have K7 := Aside0.mk True.intro; clear hb)
    | (go_at_call 10; have hK := K5.out; (with_reducible refine (laws_toIntSS.calls k _ _ l0 l0 _ (Kd.C_below HR0.out HB.out) HC0.out FTS.out).mono ?_); rintro e w5_ ⟨vS3, rfl, ho, hb⟩; clear hK K5; obtain ⟨AS3, cS3, rfl⟩ := Kd.S_slice ho; have nS2 := Aside0.mk (Kd.S_below S2.out hb); clear S2; have S2 := nS2; clear nS2; have nHB := Aside0.mk (below_step HB.out hb); clear HB; have HB := nHB; clear nHB; have S3 := Aside0.mk ho; clear ho; have K6 := Aside0.mk True.intro; clear hb)
    | (go_at_call 16; have hK := K4.out; (with_reducible refine (impl_DeterminantOf.calls k _ _ l0 r b _ (Kd.S_reads' S2.out).2.2 (Kd.S_reads' S2.out).2.1 Fi.out).mono ?_); rintro e w4_ ⟨rfl, hb⟩; clear hK K4; have nS2 := Aside0.mk (Kd.S_below S2.out hb); clear S2; have S2 := nS2; clear nS2; have nHB := Aside0.mk (below_step HB.out hb); clear HB; have HB := nHB; clear nHB; have K5 := Aside0.mk True.intro; clear hb)
    | (go_at_call 10; have hK := K3.out; (with_reducible refine (laws_toIntSS.calls k _ _ l0 l0 _ (Kd.C_below HR0.out HB.out) HC0.out FTS.out).mono ?_); rintro e w3_ ⟨vS2, rfl, ho, hb⟩; clear hK K3; obtain ⟨AS2, cS2, rfl⟩ := Kd.S_slice ho; have nHB := Aside0.mk (below_step HB.out hb); clear HB; have HB := nHB; clear nHB; have S2 := Aside0.mk ho; clear ho; have K4 := Aside0.mk True.intro; clear hb)
    | (go_at_call 15; have hK := K2.out; (with_reducible refine (spec_DeterminantOf.calls k _ _ l0 r b _ (Kd.S_reads' S1.out).2.2 (Kd.S_reads' S1.out).2.1 Fs.out).mono ?_); rintro e w2_ ⟨rfl, hb⟩; clear hK K2; have nHB := Aside0.mk (below_step HB.out hb); clear HB; have HB := nHB; clear nHB; clear S1; have K3 := Aside0.mk True.intro; clear hb)
    | (go_at_call 10; have hK := K1.out; (with_reducible refine (laws_toIntSS.calls k _ _ l0 l0 _ (Kd.C_below HR0.out HB.out) HC0.out FTS.out).mono ?_); rintro e w1_ ⟨vS1, rfl, ho, hb⟩; clear hK K1; obtain ⟨AS1, cS1, rfl⟩ := Kd.S_slice ho; have nHB := Aside0.mk (below_step HB.out hb); clear HB; have HB := nHB; clear nHB; have S1 := Aside0.mk ho; clear ho; have K2 := Aside0.mk True.intro; clear hb)
    | (go_at_call 8; have hK := K0.out; (with_reducible refine (laws_szIntSS.calls k _ _ l0 1048576 left _ HR0.out HC0.out FZ.out).mono ?_); rintro e w0_ ⟨rfl, hd⟩; clear hK K0; have hb := drawn_below hd; clear hd; have nHB := Aside0.mk (below_step HB.out hb); clear HB; have HB := nHB; clear nHB; have K1 := Aside0.mk True.intro; clear hb))
  go_ret
  exact ⟨rfl, HB.out⟩
def laws_FnExactDeterminantOf.Pure : Prop := ∀ (l0 : List (List Int)), l0.length ≤ maxLen → (∀ x ∈ l0, x.length ≤ maxLen ∧ ∀ y ∈ x, (Lit.int .i64 y).wf = true) → ∃ k, (∃ left, laws_szIntSS.f k l0 1048576 = some left ∧ left < 0) ∨ laws_FnExactDeterminantOf.Told k l0
theorem laws_FnExactDeterminantOf.walk (P : laws_FnExactDeterminantOf.Pure) (a0 : Option Addr) (len0 cap0 : Nat) (xs : List (List Int)) (w : World) (w0 : RowsOf w a0 len0 cap0 xs) :
    Calls Try.prog 5 #[.slice a0 len0 cap0] w fun e w' => e = .returned (.bool true) ∧ Below w.heap.size w w' := by
  obtain ⟨hC, rfl, hc, hm, hx⟩ := w0
  obtain ⟨k, h⟩ := P xs (Nat.le_trans hc hm) hx
  refine (laws_FnExactDeterminantOf.calls k _ _ xs w hC hc h).mono ?_
  rintro e w' ⟨rfl, hd⟩
  exact ⟨rfl, hd⟩
end Go.Proofs.Ytbphdjnainlbhaa.L
