-- printed by wip/drv/xprint.py (our driver), shortened by wip/drv/squeeze.py: those functions that the claim reaches; Lean checks it
import Derived.Test.YtbphdjnainlbhaaQA0
namespace Go.Proofs.Ytbphdjnainlbhaa.R
open Go.Proofs.Ytbphdjnainlbhaa.Short Go.RowKit Go.Proofs.YtbphdjnainlbhaaW.PrintWords Go.Proofs.YtbphdjnainlbhaaW.PrintLast Go.Proofs.YtbphdjnainlbhaaW.PrintMore
attribute [local go_sem] max2_int min2_int max_two min_two max_three min_three max_four min_four   -- for this text's walks alone
set_option linter.unusedVariables false
set_option linter.unusedSimpArgs false



set_option maxHeartbeats 8000000
set_option maxRecDepth 100000
/-! ### spec_l1Cur_next: function 93 -/
def spec_l1Cur_next.f (s0_0 : List Int) (s0_1 : Int) (s0_2 : Int) : Option (Int × Int × Int) := if s0_1 < (s0_0.length : Int) then (if 0 ≤ s0_1 then (if (wrap64 (s0_1 + 1)) ≤ (s0_0.length : Int) then (some (wrap64 (rd s0_0 s0_1), wrap64 (s0_1 + 1), IntKind.u64.wrap ((IntKind.u64.wrap ((IntKind.u64.wrap (s0_2 * 6364136223846793005)) + (IntKind.u64.wrap (wrap64 (rd s0_0 s0_1))))) + 1442695040888963407))) else (some (wrap64 (Go.bits .and .u64 ((IntKind.u64.wrap ((IntKind.u64.wrap ((IntKind.u64.wrap (s0_2 * 6364136223846793005)) + (IntKind.u64.wrap (wrap64 (rd s0_0 s0_1))))) + 1442695040888963407)) / 1099511627776) 255), wrap64 (s0_1 + 1), IntKind.u64.wrap ((IntKind.u64.wrap ((IntKind.u64.wrap (s0_2 * 6364136223846793005)) + (IntKind.u64.wrap (wrap64 (rd s0_0 s0_1))))) + 1442695040888963407)))) else (none)) else (if (wrap64 (s0_1 + 1)) ≤ (s0_0.length : Int) then (some (0, wrap64 (s0_1 + 1), IntKind.u64.wrap ((IntKind.u64.wrap ((IntKind.u64.wrap (s0_2 * 6364136223846793005)) + 0)) + 1442695040888963407))) else (some (wrap64 (Go.bits .and .u64 ((IntKind.u64.wrap ((IntKind.u64.wrap ((IntKind.u64.wrap (s0_2 * 6364136223846793005)) + 0)) + 1442695040888963407)) / 1099511627776) 255), wrap64 (s0_1 + 1), IntKind.u64.wrap ((IntKind.u64.wrap ((IntKind.u64.wrap (s0_2 * 6364136223846793005)) + 0)) + 1442695040888963407))))
theorem spec_l1Cur_next.calls (g : Nat) (s0_0 : List Int) (s0_1 : Int) (s0_2 : Int) (r1 : Int) (r2 : Int) (r3 : Int) (w0 w : World) (hI : IsS57 w0 w g s0_0 s0_1 s0_2) (hB : Below w0.heap.size w0 w) (h : spec_l1Cur_next.f s0_0 s0_1 s0_2 = some (r1, r2, r3)) :
  Calls Try.prog 93 #[.pointer (some ⟨g, 0, none⟩)] w fun e w' => e = .returned (.int .i64 r1) ∧ IsS57 w0 w' g s0_0 r2 r3 ∧ Below w0.heap.size w0 w' ∧ KeepBut w w' g none := by
 have HI0 := Aside0.mk hI; have HK := Aside0.mk (KeepBut.refl w g none); have HL := Aside0.mk hB.size; clear hI; have HW0 := Aside0.mk hB.size; have HB := Aside0.mk hB; clear hB; have H : (if s0_1 < (s0_0.length : Int) then (if 0 ≤ s0_1 then (if (wrap64 (s0_1 + 1)) ≤ (s0_0.length : Int) then (some (wrap64 (rd s0_0 s0_1), wrap64 (s0_1 + 1), IntKind.u64.wrap ((IntKind.u64.wrap ((IntKind.u64.wrap (s0_2 * 6364136223846793005)) + (IntKind.u64.wrap (wrap64 (rd s0_0 s0_1))))) + 1442695040888963407))) else (some (wrap64 (Go.bits .and .u64 ((IntKind.u64.wrap ((IntKind.u64.wrap ((IntKind.u64.wrap (s0_2 * 6364136223846793005)) + (IntKind.u64.wrap (wrap64 (rd s0_0 s0_1))))) + 1442695040888963407)) / 1099511627776) 255), wrap64 (s0_1 + 1), IntKind.u64.wrap ((IntKind.u64.wrap ((IntKind.u64.wrap (s0_2 * 6364136223846793005)) + (IntKind.u64.wrap (wrap64 (rd s0_0 s0_1))))) + 1442695040888963407)))) else (none)) else (if (wrap64 (s0_1 + 1)) ≤ (s0_0.length : Int) then (some (0, wrap64 (s0_1 + 1), IntKind.u64.wrap ((IntKind.u64.wrap ((IntKind.u64.wrap (s0_2 * 6364136223846793005)) + 0)) + 1442695040888963407))) else (some (wrap64 (Go.bits .and .u64 ((IntKind.u64.wrap ((IntKind.u64.wrap ((IntKind.u64.wrap (s0_2 * 6364136223846793005)) + 0)) + 1442695040888963407)) / 1099511627776) 255), wrap64 (s0_1 + 1), IntKind.u64.wrap ((IntKind.u64.wrap ((IntKind.u64.wrap (s0_2 * 6364136223846793005)) + 0)) + 1442695040888963407))))) = some (r1, r2, r3) := h; clear h
 by_cases c2 : s0_1 < (s0_0.length : Int)
 ·rw [if_pos c2] at H; have c2b0 := decide_eq_true c2; clear c2
  by_cases c3 : 0 ≤ s0_1
  ·rw [if_pos c3] at H; have c3b0 := decide_eq_true c3; clear c3
   by_cases c4 : (wrap64 (s0_1 + 1)) ≤ (s0_0.length : Int)
   ·rw [if_pos c4] at H; have c4b0 := decide_eq_true c4; clear c4; simp only [Option.some.injEq, Prod.mk.injEq, Int.add_zero] at H; obtain ⟨rfl, rfl, rfl⟩ := H; obtain ⟨ASz5_0, cSz5_0, HGz5, hgz5, HSz5_0⟩ := HI0.out; have hcz5_0 := cellS57_0 HGz5; have hcz5_1 := cellS57_1 HGz5; have hcz5_2 := cellS57_2 HGz5; have hfz5_1 := blk_frozen HGz5 1; have hfz5_2 := blk_frozen HGz5 2; clear HGz5 hgz5; obtain ⟨ad199, e199, hx199_0, p199, q199⟩ := atI HSz5_0 s0_1; cases e199; replace hx199_0 := pw_cell_below HB.out hx199_0; go_enter Try.func93, Try.ntmps93; go_wp2
    repeat (go_quiet (fail); try go_wp2)
    go_ret; exact ⟨sr, iS HI0.out, bs1 HB.out (IsS57.ge HI0.out), kb HK.out⟩
   rw [if_neg c4] at H; have c4b0 := decide_eq_false c4; clear c4; simp only [Option.some.injEq, Prod.mk.injEq, Int.add_zero] at H; obtain ⟨rfl, rfl, rfl⟩ := H; obtain ⟨ASz6_0, cSz6_0, HGz6, hgz6, HSz6_0⟩ := HI0.out; have hcz6_0 := cellS57_0 HGz6; have hcz6_1 := cellS57_1 HGz6; have hcz6_2 := cellS57_2 HGz6; have hfz6_1 := blk_frozen HGz6 1; have hfz6_2 := blk_frozen HGz6 2; clear HGz6 hgz6; obtain ⟨ad199, e199, hx199_0, p199, q199⟩ := atI HSz6_0 s0_1; cases e199; replace hx199_0 := pw_cell_below HB.out hx199_0; go_enter Try.func93, Try.ntmps93; go_wp2
   repeat (go_quiet (fail); try go_wp2)
   go_ret; exact ⟨sr, iS HI0.out, bs1 HB.out (IsS57.ge HI0.out), kb HK.out⟩
  rw [if_neg c3] at H; exact absurd H (by simp)
 rw [if_neg c2] at H; have c2b0 := decide_eq_false c2; clear c2
 by_cases c7 : (wrap64 (s0_1 + 1)) ≤ (s0_0.length : Int)
 ·rw [if_pos c7] at H; have c7b0 := decide_eq_true c7; clear c7; simp only [Option.some.injEq, Prod.mk.injEq, Int.add_zero] at H; obtain ⟨rfl, rfl, rfl⟩ := H; obtain ⟨ASz8_0, cSz8_0, HGz8, hgz8, HSz8_0⟩ := HI0.out; have hcz8_0 := cellS57_0 HGz8; have hcz8_1 := cellS57_1 HGz8; have hcz8_2 := cellS57_2 HGz8; have hfz8_1 := blk_frozen HGz8 1; have hfz8_2 := blk_frozen HGz8 2; clear HGz8 hgz8; go_enter Try.func93, Try.ntmps93; go_wp2
  repeat (go_quiet (fail); try go_wp2)
  go_ret; exact ⟨sr, iS HI0.out, bs1 HB.out (IsS57.ge HI0.out), kb HK.out⟩
 rw [if_neg c7] at H; have c7b0 := decide_eq_false c7; clear c7; simp only [Option.some.injEq, Prod.mk.injEq, Int.add_zero] at H; obtain ⟨rfl, rfl, rfl⟩ := H; obtain ⟨ASz9_0, cSz9_0, HGz9, hgz9, HSz9_0⟩ := HI0.out; have hcz9_0 := cellS57_0 HGz9; have hcz9_1 := cellS57_1 HGz9; have hcz9_2 := cellS57_2 HGz9; have hfz9_1 := blk_frozen HGz9 1; have hfz9_2 := blk_frozen HGz9 2; clear HGz9 hgz9; go_enter Try.func93, Try.ntmps93; go_wp2
 repeat (go_quiet (fail); try go_wp2)
 go_ret; exact ⟨sr, iS HI0.out, bs1 HB.out (IsS57.ge HI0.out), kb HK.out⟩
/-! ### spec_l1Cur_pick: function 63 -/
def spec_l1Cur_pick.f (s0_0 : List Int) (s0_1 : Int) (s0_2 : Int) (a1 : Int) : Option (Int × Int × Int) := if a1 ≤ 1 then (some (0, s0_1, s0_2)) else ((spec_l1Cur_next.f s0_0 s0_1 s0_2).bind fun bt200 => (if a1 > 200 then ((spec_l1Cur_next.f s0_0 bt200.2.1 bt200.2.2).bind fun bt203 => (if a1 = 0 then (none) else (some (Int.tmod (wrap64 ((wrap64 (bt200.1 * 256)) + bt203.1)) a1, bt203.2.1, bt203.2.2)))) else (if a1 = 0 then (none) else (some (Int.tmod bt200.1 a1, bt200.2.1, bt200.2.2)))))
theorem spec_l1Cur_pick.calls (g : Nat) (s0_0 : List Int) (s0_1 : Int) (s0_2 : Int) (a1 : Int) (r1 : Int) (r2 : Int) (r3 : Int) (w0 w : World) (hI : IsS57 w0 w g s0_0 s0_1 s0_2) (hB : Below w0.heap.size w0 w) (h : spec_l1Cur_pick.f s0_0 s0_1 s0_2 a1 = some (r1, r2, r3)) :
  Calls Try.prog 63 #[.pointer (some ⟨g, 0, none⟩), .int .i64 a1] w fun e w' => e = .returned (.int .i64 r1) ∧ IsS57 w0 w' g s0_0 r2 r3 ∧ Below w0.heap.size w0 w' ∧ KeepBut w w' g none := by
 have HI0 := Aside0.mk hI; have HK := Aside0.mk (KeepBut.refl w g none); have HL := Aside0.mk hB.size; clear hI; have HW0 := Aside0.mk hB.size; have HB := Aside0.mk hB; clear hB; have H : (if a1 ≤ 1 then (some (0, s0_1, s0_2)) else ((spec_l1Cur_next.f s0_0 s0_1 s0_2).bind fun bt200 => (if a1 > 200 then ((spec_l1Cur_next.f s0_0 bt200.2.1 bt200.2.2).bind fun bt203 => (if a1 = 0 then (none) else (some (Int.tmod (wrap64 ((wrap64 (bt200.1 * 256)) + bt203.1)) a1, bt203.2.1, bt203.2.2)))) else (if a1 = 0 then (none) else (some (Int.tmod bt200.1 a1, bt200.2.1, bt200.2.2)))))) = some (r1, r2, r3) := h; clear h
 by_cases c3 : a1 ≤ 1
 ·rw [if_pos c3] at H; have c3b0 := decide_eq_true c3; clear c3; simp only [Option.some.injEq, Prod.mk.injEq] at H; obtain ⟨rfl, rfl, rfl⟩ := H; go_enter Try.func63, Try.ntmps63; go_wp2; go_ret; exact ⟨sr, iS HI0.out, bs1 HB.out (IsS57.ge HI0.out), kb HK.out⟩
 rw [if_neg c3] at H; have c3b0 := decide_eq_false c3; clear c3; obtain ⟨⟨t200, t201, t202⟩, A4, H⟩ := bi H; (try dsimp only at H)
 by_cases c5 : a1 > 200
 ·rw [if_pos c5] at H; have c5b0 := decide_eq_true c5; clear c5; obtain ⟨⟨t203, t204, t205⟩, A6, H⟩ := bi H; (try dsimp only at H)
  by_cases c7 : a1 = 0
  ·rw [if_pos c7] at H; exact absurd H (by simp)
  rw [if_neg c7] at H; have c7b0 := beq_eq_false_iff_ne.mpr c7; have c7b1 := bne_iff_ne.mpr c7; simp only [Option.some.injEq, Prod.mk.injEq] at H; obtain ⟨rfl, rfl, rfl⟩ := H; go_enter Try.func63, Try.ntmps63; go_wp2_with (first | ((with_reducible refine gate_callee (f := 93) rfl ?_); refine goesL_ (some 9) rfl rfl Try.func93 (by kernel_rfl) rfl #[.pointer (some ⟨g, 0, none⟩)] rfl mp ?_; (with_reducible refine (spec_l1Cur_next.calls g s0_0 s0_1 s0_2 t200 t201 t202 w0 _ ?side1 ?side2 A4.out).mono ?_); (case side1 => exact iS HI0.out); (case side2 => exact bs1 HB.out (IsS57.ge HI0.out)); rintro e w8 ⟨rfl, hi, hb, hk⟩; refine ⟨_, rfl, ?_⟩; replace HK := kt HK hk; replace HB := Aside0.mk (hb); replace HI0 := Aside0.mk (hi)) | ((with_reducible refine gate_callee (f := 93) rfl ?_); refine goesL_ (some 15) rfl rfl Try.func93 (by kernel_rfl) rfl #[.pointer (some ⟨g, 0, none⟩)] rfl mp ?_; (with_reducible refine (spec_l1Cur_next.calls g s0_0 t201 t202 t203 t204 t205 w0 _ ?side1 ?side2 A6.out).mono ?_); (case side1 => exact iS HI0.out); (case side2 => exact bs1 HB.out (IsS57.ge HI0.out)); rintro e w9 ⟨rfl, hi, hb, hk⟩; refine ⟨_, rfl, ?_⟩; replace HK := kt HK hk; replace HB := Aside0.mk (hb); replace HI0 := Aside0.mk (hi))); go_ret; exact ⟨sr, iS HI0.out, bs1 HB.out (IsS57.ge HI0.out), kb HK.out⟩
 rw [if_neg c5] at H; have c5b0 := decide_eq_false c5; clear c5
 by_cases c10 : a1 = 0
 ·rw [if_pos c10] at H; exact absurd H (by simp)
 rw [if_neg c10] at H; have c10b0 := beq_eq_false_iff_ne.mpr c10; have c10b1 := bne_iff_ne.mpr c10; simp only [Option.some.injEq, Prod.mk.injEq] at H; obtain ⟨rfl, rfl, rfl⟩ := H; go_enter Try.func63, Try.ntmps63; go_wp2_with (first | ((with_reducible refine gate_callee (f := 93) rfl ?_); refine goesL_ (some 9) rfl rfl Try.func93 (by kernel_rfl) rfl #[.pointer (some ⟨g, 0, none⟩)] rfl mp ?_; (with_reducible refine (spec_l1Cur_next.calls g s0_0 s0_1 s0_2 t200 t201 t202 w0 _ ?side1 ?side2 A4.out).mono ?_); (case side1 => exact iS HI0.out); (case side2 => exact bs1 HB.out (IsS57.ge HI0.out)); rintro e w11 ⟨rfl, hi, hb, hk⟩; refine ⟨_, rfl, ?_⟩; replace HK := kt HK hk; replace HB := Aside0.mk (hb); replace HI0 := Aside0.mk (hi))); go_ret; exact ⟨sr, iS HI0.out, bs1 HB.out (IsS57.ge HI0.out), kb HK.out⟩
/-! ### spec_l1Cur_one: function 64 -/
def spec_l1Cur_one.f (s0_0 : List Int) (s0_1 : Int) (s0_2 : Int) (a1 : Int) : Option (Bool × Int × Int) := (spec_l1Cur_pick.f s0_0 s0_1 s0_2 a1).bind fun bt206 => (some ((bt206.1 == 0), bt206.2.1, bt206.2.2))
theorem spec_l1Cur_one.calls (g : Nat) (s0_0 : List Int) (s0_1 : Int) (s0_2 : Int) (a1 : Int) (r1 : Bool) (r2 : Int) (r3 : Int) (w0 w : World) (hI : IsS57 w0 w g s0_0 s0_1 s0_2) (hB : Below w0.heap.size w0 w) (h : spec_l1Cur_one.f s0_0 s0_1 s0_2 a1 = some (r1, r2, r3)) :
  Calls Try.prog 64 #[.pointer (some ⟨g, 0, none⟩), .int .i64 a1] w fun e w' => e = .returned (.bool r1) ∧ IsS57 w0 w' g s0_0 r2 r3 ∧ Below w0.heap.size w0 w' ∧ KeepBut w w' g none := by
 have HI0 := Aside0.mk hI; have HK := Aside0.mk (KeepBut.refl w g none); have HL := Aside0.mk hB.size; clear hI; have HW0 := Aside0.mk hB.size; have HB := Aside0.mk hB; clear hB; have H : ((spec_l1Cur_pick.f s0_0 s0_1 s0_2 a1).bind fun bt206 => (some ((bt206.1 == 0), bt206.2.1, bt206.2.2))) = some (r1, r2, r3) := h; clear h; obtain ⟨⟨t206, t207, t208⟩, A3, H⟩ := bi H; (try dsimp only at H); simp only [Option.some.injEq, Prod.mk.injEq] at H; obtain ⟨rfl, rfl, rfl⟩ := H; go_enter Try.func64, Try.ntmps64; go_wp2_with (first | (go_at_call 63; (with_reducible refine (spec_l1Cur_pick.calls g s0_0 s0_1 s0_2 a1 t206 t207 t208 w0 _ ?side1 (bs1 HB.out (IsS57.ge HI0.out)) A3.out).mono ?_); (case side1 => exact iS HI0.out); rintro e w4 ⟨rfl, hi, hb, hk⟩; replace HK := kt HK hk; replace HB := Aside0.mk (hb); replace HI0 := Aside0.mk (hi))); go_ret; exact ⟨sr, iS HI0.out, bs1 HB.out (IsS57.ge HI0.out), kb HK.out⟩
/-! ### spec_l1Cur_among: function 65 -/
def spec_l1Cur_among.f (s0_0 : List Int) (s0_1 : Int) (s0_2 : Int) (l1 : List Int) : Option (Int × Int × Int) := (spec_l1Cur_pick.f s0_0 s0_1 s0_2 (l1.length : Int)).bind fun bt209 => (if 0 ≤ bt209.1 then (if bt209.1 < (l1.length : Int) then (some (rd l1 bt209.1, bt209.2.1, bt209.2.2)) else (none)) else (none))
theorem spec_l1Cur_among.calls (g : Nat) (s0_0 : List Int) (s0_1 : Int) (s0_2 : Int) (A1 : Option Addr) (c1 : Nat) (l1 : List Int) (r1 : Int) (r2 : Int) (r3 : Int) (w0 w : World) (hI : IsS57 w0 w g s0_0 s0_1 s0_2) (hB : Below w0.heap.size w0 w) (hr1 : Kd.C (Kd.int .i64) w A1 l1.length l1) (hc1 : l1.length ≤ c1) (hf1 : ∀ ad, A1 = some ad → 0 < l1.length → ad.block ≠ g) (h : spec_l1Cur_among.f s0_0 s0_1 s0_2 l1 = some (r1, r2, r3)) :
  Calls Try.prog 65 #[.pointer (some ⟨g, 0, none⟩), .slice A1 l1.length c1] w fun e w' => e = .returned (.int .i64 r1) ∧ IsS57 w0 w' g s0_0 r2 r3 ∧ Below w0.heap.size w0 w' ∧ KeepBut w w' g none := by
 have HR1 := Aside0.mk hr1; have HC1 := Aside0.mk hc1; clear hr1 hc1; have HI0 := Aside0.mk hI; have HK := Aside0.mk (KeepBut.refl w g none); have HL := Aside0.mk hB.size; clear hI; have HW0 := Aside0.mk hB.size; have HB := Aside0.mk hB; clear hB; have H : ((spec_l1Cur_pick.f s0_0 s0_1 s0_2 (l1.length : Int)).bind fun bt209 => (if 0 ≤ bt209.1 then (if bt209.1 < (l1.length : Int) then (some (rd l1 bt209.1, bt209.2.1, bt209.2.2)) else (none)) else (none))) = some (r1, r2, r3) := h; clear h; obtain ⟨⟨t209, t210, t211⟩, A3, H⟩ := bi H; (try dsimp only at H)
 by_cases c4 : 0 ≤ t209
 ·rw [if_pos c4] at H; have c4b0 := decide_eq_true c4; clear c4
  by_cases c5 : t209 < (l1.length : Int)
  ·rw [if_pos c5] at H; have c5b0 := decide_eq_true c5; clear c5; simp only [Option.some.injEq, Prod.mk.injEq] at H; obtain ⟨rfl, rfl, rfl⟩ := H; go_enter Try.func65, Try.ntmps65; go_wp2_with (first | (go_at_call 63; (with_reducible refine (spec_l1Cur_pick.calls g s0_0 s0_1 s0_2 (l1.length : Int) t209 t210 t211 w0 _ ?side1 (bs1 HB.out (IsS57.ge HI0.out)) A3.out).mono ?_); (case side1 => exact iS HI0.out); rintro e w6 ⟨rfl, hi, hb, hk⟩; replace HK := kt HK hk; replace HB := Aside0.mk (hb); replace HI0 := Aside0.mk (hi); have p212 : 0 ≤ (t209 : Int) := od; have q212 : t209 < (l1.length : Int) := od; obtain ⟨ad212, e212, hx212_0⟩ := Kd.at_int HR1.out t209 p212 q212; cases e212; replace hx212_0 := keep_cell HK.out hx212_0 (by first | (rw [add_block]; exact hf1 _ rfl (by omega)) | exact hf1 _ rfl (by omega) | exact hf1 ad212 rfl (by omega)); replace p212 := eq_true p212; replace q212 := eq_true q212)); go_ret; exact ⟨sr, iS HI0.out, bs1 HB.out (IsS57.ge HI0.out), kb HK.out⟩
  rw [if_neg c5] at H; exact absurd H (by simp)
 rw [if_neg c4] at H; exact absurd H (by simp)
/-! ### spec_ahAll: function 91 -/
mutual
def spec_ahAll.l0 : Nat → Int → Int → List (List Int) → Int → Option ((List (List Int)))
 | 0, _, _, _, _ => none
 | k + 1, x0, x1, x5, x6 => if x6 < x0 then ((spec_ahAll.f k x6 (wrap64 (x1 + 1))).bind fun t216 => (spec_ahAll.l1 k x0 x1 x5 x6 t216 (t216.length : Int) 0)) else (some x5)
def spec_ahAll.l1 : Nat → Int → Int → List (List Int) → Int → List (List Int) → Int → Int → Option ((List (List Int)))
 | 0, _, _, _, _, _, _, _ => none
 | k + 1, x0, x1, x5, x6, x23, x24, x25 => if x25 < x24 then (if 0 ≤ x25 then (if x25 < (x23.length : Int) then ((spec_ahAll.f k (wrap64 ((wrap64 (x0 - 1)) - x6)) (wrap64 ((wrap64 (x1 + (wrap64 (2 * x6)))) + 2))).bind fun t220 => (spec_ahAll.l2 k x0 x1 x5 x6 (rd_L1 x23 x25) x23 x24 x25 t220 (t220.length : Int) 0)) else (none)) else (none)) else (spec_ahAll.l0 k x0 x1 x5 (wrap64 (x6 + 1)))
def spec_ahAll.l2 : Nat → Int → Int → List (List Int) → Int → List Int → List (List Int) → Int → Int → List (List Int) → Int → Int → Option ((List (List Int)))
 | 0, _, _, _, _, _, _, _, _, _, _, _ => none
 | k + 1, x0, x1, x5, x6, x8, x23, x24, x25, x38, x39, x40 => if x40 < x39 then (if 0 ≤ x40 then (if x40 < (x38.length : Int) then ((some (([wrap64 ((wrap64 (x1 + (wrap64 (2 * x6)))) + 1)] : List Int) : List Int)).bind fun y224 => (if y224.length + x8.length < 17592186044416 then ((some (y224 ++ x8 : List Int)).bind fun y227 => (if y227.length < 17592186044416 then ((some (y227 ++ [x1] : List Int)).bind fun y230 => (if y230.length + (rd_L1 x38 x40).length < 17592186044416 then (if x5.length < 5864062014805 then (spec_ahAll.l2 k x0 x1 (x5 ++ [(y230 ++ (rd_L1 x38 x40))]) x6 x8 x23 x24 x25 x38 x39 (wrap64 (x40 + 1))) else (none)) else (none))) else (none))) else (none))) else (none)) else (none)) else (spec_ahAll.l1 k x0 x1 x5 x6 x23 x24 (wrap64 (x25 + 1)))
def spec_ahAll.f : Nat → Int → Int → Option ((List (List Int)))
 | 0, _, _ => none
 | k + 1, a0, a1 => if a0 = 0 then (some (([[]] : List (List Int)))) else (spec_ahAll.l0 k a0 a1 ([] : List (List Int)) 0)
end
theorem spec_ahAll.mono_l : ∀ k, (∀ y0 y1, LeO (spec_ahAll.f k y0 y1) (spec_ahAll.f (k + 1) y0 y1)) ∧ (∀ y0 y1 y2 y3, LeO (spec_ahAll.l0 k y0 y1 y2 y3) (spec_ahAll.l0 (k + 1) y0 y1 y2 y3)) ∧ (∀ y0 y1 y2 y3 y4 y5 y6, LeO (spec_ahAll.l1 k y0 y1 y2 y3 y4 y5 y6) (spec_ahAll.l1 (k + 1) y0 y1 y2 y3 y4 y5 y6)) ∧ (∀ y0 y1 y2 y3 y4 y5 y6 y7 y8 y9 y10, LeO (spec_ahAll.l2 k y0 y1 y2 y3 y4 y5 y6 y7 y8 y9 y10) (spec_ahAll.l2 (k + 1) y0 y1 y2 y3 y4 y5 y6 y7 y8 y9 y10))
 | 0 => ⟨fun _ _ r h => by simp [spec_ahAll.f] at h, fun _ _ _ _ r h => by simp [spec_ahAll.l0] at h, fun _ _ _ _ _ _ _ r h => by simp [spec_ahAll.l1] at h, fun _ _ _ _ _ _ _ _ _ _ _ r h => by simp [spec_ahAll.l2] at h⟩
 | k + 1 => by
  obtain ⟨ih0, ih1, ih2, ih3⟩ := spec_ahAll.mono_l k
  refine ⟨?_, ?_, ?_, ?_⟩
  ·intro y0 y1
   unfold spec_ahAll.f
   repeat' first
   | (with_reducible exact ih0 _ _)
   | (with_reducible exact ih1 _ _ _ _)
   | (with_reducible exact ih2 _ _ _ _ _ _ _)
   | (with_reducible exact ih3 _ _ _ _ _ _ _ _ _ _ _)
   | (with_reducible exact LeO.refl _)
   | (with_reducible exact LeO.none _)
   | (with_reducible refine LeO.ite ?_ ?_)
   | (with_reducible refine LeO.bind ?_ (fun _ => ?_))
   | exact ih0 _ _
   | exact ih1 _ _ _ _
   | exact ih2 _ _ _ _ _ _ _
   | exact ih3 _ _ _ _ _ _ _ _ _ _ _
   | exact LeO.none _
   | refine LeO.ite ?_ ?_
   | refine LeO.bind ?_ (fun _ => ?_)
  ·intro y0 y1 y2 y3
   unfold spec_ahAll.l0
   repeat' first
   | (with_reducible exact ih0 _ _)
   | (with_reducible exact ih1 _ _ _ _)
   | (with_reducible exact ih2 _ _ _ _ _ _ _)
   | (with_reducible exact ih3 _ _ _ _ _ _ _ _ _ _ _)
   | (with_reducible exact LeO.refl _)
   | (with_reducible exact LeO.none _)
   | (with_reducible refine LeO.ite ?_ ?_)
   | (with_reducible refine LeO.bind ?_ (fun _ => ?_))
   | exact ih0 _ _
   | exact ih1 _ _ _ _
   | exact ih2 _ _ _ _ _ _ _
   | exact ih3 _ _ _ _ _ _ _ _ _ _ _
   | exact LeO.none _
   | refine LeO.ite ?_ ?_
   | refine LeO.bind ?_ (fun _ => ?_)
  ·intro y0 y1 y2 y3 y4 y5 y6
   unfold spec_ahAll.l1
   repeat' first
   | (with_reducible exact ih0 _ _)
   | (with_reducible exact ih1 _ _ _ _)
   | (with_reducible exact ih2 _ _ _ _ _ _ _)
   | (with_reducible exact ih3 _ _ _ _ _ _ _ _ _ _ _)
   | (with_reducible exact LeO.refl _)
   | (with_reducible exact LeO.none _)
   | (with_reducible refine LeO.ite ?_ ?_)
   | (with_reducible refine LeO.bind ?_ (fun _ => ?_))
   | exact ih0 _ _
   | exact ih1 _ _ _ _
   | exact ih2 _ _ _ _ _ _ _
   | exact ih3 _ _ _ _ _ _ _ _ _ _ _
   | exact LeO.none _
   | refine LeO.ite ?_ ?_
   | refine LeO.bind ?_ (fun _ => ?_)
  ·intro y0 y1 y2 y3 y4 y5 y6 y7 y8 y9 y10
   unfold spec_ahAll.l2
   repeat' first
   | (with_reducible exact ih0 _ _)
   | (with_reducible exact ih1 _ _ _ _)
   | (with_reducible exact ih2 _ _ _ _ _ _ _)
   | (with_reducible exact ih3 _ _ _ _ _ _ _ _ _ _ _)
   | (with_reducible exact LeO.refl _)
   | (with_reducible exact LeO.none _)
   | (with_reducible refine LeO.ite ?_ ?_)
   | (with_reducible refine LeO.bind ?_ (fun _ => ?_))
   | exact ih0 _ _
   | exact ih1 _ _ _ _
   | exact ih2 _ _ _ _ _ _ _
   | exact ih3 _ _ _ _ _ _ _ _ _ _ _
   | exact LeO.none _
   | refine LeO.ite ?_ ?_
   | refine LeO.bind ?_ (fun _ => ?_)
theorem spec_ahAll.mono : ∀ a0 a1 k, LeO (spec_ahAll.f k a0 a1) (spec_ahAll.f (k + 1) a0 a1) := by
 intro a0 a1 k; obtain ⟨ih0, ih1, ih2, ih3⟩ := spec_ahAll.mono_l k; exact ih0 a0 a1
theorem spec_ahAll.calls (k : Nat) : ∀ (a0 : Int) (a1 : Int) (r : List (List Int)) (w : World) (h : spec_ahAll.f k a0 a1 = some r),
  Calls Try.prog 91 #[.int .i64 a0, .int .i64 a1] w fun e w' => ∃ v0_ : Value, e = .returned (v0_) ∧ Kd.S (Kd.slice 3 (Kd.int .i64)) 35 w' w.heap.size (fun _ => True) v0_ r ∧ Below w.heap.size w w' := by
 induction k using Nat.strongRecOn with
 | _ k ih =>
 intro a0 a1 r w h
 cases k with
 | zero => exact absurd h (by simp [spec_ahAll.f])
 | succ k =>
 simp only [spec_ahAll.f] at h; have HB := Aside0.mk (Below.refl w.heap.size w); have H : (if a0 = 0 then (some (([[]] : List (List Int)))) else (spec_ahAll.l0 k a0 a1 ([] : List (List Int)) 0)) = some r := h; clear h
 by_cases c3 : a0 = 0
 ·rw [if_pos c3] at H; have c3b0 := beq_iff_eq.mpr c3; have c3b1 := bne_eq_false_iff_eq.mpr c3; clear c3; obtain ⟨y213, hy213⟩ := yy (([[]] : List (List Int)))
  (try rw [Option.bind_some] at H); (try dsimp only at H); rw [← hy213] at H
  have Ny213 := Aside0.mk hy213; clear hy213; obtain rfl := Option.some.inj H; go_enter Try.func91, Try.ntmps91; go_wp2_with (first | ((with_reducible refine gate_dst (N := 14) rfl ?_); refine Kd.S_lit (Kd.slice 3 (Kd.int .i64)) _ 35 ?hg (N := 14) ?hd (xs := ([[]] : List (List Int))) (inner := [.slice none 0 0]) (ok := fun _ => True) (okp := fun _ => True) ?hr ?hp (fun _ hk => hk) trivial (Below.refl _ _) (Nat.le_refl _) (by simp) ?_; (case hd => rfl); (case hg => rfl); (case hr => first | (go_simp; done) | (go_simp; rfl)); (case hp => exact (Reps.one (show Kd.M (Kd.slice 3 (Kd.int .i64)) _ _ _ [] [.slice none 0 0] from ⟨_, rfl, Kd.R_nil _ _ _ _ _⟩) (Reps.none _ _))); intro v214 w4 ho5 hb hg_ hnew_; clear hg_ hnew_; (first | rw [← Ny213.out] at ho5 | (simp only [Int.reduceToNat] at ho5; rw [← Ny213.out] at ho5)); have HO215 := Aside0.mk (Kd.S_lower ho5 (below_size (by repeat (first | (with_reducible first | exact HB.out | apply below_alloc | apply pw_below_drewN | apply below_drew1) | exact HB.out)))); replace HB := Aside0.mk (below_step (by repeat (first | (with_reducible first | exact HB.out | apply below_alloc | apply pw_below_drewN | apply below_drew1) | exact HB.out)) hb); clear hb ho5)); go_ret; exact ⟨_, sr, rS HO215.out, by repeat (first | (with_reducible first | exact HB.out | apply below_alloc | apply pw_below_drewN | apply below_drew1) | exact HB.out)⟩
 rw [if_neg c3] at H; have c3b0 := beq_eq_false_iff_ne.mpr c3; have c3b1 := bne_iff_ne.mpr c3; have H' := Aside0.mk H; clear H; go_enter Try.func91, Try.ntmps91; go_wp2
 go_loopg [5, 6] k (fun kq v5 v6 w' => ∃ (x5_1 : List (List Int)) (x6_1 : Int), v6 = .int .i64 x6_1 ∧ Aside0 (spec_ahAll.l0 kq a0 a1 x5_1 x6_1 = some r) ∧ Aside0 (kq ≤ k) ∧ Aside0 (Kd.S (Kd.slice 3 (Kd.int .i64)) 35 w' w.heap.size (fun _ => True) v5 x5_1) ∧ Aside0 (Below w.heap.size w w'))
 case atStart => exact ⟨(([] : List (List Int))), (0), (sr2), H', ⟨Nat.le_refl _⟩, ⟨by first | exact Kd.S_nil _ _ _ _ _ | exact Kd.N_nil _ _ _ _ _ | exact Kd.V_nil _ _ _ _ _ | exact Kd.Q_nil _ _ _ _ _ | exact Kd.R_nil _ _ _ _ _⟩, ⟨by repeat (first | (with_reducible first | exact HB.out | apply below_alloc | apply pw_below_drewN | apply below_drew1) | exact HB.out)⟩⟩
 case round =>
  clear H'; (try clear p2); (try clear c3); (try clear c3b0); (try clear c3b1); obtain ⟨x5_1, x6_1, rfl, HA, HK1, HO_5, HB⟩ := hrel
  cases gk with
  | zero => exact absurd HA.out (by simp [spec_ahAll.l0])
  | succ k1 =>
   have H := HA.out; clear HA; simp only [spec_ahAll.l0] at H
   by_cases c6 : x6_1 < a0
   ·rw [if_pos c6] at H; have c6b0 := decide_eq_true c6; clear c6; obtain ⟨t216, A7, H⟩ := bi H; (try dsimp only at H); have H' := Aside0.mk H; clear H; go_wp2_with (first | ((with_reducible refine gate_callee (f := 91) rfl ?_); refine goesL_ (some 23) rfl rfl Try.func91 (by kernel_rfl) rfl #[.int .i64 x6_1, .int .i64 (wrap64 (a1 + 1))] rfl mp ?_; (with_reducible refine (ih k1 (by have := HK1.out; omega) x6_1 (wrap64 (a1 + 1)) t216 _ A7.out).mono ?_); rintro e w8 ⟨v217, rfl, ho0, hb⟩; refine ⟨_, rfl, ?_⟩; have HO218 := Aside0.mk (Kd.S_lower (Kd.S_new' ho0 (Kd.S_lt (rS HO_5.out))) (below_size (by repeat (first | (with_reducible first | exact HB.out | apply below_alloc | apply pw_below_drewN | apply below_drew1) | exact HB.out)))); replace HO_5 := Aside0.mk (Kd.S_elder' (rS HO_5.out) (Kd.S_base ho0) hb); replace HB := Aside0.mk (below_step (by repeat (first | (with_reducible first | exact HB.out | apply below_alloc | apply pw_below_drewN | apply below_drew1) | exact HB.out)) hb); (try clear hb); (try clear hb2); (try clear hk); (try clear hi); (try clear ho0); obtain ⟨Ao9, co9, eo9⟩ := Kd.S_slice HO218.out; subst eo9))
    go_loopg [5, 25] k1 (fun kq v5 v25 w' => ∃ (x5_2 : List (List Int)) (x25_2 : Int), v25 = .int .i64 x25_2 ∧ Aside0 (spec_ahAll.l1 kq a0 a1 x5_2 x6_1 t216 (t216.length : Int) x25_2 = some r) ∧ Aside0 (kq ≤ k1) ∧ Aside0 (Kd.S (Kd.slice 3 (Kd.int .i64)) 35 w' w.heap.size (fun k_ => some k_ ≠ ((.slice Ao9 t216.length co9) : Value).ownBlock) v5 x5_2) ∧ Aside0 (Kd.S (Kd.slice 3 (Kd.int .i64)) 35 w' w.heap.size (fun k_ => some k_ ≠ (v5 : Value).ownBlock) (.slice Ao9 t216.length co9) t216) ∧ Aside0 (Below w.heap.size w w'))
    case atStart => exact ⟨(x5_1), (0), (sr2), H', ⟨Nat.le_refl _⟩, ⟨rS (Kd.S_mono HO_5.out (fun _ hk => hk.2))⟩, ⟨rS (Kd.S_mono HO218.out (fun _ hk => hk.2))⟩, ⟨by repeat (first | (with_reducible first | exact HB.out | apply below_alloc | apply pw_below_drewN | apply below_drew1) | exact HB.out)⟩⟩
    case round =>
     clear H'; (try clear p2); (try clear c3); (try clear c3b0); (try clear c3b1); (try clear c6); (try clear c6b0); (try clear p6); (try clear c9); (try clear p2); obtain ⟨x5_2, x25_2, rfl, HA, HK2, HO_5, HO_23, HB⟩ := hrel
     cases gk with
     | zero => exact absurd HA.out (by simp [spec_ahAll.l1])
     | succ k2 =>
      have H := HA.out; clear HA; simp only [spec_ahAll.l1] at H
      by_cases c10 : x25_2 < (t216.length : Int)
      ·rw [if_pos c10] at H; have c10b0 := decide_eq_true c10; clear c10
       by_cases c11 : 0 ≤ x25_2
       ·rw [if_pos c11] at H; have c11b0 := decide_eq_true c11; clear c11
        by_cases c12 : x25_2 < (t216.length : Int)
        ·rw [if_pos c12] at H; have c12b0 := decide_eq_true c12; clear c12; obtain ⟨t220, A13, H⟩ := bi H; (try dsimp only at H); have H' := Aside0.mk H; clear H; have p219 : 0 ≤ (x25_2 : Int) := od; have q219 : x25_2 < (t216.length : Int) := od; obtain ⟨ad219, A219_0, c219_0, e219, hx219_0, hl219_0, hi219_0⟩ := at_L1 (Kd.S_reads' HO_23.out).2.2 x25_2 p219 q219; cases e219; obtain ⟨ce219, hce219, hMe219, hcc219⟩ := Kd.S_get HO_23.out [] x25_2 p219 (by first | exact q219 | exact od | (have e_ := (Kd.S_reads' HO_23.out).1; omega)); obtain ⟨ve219_0, rfl, ge219_0⟩ := hMe219; have hv219_0 := hcc219 0 _ rfl; rw [Nat.add_zero, show ((Kd.slice 3 (Kd.int .i64))).sz = 1 from rfl, Nat.mul_one] at hv219_0; replace hv219_0 := Option.some.inj (hv219_0.symm.trans hx219_0); rw [hv219_0] at ge219_0; have HL219_0 := Aside0.mk (show Kd.R (Kd.int .i64) 3 _ _ _ _ (rd_L1 t216 x25_2) from ge219_0); clear hv219_0 ge219_0; clear hcc219 hce219; have HR219_0 := Aside0.mk hi219_0; have HC219_0 := Aside0.mk hl219_0; clear hi219_0 hl219_0; replace p219 := eq_true p219; replace q219 := eq_true q219; go_wp2_with (first | ((with_reducible refine gate_callee (f := 91) rfl ?_); refine goesL_ (some 38) rfl rfl Try.func91 (by kernel_rfl) rfl #[.int .i64 (wrap64 ((wrap64 (a0 - 1)) - x6_1)), .int .i64 (wrap64 ((wrap64 (a1 + (wrap64 (2 * x6_1)))) + 2))] rfl mp ?_; (with_reducible refine (ih k2 (by have := HK1.out; have := HK2.out; omega) (wrap64 ((wrap64 (a0 - 1)) - x6_1)) (wrap64 ((wrap64 (a1 + (wrap64 (2 * x6_1)))) + 2)) t220 _ A13.out).mono ?_); rintro e w14 ⟨v221, rfl, ho0, hb⟩; refine ⟨_, rfl, ?_⟩; have HO222 := Aside0.mk (Kd.S_lower (Kd.S_new' (Kd.S_new' (Kd.S_new' ho0 (Kd.S_lt (rS HO_5.out))) (Kd.S_lt (rS HO_23.out))) (Kd.R_lt (rR HL219_0.out))) (below_size (by repeat (first | (with_reducible first | exact HB.out | apply below_alloc | apply pw_below_drewN | apply below_drew1) | exact HB.out)))); replace HO_5 := Aside0.mk (Kd.S_elder' (rS HO_5.out) (Kd.S_base ho0) hb); replace HO_23 := Aside0.mk (Kd.S_elder' (rS HO_23.out) (Kd.S_base ho0) hb); replace HL219_0 := Aside0.mk (Kd.R_below (rR HL219_0.out) hb); replace HR219_0 := Aside0.mk (Kd.C_below (by repeat (first | (with_reducible exact HR219_0.out) | (with_reducible refine Kd.C_alloc ?_ _) | (with_reducible refine Kd.C_drewN ?_ _) | (with_reducible refine Kd.C_drew ?_) | exact HR219_0.out)) hb); replace HB := Aside0.mk (below_step (by repeat (first | (with_reducible first | exact HB.out | apply below_alloc | apply pw_below_drewN | apply below_drew1) | exact HB.out)) hb); (try clear hb); (try clear hb2); (try clear hk); (try clear hi); (try clear ho0); obtain ⟨Ao15, co15, eo15⟩ := Kd.S_slice HO222.out; subst eo15))
         go_loopg [5, 40] k2 (fun kq v5 v40 w' => ∃ (x5_3 : List (List Int)) (x40_3 : Int), v40 = .int .i64 x40_3 ∧ Aside0 (spec_ahAll.l2 kq a0 a1 x5_3 x6_1 (rd_L1 t216 x25_2) t216 (t216.length : Int) x25_2 t220 (t220.length : Int) x40_3 = some r) ∧ Aside0 (kq ≤ k2) ∧ Aside0 (Kd.S (Kd.slice 3 (Kd.int .i64)) 35 w' w.heap.size (fun k_ => some k_ ≠ ((.slice (some ad219) t216.length co9) : Value).ownBlock ∧ some k_ ≠ ((.slice Ao15 t220.length co15) : Value).ownBlock) v5 x5_3) ∧ Aside0 (Kd.R (Kd.int .i64) 3 w' w.heap.size (fun _ => True) (.slice A219_0 (rd_L1 t216 x25_2).length c219_0) (rd_L1 t216 x25_2)) ∧ Aside0 (Kd.S (Kd.slice 3 (Kd.int .i64)) 35 w' w.heap.size (fun k_ => some k_ ≠ (v5 : Value).ownBlock ∧ some k_ ≠ ((.slice Ao15 t220.length co15) : Value).ownBlock) (.slice (some ad219) t216.length co9) t216) ∧ Aside0 (Kd.S (Kd.slice 3 (Kd.int .i64)) 35 w' w.heap.size (fun k_ => some k_ ≠ (v5 : Value).ownBlock ∧ some k_ ≠ ((.slice (some ad219) t216.length co9) : Value).ownBlock) (.slice Ao15 t220.length co15) t220) ∧ Aside0 (Below w.heap.size w w'))
         case atStart => exact ⟨(x5_2), (0), (sr2), H', ⟨Nat.le_refl _⟩, ⟨rS HO_5.out⟩, ⟨rR (Kd.R_mono HL219_0.out (fun _ hk => trivial))⟩, ⟨rS HO_23.out⟩, ⟨rS (Kd.S_mono HO222.out (fun _ hk => ⟨hk.1.1.2, hk.1.2⟩))⟩, ⟨by repeat (first | (with_reducible first | exact HB.out | apply below_alloc | apply pw_below_drewN | apply below_drew1) | exact HB.out)⟩⟩
         case round =>
          clear H'; (try clear c1); (try clear c2); (try clear p2); (try clear q2); (try clear hx2); (try clear c3); (try clear c3b0); (try clear c3b1); (try clear c6); (try clear c6b0); (try clear p6); (try clear c9); (try clear c10); (try clear c10b0); (try clear c11); (try clear c11b0); (try clear c12); (try clear c12b0); (try clear hx219_0); (try clear p2); (try clear p219); (try clear p6); (try clear q219); obtain ⟨x5_3, x40_3, rfl, HA, HK3, HO_5, HO_8, HO_23, HO_38, HB⟩ := hrel
          cases gk with
          | zero => exact absurd HA.out (by simp [spec_ahAll.l2])
          | succ k3 =>
           have H := HA.out; clear HA; simp only [spec_ahAll.l2] at H
           by_cases c16 : x40_3 < (t220.length : Int)
           ·rw [if_pos c16] at H; have c16b0 := decide_eq_true c16; clear c16
            by_cases c17 : 0 ≤ x40_3
            ·rw [if_pos c17] at H; have c17b0 := decide_eq_true c17; clear c17
             by_cases c18 : x40_3 < (t220.length : Int)
             ·rw [if_pos c18] at H; have c18b0 := decide_eq_true c18; clear c18; obtain ⟨y224, hy224⟩ := yy (([wrap64 ((wrap64 (a1 + (wrap64 (2 * x6_1)))) + 1)] : List Int))
              (try rw [Option.bind_some] at H); (try dsimp only at H); rw [← hy224] at H
              have Ny224 := Aside0.mk hy224; clear hy224
              by_cases c19 : y224.length + (rd_L1 t216 x25_2).length < 17592186044416
              ·rw [if_pos c19] at H; have LMc19 := Aside0.mk c19; clear c19; obtain ⟨y227, hy227⟩ := yy (y224 ++ (rd_L1 t216 x25_2))
               (try rw [Option.bind_some] at H); (try dsimp only at H); rw [← hy227] at H
               have Ny227 := Aside0.mk hy227; clear hy227
               by_cases c20 : y227.length < 17592186044416
               ·rw [if_pos c20] at H; have LMc20 := Aside0.mk c20; clear c20; obtain ⟨y230, hy230⟩ := yy (y227 ++ [a1])
                (try rw [Option.bind_some] at H); (try dsimp only at H); rw [← hy230] at H
                have Ny230 := Aside0.mk hy230; clear hy230
                by_cases c21 : y230.length + (rd_L1 t220 x40_3).length < 17592186044416
                ·rw [if_pos c21] at H; have LMc21 := Aside0.mk c21; clear c21; obtain ⟨y233, hy233⟩ := yy (y230 ++ (rd_L1 t220 x40_3))
                 (try rw [Option.bind_some] at H); (try dsimp only at H); rw [← hy233] at H
                 have Ny233 := Aside0.mk hy233; clear hy233
                 by_cases c22 : x5_3.length < 5864062014805
                 ·rw [if_pos c22] at H; have LMc22 := Aside0.mk c22; clear c22; obtain ⟨y236, hy236⟩ := yy (x5_3 ++ [y233])
                  (try rw [Option.bind_some] at H); (try dsimp only at H); rw [← hy236] at H
                  have Ny236 := Aside0.mk hy236; clear hy236; have H' := Aside0.mk H; clear H; have p223 : 0 ≤ (x40_3 : Int) := od; have q223 : x40_3 < (t220.length : Int) := od; obtain ⟨ad223, A223_0, c223_0, e223, hx223_0, hl223_0, hi223_0⟩ := at_L1 (Kd.S_reads' HO_38.out).2.2 x40_3 p223 q223; cases e223; obtain ⟨ce223, hce223, hMe223, hcc223⟩ := Kd.S_get HO_38.out [] x40_3 p223 (by first | exact q223 | exact od | (have e_ := (Kd.S_reads' HO_38.out).1; omega)); obtain ⟨ve223_0, rfl, ge223_0⟩ := hMe223; have hv223_0 := hcc223 0 _ rfl; rw [Nat.add_zero, show ((Kd.slice 3 (Kd.int .i64))).sz = 1 from rfl, Nat.mul_one] at hv223_0; replace hv223_0 := Option.some.inj (hv223_0.symm.trans hx223_0); rw [hv223_0] at ge223_0; have HL223_0 := Aside0.mk (show Kd.R (Kd.int .i64) 3 _ _ _ _ (rd_L1 t220 x40_3) from ge223_0); clear hv223_0 ge223_0; clear hcc223 hce223; have HR223_0 := Aside0.mk hi223_0; have HC223_0 := Aside0.mk hl223_0; clear hi223_0 hl223_0; replace p223 := eq_true p223; replace q223 := eq_true q223; go_wp2_with (first | ((with_reducible refine gate_dst (N := 49) rfl ?_); refine Kd.R_lit (Kd.int .i64) _ 3 ?hg (N := 49) ?hd (xs := ([wrap64 ((wrap64 (a1 + (wrap64 (2 * x6_1)))) + 1)] : List Int)) (inner := [.int .i64 (wrap64 ((wrap64 (a1 + (wrap64 (2 * x6_1)))) + 1))]) (ok := fun _ => True) (okp := fun _ => True) ?hr ?hp (fun _ hk => hk) trivial (Below.refl _ _) (Nat.le_refl _) (by simp) ?_; (case hd => rfl); (case hg => rfl); (case hr => first | (go_simp; done) | (go_simp; rfl)); (case hp => exact (Reps.one (show Kd.M (Kd.int .i64) _ _ _ (wrap64 ((wrap64 (a1 + (wrap64 (2 * x6_1)))) + 1)) [.int .i64 (wrap64 ((wrap64 (a1 + (wrap64 (2 * x6_1)))) + 1))] from rfl) (Reps.none _ _))); intro v225 w23 ho24 hb hg_ hnew_; clear hg_ hnew_; (first | rw [← Ny224.out] at ho24 | (simp only [Int.reduceToNat] at ho24; rw [← Ny224.out] at ho24)); replace HO_5 := Aside0.mk (Kd.S_elder' (rS HO_5.out) (Kd.R_base ho24) hb); replace HO_23 := Aside0.mk (Kd.S_elder' (rS HO_23.out) (Kd.R_base ho24) hb); replace HO_38 := Aside0.mk (Kd.S_elder' (rS HO_38.out) (Kd.R_base ho24) hb); have HO226 := Aside0.mk (Kd.R_lower (Kd.R_new' (Kd.R_new' ho24 (Kd.R_lt (rR HO_8.out))) (Kd.R_lt (rR HL223_0.out))) (below_size (by repeat (first | (with_reducible first | exact HB.out | apply below_alloc | apply pw_below_drewN | apply below_drew1) | exact HB.out)))); replace HO_8 := Aside0.mk (Kd.R_elder' (rR HO_8.out) (Kd.R_base ho24) hb); replace HL223_0 := Aside0.mk (Kd.R_elder' (rR HL223_0.out) (Kd.R_base ho24) hb); replace HR223_0 := Aside0.mk (Kd.C_below (by repeat (first | (with_reducible exact HR223_0.out) | (with_reducible refine Kd.C_alloc ?_ _) | (with_reducible refine Kd.C_drewN ?_ _) | (with_reducible refine Kd.C_drew ?_) | exact HR223_0.out)) hb); replace HB := Aside0.mk (below_step (by repeat (first | (with_reducible first | exact HB.out | apply below_alloc | apply pw_below_drewN | apply below_drew1) | exact HB.out)) hb); clear hb ho24) | ((with_reducible refine gate_builtin (b := .append) (xs := #[.tmp 49, .tmp 50]) rfl ?_); at_builtin; refine Kd.R_append_rows (Kd.int .i64) (w0 := w) w.heap.size rfl (.tmp 49) (.tmp 50) 35 3 (.int .i64 0) 8 rfl Try.underlying35 info3 rfl (by decide) (by omega) v225 y224 (rd_L1 t216 x25_2) _ _ _ (fun k_ => some k_ ≠ (.slice A219_0 (rd_L1 t216 x25_2).length c219_0 : Value).ownBlock ∧ some k_ ≠ (.slice A223_0 (rd_L1 t220 x40_3).length c223_0 : Value).ownBlock) (fun _ => False) rfl rfl ?aO ?aR (fun _ _ h => h) (fun _ h => h.elim) ?aF ?aB ?aS ?aL ?_; (case aR => repeat (first | exact (Kd.R_reads' HO_8.out).2.2 | (with_reducible refine Kd.C_alloc ?_ _) | (with_reducible refine Kd.C_drewN ?_ _) | (with_reducible refine Kd.C_drew ?_))); (case aB => exact (by repeat (first | (with_reducible first | exact HB.out | apply below_alloc | apply pw_below_drewN | apply below_drew1) | exact HB.out))); (case aF => exact (fun k_ hk => ⟨Kd.fresh' (Kd.R_lt (rR HO_8.out)) k_ hk, Kd.fresh' (Kd.R_lt (rR HL223_0.out)) k_ hk⟩)); (case aO => exact (rR (Kd.R_mono HO226.out (fun _ hk => ⟨hk.1.2, hk.2⟩)))); (case aS => exact (below_size (by repeat (first | (with_reducible first | exact HB.out | apply below_alloc | apply pw_below_drewN | apply below_drew1) | exact HB.out)))); (case aL => have := LMc19.out; omega); intro v228 w25 ho hb hg hat; rw [← Ny227.out] at ho; replace HO_5 := Aside0.mk (Kd.S_after (ok := (fun k_ => some k_ ≠ (.slice (some ad219) t216.length co9 : Value).ownBlock ∧ some k_ ≠ (.slice (some ad223) t220.length co15 : Value).ownBlock)) (rS HO_5.out) hg hat); replace HO_8 := Aside0.mk (Kd.R_after (ok := (fun _ => True)) (rR HO_8.out) hg hat); replace HO_23 := Aside0.mk (Kd.S_after (ok := (fun k_ => some k_ ≠ (u5 : Value).ownBlock ∧ some k_ ≠ (.slice (some ad223) t220.length co15 : Value).ownBlock)) (rS HO_23.out) hg hat); replace HO_38 := Aside0.mk (Kd.S_after (ok := (fun k_ => some k_ ≠ (u5 : Value).ownBlock ∧ some k_ ≠ (.slice (some ad219) t216.length co9 : Value).ownBlock)) (rS HO_38.out) hg hat); replace HL223_0 := Aside0.mk (Kd.R_after (ok := (fun k_ => some k_ ≠ (u5 : Value).ownBlock ∧ some k_ ≠ (.slice (some ad219) t216.length co9 : Value).ownBlock ∧ some k_ ≠ (.slice (some ad223) t220.length co15 : Value).ownBlock)) (rR (Kd.R_mono HL223_0.out (fun _ hk => ⟨⟨hk.1.1.1, ⟨hk.1.1.2, hk.1.2⟩⟩, hk.2⟩))) hg hat); replace HB := Aside0.mk (hb); have HO229 := Aside0.mk (ho); clear HO226; clear ho hb hg hat) | ((with_reducible refine gate_builtin (b := .append) (xs := #[.tmp 52, .tmp 54]) rfl ?_); at_builtin; refine Kd.R_append (Kd.int .i64) (w0 := w) w.heap.size rfl (.tmp 52) (.tmp 54) 35 3 (.int .i64 0) 8 rfl Try.underlying35 info3 rfl (by decide) (by omega) v228 y227 a1 [.int .i64 a1] (fun k_ => some k_ ≠ (.slice A219_0 (rd_L1 t216 x25_2).length c219_0 : Value).ownBlock ∧ some k_ ≠ (.slice A223_0 (rd_L1 t220 x40_3).length c223_0 : Value).ownBlock) (fun _ => False) rfl rfl ?aP (fun _ hk => hk.elim) ?aF ?aO ?aB ?aS ?aL ?_; (case aP => exact rfl); (case aB => exact (by repeat (first | (with_reducible first | exact HB.out | apply below_alloc | apply pw_below_drewN | apply below_drew1) | exact HB.out))); (case aF => exact (fun k_ hk => ⟨Kd.fresh' (Kd.R_lt (rR HO_8.out)) k_ hk, Kd.fresh' (Kd.R_lt (rR HL223_0.out)) k_ hk⟩)); (case aO => exact (rR HO229.out)); (case aS => exact (below_size (by repeat (first | (with_reducible first | exact HB.out | apply below_alloc | apply pw_below_drewN | apply below_drew1) | exact HB.out)))); (case aL => have := LMc20.out; omega); intro v231 w26 ho hb hg hat; rw [← Ny230.out] at ho; replace HO_5 := Aside0.mk (Kd.S_after (ok := (fun k_ => some k_ ≠ (.slice (some ad219) t216.length co9 : Value).ownBlock ∧ some k_ ≠ (.slice (some ad223) t220.length co15 : Value).ownBlock)) (rS HO_5.out) hg hat); replace HO_8 := Aside0.mk (Kd.R_after (ok := (fun _ => True)) (rR HO_8.out) hg hat); replace HO_23 := Aside0.mk (Kd.S_after (ok := (fun k_ => some k_ ≠ (u5 : Value).ownBlock ∧ some k_ ≠ (.slice (some ad223) t220.length co15 : Value).ownBlock)) (rS HO_23.out) hg hat); replace HO_38 := Aside0.mk (Kd.S_after (ok := (fun k_ => some k_ ≠ (u5 : Value).ownBlock ∧ some k_ ≠ (.slice (some ad219) t216.length co9 : Value).ownBlock)) (rS HO_38.out) hg hat); replace HL223_0 := Aside0.mk (Kd.R_after (ok := (fun k_ => some k_ ≠ (u5 : Value).ownBlock ∧ some k_ ≠ (.slice (some ad219) t216.length co9 : Value).ownBlock ∧ some k_ ≠ (.slice (some ad223) t220.length co15 : Value).ownBlock)) (rR HL223_0.out) hg hat); replace HB := Aside0.mk (hb); have HO232 := Aside0.mk (ho); clear HO229; clear ho hb hg hat) | ((with_reducible refine gate_builtin (b := .append) (xs := #[.tmp 55, .tmp 56]) rfl ?_); at_builtin; refine Kd.R_append_rows (Kd.int .i64) (w0 := w) w.heap.size rfl (.tmp 55) (.tmp 56) 35 3 (.int .i64 0) 8 rfl Try.underlying35 info3 rfl (by decide) (by omega) v231 y230 (rd_L1 t220 x40_3) _ _ _ (fun k_ => some k_ ≠ (.slice A219_0 (rd_L1 t216 x25_2).length c219_0 : Value).ownBlock ∧ some k_ ≠ (.slice A223_0 (rd_L1 t220 x40_3).length c223_0 : Value).ownBlock) (fun _ => False) rfl rfl ?aO ?aR (fun _ _ h => h) (fun _ h => h.elim) ?aF ?aB ?aS ?aL ?_; (case aR => repeat (first | exact ((Kd.R_reads' (rR HL223_0.out)).2.2) | (with_reducible refine Kd.C_alloc ?_ _) | (with_reducible refine Kd.C_drewN ?_ _) | (with_reducible refine Kd.C_drew ?_))); (case aB => exact (by repeat (first | (with_reducible first | exact HB.out | apply below_alloc | apply pw_below_drewN | apply below_drew1) | exact HB.out))); (case aF => exact (fun k_ hk => ⟨Kd.fresh' (Kd.R_lt (rR HO_8.out)) k_ hk, Kd.fresh' (Kd.R_lt (rR HL223_0.out)) k_ hk⟩)); (case aO => exact (rR HO232.out)); (case aS => exact (below_size (by repeat (first | (with_reducible first | exact HB.out | apply below_alloc | apply pw_below_drewN | apply below_drew1) | exact HB.out)))); (case aL => have := LMc21.out; omega); intro v234 w27 ho hb hg hat; rw [← Ny233.out] at ho; replace HO_5 := Aside0.mk (Kd.S_after (ok := (fun k_ => some k_ ≠ (.slice (some ad219) t216.length co9 : Value).ownBlock ∧ some k_ ≠ (.slice (some ad223) t220.length co15 : Value).ownBlock)) (rS HO_5.out) hg hat); replace HO_8 := Aside0.mk (Kd.R_after (ok := (fun _ => True)) (rR HO_8.out) hg hat); replace HO_23 := Aside0.mk (Kd.S_after (ok := (fun k_ => some k_ ≠ (u5 : Value).ownBlock ∧ some k_ ≠ (.slice (some ad223) t220.length co15 : Value).ownBlock)) (rS HO_23.out) hg hat); replace HO_38 := Aside0.mk (Kd.S_after (ok := (fun k_ => some k_ ≠ (u5 : Value).ownBlock ∧ some k_ ≠ (.slice (some ad219) t216.length co9 : Value).ownBlock)) (rS HO_38.out) hg hat); replace HL223_0 := Aside0.mk (Kd.R_after (ok := (fun k_ => some k_ ≠ (u5 : Value).ownBlock ∧ some k_ ≠ (.slice (some ad219) t216.length co9 : Value).ownBlock ∧ some k_ ≠ (.slice (some ad223) t220.length co15 : Value).ownBlock)) (rR HL223_0.out) hg hat); replace HB := Aside0.mk (hb); have HO235 := Aside0.mk (ho); clear HO232; clear ho hb hg hat; obtain ⟨Ao29, co29, eo29⟩ := Kd.R_slice HO235.out; subst eo29) | ((with_reducible refine gate_builtin (b := .append) (xs := #[.tmp 58, .tmp 60]) rfl ?_); at_builtin; refine Kd.S_append (Kd.slice 3 (Kd.int .i64)) (w0 := w) w.heap.size rfl (.tmp 58) (.tmp 60) 22 35 (.slice none 0 0) 24 rfl Try.underlying22 info35 rfl (by decide) (by omega) u5 x5_3 y233 [.slice Ao29 y233.length co29] (fun k_ => some k_ ≠ (.slice (some ad219) t216.length co9 : Value).ownBlock ∧ some k_ ≠ (.slice (some ad223) t220.length co15 : Value).ownBlock) (fun k_ => some k_ = (.slice Ao29 y233.length co29 : Value).ownBlock) rfl rfl ?aP (fun k_ hk_ => ((Kd.R_mono (ok' := fun k_ => ((fun k_ => some k_ ≠ (.slice (some ad219) t216.length co9 : Value).ownBlock ∧ some k_ ≠ (.slice (some ad223) t220.length co15 : Value).ownBlock)) k_ ∧ some k_ ≠ (u5 : Value).ownBlock) (Kd.R_apart' (Kd.R_apart' (Kd.R_apart' (HO235.out) (Kd.S_typed HO_23.out) (by decide)) (Kd.S_typed HO_38.out) (by decide)) (Kd.S_typed HO_5.out) (by decide)) (fun k_ hk => ⟨⟨hk.1.1.2, hk.1.2⟩, hk.2⟩))).1 k_ hk_.symm) ?aF ?aO ?aB ?aS ?aL ?_; (case aP => exact Kd.M_row (Kd.R_mono (Kd.R_tight rfl (Kd.R_mono (ok' := fun k_ => ((fun k_ => some k_ ≠ (.slice (some ad219) t216.length co9 : Value).ownBlock ∧ some k_ ≠ (.slice (some ad223) t220.length co15 : Value).ownBlock)) k_ ∧ some k_ ≠ (u5 : Value).ownBlock) (Kd.R_apart' (Kd.R_apart' (Kd.R_apart' (HO235.out) (Kd.S_typed HO_23.out) (by decide)) (Kd.S_typed HO_38.out) (by decide)) (Kd.S_typed HO_5.out) (by decide)) (fun k_ hk => ⟨⟨hk.1.1.2, hk.1.2⟩, hk.2⟩))) (fun _ h_ => h_))); (case aB => exact (by repeat (first | (with_reducible first | exact HB.out | apply below_alloc | apply pw_below_drewN | apply below_drew1) | exact HB.out))); (case aF => exact (fun k_ hk => ⟨Kd.fresh' (Kd.S_lt (rS HO_23.out)) k_ hk, Kd.fresh' (Kd.S_lt (rS HO_38.out)) k_ hk⟩)); (case aO => exact (rS (Kd.S_mono HO_5.out (fun k_ hk => ⟨⟨hk.1.1, hk.1.2⟩, fun e_ => hk.2 e_⟩)))); (case aS => exact (below_size (by repeat (first | (with_reducible first | exact HB.out | apply below_alloc | apply pw_below_drewN | apply below_drew1) | exact HB.out)))); (case aL => have := LMc22.out; omega); intro v237 w28 ho hb hg hat; rw [← Ny236.out] at ho; replace HO_8 := Aside0.mk (Kd.R_over' (rR HO_8.out) (Kd.S_typed (rS HO_5.out)) (by decide) hg); replace HO_23 := Aside0.mk (Kd.S_after (ok := (fun k_ => some k_ ≠ (.slice (some ad223) t220.length co15 : Value).ownBlock ∧ some k_ ≠ (.slice Ao29 y233.length co29 : Value).ownBlock)) (rS (Kd.S_mono HO_23.out (fun _ hk => ⟨⟨hk.1.2, hk.2⟩, hk.1.1⟩))) hg hat); replace HO_38 := Aside0.mk (Kd.S_after (ok := (fun k_ => some k_ ≠ (.slice (some ad219) t216.length co9 : Value).ownBlock ∧ some k_ ≠ (.slice Ao29 y233.length co29 : Value).ownBlock)) (rS (Kd.S_mono HO_38.out (fun _ hk => ⟨⟨hk.1.2, hk.2⟩, hk.1.1⟩))) hg hat); replace HL223_0 := Aside0.mk (Kd.R_after (ok := (fun k_ => some k_ ≠ (.slice (some ad219) t216.length co9 : Value).ownBlock ∧ some k_ ≠ (.slice (some ad223) t220.length co15 : Value).ownBlock ∧ some k_ ≠ (.slice Ao29 y233.length co29 : Value).ownBlock)) (rR (Kd.R_mono HL223_0.out (fun _ hk => ⟨⟨hk.1.2.1, ⟨hk.1.2.2, hk.2⟩⟩, hk.1.1⟩))) hg hat); replace HB := Aside0.mk (hb); have HO238 := Aside0.mk (ho); clear HO_5 HO235; clear ho hb hg hat))
                  go_roundg k3
                  case measure => have := HK1.out; have := HK2.out; have := HK3.out; omega
                  case rel => exact ⟨(y236), (wrap64 (x40_3 + 1)), (sr2), H', ⟨by have := HK1.out; have := HK2.out; have := HK3.out; omega⟩, ⟨rS HO238.out⟩, ⟨rR (Kd.R_mono HO_8.out (fun _ hk => trivial))⟩, ⟨rS (Kd.S_mono HO_23.out (fun _ hk => ⟨hk.2, hk.1.1⟩))⟩, ⟨rS (Kd.S_mono HO_38.out (fun _ hk => ⟨hk.2, hk.1.1⟩))⟩, ⟨by repeat (first | (with_reducible first | exact HB.out | apply below_alloc | apply pw_below_drewN | apply below_drew1) | exact HB.out)⟩⟩
                 rw [if_neg c22] at H; exact absurd H (by simp)
                rw [if_neg c21] at H; exact absurd H (by simp)
               rw [if_neg c20] at H; exact absurd H (by simp)
              rw [if_neg c19] at H; exact absurd H (by simp)
             rw [if_neg c18] at H; exact absurd H (by simp)
            rw [if_neg c17] at H; exact absurd H (by simp)
           rw [if_neg c16] at H; have c16b0 := decide_eq_false c16; clear c16; have H' := Aside0.mk H; clear H; go_wp2
           go_roundg k3
           case measure => have := HK1.out; have := HK2.out; have := HK3.out; omega
           case rel => exact ⟨(x5_3), (wrap64 (x25_2 + 1)), (sr2), H', ⟨by have := HK1.out; have := HK2.out; have := HK3.out; omega⟩, ⟨rS (Kd.S_mono HO_5.out (fun _ hk => hk.1))⟩, ⟨rS (Kd.S_mono HO_23.out (fun _ hk => hk.1))⟩, ⟨by repeat (first | (with_reducible first | exact HB.out | apply below_alloc | apply pw_below_drewN | apply below_drew1) | exact HB.out)⟩⟩
        rw [if_neg c12] at H; exact absurd H (by simp)
       rw [if_neg c11] at H; exact absurd H (by simp)
      rw [if_neg c10] at H; have c10b0 := decide_eq_false c10; clear c10; have H' := Aside0.mk H; clear H; go_wp2
      go_roundg k2
      case measure => have := HK1.out; have := HK2.out; omega
      case rel => exact ⟨(x5_2), (wrap64 (x6_1 + 1)), (sr2), H', ⟨by have := HK1.out; have := HK2.out; omega⟩, ⟨rS (Kd.S_mono HO_5.out (fun _ hk => trivial))⟩, ⟨by repeat (first | (with_reducible first | exact HB.out | apply below_alloc | apply pw_below_drewN | apply below_drew1) | exact HB.out)⟩⟩
   rw [if_neg c6] at H; have c6b0 := decide_eq_false c6; clear c6; obtain rfl := Option.some.inj H; go_wp2; go_ret; exact ⟨_, sr, rS HO_5.out, by repeat (first | (with_reducible first | exact HB.out | apply below_alloc | apply pw_below_drewN | apply below_drew1) | exact HB.out)⟩
/-! ### spec_meWay: function 109 -/
def spec_meWay.l0 : Nat → Int → List Int → Int → List Int → List Int → Option (List Int)
 | 0, _, _, _, _, _ => none
 | k + 1, x1, x5, x6, x240000, x240001 => if x6 = x1 then (some x5) else (if 0 ≤ x6 then (if x6 < (x240000.length : Int) then ((some (([x6, rd x240000 x6] : List Int) : List Int)).bind fun y247 => (if x5.length + y247.length < 17592186044416 then (if 0 ≤ (rd x240000 x6) then (if (rd x240000 x6) < (x240001.length : Int) then (spec_meWay.l0 k x1 (x5 ++ y247) (rd x240001 (rd x240000 x6)) x240000 x240001) else (none)) else (none)) else (none))) else (none)) else (none))
def spec_meWay.f (k : Nat) (l0_0 : List Int) (l0_1 : List Int) (a1 : Int) : Option (List Int) := if 0 ≤ a1 then (if a1 < (l0_0.length : Int) then (if 0 ≤ (rd l0_0 a1) then (if (rd l0_0 a1) < (l0_1.length : Int) then (spec_meWay.l0 k a1 (([a1, rd l0_0 a1] : List Int)) (rd l0_1 (rd l0_0 a1)) l0_0 l0_1) else (none)) else (none)) else (none)) else (none)
theorem spec_meWay.mono_l : ∀ k, (∀ y0 y1 y2 y3 y4, LeO (spec_meWay.l0 k y0 y1 y2 y3 y4) (spec_meWay.l0 (k + 1) y0 y1 y2 y3 y4))
 | 0 => fun _ _ _ _ _ r h => by simp [spec_meWay.l0] at h
 | k + 1 => by
  have ih0 := spec_meWay.mono_l k
  ·intro y0 y1 y2 y3 y4
   unfold spec_meWay.l0
   repeat' first
   | (with_reducible exact ih0 _ _ _ _ _)
   | (with_reducible exact LeO.refl _)
   | (with_reducible exact LeO.none _)
   | (with_reducible refine LeO.ite ?_ ?_)
   | (with_reducible refine LeO.bind ?_ (fun _ => ?_))
   | exact ih0 _ _ _ _ _
   | exact LeO.none _
   | refine LeO.ite ?_ ?_
   | refine LeO.bind ?_ (fun _ => ?_)
theorem spec_meWay.mono : ∀ a0 a1 a2 k, LeO (spec_meWay.f k a0 a1 a2) (spec_meWay.f (k + 1) a0 a1 a2) := by
 intro a0 a1 a2 k; have ih0 := spec_meWay.mono_l k; unfold spec_meWay.f
 repeat' first
   | (with_reducible exact ih0 _ _ _ _ _)
   | (with_reducible exact LeO.refl _)
   | (with_reducible exact LeO.none _)
   | (with_reducible refine LeO.ite ?_ ?_)
   | (with_reducible refine LeO.bind ?_ (fun _ => ?_))
   | exact ih0 _ _ _ _ _
   | exact LeO.none _
   | refine LeO.ite ?_ ?_
   | refine LeO.bind ?_ (fun _ => ?_)
theorem spec_meWay.calls (k : Nat) (A0_0 : Option Addr) (c0_0 : Nat) (l0_0 : List Int) (A0_1 : Option Addr) (c0_1 : Nat) (l0_1 : List Int) (a1 : Int) (r : List Int) (w : World) (hr0_0 : Kd.C (Kd.int .i64) w A0_0 l0_0.length l0_0) (hc0_0 : l0_0.length ≤ c0_0) (hr0_1 : Kd.C (Kd.int .i64) w A0_1 l0_1.length l0_1) (hc0_1 : l0_1.length ≤ c0_1) (h : spec_meWay.f k l0_0 l0_1 a1 = some r) :
  Calls Try.prog 109 #[.agg #[.slice A0_0 l0_0.length c0_0, .slice A0_1 l0_1.length c0_1], .int .i64 a1] w fun e w' => ∃ v0_ : Value, e = .returned (v0_) ∧ Kd.R (Kd.int .i64) 3 w' w.heap.size (fun _ => True) v0_ r ∧ Below w.heap.size w w' := by
 have hu71 := Try.underlying71; have HR0_0 := Aside0.mk hr0_0; have HC0_0 := Aside0.mk hc0_0; clear hr0_0 hc0_0; have HR0_1 := Aside0.mk hr0_1; have HC0_1 := Aside0.mk hc0_1; clear hr0_1 hc0_1; have HB := Aside0.mk (Below.refl w.heap.size w); have H : (if 0 ≤ a1 then (if a1 < (l0_0.length : Int) then (if 0 ≤ (rd l0_0 a1) then (if (rd l0_0 a1) < (l0_1.length : Int) then (spec_meWay.l0 k a1 (([a1, rd l0_0 a1] : List Int)) (rd l0_1 (rd l0_0 a1)) l0_0 l0_1) else (none)) else (none)) else (none)) else (none)) = some r := h; clear h
 by_cases c3 : 0 ≤ a1
 ·rw [if_pos c3] at H; have c3b0 := decide_eq_true c3; clear c3
  by_cases c4 : a1 < (l0_0.length : Int)
  ·rw [if_pos c4] at H; have c4b0 := decide_eq_true c4; clear c4; obtain ⟨y241, hy241⟩ := yy (([a1, rd l0_0 a1] : List Int))
   (try rw [Option.bind_some] at H); (try dsimp only at H); rw [← hy241] at H
   have Ny241 := Aside0.mk hy241; clear hy241
   by_cases c5 : 0 ≤ (rd l0_0 a1)
   ·rw [if_pos c5] at H; have c5b0 := decide_eq_true c5; clear c5
    by_cases c6 : (rd l0_0 a1) < (l0_1.length : Int)
    ·rw [if_pos c6] at H; have c6b0 := decide_eq_true c6; clear c6; have H' := Aside0.mk H; clear H; go_enter Try.func109, Try.ntmps109; go_wp2_with (first | ((with_reducible refine gate_dst (N := 2) rfl ?_); refine box_event ?hg (N := 2) ?hd (cs := #[.slice A0_0 l0_0.length c0_0, .slice A0_1 l0_1.length c0_1]) (t := 71) ?hr ?_; (case hd => rfl); (case hg => rfl); (case hr => first | (go_simp; done) | (go_simp; rfl)); intro gb239 hg w7 hbox hb; have BK239 := Aside0.mk (hbox); have GW239 := Aside0.mk ((by rw [hg]; exact (below_size (bl HB.out)) : w.heap.size ≤ gb239)); have GE239 := Aside0.mk ((by rw [hg]; exact (below_size (bl HB.out)) : w.heap.size ≤ gb239)); replace HB := bst HB hb; clear hb hbox hg; have hcz8_0 : w7.cell? ⟨gb239, 0, none⟩ = some (.slice A0_0 l0_0.length c0_0) := (blk_cell BK239.out 0).trans rfl; have hcz8_1 : w7.cell? ⟨gb239, 1, none⟩ = some (.slice A0_1 l0_1.length c0_1) := (blk_cell BK239.out 1).trans rfl; have hfz8_0 := blk_frozen BK239.out 0; have hfz8_1 := blk_frozen BK239.out 1; have p240 : 0 ≤ (a1 : Int) := od; have q240 : a1 < (l0_0.length : Int) := od; obtain ⟨ad240, e240, hx240_0⟩ := Kd.at_int HR0_0.out a1 p240 q240; cases e240; replace hx240_0 := hbx HB hx240_0; replace p240 := eq_true p240; replace q240 := eq_true q240) | ((with_reducible refine gate_dst (N := 13) rfl ?_); refine Kd.R_lit (Kd.int .i64) _ 3 ?hg (N := 13) ?hd (xs := ([a1, rd l0_0 a1] : List Int)) (inner := [.int .i64 a1, .int .i64 (rd l0_0 a1)]) (ok := fun _ => True) (okp := fun _ => True) ?hr ?hp (fun _ hk => hk) trivial (Below.refl _ _) (Nat.le_refl _) (by simp) ?_; (case hd => rfl); (case hg => rfl); (case hr => first | (go_simp; done) | (go_simp; rfl)); (case hp => exact (Reps.one (show Kd.M (Kd.int .i64) _ _ _ a1 [.int .i64 a1] from rfl) (Reps.one (show Kd.M (Kd.int .i64) _ _ _ (rd l0_0 a1) [.int .i64 (rd l0_0 a1)] from rfl) (Reps.none _ _)))); intro v242 w9 ho10 hb hg_ hnew_; clear hg_ hnew_; (first | rw [← Ny241.out] at ho10 | (simp only [Int.reduceToNat] at ho10; rw [← Ny241.out] at ho10)); have HO243 := Aside0.mk (Kd.R_lower ho10 (below_size (bs1 HB.out GE239.out))); replace BK239 := bkb BK239 hb; replace HB := Aside0.mk (below_step (bs1 HB.out GE239.out) hb); clear hb ho10; have hcz11_0 : w9.cell? ⟨gb239, 0, none⟩ = some (.slice (some ad240) l0_0.length c0_0) := (blk_cell BK239.out 0).trans rfl; have hcz11_1 : w9.cell? ⟨gb239, 1, none⟩ = some (.slice A0_1 l0_1.length c0_1) := (blk_cell BK239.out 1).trans rfl; have hfz11_0 := blk_frozen BK239.out 0; have hfz11_1 := blk_frozen BK239.out 1; have p244 : 0 ≤ (a1 : Int) := od; have q244 : a1 < (l0_0.length : Int) := od; obtain ⟨ad244, e244, hx244_0⟩ := Kd.at_int HR0_0.out a1 p244 q244; obtain rfl : ad240 = ad244 := (by injection e244); replace hx244_0 := hbx HB hx244_0; replace p244 := eq_true p244; replace q244 := eq_true q244; have p245 : 0 ≤ ((rd l0_0 a1) : Int) := od; have q245 : (rd l0_0 a1) < (l0_1.length : Int) := od; obtain ⟨ad245, e245, hx245_0⟩ := Kd.at_int HR0_1.out (rd l0_0 a1) p245 q245; cases e245; replace hx245_0 := hbx HB hx245_0; replace p245 := eq_true p245; replace q245 := eq_true q245))
     repeat (go_quiet (first | ((with_reducible refine gate_dst (N := 2) rfl ?_); refine box_event ?hg (N := 2) ?hd (cs := #[.slice A0_0 l0_0.length c0_0, .slice A0_1 l0_1.length c0_1]) (t := 71) ?hr ?_; (case hd => rfl); (case hg => rfl); (case hr => first | (go_simp; done) | (go_simp; rfl)); intro gb239 hg w7 hbox hb; have BK239 := Aside0.mk (hbox); have GW239 := Aside0.mk ((by rw [hg]; exact (below_size (bl HB.out)) : w.heap.size ≤ gb239)); have GE239 := Aside0.mk ((by rw [hg]; exact (below_size (bl HB.out)) : w.heap.size ≤ gb239)); replace HB := bst HB hb; clear hb hbox hg; have hcz8_0 : w7.cell? ⟨gb239, 0, none⟩ = some (.slice A0_0 l0_0.length c0_0) := (blk_cell BK239.out 0).trans rfl; have hcz8_1 : w7.cell? ⟨gb239, 1, none⟩ = some (.slice A0_1 l0_1.length c0_1) := (blk_cell BK239.out 1).trans rfl; have hfz8_0 := blk_frozen BK239.out 0; have hfz8_1 := blk_frozen BK239.out 1; have p240 : 0 ≤ (a1 : Int) := od; have q240 : a1 < (l0_0.length : Int) := od; obtain ⟨ad240, e240, hx240_0⟩ := Kd.at_int HR0_0.out a1 p240 q240; cases e240; replace hx240_0 := hbx HB hx240_0; replace p240 := eq_true p240; replace q240 := eq_true q240) | ((with_reducible refine gate_dst (N := 13) rfl ?_); refine Kd.R_lit (Kd.int .i64) _ 3 ?hg (N := 13) ?hd (xs := ([a1, rd l0_0 a1] : List Int)) (inner := [.int .i64 a1, .int .i64 (rd l0_0 a1)]) (ok := fun _ => True) (okp := fun _ => True) ?hr ?hp (fun _ hk => hk) trivial (Below.refl _ _) (Nat.le_refl _) (by simp) ?_; (case hd => rfl); (case hg => rfl); (case hr => first | (go_simp; done) | (go_simp; rfl)); (case hp => exact (Reps.one (show Kd.M (Kd.int .i64) _ _ _ a1 [.int .i64 a1] from rfl) (Reps.one (show Kd.M (Kd.int .i64) _ _ _ (rd l0_0 a1) [.int .i64 (rd l0_0 a1)] from rfl) (Reps.none _ _)))); intro v242 w9 ho10 hb hg_ hnew_; clear hg_ hnew_; (first | rw [← Ny241.out] at ho10 | (simp only [Int.reduceToNat] at ho10; rw [← Ny241.out] at ho10)); have HO243 := Aside0.mk (Kd.R_lower ho10 (below_size (bs1 HB.out GE239.out))); replace BK239 := bkb BK239 hb; replace HB := Aside0.mk (below_step (bs1 HB.out GE239.out) hb); clear hb ho10; have hcz11_0 : w9.cell? ⟨gb239, 0, none⟩ = some (.slice (some ad240) l0_0.length c0_0) := (blk_cell BK239.out 0).trans rfl; have hcz11_1 : w9.cell? ⟨gb239, 1, none⟩ = some (.slice A0_1 l0_1.length c0_1) := (blk_cell BK239.out 1).trans rfl; have hfz11_0 := blk_frozen BK239.out 0; have hfz11_1 := blk_frozen BK239.out 1; have p244 : 0 ≤ (a1 : Int) := od; have q244 : a1 < (l0_0.length : Int) := od; obtain ⟨ad244, e244, hx244_0⟩ := Kd.at_int HR0_0.out a1 p244 q244; obtain rfl : ad240 = ad244 := (by injection e244); replace hx244_0 := hbx HB hx244_0; replace p244 := eq_true p244; replace q244 := eq_true q244; have p245 : 0 ≤ ((rd l0_0 a1) : Int) := od; have q245 : (rd l0_0 a1) < (l0_1.length : Int) := od; obtain ⟨ad245, e245, hx245_0⟩ := Kd.at_int HR0_1.out (rd l0_0 a1) p245 q245; cases e245; replace hx245_0 := hbx HB hx245_0; replace p245 := eq_true p245; replace q245 := eq_true q245)); try go_wp2_with (first | ((with_reducible refine gate_dst (N := 2) rfl ?_); refine box_event ?hg (N := 2) ?hd (cs := #[.slice A0_0 l0_0.length c0_0, .slice A0_1 l0_1.length c0_1]) (t := 71) ?hr ?_; (case hd => rfl); (case hg => rfl); (case hr => first | (go_simp; done) | (go_simp; rfl)); intro gb239 hg w7 hbox hb; have BK239 := Aside0.mk (hbox); have GW239 := Aside0.mk ((by rw [hg]; exact (below_size (bl HB.out)) : w.heap.size ≤ gb239)); have GE239 := Aside0.mk ((by rw [hg]; exact (below_size (bl HB.out)) : w.heap.size ≤ gb239)); replace HB := bst HB hb; clear hb hbox hg; have hcz8_0 : w7.cell? ⟨gb239, 0, none⟩ = some (.slice A0_0 l0_0.length c0_0) := (blk_cell BK239.out 0).trans rfl; have hcz8_1 : w7.cell? ⟨gb239, 1, none⟩ = some (.slice A0_1 l0_1.length c0_1) := (blk_cell BK239.out 1).trans rfl; have hfz8_0 := blk_frozen BK239.out 0; have hfz8_1 := blk_frozen BK239.out 1; have p240 : 0 ≤ (a1 : Int) := od; have q240 : a1 < (l0_0.length : Int) := od; obtain ⟨ad240, e240, hx240_0⟩ := Kd.at_int HR0_0.out a1 p240 q240; cases e240; replace hx240_0 := hbx HB hx240_0; replace p240 := eq_true p240; replace q240 := eq_true q240) | ((with_reducible refine gate_dst (N := 13) rfl ?_); refine Kd.R_lit (Kd.int .i64) _ 3 ?hg (N := 13) ?hd (xs := ([a1, rd l0_0 a1] : List Int)) (inner := [.int .i64 a1, .int .i64 (rd l0_0 a1)]) (ok := fun _ => True) (okp := fun _ => True) ?hr ?hp (fun _ hk => hk) trivial (Below.refl _ _) (Nat.le_refl _) (by simp) ?_; (case hd => rfl); (case hg => rfl); (case hr => first | (go_simp; done) | (go_simp; rfl)); (case hp => exact (Reps.one (show Kd.M (Kd.int .i64) _ _ _ a1 [.int .i64 a1] from rfl) (Reps.one (show Kd.M (Kd.int .i64) _ _ _ (rd l0_0 a1) [.int .i64 (rd l0_0 a1)] from rfl) (Reps.none _ _)))); intro v242 w9 ho10 hb hg_ hnew_; clear hg_ hnew_; (first | rw [← Ny241.out] at ho10 | (simp only [Int.reduceToNat] at ho10; rw [← Ny241.out] at ho10)); have HO243 := Aside0.mk (Kd.R_lower ho10 (below_size (bs1 HB.out GE239.out))); replace BK239 := bkb BK239 hb; replace HB := Aside0.mk (below_step (bs1 HB.out GE239.out) hb); clear hb ho10; have hcz11_0 : w9.cell? ⟨gb239, 0, none⟩ = some (.slice (some ad240) l0_0.length c0_0) := (blk_cell BK239.out 0).trans rfl; have hcz11_1 : w9.cell? ⟨gb239, 1, none⟩ = some (.slice A0_1 l0_1.length c0_1) := (blk_cell BK239.out 1).trans rfl; have hfz11_0 := blk_frozen BK239.out 0; have hfz11_1 := blk_frozen BK239.out 1; have p244 : 0 ≤ (a1 : Int) := od; have q244 : a1 < (l0_0.length : Int) := od; obtain ⟨ad244, e244, hx244_0⟩ := Kd.at_int HR0_0.out a1 p244 q244; obtain rfl : ad240 = ad244 := (by injection e244); replace hx244_0 := hbx HB hx244_0; replace p244 := eq_true p244; replace q244 := eq_true q244; have p245 : 0 ≤ ((rd l0_0 a1) : Int) := od; have q245 : (rd l0_0 a1) < (l0_1.length : Int) := od; obtain ⟨ad245, e245, hx245_0⟩ := Kd.at_int HR0_1.out (rd l0_0 a1) p245 q245; cases e245; replace hx245_0 := hbx HB hx245_0; replace p245 := eq_true p245; replace q245 := eq_true q245)))
     go_loopg [5, 6] k (fun kq v5 v6 w' => ∃ (x5_1 : List Int) (x6_1 : Int), v6 = .int .i64 x6_1 ∧ Aside0 (spec_meWay.l0 kq a1 x5_1 x6_1 l0_0 l0_1 = some r) ∧ Aside0 (kq ≤ k) ∧ Aside0 (Kd.R (Kd.int .i64) 3 w' w.heap.size (fun _ => True) v5 x5_1) ∧ Aside0 (w'.heap[gb239]? = some (.cells #[(.slice (some ad240) l0_0.length c0_0), (.slice (some ad245) l0_1.length c0_1)] 71 (0, 0))) ∧ Aside0 (Below w.heap.size w w'))
     case atStart => exact ⟨(y241), (rd l0_1 (rd l0_0 a1)), (sr2), H', ⟨Nat.le_refl _⟩, ⟨rR HO243.out⟩, ⟨by (with_reducible repeat (first | refine blk_drewN ?_ _ | refine blk_drew ?_ | refine blk_alloc ?_ _)); exact BK239.out⟩, ⟨bs1 HB.out GE239.out⟩⟩
     case round =>
      clear H'; obtain ⟨x5_1, x6_1, rfl, HA, HK1, HO_5, BK239, HB⟩ := hrel
      cases gk with
      | zero => exact absurd HA.out (by simp [spec_meWay.l0])
      | succ k1 =>
       have H := HA.out; clear HA; simp only [spec_meWay.l0] at H
       by_cases c12 : x6_1 = a1
       ·rw [if_pos c12] at H; have c12b0 := beq_iff_eq.mpr c12; have c12b1 := bne_eq_false_iff_eq.mpr c12; clear c12; obtain rfl := Option.some.inj H; go_wp2
        repeat (go_quiet (fail); try go_wp2)
        go_ret; exact ⟨_, sr, rR HO_5.out, bs1 HB.out GE239.out⟩
       rw [if_neg c12] at H; have c12b0 := beq_eq_false_iff_ne.mpr c12; have c12b1 := bne_iff_ne.mpr c12
       by_cases c13 : 0 ≤ x6_1
       ·rw [if_pos c13] at H; have c13b0 := decide_eq_true c13; clear c13
        by_cases c14 : x6_1 < (l0_0.length : Int)
        ·rw [if_pos c14] at H; have c14b0 := decide_eq_true c14; clear c14; obtain ⟨y247, hy247⟩ := yy (([x6_1, rd l0_0 x6_1] : List Int))
         (try rw [Option.bind_some] at H); (try dsimp only at H); rw [← hy247] at H
         have Ny247 := Aside0.mk hy247; clear hy247
         by_cases c15 : x5_1.length + y247.length < 17592186044416
         ·rw [if_pos c15] at H; have LMc15 := Aside0.mk c15; clear c15; obtain ⟨y250, hy250⟩ := yy (x5_1 ++ y247)
          (try rw [Option.bind_some] at H); (try dsimp only at H); rw [← hy250] at H
          have Ny250 := Aside0.mk hy250; clear hy250
          by_cases c16 : 0 ≤ (rd l0_0 x6_1)
          ·rw [if_pos c16] at H; have c16b0 := decide_eq_true c16; clear c16
           by_cases c17 : (rd l0_0 x6_1) < (l0_1.length : Int)
           ·rw [if_pos c17] at H; have c17b0 := decide_eq_true c17; clear c17; have H' := Aside0.mk H; clear H; have hcz18_0 : wr.cell? ⟨gb239, 0, none⟩ = some (.slice (some ad240) l0_0.length c0_0) := (blk_cell BK239.out 0).trans rfl; have hcz18_1 : wr.cell? ⟨gb239, 1, none⟩ = some (.slice (some ad245) l0_1.length c0_1) := (blk_cell BK239.out 1).trans rfl; have hfz18_0 := blk_frozen BK239.out 0; have hfz18_1 := blk_frozen BK239.out 1; obtain ⟨ad246, e246, hx246_0, p246, q246⟩ := atI HR0_0.out x6_1; obtain rfl : ad240 = ad246 := (by injection e246); replace hx246_0 := hbx HB hx246_0; go_wp2_with (first | ((with_reducible refine gate_dst (N := 42) rfl ?_); refine Kd.R_lit (Kd.int .i64) _ 3 ?hg (N := 42) ?hd (xs := ([x6_1, rd l0_0 x6_1] : List Int)) (inner := [.int .i64 x6_1, .int .i64 (rd l0_0 x6_1)]) (ok := fun _ => True) (okp := fun _ => True) ?hr ?hp (fun _ hk => hk) trivial (Below.refl _ _) (Nat.le_refl _) (by simp) ?_; (case hd => rfl); (case hg => rfl); (case hr => first | (go_simp; done) | (go_simp; rfl)); (case hp => exact (Reps.one (show Kd.M (Kd.int .i64) _ _ _ x6_1 [.int .i64 x6_1] from rfl) (Reps.one (show Kd.M (Kd.int .i64) _ _ _ (rd l0_0 x6_1) [.int .i64 (rd l0_0 x6_1)] from rfl) (Reps.none _ _)))); intro v248 w19 ho20 hb hg_ hnew_; clear hg_ hnew_; (first | rw [← Ny247.out] at ho20 | (simp only [Int.reduceToNat] at ho20; rw [← Ny247.out] at ho20)); have HO249 := Aside0.mk (Kd.R_lower (Kd.R_new' ho20 (Kd.R_lt (rR HO_5.out))) (below_size (bs1 HB.out GE239.out))); replace HO_5 := Aside0.mk (Kd.R_elder' (rR HO_5.out) (Kd.R_base ho20) hb); replace BK239 := bkb BK239 hb; replace HB := Aside0.mk (below_step (bs1 HB.out GE239.out) hb); clear hb ho20; obtain ⟨Ao22, co22, eo22⟩ := Kd.R_slice HO249.out; subst eo22) | ((with_reducible refine gate_builtin (b := .append) (xs := #[.tmp 35, .tmp 42]) rfl ?_); at_builtin; refine Kd.R_append_rows (Kd.int .i64) (w0 := w) w.heap.size rfl (.tmp 35) (.tmp 42) 35 3 (.int .i64 0) 8 rfl Try.underlying35 info3 rfl (by decide) (by omega) u5 x5_1 y247 _ _ _ (fun k_ => some k_ ≠ (.slice Ao22 y247.length co22 : Value).ownBlock) (fun _ => False) rfl rfl ?aO ?aR (fun _ _ h => h) (fun _ h => h.elim) ?aF ?aB ?aS (by have := LMc15.out; omega) ?_; (case aR => exact cw ((Kd.R_reads' HO249.out).2.2)); (case aB => exact (bs1 HB.out GE239.out)); (case aF => exact (fun k_ hk => Kd.fresh' (Kd.R_lt (rR HO249.out)) k_ hk)); (case aO => exact (rR (Kd.R_mono HO_5.out (fun _ hk => hk.2)))); (case aS => exact (below_size (bs1 HB.out GE239.out))); intro v251 w21 ho hb hg hat; rw [← Ny250.out] at ho; replace BK239 := Aside0.mk (blk_grown (bk BK239.out) hg (Kd.R_ne HO_5.out BK239.out (by decide))); replace HO249 := Aside0.mk (Kd.R_after (ok := (fun _ => True)) (rR HO249.out) hg hat); replace HB := Aside0.mk (hb); have HO252 := Aside0.mk (ho); clear HO_5; clear ho hb hg hat; have hcz23_0 : w21.cell? ⟨gb239, 0, none⟩ = some (.slice (some ad240) l0_0.length c0_0) := (blk_cell BK239.out 0).trans rfl; have hcz23_1 : w21.cell? ⟨gb239, 1, none⟩ = some (.slice (some ad245) l0_1.length c0_1) := (blk_cell BK239.out 1).trans rfl; have hfz23_0 := blk_frozen BK239.out 0; have hfz23_1 := blk_frozen BK239.out 1; have p253 : 0 ≤ (x6_1 : Int) := od; have q253 : x6_1 < (l0_0.length : Int) := od; obtain ⟨ad253, e253, hx253_0⟩ := Kd.at_int HR0_0.out x6_1 p253 q253; obtain rfl : ad240 = ad253 := (by injection e253); replace hx253_0 := hbx HB hx253_0; replace p253 := eq_true p253; replace q253 := eq_true q253; have p254 : 0 ≤ ((rd l0_0 x6_1) : Int) := od; have q254 : (rd l0_0 x6_1) < (l0_1.length : Int) := od; obtain ⟨ad254, e254, hx254_0⟩ := Kd.at_int HR0_1.out (rd l0_0 x6_1) p254 q254; obtain rfl : ad245 = ad254 := (by injection e254); replace hx254_0 := hbx HB hx254_0; replace p254 := eq_true p254; replace q254 := eq_true q254))
            repeat (go_quiet (first | ((with_reducible refine gate_dst (N := 42) rfl ?_); refine Kd.R_lit (Kd.int .i64) _ 3 ?hg (N := 42) ?hd (xs := ([x6_1, rd l0_0 x6_1] : List Int)) (inner := [.int .i64 x6_1, .int .i64 (rd l0_0 x6_1)]) (ok := fun _ => True) (okp := fun _ => True) ?hr ?hp (fun _ hk => hk) trivial (Below.refl _ _) (Nat.le_refl _) (by simp) ?_; (case hd => rfl); (case hg => rfl); (case hr => first | (go_simp; done) | (go_simp; rfl)); (case hp => exact (Reps.one (show Kd.M (Kd.int .i64) _ _ _ x6_1 [.int .i64 x6_1] from rfl) (Reps.one (show Kd.M (Kd.int .i64) _ _ _ (rd l0_0 x6_1) [.int .i64 (rd l0_0 x6_1)] from rfl) (Reps.none _ _)))); intro v248 w19 ho20 hb hg_ hnew_; clear hg_ hnew_; (first | rw [← Ny247.out] at ho20 | (simp only [Int.reduceToNat] at ho20; rw [← Ny247.out] at ho20)); have HO249 := Aside0.mk (Kd.R_lower (Kd.R_new' ho20 (Kd.R_lt (rR HO_5.out))) (below_size (bs1 HB.out GE239.out))); replace HO_5 := Aside0.mk (Kd.R_elder' (rR HO_5.out) (Kd.R_base ho20) hb); replace BK239 := bkb BK239 hb; replace HB := Aside0.mk (below_step (bs1 HB.out GE239.out) hb); clear hb ho20; obtain ⟨Ao22, co22, eo22⟩ := Kd.R_slice HO249.out; subst eo22) | ((with_reducible refine gate_builtin (b := .append) (xs := #[.tmp 35, .tmp 42]) rfl ?_); at_builtin; refine Kd.R_append_rows (Kd.int .i64) (w0 := w) w.heap.size rfl (.tmp 35) (.tmp 42) 35 3 (.int .i64 0) 8 rfl Try.underlying35 info3 rfl (by decide) (by omega) u5 x5_1 y247 _ _ _ (fun k_ => some k_ ≠ (.slice Ao22 y247.length co22 : Value).ownBlock) (fun _ => False) rfl rfl ?aO ?aR (fun _ _ h => h) (fun _ h => h.elim) ?aF ?aB ?aS (by have := LMc15.out; omega) ?_; (case aR => exact cw ((Kd.R_reads' HO249.out).2.2)); (case aB => exact (bs1 HB.out GE239.out)); (case aF => exact (fun k_ hk => Kd.fresh' (Kd.R_lt (rR HO249.out)) k_ hk)); (case aO => exact (rR (Kd.R_mono HO_5.out (fun _ hk => hk.2)))); (case aS => exact (below_size (bs1 HB.out GE239.out))); intro v251 w21 ho hb hg hat; rw [← Ny250.out] at ho; replace BK239 := Aside0.mk (blk_grown (bk BK239.out) hg (Kd.R_ne HO_5.out BK239.out (by decide))); replace HO249 := Aside0.mk (Kd.R_after (ok := (fun _ => True)) (rR HO249.out) hg hat); replace HB := Aside0.mk (hb); have HO252 := Aside0.mk (ho); clear HO_5; clear ho hb hg hat; have hcz23_0 : w21.cell? ⟨gb239, 0, none⟩ = some (.slice (some ad240) l0_0.length c0_0) := (blk_cell BK239.out 0).trans rfl; have hcz23_1 : w21.cell? ⟨gb239, 1, none⟩ = some (.slice (some ad245) l0_1.length c0_1) := (blk_cell BK239.out 1).trans rfl; have hfz23_0 := blk_frozen BK239.out 0; have hfz23_1 := blk_frozen BK239.out 1; have p253 : 0 ≤ (x6_1 : Int) := od; have q253 : x6_1 < (l0_0.length : Int) := od; obtain ⟨ad253, e253, hx253_0⟩ := Kd.at_int HR0_0.out x6_1 p253 q253; obtain rfl : ad240 = ad253 := (by injection e253); replace hx253_0 := hbx HB hx253_0; replace p253 := eq_true p253; replace q253 := eq_true q253; have p254 : 0 ≤ ((rd l0_0 x6_1) : Int) := od; have q254 : (rd l0_0 x6_1) < (l0_1.length : Int) := od; obtain ⟨ad254, e254, hx254_0⟩ := Kd.at_int HR0_1.out (rd l0_0 x6_1) p254 q254; obtain rfl : ad245 = ad254 := (by injection e254); replace hx254_0 := hbx HB hx254_0; replace p254 := eq_true p254; replace q254 := eq_true q254)); try go_wp2_with (first | ((with_reducible refine gate_dst (N := 42) rfl ?_); refine Kd.R_lit (Kd.int .i64) _ 3 ?hg (N := 42) ?hd (xs := ([x6_1, rd l0_0 x6_1] : List Int)) (inner := [.int .i64 x6_1, .int .i64 (rd l0_0 x6_1)]) (ok := fun _ => True) (okp := fun _ => True) ?hr ?hp (fun _ hk => hk) trivial (Below.refl _ _) (Nat.le_refl _) (by simp) ?_; (case hd => rfl); (case hg => rfl); (case hr => first | (go_simp; done) | (go_simp; rfl)); (case hp => exact (Reps.one (show Kd.M (Kd.int .i64) _ _ _ x6_1 [.int .i64 x6_1] from rfl) (Reps.one (show Kd.M (Kd.int .i64) _ _ _ (rd l0_0 x6_1) [.int .i64 (rd l0_0 x6_1)] from rfl) (Reps.none _ _)))); intro v248 w19 ho20 hb hg_ hnew_; clear hg_ hnew_; (first | rw [← Ny247.out] at ho20 | (simp only [Int.reduceToNat] at ho20; rw [← Ny247.out] at ho20)); have HO249 := Aside0.mk (Kd.R_lower (Kd.R_new' ho20 (Kd.R_lt (rR HO_5.out))) (below_size (bs1 HB.out GE239.out))); replace HO_5 := Aside0.mk (Kd.R_elder' (rR HO_5.out) (Kd.R_base ho20) hb); replace BK239 := bkb BK239 hb; replace HB := Aside0.mk (below_step (bs1 HB.out GE239.out) hb); clear hb ho20; obtain ⟨Ao22, co22, eo22⟩ := Kd.R_slice HO249.out; subst eo22) | ((with_reducible refine gate_builtin (b := .append) (xs := #[.tmp 35, .tmp 42]) rfl ?_); at_builtin; refine Kd.R_append_rows (Kd.int .i64) (w0 := w) w.heap.size rfl (.tmp 35) (.tmp 42) 35 3 (.int .i64 0) 8 rfl Try.underlying35 info3 rfl (by decide) (by omega) u5 x5_1 y247 _ _ _ (fun k_ => some k_ ≠ (.slice Ao22 y247.length co22 : Value).ownBlock) (fun _ => False) rfl rfl ?aO ?aR (fun _ _ h => h) (fun _ h => h.elim) ?aF ?aB ?aS (by have := LMc15.out; omega) ?_; (case aR => exact cw ((Kd.R_reads' HO249.out).2.2)); (case aB => exact (bs1 HB.out GE239.out)); (case aF => exact (fun k_ hk => Kd.fresh' (Kd.R_lt (rR HO249.out)) k_ hk)); (case aO => exact (rR (Kd.R_mono HO_5.out (fun _ hk => hk.2)))); (case aS => exact (below_size (bs1 HB.out GE239.out))); intro v251 w21 ho hb hg hat; rw [← Ny250.out] at ho; replace BK239 := Aside0.mk (blk_grown (bk BK239.out) hg (Kd.R_ne HO_5.out BK239.out (by decide))); replace HO249 := Aside0.mk (Kd.R_after (ok := (fun _ => True)) (rR HO249.out) hg hat); replace HB := Aside0.mk (hb); have HO252 := Aside0.mk (ho); clear HO_5; clear ho hb hg hat; have hcz23_0 : w21.cell? ⟨gb239, 0, none⟩ = some (.slice (some ad240) l0_0.length c0_0) := (blk_cell BK239.out 0).trans rfl; have hcz23_1 : w21.cell? ⟨gb239, 1, none⟩ = some (.slice (some ad245) l0_1.length c0_1) := (blk_cell BK239.out 1).trans rfl; have hfz23_0 := blk_frozen BK239.out 0; have hfz23_1 := blk_frozen BK239.out 1; have p253 : 0 ≤ (x6_1 : Int) := od; have q253 : x6_1 < (l0_0.length : Int) := od; obtain ⟨ad253, e253, hx253_0⟩ := Kd.at_int HR0_0.out x6_1 p253 q253; obtain rfl : ad240 = ad253 := (by injection e253); replace hx253_0 := hbx HB hx253_0; replace p253 := eq_true p253; replace q253 := eq_true q253; have p254 : 0 ≤ ((rd l0_0 x6_1) : Int) := od; have q254 : (rd l0_0 x6_1) < (l0_1.length : Int) := od; obtain ⟨ad254, e254, hx254_0⟩ := Kd.at_int HR0_1.out (rd l0_0 x6_1) p254 q254; obtain rfl : ad245 = ad254 := (by injection e254); replace hx254_0 := hbx HB hx254_0; replace p254 := eq_true p254; replace q254 := eq_true q254)))
            go_roundg k1
            case measure => have := HK1.out; omega
            case rel => exact ⟨(y250), (rd l0_1 (rd l0_0 x6_1)), (sr2), H', ⟨by have := HK1.out; omega⟩, ⟨rR (Kd.R_mono HO252.out (fun _ hk => trivial))⟩, ⟨by (with_reducible repeat (first | refine blk_drewN ?_ _ | refine blk_drew ?_ | refine blk_alloc ?_ _)); exact BK239.out⟩, ⟨bs1 HB.out GE239.out⟩⟩
           rw [if_neg c17] at H; exact absurd H (by simp)
          rw [if_neg c16] at H; exact absurd H (by simp)
         rw [if_neg c15] at H; exact absurd H (by simp)
        rw [if_neg c14] at H; exact absurd H (by simp)
       rw [if_neg c13] at H; exact absurd H (by simp)
    rw [if_neg c6] at H; exact absurd H (by simp)
   rw [if_neg c5] at H; exact absurd H (by simp)
  rw [if_neg c4] at H; exact absurd H (by simp)
 rw [if_neg c3] at H; exact absurd H (by simp)
/-! ### spec_meColours: function 103 -/
mutual
def spec_meColours.l0 : Nat → List Int → Int → Int → List Int → List Int → Option (List Int)
 | 0, _, _, _, _, _ => none
 | k + 1, x3, x14, x15, x256000, x256001 => if x15 < x14 then (if 0 ≤ x15 then (if x15 < (x3.length : Int) then (spec_meColours.l0 k (x3.set (x15 : Int).toNat (-1)) x14 (wrap64 (x15 + 1)) x256000 x256001) else (none)) else (none)) else (spec_meColours.l1 k x3 0 (x3.length : Int) 0 x256000 x256001)
def spec_meColours.l1 : Nat → List Int → Int → Int → Int → List Int → List Int → Option (List Int)
 | 0, _, _, _, _, _, _ => none
 | k + 1, x3, x5, x23, x24, x256000, x256001 => if x24 < x23 then (if 0 ≤ x24 then (if x24 < (x3.length : Int) then (if (rd x3 x24) ≥ 0 then (spec_meColours.l1 k x3 x5 x23 (wrap64 (x24 + 1)) x256000 x256001) else ((spec_meWay.f k x256000 x256001 x24).bind fun t261 => (spec_meColours.l2 k x3 x5 x23 x24 t261 (t261.length : Int) 0 x256000 x256001))) else (none)) else (none)) else (some x3)
def spec_meColours.l2 : Nat → List Int → Int → Int → Int → List Int → Int → Int → List Int → List Int → Option (List Int)
 | 0, _, _, _, _, _, _, _, _, _ => none
 | k + 1, x3, x5, x23, x24, x34, x35, x36, x256000, x256001 => if x36 < x35 then (if 0 ≤ x36 then (if x36 < (x34.length : Int) then (if 0 ≤ (rd x34 x36) then (if (rd x34 x36) < (x3.length : Int) then (spec_meColours.l2 k (x3.set ((rd x34 x36) : Int).toNat x5) x5 x23 x24 x34 x35 (wrap64 (x36 + 1)) x256000 x256001) else (none)) else (none)) else (none)) else (none)) else (spec_meColours.l1 k x3 (wrap64 (x5 + 1)) x23 (wrap64 (x24 + 1)) x256000 x256001)
end
def spec_meColours.f (k : Nat) (l0_0 : List Int) (l0_1 : List Int) : Option (List Int) := if 0 ≤ (l0_0.length : Int) then (if ((l0_0.length : Int) : Int).toNat ≤ 35184372088832 then ((some (List.replicate ((l0_0.length : Int) : Int).toNat 0 : List Int)).bind fun y256 => (spec_meColours.l0 k y256 (y256.length : Int) 0 l0_0 l0_1)) else (none)) else (none)
theorem spec_meColours.mono_l : ∀ k, (∀ y0 y1 y2 y3 y4, LeO (spec_meColours.l0 k y0 y1 y2 y3 y4) (spec_meColours.l0 (k + 1) y0 y1 y2 y3 y4)) ∧ (∀ y0 y1 y2 y3 y4 y5, LeO (spec_meColours.l1 k y0 y1 y2 y3 y4 y5) (spec_meColours.l1 (k + 1) y0 y1 y2 y3 y4 y5)) ∧ (∀ y0 y1 y2 y3 y4 y5 y6 y7 y8, LeO (spec_meColours.l2 k y0 y1 y2 y3 y4 y5 y6 y7 y8) (spec_meColours.l2 (k + 1) y0 y1 y2 y3 y4 y5 y6 y7 y8))
 | 0 => ⟨fun _ _ _ _ _ r h => by simp [spec_meColours.l0] at h, fun _ _ _ _ _ _ r h => by simp [spec_meColours.l1] at h, fun _ _ _ _ _ _ _ _ _ r h => by simp [spec_meColours.l2] at h⟩
 | k + 1 => by
  obtain ⟨ih0, ih1, ih2⟩ := spec_meColours.mono_l k
  refine ⟨?_, ?_, ?_⟩
  ·intro y0 y1 y2 y3 y4
   unfold spec_meColours.l0
   repeat' first
   | (with_reducible exact ih0 _ _ _ _ _)
   | (with_reducible exact ih1 _ _ _ _ _ _)
   | (with_reducible exact ih2 _ _ _ _ _ _ _ _ _)
   | (with_reducible exact spec_meWay.mono _ _ _ _)
   | (with_reducible exact LeO.refl _)
   | (with_reducible exact LeO.none _)
   | (with_reducible refine LeO.ite ?_ ?_)
   | (with_reducible refine LeO.bind ?_ (fun _ => ?_))
   | exact ih0 _ _ _ _ _
   | exact ih1 _ _ _ _ _ _
   | exact ih2 _ _ _ _ _ _ _ _ _
   | exact spec_meWay.mono _ _ _ _
   | exact LeO.none _
   | refine LeO.ite ?_ ?_
   | refine LeO.bind ?_ (fun _ => ?_)
  ·intro y0 y1 y2 y3 y4 y5
   unfold spec_meColours.l1
   repeat' first
   | (with_reducible exact ih0 _ _ _ _ _)
   | (with_reducible exact ih1 _ _ _ _ _ _)
   | (with_reducible exact ih2 _ _ _ _ _ _ _ _ _)
   | (with_reducible exact spec_meWay.mono _ _ _ _)
   | (with_reducible exact LeO.refl _)
   | (with_reducible exact LeO.none _)
   | (with_reducible refine LeO.ite ?_ ?_)
   | (with_reducible refine LeO.bind ?_ (fun _ => ?_))
   | exact ih0 _ _ _ _ _
   | exact ih1 _ _ _ _ _ _
   | exact ih2 _ _ _ _ _ _ _ _ _
   | exact spec_meWay.mono _ _ _ _
   | exact LeO.none _
   | refine LeO.ite ?_ ?_
   | refine LeO.bind ?_ (fun _ => ?_)
  ·intro y0 y1 y2 y3 y4 y5 y6 y7 y8
   unfold spec_meColours.l2
   repeat' first
   | (with_reducible exact ih0 _ _ _ _ _)
   | (with_reducible exact ih1 _ _ _ _ _ _)
   | (with_reducible exact ih2 _ _ _ _ _ _ _ _ _)
   | (with_reducible exact spec_meWay.mono _ _ _ _)
   | (with_reducible exact LeO.refl _)
   | (with_reducible exact LeO.none _)
   | (with_reducible refine LeO.ite ?_ ?_)
   | (with_reducible refine LeO.bind ?_ (fun _ => ?_))
   | exact ih0 _ _ _ _ _
   | exact ih1 _ _ _ _ _ _
   | exact ih2 _ _ _ _ _ _ _ _ _
   | exact spec_meWay.mono _ _ _ _
   | exact LeO.none _
   | refine LeO.ite ?_ ?_
   | refine LeO.bind ?_ (fun _ => ?_)
theorem spec_meColours.mono : ∀ a0 a1 k, LeO (spec_meColours.f k a0 a1) (spec_meColours.f (k + 1) a0 a1) := by
 intro a0 a1 k; obtain ⟨ih0, ih1, ih2⟩ := spec_meColours.mono_l k; unfold spec_meColours.f
 repeat' first
   | (with_reducible exact ih0 _ _ _ _ _)
   | (with_reducible exact ih1 _ _ _ _ _ _)
   | (with_reducible exact ih2 _ _ _ _ _ _ _ _ _)
   | (with_reducible exact spec_meWay.mono _ _ _ _)
   | (with_reducible exact LeO.refl _)
   | (with_reducible exact LeO.none _)
   | (with_reducible refine LeO.ite ?_ ?_)
   | (with_reducible refine LeO.bind ?_ (fun _ => ?_))
   | exact ih0 _ _ _ _ _
   | exact ih1 _ _ _ _ _ _
   | exact ih2 _ _ _ _ _ _ _ _ _
   | exact spec_meWay.mono _ _ _ _
   | exact LeO.none _
   | refine LeO.ite ?_ ?_
   | refine LeO.bind ?_ (fun _ => ?_)
theorem spec_meColours.calls (k : Nat) (A0_0 : Option Addr) (c0_0 : Nat) (l0_0 : List Int) (A0_1 : Option Addr) (c0_1 : Nat) (l0_1 : List Int) (r : List Int) (w : World) (hr0_0 : Kd.C (Kd.int .i64) w A0_0 l0_0.length l0_0) (hc0_0 : l0_0.length ≤ c0_0) (hr0_1 : Kd.C (Kd.int .i64) w A0_1 l0_1.length l0_1) (hc0_1 : l0_1.length ≤ c0_1) (h : spec_meColours.f k l0_0 l0_1 = some r) :
  Calls Try.prog 103 #[.agg #[.slice A0_0 l0_0.length c0_0, .slice A0_1 l0_1.length c0_1]] w fun e w' => ∃ v0_ : Value, e = .returned (v0_) ∧ Kd.R (Kd.int .i64) 3 w' w.heap.size (fun _ => True) v0_ r ∧ Below w.heap.size w w' := by
 have hu71 := Try.underlying71; have HR0_0 := Aside0.mk hr0_0; have HC0_0 := Aside0.mk hc0_0; clear hr0_0 hc0_0; have HR0_1 := Aside0.mk hr0_1; have HC0_1 := Aside0.mk hc0_1; clear hr0_1 hc0_1; have HB := Aside0.mk (Below.refl w.heap.size w); have H : (if 0 ≤ (l0_0.length : Int) then (if ((l0_0.length : Int) : Int).toNat ≤ 35184372088832 then ((some (List.replicate ((l0_0.length : Int) : Int).toNat 0 : List Int)).bind fun y256 => (spec_meColours.l0 k y256 (y256.length : Int) 0 l0_0 l0_1)) else (none)) else (none)) = some r := h; clear h
 by_cases c2 : 0 ≤ (l0_0.length : Int)
 ·rw [if_pos c2] at H; have c2b0 := eq_true c2; have c2b1 := decide_eq_true c2; clear c2
  by_cases c3 : ((l0_0.length : Int) : Int).toNat ≤ 35184372088832
  ·rw [if_pos c3] at H
   have c3b0 := eq_true c3
   have c3b1 : decide (((l0_0.length : Int) : Int).toNat ≤ 35184372088832) = true := decide_eq_true c3
   clear c3
   obtain ⟨y256, hy256⟩ : ∃ y_ : List Int, y_ = (List.replicate ((l0_0.length : Int) : Int).toNat 0) := ⟨_, rfl⟩
   (try rw [Option.bind_some] at H); (try dsimp only at H); rw [← hy256] at H
   have Ny256 := Aside0.mk hy256; clear hy256; have H' := Aside0.mk H; clear H; go_enter Try.func103, Try.ntmps103; go_wp2_with (first | ((with_reducible refine gate_dst (N := 1) rfl ?_); refine box_event ?hg (N := 1) ?hd (cs := #[.slice A0_0 l0_0.length c0_0, .slice A0_1 l0_1.length c0_1]) (t := 71) ?hr ?_; (case hd => rfl); (case hg => rfl); (case hr => first | (go_simp; done) | (go_simp; rfl)); intro gb255 hg w4 hbox hb; have BK255 := Aside0.mk (hbox); have GW255 := Aside0.mk ((by rw [hg]; exact (below_size (bl HB.out)) : w.heap.size ≤ gb255)); have GE255 := Aside0.mk ((by rw [hg]; exact (below_size (bl HB.out)) : w.heap.size ≤ gb255)); replace HB := bst HB hb; clear hb hbox hg; have hcz5_0 : w4.cell? ⟨gb255, 0, none⟩ = some (.slice A0_0 l0_0.length c0_0) := (blk_cell BK255.out 0).trans rfl; have hcz5_1 : w4.cell? ⟨gb255, 1, none⟩ = some (.slice A0_1 l0_1.length c0_1) := (blk_cell BK255.out 1).trans rfl; have hfz5_0 := blk_frozen BK255.out 0; have hfz5_1 := blk_frozen BK255.out 1) | ((with_reducible refine gate_dst (N := 12) rfl ?_); refine Kd.R_make (Kd.int .i64) _ 3 rfl (N := 12) rfl 35 _ _ rfl (l0_0.length : Int) rfl rfl Try.underlying35 (.int .i64 0) 8 info3 rfl (by decide) (by omega) 0 (ok := fun _ => True) (okp := fun _ => True) rfl (fun _ hk => hk) trivial (od) (Nat.le_trans (Nat.mul_le_mul_right _ (od : (l0_0.length : Int).toNat ≤ 35184372088832)) (by omega)) (Below.refl _ _) (Nat.le_refl _) ?_; intro v257 w6 ho7 hb hg_ hnew_; clear hg_ hnew_; (first | rw [← Ny256.out] at ho7 | (simp only [Int.reduceToNat] at ho7; rw [← Ny256.out] at ho7)); have HO258 := Aside0.mk (Kd.R_lower ho7 (below_size (bs1 HB.out GE255.out))); replace BK255 := bkb BK255 hb; replace HB := Aside0.mk (below_step (bs1 HB.out GE255.out) hb); clear hb ho7; obtain ⟨Ao8, co8, eo8⟩ := Kd.R_slice HO258.out; subst eo8))
   go_loopg [15] k (fun kq v15 w' => ∃ (x3_1 : List Int) (x15_1 : Int), v15 = .int .i64 x15_1 ∧ Aside0 (spec_meColours.l0 kq x3_1 (y256.length : Int) x15_1 l0_0 l0_1 = some r) ∧ Aside0 (kq ≤ k) ∧ Aside0 (Kd.R (Kd.int .i64) 3 w' w.heap.size (fun _ => True) (.slice Ao8 y256.length co8) x3_1) ∧ Aside0 (w'.heap[gb255]? = some (.cells #[(.slice A0_0 l0_0.length c0_0), (.slice A0_1 l0_1.length c0_1)] 71 (0, 0))) ∧ Aside0 (Below w.heap.size w w'))
   case atStart => exact ⟨(y256), (0), (sr2), H', ⟨Nat.le_refl _⟩, ⟨rR HO258.out⟩, ⟨by (with_reducible repeat (first | refine blk_drewN ?_ _ | refine blk_drew ?_ | refine blk_alloc ?_ _)); exact BK255.out⟩, ⟨bs1 HB.out GE255.out⟩⟩
   case round =>
    clear H'; obtain ⟨x3_1, x15_1, rfl, HA, HK1, HO_3, BK255, HB⟩ := hrel; have hl3_1 := (Kd.R_reads' HO_3.out).1; rw [hl3_1] at HO_3; (try simp only [hl3_1]); (try simp only [hl3_1] at BK255)
    cases gk with
    | zero => exact absurd HA.out (by simp [spec_meColours.l0])
    | succ k1 =>
     have H := HA.out; clear HA; simp only [spec_meColours.l0] at H
     by_cases c9 : x15_1 < (y256.length : Int)
     ·rw [if_pos c9] at H; have c9b0 := decide_eq_true c9; clear c9; (try simp only [hl3_1] at c9b0)
      by_cases c10 : 0 ≤ x15_1
      ·rw [if_pos c10] at H; have c10b0 := decide_eq_true c10; clear c10; (try simp only [hl3_1] at c10b0)
       by_cases c11 : x15_1 < (x3_1.length : Int)
       ·rw [if_pos c11] at H; have c11b0 := decide_eq_true c11; clear c11; (try simp only [hl3_1] at c11b0); obtain ⟨y259, hy259⟩ := yy (x3_1.set (x15_1 : Int).toNat (-1))
        (try rw [Option.bind_some] at H); (try dsimp only at H); rw [← hy259] at H
        have Ny259 := Aside0.mk hy259; clear hy259; have H' := Aside0.mk H; clear H; have p12 : 0 ≤ (x15_1 : Int) := od; have q12 : (x15_1 : Int) < ((x3_1.length : Int) : Int) := od; obtain ⟨go12, co12, eo12, gb12, gl12, cl12, HG12⟩ := Kd.R_form HO_3.out (by omega); (first | cases eo12 | (injection eo12 with ea_ en_ ec_; (first | subst ea_ | (injection ea_ with ea_; subst ea_)); subst ec_; clear en_)); have GB12 := Aside0.mk gb12; have GG12 := Aside0.mk HG12; clear gb12 gl12 HG12; obtain ⟨hx12_0, hf12_0⟩ := Kd.R_celln 0 HO_3.out (x15_1 : Int) p12 q12; replace p12 := eq_true p12; replace q12 := eq_true q12; have HP13 := Kd.R_putg HO_3.out (x15_1 : Int) (-1); go_wp2_with (first | ((with_reducible refine gate_store (t := 3) (p := 20) rfl ?_); refine store_event (t := 3) (p := 20) (v := ?vo_w14) (w1 := (wr.setCell ⟨go12, (x15_1 : Int).toNat, none⟩ (.int .i64 (-1)))) ?hg ?ho ?hn ?hr ?_; (case ho => rfl); (case hg => rfl); (case hn => rfl); (case hr => first | (go_simp; done) | (go_simp; rfl)); intro w14 hw; have hg : wr.grownBy w14 (some go12) := (by rw [hw]; exact HP13.2); have hp_ : Kd.R (Kd.int .i64) 3 w14 w.heap.size (fun _ => True) (.slice (some ⟨go12, 0, none⟩) x3_1.length co8) y259 := (by rw [hw, Ny259.out]; exact HP13.1); clear HP13; replace BK255 := Aside0.mk (blk_grown (bk BK255.out) hg (Kd.R_ne HO_3.out BK255.out (by decide))); replace HO_3 := Aside0.mk (hp_); replace HB := Aside0.mk ((by rw [hw]; exact below_set (HB.out) GB12.out : Below w.heap.size w w14)); clear hg hw hp_)); (try simp only [← hl3_1])
        go_roundg k1
        case measure => have := HK1.out; omega
        case rel => exact ⟨(y259), (wrap64 (x15_1 + 1)), (sr2), H', ⟨by have := HK1.out; omega⟩, ⟨by (try simp only [hl3_1]); (with_reducible repeat (first | apply Kd.R_alloc | apply Kd.R_drewN | apply Kd.R_drew)); exact HO_3.out⟩, ⟨by (try simp only [hl3_1]); (with_reducible repeat (first | refine blk_drewN ?_ _ | refine blk_drew ?_ | refine blk_alloc ?_ _)); exact BK255.out⟩, ⟨bs1 HB.out GE255.out⟩⟩
       rw [if_neg c11] at H; exact absurd H (by simp)
      rw [if_neg c10] at H; exact absurd H (by simp)
     rw [if_neg c9] at H; have c9b0 := decide_eq_false c9; clear c9; (try simp only [hl3_1] at c9b0); have H' := Aside0.mk H; clear H; go_wp2
     go_loopg [5, 24] k1 (fun kq v5 v24 w' => ∃ (x3_2 : List Int) (x5_2 : Int) (x24_2 : Int), v5 = .int .i64 x5_2 ∧ v24 = .int .i64 x24_2 ∧ Aside0 (spec_meColours.l1 kq x3_2 x5_2 (x3_1.length : Int) x24_2 l0_0 l0_1 = some r) ∧ Aside0 (kq ≤ k1) ∧ Aside0 (Kd.R (Kd.int .i64) 3 w' w.heap.size (fun _ => True) (.slice Ao8 x3_1.length co8) x3_2) ∧ Aside0 (w'.heap[gb255]? = some (.cells #[(.slice A0_0 l0_0.length c0_0), (.slice A0_1 l0_1.length c0_1)] 71 (0, 0))) ∧ Aside0 (Below w.heap.size w w'))
     case atStart => exact ⟨(x3_1), (0), (0), (sr2), (sr2), H', ⟨Nat.le_refl _⟩, ⟨by (try simp only [hl3_1]); (with_reducible repeat (first | apply Kd.R_alloc | apply Kd.R_drewN | apply Kd.R_drew)); exact HO_3.out⟩, ⟨by (try simp only [hl3_1]); (with_reducible repeat (first | refine blk_drewN ?_ _ | refine blk_drew ?_ | refine blk_alloc ?_ _)); exact BK255.out⟩, ⟨bs1 HB.out GE255.out⟩⟩
     case round =>
      clear H'; obtain ⟨x3_2, x5_2, x24_2, rfl, rfl, HA, HK2, HO_3, BK255, HB⟩ := hrel; have hl3_2 := (Kd.R_reads' HO_3.out).1; rw [hl3_2] at HO_3; (try simp only [hl3_2]); (try simp only [hl3_2] at BK255)
      cases gk with
      | zero => exact absurd HA.out (by simp [spec_meColours.l1])
      | succ k2 =>
       have H := HA.out; clear HA; simp only [spec_meColours.l1] at H
       by_cases c15 : x24_2 < (x3_1.length : Int)
       ·rw [if_pos c15] at H; have c15b0 := decide_eq_true c15; clear c15; (try simp only [hl3_1, hl3_2] at c15b0)
        by_cases c16 : 0 ≤ x24_2
        ·rw [if_pos c16] at H; have c16b0 := decide_eq_true c16; clear c16; (try simp only [hl3_1, hl3_2] at c16b0)
         by_cases c17 : x24_2 < (x3_2.length : Int)
         ·rw [if_pos c17] at H; have c17b0 := decide_eq_true c17; clear c17; (try simp only [hl3_1, hl3_2] at c17b0)
          by_cases c18 : (rd x3_2 x24_2) ≥ 0
          ·rw [if_pos c18] at H; have c18b0 := decide_eq_true c18; clear c18; (try simp only [hl3_1, hl3_2] at c18b0); have H' := Aside0.mk H; clear H; obtain ⟨ad260, e260, hx260_0, p260, q260⟩ := atI (Kd.R_reads' HO_3.out).2.2 x24_2; cases e260; go_wp2; (try simp only [← hl3_2])
           go_roundg k2
           case measure => have := HK1.out; have := HK2.out; omega
           case rel => exact ⟨(x3_2), (x5_2), (wrap64 (x24_2 + 1)), (sr2), (sr2), H', ⟨by have := HK1.out; have := HK2.out; omega⟩, ⟨by (try simp only [hl3_1]); (try simp only [hl3_2]); (with_reducible repeat (first | apply Kd.R_alloc | apply Kd.R_drewN | apply Kd.R_drew)); exact HO_3.out⟩, ⟨by (try simp only [hl3_1]); (try simp only [hl3_2]); (with_reducible repeat (first | refine blk_drewN ?_ _ | refine blk_drew ?_ | refine blk_alloc ?_ _)); exact BK255.out⟩, ⟨bs1 HB.out GE255.out⟩⟩
          rw [if_neg c18] at H; have c18b0 := decide_eq_false c18; clear c18; (try simp only [hl3_1, hl3_2] at c18b0); obtain ⟨t261, A19, H⟩ := bi H; (try dsimp only at H); have H' := Aside0.mk H; clear H; obtain ⟨ad260, e260, hx260_0, p260, q260⟩ := atI (Kd.R_reads' HO_3.out).2.2 x24_2; cases e260; have hcz20_0 : wr.cell? ⟨gb255, 0, none⟩ = some (.slice A0_0 l0_0.length c0_0) := (blk_cell BK255.out 0).trans rfl; have hcz20_1 : wr.cell? ⟨gb255, 1, none⟩ = some (.slice A0_1 l0_1.length c0_1) := (blk_cell BK255.out 1).trans rfl; have hfz20_0 := blk_frozen BK255.out 0; have hfz20_1 := blk_frozen BK255.out 1; go_wp2_with (first | (go_at_call 109; (with_reducible refine (spec_meWay.calls k2 _ _ l0_0 _ _ l0_1 x24_2 t261 _ ?side1 ?side2 ?side3 HC0_1.out A19.out).mono ?_); (case side1 => exact cw (Kd.C_below HR0_0.out HB.out)); (case side2 => exact HC0_0.out); (case side3 => exact cw (Kd.C_below HR0_1.out HB.out)); rintro e w21 ⟨v262, rfl, ho0, hb⟩; have HO263 := Aside0.mk (Kd.R_lower (Kd.R_new' ho0 (Kd.R_lt (rR HO_3.out))) (below_size (bs1 HB.out GE255.out))); replace HO_3 := Aside0.mk (Kd.R_elder' (rR HO_3.out) (Kd.R_base ho0) hb); replace BK255 := bkb BK255 hb; replace HB := Aside0.mk (below_step (bs1 HB.out GE255.out) hb); obtain ⟨Ao22, co22, eo22⟩ := Kd.R_slice HO263.out; subst eo22))
          go_loopg [36] k2 (fun kq v36 w' => ∃ (x3_3 : List Int) (x36_3 : Int), v36 = .int .i64 x36_3 ∧ Aside0 (spec_meColours.l2 kq x3_3 x5_2 (x3_1.length : Int) x24_2 t261 (t261.length : Int) x36_3 l0_0 l0_1 = some r) ∧ Aside0 (kq ≤ k2) ∧ Aside0 (Kd.R (Kd.int .i64) 3 w' w.heap.size (fun k_ => some k_ ≠ ((.slice Ao22 t261.length co22) : Value).ownBlock) (.slice (some ad260) x3_2.length co8) x3_3) ∧ Aside0 (Kd.R (Kd.int .i64) 3 w' w.heap.size (fun k_ => some k_ ≠ ((.slice (some ad260) x3_2.length co8) : Value).ownBlock) (.slice Ao22 t261.length co22) t261) ∧ Aside0 (w'.heap[gb255]? = some (.cells #[(.slice A0_0 l0_0.length c0_0), (.slice A0_1 l0_1.length c0_1)] 71 (0, 0))) ∧ Aside0 (Below w.heap.size w w'))
          case atStart => exact ⟨(x3_2), (0), (sr2), H', ⟨Nat.le_refl _⟩, ⟨by (try simp only [hl3_1]); (try simp only [hl3_2]); (with_reducible repeat (first | apply Kd.R_alloc | apply Kd.R_drewN | apply Kd.R_drew)); exact Kd.R_mono HO_3.out (fun _ hk => hk.2)⟩, ⟨by (try simp only [hl3_1]); (try simp only [hl3_2]); (with_reducible repeat (first | apply Kd.R_alloc | apply Kd.R_drewN | apply Kd.R_drew)); exact Kd.R_mono HO263.out (fun _ hk => hk.2)⟩, ⟨by (try simp only [hl3_1]); (try simp only [hl3_2]); (with_reducible repeat (first | refine blk_drewN ?_ _ | refine blk_drew ?_ | refine blk_alloc ?_ _)); exact BK255.out⟩, ⟨bs1 HB.out GE255.out⟩⟩
          case round =>
           clear H'; obtain ⟨x3_3, x36_3, rfl, HA, HK3, HO_3, HO_34, BK255, HB⟩ := hrel; have hl3_3 := (Kd.R_reads' HO_3.out).1; rw [hl3_3] at HO_3; (try simp only [hl3_3]); (try simp only [hl3_3] at BK255); (try simp only [hl3_3] at HO_34)
           cases gk with
           | zero => exact absurd HA.out (by simp [spec_meColours.l2])
           | succ k3 =>
            have H := HA.out; clear HA; simp only [spec_meColours.l2] at H
            by_cases c23 : x36_3 < (t261.length : Int)
            ·rw [if_pos c23] at H; have c23b0 := decide_eq_true c23; clear c23; (try simp only [hl3_1, hl3_2, hl3_3] at c23b0)
             by_cases c24 : 0 ≤ x36_3
             ·rw [if_pos c24] at H; have c24b0 := decide_eq_true c24; clear c24; (try simp only [hl3_1, hl3_2, hl3_3] at c24b0)
              by_cases c25 : x36_3 < (t261.length : Int)
              ·rw [if_pos c25] at H; have c25b0 := decide_eq_true c25; clear c25; (try simp only [hl3_1, hl3_2, hl3_3] at c25b0)
               by_cases c26 : 0 ≤ (rd t261 x36_3)
               ·rw [if_pos c26] at H; have c26b0 := decide_eq_true c26; clear c26; (try simp only [hl3_1, hl3_2, hl3_3] at c26b0)
                by_cases c27 : (rd t261 x36_3) < (x3_3.length : Int)
                ·rw [if_pos c27] at H; have c27b0 := decide_eq_true c27; clear c27; (try simp only [hl3_1, hl3_2, hl3_3] at c27b0); obtain ⟨y265, hy265⟩ := yy (x3_3.set ((rd t261 x36_3) : Int).toNat x5_2)
                 (try rw [Option.bind_some] at H); (try dsimp only at H); rw [← hy265] at H
                 have Ny265 := Aside0.mk hy265; clear hy265; have H' := Aside0.mk H; clear H; obtain ⟨ad264, e264, hx264_0, p264, q264⟩ := atI (Kd.R_reads' HO_34.out).2.2 x36_3; cases e264; have p28 : 0 ≤ ((rd t261 x36_3) : Int) := od; have q28 : ((rd t261 x36_3) : Int) < ((x3_3.length : Int) : Int) := od; obtain ⟨go28, co28, eo28, gb28, gl28, cl28, HG28⟩ := Kd.R_form HO_3.out (by omega); (first | cases eo28 | (injection eo28 with ea_ en_ ec_; (first | subst ea_ | (injection ea_ with ea_; subst ea_)); subst ec_; clear en_)); have GB28 := Aside0.mk gb28; have GG28 := Aside0.mk HG28; clear gb28 gl28 HG28; (first | simp only [add_plain] at hx260_0 | skip); obtain ⟨hx28_0, hf28_0⟩ := Kd.R_celln 0 HO_3.out ((rd t261 x36_3) : Int) p28 q28; replace p28 := eq_true p28; replace q28 := eq_true q28; have HP29 := Kd.R_putg HO_3.out ((rd t261 x36_3) : Int) x5_2; go_wp2_with (first | ((with_reducible refine gate_store (t := 3) (p := 43) rfl ?_); refine store_event (t := 3) (p := 43) (v := ?vo_w30) (w1 := (wr.setCell ⟨go28, ((rd t261 x36_3) : Int).toNat, none⟩ (.int .i64 x5_2))) ?hg ?ho ?hn ?hr ?_; (case ho => rfl); (case hg => rfl); (case hn => rfl); (case hr => first | (go_simp; done) | (go_simp; rfl)); intro w30 hw; have hg : wr.grownBy w30 (some go28) := (by rw [hw]; exact HP29.2); have hp_ : Kd.R (Kd.int .i64) 3 w30 w.heap.size (fun k_ => some k_ ≠ (.slice (some ad264) t261.length co22 : Value).ownBlock) (.slice (some ⟨go28, 0, none⟩) x3_3.length co8) y265 := (by rw [hw, Ny265.out]; exact HP29.1); clear HP29; replace HO_34 := Aside0.mk (Kd.R_after (v := (.slice (some ⟨go28, 0, none⟩) x3_3.length co8)) (v1 := (.slice (some ⟨go28, 0, none⟩) x3_3.length co8)) (ok := (fun _ => True)) (rR (Kd.R_mono HO_34.out (fun _ hk => ⟨trivial, hk⟩))) hg (.inl rfl)); replace BK255 := Aside0.mk (blk_grown (bk BK255.out) hg (Kd.R_ne HO_3.out BK255.out (by decide))); replace HO_3 := Aside0.mk (hp_); replace HB := Aside0.mk ((by rw [hw]; exact below_set (HB.out) GB28.out : Below w.heap.size w w30)); clear hg hw hp_)); (try simp only [← hl3_3])
                 go_roundg k3
                 case measure => have := HK1.out; have := HK2.out; have := HK3.out; omega
                 case rel => exact ⟨(y265), (wrap64 (x36_3 + 1)), (sr2), H', ⟨by have := HK1.out; have := HK2.out; have := HK3.out; omega⟩, ⟨by (try simp only [hl3_1]); (try simp only [hl3_2]); (try simp only [hl3_3]); (with_reducible repeat (first | apply Kd.R_alloc | apply Kd.R_drewN | apply Kd.R_drew)); exact HO_3.out⟩, ⟨by (try simp only [hl3_1]); (try simp only [hl3_2]); (try simp only [hl3_3]); (with_reducible repeat (first | apply Kd.R_alloc | apply Kd.R_drewN | apply Kd.R_drew)); exact Kd.R_mono HO_34.out (fun _ hk => hk.2)⟩, ⟨by (try simp only [hl3_1]); (try simp only [hl3_2]); (try simp only [hl3_3]); (with_reducible repeat (first | refine blk_drewN ?_ _ | refine blk_drew ?_ | refine blk_alloc ?_ _)); exact BK255.out⟩, ⟨bs1 HB.out GE255.out⟩⟩
                rw [if_neg c27] at H; exact absurd H (by simp)
               rw [if_neg c26] at H; exact absurd H (by simp)
              rw [if_neg c25] at H; exact absurd H (by simp)
             rw [if_neg c24] at H; exact absurd H (by simp)
            rw [if_neg c23] at H; have c23b0 := decide_eq_false c23; clear c23; (try simp only [hl3_1, hl3_2, hl3_3] at c23b0); have H' := Aside0.mk H; clear H; go_wp2; (try simp only [← hl3_2, ← hl3_3])
            go_roundg k3
            case measure => have := HK1.out; have := HK2.out; have := HK3.out; omega
            case rel => exact ⟨(x3_3), (wrap64 (x5_2 + 1)), (wrap64 (x24_2 + 1)), (sr2), (sr2), H', ⟨by have := HK1.out; have := HK2.out; have := HK3.out; omega⟩, ⟨by (try simp only [hl3_1]); (try simp only [hl3_2]); (try simp only [hl3_3]); (with_reducible repeat (first | apply Kd.R_alloc | apply Kd.R_drewN | apply Kd.R_drew)); exact Kd.R_mono HO_3.out (fun _ hk => trivial)⟩, ⟨by (try simp only [hl3_1]); (try simp only [hl3_2]); (try simp only [hl3_3]); (with_reducible repeat (first | refine blk_drewN ?_ _ | refine blk_drew ?_ | refine blk_alloc ?_ _)); exact BK255.out⟩, ⟨bs1 HB.out GE255.out⟩⟩
         rw [if_neg c17] at H; exact absurd H (by simp)
        rw [if_neg c16] at H; exact absurd H (by simp)
       rw [if_neg c15] at H; have c15b0 := decide_eq_false c15; clear c15; (try simp only [hl3_1, hl3_2] at c15b0); obtain rfl := Option.some.inj H; go_wp2; go_ret; exact ⟨_, sr, rR HO_3.out, bs1 HB.out GE255.out⟩
  rw [if_neg c3] at H; exact absurd H (by simp)
 rw [if_neg c2] at H; exact absurd H (by simp)
/-! ### spec_meCount: function 92 -/
def spec_meCount.l0 : Nat → Int → List Int → Int → Int → Option (Int)
 | 0, _, _, _, _ => none
 | k + 1, x3, x7, x8, x9 => if x9 < x8 then (if 0 ≤ x9 then (if x9 < (x7.length : Int) then ((spec_l1Most.f x3 (rd x7 x9)).bind fun t271 => (spec_meCount.l0 k t271 x7 x8 (wrap64 (x9 + 1)))) else (none)) else (none)) else (some (wrap64 (x3 + 1)))
def spec_meCount.f (k : Nat) (l0_0 : List Int) (l0_1 : List Int) : Option (Int) := (spec_meColours.f k l0_0 l0_1).bind fun t267 => (spec_meCount.l0 k (-1) t267 (t267.length : Int) 0)
theorem spec_meCount.mono_l : ∀ k, (∀ y0 y1 y2 y3, LeO (spec_meCount.l0 k y0 y1 y2 y3) (spec_meCount.l0 (k + 1) y0 y1 y2 y3))
 | 0 => fun _ _ _ _ r h => by simp [spec_meCount.l0] at h
 | k + 1 => by
  have ih0 := spec_meCount.mono_l k
  ·intro y0 y1 y2 y3
   unfold spec_meCount.l0
   repeat' first
   | (with_reducible exact ih0 _ _ _ _)
   | (with_reducible exact spec_meColours.mono _ _ _)
   | (with_reducible exact LeO.refl _)
   | (with_reducible exact LeO.none _)
   | (with_reducible refine LeO.ite ?_ ?_)
   | (with_reducible refine LeO.bind ?_ (fun _ => ?_))
   | exact ih0 _ _ _ _
   | exact spec_meColours.mono _ _ _
   | exact LeO.none _
   | refine LeO.ite ?_ ?_
   | refine LeO.bind ?_ (fun _ => ?_)
theorem spec_meCount.mono : ∀ a0 a1 k, LeO (spec_meCount.f k a0 a1) (spec_meCount.f (k + 1) a0 a1) := by
 intro a0 a1 k; have ih0 := spec_meCount.mono_l k; unfold spec_meCount.f
 repeat' first
   | (with_reducible exact ih0 _ _ _ _)
   | (with_reducible exact spec_meColours.mono _ _ _)
   | (with_reducible exact LeO.refl _)
   | (with_reducible exact LeO.none _)
   | (with_reducible refine LeO.ite ?_ ?_)
   | (with_reducible refine LeO.bind ?_ (fun _ => ?_))
   | exact ih0 _ _ _ _
   | exact spec_meColours.mono _ _ _
   | exact LeO.none _
   | refine LeO.ite ?_ ?_
   | refine LeO.bind ?_ (fun _ => ?_)
theorem spec_meCount.calls (k : Nat) (A0_0 : Option Addr) (c0_0 : Nat) (l0_0 : List Int) (A0_1 : Option Addr) (c0_1 : Nat) (l0_1 : List Int) (r : Int) (w : World) (hr0_0 : Kd.C (Kd.int .i64) w A0_0 l0_0.length l0_0) (hc0_0 : l0_0.length ≤ c0_0) (hr0_1 : Kd.C (Kd.int .i64) w A0_1 l0_1.length l0_1) (hc0_1 : l0_1.length ≤ c0_1) (h : spec_meCount.f k l0_0 l0_1 = some r) :
  Calls Try.prog 92 #[.agg #[.slice A0_0 l0_0.length c0_0, .slice A0_1 l0_1.length c0_1]] w fun e w' => e = .returned (.int .i64 r) ∧ Below w.heap.size w w' := by
 have hu71 := Try.underlying71; have HR0_0 := Aside0.mk hr0_0; have HC0_0 := Aside0.mk hc0_0; clear hr0_0 hc0_0; have HR0_1 := Aside0.mk hr0_1; have HC0_1 := Aside0.mk hc0_1; clear hr0_1 hc0_1; have HB := Aside0.mk (Below.refl w.heap.size w); have H : ((spec_meColours.f k l0_0 l0_1).bind fun t267 => (spec_meCount.l0 k (-1) t267 (t267.length : Int) 0)) = some r := h; clear h; obtain ⟨t267, A2, H⟩ := bi H; (try dsimp only at H); have H' := Aside0.mk H; clear H; go_enter Try.func92, Try.ntmps92; go_wp2_with (first | ((with_reducible refine gate_dst (N := 1) rfl ?_); refine box_event ?hg (N := 1) ?hd (cs := #[.slice A0_0 l0_0.length c0_0, .slice A0_1 l0_1.length c0_1]) (t := 71) ?hr ?_; (case hd => rfl); (case hg => rfl); (case hr => first | (go_simp; done) | (go_simp; rfl)); intro gb266 hg w3 hbox hb; have BK266 := Aside0.mk (hbox); have GW266 := Aside0.mk ((by rw [hg]; exact (below_size (bl HB.out)) : w.heap.size ≤ gb266)); have GE266 := Aside0.mk ((by rw [hg]; exact (below_size (bl HB.out)) : w.heap.size ≤ gb266)); replace HB := bst HB hb; clear hb hbox hg; have hcz4_0 : w3.cell? ⟨gb266, 0, none⟩ = some (.slice A0_0 l0_0.length c0_0) := (blk_cell BK266.out 0).trans rfl; have hcz4_1 : w3.cell? ⟨gb266, 1, none⟩ = some (.slice A0_1 l0_1.length c0_1) := (blk_cell BK266.out 1).trans rfl; have hfz4_0 := blk_frozen BK266.out 0; have hfz4_1 := blk_frozen BK266.out 1) | (go_at_call 103; (with_reducible refine (spec_meColours.calls k _ _ l0_0 _ _ l0_1 t267 _ ?side1 ?side2 ?side3 HC0_1.out A2.out).mono ?_); (case side1 => exact cw (Kd.C_below HR0_0.out HB.out)); (case side2 => exact HC0_0.out); (case side3 => exact cw (Kd.C_below HR0_1.out HB.out)); rintro e w5 ⟨v268, rfl, ho0, hb⟩; have HO269 := Aside0.mk (Kd.R_lower ho0 (below_size (bs1 HB.out GE266.out))); replace BK266 := bkb BK266 hb; replace HB := Aside0.mk (below_step (bs1 HB.out GE266.out) hb); obtain ⟨Ao6, co6, eo6⟩ := Kd.R_slice HO269.out; subst eo6))
 go_loopg [3, 9] k (fun kq v3 v9 w' => ∃ (x3_1 : Int) (x9_1 : Int), v3 = .int .i64 x3_1 ∧ v9 = .int .i64 x9_1 ∧ Aside0 (spec_meCount.l0 kq x3_1 t267 (t267.length : Int) x9_1 = some r) ∧ Aside0 (kq ≤ k) ∧ Aside0 (Kd.R (Kd.int .i64) 3 w' w.heap.size (fun _ => True) (.slice Ao6 t267.length co6) t267) ∧ Aside0 (w'.heap[gb266]? = some (.cells #[(.slice A0_0 l0_0.length c0_0), (.slice A0_1 l0_1.length c0_1)] 71 (0, 0))) ∧ Aside0 (Below w.heap.size w w'))
 case atStart => exact ⟨((-1)), (0), (sr2), (sr2), H', ⟨Nat.le_refl _⟩, ⟨rR HO269.out⟩, ⟨by (with_reducible repeat (first | refine blk_drewN ?_ _ | refine blk_drew ?_ | refine blk_alloc ?_ _)); exact BK266.out⟩, ⟨bs1 HB.out GE266.out⟩⟩
 case round =>
  clear H'; obtain ⟨x3_1, x9_1, rfl, rfl, HA, HK1, HO_7, BK266, HB⟩ := hrel
  cases gk with
  | zero => exact absurd HA.out (by simp [spec_meCount.l0])
  | succ k1 =>
   have H := HA.out; clear HA; simp only [spec_meCount.l0] at H
   by_cases c7 : x9_1 < (t267.length : Int)
   ·rw [if_pos c7] at H; have c7b0 := decide_eq_true c7; clear c7
    by_cases c8 : 0 ≤ x9_1
    ·rw [if_pos c8] at H; have c8b0 := decide_eq_true c8; clear c8
     by_cases c9 : x9_1 < (t267.length : Int)
     ·rw [if_pos c9] at H; have c9b0 := decide_eq_true c9; clear c9; obtain ⟨t271, A10, H⟩ := bi H; (try dsimp only at H); have H' := Aside0.mk H; clear H; obtain ⟨ad270, e270, hx270_0, p270, q270⟩ := atI (Kd.R_reads' HO_7.out).2.2 x9_1; cases e270; go_wp2_with (first | (go_at_call 83; (with_reducible refine (spec_l1Most.calls x3_1 (rd t267 x9_1) t271 _ A10.out).mono ?_); rintro e w' ⟨rfl, ⟨nd, rfl⟩⟩))
      go_roundg k1
      case measure => have := HK1.out; omega
      case rel => exact ⟨(t271), (wrap64 (x9_1 + 1)), (sr2), (sr2), H', ⟨by have := HK1.out; omega⟩, ⟨rR HO_7.out⟩, ⟨by (with_reducible repeat (first | refine blk_drewN ?_ _ | refine blk_drew ?_ | refine blk_alloc ?_ _)); exact BK266.out⟩, ⟨bs1 HB.out GE266.out⟩⟩
     rw [if_neg c9] at H; exact absurd H (by simp)
    rw [if_neg c8] at H; exact absurd H (by simp)
   rw [if_neg c7] at H; have c7b0 := decide_eq_false c7; clear c7; obtain rfl := Option.some.inj H; go_wp2; go_ret; exact ⟨sr, bs1 HB.out GE266.out⟩
/-! ### spec_taExponents: function 62 -/
mutual
def spec_taExponents.l0 : Nat → List (List Int) → List (List Int) → List (List Int) → Int → Int → Option ((List (List Int)))
 | 0, _, _, _, _, _ => none
 | k + 1, x3, x4, x12, x13, x14 => if x14 < x13 then (if 0 ≤ x14 then (if x14 < (x12.length : Int) then (spec_taExponents.l1 k x3 x4 (rd_L1 x12 x14) ([] : List Int) x12 x13 x14 x3 (x3.length : Int) 0) else (none)) else (none)) else (some x4)
def spec_taExponents.l1 : Nat → List (List Int) → List (List Int) → List Int → List Int → List (List Int) → Int → Int → List (List Int) → Int → Int → Option ((List (List Int)))
 | 0, _, _, _, _, _, _, _, _, _, _ => none
 | k + 1, x3, x4, x6, x7, x12, x13, x14, x18, x19, x20 => if x20 < x19 then (if 0 ≤ x20 then (if x20 < (x18.length : Int) then ((spec_meCount.f k x6 (rd_L1 x18 x20)).bind fun t277 => (if x7.length < 17592186044416 then (spec_taExponents.l1 k x3 x4 x6 (x7 ++ [t277]) x12 x13 x14 x18 x19 (wrap64 (x20 + 1))) else (none))) else (none)) else (none)) else (if x4.length < 5864062014805 then (spec_taExponents.l0 k x3 (x4 ++ [x7]) x12 x13 (wrap64 (x14 + 1))) else (none))
end
def spec_taExponents.f (k : Nat) (a0 : Int) : Option ((List (List Int))) := (spec_ahAll.f k a0 0).bind fun t272 => (spec_taExponents.l0 k t272 ([] : List (List Int)) t272 (t272.length : Int) 0)
theorem spec_taExponents.mono_l : ∀ k, (∀ y0 y1 y2 y3 y4, LeO (spec_taExponents.l0 k y0 y1 y2 y3 y4) (spec_taExponents.l0 (k + 1) y0 y1 y2 y3 y4)) ∧ (∀ y0 y1 y2 y3 y4 y5 y6 y7 y8 y9, LeO (spec_taExponents.l1 k y0 y1 y2 y3 y4 y5 y6 y7 y8 y9) (spec_taExponents.l1 (k + 1) y0 y1 y2 y3 y4 y5 y6 y7 y8 y9))
 | 0 => ⟨fun _ _ _ _ _ r h => by simp [spec_taExponents.l0] at h, fun _ _ _ _ _ _ _ _ _ _ r h => by simp [spec_taExponents.l1] at h⟩
 | k + 1 => by
  obtain ⟨ih0, ih1⟩ := spec_taExponents.mono_l k
  refine ⟨?_, ?_⟩
  ·intro y0 y1 y2 y3 y4
   unfold spec_taExponents.l0
   repeat' first
   | (with_reducible exact ih0 _ _ _ _ _)
   | (with_reducible exact ih1 _ _ _ _ _ _ _ _ _ _)
   | (with_reducible exact spec_ahAll.mono _ _ _)
   | (with_reducible exact spec_meCount.mono _ _ _)
   | (with_reducible exact LeO.refl _)
   | (with_reducible exact LeO.none _)
   | (with_reducible refine LeO.ite ?_ ?_)
   | (with_reducible refine LeO.bind ?_ (fun _ => ?_))
   | exact ih0 _ _ _ _ _
   | exact ih1 _ _ _ _ _ _ _ _ _ _
   | exact spec_ahAll.mono _ _ _
   | exact spec_meCount.mono _ _ _
   | exact LeO.none _
   | refine LeO.ite ?_ ?_
   | refine LeO.bind ?_ (fun _ => ?_)
  ·intro y0 y1 y2 y3 y4 y5 y6 y7 y8 y9
   unfold spec_taExponents.l1
   repeat' first
   | (with_reducible exact ih0 _ _ _ _ _)
   | (with_reducible exact ih1 _ _ _ _ _ _ _ _ _ _)
   | (with_reducible exact spec_ahAll.mono _ _ _)
   | (with_reducible exact spec_meCount.mono _ _ _)
   | (with_reducible exact LeO.refl _)
   | (with_reducible exact LeO.none _)
   | (with_reducible refine LeO.ite ?_ ?_)
   | (with_reducible refine LeO.bind ?_ (fun _ => ?_))
   | exact ih0 _ _ _ _ _
   | exact ih1 _ _ _ _ _ _ _ _ _ _
   | exact spec_ahAll.mono _ _ _
   | exact spec_meCount.mono _ _ _
   | exact LeO.none _
   | refine LeO.ite ?_ ?_
   | refine LeO.bind ?_ (fun _ => ?_)
theorem spec_taExponents.mono : ∀ a0 k, LeO (spec_taExponents.f k a0) (spec_taExponents.f (k + 1) a0) := by
 intro a0 k; obtain ⟨ih0, ih1⟩ := spec_taExponents.mono_l k; unfold spec_taExponents.f
 repeat' first
   | (with_reducible exact ih0 _ _ _ _ _)
   | (with_reducible exact ih1 _ _ _ _ _ _ _ _ _ _)
   | (with_reducible exact spec_ahAll.mono _ _ _)
   | (with_reducible exact spec_meCount.mono _ _ _)
   | (with_reducible exact LeO.refl _)
   | (with_reducible exact LeO.none _)
   | (with_reducible refine LeO.ite ?_ ?_)
   | (with_reducible refine LeO.bind ?_ (fun _ => ?_))
   | exact ih0 _ _ _ _ _
   | exact ih1 _ _ _ _ _ _ _ _ _ _
   | exact spec_ahAll.mono _ _ _
   | exact spec_meCount.mono _ _ _
   | exact LeO.none _
   | refine LeO.ite ?_ ?_
   | refine LeO.bind ?_ (fun _ => ?_)
theorem spec_taExponents.calls (k : Nat) (a0 : Int) (r : List (List Int)) (w : World) (h : spec_taExponents.f k a0 = some r) :
  Calls Try.prog 62 #[.int .i64 a0] w fun e w' => ∃ v0_ : Value, e = .returned (v0_) ∧ Kd.S (Kd.slice 3 (Kd.int .i64)) 35 w' w.heap.size (fun _ => True) v0_ r ∧ Below w.heap.size w w' := by
 have hu71 := Try.underlying71; have HB := Aside0.mk (Below.refl w.heap.size w); have H : ((spec_ahAll.f k a0 0).bind fun t272 => (spec_taExponents.l0 k t272 ([] : List (List Int)) t272 (t272.length : Int) 0)) = some r := h; clear h; obtain ⟨t272, A2, H⟩ := bi H; (try dsimp only at H); have H' := Aside0.mk H; clear H; go_enter Try.func62, Try.ntmps62; go_wp2_with (first | (go_at_call 91; (with_reducible refine (spec_ahAll.calls k a0 0 t272 _ A2.out).mono ?_); rintro e w3 ⟨v273, rfl, ho0, hb⟩; have HO274 := Aside0.mk (Kd.S_lower ho0 (below_size (bl HB.out))); replace HB := bst HB hb; obtain ⟨Ao4, co4, eo4⟩ := Kd.S_slice HO274.out; subst eo4))
 go_loopg [4, 14] k (fun kq v4 v14 w' => ∃ (x4_1 : List (List Int)) (x14_1 : Int), v14 = .int .i64 x14_1 ∧ Aside0 (spec_taExponents.l0 kq t272 x4_1 t272 (t272.length : Int) x14_1 = some r) ∧ Aside0 (kq ≤ k) ∧ Aside0 (Kd.S (Kd.slice 3 (Kd.int .i64)) 35 w' w.heap.size (fun k_ => some k_ ≠ (v4 : Value).ownBlock) (.slice Ao4 t272.length co4) t272) ∧ Aside0 (Kd.S (Kd.slice 3 (Kd.int .i64)) 35 w' w.heap.size (fun k_ => some k_ ≠ ((.slice Ao4 t272.length co4) : Value).ownBlock ∧ some k_ ≠ ((.slice Ao4 t272.length co4) : Value).ownBlock) v4 x4_1) ∧ Aside0 (Kd.S (Kd.slice 3 (Kd.int .i64)) 35 w' w.heap.size (fun k_ => some k_ ≠ (v4 : Value).ownBlock) (.slice Ao4 t272.length co4) t272) ∧ Aside0 (Below w.heap.size w w'))
 case atStart => exact ⟨(([] : List (List Int))), (0), (sr2), H', ⟨Nat.le_refl _⟩, ⟨rS (Kd.S_mono HO274.out (fun _ hk => (by simp [Value.ownBlock])))⟩, ⟨by first | exact Kd.S_nil _ _ _ _ _ | exact Kd.N_nil _ _ _ _ _ | exact Kd.V_nil _ _ _ _ _ | exact Kd.Q_nil _ _ _ _ _ | exact Kd.R_nil _ _ _ _ _⟩, ⟨rS (Kd.S_mono HO274.out (fun _ hk => (by simp [Value.ownBlock])))⟩, ⟨bl HB.out⟩⟩
 case round =>
  clear H'; obtain ⟨x4_1, x14_1, rfl, HA, HK1, HO_3, HO_4, HO_12, HB⟩ := hrel
  cases gk with
  | zero => exact absurd HA.out (by simp [spec_taExponents.l0])
  | succ k1 =>
   have H := HA.out; clear HA; simp only [spec_taExponents.l0] at H
   by_cases c5 : x14_1 < (t272.length : Int)
   ·rw [if_pos c5] at H; have c5b0 := decide_eq_true c5; clear c5
    by_cases c6 : 0 ≤ x14_1
    ·rw [if_pos c6] at H; have c6b0 := decide_eq_true c6; clear c6
     by_cases c7 : x14_1 < (t272.length : Int)
     ·rw [if_pos c7] at H; have c7b0 := decide_eq_true c7; clear c7; have H' := Aside0.mk H; clear H; have p275 : 0 ≤ (x14_1 : Int) := od; have q275 : x14_1 < (t272.length : Int) := od; obtain ⟨ad275, A275_0, c275_0, e275, hx275_0, hl275_0, hi275_0⟩ := at_L1 (Kd.S_reads' HO_12.out).2.2 x14_1 p275 q275; cases e275; obtain ⟨ce275, hce275, hMe275, hcc275⟩ := Kd.S_get HO_12.out [] x14_1 p275 (by first | exact q275 | exact od | (have e_ := (Kd.S_reads' HO_12.out).1; omega)); obtain ⟨ve275_0, rfl, ge275_0⟩ := hMe275; have hv275_0 := hcc275 0 _ rfl; rw [Nat.add_zero, show ((Kd.slice 3 (Kd.int .i64))).sz = 1 from rfl, Nat.mul_one] at hv275_0; replace hv275_0 := Option.some.inj (hv275_0.symm.trans hx275_0); rw [hv275_0] at ge275_0; have HL275_0 := Aside0.mk (show Kd.R (Kd.int .i64) 3 _ _ _ _ (rd_L1 t272 x14_1) from ge275_0); clear hv275_0 ge275_0; clear hcc275 hce275; have HR275_0 := Aside0.mk hi275_0; have HC275_0 := Aside0.mk hl275_0; clear hi275_0 hl275_0; replace p275 := eq_true p275; replace q275 := eq_true q275; go_wp2
      go_loopg [7, 20] k1 (fun kq v7 v20 w' => ∃ (x7_2 : List Int) (x20_2 : Int), v20 = .int .i64 x20_2 ∧ Aside0 (spec_taExponents.l1 kq t272 x4_1 (rd_L1 t272 x14_1) x7_2 t272 (t272.length : Int) x14_1 t272 (t272.length : Int) x20_2 = some r) ∧ Aside0 (kq ≤ k1) ∧ Aside0 (Kd.S (Kd.slice 3 (Kd.int .i64)) 35 w' w.heap.size (fun k_ => some k_ ≠ (u4 : Value).ownBlock ∧ some k_ ≠ (v7 : Value).ownBlock) (.slice (some ad275) t272.length co4) t272) ∧ Aside0 (Kd.S (Kd.slice 3 (Kd.int .i64)) 35 w' w.heap.size (fun k_ => some k_ ≠ ((.slice (some ad275) t272.length co4) : Value).ownBlock ∧ some k_ ≠ (v7 : Value).ownBlock ∧ some k_ ≠ ((.slice (some ad275) t272.length co4) : Value).ownBlock ∧ some k_ ≠ ((.slice (some ad275) t272.length co4) : Value).ownBlock) u4 x4_1) ∧ Aside0 (Kd.R (Kd.int .i64) 3 w' w.heap.size (fun k_ => some k_ ≠ (v7 : Value).ownBlock) (.slice A275_0 (rd_L1 t272 x14_1).length c275_0) (rd_L1 t272 x14_1)) ∧ Aside0 (Kd.R (Kd.int .i64) 3 w' w.heap.size (fun _ => True) v7 x7_2) ∧ Aside0 (Kd.S (Kd.slice 3 (Kd.int .i64)) 35 w' w.heap.size (fun k_ => some k_ ≠ (u4 : Value).ownBlock ∧ some k_ ≠ (v7 : Value).ownBlock) (.slice (some ad275) t272.length co4) t272) ∧ Aside0 (Kd.S (Kd.slice 3 (Kd.int .i64)) 35 w' w.heap.size (fun k_ => some k_ ≠ (u4 : Value).ownBlock ∧ some k_ ≠ (v7 : Value).ownBlock) (.slice (some ad275) t272.length co4) t272) ∧ Aside0 (Below w.heap.size w w'))
      case atStart => exact ⟨(([] : List Int)), (0), (sr2), H', ⟨Nat.le_refl _⟩, ⟨rS (Kd.S_mono HO_3.out (fun _ hk => ⟨hk, (by simp [Value.ownBlock])⟩))⟩, ⟨rS (Kd.S_mono HO_4.out (fun _ hk => ⟨hk.1, ⟨(by simp [Value.ownBlock]), ⟨hk.2, hk.1⟩⟩⟩))⟩, ⟨rR (Kd.R_mono HL275_0.out (fun _ hk => (by simp [Value.ownBlock])))⟩, ⟨by first | exact Kd.R_nil _ _ _ _ _ | exact Kd.N_nil _ _ _ _ _ | exact Kd.V_nil _ _ _ _ _ | exact Kd.Q_nil _ _ _ _ _ | exact Kd.S_nil _ _ _ _ _⟩, ⟨rS (Kd.S_mono HO_12.out (fun _ hk => ⟨hk, (by simp [Value.ownBlock])⟩))⟩, ⟨rS (Kd.S_mono HO_3.out (fun _ hk => ⟨hk, (by simp [Value.ownBlock])⟩))⟩, ⟨bl HB.out⟩⟩
      case round =>
       clear H'; obtain ⟨x7_2, x20_2, rfl, HA, HK2, HO_3, HO_4, HO_6, HO_7, HO_12, HO_18, HB⟩ := hrel
       cases gk with
       | zero => exact absurd HA.out (by simp [spec_taExponents.l1])
       | succ k2 =>
        have H := HA.out; clear HA; simp only [spec_taExponents.l1] at H
        by_cases c8 : x20_2 < (t272.length : Int)
        ·rw [if_pos c8] at H; have c8b0 := decide_eq_true c8; clear c8
         by_cases c9 : 0 ≤ x20_2
         ·rw [if_pos c9] at H; have c9b0 := decide_eq_true c9; clear c9
          by_cases c10 : x20_2 < (t272.length : Int)
          ·rw [if_pos c10] at H; have c10b0 := decide_eq_true c10; clear c10; obtain ⟨t277, A11, H⟩ := bi H; (try dsimp only at H)
           by_cases c12 : x7_2.length < 17592186044416
           ·rw [if_pos c12] at H; have LMc12 := Aside0.mk c12; clear c12; obtain ⟨y278, hy278⟩ := yy (x7_2 ++ [t277])
            (try rw [Option.bind_some] at H); (try dsimp only at H); rw [← hy278] at H
            have Ny278 := Aside0.mk hy278; clear hy278; have H' := Aside0.mk H; clear H; have p276 : 0 ≤ (x20_2 : Int) := od; have q276 : x20_2 < (t272.length : Int) := od; obtain ⟨ad276, A276_0, c276_0, e276, hx276_0, hl276_0, hi276_0⟩ := at_L1 (Kd.S_reads' HO_18.out).2.2 x20_2 p276 q276; obtain rfl : ad275 = ad276 := (by injection e276); obtain ⟨ce276, hce276, hMe276, hcc276⟩ := Kd.S_get HO_18.out [] x20_2 p276 (by first | exact q276 | exact od | (have e_ := (Kd.S_reads' HO_18.out).1; omega)); obtain ⟨ve276_0, rfl, ge276_0⟩ := hMe276; have hv276_0 := hcc276 0 _ rfl; rw [Nat.add_zero, show ((Kd.slice 3 (Kd.int .i64))).sz = 1 from rfl, Nat.mul_one] at hv276_0; replace hv276_0 := Option.some.inj (hv276_0.symm.trans hx276_0); rw [hv276_0] at ge276_0; have HL276_0 := Aside0.mk (show Kd.R (Kd.int .i64) 3 _ _ _ _ (rd_L1 t272 x20_2) from ge276_0); clear hv276_0 ge276_0; clear hcc276 hce276; have HR276_0 := Aside0.mk hi276_0; have HC276_0 := Aside0.mk hl276_0; clear hi276_0 hl276_0; replace p276 := eq_true p276; replace q276 := eq_true q276; go_wp2_with (first | (go_at_call 92; (with_reducible refine (spec_meCount.calls k2 _ _ (rd_L1 t272 x14_1) _ _ (rd_L1 t272 x20_2) t277 _ ?side1 ?side2 ?side3 HC276_0.out A11.out).mono ?_); (case side1 => exact cw ((Kd.R_reads' HO_6.out).2.2)); (case side2 => exact (Kd.R_reads' HO_6.out).2.1); (case side3 => repeat (first | exact (by repeat (first | (with_reducible exact HR276_0.out) | (with_reducible refine Kd.C_alloc ?_ _) | (with_reducible refine Kd.C_drewN ?_ _) | (with_reducible refine Kd.C_drew ?_) | exact HR276_0.out)) | (with_reducible refine Kd.C_alloc ?_ _) | (with_reducible refine Kd.C_drewN ?_ _) | (with_reducible refine Kd.C_drew ?_))); rintro e w13 ⟨rfl, hb⟩; replace HO_3 := Aside0.mk (Kd.S_below (rS HO_3.out) hb); replace HO_4 := Aside0.mk (Kd.S_below (rS HO_4.out) hb); replace HO_6 := Aside0.mk (Kd.R_below (rR HO_6.out) hb); replace HO_7 := Aside0.mk (Kd.R_below (rR HO_7.out) hb); replace HO_12 := Aside0.mk (Kd.S_below (rS HO_12.out) hb); replace HO_18 := Aside0.mk (Kd.S_below (rS HO_18.out) hb); replace HL276_0 := Aside0.mk (Kd.R_below (rR HL276_0.out) hb); replace HR276_0 := Aside0.mk (Kd.C_below (by repeat (first | (with_reducible exact HR276_0.out) | (with_reducible refine Kd.C_alloc ?_ _) | (with_reducible refine Kd.C_drewN ?_ _) | (with_reducible refine Kd.C_drew ?_) | exact HR276_0.out)) hb); replace HB := bst HB hb) | ((with_reducible refine gate_builtin (b := .append) (xs := #[.tmp 24, .tmp 29]) rfl ?_); at_builtin; refine Kd.R_append (Kd.int .i64) (w0 := w) w.heap.size rfl (.tmp 24) (.tmp 29) 35 3 (.int .i64 0) 8 rfl Try.underlying35 info3 rfl (by decide) (by omega) u7 x7_2 t277 [.int .i64 t277] (fun _ => True) (fun _ => False) rfl rfl ?aP (fun _ hk => hk.elim) ?aF ?aO ?aB ?aS (by have := LMc12.out; omega) ?_; (case aP => exact rfl); (case aB => exact (bl HB.out)); (case aF => exact (fun _ _ => trivial)); (case aO => exact (rR HO_7.out)); (case aS => exact (below_size (bl HB.out))); intro v279 w14 ho hb hg hat; rw [← Ny278.out] at ho; replace HO_3 := Aside0.mk (Kd.S_after (ok := (fun k_ => some k_ ≠ (u4 : Value).ownBlock)) (rS HO_3.out) hg hat); replace HO_4 := Aside0.mk (Kd.S_after (ok := (fun k_ => some k_ ≠ (.slice (some ad275) t272.length co4 : Value).ownBlock ∧ some k_ ≠ (.slice (some ad275) t272.length co4 : Value).ownBlock ∧ some k_ ≠ (.slice (some ad275) t272.length co4 : Value).ownBlock)) (rS (Kd.S_mono HO_4.out (fun _ hk => ⟨⟨hk.1, ⟨hk.2.2.1, hk.2.2.2⟩⟩, hk.2.1⟩))) hg hat); replace HO_6 := Aside0.mk (Kd.R_after (ok := (fun _ => True)) (rR (Kd.R_mono HO_6.out (fun _ hk => ⟨trivial, hk⟩))) hg hat); replace HO_12 := Aside0.mk (Kd.S_after (ok := (fun k_ => some k_ ≠ (u4 : Value).ownBlock)) (rS HO_12.out) hg hat); replace HO_18 := Aside0.mk (Kd.S_after (ok := (fun k_ => some k_ ≠ (u4 : Value).ownBlock)) (rS HO_18.out) hg hat); replace HL276_0 := Aside0.mk (Kd.R_after (ok := (fun k_ => some k_ ≠ (u4 : Value).ownBlock ∧ some k_ ≠ (.slice (some ad275) t272.length co4 : Value).ownBlock)) (rR (Kd.R_mono HL276_0.out (fun _ hk => ⟨⟨hk.1.1, hk.2⟩, hk.1.2⟩))) hg hat); replace HB := Aside0.mk (hb); have HO280 := Aside0.mk (ho); clear HO_7; clear ho hb hg hat))
            go_roundg k2
            case measure => have := HK1.out; have := HK2.out; omega
            case rel => exact ⟨(y278), (wrap64 (x20_2 + 1)), (sr2), H', ⟨by have := HK1.out; have := HK2.out; omega⟩, ⟨rS HO_3.out⟩, ⟨rS (Kd.S_mono HO_4.out (fun _ hk => ⟨hk.1.1, ⟨hk.2, ⟨hk.1.2.1, hk.1.2.2⟩⟩⟩))⟩, ⟨rR (Kd.R_mono HO_6.out (fun _ hk => hk.2))⟩, ⟨rR HO280.out⟩, ⟨rS HO_12.out⟩, ⟨rS HO_18.out⟩, ⟨bl HB.out⟩⟩
           rw [if_neg c12] at H; exact absurd H (by simp)
          rw [if_neg c10] at H; exact absurd H (by simp)
         rw [if_neg c9] at H; exact absurd H (by simp)
        rw [if_neg c8] at H; have c8b0 := decide_eq_false c8; clear c8
        by_cases c15 : x4_1.length < 5864062014805
        ·rw [if_pos c15] at H; have LMc15 := Aside0.mk c15; clear c15; obtain ⟨y281, hy281⟩ := yy (x4_1 ++ [x7_2])
         (try rw [Option.bind_some] at H); (try dsimp only at H); rw [← hy281] at H
         have Ny281 := Aside0.mk hy281; clear hy281; have H' := Aside0.mk H; clear H; obtain ⟨Ao17, co17, eo17⟩ := Kd.R_slice HO_7.out; subst eo17; go_wp2_with (first | ((with_reducible refine gate_builtin (b := .append) (xs := #[.tmp 32, .tmp 34]) rfl ?_); at_builtin; refine Kd.S_append (Kd.slice 3 (Kd.int .i64)) (w0 := w) w.heap.size rfl (.tmp 32) (.tmp 34) 22 35 (.slice none 0 0) 24 rfl Try.underlying22 info35 rfl (by decide) (by omega) u4 x4_1 x7_2 [.slice Ao17 x7_2.length co17] (fun k_ => some k_ ≠ (.slice (some ad275) t272.length co4 : Value).ownBlock ∧ some k_ ≠ (.slice (some ad275) t272.length co4 : Value).ownBlock ∧ some k_ ≠ (.slice (some ad275) t272.length co4 : Value).ownBlock) (fun k_ => some k_ = (.slice Ao17 x7_2.length co17 : Value).ownBlock) rfl rfl ?aP (fun k_ hk_ => ((Kd.R_mono (ok' := fun k_ => ((fun k_ => some k_ ≠ (.slice (some ad275) t272.length co4 : Value).ownBlock ∧ some k_ ≠ (.slice (some ad275) t272.length co4 : Value).ownBlock ∧ some k_ ≠ (.slice (some ad275) t272.length co4 : Value).ownBlock)) k_ ∧ some k_ ≠ (u4 : Value).ownBlock) (Kd.R_apart' (Kd.R_apart' (Kd.R_apart' (Kd.R_apart' (HO_7.out) (Kd.S_typed HO_3.out) (by decide)) (Kd.S_typed HO_12.out) (by decide)) (Kd.S_typed HO_18.out) (by decide)) (Kd.S_typed HO_4.out) (by decide)) (fun k_ hk => ⟨⟨hk.1.1.1.2, ⟨hk.1.1.2, hk.1.2⟩⟩, hk.2⟩))).1 k_ hk_.symm) ?aF ?aO ?aB ?aS (by have := LMc15.out; omega) ?_; (case aP => exact Kd.M_row (Kd.R_mono (Kd.R_tight rfl (Kd.R_mono (ok' := fun k_ => ((fun k_ => some k_ ≠ (.slice (some ad275) t272.length co4 : Value).ownBlock ∧ some k_ ≠ (.slice (some ad275) t272.length co4 : Value).ownBlock ∧ some k_ ≠ (.slice (some ad275) t272.length co4 : Value).ownBlock)) k_ ∧ some k_ ≠ (u4 : Value).ownBlock) (Kd.R_apart' (Kd.R_apart' (Kd.R_apart' (Kd.R_apart' (HO_7.out) (Kd.S_typed HO_3.out) (by decide)) (Kd.S_typed HO_12.out) (by decide)) (Kd.S_typed HO_18.out) (by decide)) (Kd.S_typed HO_4.out) (by decide)) (fun k_ hk => ⟨⟨hk.1.1.1.2, ⟨hk.1.1.2, hk.1.2⟩⟩, hk.2⟩))) (fun _ h_ => h_))); (case aB => exact (bl HB.out)); (case aF => exact (fun k_ hk => ⟨Kd.fresh' (Kd.S_lt (rS HO_3.out)) k_ hk, Kd.fresh' (Kd.S_lt (rS HO_12.out)) k_ hk, Kd.fresh' (Kd.S_lt (rS HO_18.out)) k_ hk⟩)); (case aO => exact (rS (Kd.S_mono HO_4.out (fun k_ hk => ⟨⟨hk.1, ⟨hk.2.2.1, hk.2.2.2⟩⟩, fun e_ => hk.2.1 e_⟩)))); (case aS => exact (below_size (bl HB.out))); intro v282 w16 ho hb hg hat; rw [← Ny281.out] at ho; replace HO_3 := Aside0.mk (Kd.S_after (ok := (fun k_ => some k_ ≠ (.slice Ao17 x7_2.length co17 : Value).ownBlock)) (rS (Kd.S_mono HO_3.out (fun _ hk => by first | exact ⟨hk.2, hk.1⟩ | exact ⟨hk.1, hk.2⟩))) hg hat); replace HO_6 := Aside0.mk (Kd.R_over' (rR HO_6.out) (Kd.S_typed (rS HO_4.out)) (by decide) hg); replace HO_12 := Aside0.mk (Kd.S_after (ok := (fun k_ => some k_ ≠ (.slice Ao17 x7_2.length co17 : Value).ownBlock)) (rS (Kd.S_mono HO_12.out (fun _ hk => by first | exact ⟨hk.2, hk.1⟩ | exact ⟨hk.1, hk.2⟩))) hg hat); replace HO_18 := Aside0.mk (Kd.S_after (ok := (fun k_ => some k_ ≠ (.slice Ao17 x7_2.length co17 : Value).ownBlock)) (rS (Kd.S_mono HO_18.out (fun _ hk => by first | exact ⟨hk.2, hk.1⟩ | exact ⟨hk.1, hk.2⟩))) hg hat); replace HB := Aside0.mk (hb); have HO283 := Aside0.mk (ho); clear HO_4 HO_7; clear ho hb hg hat))
         go_roundg k2
         case measure => have := HK1.out; have := HK2.out; omega
         case rel => exact ⟨(y281), (wrap64 (x14_1 + 1)), (sr2), H', ⟨by have := HK1.out; have := HK2.out; omega⟩, ⟨rS (Kd.S_mono HO_3.out (fun _ hk => hk.2))⟩, ⟨rS (Kd.S_mono HO283.out (fun _ hk => ⟨hk.1, hk.2.1⟩))⟩, ⟨rS (Kd.S_mono HO_12.out (fun _ hk => hk.2))⟩, ⟨bl HB.out⟩⟩
        rw [if_neg c15] at H; exact absurd H (by simp)
     rw [if_neg c7] at H; exact absurd H (by simp)
    rw [if_neg c6] at H; exact absurd H (by simp)
   rw [if_neg c5] at H; have c5b0 := decide_eq_false c5; clear c5; obtain rfl := Option.some.inj H; go_wp2; go_ret; exact ⟨_, sr, rS (Kd.S_mono HO_4.out (fun _ hk => trivial)), bl HB.out⟩
/-! ### spec_taPower: function 76 -/
def spec_taPower.l0 : Nat → Int → Int → Int → Option (Int)
 | 0, _, _, _ => none
 | k + 1, x0, x1, x5 => if x1 > 0 then (spec_taPower.l0 k x0 (wrap64 (x1 - 1)) (wrap64 (x5 * x0))) else (some x5)
def spec_taPower.f (k : Nat) (a0 : Int) (a1 : Int) : Option (Int) := spec_taPower.l0 k a0 a1 1
theorem spec_taPower.mono_l : ∀ k, (∀ y0 y1 y2, LeO (spec_taPower.l0 k y0 y1 y2) (spec_taPower.l0 (k + 1) y0 y1 y2))
 | 0 => fun _ _ _ r h => by simp [spec_taPower.l0] at h
 | k + 1 => by
  have ih0 := spec_taPower.mono_l k
  ·intro y0 y1 y2
   unfold spec_taPower.l0
   repeat' first
   | (with_reducible exact ih0 _ _ _)
   | (with_reducible exact LeO.refl _)
   | (with_reducible exact LeO.none _)
   | (with_reducible refine LeO.ite ?_ ?_)
   | (with_reducible refine LeO.bind ?_ (fun _ => ?_))
   | exact ih0 _ _ _
   | exact LeO.none _
   | refine LeO.ite ?_ ?_
   | refine LeO.bind ?_ (fun _ => ?_)
theorem spec_taPower.mono : ∀ a0 a1 k, LeO (spec_taPower.f k a0 a1) (spec_taPower.f (k + 1) a0 a1) := by
 intro a0 a1 k; have ih0 := spec_taPower.mono_l k; unfold spec_taPower.f
 repeat' first
   | (with_reducible exact ih0 _ _ _)
   | (with_reducible exact LeO.refl _)
   | (with_reducible exact LeO.none _)
   | (with_reducible refine LeO.ite ?_ ?_)
   | (with_reducible refine LeO.bind ?_ (fun _ => ?_))
   | exact ih0 _ _ _
   | exact LeO.none _
   | refine LeO.ite ?_ ?_
   | refine LeO.bind ?_ (fun _ => ?_)
theorem spec_taPower.calls (k : Nat) (a0 : Int) (a1 : Int) (r : Int) (w : World) (h : spec_taPower.f k a0 a1 = some r) :
  Calls Try.prog 76 #[.int .i64 a0, .int .i64 a1] w fun e w' => e = .returned (.int .i64 r) ∧ Drawn0 w w' := by
 have H : (spec_taPower.l0 k a0 a1 1) = some r := h; clear h; have H' := Aside0.mk H; clear H; go_enter Try.func76, Try.ntmps76; go_wp2
 go_loopg [1, 5] k (fun kq v1 v5 w' => ∃ (x1_1 : Int) (x5_1 : Int), v1 = .int .i64 x1_1 ∧ v5 = .int .i64 x5_1 ∧ Aside0 (spec_taPower.l0 kq a0 x1_1 x5_1 = some r) ∧ Aside0 (kq ≤ k) ∧ Drawn0 w w')
 case atStart => exact ⟨(a1), (1), (sr2), (sr2), H', ⟨Nat.le_refl _⟩, by repeat (first | exact Drawn0.refl _ | apply Drawn0.step)⟩
 case round =>
  clear H'; obtain ⟨x1_1, x5_1, rfl, rfl, HA, HK1, ⟨m1, rfl⟩⟩ := hrel
  cases gk with
  | zero => exact absurd HA.out (by simp [spec_taPower.l0])
  | succ k1 =>
   have H := HA.out; clear HA; simp only [spec_taPower.l0] at H
   by_cases c3 : x1_1 > 0
   ·rw [if_pos c3] at H; have c3b0 := decide_eq_true c3; clear c3; have H' := Aside0.mk H; clear H; go_wp2
    go_roundg k1
    case measure => have := HK1.out; omega
    case rel => exact ⟨(wrap64 (x1_1 - 1)), (wrap64 (x5_1 * a0)), (sr2), (sr2), H', ⟨by have := HK1.out; omega⟩, by repeat (first | exact Drawn0.refl _ | apply Drawn0.step)⟩
   rw [if_neg c3] at H; have c3b0 := decide_eq_false c3; clear c3; obtain rfl := Option.some.inj H; go_wp2; go_ret; exact ⟨sr2, by repeat (first | exact Drawn0.refl _ | apply Drawn0.step)⟩
/-! ### spec_taTable: function 72 -/
def spec_taTable.row (k : Nat) (x : Int) : List Int → Option (List Int)
 | [] => some []
 | v :: t => (spec_taPower.f k x v).bind fun p => (spec_taTable.row k x t).bind fun r => some (p :: r)
def spec_taTable.tab (k : Nat) (x : Int) : List (List Int) → Option (List (List Int))
 | [] => some []
 | v :: t => (spec_taTable.row k x v).bind fun p => (spec_taTable.tab k x t).bind fun r => some (p :: r)
def spec_taTable.f (k : Nat) (a0 a1 : Int) : Option (List (List Int)) := (spec_taExponents.f k a0).bind fun R => spec_taTable.tab k a1 R
theorem spec_taTable.row_mono (k : Nat) (x : Int) : ∀ l, LeO (spec_taTable.row k x l) (spec_taTable.row (k + 1) x l)
 | [] => LeO.refl _
 | v :: t => LeO.bind (spec_taPower.mono _ _ _) (fun _ => LeO.bind (spec_taTable.row_mono k x t) (fun _ => LeO.refl _))
theorem spec_taTable.tab_mono (k : Nat) (x : Int) : ∀ l, LeO (spec_taTable.tab k x l) (spec_taTable.tab (k + 1) x l)
 | [] => LeO.refl _
 | v :: t => LeO.bind (spec_taTable.row_mono k x v) (fun _ => LeO.bind (spec_taTable.tab_mono k x t) (fun _ => LeO.refl _))
theorem spec_taTable.mono : ∀ a0 a1 k, LeO (spec_taTable.f k a0 a1) (spec_taTable.f (k + 1) a0 a1) := fun a0 a1 k => LeO.bind (spec_taExponents.mono _ _) (fun _ => spec_taTable.tab_mono k a1 _)
theorem spec_taTable.row_get (k : Nat) (x : Int) : ∀ (l T : List Int), spec_taTable.row k x l = some T → T.length = l.length ∧ ∀ i (h : i < l.length) (h2 : i < T.length), spec_taPower.f k x l[i] = some T[i]
 | [], T, h => by
  obtain rfl := Option.some.inj h
  exact ⟨rfl, fun i h => absurd h (Nat.not_lt_zero _)⟩
 | v :: t, T, h => by
  obtain ⟨p, hp, h⟩ := Option.bind_eq_some_iff.mp h
  obtain ⟨r, hr, h⟩ := Option.bind_eq_some_iff.mp h
  obtain rfl := Option.some.inj h
  have ih := spec_taTable.row_get k x t r hr
  refine ⟨by simp [ih.1], fun i h1 h2 => ?_⟩
  cases i with
  | zero => exact hp
  | succ i => exact ih.2 i (by simpa using h1) (by simpa using h2)
theorem spec_taTable.tab_get (k : Nat) (x : Int) : ∀ (l T : List (List Int)), spec_taTable.tab k x l = some T → T.length = l.length ∧ ∀ i (h : i < l.length) (h2 : i < T.length), spec_taTable.row k x l[i] = some T[i]
 | [], T, h => by
  obtain rfl := Option.some.inj h
  exact ⟨rfl, fun i h => absurd h (Nat.not_lt_zero _)⟩
 | v :: t, T, h => by
  obtain ⟨p, hp, h⟩ := Option.bind_eq_some_iff.mp h
  obtain ⟨r, hr, h⟩ := Option.bind_eq_some_iff.mp h
  obtain rfl := Option.some.inj h
  have ih := spec_taTable.tab_get k x t r hr
  refine ⟨by simp [ih.1], fun i h1 h2 => ?_⟩
  cases i with
  | zero => exact hp
  | succ i => exact ih.2 i (by simpa using h1) (by simpa using h2)
theorem spec_taTable.step {α : Type} (T R : List α) (i : Nat) (h : i < R.length) (hT : i < T.length) : (T.take i ++ R.drop i).set i T[i] = T.take (i + 1) ++ R.drop (i + 1) := by
 (have hl : (T.take i).length = i := by rw [List.length_take]; omega); rw [List.set_append_right _ _ (by omega), hl, Nat.sub_self, List.drop_eq_getElem_cons h, List.set_cons_zero, List.take_succ_eq_append_getElem hT, List.append_assoc]; rfl
theorem spec_taTable.at_ {α : Type} (T R : List α) (i : Nat) (h : i < R.length) (hT : T.length = R.length) (h2 : i < (T.take i ++ R.drop i).length) : (T.take i ++ R.drop i)[i] = R[i] := by
 (have hl : (T.take i).length = i := by rw [List.length_take]; omega); rw [List.getElem_append_right (by omega)]; simp [hl]
theorem spec_taTable.len_ {α : Type} (T R : List α) (i : Nat) (h : i ≤ R.length) (hT : T.length = R.length) : (T.take i ++ R.drop i).length = R.length := by
 rw [List.length_append, List.length_take, List.length_drop]; omega
theorem spec_taTable.calls (k : Nat) (a0 a1 : Int) (r : List (List Int)) (w : World) (h : spec_taTable.f k a0 a1 = some r) :
  Calls Try.prog 72 #[.int .i64 a0, .int .i64 a1] w fun e w' => ∃ v0_ : Value, e = .returned (v0_) ∧ Kd.S (Kd.slice 3 (Kd.int .i64)) 35 w' w.heap.size (fun _ => True) v0_ r ∧ Below w.heap.size w w' := by
 obtain ⟨R, hR, hT⟩ := Option.bind_eq_some_iff.mp h; obtain ⟨hlen, hget⟩ := spec_taTable.tab_get k a1 R r hT; have FR := Aside0.mk hR; have FG := Aside0.mk hget; have FL := Aside0.mk hlen; clear h hR hT hget hlen; go_enter Try.func72, Try.ntmps72; go_wp2_with (go_at_call 62; (with_reducible refine (spec_taExponents.calls k a0 R _ FR.out).mono ?_); rintro e w2 ⟨v2, rfl, ho, hb⟩; obtain ⟨A, c, rfl⟩ := Kd.S_slice ho; have HO := Aside0.mk ho; have HB := Aside0.mk hb; clear ho hb)
 go_loopg [14] R.length (fun kq v14 w' => ∃ (i : Nat), v14 = .int .i64 i ∧ i ≤ R.length ∧ R.length - i ≤ kq ∧ Aside0 (Kd.S (Kd.slice 3 (Kd.int .i64)) 35 w' w.heap.size (fun _ => True) (.slice A R.length c) (r.take i ++ R.drop i)) ∧ Aside0 (Below w.heap.size w w'))
 case atStart => exact ⟨0, by go_num, Nat.zero_le _, by omega, ⟨by simpa using HO.out⟩, HB⟩
 case round =>
  clear HO HB; obtain ⟨i, rfl, hi, hg, HO, HB⟩ := hrel
  by_cases hlt : i < R.length
  ·(have hltz : (i : Int) < (R.length : Int) := by omega); have hll := spec_taTable.len_ r R i hi FL.out; have hrow := FG.out i hlt (by have := FL.out; omega); have HRL := Aside0.mk hrow; obtain ⟨g, v, oki, rfl, hcell, hRw, hoki, hback⟩ := RowsS.S_one i (by omega) HO.out; rw [spec_taTable.at_ r R i hlt FL.out (by omega)] at hRw; obtain ⟨Ai, ci, rfl⟩ := Kd.R_slice hRw; obtain ⟨hTl, hTg⟩ := spec_taTable.row_get k a1 _ _ HRL.out; generalize hrw : R[i] = row at hRw hTl hTg hcell hback HRL; (have hrl : i < r.length := by have := FL.out; omega); generalize htw : r[i] = T at hTl hTg HRL; have TW := Aside0.mk htw; clear htw hrw hrow; have TL := Aside0.mk hTl; have TG := Aside0.mk hTg; have RW := Aside0.mk hRw; have BK := Aside0.mk hback; have HK := Aside0.mk (Kept.refl wr oki); have HO2 := HO; clear hTl hTg hRw hback hll hoki HO HRL; go_wp2
   go_loopg [20] row.length (fun kq v20 w' => ∃ (j : Nat), v20 = .int .i64 j ∧ j ≤ row.length ∧ row.length - j ≤ kq ∧ Aside0 (Kd.R (Kd.int .i64) 3 w' w.heap.size oki (.slice Ai row.length ci) (T.take j ++ row.drop j)) ∧ Aside0 (Kept wr w' oki) ∧ Aside0 (Below w.heap.size w w'))
   case atStart => exact ⟨0, by go_num, Nat.zero_le _, by omega, ⟨by simpa using RW.out⟩, HK, HB⟩
   case round =>
    clear RW HK HB; obtain ⟨j, rfl, hj, hgj, RW, HK, HB⟩ := hrel
    by_cases hltj : j < row.length
    ·(have hltzj : (j : Int) < (row.length : Int) := by omega); have hlj := spec_taTable.len_ T row j hj TL.out; obtain ⟨go, co, eo, gb, gl, cl, HG⟩ := Kd.R_form RW.out (by omega); (injection eo with e1 e2 e3); subst e1 e3; (have p5 : (0 : Int) ≤ (j : Int) := by omega); (have q5 : (j : Int) < ((row.length : Nat) : Int) := by omega); obtain ⟨hx, hf⟩ := Kd.R_celln 0 RW.out (j : Int) p5 q5
     have hv : rdOf 0 (T.take j ++ row.drop j) (j : Int) = row[j] := by
      unfold rdOf; rw [Int.toNat_natCast, List.getD_eq_getElem?_getD, List.getElem?_eq_getElem (by omega)]; exact spec_taTable.at_ T row j hltj TL.out (by omega)
     have hp := TG.out j hltj (by have := TL.out; omega); have FP := Aside0.mk hp; have HN := Aside0.mk (spec_taTable.step T row j hltj (by have := TL.out; omega)); simp only [Int.toNat_natCast] at hx hf; rw [hv] at hx; generalize row[j] = vj at hx FP; clear hv; generalize T[j]'(by have := TL.out; omega) = tj at FP HN; clear hp hlj p5 e2; go_wp2_with (go_at_call 76; (with_reducible refine (spec_taPower.calls k a1 vj tj _ FP.out).mono ?_); rintro e w4 ⟨rfl, hd⟩; have hb := RowsS.drawn_below hd; clear hd; have RW4 := Aside0.mk (Kd.R_below RW.out hb); have hK4 := Aside0.mk (Kept.below HK.out hb); have hB4 := Aside0.mk (below_step HB.out hb); clear RW HK HB hb hx hf; have RW := RW4; have HK := hK4; have HB := hB4; clear RW4 hK4 hB4; obtain ⟨hx, hf⟩ := Kd.R_celln 0 RW.out (j : Int) (by omega) (by omega); simp only [Int.toNat_natCast] at hx hf)
     have hw1 : wrap64 ((j : Int) + 1) = ((j + 1 : Nat) : Int) := by
      have hm := (Kd.R_reads' RW.out).2.2.2.1; rw [spec_taTable.len_ T row j hj TL.out] at hm; unfold wrap64; omega
     have hP := Kd.R_putg RW.out (j : Int) tj; rw [Int.toNat_natCast, HN.out] at hP; (have hs1 : Value.int .i64 (wrap64 ((j : Int) + 1)) = Value.int .i64 ((j + 1 : Nat) : Int) := by rw [hw1]); have hj1 : j + 1 ≤ row.length := hltj; clear hw1
     go_roundg (row.length - (j + 1))
     case measure => exact Nat.lt_of_lt_of_le (Nat.sub_lt_sub_left hltj (Nat.lt_succ_self j)) hgj
     case rel => exact ⟨j + 1, hs1, hj1, Nat.le_refl _, ⟨hP.1⟩, ⟨Kept.of_grown hP.2 HK.out (fun q hq => .inl (RW.out.1 q hq))⟩, ⟨below_set HB.out gb⟩⟩
    (have hje : j = row.length := by omega); subst hje; have hltzj : ¬ ((row.length : Int) < (row.length : Int)) := by omega
    have hrow2 : T.take row.length ++ row.drop row.length = T := by
     rw [List.drop_length, List.append_nil]; exact List.take_of_length_le (Nat.le_of_eq TL.out)
    rw [hrow2] at RW; have HS := BK.out _ T oki RW.out HK.out
    have hw1 : wrap64 ((i : Int) + 1) = ((i + 1 : Nat) : Int) := by
     have hm := (Kd.S_reads' HO2.out).2.2.2.1; rw [spec_taTable.len_ r R i hi FL.out] at hm; unfold wrap64; omega
    have HN := spec_taTable.step r R i hlt (by have := FL.out; omega); rw [TW.out] at HN; rw [HN] at HS; have HS2 := Aside0.mk HS; clear HS HN hrow2 RW; go_wp2; have hi1 : i + 1 ≤ R.length := hlt; clear hw1
    go_roundg (R.length - (i + 1))
    case measure => exact Nat.lt_of_lt_of_le (Nat.sub_lt_sub_left hlt (Nat.lt_succ_self i)) hg
    case rel => exact ⟨i + 1, by go_num, hi1, Nat.le_refl _, HS2, HB⟩
  (have hie : i = R.length := by omega); subst hie; have hltz : ¬ ((R.length : Int) < (R.length : Int)) := by omega
  have hr2 : r.take R.length ++ R.drop R.length = r := by
   rw [List.drop_length, List.append_nil]; exact List.take_of_length_le (Nat.le_of_eq FL.out)
  rw [hr2] at HO; clear hr2; go_wp2; go_ret; exact ⟨.slice A R.length c, rfl, HO.out, HB.out⟩
/-! ### spec_l1Cur_rows: function 58 -/
mutual
def spec_l1Cur_rows.l0 : Nat → Int → List (List Int) → Int → List Int → Int → Int → Option ((List (List Int)) × Int × Int)
 | 0, _, _, _, _, _, _ => none
 | k + 1, x5, x6, x7, x1000, x1001, x1002 => if x7 < x5 then (spec_l1Cur_rows.l1 k x5 x6 x7 ([] : List Int) 0 x1000 x1001 x1002) else ((spec_l1Cur_pick.f x1000 x1001 x1002 14).bind fun bt319 => (if bt319.1 = 0 then (if 0 < (x6.length : Int) then ((spec_l1Cur_among.f x1000 bt319.2.1 bt319.2.2 (([(-101), (-100), 100, 101, 4611686018427387904] : List Int))).bind fun bt326 => (if 0 < ((rd_L1 x6 0).length : Int) then (some ((x6.set (0 : Int).toNat ((rd_L1 x6 0).set (0 : Int).toNat bt326.1)), bt326.2.1, bt326.2.2)) else (none))) else (none)) else (if bt319.1 = 1 then (if x6.length < 5864062014805 then (some ((x6 ++ [(([1] : List Int))]), bt319.2.1, bt319.2.2)) else (none)) else (if bt319.1 = 2 then (some (([] : List (List Int)), bt319.2.1, bt319.2.2)) else (if bt319.1 = 3 then (spec_l1Cur_rows.l3 k ([] : List (List Int)) 0 x1000 bt319.2.1 bt319.2.2) else (some (x6, bt319.2.1, bt319.2.2)))))))
def spec_l1Cur_rows.l1 : Nat → Int → List (List Int) → Int → List Int → Int → List Int → Int → Int → Option ((List (List Int)) × Int × Int)
 | 0, _, _, _, _, _, _, _, _ => none
 | k + 1, x5, x6, x7, x8, x9, x1000, x1001, x1002 => if x9 < x5 then ((spec_l1Cur_pick.f x1000 x1001 x1002 9).bind fun bt299 => (if x8.length < 17592186044416 then (spec_l1Cur_rows.l1 k x5 x6 x7 (x8 ++ [wrap64 (bt299.1 - 4)]) (wrap64 (x9 + 1)) x1000 bt299.2.1 bt299.2.2) else (none))) else (if x7 > 1 then ((spec_l1Cur_one.f x1000 x1001 x1002 3).bind fun bt305 => (spec_l1Cur_rows.j2 k x5 x6 x7 x8 bt305.1 x1000 bt305.2.1 bt305.2.2)) else (spec_l1Cur_rows.j2 k x5 x6 x7 x8 false x1000 x1001 x1002))
def spec_l1Cur_rows.j2 : Nat → Int → List (List Int) → Int → List Int → Bool → List Int → Int → Int → Option ((List (List Int)) × Int × Int)
 | 0, _, _, _, _, _, _, _, _ => none
 | k + 1, x5, x6, x7, x8, x48, x1000, x1001, x1002 => if x48 = true then (spec_l1Cur_rows.l2 k x5 x6 x7 x8 (x8.length : Int) 0 x1000 x1001 x1002) else (if x6.length < 5864062014805 then (spec_l1Cur_rows.l0 k x5 (x6 ++ [x8]) (wrap64 (x7 + 1)) x1000 x1001 x1002) else (none))
def spec_l1Cur_rows.l2 : Nat → Int → List (List Int) → Int → List Int → Int → Int → List Int → Int → Int → Option ((List (List Int)) × Int × Int)
 | 0, _, _, _, _, _, _, _, _, _ => none
 | k + 1, x5, x6, x7, x8, x50, x51, x1000, x1001, x1002 => if x51 < x50 then (if 0 < (x6.length : Int) then (if 0 ≤ x51 then (if x51 < ((rd_L1 x6 0).length : Int) then (if 1 < (x6.length : Int) then (if x51 < ((rd_L1 x6 1).length : Int) then (if x51 < (x8.length : Int) then (spec_l1Cur_rows.l2 k x5 x6 x7 (x8.set (x51 : Int).toNat (wrap64 ((rd (rd_L1 x6 0) x51) + (rd (rd_L1 x6 1) x51)))) x50 (wrap64 (x51 + 1)) x1000 x1001 x1002) else (none)) else (none)) else (none)) else (none)) else (none)) else (none)) else (if x6.length < 5864062014805 then (spec_l1Cur_rows.l0 k x5 (x6 ++ [x8]) (wrap64 (x7 + 1)) x1000 x1001 x1002) else (none))
def spec_l1Cur_rows.l3 : Nat → List (List Int) → Int → List Int → Int → Int → Option ((List (List Int)) × Int × Int)
 | 0, _, _, _, _, _ => none
 | k + 1, x6, x11, x1000, x1001, x1002 => if x11 < 14 then (if 14 ≤ 35184372088832 then ((some (List.replicate 14 0 : List Int)).bind fun y338 => (if 0 ≤ x11 then (if x11 < (y338.length : Int) then ((some (y338.set (x11 : Int).toNat 16 : List Int)).bind fun y341 => (if x11 > 0 then ((spec_l1Cur_pick.f x1000 x1001 x1002 3).bind fun bt342 => (if 0 ≤ (wrap64 (x11 - 1)) then (if (wrap64 (x11 - 1)) < (y338.length : Int) then (if x6.length < 5864062014805 then (spec_l1Cur_rows.l3 k (x6 ++ [(y341.set ((wrap64 (x11 - 1)) : Int).toNat bt342.1)]) (wrap64 (x11 + 1)) x1000 bt342.2.1 bt342.2.2) else (none)) else (none)) else (none))) else (if x6.length < 5864062014805 then (spec_l1Cur_rows.l3 k (x6 ++ [y341]) (wrap64 (x11 + 1)) x1000 x1001 x1002) else (none)))) else (none)) else (none))) else (none)) else (some (x6, x1001, x1002))
end
def spec_l1Cur_rows.f (k : Nat) (s0_0 : List Int) (s0_1 : Int) (s0_2 : Int) : Option ((List (List Int)) × Int × Int) := (spec_l1Cur_one.f s0_0 s0_1 s0_2 3).bind fun bt284 => (if bt284.1 = true then ((spec_l1Cur_pick.f s0_0 bt284.2.1 bt284.2.2 3).bind fun bt287 => ((spec_l1Cur_pick.f s0_0 bt287.2.1 bt287.2.2 7).bind fun bt290 => ((spec_taTable.f k (wrap64 (1 + bt287.1)) (wrap64 (bt290.1 - 3))).bind fun t293 => (some (t293, bt290.2.1, bt290.2.2))))) else ((spec_l1Cur_pick.f s0_0 bt284.2.1 bt284.2.2 5).bind fun bt296 => (spec_l1Cur_rows.l0 k (wrap64 (1 + bt296.1)) ([] : List (List Int)) 0 s0_0 bt296.2.1 bt296.2.2)))
def spec_l1Cur_rows.T18 : Bool × List (List Nat × List Nat) := (true, [([], []), ([], []), ([], []), ([2], [2]), ([3], [3]), ([], []), ([4, 5], [4, 5]), ([6], [6]), ([], []), ([8], [8]), ([9], [9]), ([], []), ([10, 11], [10, 11]), ([12], [12]), ([7, 13], [7, 13]), ([0, 1, 0, 1, 2, 3, 4, 5, 6, 7, 8, 9, 10, 11, 12, 13, 14], [0, 1]), ([15, 14, 0, 1, 2, 3, 4, 5, 6, 7, 8, 9, 10, 11, 12, 13, 14], [14, 15])])
def spec_l1Cur_rows.B18 : List Nat := [0, 0, 0, 4, 12, 0, 60, 124, 0, 256, 768, 0, 3840, 7936, 16380, 32767, 65535]
theorem spec_l1Cur_rows.tab18 : rtab .any (opsOf Try.f58 18) = spec_l1Cur_rows.T18 := by kernel_rfl
theorem spec_l1Cur_rows.bits18 : waitsOk spec_l1Cur_rows.T18.2 spec_l1Cur_rows.B18 = true := by kernel_rfl
def spec_l1Cur_rows.T23 : Bool × List (List Nat × List Nat) := (true, [([], []), ([0], [0]), ([1], [1]), ([], []), ([], []), ([3, 4], [3, 4]), ([2, 0, 1, 2, 3, 4, 5], [2]), ([6, 5, 5, 0, 1, 2, 3, 4, 5], [5, 6])])
def spec_l1Cur_rows.B23 : List Nat := [0, 1, 3, 0, 0, 24, 63, 127]
theorem spec_l1Cur_rows.tab23 : rtab .any (opsOf Try.f58 23) = spec_l1Cur_rows.T23 := by kernel_rfl
theorem spec_l1Cur_rows.bits23 : waitsOk spec_l1Cur_rows.T23.2 spec_l1Cur_rows.B23 = true := by kernel_rfl
theorem spec_l1Cur_rows.calls (k : Nat) (g : Nat) (s0_0 : List Int) (s0_1 : Int) (s0_2 : Int) (r1 : List (List Int)) (r2 : Int) (r3 : Int) (w0 w : World) (hI : IsS57 w0 w g s0_0 s0_1 s0_2) (hB : Below w0.heap.size w0 w) (h : spec_l1Cur_rows.f k s0_0 s0_1 s0_2 = some (r1, r2, r3)) :
  Calls Try.prog 58 #[.pointer (some ⟨g, 0, none⟩)] w fun e w' => ∃ v0_ : Value, e = .returned (v0_) ∧ Kd.S (Kd.slice 3 (Kd.int .i64)) 35 w' w.heap.size (fun _ => True) v0_ r1 ∧ IsS57 w0 w' g s0_0 r2 r3 ∧ Below w0.heap.size w0 w' ∧ KeepBut w w' g none := by
 have HI0 := Aside0.mk hI; have HK := Aside0.mk (KeepBut.refl w g none); have HL := Aside0.mk hB.size; clear hI; have HW0 := Aside0.mk hB.size; have HB := Aside0.mk hB; clear hB; have H : ((spec_l1Cur_one.f s0_0 s0_1 s0_2 3).bind fun bt284 => (if bt284.1 = true then ((spec_l1Cur_pick.f s0_0 bt284.2.1 bt284.2.2 3).bind fun bt287 => ((spec_l1Cur_pick.f s0_0 bt287.2.1 bt287.2.2 7).bind fun bt290 => ((spec_taTable.f k (wrap64 (1 + bt287.1)) (wrap64 (bt290.1 - 3))).bind fun t293 => (some (t293, bt290.2.1, bt290.2.2))))) else ((spec_l1Cur_pick.f s0_0 bt284.2.1 bt284.2.2 5).bind fun bt296 => (spec_l1Cur_rows.l0 k (wrap64 (1 + bt296.1)) ([] : List (List Int)) 0 s0_0 bt296.2.1 bt296.2.2)))) = some (r1, r2, r3) := h; clear h; obtain ⟨⟨t284, t285, t286⟩, A2, H⟩ := bi H; (try dsimp only at H)
 by_cases c3 : t284 = true
 ·subst c3; rw [if_pos rfl] at H; obtain ⟨⟨t287, t288, t289⟩, A4, H⟩ := bi H; (try dsimp only at H); obtain ⟨⟨t290, t291, t292⟩, A5, H⟩ := bi H; (try dsimp only at H); obtain ⟨t293, A6, H⟩ := bi H; (try dsimp only at H); simp only [Option.some.injEq, Prod.mk.injEq] at H; obtain ⟨rfl, rfl, rfl⟩ := H; go_enter Try.func58, Try.ntmps58; go_wp2_with (first | ((with_reducible refine gate_callee (f := 64) rfl ?_); refine goesL_ (some 14) rfl rfl Try.func64 (by kernel_rfl) rfl #[.pointer (some ⟨g, 0, none⟩), .int .i64 3] rfl mp ?_; (with_reducible refine (spec_l1Cur_one.calls g s0_0 s0_1 s0_2 3 true t285 t286 w0 _ ?side1 ?side2 A2.out).mono ?_); (case side1 => exact iS HI0.out); (case side2 => exact bs1 HB.out (IsS57.ge HI0.out)); rintro e w7 ⟨rfl, hi, hb, hk⟩; refine ⟨_, rfl, ?_⟩; replace HK := kt HK hk; replace HB := Aside0.mk (hb); replace HI0 := Aside0.mk (hi)) | ((with_reducible refine gate_callee (f := 63) rfl ?_); refine goesL_ (some 16) rfl rfl Try.func63 (by kernel_rfl) rfl #[.pointer (some ⟨g, 0, none⟩), .int .i64 3] rfl mp ?_; (with_reducible refine (spec_l1Cur_pick.calls g s0_0 t285 t286 3 t287 t288 t289 w0 _ ?side1 ?side2 A4.out).mono ?_); (case side1 => exact iS HI0.out); (case side2 => exact bs1 HB.out (IsS57.ge HI0.out)); rintro e w8 ⟨rfl, hi, hb, hk⟩; refine ⟨_, rfl, ?_⟩; replace HK := kt HK hk; replace HB := Aside0.mk (hb); replace HI0 := Aside0.mk (hi)) | ((with_reducible refine gate_callee (f := 63) rfl ?_); refine goesL_ (some 19) rfl rfl Try.func63 (by kernel_rfl) rfl #[.pointer (some ⟨g, 0, none⟩), .int .i64 7] rfl mp ?_; (with_reducible refine (spec_l1Cur_pick.calls g s0_0 t288 t289 7 t290 t291 t292 w0 _ ?side1 ?side2 A5.out).mono ?_); (case side1 => exact iS HI0.out); (case side2 => exact bs1 HB.out (IsS57.ge HI0.out)); rintro e w9 ⟨rfl, hi, hb, hk⟩; refine ⟨_, rfl, ?_⟩; replace HK := kt HK hk; replace HB := Aside0.mk (hb); replace HI0 := Aside0.mk (hi)) | ((with_reducible refine gate_callee (f := 72) rfl ?_); refine goesL_ (some 23) rfl rfl Try.func72 (by kernel_rfl) rfl #[.int .i64 (wrap64 (1 + t287)), .int .i64 (wrap64 (t290 - 3))] rfl mp ?_; (with_reducible refine (spec_taTable.calls k (wrap64 (1 + t287)) (wrap64 (t290 - 3)) t293 _ A6.out).mono ?_); rintro e w10 ⟨v294, rfl, ho0, hb⟩; refine ⟨_, rfl, ?_⟩; have HO295 := Aside0.mk (Kd.S_lower ho0 (keep_size (w := w) (g := g) (row := none) (kb HK.out))); replace HK := Aside0.mk (KeepBut.trans (kb HK.out) (KeepBut.of_below hb g none) (.inl rfl)); replace HB := Aside0.mk (below_step (bs1 HB.out (IsS57.ge HI0.out)) hb); replace HI0 := Aside0.mk (IsS57.below (iS HI0.out) hb))); go_ret; exact ⟨_, sr, rS HO295.out, iS HI0.out, bs1 HB.out (IsS57.ge HI0.out), kb HK.out⟩
 replace c3 := Bool.eq_false_iff.mpr c3; subst c3; rw [if_neg (show ¬ (false = true) by decide)] at H; obtain ⟨⟨t296, t297, t298⟩, A11, H⟩ := bi H; (try dsimp only at H); have H' := Aside0.mk H; clear H; go_enter Try.func58, Try.ntmps58; go_wp2_with (first | ((with_reducible refine gate_callee (f := 64) rfl ?_); refine goesL_ (some 14) rfl rfl Try.func64 (by kernel_rfl) rfl #[.pointer (some ⟨g, 0, none⟩), .int .i64 3] rfl mp ?_; (with_reducible refine (spec_l1Cur_one.calls g s0_0 s0_1 s0_2 3 false t285 t286 w0 _ ?side1 ?side2 A2.out).mono ?_); (case side1 => exact iS HI0.out); (case side2 => exact bs1 HB.out (IsS57.ge HI0.out)); rintro e w12 ⟨rfl, hi, hb, hk⟩; refine ⟨_, rfl, ?_⟩; replace HK := kt HK hk; replace HB := Aside0.mk (hb); replace HI0 := Aside0.mk (hi)) | ((with_reducible refine gate_callee (f := 63) rfl ?_); refine goesL_ (some 25) rfl rfl Try.func63 (by kernel_rfl) rfl #[.pointer (some ⟨g, 0, none⟩), .int .i64 5] rfl mp ?_; (with_reducible refine (spec_l1Cur_pick.calls g s0_0 t285 t286 5 t296 t297 t298 w0 _ ?side1 ?side2 A11.out).mono ?_); (case side1 => exact iS HI0.out); (case side2 => exact bs1 HB.out (IsS57.ge HI0.out)); rintro e w13 ⟨rfl, hi, hb, hk⟩; refine ⟨_, rfl, ?_⟩; replace HK := kt HK hk; replace HB := Aside0.mk (hb); replace HI0 := Aside0.mk (hi)))
 go_loopg [6, 7] k (fun kq v6 v7 w' => ∃ (x6_1 : List (List Int)) (x7_1 : Int) (x1001_1 : Int) (x1002_1 : Int), v7 = .int .i64 x7_1 ∧ Aside0 (spec_l1Cur_rows.l0 kq (wrap64 (1 + t296)) x6_1 x7_1 s0_0 x1001_1 x1002_1 = some (r1, r2, r3)) ∧ Aside0 (kq ≤ k) ∧ Aside0 (Kd.S (Kd.slice 3 (Kd.int .i64)) 35 w' w.heap.size (fun _ => True) v6 x6_1) ∧ Aside0 (IsS57 w0 w' g s0_0 x1001_1 x1002_1) ∧ Aside0 (KeepBut w w' g none) ∧ Aside0 (Below w0.heap.size w0 w'))
 case atStart => exact ⟨(([] : List (List Int))), (0), (t297), (t298), (sr2), H', ⟨Nat.le_refl _⟩, ⟨by first | exact Kd.S_nil _ _ _ _ _ | exact Kd.N_nil _ _ _ _ _ | exact Kd.V_nil _ _ _ _ _ | exact Kd.Q_nil _ _ _ _ _ | exact Kd.R_nil _ _ _ _ _⟩, ⟨iS HI0.out⟩, ⟨kb HK.out⟩, ⟨bs1 HB.out (IsS57.ge HI0.out)⟩⟩
 case round =>
  clear H'; obtain ⟨x6_1, x7_1, x1001_1, x1002_1, rfl, HA, HK1, HO_6, HI0, HK, HB⟩ := hrel
  cases gk with
  | zero => exact absurd HA.out (by simp [spec_l1Cur_rows.l0])
  | succ k1 =>
   have H := HA.out; clear HA; simp only [spec_l1Cur_rows.l0] at H
   by_cases c14 : x7_1 < (wrap64 (1 + t296))
   ·rw [if_pos c14] at H; have c14b0 := decide_eq_true c14; clear c14; have H' := Aside0.mk H; clear H; go_wp2
    go_loopg [8, 9] k1 (fun kq v8 v9 w' => ∃ (x8_2 : List Int) (x9_2 : Int) (x1001_2 : Int) (x1002_2 : Int), v9 = .int .i64 x9_2 ∧ Aside0 (spec_l1Cur_rows.l1 kq (wrap64 (1 + t296)) x6_1 x7_1 x8_2 x9_2 s0_0 x1001_2 x1002_2 = some (r1, r2, r3)) ∧ Aside0 (kq ≤ k1) ∧ Aside0 (Kd.S (Kd.slice 3 (Kd.int .i64)) 35 w' w.heap.size (fun k_ => some k_ ≠ (v8 : Value).ownBlock) u6 x6_1) ∧ Aside0 (Kd.R (Kd.int .i64) 3 w' w.heap.size (fun _ => True) v8 x8_2) ∧ Aside0 (IsS57 w0 w' g s0_0 x1001_2 x1002_2) ∧ Aside0 (KeepBut w w' g none) ∧ Aside0 (Below w0.heap.size w0 w'))
    case atStart => exact ⟨(([] : List Int)), (0), (x1001_1), (x1002_1), (sr2), H', ⟨Nat.le_refl _⟩, ⟨rS (Kd.S_mono HO_6.out (fun _ hk => (by simp [Value.ownBlock])))⟩, ⟨by first | exact Kd.R_nil _ _ _ _ _ | exact Kd.N_nil _ _ _ _ _ | exact Kd.V_nil _ _ _ _ _ | exact Kd.Q_nil _ _ _ _ _ | exact Kd.S_nil _ _ _ _ _⟩, ⟨iS HI0.out⟩, ⟨kb HK.out⟩, ⟨bs1 HB.out (IsS57.ge HI0.out)⟩⟩
    case round =>
     clear H'; obtain ⟨x8_2, x9_2, x1001_2, x1002_2, rfl, HA, HK2, HO_6, HO_8, HI0, HK, HB⟩ := hrel
     cases gk with
     | zero => exact absurd HA.out (by simp [spec_l1Cur_rows.l1])
     | succ k2 =>
      have H := HA.out; clear HA; simp only [spec_l1Cur_rows.l1] at H
      by_cases c15 : x9_2 < (wrap64 (1 + t296))
      ·rw [if_pos c15] at H; have c15b0 := decide_eq_true c15; clear c15; obtain ⟨⟨t299, t300, t301⟩, A16, H⟩ := bi H; (try dsimp only at H)
       by_cases c17 : x8_2.length < 17592186044416
       ·rw [if_pos c17] at H; have LMc17 := Aside0.mk c17; clear c17; obtain ⟨y302, hy302⟩ := yy (x8_2 ++ [wrap64 (t299 - 4)])
        (try rw [Option.bind_some] at H); (try dsimp only at H); rw [← hy302] at H
        have Ny302 := Aside0.mk hy302; clear hy302; have H' := Aside0.mk H; clear H; go_wp2_with (first | ((with_reducible refine gate_callee (f := 63) rfl ?_); refine goesL_ (some 39) rfl rfl Try.func63 (by kernel_rfl) rfl #[.pointer (some ⟨g, 0, none⟩), .int .i64 9] rfl mp ?_; (with_reducible refine (spec_l1Cur_pick.calls g s0_0 x1001_2 x1002_2 9 t299 t300 t301 w0 _ ?side1 ?side2 A16.out).mono ?_); (case side1 => exact iS HI0.out); (case side2 => exact bs1 HB.out (IsS57.ge HI0.out)); rintro e w18 ⟨rfl, hi, hb, hk⟩; refine ⟨_, rfl, ?_⟩; replace HO_6 := Aside0.mk (Kd.S_mono (Kd.S_keep (IsS57.apartS (show IsS57 w0 _ g s0_0 x1001_2 x1002_2 from iS HI0.out) (rS HO_6.out) (by decide)) hk (fun _ h => h.2)) (fun _ h => h.1)); replace HO_8 := Aside0.mk (Kd.R_mono (Kd.R_keep (IsS57.apart (show IsS57 w0 _ g s0_0 x1001_2 x1002_2 from iS HI0.out) (rR HO_8.out) (by decide)) hk (fun _ h => h.2)) (fun _ h => h.1)); replace HK := kt HK hk; replace HB := Aside0.mk (hb); replace HI0 := Aside0.mk (hi)) | ((with_reducible refine gate_builtin (b := .append) (xs := #[.tmp 37, .tmp 41]) rfl ?_); at_builtin; refine Kd.R_append (Kd.int .i64) w.heap.size rfl (.tmp 37) (.tmp 41) 35 3 (.int .i64 0) 8 rfl Try.underlying35 info3 rfl (by decide) (by omega) u8 x8_2 (wrap64 (t299 - 4)) [.int .i64 (wrap64 (t299 - 4))] (fun _ => True) (fun _ => False) rfl rfl ?aP (fun _ hk => hk.elim) ?aF ?aO (Below.refl _ _) ?aS ?aL ?_; (case aP => exact rfl); (case aF => exact (fun _ _ => trivial)); (case aO => exact (rR HO_8.out)); (case aS => exact (keep_size (w := w) (g := g) (row := none) (kb HK.out))); (case aL => have := LMc17.out; omega); intro v303 w19 ho hb hg hat; rw [← Ny302.out] at ho; replace HO_6 := Aside0.mk (Kd.S_after (ok := (fun _ => True)) (rS (Kd.S_mono HO_6.out (fun _ hk => ⟨trivial, hk⟩))) hg hat); replace HB := Aside0.mk (below_weaken (bs1 HB.out (IsS57.ge HI0.out)) HL.out hb); replace HI0 := Aside0.mk (IsS57.grown (iS HI0.out) hg (IsS57.own_ne HI0.out HO_8.out (by decide))); replace HK := Aside0.mk (KeepBut.trans (kb HK.out) (KeepBut.of_grown hg g) (Kd.R_base2 HO_8.out)); have HO304 := Aside0.mk (ho); clear HO_8; clear ho hb hg hat))
        go_roundg k2
        case measure => have := HK1.out; have := HK2.out; omega
        case rel => exact ⟨(y302), (wrap64 (x9_2 + 1)), (t300), (t301), (sr2), H', ⟨by have := HK1.out; have := HK2.out; omega⟩, ⟨rS (Kd.S_mono HO_6.out (fun _ hk => hk.2))⟩, ⟨rR HO304.out⟩, ⟨iS HI0.out⟩, ⟨kb HK.out⟩, ⟨bs1 HB.out (IsS57.ge HI0.out)⟩⟩
       rw [if_neg c17] at H; exact absurd H (by simp)
      rw [if_neg c15] at H; have c15b0 := decide_eq_false c15; clear c15; have HC20 := Aside0.mk H; clear H
      go_upto_region 14 with (fail)
      go_cut [48] (fun v48 wc => ∃ (kq : Nat) (x48_19 : Bool) (x1001_19 : Int) (x1002_19 : Int), v48 = .bool x48_19 ∧ Aside0 (spec_l1Cur_rows.j2 kq (wrap64 (1 + t296)) x6_1 x7_1 x8_2 x48_19 s0_0 x1001_19 x1002_19 = some (r1, r2, r3)) ∧ Aside0 (kq ≤ k2) ∧ Aside0 (Kd.S (Kd.slice 3 (Kd.int .i64)) 35 wc w.heap.size (fun k_ => some k_ ≠ (u8 : Value).ownBlock) u6 x6_1) ∧ Aside0 (Kd.R (Kd.int .i64) 3 wc w.heap.size (fun _ => True) u8 x8_2) ∧ Aside0 (IsS57 w0 wc g s0_0 x1001_19 x1002_19) ∧ Aside0 (KeepBut w wc g none) ∧ Aside0 (Below w0.heap.size w0 wc))
      case first =>
       have H := HC20.out; clear HC20
       by_cases c21 : x7_1 > 1
       ·rw [if_pos c21] at H; have c21b0 := decide_eq_true c21; clear c21; (first | rw [c21b0] | (simp only [i64_w, i32_w]; rw [c21b0]) | skip); obtain ⟨⟨t305, t306, t307⟩, A22, H⟩ := bi H; (try dsimp only at H); have H' := Aside0.mk H; clear H; go_wp2_with (first | (go_at_call 64; (with_reducible refine (spec_l1Cur_one.calls g s0_0 x1001_2 x1002_2 3 t305 t306 t307 w0 _ ?side1 ?side2 A22.out).mono ?_); (case side1 => exact iS HI0.out); (case side2 => exact bs1 HB.out (IsS57.ge HI0.out)); rintro e w23 ⟨rfl, hi, hb, hk⟩; replace HO_6 := Aside0.mk (Kd.S_mono (Kd.S_keep (IsS57.apartS (show IsS57 w0 _ g s0_0 x1001_2 x1002_2 from iS HI0.out) (rS HO_6.out) (by decide)) hk (fun _ h => h.2)) (fun _ h => h.1)); replace HO_8 := Aside0.mk (Kd.R_mono (Kd.R_keep (IsS57.apart (show IsS57 w0 _ g s0_0 x1001_2 x1002_2 from iS HI0.out) (rR HO_8.out) (by decide)) hk (fun _ h => h.2)) (fun _ h => h.1)); replace HK := kt HK hk; replace HB := Aside0.mk (hb); replace HI0 := Aside0.mk (hi))); go_meet
        case rel => exact ⟨_, (t305), (t306), (t307), (sr2), H', ⟨by have := HK1.out; have := HK2.out; first | omega | exact Nat.le_refl _⟩, ⟨rS HO_6.out⟩, ⟨rR HO_8.out⟩, ⟨iS HI0.out⟩, ⟨kb HK.out⟩, ⟨bs1 HB.out (IsS57.ge HI0.out)⟩⟩
       rw [if_neg c21] at H; have c21b0 := decide_eq_false c21; clear c21; (first | rw [c21b0] | (simp only [i64_w, i32_w]; rw [c21b0]) | skip); have H' := Aside0.mk H; clear H; go_wp2; go_meet
       case rel => exact ⟨_, (false), (x1001_2), (x1002_2), (sr2), H', ⟨by have := HK1.out; have := HK2.out; first | omega | exact Nat.le_refl _⟩, ⟨rS HO_6.out⟩, ⟨rR HO_8.out⟩, ⟨iS HI0.out⟩, ⟨kb HK.out⟩, ⟨bs1 HB.out (IsS57.ge HI0.out)⟩⟩
      case rest =>
       clear HC20; obtain ⟨kq, x48_19, x1001_19, x1002_19, rfl, HA, HJ19, HO_6, HO_8, HI0, HK, HB⟩ := hcut
       cases kq with
       | zero => exact absurd HA.out (by simp [spec_l1Cur_rows.j2])
       | succ kj19 =>
        have H := HA.out; clear HA; simp only [spec_l1Cur_rows.j2] at H
        by_cases c24 : x48_19 = true
        ·subst c24; rw [if_pos rfl] at H; have H' := Aside0.mk H; clear H; obtain ⟨Ao25, co25, eo25⟩ := Kd.R_slice HO_8.out; subst eo25; go_wp2
         go_loopg [51] kj19 (fun kq v51 w' => ∃ (x8_4 : List Int) (x51_4 : Int), v51 = .int .i64 x51_4 ∧ Aside0 (spec_l1Cur_rows.l2 kq (wrap64 (1 + t296)) x6_1 x7_1 x8_4 (x8_2.length : Int) x51_4 s0_0 x1001_19 x1002_19 = some (r1, r2, r3)) ∧ Aside0 (kq ≤ kj19) ∧ Aside0 (Kd.S (Kd.slice 3 (Kd.int .i64)) 35 w' w.heap.size (fun k_ => some k_ ≠ ((.slice Ao25 x8_2.length co25) : Value).ownBlock) u6 x6_1) ∧ Aside0 (Kd.R (Kd.int .i64) 3 w' w.heap.size (fun _ => True) (.slice Ao25 x8_2.length co25) x8_4) ∧ Aside0 (IsS57 w0 w' g s0_0 x1001_19 x1002_19) ∧ Aside0 (KeepBut w w' g none) ∧ Aside0 (Below w0.heap.size w0 w'))
         case atStart => exact ⟨(x8_2), (0), (sr2), H', ⟨Nat.le_refl _⟩, ⟨rS HO_6.out⟩, ⟨rR HO_8.out⟩, ⟨iS HI0.out⟩, ⟨kb HK.out⟩, ⟨bs1 HB.out (IsS57.ge HI0.out)⟩⟩
         case round =>
          clear H'; obtain ⟨x8_4, x51_4, rfl, HA, HK4, HO_6, HO_8, HI0, HK, HB⟩ := hrel; have hl8_4 := (Kd.R_reads' HO_8.out).1; rw [hl8_4] at HO_8; (try simp only [hl8_4]); (try simp only [hl8_4] at HO_6)
          cases gk with
          | zero => exact absurd HA.out (by simp [spec_l1Cur_rows.l2])
          | succ k4 =>
           have H := HA.out; clear HA; simp only [spec_l1Cur_rows.l2] at H
           by_cases c26 : x51_4 < (x8_2.length : Int)
           ·rw [if_pos c26] at H; have c26b0 := decide_eq_true c26; clear c26; (try simp only [hl8_4] at c26b0)
            by_cases c27 : 0 < (x6_1.length : Int)
            ·rw [if_pos c27] at H; have c27b0 := decide_eq_true c27; have c27b1 : decide (0 < x6_1.length) = true := decide_eq_true (by omega); clear c27; (try simp only [hl8_4] at c27b0 c27b1)
             by_cases c28 : 0 ≤ x51_4
             ·rw [if_pos c28] at H; have c28b0 := decide_eq_true c28; clear c28; (try simp only [hl8_4] at c28b0)
              by_cases c29 : x51_4 < ((rd_L1 x6_1 0).length : Int)
              ·rw [if_pos c29] at H; have c29b0 := decide_eq_true c29; clear c29; (try simp only [hl8_4] at c29b0)
               by_cases c30 : 1 < (x6_1.length : Int)
               ·rw [if_pos c30] at H; have c30b0 := decide_eq_true c30; have c30b1 : decide (1 < x6_1.length) = true := decide_eq_true (by omega); clear c30; (try simp only [hl8_4] at c30b0 c30b1)
                by_cases c31 : x51_4 < ((rd_L1 x6_1 1).length : Int)
                ·rw [if_pos c31] at H; have c31b0 := decide_eq_true c31; clear c31; (try simp only [hl8_4] at c31b0)
                 by_cases c32 : x51_4 < (x8_4.length : Int)
                 ·rw [if_pos c32] at H; have c32b0 := decide_eq_true c32; clear c32; (try simp only [hl8_4] at c32b0); obtain ⟨y312, hy312⟩ := yy (x8_4.set (x51_4 : Int).toNat (wrap64 ((rd (rd_L1 x6_1 0) x51_4) + (rd (rd_L1 x6_1 1) x51_4))))
                  (try rw [Option.bind_some] at H); (try dsimp only at H); rw [← hy312] at H
                  have Ny312 := Aside0.mk hy312; clear hy312; have H' := Aside0.mk H; clear H; (try go_wp2); replace HO_6 := Aside0.mk (Kd.S_drew HO_6.out); replace HO_8 := Aside0.mk (Kd.R_drew HO_8.out); replace HI0 := Aside0.mk (IsS57.drew HI0.out); replace HK := Aside0.mk (keep_drew HK.out); replace HB := bd1 HB; obtain ⟨Ao35, co35, eo35⟩ := Kd.S_slice HO_6.out; (first | subst eo35 | (injection eo35 with f1_ f2_ f3_; have f4_ := f1_.symm; have f5_ := f3_.symm; clear f1_ f2_ f3_; subst f4_; subst f5_)); have p308 : 0 ≤ (0 : Int) := (by omega); have q308 : 0 < (x6_1.length : Int) := od; obtain ⟨ad308, A308_0, c308_0, e308, hx308_0, hl308_0, hi308_0⟩ := at_L1 (Kd.S_reads' HO_6.out).2.2 0 p308 q308; cases e308; obtain ⟨ce308, hce308, hMe308, hcc308⟩ := Kd.S_get HO_6.out [] 0 p308 (by first | exact q308 | exact od | (have e_ := (Kd.S_reads' HO_6.out).1; omega)); obtain ⟨ve308_0, rfl, ge308_0⟩ := hMe308; have hv308_0 := hcc308 0 _ rfl; rw [Nat.add_zero, show ((Kd.slice 3 (Kd.int .i64))).sz = 1 from rfl, Nat.mul_one] at hv308_0; replace hv308_0 := Option.some.inj (hv308_0.symm.trans hx308_0); rw [hv308_0] at ge308_0; have HL308_0 := Aside0.mk (show Kd.R (Kd.int .i64) 3 _ _ _ _ (rd_L1 x6_1 0) from ge308_0); clear hv308_0 ge308_0; have HX308_0 := Aside0.mk hx308_0; clear hcc308 hce308; have qi308 : (0 < x6_1.length) = True := eq_true (by omega); (try rw [show ((0 : Int)).toNat = 0 from rfl] at hx308_0); (try rw [Addr.add_zero'] at hx308_0); have HR308_0 := Aside0.mk hi308_0; have HC308_0 := Aside0.mk hl308_0; clear hi308_0 hl308_0; replace p308 := eq_true p308; replace q308 := eq_true q308; obtain ⟨ad309, e309, hx309_0, p309, q309⟩ := atI (by repeat (first | (with_reducible exact HR308_0.out) | (with_reducible refine Kd.C_alloc ?_ _) | (with_reducible refine Kd.C_drewN ?_ _) | (with_reducible refine Kd.C_drew ?_) | exact HR308_0.out)) x51_4; cases e309; have p310 : 0 ≤ (1 : Int) := (by omega); have q310 : 1 < (x6_1.length : Int) := od; obtain ⟨ad310, A310_0, c310_0, e310, hx310_0, hl310_0, hi310_0⟩ := at_L1 (Kd.S_reads' HO_6.out).2.2 1 p310 q310; obtain rfl : ad308 = ad310 := (by injection e310); obtain ⟨ce310, hce310, hMe310, hcc310⟩ := Kd.S_get HO_6.out [] 1 p310 (by first | exact q310 | exact od | (have e_ := (Kd.S_reads' HO_6.out).1; omega)); obtain ⟨ve310_0, rfl, ge310_0⟩ := hMe310; have hv310_0 := hcc310 0 _ rfl; rw [Nat.add_zero, show ((Kd.slice 3 (Kd.int .i64))).sz = 1 from rfl, Nat.mul_one] at hv310_0; replace hv310_0 := Option.some.inj (hv310_0.symm.trans hx310_0); rw [hv310_0] at ge310_0; have HL310_0 := Aside0.mk (show Kd.R (Kd.int .i64) 3 _ _ _ _ (rd_L1 x6_1 1) from ge310_0); clear hv310_0 ge310_0; have HX310_0 := Aside0.mk hx310_0; clear hcc310 hce310; (try simp only [show (1 : Int).toNat = 1 from rfl, Nat.reduceMul, Nat.reduceEqDiff, Go.Addr.add, ↓reduceIte] at hx310_0); have qi310 : (1 < x6_1.length) = True := eq_true (by omega); (try rw [show ((1 : Int)).toNat = 1 from rfl] at hx310_0); have HR310_0 := Aside0.mk hi310_0; have HC310_0 := Aside0.mk hl310_0; clear hi310_0 hl310_0; replace p310 := eq_true p310; replace q310 := eq_true q310; obtain ⟨ad311, e311, hx311_0, p311, q311⟩ := atI (by repeat (first | (with_reducible exact HR310_0.out) | (with_reducible refine Kd.C_alloc ?_ _) | (with_reducible refine Kd.C_drewN ?_ _) | (with_reducible refine Kd.C_drew ?_) | exact HR310_0.out)) x51_4; cases e311; have p33 : 0 ≤ (x51_4 : Int) := od; have q33 : (x51_4 : Int) < ((x8_4.length : Int) : Int) := od; obtain ⟨go33, co33, eo33, gb33, gl33, cl33, HG33⟩ := Kd.R_form HO_8.out (by omega); (first | cases eo33 | (injection eo33 with ea_ en_ ec_; (first | subst ea_ | (injection ea_ with ea_; subst ea_)); subst ec_; clear en_)); have GB33 := Aside0.mk gb33; have GG33 := Aside0.mk HG33; clear gb33 gl33 HG33; obtain ⟨hx33_0, hf33_0⟩ := Kd.R_celln 0 HO_8.out (x51_4 : Int) p33 q33; replace p33 := eq_true p33; replace q33 := eq_true q33; have HN0_go33 := Aside0.mk (show g ≠ go33 from by have h_ := IsS57.own_ne HI0.out HO_8.out (by decide); intro e_; exact h_ (by rw [e_]; rfl)); have HP36 := Kd.R_putn HO_8.out (x51_4 : Int) (wrap64 ((rd (rd_L1 x6_1 0) x51_4) + (rd (rd_L1 x6_1 1) x51_4))); rw [← Ny312.out] at HP36; have HQ36 := Aside0.mk HP36; clear HP36; refine start_ (n := 17) (S := fun w' => w'.cell? ad308 = some (.slice (some ad309) (rd_L1 x6_1 0).length c308_0) ∧ w'.cell? (ad309.add (x51_4).toNat) = some (.int .i64 (rd (rd_L1 x6_1 0) x51_4)) ∧ w'.cell? ⟨ad308.block, ad308.off + 1, none⟩ = some (.slice (some ad311) (rd_L1 x6_1 1).length c310_0) ∧ w'.cell? (ad311.add (x51_4).toNat) = some (.int .i64 (rd (rd_L1 x6_1 1) x51_4))) (ds := [16]) #[false, false, false, false, false, false, false, false, false, false, false, false, false, false, false, false, false] (by kernel_rfl) rfl rfl ⟨hx308_0, hx309_0, hx310_0, hx311_0⟩ (fun hHeld => ?_); refine with_tabW spec_l1Cur_rows.tab18 spec_l1Cur_rows.bits18 (fun HT_ HW_ => ?_); generalize wr.drew = w34 at HO_6 HO_8 HI0 HK HB GG33 HL308_0 HL310_0 HQ36 HR308_0 HR310_0 HX308_0 HX310_0 hf33_0 hx308_0 hx309_0 hx310_0 hx311_0 hx33_0 hHeld ⊢; refine pu 0 54 HT_.out ?_; refine pu 1 55 HT_.out ?_; refine pu 2 56 HT_.out ?_; refine pu 3 57 HT_.out ?_; refine pu 5 59 HT_.out ?_; refine pu 8 62 HT_.out ?_; refine pu 9 63 HT_.out ?_; refine pu 11 65 HT_.out ?_; refine tk 4 58 HT_.out HW_.out hHeld ?_ (hy := by rintro w' ⟨s0, s1, s2, s3⟩; go_simp; with_reducible rfl); refine pu 6 60 HT_.out ?_; refine tk 7 61 HT_.out HW_.out hHeld ?_ (hy := by rintro w' ⟨s0, s1, s2, s3⟩; go_simp; with_reducible rfl); refine tk 10 64 HT_.out HW_.out hHeld ?_ (hy := by rintro w' ⟨s0, s1, s2, s3⟩; go_simp; with_reducible rfl); refine pu 12 66 HT_.out ?_; refine tk 13 67 HT_.out HW_.out hHeld ?_ (hy := by rintro w' ⟨s0, s1, s2, s3⟩; go_simp; with_reducible rfl); refine pu 14 68 HT_.out ?_; refine pu 15 69 HT_.out ?_; refine last_ (i := 16) (N := none) #[true, true, true, true, true, true, true, true, true, true, true, true, true, true, true, true, true] rfl rfl (one_of HT_.out (by kernel_rfl)) (by decide) (fun K hK => ?_); refine skip_ (w1 := ?_) (by rfl) rfl ?_ ?_
                  rotate_left
                  ·go_simp; rfl
                  refine hK.out _ _ ?_; clear hK K; refine done_ (done_of HT_.out (by kernel_rfl)) ?_; (try go_wp2); (try simp only [← hl8_4])
                  go_roundg k4
                  case measure => have := HK1.out; have := HK2.out; have := HJ19.out; have := HK4.out; omega
                  case rel => exact ⟨(y312), (wrap64 (x51_4 + 1)), (sr2), H', ⟨by have := HK1.out; have := HK2.out; have := HJ19.out; have := HK4.out; omega⟩, ⟨by (try simp only [hl8_4]); (with_reducible repeat (first | apply Kd.S_alloc | apply Kd.S_drewN | apply Kd.S_drew)); exact Kd.S_mono (Kd.S_far (p := ⟨go33, (x51_4 : Int).toNat, none⟩) (Kd.S_mono HO_6.out (fun k_ hk => (⟨hk, fun e_ => hk (by rw [e_]; rfl)⟩ : _ ∧ k_ ≠ go33))) (fun _ hk => hk.2) (.int .i64 (wrap64 ((rd (rd_L1 x6_1 0) x51_4) + (rd (rd_L1 x6_1 1) x51_4))))) (fun _ hk => hk.1)⟩, ⟨by (try simp only [hl8_4]); (with_reducible repeat (first | apply Kd.R_alloc | apply Kd.R_drewN | apply Kd.R_drew)); exact HQ36.out⟩, ⟨iS1 HI0.out HN0_go33.out⟩, ⟨kb1 HK.out GB33.out⟩, ⟨bs2 HB.out (Nat.le_trans HL.out GB33.out) (IsS57.ge HI0.out)⟩⟩
                 rw [if_neg c32] at H; exact absurd H (by simp)
                rw [if_neg c31] at H; exact absurd H (by simp)
               rw [if_neg c30] at H; exact absurd H (by simp)
              rw [if_neg c29] at H; exact absurd H (by simp)
             rw [if_neg c28] at H; exact absurd H (by simp)
            rw [if_neg c27] at H; exact absurd H (by simp)
           rw [if_neg c26] at H; have c26b0 := decide_eq_false c26; clear c26; (try simp only [hl8_4] at c26b0)
           by_cases c37 : x6_1.length < 5864062014805
           ·rw [if_pos c37] at H; have LMc37 := Aside0.mk c37; clear c37; obtain ⟨y313, hy313⟩ := yy (x6_1 ++ [x8_4])
            (try rw [Option.bind_some] at H); (try dsimp only at H); rw [← hy313] at H
            have Ny313 := Aside0.mk hy313; clear hy313; have H' := Aside0.mk H; clear H; go_wp2_with (first | ((with_reducible refine gate_builtin (b := .append) (xs := #[.tmp 71, .tmp 73]) rfl ?_); at_builtin; refine Kd.S_append (Kd.slice 3 (Kd.int .i64)) w.heap.size rfl (.tmp 71) (.tmp 73) 22 35 (.slice none 0 0) 24 rfl Try.underlying22 info35 rfl (by decide) (by omega) u6 x6_1 x8_4 [.slice Ao25 x8_4.length co25] (fun _ => True) (fun k_ => some k_ = (.slice Ao25 x8_4.length co25 : Value).ownBlock) rfl rfl ?aP (fun k_ hk_ => ((Kd.R_mono (ok' := fun k_ => ((fun _ => True)) k_ ∧ some k_ ≠ (u6 : Value).ownBlock) (Kd.R_apart' (HO_8.out) (Kd.S_typed HO_6.out) (by decide)) (fun k_ hk => ⟨trivial, hk.2⟩))).1 k_ hk_.symm) ?aF ?aO (Below.refl _ _) ?aS ?aL ?_; (case aP => exact Kd.M_row (Kd.R_mono (Kd.R_tight rfl (Kd.R_mono (ok' := fun k_ => ((fun _ => True)) k_ ∧ some k_ ≠ (u6 : Value).ownBlock) (Kd.R_apart' (HO_8.out) (Kd.S_typed HO_6.out) (by decide)) (fun k_ hk => ⟨trivial, hk.2⟩))) (fun _ h_ => h_))); (case aF => exact (fun _ _ => trivial)); (case aO => exact (rS (Kd.S_mono HO_6.out (fun k_ hk => ⟨trivial, fun e_ => hk e_⟩)))); (case aS => exact (keep_size (w := w) (g := g) (row := none) (kb HK.out))); (case aL => have := LMc37.out; omega); intro v314 w38 ho hb hg hat; rw [← Ny313.out] at ho; replace HB := Aside0.mk (below_weaken (bs1 HB.out (IsS57.ge HI0.out)) HL.out hb); replace HI0 := Aside0.mk (IsS57.grown (iS HI0.out) hg (IsS57.own_neS HI0.out HO_6.out (by decide))); replace HK := Aside0.mk (KeepBut.trans (kb HK.out) (KeepBut.of_grown hg g) (Kd.S_base2 HO_6.out)); have HO315 := Aside0.mk (ho); clear HO_6 HO_8; clear ho hb hg hat)); (try simp only [← hl8_4])
            go_roundg k4
            case measure => have := HK1.out; have := HK2.out; have := HJ19.out; have := HK4.out; omega
            case rel => exact ⟨(y313), (wrap64 (x7_1 + 1)), (x1001_19), (x1002_19), (sr2), H', ⟨by have := HK1.out; have := HK2.out; have := HJ19.out; have := HK4.out; omega⟩, ⟨by (try simp only [hl8_4]); (with_reducible repeat (first | apply Kd.S_alloc | apply Kd.S_drewN | apply Kd.S_drew)); exact HO315.out⟩, ⟨iS HI0.out⟩, ⟨kb HK.out⟩, ⟨bs1 HB.out (IsS57.ge HI0.out)⟩⟩
           rw [if_neg c37] at H; exact absurd H (by simp)
        replace c24 := Bool.eq_false_iff.mpr c24; subst c24; rw [if_neg (show ¬ (false = true) by decide)] at H
        by_cases c39 : x6_1.length < 5864062014805
        ·rw [if_pos c39] at H; have LMc39 := Aside0.mk c39; clear c39; obtain ⟨y316, hy316⟩ := yy (x6_1 ++ [x8_2])
         (try rw [Option.bind_some] at H); (try dsimp only at H); rw [← hy316] at H
         have Ny316 := Aside0.mk hy316; clear hy316; have H' := Aside0.mk H; clear H; obtain ⟨Ao41, co41, eo41⟩ := Kd.R_slice HO_8.out; subst eo41; go_wp2_with (first | ((with_reducible refine gate_builtin (b := .append) (xs := #[.tmp 71, .tmp 73]) rfl ?_); at_builtin; refine Kd.S_append (Kd.slice 3 (Kd.int .i64)) w.heap.size rfl (.tmp 71) (.tmp 73) 22 35 (.slice none 0 0) 24 rfl Try.underlying22 info35 rfl (by decide) (by omega) u6 x6_1 x8_2 [.slice Ao41 x8_2.length co41] (fun _ => True) (fun k_ => some k_ = (.slice Ao41 x8_2.length co41 : Value).ownBlock) rfl rfl ?aP (fun k_ hk_ => ((Kd.R_mono (ok' := fun k_ => ((fun _ => True)) k_ ∧ some k_ ≠ (u6 : Value).ownBlock) (Kd.R_apart' (HO_8.out) (Kd.S_typed HO_6.out) (by decide)) (fun k_ hk => ⟨trivial, hk.2⟩))).1 k_ hk_.symm) ?aF ?aO (Below.refl _ _) ?aS ?aL ?_; (case aP => exact Kd.M_row (Kd.R_mono (Kd.R_tight rfl (Kd.R_mono (ok' := fun k_ => ((fun _ => True)) k_ ∧ some k_ ≠ (u6 : Value).ownBlock) (Kd.R_apart' (HO_8.out) (Kd.S_typed HO_6.out) (by decide)) (fun k_ hk => ⟨trivial, hk.2⟩))) (fun _ h_ => h_))); (case aF => exact (fun _ _ => trivial)); (case aO => exact (rS (Kd.S_mono HO_6.out (fun k_ hk => ⟨trivial, fun e_ => hk e_⟩)))); (case aS => exact (keep_size (w := w) (g := g) (row := none) (kb HK.out))); (case aL => have := LMc39.out; omega); intro v317 w40 ho hb hg hat; rw [← Ny316.out] at ho; replace HB := Aside0.mk (below_weaken (bs1 HB.out (IsS57.ge HI0.out)) HL.out hb); replace HI0 := Aside0.mk (IsS57.grown (iS HI0.out) hg (IsS57.own_neS HI0.out HO_6.out (by decide))); replace HK := Aside0.mk (KeepBut.trans (kb HK.out) (KeepBut.of_grown hg g) (Kd.S_base2 HO_6.out)); have HO318 := Aside0.mk (ho); clear HO_6 HO_8; clear ho hb hg hat))
         go_roundg kj19
         case measure => have := HK1.out; have := HK2.out; have := HJ19.out; omega
         case rel => exact ⟨(y316), (wrap64 (x7_1 + 1)), (x1001_19), (x1002_19), (sr2), H', ⟨by have := HK1.out; have := HK2.out; have := HJ19.out; omega⟩, ⟨rS HO318.out⟩, ⟨iS HI0.out⟩, ⟨kb HK.out⟩, ⟨bs1 HB.out (IsS57.ge HI0.out)⟩⟩
        rw [if_neg c39] at H; exact absurd H (by simp)
   rw [if_neg c14] at H; have c14b0 := decide_eq_false c14; clear c14; obtain ⟨⟨t319, t320, t321⟩, A42, H⟩ := bi H; (try dsimp only at H)
   by_cases c43 : t319 = 0
   ·rw [if_pos c43] at H; have c43b0 := beq_iff_eq.mpr c43; have c43b1 := bne_eq_false_iff_eq.mpr c43; clear c43
    by_cases c44 : 0 < (x6_1.length : Int)
    ·rw [if_pos c44] at H; have c44b0 := decide_eq_true c44; have c44b1 : decide (0 < x6_1.length) = true := decide_eq_true (by omega); clear c44; obtain ⟨y323, hy323⟩ := yy (([(-101), (-100), 100, 101, 4611686018427387904] : List Int))
     (try rw [Option.bind_some] at H); (try dsimp only at H); rw [← hy323] at H
     have Ny323 := Aside0.mk hy323; clear hy323; obtain ⟨⟨t326, t327, t328⟩, A45, H⟩ := bi H; (try dsimp only at H)
     by_cases c46 : 0 < ((rd_L1 x6_1 0).length : Int)
     ·rw [if_pos c46] at H; have c46b0 := decide_eq_true c46; have c46b1 : decide (0 < (rd_L1 x6_1 0).length) = true := decide_eq_true (by omega); clear c46; obtain ⟨y329, hy329⟩ := yy ((rd_L1 x6_1 0).set (0 : Int).toNat t326)
      (try rw [Option.bind_some] at H); (try dsimp only at H); rw [← hy329] at H
      have Ny329 := Aside0.mk hy329; clear hy329; obtain ⟨y331, hy331⟩ := yy (x6_1.set (0 : Int).toNat y329)
      (try rw [Option.bind_some] at H); (try dsimp only at H); rw [← hy331] at H
      have Ny331 := Aside0.mk hy331; clear hy331; simp only [Option.some.injEq, Prod.mk.injEq] at H; obtain ⟨rfl, rfl, rfl⟩ := H; (try go_wp2_with (first | ((with_reducible refine gate_callee (f := 63) rfl ?_); refine goesL_ (some 76) rfl rfl Try.func63 (by kernel_rfl) rfl #[.pointer (some ⟨g, 0, none⟩), .int .i64 14] rfl mp ?_; (with_reducible refine (spec_l1Cur_pick.calls g s0_0 x1001_1 x1002_1 14 t319 t320 t321 w0 _ ?side1 ?side2 A42.out).mono ?_); (case side1 => exact iS HI0.out); (case side2 => exact bs1 HB.out (IsS57.ge HI0.out)); rintro e w48 ⟨rfl, hi, hb, hk⟩; refine ⟨_, rfl, ?_⟩; replace HO_6 := Aside0.mk (Kd.S_mono (Kd.S_keep (IsS57.apartS (show IsS57 w0 _ g s0_0 x1001_1 x1002_1 from iS HI0.out) (rS HO_6.out) (by decide)) hk (fun _ h => h.2)) (fun _ h => h.1)); replace HK := kt HK hk; replace HB := Aside0.mk (hb); replace HI0 := Aside0.mk (hi)))); replace HO_6 := Aside0.mk (Kd.S_drew HO_6.out); replace HI0 := Aside0.mk (IsS57.drew HI0.out); replace HK := Aside0.mk (keep_drew HK.out); replace HB := bd1 HB; obtain ⟨Ao50, co50, eo50⟩ := Kd.S_slice HO_6.out; (first | subst eo50 | (injection eo50 with f1_ f2_ f3_; have f4_ := f1_.symm; have f5_ := f3_.symm; clear f1_ f2_ f3_; subst f4_; subst f5_)); have p322 : 0 ≤ (0 : Int) := (by omega); have q322 : 0 < (x6_1.length : Int) := od; obtain ⟨ad322, A322_0, c322_0, e322, hx322_0, hl322_0, hi322_0⟩ := at_L1 (Kd.S_reads' HO_6.out).2.2 0 p322 q322; cases e322; obtain ⟨ce322, hce322, hMe322, hcc322⟩ := Kd.S_get HO_6.out [] 0 p322 (by first | exact q322 | exact od | (have e_ := (Kd.S_reads' HO_6.out).1; omega)); obtain ⟨ve322_0, rfl, ge322_0⟩ := hMe322; have hv322_0 := hcc322 0 _ rfl; rw [Nat.add_zero, show ((Kd.slice 3 (Kd.int .i64))).sz = 1 from rfl, Nat.mul_one] at hv322_0; replace hv322_0 := Option.some.inj (hv322_0.symm.trans hx322_0); rw [hv322_0] at ge322_0; have HL322_0 := Aside0.mk (show Kd.R (Kd.int .i64) 3 _ _ _ _ (rd_L1 x6_1 0) from ge322_0); clear hv322_0 ge322_0; have HX322_0 := Aside0.mk hx322_0; clear hcc322 hce322; have qi322 : (0 < x6_1.length) = True := eq_true (by omega); (try rw [show ((0 : Int)).toNat = 0 from rfl] at hx322_0); (try rw [Addr.add_zero'] at hx322_0); have HR322_0 := Aside0.mk hi322_0; have HC322_0 := Aside0.mk hl322_0; clear hi322_0 hl322_0; replace p322 := eq_true p322; replace q322 := eq_true q322; refine start_ (n := 8) (S := fun w' => w'.cell? ad322 = some (.slice A322_0 (rd_L1 x6_1 0).length c322_0)) (ds := [7]) #[false, false, false, false, false, false, false, false] (by kernel_rfl) rfl rfl (hx322_0) (fun hHeld => ?_); refine with_tabW spec_l1Cur_rows.tab23 spec_l1Cur_rows.bits23 (fun HT_ HW_ => ?_); generalize w48.drew = w49 at HO_6 HI0 HK HB HL322_0 HR322_0 HX322_0 hx322_0 hHeld ⊢; refine pu 0 79 HT_.out ?_; refine pu 1 80 HT_.out ?_; refine pu 3 82 HT_.out ?_; refine tk 2 81 HT_.out HW_.out hHeld ?_ (hy := by intro w' s0; go_simp; with_reducible rfl); refine one_ (i := 4) (N := some 83) #[true, true, true, true, true, false, false, false] rfl rfl (one_of HT_.out (by kernel_rfl)) (by decide) (fun K hK => ?_); refine Kd.R_lit_step (Kd.int .i64) _ 3 ?hg (N := 83) ?hd (xs := ([(-101), (-100), 100, 101, 4611686018427387904] : List Int)) (inner := [.int .i64 (-101), .int .i64 (-100), .int .i64 100, .int .i64 101, .int .i64 4611686018427387904]) (ok := fun _ => True) (okp := fun _ => True) ?hr ?hp (fun _ hk => hk) trivial (Below.refl _ _) (Nat.le_refl _) (by simp) ?_; (case hd => rfl); (case hg => rfl); (case hr => first | (go_simp; done) | (go_simp; rfl)); (case hp => exact (Reps.one (show Kd.M (Kd.int .i64) _ _ _ (-101) [.int .i64 (-101)] from rfl) (Reps.one (show Kd.M (Kd.int .i64) _ _ _ (-100) [.int .i64 (-100)] from rfl) (Reps.one (show Kd.M (Kd.int .i64) _ _ _ 100 [.int .i64 100] from rfl) (Reps.one (show Kd.M (Kd.int .i64) _ _ _ 101 [.int .i64 101] from rfl) (Reps.one (show Kd.M (Kd.int .i64) _ _ _ 4611686018427387904 [.int .i64 4611686018427387904] from rfl) (Reps.none _ _))))))); intro v324 w51 ho52 hb hg_ hnew_; have HS0_ := (hb.cell (World.block_lt_of_cell? _ _ (hHeld))).trans (hHeld); clear hg_ hnew_; (first | rw [← Ny323.out] at ho52 | (simp only [Int.reduceToNat] at ho52; rw [← Ny323.out] at ho52)); replace HO_6 := Aside0.mk (Kd.S_elder' (rS HO_6.out) (Kd.R_base ho52) hb); have HO325 := Aside0.mk (Kd.R_lower (Kd.R_new' ho52 (Kd.R_lt (rR HL322_0.out))) (keep_size (w := w) (g := g) (row := none) (kb HK.out))); replace HL322_0 := Aside0.mk (Kd.R_elder' (rR HL322_0.out) (Kd.R_base ho52) hb); replace HR322_0 := Aside0.mk (Kd.C_below (by repeat (first | (with_reducible exact HR322_0.out) | (with_reducible refine Kd.C_alloc ?_ _) | (with_reducible refine Kd.C_drewN ?_ _) | (with_reducible refine Kd.C_drew ?_) | exact HR322_0.out)) hb); replace HX322_0 := Aside0.mk (pw_cell_below hb HX322_0.out); replace HK := Aside0.mk (KeepBut.trans (kb HK.out) (KeepBut.of_below hb g none) (.inl rfl)); replace HB := Aside0.mk (below_step (bs1 HB.out (IsS57.ge HI0.out)) hb); replace HI0 := Aside0.mk (IsS57.below (iS HI0.out) hb); clear hb ho52; obtain ⟨Ao53, co53, eo53⟩ := Kd.R_slice HO325.out; (first | subst eo53 | (injection eo53 with f1_ f2_ f3_; have f4_ := f1_.symm; have f5_ := f3_.symm; clear f1_ f2_ f3_; subst f4_; subst f5_)); refine hK.out _ _ (HS0_) (fun hHeld => ?_); clear hK K; refine norm_ (a' := ?_) ?_ ?_
      rotate_left
      ·show Act.put _ (some 83) _ = _; simp only [Act.put, List.setIfInBounds_toArray, List.set_cons_zero, List.set_cons_succ, i64_w, i32_w]; rfl
      refine one_ (i := 5) (N := some 84) #[true, true, true, true, true, true, false, false] rfl rfl (one_of HT_.out (by kernel_rfl)) (by decide) (fun K hK => ?_); refine goes_ Try.func65 (by kernel_rfl) rfl #[.pointer (some ⟨g, 0, none⟩), .slice Ao53 y323.length co53] (by rfl) rfl rfl mp ?_; (with_reducible refine (spec_l1Cur_among.calls g s0_0 t320 t321 _ _ y323 t326 t327 t328 w0 _ ?side1 ?side2 ?side3 ?side4 ?side5 A45.out).mono ?_); (case side1 => exact iS HI0.out); (case side2 => exact bs1 HB.out (IsS57.ge HI0.out)); (case side3 => exact cw ((Kd.R_reads' HO325.out).2.2)); (case side4 => exact (Kd.R_reads' HO325.out).2.1); (case side5 => exact far_slice (IsS57.own_ne HI0.out HO325.out (by decide))); rintro e w54 ⟨rfl, hi, hb, hk⟩; have HS0_ := keep_cell hk (hHeld) (by first | (rw [add_block]; exact Kd.own_blk (IsS57.own_neS HI0.out HO_6.out (by decide))) | (show (Addr.add _ _).block ≠ _; rw [add_block]; exact Kd.own_blk (IsS57.own_neS HI0.out HO_6.out (by decide))) | exact Kd.own_blk (IsS57.own_neS HI0.out HO_6.out (by decide))); refine ⟨_, rfl, ?_⟩; replace HL322_0 := Aside0.mk (Kd.R_mono (Kd.R_keep (IsS57.apart (show IsS57 w0 _ g s0_0 t320 t321 from iS HI0.out) (rR HL322_0.out) (by decide)) hk (fun _ h => h.2)) (fun _ h => h.1)); replace HX322_0 := Aside0.mk (keep_cell hk HX322_0.out (by first | (rw [add_block]; exact Kd.own_blk (IsS57.own_neS HI0.out HO_6.out (by decide))) | (show (Addr.add _ _).block ≠ _; rw [add_block]; exact Kd.own_blk (IsS57.own_neS HI0.out HO_6.out (by decide))) | exact Kd.own_blk (IsS57.own_neS HI0.out HO_6.out (by decide)) | (dsimp only; exact Kd.own_blk (IsS57.own_neS HI0.out HO_6.out (by decide))))); replace HO_6 := Aside0.mk (Kd.S_mono (Kd.S_keep (IsS57.apartS (show IsS57 w0 _ g s0_0 t320 t321 from iS HI0.out) (rS HO_6.out) (by decide)) hk (fun _ h => h.2)) (fun _ h => h.1)); replace HO325 := Aside0.mk (Kd.R_mono (Kd.R_keep (IsS57.apart (show IsS57 w0 _ g s0_0 t320 t321 from iS HI0.out) (rR HO325.out) (by decide)) hk (fun _ h => h.2)) (fun _ h => h.1)); replace HK := kt HK hk; replace HB := Aside0.mk (hb); replace HI0 := Aside0.mk (hi); (try clear hb); (try clear hb2); (try clear hk); (try clear hi); have p47 : 0 ≤ (0 : Int) := (by omega); have q47 : (0 : Int) < (((rd_L1 x6_1 0).length : Int) : Int) := od; have qi47 : (0 < (rd_L1 x6_1 0).length) = True := eq_true (by omega); obtain ⟨go47, co47, eo47, gb47, gl47, cl47, HG47⟩ := Kd.R_form HL322_0.out (by omega); (first | cases eo47 | (injection eo47 with ea_ en_ ec_; (first | subst ea_ | (injection ea_ with ea_; subst ea_)); subst ec_; clear en_)); have GB47 := Aside0.mk gb47; have GG47 := Aside0.mk HG47; clear gb47 gl47 HG47; obtain ⟨hx47_0, hf47_0⟩ := Kd.R_celln 0 HL322_0.out (0 : Int) p47 q47; (try rw [show ((0 : Int)).toNat = 0 from rfl] at hx47_0); (try simp only [Nat.reduceMul, Nat.zero_mul, Nat.zero_add, Nat.reduceAdd] at hx47_0); (try rw [show ((0 : Int)).toNat = 0 from rfl] at hf47_0); (try simp only [Nat.reduceMul, Nat.zero_mul, Nat.zero_add, Nat.reduceAdd] at hf47_0); replace p47 := eq_true p47; replace q47 := eq_true q47; have n_ := Aside0.mk (Kd.S_mono (ok' := (fun k_ => some k_ ≠ (.slice Ao53 y323.length co53 : Value).ownBlock)) HO_6.out (fun k_ hk => hk.2)); clear HO_6; have HO_6 := n_; clear n_; have hq55 : (0 : Int) < (x6_1.length : Int) := (by have h_ : (0 : Int) < ((x6_1.length : Int) : Int) := od; first | exact h_ | (have e_ := (Kd.S_reads' HO_6.out).1; omega) | simpa only [List.length_set, List.length_set] using h_); obtain ⟨oki55, ce55, hcl55, hM55, hcc55, hok55, hbk55⟩ := Kd.S_borrow HO_6.out [] (0 : Int) (by omega) hq55; obtain ⟨ve55_0, rfl, ge55_0⟩ := hM55; have hv55 := hcc55 0 _ rfl; rw [Nat.add_zero, show ((Kd.slice 3 (Kd.int .i64))).sz = 1 from rfl, Nat.mul_one] at hv55; replace hv55 := Option.some.inj (hv55.symm.trans HX322_0.out); subst hv55; clear hcc55 hcl55; replace ge55_0 := (show Kd.R (Kd.int .i64) 3 _ _ _ _ (rd_L1 x6_1 0) from ge55_0); have HP55 := Kd.R_putg ge55_0 (0 : Int) t326; have HN0_go47 := Aside0.mk (show g ≠ go47 from by have h_ := IsS57.own_ne HI0.out HL322_0.out (by decide); intro e_; exact h_ (by rw [e_]; rfl)); rw [← Ny329.out] at HP55; have HS55 := hbk55 HP55.2 (fun k_ e_ => by injection e_ with e_; subst e_; exact ge55_0.1 _ rfl) (x' := y329) (Kd.M_row HP55.1); rw [← Ny331.out] at HS55; have HQ55 := Aside0.mk HS55; clear HP55 HS55 hbk55 hok55; refine hK.out _ _ (HS0_) (fun hHeld => ?_); clear hK K; refine norm_ (a' := ?_) ?_ ?_
      rotate_left
      ·show Act.put _ (some 84) _ = _; simp only [Act.put, List.setIfInBounds_toArray, List.set_cons_zero, List.set_cons_succ, i64_w, i32_w]; rfl
      refine pu 6 85 HT_.out ?_; refine last_ (i := 7) (N := none) #[true, true, true, true, true, true, true, true] rfl rfl (one_of HT_.out (by kernel_rfl)) (by decide) (fun K hK => ?_); refine skip_ (w1 := ?_) (by rfl) rfl ?_ ?_
      rotate_left
      ·go_simp; rfl
      refine hK.out _ _ ?_; clear hK K; refine done_ (done_of HT_.out (by kernel_rfl)) ?_; (try go_wp2); go_ret; exact ⟨_, sr, rS (Kd.S_mono HQ55.out (fun _ hk => trivial)), iS1 HI0.out HN0_go47.out, bs2 HB.out (Nat.le_trans HL.out GB47.out) (IsS57.ge HI0.out), kb1 HK.out GB47.out⟩
     rw [if_neg c46] at H; exact absurd H (by simp)
    rw [if_neg c44] at H; exact absurd H (by simp)
   rw [if_neg c43] at H; have c43b0 := beq_eq_false_iff_ne.mpr c43; have c43b1 := bne_iff_ne.mpr c43
   by_cases c57 : t319 = 1
   ·rw [if_pos c57] at H; have c57b0 := beq_iff_eq.mpr c57; have c57b1 := bne_eq_false_iff_eq.mpr c57; clear c57; obtain ⟨y332, hy332⟩ := yy (([1] : List Int))
    (try rw [Option.bind_some] at H); (try dsimp only at H); rw [← hy332] at H
    have Ny332 := Aside0.mk hy332; clear hy332
    by_cases c58 : x6_1.length < 5864062014805
    ·rw [if_pos c58] at H; have LMc58 := Aside0.mk c58; clear c58; obtain ⟨y335, hy335⟩ := yy (x6_1 ++ [y332])
     (try rw [Option.bind_some] at H); (try dsimp only at H); rw [← hy335] at H
     have Ny335 := Aside0.mk hy335; clear hy335; simp only [Option.some.injEq, Prod.mk.injEq] at H; obtain ⟨rfl, rfl, rfl⟩ := H; go_wp2_with (first | ((with_reducible refine gate_callee (f := 63) rfl ?_); refine goesL_ (some 76) rfl rfl Try.func63 (by kernel_rfl) rfl #[.pointer (some ⟨g, 0, none⟩), .int .i64 14] rfl mp ?_; (with_reducible refine (spec_l1Cur_pick.calls g s0_0 x1001_1 x1002_1 14 t319 t320 t321 w0 _ ?side1 ?side2 A42.out).mono ?_); (case side1 => exact iS HI0.out); (case side2 => exact bs1 HB.out (IsS57.ge HI0.out)); rintro e w59 ⟨rfl, hi, hb, hk⟩; refine ⟨_, rfl, ?_⟩; replace HO_6 := Aside0.mk (Kd.S_mono (Kd.S_keep (IsS57.apartS (show IsS57 w0 _ g s0_0 x1001_1 x1002_1 from iS HI0.out) (rS HO_6.out) (by decide)) hk (fun _ h => h.2)) (fun _ h => h.1)); replace HK := kt HK hk; replace HB := Aside0.mk (hb); replace HI0 := Aside0.mk (hi)) | ((with_reducible refine gate_dst (N := 89) rfl ?_); refine Kd.R_lit (Kd.int .i64) _ 3 ?hg (N := 89) ?hd (xs := ([1] : List Int)) (inner := [.int .i64 1]) (ok := fun _ => True) (okp := fun _ => True) ?hr ?hp (fun _ hk => hk) trivial (Below.refl _ _) (Nat.le_refl _) (by simp) ?_; (case hd => rfl); (case hg => rfl); (case hr => first | (go_simp; done) | (go_simp; rfl)); (case hp => exact (Reps.one (show Kd.M (Kd.int .i64) _ _ _ 1 [.int .i64 1] from rfl) (Reps.none _ _))); intro v333 w60 ho61 hb hg_ hnew_; clear hg_ hnew_; (first | rw [← Ny332.out] at ho61 | (simp only [Int.reduceToNat] at ho61; rw [← Ny332.out] at ho61)); replace HO_6 := Aside0.mk (Kd.S_elder' (rS HO_6.out) (Kd.R_base ho61) hb); have HO334 := Aside0.mk (Kd.R_lower ho61 (keep_size (w := w) (g := g) (row := none) (kb HK.out))); replace HK := Aside0.mk (KeepBut.trans (kb HK.out) (KeepBut.of_below hb g none) (.inl rfl)); replace HB := Aside0.mk (below_step (bs1 HB.out (IsS57.ge HI0.out)) hb); replace HI0 := Aside0.mk (IsS57.below (iS HI0.out) hb); clear hb ho61; obtain ⟨Ao63, co63, eo63⟩ := Kd.R_slice HO334.out; subst eo63) | ((with_reducible refine gate_builtin (b := .append) (xs := #[.tmp 88, .tmp 90]) rfl ?_); at_builtin; refine Kd.S_append (Kd.slice 3 (Kd.int .i64)) w.heap.size rfl (.tmp 88) (.tmp 90) 22 35 (.slice none 0 0) 24 rfl Try.underlying22 info35 rfl (by decide) (by omega) u6 x6_1 y332 [.slice Ao63 y332.length co63] (fun _ => True) (fun k_ => some k_ = (.slice Ao63 y332.length co63 : Value).ownBlock) rfl rfl ?aP (fun k_ hk_ => ((Kd.R_mono (ok' := fun k_ => ((fun _ => True)) k_ ∧ some k_ ≠ (u6 : Value).ownBlock) (Kd.R_apart' (HO334.out) (Kd.S_typed HO_6.out) (by decide)) (fun k_ hk => ⟨trivial, hk.2⟩))).1 k_ hk_.symm) ?aF ?aO (Below.refl _ _) ?aS ?aL ?_; (case aP => exact Kd.M_row (Kd.R_mono (Kd.R_tight rfl (Kd.R_mono (ok' := fun k_ => ((fun _ => True)) k_ ∧ some k_ ≠ (u6 : Value).ownBlock) (Kd.R_apart' (HO334.out) (Kd.S_typed HO_6.out) (by decide)) (fun k_ hk => ⟨trivial, hk.2⟩))) (fun _ h_ => h_))); (case aF => exact (fun _ _ => trivial)); (case aO => exact (rS (Kd.S_mono HO_6.out (fun k_ hk => ⟨trivial, fun e_ => hk.2 e_⟩)))); (case aS => exact (keep_size (w := w) (g := g) (row := none) (kb HK.out))); (case aL => have := LMc58.out; omega); intro v336 w62 ho hb hg hat; rw [← Ny335.out] at ho; replace HB := Aside0.mk (below_weaken (bs1 HB.out (IsS57.ge HI0.out)) HL.out hb); replace HI0 := Aside0.mk (IsS57.grown (iS HI0.out) hg (IsS57.own_neS HI0.out HO_6.out (by decide))); replace HK := Aside0.mk (KeepBut.trans (kb HK.out) (KeepBut.of_grown hg g) (Kd.S_base2 HO_6.out)); have HO337 := Aside0.mk (ho); clear HO_6 HO334; clear ho hb hg hat)); go_ret; exact ⟨_, sr, rS HO337.out, iS HI0.out, bs1 HB.out (IsS57.ge HI0.out), kb HK.out⟩
    rw [if_neg c58] at H; exact absurd H (by simp)
   rw [if_neg c57] at H; have c57b0 := beq_eq_false_iff_ne.mpr c57; have c57b1 := bne_iff_ne.mpr c57
   by_cases c64 : t319 = 2
   ·rw [if_pos c64] at H; have c64b0 := beq_iff_eq.mpr c64; have c64b1 := bne_eq_false_iff_eq.mpr c64; clear c64; simp only [Option.some.injEq, Prod.mk.injEq] at H; obtain ⟨rfl, rfl, rfl⟩ := H; go_wp2_with (first | ((with_reducible refine gate_callee (f := 63) rfl ?_); refine goesL_ (some 76) rfl rfl Try.func63 (by kernel_rfl) rfl #[.pointer (some ⟨g, 0, none⟩), .int .i64 14] rfl mp ?_; (with_reducible refine (spec_l1Cur_pick.calls g s0_0 x1001_1 x1002_1 14 t319 t320 t321 w0 _ ?side1 ?side2 A42.out).mono ?_); (case side1 => exact iS HI0.out); (case side2 => exact bs1 HB.out (IsS57.ge HI0.out)); rintro e w65 ⟨rfl, hi, hb, hk⟩; refine ⟨_, rfl, ?_⟩; replace HO_6 := Aside0.mk (Kd.S_mono (Kd.S_keep (IsS57.apartS (show IsS57 w0 _ g s0_0 x1001_1 x1002_1 from iS HI0.out) (rS HO_6.out) (by decide)) hk (fun _ h => h.2)) (fun _ h => h.1)); replace HK := kt HK hk; replace HB := Aside0.mk (hb); replace HI0 := Aside0.mk (hi))); go_ret; exact ⟨_, sr, by first | exact Kd.S_nil _ _ _ _ _ | exact Kd.N_nil _ _ _ _ _ | exact Kd.V_nil _ _ _ _ _ | exact Kd.Q_nil _ _ _ _ _ | exact Kd.R_nil _ _ _ _ _, iS HI0.out, bs1 HB.out (IsS57.ge HI0.out), kb HK.out⟩
   rw [if_neg c64] at H; have c64b0 := beq_eq_false_iff_ne.mpr c64; have c64b1 := bne_iff_ne.mpr c64
   by_cases c66 : t319 = 3
   ·rw [if_pos c66] at H; have c66b0 := beq_iff_eq.mpr c66; have c66b1 := bne_eq_false_iff_eq.mpr c66; clear c66; have H' := Aside0.mk H; clear H; go_wp2_with (first | ((with_reducible refine gate_callee (f := 63) rfl ?_); refine goesL_ (some 76) rfl rfl Try.func63 (by kernel_rfl) rfl #[.pointer (some ⟨g, 0, none⟩), .int .i64 14] rfl mp ?_; (with_reducible refine (spec_l1Cur_pick.calls g s0_0 x1001_1 x1002_1 14 t319 t320 t321 w0 _ ?side1 ?side2 A42.out).mono ?_); (case side1 => exact iS HI0.out); (case side2 => exact bs1 HB.out (IsS57.ge HI0.out)); rintro e w67 ⟨rfl, hi, hb, hk⟩; refine ⟨_, rfl, ?_⟩; replace HO_6 := Aside0.mk (Kd.S_mono (Kd.S_keep (IsS57.apartS (show IsS57 w0 _ g s0_0 x1001_1 x1002_1 from iS HI0.out) (rS HO_6.out) (by decide)) hk (fun _ h => h.2)) (fun _ h => h.1)); replace HK := kt HK hk; replace HB := Aside0.mk (hb); replace HI0 := Aside0.mk (hi)))
    go_loopg [6, 11] k1 (fun kq v6 v11 w' => ∃ (x6_2 : List (List Int)) (x11_2 : Int) (x1001_2 : Int) (x1002_2 : Int), v11 = .int .i64 x11_2 ∧ Aside0 (spec_l1Cur_rows.l3 kq x6_2 x11_2 s0_0 x1001_2 x1002_2 = some (r1, r2, r3)) ∧ Aside0 (kq ≤ k1) ∧ Aside0 (Kd.S (Kd.slice 3 (Kd.int .i64)) 35 w' w.heap.size (fun _ => True) v6 x6_2) ∧ Aside0 (IsS57 w0 w' g s0_0 x1001_2 x1002_2) ∧ Aside0 (KeepBut w w' g none) ∧ Aside0 (Below w0.heap.size w0 w'))
    case atStart => exact ⟨(([] : List (List Int))), (0), (t320), (t321), (sr2), H', ⟨Nat.le_refl _⟩, ⟨by first | exact Kd.S_nil _ _ _ _ _ | exact Kd.N_nil _ _ _ _ _ | exact Kd.V_nil _ _ _ _ _ | exact Kd.Q_nil _ _ _ _ _ | exact Kd.R_nil _ _ _ _ _⟩, ⟨iS HI0.out⟩, ⟨kb HK.out⟩, ⟨bs1 HB.out (IsS57.ge HI0.out)⟩⟩
    case round =>
     clear H'; obtain ⟨x6_2, x11_2, x1001_2, x1002_2, rfl, HA, HK2, HO_6, HI0, HK, HB⟩ := hrel
     cases gk with
     | zero => exact absurd HA.out (by simp [spec_l1Cur_rows.l3])
     | succ k2 =>
      have H := HA.out; clear HA; simp only [spec_l1Cur_rows.l3] at H
      by_cases c68 : x11_2 < 14
      ·rw [if_pos c68] at H; have c68b0 := decide_eq_true c68; clear c68
       by_cases c69 : 14 ≤ 35184372088832
       ·rw [if_pos c69] at H
        have c69b0 := eq_true c69
        have c69b1 : decide (14 ≤ 35184372088832) = true := decide_eq_true c69
        clear c69
        obtain ⟨y338, hy338⟩ : ∃ y_ : List Int, y_ = (List.replicate 14 0) := ⟨_, rfl⟩
        (try rw [Option.bind_some] at H); (try dsimp only at H); rw [← hy338] at H
        have Ny338 := Aside0.mk hy338; clear hy338
        by_cases c70 : 0 ≤ x11_2
        ·rw [if_pos c70] at H; have c70b0 := decide_eq_true c70; clear c70
         by_cases c71 : x11_2 < (y338.length : Int)
         ·rw [if_pos c71] at H; have c71b0 := decide_eq_true c71; clear c71; obtain ⟨y341, hy341⟩ := yy (y338.set (x11_2 : Int).toNat 16)
          (try rw [Option.bind_some] at H); (try dsimp only at H); rw [← hy341] at H
          have Ny341 := Aside0.mk hy341; clear hy341
          by_cases c73 : x11_2 > 0
          ·rw [if_pos c73] at H; have c73b0 := decide_eq_true c73; clear c73; obtain ⟨⟨t342, t343, t344⟩, A74, H⟩ := bi H; (try dsimp only at H); obtain ⟨ji75, hji75⟩ : ∃ j_ : Int, (wrap64 (x11_2 - 1)) = j_ := ⟨_, rfl⟩; (replace H : (if 0 ≤ (ji75) then (if (ji75) < (y338.length : Int) then (if x6_2.length < 5864062014805 then (spec_l1Cur_rows.l3 k2 (x6_2 ++ [(y341.set ((ji75) : Int).toNat t342)]) (wrap64 (x11_2 + 1)) s0_0 t343 t344) else (none)) else (none)) else (none)) = some (r1, r2, r3) := by first | (rw [hji75] at H; exact H) | (simp only [hji75] at H ⊢; exact H)); (try rw [hji75] at A74); have hji75w : (IntKind.i64.wrap (x11_2 - 1)) = ji75 := (i64_w _).trans hji75
           by_cases c76 : 0 ≤ (ji75)
           ·rw [if_pos c76] at H; have c76b0 := decide_eq_true c76; clear c76
            by_cases c77 : (ji75) < (y338.length : Int)
            ·rw [if_pos c77] at H; have c77b0 := decide_eq_true c77; clear c77; obtain ⟨y345, hy345⟩ := yy (y341.set ((ji75) : Int).toNat t342)
             (try rw [Option.bind_some] at H); (try dsimp only at H); rw [← hy345] at H
             have Ny345 := Aside0.mk hy345; clear hy345
             by_cases c79 : x6_2.length < 5864062014805
             ·rw [if_pos c79] at H; have LMc79 := Aside0.mk c79; clear c79; obtain ⟨y346, hy346⟩ := yy (x6_2 ++ [y345])
              (try rw [Option.bind_some] at H); (try dsimp only at H); rw [← hy346] at H
              have Ny346 := Aside0.mk hy346; clear hy346; have H' := Aside0.mk H; clear H; go_wp2_with (first | ((with_reducible refine gate_dst (N := 100) rfl ?_); refine Kd.R_make (Kd.int .i64) _ 3 rfl (N := 100) rfl 35 _ _ rfl 14 rfl rfl Try.underlying35 (.int .i64 0) 8 info3 rfl (by decide) (by omega) 0 (ok := fun _ => True) (okp := fun _ => True) rfl (fun _ hk => hk) trivial (by omega) (by omega) (Below.refl _ _) (Nat.le_refl _) ?_; intro v339 w80 ho81 hb hg_ hnew_; clear hg_ hnew_; (first | rw [← Ny338.out] at ho81 | (simp only [Int.reduceToNat] at ho81; rw [← Ny338.out] at ho81)); replace HO_6 := Aside0.mk (Kd.S_elder' (rS HO_6.out) (Kd.R_base ho81) hb); have HO340 := Aside0.mk (Kd.R_lower ho81 (keep_size (w := w) (g := g) (row := none) (kb HK.out))); replace HK := Aside0.mk (KeepBut.trans (kb HK.out) (KeepBut.of_below hb g none) (.inl rfl)); replace HB := Aside0.mk (below_step (bs1 HB.out (IsS57.ge HI0.out)) hb); replace HI0 := Aside0.mk (IsS57.below (iS HI0.out) hb); clear hb ho81; have p72 : 0 ≤ (x11_2 : Int) := od; have q72 : (x11_2 : Int) < ((y338.length : Int) : Int) := od; obtain ⟨go72, co72, eo72, gb72, gl72, cl72, HG72⟩ := Kd.R_form HO340.out (by omega); (first | cases eo72 | (injection eo72 with ea_ en_ ec_; (first | subst ea_ | (injection ea_ with ea_; subst ea_)); subst ec_; clear en_)); have GB72 := Aside0.mk gb72; have GG72 := Aside0.mk HG72; clear gb72 gl72 HG72; obtain ⟨hx72_0, hf72_0⟩ := Kd.R_celln 0 HO340.out (x11_2 : Int) p72 q72; replace p72 := eq_true p72; replace q72 := eq_true q72; obtain ⟨hy82_, hz82_⟩ := Kd.R_celln 0 HO340.out (x11_2 : Int) (od) (od); have HP82 := Kd.R_putg HO340.out (x11_2 : Int) 16) | ((with_reducible refine gate_store (t := 3) (p := 103) rfl ?_); refine store_event (t := 3) (p := 103) (v := ?vo_w83) (w1 := (w80.setCell ⟨go72, (x11_2 : Int).toNat, none⟩ (.int .i64 16))) ?hg ?ho ?hn ?hr ?_; (case ho => rfl); (case hg => rfl); (case hn => rfl); (case hr => first | (go_simp; done) | (go_simp; rfl)); intro w83 hw; have hg : w80.grownBy w83 (some go72) := (by rw [hw]; exact HP82.2); have hp_ : Kd.R (Kd.int .i64) 3 w83 w.heap.size (fun _ => True) (.slice (some ⟨go72, 0, none⟩) y338.length co72) y341 := (by rw [hw, Ny341.out]; exact HP82.1); clear HP82; replace HO_6 := Aside0.mk (Kd.S_after (v := (.slice (some ⟨go72, 0, none⟩) y338.length co72)) (v1 := (.slice (some ⟨go72, 0, none⟩) y338.length co72)) (ok := (fun _ => True)) (rS HO_6.out) hg (.inl rfl)); replace HI0 := Aside0.mk (IsS57.grown (iS HI0.out) hg (IsS57.own_ne HI0.out HO340.out (by decide))); replace HB := Aside0.mk ((by rw [hw]; exact below_set (HB.out) (Nat.le_trans HL.out GB72.out) : Below w0.heap.size w0 w83)); replace HK := Aside0.mk (KeepBut.trans (kb HK.out) (KeepBut.of_grown hg g) (Kd.R_base2 HO340.out)); replace HO340 := Aside0.mk (hp_); clear hg hw hp_) | ((with_reducible refine gate_callee (f := 63) rfl ?_); refine goesL_ (some 110) rfl rfl Try.func63 (by kernel_rfl) rfl #[.pointer (some ⟨g, 0, none⟩), .int .i64 3] rfl mp ?_; (with_reducible refine (spec_l1Cur_pick.calls g s0_0 x1001_2 x1002_2 3 t342 t343 t344 w0 _ ?side1 ?side2 A74.out).mono ?_); (case side1 => exact iS HI0.out); (case side2 => exact bs1 HB.out (IsS57.ge HI0.out)); rintro e w84 ⟨rfl, hi, hb, hk⟩; refine ⟨_, rfl, ?_⟩; replace HO_6 := Aside0.mk (Kd.S_mono (Kd.S_keep (IsS57.apartS (show IsS57 w0 _ g s0_0 x1001_2 x1002_2 from iS HI0.out) (rS HO_6.out) (by decide)) hk (fun _ h => h.2)) (fun _ h => h.1)); replace HO340 := Aside0.mk (Kd.R_mono (Kd.R_keep (IsS57.apart (show IsS57 w0 _ g s0_0 x1001_2 x1002_2 from iS HI0.out) (rR HO340.out) (by decide)) hk (fun _ h => h.2)) (fun _ h => h.1)); replace HK := kt HK hk; replace HB := Aside0.mk (hb); replace HI0 := Aside0.mk (hi); have p78 : 0 ≤ ((ji75) : Int) := od; have q78 : ((ji75) : Int) < ((y338.length : Int) : Int) := od; obtain ⟨hx78_0, hf78_0⟩ := Kd.R_celln 0 HO340.out ((ji75) : Int) p78 q78; replace p78 := eq_true p78; replace q78 := eq_true q78; obtain ⟨hy85_, hz85_⟩ := Kd.R_celln 0 HO340.out ((ji75) : Int) (od) (od); have HP85 := Kd.R_putg HO340.out ((ji75) : Int) t342) | ((with_reducible refine gate_store (t := 3) (p := 111) rfl ?_); refine store_event (t := 3) (p := 111) (v := ?vo_w86) (w1 := (w84.setCell ⟨go72, ((ji75) : Int).toNat, none⟩ (.int .i64 t342))) ?hg ?ho ?hn ?hr ?_; (case ho => rfl); (case hg => rfl); (case hn => rfl); (case hr => first | (go_simp; done) | (go_simp; rfl)); intro w86 hw; have hg : w84.grownBy w86 (some go72) := (by rw [hw]; exact HP85.2); have hp_ : Kd.R (Kd.int .i64) 3 w86 w.heap.size (fun _ => True) (.slice (some ⟨go72, 0, none⟩) y338.length co72) y345 := (by rw [hw, Ny345.out]; exact HP85.1); clear HP85; replace HO_6 := Aside0.mk (Kd.S_after (v := (.slice (some ⟨go72, 0, none⟩) y338.length co72)) (v1 := (.slice (some ⟨go72, 0, none⟩) y338.length co72)) (ok := (fun _ => True)) (rS HO_6.out) hg (.inl rfl)); replace HI0 := Aside0.mk (IsS57.grown (iS HI0.out) hg (IsS57.own_ne HI0.out HO340.out (by decide))); replace HB := Aside0.mk ((by rw [hw]; exact below_set (HB.out) (Nat.le_trans HL.out GB72.out) : Below w0.heap.size w0 w86)); replace HK := Aside0.mk (KeepBut.trans (kb HK.out) (KeepBut.of_grown hg g) (Kd.R_base2 HO340.out)); replace HO340 := Aside0.mk (hp_); clear hg hw hp_) | ((with_reducible refine gate_builtin (b := .append) (xs := #[.tmp 112, .tmp 114]) rfl ?_); at_builtin; refine Kd.S_append (Kd.slice 3 (Kd.int .i64)) w.heap.size rfl (.tmp 112) (.tmp 114) 22 35 (.slice none 0 0) 24 rfl Try.underlying22 info35 rfl (by decide) (by omega) u6 x6_2 y345 [.slice (some ⟨go72, 0, none⟩) y338.length co72] (fun _ => True) (fun k_ => some k_ = (.slice (some ⟨go72, 0, none⟩) y338.length co72 : Value).ownBlock) rfl rfl ?aP (fun k_ hk_ => ((Kd.R_mono (ok' := fun k_ => ((fun _ => True)) k_ ∧ some k_ ≠ (u6 : Value).ownBlock) (Kd.R_apart' (HO340.out) (Kd.S_typed HO_6.out) (by decide)) (fun k_ hk => ⟨trivial, hk.2⟩))).1 k_ hk_.symm) ?aF ?aO (Below.refl _ _) ?aS ?aL ?_; (case aP => exact Kd.M_row (Kd.R_mono (Kd.R_tight rfl (Kd.R_mono (ok' := fun k_ => ((fun _ => True)) k_ ∧ some k_ ≠ (u6 : Value).ownBlock) (Kd.R_apart' (HO340.out) (Kd.S_typed HO_6.out) (by decide)) (fun k_ hk => ⟨trivial, hk.2⟩))) (fun _ h_ => h_))); (case aF => exact (fun _ _ => trivial)); (case aO => exact (rS (Kd.S_mono HO_6.out (fun k_ hk => ⟨trivial, fun e_ => hk.2 e_⟩)))); (case aS => exact (keep_size (w := w) (g := g) (row := none) (kb HK.out))); (case aL => have := LMc79.out; omega); intro v347 w87 ho hb hg hat; rw [← Ny346.out] at ho; replace HB := Aside0.mk (below_weaken (bs1 HB.out (IsS57.ge HI0.out)) HL.out hb); replace HI0 := Aside0.mk (IsS57.grown (iS HI0.out) hg (IsS57.own_neS HI0.out HO_6.out (by decide))); replace HK := Aside0.mk (KeepBut.trans (kb HK.out) (KeepBut.of_grown hg g) (Kd.S_base2 HO_6.out)); have HO348 := Aside0.mk (ho); clear HO_6 HO340; clear ho hb hg hat))
              first | go_roundg k2 | (simp only [← hji75]; go_roundg k2)
              case measure => have := HK1.out; have := HK2.out; omega
              case rel => exact ⟨(y346), (wrap64 (x11_2 + 1)), (t343), (t344), (sr2), H', ⟨by have := HK1.out; have := HK2.out; omega⟩, ⟨rS HO348.out⟩, ⟨iS HI0.out⟩, ⟨kb HK.out⟩, ⟨bs1 HB.out (IsS57.ge HI0.out)⟩⟩
             rw [if_neg c79] at H; exact absurd H (by simp)
            rw [if_neg c77] at H; exact absurd H (by simp)
           rw [if_neg c76] at H; exact absurd H (by simp)
          rw [if_neg c73] at H; have c73b0 := decide_eq_false c73; clear c73
          by_cases c88 : x6_2.length < 5864062014805
          ·rw [if_pos c88] at H; have LMc88 := Aside0.mk c88; clear c88; obtain ⟨y349, hy349⟩ := yy (x6_2 ++ [y341])
           (try rw [Option.bind_some] at H); (try dsimp only at H); rw [← hy349] at H
           have Ny349 := Aside0.mk hy349; clear hy349; have H' := Aside0.mk H; clear H; go_wp2_with (first | ((with_reducible refine gate_dst (N := 100) rfl ?_); refine Kd.R_make (Kd.int .i64) _ 3 rfl (N := 100) rfl 35 _ _ rfl 14 rfl rfl Try.underlying35 (.int .i64 0) 8 info3 rfl (by decide) (by omega) 0 (ok := fun _ => True) (okp := fun _ => True) rfl (fun _ hk => hk) trivial (by omega) (by omega) (Below.refl _ _) (Nat.le_refl _) ?_; intro v339 w89 ho90 hb hg_ hnew_; clear hg_ hnew_; (first | rw [← Ny338.out] at ho90 | (simp only [Int.reduceToNat] at ho90; rw [← Ny338.out] at ho90)); replace HO_6 := Aside0.mk (Kd.S_elder' (rS HO_6.out) (Kd.R_base ho90) hb); have HO340 := Aside0.mk (Kd.R_lower ho90 (keep_size (w := w) (g := g) (row := none) (kb HK.out))); replace HK := Aside0.mk (KeepBut.trans (kb HK.out) (KeepBut.of_below hb g none) (.inl rfl)); replace HB := Aside0.mk (below_step (bs1 HB.out (IsS57.ge HI0.out)) hb); replace HI0 := Aside0.mk (IsS57.below (iS HI0.out) hb); clear hb ho90; have p72 : 0 ≤ (x11_2 : Int) := od; have q72 : (x11_2 : Int) < ((y338.length : Int) : Int) := od; obtain ⟨go72, co72, eo72, gb72, gl72, cl72, HG72⟩ := Kd.R_form HO340.out (by omega); (first | cases eo72 | (injection eo72 with ea_ en_ ec_; (first | subst ea_ | (injection ea_ with ea_; subst ea_)); subst ec_; clear en_)); have GB72 := Aside0.mk gb72; have GG72 := Aside0.mk HG72; clear gb72 gl72 HG72; obtain ⟨hx72_0, hf72_0⟩ := Kd.R_celln 0 HO340.out (x11_2 : Int) p72 q72; replace p72 := eq_true p72; replace q72 := eq_true q72; obtain ⟨hy91_, hz91_⟩ := Kd.R_celln 0 HO340.out (x11_2 : Int) (od) (od); have HP91 := Kd.R_putg HO340.out (x11_2 : Int) 16) | ((with_reducible refine gate_store (t := 3) (p := 103) rfl ?_); refine store_event (t := 3) (p := 103) (v := ?vo_w92) (w1 := (w89.setCell ⟨go72, (x11_2 : Int).toNat, none⟩ (.int .i64 16))) ?hg ?ho ?hn ?hr ?_; (case ho => rfl); (case hg => rfl); (case hn => rfl); (case hr => first | (go_simp; done) | (go_simp; rfl)); intro w92 hw; have hg : w89.grownBy w92 (some go72) := (by rw [hw]; exact HP91.2); have hp_ : Kd.R (Kd.int .i64) 3 w92 w.heap.size (fun _ => True) (.slice (some ⟨go72, 0, none⟩) y338.length co72) y341 := (by rw [hw, Ny341.out]; exact HP91.1); clear HP91; replace HO_6 := Aside0.mk (Kd.S_after (v := (.slice (some ⟨go72, 0, none⟩) y338.length co72)) (v1 := (.slice (some ⟨go72, 0, none⟩) y338.length co72)) (ok := (fun _ => True)) (rS HO_6.out) hg (.inl rfl)); replace HI0 := Aside0.mk (IsS57.grown (iS HI0.out) hg (IsS57.own_ne HI0.out HO340.out (by decide))); replace HB := Aside0.mk ((by rw [hw]; exact below_set (HB.out) (Nat.le_trans HL.out GB72.out) : Below w0.heap.size w0 w92)); replace HK := Aside0.mk (KeepBut.trans (kb HK.out) (KeepBut.of_grown hg g) (Kd.R_base2 HO340.out)); replace HO340 := Aside0.mk (hp_); clear hg hw hp_) | ((with_reducible refine gate_builtin (b := .append) (xs := #[.tmp 112, .tmp 114]) rfl ?_); at_builtin; refine Kd.S_append (Kd.slice 3 (Kd.int .i64)) w.heap.size rfl (.tmp 112) (.tmp 114) 22 35 (.slice none 0 0) 24 rfl Try.underlying22 info35 rfl (by decide) (by omega) u6 x6_2 y341 [.slice (some ⟨go72, 0, none⟩) y338.length co72] (fun _ => True) (fun k_ => some k_ = (.slice (some ⟨go72, 0, none⟩) y338.length co72 : Value).ownBlock) rfl rfl ?aP (fun k_ hk_ => ((Kd.R_mono (ok' := fun k_ => ((fun _ => True)) k_ ∧ some k_ ≠ (u6 : Value).ownBlock) (Kd.R_apart' (HO340.out) (Kd.S_typed HO_6.out) (by decide)) (fun k_ hk => ⟨trivial, hk.2⟩))).1 k_ hk_.symm) ?aF ?aO (Below.refl _ _) ?aS ?aL ?_; (case aP => exact Kd.M_row (Kd.R_mono (Kd.R_tight rfl (Kd.R_mono (ok' := fun k_ => ((fun _ => True)) k_ ∧ some k_ ≠ (u6 : Value).ownBlock) (Kd.R_apart' (HO340.out) (Kd.S_typed HO_6.out) (by decide)) (fun k_ hk => ⟨trivial, hk.2⟩))) (fun _ h_ => h_))); (case aF => exact (fun _ _ => trivial)); (case aO => exact (rS (Kd.S_mono HO_6.out (fun k_ hk => ⟨trivial, fun e_ => hk.2 e_⟩)))); (case aS => exact (keep_size (w := w) (g := g) (row := none) (kb HK.out))); (case aL => have := LMc88.out; omega); intro v350 w93 ho hb hg hat; rw [← Ny349.out] at ho; replace HB := Aside0.mk (below_weaken (bs1 HB.out (IsS57.ge HI0.out)) HL.out hb); replace HI0 := Aside0.mk (IsS57.grown (iS HI0.out) hg (IsS57.own_neS HI0.out HO_6.out (by decide))); replace HK := Aside0.mk (KeepBut.trans (kb HK.out) (KeepBut.of_grown hg g) (Kd.S_base2 HO_6.out)); have HO351 := Aside0.mk (ho); clear HO_6 HO340; clear ho hb hg hat))
           go_roundg k2
           case measure => have := HK1.out; have := HK2.out; omega
           case rel => exact ⟨(y349), (wrap64 (x11_2 + 1)), (x1001_2), (x1002_2), (sr2), H', ⟨by have := HK1.out; have := HK2.out; omega⟩, ⟨rS HO351.out⟩, ⟨iS HI0.out⟩, ⟨kb HK.out⟩, ⟨bs1 HB.out (IsS57.ge HI0.out)⟩⟩
          rw [if_neg c88] at H; exact absurd H (by simp)
         rw [if_neg c71] at H; exact absurd H (by simp)
        rw [if_neg c70] at H; exact absurd H (by simp)
       rw [if_neg c69] at H; exact absurd H (by simp)
      rw [if_neg c68] at H; have c68b0 := decide_eq_false c68; clear c68; simp only [Option.some.injEq, Prod.mk.injEq] at H; obtain ⟨rfl, rfl, rfl⟩ := H; go_wp2; go_ret; exact ⟨_, sr, rS HO_6.out, iS HI0.out, bs1 HB.out (IsS57.ge HI0.out), kb HK.out⟩
   rw [if_neg c66] at H; have c66b0 := beq_eq_false_iff_ne.mpr c66; have c66b1 := bne_iff_ne.mpr c66; simp only [Option.some.injEq, Prod.mk.injEq] at H; obtain ⟨rfl, rfl, rfl⟩ := H; go_wp2_with (first | ((with_reducible refine gate_callee (f := 63) rfl ?_); refine goesL_ (some 76) rfl rfl Try.func63 (by kernel_rfl) rfl #[.pointer (some ⟨g, 0, none⟩), .int .i64 14] rfl mp ?_; (with_reducible refine (spec_l1Cur_pick.calls g s0_0 x1001_1 x1002_1 14 t319 t320 t321 w0 _ ?side1 ?side2 A42.out).mono ?_); (case side1 => exact iS HI0.out); (case side2 => exact bs1 HB.out (IsS57.ge HI0.out)); rintro e w94 ⟨rfl, hi, hb, hk⟩; refine ⟨_, rfl, ?_⟩; replace HO_6 := Aside0.mk (Kd.S_mono (Kd.S_keep (IsS57.apartS (show IsS57 w0 _ g s0_0 x1001_1 x1002_1 from iS HI0.out) (rS HO_6.out) (by decide)) hk (fun _ h => h.2)) (fun _ h => h.1)); replace HK := kt HK hk; replace HB := Aside0.mk (hb); replace HI0 := Aside0.mk (hi))); go_ret; exact ⟨_, sr, rS HO_6.out, iS HI0.out, bs1 HB.out (IsS57.ge HI0.out), kb HK.out⟩
/-! ### spec_DrawDeterminantOf: function 18 -/
def spec_DrawDeterminantOf.f (k : Nat) (l0 : List Int) : Option ((List (List Int))) := (spec_l1Cur_rows.f k l0 0 0).bind fun bt353 => (some bt353.1)
theorem spec_DrawDeterminantOf.calls (k : Nat) (A0 : Option Addr) (c0 : Nat) (l0 : List Int) (r : List (List Int)) (w : World) (hr0 : Kd.C (Kd.int .u8) w A0 l0.length l0) (hc0 : l0.length ≤ c0) (h : spec_DrawDeterminantOf.f k l0 = some r) :
  Calls Try.prog 18 #[.slice A0 l0.length c0] w fun e w' => ∃ v0_ : Value, e = .returned (v0_) ∧ Kd.S (Kd.slice 3 (Kd.int .i64)) 35 w' w.heap.size (fun _ => True) v0_ r ∧ Below w.heap.size w w' := by
 have hu57 := Try.underlying57; have HR0 := Aside0.mk hr0; have HC0 := Aside0.mk hc0; clear hr0 hc0; have HB := Aside0.mk (Below.refl w.heap.size w); have H : ((spec_l1Cur_rows.f k l0 0 0).bind fun bt353 => (some bt353.1)) = some r := h; clear h; obtain ⟨⟨t353, t356, t357⟩, A2, H⟩ := bi H; (try dsimp only at H); obtain rfl := Option.some.inj H; go_enter Try.func18, Try.ntmps18; go_wp2_with (first | ((with_reducible refine gate_dst (N := 6) rfl ?_); refine box_event ?hg (N := 6) ?hd (cs := #[.slice A0 l0.length c0, .int .i64 0, .int .u64 0]) (t := 57) ?hr ?_; (case hd => rfl); (case hg => rfl); (case hr => first | (go_simp; done) | (go_simp; rfl)); intro gb352 hg w3 hbox hb; have HI352 := Aside0.mk ((show IsS57 w w3 gb352 l0 0 0 from ⟨_, _, hbox, (by rw [hg]; exact (below_size (bl HB.out)) : w.heap.size ≤ gb352), HR0.out⟩)); replace HB := bst HB hb; clear hb hbox hg) | (go_at_call 58; (with_reducible refine (spec_l1Cur_rows.calls k gb352 l0 0 0 t353 t356 t357 w _ ?side1 (bs1 HB.out (IsS57.ge HI352.out)) A2.out).mono ?_); (case side1 => exact iS HI352.out); rintro e w4 ⟨v354, rfl, ho0, hi, hb, hk⟩; have HO355 := Aside0.mk (Kd.S_lower ho0 (below_size (bs1 HB.out (IsS57.ge HI352.out)))); replace HB := Aside0.mk (hb); replace HI352 := Aside0.mk (hi))); go_ret; exact ⟨_, sr, rS HO355.out, bs1 HB.out (IsS57.ge HI352.out)⟩
/-! ### spec_l1Cur_arches: function 59 -/
def spec_l1Cur_arches.f (s0_0 : List Int) (s0_1 : Int) (s0_2 : Int) (a1 : Int) : Option (Int × Int × Int) := (spec_l1Cur_one.f s0_0 s0_1 s0_2 8).bind fun bt358 => (if bt358.1 = true then ((spec_l1Cur_among.f s0_0 bt358.2.1 bt358.2.2 (([(-1), 0, 1, a1, wrap64 (a1 + 1)] : List Int))).bind fun bt364 => (some (bt364.1, bt364.2.1, bt364.2.2))) else ((spec_l1Cur_pick.f s0_0 bt358.2.1 bt358.2.2 (wrap64 (a1 + 1))).bind fun bt367 => (some (bt367.1, bt367.2.1, bt367.2.2))))
theorem spec_l1Cur_arches.calls (g : Nat) (s0_0 : List Int) (s0_1 : Int) (s0_2 : Int) (a1 : Int) (r1 : Int) (r2 : Int) (r3 : Int) (w0 w : World) (hI : IsS57 w0 w g s0_0 s0_1 s0_2) (hB : Below w0.heap.size w0 w) (h : spec_l1Cur_arches.f s0_0 s0_1 s0_2 a1 = some (r1, r2, r3)) :
  Calls Try.prog 59 #[.pointer (some ⟨g, 0, none⟩), .int .i64 a1] w fun e w' => e = .returned (.int .i64 r1) ∧ IsS57 w0 w' g s0_0 r2 r3 ∧ Below w0.heap.size w0 w' ∧ KeepBut w w' g none := by
 have HI0 := Aside0.mk hI; have HK := Aside0.mk (KeepBut.refl w g none); have HL := Aside0.mk hB.size; clear hI; have HW0 := Aside0.mk hB.size; have HB := Aside0.mk hB; clear hB; have H : ((spec_l1Cur_one.f s0_0 s0_1 s0_2 8).bind fun bt358 => (if bt358.1 = true then ((spec_l1Cur_among.f s0_0 bt358.2.1 bt358.2.2 (([(-1), 0, 1, a1, wrap64 (a1 + 1)] : List Int))).bind fun bt364 => (some (bt364.1, bt364.2.1, bt364.2.2))) else ((spec_l1Cur_pick.f s0_0 bt358.2.1 bt358.2.2 (wrap64 (a1 + 1))).bind fun bt367 => (some (bt367.1, bt367.2.1, bt367.2.2))))) = some (r1, r2, r3) := h; clear h; obtain ⟨⟨t358, t359, t360⟩, A3, H⟩ := bi H; (try dsimp only at H)
 by_cases c4 : t358 = true
 ·subst c4; rw [if_pos rfl] at H; obtain ⟨y361, hy361⟩ := yy (([(-1), 0, 1, a1, wrap64 (a1 + 1)] : List Int))
  (try rw [Option.bind_some] at H); (try dsimp only at H); rw [← hy361] at H
  have Ny361 := Aside0.mk hy361; clear hy361; obtain ⟨⟨t364, t365, t366⟩, A5, H⟩ := bi H; (try dsimp only at H); simp only [Option.some.injEq, Prod.mk.injEq] at H; obtain ⟨rfl, rfl, rfl⟩ := H; go_enter Try.func59, Try.ntmps59; go_wp2_with (first | (go_at_call 64; (with_reducible refine (spec_l1Cur_one.calls g s0_0 s0_1 s0_2 8 true t359 t360 w0 _ ?side1 (bs1 HB.out (IsS57.ge HI0.out)) A3.out).mono ?_); (case side1 => exact iS HI0.out); rintro e w6 ⟨rfl, hi, hb, hk⟩; replace HK := kt HK hk; replace HB := Aside0.mk (hb); replace HI0 := Aside0.mk (hi)) | ((with_reducible refine gate_dst (N := 11) rfl ?_); refine Kd.R_lit (Kd.int .i64) _ 3 ?hg (N := 11) ?hd (xs := ([(-1), 0, 1, a1, wrap64 (a1 + 1)] : List Int)) (inner := [.int .i64 (-1), .int .i64 0, .int .i64 1, .int .i64 a1, .int .i64 (wrap64 (a1 + 1))]) (ok := fun _ => True) (okp := fun _ => True) ?hr ?hp (fun _ hk => hk) trivial (Below.refl _ _) (Nat.le_refl _) (by simp) ?_; (case hd => rfl); (case hg => rfl); (case hr => first | (go_simp; done) | (go_simp; rfl)); (case hp => exact (Reps.one (show Kd.M (Kd.int .i64) _ _ _ (-1) [.int .i64 (-1)] from rfl) (Reps.one (show Kd.M (Kd.int .i64) _ _ _ 0 [.int .i64 0] from rfl) (Reps.one (show Kd.M (Kd.int .i64) _ _ _ 1 [.int .i64 1] from rfl) (Reps.one (show Kd.M (Kd.int .i64) _ _ _ a1 [.int .i64 a1] from rfl) (Reps.one (show Kd.M (Kd.int .i64) _ _ _ (wrap64 (a1 + 1)) [.int .i64 (wrap64 (a1 + 1))] from rfl) (Reps.none _ _))))))); intro v362 w7 ho8 hb hg_ hnew_; clear hg_ hnew_; (first | rw [← Ny361.out] at ho8 | (simp only [Int.reduceToNat] at ho8; rw [← Ny361.out] at ho8)); have HO363 := Aside0.mk (Kd.R_lower ho8 (keep_size (w := w) (g := g) (row := none) (kb HK.out))); replace HK := Aside0.mk (KeepBut.trans (kb HK.out) (KeepBut.of_below hb g none) (.inl rfl)); replace HB := Aside0.mk (below_step (bs1 HB.out (IsS57.ge HI0.out)) hb); replace HI0 := Aside0.mk (IsS57.below (iS HI0.out) hb); clear hb ho8; obtain ⟨Ao9, co9, eo9⟩ := Kd.R_slice HO363.out; subst eo9) | (go_at_call 65; (with_reducible refine (spec_l1Cur_among.calls g s0_0 t359 t360 _ _ y361 t364 t365 t366 w0 _ ?side1 ?side2 ?side3 ?side4 (far_slice (IsS57.own_ne HI0.out HO363.out (by decide))) A5.out).mono ?_); (case side1 => exact iS HI0.out); (case side2 => exact bs1 HB.out (IsS57.ge HI0.out)); (case side3 => exact cw ((Kd.R_reads' HO363.out).2.2)); (case side4 => exact (Kd.R_reads' HO363.out).2.1); rintro e w10 ⟨rfl, hi, hb, hk⟩; replace HO363 := Aside0.mk (Kd.R_mono (Kd.R_keep (IsS57.apart (show IsS57 w0 _ g s0_0 t359 t360 from iS HI0.out) (rR HO363.out) (by decide)) hk (fun _ h => h.2)) (fun _ h => h.1)); replace HK := kt HK hk; replace HB := Aside0.mk (hb); replace HI0 := Aside0.mk (hi))); go_ret; exact ⟨sr, iS HI0.out, bs1 HB.out (IsS57.ge HI0.out), kb HK.out⟩
 replace c4 := Bool.eq_false_iff.mpr c4; subst c4; rw [if_neg (show ¬ (false = true) by decide)] at H; obtain ⟨⟨t367, t368, t369⟩, A11, H⟩ := bi H; (try dsimp only at H); simp only [Option.some.injEq, Prod.mk.injEq] at H; obtain ⟨rfl, rfl, rfl⟩ := H; go_enter Try.func59, Try.ntmps59; go_wp2_with (first | (go_at_call 64; (with_reducible refine (spec_l1Cur_one.calls g s0_0 s0_1 s0_2 8 false t359 t360 w0 _ ?side1 (bs1 HB.out (IsS57.ge HI0.out)) A3.out).mono ?_); (case side1 => exact iS HI0.out); rintro e w12 ⟨rfl, hi, hb, hk⟩; replace HK := kt HK hk; replace HB := Aside0.mk (hb); replace HI0 := Aside0.mk (hi)) | (go_at_call 63; (with_reducible refine (spec_l1Cur_pick.calls g s0_0 t359 t360 (wrap64 (a1 + 1)) t367 t368 t369 w0 _ ?side1 (bs1 HB.out (IsS57.ge HI0.out)) A11.out).mono ?_); (case side1 => exact iS HI0.out); rintro e w13 ⟨rfl, hi, hb, hk⟩; replace HK := kt HK hk; replace HB := Aside0.mk (hb); replace HI0 := Aside0.mk (hi))); go_ret; exact ⟨sr, iS HI0.out, bs1 HB.out (IsS57.ge HI0.out), kb HK.out⟩
/-! ### spec_DrawExponentTable: function 19 -/
def spec_DrawExponentTable.f (l0 : List Int) : Option (Int) := (spec_l1Cur_arches.f l0 0 0 4).bind fun bt371 => (some bt371.1)
theorem spec_DrawExponentTable.calls (A0 : Option Addr) (c0 : Nat) (l0 : List Int) (r : Int) (w : World) (hr0 : Kd.C (Kd.int .u8) w A0 l0.length l0) (hc0 : l0.length ≤ c0) (h : spec_DrawExponentTable.f l0 = some r) :
  Calls Try.prog 19 #[.slice A0 l0.length c0] w fun e w' => e = .returned (.int .i64 r) ∧ Below w.heap.size w w' := by
 have hu57 := Try.underlying57; have HR0 := Aside0.mk hr0; have HC0 := Aside0.mk hc0; clear hr0 hc0; have HB := Aside0.mk (Below.refl w.heap.size w); have H : ((spec_l1Cur_arches.f l0 0 0 4).bind fun bt371 => (some bt371.1)) = some r := h; clear h; obtain ⟨⟨t371, t372, t373⟩, A2, H⟩ := bi H; (try dsimp only at H); obtain rfl := Option.some.inj H; go_enter Try.func19, Try.ntmps19; go_wp2_with (first | ((with_reducible refine gate_dst (N := 6) rfl ?_); refine box_event ?hg (N := 6) ?hd (cs := #[.slice A0 l0.length c0, .int .i64 0, .int .u64 0]) (t := 57) ?hr ?_; (case hd => rfl); (case hg => rfl); (case hr => first | (go_simp; done) | (go_simp; rfl)); intro gb370 hg w3 hbox hb; have HI370 := Aside0.mk ((show IsS57 w w3 gb370 l0 0 0 from ⟨_, _, hbox, (by rw [hg]; exact (below_size (bl HB.out)) : w.heap.size ≤ gb370), HR0.out⟩)); replace HB := bst HB hb; clear hb hbox hg) | (go_at_call 59; (with_reducible refine (spec_l1Cur_arches.calls gb370 l0 0 0 4 t371 t372 t373 w _ ?side1 (bs1 HB.out (IsS57.ge HI370.out)) A2.out).mono ?_); (case side1 => exact iS HI370.out); rintro e w4 ⟨rfl, hi, hb, hk⟩; replace HB := Aside0.mk (hb); replace HI370 := Aside0.mk (hi))); go_ret; exact ⟨sr, bs1 HB.out (IsS57.ge HI370.out)⟩
/-! ### bits_Mul64: function 123 -/
def bits_Mul64.f (a0 : Int) (a1 : Int) : Option (Int × Int) := some (IntKind.u64.wrap ((IntKind.u64.wrap ((IntKind.u64.wrap ((a0 / 4294967296) * (a1 / 4294967296))) + ((IntKind.u64.wrap ((IntKind.u64.wrap ((a0 / 4294967296) * (Go.bits .and .u64 a1 4294967295))) + ((IntKind.u64.wrap ((Go.bits .and .u64 a0 4294967295) * (Go.bits .and .u64 a1 4294967295))) / 4294967296))) / 4294967296))) + ((IntKind.u64.wrap ((Go.bits .and .u64 (IntKind.u64.wrap ((IntKind.u64.wrap ((a0 / 4294967296) * (Go.bits .and .u64 a1 4294967295))) + ((IntKind.u64.wrap ((Go.bits .and .u64 a0 4294967295) * (Go.bits .and .u64 a1 4294967295))) / 4294967296))) 4294967295) + (IntKind.u64.wrap ((Go.bits .and .u64 a0 4294967295) * (a1 / 4294967296))))) / 4294967296)), IntKind.u64.wrap (a0 * a1))
theorem bits_Mul64.calls (a0 : Int) (a1 : Int) (r1 : Int) (r2 : Int) (w : World) (h : bits_Mul64.f a0 a1 = some (r1, r2)) :
  Calls Try.prog 123 #[.int .u64 a0, .int .u64 a1] w fun e w' => e = .returned (.tuple #[.int .u64 r1, .int .u64 r2]) ∧ Drawn0 w w' := by
 have H : (some (IntKind.u64.wrap ((IntKind.u64.wrap ((IntKind.u64.wrap ((a0 / 4294967296) * (a1 / 4294967296))) + ((IntKind.u64.wrap ((IntKind.u64.wrap ((a0 / 4294967296) * (Go.bits .and .u64 a1 4294967295))) + ((IntKind.u64.wrap ((Go.bits .and .u64 a0 4294967295) * (Go.bits .and .u64 a1 4294967295))) / 4294967296))) / 4294967296))) + ((IntKind.u64.wrap ((Go.bits .and .u64 (IntKind.u64.wrap ((IntKind.u64.wrap ((a0 / 4294967296) * (Go.bits .and .u64 a1 4294967295))) + ((IntKind.u64.wrap ((Go.bits .and .u64 a0 4294967295) * (Go.bits .and .u64 a1 4294967295))) / 4294967296))) 4294967295) + (IntKind.u64.wrap ((Go.bits .and .u64 a0 4294967295) * (a1 / 4294967296))))) / 4294967296)), IntKind.u64.wrap (a0 * a1))) = some (r1, r2) := h; clear h; simp only [Option.some.injEq, Prod.mk.injEq] at H; obtain ⟨rfl, rfl⟩ := H; go_enter Try.func123, Try.ntmps123; go_wp2; go_ret2; exact ⟨sr2, by repeat (first | exact Drawn0.refl _ | apply Drawn0.step)⟩
/-! ### bits_Mul: function 110 -/
def bits_Mul.f (a0 : Int) (a1 : Int) : Option (Int × Int) := (bits_Mul64.f a0 a1).bind fun bt374 => (some (bt374.1, bt374.2))
theorem bits_Mul.calls (a0 : Int) (a1 : Int) (r1 : Int) (r2 : Int) (w : World) (h : bits_Mul.f a0 a1 = some (r1, r2)) :
  Calls Try.prog 110 #[.int .u64 a0, .int .u64 a1] w fun e w' => e = .returned (.tuple #[.int .u64 r1, .int .u64 r2]) ∧ Drawn0 w w' := by
 have H : ((bits_Mul64.f a0 a1).bind fun bt374 => (some (bt374.1, bt374.2))) = some (r1, r2) := h; clear h; obtain ⟨⟨t374, t375⟩, A3, H⟩ := bi H; (try dsimp only at H); simp only [Option.some.injEq, Prod.mk.injEq] at H; obtain ⟨rfl, rfl⟩ := H; go_enter Try.func110, Try.ntmps110; go_wp2_with (first | (go_at_call 123; (with_reducible refine (bits_Mul64.calls a0 a1 t374 t375 _ A3.out).mono ?_); rintro e w' ⟨rfl, ⟨nd, rfl⟩⟩)); go_ret2; exact ⟨sr2, by repeat (first | exact Drawn0.refl _ | apply Drawn0.step)⟩
/-! ### slices_Repeat_int_int: function 104 -/
def slices_Repeat_int_int.f (l0 : List Int) (a1 : Int) : Option (List Int) := if l0.length = 1 ∧ 0 ≤ a1 ∧ a1 ≤ 64 then some (List.replicate a1.toNat (l0.getD 0 0)) else none
theorem slices_Repeat_int_int.mul : ∀ m : Fin 65, bits_Mul.f 1 (m.val : Int) = some (0, (m.val : Int)) := by decide +kernel
def slices_Repeat_int_int.lay (x : Int) (m n : Nat) : List Int := List.replicate m x ++ List.replicate (n - m) 0
/-- A copy within one row of the call's own, as one step of a region that draws. -/
theorem step_copy_own {P : Program} {ops : Array Oper} {o : Oper} {a : Act} {w : World} {K : Act → World → Prop} {Q : Exit → Act → World → Prop} {E : Prop} (hgd : o.guard = none) (d s : Operand) (dT sT : TypeId)
    (ho : o.op = .call { callee := .builtin .copy, args := #[d, s], argTypes := #[dT, sT] }) (elem : TypeId) (hu : P.underlying dT = some (.slice elem)) (hsz : (P.info? elem).map (·.size) = some 1)
    (g off dLen dCap : Nat) (ad : Addr) (sLen sCap : Nat) (hd : a.eval d = .slice (some ⟨g, off, none⟩) dLen dCap) (hs : a.eval s = .slice (some ad) sLen sCap)
    (cur : Array Value) (t : TypeId) (hg : w.heap[g]? = some (.cells cur t (0, 0))) (cs : List Value) (hn : cs.length = Nat.min sLen dLen)
    (hsrc : ∀ j v, cs[j]? = some v → w.cell? (ad.add j) = some v) (hfit : off + cs.length ≤ cur.size) (h1 : ∀ v ∈ cs, v.oneCell' = true)
    (h : ∀ w1, w1 = w.setRow g (cur.toList.take off ++ cs ++ cur.toList.drop (off + cs.length)).toArray → K (a.put o.dst (goInt cs.length)) w1) :
    if Region.wanted o (yielded ops a.tmps) = true then Oper.wp P o a w K Q else E := by
  have hw : Region.wanted o (yielded ops a.tmps) = true := by simp [Region.wanted, hgd]
  rw [if_pos hw]
  have hrun := run_copy_row (P := P) w dT sT o.type elem g off dLen dCap ad sLen sCap cur t cs hu hsz hg hn hsrc hfit h1
  have h' := h _ rfl
  unfold Oper.wp
  simp only [execOp, ho, resolve, invoke, builtin, List.map_toArray, List.map_cons, List.map_nil, hd, hs, Sem.run_bind, Sem.run_pure, hrun, Result.andThen_ok]
  exact h'
theorem slices_Repeat_int_int.row (x : Int) (m n : Nat) (h1 : 1 ≤ m) (h2 : m ≤ n) : (nums .i64 (slices_Repeat_int_int.lay x m n)).take m ++ (nums .i64 (slices_Repeat_int_int.lay x m n)).take (min m (n - m)) ++ (nums .i64 (slices_Repeat_int_int.lay x m n)).drop (m + min m (n - m)) = nums .i64 (slices_Repeat_int_int.lay x (m + min m (n - m)) n) := by
  unfold slices_Repeat_int_int.lay nums
  simp only [List.map_append, List.map_replicate]
  rw [List.take_append_of_le_length (by simp), List.take_append_of_le_length (by simp; omega), List.drop_append]
  simp only [List.take_replicate, List.drop_replicate, List.length_replicate, Nat.min_self]
  rw [show m - (m + min m (n - m)) = 0 by omega, List.replicate_zero, List.nil_append]
  congr 1
  · rw [← List.replicate_append_replicate]; simp
  · congr 1; omega
theorem slices_Repeat_int_int.cells {x : Int} {n g : Nat} {W : World} {base : Nat} (h : W.ownsRow base 3 1 (.slice (some ⟨g, 0, none⟩) n n) n (madeCells (Value.int .i64 0).cells (n * 1)).toList) : W.heap[g]? = some (.cells (nums .i64 (slices_Repeat_int_int.lay x 0 n)).toArray 3 (0, 0)) := by
  obtain ⟨_, h2⟩ := h
  rcases h2 with ⟨h2, _⟩ | ⟨g', cap, cur, e1, _, hh, _, _, hs, ht⟩
  · cases h2
  · injection e1 with e2 _ e3
    injection e2 with e4
    injection e4 with e5
    subst e5 e3
    rw [hh]
    have e6 : (madeCells (Value.int .i64 0).cells (n * 1)).toList = List.replicate n (.int .i64 0) := by
      rw [Nat.mul_one]; exact toList_madeCells_one _ n
    rw [e6, List.take_of_length_le (by simp [hs])] at ht
    have e7 : cur = (nums .i64 (slices_Repeat_int_int.lay x 0 n)).toArray := by
      apply Array.toList_inj.1
      rw [ht]; simp [nums, slices_Repeat_int_int.lay]
    rw [e7]
theorem slices_Repeat_int_int.src {x : Int} {n : Nat} {ad : Addr} {W : World} (h : W.cell? ad = some (.int .i64 x)) {j : Nat} {v : Value} (hj : ((nums .i64 [x]).take (min 1 n))[j]? = some v) : W.cell? (ad.add j) = some v := by
  have hj0 : j = 0 := by
    have := (List.getElem?_eq_some_iff.1 hj).1
    simp [nums] at this; omega
  subst hj0
  have e : v = .int .i64 x := by
    have := List.mem_of_mem_take (List.mem_of_getElem? hj)
    simpa [nums] using this
  subst e
  simpa [Addr.add] using h
theorem slices_Repeat_int_int.len (x : Int) (n : Nat) : (goInt ((nums .i64 [x]).take (min 1 n)).length) = .int .i64 ((min 1 n : Nat) : Int) := by
  simp [nums, goInt]
  try omega
theorem slices_Repeat_int_int.len0 (x : Int) (n : Nat) : ((nums .i64 [x]).take (min 1 n)).length = Nat.min 1 n := by
  simp only [nums, List.map_cons, List.map_nil, List.length_take, List.length_cons, List.length_nil]
  have : Nat.min 1 n = min 1 n := rfl
  omega
theorem slices_Repeat_int_int.fit (x : Int) (n : Nat) : 0 + ((nums .i64 [x]).take (min 1 n)).length ≤ (nums .i64 (slices_Repeat_int_int.lay x 0 n)).length := by
  simp only [nums, slices_Repeat_int_int.lay, List.map_cons, List.map_nil, List.length_take, List.length_cons, List.length_nil, List.length_map, List.length_append, List.length_replicate]
  omega
theorem slices_Repeat_int_int.one (x : Int) (n : Nat) : ∀ v ∈ (nums .i64 [x]).take (min 1 n), v.oneCell' = true := by
  intro v hv
  have := List.mem_of_mem_take hv
  simp [nums] at this
  subst this
  rfl
theorem slices_Repeat_int_int.size {i0 : TypeInfo} (h : Try.prog.info? 3 = some i0) (h1 : i0.size = 1) : (Try.prog.info? 3).map (·.size) = some 1 := by rw [h]; simp [h1]
theorem slices_Repeat_int_int.first (x : Int) (n : Nat) : splice (nums .i64 (slices_Repeat_int_int.lay x 0 n)) 0 ((nums .i64 [x]).take (min 1 n)) = nums .i64 (slices_Repeat_int_int.lay x (min 1 n) n) := by
  cases n with
  | zero => rfl
  | succ n =>
    have : min 1 (n + 1) = 1 := by omega
    rw [this]
    simp [splice, nums, slices_Repeat_int_int.lay, List.replicate_succ]
theorem slices_Repeat_int_int.wrapq (m q : Nat) (h : m + q ≤ 64) : IntKind.i64.wrap ((m : Int) + (q : Int)) = ((m + q : Nat) : Int) := by
  rw [i64_w]; unfold wrap64; omega
theorem slices_Repeat_int_int.done {x : Int} {n g : Nat} {w W : World} (hn : n ≤ 64) (hg : W.heap[g]? = some (.cells (nums .i64 (slices_Repeat_int_int.lay x n n)).toArray 3 (0, 0))) (hb : w.heap.size ≤ g) :
    Kd.R (Kd.int .i64) 3 W w.heap.size (fun _ => True) (.slice (some ⟨g, 0, none⟩) n n) (List.replicate n x) := by
  refine Kd.R_of_own ?_ (fun _ _ => trivial)
  refine ⟨by simp [encs], .inr ⟨g, n, _, by simp, hb, hg, by simp, by unfold maxLen; omega, by simp [nums, slices_Repeat_int_int.lay], ?_⟩⟩
  simp [nums, slices_Repeat_int_int.lay, encs]
theorem slices_Repeat_int_int.src2 {x : Int} {m n g : Nat} {W : World} (h1 : m ≤ n) (hg : W.heap[g]? = some (.cells (nums .i64 (slices_Repeat_int_int.lay x m n)).toArray 3 (0, 0))) {j : Nat} {v : Value} (hj : ((nums .i64 (slices_Repeat_int_int.lay x m n)).take (min m (n - m)))[j]? = some v) :
    W.cell? ((⟨g, 0, none⟩ : Addr).add j) = some v := by
  have hlt := (List.getElem?_eq_some_iff.1 hj).1
  rw [List.length_take] at hlt
  rw [List.getElem?_take_of_lt (by omega)] at hj
  have e : (⟨g, 0, none⟩ : Addr).add j = ⟨g, j, none⟩ := by unfold Addr.add; split <;> simp_all
  rw [e]
  simp only [World.cell?, hg]
  simpa using hj
theorem slices_Repeat_int_int.len2 (x : Int) (m n : Nat) (h1 : m ≤ n) : ((nums .i64 (slices_Repeat_int_int.lay x m n)).take (min m (n - m))).length = Nat.min m (n - m) := by
  simp only [nums, slices_Repeat_int_int.lay, List.length_take, List.length_map, List.length_append, List.length_replicate]
  have : Nat.min m (n - m) = min m (n - m) := rfl
  omega
theorem slices_Repeat_int_int.one2 (x : Int) (m n q : Nat) : ∀ v ∈ (nums .i64 (slices_Repeat_int_int.lay x m n)).take q, v.oneCell' = true := by
  intro v hv
  have := List.mem_of_mem_take hv
  simp only [nums, List.mem_map] at this
  obtain ⟨y, _, rfl⟩ := this
  rfl
theorem slices_Repeat_int_int.fit2 (x : Int) (m n : Nat) (h1 : m ≤ n) : m + ((nums .i64 (slices_Repeat_int_int.lay x m n)).take (min m (n - m))).length ≤ (nums .i64 (slices_Repeat_int_int.lay x m n)).toArray.size := by
  rw [slices_Repeat_int_int.len2 x m n h1]
  have : Nat.min m (n - m) = min m (n - m) := rfl
  simp only [nums, slices_Repeat_int_int.lay, List.size_toArray, List.length_map, List.length_append, List.length_replicate]
  omega
theorem slices_Repeat_int_int.next {x : Int} {m n q g : Nat} {W w1 : World} {cs : List Value} (hg : W.heap[g]? = some (.cells (nums .i64 (slices_Repeat_int_int.lay x m n)).toArray 3 (0, 0)))
    (hr : (nums .i64 (slices_Repeat_int_int.lay x m n)).take m ++ cs ++ (nums .i64 (slices_Repeat_int_int.lay x m n)).drop (m + q) = nums .i64 (slices_Repeat_int_int.lay x (m + q) n)) (hq : q = cs.length)
    (hw : w1 = W.drew.setRow g ((nums .i64 (slices_Repeat_int_int.lay x m n)).toArray.toList.take m ++ cs ++ (nums .i64 (slices_Repeat_int_int.lay x m n)).toArray.toList.drop (m + cs.length)).toArray) :
    w1.heap[g]? = some (.cells (nums .i64 (slices_Repeat_int_int.lay x (m + q) n)).toArray 3 (0, 0)) := by
  rw [hw, setRow_heap W.drew g _ _ 3 (0, 0) hg, ← hr, hq]
theorem slices_Repeat_int_int.below {w W w1 : World} {g : Nat} {cs : Array Value} (hb : Below w.heap.size w W) (hg : w.heap.size ≤ g) (hw : w1 = W.drew.setRow g cs) : Below w.heap.size w w1 := by
  rw [hw]; exact below_setRow (below_drew hb) hg cs
theorem slices_Repeat_int_int.calls (A0 : Option Addr) (c0 : Nat) (l0 : List Int) (a1 : Int) (r : List Int) (w : World) (hr0 : Kd.C (Kd.int .i64) w A0 l0.length l0) (hc0 : l0.length ≤ c0) (h : slices_Repeat_int_int.f l0 a1 = some r) :
    Calls Try.prog 104 #[.slice A0 l0.length c0, .int .i64 a1] w fun e w' => ∃ v0_ : Value, e = .returned (v0_) ∧ Kd.R (Kd.int .i64) 3 w' w.heap.size (fun _ => True) v0_ r ∧ Below w.heap.size w w' := by
  obtain ⟨x, n, rfl, rfl, hle, rfl⟩ : ∃ (x : Int) (n : Nat), l0 = [x] ∧ a1 = (n : Int) ∧ n ≤ 64 ∧ r = List.replicate n x := by
    unfold slices_Repeat_int_int.f at h
    split at h
    · rename_i hc
      obtain ⟨h1, h2, h3⟩ := hc
      obtain ⟨x, rfl⟩ : ∃ x, l0 = [x] := by
        match l0, h1 with
        | [x], _ => exact ⟨x, rfl⟩
      exact ⟨x, a1.toNat, rfl, by omega, by omega, (Option.some.inj h).symm⟩
    · cases h
  clear h
  have hm := slices_Repeat_int_int.mul ⟨n, by omega⟩
  simp only at hm
  obtain ⟨ad, c, rfl, hcl, hK, hcell⟩ := Kd.C_get hr0 (0 : Int) 0 (by omega) (by simp)
  have hc1 : c = [.int .i64 x] := hK
  subst hc1
  have hcc : w.cell? ad = some (.int .i64 x) := by
    have e := hcell 0 _ rfl
    simpa [Addr.add] using e
  obtain ⟨i0, hi, hzz⟩ := Option.map_eq_some_iff.1 info3
  simp only [Prod.mk.injEq] at hzz
  obtain ⟨hz0, hz1, hz2⟩ := hzz
  have HI := Aside0.mk hi
  have HZ0 := Aside0.mk hz0
  have HZ1 := Aside0.mk hz1
  have HZ2 := Aside0.mk hz2
  have HM := Aside0.mk hm
  have HCC := Aside0.mk hcc
  have HLT := Aside0.mk (World.block_lt_of_cell? _ _ hcc)
  have HC0 := Aside0.mk hc0
  clear hi hz0 hz1 hz2 hm hcc hcell hK hcl hr0 hc0
  have hu0_ := Try.underlying35
  have hn0 : (0 : Int) ≤ (n : Int) := by omega
  have hn1 : (n : Int) ≤ 64 := by omega
  go_enter Try.func104, Try.ntmps104
  go_wp2_with (first
    | (go_at_call 110; refine (bits_Mul.calls 1 (n : Int) 0 (n : Int) _ HM.out).mono ?_; rintro e w' ⟨rfl, ⟨nd, rfl⟩⟩)
    | ((with_reducible refine gate_dst (N := 30) rfl ?_); go_must (refine wpList_make_full _ rfl (.tmp 29) (.tmp 29) 35 rfl w.heap.size 3 i0 (.int .i64 0) 1 Try.underlying35 HI.out HZ0.out HZ1.out .i64 .i64 n n n rfl rfl rfl rfl ?b2 ?b3 ?b4 ?K
                                                                   case b2 => rw [HZ2.out]; omega
                                                                   case b3 => unfold maxLen; omega
                                                                   case b4 => simp
                                                                   intro w2 hown hgr
                                                                   obtain ⟨g, hg⟩ : ∃ g, g = (w.drewN nd).heap.size := ⟨_, rfl⟩
                                                                   rw [← hg] at hown ⊢
                                                                   have HGE := Aside0.mk (show w.heap.size ≤ g by rw [hg]; exact Nat.le_refl _)
                                                                   have HB := Aside0.mk (pw_below_grown (pw_below_drewN (Below.refl w.heap.size w) nd) none (Nat.le_refl _) hgr (by simp))
                                                                   have HG := Aside0.mk (slices_Repeat_int_int.cells (x := x) hown)
                                                                   have HCW := Aside0.mk ((HB.out.cell (p := ad) HLT.out).trans HCC.out)
                                                                   clear hg hown hgr))
    | ((with_reducible refine gate_dst (N := 33) rfl ?_); go_must (refine wpList_copy_splice rfl (.tmp 31) (.tmp 32) 35 35 rfl 3 Try.underlying35 ?hsz (some ⟨g, 0, none⟩) (some ad) n n 1 c0 ?e1 ?e2 g 0 (nums .i64 (slices_Repeat_int_int.lay x 0 n)) 3 HG.out ((nums .i64 [x]).take (min 1 n)) ?hn ?hpos ?hfit ?h1 w.heap.size w HB.out HGE.out ?_
                                                                   case hsz => exact slices_Repeat_int_int.size HI.out HZ1.out
                                                                   case e1 => rfl
                                                                   case e2 => rfl
                                                                   case hn => exact slices_Repeat_int_int.len0 x n
                                                                   case hpos => intro _; refine ⟨rfl, ad, rfl, ?_⟩; intro j v hj; exact slices_Repeat_int_int.src (HCW.out) hj
                                                                   case hfit => exact slices_Repeat_int_int.fit x n
                                                                   case h1 => exact slices_Repeat_int_int.one x n
                                                                   intro w3 hg3 hb3
                                                                   have HG3 := Aside0.mk (show w3.heap[g]? = some (.cells (nums .i64 (slices_Repeat_int_int.lay x (min 1 n) n)).toArray 3 (0, 0)) by rw [← slices_Repeat_int_int.first]; exact hg3.out)
                                                                   have HB3 := Aside0.mk hb3
                                                                   clear hg3 hb3 HG HB HCW
                                                                   rw [show (goInt ((nums .i64 [x]).take (min 1 n)).length) = .int .i64 ((min 1 n : Nat) : Int) from slices_Repeat_int_int.len x n]))
    | fail)
  go_loopw [8] (fun v8 w' => ∃ m : Nat, v8 = .int .i64 (m : Int) ∧ Aside0 (m ≤ n ∧ (1 ≤ m ∨ n = 0)) ∧ Aside0 (w'.heap[g]? = some (.cells (nums .i64 (slices_Repeat_int_int.lay x m n)).toArray 3 (0, 0))) ∧ Aside0 (Below w.heap.size w w')) (fun v8 _ => n - (intOf v8).toNat)
  case atStart => exact ⟨min 1 n, rfl, ⟨by omega⟩, HG3, HB3⟩
  case round =>
    obtain ⟨m, rfl, HMN, HGm, HBm⟩ := hrel
    by_cases hlt : m < n
    · have h1m : 1 ≤ m := by have := HMN.out; omega
      have hmi : (m : Int) < (n : Int) := by omega
      have hmi2 : (m : Int) ≤ (n : Int) := by omega
      have hnm : ¬ n = m := by omega
      obtain ⟨cs, hcs⟩ : ∃ cs, cs = (nums .i64 (slices_Repeat_int_int.lay x m n)).take (min m (n - m)) := ⟨_, rfl⟩
      have L1 := slices_Repeat_int_int.len2 x m n (by omega)
      have L2 : ∀ j v, cs[j]? = some v → wr.cell? ((⟨g, 0, none⟩ : Addr).add j) = some v := fun j v hj => slices_Repeat_int_int.src2 (by omega) HGm.out (by rw [← hcs]; exact hj)
      have L3 := slices_Repeat_int_int.fit2 x m n (by omega)
      have L4 := slices_Repeat_int_int.one2 x m n (min m (n - m))
      have L5 := slices_Repeat_int_int.row x m n h1m (by omega)
      rw [← hcs] at L1 L3 L4
      have hml : (nums .i64 (slices_Repeat_int_int.lay x m n)).take (min m (n - m)) = cs := hcs.symm
      rw [hml] at L5
      obtain ⟨q, hq⟩ : ∃ q, q = cs.length := ⟨_, rfl⟩
      have hq1 : 1 ≤ q := by rw [hq, L1]; have : Nat.min m (n - m) = min m (n - m) := rfl; omega
      have hq2 : m + q ≤ n := by rw [hq, L1]; have : Nat.min m (n - m) = min m (n - m) := rfl; omega
      have hq3 : min m (n - m) = q := by rw [hq, L1]
      rw [hq3] at L5
      have H1 := Aside0.mk L1
      have H2 := Aside0.mk L2
      have H3 := Aside0.mk L3
      have H4 := Aside0.mk L4
      have H5 := Aside0.mk L5
      have HQ := Aside0.mk hq
      clear hcs hml L1 L2 L3 L4 L5 hq hq3
      go_wp2_with fail
      go_region_law (refine step_copy_own rfl (.tmp 41) (.tmp 44) 35 35 rfl 3 Try.underlying35 (slices_Repeat_int_int.size HI.out HZ1.out) g m (n - m) (n - m) ⟨g, 0, none⟩ m n (by simp [Act.eval, Act.put, hnm]) (by simp [Act.eval, Act.put]) _ 3 HGm.out cs H1.out H2.out H3.out H4.out ?_; intro w1 hw1; (have HG1 := Aside0.mk (slices_Repeat_int_int.next HGm.out H5.out HQ.out hw1)); (have HB1 := Aside0.mk (slices_Repeat_int_int.below HBm.out HGE.out hw1)); clear hw1; rw [show goInt cs.length = .int .i64 (q : Int) by rw [HQ.out]; rfl])
      go_simp
      rw [slices_Repeat_int_int.wrapq m q (by omega)]
      go_roundw

      case rel => exact ⟨_, _, _, _, _, _, _, _, _, _, _, _, _, _, ⟨m + q, rfl, ⟨by omega⟩, HG1, HB1⟩, rfl⟩
      case measure => simp [intOf]; omega
    · have hmn : m = n := by have := HMN.out; omega
      subst hmn
      go_wp2
      go_ret
      exact ⟨_, rfl, slices_Repeat_int_int.done hle HGm.out HGE.out, HBm.out⟩
/-! ### impl_Meander_way: function 105 -/
def impl_Meander_way.l0 : Nat → Int → List Int → Int → List Int → List Int → Option (List Int)
 | 0, _, _, _, _, _ => none
 | k + 1, x1, x5, x6, x377000, x377001 => if 0 ≤ x6 then (if x6 < (x377000.length : Int) then ((some (([x6, rd x377000 x6] : List Int) : List Int)).bind fun y381 => (if x5.length + y381.length < 17592186044416 then ((some (x5 ++ y381 : List Int)).bind fun y384 => (if 0 ≤ (rd x377000 x6) then (if (rd x377000 x6) < (x377001.length : Int) then (if (rd x377001 (rd x377000 x6)) = x1 then (some y384) else (impl_Meander_way.l0 k x1 y384 (rd x377001 (rd x377000 x6)) x377000 x377001)) else (none)) else (none))) else (none))) else (none)) else (none)
def impl_Meander_way.f (k : Nat) (l0_0 : List Int) (l0_1 : List Int) (a1 : Int) : Option (List Int) := impl_Meander_way.l0 k a1 (([] : List Int)) a1 l0_0 l0_1
theorem impl_Meander_way.mono_l : ∀ k, (∀ y0 y1 y2 y3 y4, LeO (impl_Meander_way.l0 k y0 y1 y2 y3 y4) (impl_Meander_way.l0 (k + 1) y0 y1 y2 y3 y4))
 | 0 => fun _ _ _ _ _ r h => by simp [impl_Meander_way.l0] at h
 | k + 1 => by
  have ih0 := impl_Meander_way.mono_l k
  ·intro y0 y1 y2 y3 y4
   unfold impl_Meander_way.l0
   repeat' first
   | (with_reducible exact ih0 _ _ _ _ _)
   | (with_reducible exact LeO.refl _)
   | (with_reducible exact LeO.none _)
   | (with_reducible refine LeO.ite ?_ ?_)
   | (with_reducible refine LeO.bind ?_ (fun _ => ?_))
   | exact ih0 _ _ _ _ _
   | exact LeO.none _
   | refine LeO.ite ?_ ?_
   | refine LeO.bind ?_ (fun _ => ?_)
theorem impl_Meander_way.mono : ∀ a0 a1 a2 k, LeO (impl_Meander_way.f k a0 a1 a2) (impl_Meander_way.f (k + 1) a0 a1 a2) := by
 intro a0 a1 a2 k; have ih0 := impl_Meander_way.mono_l k; unfold impl_Meander_way.f
 repeat' first
   | (with_reducible exact ih0 _ _ _ _ _)
   | (with_reducible exact LeO.refl _)
   | (with_reducible exact LeO.none _)
   | (with_reducible refine LeO.ite ?_ ?_)
   | (with_reducible refine LeO.bind ?_ (fun _ => ?_))
   | exact ih0 _ _ _ _ _
   | exact LeO.none _
   | refine LeO.ite ?_ ?_
   | refine LeO.bind ?_ (fun _ => ?_)
theorem impl_Meander_way.calls (k : Nat) (A0_0 : Option Addr) (c0_0 : Nat) (l0_0 : List Int) (A0_1 : Option Addr) (c0_1 : Nat) (l0_1 : List Int) (a1 : Int) (r : List Int) (w : World) (hr0_0 : Kd.C (Kd.int .i64) w A0_0 l0_0.length l0_0) (hc0_0 : l0_0.length ≤ c0_0) (hr0_1 : Kd.C (Kd.int .i64) w A0_1 l0_1.length l0_1) (hc0_1 : l0_1.length ≤ c0_1) (h : impl_Meander_way.f k l0_0 l0_1 a1 = some r) :
  Calls Try.prog 105 #[.agg #[.slice A0_0 l0_0.length c0_0, .slice A0_1 l0_1.length c0_1], .int .i64 a1] w fun e w' => ∃ v0_ : Value, e = .returned (v0_) ∧ Kd.R (Kd.int .i64) 3 w' w.heap.size (fun _ => True) v0_ r ∧ Below w.heap.size w w' := by
 have hu71 := Try.underlying71; have HR0_0 := Aside0.mk hr0_0; have HC0_0 := Aside0.mk hc0_0; clear hr0_0 hc0_0; have HR0_1 := Aside0.mk hr0_1; have HC0_1 := Aside0.mk hc0_1; clear hr0_1 hc0_1; have HB := Aside0.mk (Below.refl w.heap.size w); have H : (impl_Meander_way.l0 k a1 (([] : List Int)) a1 l0_0 l0_1) = some r := h; clear h; obtain ⟨y377, hy377⟩ := yy (([] : List Int))
 (try rw [Option.bind_some] at H); (try dsimp only at H); rw [← hy377] at H
 have Ny377 := Aside0.mk hy377; clear hy377; have H' := Aside0.mk H; clear H; go_enter Try.func105, Try.ntmps105; go_wp2_with (first | ((with_reducible refine gate_dst (N := 2) rfl ?_); refine box_event ?hg (N := 2) ?hd (cs := #[.slice A0_0 l0_0.length c0_0, .slice A0_1 l0_1.length c0_1]) (t := 71) ?hr ?_; (case hd => rfl); (case hg => rfl); (case hr => first | (go_simp; done) | (go_simp; rfl)); intro gb376 hg w3 hbox hb; have BK376 := Aside0.mk (hbox); have GW376 := Aside0.mk ((by rw [hg]; exact (below_size (bl HB.out)) : w.heap.size ≤ gb376)); have GE376 := Aside0.mk ((by rw [hg]; exact (below_size (bl HB.out)) : w.heap.size ≤ gb376)); replace HB := bst HB hb; clear hb hbox hg) | ((with_reducible refine gate_dst (N := 8) rfl ?_); refine Kd.R_lit (Kd.int .i64) _ 3 ?hg (N := 8) ?hd (xs := ([] : List Int)) (inner := []) (ok := fun _ => True) (okp := fun _ => True) ?hr ?hp (fun _ hk => hk) trivial (Below.refl _ _) (Nat.le_refl _) (by simp) ?_; (case hd => rfl); (case hg => rfl); (case hr => first | (go_simp; done) | (go_simp; rfl)); (case hp => exact (Reps.none _ _)); intro v378 w4 ho5 hb hg_ hnew_; clear hg_ hnew_; (first | rw [← Ny377.out] at ho5 | (simp only [Int.reduceToNat] at ho5; rw [← Ny377.out] at ho5)); have HO379 := Aside0.mk (Kd.R_lower ho5 (below_size (bs1 HB.out GE376.out))); replace BK376 := bkb BK376 hb; replace HB := Aside0.mk (below_step (bs1 HB.out GE376.out) hb); clear hb ho5))
 go_loopg [5, 6] k (fun kq v5 v6 w' => ∃ (x5_1 : List Int) (x6_1 : Int), v6 = .int .i64 x6_1 ∧ Aside0 (impl_Meander_way.l0 kq a1 x5_1 x6_1 l0_0 l0_1 = some r) ∧ Aside0 (kq ≤ k) ∧ Aside0 (Kd.R (Kd.int .i64) 3 w' w.heap.size (fun _ => True) v5 x5_1) ∧ Aside0 (w'.heap[gb376]? = some (.cells #[(.slice A0_0 l0_0.length c0_0), (.slice A0_1 l0_1.length c0_1)] 71 (0, 0))) ∧ Aside0 (Below w.heap.size w w'))
 case atStart => exact ⟨(y377), (a1), (sr2), H', ⟨Nat.le_refl _⟩, ⟨rR HO379.out⟩, ⟨by (with_reducible repeat (first | refine blk_drewN ?_ _ | refine blk_drew ?_ | refine blk_alloc ?_ _)); exact BK376.out⟩, ⟨bs1 HB.out GE376.out⟩⟩
 case round =>
  clear H'; obtain ⟨x5_1, x6_1, rfl, HA, HK1, HO_5, BK376, HB⟩ := hrel
  cases gk with
  | zero => exact absurd HA.out (by simp [impl_Meander_way.l0])
  | succ k1 =>
   have H := HA.out; clear HA; simp only [impl_Meander_way.l0] at H
   by_cases c6 : 0 ≤ x6_1
   ·rw [if_pos c6] at H; have c6b0 := decide_eq_true c6; clear c6
    by_cases c7 : x6_1 < (l0_0.length : Int)
    ·rw [if_pos c7] at H; have c7b0 := decide_eq_true c7; clear c7; obtain ⟨y381, hy381⟩ := yy (([x6_1, rd l0_0 x6_1] : List Int))
     (try rw [Option.bind_some] at H); (try dsimp only at H); rw [← hy381] at H
     have Ny381 := Aside0.mk hy381; clear hy381
     by_cases c8 : x5_1.length + y381.length < 17592186044416
     ·rw [if_pos c8] at H; have LMc8 := Aside0.mk c8; clear c8; obtain ⟨y384, hy384⟩ := yy (x5_1 ++ y381)
      (try rw [Option.bind_some] at H); (try dsimp only at H); rw [← hy384] at H
      have Ny384 := Aside0.mk hy384; clear hy384
      by_cases c9 : 0 ≤ (rd l0_0 x6_1)
      ·rw [if_pos c9] at H; have c9b0 := decide_eq_true c9; clear c9
       by_cases c10 : (rd l0_0 x6_1) < (l0_1.length : Int)
       ·rw [if_pos c10] at H; have c10b0 := decide_eq_true c10; clear c10
        by_cases c11 : (rd l0_1 (rd l0_0 x6_1)) = a1
        ·rw [if_pos c11] at H; have c11b0 := beq_iff_eq.mpr c11; have c11b1 := bne_eq_false_iff_eq.mpr c11; clear c11; obtain rfl := Option.some.inj H; have hcz12_0 : wr.cell? ⟨gb376, 0, none⟩ = some (.slice A0_0 l0_0.length c0_0) := (blk_cell BK376.out 0).trans rfl; have hcz12_1 : wr.cell? ⟨gb376, 1, none⟩ = some (.slice A0_1 l0_1.length c0_1) := (blk_cell BK376.out 1).trans rfl; have hfz12_0 := blk_frozen BK376.out 0; have hfz12_1 := blk_frozen BK376.out 1; obtain ⟨ad380, e380, hx380_0, p380, q380⟩ := atI HR0_0.out x6_1; cases e380; replace hx380_0 := hbx HB hx380_0; go_wp2_with (first | ((with_reducible refine gate_dst (N := 18) rfl ?_); refine Kd.R_lit (Kd.int .i64) _ 3 ?hg (N := 18) ?hd (xs := ([x6_1, rd l0_0 x6_1] : List Int)) (inner := [.int .i64 x6_1, .int .i64 (rd l0_0 x6_1)]) (ok := fun _ => True) (okp := fun _ => True) ?hr ?hp (fun _ hk => hk) trivial (Below.refl _ _) (Nat.le_refl _) (by simp) ?_; (case hd => rfl); (case hg => rfl); (case hr => first | (go_simp; done) | (go_simp; rfl)); (case hp => exact (Reps.one (show Kd.M (Kd.int .i64) _ _ _ x6_1 [.int .i64 x6_1] from rfl) (Reps.one (show Kd.M (Kd.int .i64) _ _ _ (rd l0_0 x6_1) [.int .i64 (rd l0_0 x6_1)] from rfl) (Reps.none _ _)))); intro v382 w13 ho14 hb hg_ hnew_; clear hg_ hnew_; (first | rw [← Ny381.out] at ho14 | (simp only [Int.reduceToNat] at ho14; rw [← Ny381.out] at ho14)); have HO383 := Aside0.mk (Kd.R_lower (Kd.R_new' ho14 (Kd.R_lt (rR HO_5.out))) (below_size (bs1 HB.out GE376.out))); replace HO_5 := Aside0.mk (Kd.R_elder' (rR HO_5.out) (Kd.R_base ho14) hb); replace BK376 := bkb BK376 hb; replace HB := Aside0.mk (below_step (bs1 HB.out GE376.out) hb); clear hb ho14; obtain ⟨Ao16, co16, eo16⟩ := Kd.R_slice HO383.out; subst eo16) | ((with_reducible refine gate_builtin (b := .append) (xs := #[.tmp 15, .tmp 18]) rfl ?_); at_builtin; refine Kd.R_append_rows (Kd.int .i64) (w0 := w) w.heap.size rfl (.tmp 15) (.tmp 18) 35 3 (.int .i64 0) 8 rfl Try.underlying35 info3 rfl (by decide) (by omega) u5 x5_1 y381 _ _ _ (fun k_ => some k_ ≠ (.slice Ao16 y381.length co16 : Value).ownBlock) (fun _ => False) rfl rfl ?aO ?aR (fun _ _ h => h) (fun _ h => h.elim) ?aF ?aB ?aS (by have := LMc8.out; omega) ?_; (case aR => exact cw ((Kd.R_reads' HO383.out).2.2)); (case aB => exact (bs1 HB.out GE376.out)); (case aF => exact (fun k_ hk => Kd.fresh' (Kd.R_lt (rR HO383.out)) k_ hk)); (case aO => exact (rR (Kd.R_mono HO_5.out (fun _ hk => hk.2)))); (case aS => exact (below_size (bs1 HB.out GE376.out))); intro v385 w15 ho hb hg hat; rw [← Ny384.out] at ho; replace BK376 := Aside0.mk (blk_grown (bk BK376.out) hg (Kd.R_ne HO_5.out BK376.out (by decide))); replace HO383 := Aside0.mk (Kd.R_after (ok := (fun _ => True)) (rR HO383.out) hg hat); replace HB := Aside0.mk (hb); have HO386 := Aside0.mk (ho); clear HO_5; clear ho hb hg hat; have hcz17_0 : w15.cell? ⟨gb376, 0, none⟩ = some (.slice (some ad380) l0_0.length c0_0) := (blk_cell BK376.out 0).trans rfl; have hcz17_1 : w15.cell? ⟨gb376, 1, none⟩ = some (.slice A0_1 l0_1.length c0_1) := (blk_cell BK376.out 1).trans rfl; have hfz17_0 := blk_frozen BK376.out 0; have hfz17_1 := blk_frozen BK376.out 1; have p387 : 0 ≤ ((rd l0_0 x6_1) : Int) := od; have q387 : (rd l0_0 x6_1) < (l0_1.length : Int) := od; obtain ⟨ad387, e387, hx387_0⟩ := Kd.at_int HR0_1.out (rd l0_0 x6_1) p387 q387; cases e387; replace hx387_0 := hbx HB hx387_0; replace p387 := eq_true p387; replace q387 := eq_true q387)); go_ret; exact ⟨_, sr, rR (Kd.R_mono HO386.out (fun _ hk => trivial)), bs1 HB.out GE376.out⟩
        rw [if_neg c11] at H; have c11b0 := beq_eq_false_iff_ne.mpr c11; have c11b1 := bne_iff_ne.mpr c11; have H' := Aside0.mk H; clear H; have hcz18_0 : wr.cell? ⟨gb376, 0, none⟩ = some (.slice A0_0 l0_0.length c0_0) := (blk_cell BK376.out 0).trans rfl; have hcz18_1 : wr.cell? ⟨gb376, 1, none⟩ = some (.slice A0_1 l0_1.length c0_1) := (blk_cell BK376.out 1).trans rfl; have hfz18_0 := blk_frozen BK376.out 0; have hfz18_1 := blk_frozen BK376.out 1; obtain ⟨ad380, e380, hx380_0, p380, q380⟩ := atI HR0_0.out x6_1; cases e380; replace hx380_0 := hbx HB hx380_0; go_wp2_with (first | ((with_reducible refine gate_dst (N := 18) rfl ?_); refine Kd.R_lit (Kd.int .i64) _ 3 ?hg (N := 18) ?hd (xs := ([x6_1, rd l0_0 x6_1] : List Int)) (inner := [.int .i64 x6_1, .int .i64 (rd l0_0 x6_1)]) (ok := fun _ => True) (okp := fun _ => True) ?hr ?hp (fun _ hk => hk) trivial (Below.refl _ _) (Nat.le_refl _) (by simp) ?_; (case hd => rfl); (case hg => rfl); (case hr => first | (go_simp; done) | (go_simp; rfl)); (case hp => exact (Reps.one (show Kd.M (Kd.int .i64) _ _ _ x6_1 [.int .i64 x6_1] from rfl) (Reps.one (show Kd.M (Kd.int .i64) _ _ _ (rd l0_0 x6_1) [.int .i64 (rd l0_0 x6_1)] from rfl) (Reps.none _ _)))); intro v382 w19 ho20 hb hg_ hnew_; clear hg_ hnew_; (first | rw [← Ny381.out] at ho20 | (simp only [Int.reduceToNat] at ho20; rw [← Ny381.out] at ho20)); have HO383 := Aside0.mk (Kd.R_lower (Kd.R_new' ho20 (Kd.R_lt (rR HO_5.out))) (below_size (bs1 HB.out GE376.out))); replace HO_5 := Aside0.mk (Kd.R_elder' (rR HO_5.out) (Kd.R_base ho20) hb); replace BK376 := bkb BK376 hb; replace HB := Aside0.mk (below_step (bs1 HB.out GE376.out) hb); clear hb ho20; obtain ⟨Ao22, co22, eo22⟩ := Kd.R_slice HO383.out; subst eo22) | ((with_reducible refine gate_builtin (b := .append) (xs := #[.tmp 15, .tmp 18]) rfl ?_); at_builtin; refine Kd.R_append_rows (Kd.int .i64) (w0 := w) w.heap.size rfl (.tmp 15) (.tmp 18) 35 3 (.int .i64 0) 8 rfl Try.underlying35 info3 rfl (by decide) (by omega) u5 x5_1 y381 _ _ _ (fun k_ => some k_ ≠ (.slice Ao22 y381.length co22 : Value).ownBlock) (fun _ => False) rfl rfl ?aO ?aR (fun _ _ h => h) (fun _ h => h.elim) ?aF ?aB ?aS (by have := LMc8.out; omega) ?_; (case aR => exact cw ((Kd.R_reads' HO383.out).2.2)); (case aB => exact (bs1 HB.out GE376.out)); (case aF => exact (fun k_ hk => Kd.fresh' (Kd.R_lt (rR HO383.out)) k_ hk)); (case aO => exact (rR (Kd.R_mono HO_5.out (fun _ hk => hk.2)))); (case aS => exact (below_size (bs1 HB.out GE376.out))); intro v385 w21 ho hb hg hat; rw [← Ny384.out] at ho; replace BK376 := Aside0.mk (blk_grown (bk BK376.out) hg (Kd.R_ne HO_5.out BK376.out (by decide))); replace HO383 := Aside0.mk (Kd.R_after (ok := (fun _ => True)) (rR HO383.out) hg hat); replace HB := Aside0.mk (hb); have HO386 := Aside0.mk (ho); clear HO_5; clear ho hb hg hat; have hcz23_0 : w21.cell? ⟨gb376, 0, none⟩ = some (.slice (some ad380) l0_0.length c0_0) := (blk_cell BK376.out 0).trans rfl; have hcz23_1 : w21.cell? ⟨gb376, 1, none⟩ = some (.slice A0_1 l0_1.length c0_1) := (blk_cell BK376.out 1).trans rfl; have hfz23_0 := blk_frozen BK376.out 0; have hfz23_1 := blk_frozen BK376.out 1; have p387 : 0 ≤ ((rd l0_0 x6_1) : Int) := od; have q387 : (rd l0_0 x6_1) < (l0_1.length : Int) := od; obtain ⟨ad387, e387, hx387_0⟩ := Kd.at_int HR0_1.out (rd l0_0 x6_1) p387 q387; cases e387; replace hx387_0 := hbx HB hx387_0; replace p387 := eq_true p387; replace q387 := eq_true q387))
        go_roundg k1
        case measure => have := HK1.out; omega
        case rel => exact ⟨(y384), (rd l0_1 (rd l0_0 x6_1)), (sr2), H', ⟨by have := HK1.out; omega⟩, ⟨rR (Kd.R_mono HO386.out (fun _ hk => trivial))⟩, ⟨by (with_reducible repeat (first | refine blk_drewN ?_ _ | refine blk_drew ?_ | refine blk_alloc ?_ _)); exact BK376.out⟩, ⟨bs1 HB.out GE376.out⟩⟩
       rw [if_neg c10] at H; exact absurd H (by simp)
      rw [if_neg c9] at H; exact absurd H (by simp)
     rw [if_neg c8] at H; exact absurd H (by simp)
    rw [if_neg c7] at H; exact absurd H (by simp)
   rw [if_neg c6] at H; exact absurd H (by simp)
/-! ### impl_Meander_curves: function 98 -/
mutual
def impl_Meander_curves.l0 : Nat → List Int → Int → Int → Int → List Int → List Int → Option (List Int × Int)
 | 0, _, _, _, _, _, _ => none
 | k + 1, x4, x5, x15, x16, x389000, x389001 => if x16 < x15 then (if 0 ≤ x16 then (if x16 < (x4.length : Int) then (if (rd x4 x16) ≥ 0 then (impl_Meander_curves.l0 k x4 x5 x15 (wrap64 (x16 + 1)) x389000 x389001) else ((impl_Meander_way.f k x389000 x389001 x16).bind fun t396 => (impl_Meander_curves.l1 k x4 x5 x15 x16 t396 (t396.length : Int) 0 x389000 x389001))) else (none)) else (none)) else (some (x4, x5))
def impl_Meander_curves.l1 : Nat → List Int → Int → Int → Int → List Int → Int → Int → List Int → List Int → Option (List Int × Int)
 | 0, _, _, _, _, _, _, _, _, _ => none
 | k + 1, x4, x5, x15, x16, x26, x27, x28, x389000, x389001 => if x28 < x27 then (if 0 ≤ x28 then (if x28 < (x26.length : Int) then (if 0 ≤ (rd x26 x28) then (if (rd x26 x28) < (x4.length : Int) then (impl_Meander_curves.l1 k (x4.set ((rd x26 x28) : Int).toNat x5) x5 x15 x16 x26 x27 (wrap64 (x28 + 1)) x389000 x389001) else (none)) else (none)) else (none)) else (none)) else (impl_Meander_curves.l0 k x4 (wrap64 (x5 + 1)) x15 (wrap64 (x16 + 1)) x389000 x389001)
end
def impl_Meander_curves.f (k : Nat) (l0_0 : List Int) (l0_1 : List Int) : Option (List Int × Int) := (slices_Repeat_int_int.f (([(-1)] : List Int)) (l0_0.length : Int)).bind fun t392 => (impl_Meander_curves.l0 k t392 0 (t392.length : Int) 0 l0_0 l0_1)
theorem impl_Meander_curves.mono_l : ∀ k, (∀ y0 y1 y2 y3 y4 y5, LeO (impl_Meander_curves.l0 k y0 y1 y2 y3 y4 y5) (impl_Meander_curves.l0 (k + 1) y0 y1 y2 y3 y4 y5)) ∧ (∀ y0 y1 y2 y3 y4 y5 y6 y7 y8, LeO (impl_Meander_curves.l1 k y0 y1 y2 y3 y4 y5 y6 y7 y8) (impl_Meander_curves.l1 (k + 1) y0 y1 y2 y3 y4 y5 y6 y7 y8))
 | 0 => ⟨fun _ _ _ _ _ _ r h => by simp [impl_Meander_curves.l0] at h, fun _ _ _ _ _ _ _ _ _ r h => by simp [impl_Meander_curves.l1] at h⟩
 | k + 1 => by
  obtain ⟨ih0, ih1⟩ := impl_Meander_curves.mono_l k
  refine ⟨?_, ?_⟩
  ·intro y0 y1 y2 y3 y4 y5
   unfold impl_Meander_curves.l0
   repeat' first
   | (with_reducible exact ih0 _ _ _ _ _ _)
   | (with_reducible exact ih1 _ _ _ _ _ _ _ _ _)
   | (with_reducible exact impl_Meander_way.mono _ _ _ _)
   | (with_reducible exact LeO.refl _)
   | (with_reducible exact LeO.none _)
   | (with_reducible refine LeO.ite ?_ ?_)
   | (with_reducible refine LeO.bind ?_ (fun _ => ?_))
   | exact ih0 _ _ _ _ _ _
   | exact ih1 _ _ _ _ _ _ _ _ _
   | exact impl_Meander_way.mono _ _ _ _
   | exact LeO.none _
   | refine LeO.ite ?_ ?_
   | refine LeO.bind ?_ (fun _ => ?_)
  ·intro y0 y1 y2 y3 y4 y5 y6 y7 y8
   unfold impl_Meander_curves.l1
   repeat' first
   | (with_reducible exact ih0 _ _ _ _ _ _)
   | (with_reducible exact ih1 _ _ _ _ _ _ _ _ _)
   | (with_reducible exact impl_Meander_way.mono _ _ _ _)
   | (with_reducible exact LeO.refl _)
   | (with_reducible exact LeO.none _)
   | (with_reducible refine LeO.ite ?_ ?_)
   | (with_reducible refine LeO.bind ?_ (fun _ => ?_))
   | exact ih0 _ _ _ _ _ _
   | exact ih1 _ _ _ _ _ _ _ _ _
   | exact impl_Meander_way.mono _ _ _ _
   | exact LeO.none _
   | refine LeO.ite ?_ ?_
   | refine LeO.bind ?_ (fun _ => ?_)
theorem impl_Meander_curves.mono : ∀ a0 a1 k, LeO (impl_Meander_curves.f k a0 a1) (impl_Meander_curves.f (k + 1) a0 a1) := by
 intro a0 a1 k; obtain ⟨ih0, ih1⟩ := impl_Meander_curves.mono_l k; unfold impl_Meander_curves.f
 repeat' first
   | (with_reducible exact ih0 _ _ _ _ _ _)
   | (with_reducible exact ih1 _ _ _ _ _ _ _ _ _)
   | (with_reducible exact impl_Meander_way.mono _ _ _ _)
   | (with_reducible exact LeO.refl _)
   | (with_reducible exact LeO.none _)
   | (with_reducible refine LeO.ite ?_ ?_)
   | (with_reducible refine LeO.bind ?_ (fun _ => ?_))
   | exact ih0 _ _ _ _ _ _
   | exact ih1 _ _ _ _ _ _ _ _ _
   | exact impl_Meander_way.mono _ _ _ _
   | exact LeO.none _
   | refine LeO.ite ?_ ?_
   | refine LeO.bind ?_ (fun _ => ?_)
theorem impl_Meander_curves.calls (k : Nat) (A0_0 : Option Addr) (c0_0 : Nat) (l0_0 : List Int) (A0_1 : Option Addr) (c0_1 : Nat) (l0_1 : List Int) (r1 : List Int) (r2 : Int) (w : World) (hr0_0 : Kd.C (Kd.int .i64) w A0_0 l0_0.length l0_0) (hc0_0 : l0_0.length ≤ c0_0) (hr0_1 : Kd.C (Kd.int .i64) w A0_1 l0_1.length l0_1) (hc0_1 : l0_1.length ≤ c0_1) (h : impl_Meander_curves.f k l0_0 l0_1 = some (r1, r2)) :
  Calls Try.prog 98 #[.agg #[.slice A0_0 l0_0.length c0_0, .slice A0_1 l0_1.length c0_1]] w fun e w' => ∃ v0_ : Value, e = .returned (.tuple #[v0_, .int .i64 r2]) ∧ Kd.R (Kd.int .i64) 3 w' w.heap.size (fun _ => True) v0_ r1 ∧ Below w.heap.size w w' := by
 have hu71 := Try.underlying71; have HR0_0 := Aside0.mk hr0_0; have HC0_0 := Aside0.mk hc0_0; clear hr0_0 hc0_0; have HR0_1 := Aside0.mk hr0_1; have HC0_1 := Aside0.mk hc0_1; clear hr0_1 hc0_1; have HB := Aside0.mk (Below.refl w.heap.size w); have H : ((slices_Repeat_int_int.f (([(-1)] : List Int)) (l0_0.length : Int)).bind fun t392 => (impl_Meander_curves.l0 k t392 0 (t392.length : Int) 0 l0_0 l0_1)) = some (r1, r2) := h; clear h; obtain ⟨y389, hy389⟩ := yy (([(-1)] : List Int))
 (try rw [Option.bind_some] at H); (try dsimp only at H); rw [← hy389] at H
 have Ny389 := Aside0.mk hy389; clear hy389; obtain ⟨t392, A2, H⟩ := bi H; (try dsimp only at H); have H' := Aside0.mk H; clear H; go_enter Try.func98, Try.ntmps98; go_wp2_with (first | ((with_reducible refine gate_dst (N := 1) rfl ?_); refine box_event ?hg (N := 1) ?hd (cs := #[.slice A0_0 l0_0.length c0_0, .slice A0_1 l0_1.length c0_1]) (t := 71) ?hr ?_; (case hd => rfl); (case hg => rfl); (case hr => first | (go_simp; done) | (go_simp; rfl)); intro gb388 hg w3 hbox hb; have BK388 := Aside0.mk (hbox); have GW388 := Aside0.mk ((by rw [hg]; exact (below_size (bl HB.out)) : w.heap.size ≤ gb388)); have GE388 := Aside0.mk ((by rw [hg]; exact (below_size (bl HB.out)) : w.heap.size ≤ gb388)); replace HB := bst HB hb; clear hb hbox hg) | ((with_reducible refine gate_dst (N := 9) rfl ?_); refine Kd.R_lit (Kd.int .i64) _ 3 ?hg (N := 9) ?hd (xs := ([(-1)] : List Int)) (inner := [.int .i64 (-1)]) (ok := fun _ => True) (okp := fun _ => True) ?hr ?hp (fun _ hk => hk) trivial (Below.refl _ _) (Nat.le_refl _) (by simp) ?_; (case hd => rfl); (case hg => rfl); (case hr => first | (go_simp; done) | (go_simp; rfl)); (case hp => exact (Reps.one (show Kd.M (Kd.int .i64) _ _ _ (-1) [.int .i64 (-1)] from rfl) (Reps.none _ _))); intro v390 w4 ho5 hb hg_ hnew_; clear hg_ hnew_; (first | rw [← Ny389.out] at ho5 | (simp only [Int.reduceToNat] at ho5; rw [← Ny389.out] at ho5)); have HO391 := Aside0.mk (Kd.R_lower ho5 (below_size (bs1 HB.out GE388.out))); replace BK388 := bkb BK388 hb; replace HB := Aside0.mk (below_step (bs1 HB.out GE388.out) hb); clear hb ho5; have hcz6_0 : w4.cell? ⟨gb388, 0, none⟩ = some (.slice A0_0 l0_0.length c0_0) := (blk_cell BK388.out 0).trans rfl; have hcz6_1 : w4.cell? ⟨gb388, 1, none⟩ = some (.slice A0_1 l0_1.length c0_1) := (blk_cell BK388.out 1).trans rfl; have hfz6_0 := blk_frozen BK388.out 0; have hfz6_1 := blk_frozen BK388.out 1; obtain ⟨Ao7, co7, eo7⟩ := Kd.R_slice HO391.out; subst eo7) | (go_at_call 104; (with_reducible refine (slices_Repeat_int_int.calls _ _ y389 (l0_0.length : Int) t392 _ ?side1 ((Kd.R_reads' HO391.out).2.1) A2.out).mono ?_); (case side1 => exact cw ((Kd.R_reads' HO391.out).2.2)); rintro e w8 ⟨v393, rfl, ho0, hb⟩; have HO394 := Aside0.mk (Kd.R_lower (Kd.R_new' ho0 (Kd.R_lt (rR HO391.out))) (below_size (bs1 HB.out GE388.out))); replace HO391 := Aside0.mk (Kd.R_elder' (rR HO391.out) (Kd.R_base ho0) hb); replace BK388 := bkb BK388 hb; replace HB := Aside0.mk (below_step (bs1 HB.out GE388.out) hb); obtain ⟨Ao9, co9, eo9⟩ := Kd.R_slice HO394.out; subst eo9))
 go_loopg [5, 16] k (fun kq v5 v16 w' => ∃ (x4_1 : List Int) (x5_1 : Int) (x16_1 : Int), v5 = .int .i64 x5_1 ∧ v16 = .int .i64 x16_1 ∧ Aside0 (impl_Meander_curves.l0 kq x4_1 x5_1 (t392.length : Int) x16_1 l0_0 l0_1 = some (r1, r2)) ∧ Aside0 (kq ≤ k) ∧ Aside0 (Kd.R (Kd.int .i64) 3 w' w.heap.size (fun _ => True) (.slice Ao9 t392.length co9) x4_1) ∧ Aside0 (w'.heap[gb388]? = some (.cells #[(.slice A0_0 l0_0.length c0_0), (.slice A0_1 l0_1.length c0_1)] 71 (0, 0))) ∧ Aside0 (Below w.heap.size w w'))
 case atStart => exact ⟨(t392), (0), (0), (sr2), (sr2), H', ⟨Nat.le_refl _⟩, ⟨rR (Kd.R_mono HO394.out (fun _ hk => trivial))⟩, ⟨by (with_reducible repeat (first | refine blk_drewN ?_ _ | refine blk_drew ?_ | refine blk_alloc ?_ _)); exact BK388.out⟩, ⟨bs1 HB.out GE388.out⟩⟩
 case round =>
  clear H'; obtain ⟨x4_1, x5_1, x16_1, rfl, rfl, HA, HK1, HO_4, BK388, HB⟩ := hrel; have hl4_1 := (Kd.R_reads' HO_4.out).1; rw [hl4_1] at HO_4; (try simp only [hl4_1]); (try simp only [hl4_1] at BK388)
  cases gk with
  | zero => exact absurd HA.out (by simp [impl_Meander_curves.l0])
  | succ k1 =>
   have H := HA.out; clear HA; simp only [impl_Meander_curves.l0] at H
   by_cases c10 : x16_1 < (t392.length : Int)
   ·rw [if_pos c10] at H; have c10b0 := decide_eq_true c10; clear c10; (try simp only [hl4_1] at c10b0)
    by_cases c11 : 0 ≤ x16_1
    ·rw [if_pos c11] at H; have c11b0 := decide_eq_true c11; clear c11; (try simp only [hl4_1] at c11b0)
     by_cases c12 : x16_1 < (x4_1.length : Int)
     ·rw [if_pos c12] at H; have c12b0 := decide_eq_true c12; clear c12; (try simp only [hl4_1] at c12b0)
      by_cases c13 : (rd x4_1 x16_1) ≥ 0
      ·rw [if_pos c13] at H; have c13b0 := decide_eq_true c13; clear c13; (try simp only [hl4_1] at c13b0); have H' := Aside0.mk H; clear H; obtain ⟨ad395, e395, hx395_0, p395, q395⟩ := atI (Kd.R_reads' HO_4.out).2.2 x16_1; cases e395; go_wp2; (try simp only [← hl4_1])
       go_roundg k1
       case measure => have := HK1.out; omega
       case rel => exact ⟨(x4_1), (x5_1), (wrap64 (x16_1 + 1)), (sr2), (sr2), H', ⟨by have := HK1.out; omega⟩, ⟨by (try simp only [hl4_1]); (with_reducible repeat (first | apply Kd.R_alloc | apply Kd.R_drewN | apply Kd.R_drew)); exact HO_4.out⟩, ⟨by (try simp only [hl4_1]); (with_reducible repeat (first | refine blk_drewN ?_ _ | refine blk_drew ?_ | refine blk_alloc ?_ _)); exact BK388.out⟩, ⟨bs1 HB.out GE388.out⟩⟩
      rw [if_neg c13] at H; have c13b0 := decide_eq_false c13; clear c13; (try simp only [hl4_1] at c13b0); obtain ⟨t396, A14, H⟩ := bi H; (try dsimp only at H); have H' := Aside0.mk H; clear H; obtain ⟨ad395, e395, hx395_0, p395, q395⟩ := atI (Kd.R_reads' HO_4.out).2.2 x16_1; cases e395; have hcz15_0 : wr.cell? ⟨gb388, 0, none⟩ = some (.slice A0_0 l0_0.length c0_0) := (blk_cell BK388.out 0).trans rfl; have hcz15_1 : wr.cell? ⟨gb388, 1, none⟩ = some (.slice A0_1 l0_1.length c0_1) := (blk_cell BK388.out 1).trans rfl; have hfz15_0 := blk_frozen BK388.out 0; have hfz15_1 := blk_frozen BK388.out 1; go_wp2_with (first | (go_at_call 105; (with_reducible refine (impl_Meander_way.calls k1 _ _ l0_0 _ _ l0_1 x16_1 t396 _ ?side1 ?side2 ?side3 HC0_1.out A14.out).mono ?_); (case side1 => exact cw (Kd.C_below HR0_0.out HB.out)); (case side2 => exact HC0_0.out); (case side3 => exact cw (Kd.C_below HR0_1.out HB.out)); rintro e w16 ⟨v397, rfl, ho0, hb⟩; have HO398 := Aside0.mk (Kd.R_lower (Kd.R_new' ho0 (Kd.R_lt (rR HO_4.out))) (below_size (bs1 HB.out GE388.out))); replace HO_4 := Aside0.mk (Kd.R_elder' (rR HO_4.out) (Kd.R_base ho0) hb); replace BK388 := bkb BK388 hb; replace HB := Aside0.mk (below_step (bs1 HB.out GE388.out) hb); obtain ⟨Ao17, co17, eo17⟩ := Kd.R_slice HO398.out; subst eo17))
      go_loopg [28] k1 (fun kq v28 w' => ∃ (x4_2 : List Int) (x28_2 : Int), v28 = .int .i64 x28_2 ∧ Aside0 (impl_Meander_curves.l1 kq x4_2 x5_1 (t392.length : Int) x16_1 t396 (t396.length : Int) x28_2 l0_0 l0_1 = some (r1, r2)) ∧ Aside0 (kq ≤ k1) ∧ Aside0 (Kd.R (Kd.int .i64) 3 w' w.heap.size (fun k_ => some k_ ≠ ((.slice Ao17 t396.length co17) : Value).ownBlock) (.slice (some ad395) x4_1.length co9) x4_2) ∧ Aside0 (Kd.R (Kd.int .i64) 3 w' w.heap.size (fun k_ => some k_ ≠ ((.slice (some ad395) x4_1.length co9) : Value).ownBlock) (.slice Ao17 t396.length co17) t396) ∧ Aside0 (w'.heap[gb388]? = some (.cells #[(.slice A0_0 l0_0.length c0_0), (.slice A0_1 l0_1.length c0_1)] 71 (0, 0))) ∧ Aside0 (Below w.heap.size w w'))
      case atStart => exact ⟨(x4_1), (0), (sr2), H', ⟨Nat.le_refl _⟩, ⟨by (try simp only [hl4_1]); (with_reducible repeat (first | apply Kd.R_alloc | apply Kd.R_drewN | apply Kd.R_drew)); exact Kd.R_mono HO_4.out (fun _ hk => hk.2)⟩, ⟨by (try simp only [hl4_1]); (with_reducible repeat (first | apply Kd.R_alloc | apply Kd.R_drewN | apply Kd.R_drew)); exact Kd.R_mono HO398.out (fun _ hk => hk.2)⟩, ⟨by (try simp only [hl4_1]); (with_reducible repeat (first | refine blk_drewN ?_ _ | refine blk_drew ?_ | refine blk_alloc ?_ _)); exact BK388.out⟩, ⟨bs1 HB.out GE388.out⟩⟩
      case round =>
       clear H'; obtain ⟨x4_2, x28_2, rfl, HA, HK2, HO_4, HO_26, BK388, HB⟩ := hrel; have hl4_2 := (Kd.R_reads' HO_4.out).1; rw [hl4_2] at HO_4; (try simp only [hl4_2]); (try simp only [hl4_2] at BK388); (try simp only [hl4_2] at HO_26)
       cases gk with
       | zero => exact absurd HA.out (by simp [impl_Meander_curves.l1])
       | succ k2 =>
        have H := HA.out; clear HA; simp only [impl_Meander_curves.l1] at H
        by_cases c18 : x28_2 < (t396.length : Int)
        ·rw [if_pos c18] at H; have c18b0 := decide_eq_true c18; clear c18; (try simp only [hl4_1, hl4_2] at c18b0)
         by_cases c19 : 0 ≤ x28_2
         ·rw [if_pos c19] at H; have c19b0 := decide_eq_true c19; clear c19; (try simp only [hl4_1, hl4_2] at c19b0)
          by_cases c20 : x28_2 < (t396.length : Int)
          ·rw [if_pos c20] at H; have c20b0 := decide_eq_true c20; clear c20; (try simp only [hl4_1, hl4_2] at c20b0)
           by_cases c21 : 0 ≤ (rd t396 x28_2)
           ·rw [if_pos c21] at H; have c21b0 := decide_eq_true c21; clear c21; (try simp only [hl4_1, hl4_2] at c21b0)
            by_cases c22 : (rd t396 x28_2) < (x4_2.length : Int)
            ·rw [if_pos c22] at H; have c22b0 := decide_eq_true c22; clear c22; (try simp only [hl4_1, hl4_2] at c22b0); obtain ⟨y400, hy400⟩ := yy (x4_2.set ((rd t396 x28_2) : Int).toNat x5_1)
             (try rw [Option.bind_some] at H); (try dsimp only at H); rw [← hy400] at H
             have Ny400 := Aside0.mk hy400; clear hy400; have H' := Aside0.mk H; clear H; obtain ⟨ad399, e399, hx399_0, p399, q399⟩ := atI (Kd.R_reads' HO_26.out).2.2 x28_2; cases e399; have p23 : 0 ≤ ((rd t396 x28_2) : Int) := od; have q23 : ((rd t396 x28_2) : Int) < ((x4_2.length : Int) : Int) := od; obtain ⟨go23, co23, eo23, gb23, gl23, cl23, HG23⟩ := Kd.R_form HO_4.out (by omega); (first | cases eo23 | (injection eo23 with ea_ en_ ec_; (first | subst ea_ | (injection ea_ with ea_; subst ea_)); subst ec_; clear en_)); have GB23 := Aside0.mk gb23; have GG23 := Aside0.mk HG23; clear gb23 gl23 HG23; (first | simp only [add_plain] at hx395_0 | skip); obtain ⟨hx23_0, hf23_0⟩ := Kd.R_celln 0 HO_4.out ((rd t396 x28_2) : Int) p23 q23; replace p23 := eq_true p23; replace q23 := eq_true q23; have HP24 := Kd.R_putg HO_4.out ((rd t396 x28_2) : Int) x5_1; go_wp2_with (first | ((with_reducible refine gate_store (t := 3) (p := 35) rfl ?_); refine store_event (t := 3) (p := 35) (v := ?vo_w25) (w1 := (wr.setCell ⟨go23, ((rd t396 x28_2) : Int).toNat, none⟩ (.int .i64 x5_1))) ?hg ?ho ?hn ?hr ?_; (case ho => rfl); (case hg => rfl); (case hn => rfl); (case hr => first | (go_simp; done) | (go_simp; rfl)); intro w25 hw; have hg : wr.grownBy w25 (some go23) := (by rw [hw]; exact HP24.2); have hp_ : Kd.R (Kd.int .i64) 3 w25 w.heap.size (fun k_ => some k_ ≠ (.slice (some ad399) t396.length co17 : Value).ownBlock) (.slice (some ⟨go23, 0, none⟩) x4_2.length co9) y400 := (by rw [hw, Ny400.out]; exact HP24.1); clear HP24; replace HO_26 := Aside0.mk (Kd.R_after (v := (.slice (some ⟨go23, 0, none⟩) x4_2.length co9)) (v1 := (.slice (some ⟨go23, 0, none⟩) x4_2.length co9)) (ok := (fun _ => True)) (rR (Kd.R_mono HO_26.out (fun _ hk => ⟨trivial, hk⟩))) hg (.inl rfl)); replace BK388 := Aside0.mk (blk_grown (bk BK388.out) hg (Kd.R_ne HO_4.out BK388.out (by decide))); replace HO_4 := Aside0.mk (hp_); replace HB := Aside0.mk ((by rw [hw]; exact below_set (HB.out) GB23.out : Below w.heap.size w w25)); clear hg hw hp_)); (try simp only [← hl4_2])
             go_roundg k2
             case measure => have := HK1.out; have := HK2.out; omega
             case rel => exact ⟨(y400), (wrap64 (x28_2 + 1)), (sr2), H', ⟨by have := HK1.out; have := HK2.out; omega⟩, ⟨by (try simp only [hl4_1]); (try simp only [hl4_2]); (with_reducible repeat (first | apply Kd.R_alloc | apply Kd.R_drewN | apply Kd.R_drew)); exact HO_4.out⟩, ⟨by (try simp only [hl4_1]); (try simp only [hl4_2]); (with_reducible repeat (first | apply Kd.R_alloc | apply Kd.R_drewN | apply Kd.R_drew)); exact Kd.R_mono HO_26.out (fun _ hk => hk.2)⟩, ⟨by (try simp only [hl4_1]); (try simp only [hl4_2]); (with_reducible repeat (first | refine blk_drewN ?_ _ | refine blk_drew ?_ | refine blk_alloc ?_ _)); exact BK388.out⟩, ⟨bs1 HB.out GE388.out⟩⟩
            rw [if_neg c22] at H; exact absurd H (by simp)
           rw [if_neg c21] at H; exact absurd H (by simp)
          rw [if_neg c20] at H; exact absurd H (by simp)
         rw [if_neg c19] at H; exact absurd H (by simp)
        rw [if_neg c18] at H; have c18b0 := decide_eq_false c18; clear c18; (try simp only [hl4_1, hl4_2] at c18b0); have H' := Aside0.mk H; clear H; go_wp2; (try simp only [← hl4_1, ← hl4_2])
        go_roundg k2
        case measure => have := HK1.out; have := HK2.out; omega
        case rel => exact ⟨(x4_2), (wrap64 (x5_1 + 1)), (wrap64 (x16_1 + 1)), (sr2), (sr2), H', ⟨by have := HK1.out; have := HK2.out; omega⟩, ⟨by (try simp only [hl4_1]); (try simp only [hl4_2]); (with_reducible repeat (first | apply Kd.R_alloc | apply Kd.R_drewN | apply Kd.R_drew)); exact Kd.R_mono HO_4.out (fun _ hk => trivial)⟩, ⟨by (try simp only [hl4_1]); (try simp only [hl4_2]); (with_reducible repeat (first | refine blk_drewN ?_ _ | refine blk_drew ?_ | refine blk_alloc ?_ _)); exact BK388.out⟩, ⟨bs1 HB.out GE388.out⟩⟩
     rw [if_neg c12] at H; exact absurd H (by simp)
    rw [if_neg c11] at H; exact absurd H (by simp)
   rw [if_neg c10] at H; have c10b0 := decide_eq_false c10; clear c10; (try simp only [hl4_1] at c10b0); simp only [Option.some.injEq, Prod.mk.injEq] at H; obtain ⟨rfl, rfl⟩ := H; go_wp2; go_ret2; exact ⟨_, sr, rR HO_4.out, bs1 HB.out GE388.out⟩
/-! ### impl_Meander_components: function 82 -/
def impl_Meander_components.f (k : Nat) (l0_0 : List Int) (l0_1 : List Int) : Option (Int) := (impl_Meander_curves.f k l0_0 l0_1).bind fun bt402 => (some bt402.2)
theorem impl_Meander_components.mono : ∀ a0 a1 k, LeO (impl_Meander_components.f k a0 a1) (impl_Meander_components.f (k + 1) a0 a1) := by
 intro a0 a1 k; unfold impl_Meander_components.f
 repeat' first
   | (with_reducible exact impl_Meander_curves.mono _ _ _)
   | (with_reducible exact LeO.refl _)
   | (with_reducible exact LeO.none _)
   | (with_reducible refine LeO.ite ?_ ?_)
   | (with_reducible refine LeO.bind ?_ (fun _ => ?_))
   | exact impl_Meander_curves.mono _ _ _
   | exact LeO.none _
   | refine LeO.ite ?_ ?_
   | refine LeO.bind ?_ (fun _ => ?_)
theorem impl_Meander_components.calls (k : Nat) (A0_0 : Option Addr) (c0_0 : Nat) (l0_0 : List Int) (A0_1 : Option Addr) (c0_1 : Nat) (l0_1 : List Int) (r : Int) (w : World) (hr0_0 : Kd.C (Kd.int .i64) w A0_0 l0_0.length l0_0) (hc0_0 : l0_0.length ≤ c0_0) (hr0_1 : Kd.C (Kd.int .i64) w A0_1 l0_1.length l0_1) (hc0_1 : l0_1.length ≤ c0_1) (h : impl_Meander_components.f k l0_0 l0_1 = some r) :
  Calls Try.prog 82 #[.agg #[.slice A0_0 l0_0.length c0_0, .slice A0_1 l0_1.length c0_1]] w fun e w' => e = .returned (.int .i64 r) ∧ Below w.heap.size w w' := by
 have hu71 := Try.underlying71; have HR0_0 := Aside0.mk hr0_0; have HC0_0 := Aside0.mk hc0_0; clear hr0_0 hc0_0; have HR0_1 := Aside0.mk hr0_1; have HC0_1 := Aside0.mk hc0_1; clear hr0_1 hc0_1; have HB := Aside0.mk (Below.refl w.heap.size w); have H : ((impl_Meander_curves.f k l0_0 l0_1).bind fun bt402 => (some bt402.2)) = some r := h; clear h; obtain ⟨⟨t402, t405⟩, A2, H⟩ := bi H; (try dsimp only at H); obtain rfl := Option.some.inj H; go_enter Try.func82, Try.ntmps82; go_wp2_with (first | ((with_reducible refine gate_dst (N := 1) rfl ?_); refine box_event ?hg (N := 1) ?hd (cs := #[.slice A0_0 l0_0.length c0_0, .slice A0_1 l0_1.length c0_1]) (t := 71) ?hr ?_; (case hd => rfl); (case hg => rfl); (case hr => first | (go_simp; done) | (go_simp; rfl)); intro gb401 hg w3 hbox hb; have BK401 := Aside0.mk (hbox); have GW401 := Aside0.mk ((by rw [hg]; exact (below_size (bl HB.out)) : w.heap.size ≤ gb401)); have GE401 := Aside0.mk ((by rw [hg]; exact (below_size (bl HB.out)) : w.heap.size ≤ gb401)); replace HB := bst HB hb; clear hb hbox hg; have hcz4_0 : w3.cell? ⟨gb401, 0, none⟩ = some (.slice A0_0 l0_0.length c0_0) := (blk_cell BK401.out 0).trans rfl; have hcz4_1 : w3.cell? ⟨gb401, 1, none⟩ = some (.slice A0_1 l0_1.length c0_1) := (blk_cell BK401.out 1).trans rfl; have hfz4_0 := blk_frozen BK401.out 0; have hfz4_1 := blk_frozen BK401.out 1) | (go_at_call 98; (with_reducible refine (impl_Meander_curves.calls k _ _ l0_0 _ _ l0_1 t402 t405 _ ?side1 ?side2 ?side3 HC0_1.out A2.out).mono ?_); (case side1 => exact cw (Kd.C_below HR0_0.out HB.out)); (case side2 => exact HC0_0.out); (case side3 => exact cw (Kd.C_below HR0_1.out HB.out)); rintro e w5 ⟨v403, rfl, ho0, hb⟩; have HO404 := Aside0.mk (Kd.R_lower ho0 (below_size (bs1 HB.out GE401.out))); replace BK401 := bkb BK401 hb; replace HB := Aside0.mk (below_step (bs1 HB.out GE401.out) hb))); go_ret; exact ⟨sr, bs1 HB.out GE401.out⟩
/-! ### slices_Clone_int_int: function 97 -/
def slices_Clone_int_int.f (l0 : List Int) : Option (List Int) := if l0.length < 17592186044416 then some l0 else none
theorem slices_Clone_int_int.calls (A0 : Option Addr) (c0 : Nat) (l0 : List Int) (r : List Int) (w : World) (hr0 : Kd.C (Kd.int .i64) w A0 l0.length l0) (hc0 : l0.length ≤ c0) (h : slices_Clone_int_int.f l0 = some r) :
  Calls Try.prog 97 #[.slice A0 l0.length c0] w fun e w' => ∃ v0_ : Value, e = .returned (v0_) ∧ Kd.R (Kd.int .i64) 3 w' w.heap.size (fun _ => True) v0_ r ∧ Below w.heap.size w w' := by
 have HR0 := Aside0.mk hr0; have HC0 := Aside0.mk hc0; have HB := Aside0.mk (Below.refl w.heap.size w)
 have hlen : l0.length < 17592186044416 ∧ l0 = r := by
  unfold slices_Clone_int_int.f at h
  split at h
  ·exact ⟨by assumption, by injection h⟩
  cases h
 obtain ⟨hl, rfl⟩ := hlen; have LM := Aside0.mk hl; clear h hl
 cases A0 with
 | none =>
  have e0 : l0 = [] := by
   cases l0 with
   | nil => rfl
   | cons x t => obtain ⟨ad, e, _⟩ := hr0.2.2 (by simp); cases e
  clear hr0 hc0; subst e0; have q22 : ∀ (w : World) (a : Option Addr) (n c n' c' : Nat), (binOp .eql 35 (.slice a n c) (.slice none n' c')).run Try.prog w = .ok (.bool a.isNone) w := fun w a n c n' c' => Go.Lib.run_eql_slice_nil w _ _ a n c n' c' Try.underlying35; go_enter Try.func97, Try.ntmps97; go_wp2; go_ret; exact ⟨_, rfl, Kd.R_nil _ _ _ _ _, Below.refl _ _⟩
 | some a0 =>
  clear hr0 hc0; obtain ⟨y0, hy0⟩ := yy ([] : List Int); have N0 := Aside0.mk hy0; have LN := Aside0.mk (show (y0 ++ l0) = l0 by rw [hy0]; rfl); clear hy0; have q22 : ∀ (w : World) (a : Option Addr) (n c n' c' : Nat), (binOp .eql 35 (.slice a n c) (.slice none n' c')).run Try.prog w = .ok (.bool a.isNone) w := fun w a n c n' c' => Go.Lib.run_eql_slice_nil w _ _ a n c n' c' Try.underlying35; go_enter Try.func97, Try.ntmps97; go_wp2_with (first | ((with_reducible refine gate_dst (N := 5) rfl ?_); refine Kd.R_lit (Kd.int .i64) _ 3 ?hg (N := 5) ?hd (xs := ([] : List Int)) (inner := []) (ok := fun _ => True) (okp := fun _ => True) ?hr ?hp (fun _ hk => hk) trivial (Below.refl _ _) (Nat.le_refl _) (by simp) ?_; (case hd => rfl); (case hg => rfl); (case hr => first | (go_simp; done) | (go_simp; rfl)); (case hp => exact (Reps.none _ _)); intro v126 w3 ho4 hb hg_ hnew_; clear hg_ hnew_; rw [← N0.out] at ho4; have HO127 := Aside0.mk (Kd.R_lower ho4 (below_size (bl HB.out))); replace HB := bst HB hb; clear hb ho4) | ((with_reducible refine gate_builtin (b := .append) (xs := #[.tmp 5, .tmp 6]) rfl ?_); at_builtin; refine Kd.R_append_rows (Kd.int .i64) (w0 := w) w.heap.size rfl (.tmp 5) (.tmp 6) 35 3 (.int .i64 0) 8 rfl Try.underlying35 info3 rfl (by decide) (by omega) v126 y0 l0 _ _ _ (fun _ => True) (fun _ => False) rfl rfl ?aO ?aR (fun _ _ h => h) (fun _ h => h.elim) ?aF ?aB ?aS (by have := LM.out; have h0 := N0.out; simp only [h0, List.length_nil]; omega) ?_; (case aR => exact cw (Kd.C_below HR0.out HB.out)); (case aB => exact (bl HB.out)); (case aF => exact (fun _ _ => trivial)); (case aO => exact (rR HO127.out)); (case aS => exact (below_size (bl HB.out))); intro v129 w5 ho hb hg hat; rw [LN.out] at ho; replace HB := Aside0.mk (hb); have HO130 := Aside0.mk (ho); clear HO127; clear ho hb hg hat)); go_ret; exact ⟨_, rfl, rR HO130.out, bl HB.out⟩
end Go.Proofs.Ytbphdjnainlbhaa.R
