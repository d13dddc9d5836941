/- The law FnFoldingsCounted, walked by hand over our printed contracts, one theorem a way through it (printed by wip/great, a program of ours). What each way asks for is told by plain lists; no condition but the law's own guards. -/
import Derived.Test.YtjgkcknopnollaaGreatChain
import Derived.Test.YtjgkcknopnollaaGreatQA2
set_option linter.unusedVariables false
set_option linter.unusedSimpArgs false
namespace Go.Proofs.YtjgkcknopnollaaGreat.C
open Go.RowKit Go.Proofs.YtjgkcknopnollaaGreat.Chain Go.Proofs.YtjgkcknopnollaaGreatW.PrintWords Go.Proofs.YtjgkcknopnollaaGreatW.PrintLast Go.Proofs.YtjgkcknopnollaaGreatW.PrintMore

def c_big.Told (k : Nat) (l0 : List Int) (l1 : List Int) : Prop := (laws_big.f l0 l1 = some true)
set_option maxHeartbeats 16000000 in
set_option maxRecDepth 100000 in
theorem c_big (k : Nat) (l0 : List Int) (l1 : List Int) (A0 : Option Addr) (c0 : Nat) (A1 : Option Addr) (c1 : Nat) (w : World) (hr0 : Kd.C (Kd.int .u8) w A0 l0.length l0) (hc0 : l0.length ≤ c0) (hr1 : Kd.C (Kd.int .u8) w A1 l1.length l1) (hc1 : l1.length ≤ c1)
    (HF : (laws_big.f l0 l1 = some true)) :
    Calls Tryz.prog 3 #[.slice A0 l0.length c0, .slice A1 l1.length c1] w fun e w' => e = .returned (.bool true) ∧ Below w.heap.size w w' := by
  have F1 := HF
  have HP0 := Aside0.mk (show l0.length = l0.length ∧ l0.length ≤ c0 ∧ _ from ⟨rfl, hc0, hr0⟩)
  clear hr0 hc0
  have HP1 := Aside0.mk (show l1.length = l1.length ∧ l1.length ≤ c1 ∧ _ from ⟨rfl, hc1, hr1⟩)
  clear hr1 hc1
  have AF1 := Aside0.mk F1
  clear F1
  have HC := Aside0.mk (show Ch [] w from trivial)
  have K0 := Aside0.mk True.intro
  go_enter Tryz.func3, Tryz.ntmps3
  go_wp2_with (first
    | (go_at_call 5; clear K0; (with_reducible refine (laws_big.calls _ _ l0 _ _ l1 true _ HP0.out.2.2 HP0.out.2.1 HP1.out.2.2 HP1.out.2.1 AF1.out).mono ?_); rintro e w1_ ⟨rfl, hd⟩; have hb := drawn_below hd; clear hd; replace HC := stp HC hb; clear hb; have K1 := tt_))
  go_ret
  exact ⟨rfl, HC.out.hd⟩
def c_false_false_false.Told (k : Nat) (l0 : List Int) (l1 : List Int) : Prop := ∃ (n : Int) (all : List (List Int)) (m : Int) (top : List (List Int)) (tb : Bool) (tc : Int) (tw : Int) (x : List Int) (s_ : ByteArray) (t : ByteArray) (y : List Int), (laws_big.f l0 l1 = some false) ∧ (spec_DrawAllFoldings.f l0 = some n) ∧ (impl_AllFoldings.f k n = some (all, false)) ∧ (spec_AllFoldings.f k n = some (all, false)) ∧ (laws_yRows.f k all all = some true) ∧ (spec_DrawFoldingsOnTop.f l1 = some m) ∧ (impl_FoldingsOnTop.f k m = some (top, tb)) ∧ (spec_FoldingsOnTop.f k m = some (top, tb)) ∧ (impl_CountOnTop.f k m = some (tc, tb)) ∧ (spec_CountOnTop.f k m = some (tc, tb)) ∧ (impl_CountFoldings.f k m = some (tw, tb)) ∧ (spec_CountFoldings.f k m = some (tw, tb)) ∧ (laws_yRows.f k top top = some true) ∧ ((top.length : Int) = tc) ∧ (top.length ≤ 2000 ∧ ∀ j : Nat, j < top.length → 0 < (rd_L3 top (j : Int)).length ∧ rd (rd_L3 top (j : Int)) 0 = 0) ∧ (spec_DrawFoldingText.f k l1 = some x) ∧ (impl_FoldingText.f k x = some (s_, false)) ∧ (spec_FoldingText.f k x = some (s_, false)) ∧ (spec_DrawParseFolding.f k l1 = some t) ∧ (impl_ParseFolding.f k t = some (y, false)) ∧ (spec_ParseFolding.f k t = some (y, false)) ∧ (laws_ySame.f k y y = some true)
set_option maxHeartbeats 16000000 in
set_option maxRecDepth 100000 in
theorem c_false_false_false (k : Nat) (l0 : List Int) (l1 : List Int) (A0 : Option Addr) (c0 : Nat) (A1 : Option Addr) (c1 : Nat) (n : Int) (all : List (List Int)) (m : Int) (top : List (List Int)) (tb : Bool) (tc : Int) (tw : Int) (x : List Int) (s_ : ByteArray) (t : ByteArray) (y : List Int) (w : World) (hr0 : Kd.C (Kd.int .u8) w A0 l0.length l0) (hc0 : l0.length ≤ c0) (hr1 : Kd.C (Kd.int .u8) w A1 l1.length l1) (hc1 : l1.length ≤ c1)
    (HF : (laws_big.f l0 l1 = some false) ∧ (spec_DrawAllFoldings.f l0 = some n) ∧ (impl_AllFoldings.f k n = some (all, false)) ∧ (spec_AllFoldings.f k n = some (all, false)) ∧ (laws_yRows.f k all all = some true) ∧ (spec_DrawFoldingsOnTop.f l1 = some m) ∧ (impl_FoldingsOnTop.f k m = some (top, tb)) ∧ (spec_FoldingsOnTop.f k m = some (top, tb)) ∧ (impl_CountOnTop.f k m = some (tc, tb)) ∧ (spec_CountOnTop.f k m = some (tc, tb)) ∧ (impl_CountFoldings.f k m = some (tw, tb)) ∧ (spec_CountFoldings.f k m = some (tw, tb)) ∧ (laws_yRows.f k top top = some true) ∧ ((top.length : Int) = tc) ∧ (top.length ≤ 2000 ∧ ∀ j : Nat, j < top.length → 0 < (rd_L3 top (j : Int)).length ∧ rd (rd_L3 top (j : Int)) 0 = 0) ∧ (spec_DrawFoldingText.f k l1 = some x) ∧ (impl_FoldingText.f k x = some (s_, false)) ∧ (spec_FoldingText.f k x = some (s_, false)) ∧ (spec_DrawParseFolding.f k l1 = some t) ∧ (impl_ParseFolding.f k t = some (y, false)) ∧ (spec_ParseFolding.f k t = some (y, false)) ∧ (laws_ySame.f k y y = some true)) :
    Calls Tryz.prog 3 #[.slice A0 l0.length c0, .slice A1 l1.length c1] w fun e w' => e = .returned (.bool true) ∧ Below w.heap.size w w' := by
  obtain ⟨F1, F2, F3, F4, F5, F6, F7, F8, F9, F10, F11, F12, F13, HTc, HTop, F16, F17, F18, F19, F20, F21, F22⟩ := HF
  have HP0 := Aside0.mk (show l0.length = l0.length ∧ l0.length ≤ c0 ∧ _ from ⟨rfl, hc0, hr0⟩)
  clear hr0 hc0
  have HP1 := Aside0.mk (show l1.length = l1.length ∧ l1.length ≤ c1 ∧ _ from ⟨rfl, hc1, hr1⟩)
  clear hr1 hc1
  have AF1 := Aside0.mk F1
  clear F1
  have AF2 := Aside0.mk F2
  clear F2
  have AF3 := Aside0.mk F3
  clear F3
  have AF4 := Aside0.mk F4
  clear F4
  have AF5 := Aside0.mk F5
  clear F5
  have AF6 := Aside0.mk F6
  clear F6
  have AF7 := Aside0.mk F7
  clear F7
  have AF8 := Aside0.mk F8
  clear F8
  have AF9 := Aside0.mk F9
  clear F9
  have AF10 := Aside0.mk F10
  clear F10
  have AF11 := Aside0.mk F11
  clear F11
  have AF12 := Aside0.mk F12
  clear F12
  have AF13 := Aside0.mk F13
  clear F13
  have AHTc := Aside0.mk HTc
  clear HTc
  have AHTop := Aside0.mk HTop
  clear HTop
  have AF16 := Aside0.mk F16
  clear F16
  have AF17 := Aside0.mk F17
  clear F17
  have AF18 := Aside0.mk F18
  clear F18
  have AF19 := Aside0.mk F19
  clear F19
  have AF20 := Aside0.mk F20
  clear F20
  have AF21 := Aside0.mk F21
  clear F21
  have AF22 := Aside0.mk F22
  clear F22
  have b4 : (tb != tb) = false := bne_self_eq_false tb
  have b5 : (tc != tc) = false := bne_self_eq_false tc
  have b6 : (tw != tw) = false := bne_self_eq_false tw
  have b7 : ((top.length : Int) != tc) = false := by rw [AHTc.out]; exact bne_self_eq_false _
  have b8 : (s_.toList != s_.toList) = false := bne_self_eq_false _
  have b9 : (t.toList == t.toList) = true := beq_self_eq_true _
  have HC := Aside0.mk (show Ch [] w from trivial)
  have K0 := Aside0.mk True.intro
  go_enter Tryz.func3, Tryz.ntmps3
  go_wp2_with (first
    | (go_at_call 9; clear K12; (with_reducible refine (laws_yRows.calls k _ _ top _ _ top true _ (Kd.C_below CF6_0.out.2.2 HC.out.t4.hd) CF6_0.out.2.1 (Kd.C_below CF7_0.out.2.2 HC.out.tl.tl.tl.hd) CF7_0.out.2.1 AF13.out).mono ?_); rintro e w13_ ⟨rfl, hd⟩; have hb := drawn_below hd; clear hd; replace HC := stp HC hb; clear hb; have K13 := tt_)
    | (go_at_call 19; clear K11; (with_reducible refine (spec_CountFoldings.calls k m tw tb _ AF12.out).mono ?_); rintro e w12_ ⟨rfl, hb⟩; replace HC := stp HC hb; clear hb; have K12 := tt_)
    | (go_at_call 10; clear K10; (with_reducible refine (impl_CountFoldings.calls k m tw tb _ AF11.out).mono ?_); rintro e w11_ ⟨rfl, hb⟩; replace HC := stp HC hb; clear hb; have K11 := tt_)
    | (go_at_call 18; clear K9; (with_reducible refine (spec_CountOnTop.calls k m tc tb _ AF10.out).mono ?_); rintro e w10_ ⟨rfl, hb⟩; replace HC := stp HC hb; clear hb; have K10 := tt_)
    | (go_at_call 11; clear K8; (with_reducible refine (impl_CountOnTop.calls k m tc tb _ AF9.out).mono ?_); rintro e w9_ ⟨rfl, hb⟩; replace HC := stp HC hb; clear hb; have K9 := tt_)
    | (go_at_call 17; clear K7; (with_reducible refine (spec_FoldingsOnTop.calls k m top tb _ AF8.out).mono ?_); rintro e w8_ ⟨v7_v0_, rfl, ho0, hb⟩; obtain ⟨Ar7_0, cr7_0, rfl⟩ := Kd.N_slice ho0; have CF7_0 := Aside0.mk (Kd.N_reads' ho0); replace HC := stp HC hb; clear hb ho0; have K8 := tt_)
    | (go_at_call 16; clear K6; (with_reducible refine (impl_FoldingsOnTop.calls k m top tb _ AF7.out).mono ?_); rintro e w7_ ⟨v6_v0_, rfl, ho0, hb⟩; obtain ⟨Ar6_0, cr6_0, rfl⟩ := Kd.S_slice ho0; have CF6_0 := Aside0.mk (Kd.S_reads' ho0); replace HC := stp HC hb; clear hb ho0; have K7 := tt_)
    | (go_at_call 15; clear K5; (with_reducible refine (spec_DrawFoldingsOnTop.calls _ _ l1 m _ (Kd.C_below HP1.out.2.2 HC.out.t4.hd) HP1.out.2.1 AF6.out).mono ?_); rintro e w6_ ⟨rfl, hb⟩; replace HC := stp HC hb; clear hb; have K6 := tt_)
    | (go_at_call 9; clear K4; (with_reducible refine (laws_yRows.calls k _ _ all _ _ all true _ (Kd.C_below CF2_0.out.2.2 HC.out.hd) CF2_0.out.2.1 CF3_0.out.2.2 CF3_0.out.2.1 AF5.out).mono ?_); rintro e w5_ ⟨rfl, hd⟩; have hb := drawn_below hd; clear hd; replace HC := stp HC hb; clear hb; have K5 := tt_)
    | (go_at_call 8; clear K3; (with_reducible refine (spec_AllFoldings.calls k n all false _ AF4.out).mono ?_); rintro e w4_ ⟨v3_v0_, rfl, ho0, hb⟩; obtain ⟨Ar3_0, cr3_0, rfl⟩ := Kd.N_slice ho0; have CF3_0 := Aside0.mk (Kd.N_reads' ho0); replace HC := stp HC hb; clear hb ho0; have K4 := tt_)
    | (go_at_call 7; clear K2; (with_reducible refine (impl_AllFoldings.calls k n all false _ AF3.out).mono ?_); rintro e w3_ ⟨v2_v0_, rfl, ho0, hb⟩; obtain ⟨Ar2_0, cr2_0, rfl⟩ := Kd.S_slice ho0; have CF2_0 := Aside0.mk (Kd.S_reads' ho0); replace HC := stp HC hb; clear hb ho0; have K3 := tt_)
    | (go_at_call 6; clear K1; (with_reducible refine (spec_DrawAllFoldings.calls _ _ l0 n _ (Kd.C_below HP0.out.2.2 HC.out.hd) HP0.out.2.1 AF2.out).mono ?_); rintro e w2_ ⟨rfl, hb⟩; replace HC := stp HC hb; clear hb; have K2 := tt_)
    | (go_at_call 5; clear K0; (with_reducible refine (laws_big.calls _ _ l0 _ _ l1 false _ HP0.out.2.2 HP0.out.2.1 HP1.out.2.2 HP1.out.2.1 AF1.out).mono ?_); rintro e w1_ ⟨rfl, hd⟩; have hb := drawn_below hd; clear hd; replace HC := stp HC hb; clear hb; have K1 := tt_))
  go_loopg [225] top.length (fun kq v225 w' => ∃ (i : Nat), v225 = .int .i64 i ∧ i ≤ top.length ∧ top.length - i ≤ kq ∧ Aside0 (Below w13_.heap.size w13_ w'))
  case atStart => exact ⟨0, by go_num, Nat.zero_le _, by omega, ⟨Below.refl _ _⟩⟩
  case round =>
    obtain ⟨i, rfl, hi, hg, HBL⟩ := hrel
    replace HC := stp HC HBL.out
    have K14 := tt_
    clear K13
    by_cases hlt : i < top.length
    · have hltz : (i : Int) < (top.length : Int) := by omega
      have hlen := AHTop.out.1
      obtain ⟨ad1, Ae1, ce1, ead1, hx1, hle1, hi1⟩ := at_L3 (Kd.C_below CF6_0.out.2.2 HC.out.t4.tl.tl.hd) (i : Int) (by omega) (by omega)
      simp only [Int.toNat_natCast] at hx1
      have CE1 := Aside0.mk hi1
      have CL1 := Aside0.mk hle1
      clear hi1 hle1
      cases ead1
      obtain ⟨hpos, hz⟩ := AHTop.out.2 i hlt
      obtain ⟨ad2, ead2, hx2⟩ := Kd.at_int CE1.out 0 (by omega) (by omega)
      subst ead2
      rw [hz] at hx2
      simp only [Int.toNat_zero] at hx2
      have hx3 : wr.cell? ad2 = some (.int .i64 0) := by
        have e0 : ad2.add 0 = ad2 := by cases ad2; simp [Addr.add]
        rw [← e0]; exact hx2
      have q6 := eq_true (show (0 : Int) < ((rd_L3 top (i : Int)).length : Int) by omega)
      have q7 := eq_true hpos
      have hi1 : i + 1 ≤ top.length := hlt
      have p5 := eq_true (show 0 ≤ (i : Int) by omega)
      have q5 := eq_true hltz
      have hlb : top.length ≤ 2000 := hlen
      clear hlen hpos hz hx2
      go_wp2
      go_roundg (top.length - (i + 1))
      case measure => exact Nat.lt_of_lt_of_le (Nat.sub_lt_sub_left hlt (Nat.lt_succ_self i)) hg
      case rel => exact ⟨i + 1, by go_num, hi1, Nat.le_refl _, HBL⟩
    · have hltz : ¬ ((i : Int) < (top.length : Int)) := by omega
      obtain rfl : i = top.length := by omega
      clear hi hg HBL
      go_wp2_with (first
        | (go_at_call 24; clear K20; (with_reducible refine (laws_ySame.calls k _ _ y _ _ y true _ (Kd.C_below CF18_0.out.2.2 HC.out.hd) CF18_0.out.2.1 CF19_0.out.2.2 CF19_0.out.2.1 AF22.out).mono ?_); rintro e w21_ ⟨rfl, hd⟩; have hb := drawn_below hd; clear hd; replace HC := stp HC hb; clear hb; have K21 := tt_)
        | (go_at_call 26; clear K19; (with_reducible refine (spec_ParseFolding.calls k t y false _ AF21.out).mono ?_); rintro e w20_ ⟨v19_v0_, rfl, ho0, hb⟩; obtain ⟨Ar19_0, cr19_0, rfl⟩ := Kd.R_slice ho0; have CF19_0 := Aside0.mk (Kd.R_reads' ho0); replace HC := stp HC hb; clear hb ho0; have K20 := tt_)
        | (go_at_call 23; clear K18; (with_reducible refine (impl_ParseFolding.calls k t y false _ AF20.out).mono ?_); rintro e w19_ ⟨v18_v0_, rfl, ho0, hb⟩; obtain ⟨Ar18_0, cr18_0, rfl⟩ := Kd.R_slice ho0; have CF18_0 := Aside0.mk (Kd.R_reads' ho0); replace HC := stp HC hb; clear hb ho0; have K19 := tt_)
        | (go_at_call 25; clear K17; (with_reducible refine (spec_DrawParseFolding.calls k _ _ l1 t _ (Kd.C_below HP1.out.2.2 HC.out.t16.hd) HP1.out.2.1 AF19.out).mono ?_); rintro e w18_ ⟨rfl, hb⟩; replace HC := stp HC hb; clear hb; have K18 := tt_)
        | (go_at_call 22; clear K16; (with_reducible refine (spec_FoldingText.calls k _ _ x s_ false _ (Kd.C_below CF14_0.out.2.2 HC.out.hd) CF14_0.out.2.1 AF18.out).mono ?_); rintro e w17_ ⟨rfl, hb⟩; replace HC := stp HC hb; clear hb; have K17 := tt_)
        | (go_at_call 21; clear K15; (with_reducible refine (impl_FoldingText.calls k _ _ x s_ false _ CF14_0.out.2.2 CF14_0.out.2.1 AF17.out).mono ?_); rintro e w16_ ⟨rfl, hb⟩; replace HC := stp HC hb; clear hb; have K16 := tt_)
        | (go_at_call 20; clear K14; (with_reducible refine (spec_DrawFoldingText.calls k _ _ l1 x _ (Kd.C_below HP1.out.2.2 HC.out.t4.t4.t4.tl.hd) HP1.out.2.1 AF16.out).mono ?_); rintro e w15_ ⟨v14_v0_, rfl, ho0, hb⟩; obtain ⟨Ar14_0, cr14_0, rfl⟩ := Kd.R_slice ho0; have CF14_0 := Aside0.mk (Kd.R_reads' ho0); replace HC := stp HC hb; clear hb ho0; have K15 := tt_))
      go_ret
      exact ⟨rfl, HC.out.tl.tl.tl.tl.tl.tl.tl.tl.tl.tl.tl.tl.tl.tl.tl.tl.tl.tl.tl.tl.hd⟩
def c_false_false_true.Told (k : Nat) (l0 : List Int) (l1 : List Int) : Prop := ∃ (n : Int) (all : List (List Int)) (m : Int) (top : List (List Int)) (tb : Bool) (tc : Int) (tw : Int) (x : List Int) (s_ : ByteArray) (t : ByteArray) (y : List Int), (laws_big.f l0 l1 = some false) ∧ (spec_DrawAllFoldings.f l0 = some n) ∧ (impl_AllFoldings.f k n = some (all, false)) ∧ (spec_AllFoldings.f k n = some (all, false)) ∧ (laws_yRows.f k all all = some true) ∧ (spec_DrawFoldingsOnTop.f l1 = some m) ∧ (impl_FoldingsOnTop.f k m = some (top, tb)) ∧ (spec_FoldingsOnTop.f k m = some (top, tb)) ∧ (impl_CountOnTop.f k m = some (tc, tb)) ∧ (spec_CountOnTop.f k m = some (tc, tb)) ∧ (impl_CountFoldings.f k m = some (tw, tb)) ∧ (spec_CountFoldings.f k m = some (tw, tb)) ∧ (laws_yRows.f k top top = some true) ∧ ((top.length : Int) = tc) ∧ (top.length ≤ 2000 ∧ ∀ j : Nat, j < top.length → 0 < (rd_L3 top (j : Int)).length ∧ rd (rd_L3 top (j : Int)) 0 = 0) ∧ (spec_DrawFoldingText.f k l1 = some x) ∧ (impl_FoldingText.f k x = some (s_, false)) ∧ (spec_FoldingText.f k x = some (s_, false)) ∧ (spec_DrawParseFolding.f k l1 = some t) ∧ (impl_ParseFolding.f k t = some (y, true)) ∧ (spec_ParseFolding.f k t = some (y, true)) ∧ (laws_ySame.f k y y = some true) ∧ (impl_FoldingText.f k y = some (t, true))
set_option maxHeartbeats 16000000 in
set_option maxRecDepth 100000 in
theorem c_false_false_true (k : Nat) (l0 : List Int) (l1 : List Int) (A0 : Option Addr) (c0 : Nat) (A1 : Option Addr) (c1 : Nat) (n : Int) (all : List (List Int)) (m : Int) (top : List (List Int)) (tb : Bool) (tc : Int) (tw : Int) (x : List Int) (s_ : ByteArray) (t : ByteArray) (y : List Int) (w : World) (hr0 : Kd.C (Kd.int .u8) w A0 l0.length l0) (hc0 : l0.length ≤ c0) (hr1 : Kd.C (Kd.int .u8) w A1 l1.length l1) (hc1 : l1.length ≤ c1)
    (HF : (laws_big.f l0 l1 = some false) ∧ (spec_DrawAllFoldings.f l0 = some n) ∧ (impl_AllFoldings.f k n = some (all, false)) ∧ (spec_AllFoldings.f k n = some (all, false)) ∧ (laws_yRows.f k all all = some true) ∧ (spec_DrawFoldingsOnTop.f l1 = some m) ∧ (impl_FoldingsOnTop.f k m = some (top, tb)) ∧ (spec_FoldingsOnTop.f k m = some (top, tb)) ∧ (impl_CountOnTop.f k m = some (tc, tb)) ∧ (spec_CountOnTop.f k m = some (tc, tb)) ∧ (impl_CountFoldings.f k m = some (tw, tb)) ∧ (spec_CountFoldings.f k m = some (tw, tb)) ∧ (laws_yRows.f k top top = some true) ∧ ((top.length : Int) = tc) ∧ (top.length ≤ 2000 ∧ ∀ j : Nat, j < top.length → 0 < (rd_L3 top (j : Int)).length ∧ rd (rd_L3 top (j : Int)) 0 = 0) ∧ (spec_DrawFoldingText.f k l1 = some x) ∧ (impl_FoldingText.f k x = some (s_, false)) ∧ (spec_FoldingText.f k x = some (s_, false)) ∧ (spec_DrawParseFolding.f k l1 = some t) ∧ (impl_ParseFolding.f k t = some (y, true)) ∧ (spec_ParseFolding.f k t = some (y, true)) ∧ (laws_ySame.f k y y = some true) ∧ (impl_FoldingText.f k y = some (t, true))) :
    Calls Tryz.prog 3 #[.slice A0 l0.length c0, .slice A1 l1.length c1] w fun e w' => e = .returned (.bool true) ∧ Below w.heap.size w w' := by
  obtain ⟨F1, F2, F3, F4, F5, F6, F7, F8, F9, F10, F11, F12, F13, HTc, HTop, F16, F17, F18, F19, F20, F21, F22, F23⟩ := HF
  have HP0 := Aside0.mk (show l0.length = l0.length ∧ l0.length ≤ c0 ∧ _ from ⟨rfl, hc0, hr0⟩)
  clear hr0 hc0
  have HP1 := Aside0.mk (show l1.length = l1.length ∧ l1.length ≤ c1 ∧ _ from ⟨rfl, hc1, hr1⟩)
  clear hr1 hc1
  have AF1 := Aside0.mk F1
  clear F1
  have AF2 := Aside0.mk F2
  clear F2
  have AF3 := Aside0.mk F3
  clear F3
  have AF4 := Aside0.mk F4
  clear F4
  have AF5 := Aside0.mk F5
  clear F5
  have AF6 := Aside0.mk F6
  clear F6
  have AF7 := Aside0.mk F7
  clear F7
  have AF8 := Aside0.mk F8
  clear F8
  have AF9 := Aside0.mk F9
  clear F9
  have AF10 := Aside0.mk F10
  clear F10
  have AF11 := Aside0.mk F11
  clear F11
  have AF12 := Aside0.mk F12
  clear F12
  have AF13 := Aside0.mk F13
  clear F13
  have AHTc := Aside0.mk HTc
  clear HTc
  have AHTop := Aside0.mk HTop
  clear HTop
  have AF16 := Aside0.mk F16
  clear F16
  have AF17 := Aside0.mk F17
  clear F17
  have AF18 := Aside0.mk F18
  clear F18
  have AF19 := Aside0.mk F19
  clear F19
  have AF20 := Aside0.mk F20
  clear F20
  have AF21 := Aside0.mk F21
  clear F21
  have AF22 := Aside0.mk F22
  clear F22
  have AF23 := Aside0.mk F23
  clear F23
  have b4 : (tb != tb) = false := bne_self_eq_false tb
  have b5 : (tc != tc) = false := bne_self_eq_false tc
  have b6 : (tw != tw) = false := bne_self_eq_false tw
  have b7 : ((top.length : Int) != tc) = false := by rw [AHTc.out]; exact bne_self_eq_false _
  have b8 : (s_.toList != s_.toList) = false := bne_self_eq_false _
  have b9 : (t.toList == t.toList) = true := beq_self_eq_true _
  have HC := Aside0.mk (show Ch [] w from trivial)
  have K0 := Aside0.mk True.intro
  go_enter Tryz.func3, Tryz.ntmps3
  go_wp2_with (first
    | (go_at_call 9; clear K12; (with_reducible refine (laws_yRows.calls k _ _ top _ _ top true _ (Kd.C_below CF6_0.out.2.2 HC.out.t4.hd) CF6_0.out.2.1 (Kd.C_below CF7_0.out.2.2 HC.out.tl.tl.tl.hd) CF7_0.out.2.1 AF13.out).mono ?_); rintro e w13_ ⟨rfl, hd⟩; have hb := drawn_below hd; clear hd; replace HC := stp HC hb; clear hb; have K13 := tt_)
    | (go_at_call 19; clear K11; (with_reducible refine (spec_CountFoldings.calls k m tw tb _ AF12.out).mono ?_); rintro e w12_ ⟨rfl, hb⟩; replace HC := stp HC hb; clear hb; have K12 := tt_)
    | (go_at_call 10; clear K10; (with_reducible refine (impl_CountFoldings.calls k m tw tb _ AF11.out).mono ?_); rintro e w11_ ⟨rfl, hb⟩; replace HC := stp HC hb; clear hb; have K11 := tt_)
    | (go_at_call 18; clear K9; (with_reducible refine (spec_CountOnTop.calls k m tc tb _ AF10.out).mono ?_); rintro e w10_ ⟨rfl, hb⟩; replace HC := stp HC hb; clear hb; have K10 := tt_)
    | (go_at_call 11; clear K8; (with_reducible refine (impl_CountOnTop.calls k m tc tb _ AF9.out).mono ?_); rintro e w9_ ⟨rfl, hb⟩; replace HC := stp HC hb; clear hb; have K9 := tt_)
    | (go_at_call 17; clear K7; (with_reducible refine (spec_FoldingsOnTop.calls k m top tb _ AF8.out).mono ?_); rintro e w8_ ⟨v7_v0_, rfl, ho0, hb⟩; obtain ⟨Ar7_0, cr7_0, rfl⟩ := Kd.N_slice ho0; have CF7_0 := Aside0.mk (Kd.N_reads' ho0); replace HC := stp HC hb; clear hb ho0; have K8 := tt_)
    | (go_at_call 16; clear K6; (with_reducible refine (impl_FoldingsOnTop.calls k m top tb _ AF7.out).mono ?_); rintro e w7_ ⟨v6_v0_, rfl, ho0, hb⟩; obtain ⟨Ar6_0, cr6_0, rfl⟩ := Kd.S_slice ho0; have CF6_0 := Aside0.mk (Kd.S_reads' ho0); replace HC := stp HC hb; clear hb ho0; have K7 := tt_)
    | (go_at_call 15; clear K5; (with_reducible refine (spec_DrawFoldingsOnTop.calls _ _ l1 m _ (Kd.C_below HP1.out.2.2 HC.out.t4.hd) HP1.out.2.1 AF6.out).mono ?_); rintro e w6_ ⟨rfl, hb⟩; replace HC := stp HC hb; clear hb; have K6 := tt_)
    | (go_at_call 9; clear K4; (with_reducible refine (laws_yRows.calls k _ _ all _ _ all true _ (Kd.C_below CF2_0.out.2.2 HC.out.hd) CF2_0.out.2.1 CF3_0.out.2.2 CF3_0.out.2.1 AF5.out).mono ?_); rintro e w5_ ⟨rfl, hd⟩; have hb := drawn_below hd; clear hd; replace HC := stp HC hb; clear hb; have K5 := tt_)
    | (go_at_call 8; clear K3; (with_reducible refine (spec_AllFoldings.calls k n all false _ AF4.out).mono ?_); rintro e w4_ ⟨v3_v0_, rfl, ho0, hb⟩; obtain ⟨Ar3_0, cr3_0, rfl⟩ := Kd.N_slice ho0; have CF3_0 := Aside0.mk (Kd.N_reads' ho0); replace HC := stp HC hb; clear hb ho0; have K4 := tt_)
    | (go_at_call 7; clear K2; (with_reducible refine (impl_AllFoldings.calls k n all false _ AF3.out).mono ?_); rintro e w3_ ⟨v2_v0_, rfl, ho0, hb⟩; obtain ⟨Ar2_0, cr2_0, rfl⟩ := Kd.S_slice ho0; have CF2_0 := Aside0.mk (Kd.S_reads' ho0); replace HC := stp HC hb; clear hb ho0; have K3 := tt_)
    | (go_at_call 6; clear K1; (with_reducible refine (spec_DrawAllFoldings.calls _ _ l0 n _ (Kd.C_below HP0.out.2.2 HC.out.hd) HP0.out.2.1 AF2.out).mono ?_); rintro e w2_ ⟨rfl, hb⟩; replace HC := stp HC hb; clear hb; have K2 := tt_)
    | (go_at_call 5; clear K0; (with_reducible refine (laws_big.calls _ _ l0 _ _ l1 false _ HP0.out.2.2 HP0.out.2.1 HP1.out.2.2 HP1.out.2.1 AF1.out).mono ?_); rintro e w1_ ⟨rfl, hd⟩; have hb := drawn_below hd; clear hd; replace HC := stp HC hb; clear hb; have K1 := tt_))
  go_loopg [225] top.length (fun kq v225 w' => ∃ (i : Nat), v225 = .int .i64 i ∧ i ≤ top.length ∧ top.length - i ≤ kq ∧ Aside0 (Below w13_.heap.size w13_ w'))
  case atStart => exact ⟨0, by go_num, Nat.zero_le _, by omega, ⟨Below.refl _ _⟩⟩
  case round =>
    obtain ⟨i, rfl, hi, hg, HBL⟩ := hrel
    replace HC := stp HC HBL.out
    have K14 := tt_
    clear K13
    by_cases hlt : i < top.length
    · have hltz : (i : Int) < (top.length : Int) := by omega
      have hlen := AHTop.out.1
      obtain ⟨ad1, Ae1, ce1, ead1, hx1, hle1, hi1⟩ := at_L3 (Kd.C_below CF6_0.out.2.2 HC.out.t4.tl.tl.hd) (i : Int) (by omega) (by omega)
      simp only [Int.toNat_natCast] at hx1
      have CE1 := Aside0.mk hi1
      have CL1 := Aside0.mk hle1
      clear hi1 hle1
      cases ead1
      obtain ⟨hpos, hz⟩ := AHTop.out.2 i hlt
      obtain ⟨ad2, ead2, hx2⟩ := Kd.at_int CE1.out 0 (by omega) (by omega)
      subst ead2
      rw [hz] at hx2
      simp only [Int.toNat_zero] at hx2
      have hx3 : wr.cell? ad2 = some (.int .i64 0) := by
        have e0 : ad2.add 0 = ad2 := by cases ad2; simp [Addr.add]
        rw [← e0]; exact hx2
      have q6 := eq_true (show (0 : Int) < ((rd_L3 top (i : Int)).length : Int) by omega)
      have q7 := eq_true hpos
      have hi1 : i + 1 ≤ top.length := hlt
      have p5 := eq_true (show 0 ≤ (i : Int) by omega)
      have q5 := eq_true hltz
      have hlb : top.length ≤ 2000 := hlen
      clear hlen hpos hz hx2
      go_wp2
      go_roundg (top.length - (i + 1))
      case measure => exact Nat.lt_of_lt_of_le (Nat.sub_lt_sub_left hlt (Nat.lt_succ_self i)) hg
      case rel => exact ⟨i + 1, by go_num, hi1, Nat.le_refl _, HBL⟩
    · have hltz : ¬ ((i : Int) < (top.length : Int)) := by omega
      obtain rfl : i = top.length := by omega
      clear hi hg HBL
      go_wp2_with (first
        | (go_at_call 21; clear K21; (with_reducible refine (impl_FoldingText.calls k _ _ y t true _ (Kd.C_below CF18_0.out.2.2 HC.out.tl.hd) CF18_0.out.2.1 AF23.out).mono ?_); rintro e w22_ ⟨rfl, hb⟩; replace HC := stp HC hb; clear hb; have K22 := tt_)
        | (go_at_call 24; clear K20; (with_reducible refine (laws_ySame.calls k _ _ y _ _ y true _ (Kd.C_below CF18_0.out.2.2 HC.out.hd) CF18_0.out.2.1 CF19_0.out.2.2 CF19_0.out.2.1 AF22.out).mono ?_); rintro e w21_ ⟨rfl, hd⟩; have hb := drawn_below hd; clear hd; replace HC := stp HC hb; clear hb; have K21 := tt_)
        | (go_at_call 26; clear K19; (with_reducible refine (spec_ParseFolding.calls k t y true _ AF21.out).mono ?_); rintro e w20_ ⟨v19_v0_, rfl, ho0, hb⟩; obtain ⟨Ar19_0, cr19_0, rfl⟩ := Kd.R_slice ho0; have CF19_0 := Aside0.mk (Kd.R_reads' ho0); replace HC := stp HC hb; clear hb ho0; have K20 := tt_)
        | (go_at_call 23; clear K18; (with_reducible refine (impl_ParseFolding.calls k t y true _ AF20.out).mono ?_); rintro e w19_ ⟨v18_v0_, rfl, ho0, hb⟩; obtain ⟨Ar18_0, cr18_0, rfl⟩ := Kd.R_slice ho0; have CF18_0 := Aside0.mk (Kd.R_reads' ho0); replace HC := stp HC hb; clear hb ho0; have K19 := tt_)
        | (go_at_call 25; clear K17; (with_reducible refine (spec_DrawParseFolding.calls k _ _ l1 t _ (Kd.C_below HP1.out.2.2 HC.out.t16.hd) HP1.out.2.1 AF19.out).mono ?_); rintro e w18_ ⟨rfl, hb⟩; replace HC := stp HC hb; clear hb; have K18 := tt_)
        | (go_at_call 22; clear K16; (with_reducible refine (spec_FoldingText.calls k _ _ x s_ false _ (Kd.C_below CF14_0.out.2.2 HC.out.hd) CF14_0.out.2.1 AF18.out).mono ?_); rintro e w17_ ⟨rfl, hb⟩; replace HC := stp HC hb; clear hb; have K17 := tt_)
        | (go_at_call 21; clear K15; (with_reducible refine (impl_FoldingText.calls k _ _ x s_ false _ CF14_0.out.2.2 CF14_0.out.2.1 AF17.out).mono ?_); rintro e w16_ ⟨rfl, hb⟩; replace HC := stp HC hb; clear hb; have K16 := tt_)
        | (go_at_call 20; clear K14; (with_reducible refine (spec_DrawFoldingText.calls k _ _ l1 x _ (Kd.C_below HP1.out.2.2 HC.out.t4.t4.t4.tl.hd) HP1.out.2.1 AF16.out).mono ?_); rintro e w15_ ⟨v14_v0_, rfl, ho0, hb⟩; obtain ⟨Ar14_0, cr14_0, rfl⟩ := Kd.R_slice ho0; have CF14_0 := Aside0.mk (Kd.R_reads' ho0); replace HC := stp HC hb; clear hb ho0; have K15 := tt_))
      go_ret
      exact ⟨rfl, HC.out.tl.tl.tl.tl.tl.tl.tl.tl.tl.tl.tl.tl.tl.tl.tl.tl.tl.tl.tl.tl.tl.hd⟩
def c_false_true_false.Told (k : Nat) (l0 : List Int) (l1 : List Int) : Prop := ∃ (n : Int) (all : List (List Int)) (m : Int) (top : List (List Int)) (tb : Bool) (tc : Int) (tw : Int) (x : List Int) (s_ : ByteArray) (t : ByteArray) (y : List Int), (laws_big.f l0 l1 = some false) ∧ (spec_DrawAllFoldings.f l0 = some n) ∧ (impl_AllFoldings.f k n = some (all, false)) ∧ (spec_AllFoldings.f k n = some (all, false)) ∧ (laws_yRows.f k all all = some true) ∧ (spec_DrawFoldingsOnTop.f l1 = some m) ∧ (impl_FoldingsOnTop.f k m = some (top, tb)) ∧ (spec_FoldingsOnTop.f k m = some (top, tb)) ∧ (impl_CountOnTop.f k m = some (tc, tb)) ∧ (spec_CountOnTop.f k m = some (tc, tb)) ∧ (impl_CountFoldings.f k m = some (tw, tb)) ∧ (spec_CountFoldings.f k m = some (tw, tb)) ∧ (laws_yRows.f k top top = some true) ∧ ((top.length : Int) = tc) ∧ (top.length ≤ 2000 ∧ ∀ j : Nat, j < top.length → 0 < (rd_L3 top (j : Int)).length ∧ rd (rd_L3 top (j : Int)) 0 = 0) ∧ (spec_DrawFoldingText.f k l1 = some x) ∧ (impl_FoldingText.f k x = some (s_, true)) ∧ (spec_FoldingText.f k x = some (s_, true)) ∧ (impl_ParseFolding.f k s_ = some (x, true)) ∧ (laws_ySame.f k x x = some true) ∧ (spec_DrawParseFolding.f k l1 = some t) ∧ (impl_ParseFolding.f k t = some (y, false)) ∧ (spec_ParseFolding.f k t = some (y, false)) ∧ (laws_ySame.f k y y = some true)
set_option maxHeartbeats 16000000 in
set_option maxRecDepth 100000 in
theorem c_false_true_false (k : Nat) (l0 : List Int) (l1 : List Int) (A0 : Option Addr) (c0 : Nat) (A1 : Option Addr) (c1 : Nat) (n : Int) (all : List (List Int)) (m : Int) (top : List (List Int)) (tb : Bool) (tc : Int) (tw : Int) (x : List Int) (s_ : ByteArray) (t : ByteArray) (y : List Int) (w : World) (hr0 : Kd.C (Kd.int .u8) w A0 l0.length l0) (hc0 : l0.length ≤ c0) (hr1 : Kd.C (Kd.int .u8) w A1 l1.length l1) (hc1 : l1.length ≤ c1)
    (HF : (laws_big.f l0 l1 = some false) ∧ (spec_DrawAllFoldings.f l0 = some n) ∧ (impl_AllFoldings.f k n = some (all, false)) ∧ (spec_AllFoldings.f k n = some (all, false)) ∧ (laws_yRows.f k all all = some true) ∧ (spec_DrawFoldingsOnTop.f l1 = some m) ∧ (impl_FoldingsOnTop.f k m = some (top, tb)) ∧ (spec_FoldingsOnTop.f k m = some (top, tb)) ∧ (impl_CountOnTop.f k m = some (tc, tb)) ∧ (spec_CountOnTop.f k m = some (tc, tb)) ∧ (impl_CountFoldings.f k m = some (tw, tb)) ∧ (spec_CountFoldings.f k m = some (tw, tb)) ∧ (laws_yRows.f k top top = some true) ∧ ((top.length : Int) = tc) ∧ (top.length ≤ 2000 ∧ ∀ j : Nat, j < top.length → 0 < (rd_L3 top (j : Int)).length ∧ rd (rd_L3 top (j : Int)) 0 = 0) ∧ (spec_DrawFoldingText.f k l1 = some x) ∧ (impl_FoldingText.f k x = some (s_, true)) ∧ (spec_FoldingText.f k x = some (s_, true)) ∧ (impl_ParseFolding.f k s_ = some (x, true)) ∧ (laws_ySame.f k x x = some true) ∧ (spec_DrawParseFolding.f k l1 = some t) ∧ (impl_ParseFolding.f k t = some (y, false)) ∧ (spec_ParseFolding.f k t = some (y, false)) ∧ (laws_ySame.f k y y = some true)) :
    Calls Tryz.prog 3 #[.slice A0 l0.length c0, .slice A1 l1.length c1] w fun e w' => e = .returned (.bool true) ∧ Below w.heap.size w w' := by
  obtain ⟨F1, F2, F3, F4, F5, F6, F7, F8, F9, F10, F11, F12, F13, HTc, HTop, F16, F17, F18, F19, F20, F21, F22, F23, F24⟩ := HF
  have HP0 := Aside0.mk (show l0.length = l0.length ∧ l0.length ≤ c0 ∧ _ from ⟨rfl, hc0, hr0⟩)
  clear hr0 hc0
  have HP1 := Aside0.mk (show l1.length = l1.length ∧ l1.length ≤ c1 ∧ _ from ⟨rfl, hc1, hr1⟩)
  clear hr1 hc1
  have AF1 := Aside0.mk F1
  clear F1
  have AF2 := Aside0.mk F2
  clear F2
  have AF3 := Aside0.mk F3
  clear F3
  have AF4 := Aside0.mk F4
  clear F4
  have AF5 := Aside0.mk F5
  clear F5
  have AF6 := Aside0.mk F6
  clear F6
  have AF7 := Aside0.mk F7
  clear F7
  have AF8 := Aside0.mk F8
  clear F8
  have AF9 := Aside0.mk F9
  clear F9
  have AF10 := Aside0.mk F10
  clear F10
  have AF11 := Aside0.mk F11
  clear F11
  have AF12 := Aside0.mk F12
  clear F12
  have AF13 := Aside0.mk F13
  clear F13
  have AHTc := Aside0.mk HTc
  clear HTc
  have AHTop := Aside0.mk HTop
  clear HTop
  have AF16 := Aside0.mk F16
  clear F16
  have AF17 := Aside0.mk F17
  clear F17
  have AF18 := Aside0.mk F18
  clear F18
  have AF19 := Aside0.mk F19
  clear F19
  have AF20 := Aside0.mk F20
  clear F20
  have AF21 := Aside0.mk F21
  clear F21
  have AF22 := Aside0.mk F22
  clear F22
  have AF23 := Aside0.mk F23
  clear F23
  have AF24 := Aside0.mk F24
  clear F24
  have b4 : (tb != tb) = false := bne_self_eq_false tb
  have b5 : (tc != tc) = false := bne_self_eq_false tc
  have b6 : (tw != tw) = false := bne_self_eq_false tw
  have b7 : ((top.length : Int) != tc) = false := by rw [AHTc.out]; exact bne_self_eq_false _
  have b8 : (s_.toList != s_.toList) = false := bne_self_eq_false _
  have b9 : (t.toList == t.toList) = true := beq_self_eq_true _
  have HC := Aside0.mk (show Ch [] w from trivial)
  have K0 := Aside0.mk True.intro
  go_enter Tryz.func3, Tryz.ntmps3
  go_wp2_with (first
    | (go_at_call 9; clear K12; (with_reducible refine (laws_yRows.calls k _ _ top _ _ top true _ (Kd.C_below CF6_0.out.2.2 HC.out.t4.hd) CF6_0.out.2.1 (Kd.C_below CF7_0.out.2.2 HC.out.tl.tl.tl.hd) CF7_0.out.2.1 AF13.out).mono ?_); rintro e w13_ ⟨rfl, hd⟩; have hb := drawn_below hd; clear hd; replace HC := stp HC hb; clear hb; have K13 := tt_)
    | (go_at_call 19; clear K11; (with_reducible refine (spec_CountFoldings.calls k m tw tb _ AF12.out).mono ?_); rintro e w12_ ⟨rfl, hb⟩; replace HC := stp HC hb; clear hb; have K12 := tt_)
    | (go_at_call 10; clear K10; (with_reducible refine (impl_CountFoldings.calls k m tw tb _ AF11.out).mono ?_); rintro e w11_ ⟨rfl, hb⟩; replace HC := stp HC hb; clear hb; have K11 := tt_)
    | (go_at_call 18; clear K9; (with_reducible refine (spec_CountOnTop.calls k m tc tb _ AF10.out).mono ?_); rintro e w10_ ⟨rfl, hb⟩; replace HC := stp HC hb; clear hb; have K10 := tt_)
    | (go_at_call 11; clear K8; (with_reducible refine (impl_CountOnTop.calls k m tc tb _ AF9.out).mono ?_); rintro e w9_ ⟨rfl, hb⟩; replace HC := stp HC hb; clear hb; have K9 := tt_)
    | (go_at_call 17; clear K7; (with_reducible refine (spec_FoldingsOnTop.calls k m top tb _ AF8.out).mono ?_); rintro e w8_ ⟨v7_v0_, rfl, ho0, hb⟩; obtain ⟨Ar7_0, cr7_0, rfl⟩ := Kd.N_slice ho0; have CF7_0 := Aside0.mk (Kd.N_reads' ho0); replace HC := stp HC hb; clear hb ho0; have K8 := tt_)
    | (go_at_call 16; clear K6; (with_reducible refine (impl_FoldingsOnTop.calls k m top tb _ AF7.out).mono ?_); rintro e w7_ ⟨v6_v0_, rfl, ho0, hb⟩; obtain ⟨Ar6_0, cr6_0, rfl⟩ := Kd.S_slice ho0; have CF6_0 := Aside0.mk (Kd.S_reads' ho0); replace HC := stp HC hb; clear hb ho0; have K7 := tt_)
    | (go_at_call 15; clear K5; (with_reducible refine (spec_DrawFoldingsOnTop.calls _ _ l1 m _ (Kd.C_below HP1.out.2.2 HC.out.t4.hd) HP1.out.2.1 AF6.out).mono ?_); rintro e w6_ ⟨rfl, hb⟩; replace HC := stp HC hb; clear hb; have K6 := tt_)
    | (go_at_call 9; clear K4; (with_reducible refine (laws_yRows.calls k _ _ all _ _ all true _ (Kd.C_below CF2_0.out.2.2 HC.out.hd) CF2_0.out.2.1 CF3_0.out.2.2 CF3_0.out.2.1 AF5.out).mono ?_); rintro e w5_ ⟨rfl, hd⟩; have hb := drawn_below hd; clear hd; replace HC := stp HC hb; clear hb; have K5 := tt_)
    | (go_at_call 8; clear K3; (with_reducible refine (spec_AllFoldings.calls k n all false _ AF4.out).mono ?_); rintro e w4_ ⟨v3_v0_, rfl, ho0, hb⟩; obtain ⟨Ar3_0, cr3_0, rfl⟩ := Kd.N_slice ho0; have CF3_0 := Aside0.mk (Kd.N_reads' ho0); replace HC := stp HC hb; clear hb ho0; have K4 := tt_)
    | (go_at_call 7; clear K2; (with_reducible refine (impl_AllFoldings.calls k n all false _ AF3.out).mono ?_); rintro e w3_ ⟨v2_v0_, rfl, ho0, hb⟩; obtain ⟨Ar2_0, cr2_0, rfl⟩ := Kd.S_slice ho0; have CF2_0 := Aside0.mk (Kd.S_reads' ho0); replace HC := stp HC hb; clear hb ho0; have K3 := tt_)
    | (go_at_call 6; clear K1; (with_reducible refine (spec_DrawAllFoldings.calls _ _ l0 n _ (Kd.C_below HP0.out.2.2 HC.out.hd) HP0.out.2.1 AF2.out).mono ?_); rintro e w2_ ⟨rfl, hb⟩; replace HC := stp HC hb; clear hb; have K2 := tt_)
    | (go_at_call 5; clear K0; (with_reducible refine (laws_big.calls _ _ l0 _ _ l1 false _ HP0.out.2.2 HP0.out.2.1 HP1.out.2.2 HP1.out.2.1 AF1.out).mono ?_); rintro e w1_ ⟨rfl, hd⟩; have hb := drawn_below hd; clear hd; replace HC := stp HC hb; clear hb; have K1 := tt_))
  go_loopg [225] top.length (fun kq v225 w' => ∃ (i : Nat), v225 = .int .i64 i ∧ i ≤ top.length ∧ top.length - i ≤ kq ∧ Aside0 (Below w13_.heap.size w13_ w'))
  case atStart => exact ⟨0, by go_num, Nat.zero_le _, by omega, ⟨Below.refl _ _⟩⟩
  case round =>
    obtain ⟨i, rfl, hi, hg, HBL⟩ := hrel
    replace HC := stp HC HBL.out
    have K14 := tt_
    clear K13
    by_cases hlt : i < top.length
    · have hltz : (i : Int) < (top.length : Int) := by omega
      have hlen := AHTop.out.1
      obtain ⟨ad1, Ae1, ce1, ead1, hx1, hle1, hi1⟩ := at_L3 (Kd.C_below CF6_0.out.2.2 HC.out.t4.tl.tl.hd) (i : Int) (by omega) (by omega)
      simp only [Int.toNat_natCast] at hx1
      have CE1 := Aside0.mk hi1
      have CL1 := Aside0.mk hle1
      clear hi1 hle1
      cases ead1
      obtain ⟨hpos, hz⟩ := AHTop.out.2 i hlt
      obtain ⟨ad2, ead2, hx2⟩ := Kd.at_int CE1.out 0 (by omega) (by omega)
      subst ead2
      rw [hz] at hx2
      simp only [Int.toNat_zero] at hx2
      have hx3 : wr.cell? ad2 = some (.int .i64 0) := by
        have e0 : ad2.add 0 = ad2 := by cases ad2; simp [Addr.add]
        rw [← e0]; exact hx2
      have q6 := eq_true (show (0 : Int) < ((rd_L3 top (i : Int)).length : Int) by omega)
      have q7 := eq_true hpos
      have hi1 : i + 1 ≤ top.length := hlt
      have p5 := eq_true (show 0 ≤ (i : Int) by omega)
      have q5 := eq_true hltz
      have hlb : top.length ≤ 2000 := hlen
      clear hlen hpos hz hx2
      go_wp2
      go_roundg (top.length - (i + 1))
      case measure => exact Nat.lt_of_lt_of_le (Nat.sub_lt_sub_left hlt (Nat.lt_succ_self i)) hg
      case rel => exact ⟨i + 1, by go_num, hi1, Nat.le_refl _, HBL⟩
    · have hltz : ¬ ((i : Int) < (top.length : Int)) := by omega
      obtain rfl : i = top.length := by omega
      clear hi hg HBL
      go_wp2_with (first
        | (go_at_call 24; clear K22; (with_reducible refine (laws_ySame.calls k _ _ y _ _ y true _ (Kd.C_below CF20_0.out.2.2 HC.out.hd) CF20_0.out.2.1 CF21_0.out.2.2 CF21_0.out.2.1 AF24.out).mono ?_); rintro e w23_ ⟨rfl, hd⟩; have hb := drawn_below hd; clear hd; replace HC := stp HC hb; clear hb; have K23 := tt_)
        | (go_at_call 26; clear K21; (with_reducible refine (spec_ParseFolding.calls k t y false _ AF23.out).mono ?_); rintro e w22_ ⟨v21_v0_, rfl, ho0, hb⟩; obtain ⟨Ar21_0, cr21_0, rfl⟩ := Kd.R_slice ho0; have CF21_0 := Aside0.mk (Kd.R_reads' ho0); replace HC := stp HC hb; clear hb ho0; have K22 := tt_)
        | (go_at_call 23; clear K20; (with_reducible refine (impl_ParseFolding.calls k t y false _ AF22.out).mono ?_); rintro e w21_ ⟨v20_v0_, rfl, ho0, hb⟩; obtain ⟨Ar20_0, cr20_0, rfl⟩ := Kd.R_slice ho0; have CF20_0 := Aside0.mk (Kd.R_reads' ho0); replace HC := stp HC hb; clear hb ho0; have K21 := tt_)
        | (go_at_call 25; clear K19; (with_reducible refine (spec_DrawParseFolding.calls k _ _ l1 t _ (Kd.C_below HP1.out.2.2 HC.out.t16.tl.tl.hd) HP1.out.2.1 AF21.out).mono ?_); rintro e w20_ ⟨rfl, hb⟩; replace HC := stp HC hb; clear hb; have K20 := tt_)
        | (go_at_call 24; clear K18; (with_reducible refine (laws_ySame.calls k _ _ x _ _ x true _ CF17_0.out.2.2 CF17_0.out.2.1 (Kd.C_below CF14_0.out.2.2 HC.out.tl.tl.hd) CF14_0.out.2.1 AF20.out).mono ?_); rintro e w19_ ⟨rfl, hd⟩; have hb := drawn_below hd; clear hd; replace HC := stp HC hb; clear hb; have K19 := tt_)
        | (go_at_call 23; clear K17; (with_reducible refine (impl_ParseFolding.calls k s_ x true _ AF19.out).mono ?_); rintro e w18_ ⟨v17_v0_, rfl, ho0, hb⟩; obtain ⟨Ar17_0, cr17_0, rfl⟩ := Kd.R_slice ho0; have CF17_0 := Aside0.mk (Kd.R_reads' ho0); replace HC := stp HC hb; clear hb ho0; have K18 := tt_)
        | (go_at_call 22; clear K16; (with_reducible refine (spec_FoldingText.calls k _ _ x s_ true _ (Kd.C_below CF14_0.out.2.2 HC.out.hd) CF14_0.out.2.1 AF18.out).mono ?_); rintro e w17_ ⟨rfl, hb⟩; replace HC := stp HC hb; clear hb; have K17 := tt_)
        | (go_at_call 21; clear K15; (with_reducible refine (impl_FoldingText.calls k _ _ x s_ true _ CF14_0.out.2.2 CF14_0.out.2.1 AF17.out).mono ?_); rintro e w16_ ⟨rfl, hb⟩; replace HC := stp HC hb; clear hb; have K16 := tt_)
        | (go_at_call 20; clear K14; (with_reducible refine (spec_DrawFoldingText.calls k _ _ l1 x _ (Kd.C_below HP1.out.2.2 HC.out.t4.t4.t4.tl.hd) HP1.out.2.1 AF16.out).mono ?_); rintro e w15_ ⟨v14_v0_, rfl, ho0, hb⟩; obtain ⟨Ar14_0, cr14_0, rfl⟩ := Kd.R_slice ho0; have CF14_0 := Aside0.mk (Kd.R_reads' ho0); replace HC := stp HC hb; clear hb ho0; have K15 := tt_))
      go_ret
      exact ⟨rfl, HC.out.tl.tl.tl.tl.tl.tl.tl.tl.tl.tl.tl.tl.tl.tl.tl.tl.tl.tl.tl.tl.tl.tl.hd⟩
def c_false_true_true.Told (k : Nat) (l0 : List Int) (l1 : List Int) : Prop := ∃ (n : Int) (all : List (List Int)) (m : Int) (top : List (List Int)) (tb : Bool) (tc : Int) (tw : Int) (x : List Int) (s_ : ByteArray) (t : ByteArray) (y : List Int), (laws_big.f l0 l1 = some false) ∧ (spec_DrawAllFoldings.f l0 = some n) ∧ (impl_AllFoldings.f k n = some (all, false)) ∧ (spec_AllFoldings.f k n = some (all, false)) ∧ (laws_yRows.f k all all = some true) ∧ (spec_DrawFoldingsOnTop.f l1 = some m) ∧ (impl_FoldingsOnTop.f k m = some (top, tb)) ∧ (spec_FoldingsOnTop.f k m = some (top, tb)) ∧ (impl_CountOnTop.f k m = some (tc, tb)) ∧ (spec_CountOnTop.f k m = some (tc, tb)) ∧ (impl_CountFoldings.f k m = some (tw, tb)) ∧ (spec_CountFoldings.f k m = some (tw, tb)) ∧ (laws_yRows.f k top top = some true) ∧ ((top.length : Int) = tc) ∧ (top.length ≤ 2000 ∧ ∀ j : Nat, j < top.length → 0 < (rd_L3 top (j : Int)).length ∧ rd (rd_L3 top (j : Int)) 0 = 0) ∧ (spec_DrawFoldingText.f k l1 = some x) ∧ (impl_FoldingText.f k x = some (s_, true)) ∧ (spec_FoldingText.f k x = some (s_, true)) ∧ (impl_ParseFolding.f k s_ = some (x, true)) ∧ (laws_ySame.f k x x = some true) ∧ (spec_DrawParseFolding.f k l1 = some t) ∧ (impl_ParseFolding.f k t = some (y, true)) ∧ (spec_ParseFolding.f k t = some (y, true)) ∧ (laws_ySame.f k y y = some true) ∧ (impl_FoldingText.f k y = some (t, true))
set_option maxHeartbeats 16000000 in
set_option maxRecDepth 100000 in
theorem c_false_true_true (k : Nat) (l0 : List Int) (l1 : List Int) (A0 : Option Addr) (c0 : Nat) (A1 : Option Addr) (c1 : Nat) (n : Int) (all : List (List Int)) (m : Int) (top : List (List Int)) (tb : Bool) (tc : Int) (tw : Int) (x : List Int) (s_ : ByteArray) (t : ByteArray) (y : List Int) (w : World) (hr0 : Kd.C (Kd.int .u8) w A0 l0.length l0) (hc0 : l0.length ≤ c0) (hr1 : Kd.C (Kd.int .u8) w A1 l1.length l1) (hc1 : l1.length ≤ c1)
    (HF : (laws_big.f l0 l1 = some false) ∧ (spec_DrawAllFoldings.f l0 = some n) ∧ (impl_AllFoldings.f k n = some (all, false)) ∧ (spec_AllFoldings.f k n = some (all, false)) ∧ (laws_yRows.f k all all = some true) ∧ (spec_DrawFoldingsOnTop.f l1 = some m) ∧ (impl_FoldingsOnTop.f k m = some (top, tb)) ∧ (spec_FoldingsOnTop.f k m = some (top, tb)) ∧ (impl_CountOnTop.f k m = some (tc, tb)) ∧ (spec_CountOnTop.f k m = some (tc, tb)) ∧ (impl_CountFoldings.f k m = some (tw, tb)) ∧ (spec_CountFoldings.f k m = some (tw, tb)) ∧ (laws_yRows.f k top top = some true) ∧ ((top.length : Int) = tc) ∧ (top.length ≤ 2000 ∧ ∀ j : Nat, j < top.length → 0 < (rd_L3 top (j : Int)).length ∧ rd (rd_L3 top (j : Int)) 0 = 0) ∧ (spec_DrawFoldingText.f k l1 = some x) ∧ (impl_FoldingText.f k x = some (s_, true)) ∧ (spec_FoldingText.f k x = some (s_, true)) ∧ (impl_ParseFolding.f k s_ = some (x, true)) ∧ (laws_ySame.f k x x = some true) ∧ (spec_DrawParseFolding.f k l1 = some t) ∧ (impl_ParseFolding.f k t = some (y, true)) ∧ (spec_ParseFolding.f k t = some (y, true)) ∧ (laws_ySame.f k y y = some true) ∧ (impl_FoldingText.f k y = some (t, true))) :
    Calls Tryz.prog 3 #[.slice A0 l0.length c0, .slice A1 l1.length c1] w fun e w' => e = .returned (.bool true) ∧ Below w.heap.size w w' := by
  obtain ⟨F1, F2, F3, F4, F5, F6, F7, F8, F9, F10, F11, F12, F13, HTc, HTop, F16, F17, F18, F19, F20, F21, F22, F23, F24, F25⟩ := HF
  have HP0 := Aside0.mk (show l0.length = l0.length ∧ l0.length ≤ c0 ∧ _ from ⟨rfl, hc0, hr0⟩)
  clear hr0 hc0
  have HP1 := Aside0.mk (show l1.length = l1.length ∧ l1.length ≤ c1 ∧ _ from ⟨rfl, hc1, hr1⟩)
  clear hr1 hc1
  have AF1 := Aside0.mk F1
  clear F1
  have AF2 := Aside0.mk F2
  clear F2
  have AF3 := Aside0.mk F3
  clear F3
  have AF4 := Aside0.mk F4
  clear F4
  have AF5 := Aside0.mk F5
  clear F5
  have AF6 := Aside0.mk F6
  clear F6
  have AF7 := Aside0.mk F7
  clear F7
  have AF8 := Aside0.mk F8
  clear F8
  have AF9 := Aside0.mk F9
  clear F9
  have AF10 := Aside0.mk F10
  clear F10
  have AF11 := Aside0.mk F11
  clear F11
  have AF12 := Aside0.mk F12
  clear F12
  have AF13 := Aside0.mk F13
  clear F13
  have AHTc := Aside0.mk HTc
  clear HTc
  have AHTop := Aside0.mk HTop
  clear HTop
  have AF16 := Aside0.mk F16
  clear F16
  have AF17 := Aside0.mk F17
  clear F17
  have AF18 := Aside0.mk F18
  clear F18
  have AF19 := Aside0.mk F19
  clear F19
  have AF20 := Aside0.mk F20
  clear F20
  have AF21 := Aside0.mk F21
  clear F21
  have AF22 := Aside0.mk F22
  clear F22
  have AF23 := Aside0.mk F23
  clear F23
  have AF24 := Aside0.mk F24
  clear F24
  have AF25 := Aside0.mk F25
  clear F25
  have b4 : (tb != tb) = false := bne_self_eq_false tb
  have b5 : (tc != tc) = false := bne_self_eq_false tc
  have b6 : (tw != tw) = false := bne_self_eq_false tw
  have b7 : ((top.length : Int) != tc) = false := by rw [AHTc.out]; exact bne_self_eq_false _
  have b8 : (s_.toList != s_.toList) = false := bne_self_eq_false _
  have b9 : (t.toList == t.toList) = true := beq_self_eq_true _
  have HC := Aside0.mk (show Ch [] w from trivial)
  have K0 := Aside0.mk True.intro
  go_enter Tryz.func3, Tryz.ntmps3
  go_wp2_with (first
    | (go_at_call 9; clear K12; (with_reducible refine (laws_yRows.calls k _ _ top _ _ top true _ (Kd.C_below CF6_0.out.2.2 HC.out.t4.hd) CF6_0.out.2.1 (Kd.C_below CF7_0.out.2.2 HC.out.tl.tl.tl.hd) CF7_0.out.2.1 AF13.out).mono ?_); rintro e w13_ ⟨rfl, hd⟩; have hb := drawn_below hd; clear hd; replace HC := stp HC hb; clear hb; have K13 := tt_)
    | (go_at_call 19; clear K11; (with_reducible refine (spec_CountFoldings.calls k m tw tb _ AF12.out).mono ?_); rintro e w12_ ⟨rfl, hb⟩; replace HC := stp HC hb; clear hb; have K12 := tt_)
    | (go_at_call 10; clear K10; (with_reducible refine (impl_CountFoldings.calls k m tw tb _ AF11.out).mono ?_); rintro e w11_ ⟨rfl, hb⟩; replace HC := stp HC hb; clear hb; have K11 := tt_)
    | (go_at_call 18; clear K9; (with_reducible refine (spec_CountOnTop.calls k m tc tb _ AF10.out).mono ?_); rintro e w10_ ⟨rfl, hb⟩; replace HC := stp HC hb; clear hb; have K10 := tt_)
    | (go_at_call 11; clear K8; (with_reducible refine (impl_CountOnTop.calls k m tc tb _ AF9.out).mono ?_); rintro e w9_ ⟨rfl, hb⟩; replace HC := stp HC hb; clear hb; have K9 := tt_)
    | (go_at_call 17; clear K7; (with_reducible refine (spec_FoldingsOnTop.calls k m top tb _ AF8.out).mono ?_); rintro e w8_ ⟨v7_v0_, rfl, ho0, hb⟩; obtain ⟨Ar7_0, cr7_0, rfl⟩ := Kd.N_slice ho0; have CF7_0 := Aside0.mk (Kd.N_reads' ho0); replace HC := stp HC hb; clear hb ho0; have K8 := tt_)
    | (go_at_call 16; clear K6; (with_reducible refine (impl_FoldingsOnTop.calls k m top tb _ AF7.out).mono ?_); rintro e w7_ ⟨v6_v0_, rfl, ho0, hb⟩; obtain ⟨Ar6_0, cr6_0, rfl⟩ := Kd.S_slice ho0; have CF6_0 := Aside0.mk (Kd.S_reads' ho0); replace HC := stp HC hb; clear hb ho0; have K7 := tt_)
    | (go_at_call 15; clear K5; (with_reducible refine (spec_DrawFoldingsOnTop.calls _ _ l1 m _ (Kd.C_below HP1.out.2.2 HC.out.t4.hd) HP1.out.2.1 AF6.out).mono ?_); rintro e w6_ ⟨rfl, hb⟩; replace HC := stp HC hb; clear hb; have K6 := tt_)
    | (go_at_call 9; clear K4; (with_reducible refine (laws_yRows.calls k _ _ all _ _ all true _ (Kd.C_below CF2_0.out.2.2 HC.out.hd) CF2_0.out.2.1 CF3_0.out.2.2 CF3_0.out.2.1 AF5.out).mono ?_); rintro e w5_ ⟨rfl, hd⟩; have hb := drawn_below hd; clear hd; replace HC := stp HC hb; clear hb; have K5 := tt_)
    | (go_at_call 8; clear K3; (with_reducible refine (spec_AllFoldings.calls k n all false _ AF4.out).mono ?_); rintro e w4_ ⟨v3_v0_, rfl, ho0, hb⟩; obtain ⟨Ar3_0, cr3_0, rfl⟩ := Kd.N_slice ho0; have CF3_0 := Aside0.mk (Kd.N_reads' ho0); replace HC := stp HC hb; clear hb ho0; have K4 := tt_)
    | (go_at_call 7; clear K2; (with_reducible refine (impl_AllFoldings.calls k n all false _ AF3.out).mono ?_); rintro e w3_ ⟨v2_v0_, rfl, ho0, hb⟩; obtain ⟨Ar2_0, cr2_0, rfl⟩ := Kd.S_slice ho0; have CF2_0 := Aside0.mk (Kd.S_reads' ho0); replace HC := stp HC hb; clear hb ho0; have K3 := tt_)
    | (go_at_call 6; clear K1; (with_reducible refine (spec_DrawAllFoldings.calls _ _ l0 n _ (Kd.C_below HP0.out.2.2 HC.out.hd) HP0.out.2.1 AF2.out).mono ?_); rintro e w2_ ⟨rfl, hb⟩; replace HC := stp HC hb; clear hb; have K2 := tt_)
    | (go_at_call 5; clear K0; (with_reducible refine (laws_big.calls _ _ l0 _ _ l1 false _ HP0.out.2.2 HP0.out.2.1 HP1.out.2.2 HP1.out.2.1 AF1.out).mono ?_); rintro e w1_ ⟨rfl, hd⟩; have hb := drawn_below hd; clear hd; replace HC := stp HC hb; clear hb; have K1 := tt_))
  go_loopg [225] top.length (fun kq v225 w' => ∃ (i : Nat), v225 = .int .i64 i ∧ i ≤ top.length ∧ top.length - i ≤ kq ∧ Aside0 (Below w13_.heap.size w13_ w'))
  case atStart => exact ⟨0, by go_num, Nat.zero_le _, by omega, ⟨Below.refl _ _⟩⟩
  case round =>
    obtain ⟨i, rfl, hi, hg, HBL⟩ := hrel
    replace HC := stp HC HBL.out
    have K14 := tt_
    clear K13
    by_cases hlt : i < top.length
    · have hltz : (i : Int) < (top.length : Int) := by omega
      have hlen := AHTop.out.1
      obtain ⟨ad1, Ae1, ce1, ead1, hx1, hle1, hi1⟩ := at_L3 (Kd.C_below CF6_0.out.2.2 HC.out.t4.tl.tl.hd) (i : Int) (by omega) (by omega)
      simp only [Int.toNat_natCast] at hx1
      have CE1 := Aside0.mk hi1
      have CL1 := Aside0.mk hle1
      clear hi1 hle1
      cases ead1
      obtain ⟨hpos, hz⟩ := AHTop.out.2 i hlt
      obtain ⟨ad2, ead2, hx2⟩ := Kd.at_int CE1.out 0 (by omega) (by omega)
      subst ead2
      rw [hz] at hx2
      simp only [Int.toNat_zero] at hx2
      have hx3 : wr.cell? ad2 = some (.int .i64 0) := by
        have e0 : ad2.add 0 = ad2 := by cases ad2; simp [Addr.add]
        rw [← e0]; exact hx2
      have q6 := eq_true (show (0 : Int) < ((rd_L3 top (i : Int)).length : Int) by omega)
      have q7 := eq_true hpos
      have hi1 : i + 1 ≤ top.length := hlt
      have p5 := eq_true (show 0 ≤ (i : Int) by omega)
      have q5 := eq_true hltz
      have hlb : top.length ≤ 2000 := hlen
      clear hlen hpos hz hx2
      go_wp2
      go_roundg (top.length - (i + 1))
      case measure => exact Nat.lt_of_lt_of_le (Nat.sub_lt_sub_left hlt (Nat.lt_succ_self i)) hg
      case rel => exact ⟨i + 1, by go_num, hi1, Nat.le_refl _, HBL⟩
    · have hltz : ¬ ((i : Int) < (top.length : Int)) := by omega
      obtain rfl : i = top.length := by omega
      clear hi hg HBL
      go_wp2_with (first
        | (go_at_call 21; clear K23; (with_reducible refine (impl_FoldingText.calls k _ _ y t true _ (Kd.C_below CF20_0.out.2.2 HC.out.tl.hd) CF20_0.out.2.1 AF25.out).mono ?_); rintro e w24_ ⟨rfl, hb⟩; replace HC := stp HC hb; clear hb; have K24 := tt_)
        | (go_at_call 24; clear K22; (with_reducible refine (laws_ySame.calls k _ _ y _ _ y true _ (Kd.C_below CF20_0.out.2.2 HC.out.hd) CF20_0.out.2.1 CF21_0.out.2.2 CF21_0.out.2.1 AF24.out).mono ?_); rintro e w23_ ⟨rfl, hd⟩; have hb := drawn_below hd; clear hd; replace HC := stp HC hb; clear hb; have K23 := tt_)
        | (go_at_call 26; clear K21; (with_reducible refine (spec_ParseFolding.calls k t y true _ AF23.out).mono ?_); rintro e w22_ ⟨v21_v0_, rfl, ho0, hb⟩; obtain ⟨Ar21_0, cr21_0, rfl⟩ := Kd.R_slice ho0; have CF21_0 := Aside0.mk (Kd.R_reads' ho0); replace HC := stp HC hb; clear hb ho0; have K22 := tt_)
        | (go_at_call 23; clear K20; (with_reducible refine (impl_ParseFolding.calls k t y true _ AF22.out).mono ?_); rintro e w21_ ⟨v20_v0_, rfl, ho0, hb⟩; obtain ⟨Ar20_0, cr20_0, rfl⟩ := Kd.R_slice ho0; have CF20_0 := Aside0.mk (Kd.R_reads' ho0); replace HC := stp HC hb; clear hb ho0; have K21 := tt_)
        | (go_at_call 25; clear K19; (with_reducible refine (spec_DrawParseFolding.calls k _ _ l1 t _ (Kd.C_below HP1.out.2.2 HC.out.t16.tl.tl.hd) HP1.out.2.1 AF21.out).mono ?_); rintro e w20_ ⟨rfl, hb⟩; replace HC := stp HC hb; clear hb; have K20 := tt_)
        | (go_at_call 24; clear K18; (with_reducible refine (laws_ySame.calls k _ _ x _ _ x true _ CF17_0.out.2.2 CF17_0.out.2.1 (Kd.C_below CF14_0.out.2.2 HC.out.tl.tl.hd) CF14_0.out.2.1 AF20.out).mono ?_); rintro e w19_ ⟨rfl, hd⟩; have hb := drawn_below hd; clear hd; replace HC := stp HC hb; clear hb; have K19 := tt_)
        | (go_at_call 23; clear K17; (with_reducible refine (impl_ParseFolding.calls k s_ x true _ AF19.out).mono ?_); rintro e w18_ ⟨v17_v0_, rfl, ho0, hb⟩; obtain ⟨Ar17_0, cr17_0, rfl⟩ := Kd.R_slice ho0; have CF17_0 := Aside0.mk (Kd.R_reads' ho0); replace HC := stp HC hb; clear hb ho0; have K18 := tt_)
        | (go_at_call 22; clear K16; (with_reducible refine (spec_FoldingText.calls k _ _ x s_ true _ (Kd.C_below CF14_0.out.2.2 HC.out.hd) CF14_0.out.2.1 AF18.out).mono ?_); rintro e w17_ ⟨rfl, hb⟩; replace HC := stp HC hb; clear hb; have K17 := tt_)
        | (go_at_call 21; clear K15; (with_reducible refine (impl_FoldingText.calls k _ _ x s_ true _ CF14_0.out.2.2 CF14_0.out.2.1 AF17.out).mono ?_); rintro e w16_ ⟨rfl, hb⟩; replace HC := stp HC hb; clear hb; have K16 := tt_)
        | (go_at_call 20; clear K14; (with_reducible refine (spec_DrawFoldingText.calls k _ _ l1 x _ (Kd.C_below HP1.out.2.2 HC.out.t4.t4.t4.tl.hd) HP1.out.2.1 AF16.out).mono ?_); rintro e w15_ ⟨v14_v0_, rfl, ho0, hb⟩; obtain ⟨Ar14_0, cr14_0, rfl⟩ := Kd.R_slice ho0; have CF14_0 := Aside0.mk (Kd.R_reads' ho0); replace HC := stp HC hb; clear hb ho0; have K15 := tt_))
      go_ret
      exact ⟨rfl, HC.out.tl.tl.tl.tl.tl.tl.tl.tl.tl.tl.tl.tl.tl.tl.tl.tl.tl.tl.tl.tl.tl.tl.tl.hd⟩
def c_true_false_false.Told (k : Nat) (l0 : List Int) (l1 : List Int) : Prop := ∃ (n : Int) (all : List (List Int)) (cnt : Int) (tp : Int) (sem : List (List Int)) (m : Int) (top : List (List Int)) (tb : Bool) (tc : Int) (tw : Int) (x : List Int) (s_ : ByteArray) (t : ByteArray) (y : List Int), (laws_big.f l0 l1 = some false) ∧ (spec_DrawAllFoldings.f l0 = some n) ∧ (impl_AllFoldings.f k n = some (all, true)) ∧ (spec_AllFoldings.f k n = some (all, true)) ∧ (laws_yRows.f k all all = some true) ∧ (impl_CountFoldings.f k n = some (cnt, true)) ∧ (impl_CountOnTop.f k n = some (tp, true)) ∧ (impl_AllSemis.f k n = some (sem, true)) ∧ ((all.length : Int) = cnt ∧ cnt = wrap64 (n * tp) ∧ (sem.length : Int) = tp) ∧ (all.length ≤ 2000 ∧ (∀ j : Nat, j < all.length → impl_IsFolding.f k (rd_L3 all (j : Int)) = some (true, true)) ∧ ∀ j : Nat, j + 1 < all.length → laws_yLess.f k (rd_L3 all (j : Int)) (rd_L3 all ((j + 1 : Nat) : Int)) = some true) ∧ (spec_DrawFoldingsOnTop.f l1 = some m) ∧ (impl_FoldingsOnTop.f k m = some (top, tb)) ∧ (spec_FoldingsOnTop.f k m = some (top, tb)) ∧ (impl_CountOnTop.f k m = some (tc, tb)) ∧ (spec_CountOnTop.f k m = some (tc, tb)) ∧ (impl_CountFoldings.f k m = some (tw, tb)) ∧ (spec_CountFoldings.f k m = some (tw, tb)) ∧ (laws_yRows.f k top top = some true) ∧ ((top.length : Int) = tc) ∧ (top.length ≤ 2000 ∧ ∀ j : Nat, j < top.length → 0 < (rd_L3 top (j : Int)).length ∧ rd (rd_L3 top (j : Int)) 0 = 0) ∧ (spec_DrawFoldingText.f k l1 = some x) ∧ (impl_FoldingText.f k x = some (s_, false)) ∧ (spec_FoldingText.f k x = some (s_, false)) ∧ (spec_DrawParseFolding.f k l1 = some t) ∧ (impl_ParseFolding.f k t = some (y, false)) ∧ (spec_ParseFolding.f k t = some (y, false)) ∧ (laws_ySame.f k y y = some true)
set_option maxHeartbeats 16000000 in
set_option maxRecDepth 100000 in
theorem c_true_false_false (k : Nat) (l0 : List Int) (l1 : List Int) (A0 : Option Addr) (c0 : Nat) (A1 : Option Addr) (c1 : Nat) (n : Int) (all : List (List Int)) (cnt : Int) (tp : Int) (sem : List (List Int)) (m : Int) (top : List (List Int)) (tb : Bool) (tc : Int) (tw : Int) (x : List Int) (s_ : ByteArray) (t : ByteArray) (y : List Int) (w : World) (hr0 : Kd.C (Kd.int .u8) w A0 l0.length l0) (hc0 : l0.length ≤ c0) (hr1 : Kd.C (Kd.int .u8) w A1 l1.length l1) (hc1 : l1.length ≤ c1)
    (HF : (laws_big.f l0 l1 = some false) ∧ (spec_DrawAllFoldings.f l0 = some n) ∧ (impl_AllFoldings.f k n = some (all, true)) ∧ (spec_AllFoldings.f k n = some (all, true)) ∧ (laws_yRows.f k all all = some true) ∧ (impl_CountFoldings.f k n = some (cnt, true)) ∧ (impl_CountOnTop.f k n = some (tp, true)) ∧ (impl_AllSemis.f k n = some (sem, true)) ∧ ((all.length : Int) = cnt ∧ cnt = wrap64 (n * tp) ∧ (sem.length : Int) = tp) ∧ (all.length ≤ 2000 ∧ (∀ j : Nat, j < all.length → impl_IsFolding.f k (rd_L3 all (j : Int)) = some (true, true)) ∧ ∀ j : Nat, j + 1 < all.length → laws_yLess.f k (rd_L3 all (j : Int)) (rd_L3 all ((j + 1 : Nat) : Int)) = some true) ∧ (spec_DrawFoldingsOnTop.f l1 = some m) ∧ (impl_FoldingsOnTop.f k m = some (top, tb)) ∧ (spec_FoldingsOnTop.f k m = some (top, tb)) ∧ (impl_CountOnTop.f k m = some (tc, tb)) ∧ (spec_CountOnTop.f k m = some (tc, tb)) ∧ (impl_CountFoldings.f k m = some (tw, tb)) ∧ (spec_CountFoldings.f k m = some (tw, tb)) ∧ (laws_yRows.f k top top = some true) ∧ ((top.length : Int) = tc) ∧ (top.length ≤ 2000 ∧ ∀ j : Nat, j < top.length → 0 < (rd_L3 top (j : Int)).length ∧ rd (rd_L3 top (j : Int)) 0 = 0) ∧ (spec_DrawFoldingText.f k l1 = some x) ∧ (impl_FoldingText.f k x = some (s_, false)) ∧ (spec_FoldingText.f k x = some (s_, false)) ∧ (spec_DrawParseFolding.f k l1 = some t) ∧ (impl_ParseFolding.f k t = some (y, false)) ∧ (spec_ParseFolding.f k t = some (y, false)) ∧ (laws_ySame.f k y y = some true)) :
    Calls Tryz.prog 3 #[.slice A0 l0.length c0, .slice A1 l1.length c1] w fun e w' => e = .returned (.bool true) ∧ Below w.heap.size w w' := by
  obtain ⟨F1, F2, F3, F4, F5, F6, F7, F8, HNum, HAll, F11, F12, F13, F14, F15, F16, F17, F18, HTc, HTop, F21, F22, F23, F24, F25, F26, F27⟩ := HF
  have HP0 := Aside0.mk (show l0.length = l0.length ∧ l0.length ≤ c0 ∧ _ from ⟨rfl, hc0, hr0⟩)
  clear hr0 hc0
  have HP1 := Aside0.mk (show l1.length = l1.length ∧ l1.length ≤ c1 ∧ _ from ⟨rfl, hc1, hr1⟩)
  clear hr1 hc1
  have AF1 := Aside0.mk F1
  clear F1
  have AF2 := Aside0.mk F2
  clear F2
  have AF3 := Aside0.mk F3
  clear F3
  have AF4 := Aside0.mk F4
  clear F4
  have AF5 := Aside0.mk F5
  clear F5
  have AF6 := Aside0.mk F6
  clear F6
  have AF7 := Aside0.mk F7
  clear F7
  have AF8 := Aside0.mk F8
  clear F8
  have AHNum := Aside0.mk HNum
  clear HNum
  have AHAll := Aside0.mk HAll
  clear HAll
  have AF11 := Aside0.mk F11
  clear F11
  have AF12 := Aside0.mk F12
  clear F12
  have AF13 := Aside0.mk F13
  clear F13
  have AF14 := Aside0.mk F14
  clear F14
  have AF15 := Aside0.mk F15
  clear F15
  have AF16 := Aside0.mk F16
  clear F16
  have AF17 := Aside0.mk F17
  clear F17
  have AF18 := Aside0.mk F18
  clear F18
  have AHTc := Aside0.mk HTc
  clear HTc
  have AHTop := Aside0.mk HTop
  clear HTop
  have AF21 := Aside0.mk F21
  clear F21
  have AF22 := Aside0.mk F22
  clear F22
  have AF23 := Aside0.mk F23
  clear F23
  have AF24 := Aside0.mk F24
  clear F24
  have AF25 := Aside0.mk F25
  clear F25
  have AF26 := Aside0.mk F26
  clear F26
  have AF27 := Aside0.mk F27
  clear F27
  have b1 : ((all.length : Int) != cnt) = false := by rw [AHNum.out.1]; exact bne_self_eq_false _
  have b2 : (cnt != wrap64 (n * tp)) = false := by rw [← AHNum.out.2.1]; exact bne_self_eq_false _
  have b3 : ((sem.length : Int) != tp) = false := by rw [AHNum.out.2.2]; exact bne_self_eq_false _
  have b4 : (tb != tb) = false := bne_self_eq_false tb
  have b5 : (tc != tc) = false := bne_self_eq_false tc
  have b6 : (tw != tw) = false := bne_self_eq_false tw
  have b7 : ((top.length : Int) != tc) = false := by rw [AHTc.out]; exact bne_self_eq_false _
  have b8 : (s_.toList != s_.toList) = false := bne_self_eq_false _
  have b9 : (t.toList == t.toList) = true := beq_self_eq_true _
  have HC := Aside0.mk (show Ch [] w from trivial)
  have K0 := Aside0.mk True.intro
  go_enter Tryz.func3, Tryz.ntmps3
  go_wp2_with (first
    | (go_at_call 12; clear K7; (with_reducible refine (impl_AllSemis.calls k n sem true _ AF8.out).mono ?_); rintro e w8_ ⟨v7_v0_, rfl, ho0, hb⟩; obtain ⟨Ar7_0, cr7_0, rfl⟩ := Kd.S_slice ho0; have CF7_0 := Aside0.mk (Kd.S_reads' ho0); replace HC := stp HC hb; clear hb ho0; have K8 := tt_)
    | (go_at_call 11; clear K6; (with_reducible refine (impl_CountOnTop.calls k n tp true _ AF7.out).mono ?_); rintro e w7_ ⟨rfl, hb⟩; replace HC := stp HC hb; clear hb; have K7 := tt_)
    | (go_at_call 10; clear K5; (with_reducible refine (impl_CountFoldings.calls k n cnt true _ AF6.out).mono ?_); rintro e w6_ ⟨rfl, hb⟩; replace HC := stp HC hb; clear hb; have K6 := tt_)
    | (go_at_call 9; clear K4; (with_reducible refine (laws_yRows.calls k _ _ all _ _ all true _ (Kd.C_below CF2_0.out.2.2 HC.out.hd) CF2_0.out.2.1 CF3_0.out.2.2 CF3_0.out.2.1 AF5.out).mono ?_); rintro e w5_ ⟨rfl, hd⟩; have hb := drawn_below hd; clear hd; replace HC := stp HC hb; clear hb; have K5 := tt_)
    | (go_at_call 8; clear K3; (with_reducible refine (spec_AllFoldings.calls k n all true _ AF4.out).mono ?_); rintro e w4_ ⟨v3_v0_, rfl, ho0, hb⟩; obtain ⟨Ar3_0, cr3_0, rfl⟩ := Kd.N_slice ho0; have CF3_0 := Aside0.mk (Kd.N_reads' ho0); replace HC := stp HC hb; clear hb ho0; have K4 := tt_)
    | (go_at_call 7; clear K2; (with_reducible refine (impl_AllFoldings.calls k n all true _ AF3.out).mono ?_); rintro e w3_ ⟨v2_v0_, rfl, ho0, hb⟩; obtain ⟨Ar2_0, cr2_0, rfl⟩ := Kd.S_slice ho0; have CF2_0 := Aside0.mk (Kd.S_reads' ho0); replace HC := stp HC hb; clear hb ho0; have K3 := tt_)
    | (go_at_call 6; clear K1; (with_reducible refine (spec_DrawAllFoldings.calls _ _ l0 n _ (Kd.C_below HP0.out.2.2 HC.out.hd) HP0.out.2.1 AF2.out).mono ?_); rintro e w2_ ⟨rfl, hb⟩; replace HC := stp HC hb; clear hb; have K2 := tt_)
    | (go_at_call 5; clear K0; (with_reducible refine (laws_big.calls _ _ l0 _ _ l1 false _ HP0.out.2.2 HP0.out.2.1 HP1.out.2.2 HP1.out.2.1 AF1.out).mono ?_); rintro e w1_ ⟨rfl, hd⟩; have hb := drawn_below hd; clear hd; replace HC := stp HC hb; clear hb; have K1 := tt_))
  go_loopg [120] all.length (fun kq v120 w' => ∃ (i : Nat), v120 = .int .i64 i ∧ i ≤ all.length ∧ all.length - i ≤ kq ∧ Aside0 (Below w8_.heap.size w8_ w'))
  case atStart => exact ⟨0, by go_num, Nat.zero_le _, by omega, ⟨Below.refl _ _⟩⟩
  case round =>
    obtain ⟨i, rfl, hi, hg, HBL⟩ := hrel
    replace HC := stp HC HBL.out
    have K9 := tt_
    clear K8
    by_cases hlt : i < all.length
    · have hltz : (i : Int) < (all.length : Int) := by omega
      have hlen := AHAll.out.1
      obtain ⟨ad1, Ae1, ce1, ead1, hx1, hle1, hi1⟩ := at_L3 (Kd.C_below CF2_0.out.2.2 HC.out.t4.tl.hd) (i : Int) (by omega) (by omega)
      simp only [Int.toNat_natCast] at hx1
      have CE1 := Aside0.mk hi1
      have CL1 := Aside0.mk hle1
      clear hi1 hle1
      cases ead1
      have hi1 : i + 1 ≤ all.length := hlt
      have p5 := eq_true (show 0 ≤ (i : Int) by omega)
      have q5 := eq_true hltz
      by_cases h0 : i = 0
      · have c0 : ((0 : Int) < (i : Int)) = False := eq_false (by omega)
        have c1 : (0 < i) = False := eq_false (by omega)
        have hlb : all.length ≤ 2000 := hlen
        clear hlen h0
        go_wp2_with (first
          | (go_at_call 13; (with_reducible refine (impl_IsFolding.calls k _ _ (rd_L3 all (i : Int)) true true _ CE1.out CL1.out (AHAll.out.2.1 i hlt)).mono ?_); rintro e w_ ⟨rfl, hb⟩; have HB2 := Aside0.mk (below_step HBL.out hb); clear hb))
        go_roundg (all.length - (i + 1))
        case measure => exact Nat.lt_of_lt_of_le (Nat.sub_lt_sub_left hlt (Nat.lt_succ_self i)) hg
        case rel => exact ⟨i + 1, by go_num, hi1, Nat.le_refl _, HB2⟩
      · obtain ⟨j, hj⟩ : ∃ j, i = j + 1 := ⟨i - 1, by omega⟩
        have hjl : j < all.length := by omega
        obtain ⟨ad2, Ae2, ce2, ead2, hx2, hle2, hi2⟩ := at_L3 (Kd.C_below CF2_0.out.2.2 HC.out.t4.tl.hd) (j : Int) (by omega) (by omega)
        simp only [Int.toNat_natCast] at hx2
        have CE2 := Aside0.mk hi2
        have CL2 := Aside0.mk hle2
        clear hi2 hle2
        cases ead2
        have HLS := Aside0.mk (show laws_yLess.f k (rd_L3 all (j : Int)) (rd_L3 all (i : Int)) = some true by
          have h_ := AHAll.out.2.2 j (by omega)
          rw [← hj] at h_
          exact h_)
        have hw1 : IntKind.i64.wrap ((i : Int) - 1) = (j : Int) := by rw [i64_w]; unfold wrap64; omega
        have c0 : ((0 : Int) < (i : Int)) = True := eq_true (by omega)
        have c1 : (0 < i) = True := eq_true (by omega)
        have p6 := eq_true (show 0 ≤ (j : Int) by omega)
        have q6 := eq_true (show (j : Int) < (all.length : Int) by omega)
        have hlb : all.length ≤ 2000 := hlen
        clear hj hlen
        go_wp2_with (first
          | (go_at_call 13; (with_reducible refine (impl_IsFolding.calls k _ _ (rd_L3 all (i : Int)) true true _ CE1.out CL1.out (AHAll.out.2.1 i hlt)).mono ?_); rintro e w_ ⟨rfl, hb⟩; have HB2 := Aside0.mk (below_step HBL.out hb); have CE3 := Aside0.mk (Kd.C_below CE1.out hb); have nC2 := Aside0.mk (Kd.C_below CE2.out hb); clear CE2; have CE2 := nC2; clear nC2 CE1; replace hx2 := (hb.cell (World.block_lt_of_cell? _ _ hx2)).trans hx2; clear hb)
          | (go_at_call 14; (with_reducible refine (laws_yLess.calls k _ _ (rd_L3 all (j : Int)) _ _ (rd_L3 all (i : Int)) true _ CE2.out CL2.out CE3.out CL1.out HLS.out).mono ?_); rintro e w_ ⟨rfl, hd⟩; have HB3 := Aside0.mk (below_step HB2.out (drawn_below hd)); clear HB2; have HB2 := HB3; clear HB3 hd))
        go_roundg (all.length - (i + 1))
        case measure => exact Nat.lt_of_lt_of_le (Nat.sub_lt_sub_left hlt (Nat.lt_succ_self i)) hg
        case rel => exact ⟨i + 1, by go_num, hi1, Nat.le_refl _, HB2⟩
    · have hltz : ¬ ((i : Int) < (all.length : Int)) := by omega
      obtain rfl : i = all.length := by omega
      clear hi hg HBL
      go_wp2_with (first
        | (go_at_call 9; clear K16; (with_reducible refine (laws_yRows.calls k _ _ top _ _ top true _ (Kd.C_below CF10_0.out.2.2 HC.out.t4.hd) CF10_0.out.2.1 (Kd.C_below CF11_0.out.2.2 HC.out.tl.tl.tl.hd) CF11_0.out.2.1 AF18.out).mono ?_); rintro e w17_ ⟨rfl, hd⟩; have hb := drawn_below hd; clear hd; replace HC := stp HC hb; clear hb; have K17 := tt_)
        | (go_at_call 19; clear K15; (with_reducible refine (spec_CountFoldings.calls k m tw tb _ AF17.out).mono ?_); rintro e w16_ ⟨rfl, hb⟩; replace HC := stp HC hb; clear hb; have K16 := tt_)
        | (go_at_call 10; clear K14; (with_reducible refine (impl_CountFoldings.calls k m tw tb _ AF16.out).mono ?_); rintro e w15_ ⟨rfl, hb⟩; replace HC := stp HC hb; clear hb; have K15 := tt_)
        | (go_at_call 18; clear K13; (with_reducible refine (spec_CountOnTop.calls k m tc tb _ AF15.out).mono ?_); rintro e w14_ ⟨rfl, hb⟩; replace HC := stp HC hb; clear hb; have K14 := tt_)
        | (go_at_call 11; clear K12; (with_reducible refine (impl_CountOnTop.calls k m tc tb _ AF14.out).mono ?_); rintro e w13_ ⟨rfl, hb⟩; replace HC := stp HC hb; clear hb; have K13 := tt_)
        | (go_at_call 17; clear K11; (with_reducible refine (spec_FoldingsOnTop.calls k m top tb _ AF13.out).mono ?_); rintro e w12_ ⟨v11_v0_, rfl, ho0, hb⟩; obtain ⟨Ar11_0, cr11_0, rfl⟩ := Kd.N_slice ho0; have CF11_0 := Aside0.mk (Kd.N_reads' ho0); replace HC := stp HC hb; clear hb ho0; have K12 := tt_)
        | (go_at_call 16; clear K10; (with_reducible refine (impl_FoldingsOnTop.calls k m top tb _ AF12.out).mono ?_); rintro e w11_ ⟨v10_v0_, rfl, ho0, hb⟩; obtain ⟨Ar10_0, cr10_0, rfl⟩ := Kd.S_slice ho0; have CF10_0 := Aside0.mk (Kd.S_reads' ho0); replace HC := stp HC hb; clear hb ho0; have K11 := tt_)
        | (go_at_call 15; clear K9; (with_reducible refine (spec_DrawFoldingsOnTop.calls _ _ l1 m _ (Kd.C_below HP1.out.2.2 HC.out.t4.t4.hd) HP1.out.2.1 AF11.out).mono ?_); rintro e w10_ ⟨rfl, hb⟩; replace HC := stp HC hb; clear hb; have K10 := tt_))
      go_loopg [225] top.length (fun kq v225 w' => ∃ (i : Nat), v225 = .int .i64 i ∧ i ≤ top.length ∧ top.length - i ≤ kq ∧ Aside0 (Below w17_.heap.size w17_ w'))
      case atStart => exact ⟨0, by go_num, Nat.zero_le _, by omega, ⟨Below.refl _ _⟩⟩
      case round =>
        obtain ⟨i, rfl, hi, hg, HBL⟩ := hrel
        replace HC := stp HC HBL.out
        have K18 := tt_
        clear K17
        by_cases hlt : i < top.length
        · have hltz : (i : Int) < (top.length : Int) := by omega
          have hlen := AHTop.out.1
          obtain ⟨ad1, Ae1, ce1, ead1, hx1, hle1, hi1⟩ := at_L3 (Kd.C_below CF10_0.out.2.2 HC.out.t4.tl.tl.hd) (i : Int) (by omega) (by omega)
          simp only [Int.toNat_natCast] at hx1
          have CE1 := Aside0.mk hi1
          have CL1 := Aside0.mk hle1
          clear hi1 hle1
          cases ead1
          obtain ⟨hpos, hz⟩ := AHTop.out.2 i hlt
          obtain ⟨ad2, ead2, hx2⟩ := Kd.at_int CE1.out 0 (by omega) (by omega)
          subst ead2
          rw [hz] at hx2
          simp only [Int.toNat_zero] at hx2
          have hx3 : wr.cell? ad2 = some (.int .i64 0) := by
            have e0 : ad2.add 0 = ad2 := by cases ad2; simp [Addr.add]
            rw [← e0]; exact hx2
          have q6 := eq_true (show (0 : Int) < ((rd_L3 top (i : Int)).length : Int) by omega)
          have q7 := eq_true hpos
          have hi1 : i + 1 ≤ top.length := hlt
          have p5 := eq_true (show 0 ≤ (i : Int) by omega)
          have q5 := eq_true hltz
          have hlb : top.length ≤ 2000 := hlen
          clear hlen hpos hz hx2
          go_wp2
          go_roundg (top.length - (i + 1))
          case measure => exact Nat.lt_of_lt_of_le (Nat.sub_lt_sub_left hlt (Nat.lt_succ_self i)) hg
          case rel => exact ⟨i + 1, by go_num, hi1, Nat.le_refl _, HBL⟩
        · have hltz : ¬ ((i : Int) < (top.length : Int)) := by omega
          obtain rfl : i = top.length := by omega
          clear hi hg HBL
          go_wp2_with (first
            | (go_at_call 24; clear K24; (with_reducible refine (laws_ySame.calls k _ _ y _ _ y true _ (Kd.C_below CF22_0.out.2.2 HC.out.hd) CF22_0.out.2.1 CF23_0.out.2.2 CF23_0.out.2.1 AF27.out).mono ?_); rintro e w25_ ⟨rfl, hd⟩; have hb := drawn_below hd; clear hd; replace HC := stp HC hb; clear hb; have K25 := tt_)
            | (go_at_call 26; clear K23; (with_reducible refine (spec_ParseFolding.calls k t y false _ AF26.out).mono ?_); rintro e w24_ ⟨v23_v0_, rfl, ho0, hb⟩; obtain ⟨Ar23_0, cr23_0, rfl⟩ := Kd.R_slice ho0; have CF23_0 := Aside0.mk (Kd.R_reads' ho0); replace HC := stp HC hb; clear hb ho0; have K24 := tt_)
            | (go_at_call 23; clear K22; (with_reducible refine (impl_ParseFolding.calls k t y false _ AF25.out).mono ?_); rintro e w23_ ⟨v22_v0_, rfl, ho0, hb⟩; obtain ⟨Ar22_0, cr22_0, rfl⟩ := Kd.R_slice ho0; have CF22_0 := Aside0.mk (Kd.R_reads' ho0); replace HC := stp HC hb; clear hb ho0; have K23 := tt_)
            | (go_at_call 25; clear K21; (with_reducible refine (spec_DrawParseFolding.calls k _ _ l1 t _ (Kd.C_below HP1.out.2.2 HC.out.t16.t4.hd) HP1.out.2.1 AF24.out).mono ?_); rintro e w22_ ⟨rfl, hb⟩; replace HC := stp HC hb; clear hb; have K22 := tt_)
            | (go_at_call 22; clear K20; (with_reducible refine (spec_FoldingText.calls k _ _ x s_ false _ (Kd.C_below CF18_0.out.2.2 HC.out.hd) CF18_0.out.2.1 AF23.out).mono ?_); rintro e w21_ ⟨rfl, hb⟩; replace HC := stp HC hb; clear hb; have K21 := tt_)
            | (go_at_call 21; clear K19; (with_reducible refine (impl_FoldingText.calls k _ _ x s_ false _ CF18_0.out.2.2 CF18_0.out.2.1 AF22.out).mono ?_); rintro e w20_ ⟨rfl, hb⟩; replace HC := stp HC hb; clear hb; have K20 := tt_)
            | (go_at_call 20; clear K18; (with_reducible refine (spec_DrawFoldingText.calls k _ _ l1 x _ (Kd.C_below HP1.out.2.2 HC.out.t16.tl.hd) HP1.out.2.1 AF21.out).mono ?_); rintro e w19_ ⟨v18_v0_, rfl, ho0, hb⟩; obtain ⟨Ar18_0, cr18_0, rfl⟩ := Kd.R_slice ho0; have CF18_0 := Aside0.mk (Kd.R_reads' ho0); replace HC := stp HC hb; clear hb ho0; have K19 := tt_))
          go_ret
          exact ⟨rfl, HC.out.tl.tl.tl.tl.tl.tl.tl.tl.tl.tl.tl.tl.tl.tl.tl.tl.tl.tl.tl.tl.tl.tl.tl.tl.hd⟩
def c_true_false_true.Told (k : Nat) (l0 : List Int) (l1 : List Int) : Prop := ∃ (n : Int) (all : List (List Int)) (cnt : Int) (tp : Int) (sem : List (List Int)) (m : Int) (top : List (List Int)) (tb : Bool) (tc : Int) (tw : Int) (x : List Int) (s_ : ByteArray) (t : ByteArray) (y : List Int), (laws_big.f l0 l1 = some false) ∧ (spec_DrawAllFoldings.f l0 = some n) ∧ (impl_AllFoldings.f k n = some (all, true)) ∧ (spec_AllFoldings.f k n = some (all, true)) ∧ (laws_yRows.f k all all = some true) ∧ (impl_CountFoldings.f k n = some (cnt, true)) ∧ (impl_CountOnTop.f k n = some (tp, true)) ∧ (impl_AllSemis.f k n = some (sem, true)) ∧ ((all.length : Int) = cnt ∧ cnt = wrap64 (n * tp) ∧ (sem.length : Int) = tp) ∧ (all.length ≤ 2000 ∧ (∀ j : Nat, j < all.length → impl_IsFolding.f k (rd_L3 all (j : Int)) = some (true, true)) ∧ ∀ j : Nat, j + 1 < all.length → laws_yLess.f k (rd_L3 all (j : Int)) (rd_L3 all ((j + 1 : Nat) : Int)) = some true) ∧ (spec_DrawFoldingsOnTop.f l1 = some m) ∧ (impl_FoldingsOnTop.f k m = some (top, tb)) ∧ (spec_FoldingsOnTop.f k m = some (top, tb)) ∧ (impl_CountOnTop.f k m = some (tc, tb)) ∧ (spec_CountOnTop.f k m = some (tc, tb)) ∧ (impl_CountFoldings.f k m = some (tw, tb)) ∧ (spec_CountFoldings.f k m = some (tw, tb)) ∧ (laws_yRows.f k top top = some true) ∧ ((top.length : Int) = tc) ∧ (top.length ≤ 2000 ∧ ∀ j : Nat, j < top.length → 0 < (rd_L3 top (j : Int)).length ∧ rd (rd_L3 top (j : Int)) 0 = 0) ∧ (spec_DrawFoldingText.f k l1 = some x) ∧ (impl_FoldingText.f k x = some (s_, false)) ∧ (spec_FoldingText.f k x = some (s_, false)) ∧ (spec_DrawParseFolding.f k l1 = some t) ∧ (impl_ParseFolding.f k t = some (y, true)) ∧ (spec_ParseFolding.f k t = some (y, true)) ∧ (laws_ySame.f k y y = some true) ∧ (impl_FoldingText.f k y = some (t, true))
set_option maxHeartbeats 16000000 in
set_option maxRecDepth 100000 in
theorem c_true_false_true (k : Nat) (l0 : List Int) (l1 : List Int) (A0 : Option Addr) (c0 : Nat) (A1 : Option Addr) (c1 : Nat) (n : Int) (all : List (List Int)) (cnt : Int) (tp : Int) (sem : List (List Int)) (m : Int) (top : List (List Int)) (tb : Bool) (tc : Int) (tw : Int) (x : List Int) (s_ : ByteArray) (t : ByteArray) (y : List Int) (w : World) (hr0 : Kd.C (Kd.int .u8) w A0 l0.length l0) (hc0 : l0.length ≤ c0) (hr1 : Kd.C (Kd.int .u8) w A1 l1.length l1) (hc1 : l1.length ≤ c1)
    (HF : (laws_big.f l0 l1 = some false) ∧ (spec_DrawAllFoldings.f l0 = some n) ∧ (impl_AllFoldings.f k n = some (all, true)) ∧ (spec_AllFoldings.f k n = some (all, true)) ∧ (laws_yRows.f k all all = some true) ∧ (impl_CountFoldings.f k n = some (cnt, true)) ∧ (impl_CountOnTop.f k n = some (tp, true)) ∧ (impl_AllSemis.f k n = some (sem, true)) ∧ ((all.length : Int) = cnt ∧ cnt = wrap64 (n * tp) ∧ (sem.length : Int) = tp) ∧ (all.length ≤ 2000 ∧ (∀ j : Nat, j < all.length → impl_IsFolding.f k (rd_L3 all (j : Int)) = some (true, true)) ∧ ∀ j : Nat, j + 1 < all.length → laws_yLess.f k (rd_L3 all (j : Int)) (rd_L3 all ((j + 1 : Nat) : Int)) = some true) ∧ (spec_DrawFoldingsOnTop.f l1 = some m) ∧ (impl_FoldingsOnTop.f k m = some (top, tb)) ∧ (spec_FoldingsOnTop.f k m = some (top, tb)) ∧ (impl_CountOnTop.f k m = some (tc, tb)) ∧ (spec_CountOnTop.f k m = some (tc, tb)) ∧ (impl_CountFoldings.f k m = some (tw, tb)) ∧ (spec_CountFoldings.f k m = some (tw, tb)) ∧ (laws_yRows.f k top top = some true) ∧ ((top.length : Int) = tc) ∧ (top.length ≤ 2000 ∧ ∀ j : Nat, j < top.length → 0 < (rd_L3 top (j : Int)).length ∧ rd (rd_L3 top (j : Int)) 0 = 0) ∧ (spec_DrawFoldingText.f k l1 = some x) ∧ (impl_FoldingText.f k x = some (s_, false)) ∧ (spec_FoldingText.f k x = some (s_, false)) ∧ (spec_DrawParseFolding.f k l1 = some t) ∧ (impl_ParseFolding.f k t = some (y, true)) ∧ (spec_ParseFolding.f k t = some (y, true)) ∧ (laws_ySame.f k y y = some true) ∧ (impl_FoldingText.f k y = some (t, true))) :
    Calls Tryz.prog 3 #[.slice A0 l0.length c0, .slice A1 l1.length c1] w fun e w' => e = .returned (.bool true) ∧ Below w.heap.size w w' := by
  obtain ⟨F1, F2, F3, F4, F5, F6, F7, F8, HNum, HAll, F11, F12, F13, F14, F15, F16, F17, F18, HTc, HTop, F21, F22, F23, F24, F25, F26, F27, F28⟩ := HF
  have HP0 := Aside0.mk (show l0.length = l0.length ∧ l0.length ≤ c0 ∧ _ from ⟨rfl, hc0, hr0⟩)
  clear hr0 hc0
  have HP1 := Aside0.mk (show l1.length = l1.length ∧ l1.length ≤ c1 ∧ _ from ⟨rfl, hc1, hr1⟩)
  clear hr1 hc1
  have AF1 := Aside0.mk F1
  clear F1
  have AF2 := Aside0.mk F2
  clear F2
  have AF3 := Aside0.mk F3
  clear F3
  have AF4 := Aside0.mk F4
  clear F4
  have AF5 := Aside0.mk F5
  clear F5
  have AF6 := Aside0.mk F6
  clear F6
  have AF7 := Aside0.mk F7
  clear F7
  have AF8 := Aside0.mk F8
  clear F8
  have AHNum := Aside0.mk HNum
  clear HNum
  have AHAll := Aside0.mk HAll
  clear HAll
  have AF11 := Aside0.mk F11
  clear F11
  have AF12 := Aside0.mk F12
  clear F12
  have AF13 := Aside0.mk F13
  clear F13
  have AF14 := Aside0.mk F14
  clear F14
  have AF15 := Aside0.mk F15
  clear F15
  have AF16 := Aside0.mk F16
  clear F16
  have AF17 := Aside0.mk F17
  clear F17
  have AF18 := Aside0.mk F18
  clear F18
  have AHTc := Aside0.mk HTc
  clear HTc
  have AHTop := Aside0.mk HTop
  clear HTop
  have AF21 := Aside0.mk F21
  clear F21
  have AF22 := Aside0.mk F22
  clear F22
  have AF23 := Aside0.mk F23
  clear F23
  have AF24 := Aside0.mk F24
  clear F24
  have AF25 := Aside0.mk F25
  clear F25
  have AF26 := Aside0.mk F26
  clear F26
  have AF27 := Aside0.mk F27
  clear F27
  have AF28 := Aside0.mk F28
  clear F28
  have b1 : ((all.length : Int) != cnt) = false := by rw [AHNum.out.1]; exact bne_self_eq_false _
  have b2 : (cnt != wrap64 (n * tp)) = false := by rw [← AHNum.out.2.1]; exact bne_self_eq_false _
  have b3 : ((sem.length : Int) != tp) = false := by rw [AHNum.out.2.2]; exact bne_self_eq_false _
  have b4 : (tb != tb) = false := bne_self_eq_false tb
  have b5 : (tc != tc) = false := bne_self_eq_false tc
  have b6 : (tw != tw) = false := bne_self_eq_false tw
  have b7 : ((top.length : Int) != tc) = false := by rw [AHTc.out]; exact bne_self_eq_false _
  have b8 : (s_.toList != s_.toList) = false := bne_self_eq_false _
  have b9 : (t.toList == t.toList) = true := beq_self_eq_true _
  have HC := Aside0.mk (show Ch [] w from trivial)
  have K0 := Aside0.mk True.intro
  go_enter Tryz.func3, Tryz.ntmps3
  go_wp2_with (first
    | (go_at_call 12; clear K7; (with_reducible refine (impl_AllSemis.calls k n sem true _ AF8.out).mono ?_); rintro e w8_ ⟨v7_v0_, rfl, ho0, hb⟩; obtain ⟨Ar7_0, cr7_0, rfl⟩ := Kd.S_slice ho0; have CF7_0 := Aside0.mk (Kd.S_reads' ho0); replace HC := stp HC hb; clear hb ho0; have K8 := tt_)
    | (go_at_call 11; clear K6; (with_reducible refine (impl_CountOnTop.calls k n tp true _ AF7.out).mono ?_); rintro e w7_ ⟨rfl, hb⟩; replace HC := stp HC hb; clear hb; have K7 := tt_)
    | (go_at_call 10; clear K5; (with_reducible refine (impl_CountFoldings.calls k n cnt true _ AF6.out).mono ?_); rintro e w6_ ⟨rfl, hb⟩; replace HC := stp HC hb; clear hb; have K6 := tt_)
    | (go_at_call 9; clear K4; (with_reducible refine (laws_yRows.calls k _ _ all _ _ all true _ (Kd.C_below CF2_0.out.2.2 HC.out.hd) CF2_0.out.2.1 CF3_0.out.2.2 CF3_0.out.2.1 AF5.out).mono ?_); rintro e w5_ ⟨rfl, hd⟩; have hb := drawn_below hd; clear hd; replace HC := stp HC hb; clear hb; have K5 := tt_)
    | (go_at_call 8; clear K3; (with_reducible refine (spec_AllFoldings.calls k n all true _ AF4.out).mono ?_); rintro e w4_ ⟨v3_v0_, rfl, ho0, hb⟩; obtain ⟨Ar3_0, cr3_0, rfl⟩ := Kd.N_slice ho0; have CF3_0 := Aside0.mk (Kd.N_reads' ho0); replace HC := stp HC hb; clear hb ho0; have K4 := tt_)
    | (go_at_call 7; clear K2; (with_reducible refine (impl_AllFoldings.calls k n all true _ AF3.out).mono ?_); rintro e w3_ ⟨v2_v0_, rfl, ho0, hb⟩; obtain ⟨Ar2_0, cr2_0, rfl⟩ := Kd.S_slice ho0; have CF2_0 := Aside0.mk (Kd.S_reads' ho0); replace HC := stp HC hb; clear hb ho0; have K3 := tt_)
    | (go_at_call 6; clear K1; (with_reducible refine (spec_DrawAllFoldings.calls _ _ l0 n _ (Kd.C_below HP0.out.2.2 HC.out.hd) HP0.out.2.1 AF2.out).mono ?_); rintro e w2_ ⟨rfl, hb⟩; replace HC := stp HC hb; clear hb; have K2 := tt_)
    | (go_at_call 5; clear K0; (with_reducible refine (laws_big.calls _ _ l0 _ _ l1 false _ HP0.out.2.2 HP0.out.2.1 HP1.out.2.2 HP1.out.2.1 AF1.out).mono ?_); rintro e w1_ ⟨rfl, hd⟩; have hb := drawn_below hd; clear hd; replace HC := stp HC hb; clear hb; have K1 := tt_))
  go_loopg [120] all.length (fun kq v120 w' => ∃ (i : Nat), v120 = .int .i64 i ∧ i ≤ all.length ∧ all.length - i ≤ kq ∧ Aside0 (Below w8_.heap.size w8_ w'))
  case atStart => exact ⟨0, by go_num, Nat.zero_le _, by omega, ⟨Below.refl _ _⟩⟩
  case round =>
    obtain ⟨i, rfl, hi, hg, HBL⟩ := hrel
    replace HC := stp HC HBL.out
    have K9 := tt_
    clear K8
    by_cases hlt : i < all.length
    · have hltz : (i : Int) < (all.length : Int) := by omega
      have hlen := AHAll.out.1
      obtain ⟨ad1, Ae1, ce1, ead1, hx1, hle1, hi1⟩ := at_L3 (Kd.C_below CF2_0.out.2.2 HC.out.t4.tl.hd) (i : Int) (by omega) (by omega)
      simp only [Int.toNat_natCast] at hx1
      have CE1 := Aside0.mk hi1
      have CL1 := Aside0.mk hle1
      clear hi1 hle1
      cases ead1
      have hi1 : i + 1 ≤ all.length := hlt
      have p5 := eq_true (show 0 ≤ (i : Int) by omega)
      have q5 := eq_true hltz
      by_cases h0 : i = 0
      · have c0 : ((0 : Int) < (i : Int)) = False := eq_false (by omega)
        have c1 : (0 < i) = False := eq_false (by omega)
        have hlb : all.length ≤ 2000 := hlen
        clear hlen h0
        go_wp2_with (first
          | (go_at_call 13; (with_reducible refine (impl_IsFolding.calls k _ _ (rd_L3 all (i : Int)) true true _ CE1.out CL1.out (AHAll.out.2.1 i hlt)).mono ?_); rintro e w_ ⟨rfl, hb⟩; have HB2 := Aside0.mk (below_step HBL.out hb); clear hb))
        go_roundg (all.length - (i + 1))
        case measure => exact Nat.lt_of_lt_of_le (Nat.sub_lt_sub_left hlt (Nat.lt_succ_self i)) hg
        case rel => exact ⟨i + 1, by go_num, hi1, Nat.le_refl _, HB2⟩
      · obtain ⟨j, hj⟩ : ∃ j, i = j + 1 := ⟨i - 1, by omega⟩
        have hjl : j < all.length := by omega
        obtain ⟨ad2, Ae2, ce2, ead2, hx2, hle2, hi2⟩ := at_L3 (Kd.C_below CF2_0.out.2.2 HC.out.t4.tl.hd) (j : Int) (by omega) (by omega)
        simp only [Int.toNat_natCast] at hx2
        have CE2 := Aside0.mk hi2
        have CL2 := Aside0.mk hle2
        clear hi2 hle2
        cases ead2
        have HLS := Aside0.mk (show laws_yLess.f k (rd_L3 all (j : Int)) (rd_L3 all (i : Int)) = some true by
          have h_ := AHAll.out.2.2 j (by omega)
          rw [← hj] at h_
          exact h_)
        have hw1 : IntKind.i64.wrap ((i : Int) - 1) = (j : Int) := by rw [i64_w]; unfold wrap64; omega
        have c0 : ((0 : Int) < (i : Int)) = True := eq_true (by omega)
        have c1 : (0 < i) = True := eq_true (by omega)
        have p6 := eq_true (show 0 ≤ (j : Int) by omega)
        have q6 := eq_true (show (j : Int) < (all.length : Int) by omega)
        have hlb : all.length ≤ 2000 := hlen
        clear hj hlen
        go_wp2_with (first
          | (go_at_call 13; (with_reducible refine (impl_IsFolding.calls k _ _ (rd_L3 all (i : Int)) true true _ CE1.out CL1.out (AHAll.out.2.1 i hlt)).mono ?_); rintro e w_ ⟨rfl, hb⟩; have HB2 := Aside0.mk (below_step HBL.out hb); have CE3 := Aside0.mk (Kd.C_below CE1.out hb); have nC2 := Aside0.mk (Kd.C_below CE2.out hb); clear CE2; have CE2 := nC2; clear nC2 CE1; replace hx2 := (hb.cell (World.block_lt_of_cell? _ _ hx2)).trans hx2; clear hb)
          | (go_at_call 14; (with_reducible refine (laws_yLess.calls k _ _ (rd_L3 all (j : Int)) _ _ (rd_L3 all (i : Int)) true _ CE2.out CL2.out CE3.out CL1.out HLS.out).mono ?_); rintro e w_ ⟨rfl, hd⟩; have HB3 := Aside0.mk (below_step HB2.out (drawn_below hd)); clear HB2; have HB2 := HB3; clear HB3 hd))
        go_roundg (all.length - (i + 1))
        case measure => exact Nat.lt_of_lt_of_le (Nat.sub_lt_sub_left hlt (Nat.lt_succ_self i)) hg
        case rel => exact ⟨i + 1, by go_num, hi1, Nat.le_refl _, HB2⟩
    · have hltz : ¬ ((i : Int) < (all.length : Int)) := by omega
      obtain rfl : i = all.length := by omega
      clear hi hg HBL
      go_wp2_with (first
        | (go_at_call 9; clear K16; (with_reducible refine (laws_yRows.calls k _ _ top _ _ top true _ (Kd.C_below CF10_0.out.2.2 HC.out.t4.hd) CF10_0.out.2.1 (Kd.C_below CF11_0.out.2.2 HC.out.tl.tl.tl.hd) CF11_0.out.2.1 AF18.out).mono ?_); rintro e w17_ ⟨rfl, hd⟩; have hb := drawn_below hd; clear hd; replace HC := stp HC hb; clear hb; have K17 := tt_)
        | (go_at_call 19; clear K15; (with_reducible refine (spec_CountFoldings.calls k m tw tb _ AF17.out).mono ?_); rintro e w16_ ⟨rfl, hb⟩; replace HC := stp HC hb; clear hb; have K16 := tt_)
        | (go_at_call 10; clear K14; (with_reducible refine (impl_CountFoldings.calls k m tw tb _ AF16.out).mono ?_); rintro e w15_ ⟨rfl, hb⟩; replace HC := stp HC hb; clear hb; have K15 := tt_)
        | (go_at_call 18; clear K13; (with_reducible refine (spec_CountOnTop.calls k m tc tb _ AF15.out).mono ?_); rintro e w14_ ⟨rfl, hb⟩; replace HC := stp HC hb; clear hb; have K14 := tt_)
        | (go_at_call 11; clear K12; (with_reducible refine (impl_CountOnTop.calls k m tc tb _ AF14.out).mono ?_); rintro e w13_ ⟨rfl, hb⟩; replace HC := stp HC hb; clear hb; have K13 := tt_)
        | (go_at_call 17; clear K11; (with_reducible refine (spec_FoldingsOnTop.calls k m top tb _ AF13.out).mono ?_); rintro e w12_ ⟨v11_v0_, rfl, ho0, hb⟩; obtain ⟨Ar11_0, cr11_0, rfl⟩ := Kd.N_slice ho0; have CF11_0 := Aside0.mk (Kd.N_reads' ho0); replace HC := stp HC hb; clear hb ho0; have K12 := tt_)
        | (go_at_call 16; clear K10; (with_reducible refine (impl_FoldingsOnTop.calls k m top tb _ AF12.out).mono ?_); rintro e w11_ ⟨v10_v0_, rfl, ho0, hb⟩; obtain ⟨Ar10_0, cr10_0, rfl⟩ := Kd.S_slice ho0; have CF10_0 := Aside0.mk (Kd.S_reads' ho0); replace HC := stp HC hb; clear hb ho0; have K11 := tt_)
        | (go_at_call 15; clear K9; (with_reducible refine (spec_DrawFoldingsOnTop.calls _ _ l1 m _ (Kd.C_below HP1.out.2.2 HC.out.t4.t4.hd) HP1.out.2.1 AF11.out).mono ?_); rintro e w10_ ⟨rfl, hb⟩; replace HC := stp HC hb; clear hb; have K10 := tt_))
      go_loopg [225] top.length (fun kq v225 w' => ∃ (i : Nat), v225 = .int .i64 i ∧ i ≤ top.length ∧ top.length - i ≤ kq ∧ Aside0 (Below w17_.heap.size w17_ w'))
      case atStart => exact ⟨0, by go_num, Nat.zero_le _, by omega, ⟨Below.refl _ _⟩⟩
      case round =>
        obtain ⟨i, rfl, hi, hg, HBL⟩ := hrel
        replace HC := stp HC HBL.out
        have K18 := tt_
        clear K17
        by_cases hlt : i < top.length
        · have hltz : (i : Int) < (top.length : Int) := by omega
          have hlen := AHTop.out.1
          obtain ⟨ad1, Ae1, ce1, ead1, hx1, hle1, hi1⟩ := at_L3 (Kd.C_below CF10_0.out.2.2 HC.out.t4.tl.tl.hd) (i : Int) (by omega) (by omega)
          simp only [Int.toNat_natCast] at hx1
          have CE1 := Aside0.mk hi1
          have CL1 := Aside0.mk hle1
          clear hi1 hle1
          cases ead1
          obtain ⟨hpos, hz⟩ := AHTop.out.2 i hlt
          obtain ⟨ad2, ead2, hx2⟩ := Kd.at_int CE1.out 0 (by omega) (by omega)
          subst ead2
          rw [hz] at hx2
          simp only [Int.toNat_zero] at hx2
          have hx3 : wr.cell? ad2 = some (.int .i64 0) := by
            have e0 : ad2.add 0 = ad2 := by cases ad2; simp [Addr.add]
            rw [← e0]; exact hx2
          have q6 := eq_true (show (0 : Int) < ((rd_L3 top (i : Int)).length : Int) by omega)
          have q7 := eq_true hpos
          have hi1 : i + 1 ≤ top.length := hlt
          have p5 := eq_true (show 0 ≤ (i : Int) by omega)
          have q5 := eq_true hltz
          have hlb : top.length ≤ 2000 := hlen
          clear hlen hpos hz hx2
          go_wp2
          go_roundg (top.length - (i + 1))
          case measure => exact Nat.lt_of_lt_of_le (Nat.sub_lt_sub_left hlt (Nat.lt_succ_self i)) hg
          case rel => exact ⟨i + 1, by go_num, hi1, Nat.le_refl _, HBL⟩
        · have hltz : ¬ ((i : Int) < (top.length : Int)) := by omega
          obtain rfl : i = top.length := by omega
          clear hi hg HBL
          go_wp2_with (first
            | (go_at_call 21; clear K25; (with_reducible refine (impl_FoldingText.calls k _ _ y t true _ (Kd.C_below CF22_0.out.2.2 HC.out.tl.hd) CF22_0.out.2.1 AF28.out).mono ?_); rintro e w26_ ⟨rfl, hb⟩; replace HC := stp HC hb; clear hb; have K26 := tt_)
            | (go_at_call 24; clear K24; (with_reducible refine (laws_ySame.calls k _ _ y _ _ y true _ (Kd.C_below CF22_0.out.2.2 HC.out.hd) CF22_0.out.2.1 CF23_0.out.2.2 CF23_0.out.2.1 AF27.out).mono ?_); rintro e w25_ ⟨rfl, hd⟩; have hb := drawn_below hd; clear hd; replace HC := stp HC hb; clear hb; have K25 := tt_)
            | (go_at_call 26; clear K23; (with_reducible refine (spec_ParseFolding.calls k t y true _ AF26.out).mono ?_); rintro e w24_ ⟨v23_v0_, rfl, ho0, hb⟩; obtain ⟨Ar23_0, cr23_0, rfl⟩ := Kd.R_slice ho0; have CF23_0 := Aside0.mk (Kd.R_reads' ho0); replace HC := stp HC hb; clear hb ho0; have K24 := tt_)
            | (go_at_call 23; clear K22; (with_reducible refine (impl_ParseFolding.calls k t y true _ AF25.out).mono ?_); rintro e w23_ ⟨v22_v0_, rfl, ho0, hb⟩; obtain ⟨Ar22_0, cr22_0, rfl⟩ := Kd.R_slice ho0; have CF22_0 := Aside0.mk (Kd.R_reads' ho0); replace HC := stp HC hb; clear hb ho0; have K23 := tt_)
            | (go_at_call 25; clear K21; (with_reducible refine (spec_DrawParseFolding.calls k _ _ l1 t _ (Kd.C_below HP1.out.2.2 HC.out.t16.t4.hd) HP1.out.2.1 AF24.out).mono ?_); rintro e w22_ ⟨rfl, hb⟩; replace HC := stp HC hb; clear hb; have K22 := tt_)
            | (go_at_call 22; clear K20; (with_reducible refine (spec_FoldingText.calls k _ _ x s_ false _ (Kd.C_below CF18_0.out.2.2 HC.out.hd) CF18_0.out.2.1 AF23.out).mono ?_); rintro e w21_ ⟨rfl, hb⟩; replace HC := stp HC hb; clear hb; have K21 := tt_)
            | (go_at_call 21; clear K19; (with_reducible refine (impl_FoldingText.calls k _ _ x s_ false _ CF18_0.out.2.2 CF18_0.out.2.1 AF22.out).mono ?_); rintro e w20_ ⟨rfl, hb⟩; replace HC := stp HC hb; clear hb; have K20 := tt_)
            | (go_at_call 20; clear K18; (with_reducible refine (spec_DrawFoldingText.calls k _ _ l1 x _ (Kd.C_below HP1.out.2.2 HC.out.t16.tl.hd) HP1.out.2.1 AF21.out).mono ?_); rintro e w19_ ⟨v18_v0_, rfl, ho0, hb⟩; obtain ⟨Ar18_0, cr18_0, rfl⟩ := Kd.R_slice ho0; have CF18_0 := Aside0.mk (Kd.R_reads' ho0); replace HC := stp HC hb; clear hb ho0; have K19 := tt_))
          go_ret
          exact ⟨rfl, HC.out.tl.tl.tl.tl.tl.tl.tl.tl.tl.tl.tl.tl.tl.tl.tl.tl.tl.tl.tl.tl.tl.tl.tl.tl.tl.hd⟩
def c_true_true_false.Told (k : Nat) (l0 : List Int) (l1 : List Int) : Prop := ∃ (n : Int) (all : List (List Int)) (cnt : Int) (tp : Int) (sem : List (List Int)) (m : Int) (top : List (List Int)) (tb : Bool) (tc : Int) (tw : Int) (x : List Int) (s_ : ByteArray) (t : ByteArray) (y : List Int), (laws_big.f l0 l1 = some false) ∧ (spec_DrawAllFoldings.f l0 = some n) ∧ (impl_AllFoldings.f k n = some (all, true)) ∧ (spec_AllFoldings.f k n = some (all, true)) ∧ (laws_yRows.f k all all = some true) ∧ (impl_CountFoldings.f k n = some (cnt, true)) ∧ (impl_CountOnTop.f k n = some (tp, true)) ∧ (impl_AllSemis.f k n = some (sem, true)) ∧ ((all.length : Int) = cnt ∧ cnt = wrap64 (n * tp) ∧ (sem.length : Int) = tp) ∧ (all.length ≤ 2000 ∧ (∀ j : Nat, j < all.length → impl_IsFolding.f k (rd_L3 all (j : Int)) = some (true, true)) ∧ ∀ j : Nat, j + 1 < all.length → laws_yLess.f k (rd_L3 all (j : Int)) (rd_L3 all ((j + 1 : Nat) : Int)) = some true) ∧ (spec_DrawFoldingsOnTop.f l1 = some m) ∧ (impl_FoldingsOnTop.f k m = some (top, tb)) ∧ (spec_FoldingsOnTop.f k m = some (top, tb)) ∧ (impl_CountOnTop.f k m = some (tc, tb)) ∧ (spec_CountOnTop.f k m = some (tc, tb)) ∧ (impl_CountFoldings.f k m = some (tw, tb)) ∧ (spec_CountFoldings.f k m = some (tw, tb)) ∧ (laws_yRows.f k top top = some true) ∧ ((top.length : Int) = tc) ∧ (top.length ≤ 2000 ∧ ∀ j : Nat, j < top.length → 0 < (rd_L3 top (j : Int)).length ∧ rd (rd_L3 top (j : Int)) 0 = 0) ∧ (spec_DrawFoldingText.f k l1 = some x) ∧ (impl_FoldingText.f k x = some (s_, true)) ∧ (spec_FoldingText.f k x = some (s_, true)) ∧ (impl_ParseFolding.f k s_ = some (x, true)) ∧ (laws_ySame.f k x x = some true) ∧ (spec_DrawParseFolding.f k l1 = some t) ∧ (impl_ParseFolding.f k t = some (y, false)) ∧ (spec_ParseFolding.f k t = some (y, false)) ∧ (laws_ySame.f k y y = some true)
set_option maxHeartbeats 16000000 in
set_option maxRecDepth 100000 in
theorem c_true_true_false (k : Nat) (l0 : List Int) (l1 : List Int) (A0 : Option Addr) (c0 : Nat) (A1 : Option Addr) (c1 : Nat) (n : Int) (all : List (List Int)) (cnt : Int) (tp : Int) (sem : List (List Int)) (m : Int) (top : List (List Int)) (tb : Bool) (tc : Int) (tw : Int) (x : List Int) (s_ : ByteArray) (t : ByteArray) (y : List Int) (w : World) (hr0 : Kd.C (Kd.int .u8) w A0 l0.length l0) (hc0 : l0.length ≤ c0) (hr1 : Kd.C (Kd.int .u8) w A1 l1.length l1) (hc1 : l1.length ≤ c1)
    (HF : (laws_big.f l0 l1 = some false) ∧ (spec_DrawAllFoldings.f l0 = some n) ∧ (impl_AllFoldings.f k n = some (all, true)) ∧ (spec_AllFoldings.f k n = some (all, true)) ∧ (laws_yRows.f k all all = some true) ∧ (impl_CountFoldings.f k n = some (cnt, true)) ∧ (impl_CountOnTop.f k n = some (tp, true)) ∧ (impl_AllSemis.f k n = some (sem, true)) ∧ ((all.length : Int) = cnt ∧ cnt = wrap64 (n * tp) ∧ (sem.length : Int) = tp) ∧ (all.length ≤ 2000 ∧ (∀ j : Nat, j < all.length → impl_IsFolding.f k (rd_L3 all (j : Int)) = some (true, true)) ∧ ∀ j : Nat, j + 1 < all.length → laws_yLess.f k (rd_L3 all (j : Int)) (rd_L3 all ((j + 1 : Nat) : Int)) = some true) ∧ (spec_DrawFoldingsOnTop.f l1 = some m) ∧ (impl_FoldingsOnTop.f k m = some (top, tb)) ∧ (spec_FoldingsOnTop.f k m = some (top, tb)) ∧ (impl_CountOnTop.f k m = some (tc, tb)) ∧ (spec_CountOnTop.f k m = some (tc, tb)) ∧ (impl_CountFoldings.f k m = some (tw, tb)) ∧ (spec_CountFoldings.f k m = some (tw, tb)) ∧ (laws_yRows.f k top top = some true) ∧ ((top.length : Int) = tc) ∧ (top.length ≤ 2000 ∧ ∀ j : Nat, j < top.length → 0 < (rd_L3 top (j : Int)).length ∧ rd (rd_L3 top (j : Int)) 0 = 0) ∧ (spec_DrawFoldingText.f k l1 = some x) ∧ (impl_FoldingText.f k x = some (s_, true)) ∧ (spec_FoldingText.f k x = some (s_, true)) ∧ (impl_ParseFolding.f k s_ = some (x, true)) ∧ (laws_ySame.f k x x = some true) ∧ (spec_DrawParseFolding.f k l1 = some t) ∧ (impl_ParseFolding.f k t = some (y, false)) ∧ (spec_ParseFolding.f k t = some (y, false)) ∧ (laws_ySame.f k y y = some true)) :
    Calls Tryz.prog 3 #[.slice A0 l0.length c0, .slice A1 l1.length c1] w fun e w' => e = .returned (.bool true) ∧ Below w.heap.size w w' := by
  obtain ⟨F1, F2, F3, F4, F5, F6, F7, F8, HNum, HAll, F11, F12, F13, F14, F15, F16, F17, F18, HTc, HTop, F21, F22, F23, F24, F25, F26, F27, F28, F29⟩ := HF
  have HP0 := Aside0.mk (show l0.length = l0.length ∧ l0.length ≤ c0 ∧ _ from ⟨rfl, hc0, hr0⟩)
  clear hr0 hc0
  have HP1 := Aside0.mk (show l1.length = l1.length ∧ l1.length ≤ c1 ∧ _ from ⟨rfl, hc1, hr1⟩)
  clear hr1 hc1
  have AF1 := Aside0.mk F1
  clear F1
  have AF2 := Aside0.mk F2
  clear F2
  have AF3 := Aside0.mk F3
  clear F3
  have AF4 := Aside0.mk F4
  clear F4
  have AF5 := Aside0.mk F5
  clear F5
  have AF6 := Aside0.mk F6
  clear F6
  have AF7 := Aside0.mk F7
  clear F7
  have AF8 := Aside0.mk F8
  clear F8
  have AHNum := Aside0.mk HNum
  clear HNum
  have AHAll := Aside0.mk HAll
  clear HAll
  have AF11 := Aside0.mk F11
  clear F11
  have AF12 := Aside0.mk F12
  clear F12
  have AF13 := Aside0.mk F13
  clear F13
  have AF14 := Aside0.mk F14
  clear F14
  have AF15 := Aside0.mk F15
  clear F15
  have AF16 := Aside0.mk F16
  clear F16
  have AF17 := Aside0.mk F17
  clear F17
  have AF18 := Aside0.mk F18
  clear F18
  have AHTc := Aside0.mk HTc
  clear HTc
  have AHTop := Aside0.mk HTop
  clear HTop
  have AF21 := Aside0.mk F21
  clear F21
  have AF22 := Aside0.mk F22
  clear F22
  have AF23 := Aside0.mk F23
  clear F23
  have AF24 := Aside0.mk F24
  clear F24
  have AF25 := Aside0.mk F25
  clear F25
  have AF26 := Aside0.mk F26
  clear F26
  have AF27 := Aside0.mk F27
  clear F27
  have AF28 := Aside0.mk F28
  clear F28
  have AF29 := Aside0.mk F29
  clear F29
  have b1 : ((all.length : Int) != cnt) = false := by rw [AHNum.out.1]; exact bne_self_eq_false _
  have b2 : (cnt != wrap64 (n * tp)) = false := by rw [← AHNum.out.2.1]; exact bne_self_eq_false _
  have b3 : ((sem.length : Int) != tp) = false := by rw [AHNum.out.2.2]; exact bne_self_eq_false _
  have b4 : (tb != tb) = false := bne_self_eq_false tb
  have b5 : (tc != tc) = false := bne_self_eq_false tc
  have b6 : (tw != tw) = false := bne_self_eq_false tw
  have b7 : ((top.length : Int) != tc) = false := by rw [AHTc.out]; exact bne_self_eq_false _
  have b8 : (s_.toList != s_.toList) = false := bne_self_eq_false _
  have b9 : (t.toList == t.toList) = true := beq_self_eq_true _
  have HC := Aside0.mk (show Ch [] w from trivial)
  have K0 := Aside0.mk True.intro
  go_enter Tryz.func3, Tryz.ntmps3
  go_wp2_with (first
    | (go_at_call 12; clear K7; (with_reducible refine (impl_AllSemis.calls k n sem true _ AF8.out).mono ?_); rintro e w8_ ⟨v7_v0_, rfl, ho0, hb⟩; obtain ⟨Ar7_0, cr7_0, rfl⟩ := Kd.S_slice ho0; have CF7_0 := Aside0.mk (Kd.S_reads' ho0); replace HC := stp HC hb; clear hb ho0; have K8 := tt_)
    | (go_at_call 11; clear K6; (with_reducible refine (impl_CountOnTop.calls k n tp true _ AF7.out).mono ?_); rintro e w7_ ⟨rfl, hb⟩; replace HC := stp HC hb; clear hb; have K7 := tt_)
    | (go_at_call 10; clear K5; (with_reducible refine (impl_CountFoldings.calls k n cnt true _ AF6.out).mono ?_); rintro e w6_ ⟨rfl, hb⟩; replace HC := stp HC hb; clear hb; have K6 := tt_)
    | (go_at_call 9; clear K4; (with_reducible refine (laws_yRows.calls k _ _ all _ _ all true _ (Kd.C_below CF2_0.out.2.2 HC.out.hd) CF2_0.out.2.1 CF3_0.out.2.2 CF3_0.out.2.1 AF5.out).mono ?_); rintro e w5_ ⟨rfl, hd⟩; have hb := drawn_below hd; clear hd; replace HC := stp HC hb; clear hb; have K5 := tt_)
    | (go_at_call 8; clear K3; (with_reducible refine (spec_AllFoldings.calls k n all true _ AF4.out).mono ?_); rintro e w4_ ⟨v3_v0_, rfl, ho0, hb⟩; obtain ⟨Ar3_0, cr3_0, rfl⟩ := Kd.N_slice ho0; have CF3_0 := Aside0.mk (Kd.N_reads' ho0); replace HC := stp HC hb; clear hb ho0; have K4 := tt_)
    | (go_at_call 7; clear K2; (with_reducible refine (impl_AllFoldings.calls k n all true _ AF3.out).mono ?_); rintro e w3_ ⟨v2_v0_, rfl, ho0, hb⟩; obtain ⟨Ar2_0, cr2_0, rfl⟩ := Kd.S_slice ho0; have CF2_0 := Aside0.mk (Kd.S_reads' ho0); replace HC := stp HC hb; clear hb ho0; have K3 := tt_)
    | (go_at_call 6; clear K1; (with_reducible refine (spec_DrawAllFoldings.calls _ _ l0 n _ (Kd.C_below HP0.out.2.2 HC.out.hd) HP0.out.2.1 AF2.out).mono ?_); rintro e w2_ ⟨rfl, hb⟩; replace HC := stp HC hb; clear hb; have K2 := tt_)
    | (go_at_call 5; clear K0; (with_reducible refine (laws_big.calls _ _ l0 _ _ l1 false _ HP0.out.2.2 HP0.out.2.1 HP1.out.2.2 HP1.out.2.1 AF1.out).mono ?_); rintro e w1_ ⟨rfl, hd⟩; have hb := drawn_below hd; clear hd; replace HC := stp HC hb; clear hb; have K1 := tt_))
  go_loopg [120] all.length (fun kq v120 w' => ∃ (i : Nat), v120 = .int .i64 i ∧ i ≤ all.length ∧ all.length - i ≤ kq ∧ Aside0 (Below w8_.heap.size w8_ w'))
  case atStart => exact ⟨0, by go_num, Nat.zero_le _, by omega, ⟨Below.refl _ _⟩⟩
  case round =>
    obtain ⟨i, rfl, hi, hg, HBL⟩ := hrel
    replace HC := stp HC HBL.out
    have K9 := tt_
    clear K8
    by_cases hlt : i < all.length
    · have hltz : (i : Int) < (all.length : Int) := by omega
      have hlen := AHAll.out.1
      obtain ⟨ad1, Ae1, ce1, ead1, hx1, hle1, hi1⟩ := at_L3 (Kd.C_below CF2_0.out.2.2 HC.out.t4.tl.hd) (i : Int) (by omega) (by omega)
      simp only [Int.toNat_natCast] at hx1
      have CE1 := Aside0.mk hi1
      have CL1 := Aside0.mk hle1
      clear hi1 hle1
      cases ead1
      have hi1 : i + 1 ≤ all.length := hlt
      have p5 := eq_true (show 0 ≤ (i : Int) by omega)
      have q5 := eq_true hltz
      by_cases h0 : i = 0
      · have c0 : ((0 : Int) < (i : Int)) = False := eq_false (by omega)
        have c1 : (0 < i) = False := eq_false (by omega)
        have hlb : all.length ≤ 2000 := hlen
        clear hlen h0
        go_wp2_with (first
          | (go_at_call 13; (with_reducible refine (impl_IsFolding.calls k _ _ (rd_L3 all (i : Int)) true true _ CE1.out CL1.out (AHAll.out.2.1 i hlt)).mono ?_); rintro e w_ ⟨rfl, hb⟩; have HB2 := Aside0.mk (below_step HBL.out hb); clear hb))
        go_roundg (all.length - (i + 1))
        case measure => exact Nat.lt_of_lt_of_le (Nat.sub_lt_sub_left hlt (Nat.lt_succ_self i)) hg
        case rel => exact ⟨i + 1, by go_num, hi1, Nat.le_refl _, HB2⟩
      · obtain ⟨j, hj⟩ : ∃ j, i = j + 1 := ⟨i - 1, by omega⟩
        have hjl : j < all.length := by omega
        obtain ⟨ad2, Ae2, ce2, ead2, hx2, hle2, hi2⟩ := at_L3 (Kd.C_below CF2_0.out.2.2 HC.out.t4.tl.hd) (j : Int) (by omega) (by omega)
        simp only [Int.toNat_natCast] at hx2
        have CE2 := Aside0.mk hi2
        have CL2 := Aside0.mk hle2
        clear hi2 hle2
        cases ead2
        have HLS := Aside0.mk (show laws_yLess.f k (rd_L3 all (j : Int)) (rd_L3 all (i : Int)) = some true by
          have h_ := AHAll.out.2.2 j (by omega)
          rw [← hj] at h_
          exact h_)
        have hw1 : IntKind.i64.wrap ((i : Int) - 1) = (j : Int) := by rw [i64_w]; unfold wrap64; omega
        have c0 : ((0 : Int) < (i : Int)) = True := eq_true (by omega)
        have c1 : (0 < i) = True := eq_true (by omega)
        have p6 := eq_true (show 0 ≤ (j : Int) by omega)
        have q6 := eq_true (show (j : Int) < (all.length : Int) by omega)
        have hlb : all.length ≤ 2000 := hlen
        clear hj hlen
        go_wp2_with (first
          | (go_at_call 13; (with_reducible refine (impl_IsFolding.calls k _ _ (rd_L3 all (i : Int)) true true _ CE1.out CL1.out (AHAll.out.2.1 i hlt)).mono ?_); rintro e w_ ⟨rfl, hb⟩; have HB2 := Aside0.mk (below_step HBL.out hb); have CE3 := Aside0.mk (Kd.C_below CE1.out hb); have nC2 := Aside0.mk (Kd.C_below CE2.out hb); clear CE2; have CE2 := nC2; clear nC2 CE1; replace hx2 := (hb.cell (World.block_lt_of_cell? _ _ hx2)).trans hx2; clear hb)
          | (go_at_call 14; (with_reducible refine (laws_yLess.calls k _ _ (rd_L3 all (j : Int)) _ _ (rd_L3 all (i : Int)) true _ CE2.out CL2.out CE3.out CL1.out HLS.out).mono ?_); rintro e w_ ⟨rfl, hd⟩; have HB3 := Aside0.mk (below_step HB2.out (drawn_below hd)); clear HB2; have HB2 := HB3; clear HB3 hd))
        go_roundg (all.length - (i + 1))
        case measure => exact Nat.lt_of_lt_of_le (Nat.sub_lt_sub_left hlt (Nat.lt_succ_self i)) hg
        case rel => exact ⟨i + 1, by go_num, hi1, Nat.le_refl _, HB2⟩
    · have hltz : ¬ ((i : Int) < (all.length : Int)) := by omega
      obtain rfl : i = all.length := by omega
      clear hi hg HBL
      go_wp2_with (first
        | (go_at_call 9; clear K16; (with_reducible refine (laws_yRows.calls k _ _ top _ _ top true _ (Kd.C_below CF10_0.out.2.2 HC.out.t4.hd) CF10_0.out.2.1 (Kd.C_below CF11_0.out.2.2 HC.out.tl.tl.tl.hd) CF11_0.out.2.1 AF18.out).mono ?_); rintro e w17_ ⟨rfl, hd⟩; have hb := drawn_below hd; clear hd; replace HC := stp HC hb; clear hb; have K17 := tt_)
        | (go_at_call 19; clear K15; (with_reducible refine (spec_CountFoldings.calls k m tw tb _ AF17.out).mono ?_); rintro e w16_ ⟨rfl, hb⟩; replace HC := stp HC hb; clear hb; have K16 := tt_)
        | (go_at_call 10; clear K14; (with_reducible refine (impl_CountFoldings.calls k m tw tb _ AF16.out).mono ?_); rintro e w15_ ⟨rfl, hb⟩; replace HC := stp HC hb; clear hb; have K15 := tt_)
        | (go_at_call 18; clear K13; (with_reducible refine (spec_CountOnTop.calls k m tc tb _ AF15.out).mono ?_); rintro e w14_ ⟨rfl, hb⟩; replace HC := stp HC hb; clear hb; have K14 := tt_)
        | (go_at_call 11; clear K12; (with_reducible refine (impl_CountOnTop.calls k m tc tb _ AF14.out).mono ?_); rintro e w13_ ⟨rfl, hb⟩; replace HC := stp HC hb; clear hb; have K13 := tt_)
        | (go_at_call 17; clear K11; (with_reducible refine (spec_FoldingsOnTop.calls k m top tb _ AF13.out).mono ?_); rintro e w12_ ⟨v11_v0_, rfl, ho0, hb⟩; obtain ⟨Ar11_0, cr11_0, rfl⟩ := Kd.N_slice ho0; have CF11_0 := Aside0.mk (Kd.N_reads' ho0); replace HC := stp HC hb; clear hb ho0; have K12 := tt_)
        | (go_at_call 16; clear K10; (with_reducible refine (impl_FoldingsOnTop.calls k m top tb _ AF12.out).mono ?_); rintro e w11_ ⟨v10_v0_, rfl, ho0, hb⟩; obtain ⟨Ar10_0, cr10_0, rfl⟩ := Kd.S_slice ho0; have CF10_0 := Aside0.mk (Kd.S_reads' ho0); replace HC := stp HC hb; clear hb ho0; have K11 := tt_)
        | (go_at_call 15; clear K9; (with_reducible refine (spec_DrawFoldingsOnTop.calls _ _ l1 m _ (Kd.C_below HP1.out.2.2 HC.out.t4.t4.hd) HP1.out.2.1 AF11.out).mono ?_); rintro e w10_ ⟨rfl, hb⟩; replace HC := stp HC hb; clear hb; have K10 := tt_))
      go_loopg [225] top.length (fun kq v225 w' => ∃ (i : Nat), v225 = .int .i64 i ∧ i ≤ top.length ∧ top.length - i ≤ kq ∧ Aside0 (Below w17_.heap.size w17_ w'))
      case atStart => exact ⟨0, by go_num, Nat.zero_le _, by omega, ⟨Below.refl _ _⟩⟩
      case round =>
        obtain ⟨i, rfl, hi, hg, HBL⟩ := hrel
        replace HC := stp HC HBL.out
        have K18 := tt_
        clear K17
        by_cases hlt : i < top.length
        · have hltz : (i : Int) < (top.length : Int) := by omega
          have hlen := AHTop.out.1
          obtain ⟨ad1, Ae1, ce1, ead1, hx1, hle1, hi1⟩ := at_L3 (Kd.C_below CF10_0.out.2.2 HC.out.t4.tl.tl.hd) (i : Int) (by omega) (by omega)
          simp only [Int.toNat_natCast] at hx1
          have CE1 := Aside0.mk hi1
          have CL1 := Aside0.mk hle1
          clear hi1 hle1
          cases ead1
          obtain ⟨hpos, hz⟩ := AHTop.out.2 i hlt
          obtain ⟨ad2, ead2, hx2⟩ := Kd.at_int CE1.out 0 (by omega) (by omega)
          subst ead2
          rw [hz] at hx2
          simp only [Int.toNat_zero] at hx2
          have hx3 : wr.cell? ad2 = some (.int .i64 0) := by
            have e0 : ad2.add 0 = ad2 := by cases ad2; simp [Addr.add]
            rw [← e0]; exact hx2
          have q6 := eq_true (show (0 : Int) < ((rd_L3 top (i : Int)).length : Int) by omega)
          have q7 := eq_true hpos
          have hi1 : i + 1 ≤ top.length := hlt
          have p5 := eq_true (show 0 ≤ (i : Int) by omega)
          have q5 := eq_true hltz
          have hlb : top.length ≤ 2000 := hlen
          clear hlen hpos hz hx2
          go_wp2
          go_roundg (top.length - (i + 1))
          case measure => exact Nat.lt_of_lt_of_le (Nat.sub_lt_sub_left hlt (Nat.lt_succ_self i)) hg
          case rel => exact ⟨i + 1, by go_num, hi1, Nat.le_refl _, HBL⟩
        · have hltz : ¬ ((i : Int) < (top.length : Int)) := by omega
          obtain rfl : i = top.length := by omega
          clear hi hg HBL
          go_wp2_with (first
            | (go_at_call 24; clear K26; (with_reducible refine (laws_ySame.calls k _ _ y _ _ y true _ (Kd.C_below CF24_0.out.2.2 HC.out.hd) CF24_0.out.2.1 CF25_0.out.2.2 CF25_0.out.2.1 AF29.out).mono ?_); rintro e w27_ ⟨rfl, hd⟩; have hb := drawn_below hd; clear hd; replace HC := stp HC hb; clear hb; have K27 := tt_)
            | (go_at_call 26; clear K25; (with_reducible refine (spec_ParseFolding.calls k t y false _ AF28.out).mono ?_); rintro e w26_ ⟨v25_v0_, rfl, ho0, hb⟩; obtain ⟨Ar25_0, cr25_0, rfl⟩ := Kd.R_slice ho0; have CF25_0 := Aside0.mk (Kd.R_reads' ho0); replace HC := stp HC hb; clear hb ho0; have K26 := tt_)
            | (go_at_call 23; clear K24; (with_reducible refine (impl_ParseFolding.calls k t y false _ AF27.out).mono ?_); rintro e w25_ ⟨v24_v0_, rfl, ho0, hb⟩; obtain ⟨Ar24_0, cr24_0, rfl⟩ := Kd.R_slice ho0; have CF24_0 := Aside0.mk (Kd.R_reads' ho0); replace HC := stp HC hb; clear hb ho0; have K25 := tt_)
            | (go_at_call 25; clear K23; (with_reducible refine (spec_DrawParseFolding.calls k _ _ l1 t _ (Kd.C_below HP1.out.2.2 HC.out.t16.t4.tl.tl.hd) HP1.out.2.1 AF26.out).mono ?_); rintro e w24_ ⟨rfl, hb⟩; replace HC := stp HC hb; clear hb; have K24 := tt_)
            | (go_at_call 24; clear K22; (with_reducible refine (laws_ySame.calls k _ _ x _ _ x true _ CF21_0.out.2.2 CF21_0.out.2.1 (Kd.C_below CF18_0.out.2.2 HC.out.tl.tl.hd) CF18_0.out.2.1 AF25.out).mono ?_); rintro e w23_ ⟨rfl, hd⟩; have hb := drawn_below hd; clear hd; replace HC := stp HC hb; clear hb; have K23 := tt_)
            | (go_at_call 23; clear K21; (with_reducible refine (impl_ParseFolding.calls k s_ x true _ AF24.out).mono ?_); rintro e w22_ ⟨v21_v0_, rfl, ho0, hb⟩; obtain ⟨Ar21_0, cr21_0, rfl⟩ := Kd.R_slice ho0; have CF21_0 := Aside0.mk (Kd.R_reads' ho0); replace HC := stp HC hb; clear hb ho0; have K22 := tt_)
            | (go_at_call 22; clear K20; (with_reducible refine (spec_FoldingText.calls k _ _ x s_ true _ (Kd.C_below CF18_0.out.2.2 HC.out.hd) CF18_0.out.2.1 AF23.out).mono ?_); rintro e w21_ ⟨rfl, hb⟩; replace HC := stp HC hb; clear hb; have K21 := tt_)
            | (go_at_call 21; clear K19; (with_reducible refine (impl_FoldingText.calls k _ _ x s_ true _ CF18_0.out.2.2 CF18_0.out.2.1 AF22.out).mono ?_); rintro e w20_ ⟨rfl, hb⟩; replace HC := stp HC hb; clear hb; have K20 := tt_)
            | (go_at_call 20; clear K18; (with_reducible refine (spec_DrawFoldingText.calls k _ _ l1 x _ (Kd.C_below HP1.out.2.2 HC.out.t16.tl.hd) HP1.out.2.1 AF21.out).mono ?_); rintro e w19_ ⟨v18_v0_, rfl, ho0, hb⟩; obtain ⟨Ar18_0, cr18_0, rfl⟩ := Kd.R_slice ho0; have CF18_0 := Aside0.mk (Kd.R_reads' ho0); replace HC := stp HC hb; clear hb ho0; have K19 := tt_))
          go_ret
          exact ⟨rfl, HC.out.tl.tl.tl.tl.tl.tl.tl.tl.tl.tl.tl.tl.tl.tl.tl.tl.tl.tl.tl.tl.tl.tl.tl.tl.tl.tl.hd⟩
def c_true_true_true.Told (k : Nat) (l0 : List Int) (l1 : List Int) : Prop := ∃ (n : Int) (all : List (List Int)) (cnt : Int) (tp : Int) (sem : List (List Int)) (m : Int) (top : List (List Int)) (tb : Bool) (tc : Int) (tw : Int) (x : List Int) (s_ : ByteArray) (t : ByteArray) (y : List Int), (laws_big.f l0 l1 = some false) ∧ (spec_DrawAllFoldings.f l0 = some n) ∧ (impl_AllFoldings.f k n = some (all, true)) ∧ (spec_AllFoldings.f k n = some (all, true)) ∧ (laws_yRows.f k all all = some true) ∧ (impl_CountFoldings.f k n = some (cnt, true)) ∧ (impl_CountOnTop.f k n = some (tp, true)) ∧ (impl_AllSemis.f k n = some (sem, true)) ∧ ((all.length : Int) = cnt ∧ cnt = wrap64 (n * tp) ∧ (sem.length : Int) = tp) ∧ (all.length ≤ 2000 ∧ (∀ j : Nat, j < all.length → impl_IsFolding.f k (rd_L3 all (j : Int)) = some (true, true)) ∧ ∀ j : Nat, j + 1 < all.length → laws_yLess.f k (rd_L3 all (j : Int)) (rd_L3 all ((j + 1 : Nat) : Int)) = some true) ∧ (spec_DrawFoldingsOnTop.f l1 = some m) ∧ (impl_FoldingsOnTop.f k m = some (top, tb)) ∧ (spec_FoldingsOnTop.f k m = some (top, tb)) ∧ (impl_CountOnTop.f k m = some (tc, tb)) ∧ (spec_CountOnTop.f k m = some (tc, tb)) ∧ (impl_CountFoldings.f k m = some (tw, tb)) ∧ (spec_CountFoldings.f k m = some (tw, tb)) ∧ (laws_yRows.f k top top = some true) ∧ ((top.length : Int) = tc) ∧ (top.length ≤ 2000 ∧ ∀ j : Nat, j < top.length → 0 < (rd_L3 top (j : Int)).length ∧ rd (rd_L3 top (j : Int)) 0 = 0) ∧ (spec_DrawFoldingText.f k l1 = some x) ∧ (impl_FoldingText.f k x = some (s_, true)) ∧ (spec_FoldingText.f k x = some (s_, true)) ∧ (impl_ParseFolding.f k s_ = some (x, true)) ∧ (laws_ySame.f k x x = some true) ∧ (spec_DrawParseFolding.f k l1 = some t) ∧ (impl_ParseFolding.f k t = some (y, true)) ∧ (spec_ParseFolding.f k t = some (y, true)) ∧ (laws_ySame.f k y y = some true) ∧ (impl_FoldingText.f k y = some (t, true))
set_option maxHeartbeats 16000000 in
set_option maxRecDepth 100000 in
theorem c_true_true_true (k : Nat) (l0 : List Int) (l1 : List Int) (A0 : Option Addr) (c0 : Nat) (A1 : Option Addr) (c1 : Nat) (n : Int) (all : List (List Int)) (cnt : Int) (tp : Int) (sem : List (List Int)) (m : Int) (top : List (List Int)) (tb : Bool) (tc : Int) (tw : Int) (x : List Int) (s_ : ByteArray) (t : ByteArray) (y : List Int) (w : World) (hr0 : Kd.C (Kd.int .u8) w A0 l0.length l0) (hc0 : l0.length ≤ c0) (hr1 : Kd.C (Kd.int .u8) w A1 l1.length l1) (hc1 : l1.length ≤ c1)
    (HF : (laws_big.f l0 l1 = some false) ∧ (spec_DrawAllFoldings.f l0 = some n) ∧ (impl_AllFoldings.f k n = some (all, true)) ∧ (spec_AllFoldings.f k n = some (all, true)) ∧ (laws_yRows.f k all all = some true) ∧ (impl_CountFoldings.f k n = some (cnt, true)) ∧ (impl_CountOnTop.f k n = some (tp, true)) ∧ (impl_AllSemis.f k n = some (sem, true)) ∧ ((all.length : Int) = cnt ∧ cnt = wrap64 (n * tp) ∧ (sem.length : Int) = tp) ∧ (all.length ≤ 2000 ∧ (∀ j : Nat, j < all.length → impl_IsFolding.f k (rd_L3 all (j : Int)) = some (true, true)) ∧ ∀ j : Nat, j + 1 < all.length → laws_yLess.f k (rd_L3 all (j : Int)) (rd_L3 all ((j + 1 : Nat) : Int)) = some true) ∧ (spec_DrawFoldingsOnTop.f l1 = some m) ∧ (impl_FoldingsOnTop.f k m = some (top, tb)) ∧ (spec_FoldingsOnTop.f k m = some (top, tb)) ∧ (impl_CountOnTop.f k m = some (tc, tb)) ∧ (spec_CountOnTop.f k m = some (tc, tb)) ∧ (impl_CountFoldings.f k m = some (tw, tb)) ∧ (spec_CountFoldings.f k m = some (tw, tb)) ∧ (laws_yRows.f k top top = some true) ∧ ((top.length : Int) = tc) ∧ (top.length ≤ 2000 ∧ ∀ j : Nat, j < top.length → 0 < (rd_L3 top (j : Int)).length ∧ rd (rd_L3 top (j : Int)) 0 = 0) ∧ (spec_DrawFoldingText.f k l1 = some x) ∧ (impl_FoldingText.f k x = some (s_, true)) ∧ (spec_FoldingText.f k x = some (s_, true)) ∧ (impl_ParseFolding.f k s_ = some (x, true)) ∧ (laws_ySame.f k x x = some true) ∧ (spec_DrawParseFolding.f k l1 = some t) ∧ (impl_ParseFolding.f k t = some (y, true)) ∧ (spec_ParseFolding.f k t = some (y, true)) ∧ (laws_ySame.f k y y = some true) ∧ (impl_FoldingText.f k y = some (t, true))) :
    Calls Tryz.prog 3 #[.slice A0 l0.length c0, .slice A1 l1.length c1] w fun e w' => e = .returned (.bool true) ∧ Below w.heap.size w w' := by
  obtain ⟨F1, F2, F3, F4, F5, F6, F7, F8, HNum, HAll, F11, F12, F13, F14, F15, F16, F17, F18, HTc, HTop, F21, F22, F23, F24, F25, F26, F27, F28, F29, F30⟩ := HF
  have HP0 := Aside0.mk (show l0.length = l0.length ∧ l0.length ≤ c0 ∧ _ from ⟨rfl, hc0, hr0⟩)
  clear hr0 hc0
  have HP1 := Aside0.mk (show l1.length = l1.length ∧ l1.length ≤ c1 ∧ _ from ⟨rfl, hc1, hr1⟩)
  clear hr1 hc1
  have AF1 := Aside0.mk F1
  clear F1
  have AF2 := Aside0.mk F2
  clear F2
  have AF3 := Aside0.mk F3
  clear F3
  have AF4 := Aside0.mk F4
  clear F4
  have AF5 := Aside0.mk F5
  clear F5
  have AF6 := Aside0.mk F6
  clear F6
  have AF7 := Aside0.mk F7
  clear F7
  have AF8 := Aside0.mk F8
  clear F8
  have AHNum := Aside0.mk HNum
  clear HNum
  have AHAll := Aside0.mk HAll
  clear HAll
  have AF11 := Aside0.mk F11
  clear F11
  have AF12 := Aside0.mk F12
  clear F12
  have AF13 := Aside0.mk F13
  clear F13
  have AF14 := Aside0.mk F14
  clear F14
  have AF15 := Aside0.mk F15
  clear F15
  have AF16 := Aside0.mk F16
  clear F16
  have AF17 := Aside0.mk F17
  clear F17
  have AF18 := Aside0.mk F18
  clear F18
  have AHTc := Aside0.mk HTc
  clear HTc
  have AHTop := Aside0.mk HTop
  clear HTop
  have AF21 := Aside0.mk F21
  clear F21
  have AF22 := Aside0.mk F22
  clear F22
  have AF23 := Aside0.mk F23
  clear F23
  have AF24 := Aside0.mk F24
  clear F24
  have AF25 := Aside0.mk F25
  clear F25
  have AF26 := Aside0.mk F26
  clear F26
  have AF27 := Aside0.mk F27
  clear F27
  have AF28 := Aside0.mk F28
  clear F28
  have AF29 := Aside0.mk F29
  clear F29
  have AF30 := Aside0.mk F30
  clear F30
  have b1 : ((all.length : Int) != cnt) = false := by rw [AHNum.out.1]; exact bne_self_eq_false _
  have b2 : (cnt != wrap64 (n * tp)) = false := by rw [← AHNum.out.2.1]; exact bne_self_eq_false _
  have b3 : ((sem.length : Int) != tp) = false := by rw [AHNum.out.2.2]; exact bne_self_eq_false _
  have b4 : (tb != tb) = false := bne_self_eq_false tb
  have b5 : (tc != tc) = false := bne_self_eq_false tc
  have b6 : (tw != tw) = false := bne_self_eq_false tw
  have b7 : ((top.length : Int) != tc) = false := by rw [AHTc.out]; exact bne_self_eq_false _
  have b8 : (s_.toList != s_.toList) = false := bne_self_eq_false _
  have b9 : (t.toList == t.toList) = true := beq_self_eq_true _
  have HC := Aside0.mk (show Ch [] w from trivial)
  have K0 := Aside0.mk True.intro
  go_enter Tryz.func3, Tryz.ntmps3
  go_wp2_with (first
    | (go_at_call 12; clear K7; (with_reducible refine (impl_AllSemis.calls k n sem true _ AF8.out).mono ?_); rintro e w8_ ⟨v7_v0_, rfl, ho0, hb⟩; obtain ⟨Ar7_0, cr7_0, rfl⟩ := Kd.S_slice ho0; have CF7_0 := Aside0.mk (Kd.S_reads' ho0); replace HC := stp HC hb; clear hb ho0; have K8 := tt_)
    | (go_at_call 11; clear K6; (with_reducible refine (impl_CountOnTop.calls k n tp true _ AF7.out).mono ?_); rintro e w7_ ⟨rfl, hb⟩; replace HC := stp HC hb; clear hb; have K7 := tt_)
    | (go_at_call 10; clear K5; (with_reducible refine (impl_CountFoldings.calls k n cnt true _ AF6.out).mono ?_); rintro e w6_ ⟨rfl, hb⟩; replace HC := stp HC hb; clear hb; have K6 := tt_)
    | (go_at_call 9; clear K4; (with_reducible refine (laws_yRows.calls k _ _ all _ _ all true _ (Kd.C_below CF2_0.out.2.2 HC.out.hd) CF2_0.out.2.1 CF3_0.out.2.2 CF3_0.out.2.1 AF5.out).mono ?_); rintro e w5_ ⟨rfl, hd⟩; have hb := drawn_below hd; clear hd; replace HC := stp HC hb; clear hb; have K5 := tt_)
    | (go_at_call 8; clear K3; (with_reducible refine (spec_AllFoldings.calls k n all true _ AF4.out).mono ?_); rintro e w4_ ⟨v3_v0_, rfl, ho0, hb⟩; obtain ⟨Ar3_0, cr3_0, rfl⟩ := Kd.N_slice ho0; have CF3_0 := Aside0.mk (Kd.N_reads' ho0); replace HC := stp HC hb; clear hb ho0; have K4 := tt_)
    | (go_at_call 7; clear K2; (with_reducible refine (impl_AllFoldings.calls k n all true _ AF3.out).mono ?_); rintro e w3_ ⟨v2_v0_, rfl, ho0, hb⟩; obtain ⟨Ar2_0, cr2_0, rfl⟩ := Kd.S_slice ho0; have CF2_0 := Aside0.mk (Kd.S_reads' ho0); replace HC := stp HC hb; clear hb ho0; have K3 := tt_)
    | (go_at_call 6; clear K1; (with_reducible refine (spec_DrawAllFoldings.calls _ _ l0 n _ (Kd.C_below HP0.out.2.2 HC.out.hd) HP0.out.2.1 AF2.out).mono ?_); rintro e w2_ ⟨rfl, hb⟩; replace HC := stp HC hb; clear hb; have K2 := tt_)
    | (go_at_call 5; clear K0; (with_reducible refine (laws_big.calls _ _ l0 _ _ l1 false _ HP0.out.2.2 HP0.out.2.1 HP1.out.2.2 HP1.out.2.1 AF1.out).mono ?_); rintro e w1_ ⟨rfl, hd⟩; have hb := drawn_below hd; clear hd; replace HC := stp HC hb; clear hb; have K1 := tt_))
  go_loopg [120] all.length (fun kq v120 w' => ∃ (i : Nat), v120 = .int .i64 i ∧ i ≤ all.length ∧ all.length - i ≤ kq ∧ Aside0 (Below w8_.heap.size w8_ w'))
  case atStart => exact ⟨0, by go_num, Nat.zero_le _, by omega, ⟨Below.refl _ _⟩⟩
  case round =>
    obtain ⟨i, rfl, hi, hg, HBL⟩ := hrel
    replace HC := stp HC HBL.out
    have K9 := tt_
    clear K8
    by_cases hlt : i < all.length
    · have hltz : (i : Int) < (all.length : Int) := by omega
      have hlen := AHAll.out.1
      obtain ⟨ad1, Ae1, ce1, ead1, hx1, hle1, hi1⟩ := at_L3 (Kd.C_below CF2_0.out.2.2 HC.out.t4.tl.hd) (i : Int) (by omega) (by omega)
      simp only [Int.toNat_natCast] at hx1
      have CE1 := Aside0.mk hi1
      have CL1 := Aside0.mk hle1
      clear hi1 hle1
      cases ead1
      have hi1 : i + 1 ≤ all.length := hlt
      have p5 := eq_true (show 0 ≤ (i : Int) by omega)
      have q5 := eq_true hltz
      by_cases h0 : i = 0
      · have c0 : ((0 : Int) < (i : Int)) = False := eq_false (by omega)
        have c1 : (0 < i) = False := eq_false (by omega)
        have hlb : all.length ≤ 2000 := hlen
        clear hlen h0
        go_wp2_with (first
          | (go_at_call 13; (with_reducible refine (impl_IsFolding.calls k _ _ (rd_L3 all (i : Int)) true true _ CE1.out CL1.out (AHAll.out.2.1 i hlt)).mono ?_); rintro e w_ ⟨rfl, hb⟩; have HB2 := Aside0.mk (below_step HBL.out hb); clear hb))
        go_roundg (all.length - (i + 1))
        case measure => exact Nat.lt_of_lt_of_le (Nat.sub_lt_sub_left hlt (Nat.lt_succ_self i)) hg
        case rel => exact ⟨i + 1, by go_num, hi1, Nat.le_refl _, HB2⟩
      · obtain ⟨j, hj⟩ : ∃ j, i = j + 1 := ⟨i - 1, by omega⟩
        have hjl : j < all.length := by omega
        obtain ⟨ad2, Ae2, ce2, ead2, hx2, hle2, hi2⟩ := at_L3 (Kd.C_below CF2_0.out.2.2 HC.out.t4.tl.hd) (j : Int) (by omega) (by omega)
        simp only [Int.toNat_natCast] at hx2
        have CE2 := Aside0.mk hi2
        have CL2 := Aside0.mk hle2
        clear hi2 hle2
        cases ead2
        have HLS := Aside0.mk (show laws_yLess.f k (rd_L3 all (j : Int)) (rd_L3 all (i : Int)) = some true by
          have h_ := AHAll.out.2.2 j (by omega)
          rw [← hj] at h_
          exact h_)
        have hw1 : IntKind.i64.wrap ((i : Int) - 1) = (j : Int) := by rw [i64_w]; unfold wrap64; omega
        have c0 : ((0 : Int) < (i : Int)) = True := eq_true (by omega)
        have c1 : (0 < i) = True := eq_true (by omega)
        have p6 := eq_true (show 0 ≤ (j : Int) by omega)
        have q6 := eq_true (show (j : Int) < (all.length : Int) by omega)
        have hlb : all.length ≤ 2000 := hlen
        clear hj hlen
        go_wp2_with (first
          | (go_at_call 13; (with_reducible refine (impl_IsFolding.calls k _ _ (rd_L3 all (i : Int)) true true _ CE1.out CL1.out (AHAll.out.2.1 i hlt)).mono ?_); rintro e w_ ⟨rfl, hb⟩; have HB2 := Aside0.mk (below_step HBL.out hb); have CE3 := Aside0.mk (Kd.C_below CE1.out hb); have nC2 := Aside0.mk (Kd.C_below CE2.out hb); clear CE2; have CE2 := nC2; clear nC2 CE1; replace hx2 := (hb.cell (World.block_lt_of_cell? _ _ hx2)).trans hx2; clear hb)
          | (go_at_call 14; (with_reducible refine (laws_yLess.calls k _ _ (rd_L3 all (j : Int)) _ _ (rd_L3 all (i : Int)) true _ CE2.out CL2.out CE3.out CL1.out HLS.out).mono ?_); rintro e w_ ⟨rfl, hd⟩; have HB3 := Aside0.mk (below_step HB2.out (drawn_below hd)); clear HB2; have HB2 := HB3; clear HB3 hd))
        go_roundg (all.length - (i + 1))
        case measure => exact Nat.lt_of_lt_of_le (Nat.sub_lt_sub_left hlt (Nat.lt_succ_self i)) hg
        case rel => exact ⟨i + 1, by go_num, hi1, Nat.le_refl _, HB2⟩
    · have hltz : ¬ ((i : Int) < (all.length : Int)) := by omega
      obtain rfl : i = all.length := by omega
      clear hi hg HBL
      go_wp2_with (first
        | (go_at_call 9; clear K16; (with_reducible refine (laws_yRows.calls k _ _ top _ _ top true _ (Kd.C_below CF10_0.out.2.2 HC.out.t4.hd) CF10_0.out.2.1 (Kd.C_below CF11_0.out.2.2 HC.out.tl.tl.tl.hd) CF11_0.out.2.1 AF18.out).mono ?_); rintro e w17_ ⟨rfl, hd⟩; have hb := drawn_below hd; clear hd; replace HC := stp HC hb; clear hb; have K17 := tt_)
        | (go_at_call 19; clear K15; (with_reducible refine (spec_CountFoldings.calls k m tw tb _ AF17.out).mono ?_); rintro e w16_ ⟨rfl, hb⟩; replace HC := stp HC hb; clear hb; have K16 := tt_)
        | (go_at_call 10; clear K14; (with_reducible refine (impl_CountFoldings.calls k m tw tb _ AF16.out).mono ?_); rintro e w15_ ⟨rfl, hb⟩; replace HC := stp HC hb; clear hb; have K15 := tt_)
        | (go_at_call 18; clear K13; (with_reducible refine (spec_CountOnTop.calls k m tc tb _ AF15.out).mono ?_); rintro e w14_ ⟨rfl, hb⟩; replace HC := stp HC hb; clear hb; have K14 := tt_)
        | (go_at_call 11; clear K12; (with_reducible refine (impl_CountOnTop.calls k m tc tb _ AF14.out).mono ?_); rintro e w13_ ⟨rfl, hb⟩; replace HC := stp HC hb; clear hb; have K13 := tt_)
        | (go_at_call 17; clear K11; (with_reducible refine (spec_FoldingsOnTop.calls k m top tb _ AF13.out).mono ?_); rintro e w12_ ⟨v11_v0_, rfl, ho0, hb⟩; obtain ⟨Ar11_0, cr11_0, rfl⟩ := Kd.N_slice ho0; have CF11_0 := Aside0.mk (Kd.N_reads' ho0); replace HC := stp HC hb; clear hb ho0; have K12 := tt_)
        | (go_at_call 16; clear K10; (with_reducible refine (impl_FoldingsOnTop.calls k m top tb _ AF12.out).mono ?_); rintro e w11_ ⟨v10_v0_, rfl, ho0, hb⟩; obtain ⟨Ar10_0, cr10_0, rfl⟩ := Kd.S_slice ho0; have CF10_0 := Aside0.mk (Kd.S_reads' ho0); replace HC := stp HC hb; clear hb ho0; have K11 := tt_)
        | (go_at_call 15; clear K9; (with_reducible refine (spec_DrawFoldingsOnTop.calls _ _ l1 m _ (Kd.C_below HP1.out.2.2 HC.out.t4.t4.hd) HP1.out.2.1 AF11.out).mono ?_); rintro e w10_ ⟨rfl, hb⟩; replace HC := stp HC hb; clear hb; have K10 := tt_))
      go_loopg [225] top.length (fun kq v225 w' => ∃ (i : Nat), v225 = .int .i64 i ∧ i ≤ top.length ∧ top.length - i ≤ kq ∧ Aside0 (Below w17_.heap.size w17_ w'))
      case atStart => exact ⟨0, by go_num, Nat.zero_le _, by omega, ⟨Below.refl _ _⟩⟩
      case round =>
        obtain ⟨i, rfl, hi, hg, HBL⟩ := hrel
        replace HC := stp HC HBL.out
        have K18 := tt_
        clear K17
        by_cases hlt : i < top.length
        · have hltz : (i : Int) < (top.length : Int) := by omega
          have hlen := AHTop.out.1
          obtain ⟨ad1, Ae1, ce1, ead1, hx1, hle1, hi1⟩ := at_L3 (Kd.C_below CF10_0.out.2.2 HC.out.t4.tl.tl.hd) (i : Int) (by omega) (by omega)
          simp only [Int.toNat_natCast] at hx1
          have CE1 := Aside0.mk hi1
          have CL1 := Aside0.mk hle1
          clear hi1 hle1
          cases ead1
          obtain ⟨hpos, hz⟩ := AHTop.out.2 i hlt
          obtain ⟨ad2, ead2, hx2⟩ := Kd.at_int CE1.out 0 (by omega) (by omega)
          subst ead2
          rw [hz] at hx2
          simp only [Int.toNat_zero] at hx2
          have hx3 : wr.cell? ad2 = some (.int .i64 0) := by
            have e0 : ad2.add 0 = ad2 := by cases ad2; simp [Addr.add]
            rw [← e0]; exact hx2
          have q6 := eq_true (show (0 : Int) < ((rd_L3 top (i : Int)).length : Int) by omega)
          have q7 := eq_true hpos
          have hi1 : i + 1 ≤ top.length := hlt
          have p5 := eq_true (show 0 ≤ (i : Int) by omega)
          have q5 := eq_true hltz
          have hlb : top.length ≤ 2000 := hlen
          clear hlen hpos hz hx2
          go_wp2
          go_roundg (top.length - (i + 1))
          case measure => exact Nat.lt_of_lt_of_le (Nat.sub_lt_sub_left hlt (Nat.lt_succ_self i)) hg
          case rel => exact ⟨i + 1, by go_num, hi1, Nat.le_refl _, HBL⟩
        · have hltz : ¬ ((i : Int) < (top.length : Int)) := by omega
          obtain rfl : i = top.length := by omega
          clear hi hg HBL
          go_wp2_with (first
            | (go_at_call 21; clear K27; (with_reducible refine (impl_FoldingText.calls k _ _ y t true _ (Kd.C_below CF24_0.out.2.2 HC.out.tl.hd) CF24_0.out.2.1 AF30.out).mono ?_); rintro e w28_ ⟨rfl, hb⟩; replace HC := stp HC hb; clear hb; have K28 := tt_)
            | (go_at_call 24; clear K26; (with_reducible refine (laws_ySame.calls k _ _ y _ _ y true _ (Kd.C_below CF24_0.out.2.2 HC.out.hd) CF24_0.out.2.1 CF25_0.out.2.2 CF25_0.out.2.1 AF29.out).mono ?_); rintro e w27_ ⟨rfl, hd⟩; have hb := drawn_below hd; clear hd; replace HC := stp HC hb; clear hb; have K27 := tt_)
            | (go_at_call 26; clear K25; (with_reducible refine (spec_ParseFolding.calls k t y true _ AF28.out).mono ?_); rintro e w26_ ⟨v25_v0_, rfl, ho0, hb⟩; obtain ⟨Ar25_0, cr25_0, rfl⟩ := Kd.R_slice ho0; have CF25_0 := Aside0.mk (Kd.R_reads' ho0); replace HC := stp HC hb; clear hb ho0; have K26 := tt_)
            | (go_at_call 23; clear K24; (with_reducible refine (impl_ParseFolding.calls k t y true _ AF27.out).mono ?_); rintro e w25_ ⟨v24_v0_, rfl, ho0, hb⟩; obtain ⟨Ar24_0, cr24_0, rfl⟩ := Kd.R_slice ho0; have CF24_0 := Aside0.mk (Kd.R_reads' ho0); replace HC := stp HC hb; clear hb ho0; have K25 := tt_)
            | (go_at_call 25; clear K23; (with_reducible refine (spec_DrawParseFolding.calls k _ _ l1 t _ (Kd.C_below HP1.out.2.2 HC.out.t16.t4.tl.tl.hd) HP1.out.2.1 AF26.out).mono ?_); rintro e w24_ ⟨rfl, hb⟩; replace HC := stp HC hb; clear hb; have K24 := tt_)
            | (go_at_call 24; clear K22; (with_reducible refine (laws_ySame.calls k _ _ x _ _ x true _ CF21_0.out.2.2 CF21_0.out.2.1 (Kd.C_below CF18_0.out.2.2 HC.out.tl.tl.hd) CF18_0.out.2.1 AF25.out).mono ?_); rintro e w23_ ⟨rfl, hd⟩; have hb := drawn_below hd; clear hd; replace HC := stp HC hb; clear hb; have K23 := tt_)
            | (go_at_call 23; clear K21; (with_reducible refine (impl_ParseFolding.calls k s_ x true _ AF24.out).mono ?_); rintro e w22_ ⟨v21_v0_, rfl, ho0, hb⟩; obtain ⟨Ar21_0, cr21_0, rfl⟩ := Kd.R_slice ho0; have CF21_0 := Aside0.mk (Kd.R_reads' ho0); replace HC := stp HC hb; clear hb ho0; have K22 := tt_)
            | (go_at_call 22; clear K20; (with_reducible refine (spec_FoldingText.calls k _ _ x s_ true _ (Kd.C_below CF18_0.out.2.2 HC.out.hd) CF18_0.out.2.1 AF23.out).mono ?_); rintro e w21_ ⟨rfl, hb⟩; replace HC := stp HC hb; clear hb; have K21 := tt_)
            | (go_at_call 21; clear K19; (with_reducible refine (impl_FoldingText.calls k _ _ x s_ true _ CF18_0.out.2.2 CF18_0.out.2.1 AF22.out).mono ?_); rintro e w20_ ⟨rfl, hb⟩; replace HC := stp HC hb; clear hb; have K20 := tt_)
            | (go_at_call 20; clear K18; (with_reducible refine (spec_DrawFoldingText.calls k _ _ l1 x _ (Kd.C_below HP1.out.2.2 HC.out.t16.tl.hd) HP1.out.2.1 AF21.out).mono ?_); rintro e w19_ ⟨v18_v0_, rfl, ho0, hb⟩; obtain ⟨Ar18_0, cr18_0, rfl⟩ := Kd.R_slice ho0; have CF18_0 := Aside0.mk (Kd.R_reads' ho0); replace HC := stp HC hb; clear hb ho0; have K19 := tt_))
          go_ret
          exact ⟨rfl, HC.out.tl.tl.tl.tl.tl.tl.tl.tl.tl.tl.tl.tl.tl.tl.tl.tl.tl.tl.tl.tl.tl.tl.tl.tl.tl.tl.tl.hd⟩

/-- what the law asks for, as plain lists tell it -/
inductive laws_FnFoldingsCounted.Told (k : Nat) (l0 : List Int) (l1 : List Int) : Prop
  | c_big (h : c_big.Told k l0 l1)
  | c_false_false_false (h : c_false_false_false.Told k l0 l1)
  | c_false_false_true (h : c_false_false_true.Told k l0 l1)
  | c_false_true_false (h : c_false_true_false.Told k l0 l1)
  | c_false_true_true (h : c_false_true_true.Told k l0 l1)
  | c_true_false_false (h : c_true_false_false.Told k l0 l1)
  | c_true_false_true (h : c_true_false_true.Told k l0 l1)
  | c_true_true_false (h : c_true_true_false.Told k l0 l1)
  | c_true_true_true (h : c_true_true_true.Told k l0 l1)
theorem laws_FnFoldingsCounted.calls (k : Nat) (l0 : List Int) (l1 : List Int) (A0 : Option Addr) (c0 : Nat) (A1 : Option Addr) (c1 : Nat) (w : World) (hr0 : Kd.C (Kd.int .u8) w A0 l0.length l0) (hc0 : l0.length ≤ c0) (hr1 : Kd.C (Kd.int .u8) w A1 l1.length l1) (hc1 : l1.length ≤ c1) (h : laws_FnFoldingsCounted.Told k l0 l1) :
    Calls Tryz.prog 3 #[.slice A0 l0.length c0, .slice A1 l1.length c1] w fun e w' => e = .returned (.bool true) ∧ Below w.heap.size w w' := by
  cases h with
  | c_big h => exact c_big k l0 l1 A0 c0 A1 c1 w hr0 hc0 hr1 hc1 h
  | c_false_false_false h =>
    obtain ⟨n, all, m, top, tb, tc, tw, x, s_, t, y, h⟩ := h
    exact c_false_false_false k l0 l1 A0 c0 A1 c1 n all m top tb tc tw x s_ t y w hr0 hc0 hr1 hc1 h
  | c_false_false_true h =>
    obtain ⟨n, all, m, top, tb, tc, tw, x, s_, t, y, h⟩ := h
    exact c_false_false_true k l0 l1 A0 c0 A1 c1 n all m top tb tc tw x s_ t y w hr0 hc0 hr1 hc1 h
  | c_false_true_false h =>
    obtain ⟨n, all, m, top, tb, tc, tw, x, s_, t, y, h⟩ := h
    exact c_false_true_false k l0 l1 A0 c0 A1 c1 n all m top tb tc tw x s_ t y w hr0 hc0 hr1 hc1 h
  | c_false_true_true h =>
    obtain ⟨n, all, m, top, tb, tc, tw, x, s_, t, y, h⟩ := h
    exact c_false_true_true k l0 l1 A0 c0 A1 c1 n all m top tb tc tw x s_ t y w hr0 hc0 hr1 hc1 h
  | c_true_false_false h =>
    obtain ⟨n, all, cnt, tp, sem, m, top, tb, tc, tw, x, s_, t, y, h⟩ := h
    exact c_true_false_false k l0 l1 A0 c0 A1 c1 n all cnt tp sem m top tb tc tw x s_ t y w hr0 hc0 hr1 hc1 h
  | c_true_false_true h =>
    obtain ⟨n, all, cnt, tp, sem, m, top, tb, tc, tw, x, s_, t, y, h⟩ := h
    exact c_true_false_true k l0 l1 A0 c0 A1 c1 n all cnt tp sem m top tb tc tw x s_ t y w hr0 hc0 hr1 hc1 h
  | c_true_true_false h =>
    obtain ⟨n, all, cnt, tp, sem, m, top, tb, tc, tw, x, s_, t, y, h⟩ := h
    exact c_true_true_false k l0 l1 A0 c0 A1 c1 n all cnt tp sem m top tb tc tw x s_ t y w hr0 hc0 hr1 hc1 h
  | c_true_true_true h =>
    obtain ⟨n, all, cnt, tp, sem, m, top, tb, tc, tw, x, s_, t, y, h⟩ := h
    exact c_true_true_true k l0 l1 A0 c0 A1 c1 n all cnt tp sem m top tb tc tw x s_ t y w hr0 hc0 hr1 hc1 h
/-- the one pure statement of the law -/
def laws_FnFoldingsCounted.Pure : Prop := ∀ (l0 : List Int) (l1 : List Int), l0.length ≤ maxLen → l0.length * 1 ≤ 140737488351232 → (∀ x ∈ l0, (Lit.int .u8 x).wf = true) → l1.length ≤ maxLen → l1.length * 1 ≤ 140737488351232 → (∀ x ∈ l1, (Lit.int .u8 x).wf = true) → ∃ k, laws_FnFoldingsCounted.Told k l0 l1
theorem laws_FnFoldingsCounted.walk (P : laws_FnFoldingsCounted.Pure) (a0 : Option Addr) (len0 cap0 : Nat) (z0 : List Int) (a1 : Option Addr) (len1 cap1 : Nat) (z1 : List Int) (w : World) (w0 : (a0 = none ∧ len0 = 0 ∧ cap0 = 0 ∧ z0 = []) ∨ ∃ x, a0 = some x ∧ len0 ≤ cap0 ∧ cap0 ≤ maxLen ∧ z0.length = cap0 ∧ (∀ i, i < z0.length → w.cell? (x.add i) = some (.int .u8 (z0.getD i 0))) ∧ ∀ n ∈ z0, (Lit.int .u8 n).wf = true) (y0 : len0 * 1 ≤ 140737488351232) (w1 : (a1 = none ∧ len1 = 0 ∧ cap1 = 0 ∧ z1 = []) ∨ ∃ x, a1 = some x ∧ len1 ≤ cap1 ∧ cap1 ≤ maxLen ∧ z1.length = cap1 ∧ (∀ i, i < z1.length → w.cell? (x.add i) = some (.int .u8 (z1.getD i 0))) ∧ ∀ n ∈ z1, (Lit.int .u8 n).wf = true) (y1 : len1 * 1 ≤ 140737488351232) :
    Calls Tryz.prog 3 #[.slice a0 len0 cap0, .slice a1 len1 cap1] w fun e w' => e = .returned (.bool true) ∧ Below w.heap.size w w' := by
  obtain ⟨l0, rfl, hr0, hm0, hw0, hc0⟩ := ReadsInt.ofRowC w0
  obtain ⟨l1, rfl, hr1, hm1, hw1, hc1⟩ := ReadsInt.ofRowC w1
  obtain ⟨k, h⟩ := P l0 l1 hm0 y0 hw0 hm1 y1 hw1
  exact laws_FnFoldingsCounted.calls k l0 l1 _ _ _ _ w (Kd.C_of_reads (d := (0 : Int)) (h1 := fun _ => rfl) hr0) hc0 (Kd.C_of_reads (d := (0 : Int)) (h1 := fun _ => rfl) hr1) hc1 h
end Go.Proofs.YtjgkcknopnollaaGreat.C
