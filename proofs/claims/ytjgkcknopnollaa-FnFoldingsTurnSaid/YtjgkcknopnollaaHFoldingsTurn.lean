/- The law FnFoldingsTurn, walked by hand over our printed contracts, one theorem a way through it (printed by wip/great, a program of ours). What each way asks for is told by plain lists; no condition but the law's own guards. -/
import Derived.Test.YtjgkcknopnollaaChain
import Derived.Test.YtjgkcknopnollaaG0
import Derived.Test.YtjgkcknopnollaaG10
import Derived.Test.YtjgkcknopnollaaG3
import Derived.Test.YtjgkcknopnollaaG7
import Derived.Test.YtjgkcknopnollaaG8
import Derived.Test.YtjgkcknopnollaaG9
set_option linter.unusedVariables false
set_option linter.unusedSimpArgs false
namespace Go.Proofs.Ytjgkcknopnollaa.G
open Go.RowKit Go.Proofs.Ytjgkcknopnollaa.Chain Go.Proofs.YtjgkcknopnollaaW.PrintWords Go.Proofs.YtjgkcknopnollaaW.PrintLast Go.Proofs.YtjgkcknopnollaaW.PrintMore

/-- the numbers of the first i places that are not the last stamp -/
def lessOf (p : List Int) (i : Nat) : List Int := (p.take i).filter (fun x => decide (x ≠ (p.length : Int) - 1))
theorem lessOf_zero (p : List Int) : lessOf p 0 = [] := rfl
theorem lessOf_all (p : List Int) : lessOf p p.length = p.filter (fun x => decide (x ≠ (p.length : Int) - 1)) := by unfold lessOf; rw [List.take_length]
theorem lessOf_at (p : List Int) (i : Nat) (h : i < p.length) : lessOf p (i + 1) = lessOf p i ++ [rd p (i : Int)].filter (fun x => decide (x ≠ (p.length : Int) - 1)) := by
  have e : rd p (i : Int) = p[i] := by unfold rd; simp [h]
  unfold lessOf
  rw [List.take_succ_eq_append_getElem h, List.filter_append, e]
theorem lessOf_last (p : List Int) (i : Nat) (h : i < p.length) (hc : rd p (i : Int) = (p.length : Int) - 1) : lessOf p (i + 1) = lessOf p i := by
  rw [lessOf_at p i h, hc]; simp
theorem lessOf_more (p : List Int) (i : Nat) (h : i < p.length) (hc : ¬ rd p (i : Int) = (p.length : Int) - 1) : lessOf p (i + 1) = lessOf p i ++ [rd p (i : Int)] := by
  rw [lessOf_at p i h]; simp [hc]
theorem lessOf_len (p : List Int) (i : Nat) : (lessOf p i).length ≤ p.length := by
  unfold lessOf
  exact Nat.le_trans (List.length_filter_le _ _) (by rw [List.length_take]; omega)
def t_big.Told (k : Nat) (l0 : List Int) (l1 : List Int) : Prop := (laws_big.f l0 l1 = some true)
set_option maxHeartbeats 16000000 in
set_option maxRecDepth 100000 in
theorem t_big (k : Nat) (l0 : List Int) (l1 : List Int) (A0 : Option Addr) (c0 : Nat) (A1 : Option Addr) (c1 : Nat) (w : World) (hr0 : Kd.C (Kd.int .u8) w A0 l0.length l0) (hc0 : l0.length ≤ c0) (hr1 : Kd.C (Kd.int .u8) w A1 l1.length l1) (hc1 : l1.length ≤ c1)
    (HF : (laws_big.f l0 l1 = some true)) :
    Calls Try.prog 10 #[.slice A0 l0.length c0, .slice A1 l1.length c1] w fun e w' => e = .returned (.bool true) ∧ Below w.heap.size w w' := by
  have F1 := HF
  have HP0 := Aside0.mk (show l0.length = l0.length ∧ l0.length ≤ c0 ∧ _ from ⟨rfl, hc0, hr0⟩)
  clear hr0 hc0
  have HP1 := Aside0.mk (show l1.length = l1.length ∧ l1.length ≤ c1 ∧ _ from ⟨rfl, hc1, hr1⟩)
  clear hr1 hc1
  have AF1 := Aside0.mk F1
  clear F1
  have HC := Aside0.mk (show Ch [] w from trivial)
  have K0 := Aside0.mk True.intro
  go_enter Try.func10, Try.ntmps10
  go_wp2_with (first
    | (go_at_call 32; have hK := K0.out; (with_reducible refine (laws_big.calls _ _ l0 _ _ l1 true _ HP0.out.2.2 HP0.out.2.1 HP1.out.2.2 HP1.out.2.1 AF1.out).mono ?_); rintro e w1_ ⟨rfl, hd⟩; clear hK K0; have hb := drawn_below hd; clear hd; have nHC := Aside0.mk (HC.out.step hb); clear HC hb; have HC := nHC; clear nHC; have K1 := Aside0.mk True.intro))
  go_ret
  exact ⟨rfl, HC.out.hd⟩
def t_no_true.Told (k : Nat) (l0 : List Int) (l1 : List Int) : Prop := ∃ (p : List Int) (by_ : Int) (q : List Int) (x : List Int) (cr : List (List Int)) (y : List Int) (yr : List Int) (yb : Bool) (yn : List Int) (yc : Bool) (z : List Int) (za : List (List Int)) (zb : Bool), (laws_big.f l0 l1 = some false) ∧ (spec_DrawTurnFolding.f k l0 = some (p, by_)) ∧ (impl_TurnFolding.f k p by_ = some (q, false)) ∧ (spec_TurnFolding.f k p by_ = some (q, false)) ∧ (laws_ySame.f k q q = some true) ∧ (spec_DrawCrossedArcs.f k l1 = some x) ∧ (impl_CrossedArcs.f k x = some (cr, true)) ∧ (spec_CrossedArcs.f k x = some (cr, true)) ∧ (impl_IsFolding.f k x = some (((cr.length : Int) == 0), true)) ∧ (laws_yRows.f k cr cr = some true) ∧ (spec_DrawReverseFolding.f k l1 = some y) ∧ (impl_ReverseFolding.f k y = some (yr, yb)) ∧ (spec_ReverseFolding.f k y = some (yr, yb)) ∧ (impl_RenumberFolding.f k y = some (yn, yc)) ∧ (spec_RenumberFolding.f k y = some (yn, yc)) ∧ (spec_DrawAddStamp.f k l1 = some z) ∧ (impl_AddStamp.f k z = some (za, zb)) ∧ (spec_AddStamp.f k z = some (za, zb)) ∧ (laws_ySame.f k yr yr = some true) ∧ (laws_ySame.f k yn yn = some true) ∧ (laws_yRows.f k za za = some true)
set_option maxHeartbeats 16000000 in
set_option maxRecDepth 100000 in
theorem t_no_true (k : Nat) (l0 : List Int) (l1 : List Int) (A0 : Option Addr) (c0 : Nat) (A1 : Option Addr) (c1 : Nat) (p : List Int) (by_ : Int) (q : List Int) (x : List Int) (cr : List (List Int)) (y : List Int) (yr : List Int) (yb : Bool) (yn : List Int) (yc : Bool) (z : List Int) (za : List (List Int)) (zb : Bool) (w : World) (hr0 : Kd.C (Kd.int .u8) w A0 l0.length l0) (hc0 : l0.length ≤ c0) (hr1 : Kd.C (Kd.int .u8) w A1 l1.length l1) (hc1 : l1.length ≤ c1)
    (HF : (laws_big.f l0 l1 = some false) ∧ (spec_DrawTurnFolding.f k l0 = some (p, by_)) ∧ (impl_TurnFolding.f k p by_ = some (q, false)) ∧ (spec_TurnFolding.f k p by_ = some (q, false)) ∧ (laws_ySame.f k q q = some true) ∧ (spec_DrawCrossedArcs.f k l1 = some x) ∧ (impl_CrossedArcs.f k x = some (cr, true)) ∧ (spec_CrossedArcs.f k x = some (cr, true)) ∧ (impl_IsFolding.f k x = some (((cr.length : Int) == 0), true)) ∧ (laws_yRows.f k cr cr = some true) ∧ (spec_DrawReverseFolding.f k l1 = some y) ∧ (impl_ReverseFolding.f k y = some (yr, yb)) ∧ (spec_ReverseFolding.f k y = some (yr, yb)) ∧ (impl_RenumberFolding.f k y = some (yn, yc)) ∧ (spec_RenumberFolding.f k y = some (yn, yc)) ∧ (spec_DrawAddStamp.f k l1 = some z) ∧ (impl_AddStamp.f k z = some (za, zb)) ∧ (spec_AddStamp.f k z = some (za, zb)) ∧ (laws_ySame.f k yr yr = some true) ∧ (laws_ySame.f k yn yn = some true) ∧ (laws_yRows.f k za za = some true)) :
    Calls Try.prog 10 #[.slice A0 l0.length c0, .slice A1 l1.length c1] w fun e w' => e = .returned (.bool true) ∧ Below w.heap.size w w' := by
  obtain ⟨F1, F2, F3, F4, F5, F6, F7, F8, F9, F10, F11, F12, F13, F14, F15, F16, F17, F18, F19, F20, F21⟩ := HF
  have HP0 := Aside0.mk (show l0.length = l0.length ∧ l0.length ≤ c0 ∧ _ from ⟨rfl, hc0, hr0⟩)
  clear hr0 hc0
  have HP1 := Aside0.mk (show l1.length = l1.length ∧ l1.length ≤ c1 ∧ _ from ⟨rfl, hc1, hr1⟩)
  clear hr1 hc1
  have AF1 := Aside0.mk F1
  clear F1
  have AF2 := Aside0.mk F2
  clear F2
  have AF3 := Aside0.mk F3
  clear F3
  have AF4 := Aside0.mk F4
  clear F4
  have AF5 := Aside0.mk F5
  clear F5
  have AF6 := Aside0.mk F6
  clear F6
  have AF7 := Aside0.mk F7
  clear F7
  have AF8 := Aside0.mk F8
  clear F8
  have AF9 := Aside0.mk F9
  clear F9
  have AF10 := Aside0.mk F10
  clear F10
  have AF11 := Aside0.mk F11
  clear F11
  have AF12 := Aside0.mk F12
  clear F12
  have AF13 := Aside0.mk F13
  clear F13
  have AF14 := Aside0.mk F14
  clear F14
  have AF15 := Aside0.mk F15
  clear F15
  have AF16 := Aside0.mk F16
  clear F16
  have AF17 := Aside0.mk F17
  clear F17
  have AF18 := Aside0.mk F18
  clear F18
  have AF19 := Aside0.mk F19
  clear F19
  have AF20 := Aside0.mk F20
  clear F20
  have AF21 := Aside0.mk F21
  clear F21
  have b1 : (yb == yb) = true := beq_self_eq_true yb
  have b2 : (yc == yc) = true := beq_self_eq_true yc
  have b3 : (zb == zb) = true := beq_self_eq_true zb
  have b4 : (((cr.length : Int) == 0) != ((cr.length : Int) == 0)) = false := bne_self_eq_false _
  have HC := Aside0.mk (show Ch [] w from trivial)
  have K0 := Aside0.mk True.intro
  go_enter Try.func10, Try.ntmps10
  go_wp2_with (first
    | (go_at_call 43; have hK := K20.out; (with_reducible refine (laws_yRows.calls k _ _ za _ _ za true _ (Kd.C_below CF16_0.out.2.2 HC.out.tl.tl.hd) CF16_0.out.2.1 (Kd.C_below CF17_0.out.2.2 HC.out.tl.hd) CF17_0.out.2.1 AF21.out).mono ?_); rintro e w21_ ⟨rfl, hd⟩; clear hK K20; have hb := drawn_below hd; clear hd; have nHC := Aside0.mk (HC.out.step hb); clear HC hb; have HC := nHC; clear nHC; have K21 := Aside0.mk True.intro)
    | (go_at_call 36; have hK := K19.out; (with_reducible refine (laws_ySame.calls k _ _ yn _ _ yn true _ (Kd.C_below CF13_0.out.2.2 HC.out.tl.tl.tl.tl.hd) CF13_0.out.2.1 (Kd.C_below CF14_0.out.2.2 HC.out.tl.tl.tl.hd) CF14_0.out.2.1 AF20.out).mono ?_); rintro e w20_ ⟨rfl, hd⟩; clear hK K19; have hb := drawn_below hd; clear hd; have nHC := Aside0.mk (HC.out.step hb); clear HC hb; have HC := nHC; clear nHC; have K20 := Aside0.mk True.intro)
    | (go_at_call 36; have hK := K18.out; (with_reducible refine (laws_ySame.calls k _ _ yr _ _ yr true _ (Kd.C_below CF11_0.out.2.2 HC.out.tl.tl.tl.tl.tl.hd) CF11_0.out.2.1 (Kd.C_below CF12_0.out.2.2 HC.out.tl.tl.tl.tl.hd) CF12_0.out.2.1 AF19.out).mono ?_); rintro e w19_ ⟨rfl, hd⟩; clear hK K18; have hb := drawn_below hd; clear hd; have nHC := Aside0.mk (HC.out.step hb); clear HC hb; have HC := nHC; clear nHC; have K19 := Aside0.mk True.intro)
    | (go_at_call 22; have hK := K17.out; (with_reducible refine (spec_AddStamp.calls k _ _ z za zb _ (Kd.C_below CF15_0.out.2.2 HC.out.hd) CF15_0.out.2.1 AF18.out).mono ?_); rintro e w18_ ⟨v17_v0_, rfl, ho0, hb⟩; clear hK K17; obtain ⟨Ar17_0, cr17_0, rfl⟩ := Kd.N_slice ho0; have CF17_0 := Aside0.mk (Kd.N_reads' ho0); have nHC := Aside0.mk (HC.out.step hb); clear HC hb ho0; have HC := nHC; clear nHC; have K18 := Aside0.mk True.intro)
    | (go_at_call 24; have hK := K16.out; (with_reducible refine (impl_AddStamp.calls k _ _ z za zb _ CF15_0.out.2.2 CF15_0.out.2.1 AF17.out).mono ?_); rintro e w17_ ⟨v16_v0_, rfl, ho0, hb⟩; clear hK K16; obtain ⟨Ar16_0, cr16_0, rfl⟩ := Kd.S_slice ho0; have CF16_0 := Aside0.mk (Kd.S_reads' ho0); have nHC := Aside0.mk (HC.out.step hb); clear HC hb ho0; have HC := nHC; clear nHC; have K17 := Aside0.mk True.intro)
    | (go_at_call 47; have hK := K15.out; (with_reducible refine (spec_DrawAddStamp.calls k _ _ l1 z _ (Kd.C_below HP1.out.2.2 HC.out.tl.tl.tl.tl.tl.tl.tl.tl.tl.tl.tl.tl.tl.tl.hd) HP1.out.2.1 AF16.out).mono ?_); rintro e w16_ ⟨v15_v0_, rfl, ho0, hb⟩; clear hK K15; obtain ⟨Ar15_0, cr15_0, rfl⟩ := Kd.R_slice ho0; have CF15_0 := Aside0.mk (Kd.R_reads' ho0); have nHC := Aside0.mk (HC.out.step hb); clear HC hb ho0; have HC := nHC; clear nHC; have K16 := Aside0.mk True.intro)
    | (go_at_call 46; have hK := K14.out; (with_reducible refine (spec_RenumberFolding.calls k _ _ y yn yc _ (Kd.C_below CF10_0.out.2.2 HC.out.tl.tl.hd) CF10_0.out.2.1 AF15.out).mono ?_); rintro e w15_ ⟨v14_v0_, rfl, ho0, hb⟩; clear hK K14; obtain ⟨Ar14_0, cr14_0, rfl⟩ := Kd.R_slice ho0; have CF14_0 := Aside0.mk (Kd.R_reads' ho0); have nHC := Aside0.mk (HC.out.step hb); clear HC hb ho0; have HC := nHC; clear nHC; have K15 := Aside0.mk True.intro)
    | (go_at_call 39; have hK := K13.out; (with_reducible refine (impl_RenumberFolding.calls k _ _ y yn yc _ (Kd.C_below CF10_0.out.2.2 HC.out.tl.hd) CF10_0.out.2.1 AF14.out).mono ?_); rintro e w14_ ⟨v13_v0_, rfl, ho0, hb⟩; clear hK K13; obtain ⟨Ar13_0, cr13_0, rfl⟩ := Kd.R_slice ho0; have CF13_0 := Aside0.mk (Kd.R_reads' ho0); have nHC := Aside0.mk (HC.out.step hb); clear HC hb ho0; have HC := nHC; clear nHC; have K14 := Aside0.mk True.intro)
    | (go_at_call 45; have hK := K12.out; (with_reducible refine (spec_ReverseFolding.calls k _ _ y yr yb _ (Kd.C_below CF10_0.out.2.2 HC.out.hd) CF10_0.out.2.1 AF13.out).mono ?_); rintro e w13_ ⟨v12_v0_, rfl, ho0, hb⟩; clear hK K12; obtain ⟨Ar12_0, cr12_0, rfl⟩ := Kd.R_slice ho0; have CF12_0 := Aside0.mk (Kd.R_reads' ho0); have nHC := Aside0.mk (HC.out.step hb); clear HC hb ho0; have HC := nHC; clear nHC; have K13 := Aside0.mk True.intro)
    | (go_at_call 38; have hK := K11.out; (with_reducible refine (impl_ReverseFolding.calls k _ _ y yr yb _ CF10_0.out.2.2 CF10_0.out.2.1 AF12.out).mono ?_); rintro e w12_ ⟨v11_v0_, rfl, ho0, hb⟩; clear hK K11; obtain ⟨Ar11_0, cr11_0, rfl⟩ := Kd.R_slice ho0; have CF11_0 := Aside0.mk (Kd.R_reads' ho0); have nHC := Aside0.mk (HC.out.step hb); clear HC hb ho0; have HC := nHC; clear nHC; have K12 := Aside0.mk True.intro)
    | (go_at_call 44; have hK := K10.out; (with_reducible refine (spec_DrawReverseFolding.calls k _ _ l1 y _ (Kd.C_below HP1.out.2.2 HC.out.tl.tl.tl.tl.tl.tl.tl.tl.tl.hd) HP1.out.2.1 AF11.out).mono ?_); rintro e w11_ ⟨v10_v0_, rfl, ho0, hb⟩; clear hK K10; obtain ⟨Ar10_0, cr10_0, rfl⟩ := Kd.R_slice ho0; have CF10_0 := Aside0.mk (Kd.R_reads' ho0); have nHC := Aside0.mk (HC.out.step hb); clear HC hb ho0; have HC := nHC; clear nHC; have K11 := Aside0.mk True.intro)
    | (go_at_call 43; have hK := K9.out; (with_reducible refine (laws_yRows.calls k _ _ cr _ _ cr true _ (Kd.C_below CF6_0.out.2.2 HC.out.tl.hd) CF6_0.out.2.1 (Kd.C_below CF7_0.out.2.2 HC.out.hd) CF7_0.out.2.1 AF10.out).mono ?_); rintro e w10_ ⟨rfl, hd⟩; clear hK K9; have hb := drawn_below hd; clear hd; have nHC := Aside0.mk (HC.out.step hb); clear HC hb; have HC := nHC; clear nHC; have K10 := Aside0.mk True.intro)
    | (go_at_call 37; have hK := K8.out; (with_reducible refine (impl_IsFolding.calls k _ _ x ((cr.length : Int) == 0) true _ (Kd.C_below CF5_0.out.2.2 HC.out.tl.hd) CF5_0.out.2.1 AF9.out).mono ?_); rintro e w9_ ⟨rfl, hb⟩; clear hK K8; have nHC := Aside0.mk (HC.out.step hb); clear HC hb; have HC := nHC; clear nHC; have K9 := Aside0.mk True.intro)
    | (go_at_call 42; have hK := K7.out; (with_reducible refine (spec_CrossedArcs.calls k _ _ x cr true _ (Kd.C_below CF5_0.out.2.2 HC.out.hd) CF5_0.out.2.1 AF8.out).mono ?_); rintro e w8_ ⟨v7_v0_, rfl, ho0, hb⟩; clear hK K7; obtain ⟨Ar7_0, cr7_0, rfl⟩ := Kd.S_slice ho0; have CF7_0 := Aside0.mk (Kd.S_reads' ho0); have nHC := Aside0.mk (HC.out.step hb); clear HC hb ho0; have HC := nHC; clear nHC; have K8 := Aside0.mk True.intro)
    | (go_at_call 41; have hK := K6.out; (with_reducible refine (impl_CrossedArcs.calls k _ _ x cr true _ CF5_0.out.2.2 CF5_0.out.2.1 AF7.out).mono ?_); rintro e w7_ ⟨v6_v0_, rfl, ho0, hb⟩; clear hK K6; obtain ⟨Ar6_0, cr6_0, rfl⟩ := Kd.S_slice ho0; have CF6_0 := Aside0.mk (Kd.S_reads' ho0); have nHC := Aside0.mk (HC.out.step hb); clear HC hb ho0; have HC := nHC; clear nHC; have K7 := Aside0.mk True.intro)
    | (go_at_call 40; have hK := K5.out; (with_reducible refine (spec_DrawCrossedArcs.calls k _ _ l1 x _ (Kd.C_below HP1.out.2.2 HC.out.tl.tl.tl.tl.hd) HP1.out.2.1 AF6.out).mono ?_); rintro e w6_ ⟨v5_v0_, rfl, ho0, hb⟩; clear hK K5; obtain ⟨Ar5_0, cr5_0, rfl⟩ := Kd.R_slice ho0; have CF5_0 := Aside0.mk (Kd.R_reads' ho0); have nHC := Aside0.mk (HC.out.step hb); clear HC hb ho0; have HC := nHC; clear nHC; have K6 := Aside0.mk True.intro)
    | (go_at_call 36; have hK := K4.out; (with_reducible refine (laws_ySame.calls k _ _ q _ _ q true _ (Kd.C_below CF2_0.out.2.2 HC.out.hd) CF2_0.out.2.1 CF3_0.out.2.2 CF3_0.out.2.1 AF5.out).mono ?_); rintro e w5_ ⟨rfl, hd⟩; clear hK K4; have hb := drawn_below hd; clear hd; have nHC := Aside0.mk (HC.out.step hb); clear HC hb; have HC := nHC; clear nHC; have K5 := Aside0.mk True.intro)
    | (go_at_call 35; have hK := K3.out; (with_reducible refine (spec_TurnFolding.calls k _ _ p by_ q false _ (Kd.C_below CF1_0.out.2.2 HC.out.hd) CF1_0.out.2.1 AF4.out).mono ?_); rintro e w4_ ⟨v3_v0_, rfl, ho0, hb⟩; clear hK K3; obtain ⟨Ar3_0, cr3_0, rfl⟩ := Kd.R_slice ho0; have CF3_0 := Aside0.mk (Kd.R_reads' ho0); have nHC := Aside0.mk (HC.out.step hb); clear HC hb ho0; have HC := nHC; clear nHC; have K4 := Aside0.mk True.intro)
    | (go_at_call 34; have hK := K2.out; (with_reducible refine (impl_TurnFolding.calls k _ _ p by_ q false _ CF1_0.out.2.2 CF1_0.out.2.1 AF3.out).mono ?_); rintro e w3_ ⟨v2_v0_, rfl, ho0, hb⟩; clear hK K2; obtain ⟨Ar2_0, cr2_0, rfl⟩ := Kd.R_slice ho0; have CF2_0 := Aside0.mk (Kd.R_reads' ho0); have nHC := Aside0.mk (HC.out.step hb); clear HC hb ho0; have HC := nHC; clear nHC; have K3 := Aside0.mk True.intro)
    | (go_at_call 33; have hK := K1.out; (with_reducible refine (spec_DrawTurnFolding.calls k _ _ l0 p by_ _ (Kd.C_below HP0.out.2.2 HC.out.hd) HP0.out.2.1 AF2.out).mono ?_); rintro e w2_ ⟨v1_v0_, rfl, ho0, hb⟩; clear hK K1; obtain ⟨Ar1_0, cr1_0, rfl⟩ := Kd.R_slice ho0; have CF1_0 := Aside0.mk (Kd.R_reads' ho0); have nHC := Aside0.mk (HC.out.step hb); clear HC hb ho0; have HC := nHC; clear nHC; have K2 := Aside0.mk True.intro)
    | (go_at_call 32; have hK := K0.out; (with_reducible refine (laws_big.calls _ _ l0 _ _ l1 false _ HP0.out.2.2 HP0.out.2.1 HP1.out.2.2 HP1.out.2.1 AF1.out).mono ?_); rintro e w1_ ⟨rfl, hd⟩; clear hK K0; have hb := drawn_below hd; clear hd; have nHC := Aside0.mk (HC.out.step hb); clear HC hb; have HC := nHC; clear nHC; have K1 := Aside0.mk True.intro))
  go_ret
  exact ⟨rfl, HC.out.tl.tl.tl.tl.tl.tl.tl.tl.tl.tl.tl.tl.tl.tl.tl.tl.tl.tl.tl.tl.hd⟩
def t_is_true.Told (k : Nat) (l0 : List Int) (l1 : List Int) : Prop := ∃ (p : List Int) (by_ : Int) (q : List Int) (rev : List Int) (num : List Int) (x : List Int) (cr : List (List Int)) (y : List Int) (yr : List Int) (yb : Bool) (yn : List Int) (yc : Bool) (z : List Int) (za : List (List Int)) (zb : Bool), (laws_big.f l0 l1 = some false) ∧ (spec_DrawTurnFolding.f k l0 = some (p, by_)) ∧ (impl_TurnFolding.f k p by_ = some (q, true)) ∧ (spec_TurnFolding.f k p by_ = some (q, true)) ∧ (laws_ySame.f k q q = some true) ∧ (impl_IsFolding.f k p = some (false, true)) ∧ (impl_IsFolding.f k q = some (false, true)) ∧ (impl_TurnFolding.f k q (wrap64 (-by_)) = some (p, true)) ∧ (impl_ReverseFolding.f k p = some (rev, true)) ∧ (impl_IsFolding.f k rev = some (false, true)) ∧ (impl_RenumberFolding.f k p = some (num, true)) ∧ (impl_IsFolding.f k num = some (false, true)) ∧ (laws_ySame.f k p p = some true) ∧ (spec_DrawCrossedArcs.f k l1 = some x) ∧ (impl_CrossedArcs.f k x = some (cr, true)) ∧ (spec_CrossedArcs.f k x = some (cr, true)) ∧ (impl_IsFolding.f k x = some (((cr.length : Int) == 0), true)) ∧ (laws_yRows.f k cr cr = some true) ∧ (spec_DrawReverseFolding.f k l1 = some y) ∧ (impl_ReverseFolding.f k y = some (yr, yb)) ∧ (spec_ReverseFolding.f k y = some (yr, yb)) ∧ (impl_RenumberFolding.f k y = some (yn, yc)) ∧ (spec_RenumberFolding.f k y = some (yn, yc)) ∧ (spec_DrawAddStamp.f k l1 = some z) ∧ (impl_AddStamp.f k z = some (za, zb)) ∧ (spec_AddStamp.f k z = some (za, zb)) ∧ (laws_ySame.f k yr yr = some true) ∧ (laws_ySame.f k yn yn = some true) ∧ (laws_yRows.f k za za = some true)
set_option maxHeartbeats 16000000 in
set_option maxRecDepth 100000 in
theorem t_is_true (k : Nat) (l0 : List Int) (l1 : List Int) (A0 : Option Addr) (c0 : Nat) (A1 : Option Addr) (c1 : Nat) (p : List Int) (by_ : Int) (q : List Int) (rev : List Int) (num : List Int) (x : List Int) (cr : List (List Int)) (y : List Int) (yr : List Int) (yb : Bool) (yn : List Int) (yc : Bool) (z : List Int) (za : List (List Int)) (zb : Bool) (w : World) (hr0 : Kd.C (Kd.int .u8) w A0 l0.length l0) (hc0 : l0.length ≤ c0) (hr1 : Kd.C (Kd.int .u8) w A1 l1.length l1) (hc1 : l1.length ≤ c1)
    (HF : (laws_big.f l0 l1 = some false) ∧ (spec_DrawTurnFolding.f k l0 = some (p, by_)) ∧ (impl_TurnFolding.f k p by_ = some (q, true)) ∧ (spec_TurnFolding.f k p by_ = some (q, true)) ∧ (laws_ySame.f k q q = some true) ∧ (impl_IsFolding.f k p = some (false, true)) ∧ (impl_IsFolding.f k q = some (false, true)) ∧ (impl_TurnFolding.f k q (wrap64 (-by_)) = some (p, true)) ∧ (impl_ReverseFolding.f k p = some (rev, true)) ∧ (impl_IsFolding.f k rev = some (false, true)) ∧ (impl_RenumberFolding.f k p = some (num, true)) ∧ (impl_IsFolding.f k num = some (false, true)) ∧ (laws_ySame.f k p p = some true) ∧ (spec_DrawCrossedArcs.f k l1 = some x) ∧ (impl_CrossedArcs.f k x = some (cr, true)) ∧ (spec_CrossedArcs.f k x = some (cr, true)) ∧ (impl_IsFolding.f k x = some (((cr.length : Int) == 0), true)) ∧ (laws_yRows.f k cr cr = some true) ∧ (spec_DrawReverseFolding.f k l1 = some y) ∧ (impl_ReverseFolding.f k y = some (yr, yb)) ∧ (spec_ReverseFolding.f k y = some (yr, yb)) ∧ (impl_RenumberFolding.f k y = some (yn, yc)) ∧ (spec_RenumberFolding.f k y = some (yn, yc)) ∧ (spec_DrawAddStamp.f k l1 = some z) ∧ (impl_AddStamp.f k z = some (za, zb)) ∧ (spec_AddStamp.f k z = some (za, zb)) ∧ (laws_ySame.f k yr yr = some true) ∧ (laws_ySame.f k yn yn = some true) ∧ (laws_yRows.f k za za = some true)) :
    Calls Try.prog 10 #[.slice A0 l0.length c0, .slice A1 l1.length c1] w fun e w' => e = .returned (.bool true) ∧ Below w.heap.size w w' := by
  obtain ⟨F1, F2, F3, F4, F5, F6, F7, F8, F9, F10, F11, F12, F13, F14, F15, F16, F17, F18, F19, F20, F21, F22, F23, F24, F25, F26, F27, F28, F29⟩ := HF
  have HP0 := Aside0.mk (show l0.length = l0.length ∧ l0.length ≤ c0 ∧ _ from ⟨rfl, hc0, hr0⟩)
  clear hr0 hc0
  have HP1 := Aside0.mk (show l1.length = l1.length ∧ l1.length ≤ c1 ∧ _ from ⟨rfl, hc1, hr1⟩)
  clear hr1 hc1
  have AF1 := Aside0.mk F1
  clear F1
  have AF2 := Aside0.mk F2
  clear F2
  have AF3 := Aside0.mk F3
  clear F3
  have AF4 := Aside0.mk F4
  clear F4
  have AF5 := Aside0.mk F5
  clear F5
  have AF6 := Aside0.mk F6
  clear F6
  have AF7 := Aside0.mk F7
  clear F7
  have AF8 := Aside0.mk F8
  clear F8
  have AF9 := Aside0.mk F9
  clear F9
  have AF10 := Aside0.mk F10
  clear F10
  have AF11 := Aside0.mk F11
  clear F11
  have AF12 := Aside0.mk F12
  clear F12
  have AF13 := Aside0.mk F13
  clear F13
  have AF14 := Aside0.mk F14
  clear F14
  have AF15 := Aside0.mk F15
  clear F15
  have AF16 := Aside0.mk F16
  clear F16
  have AF17 := Aside0.mk F17
  clear F17
  have AF18 := Aside0.mk F18
  clear F18
  have AF19 := Aside0.mk F19
  clear F19
  have AF20 := Aside0.mk F20
  clear F20
  have AF21 := Aside0.mk F21
  clear F21
  have AF22 := Aside0.mk F22
  clear F22
  have AF23 := Aside0.mk F23
  clear F23
  have AF24 := Aside0.mk F24
  clear F24
  have AF25 := Aside0.mk F25
  clear F25
  have AF26 := Aside0.mk F26
  clear F26
  have AF27 := Aside0.mk F27
  clear F27
  have AF28 := Aside0.mk F28
  clear F28
  have AF29 := Aside0.mk F29
  clear F29
  have b1 : (yb == yb) = true := beq_self_eq_true yb
  have b2 : (yc == yc) = true := beq_self_eq_true yc
  have b3 : (zb == zb) = true := beq_self_eq_true zb
  have b4 : (((cr.length : Int) == 0) != ((cr.length : Int) == 0)) = false := bne_self_eq_false _
  have HC := Aside0.mk (show Ch [] w from trivial)
  have K0 := Aside0.mk True.intro
  go_enter Try.func10, Try.ntmps10
  go_wp2_with (first
    | (go_at_call 43; have hK := K28.out; (with_reducible refine (laws_yRows.calls k _ _ za _ _ za true _ (Kd.C_below CF24_0.out.2.2 HC.out.tl.tl.hd) CF24_0.out.2.1 (Kd.C_below CF25_0.out.2.2 HC.out.tl.hd) CF25_0.out.2.1 AF29.out).mono ?_); rintro e w29_ ⟨rfl, hd⟩; clear hK K28; have hb := drawn_below hd; clear hd; have nHC := Aside0.mk (HC.out.step hb); clear HC hb; have HC := nHC; clear nHC; have K29 := Aside0.mk True.intro)
    | (go_at_call 36; have hK := K27.out; (with_reducible refine (laws_ySame.calls k _ _ yn _ _ yn true _ (Kd.C_below CF21_0.out.2.2 HC.out.tl.tl.tl.tl.hd) CF21_0.out.2.1 (Kd.C_below CF22_0.out.2.2 HC.out.tl.tl.tl.hd) CF22_0.out.2.1 AF28.out).mono ?_); rintro e w28_ ⟨rfl, hd⟩; clear hK K27; have hb := drawn_below hd; clear hd; have nHC := Aside0.mk (HC.out.step hb); clear HC hb; have HC := nHC; clear nHC; have K28 := Aside0.mk True.intro)
    | (go_at_call 36; have hK := K26.out; (with_reducible refine (laws_ySame.calls k _ _ yr _ _ yr true _ (Kd.C_below CF19_0.out.2.2 HC.out.tl.tl.tl.tl.tl.hd) CF19_0.out.2.1 (Kd.C_below CF20_0.out.2.2 HC.out.tl.tl.tl.tl.hd) CF20_0.out.2.1 AF27.out).mono ?_); rintro e w27_ ⟨rfl, hd⟩; clear hK K26; have hb := drawn_below hd; clear hd; have nHC := Aside0.mk (HC.out.step hb); clear HC hb; have HC := nHC; clear nHC; have K27 := Aside0.mk True.intro)
    | (go_at_call 22; have hK := K25.out; (with_reducible refine (spec_AddStamp.calls k _ _ z za zb _ (Kd.C_below CF23_0.out.2.2 HC.out.hd) CF23_0.out.2.1 AF26.out).mono ?_); rintro e w26_ ⟨v25_v0_, rfl, ho0, hb⟩; clear hK K25; obtain ⟨Ar25_0, cr25_0, rfl⟩ := Kd.N_slice ho0; have CF25_0 := Aside0.mk (Kd.N_reads' ho0); have nHC := Aside0.mk (HC.out.step hb); clear HC hb ho0; have HC := nHC; clear nHC; have K26 := Aside0.mk True.intro)
    | (go_at_call 24; have hK := K24.out; (with_reducible refine (impl_AddStamp.calls k _ _ z za zb _ CF23_0.out.2.2 CF23_0.out.2.1 AF25.out).mono ?_); rintro e w25_ ⟨v24_v0_, rfl, ho0, hb⟩; clear hK K24; obtain ⟨Ar24_0, cr24_0, rfl⟩ := Kd.S_slice ho0; have CF24_0 := Aside0.mk (Kd.S_reads' ho0); have nHC := Aside0.mk (HC.out.step hb); clear HC hb ho0; have HC := nHC; clear nHC; have K25 := Aside0.mk True.intro)
    | (go_at_call 47; have hK := K23.out; (with_reducible refine (spec_DrawAddStamp.calls k _ _ l1 z _ (Kd.C_below HP1.out.2.2 HC.out.tl.tl.tl.tl.tl.tl.tl.tl.tl.tl.tl.tl.tl.tl.tl.tl.tl.tl.tl.tl.tl.tl.hd) HP1.out.2.1 AF24.out).mono ?_); rintro e w24_ ⟨v23_v0_, rfl, ho0, hb⟩; clear hK K23; obtain ⟨Ar23_0, cr23_0, rfl⟩ := Kd.R_slice ho0; have CF23_0 := Aside0.mk (Kd.R_reads' ho0); have nHC := Aside0.mk (HC.out.step hb); clear HC hb ho0; have HC := nHC; clear nHC; have K24 := Aside0.mk True.intro)
    | (go_at_call 46; have hK := K22.out; (with_reducible refine (spec_RenumberFolding.calls k _ _ y yn yc _ (Kd.C_below CF18_0.out.2.2 HC.out.tl.tl.hd) CF18_0.out.2.1 AF23.out).mono ?_); rintro e w23_ ⟨v22_v0_, rfl, ho0, hb⟩; clear hK K22; obtain ⟨Ar22_0, cr22_0, rfl⟩ := Kd.R_slice ho0; have CF22_0 := Aside0.mk (Kd.R_reads' ho0); have nHC := Aside0.mk (HC.out.step hb); clear HC hb ho0; have HC := nHC; clear nHC; have K23 := Aside0.mk True.intro)
    | (go_at_call 39; have hK := K21.out; (with_reducible refine (impl_RenumberFolding.calls k _ _ y yn yc _ (Kd.C_below CF18_0.out.2.2 HC.out.tl.hd) CF18_0.out.2.1 AF22.out).mono ?_); rintro e w22_ ⟨v21_v0_, rfl, ho0, hb⟩; clear hK K21; obtain ⟨Ar21_0, cr21_0, rfl⟩ := Kd.R_slice ho0; have CF21_0 := Aside0.mk (Kd.R_reads' ho0); have nHC := Aside0.mk (HC.out.step hb); clear HC hb ho0; have HC := nHC; clear nHC; have K22 := Aside0.mk True.intro)
    | (go_at_call 45; have hK := K20.out; (with_reducible refine (spec_ReverseFolding.calls k _ _ y yr yb _ (Kd.C_below CF18_0.out.2.2 HC.out.hd) CF18_0.out.2.1 AF21.out).mono ?_); rintro e w21_ ⟨v20_v0_, rfl, ho0, hb⟩; clear hK K20; obtain ⟨Ar20_0, cr20_0, rfl⟩ := Kd.R_slice ho0; have CF20_0 := Aside0.mk (Kd.R_reads' ho0); have nHC := Aside0.mk (HC.out.step hb); clear HC hb ho0; have HC := nHC; clear nHC; have K21 := Aside0.mk True.intro)
    | (go_at_call 38; have hK := K19.out; (with_reducible refine (impl_ReverseFolding.calls k _ _ y yr yb _ CF18_0.out.2.2 CF18_0.out.2.1 AF20.out).mono ?_); rintro e w20_ ⟨v19_v0_, rfl, ho0, hb⟩; clear hK K19; obtain ⟨Ar19_0, cr19_0, rfl⟩ := Kd.R_slice ho0; have CF19_0 := Aside0.mk (Kd.R_reads' ho0); have nHC := Aside0.mk (HC.out.step hb); clear HC hb ho0; have HC := nHC; clear nHC; have K20 := Aside0.mk True.intro)
    | (go_at_call 44; have hK := K18.out; (with_reducible refine (spec_DrawReverseFolding.calls k _ _ l1 y _ (Kd.C_below HP1.out.2.2 HC.out.tl.tl.tl.tl.tl.tl.tl.tl.tl.tl.tl.tl.tl.tl.tl.tl.tl.hd) HP1.out.2.1 AF19.out).mono ?_); rintro e w19_ ⟨v18_v0_, rfl, ho0, hb⟩; clear hK K18; obtain ⟨Ar18_0, cr18_0, rfl⟩ := Kd.R_slice ho0; have CF18_0 := Aside0.mk (Kd.R_reads' ho0); have nHC := Aside0.mk (HC.out.step hb); clear HC hb ho0; have HC := nHC; clear nHC; have K19 := Aside0.mk True.intro)
    | (go_at_call 43; have hK := K17.out; (with_reducible refine (laws_yRows.calls k _ _ cr _ _ cr true _ (Kd.C_below CF14_0.out.2.2 HC.out.tl.hd) CF14_0.out.2.1 (Kd.C_below CF15_0.out.2.2 HC.out.hd) CF15_0.out.2.1 AF18.out).mono ?_); rintro e w18_ ⟨rfl, hd⟩; clear hK K17; have hb := drawn_below hd; clear hd; have nHC := Aside0.mk (HC.out.step hb); clear HC hb; have HC := nHC; clear nHC; have K18 := Aside0.mk True.intro)
    | (go_at_call 37; have hK := K16.out; (with_reducible refine (impl_IsFolding.calls k _ _ x ((cr.length : Int) == 0) true _ (Kd.C_below CF13_0.out.2.2 HC.out.tl.hd) CF13_0.out.2.1 AF17.out).mono ?_); rintro e w17_ ⟨rfl, hb⟩; clear hK K16; have nHC := Aside0.mk (HC.out.step hb); clear HC hb; have HC := nHC; clear nHC; have K17 := Aside0.mk True.intro)
    | (go_at_call 42; have hK := K15.out; (with_reducible refine (spec_CrossedArcs.calls k _ _ x cr true _ (Kd.C_below CF13_0.out.2.2 HC.out.hd) CF13_0.out.2.1 AF16.out).mono ?_); rintro e w16_ ⟨v15_v0_, rfl, ho0, hb⟩; clear hK K15; obtain ⟨Ar15_0, cr15_0, rfl⟩ := Kd.S_slice ho0; have CF15_0 := Aside0.mk (Kd.S_reads' ho0); have nHC := Aside0.mk (HC.out.step hb); clear HC hb ho0; have HC := nHC; clear nHC; have K16 := Aside0.mk True.intro)
    | (go_at_call 41; have hK := K14.out; (with_reducible refine (impl_CrossedArcs.calls k _ _ x cr true _ CF13_0.out.2.2 CF13_0.out.2.1 AF15.out).mono ?_); rintro e w15_ ⟨v14_v0_, rfl, ho0, hb⟩; clear hK K14; obtain ⟨Ar14_0, cr14_0, rfl⟩ := Kd.S_slice ho0; have CF14_0 := Aside0.mk (Kd.S_reads' ho0); have nHC := Aside0.mk (HC.out.step hb); clear HC hb ho0; have HC := nHC; clear nHC; have K15 := Aside0.mk True.intro)
    | (go_at_call 40; have hK := K13.out; (with_reducible refine (spec_DrawCrossedArcs.calls k _ _ l1 x _ (Kd.C_below HP1.out.2.2 HC.out.tl.tl.tl.tl.tl.tl.tl.tl.tl.tl.tl.tl.hd) HP1.out.2.1 AF14.out).mono ?_); rintro e w14_ ⟨v13_v0_, rfl, ho0, hb⟩; clear hK K13; obtain ⟨Ar13_0, cr13_0, rfl⟩ := Kd.R_slice ho0; have CF13_0 := Aside0.mk (Kd.R_reads' ho0); have nHC := Aside0.mk (HC.out.step hb); clear HC hb ho0; have HC := nHC; clear nHC; have K14 := Aside0.mk True.intro)
    | (go_at_call 36; have hK := K12.out; (with_reducible refine (laws_ySame.calls k _ _ p _ _ p true _ (Kd.C_below CF7_0.out.2.2 HC.out.tl.tl.tl.hd) CF7_0.out.2.1 (Kd.C_below CF1_0.out.2.2 HC.out.tl.tl.tl.tl.tl.tl.tl.tl.tl.hd) CF1_0.out.2.1 AF13.out).mono ?_); rintro e w13_ ⟨rfl, hd⟩; clear hK K12; have hb := drawn_below hd; clear hd; have nHC := Aside0.mk (HC.out.step hb); clear HC hb; have HC := nHC; clear nHC; have K13 := Aside0.mk True.intro)
    | (go_at_call 37; have hK := K11.out; (with_reducible refine (impl_IsFolding.calls k _ _ num false true _ CF10_0.out.2.2 CF10_0.out.2.1 AF12.out).mono ?_); rintro e w12_ ⟨rfl, hb⟩; clear hK K11; have nHC := Aside0.mk (HC.out.step hb); clear HC hb; have HC := nHC; clear nHC; have K12 := Aside0.mk True.intro)
    | (go_at_call 39; have hK := K10.out; (with_reducible refine (impl_RenumberFolding.calls k _ _ p num true _ (Kd.C_below CF1_0.out.2.2 HC.out.tl.tl.tl.tl.tl.tl.tl.hd) CF1_0.out.2.1 AF11.out).mono ?_); rintro e w11_ ⟨v10_v0_, rfl, ho0, hb⟩; clear hK K10; obtain ⟨Ar10_0, cr10_0, rfl⟩ := Kd.R_slice ho0; have CF10_0 := Aside0.mk (Kd.R_reads' ho0); have nHC := Aside0.mk (HC.out.step hb); clear HC hb ho0; have HC := nHC; clear nHC; have K11 := Aside0.mk True.intro)
    | (go_at_call 37; have hK := K9.out; (with_reducible refine (impl_IsFolding.calls k _ _ rev false true _ CF8_0.out.2.2 CF8_0.out.2.1 AF10.out).mono ?_); rintro e w10_ ⟨rfl, hb⟩; clear hK K9; have nHC := Aside0.mk (HC.out.step hb); clear HC hb; have HC := nHC; clear nHC; have K10 := Aside0.mk True.intro)
    | (go_at_call 38; have hK := K8.out; (with_reducible refine (impl_ReverseFolding.calls k _ _ p rev true _ (Kd.C_below CF1_0.out.2.2 HC.out.tl.tl.tl.tl.tl.hd) CF1_0.out.2.1 AF9.out).mono ?_); rintro e w9_ ⟨v8_v0_, rfl, ho0, hb⟩; clear hK K8; obtain ⟨Ar8_0, cr8_0, rfl⟩ := Kd.R_slice ho0; have CF8_0 := Aside0.mk (Kd.R_reads' ho0); have nHC := Aside0.mk (HC.out.step hb); clear HC hb ho0; have HC := nHC; clear nHC; have K9 := Aside0.mk True.intro)
    | (go_at_call 34; have hK := K7.out; (with_reducible refine (impl_TurnFolding.calls k _ _ q (wrap64 (-by_)) p true _ (Kd.C_below CF2_0.out.2.2 HC.out.tl.tl.tl.hd) CF2_0.out.2.1 AF8.out).mono ?_); rintro e w8_ ⟨v7_v0_, rfl, ho0, hb⟩; clear hK K7; obtain ⟨Ar7_0, cr7_0, rfl⟩ := Kd.R_slice ho0; have CF7_0 := Aside0.mk (Kd.R_reads' ho0); have nHC := Aside0.mk (HC.out.step hb); clear HC hb ho0; have HC := nHC; clear nHC; have K8 := Aside0.mk True.intro)
    | (go_at_call 37; have hK := K6.out; (with_reducible refine (impl_IsFolding.calls k _ _ q false true _ (Kd.C_below CF2_0.out.2.2 HC.out.tl.tl.hd) CF2_0.out.2.1 AF7.out).mono ?_); rintro e w7_ ⟨rfl, hb⟩; clear hK K6; have nHC := Aside0.mk (HC.out.step hb); clear HC hb; have HC := nHC; clear nHC; have K7 := Aside0.mk True.intro)
    | (go_at_call 37; have hK := K5.out; (with_reducible refine (impl_IsFolding.calls k _ _ p false true _ (Kd.C_below CF1_0.out.2.2 HC.out.tl.tl.hd) CF1_0.out.2.1 AF6.out).mono ?_); rintro e w6_ ⟨rfl, hb⟩; clear hK K5; have nHC := Aside0.mk (HC.out.step hb); clear HC hb; have HC := nHC; clear nHC; have K6 := Aside0.mk True.intro)
    | (go_at_call 36; have hK := K4.out; (with_reducible refine (laws_ySame.calls k _ _ q _ _ q true _ (Kd.C_below CF2_0.out.2.2 HC.out.hd) CF2_0.out.2.1 CF3_0.out.2.2 CF3_0.out.2.1 AF5.out).mono ?_); rintro e w5_ ⟨rfl, hd⟩; clear hK K4; have hb := drawn_below hd; clear hd; have nHC := Aside0.mk (HC.out.step hb); clear HC hb; have HC := nHC; clear nHC; have K5 := Aside0.mk True.intro)
    | (go_at_call 35; have hK := K3.out; (with_reducible refine (spec_TurnFolding.calls k _ _ p by_ q true _ (Kd.C_below CF1_0.out.2.2 HC.out.hd) CF1_0.out.2.1 AF4.out).mono ?_); rintro e w4_ ⟨v3_v0_, rfl, ho0, hb⟩; clear hK K3; obtain ⟨Ar3_0, cr3_0, rfl⟩ := Kd.R_slice ho0; have CF3_0 := Aside0.mk (Kd.R_reads' ho0); have nHC := Aside0.mk (HC.out.step hb); clear HC hb ho0; have HC := nHC; clear nHC; have K4 := Aside0.mk True.intro)
    | (go_at_call 34; have hK := K2.out; (with_reducible refine (impl_TurnFolding.calls k _ _ p by_ q true _ CF1_0.out.2.2 CF1_0.out.2.1 AF3.out).mono ?_); rintro e w3_ ⟨v2_v0_, rfl, ho0, hb⟩; clear hK K2; obtain ⟨Ar2_0, cr2_0, rfl⟩ := Kd.R_slice ho0; have CF2_0 := Aside0.mk (Kd.R_reads' ho0); have nHC := Aside0.mk (HC.out.step hb); clear HC hb ho0; have HC := nHC; clear nHC; have K3 := Aside0.mk True.intro)
    | (go_at_call 33; have hK := K1.out; (with_reducible refine (spec_DrawTurnFolding.calls k _ _ l0 p by_ _ (Kd.C_below HP0.out.2.2 HC.out.hd) HP0.out.2.1 AF2.out).mono ?_); rintro e w2_ ⟨v1_v0_, rfl, ho0, hb⟩; clear hK K1; obtain ⟨Ar1_0, cr1_0, rfl⟩ := Kd.R_slice ho0; have CF1_0 := Aside0.mk (Kd.R_reads' ho0); have nHC := Aside0.mk (HC.out.step hb); clear HC hb ho0; have HC := nHC; clear nHC; have K2 := Aside0.mk True.intro)
    | (go_at_call 32; have hK := K0.out; (with_reducible refine (laws_big.calls _ _ l0 _ _ l1 false _ HP0.out.2.2 HP0.out.2.1 HP1.out.2.2 HP1.out.2.1 AF1.out).mono ?_); rintro e w1_ ⟨rfl, hd⟩; clear hK K0; have hb := drawn_below hd; clear hd; have nHC := Aside0.mk (HC.out.step hb); clear HC hb; have HC := nHC; clear nHC; have K1 := Aside0.mk True.intro))
  go_ret
  exact ⟨rfl, HC.out.tl.tl.tl.tl.tl.tl.tl.tl.tl.tl.tl.tl.tl.tl.tl.tl.tl.tl.tl.tl.tl.tl.tl.tl.tl.tl.tl.tl.hd⟩
def t_one_true.Told (k : Nat) (l0 : List Int) (l1 : List Int) : Prop := ∃ (p : List Int) (by_ : Int) (q : List Int) (rev : List Int) (num : List Int) (x : List Int) (cr : List (List Int)) (y : List Int) (yr : List Int) (yb : Bool) (yn : List Int) (yc : Bool) (z : List Int) (za : List (List Int)) (zb : Bool), (laws_big.f l0 l1 = some false) ∧ (spec_DrawTurnFolding.f k l0 = some (p, by_)) ∧ (impl_TurnFolding.f k p by_ = some (q, true)) ∧ (spec_TurnFolding.f k p by_ = some (q, true)) ∧ (laws_ySame.f k q q = some true) ∧ (impl_IsFolding.f k p = some (true, true)) ∧ (impl_IsFolding.f k q = some (true, true)) ∧ (impl_TurnFolding.f k q (wrap64 (-by_)) = some (p, true)) ∧ (impl_ReverseFolding.f k p = some (rev, true)) ∧ (impl_IsFolding.f k rev = some (true, true)) ∧ (impl_RenumberFolding.f k p = some (num, true)) ∧ (impl_IsFolding.f k num = some (true, true)) ∧ (laws_ySame.f k p p = some true) ∧ (p.length = 1) ∧ (spec_DrawCrossedArcs.f k l1 = some x) ∧ (impl_CrossedArcs.f k x = some (cr, true)) ∧ (spec_CrossedArcs.f k x = some (cr, true)) ∧ (impl_IsFolding.f k x = some (((cr.length : Int) == 0), true)) ∧ (laws_yRows.f k cr cr = some true) ∧ (spec_DrawReverseFolding.f k l1 = some y) ∧ (impl_ReverseFolding.f k y = some (yr, yb)) ∧ (spec_ReverseFolding.f k y = some (yr, yb)) ∧ (impl_RenumberFolding.f k y = some (yn, yc)) ∧ (spec_RenumberFolding.f k y = some (yn, yc)) ∧ (spec_DrawAddStamp.f k l1 = some z) ∧ (impl_AddStamp.f k z = some (za, zb)) ∧ (spec_AddStamp.f k z = some (za, zb)) ∧ (laws_ySame.f k yr yr = some true) ∧ (laws_ySame.f k yn yn = some true) ∧ (laws_yRows.f k za za = some true)
set_option maxHeartbeats 16000000 in
set_option maxRecDepth 100000 in
theorem t_one_true (k : Nat) (l0 : List Int) (l1 : List Int) (A0 : Option Addr) (c0 : Nat) (A1 : Option Addr) (c1 : Nat) (p : List Int) (by_ : Int) (q : List Int) (rev : List Int) (num : List Int) (x : List Int) (cr : List (List Int)) (y : List Int) (yr : List Int) (yb : Bool) (yn : List Int) (yc : Bool) (z : List Int) (za : List (List Int)) (zb : Bool) (w : World) (hr0 : Kd.C (Kd.int .u8) w A0 l0.length l0) (hc0 : l0.length ≤ c0) (hr1 : Kd.C (Kd.int .u8) w A1 l1.length l1) (hc1 : l1.length ≤ c1)
    (HF : (laws_big.f l0 l1 = some false) ∧ (spec_DrawTurnFolding.f k l0 = some (p, by_)) ∧ (impl_TurnFolding.f k p by_ = some (q, true)) ∧ (spec_TurnFolding.f k p by_ = some (q, true)) ∧ (laws_ySame.f k q q = some true) ∧ (impl_IsFolding.f k p = some (true, true)) ∧ (impl_IsFolding.f k q = some (true, true)) ∧ (impl_TurnFolding.f k q (wrap64 (-by_)) = some (p, true)) ∧ (impl_ReverseFolding.f k p = some (rev, true)) ∧ (impl_IsFolding.f k rev = some (true, true)) ∧ (impl_RenumberFolding.f k p = some (num, true)) ∧ (impl_IsFolding.f k num = some (true, true)) ∧ (laws_ySame.f k p p = some true) ∧ (p.length = 1) ∧ (spec_DrawCrossedArcs.f k l1 = some x) ∧ (impl_CrossedArcs.f k x = some (cr, true)) ∧ (spec_CrossedArcs.f k x = some (cr, true)) ∧ (impl_IsFolding.f k x = some (((cr.length : Int) == 0), true)) ∧ (laws_yRows.f k cr cr = some true) ∧ (spec_DrawReverseFolding.f k l1 = some y) ∧ (impl_ReverseFolding.f k y = some (yr, yb)) ∧ (spec_ReverseFolding.f k y = some (yr, yb)) ∧ (impl_RenumberFolding.f k y = some (yn, yc)) ∧ (spec_RenumberFolding.f k y = some (yn, yc)) ∧ (spec_DrawAddStamp.f k l1 = some z) ∧ (impl_AddStamp.f k z = some (za, zb)) ∧ (spec_AddStamp.f k z = some (za, zb)) ∧ (laws_ySame.f k yr yr = some true) ∧ (laws_ySame.f k yn yn = some true) ∧ (laws_yRows.f k za za = some true)) :
    Calls Try.prog 10 #[.slice A0 l0.length c0, .slice A1 l1.length c1] w fun e w' => e = .returned (.bool true) ∧ Below w.heap.size w w' := by
  obtain ⟨F1, F2, F3, F4, F5, F6, F7, F8, F9, F10, F11, F12, F13, HL, F15, F16, F17, F18, F19, F20, F21, F22, F23, F24, F25, F26, F27, F28, F29, F30⟩ := HF
  have HP0 := Aside0.mk (show l0.length = l0.length ∧ l0.length ≤ c0 ∧ _ from ⟨rfl, hc0, hr0⟩)
  clear hr0 hc0
  have HP1 := Aside0.mk (show l1.length = l1.length ∧ l1.length ≤ c1 ∧ _ from ⟨rfl, hc1, hr1⟩)
  clear hr1 hc1
  have AF1 := Aside0.mk F1
  clear F1
  have AF2 := Aside0.mk F2
  clear F2
  have AF3 := Aside0.mk F3
  clear F3
  have AF4 := Aside0.mk F4
  clear F4
  have AF5 := Aside0.mk F5
  clear F5
  have AF6 := Aside0.mk F6
  clear F6
  have AF7 := Aside0.mk F7
  clear F7
  have AF8 := Aside0.mk F8
  clear F8
  have AF9 := Aside0.mk F9
  clear F9
  have AF10 := Aside0.mk F10
  clear F10
  have AF11 := Aside0.mk F11
  clear F11
  have AF12 := Aside0.mk F12
  clear F12
  have AF13 := Aside0.mk F13
  clear F13
  have AHL := Aside0.mk HL
  clear HL
  have AF15 := Aside0.mk F15
  clear F15
  have AF16 := Aside0.mk F16
  clear F16
  have AF17 := Aside0.mk F17
  clear F17
  have AF18 := Aside0.mk F18
  clear F18
  have AF19 := Aside0.mk F19
  clear F19
  have AF20 := Aside0.mk F20
  clear F20
  have AF21 := Aside0.mk F21
  clear F21
  have AF22 := Aside0.mk F22
  clear F22
  have AF23 := Aside0.mk F23
  clear F23
  have AF24 := Aside0.mk F24
  clear F24
  have AF25 := Aside0.mk F25
  clear F25
  have AF26 := Aside0.mk F26
  clear F26
  have AF27 := Aside0.mk F27
  clear F27
  have AF28 := Aside0.mk F28
  clear F28
  have AF29 := Aside0.mk F29
  clear F29
  have AF30 := Aside0.mk F30
  clear F30
  have bl : decide ((1 : Int) < (p.length : Int)) = false := decide_eq_false (by have := AHL.out; omega)
  have b1 : (yb == yb) = true := beq_self_eq_true yb
  have b2 : (yc == yc) = true := beq_self_eq_true yc
  have b3 : (zb == zb) = true := beq_self_eq_true zb
  have b4 : (((cr.length : Int) == 0) != ((cr.length : Int) == 0)) = false := bne_self_eq_false _
  have HC := Aside0.mk (show Ch [] w from trivial)
  have K0 := Aside0.mk True.intro
  go_enter Try.func10, Try.ntmps10
  go_wp2_with (first
    | (go_at_call 43; have hK := K28.out; (with_reducible refine (laws_yRows.calls k _ _ za _ _ za true _ (Kd.C_below CF24_0.out.2.2 HC.out.tl.tl.hd) CF24_0.out.2.1 (Kd.C_below CF25_0.out.2.2 HC.out.tl.hd) CF25_0.out.2.1 AF30.out).mono ?_); rintro e w29_ ⟨rfl, hd⟩; clear hK K28; have hb := drawn_below hd; clear hd; have nHC := Aside0.mk (HC.out.step hb); clear HC hb; have HC := nHC; clear nHC; have K29 := Aside0.mk True.intro)
    | (go_at_call 36; have hK := K27.out; (with_reducible refine (laws_ySame.calls k _ _ yn _ _ yn true _ (Kd.C_below CF21_0.out.2.2 HC.out.tl.tl.tl.tl.hd) CF21_0.out.2.1 (Kd.C_below CF22_0.out.2.2 HC.out.tl.tl.tl.hd) CF22_0.out.2.1 AF29.out).mono ?_); rintro e w28_ ⟨rfl, hd⟩; clear hK K27; have hb := drawn_below hd; clear hd; have nHC := Aside0.mk (HC.out.step hb); clear HC hb; have HC := nHC; clear nHC; have K28 := Aside0.mk True.intro)
    | (go_at_call 36; have hK := K26.out; (with_reducible refine (laws_ySame.calls k _ _ yr _ _ yr true _ (Kd.C_below CF19_0.out.2.2 HC.out.tl.tl.tl.tl.tl.hd) CF19_0.out.2.1 (Kd.C_below CF20_0.out.2.2 HC.out.tl.tl.tl.tl.hd) CF20_0.out.2.1 AF28.out).mono ?_); rintro e w27_ ⟨rfl, hd⟩; clear hK K26; have hb := drawn_below hd; clear hd; have nHC := Aside0.mk (HC.out.step hb); clear HC hb; have HC := nHC; clear nHC; have K27 := Aside0.mk True.intro)
    | (go_at_call 22; have hK := K25.out; (with_reducible refine (spec_AddStamp.calls k _ _ z za zb _ (Kd.C_below CF23_0.out.2.2 HC.out.hd) CF23_0.out.2.1 AF27.out).mono ?_); rintro e w26_ ⟨v25_v0_, rfl, ho0, hb⟩; clear hK K25; obtain ⟨Ar25_0, cr25_0, rfl⟩ := Kd.N_slice ho0; have CF25_0 := Aside0.mk (Kd.N_reads' ho0); have nHC := Aside0.mk (HC.out.step hb); clear HC hb ho0; have HC := nHC; clear nHC; have K26 := Aside0.mk True.intro)
    | (go_at_call 24; have hK := K24.out; (with_reducible refine (impl_AddStamp.calls k _ _ z za zb _ CF23_0.out.2.2 CF23_0.out.2.1 AF26.out).mono ?_); rintro e w25_ ⟨v24_v0_, rfl, ho0, hb⟩; clear hK K24; obtain ⟨Ar24_0, cr24_0, rfl⟩ := Kd.S_slice ho0; have CF24_0 := Aside0.mk (Kd.S_reads' ho0); have nHC := Aside0.mk (HC.out.step hb); clear HC hb ho0; have HC := nHC; clear nHC; have K25 := Aside0.mk True.intro)
    | (go_at_call 47; have hK := K23.out; (with_reducible refine (spec_DrawAddStamp.calls k _ _ l1 z _ (Kd.C_below HP1.out.2.2 HC.out.tl.tl.tl.tl.tl.tl.tl.tl.tl.tl.tl.tl.tl.tl.tl.tl.tl.tl.tl.tl.tl.tl.hd) HP1.out.2.1 AF25.out).mono ?_); rintro e w24_ ⟨v23_v0_, rfl, ho0, hb⟩; clear hK K23; obtain ⟨Ar23_0, cr23_0, rfl⟩ := Kd.R_slice ho0; have CF23_0 := Aside0.mk (Kd.R_reads' ho0); have nHC := Aside0.mk (HC.out.step hb); clear HC hb ho0; have HC := nHC; clear nHC; have K24 := Aside0.mk True.intro)
    | (go_at_call 46; have hK := K22.out; (with_reducible refine (spec_RenumberFolding.calls k _ _ y yn yc _ (Kd.C_below CF18_0.out.2.2 HC.out.tl.tl.hd) CF18_0.out.2.1 AF24.out).mono ?_); rintro e w23_ ⟨v22_v0_, rfl, ho0, hb⟩; clear hK K22; obtain ⟨Ar22_0, cr22_0, rfl⟩ := Kd.R_slice ho0; have CF22_0 := Aside0.mk (Kd.R_reads' ho0); have nHC := Aside0.mk (HC.out.step hb); clear HC hb ho0; have HC := nHC; clear nHC; have K23 := Aside0.mk True.intro)
    | (go_at_call 39; have hK := K21.out; (with_reducible refine (impl_RenumberFolding.calls k _ _ y yn yc _ (Kd.C_below CF18_0.out.2.2 HC.out.tl.hd) CF18_0.out.2.1 AF23.out).mono ?_); rintro e w22_ ⟨v21_v0_, rfl, ho0, hb⟩; clear hK K21; obtain ⟨Ar21_0, cr21_0, rfl⟩ := Kd.R_slice ho0; have CF21_0 := Aside0.mk (Kd.R_reads' ho0); have nHC := Aside0.mk (HC.out.step hb); clear HC hb ho0; have HC := nHC; clear nHC; have K22 := Aside0.mk True.intro)
    | (go_at_call 45; have hK := K20.out; (with_reducible refine (spec_ReverseFolding.calls k _ _ y yr yb _ (Kd.C_below CF18_0.out.2.2 HC.out.hd) CF18_0.out.2.1 AF22.out).mono ?_); rintro e w21_ ⟨v20_v0_, rfl, ho0, hb⟩; clear hK K20; obtain ⟨Ar20_0, cr20_0, rfl⟩ := Kd.R_slice ho0; have CF20_0 := Aside0.mk (Kd.R_reads' ho0); have nHC := Aside0.mk (HC.out.step hb); clear HC hb ho0; have HC := nHC; clear nHC; have K21 := Aside0.mk True.intro)
    | (go_at_call 38; have hK := K19.out; (with_reducible refine (impl_ReverseFolding.calls k _ _ y yr yb _ CF18_0.out.2.2 CF18_0.out.2.1 AF21.out).mono ?_); rintro e w20_ ⟨v19_v0_, rfl, ho0, hb⟩; clear hK K19; obtain ⟨Ar19_0, cr19_0, rfl⟩ := Kd.R_slice ho0; have CF19_0 := Aside0.mk (Kd.R_reads' ho0); have nHC := Aside0.mk (HC.out.step hb); clear HC hb ho0; have HC := nHC; clear nHC; have K20 := Aside0.mk True.intro)
    | (go_at_call 44; have hK := K18.out; (with_reducible refine (spec_DrawReverseFolding.calls k _ _ l1 y _ (Kd.C_below HP1.out.2.2 HC.out.tl.tl.tl.tl.tl.tl.tl.tl.tl.tl.tl.tl.tl.tl.tl.tl.tl.hd) HP1.out.2.1 AF20.out).mono ?_); rintro e w19_ ⟨v18_v0_, rfl, ho0, hb⟩; clear hK K18; obtain ⟨Ar18_0, cr18_0, rfl⟩ := Kd.R_slice ho0; have CF18_0 := Aside0.mk (Kd.R_reads' ho0); have nHC := Aside0.mk (HC.out.step hb); clear HC hb ho0; have HC := nHC; clear nHC; have K19 := Aside0.mk True.intro)
    | (go_at_call 43; have hK := K17.out; (with_reducible refine (laws_yRows.calls k _ _ cr _ _ cr true _ (Kd.C_below CF14_0.out.2.2 HC.out.tl.hd) CF14_0.out.2.1 (Kd.C_below CF15_0.out.2.2 HC.out.hd) CF15_0.out.2.1 AF19.out).mono ?_); rintro e w18_ ⟨rfl, hd⟩; clear hK K17; have hb := drawn_below hd; clear hd; have nHC := Aside0.mk (HC.out.step hb); clear HC hb; have HC := nHC; clear nHC; have K18 := Aside0.mk True.intro)
    | (go_at_call 37; have hK := K16.out; (with_reducible refine (impl_IsFolding.calls k _ _ x ((cr.length : Int) == 0) true _ (Kd.C_below CF13_0.out.2.2 HC.out.tl.hd) CF13_0.out.2.1 AF18.out).mono ?_); rintro e w17_ ⟨rfl, hb⟩; clear hK K16; have nHC := Aside0.mk (HC.out.step hb); clear HC hb; have HC := nHC; clear nHC; have K17 := Aside0.mk True.intro)
    | (go_at_call 42; have hK := K15.out; (with_reducible refine (spec_CrossedArcs.calls k _ _ x cr true _ (Kd.C_below CF13_0.out.2.2 HC.out.hd) CF13_0.out.2.1 AF17.out).mono ?_); rintro e w16_ ⟨v15_v0_, rfl, ho0, hb⟩; clear hK K15; obtain ⟨Ar15_0, cr15_0, rfl⟩ := Kd.S_slice ho0; have CF15_0 := Aside0.mk (Kd.S_reads' ho0); have nHC := Aside0.mk (HC.out.step hb); clear HC hb ho0; have HC := nHC; clear nHC; have K16 := Aside0.mk True.intro)
    | (go_at_call 41; have hK := K14.out; (with_reducible refine (impl_CrossedArcs.calls k _ _ x cr true _ CF13_0.out.2.2 CF13_0.out.2.1 AF16.out).mono ?_); rintro e w15_ ⟨v14_v0_, rfl, ho0, hb⟩; clear hK K14; obtain ⟨Ar14_0, cr14_0, rfl⟩ := Kd.S_slice ho0; have CF14_0 := Aside0.mk (Kd.S_reads' ho0); have nHC := Aside0.mk (HC.out.step hb); clear HC hb ho0; have HC := nHC; clear nHC; have K15 := Aside0.mk True.intro)
    | (go_at_call 40; have hK := K13.out; (with_reducible refine (spec_DrawCrossedArcs.calls k _ _ l1 x _ (Kd.C_below HP1.out.2.2 HC.out.tl.tl.tl.tl.tl.tl.tl.tl.tl.tl.tl.tl.hd) HP1.out.2.1 AF15.out).mono ?_); rintro e w14_ ⟨v13_v0_, rfl, ho0, hb⟩; clear hK K13; obtain ⟨Ar13_0, cr13_0, rfl⟩ := Kd.R_slice ho0; have CF13_0 := Aside0.mk (Kd.R_reads' ho0); have nHC := Aside0.mk (HC.out.step hb); clear HC hb ho0; have HC := nHC; clear nHC; have K14 := Aside0.mk True.intro)
    | (go_at_call 36; have hK := K12.out; (with_reducible refine (laws_ySame.calls k _ _ p _ _ p true _ (Kd.C_below CF7_0.out.2.2 HC.out.tl.tl.tl.hd) CF7_0.out.2.1 (Kd.C_below CF1_0.out.2.2 HC.out.tl.tl.tl.tl.tl.tl.tl.tl.tl.hd) CF1_0.out.2.1 AF13.out).mono ?_); rintro e w13_ ⟨rfl, hd⟩; clear hK K12; have hb := drawn_below hd; clear hd; have nHC := Aside0.mk (HC.out.step hb); clear HC hb; have HC := nHC; clear nHC; have K13 := Aside0.mk True.intro)
    | (go_at_call 37; have hK := K11.out; (with_reducible refine (impl_IsFolding.calls k _ _ num true true _ CF10_0.out.2.2 CF10_0.out.2.1 AF12.out).mono ?_); rintro e w12_ ⟨rfl, hb⟩; clear hK K11; have nHC := Aside0.mk (HC.out.step hb); clear HC hb; have HC := nHC; clear nHC; have K12 := Aside0.mk True.intro)
    | (go_at_call 39; have hK := K10.out; (with_reducible refine (impl_RenumberFolding.calls k _ _ p num true _ (Kd.C_below CF1_0.out.2.2 HC.out.tl.tl.tl.tl.tl.tl.tl.hd) CF1_0.out.2.1 AF11.out).mono ?_); rintro e w11_ ⟨v10_v0_, rfl, ho0, hb⟩; clear hK K10; obtain ⟨Ar10_0, cr10_0, rfl⟩ := Kd.R_slice ho0; have CF10_0 := Aside0.mk (Kd.R_reads' ho0); have nHC := Aside0.mk (HC.out.step hb); clear HC hb ho0; have HC := nHC; clear nHC; have K11 := Aside0.mk True.intro)
    | (go_at_call 37; have hK := K9.out; (with_reducible refine (impl_IsFolding.calls k _ _ rev true true _ CF8_0.out.2.2 CF8_0.out.2.1 AF10.out).mono ?_); rintro e w10_ ⟨rfl, hb⟩; clear hK K9; have nHC := Aside0.mk (HC.out.step hb); clear HC hb; have HC := nHC; clear nHC; have K10 := Aside0.mk True.intro)
    | (go_at_call 38; have hK := K8.out; (with_reducible refine (impl_ReverseFolding.calls k _ _ p rev true _ (Kd.C_below CF1_0.out.2.2 HC.out.tl.tl.tl.tl.tl.hd) CF1_0.out.2.1 AF9.out).mono ?_); rintro e w9_ ⟨v8_v0_, rfl, ho0, hb⟩; clear hK K8; obtain ⟨Ar8_0, cr8_0, rfl⟩ := Kd.R_slice ho0; have CF8_0 := Aside0.mk (Kd.R_reads' ho0); have nHC := Aside0.mk (HC.out.step hb); clear HC hb ho0; have HC := nHC; clear nHC; have K9 := Aside0.mk True.intro)
    | (go_at_call 34; have hK := K7.out; (with_reducible refine (impl_TurnFolding.calls k _ _ q (wrap64 (-by_)) p true _ (Kd.C_below CF2_0.out.2.2 HC.out.tl.tl.tl.hd) CF2_0.out.2.1 AF8.out).mono ?_); rintro e w8_ ⟨v7_v0_, rfl, ho0, hb⟩; clear hK K7; obtain ⟨Ar7_0, cr7_0, rfl⟩ := Kd.R_slice ho0; have CF7_0 := Aside0.mk (Kd.R_reads' ho0); have nHC := Aside0.mk (HC.out.step hb); clear HC hb ho0; have HC := nHC; clear nHC; have K8 := Aside0.mk True.intro)
    | (go_at_call 37; have hK := K6.out; (with_reducible refine (impl_IsFolding.calls k _ _ q true true _ (Kd.C_below CF2_0.out.2.2 HC.out.tl.tl.hd) CF2_0.out.2.1 AF7.out).mono ?_); rintro e w7_ ⟨rfl, hb⟩; clear hK K6; have nHC := Aside0.mk (HC.out.step hb); clear HC hb; have HC := nHC; clear nHC; have K7 := Aside0.mk True.intro)
    | (go_at_call 37; have hK := K5.out; (with_reducible refine (impl_IsFolding.calls k _ _ p true true _ (Kd.C_below CF1_0.out.2.2 HC.out.tl.tl.hd) CF1_0.out.2.1 AF6.out).mono ?_); rintro e w6_ ⟨rfl, hb⟩; clear hK K5; have nHC := Aside0.mk (HC.out.step hb); clear HC hb; have HC := nHC; clear nHC; have K6 := Aside0.mk True.intro)
    | (go_at_call 36; have hK := K4.out; (with_reducible refine (laws_ySame.calls k _ _ q _ _ q true _ (Kd.C_below CF2_0.out.2.2 HC.out.hd) CF2_0.out.2.1 CF3_0.out.2.2 CF3_0.out.2.1 AF5.out).mono ?_); rintro e w5_ ⟨rfl, hd⟩; clear hK K4; have hb := drawn_below hd; clear hd; have nHC := Aside0.mk (HC.out.step hb); clear HC hb; have HC := nHC; clear nHC; have K5 := Aside0.mk True.intro)
    | (go_at_call 35; have hK := K3.out; (with_reducible refine (spec_TurnFolding.calls k _ _ p by_ q true _ (Kd.C_below CF1_0.out.2.2 HC.out.hd) CF1_0.out.2.1 AF4.out).mono ?_); rintro e w4_ ⟨v3_v0_, rfl, ho0, hb⟩; clear hK K3; obtain ⟨Ar3_0, cr3_0, rfl⟩ := Kd.R_slice ho0; have CF3_0 := Aside0.mk (Kd.R_reads' ho0); have nHC := Aside0.mk (HC.out.step hb); clear HC hb ho0; have HC := nHC; clear nHC; have K4 := Aside0.mk True.intro)
    | (go_at_call 34; have hK := K2.out; (with_reducible refine (impl_TurnFolding.calls k _ _ p by_ q true _ CF1_0.out.2.2 CF1_0.out.2.1 AF3.out).mono ?_); rintro e w3_ ⟨v2_v0_, rfl, ho0, hb⟩; clear hK K2; obtain ⟨Ar2_0, cr2_0, rfl⟩ := Kd.R_slice ho0; have CF2_0 := Aside0.mk (Kd.R_reads' ho0); have nHC := Aside0.mk (HC.out.step hb); clear HC hb ho0; have HC := nHC; clear nHC; have K3 := Aside0.mk True.intro)
    | (go_at_call 33; have hK := K1.out; (with_reducible refine (spec_DrawTurnFolding.calls k _ _ l0 p by_ _ (Kd.C_below HP0.out.2.2 HC.out.hd) HP0.out.2.1 AF2.out).mono ?_); rintro e w2_ ⟨v1_v0_, rfl, ho0, hb⟩; clear hK K1; obtain ⟨Ar1_0, cr1_0, rfl⟩ := Kd.R_slice ho0; have CF1_0 := Aside0.mk (Kd.R_reads' ho0); have nHC := Aside0.mk (HC.out.step hb); clear HC hb ho0; have HC := nHC; clear nHC; have K2 := Aside0.mk True.intro)
    | (go_at_call 32; have hK := K0.out; (with_reducible refine (laws_big.calls _ _ l0 _ _ l1 false _ HP0.out.2.2 HP0.out.2.1 HP1.out.2.2 HP1.out.2.1 AF1.out).mono ?_); rintro e w1_ ⟨rfl, hd⟩; clear hK K0; have hb := drawn_below hd; clear hd; have nHC := Aside0.mk (HC.out.step hb); clear HC hb; have HC := nHC; clear nHC; have K1 := Aside0.mk True.intro))
  go_ret
  exact ⟨rfl, HC.out.tl.tl.tl.tl.tl.tl.tl.tl.tl.tl.tl.tl.tl.tl.tl.tl.tl.tl.tl.tl.tl.tl.tl.tl.tl.tl.tl.tl.hd⟩
def t_all_true.Told (k : Nat) (l0 : List Int) (l1 : List Int) : Prop := ∃ (p : List Int) (by_ : Int) (q : List Int) (rev : List Int) (num : List Int) (less : List Int) (add : List (List Int)) (at_ : Nat) (s : Nat → Bool) (x : List Int) (cr : List (List Int)) (y : List Int) (yr : List Int) (yb : Bool) (yn : List Int) (yc : Bool) (z : List Int) (za : List (List Int)) (zb : Bool), (laws_big.f l0 l1 = some false) ∧ (spec_DrawTurnFolding.f k l0 = some (p, by_)) ∧ (impl_TurnFolding.f k p by_ = some (q, true)) ∧ (spec_TurnFolding.f k p by_ = some (q, true)) ∧ (laws_ySame.f k q q = some true) ∧ (impl_IsFolding.f k p = some (true, true)) ∧ (impl_IsFolding.f k q = some (true, true)) ∧ (impl_TurnFolding.f k q (wrap64 (-by_)) = some (p, true)) ∧ (impl_ReverseFolding.f k p = some (rev, true)) ∧ (impl_IsFolding.f k rev = some (true, true)) ∧ (impl_RenumberFolding.f k p = some (num, true)) ∧ (impl_IsFolding.f k num = some (true, true)) ∧ (laws_ySame.f k p p = some true) ∧ (1 < p.length) ∧ (less = p.filter (fun x => decide (x ≠ (p.length : Int) - 1))) ∧ (p.length ≤ 1000) ∧ (impl_IsFolding.f k less = some (true, true)) ∧ (impl_AddStamp.f k less = some (add, true)) ∧ (∀ j : Nat, j < add.length → laws_ySame.f k (rd_L1 add (j : Int)) p = some (s j)) ∧ (at_ < add.length ∧ s at_ = true ∧ add.length ≤ 1000) ∧ (spec_DrawCrossedArcs.f k l1 = some x) ∧ (impl_CrossedArcs.f k x = some (cr, true)) ∧ (spec_CrossedArcs.f k x = some (cr, true)) ∧ (impl_IsFolding.f k x = some (((cr.length : Int) == 0), true)) ∧ (laws_yRows.f k cr cr = some true) ∧ (spec_DrawReverseFolding.f k l1 = some y) ∧ (impl_ReverseFolding.f k y = some (yr, yb)) ∧ (spec_ReverseFolding.f k y = some (yr, yb)) ∧ (impl_RenumberFolding.f k y = some (yn, yc)) ∧ (spec_RenumberFolding.f k y = some (yn, yc)) ∧ (spec_DrawAddStamp.f k l1 = some z) ∧ (impl_AddStamp.f k z = some (za, zb)) ∧ (spec_AddStamp.f k z = some (za, zb)) ∧ (laws_ySame.f k yr yr = some true) ∧ (laws_ySame.f k yn yn = some true) ∧ (laws_yRows.f k za za = some true)
set_option maxHeartbeats 16000000 in
set_option maxRecDepth 100000 in
theorem t_all_true (k : Nat) (l0 : List Int) (l1 : List Int) (A0 : Option Addr) (c0 : Nat) (A1 : Option Addr) (c1 : Nat) (p : List Int) (by_ : Int) (q : List Int) (rev : List Int) (num : List Int) (less : List Int) (add : List (List Int)) (at_ : Nat) (s : Nat → Bool) (x : List Int) (cr : List (List Int)) (y : List Int) (yr : List Int) (yb : Bool) (yn : List Int) (yc : Bool) (z : List Int) (za : List (List Int)) (zb : Bool) (w : World) (hr0 : Kd.C (Kd.int .u8) w A0 l0.length l0) (hc0 : l0.length ≤ c0) (hr1 : Kd.C (Kd.int .u8) w A1 l1.length l1) (hc1 : l1.length ≤ c1)
    (HF : (laws_big.f l0 l1 = some false) ∧ (spec_DrawTurnFolding.f k l0 = some (p, by_)) ∧ (impl_TurnFolding.f k p by_ = some (q, true)) ∧ (spec_TurnFolding.f k p by_ = some (q, true)) ∧ (laws_ySame.f k q q = some true) ∧ (impl_IsFolding.f k p = some (true, true)) ∧ (impl_IsFolding.f k q = some (true, true)) ∧ (impl_TurnFolding.f k q (wrap64 (-by_)) = some (p, true)) ∧ (impl_ReverseFolding.f k p = some (rev, true)) ∧ (impl_IsFolding.f k rev = some (true, true)) ∧ (impl_RenumberFolding.f k p = some (num, true)) ∧ (impl_IsFolding.f k num = some (true, true)) ∧ (laws_ySame.f k p p = some true) ∧ (1 < p.length) ∧ (less = p.filter (fun x => decide (x ≠ (p.length : Int) - 1))) ∧ (p.length ≤ 1000) ∧ (impl_IsFolding.f k less = some (true, true)) ∧ (impl_AddStamp.f k less = some (add, true)) ∧ (∀ j : Nat, j < add.length → laws_ySame.f k (rd_L1 add (j : Int)) p = some (s j)) ∧ (at_ < add.length ∧ s at_ = true ∧ add.length ≤ 1000) ∧ (spec_DrawCrossedArcs.f k l1 = some x) ∧ (impl_CrossedArcs.f k x = some (cr, true)) ∧ (spec_CrossedArcs.f k x = some (cr, true)) ∧ (impl_IsFolding.f k x = some (((cr.length : Int) == 0), true)) ∧ (laws_yRows.f k cr cr = some true) ∧ (spec_DrawReverseFolding.f k l1 = some y) ∧ (impl_ReverseFolding.f k y = some (yr, yb)) ∧ (spec_ReverseFolding.f k y = some (yr, yb)) ∧ (impl_RenumberFolding.f k y = some (yn, yc)) ∧ (spec_RenumberFolding.f k y = some (yn, yc)) ∧ (spec_DrawAddStamp.f k l1 = some z) ∧ (impl_AddStamp.f k z = some (za, zb)) ∧ (spec_AddStamp.f k z = some (za, zb)) ∧ (laws_ySame.f k yr yr = some true) ∧ (laws_ySame.f k yn yn = some true) ∧ (laws_yRows.f k za za = some true)) :
    Calls Try.prog 10 #[.slice A0 l0.length c0, .slice A1 l1.length c1] w fun e w' => e = .returned (.bool true) ∧ Below w.heap.size w w' := by
  obtain ⟨F1, F2, F3, F4, F5, F6, F7, F8, F9, F10, F11, F12, F13, HL, HLess, HLen, F17, F18, HSame, HAt, F21, F22, F23, F24, F25, F26, F27, F28, F29, F30, F31, F32, F33, F34, F35, F36⟩ := HF
  have HP0 := Aside0.mk (show l0.length = l0.length ∧ l0.length ≤ c0 ∧ _ from ⟨rfl, hc0, hr0⟩)
  clear hr0 hc0
  have HP1 := Aside0.mk (show l1.length = l1.length ∧ l1.length ≤ c1 ∧ _ from ⟨rfl, hc1, hr1⟩)
  clear hr1 hc1
  have AF1 := Aside0.mk F1
  clear F1
  have AF2 := Aside0.mk F2
  clear F2
  have AF3 := Aside0.mk F3
  clear F3
  have AF4 := Aside0.mk F4
  clear F4
  have AF5 := Aside0.mk F5
  clear F5
  have AF6 := Aside0.mk F6
  clear F6
  have AF7 := Aside0.mk F7
  clear F7
  have AF8 := Aside0.mk F8
  clear F8
  have AF9 := Aside0.mk F9
  clear F9
  have AF10 := Aside0.mk F10
  clear F10
  have AF11 := Aside0.mk F11
  clear F11
  have AF12 := Aside0.mk F12
  clear F12
  have AF13 := Aside0.mk F13
  clear F13
  have AHL := Aside0.mk HL
  clear HL
  have AHLess := Aside0.mk HLess
  clear HLess
  have AHLen := Aside0.mk HLen
  clear HLen
  have AF17 := Aside0.mk F17
  clear F17
  have AF18 := Aside0.mk F18
  clear F18
  have AHSame := Aside0.mk HSame
  clear HSame
  have AHAt := Aside0.mk HAt
  clear HAt
  have AF21 := Aside0.mk F21
  clear F21
  have AF22 := Aside0.mk F22
  clear F22
  have AF23 := Aside0.mk F23
  clear F23
  have AF24 := Aside0.mk F24
  clear F24
  have AF25 := Aside0.mk F25
  clear F25
  have AF26 := Aside0.mk F26
  clear F26
  have AF27 := Aside0.mk F27
  clear F27
  have AF28 := Aside0.mk F28
  clear F28
  have AF29 := Aside0.mk F29
  clear F29
  have AF30 := Aside0.mk F30
  clear F30
  have AF31 := Aside0.mk F31
  clear F31
  have AF32 := Aside0.mk F32
  clear F32
  have AF33 := Aside0.mk F33
  clear F33
  have AF34 := Aside0.mk F34
  clear F34
  have AF35 := Aside0.mk F35
  clear F35
  have AF36 := Aside0.mk F36
  clear F36
  have bl : decide ((1 : Int) < (p.length : Int)) = true := decide_eq_true (by have := AHL.out; omega)
  have b1 : (yb == yb) = true := beq_self_eq_true yb
  have b2 : (yc == yc) = true := beq_self_eq_true yc
  have b3 : (zb == zb) = true := beq_self_eq_true zb
  have b4 : (((cr.length : Int) == 0) != ((cr.length : Int) == 0)) = false := bne_self_eq_false _
  have HC := Aside0.mk (show Ch [] w from trivial)
  have K0 := Aside0.mk True.intro
  go_enter Try.func10, Try.ntmps10
  go_wp2_with (first
    | (go_at_call 36; have hK := K12.out; (with_reducible refine (laws_ySame.calls k _ _ p _ _ p true _ (Kd.C_below CF7_0.out.2.2 HC.out.tl.tl.tl.hd) CF7_0.out.2.1 (Kd.C_below CF1_0.out.2.2 HC.out.tl.tl.tl.tl.tl.tl.tl.tl.tl.hd) CF1_0.out.2.1 AF13.out).mono ?_); rintro e w13_ ⟨rfl, hd⟩; clear hK K12; have hb := drawn_below hd; clear hd; have nHC := Aside0.mk (HC.out.step hb); clear HC hb; have HC := nHC; clear nHC; have K13 := Aside0.mk True.intro)
    | (go_at_call 37; have hK := K11.out; (with_reducible refine (impl_IsFolding.calls k _ _ num true true _ CF10_0.out.2.2 CF10_0.out.2.1 AF12.out).mono ?_); rintro e w12_ ⟨rfl, hb⟩; clear hK K11; have nHC := Aside0.mk (HC.out.step hb); clear HC hb; have HC := nHC; clear nHC; have K12 := Aside0.mk True.intro)
    | (go_at_call 39; have hK := K10.out; (with_reducible refine (impl_RenumberFolding.calls k _ _ p num true _ (Kd.C_below CF1_0.out.2.2 HC.out.tl.tl.tl.tl.tl.tl.tl.hd) CF1_0.out.2.1 AF11.out).mono ?_); rintro e w11_ ⟨v10_v0_, rfl, ho0, hb⟩; clear hK K10; obtain ⟨Ar10_0, cr10_0, rfl⟩ := Kd.R_slice ho0; have CF10_0 := Aside0.mk (Kd.R_reads' ho0); have nHC := Aside0.mk (HC.out.step hb); clear HC hb ho0; have HC := nHC; clear nHC; have K11 := Aside0.mk True.intro)
    | (go_at_call 37; have hK := K9.out; (with_reducible refine (impl_IsFolding.calls k _ _ rev true true _ CF8_0.out.2.2 CF8_0.out.2.1 AF10.out).mono ?_); rintro e w10_ ⟨rfl, hb⟩; clear hK K9; have nHC := Aside0.mk (HC.out.step hb); clear HC hb; have HC := nHC; clear nHC; have K10 := Aside0.mk True.intro)
    | (go_at_call 38; have hK := K8.out; (with_reducible refine (impl_ReverseFolding.calls k _ _ p rev true _ (Kd.C_below CF1_0.out.2.2 HC.out.tl.tl.tl.tl.tl.hd) CF1_0.out.2.1 AF9.out).mono ?_); rintro e w9_ ⟨v8_v0_, rfl, ho0, hb⟩; clear hK K8; obtain ⟨Ar8_0, cr8_0, rfl⟩ := Kd.R_slice ho0; have CF8_0 := Aside0.mk (Kd.R_reads' ho0); have nHC := Aside0.mk (HC.out.step hb); clear HC hb ho0; have HC := nHC; clear nHC; have K9 := Aside0.mk True.intro)
    | (go_at_call 34; have hK := K7.out; (with_reducible refine (impl_TurnFolding.calls k _ _ q (wrap64 (-by_)) p true _ (Kd.C_below CF2_0.out.2.2 HC.out.tl.tl.tl.hd) CF2_0.out.2.1 AF8.out).mono ?_); rintro e w8_ ⟨v7_v0_, rfl, ho0, hb⟩; clear hK K7; obtain ⟨Ar7_0, cr7_0, rfl⟩ := Kd.R_slice ho0; have CF7_0 := Aside0.mk (Kd.R_reads' ho0); have nHC := Aside0.mk (HC.out.step hb); clear HC hb ho0; have HC := nHC; clear nHC; have K8 := Aside0.mk True.intro)
    | (go_at_call 37; have hK := K6.out; (with_reducible refine (impl_IsFolding.calls k _ _ q true true _ (Kd.C_below CF2_0.out.2.2 HC.out.tl.tl.hd) CF2_0.out.2.1 AF7.out).mono ?_); rintro e w7_ ⟨rfl, hb⟩; clear hK K6; have nHC := Aside0.mk (HC.out.step hb); clear HC hb; have HC := nHC; clear nHC; have K7 := Aside0.mk True.intro)
    | (go_at_call 37; have hK := K5.out; (with_reducible refine (impl_IsFolding.calls k _ _ p true true _ (Kd.C_below CF1_0.out.2.2 HC.out.tl.tl.hd) CF1_0.out.2.1 AF6.out).mono ?_); rintro e w6_ ⟨rfl, hb⟩; clear hK K5; have nHC := Aside0.mk (HC.out.step hb); clear HC hb; have HC := nHC; clear nHC; have K6 := Aside0.mk True.intro)
    | (go_at_call 36; have hK := K4.out; (with_reducible refine (laws_ySame.calls k _ _ q _ _ q true _ (Kd.C_below CF2_0.out.2.2 HC.out.hd) CF2_0.out.2.1 CF3_0.out.2.2 CF3_0.out.2.1 AF5.out).mono ?_); rintro e w5_ ⟨rfl, hd⟩; clear hK K4; have hb := drawn_below hd; clear hd; have nHC := Aside0.mk (HC.out.step hb); clear HC hb; have HC := nHC; clear nHC; have K5 := Aside0.mk True.intro)
    | (go_at_call 35; have hK := K3.out; (with_reducible refine (spec_TurnFolding.calls k _ _ p by_ q true _ (Kd.C_below CF1_0.out.2.2 HC.out.hd) CF1_0.out.2.1 AF4.out).mono ?_); rintro e w4_ ⟨v3_v0_, rfl, ho0, hb⟩; clear hK K3; obtain ⟨Ar3_0, cr3_0, rfl⟩ := Kd.R_slice ho0; have CF3_0 := Aside0.mk (Kd.R_reads' ho0); have nHC := Aside0.mk (HC.out.step hb); clear HC hb ho0; have HC := nHC; clear nHC; have K4 := Aside0.mk True.intro)
    | (go_at_call 34; have hK := K2.out; (with_reducible refine (impl_TurnFolding.calls k _ _ p by_ q true _ CF1_0.out.2.2 CF1_0.out.2.1 AF3.out).mono ?_); rintro e w3_ ⟨v2_v0_, rfl, ho0, hb⟩; clear hK K2; obtain ⟨Ar2_0, cr2_0, rfl⟩ := Kd.R_slice ho0; have CF2_0 := Aside0.mk (Kd.R_reads' ho0); have nHC := Aside0.mk (HC.out.step hb); clear HC hb ho0; have HC := nHC; clear nHC; have K3 := Aside0.mk True.intro)
    | (go_at_call 33; have hK := K1.out; (with_reducible refine (spec_DrawTurnFolding.calls k _ _ l0 p by_ _ (Kd.C_below HP0.out.2.2 HC.out.hd) HP0.out.2.1 AF2.out).mono ?_); rintro e w2_ ⟨v1_v0_, rfl, ho0, hb⟩; clear hK K1; obtain ⟨Ar1_0, cr1_0, rfl⟩ := Kd.R_slice ho0; have CF1_0 := Aside0.mk (Kd.R_reads' ho0); have nHC := Aside0.mk (HC.out.step hb); clear HC hb ho0; have HC := nHC; clear nHC; have K2 := Aside0.mk True.intro)
    | (go_at_call 32; have hK := K0.out; (with_reducible refine (laws_big.calls _ _ l0 _ _ l1 false _ HP0.out.2.2 HP0.out.2.1 HP1.out.2.2 HP1.out.2.1 AF1.out).mono ?_); rintro e w1_ ⟨rfl, hd⟩; clear hK K0; have hb := drawn_below hd; clear hd; have nHC := Aside0.mk (HC.out.step hb); clear HC hb; have HC := nHC; clear nHC; have K1 := Aside0.mk True.intro))
  go_loopg [25, 178] p.length (fun kq v25 v178 w' => ∃ (i : Nat), v178 = .int .i64 i ∧ i ≤ p.length ∧ p.length - i ≤ kq ∧ Aside0 (Kd.R (Kd.int .i64) 3 w' w13_.heap.size (fun _ => True) v25 (lessOf p i)) ∧ Aside0 (Below w13_.heap.size w13_ w'))
  case atStart => exact ⟨0, by go_num, Nat.zero_le _, by omega, ⟨by rw [lessOf_zero]; exact Kd.R_nil _ _ _ _ _⟩, ⟨Below.refl _ _⟩⟩
  case round =>
    obtain ⟨i, rfl, hi, hg, HO, HBL⟩ := hrel
    have nHC := Aside0.mk (HC.out.step HBL.out)
    clear HC
    have HC := nHC
    clear nHC
    have K14 := Aside0.mk True.intro
    clear K13
    by_cases hlt : i < p.length
    · have hltz : (i : Int) < (p.length : Int) := by omega
      have p5 : (0 : Int) ≤ (i : Int) := by omega
      obtain ⟨ad, ead, hx⟩ := Kd.at_int (Kd.C_below CF1_0.out.2.2 HC.out.tl.tl.tl.tl.tl.tl.tl.tl.tl.tl.tl.hd) (i : Int) p5 hltz
      cases ead
      simp only [Int.toNat_natCast] at hx
      have hw1 : wrap64 ((i : Int) + 1) = ((i + 1 : Nat) : Int) := by have := AHLen.out; unfold wrap64; omega
      have hw2 : wrap64 ((p.length : Int) - 1) = (p.length : Int) - 1 := by have := AHLen.out; unfold wrap64; omega
      have hs1 : Value.int .i64 (wrap64 ((i : Int) + 1)) = Value.int .i64 ((i + 1 : Nat) : Int) := by rw [hw1]
      have hi1 : i + 1 ≤ p.length := hlt
      by_cases hc : rd p (i : Int) = (p.length : Int) - 1
      · have hcb : ((rd p (i : Int)) != (wrap64 ((p.length : Int) - 1))) = false := by rw [hw2, hc]; exact bne_self_eq_false _
        have HN := lessOf_last p i hlt hc
        have HO2 := Aside0.mk (show Kd.R (Kd.int .i64) 3 wr w13_.heap.size (fun _ => True) u25 (lessOf p (i + 1)) by rw [HN]; exact HO.out)
        clear HN hc hw1 hw2
        replace p5 := eq_true p5
        replace hltz := eq_true hltz
        go_wp2
        go_roundg (p.length - (i + 1))
        case measure => exact Nat.lt_of_lt_of_le (Nat.sub_lt_sub_left hlt (Nat.lt_succ_self i)) hg
        case rel => exact ⟨i + 1, hs1, hi1, Nat.le_refl _, HO2, HBL⟩
      · have hcb : ((rd p (i : Int)) != (wrap64 ((p.length : Int) - 1))) = true := by rw [hw2]; exact bne_iff_ne.mpr hc
        have HN := lessOf_more p i hlt hc
        have HNL := Aside0.mk (show (lessOf p i).length ≤ 1000 from Nat.le_trans (lessOf_len p i) (by have := AHLen.out; omega))
        clear hc hw1 hw2
        replace p5 := eq_true p5
        replace hltz := eq_true hltz
        go_wp2_with (first | ((with_reducible refine gate_builtin (b := .append) (xs := #[.tmp 187, .tmp 189]) rfl ?_); (try (refine gate_guard (by rfl) ?_; dsimp only)); at_builtin; refine Kd.R_append (Kd.int .i64) (w0 := w13_) w13_.heap.size rfl (.tmp 187) (.tmp 189) 30 3 (.int .i64 0) 8 rfl Try.underlying30 info3 rfl (by decide) (by omega) u25 (lessOf p i) (rd p (i : Int)) [.int .i64 (rd p (i : Int))] (fun _ => True) (fun _ => False) rfl rfl ?aP (fun _ hk => hk.elim) ?aF ?aO ?aB ?aS ?aL ?_; (case aP => exact rfl); (case aB => exact HBL.out); (case aF => exact (fun _ _ => trivial)); (case aO => exact HO.out); (case aS => exact below_size HBL.out); (case aL => have := HNL.out; omega); intro v_ w_ ho hb hg_ hat; rw [← HN] at ho; have HO2 := Aside0.mk ho; have HB2 := Aside0.mk hb; clear ho hb hg_ hat))
        go_roundg (p.length - (i + 1))
        case measure => exact Nat.lt_of_lt_of_le (Nat.sub_lt_sub_left hlt (Nat.lt_succ_self i)) hg
        case rel => exact ⟨i + 1, hs1, hi1, Nat.le_refl _, HO2, HB2⟩
    · have hltz : ¬ ((i : Int) < (p.length : Int)) := by omega
      obtain rfl : i = p.length := by omega
      rw [lessOf_all, ← AHLess.out] at HO
      obtain ⟨Al, cl, el⟩ := Kd.R_slice HO.out
      subst el
      have CFless := Aside0.mk (Kd.R_reads' HO.out)
      go_wp2_with (first
        | (go_at_call 24; have hK := K15.out; (with_reducible refine (impl_AddStamp.calls k _ _ less add true _ (Kd.C_below CFless.out.2.2 HC.out.hd) CFless.out.2.1 AF18.out).mono ?_); rintro e w16_ ⟨v15_v0_, rfl, ho0, hb⟩; clear hK K15; obtain ⟨Ar15_0, cr15_0, rfl⟩ := Kd.S_slice ho0; have CF15_0 := Aside0.mk (Kd.S_reads' ho0); have nHC := Aside0.mk (HC.out.step hb); clear HC hb ho0; have HC := nHC; clear nHC; have K16 := Aside0.mk True.intro)
        | (go_at_call 37; have hK := K14.out; (with_reducible refine (impl_IsFolding.calls k _ _ less true true _ CFless.out.2.2 CFless.out.2.1 AF17.out).mono ?_); rintro e w15_ ⟨rfl, hb⟩; clear hK K14; have nHC := Aside0.mk (HC.out.step hb); clear HC hb; have HC := nHC; clear nHC; have K15 := Aside0.mk True.intro))
      go_loopg [32, 204] add.length (fun kq v32 v204 w' => ∃ (i : Nat), v32 = .bool ((List.range i).any s) ∧ v204 = .int .i64 i ∧ i ≤ add.length ∧ add.length - i ≤ kq ∧ Aside0 (Below w16_.heap.size w16_ w'))
      case atStart => exact ⟨0, rfl, by go_num, Nat.zero_le _, by omega, ⟨Below.refl _ _⟩⟩
      case round =>
        clear HO HBL
        obtain ⟨i, rfl, rfl, hi, hg, HBL⟩ := hrel
        have nHC := Aside0.mk (HC.out.step HBL.out)
        clear HC
        have HC := nHC
        clear nHC
        have K17 := Aside0.mk True.intro
        clear K16
        by_cases hlt : i < add.length
        · have hltz : (i : Int) < (add.length : Int) := by omega
          have p5 : (0 : Int) ≤ (i : Int) := by omega
          obtain ⟨ad, Ae, ce, ead, hx, hle, hi_⟩ := at_L1 (Kd.C_below CF15_0.out.2.2 HC.out.hd) (i : Int) p5 hltz
          cases ead
          simp only [Int.toNat_natCast] at hx
          have CE := Aside0.mk hi_
          have CP := Aside0.mk (Kd.C_below CF1_0.out.2.2 HC.out.tl.tl.tl.tl.tl.tl.tl.tl.tl.tl.tl.tl.tl.tl.hd)
          have CL := Aside0.mk hle
          clear hi_ hle
          have hw1 : wrap64 ((i : Int) + 1) = ((i + 1 : Nat) : Int) := by have := AHAt.out.2.2; unfold wrap64; omega
          have hs1 : Value.int .i64 (wrap64 ((i : Int) + 1)) = Value.int .i64 ((i + 1 : Nat) : Int) := by rw [hw1]
          have hi1 : i + 1 ≤ add.length := hlt
          have hany : (List.range (i + 1)).any s = ((List.range i).any s || s i) := by rw [List.range_succ, List.any_append]; simp
          replace p5 := eq_true p5
          have hltz2 := eq_true hltz
          cases hf : (List.range i).any s with
          | true =>
            have HV1 := Aside0.mk (show Value.bool true = Value.bool ((List.range (i + 1)).any s) by rw [hany, hf]; rfl)
            clear hany hf hw1
            go_wp2
            go_roundg (add.length - (i + 1))
            case measure => exact Nat.lt_of_lt_of_le (Nat.sub_lt_sub_left hlt (Nat.lt_succ_self i)) hg
            case rel => exact ⟨i + 1, HV1.out, hs1, hi1, Nat.le_refl _, HBL⟩
          | false =>
            have HV1 := Aside0.mk (show Value.bool (s i) = Value.bool ((List.range (i + 1)).any s) by rw [hany, hf]; rfl)
            have HY := Aside0.mk (AHSame.out i hlt)
            clear hany hf hw1
            go_wp2_with (go_at_call 36; (with_reducible refine (laws_ySame.calls k _ _ (rd_L1 add (i : Int)) _ _ p (s i) _ CE.out CL.out CP.out CF1_0.out.2.1 HY.out).mono ?_); rintro e w_ ⟨rfl, hd⟩; have HB2 := Aside0.mk (below_step HBL.out (drawn_below hd)); clear hd)
            go_roundg (add.length - (i + 1))
            case measure => exact Nat.lt_of_lt_of_le (Nat.sub_lt_sub_left hlt (Nat.lt_succ_self i)) hg
            case rel => exact ⟨i + 1, HV1.out, hs1, hi1, Nat.le_refl _, HB2⟩
        · have hltz : ¬ ((i : Int) < (add.length : Int)) := by omega
          obtain rfl : i = add.length := by omega
          have hf : (List.range add.length).any s = true := List.any_eq_true.2 ⟨at_, List.mem_range.2 AHAt.out.1, AHAt.out.2.1⟩
          rw [hf]
          clear hf
          go_wp2_with (first
            | (go_at_call 43; have hK := K32.out; (with_reducible refine (laws_yRows.calls k _ _ za _ _ za true _ (Kd.C_below CF28_0.out.2.2 HC.out.tl.tl.hd) CF28_0.out.2.1 (Kd.C_below CF29_0.out.2.2 HC.out.tl.hd) CF29_0.out.2.1 AF36.out).mono ?_); rintro e w33_ ⟨rfl, hd⟩; clear hK K32; have hb := drawn_below hd; clear hd; have nHC := Aside0.mk (HC.out.step hb); clear HC hb; have HC := nHC; clear nHC; have K33 := Aside0.mk True.intro)
            | (go_at_call 36; have hK := K31.out; (with_reducible refine (laws_ySame.calls k _ _ yn _ _ yn true _ (Kd.C_below CF25_0.out.2.2 HC.out.tl.tl.tl.tl.hd) CF25_0.out.2.1 (Kd.C_below CF26_0.out.2.2 HC.out.tl.tl.tl.hd) CF26_0.out.2.1 AF35.out).mono ?_); rintro e w32_ ⟨rfl, hd⟩; clear hK K31; have hb := drawn_below hd; clear hd; have nHC := Aside0.mk (HC.out.step hb); clear HC hb; have HC := nHC; clear nHC; have K32 := Aside0.mk True.intro)
            | (go_at_call 36; have hK := K30.out; (with_reducible refine (laws_ySame.calls k _ _ yr _ _ yr true _ (Kd.C_below CF23_0.out.2.2 HC.out.tl.tl.tl.tl.tl.hd) CF23_0.out.2.1 (Kd.C_below CF24_0.out.2.2 HC.out.tl.tl.tl.tl.hd) CF24_0.out.2.1 AF34.out).mono ?_); rintro e w31_ ⟨rfl, hd⟩; clear hK K30; have hb := drawn_below hd; clear hd; have nHC := Aside0.mk (HC.out.step hb); clear HC hb; have HC := nHC; clear nHC; have K31 := Aside0.mk True.intro)
            | (go_at_call 22; have hK := K29.out; (with_reducible refine (spec_AddStamp.calls k _ _ z za zb _ (Kd.C_below CF27_0.out.2.2 HC.out.hd) CF27_0.out.2.1 AF33.out).mono ?_); rintro e w30_ ⟨v29_v0_, rfl, ho0, hb⟩; clear hK K29; obtain ⟨Ar29_0, cr29_0, rfl⟩ := Kd.N_slice ho0; have CF29_0 := Aside0.mk (Kd.N_reads' ho0); have nHC := Aside0.mk (HC.out.step hb); clear HC hb ho0; have HC := nHC; clear nHC; have K30 := Aside0.mk True.intro)
            | (go_at_call 24; have hK := K28.out; (with_reducible refine (impl_AddStamp.calls k _ _ z za zb _ CF27_0.out.2.2 CF27_0.out.2.1 AF32.out).mono ?_); rintro e w29_ ⟨v28_v0_, rfl, ho0, hb⟩; clear hK K28; obtain ⟨Ar28_0, cr28_0, rfl⟩ := Kd.S_slice ho0; have CF28_0 := Aside0.mk (Kd.S_reads' ho0); have nHC := Aside0.mk (HC.out.step hb); clear HC hb ho0; have HC := nHC; clear nHC; have K29 := Aside0.mk True.intro)
            | (go_at_call 47; have hK := K27.out; (with_reducible refine (spec_DrawAddStamp.calls k _ _ l1 z _ (Kd.C_below HP1.out.2.2 HC.out.tl.tl.tl.tl.tl.tl.tl.tl.tl.tl.tl.tl.tl.tl.tl.tl.tl.tl.tl.tl.tl.tl.tl.tl.tl.tl.hd) HP1.out.2.1 AF31.out).mono ?_); rintro e w28_ ⟨v27_v0_, rfl, ho0, hb⟩; clear hK K27; obtain ⟨Ar27_0, cr27_0, rfl⟩ := Kd.R_slice ho0; have CF27_0 := Aside0.mk (Kd.R_reads' ho0); have nHC := Aside0.mk (HC.out.step hb); clear HC hb ho0; have HC := nHC; clear nHC; have K28 := Aside0.mk True.intro)
            | (go_at_call 46; have hK := K26.out; (with_reducible refine (spec_RenumberFolding.calls k _ _ y yn yc _ (Kd.C_below CF22_0.out.2.2 HC.out.tl.tl.hd) CF22_0.out.2.1 AF30.out).mono ?_); rintro e w27_ ⟨v26_v0_, rfl, ho0, hb⟩; clear hK K26; obtain ⟨Ar26_0, cr26_0, rfl⟩ := Kd.R_slice ho0; have CF26_0 := Aside0.mk (Kd.R_reads' ho0); have nHC := Aside0.mk (HC.out.step hb); clear HC hb ho0; have HC := nHC; clear nHC; have K27 := Aside0.mk True.intro)
            | (go_at_call 39; have hK := K25.out; (with_reducible refine (impl_RenumberFolding.calls k _ _ y yn yc _ (Kd.C_below CF22_0.out.2.2 HC.out.tl.hd) CF22_0.out.2.1 AF29.out).mono ?_); rintro e w26_ ⟨v25_v0_, rfl, ho0, hb⟩; clear hK K25; obtain ⟨Ar25_0, cr25_0, rfl⟩ := Kd.R_slice ho0; have CF25_0 := Aside0.mk (Kd.R_reads' ho0); have nHC := Aside0.mk (HC.out.step hb); clear HC hb ho0; have HC := nHC; clear nHC; have K26 := Aside0.mk True.intro)
            | (go_at_call 45; have hK := K24.out; (with_reducible refine (spec_ReverseFolding.calls k _ _ y yr yb _ (Kd.C_below CF22_0.out.2.2 HC.out.hd) CF22_0.out.2.1 AF28.out).mono ?_); rintro e w25_ ⟨v24_v0_, rfl, ho0, hb⟩; clear hK K24; obtain ⟨Ar24_0, cr24_0, rfl⟩ := Kd.R_slice ho0; have CF24_0 := Aside0.mk (Kd.R_reads' ho0); have nHC := Aside0.mk (HC.out.step hb); clear HC hb ho0; have HC := nHC; clear nHC; have K25 := Aside0.mk True.intro)
            | (go_at_call 38; have hK := K23.out; (with_reducible refine (impl_ReverseFolding.calls k _ _ y yr yb _ CF22_0.out.2.2 CF22_0.out.2.1 AF27.out).mono ?_); rintro e w24_ ⟨v23_v0_, rfl, ho0, hb⟩; clear hK K23; obtain ⟨Ar23_0, cr23_0, rfl⟩ := Kd.R_slice ho0; have CF23_0 := Aside0.mk (Kd.R_reads' ho0); have nHC := Aside0.mk (HC.out.step hb); clear HC hb ho0; have HC := nHC; clear nHC; have K24 := Aside0.mk True.intro)
            | (go_at_call 44; have hK := K22.out; (with_reducible refine (spec_DrawReverseFolding.calls k _ _ l1 y _ (Kd.C_below HP1.out.2.2 HC.out.tl.tl.tl.tl.tl.tl.tl.tl.tl.tl.tl.tl.tl.tl.tl.tl.tl.tl.tl.tl.tl.hd) HP1.out.2.1 AF26.out).mono ?_); rintro e w23_ ⟨v22_v0_, rfl, ho0, hb⟩; clear hK K22; obtain ⟨Ar22_0, cr22_0, rfl⟩ := Kd.R_slice ho0; have CF22_0 := Aside0.mk (Kd.R_reads' ho0); have nHC := Aside0.mk (HC.out.step hb); clear HC hb ho0; have HC := nHC; clear nHC; have K23 := Aside0.mk True.intro)
            | (go_at_call 43; have hK := K21.out; (with_reducible refine (laws_yRows.calls k _ _ cr _ _ cr true _ (Kd.C_below CF18_0.out.2.2 HC.out.tl.hd) CF18_0.out.2.1 (Kd.C_below CF19_0.out.2.2 HC.out.hd) CF19_0.out.2.1 AF25.out).mono ?_); rintro e w22_ ⟨rfl, hd⟩; clear hK K21; have hb := drawn_below hd; clear hd; have nHC := Aside0.mk (HC.out.step hb); clear HC hb; have HC := nHC; clear nHC; have K22 := Aside0.mk True.intro)
            | (go_at_call 37; have hK := K20.out; (with_reducible refine (impl_IsFolding.calls k _ _ x ((cr.length : Int) == 0) true _ (Kd.C_below CF17_0.out.2.2 HC.out.tl.hd) CF17_0.out.2.1 AF24.out).mono ?_); rintro e w21_ ⟨rfl, hb⟩; clear hK K20; have nHC := Aside0.mk (HC.out.step hb); clear HC hb; have HC := nHC; clear nHC; have K21 := Aside0.mk True.intro)
            | (go_at_call 42; have hK := K19.out; (with_reducible refine (spec_CrossedArcs.calls k _ _ x cr true _ (Kd.C_below CF17_0.out.2.2 HC.out.hd) CF17_0.out.2.1 AF23.out).mono ?_); rintro e w20_ ⟨v19_v0_, rfl, ho0, hb⟩; clear hK K19; obtain ⟨Ar19_0, cr19_0, rfl⟩ := Kd.S_slice ho0; have CF19_0 := Aside0.mk (Kd.S_reads' ho0); have nHC := Aside0.mk (HC.out.step hb); clear HC hb ho0; have HC := nHC; clear nHC; have K20 := Aside0.mk True.intro)
            | (go_at_call 41; have hK := K18.out; (with_reducible refine (impl_CrossedArcs.calls k _ _ x cr true _ CF17_0.out.2.2 CF17_0.out.2.1 AF22.out).mono ?_); rintro e w19_ ⟨v18_v0_, rfl, ho0, hb⟩; clear hK K18; obtain ⟨Ar18_0, cr18_0, rfl⟩ := Kd.S_slice ho0; have CF18_0 := Aside0.mk (Kd.S_reads' ho0); have nHC := Aside0.mk (HC.out.step hb); clear HC hb ho0; have HC := nHC; clear nHC; have K19 := Aside0.mk True.intro)
            | (go_at_call 40; have hK := K17.out; (with_reducible refine (spec_DrawCrossedArcs.calls k _ _ l1 x _ (Kd.C_below HP1.out.2.2 HC.out.tl.tl.tl.tl.tl.tl.tl.tl.tl.tl.tl.tl.tl.tl.tl.tl.hd) HP1.out.2.1 AF21.out).mono ?_); rintro e w18_ ⟨v17_v0_, rfl, ho0, hb⟩; clear hK K17; obtain ⟨Ar17_0, cr17_0, rfl⟩ := Kd.R_slice ho0; have CF17_0 := Aside0.mk (Kd.R_reads' ho0); have nHC := Aside0.mk (HC.out.step hb); clear HC hb ho0; have HC := nHC; clear nHC; have K18 := Aside0.mk True.intro))
          go_ret
          exact ⟨rfl, HC.out.tl.tl.tl.tl.tl.tl.tl.tl.tl.tl.tl.tl.tl.tl.tl.tl.tl.tl.tl.tl.tl.tl.tl.tl.tl.tl.tl.tl.tl.tl.tl.tl.hd⟩
def t_no_false.Told (k : Nat) (l0 : List Int) (l1 : List Int) : Prop := ∃ (p : List Int) (by_ : Int) (q : List Int) (x : List Int) (cr : List (List Int)) (y : List Int) (yr : List Int) (yb : Bool) (yn : List Int) (yc : Bool) (z : List Int) (za : List (List Int)) (zb : Bool), (laws_big.f l0 l1 = some false) ∧ (spec_DrawTurnFolding.f k l0 = some (p, by_)) ∧ (impl_TurnFolding.f k p by_ = some (q, false)) ∧ (spec_TurnFolding.f k p by_ = some (q, false)) ∧ (laws_ySame.f k q q = some true) ∧ (spec_DrawCrossedArcs.f k l1 = some x) ∧ (impl_CrossedArcs.f k x = some (cr, false)) ∧ (spec_CrossedArcs.f k x = some (cr, false)) ∧ (impl_IsFolding.f k x = some (false, false)) ∧ (laws_yRows.f k cr cr = some true) ∧ (spec_DrawReverseFolding.f k l1 = some y) ∧ (impl_ReverseFolding.f k y = some (yr, yb)) ∧ (spec_ReverseFolding.f k y = some (yr, yb)) ∧ (impl_RenumberFolding.f k y = some (yn, yc)) ∧ (spec_RenumberFolding.f k y = some (yn, yc)) ∧ (spec_DrawAddStamp.f k l1 = some z) ∧ (impl_AddStamp.f k z = some (za, zb)) ∧ (spec_AddStamp.f k z = some (za, zb)) ∧ (laws_ySame.f k yr yr = some true) ∧ (laws_ySame.f k yn yn = some true) ∧ (laws_yRows.f k za za = some true)
set_option maxHeartbeats 16000000 in
set_option maxRecDepth 100000 in
theorem t_no_false (k : Nat) (l0 : List Int) (l1 : List Int) (A0 : Option Addr) (c0 : Nat) (A1 : Option Addr) (c1 : Nat) (p : List Int) (by_ : Int) (q : List Int) (x : List Int) (cr : List (List Int)) (y : List Int) (yr : List Int) (yb : Bool) (yn : List Int) (yc : Bool) (z : List Int) (za : List (List Int)) (zb : Bool) (w : World) (hr0 : Kd.C (Kd.int .u8) w A0 l0.length l0) (hc0 : l0.length ≤ c0) (hr1 : Kd.C (Kd.int .u8) w A1 l1.length l1) (hc1 : l1.length ≤ c1)
    (HF : (laws_big.f l0 l1 = some false) ∧ (spec_DrawTurnFolding.f k l0 = some (p, by_)) ∧ (impl_TurnFolding.f k p by_ = some (q, false)) ∧ (spec_TurnFolding.f k p by_ = some (q, false)) ∧ (laws_ySame.f k q q = some true) ∧ (spec_DrawCrossedArcs.f k l1 = some x) ∧ (impl_CrossedArcs.f k x = some (cr, false)) ∧ (spec_CrossedArcs.f k x = some (cr, false)) ∧ (impl_IsFolding.f k x = some (false, false)) ∧ (laws_yRows.f k cr cr = some true) ∧ (spec_DrawReverseFolding.f k l1 = some y) ∧ (impl_ReverseFolding.f k y = some (yr, yb)) ∧ (spec_ReverseFolding.f k y = some (yr, yb)) ∧ (impl_RenumberFolding.f k y = some (yn, yc)) ∧ (spec_RenumberFolding.f k y = some (yn, yc)) ∧ (spec_DrawAddStamp.f k l1 = some z) ∧ (impl_AddStamp.f k z = some (za, zb)) ∧ (spec_AddStamp.f k z = some (za, zb)) ∧ (laws_ySame.f k yr yr = some true) ∧ (laws_ySame.f k yn yn = some true) ∧ (laws_yRows.f k za za = some true)) :
    Calls Try.prog 10 #[.slice A0 l0.length c0, .slice A1 l1.length c1] w fun e w' => e = .returned (.bool true) ∧ Below w.heap.size w w' := by
  obtain ⟨F1, F2, F3, F4, F5, F6, F7, F8, F9, F10, F11, F12, F13, F14, F15, F16, F17, F18, F19, F20, F21⟩ := HF
  have HP0 := Aside0.mk (show l0.length = l0.length ∧ l0.length ≤ c0 ∧ _ from ⟨rfl, hc0, hr0⟩)
  clear hr0 hc0
  have HP1 := Aside0.mk (show l1.length = l1.length ∧ l1.length ≤ c1 ∧ _ from ⟨rfl, hc1, hr1⟩)
  clear hr1 hc1
  have AF1 := Aside0.mk F1
  clear F1
  have AF2 := Aside0.mk F2
  clear F2
  have AF3 := Aside0.mk F3
  clear F3
  have AF4 := Aside0.mk F4
  clear F4
  have AF5 := Aside0.mk F5
  clear F5
  have AF6 := Aside0.mk F6
  clear F6
  have AF7 := Aside0.mk F7
  clear F7
  have AF8 := Aside0.mk F8
  clear F8
  have AF9 := Aside0.mk F9
  clear F9
  have AF10 := Aside0.mk F10
  clear F10
  have AF11 := Aside0.mk F11
  clear F11
  have AF12 := Aside0.mk F12
  clear F12
  have AF13 := Aside0.mk F13
  clear F13
  have AF14 := Aside0.mk F14
  clear F14
  have AF15 := Aside0.mk F15
  clear F15
  have AF16 := Aside0.mk F16
  clear F16
  have AF17 := Aside0.mk F17
  clear F17
  have AF18 := Aside0.mk F18
  clear F18
  have AF19 := Aside0.mk F19
  clear F19
  have AF20 := Aside0.mk F20
  clear F20
  have AF21 := Aside0.mk F21
  clear F21
  have b1 : (yb == yb) = true := beq_self_eq_true yb
  have b2 : (yc == yc) = true := beq_self_eq_true yc
  have b3 : (zb == zb) = true := beq_self_eq_true zb
  have HC := Aside0.mk (show Ch [] w from trivial)
  have K0 := Aside0.mk True.intro
  go_enter Try.func10, Try.ntmps10
  go_wp2_with (first
    | (go_at_call 43; have hK := K20.out; (with_reducible refine (laws_yRows.calls k _ _ za _ _ za true _ (Kd.C_below CF16_0.out.2.2 HC.out.tl.tl.hd) CF16_0.out.2.1 (Kd.C_below CF17_0.out.2.2 HC.out.tl.hd) CF17_0.out.2.1 AF21.out).mono ?_); rintro e w21_ ⟨rfl, hd⟩; clear hK K20; have hb := drawn_below hd; clear hd; have nHC := Aside0.mk (HC.out.step hb); clear HC hb; have HC := nHC; clear nHC; have K21 := Aside0.mk True.intro)
    | (go_at_call 36; have hK := K19.out; (with_reducible refine (laws_ySame.calls k _ _ yn _ _ yn true _ (Kd.C_below CF13_0.out.2.2 HC.out.tl.tl.tl.tl.hd) CF13_0.out.2.1 (Kd.C_below CF14_0.out.2.2 HC.out.tl.tl.tl.hd) CF14_0.out.2.1 AF20.out).mono ?_); rintro e w20_ ⟨rfl, hd⟩; clear hK K19; have hb := drawn_below hd; clear hd; have nHC := Aside0.mk (HC.out.step hb); clear HC hb; have HC := nHC; clear nHC; have K20 := Aside0.mk True.intro)
    | (go_at_call 36; have hK := K18.out; (with_reducible refine (laws_ySame.calls k _ _ yr _ _ yr true _ (Kd.C_below CF11_0.out.2.2 HC.out.tl.tl.tl.tl.tl.hd) CF11_0.out.2.1 (Kd.C_below CF12_0.out.2.2 HC.out.tl.tl.tl.tl.hd) CF12_0.out.2.1 AF19.out).mono ?_); rintro e w19_ ⟨rfl, hd⟩; clear hK K18; have hb := drawn_below hd; clear hd; have nHC := Aside0.mk (HC.out.step hb); clear HC hb; have HC := nHC; clear nHC; have K19 := Aside0.mk True.intro)
    | (go_at_call 22; have hK := K17.out; (with_reducible refine (spec_AddStamp.calls k _ _ z za zb _ (Kd.C_below CF15_0.out.2.2 HC.out.hd) CF15_0.out.2.1 AF18.out).mono ?_); rintro e w18_ ⟨v17_v0_, rfl, ho0, hb⟩; clear hK K17; obtain ⟨Ar17_0, cr17_0, rfl⟩ := Kd.N_slice ho0; have CF17_0 := Aside0.mk (Kd.N_reads' ho0); have nHC := Aside0.mk (HC.out.step hb); clear HC hb ho0; have HC := nHC; clear nHC; have K18 := Aside0.mk True.intro)
    | (go_at_call 24; have hK := K16.out; (with_reducible refine (impl_AddStamp.calls k _ _ z za zb _ CF15_0.out.2.2 CF15_0.out.2.1 AF17.out).mono ?_); rintro e w17_ ⟨v16_v0_, rfl, ho0, hb⟩; clear hK K16; obtain ⟨Ar16_0, cr16_0, rfl⟩ := Kd.S_slice ho0; have CF16_0 := Aside0.mk (Kd.S_reads' ho0); have nHC := Aside0.mk (HC.out.step hb); clear HC hb ho0; have HC := nHC; clear nHC; have K17 := Aside0.mk True.intro)
    | (go_at_call 47; have hK := K15.out; (with_reducible refine (spec_DrawAddStamp.calls k _ _ l1 z _ (Kd.C_below HP1.out.2.2 HC.out.tl.tl.tl.tl.tl.tl.tl.tl.tl.tl.tl.tl.tl.tl.hd) HP1.out.2.1 AF16.out).mono ?_); rintro e w16_ ⟨v15_v0_, rfl, ho0, hb⟩; clear hK K15; obtain ⟨Ar15_0, cr15_0, rfl⟩ := Kd.R_slice ho0; have CF15_0 := Aside0.mk (Kd.R_reads' ho0); have nHC := Aside0.mk (HC.out.step hb); clear HC hb ho0; have HC := nHC; clear nHC; have K16 := Aside0.mk True.intro)
    | (go_at_call 46; have hK := K14.out; (with_reducible refine (spec_RenumberFolding.calls k _ _ y yn yc _ (Kd.C_below CF10_0.out.2.2 HC.out.tl.tl.hd) CF10_0.out.2.1 AF15.out).mono ?_); rintro e w15_ ⟨v14_v0_, rfl, ho0, hb⟩; clear hK K14; obtain ⟨Ar14_0, cr14_0, rfl⟩ := Kd.R_slice ho0; have CF14_0 := Aside0.mk (Kd.R_reads' ho0); have nHC := Aside0.mk (HC.out.step hb); clear HC hb ho0; have HC := nHC; clear nHC; have K15 := Aside0.mk True.intro)
    | (go_at_call 39; have hK := K13.out; (with_reducible refine (impl_RenumberFolding.calls k _ _ y yn yc _ (Kd.C_below CF10_0.out.2.2 HC.out.tl.hd) CF10_0.out.2.1 AF14.out).mono ?_); rintro e w14_ ⟨v13_v0_, rfl, ho0, hb⟩; clear hK K13; obtain ⟨Ar13_0, cr13_0, rfl⟩ := Kd.R_slice ho0; have CF13_0 := Aside0.mk (Kd.R_reads' ho0); have nHC := Aside0.mk (HC.out.step hb); clear HC hb ho0; have HC := nHC; clear nHC; have K14 := Aside0.mk True.intro)
    | (go_at_call 45; have hK := K12.out; (with_reducible refine (spec_ReverseFolding.calls k _ _ y yr yb _ (Kd.C_below CF10_0.out.2.2 HC.out.hd) CF10_0.out.2.1 AF13.out).mono ?_); rintro e w13_ ⟨v12_v0_, rfl, ho0, hb⟩; clear hK K12; obtain ⟨Ar12_0, cr12_0, rfl⟩ := Kd.R_slice ho0; have CF12_0 := Aside0.mk (Kd.R_reads' ho0); have nHC := Aside0.mk (HC.out.step hb); clear HC hb ho0; have HC := nHC; clear nHC; have K13 := Aside0.mk True.intro)
    | (go_at_call 38; have hK := K11.out; (with_reducible refine (impl_ReverseFolding.calls k _ _ y yr yb _ CF10_0.out.2.2 CF10_0.out.2.1 AF12.out).mono ?_); rintro e w12_ ⟨v11_v0_, rfl, ho0, hb⟩; clear hK K11; obtain ⟨Ar11_0, cr11_0, rfl⟩ := Kd.R_slice ho0; have CF11_0 := Aside0.mk (Kd.R_reads' ho0); have nHC := Aside0.mk (HC.out.step hb); clear HC hb ho0; have HC := nHC; clear nHC; have K12 := Aside0.mk True.intro)
    | (go_at_call 44; have hK := K10.out; (with_reducible refine (spec_DrawReverseFolding.calls k _ _ l1 y _ (Kd.C_below HP1.out.2.2 HC.out.tl.tl.tl.tl.tl.tl.tl.tl.tl.hd) HP1.out.2.1 AF11.out).mono ?_); rintro e w11_ ⟨v10_v0_, rfl, ho0, hb⟩; clear hK K10; obtain ⟨Ar10_0, cr10_0, rfl⟩ := Kd.R_slice ho0; have CF10_0 := Aside0.mk (Kd.R_reads' ho0); have nHC := Aside0.mk (HC.out.step hb); clear HC hb ho0; have HC := nHC; clear nHC; have K11 := Aside0.mk True.intro)
    | (go_at_call 43; have hK := K9.out; (with_reducible refine (laws_yRows.calls k _ _ cr _ _ cr true _ (Kd.C_below CF6_0.out.2.2 HC.out.tl.hd) CF6_0.out.2.1 (Kd.C_below CF7_0.out.2.2 HC.out.hd) CF7_0.out.2.1 AF10.out).mono ?_); rintro e w10_ ⟨rfl, hd⟩; clear hK K9; have hb := drawn_below hd; clear hd; have nHC := Aside0.mk (HC.out.step hb); clear HC hb; have HC := nHC; clear nHC; have K10 := Aside0.mk True.intro)
    | (go_at_call 37; have hK := K8.out; (with_reducible refine (impl_IsFolding.calls k _ _ x false false _ (Kd.C_below CF5_0.out.2.2 HC.out.tl.hd) CF5_0.out.2.1 AF9.out).mono ?_); rintro e w9_ ⟨rfl, hb⟩; clear hK K8; have nHC := Aside0.mk (HC.out.step hb); clear HC hb; have HC := nHC; clear nHC; have K9 := Aside0.mk True.intro)
    | (go_at_call 42; have hK := K7.out; (with_reducible refine (spec_CrossedArcs.calls k _ _ x cr false _ (Kd.C_below CF5_0.out.2.2 HC.out.hd) CF5_0.out.2.1 AF8.out).mono ?_); rintro e w8_ ⟨v7_v0_, rfl, ho0, hb⟩; clear hK K7; obtain ⟨Ar7_0, cr7_0, rfl⟩ := Kd.S_slice ho0; have CF7_0 := Aside0.mk (Kd.S_reads' ho0); have nHC := Aside0.mk (HC.out.step hb); clear HC hb ho0; have HC := nHC; clear nHC; have K8 := Aside0.mk True.intro)
    | (go_at_call 41; have hK := K6.out; (with_reducible refine (impl_CrossedArcs.calls k _ _ x cr false _ CF5_0.out.2.2 CF5_0.out.2.1 AF7.out).mono ?_); rintro e w7_ ⟨v6_v0_, rfl, ho0, hb⟩; clear hK K6; obtain ⟨Ar6_0, cr6_0, rfl⟩ := Kd.S_slice ho0; have CF6_0 := Aside0.mk (Kd.S_reads' ho0); have nHC := Aside0.mk (HC.out.step hb); clear HC hb ho0; have HC := nHC; clear nHC; have K7 := Aside0.mk True.intro)
    | (go_at_call 40; have hK := K5.out; (with_reducible refine (spec_DrawCrossedArcs.calls k _ _ l1 x _ (Kd.C_below HP1.out.2.2 HC.out.tl.tl.tl.tl.hd) HP1.out.2.1 AF6.out).mono ?_); rintro e w6_ ⟨v5_v0_, rfl, ho0, hb⟩; clear hK K5; obtain ⟨Ar5_0, cr5_0, rfl⟩ := Kd.R_slice ho0; have CF5_0 := Aside0.mk (Kd.R_reads' ho0); have nHC := Aside0.mk (HC.out.step hb); clear HC hb ho0; have HC := nHC; clear nHC; have K6 := Aside0.mk True.intro)
    | (go_at_call 36; have hK := K4.out; (with_reducible refine (laws_ySame.calls k _ _ q _ _ q true _ (Kd.C_below CF2_0.out.2.2 HC.out.hd) CF2_0.out.2.1 CF3_0.out.2.2 CF3_0.out.2.1 AF5.out).mono ?_); rintro e w5_ ⟨rfl, hd⟩; clear hK K4; have hb := drawn_below hd; clear hd; have nHC := Aside0.mk (HC.out.step hb); clear HC hb; have HC := nHC; clear nHC; have K5 := Aside0.mk True.intro)
    | (go_at_call 35; have hK := K3.out; (with_reducible refine (spec_TurnFolding.calls k _ _ p by_ q false _ (Kd.C_below CF1_0.out.2.2 HC.out.hd) CF1_0.out.2.1 AF4.out).mono ?_); rintro e w4_ ⟨v3_v0_, rfl, ho0, hb⟩; clear hK K3; obtain ⟨Ar3_0, cr3_0, rfl⟩ := Kd.R_slice ho0; have CF3_0 := Aside0.mk (Kd.R_reads' ho0); have nHC := Aside0.mk (HC.out.step hb); clear HC hb ho0; have HC := nHC; clear nHC; have K4 := Aside0.mk True.intro)
    | (go_at_call 34; have hK := K2.out; (with_reducible refine (impl_TurnFolding.calls k _ _ p by_ q false _ CF1_0.out.2.2 CF1_0.out.2.1 AF3.out).mono ?_); rintro e w3_ ⟨v2_v0_, rfl, ho0, hb⟩; clear hK K2; obtain ⟨Ar2_0, cr2_0, rfl⟩ := Kd.R_slice ho0; have CF2_0 := Aside0.mk (Kd.R_reads' ho0); have nHC := Aside0.mk (HC.out.step hb); clear HC hb ho0; have HC := nHC; clear nHC; have K3 := Aside0.mk True.intro)
    | (go_at_call 33; have hK := K1.out; (with_reducible refine (spec_DrawTurnFolding.calls k _ _ l0 p by_ _ (Kd.C_below HP0.out.2.2 HC.out.hd) HP0.out.2.1 AF2.out).mono ?_); rintro e w2_ ⟨v1_v0_, rfl, ho0, hb⟩; clear hK K1; obtain ⟨Ar1_0, cr1_0, rfl⟩ := Kd.R_slice ho0; have CF1_0 := Aside0.mk (Kd.R_reads' ho0); have nHC := Aside0.mk (HC.out.step hb); clear HC hb ho0; have HC := nHC; clear nHC; have K2 := Aside0.mk True.intro)
    | (go_at_call 32; have hK := K0.out; (with_reducible refine (laws_big.calls _ _ l0 _ _ l1 false _ HP0.out.2.2 HP0.out.2.1 HP1.out.2.2 HP1.out.2.1 AF1.out).mono ?_); rintro e w1_ ⟨rfl, hd⟩; clear hK K0; have hb := drawn_below hd; clear hd; have nHC := Aside0.mk (HC.out.step hb); clear HC hb; have HC := nHC; clear nHC; have K1 := Aside0.mk True.intro))
  go_ret
  exact ⟨rfl, HC.out.tl.tl.tl.tl.tl.tl.tl.tl.tl.tl.tl.tl.tl.tl.tl.tl.tl.tl.tl.tl.hd⟩
def t_is_false.Told (k : Nat) (l0 : List Int) (l1 : List Int) : Prop := ∃ (p : List Int) (by_ : Int) (q : List Int) (rev : List Int) (num : List Int) (x : List Int) (cr : List (List Int)) (y : List Int) (yr : List Int) (yb : Bool) (yn : List Int) (yc : Bool) (z : List Int) (za : List (List Int)) (zb : Bool), (laws_big.f l0 l1 = some false) ∧ (spec_DrawTurnFolding.f k l0 = some (p, by_)) ∧ (impl_TurnFolding.f k p by_ = some (q, true)) ∧ (spec_TurnFolding.f k p by_ = some (q, true)) ∧ (laws_ySame.f k q q = some true) ∧ (impl_IsFolding.f k p = some (false, true)) ∧ (impl_IsFolding.f k q = some (false, true)) ∧ (impl_TurnFolding.f k q (wrap64 (-by_)) = some (p, true)) ∧ (impl_ReverseFolding.f k p = some (rev, true)) ∧ (impl_IsFolding.f k rev = some (false, true)) ∧ (impl_RenumberFolding.f k p = some (num, true)) ∧ (impl_IsFolding.f k num = some (false, true)) ∧ (laws_ySame.f k p p = some true) ∧ (spec_DrawCrossedArcs.f k l1 = some x) ∧ (impl_CrossedArcs.f k x = some (cr, false)) ∧ (spec_CrossedArcs.f k x = some (cr, false)) ∧ (impl_IsFolding.f k x = some (false, false)) ∧ (laws_yRows.f k cr cr = some true) ∧ (spec_DrawReverseFolding.f k l1 = some y) ∧ (impl_ReverseFolding.f k y = some (yr, yb)) ∧ (spec_ReverseFolding.f k y = some (yr, yb)) ∧ (impl_RenumberFolding.f k y = some (yn, yc)) ∧ (spec_RenumberFolding.f k y = some (yn, yc)) ∧ (spec_DrawAddStamp.f k l1 = some z) ∧ (impl_AddStamp.f k z = some (za, zb)) ∧ (spec_AddStamp.f k z = some (za, zb)) ∧ (laws_ySame.f k yr yr = some true) ∧ (laws_ySame.f k yn yn = some true) ∧ (laws_yRows.f k za za = some true)
set_option maxHeartbeats 16000000 in
set_option maxRecDepth 100000 in
theorem t_is_false (k : Nat) (l0 : List Int) (l1 : List Int) (A0 : Option Addr) (c0 : Nat) (A1 : Option Addr) (c1 : Nat) (p : List Int) (by_ : Int) (q : List Int) (rev : List Int) (num : List Int) (x : List Int) (cr : List (List Int)) (y : List Int) (yr : List Int) (yb : Bool) (yn : List Int) (yc : Bool) (z : List Int) (za : List (List Int)) (zb : Bool) (w : World) (hr0 : Kd.C (Kd.int .u8) w A0 l0.length l0) (hc0 : l0.length ≤ c0) (hr1 : Kd.C (Kd.int .u8) w A1 l1.length l1) (hc1 : l1.length ≤ c1)
    (HF : (laws_big.f l0 l1 = some false) ∧ (spec_DrawTurnFolding.f k l0 = some (p, by_)) ∧ (impl_TurnFolding.f k p by_ = some (q, true)) ∧ (spec_TurnFolding.f k p by_ = some (q, true)) ∧ (laws_ySame.f k q q = some true) ∧ (impl_IsFolding.f k p = some (false, true)) ∧ (impl_IsFolding.f k q = some (false, true)) ∧ (impl_TurnFolding.f k q (wrap64 (-by_)) = some (p, true)) ∧ (impl_ReverseFolding.f k p = some (rev, true)) ∧ (impl_IsFolding.f k rev = some (false, true)) ∧ (impl_RenumberFolding.f k p = some (num, true)) ∧ (impl_IsFolding.f k num = some (false, true)) ∧ (laws_ySame.f k p p = some true) ∧ (spec_DrawCrossedArcs.f k l1 = some x) ∧ (impl_CrossedArcs.f k x = some (cr, false)) ∧ (spec_CrossedArcs.f k x = some (cr, false)) ∧ (impl_IsFolding.f k x = some (false, false)) ∧ (laws_yRows.f k cr cr = some true) ∧ (spec_DrawReverseFolding.f k l1 = some y) ∧ (impl_ReverseFolding.f k y = some (yr, yb)) ∧ (spec_ReverseFolding.f k y = some (yr, yb)) ∧ (impl_RenumberFolding.f k y = some (yn, yc)) ∧ (spec_RenumberFolding.f k y = some (yn, yc)) ∧ (spec_DrawAddStamp.f k l1 = some z) ∧ (impl_AddStamp.f k z = some (za, zb)) ∧ (spec_AddStamp.f k z = some (za, zb)) ∧ (laws_ySame.f k yr yr = some true) ∧ (laws_ySame.f k yn yn = some true) ∧ (laws_yRows.f k za za = some true)) :
    Calls Try.prog 10 #[.slice A0 l0.length c0, .slice A1 l1.length c1] w fun e w' => e = .returned (.bool true) ∧ Below w.heap.size w w' := by
  obtain ⟨F1, F2, F3, F4, F5, F6, F7, F8, F9, F10, F11, F12, F13, F14, F15, F16, F17, F18, F19, F20, F21, F22, F23, F24, F25, F26, F27, F28, F29⟩ := HF
  have HP0 := Aside0.mk (show l0.length = l0.length ∧ l0.length ≤ c0 ∧ _ from ⟨rfl, hc0, hr0⟩)
  clear hr0 hc0
  have HP1 := Aside0.mk (show l1.length = l1.length ∧ l1.length ≤ c1 ∧ _ from ⟨rfl, hc1, hr1⟩)
  clear hr1 hc1
  have AF1 := Aside0.mk F1
  clear F1
  have AF2 := Aside0.mk F2
  clear F2
  have AF3 := Aside0.mk F3
  clear F3
  have AF4 := Aside0.mk F4
  clear F4
  have AF5 := Aside0.mk F5
  clear F5
  have AF6 := Aside0.mk F6
  clear F6
  have AF7 := Aside0.mk F7
  clear F7
  have AF8 := Aside0.mk F8
  clear F8
  have AF9 := Aside0.mk F9
  clear F9
  have AF10 := Aside0.mk F10
  clear F10
  have AF11 := Aside0.mk F11
  clear F11
  have AF12 := Aside0.mk F12
  clear F12
  have AF13 := Aside0.mk F13
  clear F13
  have AF14 := Aside0.mk F14
  clear F14
  have AF15 := Aside0.mk F15
  clear F15
  have AF16 := Aside0.mk F16
  clear F16
  have AF17 := Aside0.mk F17
  clear F17
  have AF18 := Aside0.mk F18
  clear F18
  have AF19 := Aside0.mk F19
  clear F19
  have AF20 := Aside0.mk F20
  clear F20
  have AF21 := Aside0.mk F21
  clear F21
  have AF22 := Aside0.mk F22
  clear F22
  have AF23 := Aside0.mk F23
  clear F23
  have AF24 := Aside0.mk F24
  clear F24
  have AF25 := Aside0.mk F25
  clear F25
  have AF26 := Aside0.mk F26
  clear F26
  have AF27 := Aside0.mk F27
  clear F27
  have AF28 := Aside0.mk F28
  clear F28
  have AF29 := Aside0.mk F29
  clear F29
  have b1 : (yb == yb) = true := beq_self_eq_true yb
  have b2 : (yc == yc) = true := beq_self_eq_true yc
  have b3 : (zb == zb) = true := beq_self_eq_true zb
  have HC := Aside0.mk (show Ch [] w from trivial)
  have K0 := Aside0.mk True.intro
  go_enter Try.func10, Try.ntmps10
  go_wp2_with (first
    | (go_at_call 43; have hK := K28.out; (with_reducible refine (laws_yRows.calls k _ _ za _ _ za true _ (Kd.C_below CF24_0.out.2.2 HC.out.tl.tl.hd) CF24_0.out.2.1 (Kd.C_below CF25_0.out.2.2 HC.out.tl.hd) CF25_0.out.2.1 AF29.out).mono ?_); rintro e w29_ ⟨rfl, hd⟩; clear hK K28; have hb := drawn_below hd; clear hd; have nHC := Aside0.mk (HC.out.step hb); clear HC hb; have HC := nHC; clear nHC; have K29 := Aside0.mk True.intro)
    | (go_at_call 36; have hK := K27.out; (with_reducible refine (laws_ySame.calls k _ _ yn _ _ yn true _ (Kd.C_below CF21_0.out.2.2 HC.out.tl.tl.tl.tl.hd) CF21_0.out.2.1 (Kd.C_below CF22_0.out.2.2 HC.out.tl.tl.tl.hd) CF22_0.out.2.1 AF28.out).mono ?_); rintro e w28_ ⟨rfl, hd⟩; clear hK K27; have hb := drawn_below hd; clear hd; have nHC := Aside0.mk (HC.out.step hb); clear HC hb; have HC := nHC; clear nHC; have K28 := Aside0.mk True.intro)
    | (go_at_call 36; have hK := K26.out; (with_reducible refine (laws_ySame.calls k _ _ yr _ _ yr true _ (Kd.C_below CF19_0.out.2.2 HC.out.tl.tl.tl.tl.tl.hd) CF19_0.out.2.1 (Kd.C_below CF20_0.out.2.2 HC.out.tl.tl.tl.tl.hd) CF20_0.out.2.1 AF27.out).mono ?_); rintro e w27_ ⟨rfl, hd⟩; clear hK K26; have hb := drawn_below hd; clear hd; have nHC := Aside0.mk (HC.out.step hb); clear HC hb; have HC := nHC; clear nHC; have K27 := Aside0.mk True.intro)
    | (go_at_call 22; have hK := K25.out; (with_reducible refine (spec_AddStamp.calls k _ _ z za zb _ (Kd.C_below CF23_0.out.2.2 HC.out.hd) CF23_0.out.2.1 AF26.out).mono ?_); rintro e w26_ ⟨v25_v0_, rfl, ho0, hb⟩; clear hK K25; obtain ⟨Ar25_0, cr25_0, rfl⟩ := Kd.N_slice ho0; have CF25_0 := Aside0.mk (Kd.N_reads' ho0); have nHC := Aside0.mk (HC.out.step hb); clear HC hb ho0; have HC := nHC; clear nHC; have K26 := Aside0.mk True.intro)
    | (go_at_call 24; have hK := K24.out; (with_reducible refine (impl_AddStamp.calls k _ _ z za zb _ CF23_0.out.2.2 CF23_0.out.2.1 AF25.out).mono ?_); rintro e w25_ ⟨v24_v0_, rfl, ho0, hb⟩; clear hK K24; obtain ⟨Ar24_0, cr24_0, rfl⟩ := Kd.S_slice ho0; have CF24_0 := Aside0.mk (Kd.S_reads' ho0); have nHC := Aside0.mk (HC.out.step hb); clear HC hb ho0; have HC := nHC; clear nHC; have K25 := Aside0.mk True.intro)
    | (go_at_call 47; have hK := K23.out; (with_reducible refine (spec_DrawAddStamp.calls k _ _ l1 z _ (Kd.C_below HP1.out.2.2 HC.out.tl.tl.tl.tl.tl.tl.tl.tl.tl.tl.tl.tl.tl.tl.tl.tl.tl.tl.tl.tl.tl.tl.hd) HP1.out.2.1 AF24.out).mono ?_); rintro e w24_ ⟨v23_v0_, rfl, ho0, hb⟩; clear hK K23; obtain ⟨Ar23_0, cr23_0, rfl⟩ := Kd.R_slice ho0; have CF23_0 := Aside0.mk (Kd.R_reads' ho0); have nHC := Aside0.mk (HC.out.step hb); clear HC hb ho0; have HC := nHC; clear nHC; have K24 := Aside0.mk True.intro)
    | (go_at_call 46; have hK := K22.out; (with_reducible refine (spec_RenumberFolding.calls k _ _ y yn yc _ (Kd.C_below CF18_0.out.2.2 HC.out.tl.tl.hd) CF18_0.out.2.1 AF23.out).mono ?_); rintro e w23_ ⟨v22_v0_, rfl, ho0, hb⟩; clear hK K22; obtain ⟨Ar22_0, cr22_0, rfl⟩ := Kd.R_slice ho0; have CF22_0 := Aside0.mk (Kd.R_reads' ho0); have nHC := Aside0.mk (HC.out.step hb); clear HC hb ho0; have HC := nHC; clear nHC; have K23 := Aside0.mk True.intro)
    | (go_at_call 39; have hK := K21.out; (with_reducible refine (impl_RenumberFolding.calls k _ _ y yn yc _ (Kd.C_below CF18_0.out.2.2 HC.out.tl.hd) CF18_0.out.2.1 AF22.out).mono ?_); rintro e w22_ ⟨v21_v0_, rfl, ho0, hb⟩; clear hK K21; obtain ⟨Ar21_0, cr21_0, rfl⟩ := Kd.R_slice ho0; have CF21_0 := Aside0.mk (Kd.R_reads' ho0); have nHC := Aside0.mk (HC.out.step hb); clear HC hb ho0; have HC := nHC; clear nHC; have K22 := Aside0.mk True.intro)
    | (go_at_call 45; have hK := K20.out; (with_reducible refine (spec_ReverseFolding.calls k _ _ y yr yb _ (Kd.C_below CF18_0.out.2.2 HC.out.hd) CF18_0.out.2.1 AF21.out).mono ?_); rintro e w21_ ⟨v20_v0_, rfl, ho0, hb⟩; clear hK K20; obtain ⟨Ar20_0, cr20_0, rfl⟩ := Kd.R_slice ho0; have CF20_0 := Aside0.mk (Kd.R_reads' ho0); have nHC := Aside0.mk (HC.out.step hb); clear HC hb ho0; have HC := nHC; clear nHC; have K21 := Aside0.mk True.intro)
    | (go_at_call 38; have hK := K19.out; (with_reducible refine (impl_ReverseFolding.calls k _ _ y yr yb _ CF18_0.out.2.2 CF18_0.out.2.1 AF20.out).mono ?_); rintro e w20_ ⟨v19_v0_, rfl, ho0, hb⟩; clear hK K19; obtain ⟨Ar19_0, cr19_0, rfl⟩ := Kd.R_slice ho0; have CF19_0 := Aside0.mk (Kd.R_reads' ho0); have nHC := Aside0.mk (HC.out.step hb); clear HC hb ho0; have HC := nHC; clear nHC; have K20 := Aside0.mk True.intro)
    | (go_at_call 44; have hK := K18.out; (with_reducible refine (spec_DrawReverseFolding.calls k _ _ l1 y _ (Kd.C_below HP1.out.2.2 HC.out.tl.tl.tl.tl.tl.tl.tl.tl.tl.tl.tl.tl.tl.tl.tl.tl.tl.hd) HP1.out.2.1 AF19.out).mono ?_); rintro e w19_ ⟨v18_v0_, rfl, ho0, hb⟩; clear hK K18; obtain ⟨Ar18_0, cr18_0, rfl⟩ := Kd.R_slice ho0; have CF18_0 := Aside0.mk (Kd.R_reads' ho0); have nHC := Aside0.mk (HC.out.step hb); clear HC hb ho0; have HC := nHC; clear nHC; have K19 := Aside0.mk True.intro)
    | (go_at_call 43; have hK := K17.out; (with_reducible refine (laws_yRows.calls k _ _ cr _ _ cr true _ (Kd.C_below CF14_0.out.2.2 HC.out.tl.hd) CF14_0.out.2.1 (Kd.C_below CF15_0.out.2.2 HC.out.hd) CF15_0.out.2.1 AF18.out).mono ?_); rintro e w18_ ⟨rfl, hd⟩; clear hK K17; have hb := drawn_below hd; clear hd; have nHC := Aside0.mk (HC.out.step hb); clear HC hb; have HC := nHC; clear nHC; have K18 := Aside0.mk True.intro)
    | (go_at_call 37; have hK := K16.out; (with_reducible refine (impl_IsFolding.calls k _ _ x false false _ (Kd.C_below CF13_0.out.2.2 HC.out.tl.hd) CF13_0.out.2.1 AF17.out).mono ?_); rintro e w17_ ⟨rfl, hb⟩; clear hK K16; have nHC := Aside0.mk (HC.out.step hb); clear HC hb; have HC := nHC; clear nHC; have K17 := Aside0.mk True.intro)
    | (go_at_call 42; have hK := K15.out; (with_reducible refine (spec_CrossedArcs.calls k _ _ x cr false _ (Kd.C_below CF13_0.out.2.2 HC.out.hd) CF13_0.out.2.1 AF16.out).mono ?_); rintro e w16_ ⟨v15_v0_, rfl, ho0, hb⟩; clear hK K15; obtain ⟨Ar15_0, cr15_0, rfl⟩ := Kd.S_slice ho0; have CF15_0 := Aside0.mk (Kd.S_reads' ho0); have nHC := Aside0.mk (HC.out.step hb); clear HC hb ho0; have HC := nHC; clear nHC; have K16 := Aside0.mk True.intro)
    | (go_at_call 41; have hK := K14.out; (with_reducible refine (impl_CrossedArcs.calls k _ _ x cr false _ CF13_0.out.2.2 CF13_0.out.2.1 AF15.out).mono ?_); rintro e w15_ ⟨v14_v0_, rfl, ho0, hb⟩; clear hK K14; obtain ⟨Ar14_0, cr14_0, rfl⟩ := Kd.S_slice ho0; have CF14_0 := Aside0.mk (Kd.S_reads' ho0); have nHC := Aside0.mk (HC.out.step hb); clear HC hb ho0; have HC := nHC; clear nHC; have K15 := Aside0.mk True.intro)
    | (go_at_call 40; have hK := K13.out; (with_reducible refine (spec_DrawCrossedArcs.calls k _ _ l1 x _ (Kd.C_below HP1.out.2.2 HC.out.tl.tl.tl.tl.tl.tl.tl.tl.tl.tl.tl.tl.hd) HP1.out.2.1 AF14.out).mono ?_); rintro e w14_ ⟨v13_v0_, rfl, ho0, hb⟩; clear hK K13; obtain ⟨Ar13_0, cr13_0, rfl⟩ := Kd.R_slice ho0; have CF13_0 := Aside0.mk (Kd.R_reads' ho0); have nHC := Aside0.mk (HC.out.step hb); clear HC hb ho0; have HC := nHC; clear nHC; have K14 := Aside0.mk True.intro)
    | (go_at_call 36; have hK := K12.out; (with_reducible refine (laws_ySame.calls k _ _ p _ _ p true _ (Kd.C_below CF7_0.out.2.2 HC.out.tl.tl.tl.hd) CF7_0.out.2.1 (Kd.C_below CF1_0.out.2.2 HC.out.tl.tl.tl.tl.tl.tl.tl.tl.tl.hd) CF1_0.out.2.1 AF13.out).mono ?_); rintro e w13_ ⟨rfl, hd⟩; clear hK K12; have hb := drawn_below hd; clear hd; have nHC := Aside0.mk (HC.out.step hb); clear HC hb; have HC := nHC; clear nHC; have K13 := Aside0.mk True.intro)
    | (go_at_call 37; have hK := K11.out; (with_reducible refine (impl_IsFolding.calls k _ _ num false true _ CF10_0.out.2.2 CF10_0.out.2.1 AF12.out).mono ?_); rintro e w12_ ⟨rfl, hb⟩; clear hK K11; have nHC := Aside0.mk (HC.out.step hb); clear HC hb; have HC := nHC; clear nHC; have K12 := Aside0.mk True.intro)
    | (go_at_call 39; have hK := K10.out; (with_reducible refine (impl_RenumberFolding.calls k _ _ p num true _ (Kd.C_below CF1_0.out.2.2 HC.out.tl.tl.tl.tl.tl.tl.tl.hd) CF1_0.out.2.1 AF11.out).mono ?_); rintro e w11_ ⟨v10_v0_, rfl, ho0, hb⟩; clear hK K10; obtain ⟨Ar10_0, cr10_0, rfl⟩ := Kd.R_slice ho0; have CF10_0 := Aside0.mk (Kd.R_reads' ho0); have nHC := Aside0.mk (HC.out.step hb); clear HC hb ho0; have HC := nHC; clear nHC; have K11 := Aside0.mk True.intro)
    | (go_at_call 37; have hK := K9.out; (with_reducible refine (impl_IsFolding.calls k _ _ rev false true _ CF8_0.out.2.2 CF8_0.out.2.1 AF10.out).mono ?_); rintro e w10_ ⟨rfl, hb⟩; clear hK K9; have nHC := Aside0.mk (HC.out.step hb); clear HC hb; have HC := nHC; clear nHC; have K10 := Aside0.mk True.intro)
    | (go_at_call 38; have hK := K8.out; (with_reducible refine (impl_ReverseFolding.calls k _ _ p rev true _ (Kd.C_below CF1_0.out.2.2 HC.out.tl.tl.tl.tl.tl.hd) CF1_0.out.2.1 AF9.out).mono ?_); rintro e w9_ ⟨v8_v0_, rfl, ho0, hb⟩; clear hK K8; obtain ⟨Ar8_0, cr8_0, rfl⟩ := Kd.R_slice ho0; have CF8_0 := Aside0.mk (Kd.R_reads' ho0); have nHC := Aside0.mk (HC.out.step hb); clear HC hb ho0; have HC := nHC; clear nHC; have K9 := Aside0.mk True.intro)
    | (go_at_call 34; have hK := K7.out; (with_reducible refine (impl_TurnFolding.calls k _ _ q (wrap64 (-by_)) p true _ (Kd.C_below CF2_0.out.2.2 HC.out.tl.tl.tl.hd) CF2_0.out.2.1 AF8.out).mono ?_); rintro e w8_ ⟨v7_v0_, rfl, ho0, hb⟩; clear hK K7; obtain ⟨Ar7_0, cr7_0, rfl⟩ := Kd.R_slice ho0; have CF7_0 := Aside0.mk (Kd.R_reads' ho0); have nHC := Aside0.mk (HC.out.step hb); clear HC hb ho0; have HC := nHC; clear nHC; have K8 := Aside0.mk True.intro)
    | (go_at_call 37; have hK := K6.out; (with_reducible refine (impl_IsFolding.calls k _ _ q false true _ (Kd.C_below CF2_0.out.2.2 HC.out.tl.tl.hd) CF2_0.out.2.1 AF7.out).mono ?_); rintro e w7_ ⟨rfl, hb⟩; clear hK K6; have nHC := Aside0.mk (HC.out.step hb); clear HC hb; have HC := nHC; clear nHC; have K7 := Aside0.mk True.intro)
    | (go_at_call 37; have hK := K5.out; (with_reducible refine (impl_IsFolding.calls k _ _ p false true _ (Kd.C_below CF1_0.out.2.2 HC.out.tl.tl.hd) CF1_0.out.2.1 AF6.out).mono ?_); rintro e w6_ ⟨rfl, hb⟩; clear hK K5; have nHC := Aside0.mk (HC.out.step hb); clear HC hb; have HC := nHC; clear nHC; have K6 := Aside0.mk True.intro)
    | (go_at_call 36; have hK := K4.out; (with_reducible refine (laws_ySame.calls k _ _ q _ _ q true _ (Kd.C_below CF2_0.out.2.2 HC.out.hd) CF2_0.out.2.1 CF3_0.out.2.2 CF3_0.out.2.1 AF5.out).mono ?_); rintro e w5_ ⟨rfl, hd⟩; clear hK K4; have hb := drawn_below hd; clear hd; have nHC := Aside0.mk (HC.out.step hb); clear HC hb; have HC := nHC; clear nHC; have K5 := Aside0.mk True.intro)
    | (go_at_call 35; have hK := K3.out; (with_reducible refine (spec_TurnFolding.calls k _ _ p by_ q true _ (Kd.C_below CF1_0.out.2.2 HC.out.hd) CF1_0.out.2.1 AF4.out).mono ?_); rintro e w4_ ⟨v3_v0_, rfl, ho0, hb⟩; clear hK K3; obtain ⟨Ar3_0, cr3_0, rfl⟩ := Kd.R_slice ho0; have CF3_0 := Aside0.mk (Kd.R_reads' ho0); have nHC := Aside0.mk (HC.out.step hb); clear HC hb ho0; have HC := nHC; clear nHC; have K4 := Aside0.mk True.intro)
    | (go_at_call 34; have hK := K2.out; (with_reducible refine (impl_TurnFolding.calls k _ _ p by_ q true _ CF1_0.out.2.2 CF1_0.out.2.1 AF3.out).mono ?_); rintro e w3_ ⟨v2_v0_, rfl, ho0, hb⟩; clear hK K2; obtain ⟨Ar2_0, cr2_0, rfl⟩ := Kd.R_slice ho0; have CF2_0 := Aside0.mk (Kd.R_reads' ho0); have nHC := Aside0.mk (HC.out.step hb); clear HC hb ho0; have HC := nHC; clear nHC; have K3 := Aside0.mk True.intro)
    | (go_at_call 33; have hK := K1.out; (with_reducible refine (spec_DrawTurnFolding.calls k _ _ l0 p by_ _ (Kd.C_below HP0.out.2.2 HC.out.hd) HP0.out.2.1 AF2.out).mono ?_); rintro e w2_ ⟨v1_v0_, rfl, ho0, hb⟩; clear hK K1; obtain ⟨Ar1_0, cr1_0, rfl⟩ := Kd.R_slice ho0; have CF1_0 := Aside0.mk (Kd.R_reads' ho0); have nHC := Aside0.mk (HC.out.step hb); clear HC hb ho0; have HC := nHC; clear nHC; have K2 := Aside0.mk True.intro)
    | (go_at_call 32; have hK := K0.out; (with_reducible refine (laws_big.calls _ _ l0 _ _ l1 false _ HP0.out.2.2 HP0.out.2.1 HP1.out.2.2 HP1.out.2.1 AF1.out).mono ?_); rintro e w1_ ⟨rfl, hd⟩; clear hK K0; have hb := drawn_below hd; clear hd; have nHC := Aside0.mk (HC.out.step hb); clear HC hb; have HC := nHC; clear nHC; have K1 := Aside0.mk True.intro))
  go_ret
  exact ⟨rfl, HC.out.tl.tl.tl.tl.tl.tl.tl.tl.tl.tl.tl.tl.tl.tl.tl.tl.tl.tl.tl.tl.tl.tl.tl.tl.tl.tl.tl.tl.hd⟩
def t_one_false.Told (k : Nat) (l0 : List Int) (l1 : List Int) : Prop := ∃ (p : List Int) (by_ : Int) (q : List Int) (rev : List Int) (num : List Int) (x : List Int) (cr : List (List Int)) (y : List Int) (yr : List Int) (yb : Bool) (yn : List Int) (yc : Bool) (z : List Int) (za : List (List Int)) (zb : Bool), (laws_big.f l0 l1 = some false) ∧ (spec_DrawTurnFolding.f k l0 = some (p, by_)) ∧ (impl_TurnFolding.f k p by_ = some (q, true)) ∧ (spec_TurnFolding.f k p by_ = some (q, true)) ∧ (laws_ySame.f k q q = some true) ∧ (impl_IsFolding.f k p = some (true, true)) ∧ (impl_IsFolding.f k q = some (true, true)) ∧ (impl_TurnFolding.f k q (wrap64 (-by_)) = some (p, true)) ∧ (impl_ReverseFolding.f k p = some (rev, true)) ∧ (impl_IsFolding.f k rev = some (true, true)) ∧ (impl_RenumberFolding.f k p = some (num, true)) ∧ (impl_IsFolding.f k num = some (true, true)) ∧ (laws_ySame.f k p p = some true) ∧ (p.length = 1) ∧ (spec_DrawCrossedArcs.f k l1 = some x) ∧ (impl_CrossedArcs.f k x = some (cr, false)) ∧ (spec_CrossedArcs.f k x = some (cr, false)) ∧ (impl_IsFolding.f k x = some (false, false)) ∧ (laws_yRows.f k cr cr = some true) ∧ (spec_DrawReverseFolding.f k l1 = some y) ∧ (impl_ReverseFolding.f k y = some (yr, yb)) ∧ (spec_ReverseFolding.f k y = some (yr, yb)) ∧ (impl_RenumberFolding.f k y = some (yn, yc)) ∧ (spec_RenumberFolding.f k y = some (yn, yc)) ∧ (spec_DrawAddStamp.f k l1 = some z) ∧ (impl_AddStamp.f k z = some (za, zb)) ∧ (spec_AddStamp.f k z = some (za, zb)) ∧ (laws_ySame.f k yr yr = some true) ∧ (laws_ySame.f k yn yn = some true) ∧ (laws_yRows.f k za za = some true)
set_option maxHeartbeats 16000000 in
set_option maxRecDepth 100000 in
theorem t_one_false (k : Nat) (l0 : List Int) (l1 : List Int) (A0 : Option Addr) (c0 : Nat) (A1 : Option Addr) (c1 : Nat) (p : List Int) (by_ : Int) (q : List Int) (rev : List Int) (num : List Int) (x : List Int) (cr : List (List Int)) (y : List Int) (yr : List Int) (yb : Bool) (yn : List Int) (yc : Bool) (z : List Int) (za : List (List Int)) (zb : Bool) (w : World) (hr0 : Kd.C (Kd.int .u8) w A0 l0.length l0) (hc0 : l0.length ≤ c0) (hr1 : Kd.C (Kd.int .u8) w A1 l1.length l1) (hc1 : l1.length ≤ c1)
    (HF : (laws_big.f l0 l1 = some false) ∧ (spec_DrawTurnFolding.f k l0 = some (p, by_)) ∧ (impl_TurnFolding.f k p by_ = some (q, true)) ∧ (spec_TurnFolding.f k p by_ = some (q, true)) ∧ (laws_ySame.f k q q = some true) ∧ (impl_IsFolding.f k p = some (true, true)) ∧ (impl_IsFolding.f k q = some (true, true)) ∧ (impl_TurnFolding.f k q (wrap64 (-by_)) = some (p, true)) ∧ (impl_ReverseFolding.f k p = some (rev, true)) ∧ (impl_IsFolding.f k rev = some (true, true)) ∧ (impl_RenumberFolding.f k p = some (num, true)) ∧ (impl_IsFolding.f k num = some (true, true)) ∧ (laws_ySame.f k p p = some true) ∧ (p.length = 1) ∧ (spec_DrawCrossedArcs.f k l1 = some x) ∧ (impl_CrossedArcs.f k x = some (cr, false)) ∧ (spec_CrossedArcs.f k x = some (cr, false)) ∧ (impl_IsFolding.f k x = some (false, false)) ∧ (laws_yRows.f k cr cr = some true) ∧ (spec_DrawReverseFolding.f k l1 = some y) ∧ (impl_ReverseFolding.f k y = some (yr, yb)) ∧ (spec_ReverseFolding.f k y = some (yr, yb)) ∧ (impl_RenumberFolding.f k y = some (yn, yc)) ∧ (spec_RenumberFolding.f k y = some (yn, yc)) ∧ (spec_DrawAddStamp.f k l1 = some z) ∧ (impl_AddStamp.f k z = some (za, zb)) ∧ (spec_AddStamp.f k z = some (za, zb)) ∧ (laws_ySame.f k yr yr = some true) ∧ (laws_ySame.f k yn yn = some true) ∧ (laws_yRows.f k za za = some true)) :
    Calls Try.prog 10 #[.slice A0 l0.length c0, .slice A1 l1.length c1] w fun e w' => e = .returned (.bool true) ∧ Below w.heap.size w w' := by
  obtain ⟨F1, F2, F3, F4, F5, F6, F7, F8, F9, F10, F11, F12, F13, HL, F15, F16, F17, F18, F19, F20, F21, F22, F23, F24, F25, F26, F27, F28, F29, F30⟩ := HF
  have HP0 := Aside0.mk (show l0.length = l0.length ∧ l0.length ≤ c0 ∧ _ from ⟨rfl, hc0, hr0⟩)
  clear hr0 hc0
  have HP1 := Aside0.mk (show l1.length = l1.length ∧ l1.length ≤ c1 ∧ _ from ⟨rfl, hc1, hr1⟩)
  clear hr1 hc1
  have AF1 := Aside0.mk F1
  clear F1
  have AF2 := Aside0.mk F2
  clear F2
  have AF3 := Aside0.mk F3
  clear F3
  have AF4 := Aside0.mk F4
  clear F4
  have AF5 := Aside0.mk F5
  clear F5
  have AF6 := Aside0.mk F6
  clear F6
  have AF7 := Aside0.mk F7
  clear F7
  have AF8 := Aside0.mk F8
  clear F8
  have AF9 := Aside0.mk F9
  clear F9
  have AF10 := Aside0.mk F10
  clear F10
  have AF11 := Aside0.mk F11
  clear F11
  have AF12 := Aside0.mk F12
  clear F12
  have AF13 := Aside0.mk F13
  clear F13
  have AHL := Aside0.mk HL
  clear HL
  have AF15 := Aside0.mk F15
  clear F15
  have AF16 := Aside0.mk F16
  clear F16
  have AF17 := Aside0.mk F17
  clear F17
  have AF18 := Aside0.mk F18
  clear F18
  have AF19 := Aside0.mk F19
  clear F19
  have AF20 := Aside0.mk F20
  clear F20
  have AF21 := Aside0.mk F21
  clear F21
  have AF22 := Aside0.mk F22
  clear F22
  have AF23 := Aside0.mk F23
  clear F23
  have AF24 := Aside0.mk F24
  clear F24
  have AF25 := Aside0.mk F25
  clear F25
  have AF26 := Aside0.mk F26
  clear F26
  have AF27 := Aside0.mk F27
  clear F27
  have AF28 := Aside0.mk F28
  clear F28
  have AF29 := Aside0.mk F29
  clear F29
  have AF30 := Aside0.mk F30
  clear F30
  have bl : decide ((1 : Int) < (p.length : Int)) = false := decide_eq_false (by have := AHL.out; omega)
  have b1 : (yb == yb) = true := beq_self_eq_true yb
  have b2 : (yc == yc) = true := beq_self_eq_true yc
  have b3 : (zb == zb) = true := beq_self_eq_true zb
  have HC := Aside0.mk (show Ch [] w from trivial)
  have K0 := Aside0.mk True.intro
  go_enter Try.func10, Try.ntmps10
  go_wp2_with (first
    | (go_at_call 43; have hK := K28.out; (with_reducible refine (laws_yRows.calls k _ _ za _ _ za true _ (Kd.C_below CF24_0.out.2.2 HC.out.tl.tl.hd) CF24_0.out.2.1 (Kd.C_below CF25_0.out.2.2 HC.out.tl.hd) CF25_0.out.2.1 AF30.out).mono ?_); rintro e w29_ ⟨rfl, hd⟩; clear hK K28; have hb := drawn_below hd; clear hd; have nHC := Aside0.mk (HC.out.step hb); clear HC hb; have HC := nHC; clear nHC; have K29 := Aside0.mk True.intro)
    | (go_at_call 36; have hK := K27.out; (with_reducible refine (laws_ySame.calls k _ _ yn _ _ yn true _ (Kd.C_below CF21_0.out.2.2 HC.out.tl.tl.tl.tl.hd) CF21_0.out.2.1 (Kd.C_below CF22_0.out.2.2 HC.out.tl.tl.tl.hd) CF22_0.out.2.1 AF29.out).mono ?_); rintro e w28_ ⟨rfl, hd⟩; clear hK K27; have hb := drawn_below hd; clear hd; have nHC := Aside0.mk (HC.out.step hb); clear HC hb; have HC := nHC; clear nHC; have K28 := Aside0.mk True.intro)
    | (go_at_call 36; have hK := K26.out; (with_reducible refine (laws_ySame.calls k _ _ yr _ _ yr true _ (Kd.C_below CF19_0.out.2.2 HC.out.tl.tl.tl.tl.tl.hd) CF19_0.out.2.1 (Kd.C_below CF20_0.out.2.2 HC.out.tl.tl.tl.tl.hd) CF20_0.out.2.1 AF28.out).mono ?_); rintro e w27_ ⟨rfl, hd⟩; clear hK K26; have hb := drawn_below hd; clear hd; have nHC := Aside0.mk (HC.out.step hb); clear HC hb; have HC := nHC; clear nHC; have K27 := Aside0.mk True.intro)
    | (go_at_call 22; have hK := K25.out; (with_reducible refine (spec_AddStamp.calls k _ _ z za zb _ (Kd.C_below CF23_0.out.2.2 HC.out.hd) CF23_0.out.2.1 AF27.out).mono ?_); rintro e w26_ ⟨v25_v0_, rfl, ho0, hb⟩; clear hK K25; obtain ⟨Ar25_0, cr25_0, rfl⟩ := Kd.N_slice ho0; have CF25_0 := Aside0.mk (Kd.N_reads' ho0); have nHC := Aside0.mk (HC.out.step hb); clear HC hb ho0; have HC := nHC; clear nHC; have K26 := Aside0.mk True.intro)
    | (go_at_call 24; have hK := K24.out; (with_reducible refine (impl_AddStamp.calls k _ _ z za zb _ CF23_0.out.2.2 CF23_0.out.2.1 AF26.out).mono ?_); rintro e w25_ ⟨v24_v0_, rfl, ho0, hb⟩; clear hK K24; obtain ⟨Ar24_0, cr24_0, rfl⟩ := Kd.S_slice ho0; have CF24_0 := Aside0.mk (Kd.S_reads' ho0); have nHC := Aside0.mk (HC.out.step hb); clear HC hb ho0; have HC := nHC; clear nHC; have K25 := Aside0.mk True.intro)
    | (go_at_call 47; have hK := K23.out; (with_reducible refine (spec_DrawAddStamp.calls k _ _ l1 z _ (Kd.C_below HP1.out.2.2 HC.out.tl.tl.tl.tl.tl.tl.tl.tl.tl.tl.tl.tl.tl.tl.tl.tl.tl.tl.tl.tl.tl.tl.hd) HP1.out.2.1 AF25.out).mono ?_); rintro e w24_ ⟨v23_v0_, rfl, ho0, hb⟩; clear hK K23; obtain ⟨Ar23_0, cr23_0, rfl⟩ := Kd.R_slice ho0; have CF23_0 := Aside0.mk (Kd.R_reads' ho0); have nHC := Aside0.mk (HC.out.step hb); clear HC hb ho0; have HC := nHC; clear nHC; have K24 := Aside0.mk True.intro)
    | (go_at_call 46; have hK := K22.out; (with_reducible refine (spec_RenumberFolding.calls k _ _ y yn yc _ (Kd.C_below CF18_0.out.2.2 HC.out.tl.tl.hd) CF18_0.out.2.1 AF24.out).mono ?_); rintro e w23_ ⟨v22_v0_, rfl, ho0, hb⟩; clear hK K22; obtain ⟨Ar22_0, cr22_0, rfl⟩ := Kd.R_slice ho0; have CF22_0 := Aside0.mk (Kd.R_reads' ho0); have nHC := Aside0.mk (HC.out.step hb); clear HC hb ho0; have HC := nHC; clear nHC; have K23 := Aside0.mk True.intro)
    | (go_at_call 39; have hK := K21.out; (with_reducible refine (impl_RenumberFolding.calls k _ _ y yn yc _ (Kd.C_below CF18_0.out.2.2 HC.out.tl.hd) CF18_0.out.2.1 AF23.out).mono ?_); rintro e w22_ ⟨v21_v0_, rfl, ho0, hb⟩; clear hK K21; obtain ⟨Ar21_0, cr21_0, rfl⟩ := Kd.R_slice ho0; have CF21_0 := Aside0.mk (Kd.R_reads' ho0); have nHC := Aside0.mk (HC.out.step hb); clear HC hb ho0; have HC := nHC; clear nHC; have K22 := Aside0.mk True.intro)
    | (go_at_call 45; have hK := K20.out; (with_reducible refine (spec_ReverseFolding.calls k _ _ y yr yb _ (Kd.C_below CF18_0.out.2.2 HC.out.hd) CF18_0.out.2.1 AF22.out).mono ?_); rintro e w21_ ⟨v20_v0_, rfl, ho0, hb⟩; clear hK K20; obtain ⟨Ar20_0, cr20_0, rfl⟩ := Kd.R_slice ho0; have CF20_0 := Aside0.mk (Kd.R_reads' ho0); have nHC := Aside0.mk (HC.out.step hb); clear HC hb ho0; have HC := nHC; clear nHC; have K21 := Aside0.mk True.intro)
    | (go_at_call 38; have hK := K19.out; (with_reducible refine (impl_ReverseFolding.calls k _ _ y yr yb _ CF18_0.out.2.2 CF18_0.out.2.1 AF21.out).mono ?_); rintro e w20_ ⟨v19_v0_, rfl, ho0, hb⟩; clear hK K19; obtain ⟨Ar19_0, cr19_0, rfl⟩ := Kd.R_slice ho0; have CF19_0 := Aside0.mk (Kd.R_reads' ho0); have nHC := Aside0.mk (HC.out.step hb); clear HC hb ho0; have HC := nHC; clear nHC; have K20 := Aside0.mk True.intro)
    | (go_at_call 44; have hK := K18.out; (with_reducible refine (spec_DrawReverseFolding.calls k _ _ l1 y _ (Kd.C_below HP1.out.2.2 HC.out.tl.tl.tl.tl.tl.tl.tl.tl.tl.tl.tl.tl.tl.tl.tl.tl.tl.hd) HP1.out.2.1 AF20.out).mono ?_); rintro e w19_ ⟨v18_v0_, rfl, ho0, hb⟩; clear hK K18; obtain ⟨Ar18_0, cr18_0, rfl⟩ := Kd.R_slice ho0; have CF18_0 := Aside0.mk (Kd.R_reads' ho0); have nHC := Aside0.mk (HC.out.step hb); clear HC hb ho0; have HC := nHC; clear nHC; have K19 := Aside0.mk True.intro)
    | (go_at_call 43; have hK := K17.out; (with_reducible refine (laws_yRows.calls k _ _ cr _ _ cr true _ (Kd.C_below CF14_0.out.2.2 HC.out.tl.hd) CF14_0.out.2.1 (Kd.C_below CF15_0.out.2.2 HC.out.hd) CF15_0.out.2.1 AF19.out).mono ?_); rintro e w18_ ⟨rfl, hd⟩; clear hK K17; have hb := drawn_below hd; clear hd; have nHC := Aside0.mk (HC.out.step hb); clear HC hb; have HC := nHC; clear nHC; have K18 := Aside0.mk True.intro)
    | (go_at_call 37; have hK := K16.out; (with_reducible refine (impl_IsFolding.calls k _ _ x false false _ (Kd.C_below CF13_0.out.2.2 HC.out.tl.hd) CF13_0.out.2.1 AF18.out).mono ?_); rintro e w17_ ⟨rfl, hb⟩; clear hK K16; have nHC := Aside0.mk (HC.out.step hb); clear HC hb; have HC := nHC; clear nHC; have K17 := Aside0.mk True.intro)
    | (go_at_call 42; have hK := K15.out; (with_reducible refine (spec_CrossedArcs.calls k _ _ x cr false _ (Kd.C_below CF13_0.out.2.2 HC.out.hd) CF13_0.out.2.1 AF17.out).mono ?_); rintro e w16_ ⟨v15_v0_, rfl, ho0, hb⟩; clear hK K15; obtain ⟨Ar15_0, cr15_0, rfl⟩ := Kd.S_slice ho0; have CF15_0 := Aside0.mk (Kd.S_reads' ho0); have nHC := Aside0.mk (HC.out.step hb); clear HC hb ho0; have HC := nHC; clear nHC; have K16 := Aside0.mk True.intro)
    | (go_at_call 41; have hK := K14.out; (with_reducible refine (impl_CrossedArcs.calls k _ _ x cr false _ CF13_0.out.2.2 CF13_0.out.2.1 AF16.out).mono ?_); rintro e w15_ ⟨v14_v0_, rfl, ho0, hb⟩; clear hK K14; obtain ⟨Ar14_0, cr14_0, rfl⟩ := Kd.S_slice ho0; have CF14_0 := Aside0.mk (Kd.S_reads' ho0); have nHC := Aside0.mk (HC.out.step hb); clear HC hb ho0; have HC := nHC; clear nHC; have K15 := Aside0.mk True.intro)
    | (go_at_call 40; have hK := K13.out; (with_reducible refine (spec_DrawCrossedArcs.calls k _ _ l1 x _ (Kd.C_below HP1.out.2.2 HC.out.tl.tl.tl.tl.tl.tl.tl.tl.tl.tl.tl.tl.hd) HP1.out.2.1 AF15.out).mono ?_); rintro e w14_ ⟨v13_v0_, rfl, ho0, hb⟩; clear hK K13; obtain ⟨Ar13_0, cr13_0, rfl⟩ := Kd.R_slice ho0; have CF13_0 := Aside0.mk (Kd.R_reads' ho0); have nHC := Aside0.mk (HC.out.step hb); clear HC hb ho0; have HC := nHC; clear nHC; have K14 := Aside0.mk True.intro)
    | (go_at_call 36; have hK := K12.out; (with_reducible refine (laws_ySame.calls k _ _ p _ _ p true _ (Kd.C_below CF7_0.out.2.2 HC.out.tl.tl.tl.hd) CF7_0.out.2.1 (Kd.C_below CF1_0.out.2.2 HC.out.tl.tl.tl.tl.tl.tl.tl.tl.tl.hd) CF1_0.out.2.1 AF13.out).mono ?_); rintro e w13_ ⟨rfl, hd⟩; clear hK K12; have hb := drawn_below hd; clear hd; have nHC := Aside0.mk (HC.out.step hb); clear HC hb; have HC := nHC; clear nHC; have K13 := Aside0.mk True.intro)
    | (go_at_call 37; have hK := K11.out; (with_reducible refine (impl_IsFolding.calls k _ _ num true true _ CF10_0.out.2.2 CF10_0.out.2.1 AF12.out).mono ?_); rintro e w12_ ⟨rfl, hb⟩; clear hK K11; have nHC := Aside0.mk (HC.out.step hb); clear HC hb; have HC := nHC; clear nHC; have K12 := Aside0.mk True.intro)
    | (go_at_call 39; have hK := K10.out; (with_reducible refine (impl_RenumberFolding.calls k _ _ p num true _ (Kd.C_below CF1_0.out.2.2 HC.out.tl.tl.tl.tl.tl.tl.tl.hd) CF1_0.out.2.1 AF11.out).mono ?_); rintro e w11_ ⟨v10_v0_, rfl, ho0, hb⟩; clear hK K10; obtain ⟨Ar10_0, cr10_0, rfl⟩ := Kd.R_slice ho0; have CF10_0 := Aside0.mk (Kd.R_reads' ho0); have nHC := Aside0.mk (HC.out.step hb); clear HC hb ho0; have HC := nHC; clear nHC; have K11 := Aside0.mk True.intro)
    | (go_at_call 37; have hK := K9.out; (with_reducible refine (impl_IsFolding.calls k _ _ rev true true _ CF8_0.out.2.2 CF8_0.out.2.1 AF10.out).mono ?_); rintro e w10_ ⟨rfl, hb⟩; clear hK K9; have nHC := Aside0.mk (HC.out.step hb); clear HC hb; have HC := nHC; clear nHC; have K10 := Aside0.mk True.intro)
    | (go_at_call 38; have hK := K8.out; (with_reducible refine (impl_ReverseFolding.calls k _ _ p rev true _ (Kd.C_below CF1_0.out.2.2 HC.out.tl.tl.tl.tl.tl.hd) CF1_0.out.2.1 AF9.out).mono ?_); rintro e w9_ ⟨v8_v0_, rfl, ho0, hb⟩; clear hK K8; obtain ⟨Ar8_0, cr8_0, rfl⟩ := Kd.R_slice ho0; have CF8_0 := Aside0.mk (Kd.R_reads' ho0); have nHC := Aside0.mk (HC.out.step hb); clear HC hb ho0; have HC := nHC; clear nHC; have K9 := Aside0.mk True.intro)
    | (go_at_call 34; have hK := K7.out; (with_reducible refine (impl_TurnFolding.calls k _ _ q (wrap64 (-by_)) p true _ (Kd.C_below CF2_0.out.2.2 HC.out.tl.tl.tl.hd) CF2_0.out.2.1 AF8.out).mono ?_); rintro e w8_ ⟨v7_v0_, rfl, ho0, hb⟩; clear hK K7; obtain ⟨Ar7_0, cr7_0, rfl⟩ := Kd.R_slice ho0; have CF7_0 := Aside0.mk (Kd.R_reads' ho0); have nHC := Aside0.mk (HC.out.step hb); clear HC hb ho0; have HC := nHC; clear nHC; have K8 := Aside0.mk True.intro)
    | (go_at_call 37; have hK := K6.out; (with_reducible refine (impl_IsFolding.calls k _ _ q true true _ (Kd.C_below CF2_0.out.2.2 HC.out.tl.tl.hd) CF2_0.out.2.1 AF7.out).mono ?_); rintro e w7_ ⟨rfl, hb⟩; clear hK K6; have nHC := Aside0.mk (HC.out.step hb); clear HC hb; have HC := nHC; clear nHC; have K7 := Aside0.mk True.intro)
    | (go_at_call 37; have hK := K5.out; (with_reducible refine (impl_IsFolding.calls k _ _ p true true _ (Kd.C_below CF1_0.out.2.2 HC.out.tl.tl.hd) CF1_0.out.2.1 AF6.out).mono ?_); rintro e w6_ ⟨rfl, hb⟩; clear hK K5; have nHC := Aside0.mk (HC.out.step hb); clear HC hb; have HC := nHC; clear nHC; have K6 := Aside0.mk True.intro)
    | (go_at_call 36; have hK := K4.out; (with_reducible refine (laws_ySame.calls k _ _ q _ _ q true _ (Kd.C_below CF2_0.out.2.2 HC.out.hd) CF2_0.out.2.1 CF3_0.out.2.2 CF3_0.out.2.1 AF5.out).mono ?_); rintro e w5_ ⟨rfl, hd⟩; clear hK K4; have hb := drawn_below hd; clear hd; have nHC := Aside0.mk (HC.out.step hb); clear HC hb; have HC := nHC; clear nHC; have K5 := Aside0.mk True.intro)
    | (go_at_call 35; have hK := K3.out; (with_reducible refine (spec_TurnFolding.calls k _ _ p by_ q true _ (Kd.C_below CF1_0.out.2.2 HC.out.hd) CF1_0.out.2.1 AF4.out).mono ?_); rintro e w4_ ⟨v3_v0_, rfl, ho0, hb⟩; clear hK K3; obtain ⟨Ar3_0, cr3_0, rfl⟩ := Kd.R_slice ho0; have CF3_0 := Aside0.mk (Kd.R_reads' ho0); have nHC := Aside0.mk (HC.out.step hb); clear HC hb ho0; have HC := nHC; clear nHC; have K4 := Aside0.mk True.intro)
    | (go_at_call 34; have hK := K2.out; (with_reducible refine (impl_TurnFolding.calls k _ _ p by_ q true _ CF1_0.out.2.2 CF1_0.out.2.1 AF3.out).mono ?_); rintro e w3_ ⟨v2_v0_, rfl, ho0, hb⟩; clear hK K2; obtain ⟨Ar2_0, cr2_0, rfl⟩ := Kd.R_slice ho0; have CF2_0 := Aside0.mk (Kd.R_reads' ho0); have nHC := Aside0.mk (HC.out.step hb); clear HC hb ho0; have HC := nHC; clear nHC; have K3 := Aside0.mk True.intro)
    | (go_at_call 33; have hK := K1.out; (with_reducible refine (spec_DrawTurnFolding.calls k _ _ l0 p by_ _ (Kd.C_below HP0.out.2.2 HC.out.hd) HP0.out.2.1 AF2.out).mono ?_); rintro e w2_ ⟨v1_v0_, rfl, ho0, hb⟩; clear hK K1; obtain ⟨Ar1_0, cr1_0, rfl⟩ := Kd.R_slice ho0; have CF1_0 := Aside0.mk (Kd.R_reads' ho0); have nHC := Aside0.mk (HC.out.step hb); clear HC hb ho0; have HC := nHC; clear nHC; have K2 := Aside0.mk True.intro)
    | (go_at_call 32; have hK := K0.out; (with_reducible refine (laws_big.calls _ _ l0 _ _ l1 false _ HP0.out.2.2 HP0.out.2.1 HP1.out.2.2 HP1.out.2.1 AF1.out).mono ?_); rintro e w1_ ⟨rfl, hd⟩; clear hK K0; have hb := drawn_below hd; clear hd; have nHC := Aside0.mk (HC.out.step hb); clear HC hb; have HC := nHC; clear nHC; have K1 := Aside0.mk True.intro))
  go_ret
  exact ⟨rfl, HC.out.tl.tl.tl.tl.tl.tl.tl.tl.tl.tl.tl.tl.tl.tl.tl.tl.tl.tl.tl.tl.tl.tl.tl.tl.tl.tl.tl.tl.hd⟩
def t_all_false.Told (k : Nat) (l0 : List Int) (l1 : List Int) : Prop := ∃ (p : List Int) (by_ : Int) (q : List Int) (rev : List Int) (num : List Int) (less : List Int) (add : List (List Int)) (at_ : Nat) (s : Nat → Bool) (x : List Int) (cr : List (List Int)) (y : List Int) (yr : List Int) (yb : Bool) (yn : List Int) (yc : Bool) (z : List Int) (za : List (List Int)) (zb : Bool), (laws_big.f l0 l1 = some false) ∧ (spec_DrawTurnFolding.f k l0 = some (p, by_)) ∧ (impl_TurnFolding.f k p by_ = some (q, true)) ∧ (spec_TurnFolding.f k p by_ = some (q, true)) ∧ (laws_ySame.f k q q = some true) ∧ (impl_IsFolding.f k p = some (true, true)) ∧ (impl_IsFolding.f k q = some (true, true)) ∧ (impl_TurnFolding.f k q (wrap64 (-by_)) = some (p, true)) ∧ (impl_ReverseFolding.f k p = some (rev, true)) ∧ (impl_IsFolding.f k rev = some (true, true)) ∧ (impl_RenumberFolding.f k p = some (num, true)) ∧ (impl_IsFolding.f k num = some (true, true)) ∧ (laws_ySame.f k p p = some true) ∧ (1 < p.length) ∧ (less = p.filter (fun x => decide (x ≠ (p.length : Int) - 1))) ∧ (p.length ≤ 1000) ∧ (impl_IsFolding.f k less = some (true, true)) ∧ (impl_AddStamp.f k less = some (add, true)) ∧ (∀ j : Nat, j < add.length → laws_ySame.f k (rd_L1 add (j : Int)) p = some (s j)) ∧ (at_ < add.length ∧ s at_ = true ∧ add.length ≤ 1000) ∧ (spec_DrawCrossedArcs.f k l1 = some x) ∧ (impl_CrossedArcs.f k x = some (cr, false)) ∧ (spec_CrossedArcs.f k x = some (cr, false)) ∧ (impl_IsFolding.f k x = some (false, false)) ∧ (laws_yRows.f k cr cr = some true) ∧ (spec_DrawReverseFolding.f k l1 = some y) ∧ (impl_ReverseFolding.f k y = some (yr, yb)) ∧ (spec_ReverseFolding.f k y = some (yr, yb)) ∧ (impl_RenumberFolding.f k y = some (yn, yc)) ∧ (spec_RenumberFolding.f k y = some (yn, yc)) ∧ (spec_DrawAddStamp.f k l1 = some z) ∧ (impl_AddStamp.f k z = some (za, zb)) ∧ (spec_AddStamp.f k z = some (za, zb)) ∧ (laws_ySame.f k yr yr = some true) ∧ (laws_ySame.f k yn yn = some true) ∧ (laws_yRows.f k za za = some true)
set_option maxHeartbeats 16000000 in
set_option maxRecDepth 100000 in
theorem t_all_false (k : Nat) (l0 : List Int) (l1 : List Int) (A0 : Option Addr) (c0 : Nat) (A1 : Option Addr) (c1 : Nat) (p : List Int) (by_ : Int) (q : List Int) (rev : List Int) (num : List Int) (less : List Int) (add : List (List Int)) (at_ : Nat) (s : Nat → Bool) (x : List Int) (cr : List (List Int)) (y : List Int) (yr : List Int) (yb : Bool) (yn : List Int) (yc : Bool) (z : List Int) (za : List (List Int)) (zb : Bool) (w : World) (hr0 : Kd.C (Kd.int .u8) w A0 l0.length l0) (hc0 : l0.length ≤ c0) (hr1 : Kd.C (Kd.int .u8) w A1 l1.length l1) (hc1 : l1.length ≤ c1)
    (HF : (laws_big.f l0 l1 = some false) ∧ (spec_DrawTurnFolding.f k l0 = some (p, by_)) ∧ (impl_TurnFolding.f k p by_ = some (q, true)) ∧ (spec_TurnFolding.f k p by_ = some (q, true)) ∧ (laws_ySame.f k q q = some true) ∧ (impl_IsFolding.f k p = some (true, true)) ∧ (impl_IsFolding.f k q = some (true, true)) ∧ (impl_TurnFolding.f k q (wrap64 (-by_)) = some (p, true)) ∧ (impl_ReverseFolding.f k p = some (rev, true)) ∧ (impl_IsFolding.f k rev = some (true, true)) ∧ (impl_RenumberFolding.f k p = some (num, true)) ∧ (impl_IsFolding.f k num = some (true, true)) ∧ (laws_ySame.f k p p = some true) ∧ (1 < p.length) ∧ (less = p.filter (fun x => decide (x ≠ (p.length : Int) - 1))) ∧ (p.length ≤ 1000) ∧ (impl_IsFolding.f k less = some (true, true)) ∧ (impl_AddStamp.f k less = some (add, true)) ∧ (∀ j : Nat, j < add.length → laws_ySame.f k (rd_L1 add (j : Int)) p = some (s j)) ∧ (at_ < add.length ∧ s at_ = true ∧ add.length ≤ 1000) ∧ (spec_DrawCrossedArcs.f k l1 = some x) ∧ (impl_CrossedArcs.f k x = some (cr, false)) ∧ (spec_CrossedArcs.f k x = some (cr, false)) ∧ (impl_IsFolding.f k x = some (false, false)) ∧ (laws_yRows.f k cr cr = some true) ∧ (spec_DrawReverseFolding.f k l1 = some y) ∧ (impl_ReverseFolding.f k y = some (yr, yb)) ∧ (spec_ReverseFolding.f k y = some (yr, yb)) ∧ (impl_RenumberFolding.f k y = some (yn, yc)) ∧ (spec_RenumberFolding.f k y = some (yn, yc)) ∧ (spec_DrawAddStamp.f k l1 = some z) ∧ (impl_AddStamp.f k z = some (za, zb)) ∧ (spec_AddStamp.f k z = some (za, zb)) ∧ (laws_ySame.f k yr yr = some true) ∧ (laws_ySame.f k yn yn = some true) ∧ (laws_yRows.f k za za = some true)) :
    Calls Try.prog 10 #[.slice A0 l0.length c0, .slice A1 l1.length c1] w fun e w' => e = .returned (.bool true) ∧ Below w.heap.size w w' := by
  obtain ⟨F1, F2, F3, F4, F5, F6, F7, F8, F9, F10, F11, F12, F13, HL, HLess, HLen, F17, F18, HSame, HAt, F21, F22, F23, F24, F25, F26, F27, F28, F29, F30, F31, F32, F33, F34, F35, F36⟩ := HF
  have HP0 := Aside0.mk (show l0.length = l0.length ∧ l0.length ≤ c0 ∧ _ from ⟨rfl, hc0, hr0⟩)
  clear hr0 hc0
  have HP1 := Aside0.mk (show l1.length = l1.length ∧ l1.length ≤ c1 ∧ _ from ⟨rfl, hc1, hr1⟩)
  clear hr1 hc1
  have AF1 := Aside0.mk F1
  clear F1
  have AF2 := Aside0.mk F2
  clear F2
  have AF3 := Aside0.mk F3
  clear F3
  have AF4 := Aside0.mk F4
  clear F4
  have AF5 := Aside0.mk F5
  clear F5
  have AF6 := Aside0.mk F6
  clear F6
  have AF7 := Aside0.mk F7
  clear F7
  have AF8 := Aside0.mk F8
  clear F8
  have AF9 := Aside0.mk F9
  clear F9
  have AF10 := Aside0.mk F10
  clear F10
  have AF11 := Aside0.mk F11
  clear F11
  have AF12 := Aside0.mk F12
  clear F12
  have AF13 := Aside0.mk F13
  clear F13
  have AHL := Aside0.mk HL
  clear HL
  have AHLess := Aside0.mk HLess
  clear HLess
  have AHLen := Aside0.mk HLen
  clear HLen
  have AF17 := Aside0.mk F17
  clear F17
  have AF18 := Aside0.mk F18
  clear F18
  have AHSame := Aside0.mk HSame
  clear HSame
  have AHAt := Aside0.mk HAt
  clear HAt
  have AF21 := Aside0.mk F21
  clear F21
  have AF22 := Aside0.mk F22
  clear F22
  have AF23 := Aside0.mk F23
  clear F23
  have AF24 := Aside0.mk F24
  clear F24
  have AF25 := Aside0.mk F25
  clear F25
  have AF26 := Aside0.mk F26
  clear F26
  have AF27 := Aside0.mk F27
  clear F27
  have AF28 := Aside0.mk F28
  clear F28
  have AF29 := Aside0.mk F29
  clear F29
  have AF30 := Aside0.mk F30
  clear F30
  have AF31 := Aside0.mk F31
  clear F31
  have AF32 := Aside0.mk F32
  clear F32
  have AF33 := Aside0.mk F33
  clear F33
  have AF34 := Aside0.mk F34
  clear F34
  have AF35 := Aside0.mk F35
  clear F35
  have AF36 := Aside0.mk F36
  clear F36
  have bl : decide ((1 : Int) < (p.length : Int)) = true := decide_eq_true (by have := AHL.out; omega)
  have b1 : (yb == yb) = true := beq_self_eq_true yb
  have b2 : (yc == yc) = true := beq_self_eq_true yc
  have b3 : (zb == zb) = true := beq_self_eq_true zb
  have HC := Aside0.mk (show Ch [] w from trivial)
  have K0 := Aside0.mk True.intro
  go_enter Try.func10, Try.ntmps10
  go_wp2_with (first
    | (go_at_call 36; have hK := K12.out; (with_reducible refine (laws_ySame.calls k _ _ p _ _ p true _ (Kd.C_below CF7_0.out.2.2 HC.out.tl.tl.tl.hd) CF7_0.out.2.1 (Kd.C_below CF1_0.out.2.2 HC.out.tl.tl.tl.tl.tl.tl.tl.tl.tl.hd) CF1_0.out.2.1 AF13.out).mono ?_); rintro e w13_ ⟨rfl, hd⟩; clear hK K12; have hb := drawn_below hd; clear hd; have nHC := Aside0.mk (HC.out.step hb); clear HC hb; have HC := nHC; clear nHC; have K13 := Aside0.mk True.intro)
    | (go_at_call 37; have hK := K11.out; (with_reducible refine (impl_IsFolding.calls k _ _ num true true _ CF10_0.out.2.2 CF10_0.out.2.1 AF12.out).mono ?_); rintro e w12_ ⟨rfl, hb⟩; clear hK K11; have nHC := Aside0.mk (HC.out.step hb); clear HC hb; have HC := nHC; clear nHC; have K12 := Aside0.mk True.intro)
    | (go_at_call 39; have hK := K10.out; (with_reducible refine (impl_RenumberFolding.calls k _ _ p num true _ (Kd.C_below CF1_0.out.2.2 HC.out.tl.tl.tl.tl.tl.tl.tl.hd) CF1_0.out.2.1 AF11.out).mono ?_); rintro e w11_ ⟨v10_v0_, rfl, ho0, hb⟩; clear hK K10; obtain ⟨Ar10_0, cr10_0, rfl⟩ := Kd.R_slice ho0; have CF10_0 := Aside0.mk (Kd.R_reads' ho0); have nHC := Aside0.mk (HC.out.step hb); clear HC hb ho0; have HC := nHC; clear nHC; have K11 := Aside0.mk True.intro)
    | (go_at_call 37; have hK := K9.out; (with_reducible refine (impl_IsFolding.calls k _ _ rev true true _ CF8_0.out.2.2 CF8_0.out.2.1 AF10.out).mono ?_); rintro e w10_ ⟨rfl, hb⟩; clear hK K9; have nHC := Aside0.mk (HC.out.step hb); clear HC hb; have HC := nHC; clear nHC; have K10 := Aside0.mk True.intro)
    | (go_at_call 38; have hK := K8.out; (with_reducible refine (impl_ReverseFolding.calls k _ _ p rev true _ (Kd.C_below CF1_0.out.2.2 HC.out.tl.tl.tl.tl.tl.hd) CF1_0.out.2.1 AF9.out).mono ?_); rintro e w9_ ⟨v8_v0_, rfl, ho0, hb⟩; clear hK K8; obtain ⟨Ar8_0, cr8_0, rfl⟩ := Kd.R_slice ho0; have CF8_0 := Aside0.mk (Kd.R_reads' ho0); have nHC := Aside0.mk (HC.out.step hb); clear HC hb ho0; have HC := nHC; clear nHC; have K9 := Aside0.mk True.intro)
    | (go_at_call 34; have hK := K7.out; (with_reducible refine (impl_TurnFolding.calls k _ _ q (wrap64 (-by_)) p true _ (Kd.C_below CF2_0.out.2.2 HC.out.tl.tl.tl.hd) CF2_0.out.2.1 AF8.out).mono ?_); rintro e w8_ ⟨v7_v0_, rfl, ho0, hb⟩; clear hK K7; obtain ⟨Ar7_0, cr7_0, rfl⟩ := Kd.R_slice ho0; have CF7_0 := Aside0.mk (Kd.R_reads' ho0); have nHC := Aside0.mk (HC.out.step hb); clear HC hb ho0; have HC := nHC; clear nHC; have K8 := Aside0.mk True.intro)
    | (go_at_call 37; have hK := K6.out; (with_reducible refine (impl_IsFolding.calls k _ _ q true true _ (Kd.C_below CF2_0.out.2.2 HC.out.tl.tl.hd) CF2_0.out.2.1 AF7.out).mono ?_); rintro e w7_ ⟨rfl, hb⟩; clear hK K6; have nHC := Aside0.mk (HC.out.step hb); clear HC hb; have HC := nHC; clear nHC; have K7 := Aside0.mk True.intro)
    | (go_at_call 37; have hK := K5.out; (with_reducible refine (impl_IsFolding.calls k _ _ p true true _ (Kd.C_below CF1_0.out.2.2 HC.out.tl.tl.hd) CF1_0.out.2.1 AF6.out).mono ?_); rintro e w6_ ⟨rfl, hb⟩; clear hK K5; have nHC := Aside0.mk (HC.out.step hb); clear HC hb; have HC := nHC; clear nHC; have K6 := Aside0.mk True.intro)
    | (go_at_call 36; have hK := K4.out; (with_reducible refine (laws_ySame.calls k _ _ q _ _ q true _ (Kd.C_below CF2_0.out.2.2 HC.out.hd) CF2_0.out.2.1 CF3_0.out.2.2 CF3_0.out.2.1 AF5.out).mono ?_); rintro e w5_ ⟨rfl, hd⟩; clear hK K4; have hb := drawn_below hd; clear hd; have nHC := Aside0.mk (HC.out.step hb); clear HC hb; have HC := nHC; clear nHC; have K5 := Aside0.mk True.intro)
    | (go_at_call 35; have hK := K3.out; (with_reducible refine (spec_TurnFolding.calls k _ _ p by_ q true _ (Kd.C_below CF1_0.out.2.2 HC.out.hd) CF1_0.out.2.1 AF4.out).mono ?_); rintro e w4_ ⟨v3_v0_, rfl, ho0, hb⟩; clear hK K3; obtain ⟨Ar3_0, cr3_0, rfl⟩ := Kd.R_slice ho0; have CF3_0 := Aside0.mk (Kd.R_reads' ho0); have nHC := Aside0.mk (HC.out.step hb); clear HC hb ho0; have HC := nHC; clear nHC; have K4 := Aside0.mk True.intro)
    | (go_at_call 34; have hK := K2.out; (with_reducible refine (impl_TurnFolding.calls k _ _ p by_ q true _ CF1_0.out.2.2 CF1_0.out.2.1 AF3.out).mono ?_); rintro e w3_ ⟨v2_v0_, rfl, ho0, hb⟩; clear hK K2; obtain ⟨Ar2_0, cr2_0, rfl⟩ := Kd.R_slice ho0; have CF2_0 := Aside0.mk (Kd.R_reads' ho0); have nHC := Aside0.mk (HC.out.step hb); clear HC hb ho0; have HC := nHC; clear nHC; have K3 := Aside0.mk True.intro)
    | (go_at_call 33; have hK := K1.out; (with_reducible refine (spec_DrawTurnFolding.calls k _ _ l0 p by_ _ (Kd.C_below HP0.out.2.2 HC.out.hd) HP0.out.2.1 AF2.out).mono ?_); rintro e w2_ ⟨v1_v0_, rfl, ho0, hb⟩; clear hK K1; obtain ⟨Ar1_0, cr1_0, rfl⟩ := Kd.R_slice ho0; have CF1_0 := Aside0.mk (Kd.R_reads' ho0); have nHC := Aside0.mk (HC.out.step hb); clear HC hb ho0; have HC := nHC; clear nHC; have K2 := Aside0.mk True.intro)
    | (go_at_call 32; have hK := K0.out; (with_reducible refine (laws_big.calls _ _ l0 _ _ l1 false _ HP0.out.2.2 HP0.out.2.1 HP1.out.2.2 HP1.out.2.1 AF1.out).mono ?_); rintro e w1_ ⟨rfl, hd⟩; clear hK K0; have hb := drawn_below hd; clear hd; have nHC := Aside0.mk (HC.out.step hb); clear HC hb; have HC := nHC; clear nHC; have K1 := Aside0.mk True.intro))
  go_loopg [25, 178] p.length (fun kq v25 v178 w' => ∃ (i : Nat), v178 = .int .i64 i ∧ i ≤ p.length ∧ p.length - i ≤ kq ∧ Aside0 (Kd.R (Kd.int .i64) 3 w' w13_.heap.size (fun _ => True) v25 (lessOf p i)) ∧ Aside0 (Below w13_.heap.size w13_ w'))
  case atStart => exact ⟨0, by go_num, Nat.zero_le _, by omega, ⟨by rw [lessOf_zero]; exact Kd.R_nil _ _ _ _ _⟩, ⟨Below.refl _ _⟩⟩
  case round =>
    obtain ⟨i, rfl, hi, hg, HO, HBL⟩ := hrel
    have nHC := Aside0.mk (HC.out.step HBL.out)
    clear HC
    have HC := nHC
    clear nHC
    have K14 := Aside0.mk True.intro
    clear K13
    by_cases hlt : i < p.length
    · have hltz : (i : Int) < (p.length : Int) := by omega
      have p5 : (0 : Int) ≤ (i : Int) := by omega
      obtain ⟨ad, ead, hx⟩ := Kd.at_int (Kd.C_below CF1_0.out.2.2 HC.out.tl.tl.tl.tl.tl.tl.tl.tl.tl.tl.tl.hd) (i : Int) p5 hltz
      cases ead
      simp only [Int.toNat_natCast] at hx
      have hw1 : wrap64 ((i : Int) + 1) = ((i + 1 : Nat) : Int) := by have := AHLen.out; unfold wrap64; omega
      have hw2 : wrap64 ((p.length : Int) - 1) = (p.length : Int) - 1 := by have := AHLen.out; unfold wrap64; omega
      have hs1 : Value.int .i64 (wrap64 ((i : Int) + 1)) = Value.int .i64 ((i + 1 : Nat) : Int) := by rw [hw1]
      have hi1 : i + 1 ≤ p.length := hlt
      by_cases hc : rd p (i : Int) = (p.length : Int) - 1
      · have hcb : ((rd p (i : Int)) != (wrap64 ((p.length : Int) - 1))) = false := by rw [hw2, hc]; exact bne_self_eq_false _
        have HN := lessOf_last p i hlt hc
        have HO2 := Aside0.mk (show Kd.R (Kd.int .i64) 3 wr w13_.heap.size (fun _ => True) u25 (lessOf p (i + 1)) by rw [HN]; exact HO.out)
        clear HN hc hw1 hw2
        replace p5 := eq_true p5
        replace hltz := eq_true hltz
        go_wp2
        go_roundg (p.length - (i + 1))
        case measure => exact Nat.lt_of_lt_of_le (Nat.sub_lt_sub_left hlt (Nat.lt_succ_self i)) hg
        case rel => exact ⟨i + 1, hs1, hi1, Nat.le_refl _, HO2, HBL⟩
      · have hcb : ((rd p (i : Int)) != (wrap64 ((p.length : Int) - 1))) = true := by rw [hw2]; exact bne_iff_ne.mpr hc
        have HN := lessOf_more p i hlt hc
        have HNL := Aside0.mk (show (lessOf p i).length ≤ 1000 from Nat.le_trans (lessOf_len p i) (by have := AHLen.out; omega))
        clear hc hw1 hw2
        replace p5 := eq_true p5
        replace hltz := eq_true hltz
        go_wp2_with (first | ((with_reducible refine gate_builtin (b := .append) (xs := #[.tmp 187, .tmp 189]) rfl ?_); (try (refine gate_guard (by rfl) ?_; dsimp only)); at_builtin; refine Kd.R_append (Kd.int .i64) (w0 := w13_) w13_.heap.size rfl (.tmp 187) (.tmp 189) 30 3 (.int .i64 0) 8 rfl Try.underlying30 info3 rfl (by decide) (by omega) u25 (lessOf p i) (rd p (i : Int)) [.int .i64 (rd p (i : Int))] (fun _ => True) (fun _ => False) rfl rfl ?aP (fun _ hk => hk.elim) ?aF ?aO ?aB ?aS ?aL ?_; (case aP => exact rfl); (case aB => exact HBL.out); (case aF => exact (fun _ _ => trivial)); (case aO => exact HO.out); (case aS => exact below_size HBL.out); (case aL => have := HNL.out; omega); intro v_ w_ ho hb hg_ hat; rw [← HN] at ho; have HO2 := Aside0.mk ho; have HB2 := Aside0.mk hb; clear ho hb hg_ hat))
        go_roundg (p.length - (i + 1))
        case measure => exact Nat.lt_of_lt_of_le (Nat.sub_lt_sub_left hlt (Nat.lt_succ_self i)) hg
        case rel => exact ⟨i + 1, hs1, hi1, Nat.le_refl _, HO2, HB2⟩
    · have hltz : ¬ ((i : Int) < (p.length : Int)) := by omega
      obtain rfl : i = p.length := by omega
      rw [lessOf_all, ← AHLess.out] at HO
      obtain ⟨Al, cl, el⟩ := Kd.R_slice HO.out
      subst el
      have CFless := Aside0.mk (Kd.R_reads' HO.out)
      go_wp2_with (first
        | (go_at_call 24; have hK := K15.out; (with_reducible refine (impl_AddStamp.calls k _ _ less add true _ (Kd.C_below CFless.out.2.2 HC.out.hd) CFless.out.2.1 AF18.out).mono ?_); rintro e w16_ ⟨v15_v0_, rfl, ho0, hb⟩; clear hK K15; obtain ⟨Ar15_0, cr15_0, rfl⟩ := Kd.S_slice ho0; have CF15_0 := Aside0.mk (Kd.S_reads' ho0); have nHC := Aside0.mk (HC.out.step hb); clear HC hb ho0; have HC := nHC; clear nHC; have K16 := Aside0.mk True.intro)
        | (go_at_call 37; have hK := K14.out; (with_reducible refine (impl_IsFolding.calls k _ _ less true true _ CFless.out.2.2 CFless.out.2.1 AF17.out).mono ?_); rintro e w15_ ⟨rfl, hb⟩; clear hK K14; have nHC := Aside0.mk (HC.out.step hb); clear HC hb; have HC := nHC; clear nHC; have K15 := Aside0.mk True.intro))
      go_loopg [32, 204] add.length (fun kq v32 v204 w' => ∃ (i : Nat), v32 = .bool ((List.range i).any s) ∧ v204 = .int .i64 i ∧ i ≤ add.length ∧ add.length - i ≤ kq ∧ Aside0 (Below w16_.heap.size w16_ w'))
      case atStart => exact ⟨0, rfl, by go_num, Nat.zero_le _, by omega, ⟨Below.refl _ _⟩⟩
      case round =>
        clear HO HBL
        obtain ⟨i, rfl, rfl, hi, hg, HBL⟩ := hrel
        have nHC := Aside0.mk (HC.out.step HBL.out)
        clear HC
        have HC := nHC
        clear nHC
        have K17 := Aside0.mk True.intro
        clear K16
        by_cases hlt : i < add.length
        · have hltz : (i : Int) < (add.length : Int) := by omega
          have p5 : (0 : Int) ≤ (i : Int) := by omega
          obtain ⟨ad, Ae, ce, ead, hx, hle, hi_⟩ := at_L1 (Kd.C_below CF15_0.out.2.2 HC.out.hd) (i : Int) p5 hltz
          cases ead
          simp only [Int.toNat_natCast] at hx
          have CE := Aside0.mk hi_
          have CP := Aside0.mk (Kd.C_below CF1_0.out.2.2 HC.out.tl.tl.tl.tl.tl.tl.tl.tl.tl.tl.tl.tl.tl.tl.hd)
          have CL := Aside0.mk hle
          clear hi_ hle
          have hw1 : wrap64 ((i : Int) + 1) = ((i + 1 : Nat) : Int) := by have := AHAt.out.2.2; unfold wrap64; omega
          have hs1 : Value.int .i64 (wrap64 ((i : Int) + 1)) = Value.int .i64 ((i + 1 : Nat) : Int) := by rw [hw1]
          have hi1 : i + 1 ≤ add.length := hlt
          have hany : (List.range (i + 1)).any s = ((List.range i).any s || s i) := by rw [List.range_succ, List.any_append]; simp
          replace p5 := eq_true p5
          have hltz2 := eq_true hltz
          cases hf : (List.range i).any s with
          | true =>
            have HV1 := Aside0.mk (show Value.bool true = Value.bool ((List.range (i + 1)).any s) by rw [hany, hf]; rfl)
            clear hany hf hw1
            go_wp2
            go_roundg (add.length - (i + 1))
            case measure => exact Nat.lt_of_lt_of_le (Nat.sub_lt_sub_left hlt (Nat.lt_succ_self i)) hg
            case rel => exact ⟨i + 1, HV1.out, hs1, hi1, Nat.le_refl _, HBL⟩
          | false =>
            have HV1 := Aside0.mk (show Value.bool (s i) = Value.bool ((List.range (i + 1)).any s) by rw [hany, hf]; rfl)
            have HY := Aside0.mk (AHSame.out i hlt)
            clear hany hf hw1
            go_wp2_with (go_at_call 36; (with_reducible refine (laws_ySame.calls k _ _ (rd_L1 add (i : Int)) _ _ p (s i) _ CE.out CL.out CP.out CF1_0.out.2.1 HY.out).mono ?_); rintro e w_ ⟨rfl, hd⟩; have HB2 := Aside0.mk (below_step HBL.out (drawn_below hd)); clear hd)
            go_roundg (add.length - (i + 1))
            case measure => exact Nat.lt_of_lt_of_le (Nat.sub_lt_sub_left hlt (Nat.lt_succ_self i)) hg
            case rel => exact ⟨i + 1, HV1.out, hs1, hi1, Nat.le_refl _, HB2⟩
        · have hltz : ¬ ((i : Int) < (add.length : Int)) := by omega
          obtain rfl : i = add.length := by omega
          have hf : (List.range add.length).any s = true := List.any_eq_true.2 ⟨at_, List.mem_range.2 AHAt.out.1, AHAt.out.2.1⟩
          rw [hf]
          clear hf
          go_wp2_with (first
            | (go_at_call 43; have hK := K32.out; (with_reducible refine (laws_yRows.calls k _ _ za _ _ za true _ (Kd.C_below CF28_0.out.2.2 HC.out.tl.tl.hd) CF28_0.out.2.1 (Kd.C_below CF29_0.out.2.2 HC.out.tl.hd) CF29_0.out.2.1 AF36.out).mono ?_); rintro e w33_ ⟨rfl, hd⟩; clear hK K32; have hb := drawn_below hd; clear hd; have nHC := Aside0.mk (HC.out.step hb); clear HC hb; have HC := nHC; clear nHC; have K33 := Aside0.mk True.intro)
            | (go_at_call 36; have hK := K31.out; (with_reducible refine (laws_ySame.calls k _ _ yn _ _ yn true _ (Kd.C_below CF25_0.out.2.2 HC.out.tl.tl.tl.tl.hd) CF25_0.out.2.1 (Kd.C_below CF26_0.out.2.2 HC.out.tl.tl.tl.hd) CF26_0.out.2.1 AF35.out).mono ?_); rintro e w32_ ⟨rfl, hd⟩; clear hK K31; have hb := drawn_below hd; clear hd; have nHC := Aside0.mk (HC.out.step hb); clear HC hb; have HC := nHC; clear nHC; have K32 := Aside0.mk True.intro)
            | (go_at_call 36; have hK := K30.out; (with_reducible refine (laws_ySame.calls k _ _ yr _ _ yr true _ (Kd.C_below CF23_0.out.2.2 HC.out.tl.tl.tl.tl.tl.hd) CF23_0.out.2.1 (Kd.C_below CF24_0.out.2.2 HC.out.tl.tl.tl.tl.hd) CF24_0.out.2.1 AF34.out).mono ?_); rintro e w31_ ⟨rfl, hd⟩; clear hK K30; have hb := drawn_below hd; clear hd; have nHC := Aside0.mk (HC.out.step hb); clear HC hb; have HC := nHC; clear nHC; have K31 := Aside0.mk True.intro)
            | (go_at_call 22; have hK := K29.out; (with_reducible refine (spec_AddStamp.calls k _ _ z za zb _ (Kd.C_below CF27_0.out.2.2 HC.out.hd) CF27_0.out.2.1 AF33.out).mono ?_); rintro e w30_ ⟨v29_v0_, rfl, ho0, hb⟩; clear hK K29; obtain ⟨Ar29_0, cr29_0, rfl⟩ := Kd.N_slice ho0; have CF29_0 := Aside0.mk (Kd.N_reads' ho0); have nHC := Aside0.mk (HC.out.step hb); clear HC hb ho0; have HC := nHC; clear nHC; have K30 := Aside0.mk True.intro)
            | (go_at_call 24; have hK := K28.out; (with_reducible refine (impl_AddStamp.calls k _ _ z za zb _ CF27_0.out.2.2 CF27_0.out.2.1 AF32.out).mono ?_); rintro e w29_ ⟨v28_v0_, rfl, ho0, hb⟩; clear hK K28; obtain ⟨Ar28_0, cr28_0, rfl⟩ := Kd.S_slice ho0; have CF28_0 := Aside0.mk (Kd.S_reads' ho0); have nHC := Aside0.mk (HC.out.step hb); clear HC hb ho0; have HC := nHC; clear nHC; have K29 := Aside0.mk True.intro)
            | (go_at_call 47; have hK := K27.out; (with_reducible refine (spec_DrawAddStamp.calls k _ _ l1 z _ (Kd.C_below HP1.out.2.2 HC.out.tl.tl.tl.tl.tl.tl.tl.tl.tl.tl.tl.tl.tl.tl.tl.tl.tl.tl.tl.tl.tl.tl.tl.tl.tl.tl.hd) HP1.out.2.1 AF31.out).mono ?_); rintro e w28_ ⟨v27_v0_, rfl, ho0, hb⟩; clear hK K27; obtain ⟨Ar27_0, cr27_0, rfl⟩ := Kd.R_slice ho0; have CF27_0 := Aside0.mk (Kd.R_reads' ho0); have nHC := Aside0.mk (HC.out.step hb); clear HC hb ho0; have HC := nHC; clear nHC; have K28 := Aside0.mk True.intro)
            | (go_at_call 46; have hK := K26.out; (with_reducible refine (spec_RenumberFolding.calls k _ _ y yn yc _ (Kd.C_below CF22_0.out.2.2 HC.out.tl.tl.hd) CF22_0.out.2.1 AF30.out).mono ?_); rintro e w27_ ⟨v26_v0_, rfl, ho0, hb⟩; clear hK K26; obtain ⟨Ar26_0, cr26_0, rfl⟩ := Kd.R_slice ho0; have CF26_0 := Aside0.mk (Kd.R_reads' ho0); have nHC := Aside0.mk (HC.out.step hb); clear HC hb ho0; have HC := nHC; clear nHC; have K27 := Aside0.mk True.intro)
            | (go_at_call 39; have hK := K25.out; (with_reducible refine (impl_RenumberFolding.calls k _ _ y yn yc _ (Kd.C_below CF22_0.out.2.2 HC.out.tl.hd) CF22_0.out.2.1 AF29.out).mono ?_); rintro e w26_ ⟨v25_v0_, rfl, ho0, hb⟩; clear hK K25; obtain ⟨Ar25_0, cr25_0, rfl⟩ := Kd.R_slice ho0; have CF25_0 := Aside0.mk (Kd.R_reads' ho0); have nHC := Aside0.mk (HC.out.step hb); clear HC hb ho0; have HC := nHC; clear nHC; have K26 := Aside0.mk True.intro)
            | (go_at_call 45; have hK := K24.out; (with_reducible refine (spec_ReverseFolding.calls k _ _ y yr yb _ (Kd.C_below CF22_0.out.2.2 HC.out.hd) CF22_0.out.2.1 AF28.out).mono ?_); rintro e w25_ ⟨v24_v0_, rfl, ho0, hb⟩; clear hK K24; obtain ⟨Ar24_0, cr24_0, rfl⟩ := Kd.R_slice ho0; have CF24_0 := Aside0.mk (Kd.R_reads' ho0); have nHC := Aside0.mk (HC.out.step hb); clear HC hb ho0; have HC := nHC; clear nHC; have K25 := Aside0.mk True.intro)
            | (go_at_call 38; have hK := K23.out; (with_reducible refine (impl_ReverseFolding.calls k _ _ y yr yb _ CF22_0.out.2.2 CF22_0.out.2.1 AF27.out).mono ?_); rintro e w24_ ⟨v23_v0_, rfl, ho0, hb⟩; clear hK K23; obtain ⟨Ar23_0, cr23_0, rfl⟩ := Kd.R_slice ho0; have CF23_0 := Aside0.mk (Kd.R_reads' ho0); have nHC := Aside0.mk (HC.out.step hb); clear HC hb ho0; have HC := nHC; clear nHC; have K24 := Aside0.mk True.intro)
            | (go_at_call 44; have hK := K22.out; (with_reducible refine (spec_DrawReverseFolding.calls k _ _ l1 y _ (Kd.C_below HP1.out.2.2 HC.out.tl.tl.tl.tl.tl.tl.tl.tl.tl.tl.tl.tl.tl.tl.tl.tl.tl.tl.tl.tl.tl.hd) HP1.out.2.1 AF26.out).mono ?_); rintro e w23_ ⟨v22_v0_, rfl, ho0, hb⟩; clear hK K22; obtain ⟨Ar22_0, cr22_0, rfl⟩ := Kd.R_slice ho0; have CF22_0 := Aside0.mk (Kd.R_reads' ho0); have nHC := Aside0.mk (HC.out.step hb); clear HC hb ho0; have HC := nHC; clear nHC; have K23 := Aside0.mk True.intro)
            | (go_at_call 43; have hK := K21.out; (with_reducible refine (laws_yRows.calls k _ _ cr _ _ cr true _ (Kd.C_below CF18_0.out.2.2 HC.out.tl.hd) CF18_0.out.2.1 (Kd.C_below CF19_0.out.2.2 HC.out.hd) CF19_0.out.2.1 AF25.out).mono ?_); rintro e w22_ ⟨rfl, hd⟩; clear hK K21; have hb := drawn_below hd; clear hd; have nHC := Aside0.mk (HC.out.step hb); clear HC hb; have HC := nHC; clear nHC; have K22 := Aside0.mk True.intro)
            | (go_at_call 37; have hK := K20.out; (with_reducible refine (impl_IsFolding.calls k _ _ x false false _ (Kd.C_below CF17_0.out.2.2 HC.out.tl.hd) CF17_0.out.2.1 AF24.out).mono ?_); rintro e w21_ ⟨rfl, hb⟩; clear hK K20; have nHC := Aside0.mk (HC.out.step hb); clear HC hb; have HC := nHC; clear nHC; have K21 := Aside0.mk True.intro)
            | (go_at_call 42; have hK := K19.out; (with_reducible refine (spec_CrossedArcs.calls k _ _ x cr false _ (Kd.C_below CF17_0.out.2.2 HC.out.hd) CF17_0.out.2.1 AF23.out).mono ?_); rintro e w20_ ⟨v19_v0_, rfl, ho0, hb⟩; clear hK K19; obtain ⟨Ar19_0, cr19_0, rfl⟩ := Kd.S_slice ho0; have CF19_0 := Aside0.mk (Kd.S_reads' ho0); have nHC := Aside0.mk (HC.out.step hb); clear HC hb ho0; have HC := nHC; clear nHC; have K20 := Aside0.mk True.intro)
            | (go_at_call 41; have hK := K18.out; (with_reducible refine (impl_CrossedArcs.calls k _ _ x cr false _ CF17_0.out.2.2 CF17_0.out.2.1 AF22.out).mono ?_); rintro e w19_ ⟨v18_v0_, rfl, ho0, hb⟩; clear hK K18; obtain ⟨Ar18_0, cr18_0, rfl⟩ := Kd.S_slice ho0; have CF18_0 := Aside0.mk (Kd.S_reads' ho0); have nHC := Aside0.mk (HC.out.step hb); clear HC hb ho0; have HC := nHC; clear nHC; have K19 := Aside0.mk True.intro)
            | (go_at_call 40; have hK := K17.out; (with_reducible refine (spec_DrawCrossedArcs.calls k _ _ l1 x _ (Kd.C_below HP1.out.2.2 HC.out.tl.tl.tl.tl.tl.tl.tl.tl.tl.tl.tl.tl.tl.tl.tl.tl.hd) HP1.out.2.1 AF21.out).mono ?_); rintro e w18_ ⟨v17_v0_, rfl, ho0, hb⟩; clear hK K17; obtain ⟨Ar17_0, cr17_0, rfl⟩ := Kd.R_slice ho0; have CF17_0 := Aside0.mk (Kd.R_reads' ho0); have nHC := Aside0.mk (HC.out.step hb); clear HC hb ho0; have HC := nHC; clear nHC; have K18 := Aside0.mk True.intro))
          go_ret
          exact ⟨rfl, HC.out.tl.tl.tl.tl.tl.tl.tl.tl.tl.tl.tl.tl.tl.tl.tl.tl.tl.tl.tl.tl.tl.tl.tl.tl.tl.tl.tl.tl.tl.tl.tl.tl.hd⟩

/-- what the law asks for, as plain lists tell it -/
inductive laws_FnFoldingsTurn.Told (k : Nat) (l0 : List Int) (l1 : List Int) : Prop
  | t_big (h : t_big.Told k l0 l1)
  | t_no_true (h : t_no_true.Told k l0 l1)
  | t_is_true (h : t_is_true.Told k l0 l1)
  | t_one_true (h : t_one_true.Told k l0 l1)
  | t_all_true (h : t_all_true.Told k l0 l1)
  | t_no_false (h : t_no_false.Told k l0 l1)
  | t_is_false (h : t_is_false.Told k l0 l1)
  | t_one_false (h : t_one_false.Told k l0 l1)
  | t_all_false (h : t_all_false.Told k l0 l1)
theorem laws_FnFoldingsTurn.calls (k : Nat) (l0 : List Int) (l1 : List Int) (A0 : Option Addr) (c0 : Nat) (A1 : Option Addr) (c1 : Nat) (w : World) (hr0 : Kd.C (Kd.int .u8) w A0 l0.length l0) (hc0 : l0.length ≤ c0) (hr1 : Kd.C (Kd.int .u8) w A1 l1.length l1) (hc1 : l1.length ≤ c1) (h : laws_FnFoldingsTurn.Told k l0 l1) :
    Calls Try.prog 10 #[.slice A0 l0.length c0, .slice A1 l1.length c1] w fun e w' => e = .returned (.bool true) ∧ Below w.heap.size w w' := by
  cases h with
  | t_big h => exact t_big k l0 l1 A0 c0 A1 c1 w hr0 hc0 hr1 hc1 h
  | t_no_true h =>
    obtain ⟨p, by_, q, x, cr, y, yr, yb, yn, yc, z, za, zb, h⟩ := h
    exact t_no_true k l0 l1 A0 c0 A1 c1 p by_ q x cr y yr yb yn yc z za zb w hr0 hc0 hr1 hc1 h
  | t_is_true h =>
    obtain ⟨p, by_, q, rev, num, x, cr, y, yr, yb, yn, yc, z, za, zb, h⟩ := h
    exact t_is_true k l0 l1 A0 c0 A1 c1 p by_ q rev num x cr y yr yb yn yc z za zb w hr0 hc0 hr1 hc1 h
  | t_one_true h =>
    obtain ⟨p, by_, q, rev, num, x, cr, y, yr, yb, yn, yc, z, za, zb, h⟩ := h
    exact t_one_true k l0 l1 A0 c0 A1 c1 p by_ q rev num x cr y yr yb yn yc z za zb w hr0 hc0 hr1 hc1 h
  | t_all_true h =>
    obtain ⟨p, by_, q, rev, num, less, add, at_, s, x, cr, y, yr, yb, yn, yc, z, za, zb, h⟩ := h
    exact t_all_true k l0 l1 A0 c0 A1 c1 p by_ q rev num less add at_ s x cr y yr yb yn yc z za zb w hr0 hc0 hr1 hc1 h
  | t_no_false h =>
    obtain ⟨p, by_, q, x, cr, y, yr, yb, yn, yc, z, za, zb, h⟩ := h
    exact t_no_false k l0 l1 A0 c0 A1 c1 p by_ q x cr y yr yb yn yc z za zb w hr0 hc0 hr1 hc1 h
  | t_is_false h =>
    obtain ⟨p, by_, q, rev, num, x, cr, y, yr, yb, yn, yc, z, za, zb, h⟩ := h
    exact t_is_false k l0 l1 A0 c0 A1 c1 p by_ q rev num x cr y yr yb yn yc z za zb w hr0 hc0 hr1 hc1 h
  | t_one_false h =>
    obtain ⟨p, by_, q, rev, num, x, cr, y, yr, yb, yn, yc, z, za, zb, h⟩ := h
    exact t_one_false k l0 l1 A0 c0 A1 c1 p by_ q rev num x cr y yr yb yn yc z za zb w hr0 hc0 hr1 hc1 h
  | t_all_false h =>
    obtain ⟨p, by_, q, rev, num, less, add, at_, s, x, cr, y, yr, yb, yn, yc, z, za, zb, h⟩ := h
    exact t_all_false k l0 l1 A0 c0 A1 c1 p by_ q rev num less add at_ s x cr y yr yb yn yc z za zb w hr0 hc0 hr1 hc1 h
/-- the one pure statement of the law -/
def laws_FnFoldingsTurn.Pure : Prop := ∀ (l0 : List Int) (l1 : List Int), l0.length ≤ maxLen → l0.length * 1 ≤ 140737488351232 → (∀ x ∈ l0, (Lit.int .u8 x).wf = true) → l1.length ≤ maxLen → l1.length * 1 ≤ 140737488351232 → (∀ x ∈ l1, (Lit.int .u8 x).wf = true) → ∃ k, laws_FnFoldingsTurn.Told k l0 l1
theorem laws_FnFoldingsTurn.walk (P : laws_FnFoldingsTurn.Pure) (a0 : Option Addr) (len0 cap0 : Nat) (z0 : List Int) (a1 : Option Addr) (len1 cap1 : Nat) (z1 : List Int) (w : World) (w0 : (a0 = none ∧ len0 = 0 ∧ cap0 = 0 ∧ z0 = []) ∨ ∃ x, a0 = some x ∧ len0 ≤ cap0 ∧ cap0 ≤ maxLen ∧ z0.length = cap0 ∧ (∀ i, i < z0.length → w.cell? (x.add i) = some (.int .u8 (z0.getD i 0))) ∧ ∀ n ∈ z0, (Lit.int .u8 n).wf = true) (y0 : len0 * 1 ≤ 140737488351232) (w1 : (a1 = none ∧ len1 = 0 ∧ cap1 = 0 ∧ z1 = []) ∨ ∃ x, a1 = some x ∧ len1 ≤ cap1 ∧ cap1 ≤ maxLen ∧ z1.length = cap1 ∧ (∀ i, i < z1.length → w.cell? (x.add i) = some (.int .u8 (z1.getD i 0))) ∧ ∀ n ∈ z1, (Lit.int .u8 n).wf = true) (y1 : len1 * 1 ≤ 140737488351232) :
    Calls Try.prog 10 #[.slice a0 len0 cap0, .slice a1 len1 cap1] w fun e w' => e = .returned (.bool true) ∧ Below w.heap.size w w' := by
  obtain ⟨l0, rfl, hr0, hm0, hw0, hc0⟩ := ReadsInt.ofRowC w0
  obtain ⟨l1, rfl, hr1, hm1, hw1, hc1⟩ := ReadsInt.ofRowC w1
  obtain ⟨k, h⟩ := P l0 l1 hm0 y0 hw0 hm1 y1 hw1
  exact laws_FnFoldingsTurn.calls k l0 l1 _ _ _ _ w (Kd.C_of_reads (d := (0 : Int)) (h1 := fun _ => rfl) hr0) hc0 (Kd.C_of_reads (d := (0 : Int)) (h1 := fun _ => rfl) hr1) hc1 h
end Go.Proofs.Ytjgkcknopnollaa.G
