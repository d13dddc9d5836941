/- The law FnWordsOfMeanders, walked by hand over our printed contracts, one theorem a way through it (printed by wip/great, a program of ours). What each way asks for is told by plain lists; no condition but the law's own guards. -/
import Derived.Test.YtldbkkfkgfacdaaChain
import Derived.Test.YtldbkkfkgfacdaaQD0
set_option linter.unusedVariables false
set_option linter.unusedSimpArgs false
namespace Go.Proofs.Ytldbkkfkgfacdaa.P
open Go.RowKit Go.Proofs.Ytldbkkfkgfacdaa.Chain Go.Proofs.YtldbkkfkgfacdaaW.PrintWords Go.Proofs.YtldbkkfkgfacdaaW.PrintLast Go.Proofs.YtldbkkfkgfacdaaW.PrintMore

/-- where the walk round a cycle stands -/
def atf (w : List Int) (i : Nat) : Int := if i < w.length then rd w (i : Int) else 0
def m_big.Told (k : Nat) (l0 : List Int) (l1 : List Int) : Prop := (laws_big.f l0 l1 = some true)
set_option maxHeartbeats 16000000 in
set_option maxRecDepth 100000 in
theorem m_big (k : Nat) (l0 : List Int) (l1 : List Int) (A0 : Option Addr) (c0 : Nat) (A1 : Option Addr) (c1 : Nat) (w : World) (hr0 : Kd.C (Kd.int .u8) w A0 l0.length l0) (hc0 : l0.length ≤ c0) (hr1 : Kd.C (Kd.int .u8) w A1 l1.length l1) (hc1 : l1.length ≤ c1)
    (HF : (laws_big.f l0 l1 = some true)) :
    Calls Try.prog 5 #[.slice A0 l0.length c0, .slice A1 l1.length c1] w fun e w' => e = .returned (.bool true) ∧ Below w.heap.size w w' := by
  have F1 := HF
  have HP0 := Aside0.mk (show l0.length = l0.length ∧ l0.length ≤ c0 ∧ _ from ⟨rfl, hc0, hr0⟩)
  clear hr0 hc0
  have HP1 := Aside0.mk (show l1.length = l1.length ∧ l1.length ≤ c1 ∧ _ from ⟨rfl, hc1, hr1⟩)
  clear hr1 hc1
  have AF1 := Aside0.mk F1
  clear F1
  have HC := Aside0.mk (show Ch [] w from trivial)
  have K0 := Aside0.mk True.intro
  go_enter Try.func5, Try.ntmps5
  go_wp2_with (first
    | (go_at_call 6; clear K0; (with_reducible refine (laws_big.calls _ _ l0 _ _ l1 true _ HP0.out.2.2 HP0.out.2.1 HP1.out.2.2 HP1.out.2.1 AF1.out).mono ?_); rintro e w1_ ⟨rfl, hd⟩; have hb := drawn_below hd; clear hd; replace HC := stp HC hb; clear hb; have K1 := tt_))
  go_ret
  exact ⟨rfl, HC.out.hd⟩
def m_false_false.Told (k : Nat) (l0 : List Int) (l1 : List Int) : Prop := ∃ (mt : List Int) (mb : List Int) (w_ : List Int) (cy : List Int) (li : List Int) (tt : List Int) (tb : List Int) (four : Bool) (s_ : List Int) (ps : List Int) (pb : Bool), (laws_big.f l0 l1 = some false) ∧ (spec_DrawPermutationOf.f k l0 = some (mt, mb)) ∧ (impl_PermutationOf.f k mt mb = some (w_, false)) ∧ (spec_PermutationOf.f k mt mb = some (w_, false)) ∧ (impl_CycleOf.f k mt mb = some (cy, false)) ∧ (spec_CycleOf.f k mt mb = some (cy, false)) ∧ (laws_sSame.f k w_ w_ = some true) ∧ (laws_sSame.f k cy cy = some true) ∧ (spec_DrawFromPermutation.f k l1 = some li) ∧ (impl_FromPermutation.f k li = some (tt, tb, false)) ∧ (spec_FromPermutation.f k li = some (tt, tb, false)) ∧ (impl_IsPermutation.f k li = some (false, four)) ∧ (spec_IsPermutation.f k li = some (false, four)) ∧ (laws_sSamePair.f k tt tb tt tb = some true) ∧ (spec_DrawPositionsOf.f k l1 = some s_) ∧ (impl_PositionsOf.f k s_ = some (ps, pb)) ∧ (spec_PositionsOf.f k s_ = some (ps, pb)) ∧ (laws_sSame.f k ps ps = some true)
set_option maxHeartbeats 16000000 in
set_option maxRecDepth 100000 in
theorem m_false_false (k : Nat) (l0 : List Int) (l1 : List Int) (A0 : Option Addr) (c0 : Nat) (A1 : Option Addr) (c1 : Nat) (mt : List Int) (mb : List Int) (w_ : List Int) (cy : List Int) (li : List Int) (tt : List Int) (tb : List Int) (four : Bool) (s_ : List Int) (ps : List Int) (pb : Bool) (w : World) (hr0 : Kd.C (Kd.int .u8) w A0 l0.length l0) (hc0 : l0.length ≤ c0) (hr1 : Kd.C (Kd.int .u8) w A1 l1.length l1) (hc1 : l1.length ≤ c1)
    (HF : (laws_big.f l0 l1 = some false) ∧ (spec_DrawPermutationOf.f k l0 = some (mt, mb)) ∧ (impl_PermutationOf.f k mt mb = some (w_, false)) ∧ (spec_PermutationOf.f k mt mb = some (w_, false)) ∧ (impl_CycleOf.f k mt mb = some (cy, false)) ∧ (spec_CycleOf.f k mt mb = some (cy, false)) ∧ (laws_sSame.f k w_ w_ = some true) ∧ (laws_sSame.f k cy cy = some true) ∧ (spec_DrawFromPermutation.f k l1 = some li) ∧ (impl_FromPermutation.f k li = some (tt, tb, false)) ∧ (spec_FromPermutation.f k li = some (tt, tb, false)) ∧ (impl_IsPermutation.f k li = some (false, four)) ∧ (spec_IsPermutation.f k li = some (false, four)) ∧ (laws_sSamePair.f k tt tb tt tb = some true) ∧ (spec_DrawPositionsOf.f k l1 = some s_) ∧ (impl_PositionsOf.f k s_ = some (ps, pb)) ∧ (spec_PositionsOf.f k s_ = some (ps, pb)) ∧ (laws_sSame.f k ps ps = some true)) :
    Calls Try.prog 5 #[.slice A0 l0.length c0, .slice A1 l1.length c1] w fun e w' => e = .returned (.bool true) ∧ Below w.heap.size w w' := by
  obtain ⟨F1, F2, F3, F4, F5, F6, F7, F8, F9, F10, F11, F12, F13, F14, F15, F16, F17, F18⟩ := HF
  have HP0 := Aside0.mk (show l0.length = l0.length ∧ l0.length ≤ c0 ∧ _ from ⟨rfl, hc0, hr0⟩)
  clear hr0 hc0
  have HP1 := Aside0.mk (show l1.length = l1.length ∧ l1.length ≤ c1 ∧ _ from ⟨rfl, hc1, hr1⟩)
  clear hr1 hc1
  have AF1 := Aside0.mk F1
  clear F1
  have AF2 := Aside0.mk F2
  clear F2
  have AF3 := Aside0.mk F3
  clear F3
  have AF4 := Aside0.mk F4
  clear F4
  have AF5 := Aside0.mk F5
  clear F5
  have AF6 := Aside0.mk F6
  clear F6
  have AF7 := Aside0.mk F7
  clear F7
  have AF8 := Aside0.mk F8
  clear F8
  have AF9 := Aside0.mk F9
  clear F9
  have AF10 := Aside0.mk F10
  clear F10
  have AF11 := Aside0.mk F11
  clear F11
  have AF12 := Aside0.mk F12
  clear F12
  have AF13 := Aside0.mk F13
  clear F13
  have AF14 := Aside0.mk F14
  clear F14
  have AF15 := Aside0.mk F15
  clear F15
  have AF16 := Aside0.mk F16
  clear F16
  have AF17 := Aside0.mk F17
  clear F17
  have AF18 := Aside0.mk F18
  clear F18
  have bf : (four != four) = false := bne_self_eq_false four
  have bp : (pb != pb) = false := bne_self_eq_false pb
  have HC := Aside0.mk (show Ch [] w from trivial)
  have K0 := Aside0.mk True.intro
  go_enter Try.func5, Try.ntmps5
  go_wp2_with (first
    | (go_at_call 11; clear K23; (with_reducible refine (laws_sSame.calls k _ _ ps _ _ ps true _ (Kd.C_below CF18_0.out.2.2 HC.out.hd) CF18_0.out.2.1 CF19_0.out.2.2 CF19_0.out.2.1 AF18.out).mono ?_); rintro e w21_ ⟨rfl, hd⟩; clear ag5 bg5 cg5 dg5 ag15 bg15 cg15 dg15 ag17 bg17 cg17 dg17; have hb := drawn_below hd; clear hd; replace HC := stp HC hb; clear hb; have K24 := tt_; obtain ⟨ag5, bg5, cg5, dg5⟩ := bx BKg5 HC.out.t16.tl.hd; obtain ⟨ag15, bg15, cg15, dg15⟩ := bx BKg15 HC.out.t4.t4.hd; obtain ⟨ag17, bg17, cg17, dg17⟩ := bx BKg17 HC.out.t4.tl.tl.hd)
    | (go_at_call 46; clear K22; (with_reducible refine (spec_PositionsOf.calls k _ _ s_ ps pb _ (Kd.C_below CF17_0.out.2.2 HC.out.hd) CF17_0.out.2.1 AF17.out).mono ?_); rintro e w20_ ⟨v19_v0_, rfl, ho0, hb⟩; clear ag5 bg5 cg5 dg5 ag15 bg15 cg15 dg15 ag17 bg17 cg17 dg17; obtain ⟨Ar19_0, cr19_0, rfl⟩ := Kd.R_slice ho0; have CF19_0 := Aside0.mk (Kd.R_reads' ho0); replace HC := stp HC hb; clear hb ho0; have K23 := tt_; obtain ⟨ag5, bg5, cg5, dg5⟩ := bx BKg5 HC.out.t16.hd; obtain ⟨ag15, bg15, cg15, dg15⟩ := bx BKg15 HC.out.t4.tl.tl.tl.hd; obtain ⟨ag17, bg17, cg17, dg17⟩ := bx BKg17 HC.out.t4.tl.hd)
    | (go_at_call 44; clear K21; (with_reducible refine (impl_PositionsOf.calls k _ _ s_ ps pb _ CF17_0.out.2.2 CF17_0.out.2.1 AF16.out).mono ?_); rintro e w19_ ⟨v18_v0_, rfl, ho0, hb⟩; clear ag5 bg5 cg5 dg5 ag15 bg15 cg15 dg15 ag17 bg17 cg17 dg17; obtain ⟨Ar18_0, cr18_0, rfl⟩ := Kd.R_slice ho0; have CF18_0 := Aside0.mk (Kd.R_reads' ho0); replace HC := stp HC hb; clear hb ho0; have K22 := tt_; obtain ⟨ag5, bg5, cg5, dg5⟩ := bx BKg5 HC.out.t4.t4.t4.tl.tl.tl.hd; obtain ⟨ag15, bg15, cg15, dg15⟩ := bx BKg15 HC.out.t4.tl.tl.hd; obtain ⟨ag17, bg17, cg17, dg17⟩ := bx BKg17 HC.out.t4.hd)
    | (go_at_call 45; clear K20; (with_reducible refine (spec_DrawPositionsOf.calls k _ _ l1 s_ _ (Kd.C_below HP1.out.2.2 HC.out.t16.hd) HP1.out.2.1 AF15.out).mono ?_); rintro e w18_ ⟨v17_v0_, rfl, ho0, hb⟩; clear ag5 bg5 cg5 dg5 ag15 bg15 cg15 dg15 ag17 bg17 cg17 dg17; obtain ⟨Ar17_0, cr17_0, rfl⟩ := Kd.R_slice ho0; have CF17_0 := Aside0.mk (Kd.R_reads' ho0); replace HC := stp HC hb; clear hb ho0; have K21 := tt_; obtain ⟨ag5, bg5, cg5, dg5⟩ := bx BKg5 HC.out.t4.t4.t4.tl.tl.hd; obtain ⟨ag15, bg15, cg15, dg15⟩ := bx BKg15 HC.out.t4.tl.hd; obtain ⟨ag17, bg17, cg17, dg17⟩ := bx BKg17 HC.out.tl.tl.tl.hd)
    | (go_at_call 29; clear K19; (with_reducible refine (laws_sSamePair.calls k _ _ tt _ _ tb _ _ tt _ _ tb true _ (Kd.C_below CF10_0.out.2.2 HC.out.t4.hd) CF10_0.out.2.1 (Kd.C_below CF10_1.out.2.2 HC.out.t4.hd) CF10_1.out.2.1 (Kd.C_below CF12_0.out.2.2 HC.out.tl.tl.hd) CF12_0.out.2.1 (Kd.C_below CF12_1.out.2.2 HC.out.tl.tl.hd) CF12_1.out.2.1 AF14.out).mono ?_); rintro e w17_ ⟨rfl, hb⟩; clear ag5 bg5 cg5 dg5 ag15 bg15 cg15 dg15 ag17 bg17 cg17 dg17; replace HC := stp HC hb; clear hb; have K20 := tt_; obtain ⟨ag5, bg5, cg5, dg5⟩ := bx BKg5 HC.out.t4.t4.t4.tl.hd; obtain ⟨ag15, bg15, cg15, dg15⟩ := bx BKg15 HC.out.t4.hd; obtain ⟨ag17, bg17, cg17, dg17⟩ := bx BKg17 HC.out.tl.tl.hd)
    | (go_at_call 43; clear K18; (with_reducible refine (spec_IsPermutation.calls k _ _ li false four _ (Kd.C_below CF9_0.out.2.2 HC.out.t4.hd) CF9_0.out.2.1 AF13.out).mono ?_); rintro e w16_ ⟨rfl, hb⟩; clear ag5 bg5 cg5 dg5 ag15 bg15 cg15 dg15 ag17 bg17 cg17 dg17; replace HC := stp HC hb; clear hb; have K19 := tt_; obtain ⟨ag5, bg5, cg5, dg5⟩ := bx BKg5 HC.out.t4.t4.t4.hd; obtain ⟨ag15, bg15, cg15, dg15⟩ := bx BKg15 HC.out.tl.tl.tl.hd; obtain ⟨ag17, bg17, cg17, dg17⟩ := bx BKg17 HC.out.tl.hd)
    | (go_at_call 42; clear K17; (with_reducible refine (impl_IsPermutation.calls k _ _ li false four _ (Kd.C_below CF9_0.out.2.2 HC.out.tl.tl.tl.hd) CF9_0.out.2.1 AF12.out).mono ?_); rintro e w15_ ⟨rfl, hb⟩; clear ag5 bg5 cg5 dg5 ag15 bg15 cg15 dg15 ag17 bg17 cg17 dg17; replace HC := stp HC hb; clear hb; have K18 := tt_; obtain ⟨ag5, bg5, cg5, dg5⟩ := bx BKg5 HC.out.t4.t4.tl.tl.tl.hd; obtain ⟨ag15, bg15, cg15, dg15⟩ := bx BKg15 HC.out.tl.tl.hd; obtain ⟨ag17, bg17, cg17, dg17⟩ := bx BKg17 HC.out.hd)
    | ((with_reducible refine gate_store (t := 39) (p := 17) (v := .tmp 100) rfl ?_); clear K16; refine store_event ?sg (t := 39) (p := 17) (v := .tmp 100) ?so ?sN (w1 := ((wz13_.setCell ⟨g17, 0, none⟩ (.slice Ar12_0 tt.length cr12_0)).setCell ⟨g17, 1, none⟩ (.slice Ar12_1 tb.length cr12_1))) ?sr ?_; (case sg => rfl); (case so => rfl); (case sN => rfl); (case sr => first | (go_simp; done) | (go_simp; rfl)); intro w14_ hw_; obtain ⟨hb, BKg17⟩ := boxst PX PB PG hw_; clear hw_ hz_0 hzf_0 hz_1 hzf_1; replace HC := stp HC hb; clear hb PX PB PG; have K17 := tt_; obtain ⟨ag5, bg5, cg5, dg5⟩ := bx BKg5 HC.out.t4.t4.tl.tl.hd; obtain ⟨ag15, bg15, cg15, dg15⟩ := bx BKg15 HC.out.tl.hd; obtain ⟨ag17, bg17, cg17, dg17⟩ := box2 BKg17.out)
    | ((with_reducible refine gate_dst (N := 17) rfl ?_); clear K15; refine box_event ?hg (N := 17) ?hd (cs := #[.slice none 0 0, .slice none 0 0]) (t := 39) ?hr ?_; (case hd => rfl); (case hg => rfl); (case hr => first | (go_simp; done) | (go_simp; rfl)); intro g17 hg wz13_ hbox hb; clear ag5 bg5 cg5 dg5 ag15 bg15 cg15 dg15; obtain ⟨hz_0, hz_1, hzf_0, hzf_1⟩ := box2 hbox; have PX := Aside0.mk hbox; have PB := Aside0.mk hb; have PG := Aside0.mk (show w13_.heap.size ≤ g17 by rw [hg]; exact Nat.le_refl _); clear hbox hb hg; have K16 := tt_)
    | (go_at_call 41; clear K14; (with_reducible refine (spec_FromPermutation.calls k _ _ li tt tb false _ (Kd.C_below CF9_0.out.2.2 HC.out.tl.hd) CF9_0.out.2.1 AF11.out).mono ?_); rintro e w13_ ⟨v12_v0_, v12_v1_, rfl, ho0, ho1, hb⟩; clear ag5 bg5 cg5 dg5 ag15 bg15 cg15 dg15; obtain ⟨Ar12_0, cr12_0, rfl⟩ := Kd.R_slice ho0; have CF12_0 := Aside0.mk (Kd.R_reads' ho0); obtain ⟨Ar12_1, cr12_1, rfl⟩ := Kd.R_slice ho1; have CF12_1 := Aside0.mk (Kd.R_reads' ho1); replace HC := stp HC hb; clear hb ho0 ho1; have K15 := tt_; obtain ⟨ag5, bg5, cg5, dg5⟩ := bx BKg5 HC.out.t4.t4.tl.hd; obtain ⟨ag15, bg15, cg15, dg15⟩ := bx BKg15 HC.out.hd)
    | ((with_reducible refine gate_store (t := 39) (p := 15) (v := .tmp 95) rfl ?_); clear K13; refine store_event ?sg (t := 39) (p := 15) (v := .tmp 95) ?so ?sN (w1 := ((wz11_.setCell ⟨g15, 0, none⟩ (.slice Ar10_0 tt.length cr10_0)).setCell ⟨g15, 1, none⟩ (.slice Ar10_1 tb.length cr10_1))) ?sr ?_; (case sg => rfl); (case so => rfl); (case sN => rfl); (case sr => first | (go_simp; done) | (go_simp; rfl)); intro w12_ hw_; obtain ⟨hb, BKg15⟩ := boxst PX PB PG hw_; clear hw_ hz_0 hzf_0 hz_1 hzf_1; replace HC := stp HC hb; clear hb PX PB PG; have K14 := tt_; obtain ⟨ag5, bg5, cg5, dg5⟩ := bx BKg5 HC.out.t4.t4.hd; obtain ⟨ag15, bg15, cg15, dg15⟩ := box2 BKg15.out)
    | ((with_reducible refine gate_dst (N := 15) rfl ?_); clear K12; refine box_event ?hg (N := 15) ?hd (cs := #[.slice none 0 0, .slice none 0 0]) (t := 39) ?hr ?_; (case hd => rfl); (case hg => rfl); (case hr => first | (go_simp; done) | (go_simp; rfl)); intro g15 hg wz11_ hbox hb; clear ag5 bg5 cg5 dg5; obtain ⟨hz_0, hz_1, hzf_0, hzf_1⟩ := box2 hbox; have PX := Aside0.mk hbox; have PB := Aside0.mk hb; have PG := Aside0.mk (show w11_.heap.size ≤ g15 by rw [hg]; exact Nat.le_refl _); clear hbox hb hg; have K13 := tt_)
    | (go_at_call 40; clear K11; (with_reducible refine (impl_FromPermutation.calls k _ _ li tt tb false _ CF9_0.out.2.2 CF9_0.out.2.1 AF10.out).mono ?_); rintro e w11_ ⟨v10_v0_, v10_v1_, rfl, ho0, ho1, hb⟩; clear ag5 bg5 cg5 dg5; obtain ⟨Ar10_0, cr10_0, rfl⟩ := Kd.R_slice ho0; have CF10_0 := Aside0.mk (Kd.R_reads' ho0); obtain ⟨Ar10_1, cr10_1, rfl⟩ := Kd.R_slice ho1; have CF10_1 := Aside0.mk (Kd.R_reads' ho1); replace HC := stp HC hb; clear hb ho0 ho1; have K12 := tt_; obtain ⟨ag5, bg5, cg5, dg5⟩ := bx BKg5 HC.out.t4.tl.tl.tl.hd)
    | (go_at_call 39; clear K10; (with_reducible refine (spec_DrawFromPermutation.calls k _ _ l1 li _ (Kd.C_below HP1.out.2.2 HC.out.t4.t4.hd) HP1.out.2.1 AF9.out).mono ?_); rintro e w10_ ⟨v9_v0_, rfl, ho0, hb⟩; clear ag5 bg5 cg5 dg5; obtain ⟨Ar9_0, cr9_0, rfl⟩ := Kd.R_slice ho0; have CF9_0 := Aside0.mk (Kd.R_reads' ho0); replace HC := stp HC hb; clear hb ho0; have K11 := tt_; obtain ⟨ag5, bg5, cg5, dg5⟩ := bx BKg5 HC.out.t4.tl.tl.hd)
    | (go_at_call 11; clear K9; (with_reducible refine (laws_sSame.calls k _ _ cy _ _ cy true _ (Kd.C_below CF5_0.out.2.2 HC.out.tl.hd) CF5_0.out.2.1 (Kd.C_below CF6_0.out.2.2 HC.out.hd) CF6_0.out.2.1 AF8.out).mono ?_); rintro e w9_ ⟨rfl, hd⟩; clear ag5 bg5 cg5 dg5; have hb := drawn_below hd; clear hd; replace HC := stp HC hb; clear hb; have K10 := tt_; obtain ⟨ag5, bg5, cg5, dg5⟩ := bx BKg5 HC.out.t4.tl.hd)
    | (go_at_call 11; clear K8; (with_reducible refine (laws_sSame.calls k _ _ w_ _ _ w_ true _ (Kd.C_below CF3_0.out.2.2 HC.out.tl.tl.hd) CF3_0.out.2.1 (Kd.C_below CF4_0.out.2.2 HC.out.tl.hd) CF4_0.out.2.1 AF7.out).mono ?_); rintro e w8_ ⟨rfl, hd⟩; clear ag5 bg5 cg5 dg5; have hb := drawn_below hd; clear hd; replace HC := stp HC hb; clear hb; have K9 := tt_; obtain ⟨ag5, bg5, cg5, dg5⟩ := bx BKg5 HC.out.t4.hd)
    | (go_at_call 38; clear K7; (with_reducible refine (spec_CycleOf.calls k _ _ mt _ _ mb cy false _ (Kd.C_below CF1_0.out.2.2 HC.out.tl.tl.tl.hd) CF1_0.out.2.1 (Kd.C_below CF1_1.out.2.2 HC.out.tl.tl.tl.hd) CF1_1.out.2.1 AF6.out).mono ?_); rintro e w7_ ⟨v6_v0_, rfl, ho0, hb⟩; clear ag5 bg5 cg5 dg5; obtain ⟨Ar6_0, cr6_0, rfl⟩ := Kd.R_slice ho0; have CF6_0 := Aside0.mk (Kd.R_reads' ho0); replace HC := stp HC hb; clear hb ho0; have K8 := tt_; obtain ⟨ag5, bg5, cg5, dg5⟩ := bx BKg5 HC.out.tl.tl.tl.hd)
    | (go_at_call 37; clear K6; (with_reducible refine (impl_CycleOf.calls k _ _ mt _ _ mb cy false _ (Kd.C_below CF1_0.out.2.2 HC.out.tl.tl.hd) CF1_0.out.2.1 (Kd.C_below CF1_1.out.2.2 HC.out.tl.tl.hd) CF1_1.out.2.1 AF5.out).mono ?_); rintro e w6_ ⟨v5_v0_, rfl, ho0, hb⟩; clear ag5 bg5 cg5 dg5; obtain ⟨Ar5_0, cr5_0, rfl⟩ := Kd.R_slice ho0; have CF5_0 := Aside0.mk (Kd.R_reads' ho0); replace HC := stp HC hb; clear hb ho0; have K7 := tt_; obtain ⟨ag5, bg5, cg5, dg5⟩ := bx BKg5 HC.out.tl.tl.hd)
    | (go_at_call 36; clear K5; (with_reducible refine (spec_PermutationOf.calls k _ _ mt _ _ mb w_ false _ (Kd.C_below CF1_0.out.2.2 HC.out.tl.hd) CF1_0.out.2.1 (Kd.C_below CF1_1.out.2.2 HC.out.tl.hd) CF1_1.out.2.1 AF4.out).mono ?_); rintro e w5_ ⟨v4_v0_, rfl, ho0, hb⟩; clear ag5 bg5 cg5 dg5; obtain ⟨Ar4_0, cr4_0, rfl⟩ := Kd.R_slice ho0; have CF4_0 := Aside0.mk (Kd.R_reads' ho0); replace HC := stp HC hb; clear hb ho0; have K6 := tt_; obtain ⟨ag5, bg5, cg5, dg5⟩ := bx BKg5 HC.out.tl.hd)
    | (go_at_call 32; clear K4; (with_reducible refine (impl_PermutationOf.calls k _ _ mt _ _ mb w_ false _ (Kd.C_below CF1_0.out.2.2 HC.out.hd) CF1_0.out.2.1 (Kd.C_below CF1_1.out.2.2 HC.out.hd) CF1_1.out.2.1 AF3.out).mono ?_); rintro e w4_ ⟨v3_v0_, rfl, ho0, hb⟩; clear ag5 bg5 cg5 dg5; obtain ⟨Ar3_0, cr3_0, rfl⟩ := Kd.R_slice ho0; have CF3_0 := Aside0.mk (Kd.R_reads' ho0); replace HC := stp HC hb; clear hb ho0; have K5 := tt_; obtain ⟨ag5, bg5, cg5, dg5⟩ := bx BKg5 HC.out.hd)
    | ((with_reducible refine gate_store (t := 39) (p := 5) (v := .tmp 44) rfl ?_); clear K3; refine store_event ?sg (t := 39) (p := 5) (v := .tmp 44) ?so ?sN (w1 := ((wz2_.setCell ⟨g5, 0, none⟩ (.slice Ar1_0 mt.length cr1_0)).setCell ⟨g5, 1, none⟩ (.slice Ar1_1 mb.length cr1_1))) ?sr ?_; (case sg => rfl); (case so => rfl); (case sN => rfl); (case sr => first | (go_simp; done) | (go_simp; rfl)); intro w3_ hw_; obtain ⟨hb, BKg5⟩ := boxst PX PB PG hw_; clear hw_ hz_0 hzf_0 hz_1 hzf_1; replace HC := stp HC hb; clear hb PX PB PG; have K4 := tt_; obtain ⟨ag5, bg5, cg5, dg5⟩ := box2 BKg5.out)
    | ((with_reducible refine gate_dst (N := 5) rfl ?_); clear K2; refine box_event ?hg (N := 5) ?hd (cs := #[.slice none 0 0, .slice none 0 0]) (t := 39) ?hr ?_; (case hd => rfl); (case hg => rfl); (case hr => first | (go_simp; done) | (go_simp; rfl)); intro g5 hg wz2_ hbox hb; obtain ⟨hz_0, hz_1, hzf_0, hzf_1⟩ := box2 hbox; have PX := Aside0.mk hbox; have PB := Aside0.mk hb; have PG := Aside0.mk (show w2_.heap.size ≤ g5 by rw [hg]; exact Nat.le_refl _); clear hbox hb hg; have K3 := tt_)
    | (go_at_call 35; clear K1; (with_reducible refine (spec_DrawPermutationOf.calls k _ _ l0 mt mb _ (Kd.C_below HP0.out.2.2 HC.out.hd) HP0.out.2.1 AF2.out).mono ?_); rintro e w2_ ⟨v1_v0_, v1_v1_, rfl, ho0, ho1, hb⟩; obtain ⟨Ar1_0, cr1_0, rfl⟩ := Kd.R_slice ho0; have CF1_0 := Aside0.mk (Kd.R_reads' ho0); obtain ⟨Ar1_1, cr1_1, rfl⟩ := Kd.R_slice ho1; have CF1_1 := Aside0.mk (Kd.R_reads' ho1); replace HC := stp HC hb; clear hb ho0 ho1; have K2 := tt_)
    | (go_at_call 6; clear K0; (with_reducible refine (laws_big.calls _ _ l0 _ _ l1 false _ HP0.out.2.2 HP0.out.2.1 HP1.out.2.2 HP1.out.2.1 AF1.out).mono ?_); rintro e w1_ ⟨rfl, hd⟩; have hb := drawn_below hd; clear hd; replace HC := stp HC hb; clear hb; have K1 := tt_))
  go_ret
  exact ⟨rfl, HC.out.tl.tl.tl.tl.tl.tl.tl.tl.tl.tl.tl.tl.tl.tl.tl.tl.tl.tl.tl.tl.hd⟩
def m_false_true.Told (k : Nat) (l0 : List Int) (l1 : List Int) : Prop := ∃ (mt : List Int) (mb : List Int) (w_ : List Int) (cy : List Int) (li : List Int) (tt : List Int) (tb : List Int) (four : Bool) (s_ : List Int) (ps : List Int) (pb : Bool), (laws_big.f l0 l1 = some false) ∧ (spec_DrawPermutationOf.f k l0 = some (mt, mb)) ∧ (impl_PermutationOf.f k mt mb = some (w_, true)) ∧ (spec_PermutationOf.f k mt mb = some (w_, true)) ∧ (impl_CycleOf.f k mt mb = some (cy, true)) ∧ (spec_CycleOf.f k mt mb = some (cy, true)) ∧ (laws_sSame.f k w_ w_ = some true) ∧ (laws_sSame.f k cy cy = some true) ∧ (spec_DrawFromPermutation.f k l1 = some li) ∧ (impl_FromPermutation.f k li = some (tt, tb, false)) ∧ (spec_FromPermutation.f k li = some (tt, tb, false)) ∧ (impl_IsPermutation.f k li = some (false, four)) ∧ (spec_IsPermutation.f k li = some (false, four)) ∧ (laws_sSamePair.f k tt tb tt tb = some true) ∧ (spec_DrawPositionsOf.f k l1 = some s_) ∧ (impl_PositionsOf.f k s_ = some (ps, pb)) ∧ (spec_PositionsOf.f k s_ = some (ps, pb)) ∧ (laws_sSame.f k ps ps = some true) ∧ (impl_FromPermutation.f k w_ = some (mt, mb, true)) ∧ (w_.length ≤ 1000 ∧ atf w_ 0 = 0 ∧ ∀ i : Nat, i < w_.length → 0 ≤ rd w_ (i : Int) ∧ rd w_ (i : Int) < (cy.length : Int) ∧ rd cy (rd w_ (i : Int)) = atf w_ (i + 1)) ∧ (laws_sSamePair.f k mt mb mt mb = some true)
set_option maxHeartbeats 16000000 in
set_option maxRecDepth 100000 in
theorem m_false_true (k : Nat) (l0 : List Int) (l1 : List Int) (A0 : Option Addr) (c0 : Nat) (A1 : Option Addr) (c1 : Nat) (mt : List Int) (mb : List Int) (w_ : List Int) (cy : List Int) (li : List Int) (tt : List Int) (tb : List Int) (four : Bool) (s_ : List Int) (ps : List Int) (pb : Bool) (w : World) (hr0 : Kd.C (Kd.int .u8) w A0 l0.length l0) (hc0 : l0.length ≤ c0) (hr1 : Kd.C (Kd.int .u8) w A1 l1.length l1) (hc1 : l1.length ≤ c1)
    (HF : (laws_big.f l0 l1 = some false) ∧ (spec_DrawPermutationOf.f k l0 = some (mt, mb)) ∧ (impl_PermutationOf.f k mt mb = some (w_, true)) ∧ (spec_PermutationOf.f k mt mb = some (w_, true)) ∧ (impl_CycleOf.f k mt mb = some (cy, true)) ∧ (spec_CycleOf.f k mt mb = some (cy, true)) ∧ (laws_sSame.f k w_ w_ = some true) ∧ (laws_sSame.f k cy cy = some true) ∧ (spec_DrawFromPermutation.f k l1 = some li) ∧ (impl_FromPermutation.f k li = some (tt, tb, false)) ∧ (spec_FromPermutation.f k li = some (tt, tb, false)) ∧ (impl_IsPermutation.f k li = some (false, four)) ∧ (spec_IsPermutation.f k li = some (false, four)) ∧ (laws_sSamePair.f k tt tb tt tb = some true) ∧ (spec_DrawPositionsOf.f k l1 = some s_) ∧ (impl_PositionsOf.f k s_ = some (ps, pb)) ∧ (spec_PositionsOf.f k s_ = some (ps, pb)) ∧ (laws_sSame.f k ps ps = some true) ∧ (impl_FromPermutation.f k w_ = some (mt, mb, true)) ∧ (w_.length ≤ 1000 ∧ atf w_ 0 = 0 ∧ ∀ i : Nat, i < w_.length → 0 ≤ rd w_ (i : Int) ∧ rd w_ (i : Int) < (cy.length : Int) ∧ rd cy (rd w_ (i : Int)) = atf w_ (i + 1)) ∧ (laws_sSamePair.f k mt mb mt mb = some true)) :
    Calls Try.prog 5 #[.slice A0 l0.length c0, .slice A1 l1.length c1] w fun e w' => e = .returned (.bool true) ∧ Below w.heap.size w w' := by
  obtain ⟨F1, F2, F3, F4, F5, F6, F7, F8, F9, F10, F11, F12, F13, F14, F15, F16, F17, F18, F19, HCyc, F21⟩ := HF
  have HP0 := Aside0.mk (show l0.length = l0.length ∧ l0.length ≤ c0 ∧ _ from ⟨rfl, hc0, hr0⟩)
  clear hr0 hc0
  have HP1 := Aside0.mk (show l1.length = l1.length ∧ l1.length ≤ c1 ∧ _ from ⟨rfl, hc1, hr1⟩)
  clear hr1 hc1
  have AF1 := Aside0.mk F1
  clear F1
  have AF2 := Aside0.mk F2
  clear F2
  have AF3 := Aside0.mk F3
  clear F3
  have AF4 := Aside0.mk F4
  clear F4
  have AF5 := Aside0.mk F5
  clear F5
  have AF6 := Aside0.mk F6
  clear F6
  have AF7 := Aside0.mk F7
  clear F7
  have AF8 := Aside0.mk F8
  clear F8
  have AF9 := Aside0.mk F9
  clear F9
  have AF10 := Aside0.mk F10
  clear F10
  have AF11 := Aside0.mk F11
  clear F11
  have AF12 := Aside0.mk F12
  clear F12
  have AF13 := Aside0.mk F13
  clear F13
  have AF14 := Aside0.mk F14
  clear F14
  have AF15 := Aside0.mk F15
  clear F15
  have AF16 := Aside0.mk F16
  clear F16
  have AF17 := Aside0.mk F17
  clear F17
  have AF18 := Aside0.mk F18
  clear F18
  have AF19 := Aside0.mk F19
  clear F19
  have AHCyc := Aside0.mk HCyc
  clear HCyc
  have AF21 := Aside0.mk F21
  clear F21
  have bf : (four != four) = false := bne_self_eq_false four
  have bp : (pb != pb) = false := bne_self_eq_false pb
  have HC := Aside0.mk (show Ch [] w from trivial)
  have K0 := Aside0.mk True.intro
  go_enter Try.func5, Try.ntmps5
  go_wp2_with (first
    | ((with_reducible refine gate_store (t := 39) (p := 36) (v := .tmp 203) rfl ?_); clear K26; refine store_event ?sg (t := 39) (p := 36) (v := .tmp 203) ?so ?sN (w1 := ((wz22_.setCell ⟨g36, 0, none⟩ (.slice Ar21_0 mt.length cr21_0)).setCell ⟨g36, 1, none⟩ (.slice Ar21_1 mb.length cr21_1))) ?sr ?_; (case sg => rfl); (case so => rfl); (case sN => rfl); (case sr => first | (go_simp; done) | (go_simp; rfl)); intro w23_ hw_; obtain ⟨hb, BKg36⟩ := boxst PX PB PG hw_; clear hw_ hz_0 hzf_0 hz_1 hzf_1; replace HC := stp HC hb; clear hb PX PB PG; have K27 := tt_; obtain ⟨ag5, bg5, cg5, dg5⟩ := bx BKg5 HC.out.t16.tl.tl.tl.hd; obtain ⟨ag15, bg15, cg15, dg15⟩ := bx BKg15 HC.out.t4.t4.tl.tl.hd; obtain ⟨ag17, bg17, cg17, dg17⟩ := bx BKg17 HC.out.t4.t4.hd; obtain ⟨ag36, bg36, cg36, dg36⟩ := box2 BKg36.out)
    | ((with_reducible refine gate_dst (N := 36) rfl ?_); clear K25; refine box_event ?hg (N := 36) ?hd (cs := #[.slice none 0 0, .slice none 0 0]) (t := 39) ?hr ?_; (case hd => rfl); (case hg => rfl); (case hr => first | (go_simp; done) | (go_simp; rfl)); intro g36 hg wz22_ hbox hb; clear ag5 bg5 cg5 dg5 ag15 bg15 cg15 dg15 ag17 bg17 cg17 dg17; obtain ⟨hz_0, hz_1, hzf_0, hzf_1⟩ := box2 hbox; have PX := Aside0.mk hbox; have PB := Aside0.mk hb; have PG := Aside0.mk (show w22_.heap.size ≤ g36 by rw [hg]; exact Nat.le_refl _); clear hbox hb hg; have K26 := tt_)
    | (go_at_call 40; clear K24; (with_reducible refine (impl_FromPermutation.calls k _ _ w_ mt mb true _ (Kd.C_below CF3_0.out.2.2 HC.out.t16.hd) CF3_0.out.2.1 AF19.out).mono ?_); rintro e w22_ ⟨v21_v0_, v21_v1_, rfl, ho0, ho1, hb⟩; clear ag5 bg5 cg5 dg5 ag15 bg15 cg15 dg15 ag17 bg17 cg17 dg17; obtain ⟨Ar21_0, cr21_0, rfl⟩ := Kd.R_slice ho0; have CF21_0 := Aside0.mk (Kd.R_reads' ho0); obtain ⟨Ar21_1, cr21_1, rfl⟩ := Kd.R_slice ho1; have CF21_1 := Aside0.mk (Kd.R_reads' ho1); replace HC := stp HC hb; clear hb ho0 ho1; have K25 := tt_; obtain ⟨ag5, bg5, cg5, dg5⟩ := bx BKg5 HC.out.t16.tl.tl.hd; obtain ⟨ag15, bg15, cg15, dg15⟩ := bx BKg15 HC.out.t4.t4.tl.hd; obtain ⟨ag17, bg17, cg17, dg17⟩ := bx BKg17 HC.out.t4.tl.tl.tl.hd)
    | (go_at_call 11; clear K23; (with_reducible refine (laws_sSame.calls k _ _ ps _ _ ps true _ (Kd.C_below CF18_0.out.2.2 HC.out.hd) CF18_0.out.2.1 CF19_0.out.2.2 CF19_0.out.2.1 AF18.out).mono ?_); rintro e w21_ ⟨rfl, hd⟩; clear ag5 bg5 cg5 dg5 ag15 bg15 cg15 dg15 ag17 bg17 cg17 dg17; have hb := drawn_below hd; clear hd; replace HC := stp HC hb; clear hb; have K24 := tt_; obtain ⟨ag5, bg5, cg5, dg5⟩ := bx BKg5 HC.out.t16.tl.hd; obtain ⟨ag15, bg15, cg15, dg15⟩ := bx BKg15 HC.out.t4.t4.hd; obtain ⟨ag17, bg17, cg17, dg17⟩ := bx BKg17 HC.out.t4.tl.tl.hd)
    | (go_at_call 46; clear K22; (with_reducible refine (spec_PositionsOf.calls k _ _ s_ ps pb _ (Kd.C_below CF17_0.out.2.2 HC.out.hd) CF17_0.out.2.1 AF17.out).mono ?_); rintro e w20_ ⟨v19_v0_, rfl, ho0, hb⟩; clear ag5 bg5 cg5 dg5 ag15 bg15 cg15 dg15 ag17 bg17 cg17 dg17; obtain ⟨Ar19_0, cr19_0, rfl⟩ := Kd.R_slice ho0; have CF19_0 := Aside0.mk (Kd.R_reads' ho0); replace HC := stp HC hb; clear hb ho0; have K23 := tt_; obtain ⟨ag5, bg5, cg5, dg5⟩ := bx BKg5 HC.out.t16.hd; obtain ⟨ag15, bg15, cg15, dg15⟩ := bx BKg15 HC.out.t4.tl.tl.tl.hd; obtain ⟨ag17, bg17, cg17, dg17⟩ := bx BKg17 HC.out.t4.tl.hd)
    | (go_at_call 44; clear K21; (with_reducible refine (impl_PositionsOf.calls k _ _ s_ ps pb _ CF17_0.out.2.2 CF17_0.out.2.1 AF16.out).mono ?_); rintro e w19_ ⟨v18_v0_, rfl, ho0, hb⟩; clear ag5 bg5 cg5 dg5 ag15 bg15 cg15 dg15 ag17 bg17 cg17 dg17; obtain ⟨Ar18_0, cr18_0, rfl⟩ := Kd.R_slice ho0; have CF18_0 := Aside0.mk (Kd.R_reads' ho0); replace HC := stp HC hb; clear hb ho0; have K22 := tt_; obtain ⟨ag5, bg5, cg5, dg5⟩ := bx BKg5 HC.out.t4.t4.t4.tl.tl.tl.hd; obtain ⟨ag15, bg15, cg15, dg15⟩ := bx BKg15 HC.out.t4.tl.tl.hd; obtain ⟨ag17, bg17, cg17, dg17⟩ := bx BKg17 HC.out.t4.hd)
    | (go_at_call 45; clear K20; (with_reducible refine (spec_DrawPositionsOf.calls k _ _ l1 s_ _ (Kd.C_below HP1.out.2.2 HC.out.t16.hd) HP1.out.2.1 AF15.out).mono ?_); rintro e w18_ ⟨v17_v0_, rfl, ho0, hb⟩; clear ag5 bg5 cg5 dg5 ag15 bg15 cg15 dg15 ag17 bg17 cg17 dg17; obtain ⟨Ar17_0, cr17_0, rfl⟩ := Kd.R_slice ho0; have CF17_0 := Aside0.mk (Kd.R_reads' ho0); replace HC := stp HC hb; clear hb ho0; have K21 := tt_; obtain ⟨ag5, bg5, cg5, dg5⟩ := bx BKg5 HC.out.t4.t4.t4.tl.tl.hd; obtain ⟨ag15, bg15, cg15, dg15⟩ := bx BKg15 HC.out.t4.tl.hd; obtain ⟨ag17, bg17, cg17, dg17⟩ := bx BKg17 HC.out.tl.tl.tl.hd)
    | (go_at_call 29; clear K19; (with_reducible refine (laws_sSamePair.calls k _ _ tt _ _ tb _ _ tt _ _ tb true _ (Kd.C_below CF10_0.out.2.2 HC.out.t4.hd) CF10_0.out.2.1 (Kd.C_below CF10_1.out.2.2 HC.out.t4.hd) CF10_1.out.2.1 (Kd.C_below CF12_0.out.2.2 HC.out.tl.tl.hd) CF12_0.out.2.1 (Kd.C_below CF12_1.out.2.2 HC.out.tl.tl.hd) CF12_1.out.2.1 AF14.out).mono ?_); rintro e w17_ ⟨rfl, hb⟩; clear ag5 bg5 cg5 dg5 ag15 bg15 cg15 dg15 ag17 bg17 cg17 dg17; replace HC := stp HC hb; clear hb; have K20 := tt_; obtain ⟨ag5, bg5, cg5, dg5⟩ := bx BKg5 HC.out.t4.t4.t4.tl.hd; obtain ⟨ag15, bg15, cg15, dg15⟩ := bx BKg15 HC.out.t4.hd; obtain ⟨ag17, bg17, cg17, dg17⟩ := bx BKg17 HC.out.tl.tl.hd)
    | (go_at_call 43; clear K18; (with_reducible refine (spec_IsPermutation.calls k _ _ li false four _ (Kd.C_below CF9_0.out.2.2 HC.out.t4.hd) CF9_0.out.2.1 AF13.out).mono ?_); rintro e w16_ ⟨rfl, hb⟩; clear ag5 bg5 cg5 dg5 ag15 bg15 cg15 dg15 ag17 bg17 cg17 dg17; replace HC := stp HC hb; clear hb; have K19 := tt_; obtain ⟨ag5, bg5, cg5, dg5⟩ := bx BKg5 HC.out.t4.t4.t4.hd; obtain ⟨ag15, bg15, cg15, dg15⟩ := bx BKg15 HC.out.tl.tl.tl.hd; obtain ⟨ag17, bg17, cg17, dg17⟩ := bx BKg17 HC.out.tl.hd)
    | (go_at_call 42; clear K17; (with_reducible refine (impl_IsPermutation.calls k _ _ li false four _ (Kd.C_below CF9_0.out.2.2 HC.out.tl.tl.tl.hd) CF9_0.out.2.1 AF12.out).mono ?_); rintro e w15_ ⟨rfl, hb⟩; clear ag5 bg5 cg5 dg5 ag15 bg15 cg15 dg15 ag17 bg17 cg17 dg17; replace HC := stp HC hb; clear hb; have K18 := tt_; obtain ⟨ag5, bg5, cg5, dg5⟩ := bx BKg5 HC.out.t4.t4.tl.tl.tl.hd; obtain ⟨ag15, bg15, cg15, dg15⟩ := bx BKg15 HC.out.tl.tl.hd; obtain ⟨ag17, bg17, cg17, dg17⟩ := bx BKg17 HC.out.hd)
    | ((with_reducible refine gate_store (t := 39) (p := 17) (v := .tmp 100) rfl ?_); clear K16; refine store_event ?sg (t := 39) (p := 17) (v := .tmp 100) ?so ?sN (w1 := ((wz13_.setCell ⟨g17, 0, none⟩ (.slice Ar12_0 tt.length cr12_0)).setCell ⟨g17, 1, none⟩ (.slice Ar12_1 tb.length cr12_1))) ?sr ?_; (case sg => rfl); (case so => rfl); (case sN => rfl); (case sr => first | (go_simp; done) | (go_simp; rfl)); intro w14_ hw_; obtain ⟨hb, BKg17⟩ := boxst PX PB PG hw_; clear hw_ hz_0 hzf_0 hz_1 hzf_1; replace HC := stp HC hb; clear hb PX PB PG; have K17 := tt_; obtain ⟨ag5, bg5, cg5, dg5⟩ := bx BKg5 HC.out.t4.t4.tl.tl.hd; obtain ⟨ag15, bg15, cg15, dg15⟩ := bx BKg15 HC.out.tl.hd; obtain ⟨ag17, bg17, cg17, dg17⟩ := box2 BKg17.out)
    | ((with_reducible refine gate_dst (N := 17) rfl ?_); clear K15; refine box_event ?hg (N := 17) ?hd (cs := #[.slice none 0 0, .slice none 0 0]) (t := 39) ?hr ?_; (case hd => rfl); (case hg => rfl); (case hr => first | (go_simp; done) | (go_simp; rfl)); intro g17 hg wz13_ hbox hb; clear ag5 bg5 cg5 dg5 ag15 bg15 cg15 dg15; obtain ⟨hz_0, hz_1, hzf_0, hzf_1⟩ := box2 hbox; have PX := Aside0.mk hbox; have PB := Aside0.mk hb; have PG := Aside0.mk (show w13_.heap.size ≤ g17 by rw [hg]; exact Nat.le_refl _); clear hbox hb hg; have K16 := tt_)
    | (go_at_call 41; clear K14; (with_reducible refine (spec_FromPermutation.calls k _ _ li tt tb false _ (Kd.C_below CF9_0.out.2.2 HC.out.tl.hd) CF9_0.out.2.1 AF11.out).mono ?_); rintro e w13_ ⟨v12_v0_, v12_v1_, rfl, ho0, ho1, hb⟩; clear ag5 bg5 cg5 dg5 ag15 bg15 cg15 dg15; obtain ⟨Ar12_0, cr12_0, rfl⟩ := Kd.R_slice ho0; have CF12_0 := Aside0.mk (Kd.R_reads' ho0); obtain ⟨Ar12_1, cr12_1, rfl⟩ := Kd.R_slice ho1; have CF12_1 := Aside0.mk (Kd.R_reads' ho1); replace HC := stp HC hb; clear hb ho0 ho1; have K15 := tt_; obtain ⟨ag5, bg5, cg5, dg5⟩ := bx BKg5 HC.out.t4.t4.tl.hd; obtain ⟨ag15, bg15, cg15, dg15⟩ := bx BKg15 HC.out.hd)
    | ((with_reducible refine gate_store (t := 39) (p := 15) (v := .tmp 95) rfl ?_); clear K13; refine store_event ?sg (t := 39) (p := 15) (v := .tmp 95) ?so ?sN (w1 := ((wz11_.setCell ⟨g15, 0, none⟩ (.slice Ar10_0 tt.length cr10_0)).setCell ⟨g15, 1, none⟩ (.slice Ar10_1 tb.length cr10_1))) ?sr ?_; (case sg => rfl); (case so => rfl); (case sN => rfl); (case sr => first | (go_simp; done) | (go_simp; rfl)); intro w12_ hw_; obtain ⟨hb, BKg15⟩ := boxst PX PB PG hw_; clear hw_ hz_0 hzf_0 hz_1 hzf_1; replace HC := stp HC hb; clear hb PX PB PG; have K14 := tt_; obtain ⟨ag5, bg5, cg5, dg5⟩ := bx BKg5 HC.out.t4.t4.hd; obtain ⟨ag15, bg15, cg15, dg15⟩ := box2 BKg15.out)
    | ((with_reducible refine gate_dst (N := 15) rfl ?_); clear K12; refine box_event ?hg (N := 15) ?hd (cs := #[.slice none 0 0, .slice none 0 0]) (t := 39) ?hr ?_; (case hd => rfl); (case hg => rfl); (case hr => first | (go_simp; done) | (go_simp; rfl)); intro g15 hg wz11_ hbox hb; clear ag5 bg5 cg5 dg5; obtain ⟨hz_0, hz_1, hzf_0, hzf_1⟩ := box2 hbox; have PX := Aside0.mk hbox; have PB := Aside0.mk hb; have PG := Aside0.mk (show w11_.heap.size ≤ g15 by rw [hg]; exact Nat.le_refl _); clear hbox hb hg; have K13 := tt_)
    | (go_at_call 40; clear K11; (with_reducible refine (impl_FromPermutation.calls k _ _ li tt tb false _ CF9_0.out.2.2 CF9_0.out.2.1 AF10.out).mono ?_); rintro e w11_ ⟨v10_v0_, v10_v1_, rfl, ho0, ho1, hb⟩; clear ag5 bg5 cg5 dg5; obtain ⟨Ar10_0, cr10_0, rfl⟩ := Kd.R_slice ho0; have CF10_0 := Aside0.mk (Kd.R_reads' ho0); obtain ⟨Ar10_1, cr10_1, rfl⟩ := Kd.R_slice ho1; have CF10_1 := Aside0.mk (Kd.R_reads' ho1); replace HC := stp HC hb; clear hb ho0 ho1; have K12 := tt_; obtain ⟨ag5, bg5, cg5, dg5⟩ := bx BKg5 HC.out.t4.tl.tl.tl.hd)
    | (go_at_call 39; clear K10; (with_reducible refine (spec_DrawFromPermutation.calls k _ _ l1 li _ (Kd.C_below HP1.out.2.2 HC.out.t4.t4.hd) HP1.out.2.1 AF9.out).mono ?_); rintro e w10_ ⟨v9_v0_, rfl, ho0, hb⟩; clear ag5 bg5 cg5 dg5; obtain ⟨Ar9_0, cr9_0, rfl⟩ := Kd.R_slice ho0; have CF9_0 := Aside0.mk (Kd.R_reads' ho0); replace HC := stp HC hb; clear hb ho0; have K11 := tt_; obtain ⟨ag5, bg5, cg5, dg5⟩ := bx BKg5 HC.out.t4.tl.tl.hd)
    | (go_at_call 11; clear K9; (with_reducible refine (laws_sSame.calls k _ _ cy _ _ cy true _ (Kd.C_below CF5_0.out.2.2 HC.out.tl.hd) CF5_0.out.2.1 (Kd.C_below CF6_0.out.2.2 HC.out.hd) CF6_0.out.2.1 AF8.out).mono ?_); rintro e w9_ ⟨rfl, hd⟩; clear ag5 bg5 cg5 dg5; have hb := drawn_below hd; clear hd; replace HC := stp HC hb; clear hb; have K10 := tt_; obtain ⟨ag5, bg5, cg5, dg5⟩ := bx BKg5 HC.out.t4.tl.hd)
    | (go_at_call 11; clear K8; (with_reducible refine (laws_sSame.calls k _ _ w_ _ _ w_ true _ (Kd.C_below CF3_0.out.2.2 HC.out.tl.tl.hd) CF3_0.out.2.1 (Kd.C_below CF4_0.out.2.2 HC.out.tl.hd) CF4_0.out.2.1 AF7.out).mono ?_); rintro e w8_ ⟨rfl, hd⟩; clear ag5 bg5 cg5 dg5; have hb := drawn_below hd; clear hd; replace HC := stp HC hb; clear hb; have K9 := tt_; obtain ⟨ag5, bg5, cg5, dg5⟩ := bx BKg5 HC.out.t4.hd)
    | (go_at_call 38; clear K7; (with_reducible refine (spec_CycleOf.calls k _ _ mt _ _ mb cy true _ (Kd.C_below CF1_0.out.2.2 HC.out.tl.tl.tl.hd) CF1_0.out.2.1 (Kd.C_below CF1_1.out.2.2 HC.out.tl.tl.tl.hd) CF1_1.out.2.1 AF6.out).mono ?_); rintro e w7_ ⟨v6_v0_, rfl, ho0, hb⟩; clear ag5 bg5 cg5 dg5; obtain ⟨Ar6_0, cr6_0, rfl⟩ := Kd.R_slice ho0; have CF6_0 := Aside0.mk (Kd.R_reads' ho0); replace HC := stp HC hb; clear hb ho0; have K8 := tt_; obtain ⟨ag5, bg5, cg5, dg5⟩ := bx BKg5 HC.out.tl.tl.tl.hd)
    | (go_at_call 37; clear K6; (with_reducible refine (impl_CycleOf.calls k _ _ mt _ _ mb cy true _ (Kd.C_below CF1_0.out.2.2 HC.out.tl.tl.hd) CF1_0.out.2.1 (Kd.C_below CF1_1.out.2.2 HC.out.tl.tl.hd) CF1_1.out.2.1 AF5.out).mono ?_); rintro e w6_ ⟨v5_v0_, rfl, ho0, hb⟩; clear ag5 bg5 cg5 dg5; obtain ⟨Ar5_0, cr5_0, rfl⟩ := Kd.R_slice ho0; have CF5_0 := Aside0.mk (Kd.R_reads' ho0); replace HC := stp HC hb; clear hb ho0; have K7 := tt_; obtain ⟨ag5, bg5, cg5, dg5⟩ := bx BKg5 HC.out.tl.tl.hd)
    | (go_at_call 36; clear K5; (with_reducible refine (spec_PermutationOf.calls k _ _ mt _ _ mb w_ true _ (Kd.C_below CF1_0.out.2.2 HC.out.tl.hd) CF1_0.out.2.1 (Kd.C_below CF1_1.out.2.2 HC.out.tl.hd) CF1_1.out.2.1 AF4.out).mono ?_); rintro e w5_ ⟨v4_v0_, rfl, ho0, hb⟩; clear ag5 bg5 cg5 dg5; obtain ⟨Ar4_0, cr4_0, rfl⟩ := Kd.R_slice ho0; have CF4_0 := Aside0.mk (Kd.R_reads' ho0); replace HC := stp HC hb; clear hb ho0; have K6 := tt_; obtain ⟨ag5, bg5, cg5, dg5⟩ := bx BKg5 HC.out.tl.hd)
    | (go_at_call 32; clear K4; (with_reducible refine (impl_PermutationOf.calls k _ _ mt _ _ mb w_ true _ (Kd.C_below CF1_0.out.2.2 HC.out.hd) CF1_0.out.2.1 (Kd.C_below CF1_1.out.2.2 HC.out.hd) CF1_1.out.2.1 AF3.out).mono ?_); rintro e w4_ ⟨v3_v0_, rfl, ho0, hb⟩; clear ag5 bg5 cg5 dg5; obtain ⟨Ar3_0, cr3_0, rfl⟩ := Kd.R_slice ho0; have CF3_0 := Aside0.mk (Kd.R_reads' ho0); replace HC := stp HC hb; clear hb ho0; have K5 := tt_; obtain ⟨ag5, bg5, cg5, dg5⟩ := bx BKg5 HC.out.hd)
    | ((with_reducible refine gate_store (t := 39) (p := 5) (v := .tmp 44) rfl ?_); clear K3; refine store_event ?sg (t := 39) (p := 5) (v := .tmp 44) ?so ?sN (w1 := ((wz2_.setCell ⟨g5, 0, none⟩ (.slice Ar1_0 mt.length cr1_0)).setCell ⟨g5, 1, none⟩ (.slice Ar1_1 mb.length cr1_1))) ?sr ?_; (case sg => rfl); (case so => rfl); (case sN => rfl); (case sr => first | (go_simp; done) | (go_simp; rfl)); intro w3_ hw_; obtain ⟨hb, BKg5⟩ := boxst PX PB PG hw_; clear hw_ hz_0 hzf_0 hz_1 hzf_1; replace HC := stp HC hb; clear hb PX PB PG; have K4 := tt_; obtain ⟨ag5, bg5, cg5, dg5⟩ := box2 BKg5.out)
    | ((with_reducible refine gate_dst (N := 5) rfl ?_); clear K2; refine box_event ?hg (N := 5) ?hd (cs := #[.slice none 0 0, .slice none 0 0]) (t := 39) ?hr ?_; (case hd => rfl); (case hg => rfl); (case hr => first | (go_simp; done) | (go_simp; rfl)); intro g5 hg wz2_ hbox hb; obtain ⟨hz_0, hz_1, hzf_0, hzf_1⟩ := box2 hbox; have PX := Aside0.mk hbox; have PB := Aside0.mk hb; have PG := Aside0.mk (show w2_.heap.size ≤ g5 by rw [hg]; exact Nat.le_refl _); clear hbox hb hg; have K3 := tt_)
    | (go_at_call 35; clear K1; (with_reducible refine (spec_DrawPermutationOf.calls k _ _ l0 mt mb _ (Kd.C_below HP0.out.2.2 HC.out.hd) HP0.out.2.1 AF2.out).mono ?_); rintro e w2_ ⟨v1_v0_, v1_v1_, rfl, ho0, ho1, hb⟩; obtain ⟨Ar1_0, cr1_0, rfl⟩ := Kd.R_slice ho0; have CF1_0 := Aside0.mk (Kd.R_reads' ho0); obtain ⟨Ar1_1, cr1_1, rfl⟩ := Kd.R_slice ho1; have CF1_1 := Aside0.mk (Kd.R_reads' ho1); replace HC := stp HC hb; clear hb ho0 ho1; have K2 := tt_)
    | (go_at_call 6; clear K0; (with_reducible refine (laws_big.calls _ _ l0 _ _ l1 false _ HP0.out.2.2 HP0.out.2.1 HP1.out.2.2 HP1.out.2.1 AF1.out).mono ?_); rintro e w1_ ⟨rfl, hd⟩; have hb := drawn_below hd; clear hd; replace HC := stp HC hb; clear hb; have K1 := tt_))
  go_loopg [38, 207] w_.length (fun kq v38 v207 w' => ∃ (i : Nat), v38 = .int .i64 (atf w_ i) ∧ v207 = .int .i64 i ∧ i ≤ w_.length ∧ w_.length - i ≤ kq ∧ Aside0 (Below w23_.heap.size w23_ w'))
  case atStart => exact ⟨0, by rw [AHCyc.out.2.1], by go_num, Nat.zero_le _, by omega, ⟨Below.refl _ _⟩⟩
  case round =>
    clear ag5 bg5 cg5 dg5 ag15 bg15 cg15 dg15 ag17 bg17 cg17 dg17 ag36 bg36 cg36 dg36
    obtain ⟨i, rfl, rfl, hi, hg, HBL⟩ := hrel
    replace HC := stp HC HBL.out
    have K28 := tt_
    clear K27
    by_cases hlt : i < w_.length
    · have hltz : (i : Int) < (w_.length : Int) := by omega
      have p5 : (0 : Int) ≤ (i : Int) := by omega
      obtain ⟨ad, ead, hx⟩ := Kd.at_int (Kd.C_below CF3_0.out.2.2 HC.out.t16.tl.tl.tl.hd) (i : Int) p5 hltz
      cases ead
      simp only [Int.toNat_natCast] at hx
      obtain ⟨p6, q6, hcv⟩ := AHCyc.out.2.2 i hlt
      obtain ⟨ad2, ead2, hx2⟩ := Kd.at_int (Kd.C_below CF5_0.out.2.2 HC.out.t16.tl.hd) (rd w_ (i : Int)) p6 q6
      cases ead2
      have hat : atf w_ i = rd w_ (i : Int) := if_pos hlt
      have hw1 : wrap64 ((i : Int) + 1) = ((i + 1 : Nat) : Int) := by have := AHCyc.out.1; unfold wrap64; omega
      have hs1 : Value.int .i64 (wrap64 ((i : Int) + 1)) = Value.int .i64 ((i + 1 : Nat) : Int) := by rw [hw1]
      have HS2 := Aside0.mk (show Value.int .i64 (rd cy (rd w_ (i : Int))) = Value.int .i64 (atf w_ (i + 1)) by rw [hcv])
      have hi1 : i + 1 ≤ w_.length := hlt
      have b8 : (rd w_ (i : Int) != rd w_ (i : Int)) = false := bne_self_eq_false _
      clear hw1 hcv
      rw [hat]
      clear hat
      replace p5 := eq_true p5
      replace hltz := eq_true hltz
      replace p6 := eq_true p6
      replace q6 := eq_true q6
      go_wp2
      go_roundg (w_.length - (i + 1))
      case measure => exact Nat.lt_of_lt_of_le (Nat.sub_lt_sub_left hlt (Nat.lt_succ_self i)) hg
      case rel => exact ⟨i + 1, HS2.out, hs1, hi1, Nat.le_refl _, HBL⟩
    · have hltz : ¬ ((i : Int) < (w_.length : Int)) := by omega
      obtain rfl : i = w_.length := by omega
      have hat : atf w_ w_.length = 0 := if_neg (Nat.lt_irrefl _)
      rw [hat]
      clear hat hi hg HBL
      obtain ⟨ag5, bg5, cg5, dg5⟩ := bx BKg5 HC.out.t16.t4.hd
      obtain ⟨ag15, bg15, cg15, dg15⟩ := bx BKg15 HC.out.t4.t4.tl.tl.tl.hd
      obtain ⟨ag17, bg17, cg17, dg17⟩ := bx BKg17 HC.out.t4.t4.tl.hd
      obtain ⟨ag36, bg36, cg36, dg36⟩ := bx BKg36 HC.out.hd
      go_wp2_with (first
        | (go_at_call 29; clear K28; (with_reducible refine (laws_sSamePair.calls k _ _ mt _ _ mb _ _ mt _ _ mb true _ (Kd.C_below CF21_0.out.2.2 HC.out.tl.hd) CF21_0.out.2.1 (Kd.C_below CF21_1.out.2.2 HC.out.tl.hd) CF21_1.out.2.1 (Kd.C_below CF1_0.out.2.2 HC.out.t16.t4.tl.hd) CF1_0.out.2.1 (Kd.C_below CF1_1.out.2.2 HC.out.t16.t4.tl.hd) CF1_1.out.2.1 AF21.out).mono ?_); rintro e w25_ ⟨rfl, hb⟩; clear ag5 bg5 cg5 dg5 ag15 bg15 cg15 dg15 ag17 bg17 cg17 dg17 ag36 bg36 cg36 dg36; replace HC := stp HC hb; clear hb; have K29 := tt_; obtain ⟨ag5, bg5, cg5, dg5⟩ := bx BKg5 HC.out.t16.t4.tl.hd; obtain ⟨ag15, bg15, cg15, dg15⟩ := bx BKg15 HC.out.t4.t4.t4.hd; obtain ⟨ag17, bg17, cg17, dg17⟩ := bx BKg17 HC.out.t4.t4.tl.tl.hd; obtain ⟨ag36, bg36, cg36, dg36⟩ := bx BKg36 HC.out.tl.hd))
      go_ret
      exact ⟨rfl, HC.out.tl.tl.tl.tl.tl.tl.tl.tl.tl.tl.tl.tl.tl.tl.tl.tl.tl.tl.tl.tl.tl.tl.tl.tl.hd⟩
def m_true_false.Told (k : Nat) (l0 : List Int) (l1 : List Int) : Prop := ∃ (mt : List Int) (mb : List Int) (w_ : List Int) (cy : List Int) (li : List Int) (tt : List Int) (tb : List Int) (four : Bool) (pos : List Int) (cr : List Int) (s_ : List Int) (ps : List Int) (pb : Bool), (laws_big.f l0 l1 = some false) ∧ (spec_DrawPermutationOf.f k l0 = some (mt, mb)) ∧ (impl_PermutationOf.f k mt mb = some (w_, false)) ∧ (spec_PermutationOf.f k mt mb = some (w_, false)) ∧ (impl_CycleOf.f k mt mb = some (cy, false)) ∧ (spec_CycleOf.f k mt mb = some (cy, false)) ∧ (laws_sSame.f k w_ w_ = some true) ∧ (laws_sSame.f k cy cy = some true) ∧ (spec_DrawFromPermutation.f k l1 = some li) ∧ (impl_FromPermutation.f k li = some (tt, tb, true)) ∧ (spec_FromPermutation.f k li = some (tt, tb, true)) ∧ (impl_IsPermutation.f k li = some (true, four)) ∧ (spec_IsPermutation.f k li = some (true, four)) ∧ (laws_sSamePair.f k tt tb tt tb = some true) ∧ (impl_PermutationOf.f k tt tb = some (li, true)) ∧ (impl_PositionsOf.f k li = some (pos, true)) ∧ (laws_sSame.f k li li = some true) ∧ (pos.length ≤ 1000 ∧ ∀ i : Nat, i < pos.length → rd pos (i : Int) = (i : Int) % 2) ∧ (impl_CrossingOf.f k li = some (cr, false)) ∧ (spec_DrawPositionsOf.f k l1 = some s_) ∧ (impl_PositionsOf.f k s_ = some (ps, pb)) ∧ (spec_PositionsOf.f k s_ = some (ps, pb)) ∧ (laws_sSame.f k ps ps = some true)
set_option maxHeartbeats 16000000 in
set_option maxRecDepth 100000 in
theorem m_true_false (k : Nat) (l0 : List Int) (l1 : List Int) (A0 : Option Addr) (c0 : Nat) (A1 : Option Addr) (c1 : Nat) (mt : List Int) (mb : List Int) (w_ : List Int) (cy : List Int) (li : List Int) (tt : List Int) (tb : List Int) (four : Bool) (pos : List Int) (cr : List Int) (s_ : List Int) (ps : List Int) (pb : Bool) (w : World) (hr0 : Kd.C (Kd.int .u8) w A0 l0.length l0) (hc0 : l0.length ≤ c0) (hr1 : Kd.C (Kd.int .u8) w A1 l1.length l1) (hc1 : l1.length ≤ c1)
    (HF : (laws_big.f l0 l1 = some false) ∧ (spec_DrawPermutationOf.f k l0 = some (mt, mb)) ∧ (impl_PermutationOf.f k mt mb = some (w_, false)) ∧ (spec_PermutationOf.f k mt mb = some (w_, false)) ∧ (impl_CycleOf.f k mt mb = some (cy, false)) ∧ (spec_CycleOf.f k mt mb = some (cy, false)) ∧ (laws_sSame.f k w_ w_ = some true) ∧ (laws_sSame.f k cy cy = some true) ∧ (spec_DrawFromPermutation.f k l1 = some li) ∧ (impl_FromPermutation.f k li = some (tt, tb, true)) ∧ (spec_FromPermutation.f k li = some (tt, tb, true)) ∧ (impl_IsPermutation.f k li = some (true, four)) ∧ (spec_IsPermutation.f k li = some (true, four)) ∧ (laws_sSamePair.f k tt tb tt tb = some true) ∧ (impl_PermutationOf.f k tt tb = some (li, true)) ∧ (impl_PositionsOf.f k li = some (pos, true)) ∧ (laws_sSame.f k li li = some true) ∧ (pos.length ≤ 1000 ∧ ∀ i : Nat, i < pos.length → rd pos (i : Int) = (i : Int) % 2) ∧ (impl_CrossingOf.f k li = some (cr, false)) ∧ (spec_DrawPositionsOf.f k l1 = some s_) ∧ (impl_PositionsOf.f k s_ = some (ps, pb)) ∧ (spec_PositionsOf.f k s_ = some (ps, pb)) ∧ (laws_sSame.f k ps ps = some true)) :
    Calls Try.prog 5 #[.slice A0 l0.length c0, .slice A1 l1.length c1] w fun e w' => e = .returned (.bool true) ∧ Below w.heap.size w w' := by
  obtain ⟨F1, F2, F3, F4, F5, F6, F7, F8, F9, F10, F11, F12, F13, F14, F15, F16, F17, HPos, F19, F20, F21, F22, F23⟩ := HF
  have HP0 := Aside0.mk (show l0.length = l0.length ∧ l0.length ≤ c0 ∧ _ from ⟨rfl, hc0, hr0⟩)
  clear hr0 hc0
  have HP1 := Aside0.mk (show l1.length = l1.length ∧ l1.length ≤ c1 ∧ _ from ⟨rfl, hc1, hr1⟩)
  clear hr1 hc1
  have AF1 := Aside0.mk F1
  clear F1
  have AF2 := Aside0.mk F2
  clear F2
  have AF3 := Aside0.mk F3
  clear F3
  have AF4 := Aside0.mk F4
  clear F4
  have AF5 := Aside0.mk F5
  clear F5
  have AF6 := Aside0.mk F6
  clear F6
  have AF7 := Aside0.mk F7
  clear F7
  have AF8 := Aside0.mk F8
  clear F8
  have AF9 := Aside0.mk F9
  clear F9
  have AF10 := Aside0.mk F10
  clear F10
  have AF11 := Aside0.mk F11
  clear F11
  have AF12 := Aside0.mk F12
  clear F12
  have AF13 := Aside0.mk F13
  clear F13
  have AF14 := Aside0.mk F14
  clear F14
  have AF15 := Aside0.mk F15
  clear F15
  have AF16 := Aside0.mk F16
  clear F16
  have AF17 := Aside0.mk F17
  clear F17
  have AHPos := Aside0.mk HPos
  clear HPos
  have AF19 := Aside0.mk F19
  clear F19
  have AF20 := Aside0.mk F20
  clear F20
  have AF21 := Aside0.mk F21
  clear F21
  have AF22 := Aside0.mk F22
  clear F22
  have AF23 := Aside0.mk F23
  clear F23
  have bf : (four != four) = false := bne_self_eq_false four
  have bp : (pb != pb) = false := bne_self_eq_false pb
  have HC := Aside0.mk (show Ch [] w from trivial)
  have K0 := Aside0.mk True.intro
  go_enter Try.func5, Try.ntmps5
  go_wp2_with (first
    | (go_at_call 11; clear K22; (with_reducible refine (laws_sSame.calls k _ _ li _ _ li true _ (Kd.C_below CF17_0.out.2.2 HC.out.hd) CF17_0.out.2.1 (Kd.C_below CF9_0.out.2.2 HC.out.t4.t4.hd) CF9_0.out.2.1 AF17.out).mono ?_); rintro e w20_ ⟨rfl, hd⟩; clear ag5 bg5 cg5 dg5 ag15 bg15 cg15 dg15 ag17 bg17 cg17 dg17; have hb := drawn_below hd; clear hd; replace HC := stp HC hb; clear hb; have K23 := tt_; obtain ⟨ag5, bg5, cg5, dg5⟩ := bx BKg5 HC.out.t16.hd; obtain ⟨ag15, bg15, cg15, dg15⟩ := bx BKg15 HC.out.t4.tl.tl.tl.hd; obtain ⟨ag17, bg17, cg17, dg17⟩ := bx BKg17 HC.out.t4.tl.hd)
    | (go_at_call 44; clear K21; (with_reducible refine (impl_PositionsOf.calls k _ _ li pos true _ (Kd.C_below CF9_0.out.2.2 HC.out.t4.tl.tl.tl.hd) CF9_0.out.2.1 AF16.out).mono ?_); rintro e w19_ ⟨v18_v0_, rfl, ho0, hb⟩; clear ag5 bg5 cg5 dg5 ag15 bg15 cg15 dg15 ag17 bg17 cg17 dg17; obtain ⟨Ar18_0, cr18_0, rfl⟩ := Kd.R_slice ho0; have CF18_0 := Aside0.mk (Kd.R_reads' ho0); replace HC := stp HC hb; clear hb ho0; have K22 := tt_; obtain ⟨ag5, bg5, cg5, dg5⟩ := bx BKg5 HC.out.t4.t4.t4.tl.tl.tl.hd; obtain ⟨ag15, bg15, cg15, dg15⟩ := bx BKg15 HC.out.t4.tl.tl.hd; obtain ⟨ag17, bg17, cg17, dg17⟩ := bx BKg17 HC.out.t4.hd)
    | (go_at_call 32; clear K20; (with_reducible refine (impl_PermutationOf.calls k _ _ tt _ _ tb li true _ (Kd.C_below CF10_0.out.2.2 HC.out.t4.tl.hd) CF10_0.out.2.1 (Kd.C_below CF10_1.out.2.2 HC.out.t4.tl.hd) CF10_1.out.2.1 AF15.out).mono ?_); rintro e w18_ ⟨v17_v0_, rfl, ho0, hb⟩; clear ag5 bg5 cg5 dg5 ag15 bg15 cg15 dg15 ag17 bg17 cg17 dg17; obtain ⟨Ar17_0, cr17_0, rfl⟩ := Kd.R_slice ho0; have CF17_0 := Aside0.mk (Kd.R_reads' ho0); replace HC := stp HC hb; clear hb ho0; have K21 := tt_; obtain ⟨ag5, bg5, cg5, dg5⟩ := bx BKg5 HC.out.t4.t4.t4.tl.tl.hd; obtain ⟨ag15, bg15, cg15, dg15⟩ := bx BKg15 HC.out.t4.tl.hd; obtain ⟨ag17, bg17, cg17, dg17⟩ := bx BKg17 HC.out.tl.tl.tl.hd)
    | (go_at_call 29; clear K19; (with_reducible refine (laws_sSamePair.calls k _ _ tt _ _ tb _ _ tt _ _ tb true _ (Kd.C_below CF10_0.out.2.2 HC.out.t4.hd) CF10_0.out.2.1 (Kd.C_below CF10_1.out.2.2 HC.out.t4.hd) CF10_1.out.2.1 (Kd.C_below CF12_0.out.2.2 HC.out.tl.tl.hd) CF12_0.out.2.1 (Kd.C_below CF12_1.out.2.2 HC.out.tl.tl.hd) CF12_1.out.2.1 AF14.out).mono ?_); rintro e w17_ ⟨rfl, hb⟩; clear ag5 bg5 cg5 dg5 ag15 bg15 cg15 dg15 ag17 bg17 cg17 dg17; replace HC := stp HC hb; clear hb; have K20 := tt_; obtain ⟨ag5, bg5, cg5, dg5⟩ := bx BKg5 HC.out.t4.t4.t4.tl.hd; obtain ⟨ag15, bg15, cg15, dg15⟩ := bx BKg15 HC.out.t4.hd; obtain ⟨ag17, bg17, cg17, dg17⟩ := bx BKg17 HC.out.tl.tl.hd)
    | (go_at_call 43; clear K18; (with_reducible refine (spec_IsPermutation.calls k _ _ li true four _ (Kd.C_below CF9_0.out.2.2 HC.out.t4.hd) CF9_0.out.2.1 AF13.out).mono ?_); rintro e w16_ ⟨rfl, hb⟩; clear ag5 bg5 cg5 dg5 ag15 bg15 cg15 dg15 ag17 bg17 cg17 dg17; replace HC := stp HC hb; clear hb; have K19 := tt_; obtain ⟨ag5, bg5, cg5, dg5⟩ := bx BKg5 HC.out.t4.t4.t4.hd; obtain ⟨ag15, bg15, cg15, dg15⟩ := bx BKg15 HC.out.tl.tl.tl.hd; obtain ⟨ag17, bg17, cg17, dg17⟩ := bx BKg17 HC.out.tl.hd)
    | (go_at_call 42; clear K17; (with_reducible refine (impl_IsPermutation.calls k _ _ li true four _ (Kd.C_below CF9_0.out.2.2 HC.out.tl.tl.tl.hd) CF9_0.out.2.1 AF12.out).mono ?_); rintro e w15_ ⟨rfl, hb⟩; clear ag5 bg5 cg5 dg5 ag15 bg15 cg15 dg15 ag17 bg17 cg17 dg17; replace HC := stp HC hb; clear hb; have K18 := tt_; obtain ⟨ag5, bg5, cg5, dg5⟩ := bx BKg5 HC.out.t4.t4.tl.tl.tl.hd; obtain ⟨ag15, bg15, cg15, dg15⟩ := bx BKg15 HC.out.tl.tl.hd; obtain ⟨ag17, bg17, cg17, dg17⟩ := bx BKg17 HC.out.hd)
    | ((with_reducible refine gate_store (t := 39) (p := 17) (v := .tmp 100) rfl ?_); clear K16; refine store_event ?sg (t := 39) (p := 17) (v := .tmp 100) ?so ?sN (w1 := ((wz13_.setCell ⟨g17, 0, none⟩ (.slice Ar12_0 tt.length cr12_0)).setCell ⟨g17, 1, none⟩ (.slice Ar12_1 tb.length cr12_1))) ?sr ?_; (case sg => rfl); (case so => rfl); (case sN => rfl); (case sr => first | (go_simp; done) | (go_simp; rfl)); intro w14_ hw_; obtain ⟨hb, BKg17⟩ := boxst PX PB PG hw_; clear hw_ hz_0 hzf_0 hz_1 hzf_1; replace HC := stp HC hb; clear hb PX PB PG; have K17 := tt_; obtain ⟨ag5, bg5, cg5, dg5⟩ := bx BKg5 HC.out.t4.t4.tl.tl.hd; obtain ⟨ag15, bg15, cg15, dg15⟩ := bx BKg15 HC.out.tl.hd; obtain ⟨ag17, bg17, cg17, dg17⟩ := box2 BKg17.out)
    | ((with_reducible refine gate_dst (N := 17) rfl ?_); clear K15; refine box_event ?hg (N := 17) ?hd (cs := #[.slice none 0 0, .slice none 0 0]) (t := 39) ?hr ?_; (case hd => rfl); (case hg => rfl); (case hr => first | (go_simp; done) | (go_simp; rfl)); intro g17 hg wz13_ hbox hb; clear ag5 bg5 cg5 dg5 ag15 bg15 cg15 dg15; obtain ⟨hz_0, hz_1, hzf_0, hzf_1⟩ := box2 hbox; have PX := Aside0.mk hbox; have PB := Aside0.mk hb; have PG := Aside0.mk (show w13_.heap.size ≤ g17 by rw [hg]; exact Nat.le_refl _); clear hbox hb hg; have K16 := tt_)
    | (go_at_call 41; clear K14; (with_reducible refine (spec_FromPermutation.calls k _ _ li tt tb true _ (Kd.C_below CF9_0.out.2.2 HC.out.tl.hd) CF9_0.out.2.1 AF11.out).mono ?_); rintro e w13_ ⟨v12_v0_, v12_v1_, rfl, ho0, ho1, hb⟩; clear ag5 bg5 cg5 dg5 ag15 bg15 cg15 dg15; obtain ⟨Ar12_0, cr12_0, rfl⟩ := Kd.R_slice ho0; have CF12_0 := Aside0.mk (Kd.R_reads' ho0); obtain ⟨Ar12_1, cr12_1, rfl⟩ := Kd.R_slice ho1; have CF12_1 := Aside0.mk (Kd.R_reads' ho1); replace HC := stp HC hb; clear hb ho0 ho1; have K15 := tt_; obtain ⟨ag5, bg5, cg5, dg5⟩ := bx BKg5 HC.out.t4.t4.tl.hd; obtain ⟨ag15, bg15, cg15, dg15⟩ := bx BKg15 HC.out.hd)
    | ((with_reducible refine gate_store (t := 39) (p := 15) (v := .tmp 95) rfl ?_); clear K13; refine store_event ?sg (t := 39) (p := 15) (v := .tmp 95) ?so ?sN (w1 := ((wz11_.setCell ⟨g15, 0, none⟩ (.slice Ar10_0 tt.length cr10_0)).setCell ⟨g15, 1, none⟩ (.slice Ar10_1 tb.length cr10_1))) ?sr ?_; (case sg => rfl); (case so => rfl); (case sN => rfl); (case sr => first | (go_simp; done) | (go_simp; rfl)); intro w12_ hw_; obtain ⟨hb, BKg15⟩ := boxst PX PB PG hw_; clear hw_ hz_0 hzf_0 hz_1 hzf_1; replace HC := stp HC hb; clear hb PX PB PG; have K14 := tt_; obtain ⟨ag5, bg5, cg5, dg5⟩ := bx BKg5 HC.out.t4.t4.hd; obtain ⟨ag15, bg15, cg15, dg15⟩ := box2 BKg15.out)
    | ((with_reducible refine gate_dst (N := 15) rfl ?_); clear K12; refine box_event ?hg (N := 15) ?hd (cs := #[.slice none 0 0, .slice none 0 0]) (t := 39) ?hr ?_; (case hd => rfl); (case hg => rfl); (case hr => first | (go_simp; done) | (go_simp; rfl)); intro g15 hg wz11_ hbox hb; clear ag5 bg5 cg5 dg5; obtain ⟨hz_0, hz_1, hzf_0, hzf_1⟩ := box2 hbox; have PX := Aside0.mk hbox; have PB := Aside0.mk hb; have PG := Aside0.mk (show w11_.heap.size ≤ g15 by rw [hg]; exact Nat.le_refl _); clear hbox hb hg; have K13 := tt_)
    | (go_at_call 40; clear K11; (with_reducible refine (impl_FromPermutation.calls k _ _ li tt tb true _ CF9_0.out.2.2 CF9_0.out.2.1 AF10.out).mono ?_); rintro e w11_ ⟨v10_v0_, v10_v1_, rfl, ho0, ho1, hb⟩; clear ag5 bg5 cg5 dg5; obtain ⟨Ar10_0, cr10_0, rfl⟩ := Kd.R_slice ho0; have CF10_0 := Aside0.mk (Kd.R_reads' ho0); obtain ⟨Ar10_1, cr10_1, rfl⟩ := Kd.R_slice ho1; have CF10_1 := Aside0.mk (Kd.R_reads' ho1); replace HC := stp HC hb; clear hb ho0 ho1; have K12 := tt_; obtain ⟨ag5, bg5, cg5, dg5⟩ := bx BKg5 HC.out.t4.tl.tl.tl.hd)
    | (go_at_call 39; clear K10; (with_reducible refine (spec_DrawFromPermutation.calls k _ _ l1 li _ (Kd.C_below HP1.out.2.2 HC.out.t4.t4.hd) HP1.out.2.1 AF9.out).mono ?_); rintro e w10_ ⟨v9_v0_, rfl, ho0, hb⟩; clear ag5 bg5 cg5 dg5; obtain ⟨Ar9_0, cr9_0, rfl⟩ := Kd.R_slice ho0; have CF9_0 := Aside0.mk (Kd.R_reads' ho0); replace HC := stp HC hb; clear hb ho0; have K11 := tt_; obtain ⟨ag5, bg5, cg5, dg5⟩ := bx BKg5 HC.out.t4.tl.tl.hd)
    | (go_at_call 11; clear K9; (with_reducible refine (laws_sSame.calls k _ _ cy _ _ cy true _ (Kd.C_below CF5_0.out.2.2 HC.out.tl.hd) CF5_0.out.2.1 (Kd.C_below CF6_0.out.2.2 HC.out.hd) CF6_0.out.2.1 AF8.out).mono ?_); rintro e w9_ ⟨rfl, hd⟩; clear ag5 bg5 cg5 dg5; have hb := drawn_below hd; clear hd; replace HC := stp HC hb; clear hb; have K10 := tt_; obtain ⟨ag5, bg5, cg5, dg5⟩ := bx BKg5 HC.out.t4.tl.hd)
    | (go_at_call 11; clear K8; (with_reducible refine (laws_sSame.calls k _ _ w_ _ _ w_ true _ (Kd.C_below CF3_0.out.2.2 HC.out.tl.tl.hd) CF3_0.out.2.1 (Kd.C_below CF4_0.out.2.2 HC.out.tl.hd) CF4_0.out.2.1 AF7.out).mono ?_); rintro e w8_ ⟨rfl, hd⟩; clear ag5 bg5 cg5 dg5; have hb := drawn_below hd; clear hd; replace HC := stp HC hb; clear hb; have K9 := tt_; obtain ⟨ag5, bg5, cg5, dg5⟩ := bx BKg5 HC.out.t4.hd)
    | (go_at_call 38; clear K7; (with_reducible refine (spec_CycleOf.calls k _ _ mt _ _ mb cy false _ (Kd.C_below CF1_0.out.2.2 HC.out.tl.tl.tl.hd) CF1_0.out.2.1 (Kd.C_below CF1_1.out.2.2 HC.out.tl.tl.tl.hd) CF1_1.out.2.1 AF6.out).mono ?_); rintro e w7_ ⟨v6_v0_, rfl, ho0, hb⟩; clear ag5 bg5 cg5 dg5; obtain ⟨Ar6_0, cr6_0, rfl⟩ := Kd.R_slice ho0; have CF6_0 := Aside0.mk (Kd.R_reads' ho0); replace HC := stp HC hb; clear hb ho0; have K8 := tt_; obtain ⟨ag5, bg5, cg5, dg5⟩ := bx BKg5 HC.out.tl.tl.tl.hd)
    | (go_at_call 37; clear K6; (with_reducible refine (impl_CycleOf.calls k _ _ mt _ _ mb cy false _ (Kd.C_below CF1_0.out.2.2 HC.out.tl.tl.hd) CF1_0.out.2.1 (Kd.C_below CF1_1.out.2.2 HC.out.tl.tl.hd) CF1_1.out.2.1 AF5.out).mono ?_); rintro e w6_ ⟨v5_v0_, rfl, ho0, hb⟩; clear ag5 bg5 cg5 dg5; obtain ⟨Ar5_0, cr5_0, rfl⟩ := Kd.R_slice ho0; have CF5_0 := Aside0.mk (Kd.R_reads' ho0); replace HC := stp HC hb; clear hb ho0; have K7 := tt_; obtain ⟨ag5, bg5, cg5, dg5⟩ := bx BKg5 HC.out.tl.tl.hd)
    | (go_at_call 36; clear K5; (with_reducible refine (spec_PermutationOf.calls k _ _ mt _ _ mb w_ false _ (Kd.C_below CF1_0.out.2.2 HC.out.tl.hd) CF1_0.out.2.1 (Kd.C_below CF1_1.out.2.2 HC.out.tl.hd) CF1_1.out.2.1 AF4.out).mono ?_); rintro e w5_ ⟨v4_v0_, rfl, ho0, hb⟩; clear ag5 bg5 cg5 dg5; obtain ⟨Ar4_0, cr4_0, rfl⟩ := Kd.R_slice ho0; have CF4_0 := Aside0.mk (Kd.R_reads' ho0); replace HC := stp HC hb; clear hb ho0; have K6 := tt_; obtain ⟨ag5, bg5, cg5, dg5⟩ := bx BKg5 HC.out.tl.hd)
    | (go_at_call 32; clear K4; (with_reducible refine (impl_PermutationOf.calls k _ _ mt _ _ mb w_ false _ (Kd.C_below CF1_0.out.2.2 HC.out.hd) CF1_0.out.2.1 (Kd.C_below CF1_1.out.2.2 HC.out.hd) CF1_1.out.2.1 AF3.out).mono ?_); rintro e w4_ ⟨v3_v0_, rfl, ho0, hb⟩; clear ag5 bg5 cg5 dg5; obtain ⟨Ar3_0, cr3_0, rfl⟩ := Kd.R_slice ho0; have CF3_0 := Aside0.mk (Kd.R_reads' ho0); replace HC := stp HC hb; clear hb ho0; have K5 := tt_; obtain ⟨ag5, bg5, cg5, dg5⟩ := bx BKg5 HC.out.hd)
    | ((with_reducible refine gate_store (t := 39) (p := 5) (v := .tmp 44) rfl ?_); clear K3; refine store_event ?sg (t := 39) (p := 5) (v := .tmp 44) ?so ?sN (w1 := ((wz2_.setCell ⟨g5, 0, none⟩ (.slice Ar1_0 mt.length cr1_0)).setCell ⟨g5, 1, none⟩ (.slice Ar1_1 mb.length cr1_1))) ?sr ?_; (case sg => rfl); (case so => rfl); (case sN => rfl); (case sr => first | (go_simp; done) | (go_simp; rfl)); intro w3_ hw_; obtain ⟨hb, BKg5⟩ := boxst PX PB PG hw_; clear hw_ hz_0 hzf_0 hz_1 hzf_1; replace HC := stp HC hb; clear hb PX PB PG; have K4 := tt_; obtain ⟨ag5, bg5, cg5, dg5⟩ := box2 BKg5.out)
    | ((with_reducible refine gate_dst (N := 5) rfl ?_); clear K2; refine box_event ?hg (N := 5) ?hd (cs := #[.slice none 0 0, .slice none 0 0]) (t := 39) ?hr ?_; (case hd => rfl); (case hg => rfl); (case hr => first | (go_simp; done) | (go_simp; rfl)); intro g5 hg wz2_ hbox hb; obtain ⟨hz_0, hz_1, hzf_0, hzf_1⟩ := box2 hbox; have PX := Aside0.mk hbox; have PB := Aside0.mk hb; have PG := Aside0.mk (show w2_.heap.size ≤ g5 by rw [hg]; exact Nat.le_refl _); clear hbox hb hg; have K3 := tt_)
    | (go_at_call 35; clear K1; (with_reducible refine (spec_DrawPermutationOf.calls k _ _ l0 mt mb _ (Kd.C_below HP0.out.2.2 HC.out.hd) HP0.out.2.1 AF2.out).mono ?_); rintro e w2_ ⟨v1_v0_, v1_v1_, rfl, ho0, ho1, hb⟩; obtain ⟨Ar1_0, cr1_0, rfl⟩ := Kd.R_slice ho0; have CF1_0 := Aside0.mk (Kd.R_reads' ho0); obtain ⟨Ar1_1, cr1_1, rfl⟩ := Kd.R_slice ho1; have CF1_1 := Aside0.mk (Kd.R_reads' ho1); replace HC := stp HC hb; clear hb ho0 ho1; have K2 := tt_)
    | (go_at_call 6; clear K0; (with_reducible refine (laws_big.calls _ _ l0 _ _ l1 false _ HP0.out.2.2 HP0.out.2.1 HP1.out.2.2 HP1.out.2.1 AF1.out).mono ?_); rintro e w1_ ⟨rfl, hd⟩; have hb := drawn_below hd; clear hd; replace HC := stp HC hb; clear hb; have K1 := tt_))
  go_loopg [161] pos.length (fun kq v161 w' => ∃ (i : Nat), v161 = .int .i64 i ∧ i ≤ pos.length ∧ pos.length - i ≤ kq ∧ Aside0 (Below w20_.heap.size w20_ w'))
  case atStart => exact ⟨0, by go_num, Nat.zero_le _, by omega, ⟨Below.refl _ _⟩⟩
  case round =>
    clear ag5 bg5 cg5 dg5 ag15 bg15 cg15 dg15 ag17 bg17 cg17 dg17
    obtain ⟨i, rfl, hi, hg, HBL⟩ := hrel
    replace HC := stp HC HBL.out
    have K24 := tt_
    clear K23
    by_cases hlt : i < pos.length
    · have hltz : (i : Int) < (pos.length : Int) := by omega
      have p5 : (0 : Int) ≤ (i : Int) := by omega
      obtain ⟨ad, ead, hx⟩ := Kd.at_int (Kd.C_below CF18_0.out.2.2 HC.out.tl.hd) (i : Int) p5 hltz
      cases ead
      simp only [Int.toNat_natCast] at hx
      have hw1 : wrap64 ((i : Int) + 1) = ((i + 1 : Nat) : Int) := by have := AHPos.out.1; unfold wrap64; omega
      have hs1 : Value.int .i64 (wrap64 ((i : Int) + 1)) = Value.int .i64 ((i + 1 : Nat) : Int) := by rw [hw1]
      have hi1 : i + 1 ≤ pos.length := hlt
      have hv := AHPos.out.2 i hlt
      have b8 : (rd pos (i : Int) != Int.tmod (i : Int) 2) = false := by rw [hv, Int.tmod_eq_emod_of_nonneg (by omega)]; exact bne_self_eq_false _
      have b9 : (rd pos (i : Int) != (i : Int) % 2) = false := by rw [hv]; exact bne_self_eq_false _
      clear hw1 hv
      replace p5 := eq_true p5
      replace hltz := eq_true hltz
      go_wp2
      go_roundg (pos.length - (i + 1))
      case measure => exact Nat.lt_of_lt_of_le (Nat.sub_lt_sub_left hlt (Nat.lt_succ_self i)) hg
      case rel => exact ⟨i + 1, hs1, hi1, Nat.le_refl _, HBL⟩
    · have hltz : ¬ ((i : Int) < (pos.length : Int)) := by omega
      obtain rfl : i = pos.length := by omega
      clear hi hg HBL
      obtain ⟨ag5, bg5, cg5, dg5⟩ := bx BKg5 HC.out.t16.tl.hd
      obtain ⟨ag15, bg15, cg15, dg15⟩ := bx BKg15 HC.out.t4.t4.hd
      obtain ⟨ag17, bg17, cg17, dg17⟩ := bx BKg17 HC.out.t4.tl.tl.hd
      go_wp2_with (first
        | (go_at_call 11; clear K28; (with_reducible refine (laws_sSame.calls k _ _ ps _ _ ps true _ (Kd.C_below CF23_0.out.2.2 HC.out.hd) CF23_0.out.2.1 CF24_0.out.2.2 CF24_0.out.2.1 AF23.out).mono ?_); rintro e w26_ ⟨rfl, hd⟩; clear ag5 bg5 cg5 dg5 ag15 bg15 cg15 dg15 ag17 bg17 cg17 dg17; have hb := drawn_below hd; clear hd; replace HC := stp HC hb; clear hb; have K29 := tt_; obtain ⟨ag5, bg5, cg5, dg5⟩ := bx BKg5 HC.out.t16.t4.tl.tl.hd; obtain ⟨ag15, bg15, cg15, dg15⟩ := bx BKg15 HC.out.t4.t4.t4.tl.hd; obtain ⟨ag17, bg17, cg17, dg17⟩ := bx BKg17 HC.out.t4.t4.tl.tl.tl.hd)
        | (go_at_call 46; clear K27; (with_reducible refine (spec_PositionsOf.calls k _ _ s_ ps pb _ (Kd.C_below CF22_0.out.2.2 HC.out.hd) CF22_0.out.2.1 AF22.out).mono ?_); rintro e w25_ ⟨v24_v0_, rfl, ho0, hb⟩; clear ag5 bg5 cg5 dg5 ag15 bg15 cg15 dg15 ag17 bg17 cg17 dg17; obtain ⟨Ar24_0, cr24_0, rfl⟩ := Kd.R_slice ho0; have CF24_0 := Aside0.mk (Kd.R_reads' ho0); replace HC := stp HC hb; clear hb ho0; have K28 := tt_; obtain ⟨ag5, bg5, cg5, dg5⟩ := bx BKg5 HC.out.t16.t4.tl.hd; obtain ⟨ag15, bg15, cg15, dg15⟩ := bx BKg15 HC.out.t4.t4.t4.hd; obtain ⟨ag17, bg17, cg17, dg17⟩ := bx BKg17 HC.out.t4.t4.tl.tl.hd)
        | (go_at_call 44; clear K26; (with_reducible refine (impl_PositionsOf.calls k _ _ s_ ps pb _ CF22_0.out.2.2 CF22_0.out.2.1 AF21.out).mono ?_); rintro e w24_ ⟨v23_v0_, rfl, ho0, hb⟩; clear ag5 bg5 cg5 dg5 ag15 bg15 cg15 dg15 ag17 bg17 cg17 dg17; obtain ⟨Ar23_0, cr23_0, rfl⟩ := Kd.R_slice ho0; have CF23_0 := Aside0.mk (Kd.R_reads' ho0); replace HC := stp HC hb; clear hb ho0; have K27 := tt_; obtain ⟨ag5, bg5, cg5, dg5⟩ := bx BKg5 HC.out.t16.t4.hd; obtain ⟨ag15, bg15, cg15, dg15⟩ := bx BKg15 HC.out.t4.t4.tl.tl.tl.hd; obtain ⟨ag17, bg17, cg17, dg17⟩ := bx BKg17 HC.out.t4.t4.tl.hd)
        | (go_at_call 45; clear K25; (with_reducible refine (spec_DrawPositionsOf.calls k _ _ l1 s_ _ (Kd.C_below HP1.out.2.2 HC.out.t16.t4.tl.hd) HP1.out.2.1 AF20.out).mono ?_); rintro e w23_ ⟨v22_v0_, rfl, ho0, hb⟩; clear ag5 bg5 cg5 dg5 ag15 bg15 cg15 dg15 ag17 bg17 cg17 dg17; obtain ⟨Ar22_0, cr22_0, rfl⟩ := Kd.R_slice ho0; have CF22_0 := Aside0.mk (Kd.R_reads' ho0); replace HC := stp HC hb; clear hb ho0; have K26 := tt_; obtain ⟨ag5, bg5, cg5, dg5⟩ := bx BKg5 HC.out.t16.tl.tl.tl.hd; obtain ⟨ag15, bg15, cg15, dg15⟩ := bx BKg15 HC.out.t4.t4.tl.tl.hd; obtain ⟨ag17, bg17, cg17, dg17⟩ := bx BKg17 HC.out.t4.t4.hd)
        | (go_at_call 8; clear K24; (with_reducible refine (impl_CrossingOf.calls k _ _ li cr false _ (Kd.C_below CF9_0.out.2.2 HC.out.t4.t4.tl.tl.hd) CF9_0.out.2.1 AF19.out).mono ?_); rintro e w22_ ⟨v21_v0_, rfl, ho0, hb⟩; clear ag5 bg5 cg5 dg5 ag15 bg15 cg15 dg15 ag17 bg17 cg17 dg17; obtain ⟨Ar21_0, cr21_0, rfl⟩ := Kd.R_slice ho0; have CF21_0 := Aside0.mk (Kd.R_reads' ho0); replace HC := stp HC hb; clear hb ho0; have K25 := tt_; obtain ⟨ag5, bg5, cg5, dg5⟩ := bx BKg5 HC.out.t16.tl.tl.hd; obtain ⟨ag15, bg15, cg15, dg15⟩ := bx BKg15 HC.out.t4.t4.tl.hd; obtain ⟨ag17, bg17, cg17, dg17⟩ := bx BKg17 HC.out.t4.tl.tl.tl.hd))
      go_ret
      exact ⟨rfl, HC.out.tl.tl.tl.tl.tl.tl.tl.tl.tl.tl.tl.tl.tl.tl.tl.tl.tl.tl.tl.tl.tl.tl.tl.tl.tl.hd⟩
def m_true_true.Told (k : Nat) (l0 : List Int) (l1 : List Int) : Prop := ∃ (mt : List Int) (mb : List Int) (w_ : List Int) (cy : List Int) (li : List Int) (tt : List Int) (tb : List Int) (four : Bool) (pos : List Int) (cr : List Int) (s_ : List Int) (ps : List Int) (pb : Bool), (laws_big.f l0 l1 = some false) ∧ (spec_DrawPermutationOf.f k l0 = some (mt, mb)) ∧ (impl_PermutationOf.f k mt mb = some (w_, true)) ∧ (spec_PermutationOf.f k mt mb = some (w_, true)) ∧ (impl_CycleOf.f k mt mb = some (cy, true)) ∧ (spec_CycleOf.f k mt mb = some (cy, true)) ∧ (laws_sSame.f k w_ w_ = some true) ∧ (laws_sSame.f k cy cy = some true) ∧ (spec_DrawFromPermutation.f k l1 = some li) ∧ (impl_FromPermutation.f k li = some (tt, tb, true)) ∧ (spec_FromPermutation.f k li = some (tt, tb, true)) ∧ (impl_IsPermutation.f k li = some (true, four)) ∧ (spec_IsPermutation.f k li = some (true, four)) ∧ (laws_sSamePair.f k tt tb tt tb = some true) ∧ (impl_PermutationOf.f k tt tb = some (li, true)) ∧ (impl_PositionsOf.f k li = some (pos, true)) ∧ (laws_sSame.f k li li = some true) ∧ (pos.length ≤ 1000 ∧ ∀ i : Nat, i < pos.length → rd pos (i : Int) = (i : Int) % 2) ∧ (impl_CrossingOf.f k li = some (cr, false)) ∧ (spec_DrawPositionsOf.f k l1 = some s_) ∧ (impl_PositionsOf.f k s_ = some (ps, pb)) ∧ (spec_PositionsOf.f k s_ = some (ps, pb)) ∧ (laws_sSame.f k ps ps = some true) ∧ (impl_FromPermutation.f k w_ = some (mt, mb, true)) ∧ (w_.length ≤ 1000 ∧ atf w_ 0 = 0 ∧ ∀ i : Nat, i < w_.length → 0 ≤ rd w_ (i : Int) ∧ rd w_ (i : Int) < (cy.length : Int) ∧ rd cy (rd w_ (i : Int)) = atf w_ (i + 1)) ∧ (laws_sSamePair.f k mt mb mt mb = some true)
set_option maxHeartbeats 16000000 in
set_option maxRecDepth 100000 in
theorem m_true_true (k : Nat) (l0 : List Int) (l1 : List Int) (A0 : Option Addr) (c0 : Nat) (A1 : Option Addr) (c1 : Nat) (mt : List Int) (mb : List Int) (w_ : List Int) (cy : List Int) (li : List Int) (tt : List Int) (tb : List Int) (four : Bool) (pos : List Int) (cr : List Int) (s_ : List Int) (ps : List Int) (pb : Bool) (w : World) (hr0 : Kd.C (Kd.int .u8) w A0 l0.length l0) (hc0 : l0.length ≤ c0) (hr1 : Kd.C (Kd.int .u8) w A1 l1.length l1) (hc1 : l1.length ≤ c1)
    (HF : (laws_big.f l0 l1 = some false) ∧ (spec_DrawPermutationOf.f k l0 = some (mt, mb)) ∧ (impl_PermutationOf.f k mt mb = some (w_, true)) ∧ (spec_PermutationOf.f k mt mb = some (w_, true)) ∧ (impl_CycleOf.f k mt mb = some (cy, true)) ∧ (spec_CycleOf.f k mt mb = some (cy, true)) ∧ (laws_sSame.f k w_ w_ = some true) ∧ (laws_sSame.f k cy cy = some true) ∧ (spec_DrawFromPermutation.f k l1 = some li) ∧ (impl_FromPermutation.f k li = some (tt, tb, true)) ∧ (spec_FromPermutation.f k li = some (tt, tb, true)) ∧ (impl_IsPermutation.f k li = some (true, four)) ∧ (spec_IsPermutation.f k li = some (true, four)) ∧ (laws_sSamePair.f k tt tb tt tb = some true) ∧ (impl_PermutationOf.f k tt tb = some (li, true)) ∧ (impl_PositionsOf.f k li = some (pos, true)) ∧ (laws_sSame.f k li li = some true) ∧ (pos.length ≤ 1000 ∧ ∀ i : Nat, i < pos.length → rd pos (i : Int) = (i : Int) % 2) ∧ (impl_CrossingOf.f k li = some (cr, false)) ∧ (spec_DrawPositionsOf.f k l1 = some s_) ∧ (impl_PositionsOf.f k s_ = some (ps, pb)) ∧ (spec_PositionsOf.f k s_ = some (ps, pb)) ∧ (laws_sSame.f k ps ps = some true) ∧ (impl_FromPermutation.f k w_ = some (mt, mb, true)) ∧ (w_.length ≤ 1000 ∧ atf w_ 0 = 0 ∧ ∀ i : Nat, i < w_.length → 0 ≤ rd w_ (i : Int) ∧ rd w_ (i : Int) < (cy.length : Int) ∧ rd cy (rd w_ (i : Int)) = atf w_ (i + 1)) ∧ (laws_sSamePair.f k mt mb mt mb = some true)) :
    Calls Try.prog 5 #[.slice A0 l0.length c0, .slice A1 l1.length c1] w fun e w' => e = .returned (.bool true) ∧ Below w.heap.size w w' := by
  obtain ⟨F1, F2, F3, F4, F5, F6, F7, F8, F9, F10, F11, F12, F13, F14, F15, F16, F17, HPos, F19, F20, F21, F22, F23, F24, HCyc, F26⟩ := HF
  have HP0 := Aside0.mk (show l0.length = l0.length ∧ l0.length ≤ c0 ∧ _ from ⟨rfl, hc0, hr0⟩)
  clear hr0 hc0
  have HP1 := Aside0.mk (show l1.length = l1.length ∧ l1.length ≤ c1 ∧ _ from ⟨rfl, hc1, hr1⟩)
  clear hr1 hc1
  have AF1 := Aside0.mk F1
  clear F1
  have AF2 := Aside0.mk F2
  clear F2
  have AF3 := Aside0.mk F3
  clear F3
  have AF4 := Aside0.mk F4
  clear F4
  have AF5 := Aside0.mk F5
  clear F5
  have AF6 := Aside0.mk F6
  clear F6
  have AF7 := Aside0.mk F7
  clear F7
  have AF8 := Aside0.mk F8
  clear F8
  have AF9 := Aside0.mk F9
  clear F9
  have AF10 := Aside0.mk F10
  clear F10
  have AF11 := Aside0.mk F11
  clear F11
  have AF12 := Aside0.mk F12
  clear F12
  have AF13 := Aside0.mk F13
  clear F13
  have AF14 := Aside0.mk F14
  clear F14
  have AF15 := Aside0.mk F15
  clear F15
  have AF16 := Aside0.mk F16
  clear F16
  have AF17 := Aside0.mk F17
  clear F17
  have AHPos := Aside0.mk HPos
  clear HPos
  have AF19 := Aside0.mk F19
  clear F19
  have AF20 := Aside0.mk F20
  clear F20
  have AF21 := Aside0.mk F21
  clear F21
  have AF22 := Aside0.mk F22
  clear F22
  have AF23 := Aside0.mk F23
  clear F23
  have AF24 := Aside0.mk F24
  clear F24
  have AHCyc := Aside0.mk HCyc
  clear HCyc
  have AF26 := Aside0.mk F26
  clear F26
  have bf : (four != four) = false := bne_self_eq_false four
  have bp : (pb != pb) = false := bne_self_eq_false pb
  have HC := Aside0.mk (show Ch [] w from trivial)
  have K0 := Aside0.mk True.intro
  go_enter Try.func5, Try.ntmps5
  go_wp2_with (first
    | (go_at_call 11; clear K22; (with_reducible refine (laws_sSame.calls k _ _ li _ _ li true _ (Kd.C_below CF17_0.out.2.2 HC.out.hd) CF17_0.out.2.1 (Kd.C_below CF9_0.out.2.2 HC.out.t4.t4.hd) CF9_0.out.2.1 AF17.out).mono ?_); rintro e w20_ ⟨rfl, hd⟩; clear ag5 bg5 cg5 dg5 ag15 bg15 cg15 dg15 ag17 bg17 cg17 dg17; have hb := drawn_below hd; clear hd; replace HC := stp HC hb; clear hb; have K23 := tt_; obtain ⟨ag5, bg5, cg5, dg5⟩ := bx BKg5 HC.out.t16.hd; obtain ⟨ag15, bg15, cg15, dg15⟩ := bx BKg15 HC.out.t4.tl.tl.tl.hd; obtain ⟨ag17, bg17, cg17, dg17⟩ := bx BKg17 HC.out.t4.tl.hd)
    | (go_at_call 44; clear K21; (with_reducible refine (impl_PositionsOf.calls k _ _ li pos true _ (Kd.C_below CF9_0.out.2.2 HC.out.t4.tl.tl.tl.hd) CF9_0.out.2.1 AF16.out).mono ?_); rintro e w19_ ⟨v18_v0_, rfl, ho0, hb⟩; clear ag5 bg5 cg5 dg5 ag15 bg15 cg15 dg15 ag17 bg17 cg17 dg17; obtain ⟨Ar18_0, cr18_0, rfl⟩ := Kd.R_slice ho0; have CF18_0 := Aside0.mk (Kd.R_reads' ho0); replace HC := stp HC hb; clear hb ho0; have K22 := tt_; obtain ⟨ag5, bg5, cg5, dg5⟩ := bx BKg5 HC.out.t4.t4.t4.tl.tl.tl.hd; obtain ⟨ag15, bg15, cg15, dg15⟩ := bx BKg15 HC.out.t4.tl.tl.hd; obtain ⟨ag17, bg17, cg17, dg17⟩ := bx BKg17 HC.out.t4.hd)
    | (go_at_call 32; clear K20; (with_reducible refine (impl_PermutationOf.calls k _ _ tt _ _ tb li true _ (Kd.C_below CF10_0.out.2.2 HC.out.t4.tl.hd) CF10_0.out.2.1 (Kd.C_below CF10_1.out.2.2 HC.out.t4.tl.hd) CF10_1.out.2.1 AF15.out).mono ?_); rintro e w18_ ⟨v17_v0_, rfl, ho0, hb⟩; clear ag5 bg5 cg5 dg5 ag15 bg15 cg15 dg15 ag17 bg17 cg17 dg17; obtain ⟨Ar17_0, cr17_0, rfl⟩ := Kd.R_slice ho0; have CF17_0 := Aside0.mk (Kd.R_reads' ho0); replace HC := stp HC hb; clear hb ho0; have K21 := tt_; obtain ⟨ag5, bg5, cg5, dg5⟩ := bx BKg5 HC.out.t4.t4.t4.tl.tl.hd; obtain ⟨ag15, bg15, cg15, dg15⟩ := bx BKg15 HC.out.t4.tl.hd; obtain ⟨ag17, bg17, cg17, dg17⟩ := bx BKg17 HC.out.tl.tl.tl.hd)
    | (go_at_call 29; clear K19; (with_reducible refine (laws_sSamePair.calls k _ _ tt _ _ tb _ _ tt _ _ tb true _ (Kd.C_below CF10_0.out.2.2 HC.out.t4.hd) CF10_0.out.2.1 (Kd.C_below CF10_1.out.2.2 HC.out.t4.hd) CF10_1.out.2.1 (Kd.C_below CF12_0.out.2.2 HC.out.tl.tl.hd) CF12_0.out.2.1 (Kd.C_below CF12_1.out.2.2 HC.out.tl.tl.hd) CF12_1.out.2.1 AF14.out).mono ?_); rintro e w17_ ⟨rfl, hb⟩; clear ag5 bg5 cg5 dg5 ag15 bg15 cg15 dg15 ag17 bg17 cg17 dg17; replace HC := stp HC hb; clear hb; have K20 := tt_; obtain ⟨ag5, bg5, cg5, dg5⟩ := bx BKg5 HC.out.t4.t4.t4.tl.hd; obtain ⟨ag15, bg15, cg15, dg15⟩ := bx BKg15 HC.out.t4.hd; obtain ⟨ag17, bg17, cg17, dg17⟩ := bx BKg17 HC.out.tl.tl.hd)
    | (go_at_call 43; clear K18; (with_reducible refine (spec_IsPermutation.calls k _ _ li true four _ (Kd.C_below CF9_0.out.2.2 HC.out.t4.hd) CF9_0.out.2.1 AF13.out).mono ?_); rintro e w16_ ⟨rfl, hb⟩; clear ag5 bg5 cg5 dg5 ag15 bg15 cg15 dg15 ag17 bg17 cg17 dg17; replace HC := stp HC hb; clear hb; have K19 := tt_; obtain ⟨ag5, bg5, cg5, dg5⟩ := bx BKg5 HC.out.t4.t4.t4.hd; obtain ⟨ag15, bg15, cg15, dg15⟩ := bx BKg15 HC.out.tl.tl.tl.hd; obtain ⟨ag17, bg17, cg17, dg17⟩ := bx BKg17 HC.out.tl.hd)
    | (go_at_call 42; clear K17; (with_reducible refine (impl_IsPermutation.calls k _ _ li true four _ (Kd.C_below CF9_0.out.2.2 HC.out.tl.tl.tl.hd) CF9_0.out.2.1 AF12.out).mono ?_); rintro e w15_ ⟨rfl, hb⟩; clear ag5 bg5 cg5 dg5 ag15 bg15 cg15 dg15 ag17 bg17 cg17 dg17; replace HC := stp HC hb; clear hb; have K18 := tt_; obtain ⟨ag5, bg5, cg5, dg5⟩ := bx BKg5 HC.out.t4.t4.tl.tl.tl.hd; obtain ⟨ag15, bg15, cg15, dg15⟩ := bx BKg15 HC.out.tl.tl.hd; obtain ⟨ag17, bg17, cg17, dg17⟩ := bx BKg17 HC.out.hd)
    | ((with_reducible refine gate_store (t := 39) (p := 17) (v := .tmp 100) rfl ?_); clear K16; refine store_event ?sg (t := 39) (p := 17) (v := .tmp 100) ?so ?sN (w1 := ((wz13_.setCell ⟨g17, 0, none⟩ (.slice Ar12_0 tt.length cr12_0)).setCell ⟨g17, 1, none⟩ (.slice Ar12_1 tb.length cr12_1))) ?sr ?_; (case sg => rfl); (case so => rfl); (case sN => rfl); (case sr => first | (go_simp; done) | (go_simp; rfl)); intro w14_ hw_; obtain ⟨hb, BKg17⟩ := boxst PX PB PG hw_; clear hw_ hz_0 hzf_0 hz_1 hzf_1; replace HC := stp HC hb; clear hb PX PB PG; have K17 := tt_; obtain ⟨ag5, bg5, cg5, dg5⟩ := bx BKg5 HC.out.t4.t4.tl.tl.hd; obtain ⟨ag15, bg15, cg15, dg15⟩ := bx BKg15 HC.out.tl.hd; obtain ⟨ag17, bg17, cg17, dg17⟩ := box2 BKg17.out)
    | ((with_reducible refine gate_dst (N := 17) rfl ?_); clear K15; refine box_event ?hg (N := 17) ?hd (cs := #[.slice none 0 0, .slice none 0 0]) (t := 39) ?hr ?_; (case hd => rfl); (case hg => rfl); (case hr => first | (go_simp; done) | (go_simp; rfl)); intro g17 hg wz13_ hbox hb; clear ag5 bg5 cg5 dg5 ag15 bg15 cg15 dg15; obtain ⟨hz_0, hz_1, hzf_0, hzf_1⟩ := box2 hbox; have PX := Aside0.mk hbox; have PB := Aside0.mk hb; have PG := Aside0.mk (show w13_.heap.size ≤ g17 by rw [hg]; exact Nat.le_refl _); clear hbox hb hg; have K16 := tt_)
    | (go_at_call 41; clear K14; (with_reducible refine (spec_FromPermutation.calls k _ _ li tt tb true _ (Kd.C_below CF9_0.out.2.2 HC.out.tl.hd) CF9_0.out.2.1 AF11.out).mono ?_); rintro e w13_ ⟨v12_v0_, v12_v1_, rfl, ho0, ho1, hb⟩; clear ag5 bg5 cg5 dg5 ag15 bg15 cg15 dg15; obtain ⟨Ar12_0, cr12_0, rfl⟩ := Kd.R_slice ho0; have CF12_0 := Aside0.mk (Kd.R_reads' ho0); obtain ⟨Ar12_1, cr12_1, rfl⟩ := Kd.R_slice ho1; have CF12_1 := Aside0.mk (Kd.R_reads' ho1); replace HC := stp HC hb; clear hb ho0 ho1; have K15 := tt_; obtain ⟨ag5, bg5, cg5, dg5⟩ := bx BKg5 HC.out.t4.t4.tl.hd; obtain ⟨ag15, bg15, cg15, dg15⟩ := bx BKg15 HC.out.hd)
    | ((with_reducible refine gate_store (t := 39) (p := 15) (v := .tmp 95) rfl ?_); clear K13; refine store_event ?sg (t := 39) (p := 15) (v := .tmp 95) ?so ?sN (w1 := ((wz11_.setCell ⟨g15, 0, none⟩ (.slice Ar10_0 tt.length cr10_0)).setCell ⟨g15, 1, none⟩ (.slice Ar10_1 tb.length cr10_1))) ?sr ?_; (case sg => rfl); (case so => rfl); (case sN => rfl); (case sr => first | (go_simp; done) | (go_simp; rfl)); intro w12_ hw_; obtain ⟨hb, BKg15⟩ := boxst PX PB PG hw_; clear hw_ hz_0 hzf_0 hz_1 hzf_1; replace HC := stp HC hb; clear hb PX PB PG; have K14 := tt_; obtain ⟨ag5, bg5, cg5, dg5⟩ := bx BKg5 HC.out.t4.t4.hd; obtain ⟨ag15, bg15, cg15, dg15⟩ := box2 BKg15.out)
    | ((with_reducible refine gate_dst (N := 15) rfl ?_); clear K12; refine box_event ?hg (N := 15) ?hd (cs := #[.slice none 0 0, .slice none 0 0]) (t := 39) ?hr ?_; (case hd => rfl); (case hg => rfl); (case hr => first | (go_simp; done) | (go_simp; rfl)); intro g15 hg wz11_ hbox hb; clear ag5 bg5 cg5 dg5; obtain ⟨hz_0, hz_1, hzf_0, hzf_1⟩ := box2 hbox; have PX := Aside0.mk hbox; have PB := Aside0.mk hb; have PG := Aside0.mk (show w11_.heap.size ≤ g15 by rw [hg]; exact Nat.le_refl _); clear hbox hb hg; have K13 := tt_)
    | (go_at_call 40; clear K11; (with_reducible refine (impl_FromPermutation.calls k _ _ li tt tb true _ CF9_0.out.2.2 CF9_0.out.2.1 AF10.out).mono ?_); rintro e w11_ ⟨v10_v0_, v10_v1_, rfl, ho0, ho1, hb⟩; clear ag5 bg5 cg5 dg5; obtain ⟨Ar10_0, cr10_0, rfl⟩ := Kd.R_slice ho0; have CF10_0 := Aside0.mk (Kd.R_reads' ho0); obtain ⟨Ar10_1, cr10_1, rfl⟩ := Kd.R_slice ho1; have CF10_1 := Aside0.mk (Kd.R_reads' ho1); replace HC := stp HC hb; clear hb ho0 ho1; have K12 := tt_; obtain ⟨ag5, bg5, cg5, dg5⟩ := bx BKg5 HC.out.t4.tl.tl.tl.hd)
    | (go_at_call 39; clear K10; (with_reducible refine (spec_DrawFromPermutation.calls k _ _ l1 li _ (Kd.C_below HP1.out.2.2 HC.out.t4.t4.hd) HP1.out.2.1 AF9.out).mono ?_); rintro e w10_ ⟨v9_v0_, rfl, ho0, hb⟩; clear ag5 bg5 cg5 dg5; obtain ⟨Ar9_0, cr9_0, rfl⟩ := Kd.R_slice ho0; have CF9_0 := Aside0.mk (Kd.R_reads' ho0); replace HC := stp HC hb; clear hb ho0; have K11 := tt_; obtain ⟨ag5, bg5, cg5, dg5⟩ := bx BKg5 HC.out.t4.tl.tl.hd)
    | (go_at_call 11; clear K9; (with_reducible refine (laws_sSame.calls k _ _ cy _ _ cy true _ (Kd.C_below CF5_0.out.2.2 HC.out.tl.hd) CF5_0.out.2.1 (Kd.C_below CF6_0.out.2.2 HC.out.hd) CF6_0.out.2.1 AF8.out).mono ?_); rintro e w9_ ⟨rfl, hd⟩; clear ag5 bg5 cg5 dg5; have hb := drawn_below hd; clear hd; replace HC := stp HC hb; clear hb; have K10 := tt_; obtain ⟨ag5, bg5, cg5, dg5⟩ := bx BKg5 HC.out.t4.tl.hd)
    | (go_at_call 11; clear K8; (with_reducible refine (laws_sSame.calls k _ _ w_ _ _ w_ true _ (Kd.C_below CF3_0.out.2.2 HC.out.tl.tl.hd) CF3_0.out.2.1 (Kd.C_below CF4_0.out.2.2 HC.out.tl.hd) CF4_0.out.2.1 AF7.out).mono ?_); rintro e w8_ ⟨rfl, hd⟩; clear ag5 bg5 cg5 dg5; have hb := drawn_below hd; clear hd; replace HC := stp HC hb; clear hb; have K9 := tt_; obtain ⟨ag5, bg5, cg5, dg5⟩ := bx BKg5 HC.out.t4.hd)
    | (go_at_call 38; clear K7; (with_reducible refine (spec_CycleOf.calls k _ _ mt _ _ mb cy true _ (Kd.C_below CF1_0.out.2.2 HC.out.tl.tl.tl.hd) CF1_0.out.2.1 (Kd.C_below CF1_1.out.2.2 HC.out.tl.tl.tl.hd) CF1_1.out.2.1 AF6.out).mono ?_); rintro e w7_ ⟨v6_v0_, rfl, ho0, hb⟩; clear ag5 bg5 cg5 dg5; obtain ⟨Ar6_0, cr6_0, rfl⟩ := Kd.R_slice ho0; have CF6_0 := Aside0.mk (Kd.R_reads' ho0); replace HC := stp HC hb; clear hb ho0; have K8 := tt_; obtain ⟨ag5, bg5, cg5, dg5⟩ := bx BKg5 HC.out.tl.tl.tl.hd)
    | (go_at_call 37; clear K6; (with_reducible refine (impl_CycleOf.calls k _ _ mt _ _ mb cy true _ (Kd.C_below CF1_0.out.2.2 HC.out.tl.tl.hd) CF1_0.out.2.1 (Kd.C_below CF1_1.out.2.2 HC.out.tl.tl.hd) CF1_1.out.2.1 AF5.out).mono ?_); rintro e w6_ ⟨v5_v0_, rfl, ho0, hb⟩; clear ag5 bg5 cg5 dg5; obtain ⟨Ar5_0, cr5_0, rfl⟩ := Kd.R_slice ho0; have CF5_0 := Aside0.mk (Kd.R_reads' ho0); replace HC := stp HC hb; clear hb ho0; have K7 := tt_; obtain ⟨ag5, bg5, cg5, dg5⟩ := bx BKg5 HC.out.tl.tl.hd)
    | (go_at_call 36; clear K5; (with_reducible refine (spec_PermutationOf.calls k _ _ mt _ _ mb w_ true _ (Kd.C_below CF1_0.out.2.2 HC.out.tl.hd) CF1_0.out.2.1 (Kd.C_below CF1_1.out.2.2 HC.out.tl.hd) CF1_1.out.2.1 AF4.out).mono ?_); rintro e w5_ ⟨v4_v0_, rfl, ho0, hb⟩; clear ag5 bg5 cg5 dg5; obtain ⟨Ar4_0, cr4_0, rfl⟩ := Kd.R_slice ho0; have CF4_0 := Aside0.mk (Kd.R_reads' ho0); replace HC := stp HC hb; clear hb ho0; have K6 := tt_; obtain ⟨ag5, bg5, cg5, dg5⟩ := bx BKg5 HC.out.tl.hd)
    | (go_at_call 32; clear K4; (with_reducible refine (impl_PermutationOf.calls k _ _ mt _ _ mb w_ true _ (Kd.C_below CF1_0.out.2.2 HC.out.hd) CF1_0.out.2.1 (Kd.C_below CF1_1.out.2.2 HC.out.hd) CF1_1.out.2.1 AF3.out).mono ?_); rintro e w4_ ⟨v3_v0_, rfl, ho0, hb⟩; clear ag5 bg5 cg5 dg5; obtain ⟨Ar3_0, cr3_0, rfl⟩ := Kd.R_slice ho0; have CF3_0 := Aside0.mk (Kd.R_reads' ho0); replace HC := stp HC hb; clear hb ho0; have K5 := tt_; obtain ⟨ag5, bg5, cg5, dg5⟩ := bx BKg5 HC.out.hd)
    | ((with_reducible refine gate_store (t := 39) (p := 5) (v := .tmp 44) rfl ?_); clear K3; refine store_event ?sg (t := 39) (p := 5) (v := .tmp 44) ?so ?sN (w1 := ((wz2_.setCell ⟨g5, 0, none⟩ (.slice Ar1_0 mt.length cr1_0)).setCell ⟨g5, 1, none⟩ (.slice Ar1_1 mb.length cr1_1))) ?sr ?_; (case sg => rfl); (case so => rfl); (case sN => rfl); (case sr => first | (go_simp; done) | (go_simp; rfl)); intro w3_ hw_; obtain ⟨hb, BKg5⟩ := boxst PX PB PG hw_; clear hw_ hz_0 hzf_0 hz_1 hzf_1; replace HC := stp HC hb; clear hb PX PB PG; have K4 := tt_; obtain ⟨ag5, bg5, cg5, dg5⟩ := box2 BKg5.out)
    | ((with_reducible refine gate_dst (N := 5) rfl ?_); clear K2; refine box_event ?hg (N := 5) ?hd (cs := #[.slice none 0 0, .slice none 0 0]) (t := 39) ?hr ?_; (case hd => rfl); (case hg => rfl); (case hr => first | (go_simp; done) | (go_simp; rfl)); intro g5 hg wz2_ hbox hb; obtain ⟨hz_0, hz_1, hzf_0, hzf_1⟩ := box2 hbox; have PX := Aside0.mk hbox; have PB := Aside0.mk hb; have PG := Aside0.mk (show w2_.heap.size ≤ g5 by rw [hg]; exact Nat.le_refl _); clear hbox hb hg; have K3 := tt_)
    | (go_at_call 35; clear K1; (with_reducible refine (spec_DrawPermutationOf.calls k _ _ l0 mt mb _ (Kd.C_below HP0.out.2.2 HC.out.hd) HP0.out.2.1 AF2.out).mono ?_); rintro e w2_ ⟨v1_v0_, v1_v1_, rfl, ho0, ho1, hb⟩; obtain ⟨Ar1_0, cr1_0, rfl⟩ := Kd.R_slice ho0; have CF1_0 := Aside0.mk (Kd.R_reads' ho0); obtain ⟨Ar1_1, cr1_1, rfl⟩ := Kd.R_slice ho1; have CF1_1 := Aside0.mk (Kd.R_reads' ho1); replace HC := stp HC hb; clear hb ho0 ho1; have K2 := tt_)
    | (go_at_call 6; clear K0; (with_reducible refine (laws_big.calls _ _ l0 _ _ l1 false _ HP0.out.2.2 HP0.out.2.1 HP1.out.2.2 HP1.out.2.1 AF1.out).mono ?_); rintro e w1_ ⟨rfl, hd⟩; have hb := drawn_below hd; clear hd; replace HC := stp HC hb; clear hb; have K1 := tt_))
  go_loopg [161] pos.length (fun kq v161 w' => ∃ (i : Nat), v161 = .int .i64 i ∧ i ≤ pos.length ∧ pos.length - i ≤ kq ∧ Aside0 (Below w20_.heap.size w20_ w'))
  case atStart => exact ⟨0, by go_num, Nat.zero_le _, by omega, ⟨Below.refl _ _⟩⟩
  case round =>
    clear ag5 bg5 cg5 dg5 ag15 bg15 cg15 dg15 ag17 bg17 cg17 dg17
    obtain ⟨i, rfl, hi, hg, HBL⟩ := hrel
    replace HC := stp HC HBL.out
    have K24 := tt_
    clear K23
    by_cases hlt : i < pos.length
    · have hltz : (i : Int) < (pos.length : Int) := by omega
      have p5 : (0 : Int) ≤ (i : Int) := by omega
      obtain ⟨ad, ead, hx⟩ := Kd.at_int (Kd.C_below CF18_0.out.2.2 HC.out.tl.hd) (i : Int) p5 hltz
      cases ead
      simp only [Int.toNat_natCast] at hx
      have hw1 : wrap64 ((i : Int) + 1) = ((i + 1 : Nat) : Int) := by have := AHPos.out.1; unfold wrap64; omega
      have hs1 : Value.int .i64 (wrap64 ((i : Int) + 1)) = Value.int .i64 ((i + 1 : Nat) : Int) := by rw [hw1]
      have hi1 : i + 1 ≤ pos.length := hlt
      have hv := AHPos.out.2 i hlt
      have b8 : (rd pos (i : Int) != Int.tmod (i : Int) 2) = false := by rw [hv, Int.tmod_eq_emod_of_nonneg (by omega)]; exact bne_self_eq_false _
      have b9 : (rd pos (i : Int) != (i : Int) % 2) = false := by rw [hv]; exact bne_self_eq_false _
      clear hw1 hv
      replace p5 := eq_true p5
      replace hltz := eq_true hltz
      go_wp2
      go_roundg (pos.length - (i + 1))
      case measure => exact Nat.lt_of_lt_of_le (Nat.sub_lt_sub_left hlt (Nat.lt_succ_self i)) hg
      case rel => exact ⟨i + 1, hs1, hi1, Nat.le_refl _, HBL⟩
    · have hltz : ¬ ((i : Int) < (pos.length : Int)) := by omega
      obtain rfl : i = pos.length := by omega
      clear hi hg HBL
      obtain ⟨ag5, bg5, cg5, dg5⟩ := bx BKg5 HC.out.t16.tl.hd
      obtain ⟨ag15, bg15, cg15, dg15⟩ := bx BKg15 HC.out.t4.t4.hd
      obtain ⟨ag17, bg17, cg17, dg17⟩ := bx BKg17 HC.out.t4.tl.tl.hd
      go_wp2_with (first
        | ((with_reducible refine gate_store (t := 39) (p := 36) (v := .tmp 203) rfl ?_); clear K31; refine store_event ?sg (t := 39) (p := 36) (v := .tmp 203) ?so ?sN (w1 := ((wz27_.setCell ⟨g36, 0, none⟩ (.slice Ar26_0 mt.length cr26_0)).setCell ⟨g36, 1, none⟩ (.slice Ar26_1 mb.length cr26_1))) ?sr ?_; (case sg => rfl); (case so => rfl); (case sN => rfl); (case sr => first | (go_simp; done) | (go_simp; rfl)); intro w28_ hw_; obtain ⟨hb, BKg36⟩ := boxst PX PB PG hw_; clear hw_ hz_0 hzf_0 hz_1 hzf_1; replace HC := stp HC hb; clear hb PX PB PG; have K32 := tt_; obtain ⟨ag5, bg5, cg5, dg5⟩ := bx BKg5 HC.out.t16.t4.t4.hd; obtain ⟨ag15, bg15, cg15, dg15⟩ := bx BKg15 HC.out.t4.t4.t4.tl.tl.tl.hd; obtain ⟨ag17, bg17, cg17, dg17⟩ := bx BKg17 HC.out.t4.t4.t4.tl.hd; obtain ⟨ag36, bg36, cg36, dg36⟩ := box2 BKg36.out)
        | ((with_reducible refine gate_dst (N := 36) rfl ?_); clear K30; refine box_event ?hg (N := 36) ?hd (cs := #[.slice none 0 0, .slice none 0 0]) (t := 39) ?hr ?_; (case hd => rfl); (case hg => rfl); (case hr => first | (go_simp; done) | (go_simp; rfl)); intro g36 hg wz27_ hbox hb; clear ag5 bg5 cg5 dg5 ag15 bg15 cg15 dg15 ag17 bg17 cg17 dg17; obtain ⟨hz_0, hz_1, hzf_0, hzf_1⟩ := box2 hbox; have PX := Aside0.mk hbox; have PB := Aside0.mk hb; have PG := Aside0.mk (show w27_.heap.size ≤ g36 by rw [hg]; exact Nat.le_refl _); clear hbox hb hg; have K31 := tt_)
        | (go_at_call 40; clear K29; (with_reducible refine (impl_FromPermutation.calls k _ _ w_ mt mb true _ (Kd.C_below CF3_0.out.2.2 HC.out.t16.t4.tl.hd) CF3_0.out.2.1 AF24.out).mono ?_); rintro e w27_ ⟨v26_v0_, v26_v1_, rfl, ho0, ho1, hb⟩; clear ag5 bg5 cg5 dg5 ag15 bg15 cg15 dg15 ag17 bg17 cg17 dg17; obtain ⟨Ar26_0, cr26_0, rfl⟩ := Kd.R_slice ho0; have CF26_0 := Aside0.mk (Kd.R_reads' ho0); obtain ⟨Ar26_1, cr26_1, rfl⟩ := Kd.R_slice ho1; have CF26_1 := Aside0.mk (Kd.R_reads' ho1); replace HC := stp HC hb; clear hb ho0 ho1; have K30 := tt_; obtain ⟨ag5, bg5, cg5, dg5⟩ := bx BKg5 HC.out.t16.t4.tl.tl.tl.hd; obtain ⟨ag15, bg15, cg15, dg15⟩ := bx BKg15 HC.out.t4.t4.t4.tl.tl.hd; obtain ⟨ag17, bg17, cg17, dg17⟩ := bx BKg17 HC.out.t4.t4.t4.hd)
        | (go_at_call 11; clear K28; (with_reducible refine (laws_sSame.calls k _ _ ps _ _ ps true _ (Kd.C_below CF23_0.out.2.2 HC.out.hd) CF23_0.out.2.1 CF24_0.out.2.2 CF24_0.out.2.1 AF23.out).mono ?_); rintro e w26_ ⟨rfl, hd⟩; clear ag5 bg5 cg5 dg5 ag15 bg15 cg15 dg15 ag17 bg17 cg17 dg17; have hb := drawn_below hd; clear hd; replace HC := stp HC hb; clear hb; have K29 := tt_; obtain ⟨ag5, bg5, cg5, dg5⟩ := bx BKg5 HC.out.t16.t4.tl.tl.hd; obtain ⟨ag15, bg15, cg15, dg15⟩ := bx BKg15 HC.out.t4.t4.t4.tl.hd; obtain ⟨ag17, bg17, cg17, dg17⟩ := bx BKg17 HC.out.t4.t4.tl.tl.tl.hd)
        | (go_at_call 46; clear K27; (with_reducible refine (spec_PositionsOf.calls k _ _ s_ ps pb _ (Kd.C_below CF22_0.out.2.2 HC.out.hd) CF22_0.out.2.1 AF22.out).mono ?_); rintro e w25_ ⟨v24_v0_, rfl, ho0, hb⟩; clear ag5 bg5 cg5 dg5 ag15 bg15 cg15 dg15 ag17 bg17 cg17 dg17; obtain ⟨Ar24_0, cr24_0, rfl⟩ := Kd.R_slice ho0; have CF24_0 := Aside0.mk (Kd.R_reads' ho0); replace HC := stp HC hb; clear hb ho0; have K28 := tt_; obtain ⟨ag5, bg5, cg5, dg5⟩ := bx BKg5 HC.out.t16.t4.tl.hd; obtain ⟨ag15, bg15, cg15, dg15⟩ := bx BKg15 HC.out.t4.t4.t4.hd; obtain ⟨ag17, bg17, cg17, dg17⟩ := bx BKg17 HC.out.t4.t4.tl.tl.hd)
        | (go_at_call 44; clear K26; (with_reducible refine (impl_PositionsOf.calls k _ _ s_ ps pb _ CF22_0.out.2.2 CF22_0.out.2.1 AF21.out).mono ?_); rintro e w24_ ⟨v23_v0_, rfl, ho0, hb⟩; clear ag5 bg5 cg5 dg5 ag15 bg15 cg15 dg15 ag17 bg17 cg17 dg17; obtain ⟨Ar23_0, cr23_0, rfl⟩ := Kd.R_slice ho0; have CF23_0 := Aside0.mk (Kd.R_reads' ho0); replace HC := stp HC hb; clear hb ho0; have K27 := tt_; obtain ⟨ag5, bg5, cg5, dg5⟩ := bx BKg5 HC.out.t16.t4.hd; obtain ⟨ag15, bg15, cg15, dg15⟩ := bx BKg15 HC.out.t4.t4.tl.tl.tl.hd; obtain ⟨ag17, bg17, cg17, dg17⟩ := bx BKg17 HC.out.t4.t4.tl.hd)
        | (go_at_call 45; clear K25; (with_reducible refine (spec_DrawPositionsOf.calls k _ _ l1 s_ _ (Kd.C_below HP1.out.2.2 HC.out.t16.t4.tl.hd) HP1.out.2.1 AF20.out).mono ?_); rintro e w23_ ⟨v22_v0_, rfl, ho0, hb⟩; clear ag5 bg5 cg5 dg5 ag15 bg15 cg15 dg15 ag17 bg17 cg17 dg17; obtain ⟨Ar22_0, cr22_0, rfl⟩ := Kd.R_slice ho0; have CF22_0 := Aside0.mk (Kd.R_reads' ho0); replace HC := stp HC hb; clear hb ho0; have K26 := tt_; obtain ⟨ag5, bg5, cg5, dg5⟩ := bx BKg5 HC.out.t16.tl.tl.tl.hd; obtain ⟨ag15, bg15, cg15, dg15⟩ := bx BKg15 HC.out.t4.t4.tl.tl.hd; obtain ⟨ag17, bg17, cg17, dg17⟩ := bx BKg17 HC.out.t4.t4.hd)
        | (go_at_call 8; clear K24; (with_reducible refine (impl_CrossingOf.calls k _ _ li cr false _ (Kd.C_below CF9_0.out.2.2 HC.out.t4.t4.tl.tl.hd) CF9_0.out.2.1 AF19.out).mono ?_); rintro e w22_ ⟨v21_v0_, rfl, ho0, hb⟩; clear ag5 bg5 cg5 dg5 ag15 bg15 cg15 dg15 ag17 bg17 cg17 dg17; obtain ⟨Ar21_0, cr21_0, rfl⟩ := Kd.R_slice ho0; have CF21_0 := Aside0.mk (Kd.R_reads' ho0); replace HC := stp HC hb; clear hb ho0; have K25 := tt_; obtain ⟨ag5, bg5, cg5, dg5⟩ := bx BKg5 HC.out.t16.tl.tl.hd; obtain ⟨ag15, bg15, cg15, dg15⟩ := bx BKg15 HC.out.t4.t4.tl.hd; obtain ⟨ag17, bg17, cg17, dg17⟩ := bx BKg17 HC.out.t4.tl.tl.tl.hd))
      go_loopg [38, 207] w_.length (fun kq v38 v207 w' => ∃ (i : Nat), v38 = .int .i64 (atf w_ i) ∧ v207 = .int .i64 i ∧ i ≤ w_.length ∧ w_.length - i ≤ kq ∧ Aside0 (Below w28_.heap.size w28_ w'))
      case atStart => exact ⟨0, by rw [AHCyc.out.2.1], by go_num, Nat.zero_le _, by omega, ⟨Below.refl _ _⟩⟩
      case round =>
        clear ag5 bg5 cg5 dg5 ag15 bg15 cg15 dg15 ag17 bg17 cg17 dg17 ag36 bg36 cg36 dg36
        obtain ⟨i, rfl, rfl, hi, hg, HBL⟩ := hrel
        replace HC := stp HC HBL.out
        have K33 := tt_
        clear K32
        by_cases hlt : i < w_.length
        · have hltz : (i : Int) < (w_.length : Int) := by omega
          have p5 : (0 : Int) ≤ (i : Int) := by omega
          obtain ⟨ad, ead, hx⟩ := Kd.at_int (Kd.C_below CF3_0.out.2.2 HC.out.t16.t4.t4.hd) (i : Int) p5 hltz
          cases ead
          simp only [Int.toNat_natCast] at hx
          obtain ⟨p6, q6, hcv⟩ := AHCyc.out.2.2 i hlt
          obtain ⟨ad2, ead2, hx2⟩ := Kd.at_int (Kd.C_below CF5_0.out.2.2 HC.out.t16.t4.tl.tl.hd) (rd w_ (i : Int)) p6 q6
          cases ead2
          have hat : atf w_ i = rd w_ (i : Int) := if_pos hlt
          have hw1 : wrap64 ((i : Int) + 1) = ((i + 1 : Nat) : Int) := by have := AHCyc.out.1; unfold wrap64; omega
          have hs1 : Value.int .i64 (wrap64 ((i : Int) + 1)) = Value.int .i64 ((i + 1 : Nat) : Int) := by rw [hw1]
          have HS2 := Aside0.mk (show Value.int .i64 (rd cy (rd w_ (i : Int))) = Value.int .i64 (atf w_ (i + 1)) by rw [hcv])
          have hi1 : i + 1 ≤ w_.length := hlt
          have b8 : (rd w_ (i : Int) != rd w_ (i : Int)) = false := bne_self_eq_false _
          clear hw1 hcv
          rw [hat]
          clear hat
          replace p5 := eq_true p5
          replace hltz := eq_true hltz
          replace p6 := eq_true p6
          replace q6 := eq_true q6
          go_wp2
          go_roundg (w_.length - (i + 1))
          case measure => exact Nat.lt_of_lt_of_le (Nat.sub_lt_sub_left hlt (Nat.lt_succ_self i)) hg
          case rel => exact ⟨i + 1, HS2.out, hs1, hi1, Nat.le_refl _, HBL⟩
        · have hltz : ¬ ((i : Int) < (w_.length : Int)) := by omega
          obtain rfl : i = w_.length := by omega
          have hat : atf w_ w_.length = 0 := if_neg (Nat.lt_irrefl _)
          rw [hat]
          clear hat hi hg HBL
          obtain ⟨ag5, bg5, cg5, dg5⟩ := bx BKg5 HC.out.t16.t4.t4.tl.hd
          obtain ⟨ag15, bg15, cg15, dg15⟩ := bx BKg15 HC.out.t16.hd
          obtain ⟨ag17, bg17, cg17, dg17⟩ := bx BKg17 HC.out.t4.t4.t4.tl.tl.hd
          obtain ⟨ag36, bg36, cg36, dg36⟩ := bx BKg36 HC.out.hd
          go_wp2_with (first
            | (go_at_call 29; clear K33; (with_reducible refine (laws_sSamePair.calls k _ _ mt _ _ mb _ _ mt _ _ mb true _ (Kd.C_below CF26_0.out.2.2 HC.out.tl.hd) CF26_0.out.2.1 (Kd.C_below CF26_1.out.2.2 HC.out.tl.hd) CF26_1.out.2.1 (Kd.C_below CF1_0.out.2.2 HC.out.t16.t4.t4.tl.tl.hd) CF1_0.out.2.1 (Kd.C_below CF1_1.out.2.2 HC.out.t16.t4.t4.tl.tl.hd) CF1_1.out.2.1 AF26.out).mono ?_); rintro e w30_ ⟨rfl, hb⟩; clear ag5 bg5 cg5 dg5 ag15 bg15 cg15 dg15 ag17 bg17 cg17 dg17 ag36 bg36 cg36 dg36; replace HC := stp HC hb; clear hb; have K34 := tt_; obtain ⟨ag5, bg5, cg5, dg5⟩ := bx BKg5 HC.out.t16.t4.t4.tl.tl.hd; obtain ⟨ag15, bg15, cg15, dg15⟩ := bx BKg15 HC.out.t16.tl.hd; obtain ⟨ag17, bg17, cg17, dg17⟩ := bx BKg17 HC.out.t4.t4.t4.tl.tl.tl.hd; obtain ⟨ag36, bg36, cg36, dg36⟩ := bx BKg36 HC.out.tl.hd))
          go_ret
          exact ⟨rfl, HC.out.tl.tl.tl.tl.tl.tl.tl.tl.tl.tl.tl.tl.tl.tl.tl.tl.tl.tl.tl.tl.tl.tl.tl.tl.tl.tl.tl.tl.tl.hd⟩

/-- what the law asks for, as plain lists tell it -/
inductive laws_FnWordsOfMeanders.Told (k : Nat) (l0 : List Int) (l1 : List Int) : Prop
  | m_big (h : m_big.Told k l0 l1)
  | m_false_false (h : m_false_false.Told k l0 l1)
  | m_false_true (h : m_false_true.Told k l0 l1)
  | m_true_false (h : m_true_false.Told k l0 l1)
  | m_true_true (h : m_true_true.Told k l0 l1)
theorem laws_FnWordsOfMeanders.calls (k : Nat) (l0 : List Int) (l1 : List Int) (A0 : Option Addr) (c0 : Nat) (A1 : Option Addr) (c1 : Nat) (w : World) (hr0 : Kd.C (Kd.int .u8) w A0 l0.length l0) (hc0 : l0.length ≤ c0) (hr1 : Kd.C (Kd.int .u8) w A1 l1.length l1) (hc1 : l1.length ≤ c1) (h : laws_FnWordsOfMeanders.Told k l0 l1) :
    Calls Try.prog 5 #[.slice A0 l0.length c0, .slice A1 l1.length c1] w fun e w' => e = .returned (.bool true) ∧ Below w.heap.size w w' := by
  cases h with
  | m_big h => exact m_big k l0 l1 A0 c0 A1 c1 w hr0 hc0 hr1 hc1 h
  | m_false_false h =>
    obtain ⟨mt, mb, w_, cy, li, tt, tb, four, s_, ps, pb, h⟩ := h
    exact m_false_false k l0 l1 A0 c0 A1 c1 mt mb w_ cy li tt tb four s_ ps pb w hr0 hc0 hr1 hc1 h
  | m_false_true h =>
    obtain ⟨mt, mb, w_, cy, li, tt, tb, four, s_, ps, pb, h⟩ := h
    exact m_false_true k l0 l1 A0 c0 A1 c1 mt mb w_ cy li tt tb four s_ ps pb w hr0 hc0 hr1 hc1 h
  | m_true_false h =>
    obtain ⟨mt, mb, w_, cy, li, tt, tb, four, pos, cr, s_, ps, pb, h⟩ := h
    exact m_true_false k l0 l1 A0 c0 A1 c1 mt mb w_ cy li tt tb four pos cr s_ ps pb w hr0 hc0 hr1 hc1 h
  | m_true_true h =>
    obtain ⟨mt, mb, w_, cy, li, tt, tb, four, pos, cr, s_, ps, pb, h⟩ := h
    exact m_true_true k l0 l1 A0 c0 A1 c1 mt mb w_ cy li tt tb four pos cr s_ ps pb w hr0 hc0 hr1 hc1 h
/-- the one pure statement of the law -/
def laws_FnWordsOfMeanders.Pure : Prop := ∀ (l0 : List Int) (l1 : List Int), l0.length ≤ maxLen → l0.length * 1 ≤ 140737488351232 → (∀ x ∈ l0, (Lit.int .u8 x).wf = true) → l1.length ≤ maxLen → l1.length * 1 ≤ 140737488351232 → (∀ x ∈ l1, (Lit.int .u8 x).wf = true) → ∃ k, laws_FnWordsOfMeanders.Told k l0 l1
theorem laws_FnWordsOfMeanders.walk (P : laws_FnWordsOfMeanders.Pure) (a0 : Option Addr) (len0 cap0 : Nat) (z0 : List Int) (a1 : Option Addr) (len1 cap1 : Nat) (z1 : List Int) (w : World) (w0 : (a0 = none ∧ len0 = 0 ∧ cap0 = 0 ∧ z0 = []) ∨ ∃ x, a0 = some x ∧ len0 ≤ cap0 ∧ cap0 ≤ maxLen ∧ z0.length = cap0 ∧ (∀ i, i < z0.length → w.cell? (x.add i) = some (.int .u8 (z0.getD i 0))) ∧ ∀ n ∈ z0, (Lit.int .u8 n).wf = true) (y0 : len0 * 1 ≤ 140737488351232) (w1 : (a1 = none ∧ len1 = 0 ∧ cap1 = 0 ∧ z1 = []) ∨ ∃ x, a1 = some x ∧ len1 ≤ cap1 ∧ cap1 ≤ maxLen ∧ z1.length = cap1 ∧ (∀ i, i < z1.length → w.cell? (x.add i) = some (.int .u8 (z1.getD i 0))) ∧ ∀ n ∈ z1, (Lit.int .u8 n).wf = true) (y1 : len1 * 1 ≤ 140737488351232) :
    Calls Try.prog 5 #[.slice a0 len0 cap0, .slice a1 len1 cap1] w fun e w' => e = .returned (.bool true) ∧ Below w.heap.size w w' := by
  obtain ⟨l0, rfl, hr0, hm0, hw0, hc0⟩ := ReadsInt.ofRowC w0
  obtain ⟨l1, rfl, hr1, hm1, hw1, hc1⟩ := ReadsInt.ofRowC w1
  obtain ⟨k, h⟩ := P l0 l1 hm0 y0 hw0 hm1 y1 hw1
  exact laws_FnWordsOfMeanders.calls k l0 l1 _ _ _ _ w (Kd.C_of_reads (d := (0 : Int)) (h1 := fun _ => rfl) hr0) hc0 (Kd.C_of_reads (d := (0 : Int)) (h1 := fun _ => rfl) hr1) hc1 h
end Go.Proofs.Ytldbkkfkgfacdaa.P
