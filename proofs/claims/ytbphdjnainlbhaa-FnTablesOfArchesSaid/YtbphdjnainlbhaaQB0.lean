-- printed by wip/drv/xprint.py (our driver), shortened by wip/drv/squeeze.py: those functions that the claim reaches; Lean checks it
import Derived.Test.YtbphdjnainlbhaaProg
import Derived.Below
import Derived.Deep.Draws
import Derived.Deep.AppendLies
import Derived.Maps.AppendAt
import Derived.OwnWalk
import Derived.Laws.BytesArg
import Derived.Laws.MakeOwn
import Derived.Laws.OwnMore
import Derived.Deep.OwnRows
import Derived.Tactics
import Derived.Lib.ConvBytes
import Derived.Laws.Slices
import Derived.WalkKit
import Derived.KernelRfl
import Derived.RowKit3
import Derived.Deep.LoopGhost
import Derived.Deep.QuietTactic
import Derived.BigQuiet
import Derived.WideLaws
import Derived.Deep.DeepCutAuto
import Derived.Deep.CutBlock
import Derived.Deep.RegionHeld3
import Derived.Laws.Rows
import Derived.Lib.AppendStr
import Derived.ArgAppend
import Derived.Laws.IdiomCopy
import Derived.OrdersHeld
import Derived.Laws.BitsLemmas
import Derived.RowKit
import Derived.Lib.SliceRun
import Derived.Laws.CopyOwn
import Derived.Deep.RegionLaw
import Derived.Deep.DeepMust
import Derived.Lib.Small
import Derived.Lib.Walk
import Derived.Lib.BitFns
import Derived.WalkSpells
import Derived.Test.YtbphdjnainlbhaaRowsS
import Derived.Test.YtbphdjnainlbhaaMatS
import Derived.Deep.RegionHeld3
import Derived.Test.YtbphdjnainlbhaaSortS
import Derived.Test.YtbphdjnainlbhaaShelf
import Derived.Test.YtbphdjnainlbhaaWWords
import Derived.Test.YtbphdjnainlbhaaWLast
import Derived.Test.YtbphdjnainlbhaaWTab
import Derived.Test.YtbphdjnainlbhaaWFour
import Derived.Test.YtbphdjnainlbhaaWQPut
import Derived.Test.YtbphdjnainlbhaaWApart
import Derived.Test.YtbphdjnainlbhaaWArr
import Derived.Test.YtbphdjnainlbhaaWZeros
import Derived.Test.YtbphdjnainlbhaaWFoot
import Derived.Test.YtbphdjnainlbhaaWKept
import Derived.Test.YtbphdjnainlbhaaWShare
import Derived.Test.YtbphdjnainlbhaaWN
import Derived.Test.YtbphdjnainlbhaaWFootNe
import Derived.Test.YtbphdjnainlbhaaWAt
import Derived.Test.YtbphdjnainlbhaaWEqStruct
import Derived.Test.YtbphdjnainlbhaaWRepsOne
import Derived.Test.YtbphdjnainlbhaaWInv
import Derived.Test.YtbphdjnainlbhaaWInvWords
import Derived.Test.YtbphdjnainlbhaaWGuard
import Derived.Test.YtbphdjnainlbhaaWNEv
import Derived.Test.YtbphdjnainlbhaaWMore
import Derived.Test.YtbphdjnainlbhaaShort
import Derived.Test.YtbphdjnainlbhaaShort2
namespace Go.Proofs.Ytbphdjnainlbhaa.R
open Go.Proofs.Ytbphdjnainlbhaa.Short Go.RowKit Go.Proofs.YtbphdjnainlbhaaW.PrintWords Go.Proofs.YtbphdjnainlbhaaW.PrintLast Go.Proofs.YtbphdjnainlbhaaW.PrintMore
attribute [local go_sem] max2_int min2_int max_two min_two max_three min_three max_four min_four   -- for this text's walks alone
set_option linter.unusedVariables false
set_option linter.unusedSimpArgs false



set_option maxHeartbeats 8000000
set_option maxRecDepth 100000
def errW : Option Int → Value
  | none => .nilIface
  | some c => .iface 0 (.int .i64 c)
theorem errW_none : errW none = .nilIface := rfl
theorem errW_some (c : Int) : errW (some c) = .iface 0 (.int .i64 c) := rfl

theorem info3 : (Try.prog.info? 3).map (fun i => (i.zero, i.size, i.bytes)) = some (some (.int .i64 0), 1, 8) := by kernel_rfl
theorem info35 : (Try.prog.info? 35).map (fun i => (i.zero, i.size, i.bytes)) = some (some (.slice none 0 0), 1, 24) := by kernel_rfl
theorem info71 : (Try.prog.info? 71).map (fun i => (i.zero, i.size, i.bytes)) = some (some (.agg #[(.slice none 0 0), (.slice none 0 0)]), 2, 48) := by kernel_rfl
-- the values' own types
def rd_L1 (xs : List (List Int)) (i : Int) : (List Int) := xs.getD i.toNat ([] : List Int)
theorem at_L1 {w : World} {A : Option Addr} {n : Nat} {xs : List (List Int)} (h : Kd.C (Kd.slice 3 (Kd.int .i64)) w A n xs) (i : Int) (h0 : 0 ≤ i) (h1 : i < n) : ∃ ad A0 c0, A = some ad ∧ w.cell? (ad.add i.toNat) = some (.slice A0 (rd_L1 xs i).length c0) ∧ (rd_L1 xs i).length ≤ c0 ∧ (Kd.int .i64).C w A0 (rd_L1 xs i).length (rd_L1 xs i) := by
  obtain ⟨ad, c, e, _, hK, hc0⟩ := Kd.C_get h ([] : List Int) i h0 h1
  have hc : ∀ j u, c[j]? = some u → w.cell? (ad.add (i.toNat * 1 + j)) = some u := hc0
  obtain ⟨A0, c0, rfl, l0, g0⟩ := hK
  exact ⟨ad, A0, c0, e, by have hq := hc 0 _ rfl; rwa [Nat.mul_one, Nat.add_zero] at hq, l0, g0⟩

def rd_L2 (xs : List (List (List Int))) (i : Int) : (List (List Int)) := xs.getD i.toNat ([] : List (List Int))
theorem at_L2 {w : World} {A : Option Addr} {n : Nat} {xs : List (List (List Int))} (h : Kd.C (Kd.slice 35 (Kd.slice 3 (Kd.int .i64))) w A n xs) (i : Int) (h0 : 0 ≤ i) (h1 : i < n) : ∃ ad A0 c0, A = some ad ∧ w.cell? (ad.add i.toNat) = some (.slice A0 (rd_L2 xs i).length c0) ∧ (rd_L2 xs i).length ≤ c0 ∧ (Kd.slice 3 (Kd.int .i64)).C w A0 (rd_L2 xs i).length (rd_L2 xs i) := by
  obtain ⟨ad, c, e, _, hK, hc0⟩ := Kd.C_get h ([] : List (List Int)) i h0 h1
  have hc : ∀ j u, c[j]? = some u → w.cell? (ad.add (i.toNat * 1 + j)) = some u := hc0
  obtain ⟨A0, c0, rfl, l0, g0⟩ := hK
  exact ⟨ad, A0, c0, e, by have hq := hc 0 _ rfl; rwa [Nat.mul_one, Nat.add_zero] at hq, l0, g0⟩

/-! #### struct type 71 -/
structure S71 where
  f0 : (List Int)
  f1 : (List Int)
def z71 : S71 := ⟨([] : List Int), ([] : List Int)⟩
def k71 : Kd S71 := Kd.iso (Kd.pair (Kd.slice 3 (Kd.int .i64)) (Kd.slice 3 (Kd.int .i64))) (fun x : S71 => (x.f0, x.f1))
theorem k71_open {w : World} {x : S71} {cs : List Value} (h : k71.K w x cs) : ∃ A0 c0 A1 c1, cs = [.slice A0 x.f0.length c0, .slice A1 x.f1.length c1] ∧ x.f0.length ≤ c0 ∧ (Kd.int .i64).C w A0 x.f0.length x.f0 ∧ x.f1.length ≤ c1 ∧ (Kd.int .i64).C w A1 x.f1.length x.f1 := by
  obtain ⟨_, _, rfl, ⟨A0, c0, rfl, l0, g0⟩, ⟨A1, c1, rfl, l1, g1⟩⟩ := h
  exact ⟨A0, c0, A1, c1, rfl, l0, g0, l1, g1⟩
theorem k71_openM {w : World} {base : Nat} {ok : Nat → Prop} {x : S71} {cs : List Value} (h : k71.M w base ok x cs) : ∃ v0 v1, cs = [v0, v1] ∧ (Kd.int .i64).R 3 w base ok v0 x.f0 ∧ (Kd.int .i64).R 3 w base ok v1 x.f1 := by
  obtain ⟨_, _, rfl, ⟨v0, rfl, g0⟩, ⟨v1, rfl, g1⟩⟩ := h
  exact ⟨v0, v1, rfl, g0, g1⟩
theorem k71_mk (w : World) (x : S71) {A0 : Option Addr} {c0 : Nat} (l0 : x.f0.length ≤ c0) (g0 : (Kd.int .i64).C w A0 x.f0.length x.f0) {A1 : Option Addr} {c1 : Nat} (l1 : x.f1.length ≤ c1) (g1 : (Kd.int .i64).C w A1 x.f1.length x.f1) : k71.K w x [.slice A0 x.f0.length c0, .slice A1 x.f1.length c1] := ⟨[.slice A0 x.f0.length c0], [.slice A1 x.f1.length c1], rfl, ⟨A0, c0, rfl, l0, g0⟩, ⟨A1, c1, rfl, l1, g1⟩⟩
theorem k71_mkM (w : World) (base : Nat) (ok : Nat → Prop) (x : S71) {v0 : Value} (g0 : (Kd.int .i64).R 3 w base ok v0 x.f0) {v1 : Value} (g1 : (Kd.int .i64).R 3 w base ok v1 x.f1) : k71.M w base ok x [v0, v1] := ⟨[v0], [v1], rfl, ⟨v0, rfl, g0⟩, ⟨v1, rfl, g1⟩⟩
theorem k71_openF {W : World} {ok : Nat → Prop} {x : S71} {cs : List Value} (h : Kd.FK k71 W ok x cs) : ∃ A0 c0 A1 c1, cs = [.slice A0 x.f0.length c0, .slice A1 x.f1.length c1] ∧ x.f0.length ≤ c0 ∧ Kd.F (Kd.int .i64) W ok A0 x.f0.length x.f0 ∧ x.f1.length ≤ c1 ∧ Kd.F (Kd.int .i64) W ok A1 x.f1.length x.f1 := by
  obtain ⟨A0, c0, A1, c1, rfl, l0, _, l1, _⟩ := k71_open (Kd.FK_now h)
  exact ⟨A0, c0, A1, c1, rfl, l0, (fun W' hW => by obtain ⟨A0_, c0_, A1_, c1_, he, l0_, g0_, l1_, g1_⟩ := k71_open (h W' hW); injection (Option.some.inj (show some (Value.slice A0 x.f0.length c0) = some (Value.slice A0_ x.f0.length c0_) from congrArg (fun l => l[0]?) he)) with ha_ _ _; rw [ha_]; exact g0_), l1, (fun W' hW => by obtain ⟨A0_, c0_, A1_, c1_, he, l0_, g0_, l1_, g1_⟩ := k71_open (h W' hW); injection (Option.some.inj (show some (Value.slice A1 x.f1.length c1) = some (Value.slice A1_ x.f1.length c1_) from congrArg (fun l => l[1]?) he)) with ha_ _ _; rw [ha_]; exact g1_)⟩
theorem k71_mkF (W : World) (ok : Nat → Prop) (x : S71) {A0 : Option Addr} {c0 : Nat} (l0 : x.f0.length ≤ c0) (g0 : Kd.F (Kd.int .i64) W ok A0 x.f0.length x.f0) {A1 : Option Addr} {c1 : Nat} (l1 : x.f1.length ≤ c1) (g1 : Kd.F (Kd.int .i64) W ok A1 x.f1.length x.f1) : Kd.FK k71 W ok x [.slice A0 x.f0.length c0, .slice A1 x.f1.length c1] := fun W2 hW => k71_mk W2 x l0 (g0 W2 hW) l1 (g1 W2 hW)
def rd_T71 (xs : List S71) (i : Int) : S71 := xs.getD i.toNat z71
theorem at_T71 {w : World} {A : Option Addr} {n : Nat} {xs : List S71} (h : Kd.C k71 w A n xs) (i : Int) (h0 : 0 ≤ i) (h1 : i < n) : ∃ ad A0 c0 A1 c1, A = some ad ∧ w.cell? (ad.add (i.toNat * 2)) = some (.slice A0 (rd_T71 xs i).f0.length c0) ∧ w.cell? ⟨(ad.add (i.toNat * 2)).block, (ad.add (i.toNat * 2)).off + 1, none⟩ = some (.slice A1 (rd_T71 xs i).f1.length c1) ∧ (rd_T71 xs i).f0.length ≤ c0 ∧ (Kd.int .i64).C w A0 (rd_T71 xs i).f0.length (rd_T71 xs i).f0 ∧ (rd_T71 xs i).f1.length ≤ c1 ∧ (Kd.int .i64).C w A1 (rd_T71 xs i).f1.length (rd_T71 xs i).f1 := by
  obtain ⟨ad, c, e, _, hK, hc0⟩ := Kd.C_get h z71 i h0 h1
  have hc : ∀ j u, c[j]? = some u → w.cell? (ad.add (i.toNat * 2 + j)) = some u := hc0
  obtain ⟨A0, c0, A1, c1, rfl, l0, g0, l1, g1⟩ := k71_open hK
  exact ⟨ad, A0, c0, A1, c1, e, hc 0 _ rfl, by rw [← add_field _ _ 1 (by omega)]; exact hc 1 _ rfl, l0, g0, l1, g1⟩
theorem sr {p : Prop} (h : p := by first | rfl | (simp [errW_none, errW_some] <;> rfl) | (simp [*, errW_none, errW_some] <;> rfl)) : p := h
/-! ### spec_l1In: function 79 -/
def spec_l1In.f (a0 : Int) (a1 : Int) (a2 : Int) : Option (Bool) := if a0 ≥ a1 then (some (decide (a0 ≤ a2))) else (some false)
theorem spec_l1In.calls (a0 : Int) (a1 : Int) (a2 : Int) (r : Bool) (w : World) (h : spec_l1In.f a0 a1 a2 = some r) :
  Calls Try.prog 79 #[.int .i64 a0, .int .i64 a1, .int .i64 a2] w fun e w' => e = .returned (.bool r) ∧ Drawn0 w w' := by
 have H : (if a0 ≥ a1 then (some (decide (a0 ≤ a2))) else (some false)) = some r := h; clear h
 by_cases c4 : a0 ≥ a1
 ·rw [if_pos c4] at H; have c4b0 := decide_eq_true c4; clear c4; obtain rfl := Option.some.inj H; go_enter Try.func79, Try.ntmps79; go_wp2; go_ret; exact ⟨sr2, by repeat (first | exact Drawn0.refl _ | apply Drawn0.step)⟩
 rw [if_neg c4] at H; have c4b0 := decide_eq_false c4; clear c4; obtain rfl := Option.some.inj H; go_enter Try.func79, Try.ntmps79; go_wp2; go_ret; exact ⟨sr2, by repeat (first | exact Drawn0.refl _ | apply Drawn0.step)⟩
/-! ### impl_rest: function 55 -/
def impl_rest.f (a0 : Int) (a1 : Int) : Option (Int) := if a1 = 0 then (none) else (some (Int.tmod (wrap64 ((Int.tmod a0 a1) + a1)) a1))
theorem impl_rest.calls (a0 : Int) (a1 : Int) (r : Int) (w : World) (h : impl_rest.f a0 a1 = some r) :
  Calls Try.prog 55 #[.int .i64 a0, .int .i64 a1] w fun e w' => e = .returned (.int .i64 r) ∧ Drawn0 w w' := by
 have H : (if a1 = 0 then (none) else (some (Int.tmod (wrap64 ((Int.tmod a0 a1) + a1)) a1))) = some r := h; clear h
 by_cases c3 : a1 = 0
 ·rw [if_pos c3] at H; exact absurd H (by simp)
 rw [if_neg c3] at H; have c3b0 := beq_eq_false_iff_ne.mpr c3; have c3b1 := bne_iff_ne.mpr c3; obtain rfl := Option.some.inj H; go_enter Try.func55, Try.ntmps55; go_wp2; go_ret; exact ⟨sr2, by repeat (first | exact Drawn0.refl _ | apply Drawn0.step)⟩
/-! ### impl_inverseMod: function 56 -/
def impl_inverseMod.l0 : Nat → Int → Int → Int → Int → Option (Int)
 | 0, _, _, _, _ => none
 | k + 1, x0, x1, x5, x6 => if x6 > 0 then (if (Go.bits .and .i64 x6 1) = 1 then (if x1 = 0 then (none) else (impl_inverseMod.l0 k (Int.tmod (wrap64 (x0 * x0)) x1) x1 (Int.tmod (wrap64 (x5 * x0)) x1) (x6 / 2))) else (if x1 = 0 then (none) else (impl_inverseMod.l0 k (Int.tmod (wrap64 (x0 * x0)) x1) x1 x5 (x6 / 2)))) else (some x5)
def impl_inverseMod.f (k : Nat) (a0 : Int) (a1 : Int) : Option (Int) := impl_inverseMod.l0 k a0 a1 1 (wrap64 (a1 - 2))
theorem impl_inverseMod.mono_l : ∀ k, (∀ y0 y1 y2 y3, LeO (impl_inverseMod.l0 k y0 y1 y2 y3) (impl_inverseMod.l0 (k + 1) y0 y1 y2 y3))
 | 0 => fun _ _ _ _ r h => by simp [impl_inverseMod.l0] at h
 | k + 1 => by
  have ih0 := impl_inverseMod.mono_l k
  ·intro y0 y1 y2 y3
   unfold impl_inverseMod.l0
   repeat' first
   | (with_reducible exact ih0 _ _ _ _)
   | (with_reducible exact LeO.refl _)
   | (with_reducible exact LeO.none _)
   | (with_reducible refine LeO.ite ?_ ?_)
   | (with_reducible refine LeO.bind ?_ (fun _ => ?_))
   | exact ih0 _ _ _ _
   | exact LeO.none _
   | refine LeO.ite ?_ ?_
   | refine LeO.bind ?_ (fun _ => ?_)
theorem impl_inverseMod.mono : ∀ a0 a1 k, LeO (impl_inverseMod.f k a0 a1) (impl_inverseMod.f (k + 1) a0 a1) := by
 intro a0 a1 k; have ih0 := impl_inverseMod.mono_l k; unfold impl_inverseMod.f
 repeat' first
   | (with_reducible exact ih0 _ _ _ _)
   | (with_reducible exact LeO.refl _)
   | (with_reducible exact LeO.none _)
   | (with_reducible refine LeO.ite ?_ ?_)
   | (with_reducible refine LeO.bind ?_ (fun _ => ?_))
   | exact ih0 _ _ _ _
   | exact LeO.none _
   | refine LeO.ite ?_ ?_
   | refine LeO.bind ?_ (fun _ => ?_)
theorem impl_inverseMod.calls (k : Nat) (a0 : Int) (a1 : Int) (r : Int) (w : World) (h : impl_inverseMod.f k a0 a1 = some r) :
  Calls Try.prog 56 #[.int .i64 a0, .int .i64 a1] w fun e w' => e = .returned (.int .i64 r) ∧ Drawn0 w w' := by
 have H : (impl_inverseMod.l0 k a0 a1 1 (wrap64 (a1 - 2))) = some r := h; clear h; have H' := Aside0.mk H; clear H; go_enter Try.func56, Try.ntmps56; go_wp2
 go_loopg [0, 5, 6] k (fun kq v0 v5 v6 w' => ∃ (x0_1 : Int) (x5_1 : Int) (x6_1 : Int), v0 = .int .i64 x0_1 ∧ v5 = .int .i64 x5_1 ∧ v6 = .int .i64 x6_1 ∧ Aside0 (impl_inverseMod.l0 kq x0_1 a1 x5_1 x6_1 = some r) ∧ Aside0 (kq ≤ k) ∧ Drawn0 w w')
 case atStart => exact ⟨(a0), (1), (wrap64 (a1 - 2)), (sr2), (sr2), (sr2), H', ⟨Nat.le_refl _⟩, by repeat (first | exact Drawn0.refl _ | apply Drawn0.step)⟩
 case round =>
  clear H'; obtain ⟨x0_1, x5_1, x6_1, rfl, rfl, rfl, HA, HK1, ⟨m1, rfl⟩⟩ := hrel
  cases gk with
  | zero => exact absurd HA.out (by simp [impl_inverseMod.l0])
  | succ k1 =>
   have H := HA.out; clear HA; simp only [impl_inverseMod.l0] at H
   by_cases c3 : x6_1 > 0
   ·rw [if_pos c3] at H; have c3b0 := decide_eq_true c3; clear c3
    by_cases c4 : (Go.bits .and .i64 x6_1 1) = 1
    ·rw [if_pos c4] at H; have c4b0 := beq_iff_eq.mpr c4; have c4b1 := bne_eq_false_iff_eq.mpr c4; clear c4
     by_cases c5 : a1 = 0
     ·rw [if_pos c5] at H; exact absurd H (by simp)
     rw [if_neg c5] at H; have c5b0 := beq_eq_false_iff_ne.mpr c5; have c5b1 := bne_iff_ne.mpr c5; have H' := Aside0.mk H; clear H; go_wp2
     go_roundg k1
     case measure => have := HK1.out; omega
     case rel => exact ⟨(Int.tmod (wrap64 (x0_1 * x0_1)) a1), (Int.tmod (wrap64 (x5_1 * x0_1)) a1), (x6_1 / 2), (sr2), (sr2), (sr2), H', ⟨by have := HK1.out; omega⟩, by repeat (first | exact Drawn0.refl _ | apply Drawn0.step)⟩
    rw [if_neg c4] at H; have c4b0 := beq_eq_false_iff_ne.mpr c4; have c4b1 := bne_iff_ne.mpr c4
    by_cases c6 : a1 = 0
    ·rw [if_pos c6] at H; exact absurd H (by simp)
    rw [if_neg c6] at H; have c6b0 := beq_eq_false_iff_ne.mpr c6; have c6b1 := bne_iff_ne.mpr c6; have H' := Aside0.mk H; clear H; go_wp2
    go_roundg k1
    case measure => have := HK1.out; omega
    case rel => exact ⟨(Int.tmod (wrap64 (x0_1 * x0_1)) a1), (x5_1), (x6_1 / 2), (sr2), (sr2), (sr2), H', ⟨by have := HK1.out; omega⟩, by repeat (first | exact Drawn0.refl _ | apply Drawn0.step)⟩
   rw [if_neg c3] at H; have c3b0 := decide_eq_false c3; clear c3; obtain rfl := Option.some.inj H; go_wp2; go_ret; exact ⟨sr2, by repeat (first | exact Drawn0.refl _ | apply Drawn0.step)⟩
/-! ### impl_reduce: function 54 -/
def impl_reduce.mods (p : Int) : List Int → Option (List Int)
 | [] => some []
 | x :: t => (impl_rest.f x p).bind fun y => (impl_reduce.mods p t).bind fun r => some (y :: r)
def impl_reduce.modsR (p : Int) : List (List Int) → Option (List (List Int))
 | [] => some []
 | x :: t => (impl_reduce.mods p x).bind fun y => (impl_reduce.modsR p t).bind fun r => some (y :: r)
def impl_reduce.red (p b : Int) : List Int → List Int → Option (List Int)
 | [], _ => some []
 | x :: t, y :: o => (impl_rest.f (wrap64 (x - Int.tmod (wrap64 (b * y)) p)) p).bind fun z => (impl_reduce.red p b t o).bind fun r => some (z :: r)
 | _ :: _, [] => none
/-- a row below the pivot's row, changed from column j on -/
def impl_reduce.row (p : Int) (j : Nat) (inv : Int) (own row : List Int) : Option (List Int) := (impl_reduce.red p (Int.tmod (wrap64 (row.getD j 0 * inv)) p) (row.drop j) (own.drop j)).bind fun r => some (row.take j ++ r)
def impl_reduce.rowsF (p : Int) (j : Nat) (inv : Int) (own : List Int) : List (List Int) → Option (List (List Int))
 | [] => some []
 | x :: t => (impl_reduce.row p j inv own x).bind fun y => (impl_reduce.rowsF p j inv own t).bind fun r => some (y :: r)
/-- the first row that is not 0 at column j -/
def impl_reduce.find (j : Nat) : List (List Int) → Option Nat
 | [] => none
 | x :: t => if x.getD j 0 = 0 then (impl_reduce.find j t).map (· + 1) else some 0
def impl_reduce.swap (L : List (List Int)) (a b : Nat) : List (List Int) := if a = b then L else MatS.exch L a b (L.getD a []) (L.getD b [])
def impl_reduce.use (k : Nat) (p : Int) (j : Nat) (L : List (List Int)) (rank : Nat) (det : Int) (next : List (List Int) → Nat → Int → Option (Int × Int)) : Option (Int × Int) :=
 (impl_inverseMod.f k ((L.getD rank []).getD j 0) p).bind fun inv => (impl_reduce.rowsF p j inv (L.getD rank []) (L.drop (rank + 1))).bind fun M =>
  if rank + 1 = L.length then some (((rank + 1 : Nat) : Int), Int.tmod (wrap64 (det * (L.getD rank []).getD j 0)) p) else next (L.take (rank + 1) ++ M) (rank + 1) (Int.tmod (wrap64 (det * (L.getD rank []).getD j 0)) p)
def impl_reduce.go (k : Nat) (p : Int) : Nat → Nat → List (List Int) → Nat → Int → Option (Int × Int)
 | 0, _, _, rank, det => some ((rank : Int), det)
 | d + 1, j, L, rank, det =>
  match impl_reduce.find j (L.drop rank) with
  | none => impl_reduce.go k p d (j + 1) L rank 0
  | some q => impl_reduce.use k p j (impl_reduce.swap L rank (rank + q)) rank (if q = 0 then det else Int.tmod (wrap64 (p - det)) p) (fun L2 rank2 det2 => impl_reduce.go k p d (j + 1) L2 rank2 det2)
/-- rows that can be reduced: of one length -/
def impl_reduce.good (l : List (List Int)) (p : Int) : Bool := decide (1 ≤ l.length ∧ l.length ≤ 1000 ∧ 1 ≤ (l.getD 0 []).length ∧ (l.getD 0 []).length ≤ 1000 ∧ 0 < p) && l.all fun x => decide (x.length = (l.getD 0 []).length)
def impl_reduce.f (k : Nat) (l0 : List (List Int)) (a1 : Int) : Option (Int × Int) := if impl_reduce.good l0 a1 = true then (impl_reduce.modsR a1 l0).bind fun L => impl_reduce.go k a1 (l0.getD 0 []).length 0 L 0 1 else none
theorem impl_reduce.go_mono (k : Nat) (p : Int) : ∀ d j L rank det, LeO (impl_reduce.go k p d j L rank det) (impl_reduce.go (k + 1) p d j L rank det)
 | 0, _, _, _, _ => LeO.refl _
 | d + 1, j, L, rank, det => by
  rw [impl_reduce.go, impl_reduce.go]
  cases impl_reduce.find j (L.drop rank) with
  | none => exact impl_reduce.go_mono k p d _ _ _ _
  | some q =>
   unfold impl_reduce.use
   exact LeO.bind (impl_inverseMod.mono _ _ _) (fun _ => LeO.bind (LeO.refl _) (fun _ => LeO.ite (LeO.refl _) (impl_reduce.go_mono k p d _ _ _ _)))
theorem impl_reduce.mono : ∀ a0 a1 k, LeO (impl_reduce.f k a0 a1) (impl_reduce.f (k + 1) a0 a1) := fun a0 a1 k => LeO.ite (LeO.bind (LeO.refl _) (fun _ => impl_reduce.go_mono k a1 _ _ _ _ _)) (LeO.refl _)
theorem impl_reduce.mods_get (p : Int) : ∀ (l T : List Int), impl_reduce.mods p l = some T → T.length = l.length ∧ ∀ i (h : i < l.length) (h2 : i < T.length), impl_rest.f l[i] p = some T[i]
 | [], T, h => by
  obtain rfl := Option.some.inj h
  exact ⟨rfl, fun i h => absurd h (Nat.not_lt_zero _)⟩
 | v :: t, T, h => by
  obtain ⟨q, hq, h⟩ := Option.bind_eq_some_iff.mp h
  obtain ⟨r, hr, h⟩ := Option.bind_eq_some_iff.mp h
  obtain rfl := Option.some.inj h
  have ih := impl_reduce.mods_get p t r hr
  refine ⟨by simp [ih.1], fun i h1 h2 => ?_⟩
  cases i with
  | zero => exact hq
  | succ i => exact ih.2 i (by simpa using h1) (by simpa using h2)
theorem impl_reduce.modsR_get (p : Int) : ∀ (l T : List (List Int)), impl_reduce.modsR p l = some T → T.length = l.length ∧ ∀ i (h : i < l.length) (h2 : i < T.length), impl_reduce.mods p l[i] = some T[i]
 | [], T, h => by
  obtain rfl := Option.some.inj h
  exact ⟨rfl, fun i h => absurd h (Nat.not_lt_zero _)⟩
 | v :: t, T, h => by
  obtain ⟨q, hq, h⟩ := Option.bind_eq_some_iff.mp h
  obtain ⟨r, hr, h⟩ := Option.bind_eq_some_iff.mp h
  obtain rfl := Option.some.inj h
  have ih := impl_reduce.modsR_get p t r hr
  refine ⟨by simp [ih.1], fun i h1 h2 => ?_⟩
  cases i with
  | zero => exact hq
  | succ i => exact ih.2 i (by simpa using h1) (by simpa using h2)
theorem impl_reduce.rowsF_get (p : Int) (j : Nat) (inv : Int) (own : List Int) : ∀ (l T : List (List Int)), impl_reduce.rowsF p j inv own l = some T → T.length = l.length ∧ ∀ i (h : i < l.length) (h2 : i < T.length), impl_reduce.row p j inv own l[i] = some T[i]
 | [], T, h => by
  obtain rfl := Option.some.inj h
  exact ⟨rfl, fun i h => absurd h (Nat.not_lt_zero _)⟩
 | v :: t, T, h => by
  obtain ⟨q, hq, h⟩ := Option.bind_eq_some_iff.mp h
  obtain ⟨r, hr, h⟩ := Option.bind_eq_some_iff.mp h
  obtain rfl := Option.some.inj h
  have ih := impl_reduce.rowsF_get p j inv own t r hr
  refine ⟨by simp [ih.1], fun i h1 h2 => ?_⟩
  cases i with
  | zero => exact hq
  | succ i => exact ih.2 i (by simpa using h1) (by simpa using h2)
theorem impl_reduce.red_get (p b : Int) : ∀ (l o T : List Int), impl_reduce.red p b l o = some T → T.length = l.length ∧ l.length ≤ o.length ∧ ∀ i (h : i < l.length) (h2 : i < T.length), impl_rest.f (wrap64 (l.getD i 0 - Int.tmod (wrap64 (b * o.getD i 0)) p)) p = some T[i]
 | [], o, T, h => by
  obtain rfl := Option.some.inj h
  exact ⟨rfl, Nat.zero_le _, fun i h => absurd h (Nat.not_lt_zero _)⟩
 | v :: t, [], T, h => by cases h
 | v :: t, y :: o, T, h => by
  obtain ⟨q, hq, h⟩ := Option.bind_eq_some_iff.mp h
  obtain ⟨r, hr, h⟩ := Option.bind_eq_some_iff.mp h
  obtain rfl := Option.some.inj h
  have ih := impl_reduce.red_get p b t o r hr
  refine ⟨by simp [ih.1], by simp [ih.2.1], fun i h1 h2 => ?_⟩
  cases i with
  | zero => exact hq
  | succ i => exact ih.2.2 i (by simpa using h1) (by simpa using h2)
/-- the closure: is a row not 0 at column j -/
theorem impl_reduce.closure (j : Nat) (A : Option Addr) (c b : Nat) (row : List Int) (W : World) (hb : W.cell? ⟨b, 0, none⟩ = some (.int .i64 (j : Int))) (hA : Kd.C (Kd.int .i64) W A row.length row) (hj : j < row.length) :
  Calls Try.prog 89 #[.slice A row.length c, .pointer (some ⟨b, 0, none⟩)] W fun e w' => e = .returned (.bool (row.getD j 0 != 0)) ∧ Drawn0 W w' := by
 (have q5 : (j : Int) < (row.length : Int) := by omega); (have p5 : (0 : Int) ≤ (j : Int) := by omega); obtain ⟨ad, rfl, hx⟩ := Kd.at_int hA (j : Int) p5 q5; (have h0 : rd row (j : Int) = row.getD j 0 := by unfold rd; rw [Int.toNat_natCast]); rw [h0] at hx; simp only [Int.toNat_natCast] at hx; replace p5 := eq_true p5; replace q5 := eq_true q5; clear hA h0; generalize row.getD j 0 = z at hx ⊢; go_enter Try.func89, Try.ntmps89; go_wp2; go_ret; exact ⟨by first | rfl | simp, by repeat (first | exact Drawn0.refl _ | apply Drawn0.step)⟩
/-- what slices.IndexFunc answers -/
def impl_reduce.place (o : Option Nat) : Int := match o with | none => -1 | some q => (q : Int)
theorem impl_reduce.find_skip (j : Nat) : ∀ (l : List (List Int)) (i : Nat), (∀ x ∈ l.take i, x.getD j 0 = 0) → i ≤ l.length → impl_reduce.find j l = (impl_reduce.find j (l.drop i)).map (· + i)
 | l, 0, _, _ => by rw [List.drop_zero]; simp
 | [], i + 1, _, h => absurd h (Nat.not_succ_le_zero _)
 | x :: t, i + 1, h, hl => by
  have h0 : x.getD j 0 = 0 := h x (by simp)
  rw [impl_reduce.find, if_pos h0, List.drop_succ_cons, impl_reduce.find_skip j t i (fun y hy => h y (by simp [hy])) (by simpa using hl), Option.map_map]
  congr 1
/-- slices.IndexFunc over rows, by the closure -/
theorem impl_reduce.index (j : Nat) (b : Nat) (A0 : Option Addr) (c0 : Nat) (l0 : List (List Int)) (w : World) (hr0 : Kd.C (Kd.slice 3 (Kd.int .i64)) w A0 l0.length l0) (hc0 : l0.length ≤ c0) (hl : l0.length < 4611686018427387904)
  (hb : w.cell? ⟨b, 0, none⟩ = some (.int .i64 (j : Int))) (hj : ∀ x ∈ l0, j < x.length) :
  Calls Try.prog 88 #[.slice A0 l0.length c0, .func (.func 89) #[] #[.pointer (some ⟨b, 0, none⟩)]] w fun e w' => e = .returned (.int .i64 (impl_reduce.place (impl_reduce.find j l0))) ∧ Drawn0 w w' := by
 have HR0 := Aside0.mk hr0; have HBX := Aside0.mk hb; have HJ := Aside0.mk hj; clear hr0 hb hj; go_enter Try.func88, Try.ntmps88; go_wp2
 go_loopg [8] (l0.length + 1) (fun kq v8 w' => ∃ (i : Nat), v8 = .int .i64 i ∧ i ≤ l0.length ∧ l0.length - i < kq ∧ Aside0 (∀ x ∈ l0.take i, x.getD j 0 = 0) ∧ Drawn0 w w')
 case atStart => exact ⟨0, by go_num, Nat.zero_le _, by omega, ⟨by simp⟩, by repeat (first | exact Drawn0.refl _ | apply Drawn0.step)⟩
 case round =>
  obtain ⟨i, rfl, hi, hm, HA, ⟨m1, rfl⟩⟩ := hrel; obtain ⟨k1, rfl⟩ : ∃ m, gk = m + 1 := ⟨gk - 1, by omega⟩
  by_cases hil : i < l0.length
  ·(have hiz : (i : Int) < (l0.length : Int) := by omega); obtain ⟨ad, A1, c1, e0, hx0, hl1, hi1⟩ := at_L1 HR0.out (i : Int) (by omega) hiz; (have hrd : rd_L1 l0 (i : Int) = l0[i] := by unfold rd_L1; simp [hil]); rw [hrd] at hx0 hl1 hi1; rw [Int.toNat_natCast] at hx0; cases e0; have p1 : (0 ≤ (i : Int)) = True := eq_true (by omega); have p2 : ((i : Int) < (l0.length : Int)) = True := eq_true hiz; have HC := Aside0.mk (impl_reduce.closure j A1 c1 b l0[i] (w.drewN m1) ((pw_below_drewN (Below.refl _ _) m1).cell (World.block_lt_of_cell? w _ HBX.out) |>.trans HBX.out) (Kd.C_drewN hi1 m1) (HJ.out _ (List.getElem_mem hil))); clear hi1
   by_cases hz : l0[i].getD j 0 = 0
   ·(have e1 : (l0[i].getD j 0 != 0) = false := by rw [hz]; rfl); rw [e1] at HC
    have HA2 := Aside0.mk (show ∀ x ∈ l0.take (i + 1), x.getD j 0 = 0 by
     intro x hx
     rw [List.take_succ_eq_append_getElem hil, List.mem_append, List.mem_singleton] at hx
     rcases hx with hx | rfl
     ·exact HA.out x hx
     exact hz)
    clear hz e1; go_wp2_with ((go_at_call 89); (with_reducible refine HC.out.mono ?_); rintro e w' ⟨rfl, ⟨nd, rfl⟩⟩)
    go_roundg k1
    case measure => exact Nat.lt_succ_self _
    case rel => exact ⟨i + 1, by go_num, by omega, by omega, HA2, by repeat (first | exact Drawn0.refl _ | apply Drawn0.step)⟩
   have e1 : (l0[i].getD j 0 != 0) = true := bne_iff_ne.mpr hz; rw [e1] at HC
   have HF := Aside0.mk (show impl_reduce.find j l0 = some i by
    rw [impl_reduce.find_skip j l0 i HA.out hi, List.drop_eq_getElem_cons hil, impl_reduce.find, if_neg hz]; simp)
   clear hz e1; go_wp2_with ((go_at_call 89); (with_reducible refine HC.out.mono ?_); rintro e w' ⟨rfl, ⟨nd, rfl⟩⟩); go_ret; exact ⟨by rw [HF.out]; rfl, by repeat (first | exact Drawn0.refl _ | apply Drawn0.step)⟩
  obtain rfl : i = l0.length := by omega
  have HF := Aside0.mk (show impl_reduce.find j l0 = none by
   rw [impl_reduce.find_skip j l0 _ HA.out hi, List.drop_length, impl_reduce.find]; rfl)
  clear HA; go_wp2; go_ret; exact ⟨by rw [HF.out]; rfl, by repeat (first | exact Drawn0.refl _ | apply Drawn0.step)⟩
theorem impl_reduce.find_lt (j : Nat) : ∀ (l : List (List Int)) (q : Nat), impl_reduce.find j l = some q → q < l.length
 | [], q, h => by cases h
 | x :: t, q, h => by
  rw [impl_reduce.find] at h
  split at h
  ·obtain ⟨q', h', rfl⟩ := Option.map_eq_some_iff.1 h
   have := impl_reduce.find_lt j t q' h'
   simp; omega
  ·obtain rfl := Option.some.inj h
   simp
/-- a row that is being changed, at place kk -/
def impl_reduce.cur (row T : List Int) (j kk : Nat) : List Int := row.take j ++ (T.take (kk - j) ++ row.drop kk)
theorem impl_reduce.cur_len (row T : List Int) (j kk : Nat) (hj : j ≤ kk) (hk : kk ≤ row.length) (hT : T.length = row.length - j) : (impl_reduce.cur row T j kk).length = row.length := by
 unfold impl_reduce.cur; simp only [List.length_append, List.length_take, List.length_drop]; omega
theorem impl_reduce.cur_at (row T : List Int) (j kk : Nat) (hj : j ≤ kk) (hk : kk < row.length) (hT : T.length = row.length - j) : (impl_reduce.cur row T j kk).getD kk 0 = row.getD kk 0 := by
 unfold impl_reduce.cur; (have h1 : (row.take j ++ T.take (kk - j)).length = kk := by simp only [List.length_append, List.length_take]; omega); rw [← List.append_assoc, List.getD_eq_getElem?_getD, List.getElem?_append_right (by omega), h1, Nat.sub_self, List.getElem?_drop, List.getD_eq_getElem?_getD, Nat.add_zero]
theorem impl_reduce.cur_set (row T : List Int) (j kk : Nat) (hj : j ≤ kk) (hk : kk < row.length) (hT : T.length = row.length - j) (h : kk - j < T.length) : (impl_reduce.cur row T j kk).set kk T[kk - j] = impl_reduce.cur row T j (kk + 1) := by
 unfold impl_reduce.cur; (have h1 : (row.take j ++ T.take (kk - j)).length = kk := by simp only [List.length_append, List.length_take]; omega); rw [← List.append_assoc, List.set_append_right _ _ (by omega), h1, Nat.sub_self, List.drop_eq_getElem_cons hk, List.set_cons_zero, show kk + 1 - j = (kk - j) + 1 by omega, List.take_succ_eq_append_getElem h]; simp only [List.append_assoc, List.singleton_append]
theorem impl_reduce.cur_start (row T : List Int) (j : Nat) : impl_reduce.cur row T j j = row := by
 unfold impl_reduce.cur; rw [Nat.sub_self, List.take_zero, List.nil_append, List.take_append_drop]
theorem impl_reduce.cur_end (row T : List Int) (j : Nat) (hT : T.length = row.length - j) : impl_reduce.cur row T j row.length = row.take j ++ T := by
 unfold impl_reduce.cur; rw [List.drop_length, List.append_nil, ← hT, List.take_length]
/-- the rows while those below rank are changed, at place i -/
def impl_reduce.mid (L M : List (List Int)) (s i : Nat) : List (List Int) := L.take s ++ (M.take i ++ L.drop (s + i))
theorem impl_reduce.mid_len (L M : List (List Int)) (s i : Nat) (hs : s ≤ L.length) (hM : M.length = L.length - s) (hi : i ≤ M.length) : (impl_reduce.mid L M s i).length = L.length := by
 unfold impl_reduce.mid; simp only [List.length_append, List.length_take, List.length_drop]; omega
theorem impl_reduce.mid_low (L M : List (List Int)) (s i k : Nat) (hk : k < s) (hs : s ≤ L.length) : (impl_reduce.mid L M s i)[k]? = L[k]? := by
 unfold impl_reduce.mid; rw [List.getElem?_append_left (by rw [List.length_take]; omega), List.getElem?_take, if_pos hk]
theorem impl_reduce.mid_at (L M : List (List Int)) (s i : Nat) (hs : s ≤ L.length) (hM : M.length = L.length - s) (hi : i < M.length) : (impl_reduce.mid L M s i)[s + i]? = L[s + i]? := by
 unfold impl_reduce.mid; (have h1 : (L.take s ++ M.take i).length = s + i := by simp only [List.length_append, List.length_take]; omega); rw [← List.append_assoc, List.getElem?_append_right (by omega), h1, Nat.sub_self, List.getElem?_drop, Nat.add_zero]
theorem impl_reduce.mid_set (L M : List (List Int)) (s i : Nat) (hs : s ≤ L.length) (hM : M.length = L.length - s) (hi : i < M.length) : (impl_reduce.mid L M s i).set (s + i) M[i] = impl_reduce.mid L M s (i + 1) := by
 unfold impl_reduce.mid; (have h1 : (L.take s ++ M.take i).length = s + i := by simp only [List.length_append, List.length_take]; omega); rw [← List.append_assoc, List.set_append_right _ _ (by omega), h1, Nat.sub_self, List.drop_eq_getElem_cons (by omega), List.set_cons_zero, List.take_succ_eq_append_getElem hi]; simp only [List.append_assoc, List.singleton_append, Nat.add_assoc]
theorem impl_reduce.mid_start (L M : List (List Int)) (s : Nat) : impl_reduce.mid L M s 0 = L := by
 unfold impl_reduce.mid; simp
theorem impl_reduce.mid_end (L M : List (List Int)) (s : Nat) (hs : s ≤ L.length) (hM : M.length = L.length - s) : impl_reduce.mid L M s M.length = L.take s ++ M := by
 unfold impl_reduce.mid; rw [List.take_length, List.drop_of_length_le (by omega), List.append_nil]
theorem impl_reduce.mid_rows (L M : List (List Int)) (s i m : Nat) (hL : ∀ x ∈ L, x.length = m) (hM : ∀ x ∈ M, x.length = m) : ∀ x ∈ impl_reduce.mid L M s i, x.length = m := by
 intro x hx; unfold impl_reduce.mid at hx; rw [List.mem_append, List.mem_append] at hx
 rcases hx with hx | hx | hx
 ·exact hL x (List.mem_of_mem_take hx)
 ·exact hM x (List.mem_of_mem_take hx)
 exact hL x (List.mem_of_mem_drop hx)
def impl_reduce.T20 : Bool × List (List Nat × List Nat) := (true, [([], []), ([], []), ([], []), ([], []), ([], []), ([3, 4], [3, 4]), ([], []), ([], []), ([], []), ([7, 8], [7, 8]), ([6, 9], [6, 9]), ([10], [10]), ([], []), ([], []), ([12, 13], [12, 13]), ([14], [14]), ([0, 1, 0, 1, 6, 7, 8, 9, 10, 11, 15], [0, 1]), ([16, 11, 0, 1, 6, 7, 8, 9, 10, 11, 15], [11, 16]), ([2, 5, 0, 1, 2, 3, 4, 5, 6, 7, 8, 9, 10, 11, 12, 13, 14, 15, 16, 17], [2, 5]), ([18, 15, 17, 0, 1, 2, 3, 4, 5, 6, 7, 8, 9, 10, 11, 12, 13, 14, 15, 16, 17], [15, 18])])
def impl_reduce.B20 : List Nat := [0, 0, 0, 0, 0, 24, 0, 0, 0, 384, 960, 1984, 0, 0, 12288, 28672, 65475, 131011, 262143, 524287]
theorem impl_reduce.tab20 : rtab .any (opsOf Try.f54 20) = impl_reduce.T20 := by kernel_rfl
theorem impl_reduce.bits20 : waitsOk impl_reduce.T20.2 impl_reduce.B20 = true := by kernel_rfl
def impl_reduce.T32 : Bool × List (List Nat × List Nat) := (true, [([], []), ([], []), ([], []), ([], []), ([2, 3], [2, 3]), ([4], [4]), ([], []), ([], []), ([], []), ([7, 8], [7, 8]), ([9], [9]), ([6, 10], [6, 10]), ([], []), ([11, 12], [11, 12]), ([5, 13], [5, 13]), ([], []), ([14, 15], [14, 15]), ([0, 1, 0, 1, 2, 3, 4, 5, 6, 7, 8, 9, 10, 11, 12, 13, 14, 15, 16], [0, 1]), ([17, 16, 16, 0, 1, 2, 3, 4, 5, 6, 7, 8, 9, 10, 11, 12, 13, 14, 15, 16], [16, 17])])
def impl_reduce.B32 : List Nat := [0, 0, 0, 0, 12, 28, 0, 0, 0, 384, 896, 1984, 0, 8128, 16380, 0, 65532, 131071, 262143]
theorem impl_reduce.tab32 : rtab .any (opsOf Try.f54 32) = impl_reduce.T32 := by kernel_rfl
theorem impl_reduce.bits32 : waitsOk impl_reduce.T32.2 impl_reduce.B32 = true := by kernel_rfl
theorem impl_reduce.calls (k : Nat) (A0 : Option Addr) (c0 : Nat) (l0 : List (List Int)) (a1 : Int) (r1 r2 : Int) (w : World) (hr0 : Kd.C (Kd.slice 3 (Kd.int .i64)) w A0 l0.length l0) (hc0 : l0.length ≤ c0) (h : impl_reduce.f k l0 a1 = some (r1, r2)) :
  Calls Try.prog 54 #[.slice A0 l0.length c0, .int .i64 a1] w fun e w' => e = .returned (.tuple #[.int .i64 r1, .int .i64 r2]) ∧ Below w.heap.size w w' := by
 unfold impl_reduce.f at h; by_cases hg : impl_reduce.good l0 a1 = true
 case neg => rw [if_neg hg] at h; cases h
 rw [if_pos hg] at h; unfold impl_reduce.good at hg; rw [Bool.and_eq_true, decide_eq_true_eq] at hg; obtain ⟨⟨hn1, hn2, hm1, hm2, hp0⟩, hall⟩ := hg; have hrow : ∀ x ∈ l0, x.length = (l0.getD 0 []).length := fun x hx => of_decide_eq_true (List.all_eq_true.1 hall x hx); generalize (l0.getD 0 []).length = m at h hm1 hm2 hrow; obtain ⟨L0, hL, hgo⟩ := Option.bind_eq_some_iff.mp h; obtain ⟨hLl, hLg⟩ := impl_reduce.modsR_get a1 l0 L0 hL; have HR0 := Aside0.mk hr0; have HRW := Aside0.mk hrow; have FG := Aside0.mk hgo; have FM := Aside0.mk hLg; have FL := Aside0.mk hLl; have HB := Aside0.mk (Below.refl w.heap.size w); clear h hr0 hall hL hgo hLg hLl hrow; go_enter Try.func54, Try.ntmps54; go_wp2_with ((with_reducible refine gate_dst (N := 22) rfl ?_); refine Kd.S_lit (Kd.slice 3 (Kd.int .i64)) _ 35 ?hg (N := 22) ?hd (xs := ([] : List (List Int))) (inner := []) (ok := fun _ => True) (okp := fun _ => True) ?hr ?hp (fun _ hk => hk) trivial (Below.refl _ _) (Nat.le_refl _) (by simp) ?_; (case hd => rfl); (case hg => rfl); (case hr => first | (go_simp; done) | (go_simp; rfl)); (case hp => exact (Reps.none _ _)); intro v22 w4 ho hb hg_ hnew_; clear hg_ hnew_; have HX := Aside0.mk ho; have HB2 := Aside0.mk hb; clear HB ho hb; have HB := HB2; clear HB2)
 go_loopg [6, 25] (l0.length + 1) (fun kq v6 v25 w' => ∃ (i : Nat), v25 = .int .i64 i ∧ i ≤ l0.length ∧ l0.length - i < kq ∧ Aside0 (Kd.S (Kd.slice 3 (Kd.int .i64)) 35 w' w.heap.size (fun _ => True) v6 (L0.take i)) ∧ Aside0 (Below w.heap.size w w'))
 case atStart => exact ⟨0, by go_num, Nat.zero_le _, by omega, ⟨by rw [List.take_zero]; exact HX.out⟩, HB⟩
 case round =>
  clear HX HB; obtain ⟨i, rfl, hi, hgi, HX, HB⟩ := hrel; obtain ⟨k1, rfl⟩ : ∃ m, gk = m + 1 := ⟨gk - 1, by omega⟩
  by_cases hil : i < l0.length
  ·(have hiz : (i : Int) < (l0.length : Int) := by omega); obtain ⟨ad, A1, c1, e0, hx0, hl1, hi1⟩ := at_L1 (Kd.C_below HR0.out HB.out) (i : Int) (by omega) hiz; (have hrd : rd_L1 l0 (i : Int) = l0[i] := by unfold rd_L1; simp [hil]); rw [hrd] at hx0 hl1 hi1; rw [Int.toNat_natCast] at hx0; cases e0; (have hLi : i < L0.length := by have := FL.out; omega); obtain ⟨hTl, hTg⟩ := impl_reduce.mods_get a1 _ _ (FM.out i hil hLi); have hnew : L0.take (i + 1) = L0.take i ++ [L0[i]] := List.take_succ_eq_append_getElem hLi; have hrl := HRW.out _ (List.getElem_mem hil); generalize hT : L0[i] = T at hTl hTg hnew; generalize hR : l0[i] = row at hx0 hl1 hi1 hTl hTg hrl; have HN := Aside0.mk hnew; have TG := Aside0.mk hTg; have TL := Aside0.mk hTl; have HRI := Aside0.mk hi1; have HRL := Aside0.mk hrl; (have hrb : row.length ≤ 1000 := by omega); have p1 : (0 ≤ (i : Int)) = True := eq_true (by omega); have p2 : ((i : Int) < (l0.length : Int)) = True := eq_true hiz; clear hi1 hnew hTg hTl hR hT hrd hrl; go_wp2_with ((with_reducible refine gate_dst (N := 29) rfl ?_); refine Kd.R_lit (Kd.int .i64) _ 3 ?hg (N := 29) ?hd (xs := ([] : List Int)) (inner := []) (ok := fun _ => True) (okp := fun _ => True) ?hr ?hp (fun _ hk => hk) trivial (Below.refl _ _) (Nat.le_refl _) (by simp) ?_; (case hd => rfl); (case hg => rfl); (case hr => first | (go_simp; done) | (go_simp; rfl)); (case hp => exact (Reps.none _ _)); intro v29 w5 ho hb hg_ hnew_; clear hg_ hnew_; have HN1 := Aside0.mk ho; have HBi := Aside0.mk hb; clear ho hb); obtain ⟨WR, eWR⟩ : ∃ X : World, X = wr := ⟨_, rfl⟩; subst eWR
   go_loopg [11, 32] (row.length + 1) (fun kq v11 v32 w' => ∃ (j : Nat), v32 = .int .i64 j ∧ j ≤ row.length ∧ row.length - j < kq ∧ Aside0 (Kd.R (Kd.int .i64) 3 w' WR.heap.size (fun _ => True) v11 (T.take j)) ∧ Aside0 (Below WR.heap.size WR w'))
   case atStart => exact ⟨0, by go_num, Nat.zero_le _, by omega, ⟨by rw [List.take_zero]; exact HN1.out⟩, HBi⟩
   case round =>
    clear HN1 HBi; obtain ⟨j, rfl, hj, hgj, HN1, HBi⟩ := hrel; obtain ⟨k2, rfl⟩ : ∃ m, gk = m + 1 := ⟨gk - 1, by omega⟩
    by_cases hjl : j < row.length
    ·(have hjz : (j : Int) < (row.length : Int) := by omega); (have p3 : (0 : Int) ≤ (j : Int) := by omega); obtain ⟨ad2, e2, hx2⟩ := Kd.at_int (Kd.C_below HRI.out HBi.out) (j : Int) p3 hjz; cases e2; (have hrd2 : rd row (j : Int) = row[j] := by unfold rd; simp [hjl]); rw [hrd2] at hx2; simp only [Int.toNat_natCast] at hx2; (have hTj : j < T.length := by have := TL.out; omega); have F1 := Aside0.mk (TG.out j hjl hTj); have hnew : T.take (j + 1) = T.take j ++ [T[j]] := List.take_succ_eq_append_getElem hTj; generalize T[j] = tj at F1 hnew; generalize row[j] = vj at hx2 F1; have HN2 := Aside0.mk hnew; clear hnew hrd2; replace p3 := eq_true p3; have q3 := eq_true hjz; have hTs := Aside0.mk (show (T.take j).length ≤ 1000 by rw [List.length_take]; have := TL.out; omega)
     go_wp2_with (first
      | (go_at_call 55; (with_reducible refine (impl_rest.calls vj a1 tj _ F1.out).mono ?_); rintro e w6 ⟨rfl, ⟨nd, rfl⟩⟩; have HN3 := Aside0.mk (Kd.R_drewN HN1.out nd); have HBj := Aside0.mk (pw_below_drewN HBi.out nd); clear HN1 HBi hx2; have HN1 := HN3; have HBi := HBj; clear HN3 HBj)
      | ((with_reducible refine gate_builtin (b := .append) (xs := #[.tmp 36, .tmp 40]) rfl ?_); at_builtin; refine Kd.R_append (Kd.int .i64) (w0 := WR) WR.heap.size rfl (.tmp 36) (.tmp 40) 35 3 (.int .i64 0) 8 rfl Try.underlying35 info3 rfl (by decide) (by omega) u11 (T.take j) tj [.int .i64 tj] (fun _ => True) (fun _ => False) rfl rfl ?aP (fun _ hk => hk.elim) ?aF ?aO ?aB ?aS ?aL ?_; (case aP => exact rfl); (case aB => exact HBi.out); (case aF => exact (fun _ _ => trivial)); (case aO => exact Kd.R_mono HN1.out (fun _ _ => trivial)); (case aS => exact HBi.out.size); (case aL => have := hTs.out; omega); intro v2 w2 ho hb hg_ hat_; rw [← HN2.out] at ho; have HN3 := Aside0.mk ho; have HBj := Aside0.mk hb; clear ho hb hg_ hat_ HN1 HBi; have HN1 := HN3; have HBi := HBj; clear HN3 HBj))
     go_roundg k2
     case measure => exact Nat.lt_succ_self _
     case rel => exact ⟨j + 1, by go_num, by omega, by omega, HN1, HBi⟩
    (obtain rfl : j = row.length := by omega); have hfull : T.take row.length = T := List.take_of_length_le (by have := TL.out; omega); rw [hfull] at HN1; clear hfull; obtain ⟨Ao, co, eo⟩ := Kd.R_slice HN1.out; subst eo; have hTs := Aside0.mk (show (L0.take i).length ≤ 1000 by rw [List.length_take]; omega); have HXn := Aside0.mk (Kd.S_old HX.out HBi.out); have HXo := Aside0.mk (Kd.S_lt HX.out); have HBn := Aside0.mk (below_step HB.out HBi.out); have HWs := Aside0.mk HB.out.size; clear HX HB; go_wp2_with ((with_reducible refine gate_builtin (b := .append) (xs := #[.tmp 43, .tmp 45]) rfl ?_); at_builtin; refine Kd.S_append (Kd.slice 3 (Kd.int .i64)) (w0 := w) w.heap.size rfl (.tmp 43) (.tmp 45) 22 35 (.slice none 0 0) 24 rfl Try.underlying22 info35 rfl (by decide) (by omega) u6 (L0.take i) T [.slice Ao T.length co] (fun _ => True) (fun k_ => some k_ = (.slice Ao T.length co : Value).ownBlock) rfl rfl ?aP ?aK (fun _ _ => trivial) ?aO ?aB ?aS ?aL ?_; (case aP => exact Kd.M_row (Kd.R_tight rfl (Kd.R_lower HN1.out HWs.out))); (case aK => intro k_ hk; exact ⟨trivial, fun e_ => Nat.lt_irrefl _ (Nat.lt_of_lt_of_le (HXo.out k_ e_.symm) (Kd.R_base HN1.out k_ hk.symm))⟩); (case aO => exact Kd.S_mono HXn.out (fun k_ hk => ⟨trivial, fun e_ => Nat.lt_irrefl _ (Nat.lt_of_lt_of_le hk.2 (Kd.R_base HN1.out k_ e_.symm))⟩)); (case aB => exact HBn.out); (case aS => exact HBn.out.size); (case aL => have := hTs.out; omega); intro v5 w5 ho hb _ _; rw [← HN.out] at ho; have HX := Aside0.mk ho; have HB := Aside0.mk hb; clear ho hb HXn HBn HN1 HBi)
    go_roundg k1
    case measure => exact Nat.lt_succ_self _
    case rel => exact ⟨i + 1, by go_num, by omega, by omega, HX, HB⟩
  (obtain rfl : i = l0.length := by omega); have hfull : L0.take l0.length = L0 := List.take_of_length_le (by have := FL.out; omega); rw [hfull] at HX
  have hLm : ∀ x ∈ L0, x.length = m := by
   intro x hx; obtain ⟨q, hq, rfl⟩ := List.getElem_of_mem hx; (have hq2 : q < l0.length := by have := FL.out; omega); rw [(impl_reduce.mods_get a1 _ _ (FM.out q hq2 hq)).1]; exact HRW.out _ (List.getElem_mem hq2)
  (have hL0 : 0 < L0.length := by have := FL.out; omega); obtain ⟨g, cap, B0, rfl, hle, hcm, hM⟩ := MatS.Mat.of_S HX.out (List.length_pos_iff.1 hL0) (fun x hx => List.length_pos_iff.1 (by rw [hLm x hx]; omega)); have HL2 := Aside0.mk (show L0.length ≤ 1000 by have := FL.out; omega); clear HX hfull FM HRW HR0 hi hgi hil FL hn1 hn2; obtain ⟨b0, hb0, hl0⟩ := hM.at_ hL0; obtain ⟨hc0_, hf0_⟩ := hM.cell hb0 hl0; rw [hLm _ (List.getElem_mem hL0)] at hc0_; have HM := Aside0.mk hM; have HLM := Aside0.mk hLm; have HLE := Aside0.mk hle; have p1 : ((0 : Int) < (L0.length : Int)) = True := eq_true (by omega); clear hM hLm hle hcm hl0 hb0; go_wp2
  go_loopg [7, 8, 52] (m + 1) (fun kq v7 v8 v52 w' => ∃ (j rank : Nat) (det : Int) (L : List (List Int)) (B : List (Nat × Nat)), v7 = .int .i64 rank ∧ v8 = .int .i64 det ∧ v52 = .int .i64 j ∧ j ≤ m ∧ m - j < kq ∧ rank < L0.length ∧ Aside0 (L.length = L0.length ∧ ∀ x ∈ L, x.length = m) ∧ Aside0 (impl_reduce.go k a1 (m - j) j L rank det = some (r1, r2)) ∧ Aside0 (MatS.Mat 35 3 w' w.heap.size g B L) ∧ Aside0 (Below w.heap.size w w'))
  case atStart => exact ⟨0, 0, 1, L0, B0, by go_num, rfl, by go_num, Nat.zero_le _, by omega, hL0, ⟨rfl, HLM.out⟩, FG, HM, HB⟩
  case round =>
   clear FG HM HB HLM hc0_ hf0_ hL0; obtain ⟨j, rank, det, L, B, rfl, rfl, rfl, hj, hgj, hrk, HL, FG, HM, HB⟩ := hrel; obtain ⟨k1, rfl⟩ : ∃ m, gk = m + 1 := ⟨gk - 1, by omega⟩
   by_cases hjm : j < m
   ·(have hjz : (j : Int) < (m : Int) := by omega); have hcr : (cap = rank) = False := eq_false (by have := HLE.out; omega); have hpz : (a1 = 0) = False := eq_false (by omega); have p2 : (0 ≤ (rank : Int)) = True := eq_true (by omega); have q2 : ((rank : Int) < (L0.length : Int)) = True := eq_true (by omega); (have hdl : (L.drop rank).length = L0.length - rank := by rw [List.length_drop, HL.out.1]); have hix := impl_reduce.index j wr.heap.size (some ⟨g, rank, none⟩) (cap - rank) (L.drop rank) (wr.alloc (.cells #[.int .i64 (j : Int)] 3)) (Kd.C_alloc (HM.out.tail rank (by have := HL.out.1; omega) (by have := HL.out.1; have := HL2.out; have : maxLen = 9223372036854775807 := rfl; omega)) _) (by rw [hdl]; have := HLE.out; omega) (by rw [hdl]; have := HL2.out; omega) (by simp) (fun x hx => by rw [HL.out.2 x (List.mem_of_mem_drop hx)]; exact hjm); rw [hdl] at hix; have HMA := Aside0.mk (HM.out.below (below_alloc (Below.refl _ _) (.cells #[.int .i64 (j : Int)] 3))); have HBA := Aside0.mk (HB.out.alloc HB.out.size (.cells #[.int .i64 (j : Int)] 3)); have BXA := Aside0.mk (blk_new wr (.cells #[.int .i64 (j : Int)] 3)); have HWL := Aside0.mk HB.out.size; have NBB := Aside0.mk (show g ≠ wr.heap.size ∧ ∀ (i : Nat) (b : Nat × Nat), B[i]? = some b → b.1 ≠ wr.heap.size from ⟨Nat.ne_of_lt HM.out.gt, fun i b hb => Nat.ne_of_lt (HM.out.hi hb)⟩); clear HM HB; have hgo := FG.out; rw [show m - j = (m - (j + 1)) + 1 by omega, impl_reduce.go] at hgo; have hpj : (0 ≤ (j : Int)) = True := eq_true (by omega); have hqj : ((j : Int) < (m : Int)) = True := eq_true hjz
    cases hf : impl_reduce.find j (L.drop rank) with
    | none =>
     rw [hf] at hgo hix; simp only [impl_reduce.place] at hgo hix; have CC := Aside0.mk hix; have FG2 := Aside0.mk hgo; clear hix hgo FG hdl; go_wp2_with (go_at_call 88; (with_reducible refine CC.out.mono ?_); rintro e w' ⟨rfl, ⟨nd, rfl⟩⟩; have HM2 := Aside0.mk (HMA.out.below (pw_below_drewN (Below.refl _ _) nd)); have HB2 := Aside0.mk (pw_below_drewN HBA.out nd); clear HMA HBA BXA CC)
     go_roundg k1
     case measure => exact Nat.lt_succ_self _
     case rel => exact ⟨j + 1, rank, 0, L, B, rfl, rfl, by go_num, by omega, by omega, hrk, HL, FG2, HM2, HB2⟩
    | some q =>
     rw [hf] at hgo hix; simp only [impl_reduce.place] at hgo hix; (have hql : rank + q < L0.length := by have := impl_reduce.find_lt j _ _ hf; rw [hdl] at this; omega); have CC := Aside0.mk hix; clear hix FG hdl; have hl1000 := HL2.out; (have hrq2 : rank + q < L.length := by have := HL.out.1; omega); (have hrk2 : rank < L.length := by have := HL.out.1; omega); by_cases hq0 : q = 0
     case' pos =>
      subst hq0; have hsw : impl_reduce.swap L rank (rank + 0) = L := if_pos rfl; rw [hsw, if_pos rfl] at hgo; obtain ⟨o, ho, hlo⟩ := HMA.out.at_ hrk2; have hom : L[rank].length = m := HL.out.2 _ (List.getElem_mem _); obtain ⟨own, hown⟩ : ∃ own, L[rank] = own := ⟨_, rfl⟩; rw [hown] at hlo hom; (have hgd : L.getD rank [] = own := by rw [List.getD_eq_getElem?_getD, hlo]; rfl); obtain ⟨v, hv⟩ : ∃ v, own.getD j 0 = v := ⟨_, rfl⟩; obtain ⟨d1, hd1⟩ : ∃ d1, det = d1 := ⟨_, rfl⟩; subst hd1; unfold impl_reduce.use at hgo; rw [hgd, hv] at hgo; obtain ⟨inv, hinv, hgo⟩ := Option.bind_eq_some_iff.mp hgo; obtain ⟨M, hM, hgo⟩ := Option.bind_eq_some_iff.mp hgo; have FI := Aside0.mk hinv; have FMM := Aside0.mk hM; have FG3 := Aside0.mk hgo; have HO1 := Aside0.mk ho; have HO2 := Aside0.mk hlo; have HO3 := Aside0.mk hom; have HO4 := Aside0.mk hv; clear hinv hM hgo ho hlo hom hgd hsw hown hv hrq2 hql
      go_wp2_with (first
       | (go_at_call 88; (with_reducible refine CC.out.mono ?_); rintro e w' ⟨rfl, ⟨nd, rfl⟩⟩; have HM1 := Aside0.mk (HMA.out.below (pw_below_drewN (Below.refl _ _) nd)); have HB1 := Aside0.mk (pw_below_drewN HBA.out nd); have BX1 := Aside0.mk (blk_below BXA.out (pw_below_drewN (Below.refl _ _) nd)); clear HMA HBA BXA CC; have hxo := (HM1.out.cell HO1.out HO2.out).1; rw [HO3.out] at hxo; have hbx := (blk_cell BX1.out 0).trans rfl; have hxv := (HM1.out.num HO1.out HO2.out (j : Int) (by omega) (by rw [HO3.out]; omega)).1; rw [show rd own (j : Int) = own.getD j 0 from by unfold rd; rw [Int.toNat_natCast], HO4.out, Int.toNat_natCast] at hxv)
       | (go_at_call 56; (with_reducible refine (impl_inverseMod.calls k v a1 inv _ FI.out).mono ?_); rintro e w' ⟨rfl, ⟨nd2, rfl⟩⟩; have HM2 := Aside0.mk (HM1.out.below (pw_below_drewN (Below.refl _ _) nd2)); have HB2 := Aside0.mk (pw_below_drewN HB1.out nd2); have BX2 := Aside0.mk (blk_below BX1.out (pw_below_drewN (Below.refl _ _) nd2)); clear HM1 HB1 BX1 hxo hbx hxv))
      all_goals
       (have eW : ((wr.alloc (.cells #[.int .i64 (j : Int)] 3)).drewN nd).drewN nd2 = (wr.alloc (.cells #[.int .i64 (j : Int)] 3)).drewN (nd + nd2) := by simp); rw [eW] at HM2 HB2 BX2; clear eW; generalize (wr.alloc (.cells #[.int .i64 (j : Int)] 3)).drewN (nd + nd2) = W5 at HM2 HB2 BX2 ⊢; generalize wr.heap.size = bx at BX2 HWL NBB ⊢; obtain ⟨L1, hL1⟩ : ∃ L1, L1 = L := ⟨_, rfl⟩; rw [← hL1] at HM2 HL FMM FG3 HO2; obtain ⟨B1, hB1⟩ : ∃ B1, B1 = B := ⟨_, rfl⟩; rw [← hB1] at HM2 NBB HO1; clear hL1 hB1 hrk2 hpj hqj p2 q2; generalize Int.tmod (wrap64 (det * v)) a1 = d2 at FG3 ⊢
      case' inl =>
       (have hin : L0.length = rank + 1 := by have := HLE.out; omega); (have hlen : rank + 1 = L1.length := by rw [HL.out.1, hin]); have h3 := FG3.out; rw [if_pos hlen] at h3; obtain ⟨e1, e2⟩ := Prod.mk.inj (Option.some.inj h3); subst e1 e2; (have hns : L0.length - (rank + 1) = 0 := by omega); rw [hns]; (have hl2 : ((L0.length : Nat) : Int) = ((rank + 1 : Nat) : Int) := by rw [hin]); clear h3 FG3 hlen hns
       go_loopg [110] 1 (fun kq v110 w' => v110 = .int .i64 0 ∧ Aside0 (Below w.heap.size w w'))
       case' atStart => exact ⟨rfl, HB2⟩
       case' round =>
        clear HB2; obtain ⟨rfl, HB⟩ := hrel; go_wp2; go_ret2; exact ⟨by first | rfl | (simp; done), HB.out⟩
     case' neg =>
      have hqz : ((q : Int) < 0) = False := eq_false (by omega); have hqp : ((0 : Int) < (q : Int)) = True := eq_true (by omega); have hqn : (0 < q) = True := eq_true (by omega); have hqd : decide ((0 : Int) < (q : Int)) = true := decide_eq_true (by omega); have hqe : decide ((q : Int) < 0) = false := decide_eq_false (by omega); (have hw : IntKind.i64.wrap ((rank : Int) + (q : Int)) = ((rank + q : Nat) : Int) := by rw [i64_w]; unfold wrap64; omega); (have hne : rank ≠ rank + q := by omega); have hsw : impl_reduce.swap L rank (rank + q) = MatS.exch L rank (rank + q) (L.getD rank []) (L.getD (rank + q) []) := if_neg hne; rw [hsw, if_neg hq0] at hgo; generalize rank + q = rq at hgo hrq2 hql hw hne; have prq : (0 ≤ (rq : Int)) = True := eq_true (by omega); have qrq : ((rq : Int) < (L0.length : Int)) = True := eq_true (by omega); obtain ⟨b, hb, hlb⟩ := HMA.out.at_ hrk2; obtain ⟨c, hc, hlc⟩ := HMA.out.at_ hrq2; have hbm : L[rank].length = m := HL.out.2 _ (List.getElem_mem _); have hcm : L[rq].length = m := HL.out.2 _ (List.getElem_mem _); obtain ⟨lb, hlbe⟩ : ∃ x, L[rank] = x := ⟨_, rfl⟩; obtain ⟨own, hown⟩ : ∃ own, L[rq] = own := ⟨_, rfl⟩; rw [hlbe] at hlb hbm; rw [hown] at hlc hcm; rw [show L.getD rank [] = lb by rw [List.getD_eq_getElem?_getD, hlb]; rfl, show L.getD rq [] = own by rw [List.getD_eq_getElem?_getD, hlc]; rfl] at hgo; (have hx1 : (MatS.exch L rank rq lb own)[rank]? = some own := by rw [MatS.exch_at hlb hlc, if_neg (Ne.symm hne), if_pos rfl]; exact hlc); (have hx2 : (MatS.exch B rank rq b c)[rank]? = some c := by rw [MatS.exch_at hb hc, if_neg (Ne.symm hne), if_pos rfl]; exact hc); obtain ⟨v, hv⟩ : ∃ v, own.getD j 0 = v := ⟨_, rfl⟩; obtain ⟨d1, hd1⟩ : ∃ d1, Int.tmod (wrap64 (a1 - det)) a1 = d1 := ⟨_, rfl⟩; unfold impl_reduce.use at hgo; rw [show (MatS.exch L rank rq lb own).getD rank [] = own by rw [List.getD_eq_getElem?_getD, hx1]; rfl, hv, hd1] at hgo; obtain ⟨inv, hinv, hgo⟩ := Option.bind_eq_some_iff.mp hgo; obtain ⟨M, hM, hgo⟩ := Option.bind_eq_some_iff.mp hgo; have FI := Aside0.mk hinv; have FMM := Aside0.mk hM; have FG3 := Aside0.mk hgo; have HO1 := Aside0.mk hx2; have HO2 := Aside0.mk hx1; have HO3 := Aside0.mk hcm; have HO4 := Aside0.mk hv; have Kb := Aside0.mk hb; have Kc := Aside0.mk hc; have Klb := Aside0.mk hlb; have Klc := Aside0.mk hlc; have Kbm := Aside0.mk hbm
      have HLx : Aside0 ((MatS.exch L rank rq lb own).length = L0.length ∧ ∀ x ∈ MatS.exch L rank rq lb own, x.length = m) := ⟨by unfold MatS.exch; rw [List.length_set, List.length_set]; exact HL.out.1, fun x hx => by
       obtain ⟨t, ht⟩ := List.getElem?_of_mem hx
       rw [MatS.exch_at hlb hlc] at ht
       exact HL.out.2 x (List.mem_of_getElem? ht)⟩
      have NBx : Aside0 (g ≠ wr.heap.size ∧ ∀ (i : Nat) (b_ : Nat × Nat), (MatS.exch B rank rq b c)[i]? = some b_ → b_.1 ≠ wr.heap.size) := ⟨NBB.out.1, fun i b_ hb_ => by
       rw [MatS.exch_at hb hc] at hb_
       exact NBB.out.2 _ b_ hb_⟩
      clear hinv hM hgo hb hc hlb hlc hbm hcm hsw hlbe hown hx1 hx2 hv hrq2 hql hrk2 HL NBB hq0; have HL := HLx; have NBB := NBx; clear HLx NBx; go_wp2_with (go_at_call 88; (with_reducible refine CC.out.mono ?_); rintro e w' ⟨rfl, ⟨nd, rfl⟩⟩; have HM1 := Aside0.mk (HMA.out.below (pw_below_drewN (Below.refl _ _) nd)); have HB1 := Aside0.mk (pw_below_drewN HBA.out nd); have BX1 := Aside0.mk (blk_below BXA.out (pw_below_drewN (Below.refl _ _) nd)); clear HMA HBA BXA CC); generalize (wr.alloc (.cells #[.int .i64 (j : Int)] 3)).drewN nd = W1 at HM1 HB1 BX1 ⊢; generalize wr.heap.size = bx at BX1 HWL NBB ⊢; have HM2 := Aside0.mk (HM1.out.below (below_drew (Below.refl _ _))); have BX2 := Aside0.mk (blk_below BX1.out (below_drew (Below.refl _ _))); have HB2 := Aside0.mk (below_drew1 HB1.out); clear HM1 HB1 BX1; obtain ⟨hxb, hfb⟩ := HM2.out.cell Kb.out Klb.out; rw [Kbm.out] at hxb; have hxc := (HM2.out.cell Kc.out Klc.out).1; obtain ⟨hyc, hyf⟩ := HM2.out.mid Kc.out Klc.out hne (.slice (some ⟨c.1, 0, none⟩) m c.2); rw [HO3.out] at hxc hyc; refine start_ (n := 20) (S := fun w' => w'.cell? ⟨g, rq, none⟩ = some (.slice (some ⟨c.1, 0, none⟩) m c.2) ∧ w'.cell? ⟨g, rank, none⟩ = some (.slice (some ⟨b.1, 0, none⟩) m b.2)) (ds := [17, 19]) #[false, false, false, false, false, false, false, false, false, false, false, false, false, false, false, false, false, false, false, false] (by kernel_rfl) rfl rfl ⟨hxc, hxb⟩ (fun hHeld => ?_); refine with_tabW impl_reduce.tab20 impl_reduce.bits20 (fun HT_ HW_ => ?_); generalize W1.drew = W2 at HM2 HB2 BX2 hxc hxb hfb hyc hyf hHeld ⊢; refine pu 0 64 HT_.out ?_; refine pu 1 65 HT_.out ?_; refine pu 2 66 HT_.out ?_; refine pu 3 67 HT_.out ?_; refine pu 4 68 HT_.out ?_; refine pu 5 69 HT_.out ?_; refine pu 6 70 HT_.out ?_; refine pu 7 71 HT_.out ?_; refine pu 8 72 HT_.out ?_; refine pu 9 73 HT_.out ?_; refine pu 10 74 HT_.out ?_; refine pu 12 76 HT_.out ?_; refine pu 13 77 HT_.out ?_; refine pu 14 78 HT_.out ?_; refine tk 11 75 HT_.out HW_.out hHeld ?_ (hy := by rintro w' ⟨s0, s1⟩; go_simp; with_reducible rfl); refine tk 15 79 HT_.out HW_.out hHeld ?_ (hy := by rintro w' ⟨s0, s1⟩; go_simp; with_reducible rfl); refine pu 16 80 HT_.out ?_; refine last_ (i := 17) (N := none) #[true, true, true, true, true, true, true, true, true, true, true, true, true, true, true, true, true, true, false, false] rfl rfl (one_of HT_.out (by kernel_rfl)) (by decide) (fun K hK => ?_); refine skip_ (w1 := ?_) (by rfl) rfl ?_ ?_
      rotate_left
      ·go_simp; rfl
      refine hK.out _ _ ?_; clear hK K; refine pu 18 81 HT_.out ?_; refine last_ (i := 19) (N := none) #[true, true, true, true, true, true, true, true, true, true, true, true, true, true, true, true, true, true, true, true] rfl rfl (one_of HT_.out (by kernel_rfl)) (by decide) (fun K hK => ?_); refine skip_ (w1 := ?_) (by rfl) rfl ?_ ?_
      rotate_left
      ·go_simp; rfl
      refine hK.out _ _ ?_; clear hK K; refine done_ (done_of HT_.out (by kernel_rfl)) ?_; have hP := HM2.out.swap Kb.out Klb.out Kc.out Klc.out; rw [HO3.out, Kbm.out] at hP; have HM3 := Aside0.mk hP; have BX3 := Aside0.mk ((Below.heap_setCell (W2.setCell ⟨g, rank, none⟩ (.slice (some ⟨c.1, 0, none⟩) m c.2)) ⟨g, rq, none⟩ (.slice (some ⟨b.1, 0, none⟩) m b.2) bx (Ne.symm NBB.out.1)).trans ((Below.heap_setCell W2 ⟨g, rank, none⟩ (.slice (some ⟨c.1, 0, none⟩) m c.2) bx (Ne.symm NBB.out.1)).trans BX2.out)); have HB3 := Aside0.mk (below_set (g := g) (j := rq) (v := .slice (some ⟨b.1, 0, none⟩) m b.2) (below_set (g := g) (j := rank) (v := .slice (some ⟨c.1, 0, none⟩) m c.2) HB2.out HM2.out.gb) HM2.out.gb); clear hP HM2 BX2 HB2 hxb hxc hfb hyc hyf hHeld hw prq qrq hne; generalize (W2.setCell ⟨g, rank, none⟩ (.slice (some ⟨c.1, 0, none⟩) m c.2)).setCell ⟨g, rq, none⟩ (.slice (some ⟨b.1, 0, none⟩) m b.2) = W3 at HM3 BX3 HB3 ⊢; obtain ⟨L1, hL1⟩ : ∃ L1, L1 = MatS.exch L rank rq lb own := ⟨_, rfl⟩; rw [← hL1] at HM3 HL FMM FG3 HO2; obtain ⟨B1, hB1⟩ : ∃ B1, B1 = MatS.exch B rank rq b c := ⟨_, rfl⟩; rw [← hB1] at HM3 NBB HO1; clear hL1 hB1; have hxo := (HM3.out.cell HO1.out HO2.out).1; rw [HO3.out] at hxo; have hbx := (blk_cell BX3.out 0).trans rfl; have hxv := (HM3.out.num HO1.out HO2.out (j : Int) (by omega) (by rw [HO3.out]; omega)).1; rw [show rd own (j : Int) = own.getD j 0 from by unfold rd; rw [Int.toNat_natCast], HO4.out, Int.toNat_natCast] at hxv; obtain ⟨o, ho⟩ : ∃ o, o = c := ⟨_, rfl⟩; rw [← ho] at HO1 hxo hxv; clear ho Kb Kc Klb Klc Kbm; go_wp2_with (go_at_call 56; (with_reducible refine (impl_inverseMod.calls k v a1 inv _ FI.out).mono ?_); rintro e w' ⟨rfl, ⟨nd2, rfl⟩⟩; have HM2 := Aside0.mk (HM3.out.below (pw_below_drewN (Below.refl _ _) nd2)); have HB2 := Aside0.mk (pw_below_drewN HB3.out nd2); have BX2 := Aside0.mk (blk_below BX3.out (pw_below_drewN (Below.refl _ _) nd2)); clear HM3 HB3 BX3 hxo hbx hxv)
      all_goals
       generalize W3.drewN nd2 = W5 at HM2 HB2 BX2 ⊢; clear hpj hqj p2 q2 hd1 hqz hqp hqn hqd hqe; generalize Int.tmod (wrap64 (d1 * v)) a1 = d2 at FG3 ⊢
      case' inl =>
       (have hin : L0.length = rank + 1 := by have := HLE.out; omega); (have hlen : rank + 1 = L1.length := by rw [HL.out.1, hin]); have h3 := FG3.out; rw [if_pos hlen] at h3; obtain ⟨e1, e2⟩ := Prod.mk.inj (Option.some.inj h3); subst e1 e2; (have hns : L0.length - (rank + 1) = 0 := by omega); rw [hns]; (have hl2 : ((L0.length : Nat) : Int) = ((rank + 1 : Nat) : Int) := by rw [hin]); clear h3 FG3 hlen hns
       go_loopg [110] 1 (fun kq v110 w' => v110 = .int .i64 0 ∧ Aside0 (Below w.heap.size w w'))
       case' atStart => exact ⟨rfl, HB2⟩
       case' round =>
        clear HB2; obtain ⟨rfl, HB⟩ := hrel; go_wp2; go_ret2; exact ⟨by first | rfl | (simp; done), HB.out⟩
     all_goals
      obtain ⟨hMl, hMg⟩ := impl_reduce.rowsF_get a1 j inv own _ M FMM.out; rw [List.length_drop, HL.out.1] at hMl; have HMl := Aside0.mk hMl; have HMg := Aside0.mk hMg
      have HMr : Aside0 (∀ x ∈ M, x.length = m) := ⟨by
       intro x hx
       obtain ⟨t, ht, rfl⟩ := List.getElem_of_mem hx
       have hd : t < (L1.drop (rank + 1)).length := by rw [List.length_drop, HL.out.1]; omega
       obtain ⟨T, hT, e⟩ := Option.bind_eq_some_iff.mp (HMg.out t hd ht)
       have hr := HL.out.2 _ (List.mem_of_mem_drop (List.getElem_mem hd))
       have hTl := (impl_reduce.red_get a1 _ _ _ T hT).1
       rw [List.length_drop] at hTl
       rw [← Option.some.inj e, List.length_append, List.length_take, hTl]
       omega⟩
      clear hMl hMg
      go_loopg [110] (L0.length + 1) (fun kq v110 w' => ∃ (i : Nat), v110 = .int .i64 i ∧ i ≤ L0.length - (rank + 1) ∧ L0.length - (rank + 1) - i < kq ∧ Aside0 (MatS.Mat 35 3 w' w.heap.size g B1 (impl_reduce.mid L1 M (rank + 1) i)) ∧ Aside0 (w'.heap[bx]? = some (.cells #[.int .i64 (j : Int)] 3 (0, 0))) ∧ Aside0 (Below w.heap.size w w'))
      case' atStart => exact ⟨0, by go_num, Nat.zero_le _, by omega, ⟨by rw [impl_reduce.mid_start]; exact HM2.out⟩, BX2, HB2⟩
      case' round =>
       clear HM2 BX2 HB2; obtain ⟨i, rfl, hi, hgi, HM, BX, HB⟩ := hrel; obtain ⟨k2, rfl⟩ : ∃ m, gk = m + 1 := ⟨gk - 1, by omega⟩; by_cases hil : i < L0.length - (rank + 1)
       case' pos =>
        (have hiz : (i : Int) < ((L0.length - (rank + 1) : Nat) : Int) := by omega); (have hMi : i < M.length := by have := HMl.out; omega); (have hr1 : rank + 1 + i < L1.length := by have := HL.out.1; omega); have hLM := impl_reduce.mid_len L1 M (rank + 1) i (by omega) (by have := HMl.out; have := HL.out.1; omega) (by omega); obtain ⟨b, hb, hb_⟩ := HM.out.at_ (i := rank + 1 + i) (by rw [hLM]; exact hr1); clear hb_; have hrow := impl_reduce.mid_at L1 M (rank + 1) i (by omega) (by have := HMl.out; have := HL.out.1; omega) hMi; rw [List.getElem?_eq_getElem hr1] at hrow; (have hd : i < (L1.drop (rank + 1)).length := by rw [List.length_drop]; omega); obtain ⟨T, hT, hTe⟩ := Option.bind_eq_some_iff.mp (HMg.out i hd hMi); rw [List.getElem_drop] at hT hTe; have hrm := HL.out.2 _ (List.getElem_mem hr1); obtain ⟨row, hre⟩ : ∃ row, L1[rank + 1 + i] = row := ⟨_, rfl⟩; rw [hre] at hT hTe hrow hrm; obtain ⟨u, hu⟩ : ∃ u, row.getD j 0 = u := ⟨_, rfl⟩; rw [hu] at hT; generalize hbq : Int.tmod (wrap64 (u * inv)) a1 = bq at hT; obtain ⟨hTl, _, hTg⟩ := impl_reduce.red_get a1 bq _ _ T hT; rw [List.length_drop, hrm] at hTl; have hset := impl_reduce.mid_set L1 M (rank + 1) i (by omega) (by have := HMl.out; have := HL.out.1; omega) hMi; rw [← Option.some.inj hTe] at hset; have HSET := Aside0.mk hset; have HROW := Aside0.mk hrow; have HRM := Aside0.mk hrm; have HBB := Aside0.mk hb; have HTG := Aside0.mk hTg; have HTL := Aside0.mk hTl; have HOL : Aside0 ((impl_reduce.mid L1 M (rank + 1) i)[rank]? = some own) := ⟨by rw [impl_reduce.mid_low L1 M _ i rank (by omega) (by omega)]; exact HO2.out⟩; have HLL := Aside0.mk hLM; have hxr := (HM.out.cell hb hrow).1; rw [hrm] at hxr; have hbx := (blk_cell BX.out 0).trans rfl; have hxu := (HM.out.num hb hrow (j : Int) (by omega) (by rw [hrm]; omega)).1; rw [show rd row (j : Int) = row.getD j 0 from by unfold rd; rw [Int.toNat_natCast], hu, Int.toNat_natCast] at hxu; have pi := eq_true (show 0 ≤ (i : Int) by omega); have pj := eq_true (show 0 ≤ (j : Int) by omega); have qj := eq_true hjz; clear hset hrow hrm hb hTg hTl hLM hT hTe hre hu hd hMi; go_wp2; have HNE := Aside0.mk (show b.1 ≠ bx from NBB.out.2 _ b HBB.out); have HRK := Aside0.mk (show rank ≠ rank + 1 + i by omega)
        have HSS := Aside0.mk (show ((impl_reduce.mid L1 M (rank + 1) i).set (rank + 1 + i) row) = impl_reduce.mid L1 M (rank + 1) i from by
         obtain ⟨h1_, h2_⟩ := List.getElem?_eq_some_iff.1 HROW.out
         rw [← h2_, List.set_getElem_self])
        have hri : row.length = m := HRM.out; generalize impl_reduce.mid L1 M (rank + 1) i = LL at HM HOL HLL HROW HSET HSS
        first | rw [hbq] | skip
        clear hxr hxu
        go_loopg [21] (m + 1) (fun kq v21 w' => ∃ (kk : Nat), v21 = .int .i64 kk ∧ j ≤ kk ∧ kk ≤ m ∧ m - kk < kq ∧ Aside0 (MatS.Mat 35 3 w' w.heap.size g B1 (LL.set (rank + 1 + i) (impl_reduce.cur row T j kk))) ∧ Aside0 (w'.heap[bx]? = some (.cells #[.int .i64 (j : Int)] 3 (0, 0))) ∧ Aside0 (Below w.heap.size w w'))
        case' atStart => exact ⟨j, rfl, Nat.le_refl _, hj, by omega, ⟨by rw [impl_reduce.cur_start, HSS.out]; exact HM.out⟩, BX, HB⟩
        case' round =>
         clear HM BX HB hbx; obtain ⟨kk, rfl, hj', hkm0, hgk, HM, BX, HB⟩ := hrel; obtain ⟨k3, rfl⟩ : ∃ m, gk = m + 1 := ⟨gk - 1, by omega⟩; by_cases hkl : kk < m
         case' pos =>
          have hkm : kk < row.length := by omega
          have hbr := HBB.out
          have TLn := Aside0.mk (show T.length = row.length - j by rw [hri]; exact HTL.out)
          have hrowc : (LL.set (rank + 1 + i) (impl_reduce.cur row T j kk))[rank + 1 + i]? = some (impl_reduce.cur row T j kk) := by rw [List.getElem?_set, if_pos rfl, if_pos (by rw [HLL.out]; exact hr1)]
          have howc : (LL.set (rank + 1 + i) (impl_reduce.cur row T j kk))[rank]? = some own := by rw [List.getElem?_set, if_neg (Ne.symm HRK.out)]; exact HOL.out
          have hkt : kk - j < T.length := by have := HTL.out; omega
          have hft := HTG.out (kk - j) (by rw [List.length_drop]; omega) hkt
          have hgd : ∀ l : List Int, (l.drop j).getD (kk - j) 0 = l.getD kk 0 := fun l => by rw [List.getD_eq_getElem?_getD, List.getElem?_drop, List.getD_eq_getElem?_getD, show j + (kk - j) = kk by omega]
          rw [hgd, hgd] at hft
          have hcs := impl_reduce.cur_set row T j kk hj' hkm TLn.out hkt
          generalize T[kk - j] = tk at hft hcs
          obtain ⟨xk, hxk⟩ : ∃ x, row.getD kk 0 = x := ⟨_, rfl⟩
          obtain ⟨yk, hyk⟩ : ∃ y, own.getD kk 0 = y := ⟨_, rfl⟩
          rw [hxk, hyk] at hft
          have FT := Aside0.mk hft
          have HCS := Aside0.mk hcs
          have nM := Aside0.mk (HM.out.below (below_drew (Below.refl _ _)))
          have nX := Aside0.mk (blk_below BX.out (below_drew (Below.refl _ _)))
          have nB := Aside0.mk (below_drew1 HB.out)
          clear HM BX HB hft hcs hgd
          have HM := nM
          have BX := nX
          have HB := nB
          clear nM nX nB
          have hxr := (HM.out.num hbr hrowc (kk : Int) (by omega) (by rw [impl_reduce.cur_len row T j kk hj' (by omega) TLn.out]; omega)).1
          rw [show rd (impl_reduce.cur row T j kk) (kk : Int) = (impl_reduce.cur row T j kk).getD kk 0 from by unfold rd; rw [Int.toNat_natCast], impl_reduce.cur_at row T j kk hj' hkm TLn.out, hxk, Int.toNat_natCast] at hxr
          have hxo := (HM.out.num HO1.out howc (kk : Int) (by omega) (by rw [HO3.out]; omega)).1
          rw [show rd own (kk : Int) = own.getD kk 0 from by unfold rd; rw [Int.toNat_natCast], hyk, Int.toNat_natCast] at hxo
          have HRC := Aside0.mk hrowc
          have HKM := Aside0.mk hkm
          have HKT := Aside0.mk hkt
          have HBR := Aside0.mk hbr
          have pk := eq_true (show 0 ≤ (kk : Int) by omega)
          have qk := eq_true (show (kk : Int) < (m : Int) by omega)
          clear hrowc howc hkm hbr hkt hxk hyk
          go_wp2
          refine start_ (n := 19) (S := fun w' => w'.cell? ⟨b.1, kk, none⟩ = some (.int .i64 xk) ∧ w'.cell? ⟨o.1, kk, none⟩ = some (.int .i64 yk)) (ds := [18]) #[false, false, false, false, false, false, false, false, false, false, false, false, false, false, false, false, false, false, false] (by kernel_rfl) rfl rfl ⟨hxr, hxo⟩ (fun hHeld => ?_); refine with_tabW impl_reduce.tab32 impl_reduce.bits32 (fun HT_ HW_ => ?_)
          generalize wr.drew = W4 at HM HB BX hxr hxo hHeld ⊢
          refine pure_ (i := 0) (N := some 129) (v := ?_) (a' := ?_) #[true, false, false, false, false, false, false, false, false, false, false, false, false, false, false, false, false, false, false] rfl rfl (any_of HT_.out (by kernel_rfl)) (fun _ _ _ h => h) (Or.inl ⟨by rfl, ?_⟩) ?_ ?_
          rotate_left
          ·intro w'
           go_simp
           with_reducible rfl
          rotate_left
          ·simp only [Act.put, List.setIfInBounds_toArray, List.set_cons_zero, List.set_cons_succ, i64_w, i32_w]
           rfl
          refine pure_ (i := 1) (N := some 130) (v := ?_) (a' := ?_) #[true, true, false, false, false, false, false, false, false, false, false, false, false, false, false, false, false, false, false] rfl rfl (any_of HT_.out (by kernel_rfl)) (fun _ _ _ h => h) (Or.inl ⟨by rfl, ?_⟩) ?_ ?_
          rotate_left
          ·intro w'
           go_simp
           with_reducible rfl
          rotate_left
          ·simp only [Act.put, List.setIfInBounds_toArray, List.set_cons_zero, List.set_cons_succ, i64_w, i32_w]
           rfl
          refine pure_ (i := 2) (N := some 131) (v := ?_) (a' := ?_) #[true, true, true, false, false, false, false, false, false, false, false, false, false, false, false, false, false, false, false] rfl rfl (any_of HT_.out (by kernel_rfl)) (fun _ _ _ h => h) (Or.inl ⟨by rfl, ?_⟩) ?_ ?_
          rotate_left
          ·intro w'
           go_simp
           with_reducible rfl
          rotate_left
          ·simp only [Act.put, List.setIfInBounds_toArray, List.set_cons_zero, List.set_cons_succ, i64_w, i32_w]
           rfl
          refine pure_ (i := 3) (N := some 132) (v := ?_) (a' := ?_) #[true, true, true, true, false, false, false, false, false, false, false, false, false, false, false, false, false, false, false] rfl rfl (any_of HT_.out (by kernel_rfl)) (fun _ _ _ h => h) (Or.inl ⟨by rfl, ?_⟩) ?_ ?_
          rotate_left
          ·intro w'
           go_simp
           with_reducible rfl
          rotate_left
          ·simp only [Act.put, List.setIfInBounds_toArray, List.set_cons_zero, List.set_cons_succ, i64_w, i32_w]; rfl
          refine pure_ (i := 4) (N := some 133) (v := ?_) (a' := ?_) #[true, true, true, true, true, false, false, false, false, false, false, false, false, false, false, false, false, false, false] rfl rfl (any_of HT_.out (by kernel_rfl)) (fun _ _ _ h => h) (Or.inl ⟨by rfl, ?_⟩) ?_ ?_
          rotate_left
          ·intro w'; go_simp; with_reducible rfl
          rotate_left
          ·simp only [Act.put, List.setIfInBounds_toArray, List.set_cons_zero, List.set_cons_succ, i64_w, i32_w]; rfl
          refine pure_ (i := 6) (N := some 135) (v := ?_) (a' := ?_) #[true, true, true, true, true, false, true, false, false, false, false, false, false, false, false, false, false, false, false] rfl rfl (any_of HT_.out (by kernel_rfl)) (fun _ _ _ h => h) (Or.inl ⟨by rfl, ?_⟩) ?_ ?_
          rotate_left
          ·intro w'; go_simp; with_reducible rfl
          rotate_left
          ·simp only [Act.put, List.setIfInBounds_toArray, List.set_cons_zero, List.set_cons_succ, i64_w, i32_w]; rfl
          refine pure_ (i := 7) (N := some 136) (v := ?_) (a' := ?_) #[true, true, true, true, true, false, true, true, false, false, false, false, false, false, false, false, false, false, false] rfl rfl (any_of HT_.out (by kernel_rfl)) (fun _ _ _ h => h) (Or.inl ⟨by rfl, ?_⟩) ?_ ?_
          rotate_left
          ·intro w'; go_simp; with_reducible rfl
          rotate_left
          ·simp only [Act.put, List.setIfInBounds_toArray, List.set_cons_zero, List.set_cons_succ, i64_w, i32_w]; rfl
          refine pure_ (i := 8) (N := some 137) (v := ?_) (a' := ?_) #[true, true, true, true, true, false, true, true, true, false, false, false, false, false, false, false, false, false, false] rfl rfl (any_of HT_.out (by kernel_rfl)) (fun _ _ _ h => h) (Or.inl ⟨by rfl, ?_⟩) ?_ ?_
          rotate_left
          ·intro w'; go_simp; with_reducible rfl
          rotate_left
          ·simp only [Act.put, List.setIfInBounds_toArray, List.set_cons_zero, List.set_cons_succ, i64_w, i32_w]; rfl
          refine pure_ (i := 9) (N := some 138) (v := ?_) (a' := ?_) #[true, true, true, true, true, false, true, true, true, true, false, false, false, false, false, false, false, false, false] rfl rfl (any_of HT_.out (by kernel_rfl)) (fun _ _ _ h => h) (Or.inl ⟨by rfl, ?_⟩) ?_ ?_
          rotate_left
          ·intro w'; go_simp; with_reducible rfl
          rotate_left
          ·simp only [Act.put, List.setIfInBounds_toArray, List.set_cons_zero, List.set_cons_succ, i64_w, i32_w]; rfl
          refine pure_ (i := 12) (N := some 141) (v := ?_) (a' := ?_) #[true, true, true, true, true, false, true, true, true, true, false, false, true, false, false, false, false, false, false] rfl rfl (any_of HT_.out (by kernel_rfl)) (fun _ _ _ h => h) (Or.inl ⟨by rfl, ?_⟩) ?_ ?_
          rotate_left
          ·intro w'; go_simp; with_reducible rfl
          rotate_left
          ·simp only [Act.put, List.setIfInBounds_toArray, List.set_cons_zero, List.set_cons_succ, i64_w, i32_w]; rfl
          refine pure_ (i := 15) (N := some 144) (v := ?_) (a' := ?_) #[true, true, true, true, true, false, true, true, true, true, false, false, true, false, false, true, false, false, false] rfl rfl (any_of HT_.out (by kernel_rfl)) (fun _ _ _ h => h) (Or.inl ⟨by rfl, ?_⟩) ?_ ?_
          rotate_left
          ·intro w'; go_simp; with_reducible rfl
          rotate_left
          ·simp only [Act.put, List.setIfInBounds_toArray, List.set_cons_zero, List.set_cons_succ, i64_w, i32_w]; rfl
          refine take_ (i := 5) (N := some 134) (v := ?_) (a' := ?_) #[true, true, true, true, true, true, true, true, true, true, false, false, true, false, false, true, false, false, false] rfl rfl (take_ofW HT_.out HW_.out (by kernel_rfl)) (fun _ _ _ h => h) (Or.inl ⟨by rfl, ?_⟩) hHeld ?_ ?_
          rotate_left
          ·rintro w' ⟨s0, s1⟩; go_simp; with_reducible rfl
          rotate_left
          ·simp only [Act.put, List.setIfInBounds_toArray, List.set_cons_zero, List.set_cons_succ, i64_w, i32_w]; rfl
          refine take_ (i := 10) (N := some 139) (v := ?_) (a' := ?_) #[true, true, true, true, true, true, true, true, true, true, true, false, true, false, false, true, false, false, false] rfl rfl (take_ofW HT_.out HW_.out (by kernel_rfl)) (fun _ _ _ h => h) (Or.inl ⟨by rfl, ?_⟩) hHeld ?_ ?_
          rotate_left
          ·rintro w' ⟨s0, s1⟩; go_simp; with_reducible rfl
          rotate_left
          ·simp only [Act.put, List.setIfInBounds_toArray, List.set_cons_zero, List.set_cons_succ, i64_w, i32_w]; rfl
          refine pure_ (i := 11) (N := some 140) (v := ?_) (a' := ?_) #[true, true, true, true, true, true, true, true, true, true, true, true, true, false, false, true, false, false, false] rfl rfl (any_of HT_.out (by kernel_rfl)) (fun _ _ _ h => h) (Or.inl ⟨by rfl, ?_⟩) ?_ ?_
          rotate_left
          ·intro w'; go_simp; with_reducible rfl
          rotate_left
          ·simp only [Act.put, List.setIfInBounds_toArray, List.set_cons_zero, List.set_cons_succ, i64_w, i32_w]; rfl
          refine pure_ (i := 13) (N := some 142) (v := ?_) (a' := ?_) #[true, true, true, true, true, true, true, true, true, true, true, true, true, true, false, true, false, false, false] rfl rfl (any_of HT_.out (by kernel_rfl)) (fun _ _ _ h => h) (Or.inl ⟨by rfl, ?_⟩) ?_ ?_
          rotate_left
          ·intro w'; go_simp; with_reducible rfl
          rotate_left
          ·simp only [Act.put, List.setIfInBounds_toArray, List.set_cons_zero, List.set_cons_succ, i64_w, i32_w]; rfl
          refine pure_ (i := 14) (N := some 143) (v := ?_) (a' := ?_) #[true, true, true, true, true, true, true, true, true, true, true, true, true, true, true, true, false, false, false] rfl rfl (any_of HT_.out (by kernel_rfl)) (fun _ _ _ h => h) (Or.inl ⟨by rfl, ?_⟩) ?_ ?_
          rotate_left
          ·intro w'; go_simp; with_reducible rfl
          rotate_left
          ·simp only [Act.put, List.setIfInBounds_toArray, List.set_cons_zero, List.set_cons_succ, i64_w, i32_w]; rfl
          refine one_ (i := 16) (N := some 145) #[true, true, true, true, true, true, true, true, true, true, true, true, true, true, true, true, true, false, false] rfl rfl (one_of HT_.out (by kernel_rfl)) (by decide) (fun K hK => ?_); refine goes_ Try.func55 (by kernel_rfl) rfl #[(.int .i64 (wrap64 (xk - Int.tmod (wrap64 (bq * yk)) a1))), .int .i64 a1] (by rfl) rfl rfl (by (try simp only [List.map_toArray, List.map_cons, List.map_nil]); first | done | rfl) ?_; (with_reducible refine (impl_rest.calls _ a1 tk _ FT.out).mono ?_); rintro e w' ⟨rfl, ⟨nd, rfl⟩⟩; refine ⟨_, rfl, ?_⟩; refine hK.out _ _ ⟨by rw [(pw_below_drewN (Below.refl _ _) nd).cell (World.block_lt_of_cell? _ _ hHeld.1)]; exact hHeld.1, by rw [(pw_below_drewN (Below.refl _ _) nd).cell (World.block_lt_of_cell? _ _ hHeld.2)]; exact hHeld.2⟩ (fun hHeld => ?_); have hfr_ := (HM.out.below (pw_below_drewN (Below.refl _ _) nd)).num HBR.out HRC.out (kk : Int) (by omega) (by rw [impl_reduce.cur_len row T j kk hj' (Nat.le_of_lt HKM.out) TLn.out]; have := HKM.out; omega); simp only [Int.toNat_natCast] at hfr_; have hfc := hfr_.1; have hff := hfr_.2; clear hfr_; clear hK K; refine norm_ (a' := ?_) ?_ ?_
          rotate_left
          ·show Act.put _ (some 145) _ = _; simp only [Act.put, List.setIfInBounds_toArray, List.set_cons_zero, List.set_cons_succ, i64_w, i32_w]; rfl
          refine pu 17 146 HT_.out ?_; refine last_ (i := 18) (N := none) #[true, true, true, true, true, true, true, true, true, true, true, true, true, true, true, true, true, true, true] rfl rfl (one_of HT_.out (by kernel_rfl)) (by decide) (fun K hK => ?_); refine skip_ (w1 := ?_) (by rfl) rfl ?_ ?_
          rotate_left
          ·go_simp; rfl
          refine hK.out _ _ ?_; clear hK K; refine done_ (done_of HT_.out (by kernel_rfl)) ?_; have hP := (HM.out.below (pw_below_drewN (Below.refl _ _) nd)).put HBR.out HRC.out (kk : Int) tk; rw [Int.toNat_natCast, List.set_set, HCS.out] at hP; have nM := Aside0.mk hP; have nX := Aside0.mk ((Below.heap_setCell (W4.drewN nd) ⟨b.1, kk, none⟩ (.int .i64 tk) bx (Ne.symm HNE.out)).trans (blk_below BX.out (pw_below_drewN (Below.refl _ _) nd))); have nB := Aside0.mk (below_set (g := b.1) (j := kk) (v := .int .i64 tk) (pw_below_drewN HB.out nd) (HM.out.lo HBR.out HRC.out)); clear hP HM BX HB hfc hff hHeld hxr hxo; go_wp2
          go_roundg k3
          case' measure => exact Nat.lt_succ_self _
          case' rel => exact ⟨kk + 1, by go_num, by omega, by omega, by omega, nM, nX, nB⟩
         case' neg =>
          (have hke : kk = row.length := by omega); subst hke; rw [impl_reduce.cur_end row T j (by rw [hri]; exact HTL.out), HSET.out] at HM; go_wp2
          go_roundg k2
          case' measure => exact Nat.lt_succ_self _
          case' rel => exact ⟨i + 1, by go_num, by omega, by omega, HM, BX, HB⟩
       case' neg =>
        (have hie : i = M.length := by have := HMl.out; omega); have hml : M.length = L0.length - (rank + 1) := HMl.out; rw [hie, impl_reduce.mid_end L1 M (rank + 1) (by have := HL.out.1; omega) (by have := HL.out.1; omega)] at HM; have hLn : (L1.take (rank + 1) ++ M).length = L0.length := by rw [List.length_append, List.length_take, hml]; have := HL.out.1; omega
        have HLN : Aside0 ((L1.take (rank + 1) ++ M).length = L0.length ∧ ∀ x ∈ L1.take (rank + 1) ++ M, x.length = m) := ⟨hLn, fun x hx => by
         rcases List.mem_append.1 hx with hx | hx
         ·exact HL.out.2 x (List.mem_of_mem_take hx)
         exact HMr.out x hx⟩
        (have hie2 : (i : Int) = ((L0.length - (rank + 1) : Nat) : Int) := by omega); have h3 := FG3.out; clear hLn hml hie; by_cases hend : L0.length = rank + 1
        case' pos =>
         rw [if_pos (by rw [HL.out.1, hend])] at h3; obtain ⟨e1, e2⟩ := Prod.mk.inj (Option.some.inj h3); subst e1 e2; (have hl2 : ((L0.length : Nat) : Int) = ((rank + 1 : Nat) : Int) := by rw [hend]); clear h3 FG3; go_wp2; go_ret2; exact ⟨by first | rfl | (simp; done), HB.out⟩
        case' neg =>
         rw [if_neg (fun e => hend (by rw [← HL.out.1]; exact e.symm))] at h3; have FG4 := Aside0.mk h3; have hl3 : (((rank + 1 : Nat) : Int) = ((L0.length : Nat) : Int)) = False := eq_false (by omega); clear h3 FG3; go_wp2
         go_roundg k1
         case' measure => exact Nat.lt_succ_self _
         case' rel => exact ⟨j + 1, rank + 1, d2, _, B1, by go_num, rfl, by go_num, by omega, by omega, by omega, HLN, FG4, HM, HB⟩
   (obtain rfl : j = m := by omega); have h3 := FG.out; rw [Nat.sub_self, impl_reduce.go] at h3; obtain ⟨e1, e2⟩ := Prod.mk.inj (Option.some.inj h3); subst e1 e2; clear h3 FG; go_wp2; go_ret2; exact ⟨by first | rfl | (simp; done), HB.out⟩
/-! ### spec_l1Most: function 83 -/
def spec_l1Most.f (a0 : Int) (a1 : Int) : Option (Int) := if a0 > a1 then (some a0) else (some a1)
theorem spec_l1Most.calls (a0 : Int) (a1 : Int) (r : Int) (w : World) (h : spec_l1Most.f a0 a1 = some r) :
  Calls Try.prog 83 #[.int .i64 a0, .int .i64 a1] w fun e w' => e = .returned (.int .i64 r) ∧ Drawn0 w w' := by
 have H : (if a0 > a1 then (some a0) else (some a1)) = some r := h; clear h
 by_cases c3 : a0 > a1
 ·rw [if_pos c3] at H; have c3b0 := decide_eq_true c3; clear c3; obtain rfl := Option.some.inj H; go_enter Try.func83, Try.ntmps83; go_wp2; go_ret; exact ⟨sr2, by repeat (first | exact Drawn0.refl _ | apply Drawn0.step)⟩
 rw [if_neg c3] at H; have c3b0 := decide_eq_false c3; clear c3; obtain rfl := Option.some.inj H; go_enter Try.func83, Try.ntmps83; go_wp2; go_ret; exact ⟨sr2, by repeat (first | exact Drawn0.refl _ | apply Drawn0.step)⟩
/-! ### impl_in: function 57 -/
def impl_in.f (a0 : Int) (a1 : Int) (a2 : Int) : Option (Bool) := if a1 ≤ a0 then (some (decide (a0 ≤ a2))) else (some false)
theorem impl_in.calls (a0 : Int) (a1 : Int) (a2 : Int) (r : Bool) (w : World) (h : impl_in.f a0 a1 a2 = some r) :
  Calls Try.prog 57 #[.int .i64 a0, .int .i64 a1, .int .i64 a2] w fun e w' => e = .returned (.bool r) ∧ Drawn0 w w' := by
 have H : (if a1 ≤ a0 then (some (decide (a0 ≤ a2))) else (some false)) = some r := h; clear h
 by_cases c4 : a1 ≤ a0
 ·rw [if_pos c4] at H; have c4b0 := decide_eq_true c4; clear c4; obtain rfl := Option.some.inj H; go_enter Try.func57, Try.ntmps57; go_wp2; go_ret; exact ⟨sr2, by repeat (first | exact Drawn0.refl _ | apply Drawn0.step)⟩
 rw [if_neg c4] at H; have c4b0 := decide_eq_false c4; clear c4; obtain rfl := Option.some.inj H; go_enter Try.func57, Try.ntmps57; go_wp2; go_ret; exact ⟨sr2, by repeat (first | exact Drawn0.refl _ | apply Drawn0.step)⟩
/-! ### impl_areRows: function 47 -/
def impl_areRows.most (n : Nat) : Int := if n ≤ 5 then 100 else 16
def impl_areRows.bad (n : Nat) (row : List Int) : Bool := !((row.length : Int) == (n : Int)) || row.any fun x => !(decide (-(impl_areRows.most n) ≤ x) && decide (x ≤ impl_areRows.most n))
def impl_areRows.f (l0 : List (List Int)) : Option Bool := some (decide (1 ≤ (l0.length : Int)) && decide ((l0.length : Int) ≤ 14) && !(l0.any (impl_areRows.bad l0.length)))
theorem impl_areRows.in_val (a b c : Int) : impl_in.f a b c = some (decide (b ≤ a) && decide (a ≤ c)) := by
 unfold impl_in.f; by_cases h : b ≤ a <;> simp [h]
theorem impl_areRows.deep (x m : Int) (b : Nat) (W : World) (hm : 0 ≤ m ∧ m ≤ 100) (hb : W.cell? ⟨b, 0, none⟩ = some (.int .i64 m)) :
  Calls Try.prog 86 #[.int .i64 x, .pointer (some ⟨b, 0, none⟩)] W fun e w' => e = .returned (.bool (!(decide (-m ≤ x) && decide (x ≤ m)))) ∧ Drawn0 W w' := by
 (have hw : wrap64 (-m) = -m := by unfold wrap64; omega); have hw2 : IntKind.i64.wrap (-m) = -m := (i64_w _).trans hw; have hin := Aside0.mk (impl_areRows.in_val x (-m) m); clear hm; go_enter Try.func86, Try.ntmps86; go_wp2_with ((go_at_call 57); (with_reducible refine (impl_in.calls x (-m) m _ _ hin.out).mono ?_); rintro e w' ⟨rfl, ⟨nd, rfl⟩⟩); go_ret; exact ⟨by simp, by repeat (first | exact Drawn0.refl _ | apply Drawn0.step)⟩
/-- slices.IndexFunc over numbers, by the inner closure -/
theorem impl_areRows.index (q : Int → Bool) (b : Nat) (A0 : Option Addr) (c0 : Nat) (l0 : List Int) (w : World) (hr0 : Kd.C (Kd.int .i64) w A0 l0.length l0) (hc0 : l0.length ≤ c0) (hl : l0.length < 4611686018427387904)
  (hq : ∀ x n, Calls Try.prog 86 #[.int .i64 x, .pointer (some ⟨b, 0, none⟩)] (w.drewN n) fun e w' => e = .returned (.bool (q x)) ∧ Drawn0 (w.drewN n) w') :
  Calls Try.prog 94 #[.slice A0 l0.length c0, .func (.func 86) #[] #[.pointer (some ⟨b, 0, none⟩)]] w fun e w' => (∃ z : Int, e = .returned (.int .i64 z) ∧ decide (0 ≤ z) = l0.any q) ∧ Drawn0 w w' := by
 have HR0 := Aside0.mk hr0; have HQ := Aside0.mk hq; clear hr0 hq; go_enter Try.func94, Try.ntmps94; go_wp2
 go_loopg [8] (l0.length + 1) (fun kq v8 w' => ∃ (j : Nat), v8 = .int .i64 j ∧ j ≤ l0.length ∧ l0.length - j < kq ∧ Aside0 ((l0.drop j).any q = l0.any q) ∧ Drawn0 w w')
 case atStart => exact ⟨0, by go_num, Nat.zero_le _, by omega, ⟨by rw [List.drop_zero]⟩, by repeat (first | exact Drawn0.refl _ | apply Drawn0.step)⟩
 case round =>
  obtain ⟨j, rfl, hj, hm, HA, ⟨m1, rfl⟩⟩ := hrel; obtain ⟨k1, rfl⟩ : ∃ m, gk = m + 1 := ⟨gk - 1, by omega⟩
  by_cases hjl : j < l0.length
  ·(have hjz : (j : Int) < (l0.length : Int) := by omega); have hA := HA.out; rw [List.drop_eq_getElem_cons hjl, List.any_cons] at hA; obtain ⟨ad, e0, hx0⟩ := Kd.at_int HR0.out (j : Int) (by omega) hjz; (have hrd : rd l0 (j : Int) = l0[j] := by unfold rd; simp [hjl]); rw [hrd, Int.toNat_natCast] at hx0; cases e0; have p1 : (0 ≤ (j : Int)) = True := eq_true (by omega); have p2 : ((j : Int) < (l0.length : Int)) = True := eq_true hjz; have HC := Aside0.mk (HQ.out l0[j] m1)
   cases hqx : q l0[j] with
   | true =>
    rw [hqx] at hA HC; have HF := Aside0.mk hA; clear hA HA; go_wp2_with ((go_at_call 86); (with_reducible refine HC.out.mono ?_); rintro e w' ⟨rfl, ⟨nd, rfl⟩⟩); go_ret; exact ⟨⟨_, rfl, by rw [← HF.out, Bool.true_or]; exact decide_eq_true (by omega)⟩, by repeat (first | exact Drawn0.refl _ | apply Drawn0.step)⟩
   | false =>
    rw [hqx] at hA HC; rw [Bool.false_or] at hA; have HF := Aside0.mk hA; clear hA HA; go_wp2_with ((go_at_call 86); (with_reducible refine HC.out.mono ?_); rintro e w' ⟨rfl, ⟨nd, rfl⟩⟩)
    go_roundg k1
    case measure => exact Nat.lt_succ_self _
    case rel => exact ⟨j + 1, by go_num, by omega, by omega, HF, by repeat (first | exact Drawn0.refl _ | apply Drawn0.step)⟩
  (obtain rfl : j = l0.length := by omega); have hA := HA.out; rw [List.drop_length, List.any_nil] at hA; have HF := Aside0.mk hA; clear hA HA; go_wp2; go_ret; exact ⟨⟨_, rfl, by rw [← HF.out]; exact decide_eq_false (by omega)⟩, by repeat (first | exact Drawn0.refl _ | apply Drawn0.step)⟩
theorem impl_areRows.has (q : Int → Bool) (b : Nat) (A0 : Option Addr) (c0 : Nat) (l0 : List Int) (w : World) (hr0 : Kd.C (Kd.int .i64) w A0 l0.length l0) (hc0 : l0.length ≤ c0) (hl : l0.length < 4611686018427387904)
  (hq : ∀ x n, Calls Try.prog 86 #[.int .i64 x, .pointer (some ⟨b, 0, none⟩)] (w.drewN n) fun e w' => e = .returned (.bool (q x)) ∧ Drawn0 (w.drewN n) w') :
  Calls Try.prog 66 #[.slice A0 l0.length c0, .func (.func 86) #[] #[.pointer (some ⟨b, 0, none⟩)]] w fun e w' => e = .returned (.bool (l0.any q)) ∧ Drawn0 w w' := by
 have HI := Aside0.mk (impl_areRows.index q b A0 c0 l0 w hr0 hc0 hl hq); clear hr0 hc0 hq; go_enter Try.func66, Try.ntmps66; go_wp2_with ((go_at_call 94); (with_reducible refine HI.out.mono ?_); rintro e w' ⟨⟨z, rfl, hz⟩, ⟨nd, rfl⟩⟩); go_ret; exact ⟨by first | (rw [← hz]; done) | (simp [← hz]; done) | (simp [hz]; done), by repeat (first | exact Drawn0.refl _ | apply Drawn0.step)⟩
/-- the outer closure -/
theorem impl_areRows.outer (n : Nat) (bn bm : Nat) (A0 : Option Addr) (c0 : Nat) (row : List Int) (w : World) (hr0 : Kd.C (Kd.int .i64) w A0 row.length row) (hc0 : row.length ≤ c0)
  (hn : w.cell? ⟨bn, 0, none⟩ = some (.int .i64 (n : Int))) (hm : w.cell? ⟨bm, 0, none⟩ = some (.int .i64 (impl_areRows.most n))) (hs : n ≤ 14) :
  Calls Try.prog 85 #[.slice A0 row.length c0, .pointer (some ⟨bn, 0, none⟩), .pointer (some ⟨bm, 0, none⟩)] w fun e w' => e = .returned (.bool (impl_areRows.bad n row)) ∧ Drawn0 w w' := by
 have hmb : 0 ≤ impl_areRows.most n ∧ impl_areRows.most n ≤ 100 := by unfold impl_areRows.most; split <;> omega
 by_cases h : row.length = n
 ·subst h; have HH := Aside0.mk (impl_areRows.has (fun x => !(decide (-(impl_areRows.most row.length) ≤ x) && decide (x ≤ impl_areRows.most row.length))) bm A0 c0 row w hr0 hc0 (by omega) (fun x k => impl_areRows.deep x _ bm _ hmb ((pw_below_drewN (Below.refl _ _) k).cell (World.block_lt_of_cell? w _ hm) |>.trans hm)))
  have hb : impl_areRows.bad row.length row = row.any fun x => !(decide (-(impl_areRows.most row.length) ≤ x) && decide (x ≤ impl_areRows.most row.length)) := by
   unfold impl_areRows.bad; rw [show ((row.length : Int) == (row.length : Int)) = true from beq_iff_eq.mpr rfl]; rfl
  rw [hb]; clear hb hr0 hc0 hm hmb hs; go_enter Try.func85, Try.ntmps85; go_wp2_with ((go_at_call 66); (with_reducible refine HH.out.mono ?_); rintro e w' ⟨rfl, ⟨nd, rfl⟩⟩)
  all_goals (go_ret; exact ⟨by simp, by repeat (first | exact Drawn0.refl _ | apply Drawn0.step)⟩)
 have hb : impl_areRows.bad n row = true := by
  unfold impl_areRows.bad; rw [show ((row.length : Int) == (n : Int)) = false from beq_eq_false_iff_ne.mpr (by omega)]; rfl
 have e1 : ((row.length : Int) != (n : Int)) = true := bne_iff_ne.mpr (by omega); have e2 : ((row.length : Int) = (n : Int)) = False := eq_false (by omega); rw [hb]; clear hb hr0 hc0 hm hmb hs; go_enter Try.func85, Try.ntmps85; go_wp2
 all_goals (go_ret; exact ⟨by simp [*], by repeat (first | exact Drawn0.refl _ | apply Drawn0.step)⟩)
/-- slices.IndexFunc over rows, by the outer closure -/
theorem impl_areRows.indexR (q : List Int → Bool) (bn bm : Nat) (A0 : Option Addr) (c0 : Nat) (l0 : List (List Int)) (w : World) (hr0 : Kd.C (Kd.slice 3 (Kd.int .i64)) w A0 l0.length l0) (hc0 : l0.length ≤ c0) (hl : l0.length < 4611686018427387904)
  (hq : ∀ (A : Option Addr) (c : Nat) (row : List Int) (n : Nat), Kd.C (Kd.int .i64) (w.drewN n) A row.length row → row.length ≤ c → Calls Try.prog 85 #[.slice A row.length c, .pointer (some ⟨bn, 0, none⟩), .pointer (some ⟨bm, 0, none⟩)] (w.drewN n) fun e w' => e = .returned (.bool (q row)) ∧ Drawn0 (w.drewN n) w') :
  Calls Try.prog 88 #[.slice A0 l0.length c0, .func (.func 85) #[] #[.pointer (some ⟨bn, 0, none⟩), .pointer (some ⟨bm, 0, none⟩)]] w fun e w' => (∃ z : Int, e = .returned (.int .i64 z) ∧ decide (0 ≤ z) = l0.any q) ∧ Drawn0 w w' := by
 have HR0 := Aside0.mk hr0; have HQ := Aside0.mk hq; clear hr0 hq; go_enter Try.func88, Try.ntmps88; go_wp2
 go_loopg [8] (l0.length + 1) (fun kq v8 w' => ∃ (j : Nat), v8 = .int .i64 j ∧ j ≤ l0.length ∧ l0.length - j < kq ∧ Aside0 ((l0.drop j).any q = l0.any q) ∧ Drawn0 w w')
 case atStart => exact ⟨0, by go_num, Nat.zero_le _, by omega, ⟨by rw [List.drop_zero]⟩, by repeat (first | exact Drawn0.refl _ | apply Drawn0.step)⟩
 case round =>
  obtain ⟨j, rfl, hj, hm, HA, ⟨m1, rfl⟩⟩ := hrel; obtain ⟨k1, rfl⟩ : ∃ m, gk = m + 1 := ⟨gk - 1, by omega⟩
  by_cases hjl : j < l0.length
  ·(have hjz : (j : Int) < (l0.length : Int) := by omega); have hA := HA.out; rw [List.drop_eq_getElem_cons hjl, List.any_cons] at hA; obtain ⟨ad, A1, c1, e0, hx0, hl1, hi1⟩ := at_L1 HR0.out (j : Int) (by omega) hjz; (have hrd : rd_L1 l0 (j : Int) = l0[j] := by unfold rd_L1; simp [hjl]); rw [hrd] at hx0 hl1 hi1; rw [Int.toNat_natCast] at hx0; cases e0; have p1 : (0 ≤ (j : Int)) = True := eq_true (by omega); have p2 : ((j : Int) < (l0.length : Int)) = True := eq_true hjz; have HC := Aside0.mk (HQ.out A1 c1 l0[j] m1 (Kd.C_drewN hi1 m1) hl1); clear hi1
   cases hqx : q l0[j] with
   | true =>
    rw [hqx] at hA HC; have HF := Aside0.mk hA; clear hA HA; go_wp2_with ((go_at_call 85); (with_reducible refine HC.out.mono ?_); rintro e w' ⟨rfl, ⟨nd, rfl⟩⟩); go_ret; exact ⟨⟨_, rfl, by rw [← HF.out, Bool.true_or]; exact decide_eq_true (by omega)⟩, by repeat (first | exact Drawn0.refl _ | apply Drawn0.step)⟩
   | false =>
    rw [hqx] at hA HC; rw [Bool.false_or] at hA; have HF := Aside0.mk hA; clear hA HA; go_wp2_with ((go_at_call 85); (with_reducible refine HC.out.mono ?_); rintro e w' ⟨rfl, ⟨nd, rfl⟩⟩)
    go_roundg k1
    case measure => exact Nat.lt_succ_self _
    case rel => exact ⟨j + 1, by go_num, by omega, by omega, HF, by repeat (first | exact Drawn0.refl _ | apply Drawn0.step)⟩
  (obtain rfl : j = l0.length := by omega); have hA := HA.out; rw [List.drop_length, List.any_nil] at hA; have HF := Aside0.mk hA; clear hA HA; go_wp2; go_ret; exact ⟨⟨_, rfl, by rw [← HF.out]; exact decide_eq_false (by omega)⟩, by repeat (first | exact Drawn0.refl _ | apply Drawn0.step)⟩
theorem impl_areRows.hasR (q : List Int → Bool) (bn bm : Nat) (A0 : Option Addr) (c0 : Nat) (l0 : List (List Int)) (w : World) (hr0 : Kd.C (Kd.slice 3 (Kd.int .i64)) w A0 l0.length l0) (hc0 : l0.length ≤ c0) (hl : l0.length < 4611686018427387904)
  (hq : ∀ (A : Option Addr) (c : Nat) (row : List Int) (n : Nat), Kd.C (Kd.int .i64) (w.drewN n) A row.length row → row.length ≤ c → Calls Try.prog 85 #[.slice A row.length c, .pointer (some ⟨bn, 0, none⟩), .pointer (some ⟨bm, 0, none⟩)] (w.drewN n) fun e w' => e = .returned (.bool (q row)) ∧ Drawn0 (w.drewN n) w') :
  Calls Try.prog 84 #[.slice A0 l0.length c0, .func (.func 85) #[] #[.pointer (some ⟨bn, 0, none⟩), .pointer (some ⟨bm, 0, none⟩)]] w fun e w' => e = .returned (.bool (l0.any q)) ∧ Drawn0 w w' := by
 have HI := Aside0.mk (impl_areRows.indexR q bn bm A0 c0 l0 w hr0 hc0 hl hq); clear hr0 hc0 hq; go_enter Try.func84, Try.ntmps84; go_wp2_with ((go_at_call 88); (with_reducible refine HI.out.mono ?_); rintro e w' ⟨⟨z, rfl, hz⟩, ⟨nd, rfl⟩⟩); go_ret; exact ⟨by first | (rw [← hz]; done) | (simp [← hz]; done) | (simp [hz]; done), by repeat (first | exact Drawn0.refl _ | apply Drawn0.step)⟩
theorem impl_areRows.calls (A0 : Option Addr) (c0 : Nat) (l0 : List (List Int)) (r : Bool) (w : World) (hr0 : Kd.C (Kd.slice 3 (Kd.int .i64)) w A0 l0.length l0) (hc0 : l0.length ≤ c0) (h : impl_areRows.f l0 = some r) :
  Calls Try.prog 47 #[.slice A0 l0.length c0] w fun e w' => e = .returned (.bool r) ∧ Below w.heap.size w w' := by
 obtain rfl := Option.some.inj h; clear h; have HR0 := Aside0.mk hr0; clear hr0
 have cells : ∀ (m : Int) (n : Nat), impl_areRows.most l0.length = m → l0.length ≤ 14 → l0.length < 4611686018427387904 →
   Calls Try.prog 84 #[.slice A0 l0.length c0, .func (.func 85) #[] #[.pointer (some ⟨w.heap.size, 0, none⟩), .pointer (some ⟨w.heap.size + 1, 0, none⟩)]] (((w.alloc (.cells #[.int .i64 (l0.length : Int)] 3)).alloc (.cells #[.int .i64 m] 3)).drewN n) fun e w' => e = .returned (.bool (l0.any (impl_areRows.bad l0.length))) ∧ Drawn0 (((w.alloc (.cells #[.int .i64 (l0.length : Int)] 3)).alloc (.cells #[.int .i64 m] 3)).drewN n) w' := by
  intro m n hm hs hl; refine impl_areRows.hasR (impl_areRows.bad l0.length) w.heap.size (w.heap.size + 1) A0 c0 l0 _ (Kd.C_drewN (Kd.C_alloc (Kd.C_alloc HR0.out _) _) n) hc0 hl (fun A c row k hC hc => ?_)
  refine impl_areRows.outer l0.length w.heap.size (w.heap.size + 1) A c row _ hC hc ?_ ?_ hs
  ·refine (pw_cell_below (pw_below_drewN (Below.refl _ _) k) (pw_cell_below (pw_below_drewN (Below.refl _ _) n) ?_)); simp
  refine (pw_cell_below (pw_below_drewN (Below.refl _ _) k) (pw_cell_below (pw_below_drewN (Below.refl _ _) n) ?_)); rw [hm]; simp
 by_cases hr : 1 ≤ l0.length ∧ l0.length ≤ 14
 ·have hin := Aside0.mk (show impl_in.f (l0.length : Int) 1 14 = some true by rw [impl_areRows.in_val, decide_eq_true (show (1 : Int) ≤ (l0.length : Int) by omega), decide_eq_true (show (l0.length : Int) ≤ 14 by omega)]; rfl); rw [decide_eq_true (show (1 : Int) ≤ (l0.length : Int) by omega), decide_eq_true (show (l0.length : Int) ≤ 14 by omega), Bool.true_and, Bool.true_and]
  by_cases h5 : l0.length ≤ 5
  ·have CC := Aside0.mk (fun n => cells 100 n (by unfold impl_areRows.most; rw [if_pos h5]) hr.2 (by omega)); have e5 : ((l0.length : Int) ≤ 5) = True := eq_true (by omega); clear cells hr h5 hc0; go_enter Try.func47, Try.ntmps47
   go_wp2_with (first
    | ((go_at_call 57); (with_reducible refine (impl_in.calls _ _ _ _ _ hin.out).mono ?_); rintro e w' ⟨rfl, ⟨nd, rfl⟩⟩)
    | ((go_at_call 84); (with_reducible refine (CC.out nd).mono ?_); rintro e w' ⟨rfl, ⟨nd2, rfl⟩⟩))
   go_ret; exact ⟨by simp, pw_below_drewN (((Below.refl _ w).alloc (Nat.le_refl _) _).alloc (by simp) _) (nd + nd2)⟩
  have CC := Aside0.mk (fun n => cells 16 n (by unfold impl_areRows.most; rw [if_neg h5]) hr.2 (by omega)); have e5 : ((l0.length : Int) ≤ 5) = False := eq_false (by omega); clear cells hr h5 hc0; go_enter Try.func47, Try.ntmps47
  go_wp2_with (first
   | ((go_at_call 57); (with_reducible refine (impl_in.calls _ _ _ _ _ hin.out).mono ?_); rintro e w' ⟨rfl, ⟨nd, rfl⟩⟩)
   | ((go_at_call 84); (with_reducible refine (CC.out nd).mono ?_); rintro e w' ⟨rfl, ⟨nd2, rfl⟩⟩))
  go_ret; exact ⟨by simp, pw_below_drewN (((Below.refl _ w).alloc (Nat.le_refl _) _).alloc (by simp) _) (nd + nd2)⟩
 have ho : (decide ((1 : Int) ≤ (l0.length : Int)) && decide ((l0.length : Int) ≤ 14)) = false := by
  rw [Bool.and_eq_false_iff]
  by_cases h1 : (1 : Int) ≤ (l0.length : Int)
  ·exact .inr (decide_eq_false (by omega))
  exact .inl (decide_eq_false h1)
 have hin := Aside0.mk (show impl_in.f (l0.length : Int) 1 14 = some false by rw [impl_areRows.in_val, ho]); rw [ho, Bool.false_and]; clear cells hr ho hc0; go_enter Try.func47, Try.ntmps47; go_wp2_with ((go_at_call 57); (with_reducible refine (impl_in.calls _ _ _ _ _ hin.out).mono ?_); rintro e w' ⟨rfl, ⟨nd, rfl⟩⟩)
 all_goals (go_ret; exact ⟨by simp, pw_below_drewN (((Below.refl _ w).alloc (Nat.le_refl _) _).alloc (by simp) _) nd⟩)
/-! ### impl_primes: function 53 -/
def impl_primes.f  : Option (List Int) := some (([2147483647, 2147483629, 2147483587] : List Int))
theorem impl_primes.calls  (r : List Int) (w : World) (h : impl_primes.f  = some r) :
  Calls Try.prog 53 #[] w fun e w' => ∃ v0_ : Value, e = .returned (v0_) ∧ Kd.R (Kd.int .i64) 3 w' w.heap.size (fun _ => True) v0_ r ∧ Below w.heap.size w w' := by
 have HB := Aside0.mk (Below.refl w.heap.size w); have H : (some (([2147483647, 2147483629, 2147483587] : List Int))) = some r := h; clear h; obtain ⟨y118, hy118⟩ := yy (([2147483647, 2147483629, 2147483587] : List Int))
 (try rw [Option.bind_some] at H); (try dsimp only at H); rw [← hy118] at H
 have Ny118 := Aside0.mk hy118; clear hy118; obtain rfl := Option.some.inj H; go_enter Try.func53, Try.ntmps53; go_wp2_with (first | ((with_reducible refine gate_dst (N := 1) rfl ?_); refine Kd.R_lit (Kd.int .i64) _ 3 ?hg (N := 1) ?hd (xs := ([2147483647, 2147483629, 2147483587] : List Int)) (inner := [.int .i64 2147483647, .int .i64 2147483629, .int .i64 2147483587]) (ok := fun _ => True) (okp := fun _ => True) ?hr ?hp (fun _ hk => hk) trivial (Below.refl _ _) (Nat.le_refl _) (by simp) ?_; (case hd => rfl); (case hg => rfl); (case hr => first | (go_simp; done) | (go_simp; rfl)); (case hp => exact (Reps.one (show Kd.M (Kd.int .i64) _ _ _ 2147483647 [.int .i64 2147483647] from rfl) (Reps.one (show Kd.M (Kd.int .i64) _ _ _ 2147483629 [.int .i64 2147483629] from rfl) (Reps.one (show Kd.M (Kd.int .i64) _ _ _ 2147483587 [.int .i64 2147483587] from rfl) (Reps.none _ _))))); intro v119 w1 ho2 hb hg_ hnew_; clear hg_ hnew_; (first | rw [← Ny118.out] at ho2 | (simp only [Int.reduceToNat] at ho2; rw [← Ny118.out] at ho2)); have HO120 := Aside0.mk (Kd.R_lower ho2 (below_size (bl HB.out))); replace HB := bst HB hb; clear hb ho2)); go_ret; exact ⟨_, sr, rR HO120.out, bl HB.out⟩
/-! ### impl_rank: function 48 -/
def impl_rank.l0 : Nat → List (List Int) → Int → List Int → Int → Int → Option (Int)
 | 0, _, _, _, _, _ => none
 | k + 1, x0, x3, x8, x9, x10 => if x10 < x9 then (if 0 ≤ x10 then (if x10 < (x8.length : Int) then ((impl_reduce.f k x0 (rd x8 x10)).bind fun bt125 => (impl_rank.l0 k x0 (mx x3 bt125.1) x8 x9 (wrap64 (x10 + 1)))) else (none)) else (none)) else (some x3)
def impl_rank.f (k : Nat) (l0 : List (List Int)) : Option (Int) := (impl_primes.f).bind fun t121 => (impl_rank.l0 k l0 0 t121 (t121.length : Int) 0)
theorem impl_rank.mono_l : ∀ k, (∀ y0 y1 y2 y3 y4, LeO (impl_rank.l0 k y0 y1 y2 y3 y4) (impl_rank.l0 (k + 1) y0 y1 y2 y3 y4))
 | 0 => fun _ _ _ _ _ r h => by simp [impl_rank.l0] at h
 | k + 1 => by
  have ih0 := impl_rank.mono_l k
  ·intro y0 y1 y2 y3 y4
   unfold impl_rank.l0
   repeat' first
   | (with_reducible exact ih0 _ _ _ _ _)
   | (with_reducible exact impl_reduce.mono _ _ _)
   | (with_reducible exact LeO.refl _)
   | (with_reducible exact LeO.none _)
   | (with_reducible refine LeO.ite ?_ ?_)
   | (with_reducible refine LeO.bind ?_ (fun _ => ?_))
   | exact ih0 _ _ _ _ _
   | exact impl_reduce.mono _ _ _
   | exact LeO.none _
   | refine LeO.ite ?_ ?_
   | refine LeO.bind ?_ (fun _ => ?_)
theorem impl_rank.mono : ∀ a0 k, LeO (impl_rank.f k a0) (impl_rank.f (k + 1) a0) := by
 intro a0 k; have ih0 := impl_rank.mono_l k; unfold impl_rank.f
 repeat' first
   | (with_reducible exact ih0 _ _ _ _ _)
   | (with_reducible exact impl_reduce.mono _ _ _)
   | (with_reducible exact LeO.refl _)
   | (with_reducible exact LeO.none _)
   | (with_reducible refine LeO.ite ?_ ?_)
   | (with_reducible refine LeO.bind ?_ (fun _ => ?_))
   | exact ih0 _ _ _ _ _
   | exact impl_reduce.mono _ _ _
   | exact LeO.none _
   | refine LeO.ite ?_ ?_
   | refine LeO.bind ?_ (fun _ => ?_)
theorem impl_rank.calls (k : Nat) (A0 : Option Addr) (c0 : Nat) (l0 : List (List Int)) (r : Int) (w : World) (hr0 : Kd.C (Kd.slice 3 (Kd.int .i64)) w A0 l0.length l0) (hc0 : l0.length ≤ c0) (h : impl_rank.f k l0 = some r) :
  Calls Try.prog 48 #[.slice A0 l0.length c0] w fun e w' => e = .returned (.int .i64 r) ∧ Below w.heap.size w w' := by
 have HR0 := Aside0.mk hr0; have HC0 := Aside0.mk hc0; clear hr0 hc0; have HB := Aside0.mk (Below.refl w.heap.size w); have H : ((impl_primes.f).bind fun t121 => (impl_rank.l0 k l0 0 t121 (t121.length : Int) 0)) = some r := h; clear h; obtain ⟨t121, A2, H⟩ := bi H; (try dsimp only at H); have H' := Aside0.mk H; clear H; go_enter Try.func48, Try.ntmps48; go_wp2_with (first | (go_at_call 53; (with_reducible refine (impl_primes.calls  t121 _ A2.out).mono ?_); rintro e w3 ⟨v122, rfl, ho0, hb⟩; have HO123 := Aside0.mk (Kd.R_lower ho0 (below_size (bl HB.out))); replace HB := bst HB hb; obtain ⟨Ao4, co4, eo4⟩ := Kd.R_slice HO123.out; subst eo4))
 go_loopg [3, 10] k (fun kq v3 v10 w' => ∃ (x3_1 : Int) (x10_1 : Int), v3 = .int .i64 x3_1 ∧ v10 = .int .i64 x10_1 ∧ Aside0 (impl_rank.l0 kq l0 x3_1 t121 (t121.length : Int) x10_1 = some r) ∧ Aside0 (kq ≤ k) ∧ Aside0 (Kd.R (Kd.int .i64) 3 w' w.heap.size (fun _ => True) (.slice Ao4 t121.length co4) t121) ∧ Aside0 (Below w.heap.size w w'))
 case atStart => exact ⟨(0), (0), (sr2), (sr2), H', ⟨Nat.le_refl _⟩, ⟨rR HO123.out⟩, ⟨bl HB.out⟩⟩
 case round =>
  clear H'; obtain ⟨x3_1, x10_1, rfl, rfl, HA, HK1, HO_8, HB⟩ := hrel
  cases gk with
  | zero => exact absurd HA.out (by simp [impl_rank.l0])
  | succ k1 =>
   have H := HA.out; clear HA; simp only [impl_rank.l0] at H
   by_cases c5 : x10_1 < (t121.length : Int)
   ·rw [if_pos c5] at H; have c5b0 := decide_eq_true c5; clear c5
    by_cases c6 : 0 ≤ x10_1
    ·rw [if_pos c6] at H; have c6b0 := decide_eq_true c6; clear c6
     by_cases c7 : x10_1 < (t121.length : Int)
     ·rw [if_pos c7] at H; have c7b0 := decide_eq_true c7; clear c7; obtain ⟨⟨t125, t126⟩, A8, H⟩ := bi H; (try dsimp only at H); obtain ⟨ji9, hji9⟩ : ∃ j_ : Int, (mx x3_1 t125) = j_ := ⟨_, rfl⟩; (replace H : (impl_rank.l0 k1 l0 ji9 t121 (t121.length : Int) (wrap64 (x10_1 + 1))) = some r := by first | (rw [hji9] at H; exact H) | (simp only [hji9] at H ⊢; exact H)); (try rw [hji9] at A8); have hji9_ : (if x3_1 < t125 then t125 else x3_1) = ji9 := hji9; have H' := Aside0.mk H; clear H; obtain ⟨ad124, e124, hx124_0, p124, q124⟩ := atI (Kd.R_reads' HO_8.out).2.2 x10_1; cases e124; go_wp2_with (first | (go_at_call 54; (with_reducible refine (impl_reduce.calls k1 _ _ l0 (rd t121 x10_1) t125 t126 _ ?side1 HC0.out A8.out).mono ?_); (case side1 => exact cw (Kd.C_below HR0.out HB.out)); rintro e w10 ⟨rfl, hb⟩; replace HO_8 := Aside0.mk (Kd.R_below (rR HO_8.out) hb); replace HB := bst HB hb))
      first | go_roundg k1 | (simp only [← hji9]; go_roundg k1)
      case measure => have := HK1.out; omega
      case rel => exact ⟨(ji9), (wrap64 (x10_1 + 1)), (by first | rfl | (simp; done) | (simp only [← hji9] <;> (first | rfl | simp)) | (simp [*]; done)), (sr2), H', ⟨by have := HK1.out; omega⟩, ⟨rR HO_8.out⟩, ⟨bl HB.out⟩⟩
     rw [if_neg c7] at H; exact absurd H (by simp)
    rw [if_neg c6] at H; exact absurd H (by simp)
   rw [if_neg c5] at H; have c5b0 := decide_eq_false c5; clear c5; obtain rfl := Option.some.inj H; go_wp2; go_ret; exact ⟨sr, bl HB.out⟩
/-! ### impl_RankOf: function 11 -/
def impl_RankOf.f (k : Nat) (l0 : List (List Int)) : Option (Int × Bool) := (impl_areRows.f l0).bind fun t127 => (if t127 = true then ((impl_rank.f k l0).bind fun t128 => (some (t128, true))) else (some (0, false)))
theorem impl_RankOf.mono : ∀ a0 k, LeO (impl_RankOf.f k a0) (impl_RankOf.f (k + 1) a0) := by
 intro a0 k; unfold impl_RankOf.f
 repeat' first
   | (with_reducible exact impl_rank.mono _ _)
   | (with_reducible exact LeO.refl _)
   | (with_reducible exact LeO.none _)
   | (with_reducible refine LeO.ite ?_ ?_)
   | (with_reducible refine LeO.bind ?_ (fun _ => ?_))
   | exact impl_rank.mono _ _
   | exact LeO.none _
   | refine LeO.ite ?_ ?_
   | refine LeO.bind ?_ (fun _ => ?_)
theorem impl_RankOf.calls (k : Nat) (A0 : Option Addr) (c0 : Nat) (l0 : List (List Int)) (r1 : Int) (r2 : Bool) (w : World) (hr0 : Kd.C (Kd.slice 3 (Kd.int .i64)) w A0 l0.length l0) (hc0 : l0.length ≤ c0) (h : impl_RankOf.f k l0 = some (r1, r2)) :
  Calls Try.prog 11 #[.slice A0 l0.length c0] w fun e w' => e = .returned (.tuple #[.int .i64 r1, .bool r2]) ∧ Below w.heap.size w w' := by
 have HR0 := Aside0.mk hr0; have HC0 := Aside0.mk hc0; clear hr0 hc0; have HB := Aside0.mk (Below.refl w.heap.size w); have H : ((impl_areRows.f l0).bind fun t127 => (if t127 = true then ((impl_rank.f k l0).bind fun t128 => (some (t128, true))) else (some (0, false)))) = some (r1, r2) := h; clear h; obtain ⟨t127, A2, H⟩ := bi H; (try dsimp only at H)
 by_cases c3 : t127 = true
 ·subst c3; rw [if_pos rfl] at H; obtain ⟨t128, A4, H⟩ := bi H; (try dsimp only at H); simp only [Option.some.injEq, Prod.mk.injEq] at H; obtain ⟨rfl, rfl⟩ := H; go_enter Try.func11, Try.ntmps11; go_wp2_with (first | (go_at_call 47; (with_reducible refine (impl_areRows.calls _ _ l0 true _ ?side1 HC0.out A2.out).mono ?_); (case side1 => exact cw HR0.out); rintro e w5 ⟨rfl, hb⟩; replace HB := bst HB hb) | (go_at_call 48; (with_reducible refine (impl_rank.calls k _ _ l0 t128 _ ?side1 HC0.out A4.out).mono ?_); (case side1 => exact cw (Kd.C_below HR0.out HB.out)); rintro e w6 ⟨rfl, hb⟩; replace HB := bst HB hb)); go_ret2; exact ⟨sr, bl HB.out⟩
 replace c3 := Bool.eq_false_iff.mpr c3; subst c3; rw [if_neg (show ¬ (false = true) by decide)] at H; simp only [Option.some.injEq, Prod.mk.injEq] at H; obtain ⟨rfl, rfl⟩ := H; go_enter Try.func11, Try.ntmps11; go_wp2_with (first | (go_at_call 47; (with_reducible refine (impl_areRows.calls _ _ l0 false _ ?side1 HC0.out A2.out).mono ?_); (case side1 => exact cw HR0.out); rintro e w7 ⟨rfl, hb⟩; replace HB := bst HB hb)); go_ret2; exact ⟨sr, bl HB.out⟩
/-! ### impl_DeterminantOf: function 16 -/
def impl_DeterminantOf.j0 : Nat → List Int → Int → Int → Option (Int × Bool)
 | 0, _, _, _ => none
 | k + 1, x4, x12, x14 => if 2 < (x4.length : Int) then ((impl_rest.f x14 (rd x4 2)).bind fun t197 => (if t197 = x12 then ((impl_in.f x14 (-100000000000000000) 100000000000000000).bind fun t198 => (if t198 = true then (some (x14, true)) else (some (0, false)))) else (some (0, false)))) else (none)
def impl_DeterminantOf.f (k : Nat) (l0 : List (List Int)) : Option (Int × Bool) := (impl_areRows.f l0).bind fun t180 => (if t180 = true then ((impl_primes.f).bind fun t181 => (if 0 < (t181.length : Int) then (if 1 < (t181.length : Int) then ((impl_reduce.f k l0 (rd t181 0)).bind fun bt186 => ((impl_reduce.f k l0 (rd t181 1)).bind fun bt188 => (if 2 < (t181.length : Int) then ((impl_reduce.f k l0 (rd t181 2)).bind fun bt191 => ((impl_rest.f (wrap64 (bt188.2 - bt186.2)) (rd t181 1)).bind fun t193 => ((impl_rest.f (rd t181 0) (rd t181 1)).bind fun t194 => ((impl_inverseMod.f k t194 (rd t181 1)).bind fun t195 => (if (rd t181 1) = 0 then (none) else (if (wrap64 (bt186.2 + (wrap64 ((rd t181 0) * (Int.tmod (wrap64 (t193 * t195)) (rd t181 1)))))) > (wrap64 (Int.tdiv (wrap64 ((rd t181 0) * (rd t181 1))) 2)) then (impl_DeterminantOf.j0 k t181 bt191.2 (wrap64 ((wrap64 (bt186.2 + (wrap64 ((rd t181 0) * (Int.tmod (wrap64 (t193 * t195)) (rd t181 1)))))) - (wrap64 ((rd t181 0) * (rd t181 1)))))) else (impl_DeterminantOf.j0 k t181 bt191.2 (wrap64 (bt186.2 + (wrap64 ((rd t181 0) * (Int.tmod (wrap64 (t193 * t195)) (rd t181 1))))))))))))) else (none)))) else (none)) else (none))) else (some (0, false)))
theorem impl_DeterminantOf.mono_l : ∀ k, (∀ y0 y1 y2, LeO (impl_DeterminantOf.j0 k y0 y1 y2) (impl_DeterminantOf.j0 (k + 1) y0 y1 y2))
 | 0 => fun _ _ _ r h => by simp [impl_DeterminantOf.j0] at h
 | k + 1 => by
  have ih0 := impl_DeterminantOf.mono_l k
  ·intro y0 y1 y2
   unfold impl_DeterminantOf.j0
   repeat' first
   | (with_reducible exact ih0 _ _ _)
   | (with_reducible exact impl_inverseMod.mono _ _ _)
   | (with_reducible exact impl_reduce.mono _ _ _)
   | (with_reducible exact LeO.refl _)
   | (with_reducible exact LeO.none _)
   | (with_reducible refine LeO.ite ?_ ?_)
   | (with_reducible refine LeO.bind ?_ (fun _ => ?_))
   | exact ih0 _ _ _
   | exact impl_inverseMod.mono _ _ _
   | exact impl_reduce.mono _ _ _
   | exact LeO.none _
   | refine LeO.ite ?_ ?_
   | refine LeO.bind ?_ (fun _ => ?_)
theorem impl_DeterminantOf.mono : ∀ a0 k, LeO (impl_DeterminantOf.f k a0) (impl_DeterminantOf.f (k + 1) a0) := by
 intro a0 k; have ih0 := impl_DeterminantOf.mono_l k; unfold impl_DeterminantOf.f
 repeat' first
   | (with_reducible exact ih0 _ _ _)
   | (with_reducible exact impl_inverseMod.mono _ _ _)
   | (with_reducible exact impl_reduce.mono _ _ _)
   | (with_reducible exact LeO.refl _)
   | (with_reducible exact LeO.none _)
   | (with_reducible refine LeO.ite ?_ ?_)
   | (with_reducible refine LeO.bind ?_ (fun _ => ?_))
   | exact ih0 _ _ _
   | exact impl_inverseMod.mono _ _ _
   | exact impl_reduce.mono _ _ _
   | exact LeO.none _
   | refine LeO.ite ?_ ?_
   | refine LeO.bind ?_ (fun _ => ?_)
theorem impl_DeterminantOf.calls (k : Nat) (A0 : Option Addr) (c0 : Nat) (l0 : List (List Int)) (r1 : Int) (r2 : Bool) (w : World) (hr0 : Kd.C (Kd.slice 3 (Kd.int .i64)) w A0 l0.length l0) (hc0 : l0.length ≤ c0) (h : impl_DeterminantOf.f k l0 = some (r1, r2)) :
  Calls Try.prog 16 #[.slice A0 l0.length c0] w fun e w' => e = .returned (.tuple #[.int .i64 r1, .bool r2]) ∧ Below w.heap.size w w' := by
 have HR0 := Aside0.mk hr0; have HC0 := Aside0.mk hc0; clear hr0 hc0; have HB := Aside0.mk (Below.refl w.heap.size w); have H : ((impl_areRows.f l0).bind fun t180 => (if t180 = true then ((impl_primes.f).bind fun t181 => (if 0 < (t181.length : Int) then (if 1 < (t181.length : Int) then ((impl_reduce.f k l0 (rd t181 0)).bind fun bt186 => ((impl_reduce.f k l0 (rd t181 1)).bind fun bt188 => (if 2 < (t181.length : Int) then ((impl_reduce.f k l0 (rd t181 2)).bind fun bt191 => ((impl_rest.f (wrap64 (bt188.2 - bt186.2)) (rd t181 1)).bind fun t193 => ((impl_rest.f (rd t181 0) (rd t181 1)).bind fun t194 => ((impl_inverseMod.f k t194 (rd t181 1)).bind fun t195 => (if (rd t181 1) = 0 then (none) else (if (wrap64 (bt186.2 + (wrap64 ((rd t181 0) * (Int.tmod (wrap64 (t193 * t195)) (rd t181 1)))))) > (wrap64 (Int.tdiv (wrap64 ((rd t181 0) * (rd t181 1))) 2)) then (impl_DeterminantOf.j0 k t181 bt191.2 (wrap64 ((wrap64 (bt186.2 + (wrap64 ((rd t181 0) * (Int.tmod (wrap64 (t193 * t195)) (rd t181 1)))))) - (wrap64 ((rd t181 0) * (rd t181 1)))))) else (impl_DeterminantOf.j0 k t181 bt191.2 (wrap64 (bt186.2 + (wrap64 ((rd t181 0) * (Int.tmod (wrap64 (t193 * t195)) (rd t181 1))))))))))))) else (none)))) else (none)) else (none))) else (some (0, false)))) = some (r1, r2) := h; clear h; obtain ⟨t180, A2, H⟩ := bi H; (try dsimp only at H)
 by_cases c3 : t180 = true
 ·subst c3; rw [if_pos rfl] at H; obtain ⟨t181, A4, H⟩ := bi H; (try dsimp only at H)
  by_cases c5 : 0 < (t181.length : Int)
  ·rw [if_pos c5] at H; have c5b0 := decide_eq_true c5; have c5b1 : decide (0 < t181.length) = true := decide_eq_true (by omega); clear c5
   by_cases c6 : 1 < (t181.length : Int)
   ·rw [if_pos c6] at H; have c6b0 := decide_eq_true c6; have c6b1 : decide (1 < t181.length) = true := decide_eq_true (by omega); clear c6; obtain ⟨⟨t186, t187⟩, A7, H⟩ := bi H; (try dsimp only at H); obtain ⟨⟨t188, t189⟩, A8, H⟩ := bi H; (try dsimp only at H)
    by_cases c9 : 2 < (t181.length : Int)
    ·rw [if_pos c9] at H; have c9b0 := decide_eq_true c9; have c9b1 : decide (2 < t181.length) = true := decide_eq_true (by omega); clear c9; obtain ⟨⟨t191, t192⟩, A10, H⟩ := bi H; (try dsimp only at H); obtain ⟨t193, A11, H⟩ := bi H; (try dsimp only at H); obtain ⟨t194, A12, H⟩ := bi H; (try dsimp only at H); obtain ⟨t195, A13, H⟩ := bi H; (try dsimp only at H)
     by_cases c14 : (rd t181 1) = 0
     ·rw [if_pos c14] at H; exact absurd H (by simp)
     rw [if_neg c14] at H; have c14b0 := beq_eq_false_iff_ne.mpr c14; have c14b1 := bne_iff_ne.mpr c14; have HC15 := Aside0.mk H; clear H; go_enter Try.func16, Try.ntmps16
     go_upto_if 68 with (first | (go_at_call 47; (with_reducible refine (impl_areRows.calls _ _ l0 true _ ?side1 HC0.out A2.out).mono ?_); (case side1 => exact cw HR0.out); rintro e w16 ⟨rfl, hb⟩; replace HB := bst HB hb) | (go_at_call 53; (with_reducible refine (impl_primes.calls  t181 _ A4.out).mono ?_); rintro e w17 ⟨v182, rfl, ho0, hb⟩; have HO183 := Aside0.mk (Kd.R_lower ho0 (below_size (bl HB.out))); replace HB := bst HB hb; obtain ⟨Ao18, co18, eo18⟩ := Kd.R_slice HO183.out; subst eo18; have p184 : 0 ≤ (0 : Int) := (by omega); have q184 : 0 < (t181.length : Int) := od; obtain ⟨ad184, e184, hx184_0⟩ := Kd.at_int (Kd.R_reads' HO183.out).2.2 0 p184 q184; cases e184; have qi184 : (0 < t181.length) = True := eq_true (by omega); (try rw [show ((0 : Int)).toNat = 0 from rfl] at hx184_0); (try rw [Addr.add_zero'] at hx184_0); replace p184 := eq_true p184; replace q184 := eq_true q184; have p185 : 0 ≤ (1 : Int) := (by omega); have q185 : 1 < (t181.length : Int) := od; obtain ⟨ad185, e185, hx185_0⟩ := Kd.at_int (Kd.R_reads' HO183.out).2.2 1 p185 q185; obtain rfl : ad184 = ad185 := (by injection e185); (try simp only [show (1 : Int).toNat = 1 from rfl, Nat.reduceMul, Nat.reduceEqDiff, Go.Addr.add, ↓reduceIte] at hx185_0); have qi185 : (1 < t181.length) = True := eq_true (by omega); (try rw [show ((1 : Int)).toNat = 1 from rfl] at hx185_0); replace p185 := eq_true p185; replace q185 := eq_true q185) | (go_at_call 54; (with_reducible refine (impl_reduce.calls k _ _ l0 (rd t181 0) t186 t187 _ ?side1 HC0.out A7.out).mono ?_); (case side1 => exact cw (Kd.C_below HR0.out HB.out)); rintro e w19 ⟨rfl, hb⟩; replace HO183 := Aside0.mk (Kd.R_below (rR HO183.out) hb); replace HB := bst HB hb) | (go_at_call 54; (with_reducible refine (impl_reduce.calls k _ _ l0 (rd t181 1) t188 t189 _ ?side1 HC0.out A8.out).mono ?_); (case side1 => exact cw (Kd.C_below HR0.out HB.out)); rintro e w20 ⟨rfl, hb⟩; replace HO183 := Aside0.mk (Kd.R_below (rR HO183.out) hb); replace HB := bst HB hb; have p190 : 0 ≤ (2 : Int) := (by omega); have q190 : 2 < (t181.length : Int) := od; obtain ⟨ad190, e190, hx190_0⟩ := Kd.at_int (Kd.R_reads' HO183.out).2.2 2 p190 q190; obtain rfl : ad184 = ad190 := (by injection e190); (try simp only [show (2 : Int).toNat = 2 from rfl, Nat.reduceMul, Nat.reduceEqDiff, Go.Addr.add, ↓reduceIte] at hx190_0); have qi190 : (2 < t181.length) = True := eq_true (by omega); (try rw [show ((2 : Int)).toNat = 2 from rfl] at hx190_0); replace p190 := eq_true p190; replace q190 := eq_true q190) | (go_at_call 54; (with_reducible refine (impl_reduce.calls k _ _ l0 (rd t181 2) t191 t192 _ ?side1 HC0.out A10.out).mono ?_); (case side1 => exact cw (Kd.C_below HR0.out HB.out)); rintro e w21 ⟨rfl, hb⟩; replace HO183 := Aside0.mk (Kd.R_below (rR HO183.out) hb); replace HB := bst HB hb) | (go_at_call 55; (with_reducible refine (impl_rest.calls (wrap64 (t189 - t187)) (rd t181 1) t193 _ A11.out).mono ?_); rintro e w' ⟨rfl, ⟨nd, rfl⟩⟩; (try first | exact ⟨rfl, _, World.drewN_drewN _ _ _⟩ | exact ⟨rfl, _, Eq.trans (World.drewN_drewN _ _ _) (congrArg (World.drewN _) (Nat.add_assoc _ _ _))⟩)) | (go_at_call 55; (with_reducible refine (impl_rest.calls (rd t181 0) (rd t181 1) t194 _ A12.out).mono ?_); rintro e w' ⟨rfl, ⟨nd, rfl⟩⟩; (try first | exact ⟨rfl, _, World.drewN_drewN _ _ _⟩ | exact ⟨rfl, _, Eq.trans (World.drewN_drewN _ _ _) (congrArg (World.drewN _) (Nat.add_assoc _ _ _))⟩)) | (go_at_call 56; (with_reducible refine (impl_inverseMod.calls k t194 (rd t181 1) t195 _ A13.out).mono ?_); rintro e w' ⟨rfl, ⟨nd, rfl⟩⟩; (try first | exact ⟨rfl, _, World.drewN_drewN _ _ _⟩ | exact ⟨rfl, _, Eq.trans (World.drewN_drewN _ _ _) (congrArg (World.drewN _) (Nat.add_assoc _ _ _))⟩)))
     repeat (go_quiet (first | (go_at_call 47; (with_reducible refine (impl_areRows.calls _ _ l0 true _ ?side1 HC0.out A2.out).mono ?_); (case side1 => exact cw HR0.out); rintro e w16 ⟨rfl, hb⟩; replace HB := bst HB hb) | (go_at_call 53; (with_reducible refine (impl_primes.calls  t181 _ A4.out).mono ?_); rintro e w17 ⟨v182, rfl, ho0, hb⟩; have HO183 := Aside0.mk (Kd.R_lower ho0 (below_size (bl HB.out))); replace HB := bst HB hb; obtain ⟨Ao18, co18, eo18⟩ := Kd.R_slice HO183.out; subst eo18; have p184 : 0 ≤ (0 : Int) := (by omega); have q184 : 0 < (t181.length : Int) := od; obtain ⟨ad184, e184, hx184_0⟩ := Kd.at_int (Kd.R_reads' HO183.out).2.2 0 p184 q184; cases e184; have qi184 : (0 < t181.length) = True := eq_true (by omega); (try rw [show ((0 : Int)).toNat = 0 from rfl] at hx184_0); (try rw [Addr.add_zero'] at hx184_0); replace p184 := eq_true p184; replace q184 := eq_true q184; have p185 : 0 ≤ (1 : Int) := (by omega); have q185 : 1 < (t181.length : Int) := od; obtain ⟨ad185, e185, hx185_0⟩ := Kd.at_int (Kd.R_reads' HO183.out).2.2 1 p185 q185; obtain rfl : ad184 = ad185 := (by injection e185); (try simp only [show (1 : Int).toNat = 1 from rfl, Nat.reduceMul, Nat.reduceEqDiff, Go.Addr.add, ↓reduceIte] at hx185_0); have qi185 : (1 < t181.length) = True := eq_true (by omega); (try rw [show ((1 : Int)).toNat = 1 from rfl] at hx185_0); replace p185 := eq_true p185; replace q185 := eq_true q185) | (go_at_call 54; (with_reducible refine (impl_reduce.calls k _ _ l0 (rd t181 0) t186 t187 _ ?side1 HC0.out A7.out).mono ?_); (case side1 => exact cw (Kd.C_below HR0.out HB.out)); rintro e w19 ⟨rfl, hb⟩; replace HO183 := Aside0.mk (Kd.R_below (rR HO183.out) hb); replace HB := bst HB hb) | (go_at_call 54; (with_reducible refine (impl_reduce.calls k _ _ l0 (rd t181 1) t188 t189 _ ?side1 HC0.out A8.out).mono ?_); (case side1 => exact cw (Kd.C_below HR0.out HB.out)); rintro e w20 ⟨rfl, hb⟩; replace HO183 := Aside0.mk (Kd.R_below (rR HO183.out) hb); replace HB := bst HB hb; have p190 : 0 ≤ (2 : Int) := (by omega); have q190 : 2 < (t181.length : Int) := od; obtain ⟨ad190, e190, hx190_0⟩ := Kd.at_int (Kd.R_reads' HO183.out).2.2 2 p190 q190; obtain rfl : ad184 = ad190 := (by injection e190); (try simp only [show (2 : Int).toNat = 2 from rfl, Nat.reduceMul, Nat.reduceEqDiff, Go.Addr.add, ↓reduceIte] at hx190_0); have qi190 : (2 < t181.length) = True := eq_true (by omega); (try rw [show ((2 : Int)).toNat = 2 from rfl] at hx190_0); replace p190 := eq_true p190; replace q190 := eq_true q190) | (go_at_call 54; (with_reducible refine (impl_reduce.calls k _ _ l0 (rd t181 2) t191 t192 _ ?side1 HC0.out A10.out).mono ?_); (case side1 => exact cw (Kd.C_below HR0.out HB.out)); rintro e w21 ⟨rfl, hb⟩; replace HO183 := Aside0.mk (Kd.R_below (rR HO183.out) hb); replace HB := bst HB hb) | (go_at_call 55; (with_reducible refine (impl_rest.calls (wrap64 (t189 - t187)) (rd t181 1) t193 _ A11.out).mono ?_); rintro e w' ⟨rfl, ⟨nd, rfl⟩⟩; (try first | exact ⟨rfl, _, World.drewN_drewN _ _ _⟩ | exact ⟨rfl, _, Eq.trans (World.drewN_drewN _ _ _) (congrArg (World.drewN _) (Nat.add_assoc _ _ _))⟩)) | (go_at_call 55; (with_reducible refine (impl_rest.calls (rd t181 0) (rd t181 1) t194 _ A12.out).mono ?_); rintro e w' ⟨rfl, ⟨nd, rfl⟩⟩; (try first | exact ⟨rfl, _, World.drewN_drewN _ _ _⟩ | exact ⟨rfl, _, Eq.trans (World.drewN_drewN _ _ _) (congrArg (World.drewN _) (Nat.add_assoc _ _ _))⟩)) | (go_at_call 56; (with_reducible refine (impl_inverseMod.calls k t194 (rd t181 1) t195 _ A13.out).mono ?_); rintro e w' ⟨rfl, ⟨nd, rfl⟩⟩; (try first | exact ⟨rfl, _, World.drewN_drewN _ _ _⟩ | exact ⟨rfl, _, Eq.trans (World.drewN_drewN _ _ _) (congrArg (World.drewN _) (Nat.add_assoc _ _ _))⟩))); go_upto_if 68 with (first | (go_at_call 47; (with_reducible refine (impl_areRows.calls _ _ l0 true _ ?side1 HC0.out A2.out).mono ?_); (case side1 => exact cw HR0.out); rintro e w16 ⟨rfl, hb⟩; replace HB := bst HB hb) | (go_at_call 53; (with_reducible refine (impl_primes.calls  t181 _ A4.out).mono ?_); rintro e w17 ⟨v182, rfl, ho0, hb⟩; have HO183 := Aside0.mk (Kd.R_lower ho0 (below_size (bl HB.out))); replace HB := bst HB hb; obtain ⟨Ao18, co18, eo18⟩ := Kd.R_slice HO183.out; subst eo18; have p184 : 0 ≤ (0 : Int) := (by omega); have q184 : 0 < (t181.length : Int) := od; obtain ⟨ad184, e184, hx184_0⟩ := Kd.at_int (Kd.R_reads' HO183.out).2.2 0 p184 q184; cases e184; have qi184 : (0 < t181.length) = True := eq_true (by omega); (try rw [show ((0 : Int)).toNat = 0 from rfl] at hx184_0); (try rw [Addr.add_zero'] at hx184_0); replace p184 := eq_true p184; replace q184 := eq_true q184; have p185 : 0 ≤ (1 : Int) := (by omega); have q185 : 1 < (t181.length : Int) := od; obtain ⟨ad185, e185, hx185_0⟩ := Kd.at_int (Kd.R_reads' HO183.out).2.2 1 p185 q185; obtain rfl : ad184 = ad185 := (by injection e185); (try simp only [show (1 : Int).toNat = 1 from rfl, Nat.reduceMul, Nat.reduceEqDiff, Go.Addr.add, ↓reduceIte] at hx185_0); have qi185 : (1 < t181.length) = True := eq_true (by omega); (try rw [show ((1 : Int)).toNat = 1 from rfl] at hx185_0); replace p185 := eq_true p185; replace q185 := eq_true q185) | (go_at_call 54; (with_reducible refine (impl_reduce.calls k _ _ l0 (rd t181 0) t186 t187 _ ?side1 HC0.out A7.out).mono ?_); (case side1 => exact cw (Kd.C_below HR0.out HB.out)); rintro e w19 ⟨rfl, hb⟩; replace HO183 := Aside0.mk (Kd.R_below (rR HO183.out) hb); replace HB := bst HB hb) | (go_at_call 54; (with_reducible refine (impl_reduce.calls k _ _ l0 (rd t181 1) t188 t189 _ ?side1 HC0.out A8.out).mono ?_); (case side1 => exact cw (Kd.C_below HR0.out HB.out)); rintro e w20 ⟨rfl, hb⟩; replace HO183 := Aside0.mk (Kd.R_below (rR HO183.out) hb); replace HB := bst HB hb; have p190 : 0 ≤ (2 : Int) := (by omega); have q190 : 2 < (t181.length : Int) := od; obtain ⟨ad190, e190, hx190_0⟩ := Kd.at_int (Kd.R_reads' HO183.out).2.2 2 p190 q190; obtain rfl : ad184 = ad190 := (by injection e190); (try simp only [show (2 : Int).toNat = 2 from rfl, Nat.reduceMul, Nat.reduceEqDiff, Go.Addr.add, ↓reduceIte] at hx190_0); have qi190 : (2 < t181.length) = True := eq_true (by omega); (try rw [show ((2 : Int)).toNat = 2 from rfl] at hx190_0); replace p190 := eq_true p190; replace q190 := eq_true q190) | (go_at_call 54; (with_reducible refine (impl_reduce.calls k _ _ l0 (rd t181 2) t191 t192 _ ?side1 HC0.out A10.out).mono ?_); (case side1 => exact cw (Kd.C_below HR0.out HB.out)); rintro e w21 ⟨rfl, hb⟩; replace HO183 := Aside0.mk (Kd.R_below (rR HO183.out) hb); replace HB := bst HB hb) | (go_at_call 55; (with_reducible refine (impl_rest.calls (wrap64 (t189 - t187)) (rd t181 1) t193 _ A11.out).mono ?_); rintro e w' ⟨rfl, ⟨nd, rfl⟩⟩; (try first | exact ⟨rfl, _, World.drewN_drewN _ _ _⟩ | exact ⟨rfl, _, Eq.trans (World.drewN_drewN _ _ _) (congrArg (World.drewN _) (Nat.add_assoc _ _ _))⟩)) | (go_at_call 55; (with_reducible refine (impl_rest.calls (rd t181 0) (rd t181 1) t194 _ A12.out).mono ?_); rintro e w' ⟨rfl, ⟨nd, rfl⟩⟩; (try first | exact ⟨rfl, _, World.drewN_drewN _ _ _⟩ | exact ⟨rfl, _, Eq.trans (World.drewN_drewN _ _ _) (congrArg (World.drewN _) (Nat.add_assoc _ _ _))⟩)) | (go_at_call 56; (with_reducible refine (impl_inverseMod.calls k t194 (rd t181 1) t195 _ A13.out).mono ?_); rintro e w' ⟨rfl, ⟨nd, rfl⟩⟩; (try first | exact ⟨rfl, _, World.drewN_drewN _ _ _⟩ | exact ⟨rfl, _, Eq.trans (World.drewN_drewN _ _ _) (congrArg (World.drewN _) (Nat.add_assoc _ _ _))⟩))))
     (try simp only [Act.put, List.setIfInBounds_toArray, List.set_cons_zero, List.set_cons_succ])
     go_cut [14] (fun v14 wc => ∃ (kq : Nat) (x14_14 : Int), v14 = .int .i64 x14_14 ∧ Aside0 (impl_DeterminantOf.j0 kq t181 t192 x14_14 = some (r1, r2)) ∧ Aside0 (kq ≤ k) ∧ Aside0 (Kd.R (Kd.int .i64) 3 wc w.heap.size (fun _ => True) (.slice (some ad184) t181.length co18) t181) ∧ Aside0 (Below w.heap.size w wc))
     case first =>
      have H := HC15.out; clear HC15
      by_cases c22 : (wrap64 (t187 + (wrap64 ((rd t181 0) * (Int.tmod (wrap64 (t193 * t195)) (rd t181 1)))))) > (wrap64 (Int.tdiv (wrap64 ((rd t181 0) * (rd t181 1))) 2))
      ·rw [if_pos c22] at H; have c22b0 := decide_eq_true c22; clear c22; (first | rw [c22b0] | (simp only [i64_w, i32_w]; rw [c22b0]) | skip); have H' := Aside0.mk H; clear H; go_wp2
       repeat (go_quiet (fail); try go_wp2)
       go_meet
       case rel => exact ⟨_, (wrap64 ((wrap64 (t187 + (wrap64 ((rd t181 0) * (Int.tmod (wrap64 (t193 * t195)) (rd t181 1)))))) - (wrap64 ((rd t181 0) * (rd t181 1))))), (sr2), H', ⟨by first | omega | exact Nat.le_refl _⟩, ⟨rR HO183.out⟩, ⟨bl HB.out⟩⟩
      rw [if_neg c22] at H; have c22b0 := decide_eq_false c22; clear c22; (first | rw [c22b0] | (simp only [i64_w, i32_w]; rw [c22b0]) | skip); have H' := Aside0.mk H; clear H; go_wp2
      repeat (go_quiet (fail); try go_wp2)
      go_meet
      case rel => exact ⟨_, (wrap64 (t187 + (wrap64 ((rd t181 0) * (Int.tmod (wrap64 (t193 * t195)) (rd t181 1)))))), (sr2), H', ⟨by first | omega | exact Nat.le_refl _⟩, ⟨rR HO183.out⟩, ⟨bl HB.out⟩⟩
     case rest =>
      clear HC15; obtain ⟨kq, x14_14, rfl, HA, HJ14, HO_4, HB⟩ := hcut
      cases kq with
      | zero => exact absurd HA.out (by simp [impl_DeterminantOf.j0])
      | succ kj14 =>
       have H := HA.out; clear HA; simp only [impl_DeterminantOf.j0] at H
       by_cases c23 : 2 < (t181.length : Int)
       ·rw [if_pos c23] at H; have c23b0 := decide_eq_true c23; have c23b1 : decide (2 < t181.length) = true := decide_eq_true (by omega); clear c23; obtain ⟨t197, A24, H⟩ := bi H; (try dsimp only at H)
        by_cases c25 : t197 = t192
        ·rw [if_pos c25] at H; have c25b0 := beq_iff_eq.mpr c25; have c25b1 := bne_eq_false_iff_eq.mpr c25; clear c25; obtain ⟨t198, A26, H⟩ := bi H; (try dsimp only at H)
         by_cases c27 : t198 = true
         ·subst c27; rw [if_pos rfl] at H; simp only [Option.some.injEq, Prod.mk.injEq] at H; obtain ⟨rfl, rfl⟩ := H; have p196 : 0 ≤ (2 : Int) := (by omega); have q196 : 2 < (t181.length : Int) := od; obtain ⟨ad196, e196, hx196_0⟩ := Kd.at_int (Kd.R_reads' HO_4.out).2.2 2 p196 q196; obtain rfl : ad184 = ad196 := (by injection e196); (try simp only [show (2 : Int).toNat = 2 from rfl, Nat.reduceMul, Nat.reduceEqDiff, Go.Addr.add, ↓reduceIte] at hx196_0); have qi196 : (2 < t181.length) = True := eq_true (by omega); (try rw [show ((2 : Int)).toNat = 2 from rfl] at hx196_0); replace p196 := eq_true p196; replace q196 := eq_true q196; go_wp2_with (first | (go_at_call 55; (with_reducible refine (impl_rest.calls x14_14 (rd t181 2) t197 _ A24.out).mono ?_); rintro e w' ⟨rfl, ⟨nd, rfl⟩⟩; (try first | exact ⟨rfl, _, World.drewN_drewN _ _ _⟩ | exact ⟨rfl, _, Eq.trans (World.drewN_drewN _ _ _) (congrArg (World.drewN _) (Nat.add_assoc _ _ _))⟩)) | (go_at_call 57; (with_reducible refine (impl_in.calls x14_14 (-100000000000000000) 100000000000000000 true _ A26.out).mono ?_); rintro e w' ⟨rfl, ⟨nd, rfl⟩⟩; (try first | exact ⟨rfl, _, World.drewN_drewN _ _ _⟩ | exact ⟨rfl, _, Eq.trans (World.drewN_drewN _ _ _) (congrArg (World.drewN _) (Nat.add_assoc _ _ _))⟩)))
          repeat (go_quiet (first | (go_at_call 55; (with_reducible refine (impl_rest.calls x14_14 (rd t181 2) t197 _ A24.out).mono ?_); rintro e w' ⟨rfl, ⟨nd, rfl⟩⟩; (try first | exact ⟨rfl, _, World.drewN_drewN _ _ _⟩ | exact ⟨rfl, _, Eq.trans (World.drewN_drewN _ _ _) (congrArg (World.drewN _) (Nat.add_assoc _ _ _))⟩)) | (go_at_call 57; (with_reducible refine (impl_in.calls x14_14 (-100000000000000000) 100000000000000000 true _ A26.out).mono ?_); rintro e w' ⟨rfl, ⟨nd, rfl⟩⟩; (try first | exact ⟨rfl, _, World.drewN_drewN _ _ _⟩ | exact ⟨rfl, _, Eq.trans (World.drewN_drewN _ _ _) (congrArg (World.drewN _) (Nat.add_assoc _ _ _))⟩))); try go_wp2_with (first | (go_at_call 55; (with_reducible refine (impl_rest.calls x14_14 (rd t181 2) t197 _ A24.out).mono ?_); rintro e w' ⟨rfl, ⟨nd, rfl⟩⟩; (try first | exact ⟨rfl, _, World.drewN_drewN _ _ _⟩ | exact ⟨rfl, _, Eq.trans (World.drewN_drewN _ _ _) (congrArg (World.drewN _) (Nat.add_assoc _ _ _))⟩)) | (go_at_call 57; (with_reducible refine (impl_in.calls x14_14 (-100000000000000000) 100000000000000000 true _ A26.out).mono ?_); rintro e w' ⟨rfl, ⟨nd, rfl⟩⟩; (try first | exact ⟨rfl, _, World.drewN_drewN _ _ _⟩ | exact ⟨rfl, _, Eq.trans (World.drewN_drewN _ _ _) (congrArg (World.drewN _) (Nat.add_assoc _ _ _))⟩))))
          go_ret2; exact ⟨sr, bl HB.out⟩
         replace c27 := Bool.eq_false_iff.mpr c27; subst c27; rw [if_neg (show ¬ (false = true) by decide)] at H; simp only [Option.some.injEq, Prod.mk.injEq] at H; obtain ⟨rfl, rfl⟩ := H; have p196 : 0 ≤ (2 : Int) := (by omega); have q196 : 2 < (t181.length : Int) := od; obtain ⟨ad196, e196, hx196_0⟩ := Kd.at_int (Kd.R_reads' HO_4.out).2.2 2 p196 q196; obtain rfl : ad184 = ad196 := (by injection e196); (try simp only [show (2 : Int).toNat = 2 from rfl, Nat.reduceMul, Nat.reduceEqDiff, Go.Addr.add, ↓reduceIte] at hx196_0); have qi196 : (2 < t181.length) = True := eq_true (by omega); (try rw [show ((2 : Int)).toNat = 2 from rfl] at hx196_0); replace p196 := eq_true p196; replace q196 := eq_true q196; go_wp2_with (first | (go_at_call 55; (with_reducible refine (impl_rest.calls x14_14 (rd t181 2) t197 _ A24.out).mono ?_); rintro e w' ⟨rfl, ⟨nd, rfl⟩⟩; (try first | exact ⟨rfl, _, World.drewN_drewN _ _ _⟩ | exact ⟨rfl, _, Eq.trans (World.drewN_drewN _ _ _) (congrArg (World.drewN _) (Nat.add_assoc _ _ _))⟩)) | (go_at_call 57; (with_reducible refine (impl_in.calls x14_14 (-100000000000000000) 100000000000000000 false _ A26.out).mono ?_); rintro e w' ⟨rfl, ⟨nd, rfl⟩⟩; (try first | exact ⟨rfl, _, World.drewN_drewN _ _ _⟩ | exact ⟨rfl, _, Eq.trans (World.drewN_drewN _ _ _) (congrArg (World.drewN _) (Nat.add_assoc _ _ _))⟩)))
         repeat (go_quiet (first | (go_at_call 55; (with_reducible refine (impl_rest.calls x14_14 (rd t181 2) t197 _ A24.out).mono ?_); rintro e w' ⟨rfl, ⟨nd, rfl⟩⟩; (try first | exact ⟨rfl, _, World.drewN_drewN _ _ _⟩ | exact ⟨rfl, _, Eq.trans (World.drewN_drewN _ _ _) (congrArg (World.drewN _) (Nat.add_assoc _ _ _))⟩)) | (go_at_call 57; (with_reducible refine (impl_in.calls x14_14 (-100000000000000000) 100000000000000000 false _ A26.out).mono ?_); rintro e w' ⟨rfl, ⟨nd, rfl⟩⟩; (try first | exact ⟨rfl, _, World.drewN_drewN _ _ _⟩ | exact ⟨rfl, _, Eq.trans (World.drewN_drewN _ _ _) (congrArg (World.drewN _) (Nat.add_assoc _ _ _))⟩))); try go_wp2_with (first | (go_at_call 55; (with_reducible refine (impl_rest.calls x14_14 (rd t181 2) t197 _ A24.out).mono ?_); rintro e w' ⟨rfl, ⟨nd, rfl⟩⟩; (try first | exact ⟨rfl, _, World.drewN_drewN _ _ _⟩ | exact ⟨rfl, _, Eq.trans (World.drewN_drewN _ _ _) (congrArg (World.drewN _) (Nat.add_assoc _ _ _))⟩)) | (go_at_call 57; (with_reducible refine (impl_in.calls x14_14 (-100000000000000000) 100000000000000000 false _ A26.out).mono ?_); rintro e w' ⟨rfl, ⟨nd, rfl⟩⟩; (try first | exact ⟨rfl, _, World.drewN_drewN _ _ _⟩ | exact ⟨rfl, _, Eq.trans (World.drewN_drewN _ _ _) (congrArg (World.drewN _) (Nat.add_assoc _ _ _))⟩))))
         go_ret2; exact ⟨sr, bl HB.out⟩
        rw [if_neg c25] at H; have c25b0 := beq_eq_false_iff_ne.mpr c25; have c25b1 := bne_iff_ne.mpr c25; simp only [Option.some.injEq, Prod.mk.injEq] at H; obtain ⟨rfl, rfl⟩ := H; have p196 : 0 ≤ (2 : Int) := (by omega); have q196 : 2 < (t181.length : Int) := od; obtain ⟨ad196, e196, hx196_0⟩ := Kd.at_int (Kd.R_reads' HO_4.out).2.2 2 p196 q196; obtain rfl : ad184 = ad196 := (by injection e196); (try simp only [show (2 : Int).toNat = 2 from rfl, Nat.reduceMul, Nat.reduceEqDiff, Go.Addr.add, ↓reduceIte] at hx196_0); have qi196 : (2 < t181.length) = True := eq_true (by omega); (try rw [show ((2 : Int)).toNat = 2 from rfl] at hx196_0); replace p196 := eq_true p196; replace q196 := eq_true q196; go_wp2_with (first | (go_at_call 55; (with_reducible refine (impl_rest.calls x14_14 (rd t181 2) t197 _ A24.out).mono ?_); rintro e w' ⟨rfl, ⟨nd, rfl⟩⟩; (try first | exact ⟨rfl, _, World.drewN_drewN _ _ _⟩ | exact ⟨rfl, _, Eq.trans (World.drewN_drewN _ _ _) (congrArg (World.drewN _) (Nat.add_assoc _ _ _))⟩)))
        repeat (go_quiet (first | (go_at_call 55; (with_reducible refine (impl_rest.calls x14_14 (rd t181 2) t197 _ A24.out).mono ?_); rintro e w' ⟨rfl, ⟨nd, rfl⟩⟩; (try first | exact ⟨rfl, _, World.drewN_drewN _ _ _⟩ | exact ⟨rfl, _, Eq.trans (World.drewN_drewN _ _ _) (congrArg (World.drewN _) (Nat.add_assoc _ _ _))⟩))); try go_wp2_with (first | (go_at_call 55; (with_reducible refine (impl_rest.calls x14_14 (rd t181 2) t197 _ A24.out).mono ?_); rintro e w' ⟨rfl, ⟨nd, rfl⟩⟩; (try first | exact ⟨rfl, _, World.drewN_drewN _ _ _⟩ | exact ⟨rfl, _, Eq.trans (World.drewN_drewN _ _ _) (congrArg (World.drewN _) (Nat.add_assoc _ _ _))⟩))))
        go_ret2; exact ⟨sr, bl HB.out⟩
       rw [if_neg c23] at H; exact absurd H (by simp)
    rw [if_neg c9] at H; exact absurd H (by simp)
   rw [if_neg c6] at H; exact absurd H (by simp)
  rw [if_neg c5] at H; exact absurd H (by simp)
 replace c3 := Bool.eq_false_iff.mpr c3; subst c3; rw [if_neg (show ¬ (false = true) by decide)] at H; simp only [Option.some.injEq, Prod.mk.injEq] at H; obtain ⟨rfl, rfl⟩ := H; go_enter Try.func16, Try.ntmps16; go_wp2_with (first | (go_at_call 47; (with_reducible refine (impl_areRows.calls _ _ l0 false _ ?side1 HC0.out A2.out).mono ?_); (case side1 => exact cw HR0.out); rintro e w28 ⟨rfl, hb⟩; replace HB := bst HB hb))
 repeat (go_quiet (first | (go_at_call 47; (with_reducible refine (impl_areRows.calls _ _ l0 false _ ?side1 HC0.out A2.out).mono ?_); (case side1 => exact cw HR0.out); rintro e w28 ⟨rfl, hb⟩; replace HB := bst HB hb)); try go_wp2_with (first | (go_at_call 47; (with_reducible refine (impl_areRows.calls _ _ l0 false _ ?side1 HC0.out A2.out).mono ?_); (case side1 => exact cw HR0.out); rintro e w28 ⟨rfl, hb⟩; replace HB := bst HB hb)))
 go_ret2; exact ⟨sr, bl HB.out⟩
/-! ### laws_big: function 17 -/
def laws_big.f (l0 : List Int) (l1 : List Int) : Option (Bool) := if (l0.length : Int) > 1048576 then (some true) else (some (decide ((l1.length : Int) > (wrap64 (1048576 - (l0.length : Int))))))
theorem laws_big.calls (A0 : Option Addr) (c0 : Nat) (l0 : List Int) (A1 : Option Addr) (c1 : Nat) (l1 : List Int) (r : Bool) (w : World) (hr0 : Kd.C (Kd.int .u8) w A0 l0.length l0) (hc0 : l0.length ≤ c0) (hr1 : Kd.C (Kd.int .u8) w A1 l1.length l1) (hc1 : l1.length ≤ c1) (h : laws_big.f l0 l1 = some r) :
  Calls Try.prog 17 #[.slice A0 l0.length c0, .slice A1 l1.length c1] w fun e w' => e = .returned (.bool r) ∧ Drawn0 w w' := by
 have HR0 := Aside0.mk hr0; have HC0 := Aside0.mk hc0; clear hr0 hc0; have HR1 := Aside0.mk hr1; have HC1 := Aside0.mk hc1; clear hr1 hc1; have H : (if (l0.length : Int) > 1048576 then (some true) else (some (decide ((l1.length : Int) > (wrap64 (1048576 - (l0.length : Int))))))) = some r := h; clear h
 by_cases c3 : (l0.length : Int) > 1048576
 ·rw [if_pos c3] at H; have c3b0 := decide_eq_true c3; have c3b1 : decide (1048576 < l0.length) = true := decide_eq_true (by omega); clear c3; obtain rfl := Option.some.inj H; go_enter Try.func17, Try.ntmps17; go_wp2; go_ret; exact ⟨sr2, by repeat (first | exact Drawn0.refl _ | apply Drawn0.step)⟩
 rw [if_neg c3] at H; have c3b0 := decide_eq_false c3; have c3b1 : decide (1048576 < l0.length) = false := decide_eq_false (by omega); clear c3; obtain rfl := Option.some.inj H; go_enter Try.func17, Try.ntmps17; go_wp2; go_ret; exact ⟨sr2, by repeat (first | exact Drawn0.refl _ | apply Drawn0.step)⟩

/-- A state of type 57 at block g of W; what its slices lead to came in by w0. -/
def IsS57 (w0 W : World) (g : Nat) (f0 : List Int) (f1 : Int) (f2 : Int) : Prop := ∃ A0 c0, W.heap[g]? = some (.cells #[.slice A0 f0.length c0, .int .i64 f1, .int .u64 f2] 57 (0, 0)) ∧ w0.heap.size ≤ g ∧ Kd.C (Kd.int .u8) w0 A0 f0.length f0
theorem IsS57.grown {w0 W : World} {g : Nat} {f0 : List Int} {f1 : Int} {f2 : Int} {W1 : World} {row : Option Nat} (h : IsS57 w0 W g f0 f1 f2) (hw : W.grownBy W1 row) (hne : some g ≠ row) : IsS57 w0 W1 g f0 f1 f2 := by
 obtain ⟨A0, c0, hb, hg, hr0⟩ := h; exact ⟨A0, c0, blk_grown hb hw hne, hg, hr0⟩
theorem IsS57.own_neN {w0 W : World} {g : Nat} {f0 : List Int} {f1 : Int} {f2 : Int} {α : Type} {d : Kd α} {e : Nat} {base : Nat} {ok : Nat → Prop} {v : Value} {xs : List α} (h : IsS57 w0 W g f0 f1 f2) (ho : Kd.N d e W base ok v xs) (ht : e ≠ 57) : some g ≠ v.ownBlock := by
 obtain ⟨A0, c0, hb, hg, hr0⟩ := h; exact Kd.N_ne ho hb ht
theorem IsS57.fresh {w0 W : World} {g : Nat} {f0 : List Int} {f1 : Int} {f2 : Int} (h : IsS57 w0 W g f0 f1 f2) : ∀ k, W.heap.size ≤ k → k ≠ g := by
 obtain ⟨A0, c0, hb, hg, hr0⟩ := h; exact Kd.freshB hb
theorem IsS57.kept {w0 W : World} {g : Nat} {f0 : List Int} {f1 : Int} {f2 : Int} {W1 : World} {S : Nat → Prop} (h : IsS57 w0 W g f0 f1 f2) (hk : Kept W W1 S) (hne : ¬ S g) : IsS57 w0 W1 g f0 f1 f2 := by
 obtain ⟨A0, c0, hb, hg, hr0⟩ := h; exact ⟨A0, c0, blk_kept hb hk hne, hg, hr0⟩
theorem IsS57.below {w0 W : World} {g : Nat} {f0 : List Int} {f1 : Int} {f2 : Int} {W1 : World} (h : IsS57 w0 W g f0 f1 f2) (hw : Below W.heap.size W W1) : IsS57 w0 W1 g f0 f1 f2 := h.grown (grown_of_below hw none) (by simp)
theorem IsS57.alloc {w0 W : World} {g : Nat} {f0 : List Int} {f1 : Int} {f2 : Int} (h : IsS57 w0 W g f0 f1 f2) (o : Obj) : IsS57 w0 (W.alloc o) g f0 f1 f2 := h.below (below_alloc (Below.refl _ _) o)
theorem IsS57.drewN {w0 W : World} {g : Nat} {f0 : List Int} {f1 : Int} {f2 : Int} (h : IsS57 w0 W g f0 f1 f2) (m : Nat) : IsS57 w0 (W.drewN m) g f0 f1 f2 := h
theorem IsS57.drew {w0 W : World} {g : Nat} {f0 : List Int} {f1 : Int} {f2 : Int} (h : IsS57 w0 W g f0 f1 f2) : IsS57 w0 W.drew g f0 f1 f2 := h
theorem IsS57.at_ {w0 W : World} {g : Nat} {f0 : List Int} {f1 : Int} {f2 : Int} {w' : World} {m : Nat} (hq : W.drewN m = w') (h : IsS57 w0 W g f0 f1 f2) : IsS57 w0 w' g f0 f1 f2 := by subst hq; exact IsS57.drewN h m
theorem IsS57.apart {w0 W : World} {g : Nat} {f0 : List Int} {f1 : Int} {f2 : Int} {α : Type} {d : Kd α} {e : Nat} {base : Nat} {ok : Nat → Prop} {v : Value} {xs : List α} (h : IsS57 w0 W g f0 f1 f2) (ho : d.R e W base ok v xs) (ht : ∀ q, q ∈ e :: d.E → q ≠ 57) : d.R e W base (fun k => ok k ∧ k ≠ g) v xs := by
 obtain ⟨A0, c0, hb, hg, hr0⟩ := h; exact Kd.R_types ho hb ht
theorem IsS57.own_ne {w0 W : World} {g : Nat} {f0 : List Int} {f1 : Int} {f2 : Int} {α : Type} {d : Kd α} {e : Nat} {base : Nat} {ok : Nat → Prop} {v : Value} {xs : List α} (h : IsS57 w0 W g f0 f1 f2) (ho : d.R e W base ok v xs) (ht : e ≠ 57) : some g ≠ v.ownBlock := by
 obtain ⟨A0, c0, hb, hg, hr0⟩ := h; exact Kd.R_ne ho hb ht
theorem IsS57.apartQ {w0 W : World} {g : Nat} {f0 : List Int} {f1 : Int} {f2 : Int} {α : Type} {d : Kd α} {e : Nat} {base : Nat} {ok : Nat → Prop} {v : Value} {xs : List α} (h : IsS57 w0 W g f0 f1 f2) (ho : d.Q e W base ok v xs) (ht : ∀ q, q ∈ e :: d.E → q ≠ 57) : d.Q e W base (fun k => ok k ∧ k ≠ g) v xs := by
 obtain ⟨A0, c0, hb, hg, hr0⟩ := h; exact Kd.Q_types ho hb ht
theorem IsS57.own_neQ {w0 W : World} {g : Nat} {f0 : List Int} {f1 : Int} {f2 : Int} {α : Type} {d : Kd α} {e : Nat} {base : Nat} {ok : Nat → Prop} {v : Value} {xs : List α} (h : IsS57 w0 W g f0 f1 f2) (ho : d.Q e W base ok v xs) (ht : e ≠ 57) : some g ≠ v.ownBlock := by
 obtain ⟨A0, c0, hb, hg, hr0⟩ := h; exact Kd.Q_ne ho hb ht
theorem IsS57.apartS {w0 W : World} {g : Nat} {f0 : List Int} {f1 : Int} {f2 : Int} {α : Type} {d : Kd α} {e : Nat} {base : Nat} {ok : Nat → Prop} {v : Value} {xs : List α} (h : IsS57 w0 W g f0 f1 f2) (ho : d.S e W base ok v xs) (ht : ∀ q, q ∈ e :: d.E → q ≠ 57) : d.S e W base (fun k => ok k ∧ k ≠ g) v xs := by
 obtain ⟨A0, c0, hb, hg, hr0⟩ := h; exact Kd.S_types ho hb ht
theorem IsS57.own_neS {w0 W : World} {g : Nat} {f0 : List Int} {f1 : Int} {f2 : Int} {α : Type} {d : Kd α} {e : Nat} {base : Nat} {ok : Nat → Prop} {v : Value} {xs : List α} (h : IsS57 w0 W g f0 f1 f2) (ho : d.S e W base ok v xs) (ht : e ≠ 57) : some g ≠ v.ownBlock := by
 obtain ⟨A0, c0, hb, hg, hr0⟩ := h; exact Kd.S_ne ho hb ht
theorem IsS57.lt {w0 W : World} {g : Nat} {f0 : List Int} {f1 : Int} {f2 : Int} (h : IsS57 w0 W g f0 f1 f2) : g < W.heap.size := by
 obtain ⟨A0, c0, hb, hg, hr0⟩ := h; exact blk_lt hb
theorem IsS57.ge {w0 W : World} {g : Nat} {f0 : List Int} {f1 : Int} {f2 : Int} (h : IsS57 w0 W g f0 f1 f2) : w0.heap.size ≤ g := by
 obtain ⟨A0, c0, hb, hg, hr0⟩ := h; exact hg
theorem IsS57.ne_blk {w0 W : World} {g : Nat} {f0 : List Int} {f1 : Int} {f2 : Int} {a : Nat} {cs : Array Value} {t : TypeId} {fr : Nat × Nat} (h : IsS57 w0 W g f0 f1 f2) (hb2 : W.heap[a]? = some (.cells cs t fr)) (ht : t ≠ 57) : g ≠ a := by
 obtain ⟨A0, c0, hb, hg, hr0⟩ := h; rintro rfl; rw [hb] at hb2; (injection hb2 with hb2); (injection hb2 with _ ht2); exact ht ht2.symm
theorem IsS57.far {w0 W : World} {g : Nat} {f0 : List Int} {f1 : Int} {f2 : Int} {p : Addr} (h : IsS57 w0 W g f0 f1 f2) (hne : g ≠ p.block) (u : Value) : IsS57 w0 (W.setCell p u) g f0 f1 f2 := by
 obtain ⟨A0, c0, hb, hg, hr0⟩ := h; exact ⟨A0, c0, blk_far hb hne u, hg, hr0⟩
theorem cellS57_0 {W : World} {g : Nat} {A0 : Option Addr} {c0 : Nat} {f0 : List Int} {f1 : Int} {f2 : Int} (h : W.heap[g]? = some (.cells #[.slice A0 f0.length c0, .int .i64 f1, .int .u64 f2] 57 (0, 0))) : W.cell? ⟨g, 0, none⟩ = some (.slice A0 f0.length c0) := (blk_cell h 0).trans rfl
theorem cellS57_1 {W : World} {g : Nat} {A0 : Option Addr} {c0 : Nat} {f0 : List Int} {f1 : Int} {f2 : Int} (h : W.heap[g]? = some (.cells #[.slice A0 f0.length c0, .int .i64 f1, .int .u64 f2] 57 (0, 0))) : W.cell? ⟨g, 1, none⟩ = some (.int .i64 f1) := (blk_cell h 1).trans rfl
theorem IsS57.set_1 {w0 W : World} {g : Nat} {f0 : List Int} {f1 : Int} {f2 : Int} (h : IsS57 w0 W g f0 f1 f2) (x : Int) : IsS57 w0 (W.setCell ⟨g, 1, none⟩ (.int .i64 x)) g f0 x f2 := by
 obtain ⟨A0, c0, hb, hg, hr0⟩ := h; exact ⟨A0, c0, by simpa using blk_set hb 1 (.int .i64 x), hg, hr0⟩
theorem cellS57_2 {W : World} {g : Nat} {A0 : Option Addr} {c0 : Nat} {f0 : List Int} {f1 : Int} {f2 : Int} (h : W.heap[g]? = some (.cells #[.slice A0 f0.length c0, .int .i64 f1, .int .u64 f2] 57 (0, 0))) : W.cell? ⟨g, 2, none⟩ = some (.int .u64 f2) := (blk_cell h 2).trans rfl
theorem IsS57.set_2 {w0 W : World} {g : Nat} {f0 : List Int} {f1 : Int} {f2 : Int} (h : IsS57 w0 W g f0 f1 f2) (x : Int) : IsS57 w0 (W.setCell ⟨g, 2, none⟩ (.int .u64 x)) g f0 f1 x := by
 obtain ⟨A0, c0, hb, hg, hr0⟩ := h; exact ⟨A0, c0, by simpa using blk_set hb 2 (.int .u64 x), hg, hr0⟩
theorem IsS57.new (w0 W : World) (A0 : Option Addr) (c0 : Nat) (f0 : List Int) (f1 : Int) (f2 : Int) (hB : Below w0.heap.size w0 W) (hr0 : Kd.C (Kd.int .u8) w0 A0 f0.length f0) : IsS57 w0 (W.alloc (.cells #[.slice A0 f0.length c0, .int .i64 f1, .int .u64 f2] 57)) W.heap.size f0 f1 f2 := ⟨A0, c0, by simpa using heap_alloc_new W _, hB.size, hr0⟩

theorem iS {w0 W0 W : World} {g : Nat} {f0 : List Int} {f1 x1 f2 x2 : Int} (h : IsS57 w0 W0 g f0 f1 f2) (e : IsS57 w0 W0 g f0 f1 f2 → IsS57 w0 W g f0 x1 x2 := by intro h; repeat (first | (with_reducible first | exact h | apply IsS57.alloc | apply IsS57.drewN | apply IsS57.drew | apply IsS57.set_1 | apply IsS57.set_2) | exact h)) : IsS57 w0 W g f0 x1 x2 := e h
theorem iS1 {w0 W0 W : World} {g : Nat} {f0 : List Int} {f1 x1 f2 x2 : Int} {P : Prop} (h : IsS57 w0 W0 g f0 f1 f2) (p : P) (e : P → IsS57 w0 W0 g f0 f1 f2 → IsS57 w0 W g f0 x1 x2 := by intro p h; repeat (first | (with_reducible first | exact h | apply IsS57.alloc | apply IsS57.drewN | apply IsS57.drew | apply IsS57.set_1 | apply IsS57.set_2 | refine IsS57.far ?_ p _) | exact h)) : IsS57 w0 W g f0 x1 x2 := e p h
/-! ### spec_l1Cur_next: function 93 -/
def spec_l1Cur_next.f (s0_0 : List Int) (s0_1 : Int) (s0_2 : Int) : Option (Int × Int × Int) := if s0_1 < (s0_0.length : Int) then (if 0 ≤ s0_1 then (if (wrap64 (s0_1 + 1)) ≤ (s0_0.length : Int) then (some (wrap64 (rd s0_0 s0_1), wrap64 (s0_1 + 1), IntKind.u64.wrap ((IntKind.u64.wrap ((IntKind.u64.wrap (s0_2 * 6364136223846793005)) + (IntKind.u64.wrap (wrap64 (rd s0_0 s0_1))))) + 1442695040888963407))) else (some (wrap64 (Go.bits .and .u64 ((IntKind.u64.wrap ((IntKind.u64.wrap ((IntKind.u64.wrap (s0_2 * 6364136223846793005)) + (IntKind.u64.wrap (wrap64 (rd s0_0 s0_1))))) + 1442695040888963407)) / 1099511627776) 255), wrap64 (s0_1 + 1), IntKind.u64.wrap ((IntKind.u64.wrap ((IntKind.u64.wrap (s0_2 * 6364136223846793005)) + (IntKind.u64.wrap (wrap64 (rd s0_0 s0_1))))) + 1442695040888963407)))) else (none)) else (if (wrap64 (s0_1 + 1)) ≤ (s0_0.length : Int) then (some (0, wrap64 (s0_1 + 1), IntKind.u64.wrap ((IntKind.u64.wrap ((IntKind.u64.wrap (s0_2 * 6364136223846793005)) + 0)) + 1442695040888963407))) else (some (wrap64 (Go.bits .and .u64 ((IntKind.u64.wrap ((IntKind.u64.wrap ((IntKind.u64.wrap (s0_2 * 6364136223846793005)) + 0)) + 1442695040888963407)) / 1099511627776) 255), wrap64 (s0_1 + 1), IntKind.u64.wrap ((IntKind.u64.wrap ((IntKind.u64.wrap (s0_2 * 6364136223846793005)) + 0)) + 1442695040888963407))))
theorem spec_l1Cur_next.calls (g : Nat) (s0_0 : List Int) (s0_1 : Int) (s0_2 : Int) (r1 : Int) (r2 : Int) (r3 : Int) (w0 w : World) (hI : IsS57 w0 w g s0_0 s0_1 s0_2) (hB : Below w0.heap.size w0 w) (h : spec_l1Cur_next.f s0_0 s0_1 s0_2 = some (r1, r2, r3)) :
  Calls Try.prog 93 #[.pointer (some ⟨g, 0, none⟩)] w fun e w' => e = .returned (.int .i64 r1) ∧ IsS57 w0 w' g s0_0 r2 r3 ∧ Below w0.heap.size w0 w' ∧ KeepBut w w' g none := by
 have HI0 := Aside0.mk hI; have HK := Aside0.mk (KeepBut.refl w g none); have HL := Aside0.mk hB.size; clear hI; have HW0 := Aside0.mk hB.size; have HB := Aside0.mk hB; clear hB; have H : (if s0_1 < (s0_0.length : Int) then (if 0 ≤ s0_1 then (if (wrap64 (s0_1 + 1)) ≤ (s0_0.length : Int) then (some (wrap64 (rd s0_0 s0_1), wrap64 (s0_1 + 1), IntKind.u64.wrap ((IntKind.u64.wrap ((IntKind.u64.wrap (s0_2 * 6364136223846793005)) + (IntKind.u64.wrap (wrap64 (rd s0_0 s0_1))))) + 1442695040888963407))) else (some (wrap64 (Go.bits .and .u64 ((IntKind.u64.wrap ((IntKind.u64.wrap ((IntKind.u64.wrap (s0_2 * 6364136223846793005)) + (IntKind.u64.wrap (wrap64 (rd s0_0 s0_1))))) + 1442695040888963407)) / 1099511627776) 255), wrap64 (s0_1 + 1), IntKind.u64.wrap ((IntKind.u64.wrap ((IntKind.u64.wrap (s0_2 * 6364136223846793005)) + (IntKind.u64.wrap (wrap64 (rd s0_0 s0_1))))) + 1442695040888963407)))) else (none)) else (if (wrap64 (s0_1 + 1)) ≤ (s0_0.length : Int) then (some (0, wrap64 (s0_1 + 1), IntKind.u64.wrap ((IntKind.u64.wrap ((IntKind.u64.wrap (s0_2 * 6364136223846793005)) + 0)) + 1442695040888963407))) else (some (wrap64 (Go.bits .and .u64 ((IntKind.u64.wrap ((IntKind.u64.wrap ((IntKind.u64.wrap (s0_2 * 6364136223846793005)) + 0)) + 1442695040888963407)) / 1099511627776) 255), wrap64 (s0_1 + 1), IntKind.u64.wrap ((IntKind.u64.wrap ((IntKind.u64.wrap (s0_2 * 6364136223846793005)) + 0)) + 1442695040888963407))))) = some (r1, r2, r3) := h; clear h
 by_cases c2 : s0_1 < (s0_0.length : Int)
 ·rw [if_pos c2] at H; have c2b0 := decide_eq_true c2; clear c2
  by_cases c3 : 0 ≤ s0_1
  ·rw [if_pos c3] at H; have c3b0 := decide_eq_true c3; clear c3
   by_cases c4 : (wrap64 (s0_1 + 1)) ≤ (s0_0.length : Int)
   ·rw [if_pos c4] at H; have c4b0 := decide_eq_true c4; clear c4; simp only [Option.some.injEq, Prod.mk.injEq, Int.add_zero] at H; obtain ⟨rfl, rfl, rfl⟩ := H; obtain ⟨ASz5_0, cSz5_0, HGz5, hgz5, HSz5_0⟩ := HI0.out; have hcz5_0 := cellS57_0 HGz5; have hcz5_1 := cellS57_1 HGz5; have hcz5_2 := cellS57_2 HGz5; have hfz5_1 := blk_frozen HGz5 1; have hfz5_2 := blk_frozen HGz5 2; clear HGz5 hgz5; obtain ⟨ad199, e199, hx199_0, p199, q199⟩ := atI HSz5_0 s0_1; cases e199; replace hx199_0 := pw_cell_below HB.out hx199_0; go_enter Try.func93, Try.ntmps93; go_wp2
    repeat (go_quiet (fail); try go_wp2)
    go_ret; exact ⟨sr, iS HI0.out, bs1 HB.out (IsS57.ge HI0.out), kb HK.out⟩
   rw [if_neg c4] at H; have c4b0 := decide_eq_false c4; clear c4; simp only [Option.some.injEq, Prod.mk.injEq, Int.add_zero] at H; obtain ⟨rfl, rfl, rfl⟩ := H; obtain ⟨ASz6_0, cSz6_0, HGz6, hgz6, HSz6_0⟩ := HI0.out; have hcz6_0 := cellS57_0 HGz6; have hcz6_1 := cellS57_1 HGz6; have hcz6_2 := cellS57_2 HGz6; have hfz6_1 := blk_frozen HGz6 1; have hfz6_2 := blk_frozen HGz6 2; clear HGz6 hgz6; obtain ⟨ad199, e199, hx199_0, p199, q199⟩ := atI HSz6_0 s0_1; cases e199; replace hx199_0 := pw_cell_below HB.out hx199_0; go_enter Try.func93, Try.ntmps93; go_wp2
   repeat (go_quiet (fail); try go_wp2)
   go_ret; exact ⟨sr, iS HI0.out, bs1 HB.out (IsS57.ge HI0.out), kb HK.out⟩
  rw [if_neg c3] at H; exact absurd H (by simp)
 rw [if_neg c2] at H; have c2b0 := decide_eq_false c2; clear c2
 by_cases c7 : (wrap64 (s0_1 + 1)) ≤ (s0_0.length : Int)
 ·rw [if_pos c7] at H; have c7b0 := decide_eq_true c7; clear c7; simp only [Option.some.injEq, Prod.mk.injEq, Int.add_zero] at H; obtain ⟨rfl, rfl, rfl⟩ := H; obtain ⟨ASz8_0, cSz8_0, HGz8, hgz8, HSz8_0⟩ := HI0.out; have hcz8_0 := cellS57_0 HGz8; have hcz8_1 := cellS57_1 HGz8; have hcz8_2 := cellS57_2 HGz8; have hfz8_1 := blk_frozen HGz8 1; have hfz8_2 := blk_frozen HGz8 2; clear HGz8 hgz8; go_enter Try.func93, Try.ntmps93; go_wp2
  repeat (go_quiet (fail); try go_wp2)
  go_ret; exact ⟨sr, iS HI0.out, bs1 HB.out (IsS57.ge HI0.out), kb HK.out⟩
 rw [if_neg c7] at H; have c7b0 := decide_eq_false c7; clear c7; simp only [Option.some.injEq, Prod.mk.injEq, Int.add_zero] at H; obtain ⟨rfl, rfl, rfl⟩ := H; obtain ⟨ASz9_0, cSz9_0, HGz9, hgz9, HSz9_0⟩ := HI0.out; have hcz9_0 := cellS57_0 HGz9; have hcz9_1 := cellS57_1 HGz9; have hcz9_2 := cellS57_2 HGz9; have hfz9_1 := blk_frozen HGz9 1; have hfz9_2 := blk_frozen HGz9 2; clear HGz9 hgz9; go_enter Try.func93, Try.ntmps93; go_wp2
 repeat (go_quiet (fail); try go_wp2)
 go_ret; exact ⟨sr, iS HI0.out, bs1 HB.out (IsS57.ge HI0.out), kb HK.out⟩
/-! ### spec_l1Cur_pick: function 63 -/
def spec_l1Cur_pick.f (s0_0 : List Int) (s0_1 : Int) (s0_2 : Int) (a1 : Int) : Option (Int × Int × Int) := if a1 ≤ 1 then (some (0, s0_1, s0_2)) else ((spec_l1Cur_next.f s0_0 s0_1 s0_2).bind fun bt200 => (if a1 > 200 then ((spec_l1Cur_next.f s0_0 bt200.2.1 bt200.2.2).bind fun bt203 => (if a1 = 0 then (none) else (some (Int.tmod (wrap64 ((wrap64 (bt200.1 * 256)) + bt203.1)) a1, bt203.2.1, bt203.2.2)))) else (if a1 = 0 then (none) else (some (Int.tmod bt200.1 a1, bt200.2.1, bt200.2.2)))))
theorem spec_l1Cur_pick.calls (g : Nat) (s0_0 : List Int) (s0_1 : Int) (s0_2 : Int) (a1 : Int) (r1 : Int) (r2 : Int) (r3 : Int) (w0 w : World) (hI : IsS57 w0 w g s0_0 s0_1 s0_2) (hB : Below w0.heap.size w0 w) (h : spec_l1Cur_pick.f s0_0 s0_1 s0_2 a1 = some (r1, r2, r3)) :
  Calls Try.prog 63 #[.pointer (some ⟨g, 0, none⟩), .int .i64 a1] w fun e w' => e = .returned (.int .i64 r1) ∧ IsS57 w0 w' g s0_0 r2 r3 ∧ Below w0.heap.size w0 w' ∧ KeepBut w w' g none := by
 have HI0 := Aside0.mk hI; have HK := Aside0.mk (KeepBut.refl w g none); have HL := Aside0.mk hB.size; clear hI; have HW0 := Aside0.mk hB.size; have HB := Aside0.mk hB; clear hB; have H : (if a1 ≤ 1 then (some (0, s0_1, s0_2)) else ((spec_l1Cur_next.f s0_0 s0_1 s0_2).bind fun bt200 => (if a1 > 200 then ((spec_l1Cur_next.f s0_0 bt200.2.1 bt200.2.2).bind fun bt203 => (if a1 = 0 then (none) else (some (Int.tmod (wrap64 ((wrap64 (bt200.1 * 256)) + bt203.1)) a1, bt203.2.1, bt203.2.2)))) else (if a1 = 0 then (none) else (some (Int.tmod bt200.1 a1, bt200.2.1, bt200.2.2)))))) = some (r1, r2, r3) := h; clear h
 by_cases c3 : a1 ≤ 1
 ·rw [if_pos c3] at H; have c3b0 := decide_eq_true c3; clear c3; simp only [Option.some.injEq, Prod.mk.injEq] at H; obtain ⟨rfl, rfl, rfl⟩ := H; go_enter Try.func63, Try.ntmps63; go_wp2; go_ret; exact ⟨sr, iS HI0.out, bs1 HB.out (IsS57.ge HI0.out), kb HK.out⟩
 rw [if_neg c3] at H; have c3b0 := decide_eq_false c3; clear c3; obtain ⟨⟨t200, t201, t202⟩, A4, H⟩ := bi H; (try dsimp only at H)
 by_cases c5 : a1 > 200
 ·rw [if_pos c5] at H; have c5b0 := decide_eq_true c5; clear c5; obtain ⟨⟨t203, t204, t205⟩, A6, H⟩ := bi H; (try dsimp only at H)
  by_cases c7 : a1 = 0
  ·rw [if_pos c7] at H; exact absurd H (by simp)
  rw [if_neg c7] at H; have c7b0 := beq_eq_false_iff_ne.mpr c7; have c7b1 := bne_iff_ne.mpr c7; simp only [Option.some.injEq, Prod.mk.injEq] at H; obtain ⟨rfl, rfl, rfl⟩ := H; go_enter Try.func63, Try.ntmps63; go_wp2_with (first | ((with_reducible refine gate_callee (f := 93) rfl ?_); refine goesL_ (some 9) rfl rfl Try.func93 (by kernel_rfl) rfl #[.pointer (some ⟨g, 0, none⟩)] rfl mp ?_; (with_reducible refine (spec_l1Cur_next.calls g s0_0 s0_1 s0_2 t200 t201 t202 w0 _ ?side1 ?side2 A4.out).mono ?_); (case side1 => exact iS HI0.out); (case side2 => exact bs1 HB.out (IsS57.ge HI0.out)); rintro e w8 ⟨rfl, hi, hb, hk⟩; refine ⟨_, rfl, ?_⟩; replace HK := kt HK hk; replace HB := Aside0.mk (hb); replace HI0 := Aside0.mk (hi)) | ((with_reducible refine gate_callee (f := 93) rfl ?_); refine goesL_ (some 15) rfl rfl Try.func93 (by kernel_rfl) rfl #[.pointer (some ⟨g, 0, none⟩)] rfl mp ?_; (with_reducible refine (spec_l1Cur_next.calls g s0_0 t201 t202 t203 t204 t205 w0 _ ?side1 ?side2 A6.out).mono ?_); (case side1 => exact iS HI0.out); (case side2 => exact bs1 HB.out (IsS57.ge HI0.out)); rintro e w9 ⟨rfl, hi, hb, hk⟩; refine ⟨_, rfl, ?_⟩; replace HK := kt HK hk; replace HB := Aside0.mk (hb); replace HI0 := Aside0.mk (hi))); go_ret; exact ⟨sr, iS HI0.out, bs1 HB.out (IsS57.ge HI0.out), kb HK.out⟩
 rw [if_neg c5] at H; have c5b0 := decide_eq_false c5; clear c5
 by_cases c10 : a1 = 0
 ·rw [if_pos c10] at H; exact absurd H (by simp)
 rw [if_neg c10] at H; have c10b0 := beq_eq_false_iff_ne.mpr c10; have c10b1 := bne_iff_ne.mpr c10; simp only [Option.some.injEq, Prod.mk.injEq] at H; obtain ⟨rfl, rfl, rfl⟩ := H; go_enter Try.func63, Try.ntmps63; go_wp2_with (first | ((with_reducible refine gate_callee (f := 93) rfl ?_); refine goesL_ (some 9) rfl rfl Try.func93 (by kernel_rfl) rfl #[.pointer (some ⟨g, 0, none⟩)] rfl mp ?_; (with_reducible refine (spec_l1Cur_next.calls g s0_0 s0_1 s0_2 t200 t201 t202 w0 _ ?side1 ?side2 A4.out).mono ?_); (case side1 => exact iS HI0.out); (case side2 => exact bs1 HB.out (IsS57.ge HI0.out)); rintro e w11 ⟨rfl, hi, hb, hk⟩; refine ⟨_, rfl, ?_⟩; replace HK := kt HK hk; replace HB := Aside0.mk (hb); replace HI0 := Aside0.mk (hi))); go_ret; exact ⟨sr, iS HI0.out, bs1 HB.out (IsS57.ge HI0.out), kb HK.out⟩
/-! ### spec_l1Cur_one: function 64 -/
def spec_l1Cur_one.f (s0_0 : List Int) (s0_1 : Int) (s0_2 : Int) (a1 : Int) : Option (Bool × Int × Int) := (spec_l1Cur_pick.f s0_0 s0_1 s0_2 a1).bind fun bt206 => (some ((bt206.1 == 0), bt206.2.1, bt206.2.2))
theorem spec_l1Cur_one.calls (g : Nat) (s0_0 : List Int) (s0_1 : Int) (s0_2 : Int) (a1 : Int) (r1 : Bool) (r2 : Int) (r3 : Int) (w0 w : World) (hI : IsS57 w0 w g s0_0 s0_1 s0_2) (hB : Below w0.heap.size w0 w) (h : spec_l1Cur_one.f s0_0 s0_1 s0_2 a1 = some (r1, r2, r3)) :
  Calls Try.prog 64 #[.pointer (some ⟨g, 0, none⟩), .int .i64 a1] w fun e w' => e = .returned (.bool r1) ∧ IsS57 w0 w' g s0_0 r2 r3 ∧ Below w0.heap.size w0 w' ∧ KeepBut w w' g none := by
 have HI0 := Aside0.mk hI; have HK := Aside0.mk (KeepBut.refl w g none); have HL := Aside0.mk hB.size; clear hI; have HW0 := Aside0.mk hB.size; have HB := Aside0.mk hB; clear hB; have H : ((spec_l1Cur_pick.f s0_0 s0_1 s0_2 a1).bind fun bt206 => (some ((bt206.1 == 0), bt206.2.1, bt206.2.2))) = some (r1, r2, r3) := h; clear h; obtain ⟨⟨t206, t207, t208⟩, A3, H⟩ := bi H; (try dsimp only at H); simp only [Option.some.injEq, Prod.mk.injEq] at H; obtain ⟨rfl, rfl, rfl⟩ := H; go_enter Try.func64, Try.ntmps64; go_wp2_with (first | (go_at_call 63; (with_reducible refine (spec_l1Cur_pick.calls g s0_0 s0_1 s0_2 a1 t206 t207 t208 w0 _ ?side1 (bs1 HB.out (IsS57.ge HI0.out)) A3.out).mono ?_); (case side1 => exact iS HI0.out); rintro e w4 ⟨rfl, hi, hb, hk⟩; replace HK := kt HK hk; replace HB := Aside0.mk (hb); replace HI0 := Aside0.mk (hi))); go_ret; exact ⟨sr, iS HI0.out, bs1 HB.out (IsS57.ge HI0.out), kb HK.out⟩
/-! ### spec_l1Cur_among: function 65 -/
def spec_l1Cur_among.f (s0_0 : List Int) (s0_1 : Int) (s0_2 : Int) (l1 : List Int) : Option (Int × Int × Int) := (spec_l1Cur_pick.f s0_0 s0_1 s0_2 (l1.length : Int)).bind fun bt209 => (if 0 ≤ bt209.1 then (if bt209.1 < (l1.length : Int) then (some (rd l1 bt209.1, bt209.2.1, bt209.2.2)) else (none)) else (none))
theorem spec_l1Cur_among.calls (g : Nat) (s0_0 : List Int) (s0_1 : Int) (s0_2 : Int) (A1 : Option Addr) (c1 : Nat) (l1 : List Int) (r1 : Int) (r2 : Int) (r3 : Int) (w0 w : World) (hI : IsS57 w0 w g s0_0 s0_1 s0_2) (hB : Below w0.heap.size w0 w) (hr1 : Kd.C (Kd.int .i64) w A1 l1.length l1) (hc1 : l1.length ≤ c1) (hf1 : ∀ ad, A1 = some ad → 0 < l1.length → ad.block ≠ g) (h : spec_l1Cur_among.f s0_0 s0_1 s0_2 l1 = some (r1, r2, r3)) :
  Calls Try.prog 65 #[.pointer (some ⟨g, 0, none⟩), .slice A1 l1.length c1] w fun e w' => e = .returned (.int .i64 r1) ∧ IsS57 w0 w' g s0_0 r2 r3 ∧ Below w0.heap.size w0 w' ∧ KeepBut w w' g none := by
 have HR1 := Aside0.mk hr1; have HC1 := Aside0.mk hc1; clear hr1 hc1; have HI0 := Aside0.mk hI; have HK := Aside0.mk (KeepBut.refl w g none); have HL := Aside0.mk hB.size; clear hI; have HW0 := Aside0.mk hB.size; have HB := Aside0.mk hB; clear hB; have H : ((spec_l1Cur_pick.f s0_0 s0_1 s0_2 (l1.length : Int)).bind fun bt209 => (if 0 ≤ bt209.1 then (if bt209.1 < (l1.length : Int) then (some (rd l1 bt209.1, bt209.2.1, bt209.2.2)) else (none)) else (none))) = some (r1, r2, r3) := h; clear h; obtain ⟨⟨t209, t210, t211⟩, A3, H⟩ := bi H; (try dsimp only at H)
 by_cases c4 : 0 ≤ t209
 ·rw [if_pos c4] at H; have c4b0 := decide_eq_true c4; clear c4
  by_cases c5 : t209 < (l1.length : Int)
  ·rw [if_pos c5] at H; have c5b0 := decide_eq_true c5; clear c5; simp only [Option.some.injEq, Prod.mk.injEq] at H; obtain ⟨rfl, rfl, rfl⟩ := H; go_enter Try.func65, Try.ntmps65; go_wp2_with (first | (go_at_call 63; (with_reducible refine (spec_l1Cur_pick.calls g s0_0 s0_1 s0_2 (l1.length : Int) t209 t210 t211 w0 _ ?side1 (bs1 HB.out (IsS57.ge HI0.out)) A3.out).mono ?_); (case side1 => exact iS HI0.out); rintro e w6 ⟨rfl, hi, hb, hk⟩; replace HK := kt HK hk; replace HB := Aside0.mk (hb); replace HI0 := Aside0.mk (hi); have p212 : 0 ≤ (t209 : Int) := od; have q212 : t209 < (l1.length : Int) := od; obtain ⟨ad212, e212, hx212_0⟩ := Kd.at_int HR1.out t209 p212 q212; cases e212; replace hx212_0 := keep_cell HK.out hx212_0 (by first | (rw [add_block]; exact hf1 _ rfl (by omega)) | exact hf1 _ rfl (by omega) | exact hf1 ad212 rfl (by omega)); replace p212 := eq_true p212; replace q212 := eq_true q212)); go_ret; exact ⟨sr, iS HI0.out, bs1 HB.out (IsS57.ge HI0.out), kb HK.out⟩
  rw [if_neg c5] at H; exact absurd H (by simp)
 rw [if_neg c4] at H; exact absurd H (by simp)
/-! ### spec_ahAll: function 91 -/
mutual
def spec_ahAll.l0 : Nat → Int → Int → List (List Int) → Int → Option ((List (List Int)))
 | 0, _, _, _, _ => none
 | k + 1, x0, x1, x5, x6 => if x6 < x0 then ((spec_ahAll.f k x6 (wrap64 (x1 + 1))).bind fun t216 => (spec_ahAll.l1 k x0 x1 x5 x6 t216 (t216.length : Int) 0)) else (some x5)
def spec_ahAll.l1 : Nat → Int → Int → List (List Int) → Int → List (List Int) → Int → Int → Option ((List (List Int)))
 | 0, _, _, _, _, _, _, _ => none
 | k + 1, x0, x1, x5, x6, x23, x24, x25 => if x25 < x24 then (if 0 ≤ x25 then (if x25 < (x23.length : Int) then ((spec_ahAll.f k (wrap64 ((wrap64 (x0 - 1)) - x6)) (wrap64 ((wrap64 (x1 + (wrap64 (2 * x6)))) + 2))).bind fun t220 => (spec_ahAll.l2 k x0 x1 x5 x6 (rd_L1 x23 x25) x23 x24 x25 t220 (t220.length : Int) 0)) else (none)) else (none)) else (spec_ahAll.l0 k x0 x1 x5 (wrap64 (x6 + 1)))
def spec_ahAll.l2 : Nat → Int → Int → List (List Int) → Int → List Int → List (List Int) → Int → Int → List (List Int) → Int → Int → Option ((List (List Int)))
 | 0, _, _, _, _, _, _, _, _, _, _, _ => none
 | k + 1, x0, x1, x5, x6, x8, x23, x24, x25, x38, x39, x40 => if x40 < x39 then (if 0 ≤ x40 then (if x40 < (x38.length : Int) then ((some (([wrap64 ((wrap64 (x1 + (wrap64 (2 * x6)))) + 1)] : List Int) : List Int)).bind fun y224 => (if y224.length + x8.length < 17592186044416 then ((some (y224 ++ x8 : List Int)).bind fun y227 => (if y227.length < 17592186044416 then ((some (y227 ++ [x1] : List Int)).bind fun y230 => (if y230.length + (rd_L1 x38 x40).length < 17592186044416 then (if x5.length < 5864062014805 then (spec_ahAll.l2 k x0 x1 (x5 ++ [(y230 ++ (rd_L1 x38 x40))]) x6 x8 x23 x24 x25 x38 x39 (wrap64 (x40 + 1))) else (none)) else (none))) else (none))) else (none))) else (none)) else (none)) else (spec_ahAll.l1 k x0 x1 x5 x6 x23 x24 (wrap64 (x25 + 1)))
def spec_ahAll.f : Nat → Int → Int → Option ((List (List Int)))
 | 0, _, _ => none
 | k + 1, a0, a1 => if a0 = 0 then (some (([[]] : List (List Int)))) else (spec_ahAll.l0 k a0 a1 ([] : List (List Int)) 0)
end
theorem spec_ahAll.mono_l : ∀ k, (∀ y0 y1, LeO (spec_ahAll.f k y0 y1) (spec_ahAll.f (k + 1) y0 y1)) ∧ (∀ y0 y1 y2 y3, LeO (spec_ahAll.l0 k y0 y1 y2 y3) (spec_ahAll.l0 (k + 1) y0 y1 y2 y3)) ∧ (∀ y0 y1 y2 y3 y4 y5 y6, LeO (spec_ahAll.l1 k y0 y1 y2 y3 y4 y5 y6) (spec_ahAll.l1 (k + 1) y0 y1 y2 y3 y4 y5 y6)) ∧ (∀ y0 y1 y2 y3 y4 y5 y6 y7 y8 y9 y10, LeO (spec_ahAll.l2 k y0 y1 y2 y3 y4 y5 y6 y7 y8 y9 y10) (spec_ahAll.l2 (k + 1) y0 y1 y2 y3 y4 y5 y6 y7 y8 y9 y10))
 | 0 => ⟨fun _ _ r h => by simp [spec_ahAll.f] at h, fun _ _ _ _ r h => by simp [spec_ahAll.l0] at h, fun _ _ _ _ _ _ _ r h => by simp [spec_ahAll.l1] at h, fun _ _ _ _ _ _ _ _ _ _ _ r h => by simp [spec_ahAll.l2] at h⟩
 | k + 1 => by
  obtain ⟨ih0, ih1, ih2, ih3⟩ := spec_ahAll.mono_l k
  refine ⟨?_, ?_, ?_, ?_⟩
  ·intro y0 y1
   unfold spec_ahAll.f
   repeat' first
   | (with_reducible exact ih0 _ _)
   | (with_reducible exact ih1 _ _ _ _)
   | (with_reducible exact ih2 _ _ _ _ _ _ _)
   | (with_reducible exact ih3 _ _ _ _ _ _ _ _ _ _ _)
   | (with_reducible exact LeO.refl _)
   | (with_reducible exact LeO.none _)
   | (with_reducible refine LeO.ite ?_ ?_)
   | (with_reducible refine LeO.bind ?_ (fun _ => ?_))
   | exact ih0 _ _
   | exact ih1 _ _ _ _
   | exact ih2 _ _ _ _ _ _ _
   | exact ih3 _ _ _ _ _ _ _ _ _ _ _
   | exact LeO.none _
   | refine LeO.ite ?_ ?_
   | refine LeO.bind ?_ (fun _ => ?_)
  ·intro y0 y1 y2 y3
   unfold spec_ahAll.l0
   repeat' first
   | (with_reducible exact ih0 _ _)
   | (with_reducible exact ih1 _ _ _ _)
   | (with_reducible exact ih2 _ _ _ _ _ _ _)
   | (with_reducible exact ih3 _ _ _ _ _ _ _ _ _ _ _)
   | (with_reducible exact LeO.refl _)
   | (with_reducible exact LeO.none _)
   | (with_reducible refine LeO.ite ?_ ?_)
   | (with_reducible refine LeO.bind ?_ (fun _ => ?_))
   | exact ih0 _ _
   | exact ih1 _ _ _ _
   | exact ih2 _ _ _ _ _ _ _
   | exact ih3 _ _ _ _ _ _ _ _ _ _ _
   | exact LeO.none _
   | refine LeO.ite ?_ ?_
   | refine LeO.bind ?_ (fun _ => ?_)
  ·intro y0 y1 y2 y3 y4 y5 y6
   unfold spec_ahAll.l1
   repeat' first
   | (with_reducible exact ih0 _ _)
   | (with_reducible exact ih1 _ _ _ _)
   | (with_reducible exact ih2 _ _ _ _ _ _ _)
   | (with_reducible exact ih3 _ _ _ _ _ _ _ _ _ _ _)
   | (with_reducible exact LeO.refl _)
   | (with_reducible exact LeO.none _)
   | (with_reducible refine LeO.ite ?_ ?_)
   | (with_reducible refine LeO.bind ?_ (fun _ => ?_))
   | exact ih0 _ _
   | exact ih1 _ _ _ _
   | exact ih2 _ _ _ _ _ _ _
   | exact ih3 _ _ _ _ _ _ _ _ _ _ _
   | exact LeO.none _
   | refine LeO.ite ?_ ?_
   | refine LeO.bind ?_ (fun _ => ?_)
  ·intro y0 y1 y2 y3 y4 y5 y6 y7 y8 y9 y10
   unfold spec_ahAll.l2
   repeat' first
   | (with_reducible exact ih0 _ _)
   | (with_reducible exact ih1 _ _ _ _)
   | (with_reducible exact ih2 _ _ _ _ _ _ _)
   | (with_reducible exact ih3 _ _ _ _ _ _ _ _ _ _ _)
   | (with_reducible exact LeO.refl _)
   | (with_reducible exact LeO.none _)
   | (with_reducible refine LeO.ite ?_ ?_)
   | (with_reducible refine LeO.bind ?_ (fun _ => ?_))
   | exact ih0 _ _
   | exact ih1 _ _ _ _
   | exact ih2 _ _ _ _ _ _ _
   | exact ih3 _ _ _ _ _ _ _ _ _ _ _
   | exact LeO.none _
   | refine LeO.ite ?_ ?_
   | refine LeO.bind ?_ (fun _ => ?_)
theorem spec_ahAll.mono : ∀ a0 a1 k, LeO (spec_ahAll.f k a0 a1) (spec_ahAll.f (k + 1) a0 a1) := by
 intro a0 a1 k; obtain ⟨ih0, ih1, ih2, ih3⟩ := spec_ahAll.mono_l k; exact ih0 a0 a1
theorem spec_ahAll.calls (k : Nat) : ∀ (a0 : Int) (a1 : Int) (r : List (List Int)) (w : World) (h : spec_ahAll.f k a0 a1 = some r),
  Calls Try.prog 91 #[.int .i64 a0, .int .i64 a1] w fun e w' => ∃ v0_ : Value, e = .returned (v0_) ∧ Kd.S (Kd.slice 3 (Kd.int .i64)) 35 w' w.heap.size (fun _ => True) v0_ r ∧ Below w.heap.size w w' := by
 induction k using Nat.strongRecOn with
 | _ k ih =>
 intro a0 a1 r w h
 cases k with
 | zero => exact absurd h (by simp [spec_ahAll.f])
 | succ k =>
 simp only [spec_ahAll.f] at h; have HB := Aside0.mk (Below.refl w.heap.size w); have H : (if a0 = 0 then (some (([[]] : List (List Int)))) else (spec_ahAll.l0 k a0 a1 ([] : List (List Int)) 0)) = some r := h; clear h
 by_cases c3 : a0 = 0
 ·rw [if_pos c3] at H; have c3b0 := beq_iff_eq.mpr c3; have c3b1 := bne_eq_false_iff_eq.mpr c3; clear c3; obtain ⟨y213, hy213⟩ := yy (([[]] : List (List Int)))
  (try rw [Option.bind_some] at H); (try dsimp only at H); rw [← hy213] at H
  have Ny213 := Aside0.mk hy213; clear hy213; obtain rfl := Option.some.inj H; go_enter Try.func91, Try.ntmps91; go_wp2_with (first | ((with_reducible refine gate_dst (N := 14) rfl ?_); refine Kd.S_lit (Kd.slice 3 (Kd.int .i64)) _ 35 ?hg (N := 14) ?hd (xs := ([[]] : List (List Int))) (inner := [.slice none 0 0]) (ok := fun _ => True) (okp := fun _ => True) ?hr ?hp (fun _ hk => hk) trivial (Below.refl _ _) (Nat.le_refl _) (by simp) ?_; (case hd => rfl); (case hg => rfl); (case hr => first | (go_simp; done) | (go_simp; rfl)); (case hp => exact (Reps.one (show Kd.M (Kd.slice 3 (Kd.int .i64)) _ _ _ [] [.slice none 0 0] from ⟨_, rfl, Kd.R_nil _ _ _ _ _⟩) (Reps.none _ _))); intro v214 w4 ho5 hb hg_ hnew_; clear hg_ hnew_; (first | rw [← Ny213.out] at ho5 | (simp only [Int.reduceToNat] at ho5; rw [← Ny213.out] at ho5)); have HO215 := Aside0.mk (Kd.S_lower ho5 (below_size (by repeat (first | (with_reducible first | exact HB.out | apply below_alloc | apply pw_below_drewN | apply below_drew1) | exact HB.out)))); replace HB := Aside0.mk (below_step (by repeat (first | (with_reducible first | exact HB.out | apply below_alloc | apply pw_below_drewN | apply below_drew1) | exact HB.out)) hb); clear hb ho5)); go_ret; exact ⟨_, sr, rS HO215.out, by repeat (first | (with_reducible first | exact HB.out | apply below_alloc | apply pw_below_drewN | apply below_drew1) | exact HB.out)⟩
 rw [if_neg c3] at H; have c3b0 := beq_eq_false_iff_ne.mpr c3; have c3b1 := bne_iff_ne.mpr c3; have H' := Aside0.mk H; clear H; go_enter Try.func91, Try.ntmps91; go_wp2
 go_loopg [5, 6] k (fun kq v5 v6 w' => ∃ (x5_1 : List (List Int)) (x6_1 : Int), v6 = .int .i64 x6_1 ∧ Aside0 (spec_ahAll.l0 kq a0 a1 x5_1 x6_1 = some r) ∧ Aside0 (kq ≤ k) ∧ Aside0 (Kd.S (Kd.slice 3 (Kd.int .i64)) 35 w' w.heap.size (fun _ => True) v5 x5_1) ∧ Aside0 (Below w.heap.size w w'))
 case atStart => exact ⟨(([] : List (List Int))), (0), (sr2), H', ⟨Nat.le_refl _⟩, ⟨by first | exact Kd.S_nil _ _ _ _ _ | exact Kd.N_nil _ _ _ _ _ | exact Kd.V_nil _ _ _ _ _ | exact Kd.Q_nil _ _ _ _ _ | exact Kd.R_nil _ _ _ _ _⟩, ⟨by repeat (first | (with_reducible first | exact HB.out | apply below_alloc | apply pw_below_drewN | apply below_drew1) | exact HB.out)⟩⟩
 case round =>
  clear H'; (try clear p2); (try clear c3); (try clear c3b0); (try clear c3b1); obtain ⟨x5_1, x6_1, rfl, HA, HK1, HO_5, HB⟩ := hrel
  cases gk with
  | zero => exact absurd HA.out (by simp [spec_ahAll.l0])
  | succ k1 =>
   have H := HA.out; clear HA; simp only [spec_ahAll.l0] at H
   by_cases c6 : x6_1 < a0
   ·rw [if_pos c6] at H; have c6b0 := decide_eq_true c6; clear c6; obtain ⟨t216, A7, H⟩ := bi H; (try dsimp only at H); have H' := Aside0.mk H; clear H; go_wp2_with (first | ((with_reducible refine gate_callee (f := 91) rfl ?_); refine goesL_ (some 23) rfl rfl Try.func91 (by kernel_rfl) rfl #[.int .i64 x6_1, .int .i64 (wrap64 (a1 + 1))] rfl mp ?_; (with_reducible refine (ih k1 (by have := HK1.out; omega) x6_1 (wrap64 (a1 + 1)) t216 _ A7.out).mono ?_); rintro e w8 ⟨v217, rfl, ho0, hb⟩; refine ⟨_, rfl, ?_⟩; have HO218 := Aside0.mk (Kd.S_lower (Kd.S_new' ho0 (Kd.S_lt (rS HO_5.out))) (below_size (by repeat (first | (with_reducible first | exact HB.out | apply below_alloc | apply pw_below_drewN | apply below_drew1) | exact HB.out)))); replace HO_5 := Aside0.mk (Kd.S_elder' (rS HO_5.out) (Kd.S_base ho0) hb); replace HB := Aside0.mk (below_step (by repeat (first | (with_reducible first | exact HB.out | apply below_alloc | apply pw_below_drewN | apply below_drew1) | exact HB.out)) hb); (try clear hb); (try clear hb2); (try clear hk); (try clear hi); (try clear ho0); obtain ⟨Ao9, co9, eo9⟩ := Kd.S_slice HO218.out; subst eo9))
    go_loopg [5, 25] k1 (fun kq v5 v25 w' => ∃ (x5_2 : List (List Int)) (x25_2 : Int), v25 = .int .i64 x25_2 ∧ Aside0 (spec_ahAll.l1 kq a0 a1 x5_2 x6_1 t216 (t216.length : Int) x25_2 = some r) ∧ Aside0 (kq ≤ k1) ∧ Aside0 (Kd.S (Kd.slice 3 (Kd.int .i64)) 35 w' w.heap.size (fun k_ => some k_ ≠ ((.slice Ao9 t216.length co9) : Value).ownBlock) v5 x5_2) ∧ Aside0 (Kd.S (Kd.slice 3 (Kd.int .i64)) 35 w' w.heap.size (fun k_ => some k_ ≠ (v5 : Value).ownBlock) (.slice Ao9 t216.length co9) t216) ∧ Aside0 (Below w.heap.size w w'))
    case atStart => exact ⟨(x5_1), (0), (sr2), H', ⟨Nat.le_refl _⟩, ⟨rS (Kd.S_mono HO_5.out (fun _ hk => hk.2))⟩, ⟨rS (Kd.S_mono HO218.out (fun _ hk => hk.2))⟩, ⟨by repeat (first | (with_reducible first | exact HB.out | apply below_alloc | apply pw_below_drewN | apply below_drew1) | exact HB.out)⟩⟩
    case round =>
     clear H'; (try clear p2); (try clear c3); (try clear c3b0); (try clear c3b1); (try clear c6); (try clear c6b0); (try clear p6); (try clear c9); (try clear p2); obtain ⟨x5_2, x25_2, rfl, HA, HK2, HO_5, HO_23, HB⟩ := hrel
     cases gk with
     | zero => exact absurd HA.out (by simp [spec_ahAll.l1])
     | succ k2 =>
      have H := HA.out; clear HA; simp only [spec_ahAll.l1] at H
      by_cases c10 : x25_2 < (t216.length : Int)
      ·rw [if_pos c10] at H; have c10b0 := decide_eq_true c10; clear c10
       by_cases c11 : 0 ≤ x25_2
       ·rw [if_pos c11] at H; have c11b0 := decide_eq_true c11; clear c11
        by_cases c12 : x25_2 < (t216.length : Int)
        ·rw [if_pos c12] at H; have c12b0 := decide_eq_true c12; clear c12; obtain ⟨t220, A13, H⟩ := bi H; (try dsimp only at H); have H' := Aside0.mk H; clear H; have p219 : 0 ≤ (x25_2 : Int) := od; have q219 : x25_2 < (t216.length : Int) := od; obtain ⟨ad219, A219_0, c219_0, e219, hx219_0, hl219_0, hi219_0⟩ := at_L1 (Kd.S_reads' HO_23.out).2.2 x25_2 p219 q219; cases e219; obtain ⟨ce219, hce219, hMe219, hcc219⟩ := Kd.S_get HO_23.out [] x25_2 p219 (by first | exact q219 | exact od | (have e_ := (Kd.S_reads' HO_23.out).1; omega)); obtain ⟨ve219_0, rfl, ge219_0⟩ := hMe219; have hv219_0 := hcc219 0 _ rfl; rw [Nat.add_zero, show ((Kd.slice 3 (Kd.int .i64))).sz = 1 from rfl, Nat.mul_one] at hv219_0; replace hv219_0 := Option.some.inj (hv219_0.symm.trans hx219_0); rw [hv219_0] at ge219_0; have HL219_0 := Aside0.mk (show Kd.R (Kd.int .i64) 3 _ _ _ _ (rd_L1 t216 x25_2) from ge219_0); clear hv219_0 ge219_0; clear hcc219 hce219; have HR219_0 := Aside0.mk hi219_0; have HC219_0 := Aside0.mk hl219_0; clear hi219_0 hl219_0; replace p219 := eq_true p219; replace q219 := eq_true q219; go_wp2_with (first | ((with_reducible refine gate_callee (f := 91) rfl ?_); refine goesL_ (some 38) rfl rfl Try.func91 (by kernel_rfl) rfl #[.int .i64 (wrap64 ((wrap64 (a0 - 1)) - x6_1)), .int .i64 (wrap64 ((wrap64 (a1 + (wrap64 (2 * x6_1)))) + 2))] rfl mp ?_; (with_reducible refine (ih k2 (by have := HK1.out; have := HK2.out; omega) (wrap64 ((wrap64 (a0 - 1)) - x6_1)) (wrap64 ((wrap64 (a1 + (wrap64 (2 * x6_1)))) + 2)) t220 _ A13.out).mono ?_); rintro e w14 ⟨v221, rfl, ho0, hb⟩; refine ⟨_, rfl, ?_⟩; have HO222 := Aside0.mk (Kd.S_lower (Kd.S_new' (Kd.S_new' (Kd.S_new' ho0 (Kd.S_lt (rS HO_5.out))) (Kd.S_lt (rS HO_23.out))) (Kd.R_lt (rR HL219_0.out))) (below_size (by repeat (first | (with_reducible first | exact HB.out | apply below_alloc | apply pw_below_drewN | apply below_drew1) | exact HB.out)))); replace HO_5 := Aside0.mk (Kd.S_elder' (rS HO_5.out) (Kd.S_base ho0) hb); replace HO_23 := Aside0.mk (Kd.S_elder' (rS HO_23.out) (Kd.S_base ho0) hb); replace HL219_0 := Aside0.mk (Kd.R_below (rR HL219_0.out) hb); replace HR219_0 := Aside0.mk (Kd.C_below (by repeat (first | (with_reducible exact HR219_0.out) | (with_reducible refine Kd.C_alloc ?_ _) | (with_reducible refine Kd.C_drewN ?_ _) | (with_reducible refine Kd.C_drew ?_) | exact HR219_0.out)) hb); replace HB := Aside0.mk (below_step (by repeat (first | (with_reducible first | exact HB.out | apply below_alloc | apply pw_below_drewN | apply below_drew1) | exact HB.out)) hb); (try clear hb); (try clear hb2); (try clear hk); (try clear hi); (try clear ho0); obtain ⟨Ao15, co15, eo15⟩ := Kd.S_slice HO222.out; subst eo15))
         go_loopg [5, 40] k2 (fun kq v5 v40 w' => ∃ (x5_3 : List (List Int)) (x40_3 : Int), v40 = .int .i64 x40_3 ∧ Aside0 (spec_ahAll.l2 kq a0 a1 x5_3 x6_1 (rd_L1 t216 x25_2) t216 (t216.length : Int) x25_2 t220 (t220.length : Int) x40_3 = some r) ∧ Aside0 (kq ≤ k2) ∧ Aside0 (Kd.S (Kd.slice 3 (Kd.int .i64)) 35 w' w.heap.size (fun k_ => some k_ ≠ ((.slice (some ad219) t216.length co9) : Value).ownBlock ∧ some k_ ≠ ((.slice Ao15 t220.length co15) : Value).ownBlock) v5 x5_3) ∧ Aside0 (Kd.R (Kd.int .i64) 3 w' w.heap.size (fun _ => True) (.slice A219_0 (rd_L1 t216 x25_2).length c219_0) (rd_L1 t216 x25_2)) ∧ Aside0 (Kd.S (Kd.slice 3 (Kd.int .i64)) 35 w' w.heap.size (fun k_ => some k_ ≠ (v5 : Value).ownBlock ∧ some k_ ≠ ((.slice Ao15 t220.length co15) : Value).ownBlock) (.slice (some ad219) t216.length co9) t216) ∧ Aside0 (Kd.S (Kd.slice 3 (Kd.int .i64)) 35 w' w.heap.size (fun k_ => some k_ ≠ (v5 : Value).ownBlock ∧ some k_ ≠ ((.slice (some ad219) t216.length co9) : Value).ownBlock) (.slice Ao15 t220.length co15) t220) ∧ Aside0 (Below w.heap.size w w'))
         case atStart => exact ⟨(x5_2), (0), (sr2), H', ⟨Nat.le_refl _⟩, ⟨rS HO_5.out⟩, ⟨rR (Kd.R_mono HL219_0.out (fun _ hk => trivial))⟩, ⟨rS HO_23.out⟩, ⟨rS (Kd.S_mono HO222.out (fun _ hk => ⟨hk.1.1.2, hk.1.2⟩))⟩, ⟨by repeat (first | (with_reducible first | exact HB.out | apply below_alloc | apply pw_below_drewN | apply below_drew1) | exact HB.out)⟩⟩
         case round =>
          clear H'; (try clear c1); (try clear c2); (try clear p2); (try clear q2); (try clear hx2); (try clear c3); (try clear c3b0); (try clear c3b1); (try clear c6); (try clear c6b0); (try clear p6); (try clear c9); (try clear c10); (try clear c10b0); (try clear c11); (try clear c11b0); (try clear c12); (try clear c12b0); (try clear hx219_0); (try clear p2); (try clear p219); (try clear p6); (try clear q219); obtain ⟨x5_3, x40_3, rfl, HA, HK3, HO_5, HO_8, HO_23, HO_38, HB⟩ := hrel
          cases gk with
          | zero => exact absurd HA.out (by simp [spec_ahAll.l2])
          | succ k3 =>
           have H := HA.out; clear HA; simp only [spec_ahAll.l2] at H
           by_cases c16 : x40_3 < (t220.length : Int)
           ·rw [if_pos c16] at H; have c16b0 := decide_eq_true c16; clear c16
            by_cases c17 : 0 ≤ x40_3
            ·rw [if_pos c17] at H; have c17b0 := decide_eq_true c17; clear c17
             by_cases c18 : x40_3 < (t220.length : Int)
             ·rw [if_pos c18] at H; have c18b0 := decide_eq_true c18; clear c18; obtain ⟨y224, hy224⟩ := yy (([wrap64 ((wrap64 (a1 + (wrap64 (2 * x6_1)))) + 1)] : List Int))
              (try rw [Option.bind_some] at H); (try dsimp only at H); rw [← hy224] at H
              have Ny224 := Aside0.mk hy224; clear hy224
              by_cases c19 : y224.length + (rd_L1 t216 x25_2).length < 17592186044416
              ·rw [if_pos c19] at H; have LMc19 := Aside0.mk c19; clear c19; obtain ⟨y227, hy227⟩ := yy (y224 ++ (rd_L1 t216 x25_2))
               (try rw [Option.bind_some] at H); (try dsimp only at H); rw [← hy227] at H
               have Ny227 := Aside0.mk hy227; clear hy227
               by_cases c20 : y227.length < 17592186044416
               ·rw [if_pos c20] at H; have LMc20 := Aside0.mk c20; clear c20; obtain ⟨y230, hy230⟩ := yy (y227 ++ [a1])
                (try rw [Option.bind_some] at H); (try dsimp only at H); rw [← hy230] at H
                have Ny230 := Aside0.mk hy230; clear hy230
                by_cases c21 : y230.length + (rd_L1 t220 x40_3).length < 17592186044416
                ·rw [if_pos c21] at H; have LMc21 := Aside0.mk c21; clear c21; obtain ⟨y233, hy233⟩ := yy (y230 ++ (rd_L1 t220 x40_3))
                 (try rw [Option.bind_some] at H); (try dsimp only at H); rw [← hy233] at H
                 have Ny233 := Aside0.mk hy233; clear hy233
                 by_cases c22 : x5_3.length < 5864062014805
                 ·rw [if_pos c22] at H; have LMc22 := Aside0.mk c22; clear c22; obtain ⟨y236, hy236⟩ := yy (x5_3 ++ [y233])
                  (try rw [Option.bind_some] at H); (try dsimp only at H); rw [← hy236] at H
                  have Ny236 := Aside0.mk hy236; clear hy236; have H' := Aside0.mk H; clear H; have p223 : 0 ≤ (x40_3 : Int) := od; have q223 : x40_3 < (t220.length : Int) := od; obtain ⟨ad223, A223_0, c223_0, e223, hx223_0, hl223_0, hi223_0⟩ := at_L1 (Kd.S_reads' HO_38.out).2.2 x40_3 p223 q223; cases e223; obtain ⟨ce223, hce223, hMe223, hcc223⟩ := Kd.S_get HO_38.out [] x40_3 p223 (by first | exact q223 | exact od | (have e_ := (Kd.S_reads' HO_38.out).1; omega)); obtain ⟨ve223_0, rfl, ge223_0⟩ := hMe223; have hv223_0 := hcc223 0 _ rfl; rw [Nat.add_zero, show ((Kd.slice 3 (Kd.int .i64))).sz = 1 from rfl, Nat.mul_one] at hv223_0; replace hv223_0 := Option.some.inj (hv223_0.symm.trans hx223_0); rw [hv223_0] at ge223_0; have HL223_0 := Aside0.mk (show Kd.R (Kd.int .i64) 3 _ _ _ _ (rd_L1 t220 x40_3) from ge223_0); clear hv223_0 ge223_0; clear hcc223 hce223; have HR223_0 := Aside0.mk hi223_0; have HC223_0 := Aside0.mk hl223_0; clear hi223_0 hl223_0; replace p223 := eq_true p223; replace q223 := eq_true q223; go_wp2_with (first | ((with_reducible refine gate_dst (N := 49) rfl ?_); refine Kd.R_lit (Kd.int .i64) _ 3 ?hg (N := 49) ?hd (xs := ([wrap64 ((wrap64 (a1 + (wrap64 (2 * x6_1)))) + 1)] : List Int)) (inner := [.int .i64 (wrap64 ((wrap64 (a1 + (wrap64 (2 * x6_1)))) + 1))]) (ok := fun _ => True) (okp := fun _ => True) ?hr ?hp (fun _ hk => hk) trivial (Below.refl _ _) (Nat.le_refl _) (by simp) ?_; (case hd => rfl); (case hg => rfl); (case hr => first | (go_simp; done) | (go_simp; rfl)); (case hp => exact (Reps.one (show Kd.M (Kd.int .i64) _ _ _ (wrap64 ((wrap64 (a1 + (wrap64 (2 * x6_1)))) + 1)) [.int .i64 (wrap64 ((wrap64 (a1 + (wrap64 (2 * x6_1)))) + 1))] from rfl) (Reps.none _ _))); intro v225 w23 ho24 hb hg_ hnew_; clear hg_ hnew_; (first | rw [← Ny224.out] at ho24 | (simp only [Int.reduceToNat] at ho24; rw [← Ny224.out] at ho24)); replace HO_5 := Aside0.mk (Kd.S_elder' (rS HO_5.out) (Kd.R_base ho24) hb); replace HO_23 := Aside0.mk (Kd.S_elder' (rS HO_23.out) (Kd.R_base ho24) hb); replace HO_38 := Aside0.mk (Kd.S_elder' (rS HO_38.out) (Kd.R_base ho24) hb); have HO226 := Aside0.mk (Kd.R_lower (Kd.R_new' (Kd.R_new' ho24 (Kd.R_lt (rR HO_8.out))) (Kd.R_lt (rR HL223_0.out))) (below_size (by repeat (first | (with_reducible first | exact HB.out | apply below_alloc | apply pw_below_drewN | apply below_drew1) | exact HB.out)))); replace HO_8 := Aside0.mk (Kd.R_elder' (rR HO_8.out) (Kd.R_base ho24) hb); replace HL223_0 := Aside0.mk (Kd.R_elder' (rR HL223_0.out) (Kd.R_base ho24) hb); replace HR223_0 := Aside0.mk (Kd.C_below (by repeat (first | (with_reducible exact HR223_0.out) | (with_reducible refine Kd.C_alloc ?_ _) | (with_reducible refine Kd.C_drewN ?_ _) | (with_reducible refine Kd.C_drew ?_) | exact HR223_0.out)) hb); replace HB := Aside0.mk (below_step (by repeat (first | (with_reducible first | exact HB.out | apply below_alloc | apply pw_below_drewN | apply below_drew1) | exact HB.out)) hb); clear hb ho24) | ((with_reducible refine gate_builtin (b := .append) (xs := #[.tmp 49, .tmp 50]) rfl ?_); at_builtin; refine Kd.R_append_rows (Kd.int .i64) (w0 := w) w.heap.size rfl (.tmp 49) (.tmp 50) 35 3 (.int .i64 0) 8 rfl Try.underlying35 info3 rfl (by decide) (by omega) v225 y224 (rd_L1 t216 x25_2) _ _ _ (fun k_ => some k_ ≠ (.slice A219_0 (rd_L1 t216 x25_2).length c219_0 : Value).ownBlock ∧ some k_ ≠ (.slice A223_0 (rd_L1 t220 x40_3).length c223_0 : Value).ownBlock) (fun _ => False) rfl rfl ?aO ?aR (fun _ _ h => h) (fun _ h => h.elim) ?aF ?aB ?aS ?aL ?_; (case aR => repeat (first | exact (Kd.R_reads' HO_8.out).2.2 | (with_reducible refine Kd.C_alloc ?_ _) | (with_reducible refine Kd.C_drewN ?_ _) | (with_reducible refine Kd.C_drew ?_))); (case aB => exact (by repeat (first | (with_reducible first | exact HB.out | apply below_alloc | apply pw_below_drewN | apply below_drew1) | exact HB.out))); (case aF => exact (fun k_ hk => ⟨Kd.fresh' (Kd.R_lt (rR HO_8.out)) k_ hk, Kd.fresh' (Kd.R_lt (rR HL223_0.out)) k_ hk⟩)); (case aO => exact (rR (Kd.R_mono HO226.out (fun _ hk => ⟨hk.1.2, hk.2⟩)))); (case aS => exact (below_size (by repeat (first | (with_reducible first | exact HB.out | apply below_alloc | apply pw_below_drewN | apply below_drew1) | exact HB.out)))); (case aL => have := LMc19.out; omega); intro v228 w25 ho hb hg hat; rw [← Ny227.out] at ho; replace HO_5 := Aside0.mk (Kd.S_after (ok := (fun k_ => some k_ ≠ (.slice (some ad219) t216.length co9 : Value).ownBlock ∧ some k_ ≠ (.slice (some ad223) t220.length co15 : Value).ownBlock)) (rS HO_5.out) hg hat); replace HO_8 := Aside0.mk (Kd.R_after (ok := (fun _ => True)) (rR HO_8.out) hg hat); replace HO_23 := Aside0.mk (Kd.S_after (ok := (fun k_ => some k_ ≠ (u5 : Value).ownBlock ∧ some k_ ≠ (.slice (some ad223) t220.length co15 : Value).ownBlock)) (rS HO_23.out) hg hat); replace HO_38 := Aside0.mk (Kd.S_after (ok := (fun k_ => some k_ ≠ (u5 : Value).ownBlock ∧ some k_ ≠ (.slice (some ad219) t216.length co9 : Value).ownBlock)) (rS HO_38.out) hg hat); replace HL223_0 := Aside0.mk (Kd.R_after (ok := (fun k_ => some k_ ≠ (u5 : Value).ownBlock ∧ some k_ ≠ (.slice (some ad219) t216.length co9 : Value).ownBlock ∧ some k_ ≠ (.slice (some ad223) t220.length co15 : Value).ownBlock)) (rR (Kd.R_mono HL223_0.out (fun _ hk => ⟨⟨hk.1.1.1, ⟨hk.1.1.2, hk.1.2⟩⟩, hk.2⟩))) hg hat); replace HB := Aside0.mk (hb); have HO229 := Aside0.mk (ho); clear HO226; clear ho hb hg hat) | ((with_reducible refine gate_builtin (b := .append) (xs := #[.tmp 52, .tmp 54]) rfl ?_); at_builtin; refine Kd.R_append (Kd.int .i64) (w0 := w) w.heap.size rfl (.tmp 52) (.tmp 54) 35 3 (.int .i64 0) 8 rfl Try.underlying35 info3 rfl (by decide) (by omega) v228 y227 a1 [.int .i64 a1] (fun k_ => some k_ ≠ (.slice A219_0 (rd_L1 t216 x25_2).length c219_0 : Value).ownBlock ∧ some k_ ≠ (.slice A223_0 (rd_L1 t220 x40_3).length c223_0 : Value).ownBlock) (fun _ => False) rfl rfl ?aP (fun _ hk => hk.elim) ?aF ?aO ?aB ?aS ?aL ?_; (case aP => exact rfl); (case aB => exact (by repeat (first | (with_reducible first | exact HB.out | apply below_alloc | apply pw_below_drewN | apply below_drew1) | exact HB.out))); (case aF => exact (fun k_ hk => ⟨Kd.fresh' (Kd.R_lt (rR HO_8.out)) k_ hk, Kd.fresh' (Kd.R_lt (rR HL223_0.out)) k_ hk⟩)); (case aO => exact (rR HO229.out)); (case aS => exact (below_size (by repeat (first | (with_reducible first | exact HB.out | apply below_alloc | apply pw_below_drewN | apply below_drew1) | exact HB.out)))); (case aL => have := LMc20.out; omega); intro v231 w26 ho hb hg hat; rw [← Ny230.out] at ho; replace HO_5 := Aside0.mk (Kd.S_after (ok := (fun k_ => some k_ ≠ (.slice (some ad219) t216.length co9 : Value).ownBlock ∧ some k_ ≠ (.slice (some ad223) t220.length co15 : Value).ownBlock)) (rS HO_5.out) hg hat); replace HO_8 := Aside0.mk (Kd.R_after (ok := (fun _ => True)) (rR HO_8.out) hg hat); replace HO_23 := Aside0.mk (Kd.S_after (ok := (fun k_ => some k_ ≠ (u5 : Value).ownBlock ∧ some k_ ≠ (.slice (some ad223) t220.length co15 : Value).ownBlock)) (rS HO_23.out) hg hat); replace HO_38 := Aside0.mk (Kd.S_after (ok := (fun k_ => some k_ ≠ (u5 : Value).ownBlock ∧ some k_ ≠ (.slice (some ad219) t216.length co9 : Value).ownBlock)) (rS HO_38.out) hg hat); replace HL223_0 := Aside0.mk (Kd.R_after (ok := (fun k_ => some k_ ≠ (u5 : Value).ownBlock ∧ some k_ ≠ (.slice (some ad219) t216.length co9 : Value).ownBlock ∧ some k_ ≠ (.slice (some ad223) t220.length co15 : Value).ownBlock)) (rR HL223_0.out) hg hat); replace HB := Aside0.mk (hb); have HO232 := Aside0.mk (ho); clear HO229; clear ho hb hg hat) | ((with_reducible refine gate_builtin (b := .append) (xs := #[.tmp 55, .tmp 56]) rfl ?_); at_builtin; refine Kd.R_append_rows (Kd.int .i64) (w0 := w) w.heap.size rfl (.tmp 55) (.tmp 56) 35 3 (.int .i64 0) 8 rfl Try.underlying35 info3 rfl (by decide) (by omega) v231 y230 (rd_L1 t220 x40_3) _ _ _ (fun k_ => some k_ ≠ (.slice A219_0 (rd_L1 t216 x25_2).length c219_0 : Value).ownBlock ∧ some k_ ≠ (.slice A223_0 (rd_L1 t220 x40_3).length c223_0 : Value).ownBlock) (fun _ => False) rfl rfl ?aO ?aR (fun _ _ h => h) (fun _ h => h.elim) ?aF ?aB ?aS ?aL ?_; (case aR => repeat (first | exact ((Kd.R_reads' (rR HL223_0.out)).2.2) | (with_reducible refine Kd.C_alloc ?_ _) | (with_reducible refine Kd.C_drewN ?_ _) | (with_reducible refine Kd.C_drew ?_))); (case aB => exact (by repeat (first | (with_reducible first | exact HB.out | apply below_alloc | apply pw_below_drewN | apply below_drew1) | exact HB.out))); (case aF => exact (fun k_ hk => ⟨Kd.fresh' (Kd.R_lt (rR HO_8.out)) k_ hk, Kd.fresh' (Kd.R_lt (rR HL223_0.out)) k_ hk⟩)); (case aO => exact (rR HO232.out)); (case aS => exact (below_size (by repeat (first | (with_reducible first | exact HB.out | apply below_alloc | apply pw_below_drewN | apply below_drew1) | exact HB.out)))); (case aL => have := LMc21.out; omega); intro v234 w27 ho hb hg hat; rw [← Ny233.out] at ho; replace HO_5 := Aside0.mk (Kd.S_after (ok := (fun k_ => some k_ ≠ (.slice (some ad219) t216.length co9 : Value).ownBlock ∧ some k_ ≠ (.slice (some ad223) t220.length co15 : Value).ownBlock)) (rS HO_5.out) hg hat); replace HO_8 := Aside0.mk (Kd.R_after (ok := (fun _ => True)) (rR HO_8.out) hg hat); replace HO_23 := Aside0.mk (Kd.S_after (ok := (fun k_ => some k_ ≠ (u5 : Value).ownBlock ∧ some k_ ≠ (.slice (some ad223) t220.length co15 : Value).ownBlock)) (rS HO_23.out) hg hat); replace HO_38 := Aside0.mk (Kd.S_after (ok := (fun k_ => some k_ ≠ (u5 : Value).ownBlock ∧ some k_ ≠ (.slice (some ad219) t216.length co9 : Value).ownBlock)) (rS HO_38.out) hg hat); replace HL223_0 := Aside0.mk (Kd.R_after (ok := (fun k_ => some k_ ≠ (u5 : Value).ownBlock ∧ some k_ ≠ (.slice (some ad219) t216.length co9 : Value).ownBlock ∧ some k_ ≠ (.slice (some ad223) t220.length co15 : Value).ownBlock)) (rR HL223_0.out) hg hat); replace HB := Aside0.mk (hb); have HO235 := Aside0.mk (ho); clear HO232; clear ho hb hg hat; obtain ⟨Ao29, co29, eo29⟩ := Kd.R_slice HO235.out; subst eo29) | ((with_reducible refine gate_builtin (b := .append) (xs := #[.tmp 58, .tmp 60]) rfl ?_); at_builtin; refine Kd.S_append (Kd.slice 3 (Kd.int .i64)) (w0 := w) w.heap.size rfl (.tmp 58) (.tmp 60) 22 35 (.slice none 0 0) 24 rfl Try.underlying22 info35 rfl (by decide) (by omega) u5 x5_3 y233 [.slice Ao29 y233.length co29] (fun k_ => some k_ ≠ (.slice (some ad219) t216.length co9 : Value).ownBlock ∧ some k_ ≠ (.slice (some ad223) t220.length co15 : Value).ownBlock) (fun k_ => some k_ = (.slice Ao29 y233.length co29 : Value).ownBlock) rfl rfl ?aP (fun k_ hk_ => ((Kd.R_mono (ok' := fun k_ => ((fun k_ => some k_ ≠ (.slice (some ad219) t216.length co9 : Value).ownBlock ∧ some k_ ≠ (.slice (some ad223) t220.length co15 : Value).ownBlock)) k_ ∧ some k_ ≠ (u5 : Value).ownBlock) (Kd.R_apart' (Kd.R_apart' (Kd.R_apart' (HO235.out) (Kd.S_typed HO_23.out) (by decide)) (Kd.S_typed HO_38.out) (by decide)) (Kd.S_typed HO_5.out) (by decide)) (fun k_ hk => ⟨⟨hk.1.1.2, hk.1.2⟩, hk.2⟩))).1 k_ hk_.symm) ?aF ?aO ?aB ?aS ?aL ?_; (case aP => exact Kd.M_row (Kd.R_mono (Kd.R_tight rfl (Kd.R_mono (ok' := fun k_ => ((fun k_ => some k_ ≠ (.slice (some ad219) t216.length co9 : Value).ownBlock ∧ some k_ ≠ (.slice (some ad223) t220.length co15 : Value).ownBlock)) k_ ∧ some k_ ≠ (u5 : Value).ownBlock) (Kd.R_apart' (Kd.R_apart' (Kd.R_apart' (HO235.out) (Kd.S_typed HO_23.out) (by decide)) (Kd.S_typed HO_38.out) (by decide)) (Kd.S_typed HO_5.out) (by decide)) (fun k_ hk => ⟨⟨hk.1.1.2, hk.1.2⟩, hk.2⟩))) (fun _ h_ => h_))); (case aB => exact (by repeat (first | (with_reducible first | exact HB.out | apply below_alloc | apply pw_below_drewN | apply below_drew1) | exact HB.out))); (case aF => exact (fun k_ hk => ⟨Kd.fresh' (Kd.S_lt (rS HO_23.out)) k_ hk, Kd.fresh' (Kd.S_lt (rS HO_38.out)) k_ hk⟩)); (case aO => exact (rS (Kd.S_mono HO_5.out (fun k_ hk => ⟨⟨hk.1.1, hk.1.2⟩, fun e_ => hk.2 e_⟩)))); (case aS => exact (below_size (by repeat (first | (with_reducible first | exact HB.out | apply below_alloc | apply pw_below_drewN | apply below_drew1) | exact HB.out)))); (case aL => have := LMc22.out; omega); intro v237 w28 ho hb hg hat; rw [← Ny236.out] at ho; replace HO_8 := Aside0.mk (Kd.R_over' (rR HO_8.out) (Kd.S_typed (rS HO_5.out)) (by decide) hg); replace HO_23 := Aside0.mk (Kd.S_after (ok := (fun k_ => some k_ ≠ (.slice (some ad223) t220.length co15 : Value).ownBlock ∧ some k_ ≠ (.slice Ao29 y233.length co29 : Value).ownBlock)) (rS (Kd.S_mono HO_23.out (fun _ hk => ⟨⟨hk.1.2, hk.2⟩, hk.1.1⟩))) hg hat); replace HO_38 := Aside0.mk (Kd.S_after (ok := (fun k_ => some k_ ≠ (.slice (some ad219) t216.length co9 : Value).ownBlock ∧ some k_ ≠ (.slice Ao29 y233.length co29 : Value).ownBlock)) (rS (Kd.S_mono HO_38.out (fun _ hk => ⟨⟨hk.1.2, hk.2⟩, hk.1.1⟩))) hg hat); replace HL223_0 := Aside0.mk (Kd.R_after (ok := (fun k_ => some k_ ≠ (.slice (some ad219) t216.length co9 : Value).ownBlock ∧ some k_ ≠ (.slice (some ad223) t220.length co15 : Value).ownBlock ∧ some k_ ≠ (.slice Ao29 y233.length co29 : Value).ownBlock)) (rR (Kd.R_mono HL223_0.out (fun _ hk => ⟨⟨hk.1.2.1, ⟨hk.1.2.2, hk.2⟩⟩, hk.1.1⟩))) hg hat); replace HB := Aside0.mk (hb); have HO238 := Aside0.mk (ho); clear HO_5 HO235; clear ho hb hg hat))
                  go_roundg k3
                  case measure => have := HK1.out; have := HK2.out; have := HK3.out; omega
                  case rel => exact ⟨(y236), (wrap64 (x40_3 + 1)), (sr2), H', ⟨by have := HK1.out; have := HK2.out; have := HK3.out; omega⟩, ⟨rS HO238.out⟩, ⟨rR (Kd.R_mono HO_8.out (fun _ hk => trivial))⟩, ⟨rS (Kd.S_mono HO_23.out (fun _ hk => ⟨hk.2, hk.1.1⟩))⟩, ⟨rS (Kd.S_mono HO_38.out (fun _ hk => ⟨hk.2, hk.1.1⟩))⟩, ⟨by repeat (first | (with_reducible first | exact HB.out | apply below_alloc | apply pw_below_drewN | apply below_drew1) | exact HB.out)⟩⟩
                 rw [if_neg c22] at H; exact absurd H (by simp)
                rw [if_neg c21] at H; exact absurd H (by simp)
               rw [if_neg c20] at H; exact absurd H (by simp)
              rw [if_neg c19] at H; exact absurd H (by simp)
             rw [if_neg c18] at H; exact absurd H (by simp)
            rw [if_neg c17] at H; exact absurd H (by simp)
           rw [if_neg c16] at H; have c16b0 := decide_eq_false c16; clear c16; have H' := Aside0.mk H; clear H; go_wp2
           go_roundg k3
           case measure => have := HK1.out; have := HK2.out; have := HK3.out; omega
           case rel => exact ⟨(x5_3), (wrap64 (x25_2 + 1)), (sr2), H', ⟨by have := HK1.out; have := HK2.out; have := HK3.out; omega⟩, ⟨rS (Kd.S_mono HO_5.out (fun _ hk => hk.1))⟩, ⟨rS (Kd.S_mono HO_23.out (fun _ hk => hk.1))⟩, ⟨by repeat (first | (with_reducible first | exact HB.out | apply below_alloc | apply pw_below_drewN | apply below_drew1) | exact HB.out)⟩⟩
        rw [if_neg c12] at H; exact absurd H (by simp)
       rw [if_neg c11] at H; exact absurd H (by simp)
      rw [if_neg c10] at H; have c10b0 := decide_eq_false c10; clear c10; have H' := Aside0.mk H; clear H; go_wp2
      go_roundg k2
      case measure => have := HK1.out; have := HK2.out; omega
      case rel => exact ⟨(x5_2), (wrap64 (x6_1 + 1)), (sr2), H', ⟨by have := HK1.out; have := HK2.out; omega⟩, ⟨rS (Kd.S_mono HO_5.out (fun _ hk => trivial))⟩, ⟨by repeat (first | (with_reducible first | exact HB.out | apply below_alloc | apply pw_below_drewN | apply below_drew1) | exact HB.out)⟩⟩
   rw [if_neg c6] at H; have c6b0 := decide_eq_false c6; clear c6; obtain rfl := Option.some.inj H; go_wp2; go_ret; exact ⟨_, sr, rS HO_5.out, by repeat (first | (with_reducible first | exact HB.out | apply below_alloc | apply pw_below_drewN | apply below_drew1) | exact HB.out)⟩
/-! ### spec_meWay: function 109 -/
def spec_meWay.l0 : Nat → Int → List Int → Int → List Int → List Int → Option (List Int)
 | 0, _, _, _, _, _ => none
 | k + 1, x1, x5, x6, x240000, x240001 => if x6 = x1 then (some x5) else (if 0 ≤ x6 then (if x6 < (x240000.length : Int) then ((some (([x6, rd x240000 x6] : List Int) : List Int)).bind fun y247 => (if x5.length + y247.length < 17592186044416 then (if 0 ≤ (rd x240000 x6) then (if (rd x240000 x6) < (x240001.length : Int) then (spec_meWay.l0 k x1 (x5 ++ y247) (rd x240001 (rd x240000 x6)) x240000 x240001) else (none)) else (none)) else (none))) else (none)) else (none))
def spec_meWay.f (k : Nat) (l0_0 : List Int) (l0_1 : List Int) (a1 : Int) : Option (List Int) := if 0 ≤ a1 then (if a1 < (l0_0.length : Int) then (if 0 ≤ (rd l0_0 a1) then (if (rd l0_0 a1) < (l0_1.length : Int) then (spec_meWay.l0 k a1 (([a1, rd l0_0 a1] : List Int)) (rd l0_1 (rd l0_0 a1)) l0_0 l0_1) else (none)) else (none)) else (none)) else (none)
theorem spec_meWay.mono_l : ∀ k, (∀ y0 y1 y2 y3 y4, LeO (spec_meWay.l0 k y0 y1 y2 y3 y4) (spec_meWay.l0 (k + 1) y0 y1 y2 y3 y4))
 | 0 => fun _ _ _ _ _ r h => by simp [spec_meWay.l0] at h
 | k + 1 => by
  have ih0 := spec_meWay.mono_l k
  ·intro y0 y1 y2 y3 y4
   unfold spec_meWay.l0
   repeat' first
   | (with_reducible exact ih0 _ _ _ _ _)
   | (with_reducible exact LeO.refl _)
   | (with_reducible exact LeO.none _)
   | (with_reducible refine LeO.ite ?_ ?_)
   | (with_reducible refine LeO.bind ?_ (fun _ => ?_))
   | exact ih0 _ _ _ _ _
   | exact LeO.none _
   | refine LeO.ite ?_ ?_
   | refine LeO.bind ?_ (fun _ => ?_)
theorem spec_meWay.mono : ∀ a0 a1 a2 k, LeO (spec_meWay.f k a0 a1 a2) (spec_meWay.f (k + 1) a0 a1 a2) := by
 intro a0 a1 a2 k; have ih0 := spec_meWay.mono_l k; unfold spec_meWay.f
 repeat' first
   | (with_reducible exact ih0 _ _ _ _ _)
   | (with_reducible exact LeO.refl _)
   | (with_reducible exact LeO.none _)
   | (with_reducible refine LeO.ite ?_ ?_)
   | (with_reducible refine LeO.bind ?_ (fun _ => ?_))
   | exact ih0 _ _ _ _ _
   | exact LeO.none _
   | refine LeO.ite ?_ ?_
   | refine LeO.bind ?_ (fun _ => ?_)
theorem spec_meWay.calls (k : Nat) (A0_0 : Option Addr) (c0_0 : Nat) (l0_0 : List Int) (A0_1 : Option Addr) (c0_1 : Nat) (l0_1 : List Int) (a1 : Int) (r : List Int) (w : World) (hr0_0 : Kd.C (Kd.int .i64) w A0_0 l0_0.length l0_0) (hc0_0 : l0_0.length ≤ c0_0) (hr0_1 : Kd.C (Kd.int .i64) w A0_1 l0_1.length l0_1) (hc0_1 : l0_1.length ≤ c0_1) (h : spec_meWay.f k l0_0 l0_1 a1 = some r) :
  Calls Try.prog 109 #[.agg #[.slice A0_0 l0_0.length c0_0, .slice A0_1 l0_1.length c0_1], .int .i64 a1] w fun e w' => ∃ v0_ : Value, e = .returned (v0_) ∧ Kd.R (Kd.int .i64) 3 w' w.heap.size (fun _ => True) v0_ r ∧ Below w.heap.size w w' := by
 have hu71 := Try.underlying71; have HR0_0 := Aside0.mk hr0_0; have HC0_0 := Aside0.mk hc0_0; clear hr0_0 hc0_0; have HR0_1 := Aside0.mk hr0_1; have HC0_1 := Aside0.mk hc0_1; clear hr0_1 hc0_1; have HB := Aside0.mk (Below.refl w.heap.size w); have H : (if 0 ≤ a1 then (if a1 < (l0_0.length : Int) then (if 0 ≤ (rd l0_0 a1) then (if (rd l0_0 a1) < (l0_1.length : Int) then (spec_meWay.l0 k a1 (([a1, rd l0_0 a1] : List Int)) (rd l0_1 (rd l0_0 a1)) l0_0 l0_1) else (none)) else (none)) else (none)) else (none)) = some r := h; clear h
 by_cases c3 : 0 ≤ a1
 ·rw [if_pos c3] at H; have c3b0 := decide_eq_true c3; clear c3
  by_cases c4 : a1 < (l0_0.length : Int)
  ·rw [if_pos c4] at H; have c4b0 := decide_eq_true c4; clear c4; obtain ⟨y241, hy241⟩ := yy (([a1, rd l0_0 a1] : List Int))
   (try rw [Option.bind_some] at H); (try dsimp only at H); rw [← hy241] at H
   have Ny241 := Aside0.mk hy241; clear hy241
   by_cases c5 : 0 ≤ (rd l0_0 a1)
   ·rw [if_pos c5] at H; have c5b0 := decide_eq_true c5; clear c5
    by_cases c6 : (rd l0_0 a1) < (l0_1.length : Int)
    ·rw [if_pos c6] at H; have c6b0 := decide_eq_true c6; clear c6; have H' := Aside0.mk H; clear H; go_enter Try.func109, Try.ntmps109; go_wp2_with (first | ((with_reducible refine gate_dst (N := 2) rfl ?_); refine box_event ?hg (N := 2) ?hd (cs := #[.slice A0_0 l0_0.length c0_0, .slice A0_1 l0_1.length c0_1]) (t := 71) ?hr ?_; (case hd => rfl); (case hg => rfl); (case hr => first | (go_simp; done) | (go_simp; rfl)); intro gb239 hg w7 hbox hb; have BK239 := Aside0.mk (hbox); have GW239 := Aside0.mk ((by rw [hg]; exact (below_size (bl HB.out)) : w.heap.size ≤ gb239)); have GE239 := Aside0.mk ((by rw [hg]; exact (below_size (bl HB.out)) : w.heap.size ≤ gb239)); replace HB := bst HB hb; clear hb hbox hg; have hcz8_0 : w7.cell? ⟨gb239, 0, none⟩ = some (.slice A0_0 l0_0.length c0_0) := (blk_cell BK239.out 0).trans rfl; have hcz8_1 : w7.cell? ⟨gb239, 1, none⟩ = some (.slice A0_1 l0_1.length c0_1) := (blk_cell BK239.out 1).trans rfl; have hfz8_0 := blk_frozen BK239.out 0; have hfz8_1 := blk_frozen BK239.out 1; have p240 : 0 ≤ (a1 : Int) := od; have q240 : a1 < (l0_0.length : Int) := od; obtain ⟨ad240, e240, hx240_0⟩ := Kd.at_int HR0_0.out a1 p240 q240; cases e240; replace hx240_0 := hbx HB hx240_0; replace p240 := eq_true p240; replace q240 := eq_true q240) | ((with_reducible refine gate_dst (N := 13) rfl ?_); refine Kd.R_lit (Kd.int .i64) _ 3 ?hg (N := 13) ?hd (xs := ([a1, rd l0_0 a1] : List Int)) (inner := [.int .i64 a1, .int .i64 (rd l0_0 a1)]) (ok := fun _ => True) (okp := fun _ => True) ?hr ?hp (fun _ hk => hk) trivial (Below.refl _ _) (Nat.le_refl _) (by simp) ?_; (case hd => rfl); (case hg => rfl); (case hr => first | (go_simp; done) | (go_simp; rfl)); (case hp => exact (Reps.one (show Kd.M (Kd.int .i64) _ _ _ a1 [.int .i64 a1] from rfl) (Reps.one (show Kd.M (Kd.int .i64) _ _ _ (rd l0_0 a1) [.int .i64 (rd l0_0 a1)] from rfl) (Reps.none _ _)))); intro v242 w9 ho10 hb hg_ hnew_; clear hg_ hnew_; (first | rw [← Ny241.out] at ho10 | (simp only [Int.reduceToNat] at ho10; rw [← Ny241.out] at ho10)); have HO243 := Aside0.mk (Kd.R_lower ho10 (below_size (bs1 HB.out GE239.out))); replace BK239 := bkb BK239 hb; replace HB := Aside0.mk (below_step (bs1 HB.out GE239.out) hb); clear hb ho10; have hcz11_0 : w9.cell? ⟨gb239, 0, none⟩ = some (.slice (some ad240) l0_0.length c0_0) := (blk_cell BK239.out 0).trans rfl; have hcz11_1 : w9.cell? ⟨gb239, 1, none⟩ = some (.slice A0_1 l0_1.length c0_1) := (blk_cell BK239.out 1).trans rfl; have hfz11_0 := blk_frozen BK239.out 0; have hfz11_1 := blk_frozen BK239.out 1; have p244 : 0 ≤ (a1 : Int) := od; have q244 : a1 < (l0_0.length : Int) := od; obtain ⟨ad244, e244, hx244_0⟩ := Kd.at_int HR0_0.out a1 p244 q244; obtain rfl : ad240 = ad244 := (by injection e244); replace hx244_0 := hbx HB hx244_0; replace p244 := eq_true p244; replace q244 := eq_true q244; have p245 : 0 ≤ ((rd l0_0 a1) : Int) := od; have q245 : (rd l0_0 a1) < (l0_1.length : Int) := od; obtain ⟨ad245, e245, hx245_0⟩ := Kd.at_int HR0_1.out (rd l0_0 a1) p245 q245; cases e245; replace hx245_0 := hbx HB hx245_0; replace p245 := eq_true p245; replace q245 := eq_true q245))
     repeat (go_quiet (first | ((with_reducible refine gate_dst (N := 2) rfl ?_); refine box_event ?hg (N := 2) ?hd (cs := #[.slice A0_0 l0_0.length c0_0, .slice A0_1 l0_1.length c0_1]) (t := 71) ?hr ?_; (case hd => rfl); (case hg => rfl); (case hr => first | (go_simp; done) | (go_simp; rfl)); intro gb239 hg w7 hbox hb; have BK239 := Aside0.mk (hbox); have GW239 := Aside0.mk ((by rw [hg]; exact (below_size (bl HB.out)) : w.heap.size ≤ gb239)); have GE239 := Aside0.mk ((by rw [hg]; exact (below_size (bl HB.out)) : w.heap.size ≤ gb239)); replace HB := bst HB hb; clear hb hbox hg; have hcz8_0 : w7.cell? ⟨gb239, 0, none⟩ = some (.slice A0_0 l0_0.length c0_0) := (blk_cell BK239.out 0).trans rfl; have hcz8_1 : w7.cell? ⟨gb239, 1, none⟩ = some (.slice A0_1 l0_1.length c0_1) := (blk_cell BK239.out 1).trans rfl; have hfz8_0 := blk_frozen BK239.out 0; have hfz8_1 := blk_frozen BK239.out 1; have p240 : 0 ≤ (a1 : Int) := od; have q240 : a1 < (l0_0.length : Int) := od; obtain ⟨ad240, e240, hx240_0⟩ := Kd.at_int HR0_0.out a1 p240 q240; cases e240; replace hx240_0 := hbx HB hx240_0; replace p240 := eq_true p240; replace q240 := eq_true q240) | ((with_reducible refine gate_dst (N := 13) rfl ?_); refine Kd.R_lit (Kd.int .i64) _ 3 ?hg (N := 13) ?hd (xs := ([a1, rd l0_0 a1] : List Int)) (inner := [.int .i64 a1, .int .i64 (rd l0_0 a1)]) (ok := fun _ => True) (okp := fun _ => True) ?hr ?hp (fun _ hk => hk) trivial (Below.refl _ _) (Nat.le_refl _) (by simp) ?_; (case hd => rfl); (case hg => rfl); (case hr => first | (go_simp; done) | (go_simp; rfl)); (case hp => exact (Reps.one (show Kd.M (Kd.int .i64) _ _ _ a1 [.int .i64 a1] from rfl) (Reps.one (show Kd.M (Kd.int .i64) _ _ _ (rd l0_0 a1) [.int .i64 (rd l0_0 a1)] from rfl) (Reps.none _ _)))); intro v242 w9 ho10 hb hg_ hnew_; clear hg_ hnew_; (first | rw [← Ny241.out] at ho10 | (simp only [Int.reduceToNat] at ho10; rw [← Ny241.out] at ho10)); have HO243 := Aside0.mk (Kd.R_lower ho10 (below_size (bs1 HB.out GE239.out))); replace BK239 := bkb BK239 hb; replace HB := Aside0.mk (below_step (bs1 HB.out GE239.out) hb); clear hb ho10; have hcz11_0 : w9.cell? ⟨gb239, 0, none⟩ = some (.slice (some ad240) l0_0.length c0_0) := (blk_cell BK239.out 0).trans rfl; have hcz11_1 : w9.cell? ⟨gb239, 1, none⟩ = some (.slice A0_1 l0_1.length c0_1) := (blk_cell BK239.out 1).trans rfl; have hfz11_0 := blk_frozen BK239.out 0; have hfz11_1 := blk_frozen BK239.out 1; have p244 : 0 ≤ (a1 : Int) := od; have q244 : a1 < (l0_0.length : Int) := od; obtain ⟨ad244, e244, hx244_0⟩ := Kd.at_int HR0_0.out a1 p244 q244; obtain rfl : ad240 = ad244 := (by injection e244); replace hx244_0 := hbx HB hx244_0; replace p244 := eq_true p244; replace q244 := eq_true q244; have p245 : 0 ≤ ((rd l0_0 a1) : Int) := od; have q245 : (rd l0_0 a1) < (l0_1.length : Int) := od; obtain ⟨ad245, e245, hx245_0⟩ := Kd.at_int HR0_1.out (rd l0_0 a1) p245 q245; cases e245; replace hx245_0 := hbx HB hx245_0; replace p245 := eq_true p245; replace q245 := eq_true q245)); try go_wp2_with (first | ((with_reducible refine gate_dst (N := 2) rfl ?_); refine box_event ?hg (N := 2) ?hd (cs := #[.slice A0_0 l0_0.length c0_0, .slice A0_1 l0_1.length c0_1]) (t := 71) ?hr ?_; (case hd => rfl); (case hg => rfl); (case hr => first | (go_simp; done) | (go_simp; rfl)); intro gb239 hg w7 hbox hb; have BK239 := Aside0.mk (hbox); have GW239 := Aside0.mk ((by rw [hg]; exact (below_size (bl HB.out)) : w.heap.size ≤ gb239)); have GE239 := Aside0.mk ((by rw [hg]; exact (below_size (bl HB.out)) : w.heap.size ≤ gb239)); replace HB := bst HB hb; clear hb hbox hg; have hcz8_0 : w7.cell? ⟨gb239, 0, none⟩ = some (.slice A0_0 l0_0.length c0_0) := (blk_cell BK239.out 0).trans rfl; have hcz8_1 : w7.cell? ⟨gb239, 1, none⟩ = some (.slice A0_1 l0_1.length c0_1) := (blk_cell BK239.out 1).trans rfl; have hfz8_0 := blk_frozen BK239.out 0; have hfz8_1 := blk_frozen BK239.out 1; have p240 : 0 ≤ (a1 : Int) := od; have q240 : a1 < (l0_0.length : Int) := od; obtain ⟨ad240, e240, hx240_0⟩ := Kd.at_int HR0_0.out a1 p240 q240; cases e240; replace hx240_0 := hbx HB hx240_0; replace p240 := eq_true p240; replace q240 := eq_true q240) | ((with_reducible refine gate_dst (N := 13) rfl ?_); refine Kd.R_lit (Kd.int .i64) _ 3 ?hg (N := 13) ?hd (xs := ([a1, rd l0_0 a1] : List Int)) (inner := [.int .i64 a1, .int .i64 (rd l0_0 a1)]) (ok := fun _ => True) (okp := fun _ => True) ?hr ?hp (fun _ hk => hk) trivial (Below.refl _ _) (Nat.le_refl _) (by simp) ?_; (case hd => rfl); (case hg => rfl); (case hr => first | (go_simp; done) | (go_simp; rfl)); (case hp => exact (Reps.one (show Kd.M (Kd.int .i64) _ _ _ a1 [.int .i64 a1] from rfl) (Reps.one (show Kd.M (Kd.int .i64) _ _ _ (rd l0_0 a1) [.int .i64 (rd l0_0 a1)] from rfl) (Reps.none _ _)))); intro v242 w9 ho10 hb hg_ hnew_; clear hg_ hnew_; (first | rw [← Ny241.out] at ho10 | (simp only [Int.reduceToNat] at ho10; rw [← Ny241.out] at ho10)); have HO243 := Aside0.mk (Kd.R_lower ho10 (below_size (bs1 HB.out GE239.out))); replace BK239 := bkb BK239 hb; replace HB := Aside0.mk (below_step (bs1 HB.out GE239.out) hb); clear hb ho10; have hcz11_0 : w9.cell? ⟨gb239, 0, none⟩ = some (.slice (some ad240) l0_0.length c0_0) := (blk_cell BK239.out 0).trans rfl; have hcz11_1 : w9.cell? ⟨gb239, 1, none⟩ = some (.slice A0_1 l0_1.length c0_1) := (blk_cell BK239.out 1).trans rfl; have hfz11_0 := blk_frozen BK239.out 0; have hfz11_1 := blk_frozen BK239.out 1; have p244 : 0 ≤ (a1 : Int) := od; have q244 : a1 < (l0_0.length : Int) := od; obtain ⟨ad244, e244, hx244_0⟩ := Kd.at_int HR0_0.out a1 p244 q244; obtain rfl : ad240 = ad244 := (by injection e244); replace hx244_0 := hbx HB hx244_0; replace p244 := eq_true p244; replace q244 := eq_true q244; have p245 : 0 ≤ ((rd l0_0 a1) : Int) := od; have q245 : (rd l0_0 a1) < (l0_1.length : Int) := od; obtain ⟨ad245, e245, hx245_0⟩ := Kd.at_int HR0_1.out (rd l0_0 a1) p245 q245; cases e245; replace hx245_0 := hbx HB hx245_0; replace p245 := eq_true p245; replace q245 := eq_true q245)))
     go_loopg [5, 6] k (fun kq v5 v6 w' => ∃ (x5_1 : List Int) (x6_1 : Int), v6 = .int .i64 x6_1 ∧ Aside0 (spec_meWay.l0 kq a1 x5_1 x6_1 l0_0 l0_1 = some r) ∧ Aside0 (kq ≤ k) ∧ Aside0 (Kd.R (Kd.int .i64) 3 w' w.heap.size (fun _ => True) v5 x5_1) ∧ Aside0 (w'.heap[gb239]? = some (.cells #[(.slice (some ad240) l0_0.length c0_0), (.slice (some ad245) l0_1.length c0_1)] 71 (0, 0))) ∧ Aside0 (Below w.heap.size w w'))
     case atStart => exact ⟨(y241), (rd l0_1 (rd l0_0 a1)), (sr2), H', ⟨Nat.le_refl _⟩, ⟨rR HO243.out⟩, ⟨by (with_reducible repeat (first | refine blk_drewN ?_ _ | refine blk_drew ?_ | refine blk_alloc ?_ _)); exact BK239.out⟩, ⟨bs1 HB.out GE239.out⟩⟩
     case round =>
      clear H'; obtain ⟨x5_1, x6_1, rfl, HA, HK1, HO_5, BK239, HB⟩ := hrel
      cases gk with
      | zero => exact absurd HA.out (by simp [spec_meWay.l0])
      | succ k1 =>
       have H := HA.out; clear HA; simp only [spec_meWay.l0] at H
       by_cases c12 : x6_1 = a1
       ·rw [if_pos c12] at H; have c12b0 := beq_iff_eq.mpr c12; have c12b1 := bne_eq_false_iff_eq.mpr c12; clear c12; obtain rfl := Option.some.inj H; go_wp2
        repeat (go_quiet (fail); try go_wp2)
        go_ret; exact ⟨_, sr, rR HO_5.out, bs1 HB.out GE239.out⟩
       rw [if_neg c12] at H; have c12b0 := beq_eq_false_iff_ne.mpr c12; have c12b1 := bne_iff_ne.mpr c12
       by_cases c13 : 0 ≤ x6_1
       ·rw [if_pos c13] at H; have c13b0 := decide_eq_true c13; clear c13
        by_cases c14 : x6_1 < (l0_0.length : Int)
        ·rw [if_pos c14] at H; have c14b0 := decide_eq_true c14; clear c14; obtain ⟨y247, hy247⟩ := yy (([x6_1, rd l0_0 x6_1] : List Int))
         (try rw [Option.bind_some] at H); (try dsimp only at H); rw [← hy247] at H
         have Ny247 := Aside0.mk hy247; clear hy247
         by_cases c15 : x5_1.length + y247.length < 17592186044416
         ·rw [if_pos c15] at H; have LMc15 := Aside0.mk c15; clear c15; obtain ⟨y250, hy250⟩ := yy (x5_1 ++ y247)
          (try rw [Option.bind_some] at H); (try dsimp only at H); rw [← hy250] at H
          have Ny250 := Aside0.mk hy250; clear hy250
          by_cases c16 : 0 ≤ (rd l0_0 x6_1)
          ·rw [if_pos c16] at H; have c16b0 := decide_eq_true c16; clear c16
           by_cases c17 : (rd l0_0 x6_1) < (l0_1.length : Int)
           ·rw [if_pos c17] at H; have c17b0 := decide_eq_true c17; clear c17; have H' := Aside0.mk H; clear H; have hcz18_0 : wr.cell? ⟨gb239, 0, none⟩ = some (.slice (some ad240) l0_0.length c0_0) := (blk_cell BK239.out 0).trans rfl; have hcz18_1 : wr.cell? ⟨gb239, 1, none⟩ = some (.slice (some ad245) l0_1.length c0_1) := (blk_cell BK239.out 1).trans rfl; have hfz18_0 := blk_frozen BK239.out 0; have hfz18_1 := blk_frozen BK239.out 1; obtain ⟨ad246, e246, hx246_0, p246, q246⟩ := atI HR0_0.out x6_1; obtain rfl : ad240 = ad246 := (by injection e246); replace hx246_0 := hbx HB hx246_0; go_wp2_with (first | ((with_reducible refine gate_dst (N := 42) rfl ?_); refine Kd.R_lit (Kd.int .i64) _ 3 ?hg (N := 42) ?hd (xs := ([x6_1, rd l0_0 x6_1] : List Int)) (inner := [.int .i64 x6_1, .int .i64 (rd l0_0 x6_1)]) (ok := fun _ => True) (okp := fun _ => True) ?hr ?hp (fun _ hk => hk) trivial (Below.refl _ _) (Nat.le_refl _) (by simp) ?_; (case hd => rfl); (case hg => rfl); (case hr => first | (go_simp; done) | (go_simp; rfl)); (case hp => exact (Reps.one (show Kd.M (Kd.int .i64) _ _ _ x6_1 [.int .i64 x6_1] from rfl) (Reps.one (show Kd.M (Kd.int .i64) _ _ _ (rd l0_0 x6_1) [.int .i64 (rd l0_0 x6_1)] from rfl) (Reps.none _ _)))); intro v248 w19 ho20 hb hg_ hnew_; clear hg_ hnew_; (first | rw [← Ny247.out] at ho20 | (simp only [Int.reduceToNat] at ho20; rw [← Ny247.out] at ho20)); have HO249 := Aside0.mk (Kd.R_lower (Kd.R_new' ho20 (Kd.R_lt (rR HO_5.out))) (below_size (bs1 HB.out GE239.out))); replace HO_5 := Aside0.mk (Kd.R_elder' (rR HO_5.out) (Kd.R_base ho20) hb); replace BK239 := bkb BK239 hb; replace HB := Aside0.mk (below_step (bs1 HB.out GE239.out) hb); clear hb ho20; obtain ⟨Ao22, co22, eo22⟩ := Kd.R_slice HO249.out; subst eo22) | ((with_reducible refine gate_builtin (b := .append) (xs := #[.tmp 35, .tmp 42]) rfl ?_); at_builtin; refine Kd.R_append_rows (Kd.int .i64) (w0 := w) w.heap.size rfl (.tmp 35) (.tmp 42) 35 3 (.int .i64 0) 8 rfl Try.underlying35 info3 rfl (by decide) (by omega) u5 x5_1 y247 _ _ _ (fun k_ => some k_ ≠ (.slice Ao22 y247.length co22 : Value).ownBlock) (fun _ => False) rfl rfl ?aO ?aR (fun _ _ h => h) (fun _ h => h.elim) ?aF ?aB ?aS (by have := LMc15.out; omega) ?_; (case aR => exact cw ((Kd.R_reads' HO249.out).2.2)); (case aB => exact (bs1 HB.out GE239.out)); (case aF => exact (fun k_ hk => Kd.fresh' (Kd.R_lt (rR HO249.out)) k_ hk)); (case aO => exact (rR (Kd.R_mono HO_5.out (fun _ hk => hk.2)))); (case aS => exact (below_size (bs1 HB.out GE239.out))); intro v251 w21 ho hb hg hat; rw [← Ny250.out] at ho; replace BK239 := Aside0.mk (blk_grown (bk BK239.out) hg (Kd.R_ne HO_5.out BK239.out (by decide))); replace HO249 := Aside0.mk (Kd.R_after (ok := (fun _ => True)) (rR HO249.out) hg hat); replace HB := Aside0.mk (hb); have HO252 := Aside0.mk (ho); clear HO_5; clear ho hb hg hat; have hcz23_0 : w21.cell? ⟨gb239, 0, none⟩ = some (.slice (some ad240) l0_0.length c0_0) := (blk_cell BK239.out 0).trans rfl; have hcz23_1 : w21.cell? ⟨gb239, 1, none⟩ = some (.slice (some ad245) l0_1.length c0_1) := (blk_cell BK239.out 1).trans rfl; have hfz23_0 := blk_frozen BK239.out 0; have hfz23_1 := blk_frozen BK239.out 1; have p253 : 0 ≤ (x6_1 : Int) := od; have q253 : x6_1 < (l0_0.length : Int) := od; obtain ⟨ad253, e253, hx253_0⟩ := Kd.at_int HR0_0.out x6_1 p253 q253; obtain rfl : ad240 = ad253 := (by injection e253); replace hx253_0 := hbx HB hx253_0; replace p253 := eq_true p253; replace q253 := eq_true q253; have p254 : 0 ≤ ((rd l0_0 x6_1) : Int) := od; have q254 : (rd l0_0 x6_1) < (l0_1.length : Int) := od; obtain ⟨ad254, e254, hx254_0⟩ := Kd.at_int HR0_1.out (rd l0_0 x6_1) p254 q254; obtain rfl : ad245 = ad254 := (by injection e254); replace hx254_0 := hbx HB hx254_0; replace p254 := eq_true p254; replace q254 := eq_true q254))
            repeat (go_quiet (first | ((with_reducible refine gate_dst (N := 42) rfl ?_); refine Kd.R_lit (Kd.int .i64) _ 3 ?hg (N := 42) ?hd (xs := ([x6_1, rd l0_0 x6_1] : List Int)) (inner := [.int .i64 x6_1, .int .i64 (rd l0_0 x6_1)]) (ok := fun _ => True) (okp := fun _ => True) ?hr ?hp (fun _ hk => hk) trivial (Below.refl _ _) (Nat.le_refl _) (by simp) ?_; (case hd => rfl); (case hg => rfl); (case hr => first | (go_simp; done) | (go_simp; rfl)); (case hp => exact (Reps.one (show Kd.M (Kd.int .i64) _ _ _ x6_1 [.int .i64 x6_1] from rfl) (Reps.one (show Kd.M (Kd.int .i64) _ _ _ (rd l0_0 x6_1) [.int .i64 (rd l0_0 x6_1)] from rfl) (Reps.none _ _)))); intro v248 w19 ho20 hb hg_ hnew_; clear hg_ hnew_; (first | rw [← Ny247.out] at ho20 | (simp only [Int.reduceToNat] at ho20; rw [← Ny247.out] at ho20)); have HO249 := Aside0.mk (Kd.R_lower (Kd.R_new' ho20 (Kd.R_lt (rR HO_5.out))) (below_size (bs1 HB.out GE239.out))); replace HO_5 := Aside0.mk (Kd.R_elder' (rR HO_5.out) (Kd.R_base ho20) hb); replace BK239 := bkb BK239 hb; replace HB := Aside0.mk (below_step (bs1 HB.out GE239.out) hb); clear hb ho20; obtain ⟨Ao22, co22, eo22⟩ := Kd.R_slice HO249.out; subst eo22) | ((with_reducible refine gate_builtin (b := .append) (xs := #[.tmp 35, .tmp 42]) rfl ?_); at_builtin; refine Kd.R_append_rows (Kd.int .i64) (w0 := w) w.heap.size rfl (.tmp 35) (.tmp 42) 35 3 (.int .i64 0) 8 rfl Try.underlying35 info3 rfl (by decide) (by omega) u5 x5_1 y247 _ _ _ (fun k_ => some k_ ≠ (.slice Ao22 y247.length co22 : Value).ownBlock) (fun _ => False) rfl rfl ?aO ?aR (fun _ _ h => h) (fun _ h => h.elim) ?aF ?aB ?aS (by have := LMc15.out; omega) ?_; (case aR => exact cw ((Kd.R_reads' HO249.out).2.2)); (case aB => exact (bs1 HB.out GE239.out)); (case aF => exact (fun k_ hk => Kd.fresh' (Kd.R_lt (rR HO249.out)) k_ hk)); (case aO => exact (rR (Kd.R_mono HO_5.out (fun _ hk => hk.2)))); (case aS => exact (below_size (bs1 HB.out GE239.out))); intro v251 w21 ho hb hg hat; rw [← Ny250.out] at ho; replace BK239 := Aside0.mk (blk_grown (bk BK239.out) hg (Kd.R_ne HO_5.out BK239.out (by decide))); replace HO249 := Aside0.mk (Kd.R_after (ok := (fun _ => True)) (rR HO249.out) hg hat); replace HB := Aside0.mk (hb); have HO252 := Aside0.mk (ho); clear HO_5; clear ho hb hg hat; have hcz23_0 : w21.cell? ⟨gb239, 0, none⟩ = some (.slice (some ad240) l0_0.length c0_0) := (blk_cell BK239.out 0).trans rfl; have hcz23_1 : w21.cell? ⟨gb239, 1, none⟩ = some (.slice (some ad245) l0_1.length c0_1) := (blk_cell BK239.out 1).trans rfl; have hfz23_0 := blk_frozen BK239.out 0; have hfz23_1 := blk_frozen BK239.out 1; have p253 : 0 ≤ (x6_1 : Int) := od; have q253 : x6_1 < (l0_0.length : Int) := od; obtain ⟨ad253, e253, hx253_0⟩ := Kd.at_int HR0_0.out x6_1 p253 q253; obtain rfl : ad240 = ad253 := (by injection e253); replace hx253_0 := hbx HB hx253_0; replace p253 := eq_true p253; replace q253 := eq_true q253; have p254 : 0 ≤ ((rd l0_0 x6_1) : Int) := od; have q254 : (rd l0_0 x6_1) < (l0_1.length : Int) := od; obtain ⟨ad254, e254, hx254_0⟩ := Kd.at_int HR0_1.out (rd l0_0 x6_1) p254 q254; obtain rfl : ad245 = ad254 := (by injection e254); replace hx254_0 := hbx HB hx254_0; replace p254 := eq_true p254; replace q254 := eq_true q254)); try go_wp2_with (first | ((with_reducible refine gate_dst (N := 42) rfl ?_); refine Kd.R_lit (Kd.int .i64) _ 3 ?hg (N := 42) ?hd (xs := ([x6_1, rd l0_0 x6_1] : List Int)) (inner := [.int .i64 x6_1, .int .i64 (rd l0_0 x6_1)]) (ok := fun _ => True) (okp := fun _ => True) ?hr ?hp (fun _ hk => hk) trivial (Below.refl _ _) (Nat.le_refl _) (by simp) ?_; (case hd => rfl); (case hg => rfl); (case hr => first | (go_simp; done) | (go_simp; rfl)); (case hp => exact (Reps.one (show Kd.M (Kd.int .i64) _ _ _ x6_1 [.int .i64 x6_1] from rfl) (Reps.one (show Kd.M (Kd.int .i64) _ _ _ (rd l0_0 x6_1) [.int .i64 (rd l0_0 x6_1)] from rfl) (Reps.none _ _)))); intro v248 w19 ho20 hb hg_ hnew_; clear hg_ hnew_; (first | rw [← Ny247.out] at ho20 | (simp only [Int.reduceToNat] at ho20; rw [← Ny247.out] at ho20)); have HO249 := Aside0.mk (Kd.R_lower (Kd.R_new' ho20 (Kd.R_lt (rR HO_5.out))) (below_size (bs1 HB.out GE239.out))); replace HO_5 := Aside0.mk (Kd.R_elder' (rR HO_5.out) (Kd.R_base ho20) hb); replace BK239 := bkb BK239 hb; replace HB := Aside0.mk (below_step (bs1 HB.out GE239.out) hb); clear hb ho20; obtain ⟨Ao22, co22, eo22⟩ := Kd.R_slice HO249.out; subst eo22) | ((with_reducible refine gate_builtin (b := .append) (xs := #[.tmp 35, .tmp 42]) rfl ?_); at_builtin; refine Kd.R_append_rows (Kd.int .i64) (w0 := w) w.heap.size rfl (.tmp 35) (.tmp 42) 35 3 (.int .i64 0) 8 rfl Try.underlying35 info3 rfl (by decide) (by omega) u5 x5_1 y247 _ _ _ (fun k_ => some k_ ≠ (.slice Ao22 y247.length co22 : Value).ownBlock) (fun _ => False) rfl rfl ?aO ?aR (fun _ _ h => h) (fun _ h => h.elim) ?aF ?aB ?aS (by have := LMc15.out; omega) ?_; (case aR => exact cw ((Kd.R_reads' HO249.out).2.2)); (case aB => exact (bs1 HB.out GE239.out)); (case aF => exact (fun k_ hk => Kd.fresh' (Kd.R_lt (rR HO249.out)) k_ hk)); (case aO => exact (rR (Kd.R_mono HO_5.out (fun _ hk => hk.2)))); (case aS => exact (below_size (bs1 HB.out GE239.out))); intro v251 w21 ho hb hg hat; rw [← Ny250.out] at ho; replace BK239 := Aside0.mk (blk_grown (bk BK239.out) hg (Kd.R_ne HO_5.out BK239.out (by decide))); replace HO249 := Aside0.mk (Kd.R_after (ok := (fun _ => True)) (rR HO249.out) hg hat); replace HB := Aside0.mk (hb); have HO252 := Aside0.mk (ho); clear HO_5; clear ho hb hg hat; have hcz23_0 : w21.cell? ⟨gb239, 0, none⟩ = some (.slice (some ad240) l0_0.length c0_0) := (blk_cell BK239.out 0).trans rfl; have hcz23_1 : w21.cell? ⟨gb239, 1, none⟩ = some (.slice (some ad245) l0_1.length c0_1) := (blk_cell BK239.out 1).trans rfl; have hfz23_0 := blk_frozen BK239.out 0; have hfz23_1 := blk_frozen BK239.out 1; have p253 : 0 ≤ (x6_1 : Int) := od; have q253 : x6_1 < (l0_0.length : Int) := od; obtain ⟨ad253, e253, hx253_0⟩ := Kd.at_int HR0_0.out x6_1 p253 q253; obtain rfl : ad240 = ad253 := (by injection e253); replace hx253_0 := hbx HB hx253_0; replace p253 := eq_true p253; replace q253 := eq_true q253; have p254 : 0 ≤ ((rd l0_0 x6_1) : Int) := od; have q254 : (rd l0_0 x6_1) < (l0_1.length : Int) := od; obtain ⟨ad254, e254, hx254_0⟩ := Kd.at_int HR0_1.out (rd l0_0 x6_1) p254 q254; obtain rfl : ad245 = ad254 := (by injection e254); replace hx254_0 := hbx HB hx254_0; replace p254 := eq_true p254; replace q254 := eq_true q254)))
            go_roundg k1
            case measure => have := HK1.out; omega
            case rel => exact ⟨(y250), (rd l0_1 (rd l0_0 x6_1)), (sr2), H', ⟨by have := HK1.out; omega⟩, ⟨rR (Kd.R_mono HO252.out (fun _ hk => trivial))⟩, ⟨by (with_reducible repeat (first | refine blk_drewN ?_ _ | refine blk_drew ?_ | refine blk_alloc ?_ _)); exact BK239.out⟩, ⟨bs1 HB.out GE239.out⟩⟩
           rw [if_neg c17] at H; exact absurd H (by simp)
          rw [if_neg c16] at H; exact absurd H (by simp)
         rw [if_neg c15] at H; exact absurd H (by simp)
        rw [if_neg c14] at H; exact absurd H (by simp)
       rw [if_neg c13] at H; exact absurd H (by simp)
    rw [if_neg c6] at H; exact absurd H (by simp)
   rw [if_neg c5] at H; exact absurd H (by simp)
  rw [if_neg c4] at H; exact absurd H (by simp)
 rw [if_neg c3] at H; exact absurd H (by simp)
/-! ### spec_meColours: function 103 -/
mutual
def spec_meColours.l0 : Nat → List Int → Int → Int → List Int → List Int → Option (List Int)
 | 0, _, _, _, _, _ => none
 | k + 1, x3, x14, x15, x256000, x256001 => if x15 < x14 then (if 0 ≤ x15 then (if x15 < (x3.length : Int) then (spec_meColours.l0 k (x3.set (x15 : Int).toNat (-1)) x14 (wrap64 (x15 + 1)) x256000 x256001) else (none)) else (none)) else (spec_meColours.l1 k x3 0 (x3.length : Int) 0 x256000 x256001)
def spec_meColours.l1 : Nat → List Int → Int → Int → Int → List Int → List Int → Option (List Int)
 | 0, _, _, _, _, _, _ => none
 | k + 1, x3, x5, x23, x24, x256000, x256001 => if x24 < x23 then (if 0 ≤ x24 then (if x24 < (x3.length : Int) then (if (rd x3 x24) ≥ 0 then (spec_meColours.l1 k x3 x5 x23 (wrap64 (x24 + 1)) x256000 x256001) else ((spec_meWay.f k x256000 x256001 x24).bind fun t261 => (spec_meColours.l2 k x3 x5 x23 x24 t261 (t261.length : Int) 0 x256000 x256001))) else (none)) else (none)) else (some x3)
def spec_meColours.l2 : Nat → List Int → Int → Int → Int → List Int → Int → Int → List Int → List Int → Option (List Int)
 | 0, _, _, _, _, _, _, _, _, _ => none
 | k + 1, x3, x5, x23, x24, x34, x35, x36, x256000, x256001 => if x36 < x35 then (if 0 ≤ x36 then (if x36 < (x34.length : Int) then (if 0 ≤ (rd x34 x36) then (if (rd x34 x36) < (x3.length : Int) then (spec_meColours.l2 k (x3.set ((rd x34 x36) : Int).toNat x5) x5 x23 x24 x34 x35 (wrap64 (x36 + 1)) x256000 x256001) else (none)) else (none)) else (none)) else (none)) else (spec_meColours.l1 k x3 (wrap64 (x5 + 1)) x23 (wrap64 (x24 + 1)) x256000 x256001)
end
def spec_meColours.f (k : Nat) (l0_0 : List Int) (l0_1 : List Int) : Option (List Int) := if 0 ≤ (l0_0.length : Int) then (if ((l0_0.length : Int) : Int).toNat ≤ 35184372088832 then ((some (List.replicate ((l0_0.length : Int) : Int).toNat 0 : List Int)).bind fun y256 => (spec_meColours.l0 k y256 (y256.length : Int) 0 l0_0 l0_1)) else (none)) else (none)
theorem spec_meColours.mono_l : ∀ k, (∀ y0 y1 y2 y3 y4, LeO (spec_meColours.l0 k y0 y1 y2 y3 y4) (spec_meColours.l0 (k + 1) y0 y1 y2 y3 y4)) ∧ (∀ y0 y1 y2 y3 y4 y5, LeO (spec_meColours.l1 k y0 y1 y2 y3 y4 y5) (spec_meColours.l1 (k + 1) y0 y1 y2 y3 y4 y5)) ∧ (∀ y0 y1 y2 y3 y4 y5 y6 y7 y8, LeO (spec_meColours.l2 k y0 y1 y2 y3 y4 y5 y6 y7 y8) (spec_meColours.l2 (k + 1) y0 y1 y2 y3 y4 y5 y6 y7 y8))
 | 0 => ⟨fun _ _ _ _ _ r h => by simp [spec_meColours.l0] at h, fun _ _ _ _ _ _ r h => by simp [spec_meColours.l1] at h, fun _ _ _ _ _ _ _ _ _ r h => by simp [spec_meColours.l2] at h⟩
 | k + 1 => by
  obtain ⟨ih0, ih1, ih2⟩ := spec_meColours.mono_l k
  refine ⟨?_, ?_, ?_⟩
  ·intro y0 y1 y2 y3 y4
   unfold spec_meColours.l0
   repeat' first
   | (with_reducible exact ih0 _ _ _ _ _)
   | (with_reducible exact ih1 _ _ _ _ _ _)
   | (with_reducible exact ih2 _ _ _ _ _ _ _ _ _)
   | (with_reducible exact spec_meWay.mono _ _ _ _)
   | (with_reducible exact LeO.refl _)
   | (with_reducible exact LeO.none _)
   | (with_reducible refine LeO.ite ?_ ?_)
   | (with_reducible refine LeO.bind ?_ (fun _ => ?_))
   | exact ih0 _ _ _ _ _
   | exact ih1 _ _ _ _ _ _
   | exact ih2 _ _ _ _ _ _ _ _ _
   | exact spec_meWay.mono _ _ _ _
   | exact LeO.none _
   | refine LeO.ite ?_ ?_
   | refine LeO.bind ?_ (fun _ => ?_)
  ·intro y0 y1 y2 y3 y4 y5
   unfold spec_meColours.l1
   repeat' first
   | (with_reducible exact ih0 _ _ _ _ _)
   | (with_reducible exact ih1 _ _ _ _ _ _)
   | (with_reducible exact ih2 _ _ _ _ _ _ _ _ _)
   | (with_reducible exact spec_meWay.mono _ _ _ _)
   | (with_reducible exact LeO.refl _)
   | (with_reducible exact LeO.none _)
   | (with_reducible refine LeO.ite ?_ ?_)
   | (with_reducible refine LeO.bind ?_ (fun _ => ?_))
   | exact ih0 _ _ _ _ _
   | exact ih1 _ _ _ _ _ _
   | exact ih2 _ _ _ _ _ _ _ _ _
   | exact spec_meWay.mono _ _ _ _
   | exact LeO.none _
   | refine LeO.ite ?_ ?_
   | refine LeO.bind ?_ (fun _ => ?_)
  ·intro y0 y1 y2 y3 y4 y5 y6 y7 y8
   unfold spec_meColours.l2
   repeat' first
   | (with_reducible exact ih0 _ _ _ _ _)
   | (with_reducible exact ih1 _ _ _ _ _ _)
   | (with_reducible exact ih2 _ _ _ _ _ _ _ _ _)
   | (with_reducible exact spec_meWay.mono _ _ _ _)
   | (with_reducible exact LeO.refl _)
   | (with_reducible exact LeO.none _)
   | (with_reducible refine LeO.ite ?_ ?_)
   | (with_reducible refine LeO.bind ?_ (fun _ => ?_))
   | exact ih0 _ _ _ _ _
   | exact ih1 _ _ _ _ _ _
   | exact ih2 _ _ _ _ _ _ _ _ _
   | exact spec_meWay.mono _ _ _ _
   | exact LeO.none _
   | refine LeO.ite ?_ ?_
   | refine LeO.bind ?_ (fun _ => ?_)
theorem spec_meColours.mono : ∀ a0 a1 k, LeO (spec_meColours.f k a0 a1) (spec_meColours.f (k + 1) a0 a1) := by
 intro a0 a1 k; obtain ⟨ih0, ih1, ih2⟩ := spec_meColours.mono_l k; unfold spec_meColours.f
 repeat' first
   | (with_reducible exact ih0 _ _ _ _ _)
   | (with_reducible exact ih1 _ _ _ _ _ _)
   | (with_reducible exact ih2 _ _ _ _ _ _ _ _ _)
   | (with_reducible exact spec_meWay.mono _ _ _ _)
   | (with_reducible exact LeO.refl _)
   | (with_reducible exact LeO.none _)
   | (with_reducible refine LeO.ite ?_ ?_)
   | (with_reducible refine LeO.bind ?_ (fun _ => ?_))
   | exact ih0 _ _ _ _ _
   | exact ih1 _ _ _ _ _ _
   | exact ih2 _ _ _ _ _ _ _ _ _
   | exact spec_meWay.mono _ _ _ _
   | exact LeO.none _
   | refine LeO.ite ?_ ?_
   | refine LeO.bind ?_ (fun _ => ?_)
theorem spec_meColours.calls (k : Nat) (A0_0 : Option Addr) (c0_0 : Nat) (l0_0 : List Int) (A0_1 : Option Addr) (c0_1 : Nat) (l0_1 : List Int) (r : List Int) (w : World) (hr0_0 : Kd.C (Kd.int .i64) w A0_0 l0_0.length l0_0) (hc0_0 : l0_0.length ≤ c0_0) (hr0_1 : Kd.C (Kd.int .i64) w A0_1 l0_1.length l0_1) (hc0_1 : l0_1.length ≤ c0_1) (h : spec_meColours.f k l0_0 l0_1 = some r) :
  Calls Try.prog 103 #[.agg #[.slice A0_0 l0_0.length c0_0, .slice A0_1 l0_1.length c0_1]] w fun e w' => ∃ v0_ : Value, e = .returned (v0_) ∧ Kd.R (Kd.int .i64) 3 w' w.heap.size (fun _ => True) v0_ r ∧ Below w.heap.size w w' := by
 have hu71 := Try.underlying71; have HR0_0 := Aside0.mk hr0_0; have HC0_0 := Aside0.mk hc0_0; clear hr0_0 hc0_0; have HR0_1 := Aside0.mk hr0_1; have HC0_1 := Aside0.mk hc0_1; clear hr0_1 hc0_1; have HB := Aside0.mk (Below.refl w.heap.size w); have H : (if 0 ≤ (l0_0.length : Int) then (if ((l0_0.length : Int) : Int).toNat ≤ 35184372088832 then ((some (List.replicate ((l0_0.length : Int) : Int).toNat 0 : List Int)).bind fun y256 => (spec_meColours.l0 k y256 (y256.length : Int) 0 l0_0 l0_1)) else (none)) else (none)) = some r := h; clear h
 by_cases c2 : 0 ≤ (l0_0.length : Int)
 ·rw [if_pos c2] at H; have c2b0 := eq_true c2; have c2b1 := decide_eq_true c2; clear c2
  by_cases c3 : ((l0_0.length : Int) : Int).toNat ≤ 35184372088832
  ·rw [if_pos c3] at H
   have c3b0 := eq_true c3
   have c3b1 : decide (((l0_0.length : Int) : Int).toNat ≤ 35184372088832) = true := decide_eq_true c3
   clear c3
   obtain ⟨y256, hy256⟩ : ∃ y_ : List Int, y_ = (List.replicate ((l0_0.length : Int) : Int).toNat 0) := ⟨_, rfl⟩
   (try rw [Option.bind_some] at H); (try dsimp only at H); rw [← hy256] at H
   have Ny256 := Aside0.mk hy256; clear hy256; have H' := Aside0.mk H; clear H; go_enter Try.func103, Try.ntmps103; go_wp2_with (first | ((with_reducible refine gate_dst (N := 1) rfl ?_); refine box_event ?hg (N := 1) ?hd (cs := #[.slice A0_0 l0_0.length c0_0, .slice A0_1 l0_1.length c0_1]) (t := 71) ?hr ?_; (case hd => rfl); (case hg => rfl); (case hr => first | (go_simp; done) | (go_simp; rfl)); intro gb255 hg w4 hbox hb; have BK255 := Aside0.mk (hbox); have GW255 := Aside0.mk ((by rw [hg]; exact (below_size (bl HB.out)) : w.heap.size ≤ gb255)); have GE255 := Aside0.mk ((by rw [hg]; exact (below_size (bl HB.out)) : w.heap.size ≤ gb255)); replace HB := bst HB hb; clear hb hbox hg; have hcz5_0 : w4.cell? ⟨gb255, 0, none⟩ = some (.slice A0_0 l0_0.length c0_0) := (blk_cell BK255.out 0).trans rfl; have hcz5_1 : w4.cell? ⟨gb255, 1, none⟩ = some (.slice A0_1 l0_1.length c0_1) := (blk_cell BK255.out 1).trans rfl; have hfz5_0 := blk_frozen BK255.out 0; have hfz5_1 := blk_frozen BK255.out 1) | ((with_reducible refine gate_dst (N := 12) rfl ?_); refine Kd.R_make (Kd.int .i64) _ 3 rfl (N := 12) rfl 35 _ _ rfl (l0_0.length : Int) rfl rfl Try.underlying35 (.int .i64 0) 8 info3 rfl (by decide) (by omega) 0 (ok := fun _ => True) (okp := fun _ => True) rfl (fun _ hk => hk) trivial (od) (Nat.le_trans (Nat.mul_le_mul_right _ (od : (l0_0.length : Int).toNat ≤ 35184372088832)) (by omega)) (Below.refl _ _) (Nat.le_refl _) ?_; intro v257 w6 ho7 hb hg_ hnew_; clear hg_ hnew_; (first | rw [← Ny256.out] at ho7 | (simp only [Int.reduceToNat] at ho7; rw [← Ny256.out] at ho7)); have HO258 := Aside0.mk (Kd.R_lower ho7 (below_size (bs1 HB.out GE255.out))); replace BK255 := bkb BK255 hb; replace HB := Aside0.mk (below_step (bs1 HB.out GE255.out) hb); clear hb ho7; obtain ⟨Ao8, co8, eo8⟩ := Kd.R_slice HO258.out; subst eo8))
   go_loopg [15] k (fun kq v15 w' => ∃ (x3_1 : List Int) (x15_1 : Int), v15 = .int .i64 x15_1 ∧ Aside0 (spec_meColours.l0 kq x3_1 (y256.length : Int) x15_1 l0_0 l0_1 = some r) ∧ Aside0 (kq ≤ k) ∧ Aside0 (Kd.R (Kd.int .i64) 3 w' w.heap.size (fun _ => True) (.slice Ao8 y256.length co8) x3_1) ∧ Aside0 (w'.heap[gb255]? = some (.cells #[(.slice A0_0 l0_0.length c0_0), (.slice A0_1 l0_1.length c0_1)] 71 (0, 0))) ∧ Aside0 (Below w.heap.size w w'))
   case atStart => exact ⟨(y256), (0), (sr2), H', ⟨Nat.le_refl _⟩, ⟨rR HO258.out⟩, ⟨by (with_reducible repeat (first | refine blk_drewN ?_ _ | refine blk_drew ?_ | refine blk_alloc ?_ _)); exact BK255.out⟩, ⟨bs1 HB.out GE255.out⟩⟩
   case round =>
    clear H'; obtain ⟨x3_1, x15_1, rfl, HA, HK1, HO_3, BK255, HB⟩ := hrel; have hl3_1 := (Kd.R_reads' HO_3.out).1; rw [hl3_1] at HO_3; (try simp only [hl3_1]); (try simp only [hl3_1] at BK255)
    cases gk with
    | zero => exact absurd HA.out (by simp [spec_meColours.l0])
    | succ k1 =>
     have H := HA.out; clear HA; simp only [spec_meColours.l0] at H
     by_cases c9 : x15_1 < (y256.length : Int)
     ·rw [if_pos c9] at H; have c9b0 := decide_eq_true c9; clear c9; (try simp only [hl3_1] at c9b0)
      by_cases c10 : 0 ≤ x15_1
      ·rw [if_pos c10] at H; have c10b0 := decide_eq_true c10; clear c10; (try simp only [hl3_1] at c10b0)
       by_cases c11 : x15_1 < (x3_1.length : Int)
       ·rw [if_pos c11] at H; have c11b0 := decide_eq_true c11; clear c11; (try simp only [hl3_1] at c11b0); obtain ⟨y259, hy259⟩ := yy (x3_1.set (x15_1 : Int).toNat (-1))
        (try rw [Option.bind_some] at H); (try dsimp only at H); rw [← hy259] at H
        have Ny259 := Aside0.mk hy259; clear hy259; have H' := Aside0.mk H; clear H; have p12 : 0 ≤ (x15_1 : Int) := od; have q12 : (x15_1 : Int) < ((x3_1.length : Int) : Int) := od; obtain ⟨go12, co12, eo12, gb12, gl12, cl12, HG12⟩ := Kd.R_form HO_3.out (by omega); (first | cases eo12 | (injection eo12 with ea_ en_ ec_; (first | subst ea_ | (injection ea_ with ea_; subst ea_)); subst ec_; clear en_)); have GB12 := Aside0.mk gb12; have GG12 := Aside0.mk HG12; clear gb12 gl12 HG12; obtain ⟨hx12_0, hf12_0⟩ := Kd.R_celln 0 HO_3.out (x15_1 : Int) p12 q12; replace p12 := eq_true p12; replace q12 := eq_true q12; have HP13 := Kd.R_putg HO_3.out (x15_1 : Int) (-1); go_wp2_with (first | ((with_reducible refine gate_store (t := 3) (p := 20) rfl ?_); refine store_event (t := 3) (p := 20) (v := ?vo_w14) (w1 := (wr.setCell ⟨go12, (x15_1 : Int).toNat, none⟩ (.int .i64 (-1)))) ?hg ?ho ?hn ?hr ?_; (case ho => rfl); (case hg => rfl); (case hn => rfl); (case hr => first | (go_simp; done) | (go_simp; rfl)); intro w14 hw; have hg : wr.grownBy w14 (some go12) := (by rw [hw]; exact HP13.2); have hp_ : Kd.R (Kd.int .i64) 3 w14 w.heap.size (fun _ => True) (.slice (some ⟨go12, 0, none⟩) x3_1.length co8) y259 := (by rw [hw, Ny259.out]; exact HP13.1); clear HP13; replace BK255 := Aside0.mk (blk_grown (bk BK255.out) hg (Kd.R_ne HO_3.out BK255.out (by decide))); replace HO_3 := Aside0.mk (hp_); replace HB := Aside0.mk ((by rw [hw]; exact below_set (HB.out) GB12.out : Below w.heap.size w w14)); clear hg hw hp_)); (try simp only [← hl3_1])
        go_roundg k1
        case measure => have := HK1.out; omega
        case rel => exact ⟨(y259), (wrap64 (x15_1 + 1)), (sr2), H', ⟨by have := HK1.out; omega⟩, ⟨by (try simp only [hl3_1]); (with_reducible repeat (first | apply Kd.R_alloc | apply Kd.R_drewN | apply Kd.R_drew)); exact HO_3.out⟩, ⟨by (try simp only [hl3_1]); (with_reducible repeat (first | refine blk_drewN ?_ _ | refine blk_drew ?_ | refine blk_alloc ?_ _)); exact BK255.out⟩, ⟨bs1 HB.out GE255.out⟩⟩
       rw [if_neg c11] at H; exact absurd H (by simp)
      rw [if_neg c10] at H; exact absurd H (by simp)
     rw [if_neg c9] at H; have c9b0 := decide_eq_false c9; clear c9; (try simp only [hl3_1] at c9b0); have H' := Aside0.mk H; clear H; go_wp2
     go_loopg [5, 24] k1 (fun kq v5 v24 w' => ∃ (x3_2 : List Int) (x5_2 : Int) (x24_2 : Int), v5 = .int .i64 x5_2 ∧ v24 = .int .i64 x24_2 ∧ Aside0 (spec_meColours.l1 kq x3_2 x5_2 (x3_1.length : Int) x24_2 l0_0 l0_1 = some r) ∧ Aside0 (kq ≤ k1) ∧ Aside0 (Kd.R (Kd.int .i64) 3 w' w.heap.size (fun _ => True) (.slice Ao8 x3_1.length co8) x3_2) ∧ Aside0 (w'.heap[gb255]? = some (.cells #[(.slice A0_0 l0_0.length c0_0), (.slice A0_1 l0_1.length c0_1)] 71 (0, 0))) ∧ Aside0 (Below w.heap.size w w'))
     case atStart => exact ⟨(x3_1), (0), (0), (sr2), (sr2), H', ⟨Nat.le_refl _⟩, ⟨by (try simp only [hl3_1]); (with_reducible repeat (first | apply Kd.R_alloc | apply Kd.R_drewN | apply Kd.R_drew)); exact HO_3.out⟩, ⟨by (try simp only [hl3_1]); (with_reducible repeat (first | refine blk_drewN ?_ _ | refine blk_drew ?_ | refine blk_alloc ?_ _)); exact BK255.out⟩, ⟨bs1 HB.out GE255.out⟩⟩
     case round =>
      clear H'; obtain ⟨x3_2, x5_2, x24_2, rfl, rfl, HA, HK2, HO_3, BK255, HB⟩ := hrel; have hl3_2 := (Kd.R_reads' HO_3.out).1; rw [hl3_2] at HO_3; (try simp only [hl3_2]); (try simp only [hl3_2] at BK255)
      cases gk with
      | zero => exact absurd HA.out (by simp [spec_meColours.l1])
      | succ k2 =>
       have H := HA.out; clear HA; simp only [spec_meColours.l1] at H
       by_cases c15 : x24_2 < (x3_1.length : Int)
       ·rw [if_pos c15] at H; have c15b0 := decide_eq_true c15; clear c15; (try simp only [hl3_1, hl3_2] at c15b0)
        by_cases c16 : 0 ≤ x24_2
        ·rw [if_pos c16] at H; have c16b0 := decide_eq_true c16; clear c16; (try simp only [hl3_1, hl3_2] at c16b0)
         by_cases c17 : x24_2 < (x3_2.length : Int)
         ·rw [if_pos c17] at H; have c17b0 := decide_eq_true c17; clear c17; (try simp only [hl3_1, hl3_2] at c17b0)
          by_cases c18 : (rd x3_2 x24_2) ≥ 0
          ·rw [if_pos c18] at H; have c18b0 := decide_eq_true c18; clear c18; (try simp only [hl3_1, hl3_2] at c18b0); have H' := Aside0.mk H; clear H; obtain ⟨ad260, e260, hx260_0, p260, q260⟩ := atI (Kd.R_reads' HO_3.out).2.2 x24_2; cases e260; go_wp2; (try simp only [← hl3_2])
           go_roundg k2
           case measure => have := HK1.out; have := HK2.out; omega
           case rel => exact ⟨(x3_2), (x5_2), (wrap64 (x24_2 + 1)), (sr2), (sr2), H', ⟨by have := HK1.out; have := HK2.out; omega⟩, ⟨by (try simp only [hl3_1]); (try simp only [hl3_2]); (with_reducible repeat (first | apply Kd.R_alloc | apply Kd.R_drewN | apply Kd.R_drew)); exact HO_3.out⟩, ⟨by (try simp only [hl3_1]); (try simp only [hl3_2]); (with_reducible repeat (first | refine blk_drewN ?_ _ | refine blk_drew ?_ | refine blk_alloc ?_ _)); exact BK255.out⟩, ⟨bs1 HB.out GE255.out⟩⟩
          rw [if_neg c18] at H; have c18b0 := decide_eq_false c18; clear c18; (try simp only [hl3_1, hl3_2] at c18b0); obtain ⟨t261, A19, H⟩ := bi H; (try dsimp only at H); have H' := Aside0.mk H; clear H; obtain ⟨ad260, e260, hx260_0, p260, q260⟩ := atI (Kd.R_reads' HO_3.out).2.2 x24_2; cases e260; have hcz20_0 : wr.cell? ⟨gb255, 0, none⟩ = some (.slice A0_0 l0_0.length c0_0) := (blk_cell BK255.out 0).trans rfl; have hcz20_1 : wr.cell? ⟨gb255, 1, none⟩ = some (.slice A0_1 l0_1.length c0_1) := (blk_cell BK255.out 1).trans rfl; have hfz20_0 := blk_frozen BK255.out 0; have hfz20_1 := blk_frozen BK255.out 1; go_wp2_with (first | (go_at_call 109; (with_reducible refine (spec_meWay.calls k2 _ _ l0_0 _ _ l0_1 x24_2 t261 _ ?side1 ?side2 ?side3 HC0_1.out A19.out).mono ?_); (case side1 => exact cw (Kd.C_below HR0_0.out HB.out)); (case side2 => exact HC0_0.out); (case side3 => exact cw (Kd.C_below HR0_1.out HB.out)); rintro e w21 ⟨v262, rfl, ho0, hb⟩; have HO263 := Aside0.mk (Kd.R_lower (Kd.R_new' ho0 (Kd.R_lt (rR HO_3.out))) (below_size (bs1 HB.out GE255.out))); replace HO_3 := Aside0.mk (Kd.R_elder' (rR HO_3.out) (Kd.R_base ho0) hb); replace BK255 := bkb BK255 hb; replace HB := Aside0.mk (below_step (bs1 HB.out GE255.out) hb); obtain ⟨Ao22, co22, eo22⟩ := Kd.R_slice HO263.out; subst eo22))
          go_loopg [36] k2 (fun kq v36 w' => ∃ (x3_3 : List Int) (x36_3 : Int), v36 = .int .i64 x36_3 ∧ Aside0 (spec_meColours.l2 kq x3_3 x5_2 (x3_1.length : Int) x24_2 t261 (t261.length : Int) x36_3 l0_0 l0_1 = some r) ∧ Aside0 (kq ≤ k2) ∧ Aside0 (Kd.R (Kd.int .i64) 3 w' w.heap.size (fun k_ => some k_ ≠ ((.slice Ao22 t261.length co22) : Value).ownBlock) (.slice (some ad260) x3_2.length co8) x3_3) ∧ Aside0 (Kd.R (Kd.int .i64) 3 w' w.heap.size (fun k_ => some k_ ≠ ((.slice (some ad260) x3_2.length co8) : Value).ownBlock) (.slice Ao22 t261.length co22) t261) ∧ Aside0 (w'.heap[gb255]? = some (.cells #[(.slice A0_0 l0_0.length c0_0), (.slice A0_1 l0_1.length c0_1)] 71 (0, 0))) ∧ Aside0 (Below w.heap.size w w'))
          case atStart => exact ⟨(x3_2), (0), (sr2), H', ⟨Nat.le_refl _⟩, ⟨by (try simp only [hl3_1]); (try simp only [hl3_2]); (with_reducible repeat (first | apply Kd.R_alloc | apply Kd.R_drewN | apply Kd.R_drew)); exact Kd.R_mono HO_3.out (fun _ hk => hk.2)⟩, ⟨by (try simp only [hl3_1]); (try simp only [hl3_2]); (with_reducible repeat (first | apply Kd.R_alloc | apply Kd.R_drewN | apply Kd.R_drew)); exact Kd.R_mono HO263.out (fun _ hk => hk.2)⟩, ⟨by (try simp only [hl3_1]); (try simp only [hl3_2]); (with_reducible repeat (first | refine blk_drewN ?_ _ | refine blk_drew ?_ | refine blk_alloc ?_ _)); exact BK255.out⟩, ⟨bs1 HB.out GE255.out⟩⟩
          case round =>
           clear H'; obtain ⟨x3_3, x36_3, rfl, HA, HK3, HO_3, HO_34, BK255, HB⟩ := hrel; have hl3_3 := (Kd.R_reads' HO_3.out).1; rw [hl3_3] at HO_3; (try simp only [hl3_3]); (try simp only [hl3_3] at BK255); (try simp only [hl3_3] at HO_34)
           cases gk with
           | zero => exact absurd HA.out (by simp [spec_meColours.l2])
           | succ k3 =>
            have H := HA.out; clear HA; simp only [spec_meColours.l2] at H
            by_cases c23 : x36_3 < (t261.length : Int)
            ·rw [if_pos c23] at H; have c23b0 := decide_eq_true c23; clear c23; (try simp only [hl3_1, hl3_2, hl3_3] at c23b0)
             by_cases c24 : 0 ≤ x36_3
             ·rw [if_pos c24] at H; have c24b0 := decide_eq_true c24; clear c24; (try simp only [hl3_1, hl3_2, hl3_3] at c24b0)
              by_cases c25 : x36_3 < (t261.length : Int)
              ·rw [if_pos c25] at H; have c25b0 := decide_eq_true c25; clear c25; (try simp only [hl3_1, hl3_2, hl3_3] at c25b0)
               by_cases c26 : 0 ≤ (rd t261 x36_3)
               ·rw [if_pos c26] at H; have c26b0 := decide_eq_true c26; clear c26; (try simp only [hl3_1, hl3_2, hl3_3] at c26b0)
                by_cases c27 : (rd t261 x36_3) < (x3_3.length : Int)
                ·rw [if_pos c27] at H; have c27b0 := decide_eq_true c27; clear c27; (try simp only [hl3_1, hl3_2, hl3_3] at c27b0); obtain ⟨y265, hy265⟩ := yy (x3_3.set ((rd t261 x36_3) : Int).toNat x5_2)
                 (try rw [Option.bind_some] at H); (try dsimp only at H); rw [← hy265] at H
                 have Ny265 := Aside0.mk hy265; clear hy265; have H' := Aside0.mk H; clear H; obtain ⟨ad264, e264, hx264_0, p264, q264⟩ := atI (Kd.R_reads' HO_34.out).2.2 x36_3; cases e264; have p28 : 0 ≤ ((rd t261 x36_3) : Int) := od; have q28 : ((rd t261 x36_3) : Int) < ((x3_3.length : Int) : Int) := od; obtain ⟨go28, co28, eo28, gb28, gl28, cl28, HG28⟩ := Kd.R_form HO_3.out (by omega); (first | cases eo28 | (injection eo28 with ea_ en_ ec_; (first | subst ea_ | (injection ea_ with ea_; subst ea_)); subst ec_; clear en_)); have GB28 := Aside0.mk gb28; have GG28 := Aside0.mk HG28; clear gb28 gl28 HG28; (first | simp only [add_plain] at hx260_0 | skip); obtain ⟨hx28_0, hf28_0⟩ := Kd.R_celln 0 HO_3.out ((rd t261 x36_3) : Int) p28 q28; replace p28 := eq_true p28; replace q28 := eq_true q28; have HP29 := Kd.R_putg HO_3.out ((rd t261 x36_3) : Int) x5_2; go_wp2_with (first | ((with_reducible refine gate_store (t := 3) (p := 43) rfl ?_); refine store_event (t := 3) (p := 43) (v := ?vo_w30) (w1 := (wr.setCell ⟨go28, ((rd t261 x36_3) : Int).toNat, none⟩ (.int .i64 x5_2))) ?hg ?ho ?hn ?hr ?_; (case ho => rfl); (case hg => rfl); (case hn => rfl); (case hr => first | (go_simp; done) | (go_simp; rfl)); intro w30 hw; have hg : wr.grownBy w30 (some go28) := (by rw [hw]; exact HP29.2); have hp_ : Kd.R (Kd.int .i64) 3 w30 w.heap.size (fun k_ => some k_ ≠ (.slice (some ad264) t261.length co22 : Value).ownBlock) (.slice (some ⟨go28, 0, none⟩) x3_3.length co8) y265 := (by rw [hw, Ny265.out]; exact HP29.1); clear HP29; replace HO_34 := Aside0.mk (Kd.R_after (v := (.slice (some ⟨go28, 0, none⟩) x3_3.length co8)) (v1 := (.slice (some ⟨go28, 0, none⟩) x3_3.length co8)) (ok := (fun _ => True)) (rR (Kd.R_mono HO_34.out (fun _ hk => ⟨trivial, hk⟩))) hg (.inl rfl)); replace BK255 := Aside0.mk (blk_grown (bk BK255.out) hg (Kd.R_ne HO_3.out BK255.out (by decide))); replace HO_3 := Aside0.mk (hp_); replace HB := Aside0.mk ((by rw [hw]; exact below_set (HB.out) GB28.out : Below w.heap.size w w30)); clear hg hw hp_)); (try simp only [← hl3_3])
                 go_roundg k3
                 case measure => have := HK1.out; have := HK2.out; have := HK3.out; omega
                 case rel => exact ⟨(y265), (wrap64 (x36_3 + 1)), (sr2), H', ⟨by have := HK1.out; have := HK2.out; have := HK3.out; omega⟩, ⟨by (try simp only [hl3_1]); (try simp only [hl3_2]); (try simp only [hl3_3]); (with_reducible repeat (first | apply Kd.R_alloc | apply Kd.R_drewN | apply Kd.R_drew)); exact HO_3.out⟩, ⟨by (try simp only [hl3_1]); (try simp only [hl3_2]); (try simp only [hl3_3]); (with_reducible repeat (first | apply Kd.R_alloc | apply Kd.R_drewN | apply Kd.R_drew)); exact Kd.R_mono HO_34.out (fun _ hk => hk.2)⟩, ⟨by (try simp only [hl3_1]); (try simp only [hl3_2]); (try simp only [hl3_3]); (with_reducible repeat (first | refine blk_drewN ?_ _ | refine blk_drew ?_ | refine blk_alloc ?_ _)); exact BK255.out⟩, ⟨bs1 HB.out GE255.out⟩⟩
                rw [if_neg c27] at H; exact absurd H (by simp)
               rw [if_neg c26] at H; exact absurd H (by simp)
              rw [if_neg c25] at H; exact absurd H (by simp)
             rw [if_neg c24] at H; exact absurd H (by simp)
            rw [if_neg c23] at H; have c23b0 := decide_eq_false c23; clear c23; (try simp only [hl3_1, hl3_2, hl3_3] at c23b0); have H' := Aside0.mk H; clear H; go_wp2; (try simp only [← hl3_2, ← hl3_3])
            go_roundg k3
            case measure => have := HK1.out; have := HK2.out; have := HK3.out; omega
            case rel => exact ⟨(x3_3), (wrap64 (x5_2 + 1)), (wrap64 (x24_2 + 1)), (sr2), (sr2), H', ⟨by have := HK1.out; have := HK2.out; have := HK3.out; omega⟩, ⟨by (try simp only [hl3_1]); (try simp only [hl3_2]); (try simp only [hl3_3]); (with_reducible repeat (first | apply Kd.R_alloc | apply Kd.R_drewN | apply Kd.R_drew)); exact Kd.R_mono HO_3.out (fun _ hk => trivial)⟩, ⟨by (try simp only [hl3_1]); (try simp only [hl3_2]); (try simp only [hl3_3]); (with_reducible repeat (first | refine blk_drewN ?_ _ | refine blk_drew ?_ | refine blk_alloc ?_ _)); exact BK255.out⟩, ⟨bs1 HB.out GE255.out⟩⟩
         rw [if_neg c17] at H; exact absurd H (by simp)
        rw [if_neg c16] at H; exact absurd H (by simp)
       rw [if_neg c15] at H; have c15b0 := decide_eq_false c15; clear c15; (try simp only [hl3_1, hl3_2] at c15b0); obtain rfl := Option.some.inj H; go_wp2; go_ret; exact ⟨_, sr, rR HO_3.out, bs1 HB.out GE255.out⟩
  rw [if_neg c3] at H; exact absurd H (by simp)
 rw [if_neg c2] at H; exact absurd H (by simp)
/-! ### spec_meCount: function 92 -/
def spec_meCount.l0 : Nat → Int → List Int → Int → Int → Option (Int)
 | 0, _, _, _, _ => none
 | k + 1, x3, x7, x8, x9 => if x9 < x8 then (if 0 ≤ x9 then (if x9 < (x7.length : Int) then ((spec_l1Most.f x3 (rd x7 x9)).bind fun t271 => (spec_meCount.l0 k t271 x7 x8 (wrap64 (x9 + 1)))) else (none)) else (none)) else (some (wrap64 (x3 + 1)))
def spec_meCount.f (k : Nat) (l0_0 : List Int) (l0_1 : List Int) : Option (Int) := (spec_meColours.f k l0_0 l0_1).bind fun t267 => (spec_meCount.l0 k (-1) t267 (t267.length : Int) 0)
theorem spec_meCount.mono_l : ∀ k, (∀ y0 y1 y2 y3, LeO (spec_meCount.l0 k y0 y1 y2 y3) (spec_meCount.l0 (k + 1) y0 y1 y2 y3))
 | 0 => fun _ _ _ _ r h => by simp [spec_meCount.l0] at h
 | k + 1 => by
  have ih0 := spec_meCount.mono_l k
  ·intro y0 y1 y2 y3
   unfold spec_meCount.l0
   repeat' first
   | (with_reducible exact ih0 _ _ _ _)
   | (with_reducible exact spec_meColours.mono _ _ _)
   | (with_reducible exact LeO.refl _)
   | (with_reducible exact LeO.none _)
   | (with_reducible refine LeO.ite ?_ ?_)
   | (with_reducible refine LeO.bind ?_ (fun _ => ?_))
   | exact ih0 _ _ _ _
   | exact spec_meColours.mono _ _ _
   | exact LeO.none _
   | refine LeO.ite ?_ ?_
   | refine LeO.bind ?_ (fun _ => ?_)
theorem spec_meCount.mono : ∀ a0 a1 k, LeO (spec_meCount.f k a0 a1) (spec_meCount.f (k + 1) a0 a1) := by
 intro a0 a1 k; have ih0 := spec_meCount.mono_l k; unfold spec_meCount.f
 repeat' first
   | (with_reducible exact ih0 _ _ _ _)
   | (with_reducible exact spec_meColours.mono _ _ _)
   | (with_reducible exact LeO.refl _)
   | (with_reducible exact LeO.none _)
   | (with_reducible refine LeO.ite ?_ ?_)
   | (with_reducible refine LeO.bind ?_ (fun _ => ?_))
   | exact ih0 _ _ _ _
   | exact spec_meColours.mono _ _ _
   | exact LeO.none _
   | refine LeO.ite ?_ ?_
   | refine LeO.bind ?_ (fun _ => ?_)
theorem spec_meCount.calls (k : Nat) (A0_0 : Option Addr) (c0_0 : Nat) (l0_0 : List Int) (A0_1 : Option Addr) (c0_1 : Nat) (l0_1 : List Int) (r : Int) (w : World) (hr0_0 : Kd.C (Kd.int .i64) w A0_0 l0_0.length l0_0) (hc0_0 : l0_0.length ≤ c0_0) (hr0_1 : Kd.C (Kd.int .i64) w A0_1 l0_1.length l0_1) (hc0_1 : l0_1.length ≤ c0_1) (h : spec_meCount.f k l0_0 l0_1 = some r) :
  Calls Try.prog 92 #[.agg #[.slice A0_0 l0_0.length c0_0, .slice A0_1 l0_1.length c0_1]] w fun e w' => e = .returned (.int .i64 r) ∧ Below w.heap.size w w' := by
 have hu71 := Try.underlying71; have HR0_0 := Aside0.mk hr0_0; have HC0_0 := Aside0.mk hc0_0; clear hr0_0 hc0_0; have HR0_1 := Aside0.mk hr0_1; have HC0_1 := Aside0.mk hc0_1; clear hr0_1 hc0_1; have HB := Aside0.mk (Below.refl w.heap.size w); have H : ((spec_meColours.f k l0_0 l0_1).bind fun t267 => (spec_meCount.l0 k (-1) t267 (t267.length : Int) 0)) = some r := h; clear h; obtain ⟨t267, A2, H⟩ := bi H; (try dsimp only at H); have H' := Aside0.mk H; clear H; go_enter Try.func92, Try.ntmps92; go_wp2_with (first | ((with_reducible refine gate_dst (N := 1) rfl ?_); refine box_event ?hg (N := 1) ?hd (cs := #[.slice A0_0 l0_0.length c0_0, .slice A0_1 l0_1.length c0_1]) (t := 71) ?hr ?_; (case hd => rfl); (case hg => rfl); (case hr => first | (go_simp; done) | (go_simp; rfl)); intro gb266 hg w3 hbox hb; have BK266 := Aside0.mk (hbox); have GW266 := Aside0.mk ((by rw [hg]; exact (below_size (bl HB.out)) : w.heap.size ≤ gb266)); have GE266 := Aside0.mk ((by rw [hg]; exact (below_size (bl HB.out)) : w.heap.size ≤ gb266)); replace HB := bst HB hb; clear hb hbox hg; have hcz4_0 : w3.cell? ⟨gb266, 0, none⟩ = some (.slice A0_0 l0_0.length c0_0) := (blk_cell BK266.out 0).trans rfl; have hcz4_1 : w3.cell? ⟨gb266, 1, none⟩ = some (.slice A0_1 l0_1.length c0_1) := (blk_cell BK266.out 1).trans rfl; have hfz4_0 := blk_frozen BK266.out 0; have hfz4_1 := blk_frozen BK266.out 1) | (go_at_call 103; (with_reducible refine (spec_meColours.calls k _ _ l0_0 _ _ l0_1 t267 _ ?side1 ?side2 ?side3 HC0_1.out A2.out).mono ?_); (case side1 => exact cw (Kd.C_below HR0_0.out HB.out)); (case side2 => exact HC0_0.out); (case side3 => exact cw (Kd.C_below HR0_1.out HB.out)); rintro e w5 ⟨v268, rfl, ho0, hb⟩; have HO269 := Aside0.mk (Kd.R_lower ho0 (below_size (bs1 HB.out GE266.out))); replace BK266 := bkb BK266 hb; replace HB := Aside0.mk (below_step (bs1 HB.out GE266.out) hb); obtain ⟨Ao6, co6, eo6⟩ := Kd.R_slice HO269.out; subst eo6))
 go_loopg [3, 9] k (fun kq v3 v9 w' => ∃ (x3_1 : Int) (x9_1 : Int), v3 = .int .i64 x3_1 ∧ v9 = .int .i64 x9_1 ∧ Aside0 (spec_meCount.l0 kq x3_1 t267 (t267.length : Int) x9_1 = some r) ∧ Aside0 (kq ≤ k) ∧ Aside0 (Kd.R (Kd.int .i64) 3 w' w.heap.size (fun _ => True) (.slice Ao6 t267.length co6) t267) ∧ Aside0 (w'.heap[gb266]? = some (.cells #[(.slice A0_0 l0_0.length c0_0), (.slice A0_1 l0_1.length c0_1)] 71 (0, 0))) ∧ Aside0 (Below w.heap.size w w'))
 case atStart => exact ⟨((-1)), (0), (sr2), (sr2), H', ⟨Nat.le_refl _⟩, ⟨rR HO269.out⟩, ⟨by (with_reducible repeat (first | refine blk_drewN ?_ _ | refine blk_drew ?_ | refine blk_alloc ?_ _)); exact BK266.out⟩, ⟨bs1 HB.out GE266.out⟩⟩
 case round =>
  clear H'; obtain ⟨x3_1, x9_1, rfl, rfl, HA, HK1, HO_7, BK266, HB⟩ := hrel
  cases gk with
  | zero => exact absurd HA.out (by simp [spec_meCount.l0])
  | succ k1 =>
   have H := HA.out; clear HA; simp only [spec_meCount.l0] at H
   by_cases c7 : x9_1 < (t267.length : Int)
   ·rw [if_pos c7] at H; have c7b0 := decide_eq_true c7; clear c7
    by_cases c8 : 0 ≤ x9_1
    ·rw [if_pos c8] at H; have c8b0 := decide_eq_true c8; clear c8
     by_cases c9 : x9_1 < (t267.length : Int)
     ·rw [if_pos c9] at H; have c9b0 := decide_eq_true c9; clear c9; obtain ⟨t271, A10, H⟩ := bi H; (try dsimp only at H); have H' := Aside0.mk H; clear H; obtain ⟨ad270, e270, hx270_0, p270, q270⟩ := atI (Kd.R_reads' HO_7.out).2.2 x9_1; cases e270; go_wp2_with (first | (go_at_call 83; (with_reducible refine (spec_l1Most.calls x3_1 (rd t267 x9_1) t271 _ A10.out).mono ?_); rintro e w' ⟨rfl, ⟨nd, rfl⟩⟩))
      go_roundg k1
      case measure => have := HK1.out; omega
      case rel => exact ⟨(t271), (wrap64 (x9_1 + 1)), (sr2), (sr2), H', ⟨by have := HK1.out; omega⟩, ⟨rR HO_7.out⟩, ⟨by (with_reducible repeat (first | refine blk_drewN ?_ _ | refine blk_drew ?_ | refine blk_alloc ?_ _)); exact BK266.out⟩, ⟨bs1 HB.out GE266.out⟩⟩
     rw [if_neg c9] at H; exact absurd H (by simp)
    rw [if_neg c8] at H; exact absurd H (by simp)
   rw [if_neg c7] at H; have c7b0 := decide_eq_false c7; clear c7; obtain rfl := Option.some.inj H; go_wp2; go_ret; exact ⟨sr, bs1 HB.out GE266.out⟩
/-! ### spec_taExponents: function 62 -/
mutual
def spec_taExponents.l0 : Nat → List (List Int) → List (List Int) → List (List Int) → Int → Int → Option ((List (List Int)))
 | 0, _, _, _, _, _ => none
 | k + 1, x3, x4, x12, x13, x14 => if x14 < x13 then (if 0 ≤ x14 then (if x14 < (x12.length : Int) then (spec_taExponents.l1 k x3 x4 (rd_L1 x12 x14) ([] : List Int) x12 x13 x14 x3 (x3.length : Int) 0) else (none)) else (none)) else (some x4)
def spec_taExponents.l1 : Nat → List (List Int) → List (List Int) → List Int → List Int → List (List Int) → Int → Int → List (List Int) → Int → Int → Option ((List (List Int)))
 | 0, _, _, _, _, _, _, _, _, _, _ => none
 | k + 1, x3, x4, x6, x7, x12, x13, x14, x18, x19, x20 => if x20 < x19 then (if 0 ≤ x20 then (if x20 < (x18.length : Int) then ((spec_meCount.f k x6 (rd_L1 x18 x20)).bind fun t277 => (if x7.length < 17592186044416 then (spec_taExponents.l1 k x3 x4 x6 (x7 ++ [t277]) x12 x13 x14 x18 x19 (wrap64 (x20 + 1))) else (none))) else (none)) else (none)) else (if x4.length < 5864062014805 then (spec_taExponents.l0 k x3 (x4 ++ [x7]) x12 x13 (wrap64 (x14 + 1))) else (none))
end
def spec_taExponents.f (k : Nat) (a0 : Int) : Option ((List (List Int))) := (spec_ahAll.f k a0 0).bind fun t272 => (spec_taExponents.l0 k t272 ([] : List (List Int)) t272 (t272.length : Int) 0)
theorem spec_taExponents.mono_l : ∀ k, (∀ y0 y1 y2 y3 y4, LeO (spec_taExponents.l0 k y0 y1 y2 y3 y4) (spec_taExponents.l0 (k + 1) y0 y1 y2 y3 y4)) ∧ (∀ y0 y1 y2 y3 y4 y5 y6 y7 y8 y9, LeO (spec_taExponents.l1 k y0 y1 y2 y3 y4 y5 y6 y7 y8 y9) (spec_taExponents.l1 (k + 1) y0 y1 y2 y3 y4 y5 y6 y7 y8 y9))
 | 0 => ⟨fun _ _ _ _ _ r h => by simp [spec_taExponents.l0] at h, fun _ _ _ _ _ _ _ _ _ _ r h => by simp [spec_taExponents.l1] at h⟩
 | k + 1 => by
  obtain ⟨ih0, ih1⟩ := spec_taExponents.mono_l k
  refine ⟨?_, ?_⟩
  ·intro y0 y1 y2 y3 y4
   unfold spec_taExponents.l0
   repeat' first
   | (with_reducible exact ih0 _ _ _ _ _)
   | (with_reducible exact ih1 _ _ _ _ _ _ _ _ _ _)
   | (with_reducible exact spec_ahAll.mono _ _ _)
   | (with_reducible exact spec_meCount.mono _ _ _)
   | (with_reducible exact LeO.refl _)
   | (with_reducible exact LeO.none _)
   | (with_reducible refine LeO.ite ?_ ?_)
   | (with_reducible refine LeO.bind ?_ (fun _ => ?_))
   | exact ih0 _ _ _ _ _
   | exact ih1 _ _ _ _ _ _ _ _ _ _
   | exact spec_ahAll.mono _ _ _
   | exact spec_meCount.mono _ _ _
   | exact LeO.none _
   | refine LeO.ite ?_ ?_
   | refine LeO.bind ?_ (fun _ => ?_)
  ·intro y0 y1 y2 y3 y4 y5 y6 y7 y8 y9
   unfold spec_taExponents.l1
   repeat' first
   | (with_reducible exact ih0 _ _ _ _ _)
   | (with_reducible exact ih1 _ _ _ _ _ _ _ _ _ _)
   | (with_reducible exact spec_ahAll.mono _ _ _)
   | (with_reducible exact spec_meCount.mono _ _ _)
   | (with_reducible exact LeO.refl _)
   | (with_reducible exact LeO.none _)
   | (with_reducible refine LeO.ite ?_ ?_)
   | (with_reducible refine LeO.bind ?_ (fun _ => ?_))
   | exact ih0 _ _ _ _ _
   | exact ih1 _ _ _ _ _ _ _ _ _ _
   | exact spec_ahAll.mono _ _ _
   | exact spec_meCount.mono _ _ _
   | exact LeO.none _
   | refine LeO.ite ?_ ?_
   | refine LeO.bind ?_ (fun _ => ?_)
theorem spec_taExponents.mono : ∀ a0 k, LeO (spec_taExponents.f k a0) (spec_taExponents.f (k + 1) a0) := by
 intro a0 k; obtain ⟨ih0, ih1⟩ := spec_taExponents.mono_l k; unfold spec_taExponents.f
 repeat' first
   | (with_reducible exact ih0 _ _ _ _ _)
   | (with_reducible exact ih1 _ _ _ _ _ _ _ _ _ _)
   | (with_reducible exact spec_ahAll.mono _ _ _)
   | (with_reducible exact spec_meCount.mono _ _ _)
   | (with_reducible exact LeO.refl _)
   | (with_reducible exact LeO.none _)
   | (with_reducible refine LeO.ite ?_ ?_)
   | (with_reducible refine LeO.bind ?_ (fun _ => ?_))
   | exact ih0 _ _ _ _ _
   | exact ih1 _ _ _ _ _ _ _ _ _ _
   | exact spec_ahAll.mono _ _ _
   | exact spec_meCount.mono _ _ _
   | exact LeO.none _
   | refine LeO.ite ?_ ?_
   | refine LeO.bind ?_ (fun _ => ?_)
theorem spec_taExponents.calls (k : Nat) (a0 : Int) (r : List (List Int)) (w : World) (h : spec_taExponents.f k a0 = some r) :
  Calls Try.prog 62 #[.int .i64 a0] w fun e w' => ∃ v0_ : Value, e = .returned (v0_) ∧ Kd.S (Kd.slice 3 (Kd.int .i64)) 35 w' w.heap.size (fun _ => True) v0_ r ∧ Below w.heap.size w w' := by
 have hu71 := Try.underlying71; have HB := Aside0.mk (Below.refl w.heap.size w); have H : ((spec_ahAll.f k a0 0).bind fun t272 => (spec_taExponents.l0 k t272 ([] : List (List Int)) t272 (t272.length : Int) 0)) = some r := h; clear h; obtain ⟨t272, A2, H⟩ := bi H; (try dsimp only at H); have H' := Aside0.mk H; clear H; go_enter Try.func62, Try.ntmps62; go_wp2_with (first | (go_at_call 91; (with_reducible refine (spec_ahAll.calls k a0 0 t272 _ A2.out).mono ?_); rintro e w3 ⟨v273, rfl, ho0, hb⟩; have HO274 := Aside0.mk (Kd.S_lower ho0 (below_size (bl HB.out))); replace HB := bst HB hb; obtain ⟨Ao4, co4, eo4⟩ := Kd.S_slice HO274.out; subst eo4))
 go_loopg [4, 14] k (fun kq v4 v14 w' => ∃ (x4_1 : List (List Int)) (x14_1 : Int), v14 = .int .i64 x14_1 ∧ Aside0 (spec_taExponents.l0 kq t272 x4_1 t272 (t272.length : Int) x14_1 = some r) ∧ Aside0 (kq ≤ k) ∧ Aside0 (Kd.S (Kd.slice 3 (Kd.int .i64)) 35 w' w.heap.size (fun k_ => some k_ ≠ (v4 : Value).ownBlock) (.slice Ao4 t272.length co4) t272) ∧ Aside0 (Kd.S (Kd.slice 3 (Kd.int .i64)) 35 w' w.heap.size (fun k_ => some k_ ≠ ((.slice Ao4 t272.length co4) : Value).ownBlock ∧ some k_ ≠ ((.slice Ao4 t272.length co4) : Value).ownBlock) v4 x4_1) ∧ Aside0 (Kd.S (Kd.slice 3 (Kd.int .i64)) 35 w' w.heap.size (fun k_ => some k_ ≠ (v4 : Value).ownBlock) (.slice Ao4 t272.length co4) t272) ∧ Aside0 (Below w.heap.size w w'))
 case atStart => exact ⟨(([] : List (List Int))), (0), (sr2), H', ⟨Nat.le_refl _⟩, ⟨rS (Kd.S_mono HO274.out (fun _ hk => (by simp [Value.ownBlock])))⟩, ⟨by first | exact Kd.S_nil _ _ _ _ _ | exact Kd.N_nil _ _ _ _ _ | exact Kd.V_nil _ _ _ _ _ | exact Kd.Q_nil _ _ _ _ _ | exact Kd.R_nil _ _ _ _ _⟩, ⟨rS (Kd.S_mono HO274.out (fun _ hk => (by simp [Value.ownBlock])))⟩, ⟨bl HB.out⟩⟩
 case round =>
  clear H'; obtain ⟨x4_1, x14_1, rfl, HA, HK1, HO_3, HO_4, HO_12, HB⟩ := hrel
  cases gk with
  | zero => exact absurd HA.out (by simp [spec_taExponents.l0])
  | succ k1 =>
   have H := HA.out; clear HA; simp only [spec_taExponents.l0] at H
   by_cases c5 : x14_1 < (t272.length : Int)
   ·rw [if_pos c5] at H; have c5b0 := decide_eq_true c5; clear c5
    by_cases c6 : 0 ≤ x14_1
    ·rw [if_pos c6] at H; have c6b0 := decide_eq_true c6; clear c6
     by_cases c7 : x14_1 < (t272.length : Int)
     ·rw [if_pos c7] at H; have c7b0 := decide_eq_true c7; clear c7; have H' := Aside0.mk H; clear H; have p275 : 0 ≤ (x14_1 : Int) := od; have q275 : x14_1 < (t272.length : Int) := od; obtain ⟨ad275, A275_0, c275_0, e275, hx275_0, hl275_0, hi275_0⟩ := at_L1 (Kd.S_reads' HO_12.out).2.2 x14_1 p275 q275; cases e275; obtain ⟨ce275, hce275, hMe275, hcc275⟩ := Kd.S_get HO_12.out [] x14_1 p275 (by first | exact q275 | exact od | (have e_ := (Kd.S_reads' HO_12.out).1; omega)); obtain ⟨ve275_0, rfl, ge275_0⟩ := hMe275; have hv275_0 := hcc275 0 _ rfl; rw [Nat.add_zero, show ((Kd.slice 3 (Kd.int .i64))).sz = 1 from rfl, Nat.mul_one] at hv275_0; replace hv275_0 := Option.some.inj (hv275_0.symm.trans hx275_0); rw [hv275_0] at ge275_0; have HL275_0 := Aside0.mk (show Kd.R (Kd.int .i64) 3 _ _ _ _ (rd_L1 t272 x14_1) from ge275_0); clear hv275_0 ge275_0; clear hcc275 hce275; have HR275_0 := Aside0.mk hi275_0; have HC275_0 := Aside0.mk hl275_0; clear hi275_0 hl275_0; replace p275 := eq_true p275; replace q275 := eq_true q275; go_wp2
      go_loopg [7, 20] k1 (fun kq v7 v20 w' => ∃ (x7_2 : List Int) (x20_2 : Int), v20 = .int .i64 x20_2 ∧ Aside0 (spec_taExponents.l1 kq t272 x4_1 (rd_L1 t272 x14_1) x7_2 t272 (t272.length : Int) x14_1 t272 (t272.length : Int) x20_2 = some r) ∧ Aside0 (kq ≤ k1) ∧ Aside0 (Kd.S (Kd.slice 3 (Kd.int .i64)) 35 w' w.heap.size (fun k_ => some k_ ≠ (u4 : Value).ownBlock ∧ some k_ ≠ (v7 : Value).ownBlock) (.slice (some ad275) t272.length co4) t272) ∧ Aside0 (Kd.S (Kd.slice 3 (Kd.int .i64)) 35 w' w.heap.size (fun k_ => some k_ ≠ ((.slice (some ad275) t272.length co4) : Value).ownBlock ∧ some k_ ≠ (v7 : Value).ownBlock ∧ some k_ ≠ ((.slice (some ad275) t272.length co4) : Value).ownBlock ∧ some k_ ≠ ((.slice (some ad275) t272.length co4) : Value).ownBlock) u4 x4_1) ∧ Aside0 (Kd.R (Kd.int .i64) 3 w' w.heap.size (fun k_ => some k_ ≠ (v7 : Value).ownBlock) (.slice A275_0 (rd_L1 t272 x14_1).length c275_0) (rd_L1 t272 x14_1)) ∧ Aside0 (Kd.R (Kd.int .i64) 3 w' w.heap.size (fun _ => True) v7 x7_2) ∧ Aside0 (Kd.S (Kd.slice 3 (Kd.int .i64)) 35 w' w.heap.size (fun k_ => some k_ ≠ (u4 : Value).ownBlock ∧ some k_ ≠ (v7 : Value).ownBlock) (.slice (some ad275) t272.length co4) t272) ∧ Aside0 (Kd.S (Kd.slice 3 (Kd.int .i64)) 35 w' w.heap.size (fun k_ => some k_ ≠ (u4 : Value).ownBlock ∧ some k_ ≠ (v7 : Value).ownBlock) (.slice (some ad275) t272.length co4) t272) ∧ Aside0 (Below w.heap.size w w'))
      case atStart => exact ⟨(([] : List Int)), (0), (sr2), H', ⟨Nat.le_refl _⟩, ⟨rS (Kd.S_mono HO_3.out (fun _ hk => ⟨hk, (by simp [Value.ownBlock])⟩))⟩, ⟨rS (Kd.S_mono HO_4.out (fun _ hk => ⟨hk.1, ⟨(by simp [Value.ownBlock]), ⟨hk.2, hk.1⟩⟩⟩))⟩, ⟨rR (Kd.R_mono HL275_0.out (fun _ hk => (by simp [Value.ownBlock])))⟩, ⟨by first | exact Kd.R_nil _ _ _ _ _ | exact Kd.N_nil _ _ _ _ _ | exact Kd.V_nil _ _ _ _ _ | exact Kd.Q_nil _ _ _ _ _ | exact Kd.S_nil _ _ _ _ _⟩, ⟨rS (Kd.S_mono HO_12.out (fun _ hk => ⟨hk, (by simp [Value.ownBlock])⟩))⟩, ⟨rS (Kd.S_mono HO_3.out (fun _ hk => ⟨hk, (by simp [Value.ownBlock])⟩))⟩, ⟨bl HB.out⟩⟩
      case round =>
       clear H'; obtain ⟨x7_2, x20_2, rfl, HA, HK2, HO_3, HO_4, HO_6, HO_7, HO_12, HO_18, HB⟩ := hrel
       cases gk with
       | zero => exact absurd HA.out (by simp [spec_taExponents.l1])
       | succ k2 =>
        have H := HA.out; clear HA; simp only [spec_taExponents.l1] at H
        by_cases c8 : x20_2 < (t272.length : Int)
        ·rw [if_pos c8] at H; have c8b0 := decide_eq_true c8; clear c8
         by_cases c9 : 0 ≤ x20_2
         ·rw [if_pos c9] at H; have c9b0 := decide_eq_true c9; clear c9
          by_cases c10 : x20_2 < (t272.length : Int)
          ·rw [if_pos c10] at H; have c10b0 := decide_eq_true c10; clear c10; obtain ⟨t277, A11, H⟩ := bi H; (try dsimp only at H)
           by_cases c12 : x7_2.length < 17592186044416
           ·rw [if_pos c12] at H; have LMc12 := Aside0.mk c12; clear c12; obtain ⟨y278, hy278⟩ := yy (x7_2 ++ [t277])
            (try rw [Option.bind_some] at H); (try dsimp only at H); rw [← hy278] at H
            have Ny278 := Aside0.mk hy278; clear hy278; have H' := Aside0.mk H; clear H; have p276 : 0 ≤ (x20_2 : Int) := od; have q276 : x20_2 < (t272.length : Int) := od; obtain ⟨ad276, A276_0, c276_0, e276, hx276_0, hl276_0, hi276_0⟩ := at_L1 (Kd.S_reads' HO_18.out).2.2 x20_2 p276 q276; obtain rfl : ad275 = ad276 := (by injection e276); obtain ⟨ce276, hce276, hMe276, hcc276⟩ := Kd.S_get HO_18.out [] x20_2 p276 (by first | exact q276 | exact od | (have e_ := (Kd.S_reads' HO_18.out).1; omega)); obtain ⟨ve276_0, rfl, ge276_0⟩ := hMe276; have hv276_0 := hcc276 0 _ rfl; rw [Nat.add_zero, show ((Kd.slice 3 (Kd.int .i64))).sz = 1 from rfl, Nat.mul_one] at hv276_0; replace hv276_0 := Option.some.inj (hv276_0.symm.trans hx276_0); rw [hv276_0] at ge276_0; have HL276_0 := Aside0.mk (show Kd.R (Kd.int .i64) 3 _ _ _ _ (rd_L1 t272 x20_2) from ge276_0); clear hv276_0 ge276_0; clear hcc276 hce276; have HR276_0 := Aside0.mk hi276_0; have HC276_0 := Aside0.mk hl276_0; clear hi276_0 hl276_0; replace p276 := eq_true p276; replace q276 := eq_true q276; go_wp2_with (first | (go_at_call 92; (with_reducible refine (spec_meCount.calls k2 _ _ (rd_L1 t272 x14_1) _ _ (rd_L1 t272 x20_2) t277 _ ?side1 ?side2 ?side3 HC276_0.out A11.out).mono ?_); (case side1 => exact cw ((Kd.R_reads' HO_6.out).2.2)); (case side2 => exact (Kd.R_reads' HO_6.out).2.1); (case side3 => repeat (first | exact (by repeat (first | (with_reducible exact HR276_0.out) | (with_reducible refine Kd.C_alloc ?_ _) | (with_reducible refine Kd.C_drewN ?_ _) | (with_reducible refine Kd.C_drew ?_) | exact HR276_0.out)) | (with_reducible refine Kd.C_alloc ?_ _) | (with_reducible refine Kd.C_drewN ?_ _) | (with_reducible refine Kd.C_drew ?_))); rintro e w13 ⟨rfl, hb⟩; replace HO_3 := Aside0.mk (Kd.S_below (rS HO_3.out) hb); replace HO_4 := Aside0.mk (Kd.S_below (rS HO_4.out) hb); replace HO_6 := Aside0.mk (Kd.R_below (rR HO_6.out) hb); replace HO_7 := Aside0.mk (Kd.R_below (rR HO_7.out) hb); replace HO_12 := Aside0.mk (Kd.S_below (rS HO_12.out) hb); replace HO_18 := Aside0.mk (Kd.S_below (rS HO_18.out) hb); replace HL276_0 := Aside0.mk (Kd.R_below (rR HL276_0.out) hb); replace HR276_0 := Aside0.mk (Kd.C_below (by repeat (first | (with_reducible exact HR276_0.out) | (with_reducible refine Kd.C_alloc ?_ _) | (with_reducible refine Kd.C_drewN ?_ _) | (with_reducible refine Kd.C_drew ?_) | exact HR276_0.out)) hb); replace HB := bst HB hb) | ((with_reducible refine gate_builtin (b := .append) (xs := #[.tmp 24, .tmp 29]) rfl ?_); at_builtin; refine Kd.R_append (Kd.int .i64) (w0 := w) w.heap.size rfl (.tmp 24) (.tmp 29) 35 3 (.int .i64 0) 8 rfl Try.underlying35 info3 rfl (by decide) (by omega) u7 x7_2 t277 [.int .i64 t277] (fun _ => True) (fun _ => False) rfl rfl ?aP (fun _ hk => hk.elim) ?aF ?aO ?aB ?aS (by have := LMc12.out; omega) ?_; (case aP => exact rfl); (case aB => exact (bl HB.out)); (case aF => exact (fun _ _ => trivial)); (case aO => exact (rR HO_7.out)); (case aS => exact (below_size (bl HB.out))); intro v279 w14 ho hb hg hat; rw [← Ny278.out] at ho; replace HO_3 := Aside0.mk (Kd.S_after (ok := (fun k_ => some k_ ≠ (u4 : Value).ownBlock)) (rS HO_3.out) hg hat); replace HO_4 := Aside0.mk (Kd.S_after (ok := (fun k_ => some k_ ≠ (.slice (some ad275) t272.length co4 : Value).ownBlock ∧ some k_ ≠ (.slice (some ad275) t272.length co4 : Value).ownBlock ∧ some k_ ≠ (.slice (some ad275) t272.length co4 : Value).ownBlock)) (rS (Kd.S_mono HO_4.out (fun _ hk => ⟨⟨hk.1, ⟨hk.2.2.1, hk.2.2.2⟩⟩, hk.2.1⟩))) hg hat); replace HO_6 := Aside0.mk (Kd.R_after (ok := (fun _ => True)) (rR (Kd.R_mono HO_6.out (fun _ hk => ⟨trivial, hk⟩))) hg hat); replace HO_12 := Aside0.mk (Kd.S_after (ok := (fun k_ => some k_ ≠ (u4 : Value).ownBlock)) (rS HO_12.out) hg hat); replace HO_18 := Aside0.mk (Kd.S_after (ok := (fun k_ => some k_ ≠ (u4 : Value).ownBlock)) (rS HO_18.out) hg hat); replace HL276_0 := Aside0.mk (Kd.R_after (ok := (fun k_ => some k_ ≠ (u4 : Value).ownBlock ∧ some k_ ≠ (.slice (some ad275) t272.length co4 : Value).ownBlock)) (rR (Kd.R_mono HL276_0.out (fun _ hk => ⟨⟨hk.1.1, hk.2⟩, hk.1.2⟩))) hg hat); replace HB := Aside0.mk (hb); have HO280 := Aside0.mk (ho); clear HO_7; clear ho hb hg hat))
            go_roundg k2
            case measure => have := HK1.out; have := HK2.out; omega
            case rel => exact ⟨(y278), (wrap64 (x20_2 + 1)), (sr2), H', ⟨by have := HK1.out; have := HK2.out; omega⟩, ⟨rS HO_3.out⟩, ⟨rS (Kd.S_mono HO_4.out (fun _ hk => ⟨hk.1.1, ⟨hk.2, ⟨hk.1.2.1, hk.1.2.2⟩⟩⟩))⟩, ⟨rR (Kd.R_mono HO_6.out (fun _ hk => hk.2))⟩, ⟨rR HO280.out⟩, ⟨rS HO_12.out⟩, ⟨rS HO_18.out⟩, ⟨bl HB.out⟩⟩
           rw [if_neg c12] at H; exact absurd H (by simp)
          rw [if_neg c10] at H; exact absurd H (by simp)
         rw [if_neg c9] at H; exact absurd H (by simp)
        rw [if_neg c8] at H; have c8b0 := decide_eq_false c8; clear c8
        by_cases c15 : x4_1.length < 5864062014805
        ·rw [if_pos c15] at H; have LMc15 := Aside0.mk c15; clear c15; obtain ⟨y281, hy281⟩ := yy (x4_1 ++ [x7_2])
         (try rw [Option.bind_some] at H); (try dsimp only at H); rw [← hy281] at H
         have Ny281 := Aside0.mk hy281; clear hy281; have H' := Aside0.mk H; clear H; obtain ⟨Ao17, co17, eo17⟩ := Kd.R_slice HO_7.out; subst eo17; go_wp2_with (first | ((with_reducible refine gate_builtin (b := .append) (xs := #[.tmp 32, .tmp 34]) rfl ?_); at_builtin; refine Kd.S_append (Kd.slice 3 (Kd.int .i64)) (w0 := w) w.heap.size rfl (.tmp 32) (.tmp 34) 22 35 (.slice none 0 0) 24 rfl Try.underlying22 info35 rfl (by decide) (by omega) u4 x4_1 x7_2 [.slice Ao17 x7_2.length co17] (fun k_ => some k_ ≠ (.slice (some ad275) t272.length co4 : Value).ownBlock ∧ some k_ ≠ (.slice (some ad275) t272.length co4 : Value).ownBlock ∧ some k_ ≠ (.slice (some ad275) t272.length co4 : Value).ownBlock) (fun k_ => some k_ = (.slice Ao17 x7_2.length co17 : Value).ownBlock) rfl rfl ?aP (fun k_ hk_ => ((Kd.R_mono (ok' := fun k_ => ((fun k_ => some k_ ≠ (.slice (some ad275) t272.length co4 : Value).ownBlock ∧ some k_ ≠ (.slice (some ad275) t272.length co4 : Value).ownBlock ∧ some k_ ≠ (.slice (some ad275) t272.length co4 : Value).ownBlock)) k_ ∧ some k_ ≠ (u4 : Value).ownBlock) (Kd.R_apart' (Kd.R_apart' (Kd.R_apart' (Kd.R_apart' (HO_7.out) (Kd.S_typed HO_3.out) (by decide)) (Kd.S_typed HO_12.out) (by decide)) (Kd.S_typed HO_18.out) (by decide)) (Kd.S_typed HO_4.out) (by decide)) (fun k_ hk => ⟨⟨hk.1.1.1.2, ⟨hk.1.1.2, hk.1.2⟩⟩, hk.2⟩))).1 k_ hk_.symm) ?aF ?aO ?aB ?aS (by have := LMc15.out; omega) ?_; (case aP => exact Kd.M_row (Kd.R_mono (Kd.R_tight rfl (Kd.R_mono (ok' := fun k_ => ((fun k_ => some k_ ≠ (.slice (some ad275) t272.length co4 : Value).ownBlock ∧ some k_ ≠ (.slice (some ad275) t272.length co4 : Value).ownBlock ∧ some k_ ≠ (.slice (some ad275) t272.length co4 : Value).ownBlock)) k_ ∧ some k_ ≠ (u4 : Value).ownBlock) (Kd.R_apart' (Kd.R_apart' (Kd.R_apart' (Kd.R_apart' (HO_7.out) (Kd.S_typed HO_3.out) (by decide)) (Kd.S_typed HO_12.out) (by decide)) (Kd.S_typed HO_18.out) (by decide)) (Kd.S_typed HO_4.out) (by decide)) (fun k_ hk => ⟨⟨hk.1.1.1.2, ⟨hk.1.1.2, hk.1.2⟩⟩, hk.2⟩))) (fun _ h_ => h_))); (case aB => exact (bl HB.out)); (case aF => exact (fun k_ hk => ⟨Kd.fresh' (Kd.S_lt (rS HO_3.out)) k_ hk, Kd.fresh' (Kd.S_lt (rS HO_12.out)) k_ hk, Kd.fresh' (Kd.S_lt (rS HO_18.out)) k_ hk⟩)); (case aO => exact (rS (Kd.S_mono HO_4.out (fun k_ hk => ⟨⟨hk.1, ⟨hk.2.2.1, hk.2.2.2⟩⟩, fun e_ => hk.2.1 e_⟩)))); (case aS => exact (below_size (bl HB.out))); intro v282 w16 ho hb hg hat; rw [← Ny281.out] at ho; replace HO_3 := Aside0.mk (Kd.S_after (ok := (fun k_ => some k_ ≠ (.slice Ao17 x7_2.length co17 : Value).ownBlock)) (rS (Kd.S_mono HO_3.out (fun _ hk => by first | exact ⟨hk.2, hk.1⟩ | exact ⟨hk.1, hk.2⟩))) hg hat); replace HO_6 := Aside0.mk (Kd.R_over' (rR HO_6.out) (Kd.S_typed (rS HO_4.out)) (by decide) hg); replace HO_12 := Aside0.mk (Kd.S_after (ok := (fun k_ => some k_ ≠ (.slice Ao17 x7_2.length co17 : Value).ownBlock)) (rS (Kd.S_mono HO_12.out (fun _ hk => by first | exact ⟨hk.2, hk.1⟩ | exact ⟨hk.1, hk.2⟩))) hg hat); replace HO_18 := Aside0.mk (Kd.S_after (ok := (fun k_ => some k_ ≠ (.slice Ao17 x7_2.length co17 : Value).ownBlock)) (rS (Kd.S_mono HO_18.out (fun _ hk => by first | exact ⟨hk.2, hk.1⟩ | exact ⟨hk.1, hk.2⟩))) hg hat); replace HB := Aside0.mk (hb); have HO283 := Aside0.mk (ho); clear HO_4 HO_7; clear ho hb hg hat))
         go_roundg k2
         case measure => have := HK1.out; have := HK2.out; omega
         case rel => exact ⟨(y281), (wrap64 (x14_1 + 1)), (sr2), H', ⟨by have := HK1.out; have := HK2.out; omega⟩, ⟨rS (Kd.S_mono HO_3.out (fun _ hk => hk.2))⟩, ⟨rS (Kd.S_mono HO283.out (fun _ hk => ⟨hk.1, hk.2.1⟩))⟩, ⟨rS (Kd.S_mono HO_12.out (fun _ hk => hk.2))⟩, ⟨bl HB.out⟩⟩
        rw [if_neg c15] at H; exact absurd H (by simp)
     rw [if_neg c7] at H; exact absurd H (by simp)
    rw [if_neg c6] at H; exact absurd H (by simp)
   rw [if_neg c5] at H; have c5b0 := decide_eq_false c5; clear c5; obtain rfl := Option.some.inj H; go_wp2; go_ret; exact ⟨_, sr, rS (Kd.S_mono HO_4.out (fun _ hk => trivial)), bl HB.out⟩
/-! ### spec_taPower: function 76 -/
def spec_taPower.l0 : Nat → Int → Int → Int → Option (Int)
 | 0, _, _, _ => none
 | k + 1, x0, x1, x5 => if x1 > 0 then (spec_taPower.l0 k x0 (wrap64 (x1 - 1)) (wrap64 (x5 * x0))) else (some x5)
def spec_taPower.f (k : Nat) (a0 : Int) (a1 : Int) : Option (Int) := spec_taPower.l0 k a0 a1 1
theorem spec_taPower.mono_l : ∀ k, (∀ y0 y1 y2, LeO (spec_taPower.l0 k y0 y1 y2) (spec_taPower.l0 (k + 1) y0 y1 y2))
 | 0 => fun _ _ _ r h => by simp [spec_taPower.l0] at h
 | k + 1 => by
  have ih0 := spec_taPower.mono_l k
  ·intro y0 y1 y2
   unfold spec_taPower.l0
   repeat' first
   | (with_reducible exact ih0 _ _ _)
   | (with_reducible exact LeO.refl _)
   | (with_reducible exact LeO.none _)
   | (with_reducible refine LeO.ite ?_ ?_)
   | (with_reducible refine LeO.bind ?_ (fun _ => ?_))
   | exact ih0 _ _ _
   | exact LeO.none _
   | refine LeO.ite ?_ ?_
   | refine LeO.bind ?_ (fun _ => ?_)
theorem spec_taPower.mono : ∀ a0 a1 k, LeO (spec_taPower.f k a0 a1) (spec_taPower.f (k + 1) a0 a1) := by
 intro a0 a1 k; have ih0 := spec_taPower.mono_l k; unfold spec_taPower.f
 repeat' first
   | (with_reducible exact ih0 _ _ _)
   | (with_reducible exact LeO.refl _)
   | (with_reducible exact LeO.none _)
   | (with_reducible refine LeO.ite ?_ ?_)
   | (with_reducible refine LeO.bind ?_ (fun _ => ?_))
   | exact ih0 _ _ _
   | exact LeO.none _
   | refine LeO.ite ?_ ?_
   | refine LeO.bind ?_ (fun _ => ?_)
theorem spec_taPower.calls (k : Nat) (a0 : Int) (a1 : Int) (r : Int) (w : World) (h : spec_taPower.f k a0 a1 = some r) :
  Calls Try.prog 76 #[.int .i64 a0, .int .i64 a1] w fun e w' => e = .returned (.int .i64 r) ∧ Drawn0 w w' := by
 have H : (spec_taPower.l0 k a0 a1 1) = some r := h; clear h; have H' := Aside0.mk H; clear H; go_enter Try.func76, Try.ntmps76; go_wp2
 go_loopg [1, 5] k (fun kq v1 v5 w' => ∃ (x1_1 : Int) (x5_1 : Int), v1 = .int .i64 x1_1 ∧ v5 = .int .i64 x5_1 ∧ Aside0 (spec_taPower.l0 kq a0 x1_1 x5_1 = some r) ∧ Aside0 (kq ≤ k) ∧ Drawn0 w w')
 case atStart => exact ⟨(a1), (1), (sr2), (sr2), H', ⟨Nat.le_refl _⟩, by repeat (first | exact Drawn0.refl _ | apply Drawn0.step)⟩
 case round =>
  clear H'; obtain ⟨x1_1, x5_1, rfl, rfl, HA, HK1, ⟨m1, rfl⟩⟩ := hrel
  cases gk with
  | zero => exact absurd HA.out (by simp [spec_taPower.l0])
  | succ k1 =>
   have H := HA.out; clear HA; simp only [spec_taPower.l0] at H
   by_cases c3 : x1_1 > 0
   ·rw [if_pos c3] at H; have c3b0 := decide_eq_true c3; clear c3; have H' := Aside0.mk H; clear H; go_wp2
    go_roundg k1
    case measure => have := HK1.out; omega
    case rel => exact ⟨(wrap64 (x1_1 - 1)), (wrap64 (x5_1 * a0)), (sr2), (sr2), H', ⟨by have := HK1.out; omega⟩, by repeat (first | exact Drawn0.refl _ | apply Drawn0.step)⟩
   rw [if_neg c3] at H; have c3b0 := decide_eq_false c3; clear c3; obtain rfl := Option.some.inj H; go_wp2; go_ret; exact ⟨sr2, by repeat (first | exact Drawn0.refl _ | apply Drawn0.step)⟩
/-! ### spec_taTable: function 72 -/
def spec_taTable.row (k : Nat) (x : Int) : List Int → Option (List Int)
 | [] => some []
 | v :: t => (spec_taPower.f k x v).bind fun p => (spec_taTable.row k x t).bind fun r => some (p :: r)
def spec_taTable.tab (k : Nat) (x : Int) : List (List Int) → Option (List (List Int))
 | [] => some []
 | v :: t => (spec_taTable.row k x v).bind fun p => (spec_taTable.tab k x t).bind fun r => some (p :: r)
def spec_taTable.f (k : Nat) (a0 a1 : Int) : Option (List (List Int)) := (spec_taExponents.f k a0).bind fun R => spec_taTable.tab k a1 R
theorem spec_taTable.row_mono (k : Nat) (x : Int) : ∀ l, LeO (spec_taTable.row k x l) (spec_taTable.row (k + 1) x l)
 | [] => LeO.refl _
 | v :: t => LeO.bind (spec_taPower.mono _ _ _) (fun _ => LeO.bind (spec_taTable.row_mono k x t) (fun _ => LeO.refl _))
theorem spec_taTable.tab_mono (k : Nat) (x : Int) : ∀ l, LeO (spec_taTable.tab k x l) (spec_taTable.tab (k + 1) x l)
 | [] => LeO.refl _
 | v :: t => LeO.bind (spec_taTable.row_mono k x v) (fun _ => LeO.bind (spec_taTable.tab_mono k x t) (fun _ => LeO.refl _))
theorem spec_taTable.mono : ∀ a0 a1 k, LeO (spec_taTable.f k a0 a1) (spec_taTable.f (k + 1) a0 a1) := fun a0 a1 k => LeO.bind (spec_taExponents.mono _ _) (fun _ => spec_taTable.tab_mono k a1 _)
theorem spec_taTable.row_get (k : Nat) (x : Int) : ∀ (l T : List Int), spec_taTable.row k x l = some T → T.length = l.length ∧ ∀ i (h : i < l.length) (h2 : i < T.length), spec_taPower.f k x l[i] = some T[i]
 | [], T, h => by
  obtain rfl := Option.some.inj h
  exact ⟨rfl, fun i h => absurd h (Nat.not_lt_zero _)⟩
 | v :: t, T, h => by
  obtain ⟨p, hp, h⟩ := Option.bind_eq_some_iff.mp h
  obtain ⟨r, hr, h⟩ := Option.bind_eq_some_iff.mp h
  obtain rfl := Option.some.inj h
  have ih := spec_taTable.row_get k x t r hr
  refine ⟨by simp [ih.1], fun i h1 h2 => ?_⟩
  cases i with
  | zero => exact hp
  | succ i => exact ih.2 i (by simpa using h1) (by simpa using h2)
theorem spec_taTable.tab_get (k : Nat) (x : Int) : ∀ (l T : List (List Int)), spec_taTable.tab k x l = some T → T.length = l.length ∧ ∀ i (h : i < l.length) (h2 : i < T.length), spec_taTable.row k x l[i] = some T[i]
 | [], T, h => by
  obtain rfl := Option.some.inj h
  exact ⟨rfl, fun i h => absurd h (Nat.not_lt_zero _)⟩
 | v :: t, T, h => by
  obtain ⟨p, hp, h⟩ := Option.bind_eq_some_iff.mp h
  obtain ⟨r, hr, h⟩ := Option.bind_eq_some_iff.mp h
  obtain rfl := Option.some.inj h
  have ih := spec_taTable.tab_get k x t r hr
  refine ⟨by simp [ih.1], fun i h1 h2 => ?_⟩
  cases i with
  | zero => exact hp
  | succ i => exact ih.2 i (by simpa using h1) (by simpa using h2)
theorem spec_taTable.step {α : Type} (T R : List α) (i : Nat) (h : i < R.length) (hT : i < T.length) : (T.take i ++ R.drop i).set i T[i] = T.take (i + 1) ++ R.drop (i + 1) := by
 (have hl : (T.take i).length = i := by rw [List.length_take]; omega); rw [List.set_append_right _ _ (by omega), hl, Nat.sub_self, List.drop_eq_getElem_cons h, List.set_cons_zero, List.take_succ_eq_append_getElem hT, List.append_assoc]; rfl
theorem spec_taTable.at_ {α : Type} (T R : List α) (i : Nat) (h : i < R.length) (hT : T.length = R.length) (h2 : i < (T.take i ++ R.drop i).length) : (T.take i ++ R.drop i)[i] = R[i] := by
 (have hl : (T.take i).length = i := by rw [List.length_take]; omega); rw [List.getElem_append_right (by omega)]; simp [hl]
theorem spec_taTable.len_ {α : Type} (T R : List α) (i : Nat) (h : i ≤ R.length) (hT : T.length = R.length) : (T.take i ++ R.drop i).length = R.length := by
 rw [List.length_append, List.length_take, List.length_drop]; omega
theorem spec_taTable.calls (k : Nat) (a0 a1 : Int) (r : List (List Int)) (w : World) (h : spec_taTable.f k a0 a1 = some r) :
  Calls Try.prog 72 #[.int .i64 a0, .int .i64 a1] w fun e w' => ∃ v0_ : Value, e = .returned (v0_) ∧ Kd.S (Kd.slice 3 (Kd.int .i64)) 35 w' w.heap.size (fun _ => True) v0_ r ∧ Below w.heap.size w w' := by
 obtain ⟨R, hR, hT⟩ := Option.bind_eq_some_iff.mp h; obtain ⟨hlen, hget⟩ := spec_taTable.tab_get k a1 R r hT; have FR := Aside0.mk hR; have FG := Aside0.mk hget; have FL := Aside0.mk hlen; clear h hR hT hget hlen; go_enter Try.func72, Try.ntmps72; go_wp2_with (go_at_call 62; (with_reducible refine (spec_taExponents.calls k a0 R _ FR.out).mono ?_); rintro e w2 ⟨v2, rfl, ho, hb⟩; obtain ⟨A, c, rfl⟩ := Kd.S_slice ho; have HO := Aside0.mk ho; have HB := Aside0.mk hb; clear ho hb)
 go_loopg [14] R.length (fun kq v14 w' => ∃ (i : Nat), v14 = .int .i64 i ∧ i ≤ R.length ∧ R.length - i ≤ kq ∧ Aside0 (Kd.S (Kd.slice 3 (Kd.int .i64)) 35 w' w.heap.size (fun _ => True) (.slice A R.length c) (r.take i ++ R.drop i)) ∧ Aside0 (Below w.heap.size w w'))
 case atStart => exact ⟨0, by go_num, Nat.zero_le _, by omega, ⟨by simpa using HO.out⟩, HB⟩
 case round =>
  clear HO HB; obtain ⟨i, rfl, hi, hg, HO, HB⟩ := hrel
  by_cases hlt : i < R.length
  ·(have hltz : (i : Int) < (R.length : Int) := by omega); have hll := spec_taTable.len_ r R i hi FL.out; have hrow := FG.out i hlt (by have := FL.out; omega); have HRL := Aside0.mk hrow; obtain ⟨g, v, oki, rfl, hcell, hRw, hoki, hback⟩ := RowsS.S_one i (by omega) HO.out; rw [spec_taTable.at_ r R i hlt FL.out (by omega)] at hRw; obtain ⟨Ai, ci, rfl⟩ := Kd.R_slice hRw; obtain ⟨hTl, hTg⟩ := spec_taTable.row_get k a1 _ _ HRL.out; generalize hrw : R[i] = row at hRw hTl hTg hcell hback HRL; (have hrl : i < r.length := by have := FL.out; omega); generalize htw : r[i] = T at hTl hTg HRL; have TW := Aside0.mk htw; clear htw hrw hrow; have TL := Aside0.mk hTl; have TG := Aside0.mk hTg; have RW := Aside0.mk hRw; have BK := Aside0.mk hback; have HK := Aside0.mk (Kept.refl wr oki); have HO2 := HO; clear hTl hTg hRw hback hll hoki HO HRL; go_wp2
   go_loopg [20] row.length (fun kq v20 w' => ∃ (j : Nat), v20 = .int .i64 j ∧ j ≤ row.length ∧ row.length - j ≤ kq ∧ Aside0 (Kd.R (Kd.int .i64) 3 w' w.heap.size oki (.slice Ai row.length ci) (T.take j ++ row.drop j)) ∧ Aside0 (Kept wr w' oki) ∧ Aside0 (Below w.heap.size w w'))
   case atStart => exact ⟨0, by go_num, Nat.zero_le _, by omega, ⟨by simpa using RW.out⟩, HK, HB⟩
   case round =>
    clear RW HK HB; obtain ⟨j, rfl, hj, hgj, RW, HK, HB⟩ := hrel
    by_cases hltj : j < row.length
    ·(have hltzj : (j : Int) < (row.length : Int) := by omega); have hlj := spec_taTable.len_ T row j hj TL.out; obtain ⟨go, co, eo, gb, gl, cl, HG⟩ := Kd.R_form RW.out (by omega); (injection eo with e1 e2 e3); subst e1 e3; (have p5 : (0 : Int) ≤ (j : Int) := by omega); (have q5 : (j : Int) < ((row.length : Nat) : Int) := by omega); obtain ⟨hx, hf⟩ := Kd.R_celln 0 RW.out (j : Int) p5 q5
     have hv : rdOf 0 (T.take j ++ row.drop j) (j : Int) = row[j] := by
      unfold rdOf; rw [Int.toNat_natCast, List.getD_eq_getElem?_getD, List.getElem?_eq_getElem (by omega)]; exact spec_taTable.at_ T row j hltj TL.out (by omega)
     have hp := TG.out j hltj (by have := TL.out; omega); have FP := Aside0.mk hp; have HN := Aside0.mk (spec_taTable.step T row j hltj (by have := TL.out; omega)); simp only [Int.toNat_natCast] at hx hf; rw [hv] at hx; generalize row[j] = vj at hx FP; clear hv; generalize T[j]'(by have := TL.out; omega) = tj at FP HN; clear hp hlj p5 e2; go_wp2_with (go_at_call 76; (with_reducible refine (spec_taPower.calls k a1 vj tj _ FP.out).mono ?_); rintro e w4 ⟨rfl, hd⟩; have hb := RowsS.drawn_below hd; clear hd; have RW4 := Aside0.mk (Kd.R_below RW.out hb); have hK4 := Aside0.mk (Kept.below HK.out hb); have hB4 := Aside0.mk (below_step HB.out hb); clear RW HK HB hb hx hf; have RW := RW4; have HK := hK4; have HB := hB4; clear RW4 hK4 hB4; obtain ⟨hx, hf⟩ := Kd.R_celln 0 RW.out (j : Int) (by omega) (by omega); simp only [Int.toNat_natCast] at hx hf)
     have hw1 : wrap64 ((j : Int) + 1) = ((j + 1 : Nat) : Int) := by
      have hm := (Kd.R_reads' RW.out).2.2.2.1; rw [spec_taTable.len_ T row j hj TL.out] at hm; unfold wrap64; omega
     have hP := Kd.R_putg RW.out (j : Int) tj; rw [Int.toNat_natCast, HN.out] at hP; (have hs1 : Value.int .i64 (wrap64 ((j : Int) + 1)) = Value.int .i64 ((j + 1 : Nat) : Int) := by rw [hw1]); have hj1 : j + 1 ≤ row.length := hltj; clear hw1
     go_roundg (row.length - (j + 1))
     case measure => exact Nat.lt_of_lt_of_le (Nat.sub_lt_sub_left hltj (Nat.lt_succ_self j)) hgj
     case rel => exact ⟨j + 1, hs1, hj1, Nat.le_refl _, ⟨hP.1⟩, ⟨Kept.of_grown hP.2 HK.out (fun q hq => .inl (RW.out.1 q hq))⟩, ⟨below_set HB.out gb⟩⟩
    (have hje : j = row.length := by omega); subst hje; have hltzj : ¬ ((row.length : Int) < (row.length : Int)) := by omega
    have hrow2 : T.take row.length ++ row.drop row.length = T := by
     rw [List.drop_length, List.append_nil]; exact List.take_of_length_le (Nat.le_of_eq TL.out)
    rw [hrow2] at RW; have HS := BK.out _ T oki RW.out HK.out
    have hw1 : wrap64 ((i : Int) + 1) = ((i + 1 : Nat) : Int) := by
     have hm := (Kd.S_reads' HO2.out).2.2.2.1; rw [spec_taTable.len_ r R i hi FL.out] at hm; unfold wrap64; omega
    have HN := spec_taTable.step r R i hlt (by have := FL.out; omega); rw [TW.out] at HN; rw [HN] at HS; have HS2 := Aside0.mk HS; clear HS HN hrow2 RW; go_wp2; have hi1 : i + 1 ≤ R.length := hlt; clear hw1
    go_roundg (R.length - (i + 1))
    case measure => exact Nat.lt_of_lt_of_le (Nat.sub_lt_sub_left hlt (Nat.lt_succ_self i)) hg
    case rel => exact ⟨i + 1, by go_num, hi1, Nat.le_refl _, HS2, HB⟩
  (have hie : i = R.length := by omega); subst hie; have hltz : ¬ ((R.length : Int) < (R.length : Int)) := by omega
  have hr2 : r.take R.length ++ R.drop R.length = r := by
   rw [List.drop_length, List.append_nil]; exact List.take_of_length_le (Nat.le_of_eq FL.out)
  rw [hr2] at HO; clear hr2; go_wp2; go_ret; exact ⟨.slice A R.length c, rfl, HO.out, HB.out⟩
end Go.Proofs.Ytbphdjnainlbhaa.R
