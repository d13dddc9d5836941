-- printed by wip/drv/xprint.py (our driver), shortened by wip/drv/squeeze.py: those functions that the claim reaches; Lean checks it
import Derived.Test.YtbphdjnainlbhaaProg
import Derived.Below
import Derived.Deep.Draws
import Derived.Deep.AppendLies
import Derived.Maps.AppendAt
import Derived.OwnWalk
import Derived.Laws.BytesArg
import Derived.Laws.MakeOwn
import Derived.Laws.OwnMore
import Derived.Deep.OwnRows
import Derived.Tactics
import Derived.Lib.ConvBytes
import Derived.Laws.Slices
import Derived.WalkKit
import Derived.KernelRfl
import Derived.RowKit3
import Derived.Deep.LoopGhost
import Derived.Deep.QuietTactic
import Derived.BigQuiet
import Derived.WideLaws
import Derived.Deep.DeepCutAuto
import Derived.Deep.CutBlock
import Derived.Deep.RegionHeld3
import Derived.Laws.Rows
import Derived.Lib.AppendStr
import Derived.ArgAppend
import Derived.Laws.IdiomCopy
import Derived.OrdersHeld
import Derived.Laws.BitsLemmas
import Derived.RowKit
import Derived.Lib.SliceRun
import Derived.Laws.CopyOwn
import Derived.Deep.RegionLaw
import Derived.Deep.DeepMust
import Derived.Lib.Small
import Derived.Lib.Walk
import Derived.Lib.BitFns
import Derived.WalkSpells
import Derived.Test.YtbphdjnainlbhaaRowsS
import Derived.Test.YtbphdjnainlbhaaMatS
import Derived.Deep.RegionHeld3
import Derived.Test.YtbphdjnainlbhaaSortS
import Derived.Test.YtbphdjnainlbhaaShelf
import Derived.Test.YtbphdjnainlbhaaWWords
import Derived.Test.YtbphdjnainlbhaaWLast
import Derived.Test.YtbphdjnainlbhaaWTab
import Derived.Test.YtbphdjnainlbhaaWFour
import Derived.Test.YtbphdjnainlbhaaWQPut
import Derived.Test.YtbphdjnainlbhaaWApart
import Derived.Test.YtbphdjnainlbhaaWArr
import Derived.Test.YtbphdjnainlbhaaWZeros
import Derived.Test.YtbphdjnainlbhaaWFoot
import Derived.Test.YtbphdjnainlbhaaWKept
import Derived.Test.YtbphdjnainlbhaaWShare
import Derived.Test.YtbphdjnainlbhaaWN
import Derived.Test.YtbphdjnainlbhaaWFootNe
import Derived.Test.YtbphdjnainlbhaaWAt
import Derived.Test.YtbphdjnainlbhaaWEqStruct
import Derived.Test.YtbphdjnainlbhaaWRepsOne
import Derived.Test.YtbphdjnainlbhaaWInv
import Derived.Test.YtbphdjnainlbhaaWInvWords
import Derived.Test.YtbphdjnainlbhaaWGuard
import Derived.Test.YtbphdjnainlbhaaWNEv
import Derived.Test.YtbphdjnainlbhaaWMore
import Derived.Test.YtbphdjnainlbhaaShort
import Derived.Test.YtbphdjnainlbhaaShort2
namespace Go.Proofs.Ytbphdjnainlbhaa.R
open Go.Proofs.Ytbphdjnainlbhaa.Short Go.RowKit Go.Proofs.YtbphdjnainlbhaaW.PrintWords Go.Proofs.YtbphdjnainlbhaaW.PrintLast Go.Proofs.YtbphdjnainlbhaaW.PrintMore
attribute [local go_sem] max2_int min2_int max_two min_two max_three min_three max_four min_four   -- for this text's walks alone
set_option linter.unusedVariables false
set_option linter.unusedSimpArgs false



set_option maxHeartbeats 8000000
set_option maxRecDepth 100000
def errW : Option Int → Value
  | none => .nilIface
  | some c => .iface 0 (.int .i64 c)
theorem errW_none : errW none = .nilIface := rfl
theorem errW_some (c : Int) : errW (some c) = .iface 0 (.int .i64 c) := rfl

theorem info3 : (Try.prog.info? 3).map (fun i => (i.zero, i.size, i.bytes)) = some (some (.int .i64 0), 1, 8) := by kernel_rfl
theorem info35 : (Try.prog.info? 35).map (fun i => (i.zero, i.size, i.bytes)) = some (some (.slice none 0 0), 1, 24) := by kernel_rfl
theorem info71 : (Try.prog.info? 71).map (fun i => (i.zero, i.size, i.bytes)) = some (some (.agg #[(.slice none 0 0), (.slice none 0 0)]), 2, 48) := by kernel_rfl
-- the values' own types
def rd_L1 (xs : List (List Int)) (i : Int) : (List Int) := xs.getD i.toNat ([] : List Int)
theorem at_L1 {w : World} {A : Option Addr} {n : Nat} {xs : List (List Int)} (h : Kd.C (Kd.slice 3 (Kd.int .i64)) w A n xs) (i : Int) (h0 : 0 ≤ i) (h1 : i < n) : ∃ ad A0 c0, A = some ad ∧ w.cell? (ad.add i.toNat) = some (.slice A0 (rd_L1 xs i).length c0) ∧ (rd_L1 xs i).length ≤ c0 ∧ (Kd.int .i64).C w A0 (rd_L1 xs i).length (rd_L1 xs i) := by
  obtain ⟨ad, c, e, _, hK, hc0⟩ := Kd.C_get h ([] : List Int) i h0 h1
  have hc : ∀ j u, c[j]? = some u → w.cell? (ad.add (i.toNat * 1 + j)) = some u := hc0
  obtain ⟨A0, c0, rfl, l0, g0⟩ := hK
  exact ⟨ad, A0, c0, e, by have hq := hc 0 _ rfl; rwa [Nat.mul_one, Nat.add_zero] at hq, l0, g0⟩

def rd_L2 (xs : List (List (List Int))) (i : Int) : (List (List Int)) := xs.getD i.toNat ([] : List (List Int))
theorem at_L2 {w : World} {A : Option Addr} {n : Nat} {xs : List (List (List Int))} (h : Kd.C (Kd.slice 35 (Kd.slice 3 (Kd.int .i64))) w A n xs) (i : Int) (h0 : 0 ≤ i) (h1 : i < n) : ∃ ad A0 c0, A = some ad ∧ w.cell? (ad.add i.toNat) = some (.slice A0 (rd_L2 xs i).length c0) ∧ (rd_L2 xs i).length ≤ c0 ∧ (Kd.slice 3 (Kd.int .i64)).C w A0 (rd_L2 xs i).length (rd_L2 xs i) := by
  obtain ⟨ad, c, e, _, hK, hc0⟩ := Kd.C_get h ([] : List (List Int)) i h0 h1
  have hc : ∀ j u, c[j]? = some u → w.cell? (ad.add (i.toNat * 1 + j)) = some u := hc0
  obtain ⟨A0, c0, rfl, l0, g0⟩ := hK
  exact ⟨ad, A0, c0, e, by have hq := hc 0 _ rfl; rwa [Nat.mul_one, Nat.add_zero] at hq, l0, g0⟩

/-! #### struct type 71 -/
structure S71 where
  f0 : (List Int)
  f1 : (List Int)
def z71 : S71 := ⟨([] : List Int), ([] : List Int)⟩
def k71 : Kd S71 := Kd.iso (Kd.pair (Kd.slice 3 (Kd.int .i64)) (Kd.slice 3 (Kd.int .i64))) (fun x : S71 => (x.f0, x.f1))
theorem k71_open {w : World} {x : S71} {cs : List Value} (h : k71.K w x cs) : ∃ A0 c0 A1 c1, cs = [.slice A0 x.f0.length c0, .slice A1 x.f1.length c1] ∧ x.f0.length ≤ c0 ∧ (Kd.int .i64).C w A0 x.f0.length x.f0 ∧ x.f1.length ≤ c1 ∧ (Kd.int .i64).C w A1 x.f1.length x.f1 := by
  obtain ⟨_, _, rfl, ⟨A0, c0, rfl, l0, g0⟩, ⟨A1, c1, rfl, l1, g1⟩⟩ := h
  exact ⟨A0, c0, A1, c1, rfl, l0, g0, l1, g1⟩
theorem k71_openM {w : World} {base : Nat} {ok : Nat → Prop} {x : S71} {cs : List Value} (h : k71.M w base ok x cs) : ∃ v0 v1, cs = [v0, v1] ∧ (Kd.int .i64).R 3 w base ok v0 x.f0 ∧ (Kd.int .i64).R 3 w base ok v1 x.f1 := by
  obtain ⟨_, _, rfl, ⟨v0, rfl, g0⟩, ⟨v1, rfl, g1⟩⟩ := h
  exact ⟨v0, v1, rfl, g0, g1⟩
theorem k71_mk (w : World) (x : S71) {A0 : Option Addr} {c0 : Nat} (l0 : x.f0.length ≤ c0) (g0 : (Kd.int .i64).C w A0 x.f0.length x.f0) {A1 : Option Addr} {c1 : Nat} (l1 : x.f1.length ≤ c1) (g1 : (Kd.int .i64).C w A1 x.f1.length x.f1) : k71.K w x [.slice A0 x.f0.length c0, .slice A1 x.f1.length c1] := ⟨[.slice A0 x.f0.length c0], [.slice A1 x.f1.length c1], rfl, ⟨A0, c0, rfl, l0, g0⟩, ⟨A1, c1, rfl, l1, g1⟩⟩
theorem k71_mkM (w : World) (base : Nat) (ok : Nat → Prop) (x : S71) {v0 : Value} (g0 : (Kd.int .i64).R 3 w base ok v0 x.f0) {v1 : Value} (g1 : (Kd.int .i64).R 3 w base ok v1 x.f1) : k71.M w base ok x [v0, v1] := ⟨[v0], [v1], rfl, ⟨v0, rfl, g0⟩, ⟨v1, rfl, g1⟩⟩
theorem k71_openF {W : World} {ok : Nat → Prop} {x : S71} {cs : List Value} (h : Kd.FK k71 W ok x cs) : ∃ A0 c0 A1 c1, cs = [.slice A0 x.f0.length c0, .slice A1 x.f1.length c1] ∧ x.f0.length ≤ c0 ∧ Kd.F (Kd.int .i64) W ok A0 x.f0.length x.f0 ∧ x.f1.length ≤ c1 ∧ Kd.F (Kd.int .i64) W ok A1 x.f1.length x.f1 := by
  obtain ⟨A0, c0, A1, c1, rfl, l0, _, l1, _⟩ := k71_open (Kd.FK_now h)
  exact ⟨A0, c0, A1, c1, rfl, l0, (fun W' hW => by obtain ⟨A0_, c0_, A1_, c1_, he, l0_, g0_, l1_, g1_⟩ := k71_open (h W' hW); injection (Option.some.inj (show some (Value.slice A0 x.f0.length c0) = some (Value.slice A0_ x.f0.length c0_) from congrArg (fun l => l[0]?) he)) with ha_ _ _; rw [ha_]; exact g0_), l1, (fun W' hW => by obtain ⟨A0_, c0_, A1_, c1_, he, l0_, g0_, l1_, g1_⟩ := k71_open (h W' hW); injection (Option.some.inj (show some (Value.slice A1 x.f1.length c1) = some (Value.slice A1_ x.f1.length c1_) from congrArg (fun l => l[1]?) he)) with ha_ _ _; rw [ha_]; exact g1_)⟩
theorem k71_mkF (W : World) (ok : Nat → Prop) (x : S71) {A0 : Option Addr} {c0 : Nat} (l0 : x.f0.length ≤ c0) (g0 : Kd.F (Kd.int .i64) W ok A0 x.f0.length x.f0) {A1 : Option Addr} {c1 : Nat} (l1 : x.f1.length ≤ c1) (g1 : Kd.F (Kd.int .i64) W ok A1 x.f1.length x.f1) : Kd.FK k71 W ok x [.slice A0 x.f0.length c0, .slice A1 x.f1.length c1] := fun W2 hW => k71_mk W2 x l0 (g0 W2 hW) l1 (g1 W2 hW)
def rd_T71 (xs : List S71) (i : Int) : S71 := xs.getD i.toNat z71
theorem at_T71 {w : World} {A : Option Addr} {n : Nat} {xs : List S71} (h : Kd.C k71 w A n xs) (i : Int) (h0 : 0 ≤ i) (h1 : i < n) : ∃ ad A0 c0 A1 c1, A = some ad ∧ w.cell? (ad.add (i.toNat * 2)) = some (.slice A0 (rd_T71 xs i).f0.length c0) ∧ w.cell? ⟨(ad.add (i.toNat * 2)).block, (ad.add (i.toNat * 2)).off + 1, none⟩ = some (.slice A1 (rd_T71 xs i).f1.length c1) ∧ (rd_T71 xs i).f0.length ≤ c0 ∧ (Kd.int .i64).C w A0 (rd_T71 xs i).f0.length (rd_T71 xs i).f0 ∧ (rd_T71 xs i).f1.length ≤ c1 ∧ (Kd.int .i64).C w A1 (rd_T71 xs i).f1.length (rd_T71 xs i).f1 := by
  obtain ⟨ad, c, e, _, hK, hc0⟩ := Kd.C_get h z71 i h0 h1
  have hc : ∀ j u, c[j]? = some u → w.cell? (ad.add (i.toNat * 2 + j)) = some u := hc0
  obtain ⟨A0, c0, A1, c1, rfl, l0, g0, l1, g1⟩ := k71_open hK
  exact ⟨ad, A0, c0, A1, c1, e, hc 0 _ rfl, by rw [← add_field _ _ 1 (by omega)]; exact hc 1 _ rfl, l0, g0, l1, g1⟩
theorem sr {p : Prop} (h : p := by first | rfl | (simp [errW_none, errW_some] <;> rfl) | (simp [*, errW_none, errW_some] <;> rfl)) : p := h
/-! ### spec_l1In: function 79 -/
def spec_l1In.f (a0 : Int) (a1 : Int) (a2 : Int) : Option (Bool) := if a0 ≥ a1 then (some (decide (a0 ≤ a2))) else (some false)
theorem spec_l1In.calls (a0 : Int) (a1 : Int) (a2 : Int) (r : Bool) (w : World) (h : spec_l1In.f a0 a1 a2 = some r) :
  Calls Try.prog 79 #[.int .i64 a0, .int .i64 a1, .int .i64 a2] w fun e w' => e = .returned (.bool r) ∧ Drawn0 w w' := by
 have H : (if a0 ≥ a1 then (some (decide (a0 ≤ a2))) else (some false)) = some r := h; clear h
 by_cases c4 : a0 ≥ a1
 ·rw [if_pos c4] at H; have c4b0 := decide_eq_true c4; clear c4; obtain rfl := Option.some.inj H; go_enter Try.func79, Try.ntmps79; go_wp2; go_ret; exact ⟨sr2, by repeat (first | exact Drawn0.refl _ | apply Drawn0.step)⟩
 rw [if_neg c4] at H; have c4b0 := decide_eq_false c4; clear c4; obtain rfl := Option.some.inj H; go_enter Try.func79, Try.ntmps79; go_wp2; go_ret; exact ⟨sr2, by repeat (first | exact Drawn0.refl _ | apply Drawn0.step)⟩
/-! ### spec_l1All: function 68 -/
def spec_l1All.l0 : Nat → Int → Int → List Int → Int → Int → Option (Bool)
 | 0, _, _, _, _, _ => none
 | k + 1, x1, x2, x9, x10, x11 => if x11 < x10 then (if 0 ≤ x11 then (if x11 < (x9.length : Int) then ((spec_l1In.f (rd x9 x11) x1 x2).bind fun t102 => (if t102 = true then (spec_l1All.l0 k x1 x2 x9 x10 (wrap64 (x11 + 1))) else (some false))) else (none)) else (none)) else (some true)
def spec_l1All.f (k : Nat) (l0 : List Int) (a1 : Int) (a2 : Int) : Option (Bool) := spec_l1All.l0 k a1 a2 l0 (l0.length : Int) 0
theorem spec_l1All.calls (k : Nat) (A0 : Option Addr) (c0 : Nat) (l0 : List Int) (a1 : Int) (a2 : Int) (r : Bool) (w : World) (hr0 : Kd.C (Kd.int .i64) w A0 l0.length l0) (hc0 : l0.length ≤ c0) (h : spec_l1All.f k l0 a1 a2 = some r) :
  Calls Try.prog 68 #[.slice A0 l0.length c0, .int .i64 a1, .int .i64 a2] w fun e w' => e = .returned (.bool r) ∧ Drawn0 w w' := by
 have HR0 := Aside0.mk hr0; have HC0 := Aside0.mk hc0; clear hr0 hc0; have H : (spec_l1All.l0 k a1 a2 l0 (l0.length : Int) 0) = some r := h; clear h; have H' := Aside0.mk H; clear H; go_enter Try.func68, Try.ntmps68; go_wp2
 go_loopg [11] k (fun kq v11 w' => ∃ (x11_1 : Int), v11 = .int .i64 x11_1 ∧ Aside0 (spec_l1All.l0 kq a1 a2 l0 (l0.length : Int) x11_1 = some r) ∧ Aside0 (kq ≤ k) ∧ Drawn0 w w')
 case atStart => exact ⟨(0), (sr2), H', ⟨Nat.le_refl _⟩, by repeat (first | exact Drawn0.refl _ | apply Drawn0.step)⟩
 case round =>
  clear H'; obtain ⟨x11_1, rfl, HA, HK1, ⟨m1, rfl⟩⟩ := hrel
  cases gk with
  | zero => exact absurd HA.out (by simp [spec_l1All.l0])
  | succ k1 =>
   have H := HA.out; clear HA; simp only [spec_l1All.l0] at H
   by_cases c4 : x11_1 < (l0.length : Int)
   ·rw [if_pos c4] at H; have c4b0 := decide_eq_true c4; clear c4
    by_cases c5 : 0 ≤ x11_1
    ·rw [if_pos c5] at H; have c5b0 := decide_eq_true c5; clear c5
     by_cases c6 : x11_1 < (l0.length : Int)
     ·rw [if_pos c6] at H; have c6b0 := decide_eq_true c6; clear c6; obtain ⟨t102, A7, H⟩ := bi H; (try dsimp only at H)
      by_cases c8 : t102 = true
      ·subst c8; rw [if_pos rfl] at H; have H' := Aside0.mk H; clear H; obtain ⟨ad101, e101, hx101_0, p101, q101⟩ := atI HR0.out x11_1; cases e101; go_wp2_with (first | (go_at_call 79; (with_reducible refine (spec_l1In.calls (rd l0 x11_1) a1 a2 true _ A7.out).mono ?_); rintro e w' ⟨rfl, ⟨nd, rfl⟩⟩))
       go_roundg k1
       case measure => have := HK1.out; omega
       case rel => exact ⟨(wrap64 (x11_1 + 1)), (sr2), H', ⟨by have := HK1.out; omega⟩, by repeat (first | exact Drawn0.refl _ | apply Drawn0.step)⟩
      replace c8 := Bool.eq_false_iff.mpr c8; subst c8; rw [if_neg (show ¬ (false = true) by decide)] at H; obtain rfl := Option.some.inj H; obtain ⟨ad101, e101, hx101_0, p101, q101⟩ := atI HR0.out x11_1; cases e101; go_wp2_with (first | (go_at_call 79; (with_reducible refine (spec_l1In.calls (rd l0 x11_1) a1 a2 false _ A7.out).mono ?_); rintro e w' ⟨rfl, ⟨nd, rfl⟩⟩)); go_ret; exact ⟨sr2, by repeat (first | exact Drawn0.refl _ | apply Drawn0.step)⟩
     rw [if_neg c6] at H; exact absurd H (by simp)
    rw [if_neg c5] at H; exact absurd H (by simp)
   rw [if_neg c4] at H; have c4b0 := decide_eq_false c4; clear c4; obtain rfl := Option.some.inj H; go_wp2; go_ret; exact ⟨sr2, by repeat (first | exact Drawn0.refl _ | apply Drawn0.step)⟩
/-! ### spec_taRows: function 44 -/
mutual
def spec_taRows.j0 : Nat → List (List Int) → Int → Option (Bool)
 | 0, _, _ => none
 | k + 1, x0, x3 => spec_taRows.l0 k x0 x3 x0 (x0.length : Int) 0
def spec_taRows.l0 : Nat → List (List Int) → Int → List (List Int) → Int → Int → Option (Bool)
 | 0, _, _, _, _, _ => none
 | k + 1, x0, x3, x13, x14, x15 => if x15 < x14 then (if 0 ≤ x15 then (if x15 < (x13.length : Int) then (if ((rd_L1 x13 x15).length : Int) = (x0.length : Int) then ((spec_l1All.f k (rd_L1 x13 x15) (wrap64 (-x3)) x3).bind fun t105 => (if t105 = true then (spec_taRows.l0 k x0 x3 x13 x14 (wrap64 (x15 + 1))) else (some false))) else (some false)) else (none)) else (none)) else (some true)
end
def spec_taRows.f (k : Nat) (l0 : List (List Int)) : Option (Bool) := (spec_l1In.f (l0.length : Int) 1 14).bind fun t103 => (if t103 = true then (if (l0.length : Int) > 5 then (spec_taRows.j0 k l0 16) else (spec_taRows.j0 k l0 100)) else (some false))
theorem spec_taRows.calls (k : Nat) (A0 : Option Addr) (c0 : Nat) (l0 : List (List Int)) (r : Bool) (w : World) (hr0 : Kd.C (Kd.slice 3 (Kd.int .i64)) w A0 l0.length l0) (hc0 : l0.length ≤ c0) (h : spec_taRows.f k l0 = some r) :
  Calls Try.prog 44 #[.slice A0 l0.length c0] w fun e w' => e = .returned (.bool r) ∧ Drawn0 w w' := by
 have HR0 := Aside0.mk hr0; have HC0 := Aside0.mk hc0; clear hr0 hc0; have H : ((spec_l1In.f (l0.length : Int) 1 14).bind fun t103 => (if t103 = true then (if (l0.length : Int) > 5 then (spec_taRows.j0 k l0 16) else (spec_taRows.j0 k l0 100)) else (some false))) = some r := h; clear h; obtain ⟨t103, A2, H⟩ := bi H; (try dsimp only at H)
 by_cases c3 : t103 = true
 ·subst c3; rw [if_pos rfl] at H; have HC4 := Aside0.mk H; clear H; go_enter Try.func44, Try.ntmps44
  go_upto_if 12 with (first | (go_at_call 79; (with_reducible refine (spec_l1In.calls (l0.length : Int) 1 14 true _ A2.out).mono ?_); rintro e w' ⟨rfl, ⟨nd, rfl⟩⟩))
  (try simp only [Act.put, List.setIfInBounds_toArray, List.set_cons_zero, List.set_cons_succ])
  go_cut [3] (fun v3 wc => ∃ (kq : Nat) (x3_3 : Int), v3 = .int .i64 x3_3 ∧ Aside0 (spec_taRows.j0 kq l0 x3_3 = some r) ∧ Aside0 (kq ≤ k) ∧ Drawn0 w wc)
  case first =>
   have H := HC4.out; clear HC4
   by_cases c5 : (l0.length : Int) > 5
   ·rw [if_pos c5] at H; have c5b0 := decide_eq_true c5; have c5b1 : decide (5 < l0.length) = true := decide_eq_true (by omega); clear c5; (first | rw [c5b0] | (simp only [i64_w, i32_w]; rw [c5b0]) | skip); have H' := Aside0.mk H; clear H; go_wp2; go_meet
    case rel => exact ⟨_, (16), (sr2), H', ⟨by first | omega | exact Nat.le_refl _⟩, by repeat (first | exact Drawn0.refl _ | apply Drawn0.step)⟩
   rw [if_neg c5] at H; have c5b0 := decide_eq_false c5; have c5b1 : decide (5 < l0.length) = false := decide_eq_false (by omega); clear c5; (first | rw [c5b0] | (simp only [i64_w, i32_w]; rw [c5b0]) | skip); have H' := Aside0.mk H; clear H; go_wp2; go_meet
   case rel => exact ⟨_, (100), (sr2), H', ⟨by first | omega | exact Nat.le_refl _⟩, by repeat (first | exact Drawn0.refl _ | apply Drawn0.step)⟩
  case rest =>
   clear HC4; obtain ⟨kq, x3_3, rfl, HA, HJ3, ⟨mc3, rfl⟩⟩ := hcut
   cases kq with
   | zero => exact absurd HA.out (by simp [spec_taRows.j0])
   | succ kj3 =>
    have H := HA.out; clear HA; simp only [spec_taRows.j0] at H; have H' := Aside0.mk H; clear H; go_wp2
    go_loopg [15] kj3 (fun kq v15 w' => ∃ (x15_2 : Int), v15 = .int .i64 x15_2 ∧ Aside0 (spec_taRows.l0 kq l0 x3_3 l0 (l0.length : Int) x15_2 = some r) ∧ Aside0 (kq ≤ kj3) ∧ Drawn0 w w')
    case atStart => exact ⟨(0), (sr2), H', ⟨Nat.le_refl _⟩, by repeat (first | exact Drawn0.refl _ | apply Drawn0.step)⟩
    case round =>
     clear H'; obtain ⟨x15_2, rfl, HA, HK2, ⟨m2, rfl⟩⟩ := hrel
     cases gk with
     | zero => exact absurd HA.out (by simp [spec_taRows.l0])
     | succ k2 =>
      have H := HA.out; clear HA; simp only [spec_taRows.l0] at H
      by_cases c6 : x15_2 < (l0.length : Int)
      ·rw [if_pos c6] at H; have c6b0 := decide_eq_true c6; clear c6
       by_cases c7 : 0 ≤ x15_2
       ·rw [if_pos c7] at H; have c7b0 := decide_eq_true c7; clear c7
        by_cases c8 : x15_2 < (l0.length : Int)
        ·rw [if_pos c8] at H; have c8b0 := decide_eq_true c8; clear c8
         by_cases c9 : ((rd_L1 l0 x15_2).length : Int) = (l0.length : Int)
         ·rw [if_pos c9] at H; have c9b0 := beq_iff_eq.mpr c9; have c9b1 := bne_eq_false_iff_eq.mpr c9; (have c9b2 : ((rd_L1 l0 x15_2).length == l0.length) = true := by first | simpa using c9 | (simp at c9 ⊢; omega)); clear c9; obtain ⟨t105, A10, H⟩ := bi H; (try dsimp only at H)
          by_cases c11 : t105 = true
          ·subst c11; rw [if_pos rfl] at H; have H' := Aside0.mk H; clear H; have p104 : 0 ≤ (x15_2 : Int) := od; have q104 : x15_2 < (l0.length : Int) := od; obtain ⟨ad104, A104_0, c104_0, e104, hx104_0, hl104_0, hi104_0⟩ := at_L1 HR0.out x15_2 p104 q104; cases e104; have HR104_0 := Aside0.mk hi104_0; have HC104_0 := Aside0.mk hl104_0; clear hi104_0 hl104_0; replace p104 := eq_true p104; replace q104 := eq_true q104; go_wp2_with (first | (go_at_call 68; (with_reducible refine (spec_l1All.calls k2 _ _ (rd_L1 l0 x15_2) (wrap64 (-x3_3)) x3_3 true _ ?side1 HC104_0.out A10.out).mono ?_); (case side1 => exact cw HR104_0.out); rintro e w' ⟨rfl, ⟨nd, rfl⟩⟩))
           go_roundg k2
           case measure => have := HJ3.out; have := HK2.out; omega
           case rel => exact ⟨(wrap64 (x15_2 + 1)), (sr2), H', ⟨by have := HJ3.out; have := HK2.out; omega⟩, by repeat (first | exact Drawn0.refl _ | apply Drawn0.step)⟩
          replace c11 := Bool.eq_false_iff.mpr c11; subst c11; rw [if_neg (show ¬ (false = true) by decide)] at H; obtain rfl := Option.some.inj H; have p104 : 0 ≤ (x15_2 : Int) := od; have q104 : x15_2 < (l0.length : Int) := od; obtain ⟨ad104, A104_0, c104_0, e104, hx104_0, hl104_0, hi104_0⟩ := at_L1 HR0.out x15_2 p104 q104; cases e104; have HR104_0 := Aside0.mk hi104_0; have HC104_0 := Aside0.mk hl104_0; clear hi104_0 hl104_0; replace p104 := eq_true p104; replace q104 := eq_true q104; go_wp2_with (first | (go_at_call 68; (with_reducible refine (spec_l1All.calls k2 _ _ (rd_L1 l0 x15_2) (wrap64 (-x3_3)) x3_3 false _ ?side1 HC104_0.out A10.out).mono ?_); (case side1 => exact cw HR104_0.out); rintro e w' ⟨rfl, ⟨nd, rfl⟩⟩)); go_ret; exact ⟨sr2, by repeat (first | exact Drawn0.refl _ | apply Drawn0.step)⟩
         rw [if_neg c9] at H; have c9b0 := beq_eq_false_iff_ne.mpr c9; have c9b1 := bne_iff_ne.mpr c9; (have c9b2 : ((rd_L1 l0 x15_2).length == l0.length) = false := by first | simpa using c9 | (simp at c9 ⊢; omega)); obtain rfl := Option.some.inj H; have p104 : 0 ≤ (x15_2 : Int) := od; have q104 : x15_2 < (l0.length : Int) := od; obtain ⟨ad104, A104_0, c104_0, e104, hx104_0, hl104_0, hi104_0⟩ := at_L1 HR0.out x15_2 p104 q104; cases e104; have HR104_0 := Aside0.mk hi104_0; have HC104_0 := Aside0.mk hl104_0; clear hi104_0 hl104_0; replace p104 := eq_true p104; replace q104 := eq_true q104; go_wp2; go_ret; exact ⟨sr2, by repeat (first | exact Drawn0.refl _ | apply Drawn0.step)⟩
        rw [if_neg c8] at H; exact absurd H (by simp)
       rw [if_neg c7] at H; exact absurd H (by simp)
      rw [if_neg c6] at H; have c6b0 := decide_eq_false c6; clear c6; obtain rfl := Option.some.inj H; go_wp2; go_ret; exact ⟨sr2, by repeat (first | exact Drawn0.refl _ | apply Drawn0.step)⟩
 replace c3 := Bool.eq_false_iff.mpr c3; subst c3; rw [if_neg (show ¬ (false = true) by decide)] at H; obtain rfl := Option.some.inj H; go_enter Try.func44, Try.ntmps44; go_wp2_with (first | (go_at_call 79; (with_reducible refine (spec_l1In.calls (l0.length : Int) 1 14 false _ A2.out).mono ?_); rintro e w' ⟨rfl, ⟨nd, rfl⟩⟩)); go_ret; exact ⟨sr2, by repeat (first | exact Drawn0.refl _ | apply Drawn0.step)⟩
/-! ### spec_taPrimes: function 50 -/
def spec_taPrimes.f  : Option (List Int) := some (([1000000007, 998244353, 1000000009] : List Int))
theorem spec_taPrimes.calls  (r : List Int) (w : World) (h : spec_taPrimes.f  = some r) :
  Calls Try.prog 50 #[] w fun e w' => ∃ v0_ : Value, e = .returned (v0_) ∧ Kd.R (Kd.int .i64) 3 w' w.heap.size (fun _ => True) v0_ r ∧ Below w.heap.size w w' := by
 have HB := Aside0.mk (Below.refl w.heap.size w); have H : (some (([1000000007, 998244353, 1000000009] : List Int))) = some r := h; clear h; obtain ⟨y106, hy106⟩ := yy (([1000000007, 998244353, 1000000009] : List Int))
 (try rw [Option.bind_some] at H); (try dsimp only at H); rw [← hy106] at H
 have Ny106 := Aside0.mk hy106; clear hy106; obtain rfl := Option.some.inj H; go_enter Try.func50, Try.ntmps50; go_wp2_with (first | ((with_reducible refine gate_dst (N := 1) rfl ?_); refine Kd.R_lit (Kd.int .i64) _ 3 ?hg (N := 1) ?hd (xs := ([1000000007, 998244353, 1000000009] : List Int)) (inner := [.int .i64 1000000007, .int .i64 998244353, .int .i64 1000000009]) (ok := fun _ => True) (okp := fun _ => True) ?hr ?hp (fun _ hk => hk) trivial (Below.refl _ _) (Nat.le_refl _) (by simp) ?_; (case hd => rfl); (case hg => rfl); (case hr => first | (go_simp; done) | (go_simp; rfl)); (case hp => exact (Reps.one (show Kd.M (Kd.int .i64) _ _ _ 1000000007 [.int .i64 1000000007] from rfl) (Reps.one (show Kd.M (Kd.int .i64) _ _ _ 998244353 [.int .i64 998244353] from rfl) (Reps.one (show Kd.M (Kd.int .i64) _ _ _ 1000000009 [.int .i64 1000000009] from rfl) (Reps.none _ _))))); intro v107 w1 ho2 hb hg_ hnew_; clear hg_ hnew_; (first | rw [← Ny106.out] at ho2 | (simp only [Int.reduceToNat] at ho2; rw [← Ny106.out] at ho2)); have HO108 := Aside0.mk (Kd.R_lower ho2 (below_size (bl HB.out))); replace HB := bst HB hb; clear hb ho2)); go_ret; exact ⟨_, sr, rR HO108.out, bl HB.out⟩
/-! ### spec_taInverse: function 87 -/
def spec_taInverse.l0 : Nat → Int → Int → Int → Int → Option (Int)
 | 0, _, _, _, _ => none
 | k + 1, x0, x1, x5, x6 => if x6 > 0 then (if (Int.tmod x6 2) = 1 then (if x1 = 0 then (none) else (spec_taInverse.l0 k (Int.tmod (wrap64 (x0 * x0)) x1) x1 (Int.tmod (wrap64 (x5 * x0)) x1) (wrap64 (Int.tdiv x6 2)))) else (if x1 = 0 then (none) else (spec_taInverse.l0 k (Int.tmod (wrap64 (x0 * x0)) x1) x1 x5 (wrap64 (Int.tdiv x6 2))))) else (some x5)
def spec_taInverse.f (k : Nat) (a0 : Int) (a1 : Int) : Option (Int) := spec_taInverse.l0 k a0 a1 1 (wrap64 (a1 - 2))
theorem spec_taInverse.mono_l : ∀ k, (∀ y0 y1 y2 y3, LeO (spec_taInverse.l0 k y0 y1 y2 y3) (spec_taInverse.l0 (k + 1) y0 y1 y2 y3))
 | 0 => fun _ _ _ _ r h => by simp [spec_taInverse.l0] at h
 | k + 1 => by
  have ih0 := spec_taInverse.mono_l k
  ·intro y0 y1 y2 y3
   unfold spec_taInverse.l0
   repeat' first
   | (with_reducible exact ih0 _ _ _ _)
   | (with_reducible exact LeO.refl _)
   | (with_reducible exact LeO.none _)
   | (with_reducible refine LeO.ite ?_ ?_)
   | (with_reducible refine LeO.bind ?_ (fun _ => ?_))
   | exact ih0 _ _ _ _
   | exact LeO.none _
   | refine LeO.ite ?_ ?_
   | refine LeO.bind ?_ (fun _ => ?_)
theorem spec_taInverse.mono : ∀ a0 a1 k, LeO (spec_taInverse.f k a0 a1) (spec_taInverse.f (k + 1) a0 a1) := by
 intro a0 a1 k; have ih0 := spec_taInverse.mono_l k; unfold spec_taInverse.f
 repeat' first
   | (with_reducible exact ih0 _ _ _ _)
   | (with_reducible exact LeO.refl _)
   | (with_reducible exact LeO.none _)
   | (with_reducible refine LeO.ite ?_ ?_)
   | (with_reducible refine LeO.bind ?_ (fun _ => ?_))
   | exact ih0 _ _ _ _
   | exact LeO.none _
   | refine LeO.ite ?_ ?_
   | refine LeO.bind ?_ (fun _ => ?_)
theorem spec_taInverse.calls (k : Nat) (a0 : Int) (a1 : Int) (r : Int) (w : World) (h : spec_taInverse.f k a0 a1 = some r) :
  Calls Try.prog 87 #[.int .i64 a0, .int .i64 a1] w fun e w' => e = .returned (.int .i64 r) ∧ Drawn0 w w' := by
 have H : (spec_taInverse.l0 k a0 a1 1 (wrap64 (a1 - 2))) = some r := h; clear h; have H' := Aside0.mk H; clear H; go_enter Try.func87, Try.ntmps87; go_wp2
 go_loopg [0, 5, 6] k (fun kq v0 v5 v6 w' => ∃ (x0_1 : Int) (x5_1 : Int) (x6_1 : Int), v0 = .int .i64 x0_1 ∧ v5 = .int .i64 x5_1 ∧ v6 = .int .i64 x6_1 ∧ Aside0 (spec_taInverse.l0 kq x0_1 a1 x5_1 x6_1 = some r) ∧ Aside0 (kq ≤ k) ∧ Drawn0 w w')
 case atStart => exact ⟨(a0), (1), (wrap64 (a1 - 2)), (sr2), (sr2), (sr2), H', ⟨Nat.le_refl _⟩, by repeat (first | exact Drawn0.refl _ | apply Drawn0.step)⟩
 case round =>
  clear H'; obtain ⟨x0_1, x5_1, x6_1, rfl, rfl, rfl, HA, HK1, ⟨m1, rfl⟩⟩ := hrel
  cases gk with
  | zero => exact absurd HA.out (by simp [spec_taInverse.l0])
  | succ k1 =>
   have H := HA.out; clear HA; simp only [spec_taInverse.l0] at H
   by_cases c3 : x6_1 > 0
   ·rw [if_pos c3] at H; have c3b0 := decide_eq_true c3; clear c3
    by_cases c4 : (Int.tmod x6_1 2) = 1
    ·rw [if_pos c4] at H; have c4b0 := beq_iff_eq.mpr c4; have c4b1 := bne_eq_false_iff_eq.mpr c4; clear c4
     by_cases c5 : a1 = 0
     ·rw [if_pos c5] at H; exact absurd H (by simp)
     rw [if_neg c5] at H; have c5b0 := beq_eq_false_iff_ne.mpr c5; have c5b1 := bne_iff_ne.mpr c5; have H' := Aside0.mk H; clear H; go_wp2
     go_roundg k1
     case measure => have := HK1.out; omega
     case rel => exact ⟨(Int.tmod (wrap64 (x0_1 * x0_1)) a1), (Int.tmod (wrap64 (x5_1 * x0_1)) a1), (wrap64 (Int.tdiv x6_1 2)), (sr2), (sr2), (sr2), H', ⟨by have := HK1.out; omega⟩, by repeat (first | exact Drawn0.refl _ | apply Drawn0.step)⟩
    rw [if_neg c4] at H; have c4b0 := beq_eq_false_iff_ne.mpr c4; have c4b1 := bne_iff_ne.mpr c4
    by_cases c6 : a1 = 0
    ·rw [if_pos c6] at H; exact absurd H (by simp)
    rw [if_neg c6] at H; have c6b0 := beq_eq_false_iff_ne.mpr c6; have c6b1 := bne_iff_ne.mpr c6; have H' := Aside0.mk H; clear H; go_wp2
    go_roundg k1
    case measure => have := HK1.out; omega
    case rel => exact ⟨(Int.tmod (wrap64 (x0_1 * x0_1)) a1), (x5_1), (wrap64 (Int.tdiv x6_1 2)), (sr2), (sr2), (sr2), H', ⟨by have := HK1.out; omega⟩, by repeat (first | exact Drawn0.refl _ | apply Drawn0.step)⟩
   rw [if_neg c3] at H; have c3b0 := decide_eq_false c3; clear c3; obtain rfl := Option.some.inj H; go_wp2; go_ret; exact ⟨sr2, by repeat (first | exact Drawn0.refl _ | apply Drawn0.step)⟩
/-! ### impl_rest: function 55 -/
def impl_rest.f (a0 : Int) (a1 : Int) : Option (Int) := if a1 = 0 then (none) else (some (Int.tmod (wrap64 ((Int.tmod a0 a1) + a1)) a1))
theorem impl_rest.calls (a0 : Int) (a1 : Int) (r : Int) (w : World) (h : impl_rest.f a0 a1 = some r) :
  Calls Try.prog 55 #[.int .i64 a0, .int .i64 a1] w fun e w' => e = .returned (.int .i64 r) ∧ Drawn0 w w' := by
 have H : (if a1 = 0 then (none) else (some (Int.tmod (wrap64 ((Int.tmod a0 a1) + a1)) a1))) = some r := h; clear h
 by_cases c3 : a1 = 0
 ·rw [if_pos c3] at H; exact absurd H (by simp)
 rw [if_neg c3] at H; have c3b0 := beq_eq_false_iff_ne.mpr c3; have c3b1 := bne_iff_ne.mpr c3; obtain rfl := Option.some.inj H; go_enter Try.func55, Try.ntmps55; go_wp2; go_ret; exact ⟨sr2, by repeat (first | exact Drawn0.refl _ | apply Drawn0.step)⟩
/-! ### impl_inverseMod: function 56 -/
def impl_inverseMod.l0 : Nat → Int → Int → Int → Int → Option (Int)
 | 0, _, _, _, _ => none
 | k + 1, x0, x1, x5, x6 => if x6 > 0 then (if (Go.bits .and .i64 x6 1) = 1 then (if x1 = 0 then (none) else (impl_inverseMod.l0 k (Int.tmod (wrap64 (x0 * x0)) x1) x1 (Int.tmod (wrap64 (x5 * x0)) x1) (x6 / 2))) else (if x1 = 0 then (none) else (impl_inverseMod.l0 k (Int.tmod (wrap64 (x0 * x0)) x1) x1 x5 (x6 / 2)))) else (some x5)
def impl_inverseMod.f (k : Nat) (a0 : Int) (a1 : Int) : Option (Int) := impl_inverseMod.l0 k a0 a1 1 (wrap64 (a1 - 2))
theorem impl_inverseMod.mono_l : ∀ k, (∀ y0 y1 y2 y3, LeO (impl_inverseMod.l0 k y0 y1 y2 y3) (impl_inverseMod.l0 (k + 1) y0 y1 y2 y3))
 | 0 => fun _ _ _ _ r h => by simp [impl_inverseMod.l0] at h
 | k + 1 => by
  have ih0 := impl_inverseMod.mono_l k
  ·intro y0 y1 y2 y3
   unfold impl_inverseMod.l0
   repeat' first
   | (with_reducible exact ih0 _ _ _ _)
   | (with_reducible exact LeO.refl _)
   | (with_reducible exact LeO.none _)
   | (with_reducible refine LeO.ite ?_ ?_)
   | (with_reducible refine LeO.bind ?_ (fun _ => ?_))
   | exact ih0 _ _ _ _
   | exact LeO.none _
   | refine LeO.ite ?_ ?_
   | refine LeO.bind ?_ (fun _ => ?_)
theorem impl_inverseMod.mono : ∀ a0 a1 k, LeO (impl_inverseMod.f k a0 a1) (impl_inverseMod.f (k + 1) a0 a1) := by
 intro a0 a1 k; have ih0 := impl_inverseMod.mono_l k; unfold impl_inverseMod.f
 repeat' first
   | (with_reducible exact ih0 _ _ _ _)
   | (with_reducible exact LeO.refl _)
   | (with_reducible exact LeO.none _)
   | (with_reducible refine LeO.ite ?_ ?_)
   | (with_reducible refine LeO.bind ?_ (fun _ => ?_))
   | exact ih0 _ _ _ _
   | exact LeO.none _
   | refine LeO.ite ?_ ?_
   | refine LeO.bind ?_ (fun _ => ?_)
theorem impl_inverseMod.calls (k : Nat) (a0 : Int) (a1 : Int) (r : Int) (w : World) (h : impl_inverseMod.f k a0 a1 = some r) :
  Calls Try.prog 56 #[.int .i64 a0, .int .i64 a1] w fun e w' => e = .returned (.int .i64 r) ∧ Drawn0 w w' := by
 have H : (impl_inverseMod.l0 k a0 a1 1 (wrap64 (a1 - 2))) = some r := h; clear h; have H' := Aside0.mk H; clear H; go_enter Try.func56, Try.ntmps56; go_wp2
 go_loopg [0, 5, 6] k (fun kq v0 v5 v6 w' => ∃ (x0_1 : Int) (x5_1 : Int) (x6_1 : Int), v0 = .int .i64 x0_1 ∧ v5 = .int .i64 x5_1 ∧ v6 = .int .i64 x6_1 ∧ Aside0 (impl_inverseMod.l0 kq x0_1 a1 x5_1 x6_1 = some r) ∧ Aside0 (kq ≤ k) ∧ Drawn0 w w')
 case atStart => exact ⟨(a0), (1), (wrap64 (a1 - 2)), (sr2), (sr2), (sr2), H', ⟨Nat.le_refl _⟩, by repeat (first | exact Drawn0.refl _ | apply Drawn0.step)⟩
 case round =>
  clear H'; obtain ⟨x0_1, x5_1, x6_1, rfl, rfl, rfl, HA, HK1, ⟨m1, rfl⟩⟩ := hrel
  cases gk with
  | zero => exact absurd HA.out (by simp [impl_inverseMod.l0])
  | succ k1 =>
   have H := HA.out; clear HA; simp only [impl_inverseMod.l0] at H
   by_cases c3 : x6_1 > 0
   ·rw [if_pos c3] at H; have c3b0 := decide_eq_true c3; clear c3
    by_cases c4 : (Go.bits .and .i64 x6_1 1) = 1
    ·rw [if_pos c4] at H; have c4b0 := beq_iff_eq.mpr c4; have c4b1 := bne_eq_false_iff_eq.mpr c4; clear c4
     by_cases c5 : a1 = 0
     ·rw [if_pos c5] at H; exact absurd H (by simp)
     rw [if_neg c5] at H; have c5b0 := beq_eq_false_iff_ne.mpr c5; have c5b1 := bne_iff_ne.mpr c5; have H' := Aside0.mk H; clear H; go_wp2
     go_roundg k1
     case measure => have := HK1.out; omega
     case rel => exact ⟨(Int.tmod (wrap64 (x0_1 * x0_1)) a1), (Int.tmod (wrap64 (x5_1 * x0_1)) a1), (x6_1 / 2), (sr2), (sr2), (sr2), H', ⟨by have := HK1.out; omega⟩, by repeat (first | exact Drawn0.refl _ | apply Drawn0.step)⟩
    rw [if_neg c4] at H; have c4b0 := beq_eq_false_iff_ne.mpr c4; have c4b1 := bne_iff_ne.mpr c4
    by_cases c6 : a1 = 0
    ·rw [if_pos c6] at H; exact absurd H (by simp)
    rw [if_neg c6] at H; have c6b0 := beq_eq_false_iff_ne.mpr c6; have c6b1 := bne_iff_ne.mpr c6; have H' := Aside0.mk H; clear H; go_wp2
    go_roundg k1
    case measure => have := HK1.out; omega
    case rel => exact ⟨(Int.tmod (wrap64 (x0_1 * x0_1)) a1), (x5_1), (x6_1 / 2), (sr2), (sr2), (sr2), H', ⟨by have := HK1.out; omega⟩, by repeat (first | exact Drawn0.refl _ | apply Drawn0.step)⟩
   rw [if_neg c3] at H; have c3b0 := decide_eq_false c3; clear c3; obtain rfl := Option.some.inj H; go_wp2; go_ret; exact ⟨sr2, by repeat (first | exact Drawn0.refl _ | apply Drawn0.step)⟩
/-! ### impl_reduce: function 54 -/
def impl_reduce.mods (p : Int) : List Int → Option (List Int)
 | [] => some []
 | x :: t => (impl_rest.f x p).bind fun y => (impl_reduce.mods p t).bind fun r => some (y :: r)
def impl_reduce.modsR (p : Int) : List (List Int) → Option (List (List Int))
 | [] => some []
 | x :: t => (impl_reduce.mods p x).bind fun y => (impl_reduce.modsR p t).bind fun r => some (y :: r)
def impl_reduce.red (p b : Int) : List Int → List Int → Option (List Int)
 | [], _ => some []
 | x :: t, y :: o => (impl_rest.f (wrap64 (x - Int.tmod (wrap64 (b * y)) p)) p).bind fun z => (impl_reduce.red p b t o).bind fun r => some (z :: r)
 | _ :: _, [] => none
/-- a row below the pivot's row, changed from column j on -/
def impl_reduce.row (p : Int) (j : Nat) (inv : Int) (own row : List Int) : Option (List Int) := (impl_reduce.red p (Int.tmod (wrap64 (row.getD j 0 * inv)) p) (row.drop j) (own.drop j)).bind fun r => some (row.take j ++ r)
def impl_reduce.rowsF (p : Int) (j : Nat) (inv : Int) (own : List Int) : List (List Int) → Option (List (List Int))
 | [] => some []
 | x :: t => (impl_reduce.row p j inv own x).bind fun y => (impl_reduce.rowsF p j inv own t).bind fun r => some (y :: r)
/-- the first row that is not 0 at column j -/
def impl_reduce.find (j : Nat) : List (List Int) → Option Nat
 | [] => none
 | x :: t => if x.getD j 0 = 0 then (impl_reduce.find j t).map (· + 1) else some 0
def impl_reduce.swap (L : List (List Int)) (a b : Nat) : List (List Int) := if a = b then L else MatS.exch L a b (L.getD a []) (L.getD b [])
def impl_reduce.use (k : Nat) (p : Int) (j : Nat) (L : List (List Int)) (rank : Nat) (det : Int) (next : List (List Int) → Nat → Int → Option (Int × Int)) : Option (Int × Int) :=
 (impl_inverseMod.f k ((L.getD rank []).getD j 0) p).bind fun inv => (impl_reduce.rowsF p j inv (L.getD rank []) (L.drop (rank + 1))).bind fun M =>
  if rank + 1 = L.length then some (((rank + 1 : Nat) : Int), Int.tmod (wrap64 (det * (L.getD rank []).getD j 0)) p) else next (L.take (rank + 1) ++ M) (rank + 1) (Int.tmod (wrap64 (det * (L.getD rank []).getD j 0)) p)
def impl_reduce.go (k : Nat) (p : Int) : Nat → Nat → List (List Int) → Nat → Int → Option (Int × Int)
 | 0, _, _, rank, det => some ((rank : Int), det)
 | d + 1, j, L, rank, det =>
  match impl_reduce.find j (L.drop rank) with
  | none => impl_reduce.go k p d (j + 1) L rank 0
  | some q => impl_reduce.use k p j (impl_reduce.swap L rank (rank + q)) rank (if q = 0 then det else Int.tmod (wrap64 (p - det)) p) (fun L2 rank2 det2 => impl_reduce.go k p d (j + 1) L2 rank2 det2)
/-- rows that can be reduced: of one length -/
def impl_reduce.good (l : List (List Int)) (p : Int) : Bool := decide (1 ≤ l.length ∧ l.length ≤ 1000 ∧ 1 ≤ (l.getD 0 []).length ∧ (l.getD 0 []).length ≤ 1000 ∧ 0 < p) && l.all fun x => decide (x.length = (l.getD 0 []).length)
def impl_reduce.f (k : Nat) (l0 : List (List Int)) (a1 : Int) : Option (Int × Int) := if impl_reduce.good l0 a1 = true then (impl_reduce.modsR a1 l0).bind fun L => impl_reduce.go k a1 (l0.getD 0 []).length 0 L 0 1 else none
theorem impl_reduce.go_mono (k : Nat) (p : Int) : ∀ d j L rank det, LeO (impl_reduce.go k p d j L rank det) (impl_reduce.go (k + 1) p d j L rank det)
 | 0, _, _, _, _ => LeO.refl _
 | d + 1, j, L, rank, det => by
  rw [impl_reduce.go, impl_reduce.go]
  cases impl_reduce.find j (L.drop rank) with
  | none => exact impl_reduce.go_mono k p d _ _ _ _
  | some q =>
   unfold impl_reduce.use
   exact LeO.bind (impl_inverseMod.mono _ _ _) (fun _ => LeO.bind (LeO.refl _) (fun _ => LeO.ite (LeO.refl _) (impl_reduce.go_mono k p d _ _ _ _)))
theorem impl_reduce.mono : ∀ a0 a1 k, LeO (impl_reduce.f k a0 a1) (impl_reduce.f (k + 1) a0 a1) := fun a0 a1 k => LeO.ite (LeO.bind (LeO.refl _) (fun _ => impl_reduce.go_mono k a1 _ _ _ _ _)) (LeO.refl _)
theorem impl_reduce.mods_get (p : Int) : ∀ (l T : List Int), impl_reduce.mods p l = some T → T.length = l.length ∧ ∀ i (h : i < l.length) (h2 : i < T.length), impl_rest.f l[i] p = some T[i]
 | [], T, h => by
  obtain rfl := Option.some.inj h
  exact ⟨rfl, fun i h => absurd h (Nat.not_lt_zero _)⟩
 | v :: t, T, h => by
  obtain ⟨q, hq, h⟩ := Option.bind_eq_some_iff.mp h
  obtain ⟨r, hr, h⟩ := Option.bind_eq_some_iff.mp h
  obtain rfl := Option.some.inj h
  have ih := impl_reduce.mods_get p t r hr
  refine ⟨by simp [ih.1], fun i h1 h2 => ?_⟩
  cases i with
  | zero => exact hq
  | succ i => exact ih.2 i (by simpa using h1) (by simpa using h2)
theorem impl_reduce.modsR_get (p : Int) : ∀ (l T : List (List Int)), impl_reduce.modsR p l = some T → T.length = l.length ∧ ∀ i (h : i < l.length) (h2 : i < T.length), impl_reduce.mods p l[i] = some T[i]
 | [], T, h => by
  obtain rfl := Option.some.inj h
  exact ⟨rfl, fun i h => absurd h (Nat.not_lt_zero _)⟩
 | v :: t, T, h => by
  obtain ⟨q, hq, h⟩ := Option.bind_eq_some_iff.mp h
  obtain ⟨r, hr, h⟩ := Option.bind_eq_some_iff.mp h
  obtain rfl := Option.some.inj h
  have ih := impl_reduce.modsR_get p t r hr
  refine ⟨by simp [ih.1], fun i h1 h2 => ?_⟩
  cases i with
  | zero => exact hq
  | succ i => exact ih.2 i (by simpa using h1) (by simpa using h2)
theorem impl_reduce.rowsF_get (p : Int) (j : Nat) (inv : Int) (own : List Int) : ∀ (l T : List (List Int)), impl_reduce.rowsF p j inv own l = some T → T.length = l.length ∧ ∀ i (h : i < l.length) (h2 : i < T.length), impl_reduce.row p j inv own l[i] = some T[i]
 | [], T, h => by
  obtain rfl := Option.some.inj h
  exact ⟨rfl, fun i h => absurd h (Nat.not_lt_zero _)⟩
 | v :: t, T, h => by
  obtain ⟨q, hq, h⟩ := Option.bind_eq_some_iff.mp h
  obtain ⟨r, hr, h⟩ := Option.bind_eq_some_iff.mp h
  obtain rfl := Option.some.inj h
  have ih := impl_reduce.rowsF_get p j inv own t r hr
  refine ⟨by simp [ih.1], fun i h1 h2 => ?_⟩
  cases i with
  | zero => exact hq
  | succ i => exact ih.2 i (by simpa using h1) (by simpa using h2)
theorem impl_reduce.red_get (p b : Int) : ∀ (l o T : List Int), impl_reduce.red p b l o = some T → T.length = l.length ∧ l.length ≤ o.length ∧ ∀ i (h : i < l.length) (h2 : i < T.length), impl_rest.f (wrap64 (l.getD i 0 - Int.tmod (wrap64 (b * o.getD i 0)) p)) p = some T[i]
 | [], o, T, h => by
  obtain rfl := Option.some.inj h
  exact ⟨rfl, Nat.zero_le _, fun i h => absurd h (Nat.not_lt_zero _)⟩
 | v :: t, [], T, h => by cases h
 | v :: t, y :: o, T, h => by
  obtain ⟨q, hq, h⟩ := Option.bind_eq_some_iff.mp h
  obtain ⟨r, hr, h⟩ := Option.bind_eq_some_iff.mp h
  obtain rfl := Option.some.inj h
  have ih := impl_reduce.red_get p b t o r hr
  refine ⟨by simp [ih.1], by simp [ih.2.1], fun i h1 h2 => ?_⟩
  cases i with
  | zero => exact hq
  | succ i => exact ih.2.2 i (by simpa using h1) (by simpa using h2)
/-- the closure: is a row not 0 at column j -/
theorem impl_reduce.closure (j : Nat) (A : Option Addr) (c b : Nat) (row : List Int) (W : World) (hb : W.cell? ⟨b, 0, none⟩ = some (.int .i64 (j : Int))) (hA : Kd.C (Kd.int .i64) W A row.length row) (hj : j < row.length) :
  Calls Try.prog 89 #[.slice A row.length c, .pointer (some ⟨b, 0, none⟩)] W fun e w' => e = .returned (.bool (row.getD j 0 != 0)) ∧ Drawn0 W w' := by
 (have q5 : (j : Int) < (row.length : Int) := by omega); (have p5 : (0 : Int) ≤ (j : Int) := by omega); obtain ⟨ad, rfl, hx⟩ := Kd.at_int hA (j : Int) p5 q5; (have h0 : rd row (j : Int) = row.getD j 0 := by unfold rd; rw [Int.toNat_natCast]); rw [h0] at hx; simp only [Int.toNat_natCast] at hx; replace p5 := eq_true p5; replace q5 := eq_true q5; clear hA h0; generalize row.getD j 0 = z at hx ⊢; go_enter Try.func89, Try.ntmps89; go_wp2; go_ret; exact ⟨by first | rfl | simp, by repeat (first | exact Drawn0.refl _ | apply Drawn0.step)⟩
/-- what slices.IndexFunc answers -/
def impl_reduce.place (o : Option Nat) : Int := match o with | none => -1 | some q => (q : Int)
theorem impl_reduce.find_skip (j : Nat) : ∀ (l : List (List Int)) (i : Nat), (∀ x ∈ l.take i, x.getD j 0 = 0) → i ≤ l.length → impl_reduce.find j l = (impl_reduce.find j (l.drop i)).map (· + i)
 | l, 0, _, _ => by rw [List.drop_zero]; simp
 | [], i + 1, _, h => absurd h (Nat.not_succ_le_zero _)
 | x :: t, i + 1, h, hl => by
  have h0 : x.getD j 0 = 0 := h x (by simp)
  rw [impl_reduce.find, if_pos h0, List.drop_succ_cons, impl_reduce.find_skip j t i (fun y hy => h y (by simp [hy])) (by simpa using hl), Option.map_map]
  congr 1
/-- slices.IndexFunc over rows, by the closure -/
theorem impl_reduce.index (j : Nat) (b : Nat) (A0 : Option Addr) (c0 : Nat) (l0 : List (List Int)) (w : World) (hr0 : Kd.C (Kd.slice 3 (Kd.int .i64)) w A0 l0.length l0) (hc0 : l0.length ≤ c0) (hl : l0.length < 4611686018427387904)
  (hb : w.cell? ⟨b, 0, none⟩ = some (.int .i64 (j : Int))) (hj : ∀ x ∈ l0, j < x.length) :
  Calls Try.prog 88 #[.slice A0 l0.length c0, .func (.func 89) #[] #[.pointer (some ⟨b, 0, none⟩)]] w fun e w' => e = .returned (.int .i64 (impl_reduce.place (impl_reduce.find j l0))) ∧ Drawn0 w w' := by
 have HR0 := Aside0.mk hr0; have HBX := Aside0.mk hb; have HJ := Aside0.mk hj; clear hr0 hb hj; go_enter Try.func88, Try.ntmps88; go_wp2
 go_loopg [8] (l0.length + 1) (fun kq v8 w' => ∃ (i : Nat), v8 = .int .i64 i ∧ i ≤ l0.length ∧ l0.length - i < kq ∧ Aside0 (∀ x ∈ l0.take i, x.getD j 0 = 0) ∧ Drawn0 w w')
 case atStart => exact ⟨0, by go_num, Nat.zero_le _, by omega, ⟨by simp⟩, by repeat (first | exact Drawn0.refl _ | apply Drawn0.step)⟩
 case round =>
  obtain ⟨i, rfl, hi, hm, HA, ⟨m1, rfl⟩⟩ := hrel; obtain ⟨k1, rfl⟩ : ∃ m, gk = m + 1 := ⟨gk - 1, by omega⟩
  by_cases hil : i < l0.length
  ·(have hiz : (i : Int) < (l0.length : Int) := by omega); obtain ⟨ad, A1, c1, e0, hx0, hl1, hi1⟩ := at_L1 HR0.out (i : Int) (by omega) hiz; (have hrd : rd_L1 l0 (i : Int) = l0[i] := by unfold rd_L1; simp [hil]); rw [hrd] at hx0 hl1 hi1; rw [Int.toNat_natCast] at hx0; cases e0; have p1 : (0 ≤ (i : Int)) = True := eq_true (by omega); have p2 : ((i : Int) < (l0.length : Int)) = True := eq_true hiz; have HC := Aside0.mk (impl_reduce.closure j A1 c1 b l0[i] (w.drewN m1) ((pw_below_drewN (Below.refl _ _) m1).cell (World.block_lt_of_cell? w _ HBX.out) |>.trans HBX.out) (Kd.C_drewN hi1 m1) (HJ.out _ (List.getElem_mem hil))); clear hi1
   by_cases hz : l0[i].getD j 0 = 0
   ·(have e1 : (l0[i].getD j 0 != 0) = false := by rw [hz]; rfl); rw [e1] at HC
    have HA2 := Aside0.mk (show ∀ x ∈ l0.take (i + 1), x.getD j 0 = 0 by
     intro x hx
     rw [List.take_succ_eq_append_getElem hil, List.mem_append, List.mem_singleton] at hx
     rcases hx with hx | rfl
     ·exact HA.out x hx
     exact hz)
    clear hz e1; go_wp2_with ((go_at_call 89); (with_reducible refine HC.out.mono ?_); rintro e w' ⟨rfl, ⟨nd, rfl⟩⟩)
    go_roundg k1
    case measure => exact Nat.lt_succ_self _
    case rel => exact ⟨i + 1, by go_num, by omega, by omega, HA2, by repeat (first | exact Drawn0.refl _ | apply Drawn0.step)⟩
   have e1 : (l0[i].getD j 0 != 0) = true := bne_iff_ne.mpr hz; rw [e1] at HC
   have HF := Aside0.mk (show impl_reduce.find j l0 = some i by
    rw [impl_reduce.find_skip j l0 i HA.out hi, List.drop_eq_getElem_cons hil, impl_reduce.find, if_neg hz]; simp)
   clear hz e1; go_wp2_with ((go_at_call 89); (with_reducible refine HC.out.mono ?_); rintro e w' ⟨rfl, ⟨nd, rfl⟩⟩); go_ret; exact ⟨by rw [HF.out]; rfl, by repeat (first | exact Drawn0.refl _ | apply Drawn0.step)⟩
  obtain rfl : i = l0.length := by omega
  have HF := Aside0.mk (show impl_reduce.find j l0 = none by
   rw [impl_reduce.find_skip j l0 _ HA.out hi, List.drop_length, impl_reduce.find]; rfl)
  clear HA; go_wp2; go_ret; exact ⟨by rw [HF.out]; rfl, by repeat (first | exact Drawn0.refl _ | apply Drawn0.step)⟩
theorem impl_reduce.find_lt (j : Nat) : ∀ (l : List (List Int)) (q : Nat), impl_reduce.find j l = some q → q < l.length
 | [], q, h => by cases h
 | x :: t, q, h => by
  rw [impl_reduce.find] at h
  split at h
  ·obtain ⟨q', h', rfl⟩ := Option.map_eq_some_iff.1 h
   have := impl_reduce.find_lt j t q' h'
   simp; omega
  ·obtain rfl := Option.some.inj h
   simp
/-- a row that is being changed, at place kk -/
def impl_reduce.cur (row T : List Int) (j kk : Nat) : List Int := row.take j ++ (T.take (kk - j) ++ row.drop kk)
theorem impl_reduce.cur_len (row T : List Int) (j kk : Nat) (hj : j ≤ kk) (hk : kk ≤ row.length) (hT : T.length = row.length - j) : (impl_reduce.cur row T j kk).length = row.length := by
 unfold impl_reduce.cur; simp only [List.length_append, List.length_take, List.length_drop]; omega
theorem impl_reduce.cur_at (row T : List Int) (j kk : Nat) (hj : j ≤ kk) (hk : kk < row.length) (hT : T.length = row.length - j) : (impl_reduce.cur row T j kk).getD kk 0 = row.getD kk 0 := by
 unfold impl_reduce.cur; (have h1 : (row.take j ++ T.take (kk - j)).length = kk := by simp only [List.length_append, List.length_take]; omega); rw [← List.append_assoc, List.getD_eq_getElem?_getD, List.getElem?_append_right (by omega), h1, Nat.sub_self, List.getElem?_drop, List.getD_eq_getElem?_getD, Nat.add_zero]
theorem impl_reduce.cur_set (row T : List Int) (j kk : Nat) (hj : j ≤ kk) (hk : kk < row.length) (hT : T.length = row.length - j) (h : kk - j < T.length) : (impl_reduce.cur row T j kk).set kk T[kk - j] = impl_reduce.cur row T j (kk + 1) := by
 unfold impl_reduce.cur; (have h1 : (row.take j ++ T.take (kk - j)).length = kk := by simp only [List.length_append, List.length_take]; omega); rw [← List.append_assoc, List.set_append_right _ _ (by omega), h1, Nat.sub_self, List.drop_eq_getElem_cons hk, List.set_cons_zero, show kk + 1 - j = (kk - j) + 1 by omega, List.take_succ_eq_append_getElem h]; simp only [List.append_assoc, List.singleton_append]
theorem impl_reduce.cur_start (row T : List Int) (j : Nat) : impl_reduce.cur row T j j = row := by
 unfold impl_reduce.cur; rw [Nat.sub_self, List.take_zero, List.nil_append, List.take_append_drop]
theorem impl_reduce.cur_end (row T : List Int) (j : Nat) (hT : T.length = row.length - j) : impl_reduce.cur row T j row.length = row.take j ++ T := by
 unfold impl_reduce.cur; rw [List.drop_length, List.append_nil, ← hT, List.take_length]
/-- the rows while those below rank are changed, at place i -/
def impl_reduce.mid (L M : List (List Int)) (s i : Nat) : List (List Int) := L.take s ++ (M.take i ++ L.drop (s + i))
theorem impl_reduce.mid_len (L M : List (List Int)) (s i : Nat) (hs : s ≤ L.length) (hM : M.length = L.length - s) (hi : i ≤ M.length) : (impl_reduce.mid L M s i).length = L.length := by
 unfold impl_reduce.mid; simp only [List.length_append, List.length_take, List.length_drop]; omega
theorem impl_reduce.mid_low (L M : List (List Int)) (s i k : Nat) (hk : k < s) (hs : s ≤ L.length) : (impl_reduce.mid L M s i)[k]? = L[k]? := by
 unfold impl_reduce.mid; rw [List.getElem?_append_left (by rw [List.length_take]; omega), List.getElem?_take, if_pos hk]
theorem impl_reduce.mid_at (L M : List (List Int)) (s i : Nat) (hs : s ≤ L.length) (hM : M.length = L.length - s) (hi : i < M.length) : (impl_reduce.mid L M s i)[s + i]? = L[s + i]? := by
 unfold impl_reduce.mid; (have h1 : (L.take s ++ M.take i).length = s + i := by simp only [List.length_append, List.length_take]; omega); rw [← List.append_assoc, List.getElem?_append_right (by omega), h1, Nat.sub_self, List.getElem?_drop, Nat.add_zero]
theorem impl_reduce.mid_set (L M : List (List Int)) (s i : Nat) (hs : s ≤ L.length) (hM : M.length = L.length - s) (hi : i < M.length) : (impl_reduce.mid L M s i).set (s + i) M[i] = impl_reduce.mid L M s (i + 1) := by
 unfold impl_reduce.mid; (have h1 : (L.take s ++ M.take i).length = s + i := by simp only [List.length_append, List.length_take]; omega); rw [← List.append_assoc, List.set_append_right _ _ (by omega), h1, Nat.sub_self, List.drop_eq_getElem_cons (by omega), List.set_cons_zero, List.take_succ_eq_append_getElem hi]; simp only [List.append_assoc, List.singleton_append, Nat.add_assoc]
theorem impl_reduce.mid_start (L M : List (List Int)) (s : Nat) : impl_reduce.mid L M s 0 = L := by
 unfold impl_reduce.mid; simp
theorem impl_reduce.mid_end (L M : List (List Int)) (s : Nat) (hs : s ≤ L.length) (hM : M.length = L.length - s) : impl_reduce.mid L M s M.length = L.take s ++ M := by
 unfold impl_reduce.mid; rw [List.take_length, List.drop_of_length_le (by omega), List.append_nil]
theorem impl_reduce.mid_rows (L M : List (List Int)) (s i m : Nat) (hL : ∀ x ∈ L, x.length = m) (hM : ∀ x ∈ M, x.length = m) : ∀ x ∈ impl_reduce.mid L M s i, x.length = m := by
 intro x hx; unfold impl_reduce.mid at hx; rw [List.mem_append, List.mem_append] at hx
 rcases hx with hx | hx | hx
 ·exact hL x (List.mem_of_mem_take hx)
 ·exact hM x (List.mem_of_mem_take hx)
 exact hL x (List.mem_of_mem_drop hx)
def impl_reduce.T20 : Bool × List (List Nat × List Nat) := (true, [([], []), ([], []), ([], []), ([], []), ([], []), ([3, 4], [3, 4]), ([], []), ([], []), ([], []), ([7, 8], [7, 8]), ([6, 9], [6, 9]), ([10], [10]), ([], []), ([], []), ([12, 13], [12, 13]), ([14], [14]), ([0, 1, 0, 1, 6, 7, 8, 9, 10, 11, 15], [0, 1]), ([16, 11, 0, 1, 6, 7, 8, 9, 10, 11, 15], [11, 16]), ([2, 5, 0, 1, 2, 3, 4, 5, 6, 7, 8, 9, 10, 11, 12, 13, 14, 15, 16, 17], [2, 5]), ([18, 15, 17, 0, 1, 2, 3, 4, 5, 6, 7, 8, 9, 10, 11, 12, 13, 14, 15, 16, 17], [15, 18])])
def impl_reduce.B20 : List Nat := [0, 0, 0, 0, 0, 24, 0, 0, 0, 384, 960, 1984, 0, 0, 12288, 28672, 65475, 131011, 262143, 524287]
theorem impl_reduce.tab20 : rtab .any (opsOf Try.f54 20) = impl_reduce.T20 := by kernel_rfl
theorem impl_reduce.bits20 : waitsOk impl_reduce.T20.2 impl_reduce.B20 = true := by kernel_rfl
def impl_reduce.T32 : Bool × List (List Nat × List Nat) := (true, [([], []), ([], []), ([], []), ([], []), ([2, 3], [2, 3]), ([4], [4]), ([], []), ([], []), ([], []), ([7, 8], [7, 8]), ([9], [9]), ([6, 10], [6, 10]), ([], []), ([11, 12], [11, 12]), ([5, 13], [5, 13]), ([], []), ([14, 15], [14, 15]), ([0, 1, 0, 1, 2, 3, 4, 5, 6, 7, 8, 9, 10, 11, 12, 13, 14, 15, 16], [0, 1]), ([17, 16, 16, 0, 1, 2, 3, 4, 5, 6, 7, 8, 9, 10, 11, 12, 13, 14, 15, 16], [16, 17])])
def impl_reduce.B32 : List Nat := [0, 0, 0, 0, 12, 28, 0, 0, 0, 384, 896, 1984, 0, 8128, 16380, 0, 65532, 131071, 262143]
theorem impl_reduce.tab32 : rtab .any (opsOf Try.f54 32) = impl_reduce.T32 := by kernel_rfl
theorem impl_reduce.bits32 : waitsOk impl_reduce.T32.2 impl_reduce.B32 = true := by kernel_rfl
theorem impl_reduce.calls (k : Nat) (A0 : Option Addr) (c0 : Nat) (l0 : List (List Int)) (a1 : Int) (r1 r2 : Int) (w : World) (hr0 : Kd.C (Kd.slice 3 (Kd.int .i64)) w A0 l0.length l0) (hc0 : l0.length ≤ c0) (h : impl_reduce.f k l0 a1 = some (r1, r2)) :
  Calls Try.prog 54 #[.slice A0 l0.length c0, .int .i64 a1] w fun e w' => e = .returned (.tuple #[.int .i64 r1, .int .i64 r2]) ∧ Below w.heap.size w w' := by
 unfold impl_reduce.f at h; by_cases hg : impl_reduce.good l0 a1 = true
 case neg => rw [if_neg hg] at h; cases h
 rw [if_pos hg] at h; unfold impl_reduce.good at hg; rw [Bool.and_eq_true, decide_eq_true_eq] at hg; obtain ⟨⟨hn1, hn2, hm1, hm2, hp0⟩, hall⟩ := hg; have hrow : ∀ x ∈ l0, x.length = (l0.getD 0 []).length := fun x hx => of_decide_eq_true (List.all_eq_true.1 hall x hx); generalize (l0.getD 0 []).length = m at h hm1 hm2 hrow; obtain ⟨L0, hL, hgo⟩ := Option.bind_eq_some_iff.mp h; obtain ⟨hLl, hLg⟩ := impl_reduce.modsR_get a1 l0 L0 hL; have HR0 := Aside0.mk hr0; have HRW := Aside0.mk hrow; have FG := Aside0.mk hgo; have FM := Aside0.mk hLg; have FL := Aside0.mk hLl; have HB := Aside0.mk (Below.refl w.heap.size w); clear h hr0 hall hL hgo hLg hLl hrow; go_enter Try.func54, Try.ntmps54; go_wp2_with ((with_reducible refine gate_dst (N := 22) rfl ?_); refine Kd.S_lit (Kd.slice 3 (Kd.int .i64)) _ 35 ?hg (N := 22) ?hd (xs := ([] : List (List Int))) (inner := []) (ok := fun _ => True) (okp := fun _ => True) ?hr ?hp (fun _ hk => hk) trivial (Below.refl _ _) (Nat.le_refl _) (by simp) ?_; (case hd => rfl); (case hg => rfl); (case hr => first | (go_simp; done) | (go_simp; rfl)); (case hp => exact (Reps.none _ _)); intro v22 w4 ho hb hg_ hnew_; clear hg_ hnew_; have HX := Aside0.mk ho; have HB2 := Aside0.mk hb; clear HB ho hb; have HB := HB2; clear HB2)
 go_loopg [6, 25] (l0.length + 1) (fun kq v6 v25 w' => ∃ (i : Nat), v25 = .int .i64 i ∧ i ≤ l0.length ∧ l0.length - i < kq ∧ Aside0 (Kd.S (Kd.slice 3 (Kd.int .i64)) 35 w' w.heap.size (fun _ => True) v6 (L0.take i)) ∧ Aside0 (Below w.heap.size w w'))
 case atStart => exact ⟨0, by go_num, Nat.zero_le _, by omega, ⟨by rw [List.take_zero]; exact HX.out⟩, HB⟩
 case round =>
  clear HX HB; obtain ⟨i, rfl, hi, hgi, HX, HB⟩ := hrel; obtain ⟨k1, rfl⟩ : ∃ m, gk = m + 1 := ⟨gk - 1, by omega⟩
  by_cases hil : i < l0.length
  ·(have hiz : (i : Int) < (l0.length : Int) := by omega); obtain ⟨ad, A1, c1, e0, hx0, hl1, hi1⟩ := at_L1 (Kd.C_below HR0.out HB.out) (i : Int) (by omega) hiz; (have hrd : rd_L1 l0 (i : Int) = l0[i] := by unfold rd_L1; simp [hil]); rw [hrd] at hx0 hl1 hi1; rw [Int.toNat_natCast] at hx0; cases e0; (have hLi : i < L0.length := by have := FL.out; omega); obtain ⟨hTl, hTg⟩ := impl_reduce.mods_get a1 _ _ (FM.out i hil hLi); have hnew : L0.take (i + 1) = L0.take i ++ [L0[i]] := List.take_succ_eq_append_getElem hLi; have hrl := HRW.out _ (List.getElem_mem hil); generalize hT : L0[i] = T at hTl hTg hnew; generalize hR : l0[i] = row at hx0 hl1 hi1 hTl hTg hrl; have HN := Aside0.mk hnew; have TG := Aside0.mk hTg; have TL := Aside0.mk hTl; have HRI := Aside0.mk hi1; have HRL := Aside0.mk hrl; (have hrb : row.length ≤ 1000 := by omega); have p1 : (0 ≤ (i : Int)) = True := eq_true (by omega); have p2 : ((i : Int) < (l0.length : Int)) = True := eq_true hiz; clear hi1 hnew hTg hTl hR hT hrd hrl; go_wp2_with ((with_reducible refine gate_dst (N := 29) rfl ?_); refine Kd.R_lit (Kd.int .i64) _ 3 ?hg (N := 29) ?hd (xs := ([] : List Int)) (inner := []) (ok := fun _ => True) (okp := fun _ => True) ?hr ?hp (fun _ hk => hk) trivial (Below.refl _ _) (Nat.le_refl _) (by simp) ?_; (case hd => rfl); (case hg => rfl); (case hr => first | (go_simp; done) | (go_simp; rfl)); (case hp => exact (Reps.none _ _)); intro v29 w5 ho hb hg_ hnew_; clear hg_ hnew_; have HN1 := Aside0.mk ho; have HBi := Aside0.mk hb; clear ho hb); obtain ⟨WR, eWR⟩ : ∃ X : World, X = wr := ⟨_, rfl⟩; subst eWR
   go_loopg [11, 32] (row.length + 1) (fun kq v11 v32 w' => ∃ (j : Nat), v32 = .int .i64 j ∧ j ≤ row.length ∧ row.length - j < kq ∧ Aside0 (Kd.R (Kd.int .i64) 3 w' WR.heap.size (fun _ => True) v11 (T.take j)) ∧ Aside0 (Below WR.heap.size WR w'))
   case atStart => exact ⟨0, by go_num, Nat.zero_le _, by omega, ⟨by rw [List.take_zero]; exact HN1.out⟩, HBi⟩
   case round =>
    clear HN1 HBi; obtain ⟨j, rfl, hj, hgj, HN1, HBi⟩ := hrel; obtain ⟨k2, rfl⟩ : ∃ m, gk = m + 1 := ⟨gk - 1, by omega⟩
    by_cases hjl : j < row.length
    ·(have hjz : (j : Int) < (row.length : Int) := by omega); (have p3 : (0 : Int) ≤ (j : Int) := by omega); obtain ⟨ad2, e2, hx2⟩ := Kd.at_int (Kd.C_below HRI.out HBi.out) (j : Int) p3 hjz; cases e2; (have hrd2 : rd row (j : Int) = row[j] := by unfold rd; simp [hjl]); rw [hrd2] at hx2; simp only [Int.toNat_natCast] at hx2; (have hTj : j < T.length := by have := TL.out; omega); have F1 := Aside0.mk (TG.out j hjl hTj); have hnew : T.take (j + 1) = T.take j ++ [T[j]] := List.take_succ_eq_append_getElem hTj; generalize T[j] = tj at F1 hnew; generalize row[j] = vj at hx2 F1; have HN2 := Aside0.mk hnew; clear hnew hrd2; replace p3 := eq_true p3; have q3 := eq_true hjz; have hTs := Aside0.mk (show (T.take j).length ≤ 1000 by rw [List.length_take]; have := TL.out; omega)
     go_wp2_with (first
      | (go_at_call 55; (with_reducible refine (impl_rest.calls vj a1 tj _ F1.out).mono ?_); rintro e w6 ⟨rfl, ⟨nd, rfl⟩⟩; have HN3 := Aside0.mk (Kd.R_drewN HN1.out nd); have HBj := Aside0.mk (pw_below_drewN HBi.out nd); clear HN1 HBi hx2; have HN1 := HN3; have HBi := HBj; clear HN3 HBj)
      | ((with_reducible refine gate_builtin (b := .append) (xs := #[.tmp 36, .tmp 40]) rfl ?_); at_builtin; refine Kd.R_append (Kd.int .i64) (w0 := WR) WR.heap.size rfl (.tmp 36) (.tmp 40) 35 3 (.int .i64 0) 8 rfl Try.underlying35 info3 rfl (by decide) (by omega) u11 (T.take j) tj [.int .i64 tj] (fun _ => True) (fun _ => False) rfl rfl ?aP (fun _ hk => hk.elim) ?aF ?aO ?aB ?aS ?aL ?_; (case aP => exact rfl); (case aB => exact HBi.out); (case aF => exact (fun _ _ => trivial)); (case aO => exact Kd.R_mono HN1.out (fun _ _ => trivial)); (case aS => exact HBi.out.size); (case aL => have := hTs.out; omega); intro v2 w2 ho hb hg_ hat_; rw [← HN2.out] at ho; have HN3 := Aside0.mk ho; have HBj := Aside0.mk hb; clear ho hb hg_ hat_ HN1 HBi; have HN1 := HN3; have HBi := HBj; clear HN3 HBj))
     go_roundg k2
     case measure => exact Nat.lt_succ_self _
     case rel => exact ⟨j + 1, by go_num, by omega, by omega, HN1, HBi⟩
    (obtain rfl : j = row.length := by omega); have hfull : T.take row.length = T := List.take_of_length_le (by have := TL.out; omega); rw [hfull] at HN1; clear hfull; obtain ⟨Ao, co, eo⟩ := Kd.R_slice HN1.out; subst eo; have hTs := Aside0.mk (show (L0.take i).length ≤ 1000 by rw [List.length_take]; omega); have HXn := Aside0.mk (Kd.S_old HX.out HBi.out); have HXo := Aside0.mk (Kd.S_lt HX.out); have HBn := Aside0.mk (below_step HB.out HBi.out); have HWs := Aside0.mk HB.out.size; clear HX HB; go_wp2_with ((with_reducible refine gate_builtin (b := .append) (xs := #[.tmp 43, .tmp 45]) rfl ?_); at_builtin; refine Kd.S_append (Kd.slice 3 (Kd.int .i64)) (w0 := w) w.heap.size rfl (.tmp 43) (.tmp 45) 22 35 (.slice none 0 0) 24 rfl Try.underlying22 info35 rfl (by decide) (by omega) u6 (L0.take i) T [.slice Ao T.length co] (fun _ => True) (fun k_ => some k_ = (.slice Ao T.length co : Value).ownBlock) rfl rfl ?aP ?aK (fun _ _ => trivial) ?aO ?aB ?aS ?aL ?_; (case aP => exact Kd.M_row (Kd.R_tight rfl (Kd.R_lower HN1.out HWs.out))); (case aK => intro k_ hk; exact ⟨trivial, fun e_ => Nat.lt_irrefl _ (Nat.lt_of_lt_of_le (HXo.out k_ e_.symm) (Kd.R_base HN1.out k_ hk.symm))⟩); (case aO => exact Kd.S_mono HXn.out (fun k_ hk => ⟨trivial, fun e_ => Nat.lt_irrefl _ (Nat.lt_of_lt_of_le hk.2 (Kd.R_base HN1.out k_ e_.symm))⟩)); (case aB => exact HBn.out); (case aS => exact HBn.out.size); (case aL => have := hTs.out; omega); intro v5 w5 ho hb _ _; rw [← HN.out] at ho; have HX := Aside0.mk ho; have HB := Aside0.mk hb; clear ho hb HXn HBn HN1 HBi)
    go_roundg k1
    case measure => exact Nat.lt_succ_self _
    case rel => exact ⟨i + 1, by go_num, by omega, by omega, HX, HB⟩
  (obtain rfl : i = l0.length := by omega); have hfull : L0.take l0.length = L0 := List.take_of_length_le (by have := FL.out; omega); rw [hfull] at HX
  have hLm : ∀ x ∈ L0, x.length = m := by
   intro x hx; obtain ⟨q, hq, rfl⟩ := List.getElem_of_mem hx; (have hq2 : q < l0.length := by have := FL.out; omega); rw [(impl_reduce.mods_get a1 _ _ (FM.out q hq2 hq)).1]; exact HRW.out _ (List.getElem_mem hq2)
  (have hL0 : 0 < L0.length := by have := FL.out; omega); obtain ⟨g, cap, B0, rfl, hle, hcm, hM⟩ := MatS.Mat.of_S HX.out (List.length_pos_iff.1 hL0) (fun x hx => List.length_pos_iff.1 (by rw [hLm x hx]; omega)); have HL2 := Aside0.mk (show L0.length ≤ 1000 by have := FL.out; omega); clear HX hfull FM HRW HR0 hi hgi hil FL hn1 hn2; obtain ⟨b0, hb0, hl0⟩ := hM.at_ hL0; obtain ⟨hc0_, hf0_⟩ := hM.cell hb0 hl0; rw [hLm _ (List.getElem_mem hL0)] at hc0_; have HM := Aside0.mk hM; have HLM := Aside0.mk hLm; have HLE := Aside0.mk hle; have p1 : ((0 : Int) < (L0.length : Int)) = True := eq_true (by omega); clear hM hLm hle hcm hl0 hb0; go_wp2
  go_loopg [7, 8, 52] (m + 1) (fun kq v7 v8 v52 w' => ∃ (j rank : Nat) (det : Int) (L : List (List Int)) (B : List (Nat × Nat)), v7 = .int .i64 rank ∧ v8 = .int .i64 det ∧ v52 = .int .i64 j ∧ j ≤ m ∧ m - j < kq ∧ rank < L0.length ∧ Aside0 (L.length = L0.length ∧ ∀ x ∈ L, x.length = m) ∧ Aside0 (impl_reduce.go k a1 (m - j) j L rank det = some (r1, r2)) ∧ Aside0 (MatS.Mat 35 3 w' w.heap.size g B L) ∧ Aside0 (Below w.heap.size w w'))
  case atStart => exact ⟨0, 0, 1, L0, B0, by go_num, rfl, by go_num, Nat.zero_le _, by omega, hL0, ⟨rfl, HLM.out⟩, FG, HM, HB⟩
  case round =>
   clear FG HM HB HLM hc0_ hf0_ hL0; obtain ⟨j, rank, det, L, B, rfl, rfl, rfl, hj, hgj, hrk, HL, FG, HM, HB⟩ := hrel; obtain ⟨k1, rfl⟩ : ∃ m, gk = m + 1 := ⟨gk - 1, by omega⟩
   by_cases hjm : j < m
   ·(have hjz : (j : Int) < (m : Int) := by omega); have hcr : (cap = rank) = False := eq_false (by have := HLE.out; omega); have hpz : (a1 = 0) = False := eq_false (by omega); have p2 : (0 ≤ (rank : Int)) = True := eq_true (by omega); have q2 : ((rank : Int) < (L0.length : Int)) = True := eq_true (by omega); (have hdl : (L.drop rank).length = L0.length - rank := by rw [List.length_drop, HL.out.1]); have hix := impl_reduce.index j wr.heap.size (some ⟨g, rank, none⟩) (cap - rank) (L.drop rank) (wr.alloc (.cells #[.int .i64 (j : Int)] 3)) (Kd.C_alloc (HM.out.tail rank (by have := HL.out.1; omega) (by have := HL.out.1; have := HL2.out; have : maxLen = 9223372036854775807 := rfl; omega)) _) (by rw [hdl]; have := HLE.out; omega) (by rw [hdl]; have := HL2.out; omega) (by simp) (fun x hx => by rw [HL.out.2 x (List.mem_of_mem_drop hx)]; exact hjm); rw [hdl] at hix; have HMA := Aside0.mk (HM.out.below (below_alloc (Below.refl _ _) (.cells #[.int .i64 (j : Int)] 3))); have HBA := Aside0.mk (HB.out.alloc HB.out.size (.cells #[.int .i64 (j : Int)] 3)); have BXA := Aside0.mk (blk_new wr (.cells #[.int .i64 (j : Int)] 3)); have HWL := Aside0.mk HB.out.size; have NBB := Aside0.mk (show g ≠ wr.heap.size ∧ ∀ (i : Nat) (b : Nat × Nat), B[i]? = some b → b.1 ≠ wr.heap.size from ⟨Nat.ne_of_lt HM.out.gt, fun i b hb => Nat.ne_of_lt (HM.out.hi hb)⟩); clear HM HB; have hgo := FG.out; rw [show m - j = (m - (j + 1)) + 1 by omega, impl_reduce.go] at hgo; have hpj : (0 ≤ (j : Int)) = True := eq_true (by omega); have hqj : ((j : Int) < (m : Int)) = True := eq_true hjz
    cases hf : impl_reduce.find j (L.drop rank) with
    | none =>
     rw [hf] at hgo hix; simp only [impl_reduce.place] at hgo hix; have CC := Aside0.mk hix; have FG2 := Aside0.mk hgo; clear hix hgo FG hdl; go_wp2_with (go_at_call 88; (with_reducible refine CC.out.mono ?_); rintro e w' ⟨rfl, ⟨nd, rfl⟩⟩; have HM2 := Aside0.mk (HMA.out.below (pw_below_drewN (Below.refl _ _) nd)); have HB2 := Aside0.mk (pw_below_drewN HBA.out nd); clear HMA HBA BXA CC)
     go_roundg k1
     case measure => exact Nat.lt_succ_self _
     case rel => exact ⟨j + 1, rank, 0, L, B, rfl, rfl, by go_num, by omega, by omega, hrk, HL, FG2, HM2, HB2⟩
    | some q =>
     rw [hf] at hgo hix; simp only [impl_reduce.place] at hgo hix; (have hql : rank + q < L0.length := by have := impl_reduce.find_lt j _ _ hf; rw [hdl] at this; omega); have CC := Aside0.mk hix; clear hix FG hdl; have hl1000 := HL2.out; (have hrq2 : rank + q < L.length := by have := HL.out.1; omega); (have hrk2 : rank < L.length := by have := HL.out.1; omega); by_cases hq0 : q = 0
     case' pos =>
      subst hq0; have hsw : impl_reduce.swap L rank (rank + 0) = L := if_pos rfl; rw [hsw, if_pos rfl] at hgo; obtain ⟨o, ho, hlo⟩ := HMA.out.at_ hrk2; have hom : L[rank].length = m := HL.out.2 _ (List.getElem_mem _); obtain ⟨own, hown⟩ : ∃ own, L[rank] = own := ⟨_, rfl⟩; rw [hown] at hlo hom; (have hgd : L.getD rank [] = own := by rw [List.getD_eq_getElem?_getD, hlo]; rfl); obtain ⟨v, hv⟩ : ∃ v, own.getD j 0 = v := ⟨_, rfl⟩; obtain ⟨d1, hd1⟩ : ∃ d1, det = d1 := ⟨_, rfl⟩; subst hd1; unfold impl_reduce.use at hgo; rw [hgd, hv] at hgo; obtain ⟨inv, hinv, hgo⟩ := Option.bind_eq_some_iff.mp hgo; obtain ⟨M, hM, hgo⟩ := Option.bind_eq_some_iff.mp hgo; have FI := Aside0.mk hinv; have FMM := Aside0.mk hM; have FG3 := Aside0.mk hgo; have HO1 := Aside0.mk ho; have HO2 := Aside0.mk hlo; have HO3 := Aside0.mk hom; have HO4 := Aside0.mk hv; clear hinv hM hgo ho hlo hom hgd hsw hown hv hrq2 hql
      go_wp2_with (first
       | (go_at_call 88; (with_reducible refine CC.out.mono ?_); rintro e w' ⟨rfl, ⟨nd, rfl⟩⟩; have HM1 := Aside0.mk (HMA.out.below (pw_below_drewN (Below.refl _ _) nd)); have HB1 := Aside0.mk (pw_below_drewN HBA.out nd); have BX1 := Aside0.mk (blk_below BXA.out (pw_below_drewN (Below.refl _ _) nd)); clear HMA HBA BXA CC; have hxo := (HM1.out.cell HO1.out HO2.out).1; rw [HO3.out] at hxo; have hbx := (blk_cell BX1.out 0).trans rfl; have hxv := (HM1.out.num HO1.out HO2.out (j : Int) (by omega) (by rw [HO3.out]; omega)).1; rw [show rd own (j : Int) = own.getD j 0 from by unfold rd; rw [Int.toNat_natCast], HO4.out, Int.toNat_natCast] at hxv)
       | (go_at_call 56; (with_reducible refine (impl_inverseMod.calls k v a1 inv _ FI.out).mono ?_); rintro e w' ⟨rfl, ⟨nd2, rfl⟩⟩; have HM2 := Aside0.mk (HM1.out.below (pw_below_drewN (Below.refl _ _) nd2)); have HB2 := Aside0.mk (pw_below_drewN HB1.out nd2); have BX2 := Aside0.mk (blk_below BX1.out (pw_below_drewN (Below.refl _ _) nd2)); clear HM1 HB1 BX1 hxo hbx hxv))
      all_goals
       (have eW : ((wr.alloc (.cells #[.int .i64 (j : Int)] 3)).drewN nd).drewN nd2 = (wr.alloc (.cells #[.int .i64 (j : Int)] 3)).drewN (nd + nd2) := by simp); rw [eW] at HM2 HB2 BX2; clear eW; generalize (wr.alloc (.cells #[.int .i64 (j : Int)] 3)).drewN (nd + nd2) = W5 at HM2 HB2 BX2 ⊢; generalize wr.heap.size = bx at BX2 HWL NBB ⊢; obtain ⟨L1, hL1⟩ : ∃ L1, L1 = L := ⟨_, rfl⟩; rw [← hL1] at HM2 HL FMM FG3 HO2; obtain ⟨B1, hB1⟩ : ∃ B1, B1 = B := ⟨_, rfl⟩; rw [← hB1] at HM2 NBB HO1; clear hL1 hB1 hrk2 hpj hqj p2 q2; generalize Int.tmod (wrap64 (det * v)) a1 = d2 at FG3 ⊢
      case' inl =>
       (have hin : L0.length = rank + 1 := by have := HLE.out; omega); (have hlen : rank + 1 = L1.length := by rw [HL.out.1, hin]); have h3 := FG3.out; rw [if_pos hlen] at h3; obtain ⟨e1, e2⟩ := Prod.mk.inj (Option.some.inj h3); subst e1 e2; (have hns : L0.length - (rank + 1) = 0 := by omega); rw [hns]; (have hl2 : ((L0.length : Nat) : Int) = ((rank + 1 : Nat) : Int) := by rw [hin]); clear h3 FG3 hlen hns
       go_loopg [110] 1 (fun kq v110 w' => v110 = .int .i64 0 ∧ Aside0 (Below w.heap.size w w'))
       case' atStart => exact ⟨rfl, HB2⟩
       case' round =>
        clear HB2; obtain ⟨rfl, HB⟩ := hrel; go_wp2; go_ret2; exact ⟨by first | rfl | (simp; done), HB.out⟩
     case' neg =>
      have hqz : ((q : Int) < 0) = False := eq_false (by omega); have hqp : ((0 : Int) < (q : Int)) = True := eq_true (by omega); have hqn : (0 < q) = True := eq_true (by omega); have hqd : decide ((0 : Int) < (q : Int)) = true := decide_eq_true (by omega); have hqe : decide ((q : Int) < 0) = false := decide_eq_false (by omega); (have hw : IntKind.i64.wrap ((rank : Int) + (q : Int)) = ((rank + q : Nat) : Int) := by rw [i64_w]; unfold wrap64; omega); (have hne : rank ≠ rank + q := by omega); have hsw : impl_reduce.swap L rank (rank + q) = MatS.exch L rank (rank + q) (L.getD rank []) (L.getD (rank + q) []) := if_neg hne; rw [hsw, if_neg hq0] at hgo; generalize rank + q = rq at hgo hrq2 hql hw hne; have prq : (0 ≤ (rq : Int)) = True := eq_true (by omega); have qrq : ((rq : Int) < (L0.length : Int)) = True := eq_true (by omega); obtain ⟨b, hb, hlb⟩ := HMA.out.at_ hrk2; obtain ⟨c, hc, hlc⟩ := HMA.out.at_ hrq2; have hbm : L[rank].length = m := HL.out.2 _ (List.getElem_mem _); have hcm : L[rq].length = m := HL.out.2 _ (List.getElem_mem _); obtain ⟨lb, hlbe⟩ : ∃ x, L[rank] = x := ⟨_, rfl⟩; obtain ⟨own, hown⟩ : ∃ own, L[rq] = own := ⟨_, rfl⟩; rw [hlbe] at hlb hbm; rw [hown] at hlc hcm; rw [show L.getD rank [] = lb by rw [List.getD_eq_getElem?_getD, hlb]; rfl, show L.getD rq [] = own by rw [List.getD_eq_getElem?_getD, hlc]; rfl] at hgo; (have hx1 : (MatS.exch L rank rq lb own)[rank]? = some own := by rw [MatS.exch_at hlb hlc, if_neg (Ne.symm hne), if_pos rfl]; exact hlc); (have hx2 : (MatS.exch B rank rq b c)[rank]? = some c := by rw [MatS.exch_at hb hc, if_neg (Ne.symm hne), if_pos rfl]; exact hc); obtain ⟨v, hv⟩ : ∃ v, own.getD j 0 = v := ⟨_, rfl⟩; obtain ⟨d1, hd1⟩ : ∃ d1, Int.tmod (wrap64 (a1 - det)) a1 = d1 := ⟨_, rfl⟩; unfold impl_reduce.use at hgo; rw [show (MatS.exch L rank rq lb own).getD rank [] = own by rw [List.getD_eq_getElem?_getD, hx1]; rfl, hv, hd1] at hgo; obtain ⟨inv, hinv, hgo⟩ := Option.bind_eq_some_iff.mp hgo; obtain ⟨M, hM, hgo⟩ := Option.bind_eq_some_iff.mp hgo; have FI := Aside0.mk hinv; have FMM := Aside0.mk hM; have FG3 := Aside0.mk hgo; have HO1 := Aside0.mk hx2; have HO2 := Aside0.mk hx1; have HO3 := Aside0.mk hcm; have HO4 := Aside0.mk hv; have Kb := Aside0.mk hb; have Kc := Aside0.mk hc; have Klb := Aside0.mk hlb; have Klc := Aside0.mk hlc; have Kbm := Aside0.mk hbm
      have HLx : Aside0 ((MatS.exch L rank rq lb own).length = L0.length ∧ ∀ x ∈ MatS.exch L rank rq lb own, x.length = m) := ⟨by unfold MatS.exch; rw [List.length_set, List.length_set]; exact HL.out.1, fun x hx => by
       obtain ⟨t, ht⟩ := List.getElem?_of_mem hx
       rw [MatS.exch_at hlb hlc] at ht
       exact HL.out.2 x (List.mem_of_getElem? ht)⟩
      have NBx : Aside0 (g ≠ wr.heap.size ∧ ∀ (i : Nat) (b_ : Nat × Nat), (MatS.exch B rank rq b c)[i]? = some b_ → b_.1 ≠ wr.heap.size) := ⟨NBB.out.1, fun i b_ hb_ => by
       rw [MatS.exch_at hb hc] at hb_
       exact NBB.out.2 _ b_ hb_⟩
      clear hinv hM hgo hb hc hlb hlc hbm hcm hsw hlbe hown hx1 hx2 hv hrq2 hql hrk2 HL NBB hq0; have HL := HLx; have NBB := NBx; clear HLx NBx; go_wp2_with (go_at_call 88; (with_reducible refine CC.out.mono ?_); rintro e w' ⟨rfl, ⟨nd, rfl⟩⟩; have HM1 := Aside0.mk (HMA.out.below (pw_below_drewN (Below.refl _ _) nd)); have HB1 := Aside0.mk (pw_below_drewN HBA.out nd); have BX1 := Aside0.mk (blk_below BXA.out (pw_below_drewN (Below.refl _ _) nd)); clear HMA HBA BXA CC); generalize (wr.alloc (.cells #[.int .i64 (j : Int)] 3)).drewN nd = W1 at HM1 HB1 BX1 ⊢; generalize wr.heap.size = bx at BX1 HWL NBB ⊢; have HM2 := Aside0.mk (HM1.out.below (below_drew (Below.refl _ _))); have BX2 := Aside0.mk (blk_below BX1.out (below_drew (Below.refl _ _))); have HB2 := Aside0.mk (below_drew1 HB1.out); clear HM1 HB1 BX1; obtain ⟨hxb, hfb⟩ := HM2.out.cell Kb.out Klb.out; rw [Kbm.out] at hxb; have hxc := (HM2.out.cell Kc.out Klc.out).1; obtain ⟨hyc, hyf⟩ := HM2.out.mid Kc.out Klc.out hne (.slice (some ⟨c.1, 0, none⟩) m c.2); rw [HO3.out] at hxc hyc; refine start_ (n := 20) (S := fun w' => w'.cell? ⟨g, rq, none⟩ = some (.slice (some ⟨c.1, 0, none⟩) m c.2) ∧ w'.cell? ⟨g, rank, none⟩ = some (.slice (some ⟨b.1, 0, none⟩) m b.2)) (ds := [17, 19]) #[false, false, false, false, false, false, false, false, false, false, false, false, false, false, false, false, false, false, false, false] (by kernel_rfl) rfl rfl ⟨hxc, hxb⟩ (fun hHeld => ?_); refine with_tabW impl_reduce.tab20 impl_reduce.bits20 (fun HT_ HW_ => ?_); generalize W1.drew = W2 at HM2 HB2 BX2 hxc hxb hfb hyc hyf hHeld ⊢; refine pu 0 64 HT_.out ?_; refine pu 1 65 HT_.out ?_; refine pu 2 66 HT_.out ?_; refine pu 3 67 HT_.out ?_; refine pu 4 68 HT_.out ?_; refine pu 5 69 HT_.out ?_; refine pu 6 70 HT_.out ?_; refine pu 7 71 HT_.out ?_; refine pu 8 72 HT_.out ?_; refine pu 9 73 HT_.out ?_; refine pu 10 74 HT_.out ?_; refine pu 12 76 HT_.out ?_; refine pu 13 77 HT_.out ?_; refine pu 14 78 HT_.out ?_; refine tk 11 75 HT_.out HW_.out hHeld ?_ (hy := by rintro w' ⟨s0, s1⟩; go_simp; with_reducible rfl); refine tk 15 79 HT_.out HW_.out hHeld ?_ (hy := by rintro w' ⟨s0, s1⟩; go_simp; with_reducible rfl); refine pu 16 80 HT_.out ?_; refine last_ (i := 17) (N := none) #[true, true, true, true, true, true, true, true, true, true, true, true, true, true, true, true, true, true, false, false] rfl rfl (one_of HT_.out (by kernel_rfl)) (by decide) (fun K hK => ?_); refine skip_ (w1 := ?_) (by rfl) rfl ?_ ?_
      rotate_left
      ·go_simp; rfl
      refine hK.out _ _ ?_; clear hK K; refine pu 18 81 HT_.out ?_; refine last_ (i := 19) (N := none) #[true, true, true, true, true, true, true, true, true, true, true, true, true, true, true, true, true, true, true, true] rfl rfl (one_of HT_.out (by kernel_rfl)) (by decide) (fun K hK => ?_); refine skip_ (w1 := ?_) (by rfl) rfl ?_ ?_
      rotate_left
      ·go_simp; rfl
      refine hK.out _ _ ?_; clear hK K; refine done_ (done_of HT_.out (by kernel_rfl)) ?_; have hP := HM2.out.swap Kb.out Klb.out Kc.out Klc.out; rw [HO3.out, Kbm.out] at hP; have HM3 := Aside0.mk hP; have BX3 := Aside0.mk ((Below.heap_setCell (W2.setCell ⟨g, rank, none⟩ (.slice (some ⟨c.1, 0, none⟩) m c.2)) ⟨g, rq, none⟩ (.slice (some ⟨b.1, 0, none⟩) m b.2) bx (Ne.symm NBB.out.1)).trans ((Below.heap_setCell W2 ⟨g, rank, none⟩ (.slice (some ⟨c.1, 0, none⟩) m c.2) bx (Ne.symm NBB.out.1)).trans BX2.out)); have HB3 := Aside0.mk (below_set (g := g) (j := rq) (v := .slice (some ⟨b.1, 0, none⟩) m b.2) (below_set (g := g) (j := rank) (v := .slice (some ⟨c.1, 0, none⟩) m c.2) HB2.out HM2.out.gb) HM2.out.gb); clear hP HM2 BX2 HB2 hxb hxc hfb hyc hyf hHeld hw prq qrq hne; generalize (W2.setCell ⟨g, rank, none⟩ (.slice (some ⟨c.1, 0, none⟩) m c.2)).setCell ⟨g, rq, none⟩ (.slice (some ⟨b.1, 0, none⟩) m b.2) = W3 at HM3 BX3 HB3 ⊢; obtain ⟨L1, hL1⟩ : ∃ L1, L1 = MatS.exch L rank rq lb own := ⟨_, rfl⟩; rw [← hL1] at HM3 HL FMM FG3 HO2; obtain ⟨B1, hB1⟩ : ∃ B1, B1 = MatS.exch B rank rq b c := ⟨_, rfl⟩; rw [← hB1] at HM3 NBB HO1; clear hL1 hB1; have hxo := (HM3.out.cell HO1.out HO2.out).1; rw [HO3.out] at hxo; have hbx := (blk_cell BX3.out 0).trans rfl; have hxv := (HM3.out.num HO1.out HO2.out (j : Int) (by omega) (by rw [HO3.out]; omega)).1; rw [show rd own (j : Int) = own.getD j 0 from by unfold rd; rw [Int.toNat_natCast], HO4.out, Int.toNat_natCast] at hxv; obtain ⟨o, ho⟩ : ∃ o, o = c := ⟨_, rfl⟩; rw [← ho] at HO1 hxo hxv; clear ho Kb Kc Klb Klc Kbm; go_wp2_with (go_at_call 56; (with_reducible refine (impl_inverseMod.calls k v a1 inv _ FI.out).mono ?_); rintro e w' ⟨rfl, ⟨nd2, rfl⟩⟩; have HM2 := Aside0.mk (HM3.out.below (pw_below_drewN (Below.refl _ _) nd2)); have HB2 := Aside0.mk (pw_below_drewN HB3.out nd2); have BX2 := Aside0.mk (blk_below BX3.out (pw_below_drewN (Below.refl _ _) nd2)); clear HM3 HB3 BX3 hxo hbx hxv)
      all_goals
       generalize W3.drewN nd2 = W5 at HM2 HB2 BX2 ⊢; clear hpj hqj p2 q2 hd1 hqz hqp hqn hqd hqe; generalize Int.tmod (wrap64 (d1 * v)) a1 = d2 at FG3 ⊢
      case' inl =>
       (have hin : L0.length = rank + 1 := by have := HLE.out; omega); (have hlen : rank + 1 = L1.length := by rw [HL.out.1, hin]); have h3 := FG3.out; rw [if_pos hlen] at h3; obtain ⟨e1, e2⟩ := Prod.mk.inj (Option.some.inj h3); subst e1 e2; (have hns : L0.length - (rank + 1) = 0 := by omega); rw [hns]; (have hl2 : ((L0.length : Nat) : Int) = ((rank + 1 : Nat) : Int) := by rw [hin]); clear h3 FG3 hlen hns
       go_loopg [110] 1 (fun kq v110 w' => v110 = .int .i64 0 ∧ Aside0 (Below w.heap.size w w'))
       case' atStart => exact ⟨rfl, HB2⟩
       case' round =>
        clear HB2; obtain ⟨rfl, HB⟩ := hrel; go_wp2; go_ret2; exact ⟨by first | rfl | (simp; done), HB.out⟩
     all_goals
      obtain ⟨hMl, hMg⟩ := impl_reduce.rowsF_get a1 j inv own _ M FMM.out; rw [List.length_drop, HL.out.1] at hMl; have HMl := Aside0.mk hMl; have HMg := Aside0.mk hMg
      have HMr : Aside0 (∀ x ∈ M, x.length = m) := ⟨by
       intro x hx
       obtain ⟨t, ht, rfl⟩ := List.getElem_of_mem hx
       have hd : t < (L1.drop (rank + 1)).length := by rw [List.length_drop, HL.out.1]; omega
       obtain ⟨T, hT, e⟩ := Option.bind_eq_some_iff.mp (HMg.out t hd ht)
       have hr := HL.out.2 _ (List.mem_of_mem_drop (List.getElem_mem hd))
       have hTl := (impl_reduce.red_get a1 _ _ _ T hT).1
       rw [List.length_drop] at hTl
       rw [← Option.some.inj e, List.length_append, List.length_take, hTl]
       omega⟩
      clear hMl hMg
      go_loopg [110] (L0.length + 1) (fun kq v110 w' => ∃ (i : Nat), v110 = .int .i64 i ∧ i ≤ L0.length - (rank + 1) ∧ L0.length - (rank + 1) - i < kq ∧ Aside0 (MatS.Mat 35 3 w' w.heap.size g B1 (impl_reduce.mid L1 M (rank + 1) i)) ∧ Aside0 (w'.heap[bx]? = some (.cells #[.int .i64 (j : Int)] 3 (0, 0))) ∧ Aside0 (Below w.heap.size w w'))
      case' atStart => exact ⟨0, by go_num, Nat.zero_le _, by omega, ⟨by rw [impl_reduce.mid_start]; exact HM2.out⟩, BX2, HB2⟩
      case' round =>
       clear HM2 BX2 HB2; obtain ⟨i, rfl, hi, hgi, HM, BX, HB⟩ := hrel; obtain ⟨k2, rfl⟩ : ∃ m, gk = m + 1 := ⟨gk - 1, by omega⟩; by_cases hil : i < L0.length - (rank + 1)
       case' pos =>
        (have hiz : (i : Int) < ((L0.length - (rank + 1) : Nat) : Int) := by omega); (have hMi : i < M.length := by have := HMl.out; omega); (have hr1 : rank + 1 + i < L1.length := by have := HL.out.1; omega); have hLM := impl_reduce.mid_len L1 M (rank + 1) i (by omega) (by have := HMl.out; have := HL.out.1; omega) (by omega); obtain ⟨b, hb, hb_⟩ := HM.out.at_ (i := rank + 1 + i) (by rw [hLM]; exact hr1); clear hb_; have hrow := impl_reduce.mid_at L1 M (rank + 1) i (by omega) (by have := HMl.out; have := HL.out.1; omega) hMi; rw [List.getElem?_eq_getElem hr1] at hrow; (have hd : i < (L1.drop (rank + 1)).length := by rw [List.length_drop]; omega); obtain ⟨T, hT, hTe⟩ := Option.bind_eq_some_iff.mp (HMg.out i hd hMi); rw [List.getElem_drop] at hT hTe; have hrm := HL.out.2 _ (List.getElem_mem hr1); obtain ⟨row, hre⟩ : ∃ row, L1[rank + 1 + i] = row := ⟨_, rfl⟩; rw [hre] at hT hTe hrow hrm; obtain ⟨u, hu⟩ : ∃ u, row.getD j 0 = u := ⟨_, rfl⟩; rw [hu] at hT; generalize hbq : Int.tmod (wrap64 (u * inv)) a1 = bq at hT; obtain ⟨hTl, _, hTg⟩ := impl_reduce.red_get a1 bq _ _ T hT; rw [List.length_drop, hrm] at hTl; have hset := impl_reduce.mid_set L1 M (rank + 1) i (by omega) (by have := HMl.out; have := HL.out.1; omega) hMi; rw [← Option.some.inj hTe] at hset; have HSET := Aside0.mk hset; have HROW := Aside0.mk hrow; have HRM := Aside0.mk hrm; have HBB := Aside0.mk hb; have HTG := Aside0.mk hTg; have HTL := Aside0.mk hTl; have HOL : Aside0 ((impl_reduce.mid L1 M (rank + 1) i)[rank]? = some own) := ⟨by rw [impl_reduce.mid_low L1 M _ i rank (by omega) (by omega)]; exact HO2.out⟩; have HLL := Aside0.mk hLM; have hxr := (HM.out.cell hb hrow).1; rw [hrm] at hxr; have hbx := (blk_cell BX.out 0).trans rfl; have hxu := (HM.out.num hb hrow (j : Int) (by omega) (by rw [hrm]; omega)).1; rw [show rd row (j : Int) = row.getD j 0 from by unfold rd; rw [Int.toNat_natCast], hu, Int.toNat_natCast] at hxu; have pi := eq_true (show 0 ≤ (i : Int) by omega); have pj := eq_true (show 0 ≤ (j : Int) by omega); have qj := eq_true hjz; clear hset hrow hrm hb hTg hTl hLM hT hTe hre hu hd hMi; go_wp2; have HNE := Aside0.mk (show b.1 ≠ bx from NBB.out.2 _ b HBB.out); have HRK := Aside0.mk (show rank ≠ rank + 1 + i by omega)
        have HSS := Aside0.mk (show ((impl_reduce.mid L1 M (rank + 1) i).set (rank + 1 + i) row) = impl_reduce.mid L1 M (rank + 1) i from by
         obtain ⟨h1_, h2_⟩ := List.getElem?_eq_some_iff.1 HROW.out
         rw [← h2_, List.set_getElem_self])
        have hri : row.length = m := HRM.out; generalize impl_reduce.mid L1 M (rank + 1) i = LL at HM HOL HLL HROW HSET HSS
        first | rw [hbq] | skip
        clear hxr hxu
        go_loopg [21] (m + 1) (fun kq v21 w' => ∃ (kk : Nat), v21 = .int .i64 kk ∧ j ≤ kk ∧ kk ≤ m ∧ m - kk < kq ∧ Aside0 (MatS.Mat 35 3 w' w.heap.size g B1 (LL.set (rank + 1 + i) (impl_reduce.cur row T j kk))) ∧ Aside0 (w'.heap[bx]? = some (.cells #[.int .i64 (j : Int)] 3 (0, 0))) ∧ Aside0 (Below w.heap.size w w'))
        case' atStart => exact ⟨j, rfl, Nat.le_refl _, hj, by omega, ⟨by rw [impl_reduce.cur_start, HSS.out]; exact HM.out⟩, BX, HB⟩
        case' round =>
         clear HM BX HB hbx; obtain ⟨kk, rfl, hj', hkm0, hgk, HM, BX, HB⟩ := hrel; obtain ⟨k3, rfl⟩ : ∃ m, gk = m + 1 := ⟨gk - 1, by omega⟩; by_cases hkl : kk < m
         case' pos =>
          have hkm : kk < row.length := by omega
          have hbr := HBB.out
          have TLn := Aside0.mk (show T.length = row.length - j by rw [hri]; exact HTL.out)
          have hrowc : (LL.set (rank + 1 + i) (impl_reduce.cur row T j kk))[rank + 1 + i]? = some (impl_reduce.cur row T j kk) := by rw [List.getElem?_set, if_pos rfl, if_pos (by rw [HLL.out]; exact hr1)]
          have howc : (LL.set (rank + 1 + i) (impl_reduce.cur row T j kk))[rank]? = some own := by rw [List.getElem?_set, if_neg (Ne.symm HRK.out)]; exact HOL.out
          have hkt : kk - j < T.length := by have := HTL.out; omega
          have hft := HTG.out (kk - j) (by rw [List.length_drop]; omega) hkt
          have hgd : ∀ l : List Int, (l.drop j).getD (kk - j) 0 = l.getD kk 0 := fun l => by rw [List.getD_eq_getElem?_getD, List.getElem?_drop, List.getD_eq_getElem?_getD, show j + (kk - j) = kk by omega]
          rw [hgd, hgd] at hft
          have hcs := impl_reduce.cur_set row T j kk hj' hkm TLn.out hkt
          generalize T[kk - j] = tk at hft hcs
          obtain ⟨xk, hxk⟩ : ∃ x, row.getD kk 0 = x := ⟨_, rfl⟩
          obtain ⟨yk, hyk⟩ : ∃ y, own.getD kk 0 = y := ⟨_, rfl⟩
          rw [hxk, hyk] at hft
          have FT := Aside0.mk hft
          have HCS := Aside0.mk hcs
          have nM := Aside0.mk (HM.out.below (below_drew (Below.refl _ _)))
          have nX := Aside0.mk (blk_below BX.out (below_drew (Below.refl _ _)))
          have nB := Aside0.mk (below_drew1 HB.out)
          clear HM BX HB hft hcs hgd
          have HM := nM
          have BX := nX
          have HB := nB
          clear nM nX nB
          have hxr := (HM.out.num hbr hrowc (kk : Int) (by omega) (by rw [impl_reduce.cur_len row T j kk hj' (by omega) TLn.out]; omega)).1
          rw [show rd (impl_reduce.cur row T j kk) (kk : Int) = (impl_reduce.cur row T j kk).getD kk 0 from by unfold rd; rw [Int.toNat_natCast], impl_reduce.cur_at row T j kk hj' hkm TLn.out, hxk, Int.toNat_natCast] at hxr
          have hxo := (HM.out.num HO1.out howc (kk : Int) (by omega) (by rw [HO3.out]; omega)).1
          rw [show rd own (kk : Int) = own.getD kk 0 from by unfold rd; rw [Int.toNat_natCast], hyk, Int.toNat_natCast] at hxo
          have HRC := Aside0.mk hrowc
          have HKM := Aside0.mk hkm
          have HKT := Aside0.mk hkt
          have HBR := Aside0.mk hbr
          have pk := eq_true (show 0 ≤ (kk : Int) by omega)
          have qk := eq_true (show (kk : Int) < (m : Int) by omega)
          clear hrowc howc hkm hbr hkt hxk hyk
          go_wp2
          refine start_ (n := 19) (S := fun w' => w'.cell? ⟨b.1, kk, none⟩ = some (.int .i64 xk) ∧ w'.cell? ⟨o.1, kk, none⟩ = some (.int .i64 yk)) (ds := [18]) #[false, false, false, false, false, false, false, false, false, false, false, false, false, false, false, false, false, false, false] (by kernel_rfl) rfl rfl ⟨hxr, hxo⟩ (fun hHeld => ?_); refine with_tabW impl_reduce.tab32 impl_reduce.bits32 (fun HT_ HW_ => ?_)
          generalize wr.drew = W4 at HM HB BX hxr hxo hHeld ⊢
          refine pure_ (i := 0) (N := some 129) (v := ?_) (a' := ?_) #[true, false, false, false, false, false, false, false, false, false, false, false, false, false, false, false, false, false, false] rfl rfl (any_of HT_.out (by kernel_rfl)) (fun _ _ _ h => h) (Or.inl ⟨by rfl, ?_⟩) ?_ ?_
          rotate_left
          ·intro w'
           go_simp
           with_reducible rfl
          rotate_left
          ·simp only [Act.put, List.setIfInBounds_toArray, List.set_cons_zero, List.set_cons_succ, i64_w, i32_w]
           rfl
          refine pure_ (i := 1) (N := some 130) (v := ?_) (a' := ?_) #[true, true, false, false, false, false, false, false, false, false, false, false, false, false, false, false, false, false, false] rfl rfl (any_of HT_.out (by kernel_rfl)) (fun _ _ _ h => h) (Or.inl ⟨by rfl, ?_⟩) ?_ ?_
          rotate_left
          ·intro w'
           go_simp
           with_reducible rfl
          rotate_left
          ·simp only [Act.put, List.setIfInBounds_toArray, List.set_cons_zero, List.set_cons_succ, i64_w, i32_w]
           rfl
          refine pure_ (i := 2) (N := some 131) (v := ?_) (a' := ?_) #[true, true, true, false, false, false, false, false, false, false, false, false, false, false, false, false, false, false, false] rfl rfl (any_of HT_.out (by kernel_rfl)) (fun _ _ _ h => h) (Or.inl ⟨by rfl, ?_⟩) ?_ ?_
          rotate_left
          ·intro w'
           go_simp
           with_reducible rfl
          rotate_left
          ·simp only [Act.put, List.setIfInBounds_toArray, List.set_cons_zero, List.set_cons_succ, i64_w, i32_w]
           rfl
          refine pure_ (i := 3) (N := some 132) (v := ?_) (a' := ?_) #[true, true, true, true, false, false, false, false, false, false, false, false, false, false, false, false, false, false, false] rfl rfl (any_of HT_.out (by kernel_rfl)) (fun _ _ _ h => h) (Or.inl ⟨by rfl, ?_⟩) ?_ ?_
          rotate_left
          ·intro w'
           go_simp
           with_reducible rfl
          rotate_left
          ·simp only [Act.put, List.setIfInBounds_toArray, List.set_cons_zero, List.set_cons_succ, i64_w, i32_w]; rfl
          refine pure_ (i := 4) (N := some 133) (v := ?_) (a' := ?_) #[true, true, true, true, true, false, false, false, false, false, false, false, false, false, false, false, false, false, false] rfl rfl (any_of HT_.out (by kernel_rfl)) (fun _ _ _ h => h) (Or.inl ⟨by rfl, ?_⟩) ?_ ?_
          rotate_left
          ·intro w'; go_simp; with_reducible rfl
          rotate_left
          ·simp only [Act.put, List.setIfInBounds_toArray, List.set_cons_zero, List.set_cons_succ, i64_w, i32_w]; rfl
          refine pure_ (i := 6) (N := some 135) (v := ?_) (a' := ?_) #[true, true, true, true, true, false, true, false, false, false, false, false, false, false, false, false, false, false, false] rfl rfl (any_of HT_.out (by kernel_rfl)) (fun _ _ _ h => h) (Or.inl ⟨by rfl, ?_⟩) ?_ ?_
          rotate_left
          ·intro w'; go_simp; with_reducible rfl
          rotate_left
          ·simp only [Act.put, List.setIfInBounds_toArray, List.set_cons_zero, List.set_cons_succ, i64_w, i32_w]; rfl
          refine pure_ (i := 7) (N := some 136) (v := ?_) (a' := ?_) #[true, true, true, true, true, false, true, true, false, false, false, false, false, false, false, false, false, false, false] rfl rfl (any_of HT_.out (by kernel_rfl)) (fun _ _ _ h => h) (Or.inl ⟨by rfl, ?_⟩) ?_ ?_
          rotate_left
          ·intro w'; go_simp; with_reducible rfl
          rotate_left
          ·simp only [Act.put, List.setIfInBounds_toArray, List.set_cons_zero, List.set_cons_succ, i64_w, i32_w]; rfl
          refine pure_ (i := 8) (N := some 137) (v := ?_) (a' := ?_) #[true, true, true, true, true, false, true, true, true, false, false, false, false, false, false, false, false, false, false] rfl rfl (any_of HT_.out (by kernel_rfl)) (fun _ _ _ h => h) (Or.inl ⟨by rfl, ?_⟩) ?_ ?_
          rotate_left
          ·intro w'; go_simp; with_reducible rfl
          rotate_left
          ·simp only [Act.put, List.setIfInBounds_toArray, List.set_cons_zero, List.set_cons_succ, i64_w, i32_w]; rfl
          refine pure_ (i := 9) (N := some 138) (v := ?_) (a' := ?_) #[true, true, true, true, true, false, true, true, true, true, false, false, false, false, false, false, false, false, false] rfl rfl (any_of HT_.out (by kernel_rfl)) (fun _ _ _ h => h) (Or.inl ⟨by rfl, ?_⟩) ?_ ?_
          rotate_left
          ·intro w'; go_simp; with_reducible rfl
          rotate_left
          ·simp only [Act.put, List.setIfInBounds_toArray, List.set_cons_zero, List.set_cons_succ, i64_w, i32_w]; rfl
          refine pure_ (i := 12) (N := some 141) (v := ?_) (a' := ?_) #[true, true, true, true, true, false, true, true, true, true, false, false, true, false, false, false, false, false, false] rfl rfl (any_of HT_.out (by kernel_rfl)) (fun _ _ _ h => h) (Or.inl ⟨by rfl, ?_⟩) ?_ ?_
          rotate_left
          ·intro w'; go_simp; with_reducible rfl
          rotate_left
          ·simp only [Act.put, List.setIfInBounds_toArray, List.set_cons_zero, List.set_cons_succ, i64_w, i32_w]; rfl
          refine pure_ (i := 15) (N := some 144) (v := ?_) (a' := ?_) #[true, true, true, true, true, false, true, true, true, true, false, false, true, false, false, true, false, false, false] rfl rfl (any_of HT_.out (by kernel_rfl)) (fun _ _ _ h => h) (Or.inl ⟨by rfl, ?_⟩) ?_ ?_
          rotate_left
          ·intro w'; go_simp; with_reducible rfl
          rotate_left
          ·simp only [Act.put, List.setIfInBounds_toArray, List.set_cons_zero, List.set_cons_succ, i64_w, i32_w]; rfl
          refine take_ (i := 5) (N := some 134) (v := ?_) (a' := ?_) #[true, true, true, true, true, true, true, true, true, true, false, false, true, false, false, true, false, false, false] rfl rfl (take_ofW HT_.out HW_.out (by kernel_rfl)) (fun _ _ _ h => h) (Or.inl ⟨by rfl, ?_⟩) hHeld ?_ ?_
          rotate_left
          ·rintro w' ⟨s0, s1⟩; go_simp; with_reducible rfl
          rotate_left
          ·simp only [Act.put, List.setIfInBounds_toArray, List.set_cons_zero, List.set_cons_succ, i64_w, i32_w]; rfl
          refine take_ (i := 10) (N := some 139) (v := ?_) (a' := ?_) #[true, true, true, true, true, true, true, true, true, true, true, false, true, false, false, true, false, false, false] rfl rfl (take_ofW HT_.out HW_.out (by kernel_rfl)) (fun _ _ _ h => h) (Or.inl ⟨by rfl, ?_⟩) hHeld ?_ ?_
          rotate_left
          ·rintro w' ⟨s0, s1⟩; go_simp; with_reducible rfl
          rotate_left
          ·simp only [Act.put, List.setIfInBounds_toArray, List.set_cons_zero, List.set_cons_succ, i64_w, i32_w]; rfl
          refine pure_ (i := 11) (N := some 140) (v := ?_) (a' := ?_) #[true, true, true, true, true, true, true, true, true, true, true, true, true, false, false, true, false, false, false] rfl rfl (any_of HT_.out (by kernel_rfl)) (fun _ _ _ h => h) (Or.inl ⟨by rfl, ?_⟩) ?_ ?_
          rotate_left
          ·intro w'; go_simp; with_reducible rfl
          rotate_left
          ·simp only [Act.put, List.setIfInBounds_toArray, List.set_cons_zero, List.set_cons_succ, i64_w, i32_w]; rfl
          refine pure_ (i := 13) (N := some 142) (v := ?_) (a' := ?_) #[true, true, true, true, true, true, true, true, true, true, true, true, true, true, false, true, false, false, false] rfl rfl (any_of HT_.out (by kernel_rfl)) (fun _ _ _ h => h) (Or.inl ⟨by rfl, ?_⟩) ?_ ?_
          rotate_left
          ·intro w'; go_simp; with_reducible rfl
          rotate_left
          ·simp only [Act.put, List.setIfInBounds_toArray, List.set_cons_zero, List.set_cons_succ, i64_w, i32_w]; rfl
          refine pure_ (i := 14) (N := some 143) (v := ?_) (a' := ?_) #[true, true, true, true, true, true, true, true, true, true, true, true, true, true, true, true, false, false, false] rfl rfl (any_of HT_.out (by kernel_rfl)) (fun _ _ _ h => h) (Or.inl ⟨by rfl, ?_⟩) ?_ ?_
          rotate_left
          ·intro w'; go_simp; with_reducible rfl
          rotate_left
          ·simp only [Act.put, List.setIfInBounds_toArray, List.set_cons_zero, List.set_cons_succ, i64_w, i32_w]; rfl
          refine one_ (i := 16) (N := some 145) #[true, true, true, true, true, true, true, true, true, true, true, true, true, true, true, true, true, false, false] rfl rfl (one_of HT_.out (by kernel_rfl)) (by decide) (fun K hK => ?_); refine goes_ Try.func55 (by kernel_rfl) rfl #[(.int .i64 (wrap64 (xk - Int.tmod (wrap64 (bq * yk)) a1))), .int .i64 a1] (by rfl) rfl rfl (by (try simp only [List.map_toArray, List.map_cons, List.map_nil]); first | done | rfl) ?_; (with_reducible refine (impl_rest.calls _ a1 tk _ FT.out).mono ?_); rintro e w' ⟨rfl, ⟨nd, rfl⟩⟩; refine ⟨_, rfl, ?_⟩; refine hK.out _ _ ⟨by rw [(pw_below_drewN (Below.refl _ _) nd).cell (World.block_lt_of_cell? _ _ hHeld.1)]; exact hHeld.1, by rw [(pw_below_drewN (Below.refl _ _) nd).cell (World.block_lt_of_cell? _ _ hHeld.2)]; exact hHeld.2⟩ (fun hHeld => ?_); have hfr_ := (HM.out.below (pw_below_drewN (Below.refl _ _) nd)).num HBR.out HRC.out (kk : Int) (by omega) (by rw [impl_reduce.cur_len row T j kk hj' (Nat.le_of_lt HKM.out) TLn.out]; have := HKM.out; omega); simp only [Int.toNat_natCast] at hfr_; have hfc := hfr_.1; have hff := hfr_.2; clear hfr_; clear hK K; refine norm_ (a' := ?_) ?_ ?_
          rotate_left
          ·show Act.put _ (some 145) _ = _; simp only [Act.put, List.setIfInBounds_toArray, List.set_cons_zero, List.set_cons_succ, i64_w, i32_w]; rfl
          refine pu 17 146 HT_.out ?_; refine last_ (i := 18) (N := none) #[true, true, true, true, true, true, true, true, true, true, true, true, true, true, true, true, true, true, true] rfl rfl (one_of HT_.out (by kernel_rfl)) (by decide) (fun K hK => ?_); refine skip_ (w1 := ?_) (by rfl) rfl ?_ ?_
          rotate_left
          ·go_simp; rfl
          refine hK.out _ _ ?_; clear hK K; refine done_ (done_of HT_.out (by kernel_rfl)) ?_; have hP := (HM.out.below (pw_below_drewN (Below.refl _ _) nd)).put HBR.out HRC.out (kk : Int) tk; rw [Int.toNat_natCast, List.set_set, HCS.out] at hP; have nM := Aside0.mk hP; have nX := Aside0.mk ((Below.heap_setCell (W4.drewN nd) ⟨b.1, kk, none⟩ (.int .i64 tk) bx (Ne.symm HNE.out)).trans (blk_below BX.out (pw_below_drewN (Below.refl _ _) nd))); have nB := Aside0.mk (below_set (g := b.1) (j := kk) (v := .int .i64 tk) (pw_below_drewN HB.out nd) (HM.out.lo HBR.out HRC.out)); clear hP HM BX HB hfc hff hHeld hxr hxo; go_wp2
          go_roundg k3
          case' measure => exact Nat.lt_succ_self _
          case' rel => exact ⟨kk + 1, by go_num, by omega, by omega, by omega, nM, nX, nB⟩
         case' neg =>
          (have hke : kk = row.length := by omega); subst hke; rw [impl_reduce.cur_end row T j (by rw [hri]; exact HTL.out), HSET.out] at HM; go_wp2
          go_roundg k2
          case' measure => exact Nat.lt_succ_self _
          case' rel => exact ⟨i + 1, by go_num, by omega, by omega, HM, BX, HB⟩
       case' neg =>
        (have hie : i = M.length := by have := HMl.out; omega); have hml : M.length = L0.length - (rank + 1) := HMl.out; rw [hie, impl_reduce.mid_end L1 M (rank + 1) (by have := HL.out.1; omega) (by have := HL.out.1; omega)] at HM; have hLn : (L1.take (rank + 1) ++ M).length = L0.length := by rw [List.length_append, List.length_take, hml]; have := HL.out.1; omega
        have HLN : Aside0 ((L1.take (rank + 1) ++ M).length = L0.length ∧ ∀ x ∈ L1.take (rank + 1) ++ M, x.length = m) := ⟨hLn, fun x hx => by
         rcases List.mem_append.1 hx with hx | hx
         ·exact HL.out.2 x (List.mem_of_mem_take hx)
         exact HMr.out x hx⟩
        (have hie2 : (i : Int) = ((L0.length - (rank + 1) : Nat) : Int) := by omega); have h3 := FG3.out; clear hLn hml hie; by_cases hend : L0.length = rank + 1
        case' pos =>
         rw [if_pos (by rw [HL.out.1, hend])] at h3; obtain ⟨e1, e2⟩ := Prod.mk.inj (Option.some.inj h3); subst e1 e2; (have hl2 : ((L0.length : Nat) : Int) = ((rank + 1 : Nat) : Int) := by rw [hend]); clear h3 FG3; go_wp2; go_ret2; exact ⟨by first | rfl | (simp; done), HB.out⟩
        case' neg =>
         rw [if_neg (fun e => hend (by rw [← HL.out.1]; exact e.symm))] at h3; have FG4 := Aside0.mk h3; have hl3 : (((rank + 1 : Nat) : Int) = ((L0.length : Nat) : Int)) = False := eq_false (by omega); clear h3 FG3; go_wp2
         go_roundg k1
         case' measure => exact Nat.lt_succ_self _
         case' rel => exact ⟨j + 1, rank + 1, d2, _, B1, by go_num, rfl, by go_num, by omega, by omega, by omega, HLN, FG4, HM, HB⟩
   (obtain rfl : j = m := by omega); have h3 := FG.out; rw [Nat.sub_self, impl_reduce.go] at h3; obtain ⟨e1, e2⟩ := Prod.mk.inj (Option.some.inj h3); subst e1 e2; clear h3 FG; go_wp2; go_ret2; exact ⟨by first | rfl | (simp; done), HB.out⟩
/-! ### spec_taSteps: function 51 -/
/-- a number modulo p, as the reference reckons it -/
def spec_taSteps.mod (p x : Int) : Int := Int.tmod (wrap64 (Int.tmod x p + p)) p
def spec_taSteps.one (p t x y : Int) : Int := Int.tmod (wrap64 (x + wrap64 (wrap64 (p - t) * y))) p
/-- a row below the pivot's row, changed -/
def spec_taSteps.row (p : Int) (j : Nat) (inv : Int) (own row : List Int) : List Int := List.zipWith (spec_taSteps.one p (Int.tmod (wrap64 (row.getD j 0 * inv)) p)) row own
def spec_taSteps.go (k : Nat) (p : Int) : Nat → Nat → List (List Int) → Nat → Int → Option (Int × Int)
 | 0, _, _, rank, det => some (det, (rank : Int))
 | d + 1, j, L, rank, det =>
  match impl_reduce.find j (L.drop rank) with
  | none => spec_taSteps.go k p d (j + 1) L rank 0
  | some q => (spec_taInverse.f k (((impl_reduce.swap L rank (rank + q)).getD rank []).getD j 0) p).bind fun inv =>
    spec_taSteps.go k p d (j + 1) ((impl_reduce.swap L rank (rank + q)).take (rank + 1) ++ ((impl_reduce.swap L rank (rank + q)).drop (rank + 1)).map (spec_taSteps.row p j inv ((impl_reduce.swap L rank (rank + q)).getD rank []))) (rank + 1)
     (Int.tmod (wrap64 ((if q = 0 then det else Int.tmod (wrap64 (p - det)) p) * ((impl_reduce.swap L rank (rank + q)).getD rank []).getD j 0)) p)
def spec_taSteps.f (k : Nat) (l0 : List (List Int)) (a1 : Int) : Option (Int × Int) := if l0 = [] then some (1, 0) else if impl_reduce.good l0 a1 = true then spec_taSteps.go k a1 (l0.getD 0 []).length 0 (l0.map fun x => x.map (spec_taSteps.mod a1)) 0 1 else none
theorem spec_taSteps.go_mono (k : Nat) (p : Int) : ∀ d j L rank det, LeO (spec_taSteps.go k p d j L rank det) (spec_taSteps.go (k + 1) p d j L rank det)
 | 0, _, _, _, _ => LeO.refl _
 | d + 1, j, L, rank, det => by
  rw [spec_taSteps.go, spec_taSteps.go]
  cases impl_reduce.find j (L.drop rank) with
  | none => exact spec_taSteps.go_mono k p d _ _ _ _
  | some q => exact LeO.bind (spec_taInverse.mono _ _ _) (fun _ => spec_taSteps.go_mono k p d _ _ _ _)
def spec_taSteps.T26 : Bool × List (List Nat × List Nat) := (true, [([], []), ([], []), ([0, 1], [0, 1]), ([2], [2]), ([], []), ([], []), ([4, 5], [4, 5]), ([6], [6]), ([3, 0, 1, 2, 3], [3]), ([7, 8, 0, 1, 2, 3, 4, 5, 6, 7, 8], [7])])
def spec_taSteps.B26 : List Nat := [0, 0, 3, 7, 0, 0, 48, 112, 15, 511]
theorem spec_taSteps.tab26 : rtab .any (opsOf Try.f51 26) = spec_taSteps.T26 := by kernel_rfl
theorem spec_taSteps.bits26 : waitsOk spec_taSteps.T26.2 spec_taSteps.B26 = true := by kernel_rfl
def spec_taSteps.T38 : Bool × List (List Nat × List Nat) := (true, [([], []), ([], []), ([0, 1], [0, 1]), ([2], [2]), ([], []), ([], []), ([], []), ([5, 6], [5, 6]), ([7], [7]), ([], []), ([8, 9], [8, 9]), ([10], [10]), ([], []), ([], []), ([12, 13], [12, 13]), ([], []), ([], []), ([15, 16], [15, 16]), ([17], [17]), ([], []), ([18, 19], [18, 19]), ([20], [20]), ([14, 21], [14, 21]), ([11, 22], [11, 22]), ([], []), ([23, 24], [23, 24]), ([3, 4, 0, 1, 2, 3, 4, 5, 6, 7, 8, 9, 10, 11, 12, 13, 14, 15, 16, 17, 18, 19, 20, 21, 22, 23, 24, 25], [3, 4]), ([26, 25, 0, 1, 2, 3, 4, 5, 6, 7, 8, 9, 10, 11, 12, 13, 14, 15, 16, 17, 18, 19, 20, 21, 22, 23, 24, 25], [25, 26])])
def spec_taSteps.B38 : List Nat := [0, 0, 3, 7, 0, 0, 0, 96, 224, 0, 992, 2016, 0, 0, 12288, 0, 0, 98304, 229376, 0, 1015808, 2064384, 4190208, 8388576, 0, 33554400, 67108863, 134217727]
theorem spec_taSteps.tab38 : rtab .any (opsOf Try.f51 38) = spec_taSteps.T38 := by kernel_rfl
theorem spec_taSteps.bits38 : waitsOk spec_taSteps.T38.2 spec_taSteps.B38 = true := by kernel_rfl

theorem spec_taSteps.calls (k : Nat) (A0 : Option Addr) (c0 : Nat) (l0 : List (List Int)) (a1 : Int) (r1 r2 : Int) (w : World) (hr0 : Kd.C (Kd.slice 3 (Kd.int .i64)) w A0 l0.length l0) (hc0 : l0.length ≤ c0) (h : spec_taSteps.f k l0 a1 = some (r1, r2)) :
  Calls Try.prog 51 #[.slice A0 l0.length c0, .int .i64 a1] w fun e w' => e = .returned (.tuple #[.int .i64 r1, .int .i64 r2]) ∧ Below w.heap.size w w' := by
 unfold spec_taSteps.f at h
 by_cases hem : l0 = []
 ·rw [if_pos hem] at h; subst hem; obtain ⟨e1, e2⟩ := Prod.mk.inj (Option.some.inj h); subst e1 e2; have HB := Aside0.mk (Below.refl w.heap.size w); clear h hr0; go_enter Try.func51, Try.ntmps51; go_wp2
  go_loopg [6, 24] 1 (fun kq v6 v24 w' => v6 = .slice none 0 0 ∧ v24 = .int .i64 0 ∧ Aside0 (Below w.heap.size w w'))
  case atStart => exact ⟨rfl, by go_num, HB⟩
  case round =>
   clear HB; obtain ⟨rfl, rfl, HB⟩ := hrel; go_wp2; go_ret2; exact ⟨by first | rfl | (simp; done), HB.out⟩
 rw [if_neg hem] at h; by_cases hg : impl_reduce.good l0 a1 = true
 case neg => rw [if_neg hg] at h; cases h
 rw [if_pos hg] at h; unfold impl_reduce.good at hg; rw [Bool.and_eq_true, decide_eq_true_eq] at hg; obtain ⟨⟨hn1, hn2, hm1, hm2, hp0⟩, hall⟩ := hg; have hrow : ∀ x ∈ l0, x.length = (l0.getD 0 []).length := fun x hx => of_decide_eq_true (List.all_eq_true.1 hall x hx); generalize (l0.getD 0 []).length = m at h hm1 hm2 hrow; obtain ⟨L0, hL⟩ : ∃ L0, (l0.map fun x => x.map (spec_taSteps.mod a1)) = L0 := ⟨_, rfl⟩; rw [hL] at h; (have hLl : L0.length = l0.length := by rw [← hL, List.length_map]); (have hLg : ∀ i (h1 : i < l0.length) (h2 : i < L0.length), L0[i] = l0[i].map (spec_taSteps.mod a1) := fun i h1 h2 => by subst hL; rw [List.getElem_map]); have HR0 := Aside0.mk hr0; have HRW := Aside0.mk hrow; have FG := Aside0.mk h; have FM := Aside0.mk hLg; have FL := Aside0.mk hLl; have HB := Aside0.mk (Below.refl w.heap.size w); have hpz : (a1 = 0) = False := eq_false (by omega); clear h hr0 hall hL hLg hLl hrow hem; go_enter Try.func51, Try.ntmps51; go_wp2
 go_loopg [6, 24] (l0.length + 1) (fun kq v6 v24 w' => ∃ (i : Nat), v24 = .int .i64 i ∧ i ≤ l0.length ∧ l0.length - i < kq ∧ Aside0 (Kd.S (Kd.slice 3 (Kd.int .i64)) 35 w' w.heap.size (fun _ => True) v6 (L0.take i)) ∧ Aside0 (Below w.heap.size w w'))
 case atStart => exact ⟨0, by go_num, Nat.zero_le _, by omega, ⟨by rw [List.take_zero]; exact Kd.S_nil _ _ _ _ _⟩, HB⟩
 case round =>
  clear HB; obtain ⟨i, rfl, hi, hgi, HX, HB⟩ := hrel; obtain ⟨k1, rfl⟩ : ∃ m, gk = m + 1 := ⟨gk - 1, by omega⟩
  by_cases hil : i < l0.length
  ·(have hiz : (i : Int) < (l0.length : Int) := by omega); obtain ⟨ad, A1, c1, e0, hx0, hl1, hi1⟩ := at_L1 (Kd.C_below HR0.out HB.out) (i : Int) (by omega) hiz; (have hrd : rd_L1 l0 (i : Int) = l0[i] := by unfold rd_L1; simp [hil]); rw [hrd] at hx0 hl1 hi1; rw [Int.toNat_natCast] at hx0; cases e0; (have hLi : i < L0.length := by have := FL.out; omega); have hTe := FM.out i hil hLi; have hnew : L0.take (i + 1) = L0.take i ++ [L0[i]] := List.take_succ_eq_append_getElem hLi; have hrl := HRW.out _ (List.getElem_mem hil); generalize hT : L0[i] = T at hTe hnew; generalize hR : l0[i] = row at hx0 hl1 hi1 hTe hrl; have HN := Aside0.mk hnew; have TE := Aside0.mk hTe; have TL : Aside0 (T.length = row.length) := ⟨by rw [hTe, List.length_map]⟩; have HRI := Aside0.mk hi1; have HRL := Aside0.mk hrl; (have hrb : row.length ≤ 1000 := by omega); have p1 : (0 ≤ (i : Int)) = True := eq_true (by omega); have p2 : ((i : Int) < (l0.length : Int)) = True := eq_true hiz; clear hi1 hnew hTe hR hT hrd hrl; go_wp2; obtain ⟨WR, eWR⟩ : ∃ X : World, X = wr := ⟨_, rfl⟩; subst eWR
   go_loopg [9, 30] (row.length + 1) (fun kq v9 v30 w' => ∃ (j : Nat), v30 = .int .i64 j ∧ j ≤ row.length ∧ row.length - j < kq ∧ Aside0 (Kd.R (Kd.int .i64) 3 w' WR.heap.size (fun _ => True) v9 (T.take j)) ∧ Aside0 (Below WR.heap.size WR w'))
   case atStart => exact ⟨0, by go_num, Nat.zero_le _, by omega, ⟨by rw [List.take_zero]; exact Kd.R_nil _ _ _ _ _⟩, ⟨Below.refl _ _⟩⟩
   case round =>
    obtain ⟨j, rfl, hj, hgj, HN1, HBi⟩ := hrel; obtain ⟨k2, rfl⟩ : ∃ m, gk = m + 1 := ⟨gk - 1, by omega⟩
    by_cases hjl : j < row.length
    ·(have hjz : (j : Int) < (row.length : Int) := by omega); (have p3 : (0 : Int) ≤ (j : Int) := by omega); obtain ⟨ad2, e2, hx2⟩ := Kd.at_int (Kd.C_below HRI.out HBi.out) (j : Int) p3 hjz; cases e2; (have hrd2 : rd row (j : Int) = row[j] := by unfold rd; simp [hjl]); rw [hrd2] at hx2; simp only [Int.toNat_natCast] at hx2; have hTj : j < T.length := by have := TL.out; omega
     have hte : T[j] = spec_taSteps.mod a1 row[j] := by
      have h1 := TE.out; subst h1; rw [List.getElem_map]
     have hnew : T.take (j + 1) = T.take j ++ [T[j]] := List.take_succ_eq_append_getElem hTj; rw [hte] at hnew; generalize row[j] = vj at hx2 hnew; unfold spec_taSteps.mod at hnew; obtain ⟨tj, htj⟩ : ∃ tj, Int.tmod (wrap64 (Int.tmod vj a1 + a1)) a1 = tj := ⟨_, rfl⟩; rw [htj] at hnew; have HN2 := Aside0.mk hnew; clear hnew hrd2 hte; replace p3 := eq_true p3; have q3 := eq_true hjz; have hTs := Aside0.mk (show (T.take j).length ≤ 1000 by rw [List.length_take]; have := TL.out; omega); go_wp2_with ((with_reducible refine gate_builtin (b := .append) (xs := #[.tmp 34, .tmp 42]) rfl ?_); at_builtin; refine Kd.R_append (Kd.int .i64) (w0 := WR) WR.heap.size rfl (.tmp 34) (.tmp 42) 35 3 (.int .i64 0) 8 rfl Try.underlying35 info3 rfl (by decide) (by omega) u9 (T.take j) tj [.int .i64 tj] (fun _ => True) (fun _ => False) rfl rfl ?aP (fun _ hk => hk.elim) ?aF ?aO ?aB ?aS ?aL ?_; (case aP => exact rfl); (case aB => exact HBi.out); (case aF => exact (fun _ _ => trivial)); (case aO => exact Kd.R_mono HN1.out (fun _ _ => trivial)); (case aS => exact HBi.out.size); (case aL => have := hTs.out; omega); intro v2 w2 ho hb hg_ hat_; rw [← HN2.out] at ho; have HN3 := Aside0.mk ho; have HBj := Aside0.mk hb; clear ho hb hg_ hat_ HN1 HBi; have HN1 := HN3; have HBi := HBj; clear HN3 HBj)
     go_roundg k2
     case measure => exact Nat.lt_succ_self _
     case rel => exact ⟨j + 1, by go_num, by omega, by omega, HN1, HBi⟩
    (obtain rfl : j = row.length := by omega); have hfull : T.take row.length = T := List.take_of_length_le (by have := TL.out; omega); rw [hfull] at HN1; clear hfull; obtain ⟨Ao, co, eo⟩ := Kd.R_slice HN1.out; subst eo; have hTs := Aside0.mk (show (L0.take i).length ≤ 1000 by rw [List.length_take]; omega); have HXn := Aside0.mk (Kd.S_old HX.out HBi.out); have HXo := Aside0.mk (Kd.S_lt HX.out); have HBn := Aside0.mk (below_step HB.out HBi.out); have HWs := Aside0.mk HB.out.size; clear HX HB; go_wp2_with ((with_reducible refine gate_builtin (b := .append) (xs := #[.tmp 45, .tmp 47]) rfl ?_); at_builtin; refine Kd.S_append (Kd.slice 3 (Kd.int .i64)) (w0 := w) w.heap.size rfl (.tmp 45) (.tmp 47) 22 35 (.slice none 0 0) 24 rfl Try.underlying22 info35 rfl (by decide) (by omega) u6 (L0.take i) T [.slice Ao T.length co] (fun _ => True) (fun k_ => some k_ = (.slice Ao T.length co : Value).ownBlock) rfl rfl ?aP ?aK (fun _ _ => trivial) ?aO ?aB ?aS ?aL ?_; (case aP => exact Kd.M_row (Kd.R_tight rfl (Kd.R_lower HN1.out HWs.out))); (case aK => intro k_ hk; exact ⟨trivial, fun e_ => Nat.lt_irrefl _ (Nat.lt_of_lt_of_le (HXo.out k_ e_.symm) (Kd.R_base HN1.out k_ hk.symm))⟩); (case aO => exact Kd.S_mono HXn.out (fun k_ hk => ⟨trivial, fun e_ => Nat.lt_irrefl _ (Nat.lt_of_lt_of_le hk.2 (Kd.R_base HN1.out k_ e_.symm))⟩)); (case aB => exact HBn.out); (case aS => exact HBn.out.size); (case aL => have := hTs.out; omega); intro v5 w5 ho hb _ _; rw [← HN.out] at ho; have HX := Aside0.mk ho; have HB := Aside0.mk hb; clear ho hb HXn HBn HN1 HBi)
    go_roundg k1
    case measure => exact Nat.lt_succ_self _
    case rel => exact ⟨i + 1, by go_num, by omega, by omega, HX, HB⟩
  (obtain rfl : i = l0.length := by omega); have hfull : L0.take l0.length = L0 := List.take_of_length_le (by have := FL.out; omega); rw [hfull] at HX
  have hLm : ∀ x ∈ L0, x.length = m := by
   intro x hx; obtain ⟨q, hq, rfl⟩ := List.getElem_of_mem hx; (have hq2 : q < l0.length := by have := FL.out; omega); rw [FM.out q hq2 hq, List.length_map]; exact HRW.out _ (List.getElem_mem hq2)
  (have hL0 : 0 < L0.length := by have := FL.out; omega); obtain ⟨g, cap, B0, rfl, hle, hcm, hM⟩ := MatS.Mat.of_S HX.out (List.length_pos_iff.1 hL0) (fun x hx => List.length_pos_iff.1 (by rw [hLm x hx]; omega)); have HL2 := Aside0.mk (show L0.length ≤ 1000 by have := FL.out; omega); clear HX hfull FM HRW HR0 hi hgi hil FL hn1 hn2; obtain ⟨b0, hb0, hl0⟩ := hM.at_ hL0; obtain ⟨hc0_, hf0_⟩ := hM.cell hb0 hl0; rw [hLm _ (List.getElem_mem hL0)] at hc0_; have HM := Aside0.mk hM; have HLM := Aside0.mk hLm; have p1 : ((0 : Int) < (L0.length : Int)) = True := eq_true (by omega); have pz : (((L0.length : Nat) : Int) = 0) = False := eq_false (by omega); have pz2 : (L0.length = 0) = False := eq_false (by omega); have pz3 : (((L0.length : Nat) : Int) == 0) = false := beq_eq_false_iff_ne.mpr (by omega); have hl1000 : L0.length ≤ 1000 := HL2.out; clear hM hLm hle hcm hl0 hb0; go_wp2
  go_loopg [12, 13, 59] (m + 1) (fun kq v12 v13 v59 w' => ∃ (j rank : Nat) (det : Int) (L : List (List Int)) (B : List (Nat × Nat)), v13 = .int .i64 rank ∧ v12 = .int .i64 det ∧ v59 = .int .i64 j ∧ j ≤ m ∧ m - j < kq ∧ rank ≤ L0.length ∧ Aside0 (L.length = L0.length ∧ ∀ x ∈ L, x.length = m) ∧ Aside0 (spec_taSteps.go k a1 (m - j) j L rank det = some (r1, r2)) ∧ Aside0 (MatS.Mat 35 3 w' w.heap.size g B L) ∧ Aside0 (Below w.heap.size w w'))
  case atStart => exact ⟨0, 0, 1, L0, B0, by go_num, rfl, by go_num, Nat.zero_le _, by omega, Nat.zero_le _, ⟨rfl, HLM.out⟩, FG, HM, HB⟩
  case round =>
   clear FG HM HB HLM hc0_ hf0_ p1 pz pz2 pz3; obtain ⟨j, rank, det, L, B, rfl, rfl, rfl, hj, hgj, hrk, HL, FG, HM, HB⟩ := hrel; obtain ⟨k1, rfl⟩ : ∃ m, gk = m + 1 := ⟨gk - 1, by omega⟩
   by_cases hjm : j < m
   ·(have hjz : (j : Int) < (m : Int) := by omega); have hgo := FG.out; rw [show m - j = (m - (j + 1)) + 1 by omega, spec_taSteps.go] at hgo; have FG1 := Aside0.mk hgo; have hpj : (0 ≤ (j : Int)) = True := eq_true (by omega); have hqj : ((j : Int) < (m : Int)) = True := eq_true hjz; clear hgo FG; go_wp2
    go_loopg [15] (L0.length + 1) (fun kq v15 w' => ∃ (rq : Nat), v15 = .int .i64 (rq : Int) ∧ rank ≤ rq ∧ rq ≤ L0.length ∧ L0.length - rq < kq ∧ Aside0 (∀ x ∈ (L.drop rank).take (rq - rank), x.getD j 0 = 0) ∧ Aside0 (MatS.Mat 35 3 w' w.heap.size g B L) ∧ Aside0 (Below w.heap.size w w'))
    case atStart => exact ⟨rank, rfl, Nat.le_refl _, hrk, by omega, ⟨by simp⟩, HM, HB⟩
    case round =>
     clear HM HB; obtain ⟨rq, rfl, hrr, hqn, hgq, HZ, HM, HB⟩ := hrel; obtain ⟨k2, rfl⟩ : ∃ m, gk = m + 1 := ⟨gk - 1, by omega⟩; (have hdl : (L.drop rank).length = L0.length - rank := by rw [List.length_drop, HL.out.1]); have hsk := impl_reduce.find_skip j (L.drop rank) (rq - rank) HZ.out (by rw [hdl]; omega); rw [List.drop_drop, show rank + (rq - rank) = rq by omega] at hsk; have prq : (0 ≤ (rq : Int)) = True := eq_true (by omega)
     by_cases hql : rq < L0.length
     ·(have hlt : rq < L.length := by have := HL.out.1; omega); obtain ⟨c, hc, hlc⟩ := HM.out.at_ hlt; have hcm : L[rq].length = m := HL.out.2 _ (List.getElem_mem _); rw [List.drop_eq_getElem_cons hlt, impl_reduce.find] at hsk
      have hHZ : L[rq].getD j 0 = 0 → ∀ x ∈ (L.drop rank).take (rq + 1 - rank), x.getD j 0 = 0 := fun h0 x hx => by
       rw [show rq + 1 - rank = (rq - rank) + 1 by omega, List.take_succ_eq_append_getElem (by rw [hdl]; omega), List.mem_append, List.mem_singleton, List.getElem_drop] at hx
       rcases hx with hx | rfl
       ·exact HZ.out x hx
       simpa [show rank + (rq - rank) = rq by omega] using h0
      obtain ⟨own, hown⟩ : ∃ own, L[rq] = own := ⟨_, rfl⟩; rw [hown] at hlc hcm hsk hHZ; obtain ⟨v, hv⟩ : ∃ v, own.getD j 0 = v := ⟨_, rfl⟩; rw [hv] at hsk hHZ; have hcell := (HM.out.cell hc hlc).1; have hnum := (HM.out.num hc hlc (j : Int) (by omega) (by rw [hcm]; omega)).1; rw [hcm] at hcell; rw [show rd own (j : Int) = own.getD j 0 from by unfold rd; rw [Int.toNat_natCast], hv, Int.toNat_natCast] at hnum; have qrq : ((rq : Int) < (L0.length : Int)) = True := eq_true (by omega); have hrqn : ((rq : Int) = (L0.length : Int)) = False := eq_false (by omega)
      by_cases hz : v = 0
      ·have HHZ2 := Aside0.mk (hHZ hz); subst hz; clear hsk hHZ hdl hown hlc hc hcm hv hlt; go_wp2
       go_roundg k2
       case measure => exact Nat.lt_succ_self _
       case rel => exact ⟨rq + 1, by go_num, by omega, by omega, by omega, HHZ2, HM, HB⟩
      rw [if_neg hz, Option.map_some, Nat.zero_add] at hsk; have hgo := FG1.out; rw [hsk] at hgo; simp only [show rank + (rq - rank) = rq by omega] at hgo; have hvz : (v = 0) = False := eq_false hz; have HO2 := Aside0.mk hlc; have HO3 := Aside0.mk hcm; have HO4 := Aside0.mk hv; have Kc := Aside0.mk hc; clear hsk hHZ hdl hown hcm hv hgq HZ hlc hc; have p2 : (0 ≤ (rank : Int)) = True := eq_true (by omega); have q2 : ((rank : Int) < (L0.length : Int)) = True := eq_true (by omega); by_cases hq0 : rq = rank
      case' pos =>
       have hq1 : rank = rq := hq0.symm; clear hq0; subst hq1; have hsw : impl_reduce.swap L rank rank = L := if_pos rfl; (have hgd : L.getD rank [] = own := by rw [List.getD_eq_getElem?_getD, HO2.out]; rfl); rw [hsw, if_pos (Nat.sub_self _), hgd, HO4.out] at hgo; obtain ⟨inv, hinv, hgo⟩ := Option.bind_eq_some_iff.mp hgo; have FI := Aside0.mk hinv; have FG3 := Aside0.mk hgo; have HO1 := Kc; clear hinv hgo hsw hgd Kc FG1; go_wp2_with (go_at_call 87; (with_reducible refine (spec_taInverse.calls k v a1 inv _ FI.out).mono ?_); rintro e w' ⟨rfl, ⟨nd2, rfl⟩⟩; have HM2 := Aside0.mk (HM.out.below (pw_below_drewN (Below.refl _ _) nd2)); have HB2 := Aside0.mk (pw_below_drewN HB.out nd2); clear HM HB hcell hnum); generalize wr.drewN nd2 = W5 at HM2 HB2 ⊢; obtain ⟨L1, hL1⟩ : ∃ L1, L1 = L := ⟨_, rfl⟩; rw [← hL1] at HM2 HL FG3 HO2; obtain ⟨B1, hB1⟩ : ∃ B1, B1 = B := ⟨_, rfl⟩; rw [← hB1] at HM2 HO1; obtain ⟨o, ho⟩ : ∃ o, o = c := ⟨_, rfl⟩; rw [← ho] at HO1; clear hL1 hB1 ho prq qrq hrqn hlt hvz; generalize Int.tmod (wrap64 (det * v)) a1 = d2 at FG3 ⊢
      case' neg =>
       have hne : rank ≠ rq := fun e => hq0 e.symm; have hrke : ((rq : Int) = (rank : Int)) = False := eq_false (by omega); have hsw : impl_reduce.swap L rank rq = MatS.exch L rank rq (L.getD rank []) (L.getD rq []) := if_neg hne; (have hrk2 : rank < L.length := by have := HL.out.1; omega); obtain ⟨b, hb, hlb⟩ := HM.out.at_ hrk2; have hbm : L[rank].length = m := HL.out.2 _ (List.getElem_mem _); obtain ⟨lb, hlbe⟩ : ∃ x, L[rank] = x := ⟨_, rfl⟩; rw [hlbe] at hlb hbm; rw [hsw, if_neg (show ¬ rq - rank = 0 by omega), show L.getD rank [] = lb by rw [List.getD_eq_getElem?_getD, hlb]; rfl, show L.getD rq [] = own by rw [List.getD_eq_getElem?_getD, HO2.out]; rfl] at hgo; (have hx1 : (MatS.exch L rank rq lb own)[rank]? = some own := by rw [MatS.exch_at hlb HO2.out, if_neg (Ne.symm hne), if_pos rfl]; exact HO2.out); (have hx2 : (MatS.exch B rank rq b c)[rank]? = some c := by rw [MatS.exch_at hb Kc.out, if_neg (Ne.symm hne), if_pos rfl]; exact Kc.out); obtain ⟨d1, hd1⟩ : ∃ d1, Int.tmod (wrap64 (a1 - det)) a1 = d1 := ⟨_, rfl⟩; rw [show (MatS.exch L rank rq lb own).getD rank [] = own by rw [List.getD_eq_getElem?_getD, hx1]; rfl, HO4.out, hd1] at hgo; obtain ⟨inv, hinv, hgo⟩ := Option.bind_eq_some_iff.mp hgo; have FI := Aside0.mk hinv; have FG3 := Aside0.mk hgo; have Klc := HO2; have HO1 := Aside0.mk hx2; have Kb := Aside0.mk hb; have Klb := Aside0.mk hlb; have Kbm := Aside0.mk hbm
       have HLx : Aside0 ((MatS.exch L rank rq lb own).length = L0.length ∧ ∀ x ∈ MatS.exch L rank rq lb own, x.length = m) := ⟨by unfold MatS.exch; rw [List.length_set, List.length_set]; exact HL.out.1, fun x hx => by
        obtain ⟨t, ht⟩ := List.getElem?_of_mem hx
        rw [MatS.exch_at hlb HO2.out] at ht
        exact HL.out.2 x (List.mem_of_getElem? ht)⟩
       clear HO2; have HO2 := Aside0.mk hx1; clear hinv hgo hb hlb hbm hsw hlbe hx1 hx2 hrk2 HL hq0 FG1 hlt; have HL := HLx; clear HLx; go_wp2; have HM2 := Aside0.mk (HM.out.below (below_drew (Below.refl _ _))); have HB2 := bd1 HB; clear HM HB hcell hnum; obtain ⟨hxb, hfb⟩ := HM2.out.cell Kb.out Klb.out; rw [Kbm.out] at hxb; have hxc := (HM2.out.cell Kc.out Klc.out).1; obtain ⟨hyc, hyf⟩ := HM2.out.mid Kc.out Klc.out hne (.slice (some ⟨c.1, 0, none⟩) m c.2); rw [HO3.out] at hxc hyc; refine start_ (n := 10) (S := fun w' => w'.cell? ⟨g, rank, none⟩ = some (.slice (some ⟨b.1, 0, none⟩) m b.2) ∧ w'.cell? ⟨g, rq, none⟩ = some (.slice (some ⟨c.1, 0, none⟩) m c.2)) (ds := []) #[false, false, false, false, false, false, false, false, false, false] (by kernel_rfl) rfl rfl ⟨hxb, hxc⟩ (fun hHeld => ?_); refine with_tabW spec_taSteps.tab26 spec_taSteps.bits26 (fun HT_ HW_ => ?_); generalize wr.drew = W2 at HM2 HB2 hxb hxc hfb hyc hyf hHeld ⊢; refine pu 0 91 HT_.out ?_; refine pu 1 92 HT_.out ?_; refine pu 2 93 HT_.out ?_; refine pu 4 95 HT_.out ?_; refine pu 5 96 HT_.out ?_; refine pu 6 97 HT_.out ?_; refine tk 3 94 HT_.out HW_.out hHeld ?_ (hy := by rintro w' ⟨s0, s1⟩; go_simp; with_reducible rfl); refine pu 8 16 HT_.out ?_; refine tk 7 98 HT_.out HW_.out hHeld ?_ (hy := by rintro w' ⟨s0, s1⟩; go_simp; with_reducible rfl); refine pu 9 17 HT_.out ?_; refine done_ (done_of HT_.out (by kernel_rfl)) ?_; obtain ⟨W3, hW3⟩ : ∃ W3, W3 = (W2.setCell ⟨g, rank, none⟩ (.slice (some ⟨c.1, 0, none⟩) m c.2)).setCell ⟨g, rq, none⟩ (.slice (some ⟨b.1, 0, none⟩) m b.2) := ⟨_, rfl⟩; have hP := HM2.out.swap Kb.out Klb.out Kc.out Klc.out; rw [HO3.out, Kbm.out, ← hW3] at hP; have HM3 := Aside0.mk hP; have HB3 := Aside0.mk (below_set (g := g) (j := rq) (v := .slice (some ⟨b.1, 0, none⟩) m b.2) (below_set (g := g) (j := rank) (v := .slice (some ⟨c.1, 0, none⟩) m c.2) HB2.out HM2.out.gb) HM2.out.gb); rw [← hW3] at HB3; have HW3 := Aside0.mk hW3; clear hP HM2 HB2 hxc hHeld hne hW3; obtain ⟨L1, hL1⟩ : ∃ L1, L1 = MatS.exch L rank rq lb own := ⟨_, rfl⟩; rw [← hL1] at HM3 HL FG3 HO2; obtain ⟨B1, hB1⟩ : ∃ B1, B1 = MatS.exch B rank rq b c := ⟨_, rfl⟩; rw [← hB1] at HM3 HO1; clear hL1 hB1; have hxo := (HM3.out.cell HO1.out HO2.out).1; rw [HO3.out] at hxo; have hxv := (HM3.out.num HO1.out HO2.out (j : Int) (by omega) (by rw [HO3.out]; omega)).1; rw [show rd own (j : Int) = own.getD j 0 from by unfold rd; rw [Int.toNat_natCast], HO4.out, Int.toNat_natCast] at hxv; obtain ⟨o, ho⟩ : ∃ o, o = c := ⟨_, rfl⟩; clear Klb Klc Kbm
       go_wp2_with (first
        | ((with_reducible refine gate_store (t := 35) (p := 102) (v := .tmp 101) rfl ?_); refine store_event ?sg (t := 35) (p := 102) (v := .tmp 101) ?so ?sN (w1 := W2.setCell ⟨g, rank, none⟩ (.slice (some ⟨c.1, 0, none⟩) m c.2)) ?sr ?_; (case sg => rfl); (case so => rfl); (case sN => rfl); (case sr => first | (go_simp; done) | (go_simp; rfl)); intro WS hWS; rw [← hWS] at hyc hyf HW3; clear hWS hxb hfb)
        | ((with_reducible refine gate_store (t := 35) (p := 106) (v := .tmp 105) rfl ?_); refine store_event ?sg (t := 35) (p := 106) (v := .tmp 105) ?so ?sN (w1 := WS.setCell ⟨g, rq, none⟩ (.slice (some ⟨b.1, 0, none⟩) m b.2)) ?sr ?_; (case sg => rfl); (case so => rfl); (case sN => rfl); (case sr => first | (go_simp; done) | (go_simp; rfl)); intro WT hWT; obtain rfl : W3 = WT := HW3.out.trans hWT.symm; clear hWT HW3 hyc hyf)
        | (go_at_call 87; (with_reducible refine (spec_taInverse.calls k v a1 inv _ FI.out).mono ?_); rintro e w' ⟨rfl, ⟨nd2, rfl⟩⟩; have HM2 := Aside0.mk (HM3.out.below (pw_below_drewN (Below.refl _ _) nd2)); have HB2 := Aside0.mk (pw_below_drewN HB3.out nd2); clear HM3 HB3 hxo hxv))
       generalize W3.drewN nd2 = W5 at HM2 HB2 ⊢; rw [← ho] at HO1; clear ho prq qrq hrqn hvz hd1 hrke; generalize Int.tmod (wrap64 (d1 * v)) a1 = d2 at FG3 ⊢
      all_goals
       obtain ⟨M, hM⟩ : ∃ M, (L1.drop (rank + 1)).map (spec_taSteps.row a1 j inv own) = M := ⟨_, rfl⟩; rw [hM] at FG3; have HMl : Aside0 (M.length = L0.length - (rank + 1)) := ⟨by rw [← hM, List.length_map, List.length_drop, HL.out.1]⟩; have HMg : Aside0 (∀ (i : Nat) (h1 : rank + 1 + i < L1.length) (h2 : i < M.length), M[i] = spec_taSteps.row a1 j inv own L1[rank + 1 + i]) := ⟨fun i h1 h2 => by subst hM; rw [List.getElem_map, List.getElem_drop]⟩; have HRl : Aside0 (∀ row : List Int, row.length = m → (spec_taSteps.row a1 j inv own row).length = m) := ⟨fun row hr => by unfold spec_taSteps.row; rw [List.length_zipWith, hr, HO3.out]; omega⟩
       have HMr : Aside0 (∀ x ∈ M, x.length = m) := ⟨by
        intro x hx
        rw [← hM] at hx
        obtain ⟨y, hy, rfl⟩ := List.mem_map.1 hx
        exact HRl.out y (HL.out.2 _ (List.mem_of_mem_drop hy))⟩
       clear hM; have hrkn : rank < L0.length := by omega
       go_loopg [19] (L0.length + 1) (fun kq v19 w' => ∃ (ri : Nat), v19 = .int .i64 (ri : Int) ∧ rank + 1 ≤ ri ∧ ri ≤ L0.length ∧ L0.length - ri < kq ∧ Aside0 (MatS.Mat 35 3 w' w.heap.size g B1 (impl_reduce.mid L1 M (rank + 1) (ri - (rank + 1)))) ∧ Aside0 (Below w.heap.size w w'))
       case' atStart => exact ⟨rank + 1, by go_num, Nat.le_refl _, by omega, by omega, ⟨by rw [Nat.sub_self, impl_reduce.mid_start]; exact HM2.out⟩, HB2⟩
       case' round =>
        clear HM2 HB2; obtain ⟨ri, rfl, hri1, hri2, hgi, HM, HB⟩ := hrel; obtain ⟨k3, rfl⟩ : ∃ m, gk = m + 1 := ⟨gk - 1, by omega⟩; obtain ⟨i, hi⟩ : ∃ i, ri - (rank + 1) = i := ⟨_, rfl⟩; rw [hi] at HM; have HI := Aside0.mk (show rank + 1 + i = ri by omega); clear hi; by_cases hil : ri < L0.length
        case' pos =>
         (have hMi : i < M.length := by have := HMl.out; have := HI.out; omega); (have hr1 : ri < L1.length := by have := HL.out.1; omega); have hLM := impl_reduce.mid_len L1 M (rank + 1) i (by omega) (by have := HMl.out; have := HL.out.1; omega) (by omega); obtain ⟨b, hb, hb_⟩ := HM.out.at_ (i := ri) (by rw [hLM]; exact hr1); clear hb_; have hrow := impl_reduce.mid_at L1 M (rank + 1) i (by omega) (by have := HMl.out; have := HL.out.1; omega) hMi; have hset := impl_reduce.mid_set L1 M (rank + 1) i (by omega) (by have := HMl.out; have := HL.out.1; omega) hMi; have hmg := HMg.out i (by rw [HI.out]; exact hr1) hMi; simp only [HI.out] at hrow hset hmg; rw [List.getElem?_eq_getElem hr1] at hrow; have hrm := HL.out.2 _ (List.getElem_mem hr1); rw [hmg] at hset; obtain ⟨row, hre⟩ : ∃ row, L1[ri] = row := ⟨_, rfl⟩; rw [hre] at hrow hrm hset; obtain ⟨u, hu⟩ : ∃ u, row.getD j 0 = u := ⟨_, rfl⟩; have HOL : Aside0 ((impl_reduce.mid L1 M (rank + 1) i)[rank]? = some own) := ⟨by rw [impl_reduce.mid_low L1 M _ i rank (by omega) (by omega)]; exact HO2.out⟩; obtain ⟨T, hT⟩ : ∃ T, spec_taSteps.row a1 j inv own row = T := ⟨_, rfl⟩; (have hTl : T.length = m := by rw [← hT]; exact HRl.out row hrm); generalize hbq : Int.tmod (wrap64 (u * inv)) a1 = bq
         have hTg : ∀ (kk : Nat) (h : kk < T.length), T[kk] = spec_taSteps.one a1 bq (row.getD kk 0) (own.getD kk 0) := fun kk h => by
          have h2 := hT; unfold spec_taSteps.row at h2; rw [hu, hbq] at h2; subst h2; (have h1 : kk < row.length := by omega); (have h3 : kk < own.length := by have := HO3.out; omega); rw [List.getElem_zipWith, List.getD_eq_getElem?_getD, List.getElem?_eq_getElem h1, List.getD_eq_getElem?_getD, List.getElem?_eq_getElem h3]; rfl
         rw [hT] at hset; have HSET := Aside0.mk hset; have HROW := Aside0.mk hrow; have HRM := Aside0.mk hrm; have HBB := Aside0.mk hb; have HTG := Aside0.mk hTg; have HTL := Aside0.mk hTl; have HLL := Aside0.mk hLM; have hxr := (HM.out.cell hb hrow).1; rw [hrm] at hxr; have hxu := (HM.out.num hb hrow (j : Int) (by omega) (by rw [hrm]; omega)).1; rw [show rd row (j : Int) = row.getD j 0 from by unfold rd; rw [Int.toNat_natCast], hu, Int.toNat_natCast] at hxu; have pri := eq_true (show 0 ≤ (ri : Int) by omega); have qri := eq_true (show (ri : Int) < (L0.length : Int) by omega); clear hset hrow hrm hb hTg hTl hLM hT hre hu hMi hmg; go_wp2; have HRK := Aside0.mk (show rank ≠ ri by omega)
         have HSS := Aside0.mk (show ((impl_reduce.mid L1 M (rank + 1) i).set ri row) = impl_reduce.mid L1 M (rank + 1) i from by
          obtain ⟨h1_, h2_⟩ := List.getElem?_eq_some_iff.1 HROW.out
          rw [← h2_, List.set_getElem_self])
         have hrl : row.length = m := HRM.out; generalize impl_reduce.mid L1 M (rank + 1) i = LL at HM HOL HLL HROW HSET HSS
         first | rw [hbq] | skip
         clear hxr hxu
         go_loopg [151] (m + 1) (fun kq v151 w' => ∃ (kk : Nat), v151 = .int .i64 kk ∧ kk ≤ m ∧ m - kk < kq ∧ Aside0 (MatS.Mat 35 3 w' w.heap.size g B1 (LL.set ri (impl_reduce.cur row T 0 kk))) ∧ Aside0 (Below w.heap.size w w'))
         case' atStart => exact ⟨0, by go_num, Nat.zero_le _, by omega, ⟨by rw [impl_reduce.cur_start, HSS.out]; exact HM.out⟩, HB⟩
         case' round =>
          clear HM HB; obtain ⟨kk, rfl, hkm0, hgk, HM, HB⟩ := hrel; obtain ⟨k4, rfl⟩ : ∃ m, gk = m + 1 := ⟨gk - 1, by omega⟩; by_cases hkl : kk < m
          case' pos =>
           (have hkm : kk < row.length := by omega); have hbr := HBB.out; have TLn := Aside0.mk (show T.length = row.length - 0 by rw [hrl]; exact HTL.out); (have hrowc : (LL.set ri (impl_reduce.cur row T 0 kk))[ri]? = some (impl_reduce.cur row T 0 kk) := by rw [List.getElem?_set, if_pos rfl, if_pos (by rw [HLL.out]; exact hr1)]); (have howc : (LL.set ri (impl_reduce.cur row T 0 kk))[rank]? = some own := by rw [List.getElem?_set, if_neg (Ne.symm HRK.out)]; exact HOL.out); (have hkt : kk < T.length := by have := HTL.out; omega); have hft := HTG.out kk hkt; have hcs := impl_reduce.cur_set row T 0 kk (Nat.zero_le _) hkm TLn.out (by rw [Nat.sub_zero]; exact hkt); simp only [Nat.sub_zero] at hcs; obtain ⟨xk, hxk⟩ : ∃ x, row.getD kk 0 = x := ⟨_, rfl⟩; obtain ⟨yk, hyk⟩ : ∃ y, own.getD kk 0 = y := ⟨_, rfl⟩; rw [hft, hxk, hyk] at hcs; unfold spec_taSteps.one at hcs; have HCS := Aside0.mk hcs; have nM := Aside0.mk (HM.out.below (below_drew (Below.refl _ _))); have nB := bd1 HB; have hxg0 := HM.out.cell hbr hrowc; have hcl := impl_reduce.cur_len row T 0 kk (Nat.zero_le _) (by omega) TLn.out; clear HM HB hft hcs; have HM := nM; have HB := nB; clear nM nB hxg0; have hxg := (HM.out.cell hbr hrowc).1; rw [hcl, hrl] at hxg; have hxh := (HM.out.cell HO1.out howc).1; rw [HO3.out] at hxh; obtain ⟨hxr, hff⟩ := HM.out.num hbr hrowc (kk : Int) (by omega) (by rw [hcl]; omega); rw [show rd (impl_reduce.cur row T 0 kk) (kk : Int) = (impl_reduce.cur row T 0 kk).getD kk 0 from by unfold rd; rw [Int.toNat_natCast], impl_reduce.cur_at row T 0 kk (Nat.zero_le _) hkm TLn.out, hxk, Int.toNat_natCast] at hxr; rw [Int.toNat_natCast] at hff; have hxo := (HM.out.num HO1.out howc (kk : Int) (by omega) (by rw [HO3.out]; omega)).1; rw [show rd own (kk : Int) = own.getD kk 0 from by unfold rd; rw [Int.toNat_natCast], hyk, Int.toNat_natCast] at hxo; have HRC := Aside0.mk hrowc; have HBR := Aside0.mk hbr; have pk := eq_true (show 0 ≤ (kk : Int) by omega); have qk := eq_true (show (kk : Int) < (m : Int) by omega); clear hrowc howc hkm hbr hkt hxk hyk hcl; go_wp2; refine start_ (n := 28) (S := fun w' => w'.cell? ⟨g, ri, none⟩ = some (.slice (some ⟨b.1, 0, none⟩) m b.2) ∧ w'.cell? ⟨b.1, kk, none⟩ = some (.int .i64 xk) ∧ w'.cell? ⟨g, rank, none⟩ = some (.slice (some ⟨o.1, 0, none⟩) m o.2) ∧ w'.cell? ⟨o.1, kk, none⟩ = some (.int .i64 yk)) (ds := [27]) #[false, false, false, false, false, false, false, false, false, false, false, false, false, false, false, false, false, false, false, false, false, false, false, false, false, false, false, false] (by kernel_rfl) rfl rfl ⟨hxg, hxr, hxh, hxo⟩ (fun hHeld => ?_); refine with_tabW spec_taSteps.tab38 spec_taSteps.bits38 (fun HT_ HW_ => ?_); generalize wr.drew = W4 at HM HB hxg hxr hxh hxo hff hHeld ⊢; refine pu 0 154 HT_.out ?_; refine pu 1 155 HT_.out ?_; refine pu 2 156 HT_.out ?_; refine pu 4 158 HT_.out ?_; refine pu 5 159 HT_.out ?_; refine pu 6 160 HT_.out ?_; refine pu 7 161 HT_.out ?_; refine pu 9 163 HT_.out ?_; refine pu 12 166 HT_.out ?_; refine pu 13 167 HT_.out ?_; refine pu 14 168 HT_.out ?_; refine pu 15 169 HT_.out ?_; refine pu 16 170 HT_.out ?_; refine pu 17 171 HT_.out ?_; refine pu 19 173 HT_.out ?_; refine pu 24 178 HT_.out ?_; refine tk 3 157 HT_.out HW_.out hHeld ?_ (hy := by rintro w' ⟨s0, s1, s2, s3⟩; go_simp; with_reducible rfl); refine tk 8 162 HT_.out HW_.out hHeld ?_ (hy := by rintro w' ⟨s0, s1, s2, s3⟩; go_simp; with_reducible rfl); refine pu 10 164 HT_.out ?_; refine tk 11 165 HT_.out HW_.out hHeld ?_ (hy := by rintro w' ⟨s0, s1, s2, s3⟩; go_simp; with_reducible rfl); refine tk 18 172 HT_.out HW_.out hHeld ?_ (hy := by rintro w' ⟨s0, s1, s2, s3⟩; go_simp; with_reducible rfl); refine pu 20 174 HT_.out ?_; refine tk 21 175 HT_.out HW_.out hHeld ?_ (hy := by rintro w' ⟨s0, s1, s2, s3⟩; go_simp; with_reducible rfl); refine pu 22 176 HT_.out ?_; refine pu 23 177 HT_.out ?_; refine pu 25 179 HT_.out ?_; refine pu 26 180 HT_.out ?_; refine last_ (i := 27) (N := none) #[true, true, true, true, true, true, true, true, true, true, true, true, true, true, true, true, true, true, true, true, true, true, true, true, true, true, true, true] rfl rfl (one_of HT_.out (by kernel_rfl)) (by decide) (fun K hK => ?_); refine skip_ (w1 := ?_) (by rfl) rfl ?_ ?_
           rotate_left
           ·go_simp; rfl
           refine hK.out _ _ ?_; clear hK K; refine done_ (done_of HT_.out (by kernel_rfl)) ?_; have hP := HM.out.put HBR.out HRC.out (kk : Int) (Int.tmod (wrap64 (xk + wrap64 (wrap64 (a1 - bq) * yk))) a1); rw [Int.toNat_natCast, List.set_set, HCS.out] at hP; have nM := Aside0.mk hP; have nB := Aside0.mk (below_set (g := b.1) (j := kk) (v := .int .i64 (Int.tmod (wrap64 (xk + wrap64 (wrap64 (a1 - bq) * yk))) a1)) HB.out (HM.out.lo HBR.out HRC.out)); clear hP HM HB hff hHeld hxr hxo hxg hxh; go_wp2
           go_roundg k4
           case' measure => exact Nat.lt_succ_self _
           case' rel => exact ⟨kk + 1, by go_num, by omega, by omega, nM, nB⟩
          case' neg =>
           (have hke : kk = row.length := by omega); subst hke; rw [impl_reduce.cur_end row T 0 (by rw [hrl]; exact HTL.out), List.take_zero, List.nil_append, HSET.out] at HM; go_wp2
           go_roundg k3
           case' measure => exact Nat.lt_succ_self _
           case' rel => exact ⟨ri + 1, by go_num, by omega, by omega, by omega, ⟨by rw [show ri + 1 - (rank + 1) = i + 1 by have := HI.out; omega]; exact HM.out⟩, HB⟩
        case' neg =>
         (have hie : i = M.length := by have := HMl.out; have := HI.out; omega); have hml : M.length = L0.length - (rank + 1) := HMl.out; rw [hie, impl_reduce.mid_end L1 M (rank + 1) (by have := HL.out.1; omega) (by have := HL.out.1; omega)] at HM; have hLn : (L1.take (rank + 1) ++ M).length = L0.length := by rw [List.length_append, List.length_take, hml]; have := HL.out.1; omega
         have HLN : Aside0 ((L1.take (rank + 1) ++ M).length = L0.length ∧ ∀ x ∈ L1.take (rank + 1) ++ M, x.length = m) := ⟨hLn, fun x hx => by
          rcases List.mem_append.1 hx with hx | hx
          ·exact HL.out.2 x (List.mem_of_mem_take hx)
          exact HMr.out x hx⟩
         (have hrie : (ri : Int) = (L0.length : Int) := by omega); have hrie2 : ((ri : Int) < (L0.length : Int)) = False := eq_false (by omega); clear hLn hml hie; go_wp2
         go_roundg k1
         case' measure => exact Nat.lt_succ_self _
         case' rel => exact ⟨j + 1, rank + 1, d2, _, B1, by go_num, rfl, by go_num, by omega, by omega, by omega, HLN, FG3, HM, HB⟩
     have hrqe : rq = L0.length := by omega
     have hf : impl_reduce.find j (L.drop rank) = none := by
      rw [hsk, List.drop_of_length_le (by have := HL.out.1; omega)]; rfl
     have hgo := FG1.out; rw [hf] at hgo; simp only at hgo; have FG2 := Aside0.mk hgo; (have hrqz : (rq : Int) = (L0.length : Int) := by omega); clear hgo hf hsk hdl HZ; subst hrqe; go_wp2
     go_roundg k1
     case measure => exact Nat.lt_succ_self _
     case rel => exact ⟨j + 1, rank, 0, L, B, rfl, rfl, by go_num, by omega, by omega, hrk, HL, FG2, HM, HB⟩
   (obtain rfl : j = m := by omega); have h3 := FG.out; rw [Nat.sub_self, spec_taSteps.go] at h3; obtain ⟨e1, e2⟩ := Prod.mk.inj (Option.some.inj h3); subst e1 e2; clear h3 FG; go_wp2; go_ret2; exact ⟨by first | rfl | (simp; done), HB.out⟩
/-! ### spec_l1Most: function 83 -/
def spec_l1Most.f (a0 : Int) (a1 : Int) : Option (Int) := if a0 > a1 then (some a0) else (some a1)
theorem spec_l1Most.calls (a0 : Int) (a1 : Int) (r : Int) (w : World) (h : spec_l1Most.f a0 a1 = some r) :
  Calls Try.prog 83 #[.int .i64 a0, .int .i64 a1] w fun e w' => e = .returned (.int .i64 r) ∧ Drawn0 w w' := by
 have H : (if a0 > a1 then (some a0) else (some a1)) = some r := h; clear h
 by_cases c3 : a0 > a1
 ·rw [if_pos c3] at H; have c3b0 := decide_eq_true c3; clear c3; obtain rfl := Option.some.inj H; go_enter Try.func83, Try.ntmps83; go_wp2; go_ret; exact ⟨sr2, by repeat (first | exact Drawn0.refl _ | apply Drawn0.step)⟩
 rw [if_neg c3] at H; have c3b0 := decide_eq_false c3; clear c3; obtain rfl := Option.some.inj H; go_enter Try.func83, Try.ntmps83; go_wp2; go_ret; exact ⟨sr2, by repeat (first | exact Drawn0.refl _ | apply Drawn0.step)⟩
/-! ### spec_taRank: function 45 -/
def spec_taRank.l0 : Nat → List (List Int) → Int → List Int → Int → Int → Option (Int)
 | 0, _, _, _, _, _ => none
 | k + 1, x0, x3, x8, x9, x10 => if x10 < x9 then (if 0 ≤ x10 then (if x10 < (x8.length : Int) then ((spec_taSteps.f k x0 (rd x8 x10)).bind fun bt113 => ((spec_l1Most.f x3 bt113.2).bind fun t115 => (spec_taRank.l0 k x0 t115 x8 x9 (wrap64 (x10 + 1))))) else (none)) else (none)) else (some x3)
def spec_taRank.f (k : Nat) (l0 : List (List Int)) : Option (Int) := (spec_taPrimes.f).bind fun t109 => (spec_taRank.l0 k l0 0 t109 (t109.length : Int) 0)
theorem spec_taRank.calls (k : Nat) (A0 : Option Addr) (c0 : Nat) (l0 : List (List Int)) (r : Int) (w : World) (hr0 : Kd.C (Kd.slice 3 (Kd.int .i64)) w A0 l0.length l0) (hc0 : l0.length ≤ c0) (h : spec_taRank.f k l0 = some r) :
  Calls Try.prog 45 #[.slice A0 l0.length c0] w fun e w' => e = .returned (.int .i64 r) ∧ Below w.heap.size w w' := by
 have HR0 := Aside0.mk hr0; have HC0 := Aside0.mk hc0; clear hr0 hc0; have HB := Aside0.mk (Below.refl w.heap.size w); have H : ((spec_taPrimes.f).bind fun t109 => (spec_taRank.l0 k l0 0 t109 (t109.length : Int) 0)) = some r := h; clear h; obtain ⟨t109, A2, H⟩ := bi H; (try dsimp only at H); have H' := Aside0.mk H; clear H; go_enter Try.func45, Try.ntmps45; go_wp2_with (first | (go_at_call 50; (with_reducible refine (spec_taPrimes.calls  t109 _ A2.out).mono ?_); rintro e w3 ⟨v110, rfl, ho0, hb⟩; have HO111 := Aside0.mk (Kd.R_lower ho0 (below_size (bl HB.out))); replace HB := bst HB hb; obtain ⟨Ao4, co4, eo4⟩ := Kd.R_slice HO111.out; subst eo4))
 go_loopg [3, 10] k (fun kq v3 v10 w' => ∃ (x3_1 : Int) (x10_1 : Int), v3 = .int .i64 x3_1 ∧ v10 = .int .i64 x10_1 ∧ Aside0 (spec_taRank.l0 kq l0 x3_1 t109 (t109.length : Int) x10_1 = some r) ∧ Aside0 (kq ≤ k) ∧ Aside0 (Kd.R (Kd.int .i64) 3 w' w.heap.size (fun _ => True) (.slice Ao4 t109.length co4) t109) ∧ Aside0 (Below w.heap.size w w'))
 case atStart => exact ⟨(0), (0), (sr2), (sr2), H', ⟨Nat.le_refl _⟩, ⟨rR HO111.out⟩, ⟨bl HB.out⟩⟩
 case round =>
  clear H'; obtain ⟨x3_1, x10_1, rfl, rfl, HA, HK1, HO_8, HB⟩ := hrel
  cases gk with
  | zero => exact absurd HA.out (by simp [spec_taRank.l0])
  | succ k1 =>
   have H := HA.out; clear HA; simp only [spec_taRank.l0] at H
   by_cases c5 : x10_1 < (t109.length : Int)
   ·rw [if_pos c5] at H; have c5b0 := decide_eq_true c5; clear c5
    by_cases c6 : 0 ≤ x10_1
    ·rw [if_pos c6] at H; have c6b0 := decide_eq_true c6; clear c6
     by_cases c7 : x10_1 < (t109.length : Int)
     ·rw [if_pos c7] at H; have c7b0 := decide_eq_true c7; clear c7; obtain ⟨⟨t113, t114⟩, A8, H⟩ := bi H; (try dsimp only at H); obtain ⟨t115, A9, H⟩ := bi H; (try dsimp only at H); have H' := Aside0.mk H; clear H; obtain ⟨ad112, e112, hx112_0, p112, q112⟩ := atI (Kd.R_reads' HO_8.out).2.2 x10_1; cases e112; go_wp2_with (first | (go_at_call 51; (with_reducible refine (spec_taSteps.calls k1 _ _ l0 (rd t109 x10_1) t113 t114 _ ?side1 HC0.out A8.out).mono ?_); (case side1 => exact cw (Kd.C_below HR0.out HB.out)); rintro e w10 ⟨rfl, hb⟩; replace HO_8 := Aside0.mk (Kd.R_below (rR HO_8.out) hb); replace HB := bst HB hb) | (go_at_call 83; (with_reducible refine (spec_l1Most.calls x3_1 t114 t115 _ A9.out).mono ?_); rintro e w' ⟨rfl, ⟨nd, rfl⟩⟩))
      go_roundg k1
      case measure => have := HK1.out; omega
      case rel => exact ⟨(t115), (wrap64 (x10_1 + 1)), (sr2), (sr2), H', ⟨by have := HK1.out; omega⟩, ⟨rR HO_8.out⟩, ⟨bl HB.out⟩⟩
     rw [if_neg c7] at H; exact absurd H (by simp)
    rw [if_neg c6] at H; exact absurd H (by simp)
   rw [if_neg c5] at H; have c5b0 := decide_eq_false c5; clear c5; obtain rfl := Option.some.inj H; go_wp2; go_ret; exact ⟨sr, bl HB.out⟩
/-! ### spec_RankOf: function 9 -/
def spec_RankOf.f (k : Nat) (l0 : List (List Int)) : Option (Int × Bool) := (spec_taRows.f k l0).bind fun t116 => (if t116 = true then ((spec_taRank.f k l0).bind fun t117 => (some (t117, true))) else (some (0, false)))
theorem spec_RankOf.calls (k : Nat) (A0 : Option Addr) (c0 : Nat) (l0 : List (List Int)) (r1 : Int) (r2 : Bool) (w : World) (hr0 : Kd.C (Kd.slice 3 (Kd.int .i64)) w A0 l0.length l0) (hc0 : l0.length ≤ c0) (h : spec_RankOf.f k l0 = some (r1, r2)) :
  Calls Try.prog 9 #[.slice A0 l0.length c0] w fun e w' => e = .returned (.tuple #[.int .i64 r1, .bool r2]) ∧ Below w.heap.size w w' := by
 have HR0 := Aside0.mk hr0; have HC0 := Aside0.mk hc0; clear hr0 hc0; have HB := Aside0.mk (Below.refl w.heap.size w); have H : ((spec_taRows.f k l0).bind fun t116 => (if t116 = true then ((spec_taRank.f k l0).bind fun t117 => (some (t117, true))) else (some (0, false)))) = some (r1, r2) := h; clear h; obtain ⟨t116, A2, H⟩ := bi H; (try dsimp only at H)
 by_cases c3 : t116 = true
 ·subst c3; rw [if_pos rfl] at H; obtain ⟨t117, A4, H⟩ := bi H; (try dsimp only at H); simp only [Option.some.injEq, Prod.mk.injEq] at H; obtain ⟨rfl, rfl⟩ := H; go_enter Try.func9, Try.ntmps9; go_wp2_with (first | (go_at_call 44; (with_reducible refine (spec_taRows.calls k _ _ l0 true _ ?side1 HC0.out A2.out).mono ?_); (case side1 => exact cw HR0.out); rintro e w' ⟨rfl, ⟨nd, rfl⟩⟩) | (go_at_call 45; (with_reducible refine (spec_taRank.calls k _ _ l0 t117 _ ?side1 HC0.out A4.out).mono ?_); (case side1 => exact cw HR0.out); rintro e w5 ⟨rfl, hb⟩; replace HB := bst HB hb)); go_ret2; exact ⟨sr, bl HB.out⟩
 replace c3 := Bool.eq_false_iff.mpr c3; subst c3; rw [if_neg (show ¬ (false = true) by decide)] at H; simp only [Option.some.injEq, Prod.mk.injEq] at H; obtain ⟨rfl, rfl⟩ := H; go_enter Try.func9, Try.ntmps9; go_wp2_with (first | (go_at_call 44; (with_reducible refine (spec_taRows.calls k _ _ l0 false _ ?side1 HC0.out A2.out).mono ?_); (case side1 => exact cw HR0.out); rintro e w' ⟨rfl, ⟨nd, rfl⟩⟩)); go_ret2; exact ⟨sr, bl HB.out⟩
/-! ### impl_in: function 57 -/
def impl_in.f (a0 : Int) (a1 : Int) (a2 : Int) : Option (Bool) := if a1 ≤ a0 then (some (decide (a0 ≤ a2))) else (some false)
theorem impl_in.calls (a0 : Int) (a1 : Int) (a2 : Int) (r : Bool) (w : World) (h : impl_in.f a0 a1 a2 = some r) :
  Calls Try.prog 57 #[.int .i64 a0, .int .i64 a1, .int .i64 a2] w fun e w' => e = .returned (.bool r) ∧ Drawn0 w w' := by
 have H : (if a1 ≤ a0 then (some (decide (a0 ≤ a2))) else (some false)) = some r := h; clear h
 by_cases c4 : a1 ≤ a0
 ·rw [if_pos c4] at H; have c4b0 := decide_eq_true c4; clear c4; obtain rfl := Option.some.inj H; go_enter Try.func57, Try.ntmps57; go_wp2; go_ret; exact ⟨sr2, by repeat (first | exact Drawn0.refl _ | apply Drawn0.step)⟩
 rw [if_neg c4] at H; have c4b0 := decide_eq_false c4; clear c4; obtain rfl := Option.some.inj H; go_enter Try.func57, Try.ntmps57; go_wp2; go_ret; exact ⟨sr2, by repeat (first | exact Drawn0.refl _ | apply Drawn0.step)⟩
/-! ### impl_areRows: function 47 -/
def impl_areRows.most (n : Nat) : Int := if n ≤ 5 then 100 else 16
def impl_areRows.bad (n : Nat) (row : List Int) : Bool := !((row.length : Int) == (n : Int)) || row.any fun x => !(decide (-(impl_areRows.most n) ≤ x) && decide (x ≤ impl_areRows.most n))
def impl_areRows.f (l0 : List (List Int)) : Option Bool := some (decide (1 ≤ (l0.length : Int)) && decide ((l0.length : Int) ≤ 14) && !(l0.any (impl_areRows.bad l0.length)))
theorem impl_areRows.in_val (a b c : Int) : impl_in.f a b c = some (decide (b ≤ a) && decide (a ≤ c)) := by
 unfold impl_in.f; by_cases h : b ≤ a <;> simp [h]
theorem impl_areRows.deep (x m : Int) (b : Nat) (W : World) (hm : 0 ≤ m ∧ m ≤ 100) (hb : W.cell? ⟨b, 0, none⟩ = some (.int .i64 m)) :
  Calls Try.prog 86 #[.int .i64 x, .pointer (some ⟨b, 0, none⟩)] W fun e w' => e = .returned (.bool (!(decide (-m ≤ x) && decide (x ≤ m)))) ∧ Drawn0 W w' := by
 (have hw : wrap64 (-m) = -m := by unfold wrap64; omega); have hw2 : IntKind.i64.wrap (-m) = -m := (i64_w _).trans hw; have hin := Aside0.mk (impl_areRows.in_val x (-m) m); clear hm; go_enter Try.func86, Try.ntmps86; go_wp2_with ((go_at_call 57); (with_reducible refine (impl_in.calls x (-m) m _ _ hin.out).mono ?_); rintro e w' ⟨rfl, ⟨nd, rfl⟩⟩); go_ret; exact ⟨by simp, by repeat (first | exact Drawn0.refl _ | apply Drawn0.step)⟩
/-- slices.IndexFunc over numbers, by the inner closure -/
theorem impl_areRows.index (q : Int → Bool) (b : Nat) (A0 : Option Addr) (c0 : Nat) (l0 : List Int) (w : World) (hr0 : Kd.C (Kd.int .i64) w A0 l0.length l0) (hc0 : l0.length ≤ c0) (hl : l0.length < 4611686018427387904)
  (hq : ∀ x n, Calls Try.prog 86 #[.int .i64 x, .pointer (some ⟨b, 0, none⟩)] (w.drewN n) fun e w' => e = .returned (.bool (q x)) ∧ Drawn0 (w.drewN n) w') :
  Calls Try.prog 94 #[.slice A0 l0.length c0, .func (.func 86) #[] #[.pointer (some ⟨b, 0, none⟩)]] w fun e w' => (∃ z : Int, e = .returned (.int .i64 z) ∧ decide (0 ≤ z) = l0.any q) ∧ Drawn0 w w' := by
 have HR0 := Aside0.mk hr0; have HQ := Aside0.mk hq; clear hr0 hq; go_enter Try.func94, Try.ntmps94; go_wp2
 go_loopg [8] (l0.length + 1) (fun kq v8 w' => ∃ (j : Nat), v8 = .int .i64 j ∧ j ≤ l0.length ∧ l0.length - j < kq ∧ Aside0 ((l0.drop j).any q = l0.any q) ∧ Drawn0 w w')
 case atStart => exact ⟨0, by go_num, Nat.zero_le _, by omega, ⟨by rw [List.drop_zero]⟩, by repeat (first | exact Drawn0.refl _ | apply Drawn0.step)⟩
 case round =>
  obtain ⟨j, rfl, hj, hm, HA, ⟨m1, rfl⟩⟩ := hrel; obtain ⟨k1, rfl⟩ : ∃ m, gk = m + 1 := ⟨gk - 1, by omega⟩
  by_cases hjl : j < l0.length
  ·(have hjz : (j : Int) < (l0.length : Int) := by omega); have hA := HA.out; rw [List.drop_eq_getElem_cons hjl, List.any_cons] at hA; obtain ⟨ad, e0, hx0⟩ := Kd.at_int HR0.out (j : Int) (by omega) hjz; (have hrd : rd l0 (j : Int) = l0[j] := by unfold rd; simp [hjl]); rw [hrd, Int.toNat_natCast] at hx0; cases e0; have p1 : (0 ≤ (j : Int)) = True := eq_true (by omega); have p2 : ((j : Int) < (l0.length : Int)) = True := eq_true hjz; have HC := Aside0.mk (HQ.out l0[j] m1)
   cases hqx : q l0[j] with
   | true =>
    rw [hqx] at hA HC; have HF := Aside0.mk hA; clear hA HA; go_wp2_with ((go_at_call 86); (with_reducible refine HC.out.mono ?_); rintro e w' ⟨rfl, ⟨nd, rfl⟩⟩); go_ret; exact ⟨⟨_, rfl, by rw [← HF.out, Bool.true_or]; exact decide_eq_true (by omega)⟩, by repeat (first | exact Drawn0.refl _ | apply Drawn0.step)⟩
   | false =>
    rw [hqx] at hA HC; rw [Bool.false_or] at hA; have HF := Aside0.mk hA; clear hA HA; go_wp2_with ((go_at_call 86); (with_reducible refine HC.out.mono ?_); rintro e w' ⟨rfl, ⟨nd, rfl⟩⟩)
    go_roundg k1
    case measure => exact Nat.lt_succ_self _
    case rel => exact ⟨j + 1, by go_num, by omega, by omega, HF, by repeat (first | exact Drawn0.refl _ | apply Drawn0.step)⟩
  (obtain rfl : j = l0.length := by omega); have hA := HA.out; rw [List.drop_length, List.any_nil] at hA; have HF := Aside0.mk hA; clear hA HA; go_wp2; go_ret; exact ⟨⟨_, rfl, by rw [← HF.out]; exact decide_eq_false (by omega)⟩, by repeat (first | exact Drawn0.refl _ | apply Drawn0.step)⟩
theorem impl_areRows.has (q : Int → Bool) (b : Nat) (A0 : Option Addr) (c0 : Nat) (l0 : List Int) (w : World) (hr0 : Kd.C (Kd.int .i64) w A0 l0.length l0) (hc0 : l0.length ≤ c0) (hl : l0.length < 4611686018427387904)
  (hq : ∀ x n, Calls Try.prog 86 #[.int .i64 x, .pointer (some ⟨b, 0, none⟩)] (w.drewN n) fun e w' => e = .returned (.bool (q x)) ∧ Drawn0 (w.drewN n) w') :
  Calls Try.prog 66 #[.slice A0 l0.length c0, .func (.func 86) #[] #[.pointer (some ⟨b, 0, none⟩)]] w fun e w' => e = .returned (.bool (l0.any q)) ∧ Drawn0 w w' := by
 have HI := Aside0.mk (impl_areRows.index q b A0 c0 l0 w hr0 hc0 hl hq); clear hr0 hc0 hq; go_enter Try.func66, Try.ntmps66; go_wp2_with ((go_at_call 94); (with_reducible refine HI.out.mono ?_); rintro e w' ⟨⟨z, rfl, hz⟩, ⟨nd, rfl⟩⟩); go_ret; exact ⟨by first | (rw [← hz]; done) | (simp [← hz]; done) | (simp [hz]; done), by repeat (first | exact Drawn0.refl _ | apply Drawn0.step)⟩
/-- the outer closure -/
theorem impl_areRows.outer (n : Nat) (bn bm : Nat) (A0 : Option Addr) (c0 : Nat) (row : List Int) (w : World) (hr0 : Kd.C (Kd.int .i64) w A0 row.length row) (hc0 : row.length ≤ c0)
  (hn : w.cell? ⟨bn, 0, none⟩ = some (.int .i64 (n : Int))) (hm : w.cell? ⟨bm, 0, none⟩ = some (.int .i64 (impl_areRows.most n))) (hs : n ≤ 14) :
  Calls Try.prog 85 #[.slice A0 row.length c0, .pointer (some ⟨bn, 0, none⟩), .pointer (some ⟨bm, 0, none⟩)] w fun e w' => e = .returned (.bool (impl_areRows.bad n row)) ∧ Drawn0 w w' := by
 have hmb : 0 ≤ impl_areRows.most n ∧ impl_areRows.most n ≤ 100 := by unfold impl_areRows.most; split <;> omega
 by_cases h : row.length = n
 ·subst h; have HH := Aside0.mk (impl_areRows.has (fun x => !(decide (-(impl_areRows.most row.length) ≤ x) && decide (x ≤ impl_areRows.most row.length))) bm A0 c0 row w hr0 hc0 (by omega) (fun x k => impl_areRows.deep x _ bm _ hmb ((pw_below_drewN (Below.refl _ _) k).cell (World.block_lt_of_cell? w _ hm) |>.trans hm)))
  have hb : impl_areRows.bad row.length row = row.any fun x => !(decide (-(impl_areRows.most row.length) ≤ x) && decide (x ≤ impl_areRows.most row.length)) := by
   unfold impl_areRows.bad; rw [show ((row.length : Int) == (row.length : Int)) = true from beq_iff_eq.mpr rfl]; rfl
  rw [hb]; clear hb hr0 hc0 hm hmb hs; go_enter Try.func85, Try.ntmps85; go_wp2_with ((go_at_call 66); (with_reducible refine HH.out.mono ?_); rintro e w' ⟨rfl, ⟨nd, rfl⟩⟩)
  all_goals (go_ret; exact ⟨by simp, by repeat (first | exact Drawn0.refl _ | apply Drawn0.step)⟩)
 have hb : impl_areRows.bad n row = true := by
  unfold impl_areRows.bad; rw [show ((row.length : Int) == (n : Int)) = false from beq_eq_false_iff_ne.mpr (by omega)]; rfl
 have e1 : ((row.length : Int) != (n : Int)) = true := bne_iff_ne.mpr (by omega); have e2 : ((row.length : Int) = (n : Int)) = False := eq_false (by omega); rw [hb]; clear hb hr0 hc0 hm hmb hs; go_enter Try.func85, Try.ntmps85; go_wp2
 all_goals (go_ret; exact ⟨by simp [*], by repeat (first | exact Drawn0.refl _ | apply Drawn0.step)⟩)
/-- slices.IndexFunc over rows, by the outer closure -/
theorem impl_areRows.indexR (q : List Int → Bool) (bn bm : Nat) (A0 : Option Addr) (c0 : Nat) (l0 : List (List Int)) (w : World) (hr0 : Kd.C (Kd.slice 3 (Kd.int .i64)) w A0 l0.length l0) (hc0 : l0.length ≤ c0) (hl : l0.length < 4611686018427387904)
  (hq : ∀ (A : Option Addr) (c : Nat) (row : List Int) (n : Nat), Kd.C (Kd.int .i64) (w.drewN n) A row.length row → row.length ≤ c → Calls Try.prog 85 #[.slice A row.length c, .pointer (some ⟨bn, 0, none⟩), .pointer (some ⟨bm, 0, none⟩)] (w.drewN n) fun e w' => e = .returned (.bool (q row)) ∧ Drawn0 (w.drewN n) w') :
  Calls Try.prog 88 #[.slice A0 l0.length c0, .func (.func 85) #[] #[.pointer (some ⟨bn, 0, none⟩), .pointer (some ⟨bm, 0, none⟩)]] w fun e w' => (∃ z : Int, e = .returned (.int .i64 z) ∧ decide (0 ≤ z) = l0.any q) ∧ Drawn0 w w' := by
 have HR0 := Aside0.mk hr0; have HQ := Aside0.mk hq; clear hr0 hq; go_enter Try.func88, Try.ntmps88; go_wp2
 go_loopg [8] (l0.length + 1) (fun kq v8 w' => ∃ (j : Nat), v8 = .int .i64 j ∧ j ≤ l0.length ∧ l0.length - j < kq ∧ Aside0 ((l0.drop j).any q = l0.any q) ∧ Drawn0 w w')
 case atStart => exact ⟨0, by go_num, Nat.zero_le _, by omega, ⟨by rw [List.drop_zero]⟩, by repeat (first | exact Drawn0.refl _ | apply Drawn0.step)⟩
 case round =>
  obtain ⟨j, rfl, hj, hm, HA, ⟨m1, rfl⟩⟩ := hrel; obtain ⟨k1, rfl⟩ : ∃ m, gk = m + 1 := ⟨gk - 1, by omega⟩
  by_cases hjl : j < l0.length
  ·(have hjz : (j : Int) < (l0.length : Int) := by omega); have hA := HA.out; rw [List.drop_eq_getElem_cons hjl, List.any_cons] at hA; obtain ⟨ad, A1, c1, e0, hx0, hl1, hi1⟩ := at_L1 HR0.out (j : Int) (by omega) hjz; (have hrd : rd_L1 l0 (j : Int) = l0[j] := by unfold rd_L1; simp [hjl]); rw [hrd] at hx0 hl1 hi1; rw [Int.toNat_natCast] at hx0; cases e0; have p1 : (0 ≤ (j : Int)) = True := eq_true (by omega); have p2 : ((j : Int) < (l0.length : Int)) = True := eq_true hjz; have HC := Aside0.mk (HQ.out A1 c1 l0[j] m1 (Kd.C_drewN hi1 m1) hl1); clear hi1
   cases hqx : q l0[j] with
   | true =>
    rw [hqx] at hA HC; have HF := Aside0.mk hA; clear hA HA; go_wp2_with ((go_at_call 85); (with_reducible refine HC.out.mono ?_); rintro e w' ⟨rfl, ⟨nd, rfl⟩⟩); go_ret; exact ⟨⟨_, rfl, by rw [← HF.out, Bool.true_or]; exact decide_eq_true (by omega)⟩, by repeat (first | exact Drawn0.refl _ | apply Drawn0.step)⟩
   | false =>
    rw [hqx] at hA HC; rw [Bool.false_or] at hA; have HF := Aside0.mk hA; clear hA HA; go_wp2_with ((go_at_call 85); (with_reducible refine HC.out.mono ?_); rintro e w' ⟨rfl, ⟨nd, rfl⟩⟩)
    go_roundg k1
    case measure => exact Nat.lt_succ_self _
    case rel => exact ⟨j + 1, by go_num, by omega, by omega, HF, by repeat (first | exact Drawn0.refl _ | apply Drawn0.step)⟩
  (obtain rfl : j = l0.length := by omega); have hA := HA.out; rw [List.drop_length, List.any_nil] at hA; have HF := Aside0.mk hA; clear hA HA; go_wp2; go_ret; exact ⟨⟨_, rfl, by rw [← HF.out]; exact decide_eq_false (by omega)⟩, by repeat (first | exact Drawn0.refl _ | apply Drawn0.step)⟩
theorem impl_areRows.hasR (q : List Int → Bool) (bn bm : Nat) (A0 : Option Addr) (c0 : Nat) (l0 : List (List Int)) (w : World) (hr0 : Kd.C (Kd.slice 3 (Kd.int .i64)) w A0 l0.length l0) (hc0 : l0.length ≤ c0) (hl : l0.length < 4611686018427387904)
  (hq : ∀ (A : Option Addr) (c : Nat) (row : List Int) (n : Nat), Kd.C (Kd.int .i64) (w.drewN n) A row.length row → row.length ≤ c → Calls Try.prog 85 #[.slice A row.length c, .pointer (some ⟨bn, 0, none⟩), .pointer (some ⟨bm, 0, none⟩)] (w.drewN n) fun e w' => e = .returned (.bool (q row)) ∧ Drawn0 (w.drewN n) w') :
  Calls Try.prog 84 #[.slice A0 l0.length c0, .func (.func 85) #[] #[.pointer (some ⟨bn, 0, none⟩), .pointer (some ⟨bm, 0, none⟩)]] w fun e w' => e = .returned (.bool (l0.any q)) ∧ Drawn0 w w' := by
 have HI := Aside0.mk (impl_areRows.indexR q bn bm A0 c0 l0 w hr0 hc0 hl hq); clear hr0 hc0 hq; go_enter Try.func84, Try.ntmps84; go_wp2_with ((go_at_call 88); (with_reducible refine HI.out.mono ?_); rintro e w' ⟨⟨z, rfl, hz⟩, ⟨nd, rfl⟩⟩); go_ret; exact ⟨by first | (rw [← hz]; done) | (simp [← hz]; done) | (simp [hz]; done), by repeat (first | exact Drawn0.refl _ | apply Drawn0.step)⟩
theorem impl_areRows.calls (A0 : Option Addr) (c0 : Nat) (l0 : List (List Int)) (r : Bool) (w : World) (hr0 : Kd.C (Kd.slice 3 (Kd.int .i64)) w A0 l0.length l0) (hc0 : l0.length ≤ c0) (h : impl_areRows.f l0 = some r) :
  Calls Try.prog 47 #[.slice A0 l0.length c0] w fun e w' => e = .returned (.bool r) ∧ Below w.heap.size w w' := by
 obtain rfl := Option.some.inj h; clear h; have HR0 := Aside0.mk hr0; clear hr0
 have cells : ∀ (m : Int) (n : Nat), impl_areRows.most l0.length = m → l0.length ≤ 14 → l0.length < 4611686018427387904 →
   Calls Try.prog 84 #[.slice A0 l0.length c0, .func (.func 85) #[] #[.pointer (some ⟨w.heap.size, 0, none⟩), .pointer (some ⟨w.heap.size + 1, 0, none⟩)]] (((w.alloc (.cells #[.int .i64 (l0.length : Int)] 3)).alloc (.cells #[.int .i64 m] 3)).drewN n) fun e w' => e = .returned (.bool (l0.any (impl_areRows.bad l0.length))) ∧ Drawn0 (((w.alloc (.cells #[.int .i64 (l0.length : Int)] 3)).alloc (.cells #[.int .i64 m] 3)).drewN n) w' := by
  intro m n hm hs hl; refine impl_areRows.hasR (impl_areRows.bad l0.length) w.heap.size (w.heap.size + 1) A0 c0 l0 _ (Kd.C_drewN (Kd.C_alloc (Kd.C_alloc HR0.out _) _) n) hc0 hl (fun A c row k hC hc => ?_)
  refine impl_areRows.outer l0.length w.heap.size (w.heap.size + 1) A c row _ hC hc ?_ ?_ hs
  ·refine (pw_cell_below (pw_below_drewN (Below.refl _ _) k) (pw_cell_below (pw_below_drewN (Below.refl _ _) n) ?_)); simp
  refine (pw_cell_below (pw_below_drewN (Below.refl _ _) k) (pw_cell_below (pw_below_drewN (Below.refl _ _) n) ?_)); rw [hm]; simp
 by_cases hr : 1 ≤ l0.length ∧ l0.length ≤ 14
 ·have hin := Aside0.mk (show impl_in.f (l0.length : Int) 1 14 = some true by rw [impl_areRows.in_val, decide_eq_true (show (1 : Int) ≤ (l0.length : Int) by omega), decide_eq_true (show (l0.length : Int) ≤ 14 by omega)]; rfl); rw [decide_eq_true (show (1 : Int) ≤ (l0.length : Int) by omega), decide_eq_true (show (l0.length : Int) ≤ 14 by omega), Bool.true_and, Bool.true_and]
  by_cases h5 : l0.length ≤ 5
  ·have CC := Aside0.mk (fun n => cells 100 n (by unfold impl_areRows.most; rw [if_pos h5]) hr.2 (by omega)); have e5 : ((l0.length : Int) ≤ 5) = True := eq_true (by omega); clear cells hr h5 hc0; go_enter Try.func47, Try.ntmps47
   go_wp2_with (first
    | ((go_at_call 57); (with_reducible refine (impl_in.calls _ _ _ _ _ hin.out).mono ?_); rintro e w' ⟨rfl, ⟨nd, rfl⟩⟩)
    | ((go_at_call 84); (with_reducible refine (CC.out nd).mono ?_); rintro e w' ⟨rfl, ⟨nd2, rfl⟩⟩))
   go_ret; exact ⟨by simp, pw_below_drewN (((Below.refl _ w).alloc (Nat.le_refl _) _).alloc (by simp) _) (nd + nd2)⟩
  have CC := Aside0.mk (fun n => cells 16 n (by unfold impl_areRows.most; rw [if_neg h5]) hr.2 (by omega)); have e5 : ((l0.length : Int) ≤ 5) = False := eq_false (by omega); clear cells hr h5 hc0; go_enter Try.func47, Try.ntmps47
  go_wp2_with (first
   | ((go_at_call 57); (with_reducible refine (impl_in.calls _ _ _ _ _ hin.out).mono ?_); rintro e w' ⟨rfl, ⟨nd, rfl⟩⟩)
   | ((go_at_call 84); (with_reducible refine (CC.out nd).mono ?_); rintro e w' ⟨rfl, ⟨nd2, rfl⟩⟩))
  go_ret; exact ⟨by simp, pw_below_drewN (((Below.refl _ w).alloc (Nat.le_refl _) _).alloc (by simp) _) (nd + nd2)⟩
 have ho : (decide ((1 : Int) ≤ (l0.length : Int)) && decide ((l0.length : Int) ≤ 14)) = false := by
  rw [Bool.and_eq_false_iff]
  by_cases h1 : (1 : Int) ≤ (l0.length : Int)
  ·exact .inr (decide_eq_false (by omega))
  exact .inl (decide_eq_false h1)
 have hin := Aside0.mk (show impl_in.f (l0.length : Int) 1 14 = some false by rw [impl_areRows.in_val, ho]); rw [ho, Bool.false_and]; clear cells hr ho hc0; go_enter Try.func47, Try.ntmps47; go_wp2_with ((go_at_call 57); (with_reducible refine (impl_in.calls _ _ _ _ _ hin.out).mono ?_); rintro e w' ⟨rfl, ⟨nd, rfl⟩⟩)
 all_goals (go_ret; exact ⟨by simp, pw_below_drewN (((Below.refl _ w).alloc (Nat.le_refl _) _).alloc (by simp) _) nd⟩)
/-! ### impl_primes: function 53 -/
def impl_primes.f  : Option (List Int) := some (([2147483647, 2147483629, 2147483587] : List Int))
theorem impl_primes.calls  (r : List Int) (w : World) (h : impl_primes.f  = some r) :
  Calls Try.prog 53 #[] w fun e w' => ∃ v0_ : Value, e = .returned (v0_) ∧ Kd.R (Kd.int .i64) 3 w' w.heap.size (fun _ => True) v0_ r ∧ Below w.heap.size w w' := by
 have HB := Aside0.mk (Below.refl w.heap.size w); have H : (some (([2147483647, 2147483629, 2147483587] : List Int))) = some r := h; clear h; obtain ⟨y118, hy118⟩ := yy (([2147483647, 2147483629, 2147483587] : List Int))
 (try rw [Option.bind_some] at H); (try dsimp only at H); rw [← hy118] at H
 have Ny118 := Aside0.mk hy118; clear hy118; obtain rfl := Option.some.inj H; go_enter Try.func53, Try.ntmps53; go_wp2_with (first | ((with_reducible refine gate_dst (N := 1) rfl ?_); refine Kd.R_lit (Kd.int .i64) _ 3 ?hg (N := 1) ?hd (xs := ([2147483647, 2147483629, 2147483587] : List Int)) (inner := [.int .i64 2147483647, .int .i64 2147483629, .int .i64 2147483587]) (ok := fun _ => True) (okp := fun _ => True) ?hr ?hp (fun _ hk => hk) trivial (Below.refl _ _) (Nat.le_refl _) (by simp) ?_; (case hd => rfl); (case hg => rfl); (case hr => first | (go_simp; done) | (go_simp; rfl)); (case hp => exact (Reps.one (show Kd.M (Kd.int .i64) _ _ _ 2147483647 [.int .i64 2147483647] from rfl) (Reps.one (show Kd.M (Kd.int .i64) _ _ _ 2147483629 [.int .i64 2147483629] from rfl) (Reps.one (show Kd.M (Kd.int .i64) _ _ _ 2147483587 [.int .i64 2147483587] from rfl) (Reps.none _ _))))); intro v119 w1 ho2 hb hg_ hnew_; clear hg_ hnew_; (first | rw [← Ny118.out] at ho2 | (simp only [Int.reduceToNat] at ho2; rw [← Ny118.out] at ho2)); have HO120 := Aside0.mk (Kd.R_lower ho2 (below_size (bl HB.out))); replace HB := bst HB hb; clear hb ho2)); go_ret; exact ⟨_, sr, rR HO120.out, bl HB.out⟩
/-! ### impl_rank: function 48 -/
def impl_rank.l0 : Nat → List (List Int) → Int → List Int → Int → Int → Option (Int)
 | 0, _, _, _, _, _ => none
 | k + 1, x0, x3, x8, x9, x10 => if x10 < x9 then (if 0 ≤ x10 then (if x10 < (x8.length : Int) then ((impl_reduce.f k x0 (rd x8 x10)).bind fun bt125 => (impl_rank.l0 k x0 (mx x3 bt125.1) x8 x9 (wrap64 (x10 + 1)))) else (none)) else (none)) else (some x3)
def impl_rank.f (k : Nat) (l0 : List (List Int)) : Option (Int) := (impl_primes.f).bind fun t121 => (impl_rank.l0 k l0 0 t121 (t121.length : Int) 0)
theorem impl_rank.mono_l : ∀ k, (∀ y0 y1 y2 y3 y4, LeO (impl_rank.l0 k y0 y1 y2 y3 y4) (impl_rank.l0 (k + 1) y0 y1 y2 y3 y4))
 | 0 => fun _ _ _ _ _ r h => by simp [impl_rank.l0] at h
 | k + 1 => by
  have ih0 := impl_rank.mono_l k
  ·intro y0 y1 y2 y3 y4
   unfold impl_rank.l0
   repeat' first
   | (with_reducible exact ih0 _ _ _ _ _)
   | (with_reducible exact impl_reduce.mono _ _ _)
   | (with_reducible exact LeO.refl _)
   | (with_reducible exact LeO.none _)
   | (with_reducible refine LeO.ite ?_ ?_)
   | (with_reducible refine LeO.bind ?_ (fun _ => ?_))
   | exact ih0 _ _ _ _ _
   | exact impl_reduce.mono _ _ _
   | exact LeO.none _
   | refine LeO.ite ?_ ?_
   | refine LeO.bind ?_ (fun _ => ?_)
theorem impl_rank.mono : ∀ a0 k, LeO (impl_rank.f k a0) (impl_rank.f (k + 1) a0) := by
 intro a0 k; have ih0 := impl_rank.mono_l k; unfold impl_rank.f
 repeat' first
   | (with_reducible exact ih0 _ _ _ _ _)
   | (with_reducible exact impl_reduce.mono _ _ _)
   | (with_reducible exact LeO.refl _)
   | (with_reducible exact LeO.none _)
   | (with_reducible refine LeO.ite ?_ ?_)
   | (with_reducible refine LeO.bind ?_ (fun _ => ?_))
   | exact ih0 _ _ _ _ _
   | exact impl_reduce.mono _ _ _
   | exact LeO.none _
   | refine LeO.ite ?_ ?_
   | refine LeO.bind ?_ (fun _ => ?_)
theorem impl_rank.calls (k : Nat) (A0 : Option Addr) (c0 : Nat) (l0 : List (List Int)) (r : Int) (w : World) (hr0 : Kd.C (Kd.slice 3 (Kd.int .i64)) w A0 l0.length l0) (hc0 : l0.length ≤ c0) (h : impl_rank.f k l0 = some r) :
  Calls Try.prog 48 #[.slice A0 l0.length c0] w fun e w' => e = .returned (.int .i64 r) ∧ Below w.heap.size w w' := by
 have HR0 := Aside0.mk hr0; have HC0 := Aside0.mk hc0; clear hr0 hc0; have HB := Aside0.mk (Below.refl w.heap.size w); have H : ((impl_primes.f).bind fun t121 => (impl_rank.l0 k l0 0 t121 (t121.length : Int) 0)) = some r := h; clear h; obtain ⟨t121, A2, H⟩ := bi H; (try dsimp only at H); have H' := Aside0.mk H; clear H; go_enter Try.func48, Try.ntmps48; go_wp2_with (first | (go_at_call 53; (with_reducible refine (impl_primes.calls  t121 _ A2.out).mono ?_); rintro e w3 ⟨v122, rfl, ho0, hb⟩; have HO123 := Aside0.mk (Kd.R_lower ho0 (below_size (bl HB.out))); replace HB := bst HB hb; obtain ⟨Ao4, co4, eo4⟩ := Kd.R_slice HO123.out; subst eo4))
 go_loopg [3, 10] k (fun kq v3 v10 w' => ∃ (x3_1 : Int) (x10_1 : Int), v3 = .int .i64 x3_1 ∧ v10 = .int .i64 x10_1 ∧ Aside0 (impl_rank.l0 kq l0 x3_1 t121 (t121.length : Int) x10_1 = some r) ∧ Aside0 (kq ≤ k) ∧ Aside0 (Kd.R (Kd.int .i64) 3 w' w.heap.size (fun _ => True) (.slice Ao4 t121.length co4) t121) ∧ Aside0 (Below w.heap.size w w'))
 case atStart => exact ⟨(0), (0), (sr2), (sr2), H', ⟨Nat.le_refl _⟩, ⟨rR HO123.out⟩, ⟨bl HB.out⟩⟩
 case round =>
  clear H'; obtain ⟨x3_1, x10_1, rfl, rfl, HA, HK1, HO_8, HB⟩ := hrel
  cases gk with
  | zero => exact absurd HA.out (by simp [impl_rank.l0])
  | succ k1 =>
   have H := HA.out; clear HA; simp only [impl_rank.l0] at H
   by_cases c5 : x10_1 < (t121.length : Int)
   ·rw [if_pos c5] at H; have c5b0 := decide_eq_true c5; clear c5
    by_cases c6 : 0 ≤ x10_1
    ·rw [if_pos c6] at H; have c6b0 := decide_eq_true c6; clear c6
     by_cases c7 : x10_1 < (t121.length : Int)
     ·rw [if_pos c7] at H; have c7b0 := decide_eq_true c7; clear c7; obtain ⟨⟨t125, t126⟩, A8, H⟩ := bi H; (try dsimp only at H); obtain ⟨ji9, hji9⟩ : ∃ j_ : Int, (mx x3_1 t125) = j_ := ⟨_, rfl⟩; (replace H : (impl_rank.l0 k1 l0 ji9 t121 (t121.length : Int) (wrap64 (x10_1 + 1))) = some r := by first | (rw [hji9] at H; exact H) | (simp only [hji9] at H ⊢; exact H)); (try rw [hji9] at A8); have hji9_ : (if x3_1 < t125 then t125 else x3_1) = ji9 := hji9; have H' := Aside0.mk H; clear H; obtain ⟨ad124, e124, hx124_0, p124, q124⟩ := atI (Kd.R_reads' HO_8.out).2.2 x10_1; cases e124; go_wp2_with (first | (go_at_call 54; (with_reducible refine (impl_reduce.calls k1 _ _ l0 (rd t121 x10_1) t125 t126 _ ?side1 HC0.out A8.out).mono ?_); (case side1 => exact cw (Kd.C_below HR0.out HB.out)); rintro e w10 ⟨rfl, hb⟩; replace HO_8 := Aside0.mk (Kd.R_below (rR HO_8.out) hb); replace HB := bst HB hb))
      first | go_roundg k1 | (simp only [← hji9]; go_roundg k1)
      case measure => have := HK1.out; omega
      case rel => exact ⟨(ji9), (wrap64 (x10_1 + 1)), (by first | rfl | (simp; done) | (simp only [← hji9] <;> (first | rfl | simp)) | (simp [*]; done)), (sr2), H', ⟨by have := HK1.out; omega⟩, ⟨rR HO_8.out⟩, ⟨bl HB.out⟩⟩
     rw [if_neg c7] at H; exact absurd H (by simp)
    rw [if_neg c6] at H; exact absurd H (by simp)
   rw [if_neg c5] at H; have c5b0 := decide_eq_false c5; clear c5; obtain rfl := Option.some.inj H; go_wp2; go_ret; exact ⟨sr, bl HB.out⟩
/-! ### impl_RankOf: function 11 -/
def impl_RankOf.f (k : Nat) (l0 : List (List Int)) : Option (Int × Bool) := (impl_areRows.f l0).bind fun t127 => (if t127 = true then ((impl_rank.f k l0).bind fun t128 => (some (t128, true))) else (some (0, false)))
theorem impl_RankOf.mono : ∀ a0 k, LeO (impl_RankOf.f k a0) (impl_RankOf.f (k + 1) a0) := by
 intro a0 k; unfold impl_RankOf.f
 repeat' first
   | (with_reducible exact impl_rank.mono _ _)
   | (with_reducible exact LeO.refl _)
   | (with_reducible exact LeO.none _)
   | (with_reducible refine LeO.ite ?_ ?_)
   | (with_reducible refine LeO.bind ?_ (fun _ => ?_))
   | exact impl_rank.mono _ _
   | exact LeO.none _
   | refine LeO.ite ?_ ?_
   | refine LeO.bind ?_ (fun _ => ?_)
theorem impl_RankOf.calls (k : Nat) (A0 : Option Addr) (c0 : Nat) (l0 : List (List Int)) (r1 : Int) (r2 : Bool) (w : World) (hr0 : Kd.C (Kd.slice 3 (Kd.int .i64)) w A0 l0.length l0) (hc0 : l0.length ≤ c0) (h : impl_RankOf.f k l0 = some (r1, r2)) :
  Calls Try.prog 11 #[.slice A0 l0.length c0] w fun e w' => e = .returned (.tuple #[.int .i64 r1, .bool r2]) ∧ Below w.heap.size w w' := by
 have HR0 := Aside0.mk hr0; have HC0 := Aside0.mk hc0; clear hr0 hc0; have HB := Aside0.mk (Below.refl w.heap.size w); have H : ((impl_areRows.f l0).bind fun t127 => (if t127 = true then ((impl_rank.f k l0).bind fun t128 => (some (t128, true))) else (some (0, false)))) = some (r1, r2) := h; clear h; obtain ⟨t127, A2, H⟩ := bi H; (try dsimp only at H)
 by_cases c3 : t127 = true
 ·subst c3; rw [if_pos rfl] at H; obtain ⟨t128, A4, H⟩ := bi H; (try dsimp only at H); simp only [Option.some.injEq, Prod.mk.injEq] at H; obtain ⟨rfl, rfl⟩ := H; go_enter Try.func11, Try.ntmps11; go_wp2_with (first | (go_at_call 47; (with_reducible refine (impl_areRows.calls _ _ l0 true _ ?side1 HC0.out A2.out).mono ?_); (case side1 => exact cw HR0.out); rintro e w5 ⟨rfl, hb⟩; replace HB := bst HB hb) | (go_at_call 48; (with_reducible refine (impl_rank.calls k _ _ l0 t128 _ ?side1 HC0.out A4.out).mono ?_); (case side1 => exact cw (Kd.C_below HR0.out HB.out)); rintro e w6 ⟨rfl, hb⟩; replace HB := bst HB hb)); go_ret2; exact ⟨sr, bl HB.out⟩
 replace c3 := Bool.eq_false_iff.mpr c3; subst c3; rw [if_neg (show ¬ (false = true) by decide)] at H; simp only [Option.some.injEq, Prod.mk.injEq] at H; obtain ⟨rfl, rfl⟩ := H; go_enter Try.func11, Try.ntmps11; go_wp2_with (first | (go_at_call 47; (with_reducible refine (impl_areRows.calls _ _ l0 false _ ?side1 HC0.out A2.out).mono ?_); (case side1 => exact cw HR0.out); rintro e w7 ⟨rfl, hb⟩; replace HB := bst HB hb)); go_ret2; exact ⟨sr, bl HB.out⟩
/-! ### spec_DependentRow: function 13 -/
def spec_DependentRow.l0 : Nat → List (List Int) → Int → Int → Option (Int × Bool)
 | 0, _, _, _ => none
 | k + 1, x0, x9, x10 => if x10 < x9 then (if 0 ≤ (wrap64 (x10 + 1)) then (if (wrap64 (x10 + 1)) ≤ (x0.length : Int) then ((spec_taRank.f k (x0.take ((wrap64 (x10 + 1)) : Int).toNat)).bind fun t134 => (if 0 ≤ x10 then (if x10 ≤ (x0.length : Int) then ((spec_taRank.f k (x0.take (x10 : Int).toNat)).bind fun t139 => (if t134 = t139 then (some (x10, true)) else (spec_DependentRow.l0 k x0 x9 (wrap64 (x10 + 1))))) else (none)) else (none))) else (none)) else (none)) else (some (0, false))
def spec_DependentRow.f (k : Nat) (l0 : List (List Int)) : Option (Int × Bool) := (spec_taRows.f k l0).bind fun t129 => (if t129 = true then (spec_DependentRow.l0 k l0 (l0.length : Int) 0) else (some (0, false)))
def spec_DependentRow.T6 : Bool × List (List Nat × List Nat) := (true, [([], []), ([], []), ([1], [1]), ([0, 2], [0, 2]), ([3], [3]), ([], []), ([], []), ([5, 6], [5, 6]), ([7, 4], [7]), ([4, 8], [4, 8])])
def spec_DependentRow.B6 : List Nat := [0, 0, 2, 7, 15, 0, 0, 96, 255, 511]
theorem spec_DependentRow.tab6 : rtab .any (opsOf Try.f13 6) = spec_DependentRow.T6 := by kernel_rfl
theorem spec_DependentRow.bits6 : waitsOk spec_DependentRow.T6.2 spec_DependentRow.B6 = true := by kernel_rfl
theorem spec_DependentRow.calls (k : Nat) (A0 : Option Addr) (c0 : Nat) (l0 : List (List Int)) (r1 : Int) (r2 : Bool) (w : World) (hr0 : Kd.C (Kd.slice 3 (Kd.int .i64)) w A0 l0.length l0) (hc0 : l0.length ≤ c0) (h : spec_DependentRow.f k l0 = some (r1, r2)) :
  Calls Try.prog 13 #[.slice A0 l0.length c0] w fun e w' => e = .returned (.tuple #[.int .i64 r1, .bool r2]) ∧ Below w.heap.size w w' := by
 have HR0 := Aside0.mk hr0; have HC0 := Aside0.mk hc0; clear hr0 hc0; have HB := Aside0.mk (Below.refl w.heap.size w); have H : ((spec_taRows.f k l0).bind fun t129 => (if t129 = true then (spec_DependentRow.l0 k l0 (l0.length : Int) 0) else (some (0, false)))) = some (r1, r2) := h; clear h; obtain ⟨t129, A2, H⟩ := bi H; (try dsimp only at H)
 by_cases c3 : t129 = true
 ·subst c3; rw [if_pos rfl] at H; have H' := Aside0.mk H; clear H; go_enter Try.func13, Try.ntmps13; go_wp2_with (first | ((with_reducible refine gate_callee (f := 44) rfl ?_); refine goesL_ (some 6) rfl rfl Try.func44 (by kernel_rfl) rfl #[.slice A0 l0.length c0] rfl mp ?_; (with_reducible refine (spec_taRows.calls k _ _ l0 true _ ?side1 ?side2 A2.out).mono ?_); (case side1 => exact cw HR0.out); (case side2 => exact HC0.out); rintro e w' ⟨rfl, ⟨nd, rfl⟩⟩; refine ⟨_, rfl, ?_⟩))
  go_loopg [10] k (fun kq v10 w' => ∃ (x10_1 : Int), v10 = .int .i64 x10_1 ∧ Aside0 (spec_DependentRow.l0 kq l0 (l0.length : Int) x10_1 = some (r1, r2)) ∧ Aside0 (kq ≤ k) ∧ Aside0 (Below w.heap.size w w'))
  case atStart => exact ⟨(0), (sr2), H', ⟨Nat.le_refl _⟩, ⟨bl HB.out⟩⟩
  case round =>
   clear H'; obtain ⟨x10_1, rfl, HA, HK1, HB⟩ := hrel
   cases gk with
   | zero => exact absurd HA.out (by simp [spec_DependentRow.l0])
   | succ k1 =>
    have H := HA.out; clear HA; simp only [spec_DependentRow.l0] at H
    by_cases c4 : x10_1 < (l0.length : Int)
    ·rw [if_pos c4] at H; have c4b0 := decide_eq_true c4; clear c4; obtain ⟨ji5, hji5⟩ : ∃ j_ : Int, (wrap64 (x10_1 + 1)) = j_ := ⟨_, rfl⟩; (replace H : (if 0 ≤ (ji5) then (if (ji5) ≤ (l0.length : Int) then ((spec_taRank.f k1 (l0.take ((ji5) : Int).toNat)).bind fun t134 => (if 0 ≤ x10_1 then (if x10_1 ≤ (l0.length : Int) then ((spec_taRank.f k1 (l0.take (x10_1 : Int).toNat)).bind fun t139 => (if t134 = t139 then (some (x10_1, true)) else (spec_DependentRow.l0 k1 l0 (l0.length : Int) ji5))) else (none)) else (none))) else (none)) else (none)) = some (r1, r2) := by first | (rw [hji5] at H; exact H) | (simp only [hji5] at H ⊢; exact H)); have hji5w : (IntKind.i64.wrap (x10_1 + 1)) = ji5 := (i64_w _).trans hji5
     by_cases c6 : 0 ≤ (ji5)
     ·rw [if_pos c6] at H; have c6b0 := eq_true c6; have c6b1 := decide_eq_true c6; clear c6
      by_cases c7 : (ji5) ≤ (l0.length : Int)
      ·rw [if_pos c7] at H; have c7b0 := eq_true c7; have c7b1 := decide_eq_true c7; clear c7; obtain ⟨y130, hy130⟩ := yy (l0.take ((ji5) : Int).toNat)
       (try rw [Option.bind_some] at H); (try dsimp only at H); rw [← hy130] at H
       have Ny130 := Aside0.mk hy130; clear hy130; obtain ⟨t134, A8, H⟩ := bi H; (try dsimp only at H)
       by_cases c9 : 0 ≤ x10_1
       ·rw [if_pos c9] at H; have c9b0 := eq_true c9; have c9b1 := decide_eq_true c9; clear c9
        by_cases c10 : x10_1 ≤ (l0.length : Int)
        ·rw [if_pos c10] at H; have c10b0 := eq_true c10; have c10b1 := decide_eq_true c10; clear c10; obtain ⟨y135, hy135⟩ := yy (l0.take (x10_1 : Int).toNat)
         (try rw [Option.bind_some] at H); (try dsimp only at H); rw [← hy135] at H
         have Ny135 := Aside0.mk hy135; clear hy135; obtain ⟨t139, A11, H⟩ := bi H; (try dsimp only at H)
         by_cases c12 : t134 = t139
         ·rw [if_pos c12] at H; have c12b0 := beq_iff_eq.mpr c12; have c12b1 := bne_eq_false_iff_eq.mpr c12; clear c12; simp only [Option.some.injEq, Prod.mk.injEq] at H; obtain ⟨rfl, rfl⟩ := H; (try go_wp2); replace HB := bd1 HB; have q14 : ((ji5) : Int) ≤ ((l0.length : Int) : Int) := od; obtain ⟨i014, hi014, _, hsz14, _⟩ := info_parts info35; have hroom14 : l0.length ≤ c0 := HC0.out; have hC14 : Kd.C (Kd.slice 3 (Kd.int .i64)) _ A0 l0.length l0 := HR0.out; have hcut14 := cut_to (P := Try.prog) 22 35 .i64 Try.underlying22 hi014 A0 l0.length c0 (ji5) (od) q14 hroom14; have hr14 := Kd.C_take (m := ((ji5) : Int).toNat) hC14 (by omega); have hy14 : y130.length = ((ji5) : Int).toNat := (by rw [Ny130.out, List.length_take]; omega); rw [← Ny130.out] at hr14; rw [← hy14] at hcut14; have HR133 := Aside0.mk hr14; have HC133 := Aside0.mk (show y130.length ≤ c0 from by omega); clear hr14 hC14 hroom14 hi014 hsz14; have KY14 := Aside0.mk hy14; clear hy14; replace q14 := eq_true q14; have q15 : (x10_1 : Int) ≤ ((l0.length : Int) : Int) := od; obtain ⟨i015, hi015, _, hsz15, _⟩ := info_parts info35; have hroom15 : l0.length ≤ c0 := HC0.out; have hC15 : Kd.C (Kd.slice 3 (Kd.int .i64)) _ A0 l0.length l0 := HR0.out; have hcut15 := cut_to (P := Try.prog) 22 35 .i64 Try.underlying22 hi015 A0 l0.length c0 x10_1 (od) q15 hroom15; have hr15 := Kd.C_take (m := (x10_1 : Int).toNat) hC15 (by omega); have hy15 : y135.length = (x10_1 : Int).toNat := (by rw [Ny135.out, List.length_take]; omega); rw [← Ny135.out] at hr15; rw [← hy15] at hcut15; have HR138 := Aside0.mk hr15; have HC138 := Aside0.mk (show y135.length ≤ c0 from by omega); clear hr15 hC15 hroom15 hi015 hsz15; have KY15 := Aside0.mk hy15; clear hy15; replace q15 := eq_true q15; refine start_ (n := 10) (S := fun w' => True) (ds := []) #[false, false, false, false, false, false, false, false, false, false] (by kernel_rfl) rfl rfl trivial (fun hHeld => ?_); refine with_tabW spec_DependentRow.tab6 spec_DependentRow.bits6 (fun HT_ HW_ => ?_); generalize wr.drew = w13 at HB HR133 HR138 hHeld ⊢; refine pu 0 13 HT_.out ?_; refine pu 1 14 HT_.out ?_; refine pu 2 15 HT_.out ?_; refine pu 3 16 HT_.out ?_; refine pu 5 18 HT_.out ?_; refine pu 6 19 HT_.out ?_; refine pu 7 20 HT_.out ?_; refine one_ (i := 4) (N := some 17) #[true, true, true, true, true, true, true, true, false, false] rfl rfl (one_of HT_.out (by kernel_rfl)) (by decide) (fun K hK => ?_); refine goes_ Try.func45 (by kernel_rfl) rfl #[.slice A0 y130.length c0] (by rfl) rfl rfl mp ?_; (with_reducible refine (spec_taRank.calls k1 _ _ y130 t134 _ ?side1 ?side2 A8.out).mono ?_); (case side1 => exact cw (Kd.C_below HR133.out HB.out)); (case side2 => exact HC133.out); rintro e w16 ⟨rfl, hb⟩; refine ⟨_, rfl, ?_⟩; replace HB := bst HB hb; (try clear hb); (try clear hb2); (try clear hk); (try clear hi); refine hK.out _ _ trivial (fun hHeld => ?_); clear hK K; refine norm_ (a' := ?_) ?_ ?_
          rotate_left
          ·show Act.put _ (some 17) _ = _; simp only [Act.put, List.setIfInBounds_toArray, List.set_cons_zero, List.set_cons_succ, i64_w, i32_w]; rfl
          refine one_ (i := 8) (N := some 21) #[true, true, true, true, true, true, true, true, true, false] rfl rfl (one_of HT_.out (by kernel_rfl)) (by decide) (fun K hK => ?_); refine goes_ Try.func45 (by kernel_rfl) rfl #[.slice A0 y135.length c0] (by rfl) rfl rfl mp ?_; (with_reducible refine (spec_taRank.calls k1 _ _ y135 t139 _ ?side1 ?side2 A11.out).mono ?_); (case side1 => exact cw (Kd.C_below HR138.out HB.out)); (case side2 => exact HC138.out); rintro e w17 ⟨rfl, hb⟩; refine ⟨_, rfl, ?_⟩; replace HB := bst HB hb; (try clear hb); (try clear hb2); (try clear hk); (try clear hi); refine hK.out _ _ trivial (fun hHeld => ?_); clear hK K; refine norm_ (a' := ?_) ?_ ?_
          rotate_left
          ·show Act.put _ (some 21) _ = _; simp only [Act.put, List.setIfInBounds_toArray, List.set_cons_zero, List.set_cons_succ, i64_w, i32_w]; rfl
          refine pu 9 22 HT_.out ?_; refine done_ (done_of HT_.out (by kernel_rfl)) ?_; (try go_wp2); go_ret2; exact ⟨by first | rfl | (simp [errW_none, errW_some] <;> rfl) | (simp only [← hji5]; first | rfl | (simp [errW_none, errW_some] <;> rfl)) | (simp [*, errW_none, errW_some] <;> rfl), bl HB.out⟩
         rw [if_neg c12] at H; have c12b0 := beq_eq_false_iff_ne.mpr c12; have c12b1 := bne_iff_ne.mpr c12; have H' := Aside0.mk H; clear H; (try go_wp2); replace HB := bd1 HB; have q19 : ((ji5) : Int) ≤ ((l0.length : Int) : Int) := od; obtain ⟨i019, hi019, _, hsz19, _⟩ := info_parts info35; have hroom19 : l0.length ≤ c0 := HC0.out; have hC19 : Kd.C (Kd.slice 3 (Kd.int .i64)) _ A0 l0.length l0 := HR0.out; have hcut19 := cut_to (P := Try.prog) 22 35 .i64 Try.underlying22 hi019 A0 l0.length c0 (ji5) (od) q19 hroom19; have hr19 := Kd.C_take (m := ((ji5) : Int).toNat) hC19 (by omega); have hy19 : y130.length = ((ji5) : Int).toNat := (by rw [Ny130.out, List.length_take]; omega); rw [← Ny130.out] at hr19; rw [← hy19] at hcut19; have HR133 := Aside0.mk hr19; have HC133 := Aside0.mk (show y130.length ≤ c0 from by omega); clear hr19 hC19 hroom19 hi019 hsz19; have KY19 := Aside0.mk hy19; clear hy19; replace q19 := eq_true q19; have q20 : (x10_1 : Int) ≤ ((l0.length : Int) : Int) := od; obtain ⟨i020, hi020, _, hsz20, _⟩ := info_parts info35; have hroom20 : l0.length ≤ c0 := HC0.out; have hC20 : Kd.C (Kd.slice 3 (Kd.int .i64)) _ A0 l0.length l0 := HR0.out; have hcut20 := cut_to (P := Try.prog) 22 35 .i64 Try.underlying22 hi020 A0 l0.length c0 x10_1 (od) q20 hroom20; have hr20 := Kd.C_take (m := (x10_1 : Int).toNat) hC20 (by omega); have hy20 : y135.length = (x10_1 : Int).toNat := (by rw [Ny135.out, List.length_take]; omega); rw [← Ny135.out] at hr20; rw [← hy20] at hcut20; have HR138 := Aside0.mk hr20; have HC138 := Aside0.mk (show y135.length ≤ c0 from by omega); clear hr20 hC20 hroom20 hi020 hsz20; have KY20 := Aside0.mk hy20; clear hy20; replace q20 := eq_true q20; refine start_ (n := 10) (S := fun w' => True) (ds := []) #[false, false, false, false, false, false, false, false, false, false] (by kernel_rfl) rfl rfl trivial (fun hHeld => ?_); refine with_tabW spec_DependentRow.tab6 spec_DependentRow.bits6 (fun HT_ HW_ => ?_); generalize wr.drew = w18 at HB HR133 HR138 hHeld ⊢; refine pu 0 13 HT_.out ?_; refine pu 1 14 HT_.out ?_; refine pu 2 15 HT_.out ?_; refine pu 3 16 HT_.out ?_; refine pu 5 18 HT_.out ?_; refine pu 6 19 HT_.out ?_; refine pu 7 20 HT_.out ?_; refine one_ (i := 4) (N := some 17) #[true, true, true, true, true, true, true, true, false, false] rfl rfl (one_of HT_.out (by kernel_rfl)) (by decide) (fun K hK => ?_); refine goes_ Try.func45 (by kernel_rfl) rfl #[.slice A0 y130.length c0] (by rfl) rfl rfl mp ?_; (with_reducible refine (spec_taRank.calls k1 _ _ y130 t134 _ ?side1 ?side2 A8.out).mono ?_); (case side1 => exact cw (Kd.C_below HR133.out HB.out)); (case side2 => exact HC133.out); rintro e w21 ⟨rfl, hb⟩; refine ⟨_, rfl, ?_⟩; replace HB := bst HB hb; (try clear hb); (try clear hb2); (try clear hk); (try clear hi); refine hK.out _ _ trivial (fun hHeld => ?_); clear hK K; refine norm_ (a' := ?_) ?_ ?_
         rotate_left
         ·show Act.put _ (some 17) _ = _; simp only [Act.put, List.setIfInBounds_toArray, List.set_cons_zero, List.set_cons_succ, i64_w, i32_w]; rfl
         refine one_ (i := 8) (N := some 21) #[true, true, true, true, true, true, true, true, true, false] rfl rfl (one_of HT_.out (by kernel_rfl)) (by decide) (fun K hK => ?_); refine goes_ Try.func45 (by kernel_rfl) rfl #[.slice A0 y135.length c0] (by rfl) rfl rfl mp ?_; (with_reducible refine (spec_taRank.calls k1 _ _ y135 t139 _ ?side1 ?side2 A11.out).mono ?_); (case side1 => exact cw (Kd.C_below HR138.out HB.out)); (case side2 => exact HC138.out); rintro e w22 ⟨rfl, hb⟩; refine ⟨_, rfl, ?_⟩; replace HB := bst HB hb; (try clear hb); (try clear hb2); (try clear hk); (try clear hi); refine hK.out _ _ trivial (fun hHeld => ?_); clear hK K; refine norm_ (a' := ?_) ?_ ?_
         rotate_left
         ·show Act.put _ (some 21) _ = _; simp only [Act.put, List.setIfInBounds_toArray, List.set_cons_zero, List.set_cons_succ, i64_w, i32_w]; rfl
         refine pu 9 22 HT_.out ?_; refine done_ (done_of HT_.out (by kernel_rfl)) ?_; try go_wp2
         first | go_roundg k1 | (simp only [← hji5]; go_roundg k1)
         case measure => have := HK1.out; omega
         case rel => exact ⟨(ji5), (by first | rfl | (simp; done) | (simp only [← hji5] <;> (first | rfl | simp)) | (simp [*]; done)), H', ⟨by have := HK1.out; omega⟩, ⟨bl HB.out⟩⟩
        rw [if_neg c10] at H; exact absurd H (by simp)
       rw [if_neg c9] at H; exact absurd H (by simp)
      rw [if_neg c7] at H; exact absurd H (by simp)
     rw [if_neg c6] at H; exact absurd H (by simp)
    rw [if_neg c4] at H; have c4b0 := decide_eq_false c4; clear c4; simp only [Option.some.injEq, Prod.mk.injEq] at H; obtain ⟨rfl, rfl⟩ := H; go_wp2; go_ret2; exact ⟨sr, bl HB.out⟩
 replace c3 := Bool.eq_false_iff.mpr c3; subst c3; rw [if_neg (show ¬ (false = true) by decide)] at H; simp only [Option.some.injEq, Prod.mk.injEq] at H; obtain ⟨rfl, rfl⟩ := H; go_enter Try.func13, Try.ntmps13; go_wp2_with (first | ((with_reducible refine gate_callee (f := 44) rfl ?_); refine goesL_ (some 6) rfl rfl Try.func44 (by kernel_rfl) rfl #[.slice A0 l0.length c0] rfl mp ?_; (with_reducible refine (spec_taRows.calls k _ _ l0 false _ ?side1 ?side2 A2.out).mono ?_); (case side1 => exact cw HR0.out); (case side2 => exact HC0.out); rintro e w' ⟨rfl, ⟨nd, rfl⟩⟩; refine ⟨_, rfl, ?_⟩)); go_ret2; exact ⟨sr, bl HB.out⟩
/-! ### impl_DependentRow: function 14 -/
def impl_DependentRow.l0 : Nat → List (List Int) → Int → Int → Option (Int × Bool)
 | 0, _, _, _ => none
 | k + 1, x0, x9, x10 => if x10 < x9 then (if 0 ≤ (wrap64 (x10 + 1)) then (if (wrap64 (x10 + 1)) ≤ (x0.length : Int) then ((impl_rank.f k (x0.take ((wrap64 (x10 + 1)) : Int).toNat)).bind fun t145 => (if t145 = x10 then (some (x10, true)) else (impl_DependentRow.l0 k x0 x9 (wrap64 (x10 + 1))))) else (none)) else (none)) else (some (0, false))
def impl_DependentRow.f (k : Nat) (l0 : List (List Int)) : Option (Int × Bool) := (impl_areRows.f l0).bind fun t140 => (if t140 = true then (impl_DependentRow.l0 k l0 (l0.length : Int) 0) else (some (0, false)))
theorem impl_DependentRow.calls (k : Nat) (A0 : Option Addr) (c0 : Nat) (l0 : List (List Int)) (r1 : Int) (r2 : Bool) (w : World) (hr0 : Kd.C (Kd.slice 3 (Kd.int .i64)) w A0 l0.length l0) (hc0 : l0.length ≤ c0) (h : impl_DependentRow.f k l0 = some (r1, r2)) :
  Calls Try.prog 14 #[.slice A0 l0.length c0] w fun e w' => e = .returned (.tuple #[.int .i64 r1, .bool r2]) ∧ Below w.heap.size w w' := by
 have HR0 := Aside0.mk hr0; have HC0 := Aside0.mk hc0; clear hr0 hc0; have HB := Aside0.mk (Below.refl w.heap.size w); have H : ((impl_areRows.f l0).bind fun t140 => (if t140 = true then (impl_DependentRow.l0 k l0 (l0.length : Int) 0) else (some (0, false)))) = some (r1, r2) := h; clear h; obtain ⟨t140, A2, H⟩ := bi H; (try dsimp only at H)
 by_cases c3 : t140 = true
 ·subst c3; rw [if_pos rfl] at H; have H' := Aside0.mk H; clear H; go_enter Try.func14, Try.ntmps14; go_wp2_with (first | (go_at_call 47; (with_reducible refine (impl_areRows.calls _ _ l0 true _ ?side1 HC0.out A2.out).mono ?_); (case side1 => exact cw HR0.out); rintro e w4 ⟨rfl, hb⟩; replace HB := bst HB hb))
  go_loopg [10] k (fun kq v10 w' => ∃ (x10_1 : Int), v10 = .int .i64 x10_1 ∧ Aside0 (impl_DependentRow.l0 kq l0 (l0.length : Int) x10_1 = some (r1, r2)) ∧ Aside0 (kq ≤ k) ∧ Aside0 (Below w.heap.size w w'))
  case atStart => exact ⟨(0), (sr2), H', ⟨Nat.le_refl _⟩, ⟨bl HB.out⟩⟩
  case round =>
   clear H'; obtain ⟨x10_1, rfl, HA, HK1, HB⟩ := hrel
   cases gk with
   | zero => exact absurd HA.out (by simp [impl_DependentRow.l0])
   | succ k1 =>
    have H := HA.out; clear HA; simp only [impl_DependentRow.l0] at H
    by_cases c5 : x10_1 < (l0.length : Int)
    ·rw [if_pos c5] at H; have c5b0 := decide_eq_true c5; clear c5; obtain ⟨ji6, hji6⟩ : ∃ j_ : Int, (wrap64 (x10_1 + 1)) = j_ := ⟨_, rfl⟩; (replace H : (if 0 ≤ (ji6) then (if (ji6) ≤ (l0.length : Int) then ((impl_rank.f k1 (l0.take ((ji6) : Int).toNat)).bind fun t145 => (if t145 = x10_1 then (some (x10_1, true)) else (impl_DependentRow.l0 k1 l0 (l0.length : Int) ji6))) else (none)) else (none)) = some (r1, r2) := by first | (rw [hji6] at H; exact H) | (simp only [hji6] at H ⊢; exact H)); have hji6w : (IntKind.i64.wrap (x10_1 + 1)) = ji6 := (i64_w _).trans hji6
     by_cases c7 : 0 ≤ (ji6)
     ·rw [if_pos c7] at H; have c7b0 := eq_true c7; have c7b1 := decide_eq_true c7; clear c7
      by_cases c8 : (ji6) ≤ (l0.length : Int)
      ·rw [if_pos c8] at H; have c8b0 := eq_true c8; have c8b1 := decide_eq_true c8; clear c8; obtain ⟨y141, hy141⟩ := yy (l0.take ((ji6) : Int).toNat)
       (try rw [Option.bind_some] at H); (try dsimp only at H); rw [← hy141] at H
       have Ny141 := Aside0.mk hy141; clear hy141; obtain ⟨t145, A9, H⟩ := bi H; (try dsimp only at H)
       by_cases c10 : t145 = x10_1
       ·rw [if_pos c10] at H; have c10b0 := beq_iff_eq.mpr c10; have c10b1 := bne_eq_false_iff_eq.mpr c10; clear c10; simp only [Option.some.injEq, Prod.mk.injEq] at H; obtain ⟨rfl, rfl⟩ := H; have q11 : ((ji6) : Int) ≤ ((l0.length : Int) : Int) := od; obtain ⟨i011, hi011, _, hsz11, _⟩ := info_parts info35; have hroom11 : l0.length ≤ c0 := HC0.out; have hC11 : Kd.C (Kd.slice 3 (Kd.int .i64)) _ A0 l0.length l0 := HR0.out; have hcut11 := cut_to (P := Try.prog) 22 35 .i64 Try.underlying22 hi011 A0 l0.length c0 (ji6) (od) q11 hroom11; have hr11 := Kd.C_take (m := ((ji6) : Int).toNat) hC11 (by omega); have hy11 : y141.length = ((ji6) : Int).toNat := (by rw [Ny141.out, List.length_take]; omega); rw [← Ny141.out] at hr11; rw [← hy11] at hcut11; have HR144 := Aside0.mk hr11; have HC144 := Aside0.mk (show y141.length ≤ c0 from by omega); clear hr11 hC11 hroom11 hi011 hsz11; have KY11 := Aside0.mk hy11; clear hy11; replace q11 := eq_true q11; go_wp2_with (first | (go_at_call 48; (with_reducible refine (impl_rank.calls k1 _ _ y141 t145 _ ?side1 HC144.out A9.out).mono ?_); (case side1 => exact cw (Kd.C_below HR144.out HB.out)); rintro e w12 ⟨rfl, hb⟩; replace HB := bst HB hb)); go_ret2; exact ⟨by first | rfl | (simp [errW_none, errW_some] <;> rfl) | (simp only [← hji6]; first | rfl | (simp [errW_none, errW_some] <;> rfl)) | (simp [*, errW_none, errW_some] <;> rfl), bl HB.out⟩
       rw [if_neg c10] at H; have c10b0 := beq_eq_false_iff_ne.mpr c10; have c10b1 := bne_iff_ne.mpr c10; have H' := Aside0.mk H; clear H; have q13 : ((ji6) : Int) ≤ ((l0.length : Int) : Int) := od; obtain ⟨i013, hi013, _, hsz13, _⟩ := info_parts info35; have hroom13 : l0.length ≤ c0 := HC0.out; have hC13 : Kd.C (Kd.slice 3 (Kd.int .i64)) _ A0 l0.length l0 := HR0.out; have hcut13 := cut_to (P := Try.prog) 22 35 .i64 Try.underlying22 hi013 A0 l0.length c0 (ji6) (od) q13 hroom13; have hr13 := Kd.C_take (m := ((ji6) : Int).toNat) hC13 (by omega); have hy13 : y141.length = ((ji6) : Int).toNat := (by rw [Ny141.out, List.length_take]; omega); rw [← Ny141.out] at hr13; rw [← hy13] at hcut13; have HR144 := Aside0.mk hr13; have HC144 := Aside0.mk (show y141.length ≤ c0 from by omega); clear hr13 hC13 hroom13 hi013 hsz13; have KY13 := Aside0.mk hy13; clear hy13; replace q13 := eq_true q13; go_wp2_with (first | (go_at_call 48; (with_reducible refine (impl_rank.calls k1 _ _ y141 t145 _ ?side1 HC144.out A9.out).mono ?_); (case side1 => exact cw (Kd.C_below HR144.out HB.out)); rintro e w14 ⟨rfl, hb⟩; replace HB := bst HB hb))
       first | go_roundg k1 | (simp only [← hji6]; go_roundg k1)
       case measure => have := HK1.out; omega
       case rel => exact ⟨(ji6), (by first | rfl | (simp; done) | (simp only [← hji6] <;> (first | rfl | simp)) | (simp [*]; done)), H', ⟨by have := HK1.out; omega⟩, ⟨bl HB.out⟩⟩
      rw [if_neg c8] at H; exact absurd H (by simp)
     rw [if_neg c7] at H; exact absurd H (by simp)
    rw [if_neg c5] at H; have c5b0 := decide_eq_false c5; clear c5; simp only [Option.some.injEq, Prod.mk.injEq] at H; obtain ⟨rfl, rfl⟩ := H; go_wp2; go_ret2; exact ⟨sr, bl HB.out⟩
 replace c3 := Bool.eq_false_iff.mpr c3; subst c3; rw [if_neg (show ¬ (false = true) by decide)] at H; simp only [Option.some.injEq, Prod.mk.injEq] at H; obtain ⟨rfl, rfl⟩ := H; go_enter Try.func14, Try.ntmps14; go_wp2_with (first | (go_at_call 47; (with_reducible refine (impl_areRows.calls _ _ l0 false _ ?side1 HC0.out A2.out).mono ?_); (case side1 => exact cw HR0.out); rintro e w15 ⟨rfl, hb⟩; replace HB := bst HB hb)); go_ret2; exact ⟨sr, bl HB.out⟩
/-! ### spec_taSmall: function 52 -/
def spec_taSmall.f (k : Nat) (l0 : List Int) : Option (Int × Bool) := (spec_taPrimes.f).bind fun t146 => (if 1 < (l0.length : Int) then (if 0 < (l0.length : Int) then (if 1 < (t146.length : Int) then (if (rd t146 1) = 0 then (none) else (if 0 < (t146.length : Int) then ((spec_taInverse.f k (Int.tmod (rd t146 0) (rd t146 1)) (rd t146 1)).bind fun t157 => (if 2 < (t146.length : Int) then (if (rd t146 2) = 0 then (none) else (if 2 < (l0.length : Int) then (some (wrap64 ((rd l0 0) + (wrap64 ((rd t146 0) * (Int.tmod (wrap64 ((Int.tmod (wrap64 ((Int.tmod (wrap64 ((rd l0 1) - (rd l0 0))) (rd t146 1)) + (rd t146 1))) (rd t146 1)) * t157)) (rd t146 1))))), ((Int.tmod (wrap64 ((rd l0 0) + (wrap64 ((rd t146 0) * (Int.tmod (wrap64 ((Int.tmod (wrap64 ((Int.tmod (wrap64 ((rd l0 1) - (rd l0 0))) (rd t146 1)) + (rd t146 1))) (rd t146 1)) * t157)) (rd t146 1)))))) (rd t146 2)) == (rd l0 2)))) else (none))) else (none))) else (none))) else (none)) else (none)) else (none))
def spec_taSmall.T2 : Bool × List (List Nat × List Nat) := (true, [([], []), ([0], [0]), ([1], [1]), ([], []), ([3], [3]), ([4], [4]), ([2, 5], [2, 5]), ([], []), ([7], [7]), ([8], [8]), ([6, 9], [6, 9]), ([], []), ([11], [11]), ([12], [12]), ([10, 13], [10, 13]), ([], []), ([15], [15]), ([16], [16]), ([14, 17], [14, 17]), ([], []), ([19], [19]), ([20], [20]), ([], []), ([22], [22]), ([23], [23]), ([21, 24], [21, 24]), ([], []), ([26], [26]), ([27], [27]), ([25, 28], [25, 28]), ([18, 29], [18, 29]), ([], []), ([31], [31]), ([32], [32]), ([30, 33], [30, 33]), ([34, 29, 0, 1, 2, 3, 4, 5, 6, 7, 8, 9, 10, 11, 12, 13, 14, 15, 16, 17, 18, 19, 20, 21, 22, 23, 24, 25, 26, 27, 28, 29, 30, 31, 32, 33, 34], [34])])
def spec_taSmall.B2 : List Nat := [0, 1, 3, 0, 8, 24, 63, 0, 128, 384, 1023, 0, 2048, 6144, 16383, 0, 32768, 98304, 262143, 0, 524288, 1572864, 0, 4194304, 12582912, 33030144, 0, 67108864, 201326592, 536346624, 1073741823, 0, 2147483648, 6442450944, 17179869183, 34359738367]
theorem spec_taSmall.tab2 : rtab .any (opsOf Try.f52 2) = spec_taSmall.T2 := by kernel_rfl
theorem spec_taSmall.bits2 : waitsOk spec_taSmall.T2.2 spec_taSmall.B2 = true := by kernel_rfl
def spec_taSmall.T3 : Bool × List (List Nat × List Nat) := (true, [([], []), ([0], [0]), ([1], [1]), ([], []), ([3], [3]), ([4], [4]), ([], []), ([5, 6], [5, 6]), ([2, 7], [2, 7]), ([8, 0, 1, 2, 3, 4, 5, 6, 7, 8], [8])])
def spec_taSmall.B3 : List Nat := [0, 1, 3, 0, 8, 24, 0, 120, 255, 511]
theorem spec_taSmall.tab3 : rtab .any (opsOf Try.f52 3) = spec_taSmall.T3 := by kernel_rfl
theorem spec_taSmall.bits3 : waitsOk spec_taSmall.T3.2 spec_taSmall.B3 = true := by kernel_rfl
def spec_taSmall.T4 : Bool × List (List Nat × List Nat) := (true, [([], []), ([], []), ([], []), ([2], [2]), ([3], [3]), ([1, 4], [1, 4]), ([], []), ([6], [6]), ([7], [7]), ([5, 8], [5, 8]), ([0, 0], [0]), ([9, 10, 0, 1, 2, 3, 4, 5, 6, 7, 8, 9, 10], [9])])
def spec_taSmall.B4 : List Nat := [0, 0, 0, 4, 12, 30, 0, 64, 192, 510, 1, 2047]
theorem spec_taSmall.tab4 : rtab .any (opsOf Try.f52 4) = spec_taSmall.T4 := by kernel_rfl
theorem spec_taSmall.bits4 : waitsOk spec_taSmall.T4.2 spec_taSmall.B4 = true := by kernel_rfl
theorem spec_taSmall.calls (k : Nat) (A0 : Option Addr) (c0 : Nat) (l0 : List Int) (r1 : Int) (r2 : Bool) (w : World) (hr0 : Kd.C (Kd.int .i64) w A0 l0.length l0) (hc0 : l0.length ≤ c0) (h : spec_taSmall.f k l0 = some (r1, r2)) :
  Calls Try.prog 52 #[.slice A0 l0.length c0] w fun e w' => e = .returned (.tuple #[.int .i64 r1, .bool r2]) ∧ Below w.heap.size w w' := by
 have HR0 := Aside0.mk hr0; have HC0 := Aside0.mk hc0; clear hr0 hc0; have HB := Aside0.mk (Below.refl w.heap.size w); have H : ((spec_taPrimes.f).bind fun t146 => (if 1 < (l0.length : Int) then (if 0 < (l0.length : Int) then (if 1 < (t146.length : Int) then (if (rd t146 1) = 0 then (none) else (if 0 < (t146.length : Int) then ((spec_taInverse.f k (Int.tmod (rd t146 0) (rd t146 1)) (rd t146 1)).bind fun t157 => (if 2 < (t146.length : Int) then (if (rd t146 2) = 0 then (none) else (if 2 < (l0.length : Int) then (some (wrap64 ((rd l0 0) + (wrap64 ((rd t146 0) * (Int.tmod (wrap64 ((Int.tmod (wrap64 ((Int.tmod (wrap64 ((rd l0 1) - (rd l0 0))) (rd t146 1)) + (rd t146 1))) (rd t146 1)) * t157)) (rd t146 1))))), ((Int.tmod (wrap64 ((rd l0 0) + (wrap64 ((rd t146 0) * (Int.tmod (wrap64 ((Int.tmod (wrap64 ((Int.tmod (wrap64 ((rd l0 1) - (rd l0 0))) (rd t146 1)) + (rd t146 1))) (rd t146 1)) * t157)) (rd t146 1)))))) (rd t146 2)) == (rd l0 2)))) else (none))) else (none))) else (none))) else (none)) else (none)) else (none))) = some (r1, r2) := h; clear h; obtain ⟨t146, A2, H⟩ := bi H; (try dsimp only at H)
 by_cases c3 : 1 < (l0.length : Int)
 ·rw [if_pos c3] at H; have c3b0 := decide_eq_true c3; have c3b1 : decide (1 < l0.length) = true := decide_eq_true (by omega); clear c3
  by_cases c4 : 0 < (l0.length : Int)
  ·rw [if_pos c4] at H; have c4b0 := decide_eq_true c4; have c4b1 : decide (0 < l0.length) = true := decide_eq_true (by omega); clear c4
   by_cases c5 : 1 < (t146.length : Int)
   ·rw [if_pos c5] at H; have c5b0 := decide_eq_true c5; have c5b1 : decide (1 < t146.length) = true := decide_eq_true (by omega); clear c5
    by_cases c6 : (rd t146 1) = 0
    ·rw [if_pos c6] at H; exact absurd H (by simp)
    rw [if_neg c6] at H; have c6b0 := beq_eq_false_iff_ne.mpr c6; have c6b1 := bne_iff_ne.mpr c6
    by_cases c7 : 0 < (t146.length : Int)
    ·rw [if_pos c7] at H; have c7b0 := decide_eq_true c7; have c7b1 : decide (0 < t146.length) = true := decide_eq_true (by omega); clear c7; obtain ⟨t157, A8, H⟩ := bi H; (try dsimp only at H)
     by_cases c9 : 2 < (t146.length : Int)
     ·rw [if_pos c9] at H; have c9b0 := decide_eq_true c9; have c9b1 : decide (2 < t146.length) = true := decide_eq_true (by omega); clear c9
      by_cases c10 : (rd t146 2) = 0
      ·rw [if_pos c10] at H; exact absurd H (by simp)
      rw [if_neg c10] at H; have c10b0 := beq_eq_false_iff_ne.mpr c10; have c10b1 := bne_iff_ne.mpr c10
      by_cases c11 : 2 < (l0.length : Int)
      ·rw [if_pos c11] at H
       have c11b0 : decide (2 < (l0.length : Int)) = true := decide_eq_true c11
       have c11b1 : decide (2 < l0.length) = true := decide_eq_true (by omega)
       clear c11
       simp only [Option.some.injEq, Prod.mk.injEq] at H
       obtain ⟨rfl, rfl⟩ := H
       go_enter Try.func52, Try.ntmps52
       try go_wp2_with (first | ((with_reducible refine gate_callee (f := 50) rfl ?_); refine goesL_ (some 7) rfl rfl Try.func50 (by kernel_rfl) rfl #[] rfl (by (try simp only [List.map_toArray, List.map_cons, List.map_nil]); first | done | rfl | (simp only [List.length_drop, List.length_take]; rfl)) ?_; (with_reducible refine (spec_taPrimes.calls  t146 _ A2.out).mono ?_); rintro e w12 ⟨v147, rfl, ho0, hb⟩; refine ⟨_, rfl, ?_⟩; have n0_ := Aside0.mk (Kd.R_lower ho0 (below_size (bl HB.out))); have n1_ := Aside0.mk (below_step (bl HB.out) hb); clear HB; have HO148 := n0_; have HB := n1_; clear n0_ n1_))
       have n0_ := Aside0.mk (Kd.R_drew HO148.out)
       have n1_ := Aside0.mk (below_drew1 HB.out)
       clear HO148
       clear HB
       have HO148 := n0_
       have HB := n1_
       clear n0_ n1_
       have p149 : 0 ≤ (1 : Int) := (by omega)
       have q149 : 1 < (l0.length : Int) := od
       obtain ⟨ad149, e149, hx149_0⟩ := Kd.at_int HR0.out 1 p149 q149
       have hw149_0 := hx149_0
       (try rw [show ((1 : Int)).toNat = 1 from rfl] at hw149_0)
       (try rw [show 1 * 1 = 1 from rfl] at hw149_0)
       (try simp only [Nat.reduceMul, Nat.reduceEqDiff, Go.Addr.add, ↓reduceIte] at hw149_0)
       cases e149
       (try simp only [show (1 : Int).toNat = 1 from rfl, Nat.reduceMul, Nat.reduceEqDiff, Go.Addr.add, ↓reduceIte] at hx149_0)
       have qi149 : (1 < l0.length) = True := eq_true (by omega)
       (try rw [show ((1 : Int)).toNat = 1 from rfl] at hx149_0)
       replace hx149_0 := hbx HB hx149_0
       replace p149 := eq_true p149
       replace q149 := eq_true q149
       have p150 : 0 ≤ (0 : Int) := (by omega)
       have q150 : 0 < (l0.length : Int) := od
       obtain ⟨ad150, e150, hx150_0⟩ := Kd.at_int HR0.out 0 p150 q150
       have hw150_0 := hx150_0
       (try rw [show ((0 : Int)).toNat = 0 from rfl] at hw150_0)
       (try rw [show 0 * 1 = 0 from rfl] at hw150_0)
       (try rw [Addr.add_zero'] at hw150_0)
       obtain rfl : ad149 = ad150 := (by injection e150)
       have qi150 : (0 < l0.length) = True := eq_true (by omega)
       (try rw [show ((0 : Int)).toNat = 0 from rfl] at hx150_0)
       (try rw [Addr.add_zero'] at hx150_0)
       replace hx150_0 := hbx HB hx150_0
       replace p150 := eq_true p150
       replace q150 := eq_true q150
       obtain ⟨Ao14, co14, eo14⟩ := Kd.R_slice HO148.out
       (first | subst eo14 | (injection eo14 with f1_ f2_ f3_; have f4_ := f1_.symm; have f5_ := f3_.symm; clear f1_ f2_ f3_; subst f4_; subst f5_))
       have p151 : 0 ≤ (1 : Int) := (by omega)
       have q151 : 1 < (t146.length : Int) := od
       obtain ⟨ad151, e151, hx151_0⟩ := Kd.at_int (Kd.R_reads' HO148.out).2.2 1 p151 q151
       cases e151
       (try simp only [show (1 : Int).toNat = 1 from rfl, Nat.reduceMul, Nat.reduceEqDiff, Go.Addr.add, ↓reduceIte] at hx151_0)
       have qi151 : (1 < t146.length) = True := eq_true (by omega)
       (try rw [show ((1 : Int)).toNat = 1 from rfl] at hx151_0)
       replace p151 := eq_true p151
       replace q151 := eq_true q151
       have p152 : 0 ≤ (1 : Int) := (by omega)
       have q152 : 1 < (t146.length : Int) := od
       obtain ⟨ad152, e152, hx152_0⟩ := Kd.at_int (Kd.R_reads' HO148.out).2.2 1 p152 q152
       obtain rfl : ad151 = ad152 := (by injection e152)
       (try simp only [show (1 : Int).toNat = 1 from rfl, Nat.reduceMul, Nat.reduceEqDiff, Go.Addr.add, ↓reduceIte] at hx152_0)
       have qi152 : (1 < t146.length) = True := eq_true (by omega)
       (try rw [show ((1 : Int)).toNat = 1 from rfl] at hx152_0)
       replace p152 := eq_true p152
       replace q152 := eq_true q152
       have p153 : 0 ≤ (1 : Int) := (by omega)
       have q153 : 1 < (t146.length : Int) := od
       obtain ⟨ad153, e153, hx153_0⟩ := Kd.at_int (Kd.R_reads' HO148.out).2.2 1 p153 q153
       obtain rfl : ad151 = ad153 := (by injection e153)
       (try simp only [show (1 : Int).toNat = 1 from rfl, Nat.reduceMul, Nat.reduceEqDiff, Go.Addr.add, ↓reduceIte] at hx153_0)
       have qi153 : (1 < t146.length) = True := eq_true (by omega)
       (try rw [show ((1 : Int)).toNat = 1 from rfl] at hx153_0)
       replace p153 := eq_true p153
       replace q153 := eq_true q153
       have p154 : 0 ≤ (0 : Int) := (by omega)
       have q154 : 0 < (t146.length : Int) := od
       obtain ⟨ad154, e154, hx154_0⟩ := Kd.at_int (Kd.R_reads' HO148.out).2.2 0 p154 q154
       obtain rfl : ad151 = ad154 := (by injection e154)
       have qi154 : (0 < t146.length) = True := eq_true (by omega)
       (try rw [show ((0 : Int)).toNat = 0 from rfl] at hx154_0)
       (try rw [Addr.add_zero'] at hx154_0)
       replace p154 := eq_true p154
       replace q154 := eq_true q154
       have p155 : 0 ≤ (1 : Int) := (by omega)
       have q155 : 1 < (t146.length : Int) := od
       obtain ⟨ad155, e155, hx155_0⟩ := Kd.at_int (Kd.R_reads' HO148.out).2.2 1 p155 q155
       obtain rfl : ad151 = ad155 := (by injection e155)
       (try simp only [show (1 : Int).toNat = 1 from rfl, Nat.reduceMul, Nat.reduceEqDiff, Go.Addr.add, ↓reduceIte] at hx155_0)
       have qi155 : (1 < t146.length) = True := eq_true (by omega)
       (try rw [show ((1 : Int)).toNat = 1 from rfl] at hx155_0)
       replace p155 := eq_true p155
       replace q155 := eq_true q155
       have p156 : 0 ≤ (1 : Int) := (by omega)
       have q156 : 1 < (t146.length : Int) := od
       obtain ⟨ad156, e156, hx156_0⟩ := Kd.at_int (Kd.R_reads' HO148.out).2.2 1 p156 q156
       obtain rfl : ad151 = ad156 := (by injection e156)
       (try simp only [show (1 : Int).toNat = 1 from rfl, Nat.reduceMul, Nat.reduceEqDiff, Go.Addr.add, ↓reduceIte] at hx156_0)
       have qi156 : (1 < t146.length) = True := eq_true (by omega)
       (try rw [show ((1 : Int)).toNat = 1 from rfl] at hx156_0)
       replace p156 := eq_true p156
       replace q156 := eq_true q156
       have p158 : 0 ≤ (1 : Int) := (by omega)
       have q158 : 1 < (t146.length : Int) := od
       obtain ⟨ad158, e158, hx158_0⟩ := Kd.at_int (Kd.R_reads' HO148.out).2.2 1 p158 q158
       obtain rfl : ad151 = ad158 := (by injection e158)
       (try simp only [show (1 : Int).toNat = 1 from rfl, Nat.reduceMul, Nat.reduceEqDiff, Go.Addr.add, ↓reduceIte] at hx158_0)
       have qi158 : (1 < t146.length) = True := eq_true (by omega)
       (try rw [show ((1 : Int)).toNat = 1 from rfl] at hx158_0)
       replace p158 := eq_true p158
       replace q158 := eq_true q158
       refine start_ (n := 36) (S := fun w' => w'.cell? ⟨ad149.block, ad149.off + 1, none⟩ = some (.int .i64 (rd l0 1)) ∧ w'.cell? ad149 = some (.int .i64 (rd l0 0)) ∧ w'.cell? ⟨ad151.block, ad151.off + 1, none⟩ = some (.int .i64 (rd t146 1)) ∧ w'.cell? ⟨ad151.block, ad151.off + 1, none⟩ = some (.int .i64 (rd t146 1)) ∧ w'.cell? ⟨ad151.block, ad151.off + 1, none⟩ = some (.int .i64 (rd t146 1)) ∧ w'.cell? ad151 = some (.int .i64 (rd t146 0)) ∧ w'.cell? ⟨ad151.block, ad151.off + 1, none⟩ = some (.int .i64 (rd t146 1)) ∧ w'.cell? ⟨ad151.block, ad151.off + 1, none⟩ = some (.int .i64 (rd t146 1)) ∧ w'.cell? ⟨ad151.block, ad151.off + 1, none⟩ = some (.int .i64 (rd t146 1))) (ds := []) #[false, false, false, false, false, false, false, false, false, false, false, false, false, false, false, false, false, false, false, false, false, false, false, false, false, false, false, false, false, false, false, false, false, false, false, false] (by kernel_rfl) rfl rfl ⟨hbx HB hw149_0, hbx HB hw150_0, hx151_0, hx152_0, hx153_0, hx154_0, hx155_0, hx156_0, hx158_0⟩ (fun hHeld => ?_); refine with_tabW spec_taSmall.tab2 spec_taSmall.bits2 (fun HT_ HW_ => ?_)
       generalize w12.drew = w13 at HO148 HB hx149_0 hx150_0 hx151_0 hx152_0 hx153_0 hx154_0 hx155_0 hx156_0 hx158_0 hHeld ⊢
       refine pure_ (i := 0) (N := some 8) (v := ?_) (a' := ?_) #[true, false, false, false, false, false, false, false, false, false, false, false, false, false, false, false, false, false, false, false, false, false, false, false, false, false, false, false, false, false, false, false, false, false, false, false] rfl rfl (any_of HT_.out (by kernel_rfl)) (fun _ _ _ h => h) (Or.inl ⟨by rfl, ?_⟩) ?_ ?_
       rotate_left
       ·intro w'
        go_simp
        with_reducible rfl
       rotate_left
       ·simp only [Act.put, List.setIfInBounds_toArray, List.set_cons_zero, List.set_cons_succ, i64_w, i32_w]
        rfl
       refine pure_ (i := 1) (N := some 9) (v := ?_) (a' := ?_) #[true, true, false, false, false, false, false, false, false, false, false, false, false, false, false, false, false, false, false, false, false, false, false, false, false, false, false, false, false, false, false, false, false, false, false, false] rfl rfl (any_of HT_.out (by kernel_rfl)) (fun _ _ _ h => h) (Or.inl ⟨by rfl, ?_⟩) ?_ ?_
       rotate_left
       ·intro w'
        go_simp
        with_reducible rfl
       rotate_left
       ·simp only [Act.put, List.setIfInBounds_toArray, List.set_cons_zero, List.set_cons_succ, i64_w, i32_w]
        rfl
       refine pure_ (i := 3) (N := some 11) (v := ?_) (a' := ?_) #[true, true, false, true, false, false, false, false, false, false, false, false, false, false, false, false, false, false, false, false, false, false, false, false, false, false, false, false, false, false, false, false, false, false, false, false] rfl rfl (any_of HT_.out (by kernel_rfl)) (fun _ _ _ h => h) (Or.inl ⟨by rfl, ?_⟩) ?_ ?_
       rotate_left
       ·intro w'
        go_simp
        with_reducible rfl
       rotate_left
       ·simp only [Act.put, List.setIfInBounds_toArray, List.set_cons_zero, List.set_cons_succ, i64_w, i32_w]
        rfl
       refine pure_ (i := 4) (N := some 12) (v := ?_) (a' := ?_) #[true, true, false, true, true, false, false, false, false, false, false, false, false, false, false, false, false, false, false, false, false, false, false, false, false, false, false, false, false, false, false, false, false, false, false, false] rfl rfl (any_of HT_.out (by kernel_rfl)) (fun _ _ _ h => h) (Or.inl ⟨by rfl, ?_⟩) ?_ ?_
       rotate_left
       ·intro w'
        go_simp
        with_reducible rfl
       rotate_left
       ·simp only [Act.put, List.setIfInBounds_toArray, List.set_cons_zero, List.set_cons_succ, i64_w, i32_w]
        rfl
       refine pure_ (i := 7) (N := some 15) (v := ?_) (a' := ?_) #[true, true, false, true, true, false, false, true, false, false, false, false, false, false, false, false, false, false, false, false, false, false, false, false, false, false, false, false, false, false, false, false, false, false, false, false] rfl rfl (any_of HT_.out (by kernel_rfl)) (fun _ _ _ h => h) (Or.inl ⟨by rfl, ?_⟩) ?_ ?_
       rotate_left
       ·intro w'; go_simp; with_reducible rfl
       rotate_left
       ·simp only [Act.put, List.setIfInBounds_toArray, List.set_cons_zero, List.set_cons_succ, i64_w, i32_w]; rfl
       refine pure_ (i := 8) (N := some 16) (v := ?_) (a' := ?_) #[true, true, false, true, true, false, false, true, true, false, false, false, false, false, false, false, false, false, false, false, false, false, false, false, false, false, false, false, false, false, false, false, false, false, false, false] rfl rfl (any_of HT_.out (by kernel_rfl)) (fun _ _ _ h => h) (Or.inl ⟨by rfl, ?_⟩) ?_ ?_
       rotate_left
       ·intro w'; go_simp; with_reducible rfl
       rotate_left
       ·simp only [Act.put, List.setIfInBounds_toArray, List.set_cons_zero, List.set_cons_succ, i64_w, i32_w]; rfl
       refine pure_ (i := 11) (N := some 19) (v := ?_) (a' := ?_) #[true, true, false, true, true, false, false, true, true, false, false, true, false, false, false, false, false, false, false, false, false, false, false, false, false, false, false, false, false, false, false, false, false, false, false, false] rfl rfl (any_of HT_.out (by kernel_rfl)) (fun _ _ _ h => h) (Or.inl ⟨by rfl, ?_⟩) ?_ ?_
       rotate_left
       ·intro w'; go_simp; with_reducible rfl
       rotate_left
       ·simp only [Act.put, List.setIfInBounds_toArray, List.set_cons_zero, List.set_cons_succ, i64_w, i32_w]; rfl
       refine pure_ (i := 12) (N := some 20) (v := ?_) (a' := ?_) #[true, true, false, true, true, false, false, true, true, false, false, true, true, false, false, false, false, false, false, false, false, false, false, false, false, false, false, false, false, false, false, false, false, false, false, false] rfl rfl (any_of HT_.out (by kernel_rfl)) (fun _ _ _ h => h) (Or.inl ⟨by rfl, ?_⟩) ?_ ?_
       rotate_left
       ·intro w'; go_simp; with_reducible rfl
       rotate_left
       ·simp only [Act.put, List.setIfInBounds_toArray, List.set_cons_zero, List.set_cons_succ, i64_w, i32_w]; rfl
       refine pure_ (i := 15) (N := some 23) (v := ?_) (a' := ?_) #[true, true, false, true, true, false, false, true, true, false, false, true, true, false, false, true, false, false, false, false, false, false, false, false, false, false, false, false, false, false, false, false, false, false, false, false] rfl rfl (any_of HT_.out (by kernel_rfl)) (fun _ _ _ h => h) (Or.inl ⟨by rfl, ?_⟩) ?_ ?_
       rotate_left
       ·intro w'; go_simp; with_reducible rfl
       rotate_left
       ·simp only [Act.put, List.setIfInBounds_toArray, List.set_cons_zero, List.set_cons_succ, i64_w, i32_w]; rfl
       refine pure_ (i := 16) (N := some 24) (v := ?_) (a' := ?_) #[true, true, false, true, true, false, false, true, true, false, false, true, true, false, false, true, true, false, false, false, false, false, false, false, false, false, false, false, false, false, false, false, false, false, false, false] rfl rfl (any_of HT_.out (by kernel_rfl)) (fun _ _ _ h => h) (Or.inl ⟨by rfl, ?_⟩) ?_ ?_
       rotate_left
       ·intro w'; go_simp; with_reducible rfl
       rotate_left
       ·simp only [Act.put, List.setIfInBounds_toArray, List.set_cons_zero, List.set_cons_succ, i64_w, i32_w]; rfl
       refine pure_ (i := 19) (N := some 27) (v := ?_) (a' := ?_) #[true, true, false, true, true, false, false, true, true, false, false, true, true, false, false, true, true, false, false, true, false, false, false, false, false, false, false, false, false, false, false, false, false, false, false, false] rfl rfl (any_of HT_.out (by kernel_rfl)) (fun _ _ _ h => h) (Or.inl ⟨by rfl, ?_⟩) ?_ ?_
       rotate_left
       ·intro w'; go_simp; with_reducible rfl
       rotate_left
       ·simp only [Act.put, List.setIfInBounds_toArray, List.set_cons_zero, List.set_cons_succ, i64_w, i32_w]; rfl
       refine pure_ (i := 20) (N := some 28) (v := ?_) (a' := ?_) #[true, true, false, true, true, false, false, true, true, false, false, true, true, false, false, true, true, false, false, true, true, false, false, false, false, false, false, false, false, false, false, false, false, false, false, false] rfl rfl (any_of HT_.out (by kernel_rfl)) (fun _ _ _ h => h) (Or.inl ⟨by rfl, ?_⟩) ?_ ?_
       rotate_left
       ·intro w'; go_simp; with_reducible rfl
       rotate_left
       ·simp only [Act.put, List.setIfInBounds_toArray, List.set_cons_zero, List.set_cons_succ, i64_w, i32_w]; rfl
       refine pure_ (i := 22) (N := some 30) (v := ?_) (a' := ?_) #[true, true, false, true, true, false, false, true, true, false, false, true, true, false, false, true, true, false, false, true, true, false, true, false, false, false, false, false, false, false, false, false, false, false, false, false] rfl rfl (any_of HT_.out (by kernel_rfl)) (fun _ _ _ h => h) (Or.inl ⟨by rfl, ?_⟩) ?_ ?_
       rotate_left
       ·intro w'; go_simp; with_reducible rfl
       rotate_left
       ·simp only [Act.put, List.setIfInBounds_toArray, List.set_cons_zero, List.set_cons_succ, i64_w, i32_w]; rfl
       refine pure_ (i := 23) (N := some 31) (v := ?_) (a' := ?_) #[true, true, false, true, true, false, false, true, true, false, false, true, true, false, false, true, true, false, false, true, true, false, true, true, false, false, false, false, false, false, false, false, false, false, false, false] rfl rfl (any_of HT_.out (by kernel_rfl)) (fun _ _ _ h => h) (Or.inl ⟨by rfl, ?_⟩) ?_ ?_
       rotate_left
       ·intro w'; go_simp; with_reducible rfl
       rotate_left
       ·simp only [Act.put, List.setIfInBounds_toArray, List.set_cons_zero, List.set_cons_succ, i64_w, i32_w]; rfl
       refine pure_ (i := 26) (N := some 34) (v := ?_) (a' := ?_) #[true, true, false, true, true, false, false, true, true, false, false, true, true, false, false, true, true, false, false, true, true, false, true, true, false, false, true, false, false, false, false, false, false, false, false, false] rfl rfl (any_of HT_.out (by kernel_rfl)) (fun _ _ _ h => h) (Or.inl ⟨by rfl, ?_⟩) ?_ ?_
       rotate_left
       ·intro w'; go_simp; with_reducible rfl
       rotate_left
       ·simp only [Act.put, List.setIfInBounds_toArray, List.set_cons_zero, List.set_cons_succ, i64_w, i32_w]; rfl
       refine pure_ (i := 27) (N := some 35) (v := ?_) (a' := ?_) #[true, true, false, true, true, false, false, true, true, false, false, true, true, false, false, true, true, false, false, true, true, false, true, true, false, false, true, true, false, false, false, false, false, false, false, false] rfl rfl (any_of HT_.out (by kernel_rfl)) (fun _ _ _ h => h) (Or.inl ⟨by rfl, ?_⟩) ?_ ?_
       rotate_left
       ·intro w'; go_simp; with_reducible rfl
       rotate_left
       ·simp only [Act.put, List.setIfInBounds_toArray, List.set_cons_zero, List.set_cons_succ, i64_w, i32_w]; rfl
       refine pure_ (i := 31) (N := some 39) (v := ?_) (a' := ?_) #[true, true, false, true, true, false, false, true, true, false, false, true, true, false, false, true, true, false, false, true, true, false, true, true, false, false, true, true, false, false, false, true, false, false, false, false] rfl rfl (any_of HT_.out (by kernel_rfl)) (fun _ _ _ h => h) (Or.inl ⟨by rfl, ?_⟩) ?_ ?_
       rotate_left
       ·intro w'; go_simp; with_reducible rfl
       rotate_left
       ·simp only [Act.put, List.setIfInBounds_toArray, List.set_cons_zero, List.set_cons_succ, i64_w, i32_w]; rfl
       refine pure_ (i := 32) (N := some 40) (v := ?_) (a' := ?_) #[true, true, false, true, true, false, false, true, true, false, false, true, true, false, false, true, true, false, false, true, true, false, true, true, false, false, true, true, false, false, false, true, true, false, false, false] rfl rfl (any_of HT_.out (by kernel_rfl)) (fun _ _ _ h => h) (Or.inl ⟨by rfl, ?_⟩) ?_ ?_
       rotate_left
       ·intro w'; go_simp; with_reducible rfl
       rotate_left
       ·simp only [Act.put, List.setIfInBounds_toArray, List.set_cons_zero, List.set_cons_succ, i64_w, i32_w]; rfl
       refine take_ (i := 2) (N := some 10) (v := ?_) (a' := ?_) #[true, true, true, true, true, false, false, true, true, false, false, true, true, false, false, true, true, false, false, true, true, false, true, true, false, false, true, true, false, false, false, true, true, false, false, false] rfl rfl (take_ofW HT_.out HW_.out (by kernel_rfl)) (fun _ _ _ h => h) (Or.inl ⟨by rfl, ?_⟩) hHeld ?_ ?_
       rotate_left
       ·rintro w' ⟨s0, s1, s2, s3, s4, s5, s6, s7, s8⟩; go_simp; with_reducible rfl
       rotate_left
       ·simp only [Act.put, List.setIfInBounds_toArray, List.set_cons_zero, List.set_cons_succ, i64_w, i32_w]; rfl
       refine take_ (i := 5) (N := some 13) (v := ?_) (a' := ?_) #[true, true, true, true, true, true, false, true, true, false, false, true, true, false, false, true, true, false, false, true, true, false, true, true, false, false, true, true, false, false, false, true, true, false, false, false] rfl rfl (take_ofW HT_.out HW_.out (by kernel_rfl)) (fun _ _ _ h => h) (Or.inl ⟨by rfl, ?_⟩) hHeld ?_ ?_
       rotate_left
       ·rintro w' ⟨s0, s1, s2, s3, s4, s5, s6, s7, s8⟩; go_simp; with_reducible rfl
       rotate_left
       ·simp only [Act.put, List.setIfInBounds_toArray, List.set_cons_zero, List.set_cons_succ, i64_w, i32_w]; rfl
       refine pure_ (i := 6) (N := some 14) (v := ?_) (a' := ?_) #[true, true, true, true, true, true, true, true, true, false, false, true, true, false, false, true, true, false, false, true, true, false, true, true, false, false, true, true, false, false, false, true, true, false, false, false] rfl rfl (any_of HT_.out (by kernel_rfl)) (fun _ _ _ h => h) (Or.inl ⟨by rfl, ?_⟩) ?_ ?_
       rotate_left
       ·intro w'; go_simp; with_reducible rfl
       rotate_left
       ·simp only [Act.put, List.setIfInBounds_toArray, List.set_cons_zero, List.set_cons_succ, i64_w, i32_w]; rfl
       refine take_ (i := 9) (N := some 17) (v := ?_) (a' := ?_) #[true, true, true, true, true, true, true, true, true, true, false, true, true, false, false, true, true, false, false, true, true, false, true, true, false, false, true, true, false, false, false, true, true, false, false, false] rfl rfl (take_ofW HT_.out HW_.out (by kernel_rfl)) (fun _ _ _ h => h) (Or.inl ⟨by rfl, ?_⟩) hHeld ?_ ?_
       rotate_left
       ·rintro w' ⟨s0, s1, s2, s3, s4, s5, s6, s7, s8⟩; go_simp; with_reducible rfl
       rotate_left
       ·simp only [Act.put, List.setIfInBounds_toArray, List.set_cons_zero, List.set_cons_succ, i64_w, i32_w]; rfl
       refine pure_ (i := 10) (N := some 18) (v := ?_) (a' := ?_) #[true, true, true, true, true, true, true, true, true, true, true, true, true, false, false, true, true, false, false, true, true, false, true, true, false, false, true, true, false, false, false, true, true, false, false, false] rfl rfl (any_of HT_.out (by kernel_rfl)) (fun _ _ _ h => h) (Or.inl ⟨by rfl, ?_⟩) ?_ ?_
       rotate_left
       ·intro w'; go_simp; with_reducible rfl
       rotate_left
       ·simp only [Act.put, List.setIfInBounds_toArray, List.set_cons_zero, List.set_cons_succ, i64_w, i32_w]; rfl
       refine take_ (i := 13) (N := some 21) (v := ?_) (a' := ?_) #[true, true, true, true, true, true, true, true, true, true, true, true, true, true, false, true, true, false, false, true, true, false, true, true, false, false, true, true, false, false, false, true, true, false, false, false] rfl rfl (take_ofW HT_.out HW_.out (by kernel_rfl)) (fun _ _ _ h => h) (Or.inl ⟨by rfl, ?_⟩) hHeld ?_ ?_
       rotate_left
       ·rintro w' ⟨s0, s1, s2, s3, s4, s5, s6, s7, s8⟩; go_simp; with_reducible rfl
       rotate_left
       ·simp only [Act.put, List.setIfInBounds_toArray, List.set_cons_zero, List.set_cons_succ, i64_w, i32_w]; rfl
       refine pure_ (i := 14) (N := some 22) (v := ?_) (a' := ?_) #[true, true, true, true, true, true, true, true, true, true, true, true, true, true, true, true, true, false, false, true, true, false, true, true, false, false, true, true, false, false, false, true, true, false, false, false] rfl rfl (any_of HT_.out (by kernel_rfl)) (fun _ _ _ h => h) (Or.inl ⟨by rfl, ?_⟩) ?_ ?_
       rotate_left
       ·intro w'; go_simp; with_reducible rfl
       rotate_left
       ·simp only [Act.put, List.setIfInBounds_toArray, List.set_cons_zero, List.set_cons_succ, i64_w, i32_w]; rfl
       refine take_ (i := 17) (N := some 25) (v := ?_) (a' := ?_) #[true, true, true, true, true, true, true, true, true, true, true, true, true, true, true, true, true, true, false, true, true, false, true, true, false, false, true, true, false, false, false, true, true, false, false, false] rfl rfl (take_ofW HT_.out HW_.out (by kernel_rfl)) (fun _ _ _ h => h) (Or.inl ⟨by rfl, ?_⟩) hHeld ?_ ?_
       rotate_left
       ·rintro w' ⟨s0, s1, s2, s3, s4, s5, s6, s7, s8⟩; go_simp; with_reducible rfl
       rotate_left
       ·simp only [Act.put, List.setIfInBounds_toArray, List.set_cons_zero, List.set_cons_succ, i64_w, i32_w]; rfl
       refine pure_ (i := 18) (N := some 26) (v := ?_) (a' := ?_) #[true, true, true, true, true, true, true, true, true, true, true, true, true, true, true, true, true, true, true, true, true, false, true, true, false, false, true, true, false, false, false, true, true, false, false, false] rfl rfl (any_of HT_.out (by kernel_rfl)) (fun _ _ _ h => h) (Or.inl ⟨by rfl, ?_⟩) ?_ ?_
       rotate_left
       ·intro w'; go_simp; with_reducible rfl
       rotate_left
       ·simp only [Act.put, List.setIfInBounds_toArray, List.set_cons_zero, List.set_cons_succ, i64_w, i32_w]; rfl
       refine take_ (i := 21) (N := some 29) (v := ?_) (a' := ?_) #[true, true, true, true, true, true, true, true, true, true, true, true, true, true, true, true, true, true, true, true, true, true, true, true, false, false, true, true, false, false, false, true, true, false, false, false] rfl rfl (take_ofW HT_.out HW_.out (by kernel_rfl)) (fun _ _ _ h => h) (Or.inl ⟨by rfl, ?_⟩) hHeld ?_ ?_
       rotate_left
       ·rintro w' ⟨s0, s1, s2, s3, s4, s5, s6, s7, s8⟩; go_simp; with_reducible rfl
       rotate_left
       ·simp only [Act.put, List.setIfInBounds_toArray, List.set_cons_zero, List.set_cons_succ, i64_w, i32_w]; rfl
       refine take_ (i := 24) (N := some 32) (v := ?_) (a' := ?_) #[true, true, true, true, true, true, true, true, true, true, true, true, true, true, true, true, true, true, true, true, true, true, true, true, true, false, true, true, false, false, false, true, true, false, false, false] rfl rfl (take_ofW HT_.out HW_.out (by kernel_rfl)) (fun _ _ _ h => h) (Or.inl ⟨by rfl, ?_⟩) hHeld ?_ ?_
       rotate_left
       ·rintro w' ⟨s0, s1, s2, s3, s4, s5, s6, s7, s8⟩; go_simp; with_reducible rfl
       rotate_left
       ·simp only [Act.put, List.setIfInBounds_toArray, List.set_cons_zero, List.set_cons_succ, i64_w, i32_w]; rfl
       refine pure_ (i := 25) (N := some 33) (v := ?_) (a' := ?_) #[true, true, true, true, true, true, true, true, true, true, true, true, true, true, true, true, true, true, true, true, true, true, true, true, true, true, true, true, false, false, false, true, true, false, false, false] rfl rfl (any_of HT_.out (by kernel_rfl)) (fun _ _ _ h => h) (Or.inl ⟨by rfl, ?_⟩) ?_ ?_
       rotate_left
       ·intro w'; go_simp; with_reducible rfl
       rotate_left
       ·simp only [Act.put, List.setIfInBounds_toArray, List.set_cons_zero, List.set_cons_succ, i64_w, i32_w]; rfl
       refine take_ (i := 28) (N := some 36) (v := ?_) (a' := ?_) #[true, true, true, true, true, true, true, true, true, true, true, true, true, true, true, true, true, true, true, true, true, true, true, true, true, true, true, true, true, false, false, true, true, false, false, false] rfl rfl (take_ofW HT_.out HW_.out (by kernel_rfl)) (fun _ _ _ h => h) (Or.inl ⟨by rfl, ?_⟩) hHeld ?_ ?_
       rotate_left
       ·rintro w' ⟨s0, s1, s2, s3, s4, s5, s6, s7, s8⟩; go_simp; with_reducible rfl
       rotate_left
       ·simp only [Act.put, List.setIfInBounds_toArray, List.set_cons_zero, List.set_cons_succ, i64_w, i32_w]; rfl
       refine take_ (i := 33) (N := some 41) (v := ?_) (a' := ?_) #[true, true, true, true, true, true, true, true, true, true, true, true, true, true, true, true, true, true, true, true, true, true, true, true, true, true, true, true, true, false, false, true, true, true, false, false] rfl rfl (take_ofW HT_.out HW_.out (by kernel_rfl)) (fun _ _ _ h => h) (Or.inl ⟨by rfl, ?_⟩) hHeld ?_ ?_
       rotate_left
       ·rintro w' ⟨s0, s1, s2, s3, s4, s5, s6, s7, s8⟩; go_simp; with_reducible rfl
       rotate_left
       ·simp only [Act.put, List.setIfInBounds_toArray, List.set_cons_zero, List.set_cons_succ, i64_w, i32_w]; rfl
       refine one_ (i := 29) (N := some 37) #[true, true, true, true, true, true, true, true, true, true, true, true, true, true, true, true, true, true, true, true, true, true, true, true, true, true, true, true, true, true, false, true, true, true, false, false] rfl rfl (one_of HT_.out (by kernel_rfl)) (by decide) (fun K hK => ?_)
       refine goes_ Try.func87 (by kernel_rfl) rfl #[.int .i64 (Int.tmod (rd t146 0) (rd t146 1)), .int .i64 (rd t146 1)] (by rfl) rfl rfl (by (try simp only [List.map_toArray, List.map_cons, List.map_nil]); first | done | rfl | (simp only [List.length_drop, List.length_take]; rfl)) ?_
       with_reducible refine (spec_taInverse.calls k (Int.tmod (rd t146 0) (rd t146 1)) (rd t146 1) t157 _ A8.out).mono ?_
       rintro e w' ⟨rfl, ⟨nd, rfl⟩⟩
       refine ⟨_, rfl, ?_⟩
       refine hK.out _ _ ⟨((HB.out.cell (World.block_lt_of_cell? w _ hw149_0)).trans hw149_0), ((HB.out.cell (World.block_lt_of_cell? w _ hw150_0)).trans hw150_0), hHeld.2.2.1, hHeld.2.2.2.1, hHeld.2.2.2.2.1, hHeld.2.2.2.2.2.1, hHeld.2.2.2.2.2.2.1, hHeld.2.2.2.2.2.2.2.1, hHeld.2.2.2.2.2.2.2.2⟩ (fun hHeld => ?_)
       clear hK K
       refine norm_ (a' := ?_) ?_ ?_
       rotate_left
       ·show Act.put _ (some 37) _ = _; simp only [Act.put, List.setIfInBounds_toArray, List.set_cons_zero, List.set_cons_succ, i64_w, i32_w]; rfl
       refine pu 30 38 HT_.out ?_; refine pu 34 42 HT_.out ?_; refine pu 35 5 HT_.out ?_; refine done_ (done_of HT_.out (by kernel_rfl)) ?_; (try go_wp2); (try (rw [drewN_self w13]; generalize hq_ : World.drewN w13 _ = w13; have n0_ : Aside0 (Kd.R (Kd.int .i64) 3 w13 w.heap.size (fun _ => True) (.slice (some ad151) t146.length co14) t146) := ⟨by rw [← hq_]; exact (rR HO148.out)⟩; have n1_ : Aside0 (Below w.heap.size w w13) := ⟨by rw [← hq_]; exact (bl HB.out)⟩; clear HO148 HB hq_; have HO148 := n0_; have HB := n1_; clear n0_ n1_)); replace HO148 := Aside0.mk (Kd.R_drew HO148.out); replace HB := bd1 HB; have p159 : 0 ≤ (0 : Int) := (by omega); have q159 : 0 < (l0.length : Int) := od; obtain ⟨ad159, e159, hx159_0⟩ := Kd.at_int HR0.out 0 p159 q159; have hw159_0 := hx159_0; (try rw [show ((0 : Int)).toNat = 0 from rfl] at hw159_0); (try rw [show 0 * 1 = 0 from rfl] at hw159_0); (try rw [Addr.add_zero'] at hw159_0); obtain rfl : ad149 = ad159 := (by injection e159); have qi159 : (0 < l0.length) = True := eq_true (by omega); (try rw [show ((0 : Int)).toNat = 0 from rfl] at hx159_0); (try rw [Addr.add_zero'] at hx159_0); replace hx159_0 := hbx HB hx159_0; replace p159 := eq_true p159; replace q159 := eq_true q159; have p160 : 0 ≤ (0 : Int) := (by omega); have q160 : 0 < (t146.length : Int) := od; obtain ⟨ad160, e160, hx160_0⟩ := Kd.at_int (Kd.R_reads' HO148.out).2.2 0 p160 q160; obtain rfl : ad151 = ad160 := (by injection e160); have qi160 : (0 < t146.length) = True := eq_true (by omega); (try rw [show ((0 : Int)).toNat = 0 from rfl] at hx160_0); (try rw [Addr.add_zero'] at hx160_0); replace p160 := eq_true p160; replace q160 := eq_true q160; refine start_ (n := 10) (S := fun w' => w'.cell? ad149 = some (.int .i64 (rd l0 0)) ∧ w'.cell? ad151 = some (.int .i64 (rd t146 0))) (ds := []) #[false, false, false, false, false, false, false, false, false, false] (by kernel_rfl) rfl rfl ⟨hbx HB hw159_0, hx160_0⟩ (fun hHeld => ?_); refine with_tabW spec_taSmall.tab3 spec_taSmall.bits3 (fun HT_ HW_ => ?_); generalize w13.drew = w15 at HO148 HB hx159_0 hx160_0 hHeld ⊢; refine pu 0 43 HT_.out ?_; refine pu 1 44 HT_.out ?_; refine pu 3 46 HT_.out ?_; refine pu 4 47 HT_.out ?_; refine pu 6 49 HT_.out ?_; refine tk 2 45 HT_.out HW_.out hHeld ?_ (hy := by rintro w' ⟨s0, s1⟩; go_simp; with_reducible rfl); refine tk 5 48 HT_.out HW_.out hHeld ?_ (hy := by rintro w' ⟨s0, s1⟩; go_simp; with_reducible rfl); refine pu 7 50 HT_.out ?_; refine pu 8 51 HT_.out ?_; refine pu 9 6 HT_.out ?_; refine done_ (done_of HT_.out (by kernel_rfl)) ?_; (try go_wp2); replace HO148 := Aside0.mk (Kd.R_drew HO148.out); replace HB := bd1 HB; have p161 : 0 ≤ (2 : Int) := (by omega); have q161 : 2 < (t146.length : Int) := od; obtain ⟨ad161, e161, hx161_0⟩ := Kd.at_int (Kd.R_reads' HO148.out).2.2 2 p161 q161; obtain rfl : ad151 = ad161 := (by injection e161); (try simp only [show (2 : Int).toNat = 2 from rfl, Nat.reduceMul, Nat.reduceEqDiff, Go.Addr.add, ↓reduceIte] at hx161_0); have qi161 : (2 < t146.length) = True := eq_true (by omega); (try rw [show ((2 : Int)).toNat = 2 from rfl] at hx161_0); replace p161 := eq_true p161; replace q161 := eq_true q161; have p162 : 0 ≤ (2 : Int) := (by omega); have q162 : 2 < (l0.length : Int) := od; obtain ⟨ad162, e162, hx162_0⟩ := Kd.at_int HR0.out 2 p162 q162; have hw162_0 := hx162_0; (try rw [show ((2 : Int)).toNat = 2 from rfl] at hw162_0); (try rw [show 2 * 1 = 2 from rfl] at hw162_0); (try simp only [Nat.reduceMul, Nat.reduceEqDiff, Go.Addr.add, ↓reduceIte] at hw162_0); obtain rfl : ad149 = ad162 := (by injection e162); (try simp only [show (2 : Int).toNat = 2 from rfl, Nat.reduceMul, Nat.reduceEqDiff, Go.Addr.add, ↓reduceIte] at hx162_0); have qi162 : (2 < l0.length) = True := eq_true (by omega); (try rw [show ((2 : Int)).toNat = 2 from rfl] at hx162_0); replace hx162_0 := hbx HB hx162_0; replace p162 := eq_true p162; replace q162 := eq_true q162; refine start_ (n := 12) (S := fun w' => w'.cell? ⟨ad151.block, ad151.off + 2, none⟩ = some (.int .i64 (rd t146 2)) ∧ w'.cell? ⟨ad149.block, ad149.off + 2, none⟩ = some (.int .i64 (rd l0 2))) (ds := []) #[false, false, false, false, false, false, false, false, false, false, false, false] (by kernel_rfl) rfl rfl ⟨hx161_0, hbx HB hw162_0⟩ (fun hHeld => ?_); refine with_tabW spec_taSmall.tab4 spec_taSmall.bits4 (fun HT_ HW_ => ?_); generalize w15.drew = w16 at HO148 HB hx161_0 hx162_0 hHeld ⊢; refine pu 0 52 HT_.out ?_; refine pu 1 53 HT_.out ?_; refine pu 2 54 HT_.out ?_; refine pu 3 55 HT_.out ?_; refine pu 6 58 HT_.out ?_; refine pu 7 59 HT_.out ?_; refine pu 10 2 HT_.out ?_; refine tk 4 56 HT_.out HW_.out hHeld ?_ (hy := by rintro w' ⟨s0, s1⟩; go_simp; with_reducible rfl); refine pu 5 57 HT_.out ?_; refine tk 8 60 HT_.out HW_.out hHeld ?_ (hy := by rintro w' ⟨s0, s1⟩; go_simp; with_reducible rfl); refine pu 9 61 HT_.out ?_; refine pu 11 3 HT_.out ?_; refine done_ (done_of HT_.out (by kernel_rfl)) ?_; (try go_wp2); go_ret2; exact ⟨sr, bl HB.out⟩
      rw [if_neg c11] at H; exact absurd H (by simp)
     rw [if_neg c9] at H; exact absurd H (by simp)
    rw [if_neg c7] at H; exact absurd H (by simp)
   rw [if_neg c5] at H; exact absurd H (by simp)
  rw [if_neg c4] at H; exact absurd H (by simp)
 rw [if_neg c3] at H; exact absurd H (by simp)
/-! ### spec_DeterminantOf: function 15 -/
mutual
def spec_DeterminantOf.l0 : Nat → List (List Int) → List Int → List Int → List Int → Int → Int → Option (Int × Bool)
 | 0, _, _, _, _, _, _ => none
 | k + 1, x0, x4, x5, x15, x16, x17 => if x17 < x16 then (if 0 ≤ x17 then (if x17 < (x15.length : Int) then ((spec_taSteps.f k x0 (rd x15 x17)).bind fun bt168 => (if x4.length < 17592186044416 then (if (rd x15 x17) = 0 then (none) else (if x5.length < 17592186044416 then (spec_DeterminantOf.l0 k x0 (x4 ++ [bt168.1]) (x5 ++ [Int.tmod (wrap64 ((rd x15 x17) - bt168.1)) (rd x15 x17)]) x15 x16 (wrap64 (x17 + 1))) else (none))) else (none))) else (none)) else (none)) else ((spec_taSmall.f k x4).bind fun bt176 => (if bt176.2 = true then (spec_DeterminantOf.j1 k x5 bt176.1 (decide (bt176.1 ≤ 100000000000000000))) else (spec_DeterminantOf.j1 k x5 bt176.1 false)))
def spec_DeterminantOf.j1 : Nat → List Int → Int → Bool → Option (Int × Bool)
 | 0, _, _, _ => none
 | k + 1, x5, x10, x49 => if x49 = true then (some (x10, true)) else ((spec_taSmall.f k x5).bind fun bt178 => (if bt178.2 = true then (if bt178.1 ≤ 100000000000000000 then (some (wrap64 (-bt178.1), true)) else (some (0, false))) else (some (0, false))))
end
def spec_DeterminantOf.f (k : Nat) (l0 : List (List Int)) : Option (Int × Bool) := (spec_taRows.f k l0).bind fun t163 => (if t163 = true then ((spec_taPrimes.f).bind fun t164 => (spec_DeterminantOf.l0 k l0 ([] : List Int) ([] : List Int) t164 (t164.length : Int) 0)) else (some (0, false)))
theorem spec_DeterminantOf.calls (k : Nat) (A0 : Option Addr) (c0 : Nat) (l0 : List (List Int)) (r1 : Int) (r2 : Bool) (w : World) (hr0 : Kd.C (Kd.slice 3 (Kd.int .i64)) w A0 l0.length l0) (hc0 : l0.length ≤ c0) (h : spec_DeterminantOf.f k l0 = some (r1, r2)) :
  Calls Try.prog 15 #[.slice A0 l0.length c0] w fun e w' => e = .returned (.tuple #[.int .i64 r1, .bool r2]) ∧ Below w.heap.size w w' := by
 have HR0 := Aside0.mk hr0; have HC0 := Aside0.mk hc0; clear hr0 hc0; have HB := Aside0.mk (Below.refl w.heap.size w); have H : ((spec_taRows.f k l0).bind fun t163 => (if t163 = true then ((spec_taPrimes.f).bind fun t164 => (spec_DeterminantOf.l0 k l0 ([] : List Int) ([] : List Int) t164 (t164.length : Int) 0)) else (some (0, false)))) = some (r1, r2) := h; clear h; obtain ⟨t163, A2, H⟩ := bi H; (try dsimp only at H)
 by_cases c3 : t163 = true
 ·subst c3; rw [if_pos rfl] at H; obtain ⟨t164, A4, H⟩ := bi H; (try dsimp only at H); have H' := Aside0.mk H; clear H; go_enter Try.func15, Try.ntmps15; go_wp2_with (first | (go_at_call 44; (with_reducible refine (spec_taRows.calls k _ _ l0 true _ ?side1 HC0.out A2.out).mono ?_); (case side1 => exact cw HR0.out); rintro e w' ⟨rfl, ⟨nd, rfl⟩⟩) | (go_at_call 50; (with_reducible refine (spec_taPrimes.calls  t164 _ A4.out).mono ?_); rintro e w5 ⟨v165, rfl, ho0, hb⟩; have HO166 := Aside0.mk (Kd.R_lower ho0 (below_size (bl HB.out))); replace HB := bst HB hb; obtain ⟨Ao6, co6, eo6⟩ := Kd.R_slice HO166.out; subst eo6))
  go_loopg [4, 5, 17] k (fun kq v4 v5 v17 w' => ∃ (x4_1 : List Int) (x5_1 : List Int) (x17_1 : Int), v17 = .int .i64 x17_1 ∧ Aside0 (spec_DeterminantOf.l0 kq l0 x4_1 x5_1 t164 (t164.length : Int) x17_1 = some (r1, r2)) ∧ Aside0 (kq ≤ k) ∧ Aside0 (Kd.R (Kd.int .i64) 3 w' w.heap.size (fun k_ => some k_ ≠ (v5 : Value).ownBlock ∧ some k_ ≠ ((.slice Ao6 t164.length co6) : Value).ownBlock) v4 x4_1) ∧ Aside0 (Kd.R (Kd.int .i64) 3 w' w.heap.size (fun k_ => some k_ ≠ (v4 : Value).ownBlock ∧ some k_ ≠ ((.slice Ao6 t164.length co6) : Value).ownBlock) v5 x5_1) ∧ Aside0 (Kd.R (Kd.int .i64) 3 w' w.heap.size (fun k_ => some k_ ≠ (v4 : Value).ownBlock ∧ some k_ ≠ (v5 : Value).ownBlock) (.slice Ao6 t164.length co6) t164) ∧ Aside0 (Below w.heap.size w w'))
  case atStart => exact ⟨(([] : List Int)), (([] : List Int)), (0), (sr2), H', ⟨Nat.le_refl _⟩, ⟨by first | exact Kd.R_nil _ _ _ _ _ | exact Kd.N_nil _ _ _ _ _ | exact Kd.V_nil _ _ _ _ _ | exact Kd.Q_nil _ _ _ _ _ | exact Kd.S_nil _ _ _ _ _⟩, ⟨by first | exact Kd.R_nil _ _ _ _ _ | exact Kd.N_nil _ _ _ _ _ | exact Kd.V_nil _ _ _ _ _ | exact Kd.Q_nil _ _ _ _ _ | exact Kd.S_nil _ _ _ _ _⟩, ⟨rR (Kd.R_mono HO166.out (fun _ hk => ⟨(by simp [Value.ownBlock]), (by simp [Value.ownBlock])⟩))⟩, ⟨bl HB.out⟩⟩
  case round =>
   clear H'; obtain ⟨x4_1, x5_1, x17_1, rfl, HA, HK1, HO_4, HO_5, HO_15, HB⟩ := hrel
   cases gk with
   | zero => exact absurd HA.out (by simp [spec_DeterminantOf.l0])
   | succ k1 =>
    have H := HA.out; clear HA; simp only [spec_DeterminantOf.l0] at H
    by_cases c7 : x17_1 < (t164.length : Int)
    ·rw [if_pos c7] at H; have c7b0 := decide_eq_true c7; clear c7
     by_cases c8 : 0 ≤ x17_1
     ·rw [if_pos c8] at H; have c8b0 := decide_eq_true c8; clear c8
      by_cases c9 : x17_1 < (t164.length : Int)
      ·rw [if_pos c9] at H; have c9b0 := decide_eq_true c9; clear c9; obtain ⟨⟨t168, t169⟩, A10, H⟩ := bi H; (try dsimp only at H)
       by_cases c11 : x4_1.length < 17592186044416
       ·rw [if_pos c11] at H; have LMc11 := Aside0.mk c11; clear c11; obtain ⟨y170, hy170⟩ := yy (x4_1 ++ [t168])
        (try rw [Option.bind_some] at H); (try dsimp only at H); rw [← hy170] at H
        have Ny170 := Aside0.mk hy170; clear hy170
        by_cases c12 : (rd t164 x17_1) = 0
        ·rw [if_pos c12] at H; exact absurd H (by simp)
        rw [if_neg c12] at H; have c12b0 := beq_eq_false_iff_ne.mpr c12; have c12b1 := bne_iff_ne.mpr c12
        by_cases c13 : x5_1.length < 17592186044416
        ·rw [if_pos c13] at H; have LMc13 := Aside0.mk c13; clear c13; obtain ⟨y173, hy173⟩ := yy (x5_1 ++ [Int.tmod (wrap64 ((rd t164 x17_1) - t168)) (rd t164 x17_1)])
         (try rw [Option.bind_some] at H); (try dsimp only at H); rw [← hy173] at H
         have Ny173 := Aside0.mk hy173; clear hy173; have H' := Aside0.mk H; clear H; obtain ⟨ad167, e167, hx167_0, p167, q167⟩ := atI (Kd.R_reads' HO_15.out).2.2 x17_1; cases e167; go_wp2_with (first | (go_at_call 51; (with_reducible refine (spec_taSteps.calls k1 _ _ l0 (rd t164 x17_1) t168 t169 _ ?side1 HC0.out A10.out).mono ?_); (case side1 => exact cw (Kd.C_below HR0.out HB.out)); rintro e w14 ⟨rfl, hb⟩; replace HO_4 := Aside0.mk (Kd.R_below (rR HO_4.out) hb); replace HO_5 := Aside0.mk (Kd.R_below (rR HO_5.out) hb); replace HO_15 := Aside0.mk (Kd.R_below (rR HO_15.out) hb); replace HB := bst HB hb) | ((with_reducible refine gate_builtin (b := .append) (xs := #[.tmp 27, .tmp 29]) rfl ?_); at_builtin; refine Kd.R_append (Kd.int .i64) (w0 := w) w.heap.size rfl (.tmp 27) (.tmp 29) 35 3 (.int .i64 0) 8 rfl Try.underlying35 info3 rfl (by decide) (by omega) u4 x4_1 t168 [.int .i64 t168] (fun k_ => some k_ ≠ (u5 : Value).ownBlock ∧ some k_ ≠ (.slice (some ad167) t164.length co6 : Value).ownBlock) (fun _ => False) rfl rfl ?aP (fun _ hk => hk.elim) ?aF ?aO ?aB ?aS (by have := LMc11.out; omega) ?_; (case aP => exact rfl); (case aB => exact (bl HB.out)); (case aF => exact (fun k_ hk => ⟨Kd.fresh' (Kd.R_lt (rR HO_5.out)) k_ hk, Kd.fresh' (Kd.R_lt (rR HO_15.out)) k_ hk⟩)); (case aO => exact (rR HO_4.out)); (case aS => exact (below_size (bl HB.out))); intro v171 w15 ho hb hg hat; rw [← Ny170.out] at ho; replace HO_5 := Aside0.mk (Kd.R_after (ok := (fun k_ => some k_ ≠ (.slice (some ad167) t164.length co6 : Value).ownBlock)) (rR (Kd.R_mono HO_5.out (fun _ hk => by first | exact ⟨hk.2, hk.1⟩ | exact ⟨hk.1, hk.2⟩))) hg hat); replace HO_15 := Aside0.mk (Kd.R_after (ok := (fun k_ => some k_ ≠ (u5 : Value).ownBlock)) (rR (Kd.R_mono HO_15.out (fun _ hk => by first | exact ⟨hk.2, hk.1⟩ | exact ⟨hk.1, hk.2⟩))) hg hat); replace HB := Aside0.mk (hb); have HO172 := Aside0.mk (ho); clear HO_4; clear ho hb hg hat) | ((with_reducible refine gate_builtin (b := .append) (xs := #[.tmp 31, .tmp 37]) rfl ?_); at_builtin; refine Kd.R_append (Kd.int .i64) (w0 := w) w.heap.size rfl (.tmp 31) (.tmp 37) 35 3 (.int .i64 0) 8 rfl Try.underlying35 info3 rfl (by decide) (by omega) u5 x5_1 (Int.tmod (wrap64 ((rd t164 x17_1) - t168)) (rd t164 x17_1)) [.int .i64 (Int.tmod (wrap64 ((rd t164 x17_1) - t168)) (rd t164 x17_1))] (fun k_ => some k_ ≠ (.slice (some ad167) t164.length co6 : Value).ownBlock ∧ some k_ ≠ (v171 : Value).ownBlock) (fun _ => False) rfl rfl ?aP (fun _ hk => hk.elim) ?aF ?aO ?aB ?aS (by have := LMc13.out; omega) ?_; (case aP => exact rfl); (case aB => exact (bl HB.out)); (case aF => exact (fun k_ hk => ⟨Kd.fresh' (Kd.R_lt (rR HO_15.out)) k_ hk, Kd.fresh' (Kd.R_lt (rR HO172.out)) k_ hk⟩)); (case aO => exact (rR HO_5.out)); (case aS => exact (below_size (bl HB.out))); intro v174 w16 ho hb hg hat; rw [← Ny173.out] at ho; replace HO_15 := Aside0.mk (Kd.R_after (ok := (fun k_ => some k_ ≠ (v171 : Value).ownBlock)) (rR (Kd.R_mono HO_15.out (fun _ hk => by first | exact ⟨hk.2, hk.1⟩ | exact ⟨hk.1, hk.2⟩))) hg hat); replace HO172 := Aside0.mk (Kd.R_after (ok := (fun k_ => some k_ ≠ (.slice (some ad167) t164.length co6 : Value).ownBlock)) (rR (Kd.R_mono HO172.out (fun _ hk => by first | exact ⟨hk.2, hk.1⟩ | exact ⟨hk.1, hk.2⟩))) hg hat); replace HB := Aside0.mk (hb); have HO175 := Aside0.mk (ho); clear HO_5; clear ho hb hg hat))
         go_roundg k1
         case measure => have := HK1.out; omega
         case rel => exact ⟨(y170), (y173), (wrap64 (x17_1 + 1)), (sr2), H', ⟨by have := HK1.out; omega⟩, ⟨rR (Kd.R_mono HO172.out (fun _ hk => by first | exact ⟨hk.2, hk.1⟩ | exact ⟨hk.1, hk.2⟩))⟩, ⟨rR (Kd.R_mono HO175.out (fun _ hk => by first | exact ⟨hk.2, hk.1⟩ | exact ⟨hk.1, hk.2⟩))⟩, ⟨rR HO_15.out⟩, ⟨bl HB.out⟩⟩
        rw [if_neg c13] at H; exact absurd H (by simp)
       rw [if_neg c11] at H; exact absurd H (by simp)
      rw [if_neg c9] at H; exact absurd H (by simp)
     rw [if_neg c8] at H; exact absurd H (by simp)
    rw [if_neg c7] at H; have c7b0 := decide_eq_false c7; clear c7; obtain ⟨⟨t176, t177⟩, A17, H⟩ := bi H; (try dsimp only at H); have HC18 := Aside0.mk H; clear H; obtain ⟨Ao19, co19, eo19⟩ := Kd.R_slice HO_4.out; subst eo19
    go_upto_region 12 with (first | (go_at_call 52; (with_reducible refine (spec_taSmall.calls k1 _ _ x4_1 t176 t177 _ ?side1 ((Kd.R_reads' HO_4.out).2.1) A17.out).mono ?_); (case side1 => exact cw ((Kd.R_reads' HO_4.out).2.2)); rintro e w20 ⟨rfl, hb⟩; replace HO_4 := Aside0.mk (Kd.R_below (rR HO_4.out) hb); replace HO_5 := Aside0.mk (Kd.R_below (rR HO_5.out) hb); replace HO_15 := Aside0.mk (Kd.R_below (rR HO_15.out) hb); replace HB := bst HB hb))
    (try simp only [Act.put, List.setIfInBounds_toArray, List.set_cons_zero, List.set_cons_succ])
    go_cut [49] (fun v49 wc => ∃ (kq : Nat) (x49_17 : Bool), v49 = .bool x49_17 ∧ Aside0 (spec_DeterminantOf.j1 kq x5_1 t176 x49_17 = some (r1, r2)) ∧ Aside0 (kq ≤ k1) ∧ Aside0 (Kd.R (Kd.int .i64) 3 wc w.heap.size (fun _ => True) u5 x5_1) ∧ Aside0 (Below w.heap.size w wc))
    case first =>
     have H := HC18.out; clear HC18
     by_cases c21 : t177 = true
     ·subst c21; rw [if_pos rfl] at H; have H' := Aside0.mk H; clear H; go_wp2; go_meet
      case rel => exact ⟨_, (decide (t176 ≤ 100000000000000000)), (sr2), H', ⟨by have := HK1.out; first | omega | exact Nat.le_refl _⟩, ⟨rR (Kd.R_mono HO_5.out (fun _ hk => trivial))⟩, ⟨bl HB.out⟩⟩
     replace c21 := Bool.eq_false_iff.mpr c21; subst c21; rw [if_neg (show ¬ (false = true) by decide)] at H; have H' := Aside0.mk H; clear H; go_wp2; go_meet
     case rel => exact ⟨_, (false), (sr2), H', ⟨by have := HK1.out; first | omega | exact Nat.le_refl _⟩, ⟨rR (Kd.R_mono HO_5.out (fun _ hk => trivial))⟩, ⟨bl HB.out⟩⟩
    case rest =>
     clear HC18; obtain ⟨kq, x49_17, rfl, HA, HJ17, HO_5, HB⟩ := hcut
     cases kq with
     | zero => exact absurd HA.out (by simp [spec_DeterminantOf.j1])
     | succ kj17 =>
      have H := HA.out; clear HA; simp only [spec_DeterminantOf.j1] at H
      by_cases c22 : x49_17 = true
      ·subst c22; rw [if_pos rfl] at H; simp only [Option.some.injEq, Prod.mk.injEq] at H; obtain ⟨rfl, rfl⟩ := H; go_wp2; go_ret2; exact ⟨sr, bl HB.out⟩
      replace c22 := Bool.eq_false_iff.mpr c22; subst c22; rw [if_neg (show ¬ (false = true) by decide)] at H; obtain ⟨⟨t178, t179⟩, A23, H⟩ := bi H; (try dsimp only at H)
      by_cases c24 : t179 = true
      ·subst c24; rw [if_pos rfl] at H
       by_cases c25 : t178 ≤ 100000000000000000
       ·rw [if_pos c25] at H; have c25b0 := decide_eq_true c25; clear c25; simp only [Option.some.injEq, Prod.mk.injEq] at H; obtain ⟨rfl, rfl⟩ := H; obtain ⟨Ao26, co26, eo26⟩ := Kd.R_slice HO_5.out; subst eo26; go_wp2_with (first | (go_at_call 52; (with_reducible refine (spec_taSmall.calls kj17 _ _ x5_1 t178 true _ ?side1 ((Kd.R_reads' HO_5.out).2.1) A23.out).mono ?_); (case side1 => exact cw ((Kd.R_reads' HO_5.out).2.2)); rintro e w27 ⟨rfl, hb⟩; replace HO_5 := Aside0.mk (Kd.R_below (rR HO_5.out) hb); replace HB := bst HB hb)); go_ret2; exact ⟨sr, bl HB.out⟩
       rw [if_neg c25] at H; have c25b0 := decide_eq_false c25; clear c25; simp only [Option.some.injEq, Prod.mk.injEq] at H; obtain ⟨rfl, rfl⟩ := H; obtain ⟨Ao28, co28, eo28⟩ := Kd.R_slice HO_5.out; subst eo28; go_wp2_with (first | (go_at_call 52; (with_reducible refine (spec_taSmall.calls kj17 _ _ x5_1 t178 true _ ?side1 ((Kd.R_reads' HO_5.out).2.1) A23.out).mono ?_); (case side1 => exact cw ((Kd.R_reads' HO_5.out).2.2)); rintro e w29 ⟨rfl, hb⟩; replace HO_5 := Aside0.mk (Kd.R_below (rR HO_5.out) hb); replace HB := bst HB hb)); go_ret2; exact ⟨sr, bl HB.out⟩
      replace c24 := Bool.eq_false_iff.mpr c24; subst c24; rw [if_neg (show ¬ (false = true) by decide)] at H; simp only [Option.some.injEq, Prod.mk.injEq] at H; obtain ⟨rfl, rfl⟩ := H; obtain ⟨Ao30, co30, eo30⟩ := Kd.R_slice HO_5.out; subst eo30; go_wp2_with (first | (go_at_call 52; (with_reducible refine (spec_taSmall.calls kj17 _ _ x5_1 t178 false _ ?side1 ((Kd.R_reads' HO_5.out).2.1) A23.out).mono ?_); (case side1 => exact cw ((Kd.R_reads' HO_5.out).2.2)); rintro e w31 ⟨rfl, hb⟩; replace HO_5 := Aside0.mk (Kd.R_below (rR HO_5.out) hb); replace HB := bst HB hb)); go_ret2; exact ⟨sr, bl HB.out⟩
 replace c3 := Bool.eq_false_iff.mpr c3; subst c3; rw [if_neg (show ¬ (false = true) by decide)] at H; simp only [Option.some.injEq, Prod.mk.injEq] at H; obtain ⟨rfl, rfl⟩ := H; go_enter Try.func15, Try.ntmps15; go_wp2_with (first | (go_at_call 44; (with_reducible refine (spec_taRows.calls k _ _ l0 false _ ?side1 HC0.out A2.out).mono ?_); (case side1 => exact cw HR0.out); rintro e w' ⟨rfl, ⟨nd, rfl⟩⟩)); go_ret2; exact ⟨sr, bl HB.out⟩
/-! ### impl_DeterminantOf: function 16 -/
def impl_DeterminantOf.j0 : Nat → List Int → Int → Int → Option (Int × Bool)
 | 0, _, _, _ => none
 | k + 1, x4, x12, x14 => if 2 < (x4.length : Int) then ((impl_rest.f x14 (rd x4 2)).bind fun t197 => (if t197 = x12 then ((impl_in.f x14 (-100000000000000000) 100000000000000000).bind fun t198 => (if t198 = true then (some (x14, true)) else (some (0, false)))) else (some (0, false)))) else (none)
def impl_DeterminantOf.f (k : Nat) (l0 : List (List Int)) : Option (Int × Bool) := (impl_areRows.f l0).bind fun t180 => (if t180 = true then ((impl_primes.f).bind fun t181 => (if 0 < (t181.length : Int) then (if 1 < (t181.length : Int) then ((impl_reduce.f k l0 (rd t181 0)).bind fun bt186 => ((impl_reduce.f k l0 (rd t181 1)).bind fun bt188 => (if 2 < (t181.length : Int) then ((impl_reduce.f k l0 (rd t181 2)).bind fun bt191 => ((impl_rest.f (wrap64 (bt188.2 - bt186.2)) (rd t181 1)).bind fun t193 => ((impl_rest.f (rd t181 0) (rd t181 1)).bind fun t194 => ((impl_inverseMod.f k t194 (rd t181 1)).bind fun t195 => (if (rd t181 1) = 0 then (none) else (if (wrap64 (bt186.2 + (wrap64 ((rd t181 0) * (Int.tmod (wrap64 (t193 * t195)) (rd t181 1)))))) > (wrap64 (Int.tdiv (wrap64 ((rd t181 0) * (rd t181 1))) 2)) then (impl_DeterminantOf.j0 k t181 bt191.2 (wrap64 ((wrap64 (bt186.2 + (wrap64 ((rd t181 0) * (Int.tmod (wrap64 (t193 * t195)) (rd t181 1)))))) - (wrap64 ((rd t181 0) * (rd t181 1)))))) else (impl_DeterminantOf.j0 k t181 bt191.2 (wrap64 (bt186.2 + (wrap64 ((rd t181 0) * (Int.tmod (wrap64 (t193 * t195)) (rd t181 1))))))))))))) else (none)))) else (none)) else (none))) else (some (0, false)))
theorem impl_DeterminantOf.mono_l : ∀ k, (∀ y0 y1 y2, LeO (impl_DeterminantOf.j0 k y0 y1 y2) (impl_DeterminantOf.j0 (k + 1) y0 y1 y2))
 | 0 => fun _ _ _ r h => by simp [impl_DeterminantOf.j0] at h
 | k + 1 => by
  have ih0 := impl_DeterminantOf.mono_l k
  ·intro y0 y1 y2
   unfold impl_DeterminantOf.j0
   repeat' first
   | (with_reducible exact ih0 _ _ _)
   | (with_reducible exact impl_inverseMod.mono _ _ _)
   | (with_reducible exact impl_reduce.mono _ _ _)
   | (with_reducible exact LeO.refl _)
   | (with_reducible exact LeO.none _)
   | (with_reducible refine LeO.ite ?_ ?_)
   | (with_reducible refine LeO.bind ?_ (fun _ => ?_))
   | exact ih0 _ _ _
   | exact impl_inverseMod.mono _ _ _
   | exact impl_reduce.mono _ _ _
   | exact LeO.none _
   | refine LeO.ite ?_ ?_
   | refine LeO.bind ?_ (fun _ => ?_)
theorem impl_DeterminantOf.mono : ∀ a0 k, LeO (impl_DeterminantOf.f k a0) (impl_DeterminantOf.f (k + 1) a0) := by
 intro a0 k; have ih0 := impl_DeterminantOf.mono_l k; unfold impl_DeterminantOf.f
 repeat' first
   | (with_reducible exact ih0 _ _ _)
   | (with_reducible exact impl_inverseMod.mono _ _ _)
   | (with_reducible exact impl_reduce.mono _ _ _)
   | (with_reducible exact LeO.refl _)
   | (with_reducible exact LeO.none _)
   | (with_reducible refine LeO.ite ?_ ?_)
   | (with_reducible refine LeO.bind ?_ (fun _ => ?_))
   | exact ih0 _ _ _
   | exact impl_inverseMod.mono _ _ _
   | exact impl_reduce.mono _ _ _
   | exact LeO.none _
   | refine LeO.ite ?_ ?_
   | refine LeO.bind ?_ (fun _ => ?_)
theorem impl_DeterminantOf.calls (k : Nat) (A0 : Option Addr) (c0 : Nat) (l0 : List (List Int)) (r1 : Int) (r2 : Bool) (w : World) (hr0 : Kd.C (Kd.slice 3 (Kd.int .i64)) w A0 l0.length l0) (hc0 : l0.length ≤ c0) (h : impl_DeterminantOf.f k l0 = some (r1, r2)) :
  Calls Try.prog 16 #[.slice A0 l0.length c0] w fun e w' => e = .returned (.tuple #[.int .i64 r1, .bool r2]) ∧ Below w.heap.size w w' := by
 have HR0 := Aside0.mk hr0; have HC0 := Aside0.mk hc0; clear hr0 hc0; have HB := Aside0.mk (Below.refl w.heap.size w); have H : ((impl_areRows.f l0).bind fun t180 => (if t180 = true then ((impl_primes.f).bind fun t181 => (if 0 < (t181.length : Int) then (if 1 < (t181.length : Int) then ((impl_reduce.f k l0 (rd t181 0)).bind fun bt186 => ((impl_reduce.f k l0 (rd t181 1)).bind fun bt188 => (if 2 < (t181.length : Int) then ((impl_reduce.f k l0 (rd t181 2)).bind fun bt191 => ((impl_rest.f (wrap64 (bt188.2 - bt186.2)) (rd t181 1)).bind fun t193 => ((impl_rest.f (rd t181 0) (rd t181 1)).bind fun t194 => ((impl_inverseMod.f k t194 (rd t181 1)).bind fun t195 => (if (rd t181 1) = 0 then (none) else (if (wrap64 (bt186.2 + (wrap64 ((rd t181 0) * (Int.tmod (wrap64 (t193 * t195)) (rd t181 1)))))) > (wrap64 (Int.tdiv (wrap64 ((rd t181 0) * (rd t181 1))) 2)) then (impl_DeterminantOf.j0 k t181 bt191.2 (wrap64 ((wrap64 (bt186.2 + (wrap64 ((rd t181 0) * (Int.tmod (wrap64 (t193 * t195)) (rd t181 1)))))) - (wrap64 ((rd t181 0) * (rd t181 1)))))) else (impl_DeterminantOf.j0 k t181 bt191.2 (wrap64 (bt186.2 + (wrap64 ((rd t181 0) * (Int.tmod (wrap64 (t193 * t195)) (rd t181 1))))))))))))) else (none)))) else (none)) else (none))) else (some (0, false)))) = some (r1, r2) := h; clear h; obtain ⟨t180, A2, H⟩ := bi H; (try dsimp only at H)
 by_cases c3 : t180 = true
 ·subst c3; rw [if_pos rfl] at H; obtain ⟨t181, A4, H⟩ := bi H; (try dsimp only at H)
  by_cases c5 : 0 < (t181.length : Int)
  ·rw [if_pos c5] at H; have c5b0 := decide_eq_true c5; have c5b1 : decide (0 < t181.length) = true := decide_eq_true (by omega); clear c5
   by_cases c6 : 1 < (t181.length : Int)
   ·rw [if_pos c6] at H; have c6b0 := decide_eq_true c6; have c6b1 : decide (1 < t181.length) = true := decide_eq_true (by omega); clear c6; obtain ⟨⟨t186, t187⟩, A7, H⟩ := bi H; (try dsimp only at H); obtain ⟨⟨t188, t189⟩, A8, H⟩ := bi H; (try dsimp only at H)
    by_cases c9 : 2 < (t181.length : Int)
    ·rw [if_pos c9] at H; have c9b0 := decide_eq_true c9; have c9b1 : decide (2 < t181.length) = true := decide_eq_true (by omega); clear c9; obtain ⟨⟨t191, t192⟩, A10, H⟩ := bi H; (try dsimp only at H); obtain ⟨t193, A11, H⟩ := bi H; (try dsimp only at H); obtain ⟨t194, A12, H⟩ := bi H; (try dsimp only at H); obtain ⟨t195, A13, H⟩ := bi H; (try dsimp only at H)
     by_cases c14 : (rd t181 1) = 0
     ·rw [if_pos c14] at H; exact absurd H (by simp)
     rw [if_neg c14] at H; have c14b0 := beq_eq_false_iff_ne.mpr c14; have c14b1 := bne_iff_ne.mpr c14; have HC15 := Aside0.mk H; clear H; go_enter Try.func16, Try.ntmps16
     go_upto_if 68 with (first | (go_at_call 47; (with_reducible refine (impl_areRows.calls _ _ l0 true _ ?side1 HC0.out A2.out).mono ?_); (case side1 => exact cw HR0.out); rintro e w16 ⟨rfl, hb⟩; replace HB := bst HB hb) | (go_at_call 53; (with_reducible refine (impl_primes.calls  t181 _ A4.out).mono ?_); rintro e w17 ⟨v182, rfl, ho0, hb⟩; have HO183 := Aside0.mk (Kd.R_lower ho0 (below_size (bl HB.out))); replace HB := bst HB hb; obtain ⟨Ao18, co18, eo18⟩ := Kd.R_slice HO183.out; subst eo18; have p184 : 0 ≤ (0 : Int) := (by omega); have q184 : 0 < (t181.length : Int) := od; obtain ⟨ad184, e184, hx184_0⟩ := Kd.at_int (Kd.R_reads' HO183.out).2.2 0 p184 q184; cases e184; have qi184 : (0 < t181.length) = True := eq_true (by omega); (try rw [show ((0 : Int)).toNat = 0 from rfl] at hx184_0); (try rw [Addr.add_zero'] at hx184_0); replace p184 := eq_true p184; replace q184 := eq_true q184; have p185 : 0 ≤ (1 : Int) := (by omega); have q185 : 1 < (t181.length : Int) := od; obtain ⟨ad185, e185, hx185_0⟩ := Kd.at_int (Kd.R_reads' HO183.out).2.2 1 p185 q185; obtain rfl : ad184 = ad185 := (by injection e185); (try simp only [show (1 : Int).toNat = 1 from rfl, Nat.reduceMul, Nat.reduceEqDiff, Go.Addr.add, ↓reduceIte] at hx185_0); have qi185 : (1 < t181.length) = True := eq_true (by omega); (try rw [show ((1 : Int)).toNat = 1 from rfl] at hx185_0); replace p185 := eq_true p185; replace q185 := eq_true q185) | (go_at_call 54; (with_reducible refine (impl_reduce.calls k _ _ l0 (rd t181 0) t186 t187 _ ?side1 HC0.out A7.out).mono ?_); (case side1 => exact cw (Kd.C_below HR0.out HB.out)); rintro e w19 ⟨rfl, hb⟩; replace HO183 := Aside0.mk (Kd.R_below (rR HO183.out) hb); replace HB := bst HB hb) | (go_at_call 54; (with_reducible refine (impl_reduce.calls k _ _ l0 (rd t181 1) t188 t189 _ ?side1 HC0.out A8.out).mono ?_); (case side1 => exact cw (Kd.C_below HR0.out HB.out)); rintro e w20 ⟨rfl, hb⟩; replace HO183 := Aside0.mk (Kd.R_below (rR HO183.out) hb); replace HB := bst HB hb; have p190 : 0 ≤ (2 : Int) := (by omega); have q190 : 2 < (t181.length : Int) := od; obtain ⟨ad190, e190, hx190_0⟩ := Kd.at_int (Kd.R_reads' HO183.out).2.2 2 p190 q190; obtain rfl : ad184 = ad190 := (by injection e190); (try simp only [show (2 : Int).toNat = 2 from rfl, Nat.reduceMul, Nat.reduceEqDiff, Go.Addr.add, ↓reduceIte] at hx190_0); have qi190 : (2 < t181.length) = True := eq_true (by omega); (try rw [show ((2 : Int)).toNat = 2 from rfl] at hx190_0); replace p190 := eq_true p190; replace q190 := eq_true q190) | (go_at_call 54; (with_reducible refine (impl_reduce.calls k _ _ l0 (rd t181 2) t191 t192 _ ?side1 HC0.out A10.out).mono ?_); (case side1 => exact cw (Kd.C_below HR0.out HB.out)); rintro e w21 ⟨rfl, hb⟩; replace HO183 := Aside0.mk (Kd.R_below (rR HO183.out) hb); replace HB := bst HB hb) | (go_at_call 55; (with_reducible refine (impl_rest.calls (wrap64 (t189 - t187)) (rd t181 1) t193 _ A11.out).mono ?_); rintro e w' ⟨rfl, ⟨nd, rfl⟩⟩; (try first | exact ⟨rfl, _, World.drewN_drewN _ _ _⟩ | exact ⟨rfl, _, Eq.trans (World.drewN_drewN _ _ _) (congrArg (World.drewN _) (Nat.add_assoc _ _ _))⟩)) | (go_at_call 55; (with_reducible refine (impl_rest.calls (rd t181 0) (rd t181 1) t194 _ A12.out).mono ?_); rintro e w' ⟨rfl, ⟨nd, rfl⟩⟩; (try first | exact ⟨rfl, _, World.drewN_drewN _ _ _⟩ | exact ⟨rfl, _, Eq.trans (World.drewN_drewN _ _ _) (congrArg (World.drewN _) (Nat.add_assoc _ _ _))⟩)) | (go_at_call 56; (with_reducible refine (impl_inverseMod.calls k t194 (rd t181 1) t195 _ A13.out).mono ?_); rintro e w' ⟨rfl, ⟨nd, rfl⟩⟩; (try first | exact ⟨rfl, _, World.drewN_drewN _ _ _⟩ | exact ⟨rfl, _, Eq.trans (World.drewN_drewN _ _ _) (congrArg (World.drewN _) (Nat.add_assoc _ _ _))⟩)))
     repeat (go_quiet (first | (go_at_call 47; (with_reducible refine (impl_areRows.calls _ _ l0 true _ ?side1 HC0.out A2.out).mono ?_); (case side1 => exact cw HR0.out); rintro e w16 ⟨rfl, hb⟩; replace HB := bst HB hb) | (go_at_call 53; (with_reducible refine (impl_primes.calls  t181 _ A4.out).mono ?_); rintro e w17 ⟨v182, rfl, ho0, hb⟩; have HO183 := Aside0.mk (Kd.R_lower ho0 (below_size (bl HB.out))); replace HB := bst HB hb; obtain ⟨Ao18, co18, eo18⟩ := Kd.R_slice HO183.out; subst eo18; have p184 : 0 ≤ (0 : Int) := (by omega); have q184 : 0 < (t181.length : Int) := od; obtain ⟨ad184, e184, hx184_0⟩ := Kd.at_int (Kd.R_reads' HO183.out).2.2 0 p184 q184; cases e184; have qi184 : (0 < t181.length) = True := eq_true (by omega); (try rw [show ((0 : Int)).toNat = 0 from rfl] at hx184_0); (try rw [Addr.add_zero'] at hx184_0); replace p184 := eq_true p184; replace q184 := eq_true q184; have p185 : 0 ≤ (1 : Int) := (by omega); have q185 : 1 < (t181.length : Int) := od; obtain ⟨ad185, e185, hx185_0⟩ := Kd.at_int (Kd.R_reads' HO183.out).2.2 1 p185 q185; obtain rfl : ad184 = ad185 := (by injection e185); (try simp only [show (1 : Int).toNat = 1 from rfl, Nat.reduceMul, Nat.reduceEqDiff, Go.Addr.add, ↓reduceIte] at hx185_0); have qi185 : (1 < t181.length) = True := eq_true (by omega); (try rw [show ((1 : Int)).toNat = 1 from rfl] at hx185_0); replace p185 := eq_true p185; replace q185 := eq_true q185) | (go_at_call 54; (with_reducible refine (impl_reduce.calls k _ _ l0 (rd t181 0) t186 t187 _ ?side1 HC0.out A7.out).mono ?_); (case side1 => exact cw (Kd.C_below HR0.out HB.out)); rintro e w19 ⟨rfl, hb⟩; replace HO183 := Aside0.mk (Kd.R_below (rR HO183.out) hb); replace HB := bst HB hb) | (go_at_call 54; (with_reducible refine (impl_reduce.calls k _ _ l0 (rd t181 1) t188 t189 _ ?side1 HC0.out A8.out).mono ?_); (case side1 => exact cw (Kd.C_below HR0.out HB.out)); rintro e w20 ⟨rfl, hb⟩; replace HO183 := Aside0.mk (Kd.R_below (rR HO183.out) hb); replace HB := bst HB hb; have p190 : 0 ≤ (2 : Int) := (by omega); have q190 : 2 < (t181.length : Int) := od; obtain ⟨ad190, e190, hx190_0⟩ := Kd.at_int (Kd.R_reads' HO183.out).2.2 2 p190 q190; obtain rfl : ad184 = ad190 := (by injection e190); (try simp only [show (2 : Int).toNat = 2 from rfl, Nat.reduceMul, Nat.reduceEqDiff, Go.Addr.add, ↓reduceIte] at hx190_0); have qi190 : (2 < t181.length) = True := eq_true (by omega); (try rw [show ((2 : Int)).toNat = 2 from rfl] at hx190_0); replace p190 := eq_true p190; replace q190 := eq_true q190) | (go_at_call 54; (with_reducible refine (impl_reduce.calls k _ _ l0 (rd t181 2) t191 t192 _ ?side1 HC0.out A10.out).mono ?_); (case side1 => exact cw (Kd.C_below HR0.out HB.out)); rintro e w21 ⟨rfl, hb⟩; replace HO183 := Aside0.mk (Kd.R_below (rR HO183.out) hb); replace HB := bst HB hb) | (go_at_call 55; (with_reducible refine (impl_rest.calls (wrap64 (t189 - t187)) (rd t181 1) t193 _ A11.out).mono ?_); rintro e w' ⟨rfl, ⟨nd, rfl⟩⟩; (try first | exact ⟨rfl, _, World.drewN_drewN _ _ _⟩ | exact ⟨rfl, _, Eq.trans (World.drewN_drewN _ _ _) (congrArg (World.drewN _) (Nat.add_assoc _ _ _))⟩)) | (go_at_call 55; (with_reducible refine (impl_rest.calls (rd t181 0) (rd t181 1) t194 _ A12.out).mono ?_); rintro e w' ⟨rfl, ⟨nd, rfl⟩⟩; (try first | exact ⟨rfl, _, World.drewN_drewN _ _ _⟩ | exact ⟨rfl, _, Eq.trans (World.drewN_drewN _ _ _) (congrArg (World.drewN _) (Nat.add_assoc _ _ _))⟩)) | (go_at_call 56; (with_reducible refine (impl_inverseMod.calls k t194 (rd t181 1) t195 _ A13.out).mono ?_); rintro e w' ⟨rfl, ⟨nd, rfl⟩⟩; (try first | exact ⟨rfl, _, World.drewN_drewN _ _ _⟩ | exact ⟨rfl, _, Eq.trans (World.drewN_drewN _ _ _) (congrArg (World.drewN _) (Nat.add_assoc _ _ _))⟩))); go_upto_if 68 with (first | (go_at_call 47; (with_reducible refine (impl_areRows.calls _ _ l0 true _ ?side1 HC0.out A2.out).mono ?_); (case side1 => exact cw HR0.out); rintro e w16 ⟨rfl, hb⟩; replace HB := bst HB hb) | (go_at_call 53; (with_reducible refine (impl_primes.calls  t181 _ A4.out).mono ?_); rintro e w17 ⟨v182, rfl, ho0, hb⟩; have HO183 := Aside0.mk (Kd.R_lower ho0 (below_size (bl HB.out))); replace HB := bst HB hb; obtain ⟨Ao18, co18, eo18⟩ := Kd.R_slice HO183.out; subst eo18; have p184 : 0 ≤ (0 : Int) := (by omega); have q184 : 0 < (t181.length : Int) := od; obtain ⟨ad184, e184, hx184_0⟩ := Kd.at_int (Kd.R_reads' HO183.out).2.2 0 p184 q184; cases e184; have qi184 : (0 < t181.length) = True := eq_true (by omega); (try rw [show ((0 : Int)).toNat = 0 from rfl] at hx184_0); (try rw [Addr.add_zero'] at hx184_0); replace p184 := eq_true p184; replace q184 := eq_true q184; have p185 : 0 ≤ (1 : Int) := (by omega); have q185 : 1 < (t181.length : Int) := od; obtain ⟨ad185, e185, hx185_0⟩ := Kd.at_int (Kd.R_reads' HO183.out).2.2 1 p185 q185; obtain rfl : ad184 = ad185 := (by injection e185); (try simp only [show (1 : Int).toNat = 1 from rfl, Nat.reduceMul, Nat.reduceEqDiff, Go.Addr.add, ↓reduceIte] at hx185_0); have qi185 : (1 < t181.length) = True := eq_true (by omega); (try rw [show ((1 : Int)).toNat = 1 from rfl] at hx185_0); replace p185 := eq_true p185; replace q185 := eq_true q185) | (go_at_call 54; (with_reducible refine (impl_reduce.calls k _ _ l0 (rd t181 0) t186 t187 _ ?side1 HC0.out A7.out).mono ?_); (case side1 => exact cw (Kd.C_below HR0.out HB.out)); rintro e w19 ⟨rfl, hb⟩; replace HO183 := Aside0.mk (Kd.R_below (rR HO183.out) hb); replace HB := bst HB hb) | (go_at_call 54; (with_reducible refine (impl_reduce.calls k _ _ l0 (rd t181 1) t188 t189 _ ?side1 HC0.out A8.out).mono ?_); (case side1 => exact cw (Kd.C_below HR0.out HB.out)); rintro e w20 ⟨rfl, hb⟩; replace HO183 := Aside0.mk (Kd.R_below (rR HO183.out) hb); replace HB := bst HB hb; have p190 : 0 ≤ (2 : Int) := (by omega); have q190 : 2 < (t181.length : Int) := od; obtain ⟨ad190, e190, hx190_0⟩ := Kd.at_int (Kd.R_reads' HO183.out).2.2 2 p190 q190; obtain rfl : ad184 = ad190 := (by injection e190); (try simp only [show (2 : Int).toNat = 2 from rfl, Nat.reduceMul, Nat.reduceEqDiff, Go.Addr.add, ↓reduceIte] at hx190_0); have qi190 : (2 < t181.length) = True := eq_true (by omega); (try rw [show ((2 : Int)).toNat = 2 from rfl] at hx190_0); replace p190 := eq_true p190; replace q190 := eq_true q190) | (go_at_call 54; (with_reducible refine (impl_reduce.calls k _ _ l0 (rd t181 2) t191 t192 _ ?side1 HC0.out A10.out).mono ?_); (case side1 => exact cw (Kd.C_below HR0.out HB.out)); rintro e w21 ⟨rfl, hb⟩; replace HO183 := Aside0.mk (Kd.R_below (rR HO183.out) hb); replace HB := bst HB hb) | (go_at_call 55; (with_reducible refine (impl_rest.calls (wrap64 (t189 - t187)) (rd t181 1) t193 _ A11.out).mono ?_); rintro e w' ⟨rfl, ⟨nd, rfl⟩⟩; (try first | exact ⟨rfl, _, World.drewN_drewN _ _ _⟩ | exact ⟨rfl, _, Eq.trans (World.drewN_drewN _ _ _) (congrArg (World.drewN _) (Nat.add_assoc _ _ _))⟩)) | (go_at_call 55; (with_reducible refine (impl_rest.calls (rd t181 0) (rd t181 1) t194 _ A12.out).mono ?_); rintro e w' ⟨rfl, ⟨nd, rfl⟩⟩; (try first | exact ⟨rfl, _, World.drewN_drewN _ _ _⟩ | exact ⟨rfl, _, Eq.trans (World.drewN_drewN _ _ _) (congrArg (World.drewN _) (Nat.add_assoc _ _ _))⟩)) | (go_at_call 56; (with_reducible refine (impl_inverseMod.calls k t194 (rd t181 1) t195 _ A13.out).mono ?_); rintro e w' ⟨rfl, ⟨nd, rfl⟩⟩; (try first | exact ⟨rfl, _, World.drewN_drewN _ _ _⟩ | exact ⟨rfl, _, Eq.trans (World.drewN_drewN _ _ _) (congrArg (World.drewN _) (Nat.add_assoc _ _ _))⟩))))
     (try simp only [Act.put, List.setIfInBounds_toArray, List.set_cons_zero, List.set_cons_succ])
     go_cut [14] (fun v14 wc => ∃ (kq : Nat) (x14_14 : Int), v14 = .int .i64 x14_14 ∧ Aside0 (impl_DeterminantOf.j0 kq t181 t192 x14_14 = some (r1, r2)) ∧ Aside0 (kq ≤ k) ∧ Aside0 (Kd.R (Kd.int .i64) 3 wc w.heap.size (fun _ => True) (.slice (some ad184) t181.length co18) t181) ∧ Aside0 (Below w.heap.size w wc))
     case first =>
      have H := HC15.out; clear HC15
      by_cases c22 : (wrap64 (t187 + (wrap64 ((rd t181 0) * (Int.tmod (wrap64 (t193 * t195)) (rd t181 1)))))) > (wrap64 (Int.tdiv (wrap64 ((rd t181 0) * (rd t181 1))) 2))
      ·rw [if_pos c22] at H; have c22b0 := decide_eq_true c22; clear c22; (first | rw [c22b0] | (simp only [i64_w, i32_w]; rw [c22b0]) | skip); have H' := Aside0.mk H; clear H; go_wp2
       repeat (go_quiet (fail); try go_wp2)
       go_meet
       case rel => exact ⟨_, (wrap64 ((wrap64 (t187 + (wrap64 ((rd t181 0) * (Int.tmod (wrap64 (t193 * t195)) (rd t181 1)))))) - (wrap64 ((rd t181 0) * (rd t181 1))))), (sr2), H', ⟨by first | omega | exact Nat.le_refl _⟩, ⟨rR HO183.out⟩, ⟨bl HB.out⟩⟩
      rw [if_neg c22] at H; have c22b0 := decide_eq_false c22; clear c22; (first | rw [c22b0] | (simp only [i64_w, i32_w]; rw [c22b0]) | skip); have H' := Aside0.mk H; clear H; go_wp2
      repeat (go_quiet (fail); try go_wp2)
      go_meet
      case rel => exact ⟨_, (wrap64 (t187 + (wrap64 ((rd t181 0) * (Int.tmod (wrap64 (t193 * t195)) (rd t181 1)))))), (sr2), H', ⟨by first | omega | exact Nat.le_refl _⟩, ⟨rR HO183.out⟩, ⟨bl HB.out⟩⟩
     case rest =>
      clear HC15; obtain ⟨kq, x14_14, rfl, HA, HJ14, HO_4, HB⟩ := hcut
      cases kq with
      | zero => exact absurd HA.out (by simp [impl_DeterminantOf.j0])
      | succ kj14 =>
       have H := HA.out; clear HA; simp only [impl_DeterminantOf.j0] at H
       by_cases c23 : 2 < (t181.length : Int)
       ·rw [if_pos c23] at H; have c23b0 := decide_eq_true c23; have c23b1 : decide (2 < t181.length) = true := decide_eq_true (by omega); clear c23; obtain ⟨t197, A24, H⟩ := bi H; (try dsimp only at H)
        by_cases c25 : t197 = t192
        ·rw [if_pos c25] at H; have c25b0 := beq_iff_eq.mpr c25; have c25b1 := bne_eq_false_iff_eq.mpr c25; clear c25; obtain ⟨t198, A26, H⟩ := bi H; (try dsimp only at H)
         by_cases c27 : t198 = true
         ·subst c27; rw [if_pos rfl] at H; simp only [Option.some.injEq, Prod.mk.injEq] at H; obtain ⟨rfl, rfl⟩ := H; have p196 : 0 ≤ (2 : Int) := (by omega); have q196 : 2 < (t181.length : Int) := od; obtain ⟨ad196, e196, hx196_0⟩ := Kd.at_int (Kd.R_reads' HO_4.out).2.2 2 p196 q196; obtain rfl : ad184 = ad196 := (by injection e196); (try simp only [show (2 : Int).toNat = 2 from rfl, Nat.reduceMul, Nat.reduceEqDiff, Go.Addr.add, ↓reduceIte] at hx196_0); have qi196 : (2 < t181.length) = True := eq_true (by omega); (try rw [show ((2 : Int)).toNat = 2 from rfl] at hx196_0); replace p196 := eq_true p196; replace q196 := eq_true q196; go_wp2_with (first | (go_at_call 55; (with_reducible refine (impl_rest.calls x14_14 (rd t181 2) t197 _ A24.out).mono ?_); rintro e w' ⟨rfl, ⟨nd, rfl⟩⟩; (try first | exact ⟨rfl, _, World.drewN_drewN _ _ _⟩ | exact ⟨rfl, _, Eq.trans (World.drewN_drewN _ _ _) (congrArg (World.drewN _) (Nat.add_assoc _ _ _))⟩)) | (go_at_call 57; (with_reducible refine (impl_in.calls x14_14 (-100000000000000000) 100000000000000000 true _ A26.out).mono ?_); rintro e w' ⟨rfl, ⟨nd, rfl⟩⟩; (try first | exact ⟨rfl, _, World.drewN_drewN _ _ _⟩ | exact ⟨rfl, _, Eq.trans (World.drewN_drewN _ _ _) (congrArg (World.drewN _) (Nat.add_assoc _ _ _))⟩)))
          repeat (go_quiet (first | (go_at_call 55; (with_reducible refine (impl_rest.calls x14_14 (rd t181 2) t197 _ A24.out).mono ?_); rintro e w' ⟨rfl, ⟨nd, rfl⟩⟩; (try first | exact ⟨rfl, _, World.drewN_drewN _ _ _⟩ | exact ⟨rfl, _, Eq.trans (World.drewN_drewN _ _ _) (congrArg (World.drewN _) (Nat.add_assoc _ _ _))⟩)) | (go_at_call 57; (with_reducible refine (impl_in.calls x14_14 (-100000000000000000) 100000000000000000 true _ A26.out).mono ?_); rintro e w' ⟨rfl, ⟨nd, rfl⟩⟩; (try first | exact ⟨rfl, _, World.drewN_drewN _ _ _⟩ | exact ⟨rfl, _, Eq.trans (World.drewN_drewN _ _ _) (congrArg (World.drewN _) (Nat.add_assoc _ _ _))⟩))); try go_wp2_with (first | (go_at_call 55; (with_reducible refine (impl_rest.calls x14_14 (rd t181 2) t197 _ A24.out).mono ?_); rintro e w' ⟨rfl, ⟨nd, rfl⟩⟩; (try first | exact ⟨rfl, _, World.drewN_drewN _ _ _⟩ | exact ⟨rfl, _, Eq.trans (World.drewN_drewN _ _ _) (congrArg (World.drewN _) (Nat.add_assoc _ _ _))⟩)) | (go_at_call 57; (with_reducible refine (impl_in.calls x14_14 (-100000000000000000) 100000000000000000 true _ A26.out).mono ?_); rintro e w' ⟨rfl, ⟨nd, rfl⟩⟩; (try first | exact ⟨rfl, _, World.drewN_drewN _ _ _⟩ | exact ⟨rfl, _, Eq.trans (World.drewN_drewN _ _ _) (congrArg (World.drewN _) (Nat.add_assoc _ _ _))⟩))))
          go_ret2; exact ⟨sr, bl HB.out⟩
         replace c27 := Bool.eq_false_iff.mpr c27; subst c27; rw [if_neg (show ¬ (false = true) by decide)] at H; simp only [Option.some.injEq, Prod.mk.injEq] at H; obtain ⟨rfl, rfl⟩ := H; have p196 : 0 ≤ (2 : Int) := (by omega); have q196 : 2 < (t181.length : Int) := od; obtain ⟨ad196, e196, hx196_0⟩ := Kd.at_int (Kd.R_reads' HO_4.out).2.2 2 p196 q196; obtain rfl : ad184 = ad196 := (by injection e196); (try simp only [show (2 : Int).toNat = 2 from rfl, Nat.reduceMul, Nat.reduceEqDiff, Go.Addr.add, ↓reduceIte] at hx196_0); have qi196 : (2 < t181.length) = True := eq_true (by omega); (try rw [show ((2 : Int)).toNat = 2 from rfl] at hx196_0); replace p196 := eq_true p196; replace q196 := eq_true q196; go_wp2_with (first | (go_at_call 55; (with_reducible refine (impl_rest.calls x14_14 (rd t181 2) t197 _ A24.out).mono ?_); rintro e w' ⟨rfl, ⟨nd, rfl⟩⟩; (try first | exact ⟨rfl, _, World.drewN_drewN _ _ _⟩ | exact ⟨rfl, _, Eq.trans (World.drewN_drewN _ _ _) (congrArg (World.drewN _) (Nat.add_assoc _ _ _))⟩)) | (go_at_call 57; (with_reducible refine (impl_in.calls x14_14 (-100000000000000000) 100000000000000000 false _ A26.out).mono ?_); rintro e w' ⟨rfl, ⟨nd, rfl⟩⟩; (try first | exact ⟨rfl, _, World.drewN_drewN _ _ _⟩ | exact ⟨rfl, _, Eq.trans (World.drewN_drewN _ _ _) (congrArg (World.drewN _) (Nat.add_assoc _ _ _))⟩)))
         repeat (go_quiet (first | (go_at_call 55; (with_reducible refine (impl_rest.calls x14_14 (rd t181 2) t197 _ A24.out).mono ?_); rintro e w' ⟨rfl, ⟨nd, rfl⟩⟩; (try first | exact ⟨rfl, _, World.drewN_drewN _ _ _⟩ | exact ⟨rfl, _, Eq.trans (World.drewN_drewN _ _ _) (congrArg (World.drewN _) (Nat.add_assoc _ _ _))⟩)) | (go_at_call 57; (with_reducible refine (impl_in.calls x14_14 (-100000000000000000) 100000000000000000 false _ A26.out).mono ?_); rintro e w' ⟨rfl, ⟨nd, rfl⟩⟩; (try first | exact ⟨rfl, _, World.drewN_drewN _ _ _⟩ | exact ⟨rfl, _, Eq.trans (World.drewN_drewN _ _ _) (congrArg (World.drewN _) (Nat.add_assoc _ _ _))⟩))); try go_wp2_with (first | (go_at_call 55; (with_reducible refine (impl_rest.calls x14_14 (rd t181 2) t197 _ A24.out).mono ?_); rintro e w' ⟨rfl, ⟨nd, rfl⟩⟩; (try first | exact ⟨rfl, _, World.drewN_drewN _ _ _⟩ | exact ⟨rfl, _, Eq.trans (World.drewN_drewN _ _ _) (congrArg (World.drewN _) (Nat.add_assoc _ _ _))⟩)) | (go_at_call 57; (with_reducible refine (impl_in.calls x14_14 (-100000000000000000) 100000000000000000 false _ A26.out).mono ?_); rintro e w' ⟨rfl, ⟨nd, rfl⟩⟩; (try first | exact ⟨rfl, _, World.drewN_drewN _ _ _⟩ | exact ⟨rfl, _, Eq.trans (World.drewN_drewN _ _ _) (congrArg (World.drewN _) (Nat.add_assoc _ _ _))⟩))))
         go_ret2; exact ⟨sr, bl HB.out⟩
        rw [if_neg c25] at H; have c25b0 := beq_eq_false_iff_ne.mpr c25; have c25b1 := bne_iff_ne.mpr c25; simp only [Option.some.injEq, Prod.mk.injEq] at H; obtain ⟨rfl, rfl⟩ := H; have p196 : 0 ≤ (2 : Int) := (by omega); have q196 : 2 < (t181.length : Int) := od; obtain ⟨ad196, e196, hx196_0⟩ := Kd.at_int (Kd.R_reads' HO_4.out).2.2 2 p196 q196; obtain rfl : ad184 = ad196 := (by injection e196); (try simp only [show (2 : Int).toNat = 2 from rfl, Nat.reduceMul, Nat.reduceEqDiff, Go.Addr.add, ↓reduceIte] at hx196_0); have qi196 : (2 < t181.length) = True := eq_true (by omega); (try rw [show ((2 : Int)).toNat = 2 from rfl] at hx196_0); replace p196 := eq_true p196; replace q196 := eq_true q196; go_wp2_with (first | (go_at_call 55; (with_reducible refine (impl_rest.calls x14_14 (rd t181 2) t197 _ A24.out).mono ?_); rintro e w' ⟨rfl, ⟨nd, rfl⟩⟩; (try first | exact ⟨rfl, _, World.drewN_drewN _ _ _⟩ | exact ⟨rfl, _, Eq.trans (World.drewN_drewN _ _ _) (congrArg (World.drewN _) (Nat.add_assoc _ _ _))⟩)))
        repeat (go_quiet (first | (go_at_call 55; (with_reducible refine (impl_rest.calls x14_14 (rd t181 2) t197 _ A24.out).mono ?_); rintro e w' ⟨rfl, ⟨nd, rfl⟩⟩; (try first | exact ⟨rfl, _, World.drewN_drewN _ _ _⟩ | exact ⟨rfl, _, Eq.trans (World.drewN_drewN _ _ _) (congrArg (World.drewN _) (Nat.add_assoc _ _ _))⟩))); try go_wp2_with (first | (go_at_call 55; (with_reducible refine (impl_rest.calls x14_14 (rd t181 2) t197 _ A24.out).mono ?_); rintro e w' ⟨rfl, ⟨nd, rfl⟩⟩; (try first | exact ⟨rfl, _, World.drewN_drewN _ _ _⟩ | exact ⟨rfl, _, Eq.trans (World.drewN_drewN _ _ _) (congrArg (World.drewN _) (Nat.add_assoc _ _ _))⟩))))
        go_ret2; exact ⟨sr, bl HB.out⟩
       rw [if_neg c23] at H; exact absurd H (by simp)
    rw [if_neg c9] at H; exact absurd H (by simp)
   rw [if_neg c6] at H; exact absurd H (by simp)
  rw [if_neg c5] at H; exact absurd H (by simp)
 replace c3 := Bool.eq_false_iff.mpr c3; subst c3; rw [if_neg (show ¬ (false = true) by decide)] at H; simp only [Option.some.injEq, Prod.mk.injEq] at H; obtain ⟨rfl, rfl⟩ := H; go_enter Try.func16, Try.ntmps16; go_wp2_with (first | (go_at_call 47; (with_reducible refine (impl_areRows.calls _ _ l0 false _ ?side1 HC0.out A2.out).mono ?_); (case side1 => exact cw HR0.out); rintro e w28 ⟨rfl, hb⟩; replace HB := bst HB hb))
 repeat (go_quiet (first | (go_at_call 47; (with_reducible refine (impl_areRows.calls _ _ l0 false _ ?side1 HC0.out A2.out).mono ?_); (case side1 => exact cw HR0.out); rintro e w28 ⟨rfl, hb⟩; replace HB := bst HB hb)); try go_wp2_with (first | (go_at_call 47; (with_reducible refine (impl_areRows.calls _ _ l0 false _ ?side1 HC0.out A2.out).mono ?_); (case side1 => exact cw HR0.out); rintro e w28 ⟨rfl, hb⟩; replace HB := bst HB hb)))
 go_ret2; exact ⟨sr, bl HB.out⟩
/-! ### laws_big: function 17 -/
def laws_big.f (l0 : List Int) (l1 : List Int) : Option (Bool) := if (l0.length : Int) > 1048576 then (some true) else (some (decide ((l1.length : Int) > (wrap64 (1048576 - (l0.length : Int))))))
theorem laws_big.calls (A0 : Option Addr) (c0 : Nat) (l0 : List Int) (A1 : Option Addr) (c1 : Nat) (l1 : List Int) (r : Bool) (w : World) (hr0 : Kd.C (Kd.int .u8) w A0 l0.length l0) (hc0 : l0.length ≤ c0) (hr1 : Kd.C (Kd.int .u8) w A1 l1.length l1) (hc1 : l1.length ≤ c1) (h : laws_big.f l0 l1 = some r) :
  Calls Try.prog 17 #[.slice A0 l0.length c0, .slice A1 l1.length c1] w fun e w' => e = .returned (.bool r) ∧ Drawn0 w w' := by
 have HR0 := Aside0.mk hr0; have HC0 := Aside0.mk hc0; clear hr0 hc0; have HR1 := Aside0.mk hr1; have HC1 := Aside0.mk hc1; clear hr1 hc1; have H : (if (l0.length : Int) > 1048576 then (some true) else (some (decide ((l1.length : Int) > (wrap64 (1048576 - (l0.length : Int))))))) = some r := h; clear h
 by_cases c3 : (l0.length : Int) > 1048576
 ·rw [if_pos c3] at H; have c3b0 := decide_eq_true c3; have c3b1 : decide (1048576 < l0.length) = true := decide_eq_true (by omega); clear c3; obtain rfl := Option.some.inj H; go_enter Try.func17, Try.ntmps17; go_wp2; go_ret; exact ⟨sr2, by repeat (first | exact Drawn0.refl _ | apply Drawn0.step)⟩
 rw [if_neg c3] at H; have c3b0 := decide_eq_false c3; have c3b1 : decide (1048576 < l0.length) = false := decide_eq_false (by omega); clear c3; obtain rfl := Option.some.inj H; go_enter Try.func17, Try.ntmps17; go_wp2; go_ret; exact ⟨sr2, by repeat (first | exact Drawn0.refl _ | apply Drawn0.step)⟩

/-- A state of type 57 at block g of W; what its slices lead to came in by w0. -/
def IsS57 (w0 W : World) (g : Nat) (f0 : List Int) (f1 : Int) (f2 : Int) : Prop := ∃ A0 c0, W.heap[g]? = some (.cells #[.slice A0 f0.length c0, .int .i64 f1, .int .u64 f2] 57 (0, 0)) ∧ w0.heap.size ≤ g ∧ Kd.C (Kd.int .u8) w0 A0 f0.length f0
theorem IsS57.grown {w0 W : World} {g : Nat} {f0 : List Int} {f1 : Int} {f2 : Int} {W1 : World} {row : Option Nat} (h : IsS57 w0 W g f0 f1 f2) (hw : W.grownBy W1 row) (hne : some g ≠ row) : IsS57 w0 W1 g f0 f1 f2 := by
 obtain ⟨A0, c0, hb, hg, hr0⟩ := h; exact ⟨A0, c0, blk_grown hb hw hne, hg, hr0⟩
theorem IsS57.own_neN {w0 W : World} {g : Nat} {f0 : List Int} {f1 : Int} {f2 : Int} {α : Type} {d : Kd α} {e : Nat} {base : Nat} {ok : Nat → Prop} {v : Value} {xs : List α} (h : IsS57 w0 W g f0 f1 f2) (ho : Kd.N d e W base ok v xs) (ht : e ≠ 57) : some g ≠ v.ownBlock := by
 obtain ⟨A0, c0, hb, hg, hr0⟩ := h; exact Kd.N_ne ho hb ht
theorem IsS57.fresh {w0 W : World} {g : Nat} {f0 : List Int} {f1 : Int} {f2 : Int} (h : IsS57 w0 W g f0 f1 f2) : ∀ k, W.heap.size ≤ k → k ≠ g := by
 obtain ⟨A0, c0, hb, hg, hr0⟩ := h; exact Kd.freshB hb
theorem IsS57.kept {w0 W : World} {g : Nat} {f0 : List Int} {f1 : Int} {f2 : Int} {W1 : World} {S : Nat → Prop} (h : IsS57 w0 W g f0 f1 f2) (hk : Kept W W1 S) (hne : ¬ S g) : IsS57 w0 W1 g f0 f1 f2 := by
 obtain ⟨A0, c0, hb, hg, hr0⟩ := h; exact ⟨A0, c0, blk_kept hb hk hne, hg, hr0⟩
theorem IsS57.below {w0 W : World} {g : Nat} {f0 : List Int} {f1 : Int} {f2 : Int} {W1 : World} (h : IsS57 w0 W g f0 f1 f2) (hw : Below W.heap.size W W1) : IsS57 w0 W1 g f0 f1 f2 := h.grown (grown_of_below hw none) (by simp)
theorem IsS57.alloc {w0 W : World} {g : Nat} {f0 : List Int} {f1 : Int} {f2 : Int} (h : IsS57 w0 W g f0 f1 f2) (o : Obj) : IsS57 w0 (W.alloc o) g f0 f1 f2 := h.below (below_alloc (Below.refl _ _) o)
theorem IsS57.drewN {w0 W : World} {g : Nat} {f0 : List Int} {f1 : Int} {f2 : Int} (h : IsS57 w0 W g f0 f1 f2) (m : Nat) : IsS57 w0 (W.drewN m) g f0 f1 f2 := h
theorem IsS57.drew {w0 W : World} {g : Nat} {f0 : List Int} {f1 : Int} {f2 : Int} (h : IsS57 w0 W g f0 f1 f2) : IsS57 w0 W.drew g f0 f1 f2 := h
theorem IsS57.at_ {w0 W : World} {g : Nat} {f0 : List Int} {f1 : Int} {f2 : Int} {w' : World} {m : Nat} (hq : W.drewN m = w') (h : IsS57 w0 W g f0 f1 f2) : IsS57 w0 w' g f0 f1 f2 := by subst hq; exact IsS57.drewN h m
theorem IsS57.apart {w0 W : World} {g : Nat} {f0 : List Int} {f1 : Int} {f2 : Int} {α : Type} {d : Kd α} {e : Nat} {base : Nat} {ok : Nat → Prop} {v : Value} {xs : List α} (h : IsS57 w0 W g f0 f1 f2) (ho : d.R e W base ok v xs) (ht : ∀ q, q ∈ e :: d.E → q ≠ 57) : d.R e W base (fun k => ok k ∧ k ≠ g) v xs := by
 obtain ⟨A0, c0, hb, hg, hr0⟩ := h; exact Kd.R_types ho hb ht
theorem IsS57.own_ne {w0 W : World} {g : Nat} {f0 : List Int} {f1 : Int} {f2 : Int} {α : Type} {d : Kd α} {e : Nat} {base : Nat} {ok : Nat → Prop} {v : Value} {xs : List α} (h : IsS57 w0 W g f0 f1 f2) (ho : d.R e W base ok v xs) (ht : e ≠ 57) : some g ≠ v.ownBlock := by
 obtain ⟨A0, c0, hb, hg, hr0⟩ := h; exact Kd.R_ne ho hb ht
theorem IsS57.apartQ {w0 W : World} {g : Nat} {f0 : List Int} {f1 : Int} {f2 : Int} {α : Type} {d : Kd α} {e : Nat} {base : Nat} {ok : Nat → Prop} {v : Value} {xs : List α} (h : IsS57 w0 W g f0 f1 f2) (ho : d.Q e W base ok v xs) (ht : ∀ q, q ∈ e :: d.E → q ≠ 57) : d.Q e W base (fun k => ok k ∧ k ≠ g) v xs := by
 obtain ⟨A0, c0, hb, hg, hr0⟩ := h; exact Kd.Q_types ho hb ht
theorem IsS57.own_neQ {w0 W : World} {g : Nat} {f0 : List Int} {f1 : Int} {f2 : Int} {α : Type} {d : Kd α} {e : Nat} {base : Nat} {ok : Nat → Prop} {v : Value} {xs : List α} (h : IsS57 w0 W g f0 f1 f2) (ho : d.Q e W base ok v xs) (ht : e ≠ 57) : some g ≠ v.ownBlock := by
 obtain ⟨A0, c0, hb, hg, hr0⟩ := h; exact Kd.Q_ne ho hb ht
theorem IsS57.apartS {w0 W : World} {g : Nat} {f0 : List Int} {f1 : Int} {f2 : Int} {α : Type} {d : Kd α} {e : Nat} {base : Nat} {ok : Nat → Prop} {v : Value} {xs : List α} (h : IsS57 w0 W g f0 f1 f2) (ho : d.S e W base ok v xs) (ht : ∀ q, q ∈ e :: d.E → q ≠ 57) : d.S e W base (fun k => ok k ∧ k ≠ g) v xs := by
 obtain ⟨A0, c0, hb, hg, hr0⟩ := h; exact Kd.S_types ho hb ht
theorem IsS57.own_neS {w0 W : World} {g : Nat} {f0 : List Int} {f1 : Int} {f2 : Int} {α : Type} {d : Kd α} {e : Nat} {base : Nat} {ok : Nat → Prop} {v : Value} {xs : List α} (h : IsS57 w0 W g f0 f1 f2) (ho : d.S e W base ok v xs) (ht : e ≠ 57) : some g ≠ v.ownBlock := by
 obtain ⟨A0, c0, hb, hg, hr0⟩ := h; exact Kd.S_ne ho hb ht
theorem IsS57.lt {w0 W : World} {g : Nat} {f0 : List Int} {f1 : Int} {f2 : Int} (h : IsS57 w0 W g f0 f1 f2) : g < W.heap.size := by
 obtain ⟨A0, c0, hb, hg, hr0⟩ := h; exact blk_lt hb
theorem IsS57.ge {w0 W : World} {g : Nat} {f0 : List Int} {f1 : Int} {f2 : Int} (h : IsS57 w0 W g f0 f1 f2) : w0.heap.size ≤ g := by
 obtain ⟨A0, c0, hb, hg, hr0⟩ := h; exact hg
theorem IsS57.ne_blk {w0 W : World} {g : Nat} {f0 : List Int} {f1 : Int} {f2 : Int} {a : Nat} {cs : Array Value} {t : TypeId} {fr : Nat × Nat} (h : IsS57 w0 W g f0 f1 f2) (hb2 : W.heap[a]? = some (.cells cs t fr)) (ht : t ≠ 57) : g ≠ a := by
 obtain ⟨A0, c0, hb, hg, hr0⟩ := h; rintro rfl; rw [hb] at hb2; (injection hb2 with hb2); (injection hb2 with _ ht2); exact ht ht2.symm
theorem IsS57.far {w0 W : World} {g : Nat} {f0 : List Int} {f1 : Int} {f2 : Int} {p : Addr} (h : IsS57 w0 W g f0 f1 f2) (hne : g ≠ p.block) (u : Value) : IsS57 w0 (W.setCell p u) g f0 f1 f2 := by
 obtain ⟨A0, c0, hb, hg, hr0⟩ := h; exact ⟨A0, c0, blk_far hb hne u, hg, hr0⟩
theorem cellS57_0 {W : World} {g : Nat} {A0 : Option Addr} {c0 : Nat} {f0 : List Int} {f1 : Int} {f2 : Int} (h : W.heap[g]? = some (.cells #[.slice A0 f0.length c0, .int .i64 f1, .int .u64 f2] 57 (0, 0))) : W.cell? ⟨g, 0, none⟩ = some (.slice A0 f0.length c0) := (blk_cell h 0).trans rfl
theorem cellS57_1 {W : World} {g : Nat} {A0 : Option Addr} {c0 : Nat} {f0 : List Int} {f1 : Int} {f2 : Int} (h : W.heap[g]? = some (.cells #[.slice A0 f0.length c0, .int .i64 f1, .int .u64 f2] 57 (0, 0))) : W.cell? ⟨g, 1, none⟩ = some (.int .i64 f1) := (blk_cell h 1).trans rfl
theorem IsS57.set_1 {w0 W : World} {g : Nat} {f0 : List Int} {f1 : Int} {f2 : Int} (h : IsS57 w0 W g f0 f1 f2) (x : Int) : IsS57 w0 (W.setCell ⟨g, 1, none⟩ (.int .i64 x)) g f0 x f2 := by
 obtain ⟨A0, c0, hb, hg, hr0⟩ := h; exact ⟨A0, c0, by simpa using blk_set hb 1 (.int .i64 x), hg, hr0⟩
theorem cellS57_2 {W : World} {g : Nat} {A0 : Option Addr} {c0 : Nat} {f0 : List Int} {f1 : Int} {f2 : Int} (h : W.heap[g]? = some (.cells #[.slice A0 f0.length c0, .int .i64 f1, .int .u64 f2] 57 (0, 0))) : W.cell? ⟨g, 2, none⟩ = some (.int .u64 f2) := (blk_cell h 2).trans rfl
theorem IsS57.set_2 {w0 W : World} {g : Nat} {f0 : List Int} {f1 : Int} {f2 : Int} (h : IsS57 w0 W g f0 f1 f2) (x : Int) : IsS57 w0 (W.setCell ⟨g, 2, none⟩ (.int .u64 x)) g f0 f1 x := by
 obtain ⟨A0, c0, hb, hg, hr0⟩ := h; exact ⟨A0, c0, by simpa using blk_set hb 2 (.int .u64 x), hg, hr0⟩
theorem IsS57.new (w0 W : World) (A0 : Option Addr) (c0 : Nat) (f0 : List Int) (f1 : Int) (f2 : Int) (hB : Below w0.heap.size w0 W) (hr0 : Kd.C (Kd.int .u8) w0 A0 f0.length f0) : IsS57 w0 (W.alloc (.cells #[.slice A0 f0.length c0, .int .i64 f1, .int .u64 f2] 57)) W.heap.size f0 f1 f2 := ⟨A0, c0, by simpa using heap_alloc_new W _, hB.size, hr0⟩

theorem iS {w0 W0 W : World} {g : Nat} {f0 : List Int} {f1 x1 f2 x2 : Int} (h : IsS57 w0 W0 g f0 f1 f2) (e : IsS57 w0 W0 g f0 f1 f2 → IsS57 w0 W g f0 x1 x2 := by intro h; repeat (first | (with_reducible first | exact h | apply IsS57.alloc | apply IsS57.drewN | apply IsS57.drew | apply IsS57.set_1 | apply IsS57.set_2) | exact h)) : IsS57 w0 W g f0 x1 x2 := e h
theorem iS1 {w0 W0 W : World} {g : Nat} {f0 : List Int} {f1 x1 f2 x2 : Int} {P : Prop} (h : IsS57 w0 W0 g f0 f1 f2) (p : P) (e : P → IsS57 w0 W0 g f0 f1 f2 → IsS57 w0 W g f0 x1 x2 := by intro p h; repeat (first | (with_reducible first | exact h | apply IsS57.alloc | apply IsS57.drewN | apply IsS57.drew | apply IsS57.set_1 | apply IsS57.set_2 | refine IsS57.far ?_ p _) | exact h)) : IsS57 w0 W g f0 x1 x2 := e p h
end Go.Proofs.Ytbphdjnainlbhaa.R
