-- printed by wip/drv/xprint.py (our driver), shortened by wip/drv/squeeze.py: those functions that the claim reaches; Lean checks it
import Derived.Test.YtjgkcknopnollaaGreatProg
import Derived.Below
import Derived.Deep.Draws
import Derived.Deep.AppendLies
import Derived.Maps.AppendAt
import Derived.OwnWalk
import Derived.Laws.BytesArg
import Derived.Laws.MakeOwn
import Derived.Laws.OwnMore
import Derived.Deep.OwnRows
import Derived.Tactics
import Derived.Lib.ConvBytes
import Derived.Laws.Slices
import Derived.WalkKit
import Derived.KernelRfl
import Derived.RowKit3
import Derived.Deep.LoopGhost
import Derived.Deep.QuietTactic
import Derived.BigQuiet
import Derived.WideLaws
import Derived.Deep.DeepCutAuto
import Derived.Deep.CutBlock
import Derived.Deep.RegionHeld3
import Derived.Laws.Rows
import Derived.Lib.AppendStr
import Derived.ArgAppend
import Derived.Laws.IdiomCopy
import Derived.OrdersHeld
import Derived.Laws.BitsLemmas
import Derived.RowKit
import Derived.Lib.SliceRun
import Derived.Laws.CopyOwn
import Derived.Deep.RegionLaw
import Derived.Deep.DeepMust
import Derived.Lib.Small
import Derived.Lib.Walk
import Derived.Lib.BitFns
import Derived.WalkSpells
import Derived.Test.YtjgkcknopnollaaGreatRowsS
import Derived.Test.YtjgkcknopnollaaGreatSortS
import Derived.Test.YtjgkcknopnollaaGreatDelS
import Derived.Test.YtjgkcknopnollaaGreatInsR
import Derived.Test.YtjgkcknopnollaaGreatShelf
import Derived.Test.YtjgkcknopnollaaGreatWWords
import Derived.Test.YtjgkcknopnollaaGreatWLast
import Derived.Test.YtjgkcknopnollaaGreatWTab
import Derived.Test.YtjgkcknopnollaaGreatWFour
import Derived.Test.YtjgkcknopnollaaGreatWQPut
import Derived.Test.YtjgkcknopnollaaGreatWApart
import Derived.Test.YtjgkcknopnollaaGreatWArr
import Derived.Test.YtjgkcknopnollaaGreatWZeros
import Derived.Test.YtjgkcknopnollaaGreatWFoot
import Derived.Test.YtjgkcknopnollaaGreatWKept
import Derived.Test.YtjgkcknopnollaaGreatWShare
import Derived.Test.YtjgkcknopnollaaGreatWN
import Derived.Test.YtjgkcknopnollaaGreatWFootNe
import Derived.Test.YtjgkcknopnollaaGreatWAt
import Derived.Test.YtjgkcknopnollaaGreatWEqStruct
import Derived.Test.YtjgkcknopnollaaGreatWRepsOne
import Derived.Test.YtjgkcknopnollaaGreatWInv
import Derived.Test.YtjgkcknopnollaaGreatWInvWords
import Derived.Test.YtjgkcknopnollaaGreatWGuard
import Derived.Test.YtjgkcknopnollaaGreatWNEv
import Derived.Test.YtjgkcknopnollaaGreatWMore
import Derived.Test.YtjgkcknopnollaaGreatShort
import Derived.Test.YtjgkcknopnollaaGreatShort2
namespace Go.Proofs.YtjgkcknopnollaaGreat.C
open Go.Proofs.YtjgkcknopnollaaGreat.Short Go.RowKit Go.Proofs.YtjgkcknopnollaaGreatW.PrintWords Go.Proofs.YtjgkcknopnollaaGreatW.PrintLast Go.Proofs.YtjgkcknopnollaaGreatW.PrintMore
attribute [local go_sem] max2_int min2_int max_two min_two max_three min_three max_four min_four   -- for this text's walks alone
set_option linter.unusedVariables false
set_option linter.unusedSimpArgs false



set_option maxHeartbeats 8000000
set_option maxRecDepth 100000
def errW : Option Int → Value
  | none => .nilIface
  | some c => .iface 0 (.int .i64 c)
theorem errW_none : errW none = .nilIface := rfl
theorem errW_some (c : Int) : errW (some c) = .iface 0 (.int .i64 c) := rfl

theorem info3 : (Tryz.prog.info? 3).map (fun i => (i.zero, i.size, i.bytes)) = some (some (.int .i64 0), 1, 8) := by kernel_rfl
theorem info5 : (Tryz.prog.info? 5).map (fun i => (i.zero, i.size, i.bytes)) = some (some (.int .u8 0), 1, 1) := by kernel_rfl
theorem info31 : (Tryz.prog.info? 31).map (fun i => (i.zero, i.size, i.bytes)) = some (some (.slice none 0 0), 1, 24) := by kernel_rfl
-- the values' own types
def rd_L3 (xs : List (List Int)) (i : Int) : (List Int) := xs.getD i.toNat ([] : List Int)
theorem at_L3 {w : World} {A : Option Addr} {n : Nat} {xs : List (List Int)} (h : Kd.C (Kd.slice 3 (Kd.int .i64)) w A n xs) (i : Int) (h0 : 0 ≤ i) (h1 : i < n) : ∃ ad A0 c0, A = some ad ∧ w.cell? (ad.add i.toNat) = some (.slice A0 (rd_L3 xs i).length c0) ∧ (rd_L3 xs i).length ≤ c0 ∧ (Kd.int .i64).C w A0 (rd_L3 xs i).length (rd_L3 xs i) := by
  obtain ⟨ad, c, e, _, hK, hc0⟩ := Kd.C_get h ([] : List Int) i h0 h1
  have hc : ∀ j u, c[j]? = some u → w.cell? (ad.add (i.toNat * 1 + j)) = some u := hc0
  obtain ⟨A0, c0, rfl, l0, g0⟩ := hK
  exact ⟨ad, A0, c0, e, by have hq := hc 0 _ rfl; rwa [Nat.mul_one, Nat.add_zero] at hq, l0, g0⟩

def rd_L5 (xs : List (List (List Int))) (i : Int) : (List (List Int)) := xs.getD i.toNat ([] : List (List Int))
theorem at_L5 {w : World} {A : Option Addr} {n : Nat} {xs : List (List (List Int))} (h : Kd.C (Kd.slice 31 (Kd.slice 3 (Kd.int .i64))) w A n xs) (i : Int) (h0 : 0 ≤ i) (h1 : i < n) : ∃ ad A0 c0, A = some ad ∧ w.cell? (ad.add i.toNat) = some (.slice A0 (rd_L5 xs i).length c0) ∧ (rd_L5 xs i).length ≤ c0 ∧ (Kd.slice 3 (Kd.int .i64)).C w A0 (rd_L5 xs i).length (rd_L5 xs i) := by
  obtain ⟨ad, c, e, _, hK, hc0⟩ := Kd.C_get h ([] : List (List Int)) i h0 h1
  have hc : ∀ j u, c[j]? = some u → w.cell? (ad.add (i.toNat * 1 + j)) = some u := hc0
  obtain ⟨A0, c0, rfl, l0, g0⟩ := hK
  exact ⟨ad, A0, c0, e, by have hq := hc 0 _ rfl; rwa [Nat.mul_one, Nat.add_zero] at hq, l0, g0⟩
theorem sr {p : Prop} (h : p := by first | rfl | (simp [errW_none, errW_some] <;> rfl) | (simp [*, errW_none, errW_some] <;> rfl)) : p := h
/-! ### laws_big: function 5 -/
def laws_big.f (l0 : List Int) (l1 : List Int) : Option (Bool) := if (l0.length : Int) > 1048576 then (some true) else (some (decide ((l1.length : Int) > (wrap64 (1048576 - (l0.length : Int))))))
theorem laws_big.calls (A0 : Option Addr) (c0 : Nat) (l0 : List Int) (A1 : Option Addr) (c1 : Nat) (l1 : List Int) (r : Bool) (w : World) (hr0 : Kd.C (Kd.int .u8) w A0 l0.length l0) (hc0 : l0.length ≤ c0) (hr1 : Kd.C (Kd.int .u8) w A1 l1.length l1) (hc1 : l1.length ≤ c1) (h : laws_big.f l0 l1 = some r) :
  Calls Tryz.prog 5 #[.slice A0 l0.length c0, .slice A1 l1.length c1] w fun e w' => e = .returned (.bool r) ∧ Drawn0 w w' := by
 have HR0 := Aside0.mk hr0; have HC0 := Aside0.mk hc0; clear hr0 hc0; have HR1 := Aside0.mk hr1; have HC1 := Aside0.mk hc1; clear hr1 hc1; have H : (if (l0.length : Int) > 1048576 then (some true) else (some (decide ((l1.length : Int) > (wrap64 (1048576 - (l0.length : Int))))))) = some r := h; clear h
 by_cases c3 : (l0.length : Int) > 1048576
 ·rw [if_pos c3] at H; have c3b0 := decide_eq_true c3; have c3b1 : decide (1048576 < l0.length) = true := decide_eq_true (by omega); clear c3; obtain rfl := Option.some.inj H; go_enter Tryz.func5, Tryz.ntmps5; go_wp2; go_ret; exact ⟨sr2, by repeat (first | exact Drawn0.refl _ | apply Drawn0.step)⟩
 rw [if_neg c3] at H; have c3b0 := decide_eq_false c3; have c3b1 : decide (1048576 < l0.length) = false := decide_eq_false (by omega); clear c3; obtain rfl := Option.some.inj H; go_enter Tryz.func5, Tryz.ntmps5; go_wp2; go_ret; exact ⟨sr2, by repeat (first | exact Drawn0.refl _ | apply Drawn0.step)⟩

/-- A state of type 51 at block g of W; what its slices lead to came in by w0. -/
def IsS51 (w0 W : World) (g : Nat) (f0 : List Int) (f1 : Int) (f2 : Int) : Prop := ∃ A0 c0, W.heap[g]? = some (.cells #[.slice A0 f0.length c0, .int .i64 f1, .int .u64 f2] 51 (0, 0)) ∧ w0.heap.size ≤ g ∧ Kd.C (Kd.int .u8) w0 A0 f0.length f0
theorem IsS51.grown {w0 W : World} {g : Nat} {f0 : List Int} {f1 : Int} {f2 : Int} {W1 : World} {row : Option Nat} (h : IsS51 w0 W g f0 f1 f2) (hw : W.grownBy W1 row) (hne : some g ≠ row) : IsS51 w0 W1 g f0 f1 f2 := by
 obtain ⟨A0, c0, hb, hg, hr0⟩ := h; exact ⟨A0, c0, blk_grown hb hw hne, hg, hr0⟩
theorem IsS51.own_neN {w0 W : World} {g : Nat} {f0 : List Int} {f1 : Int} {f2 : Int} {α : Type} {d : Kd α} {e : Nat} {base : Nat} {ok : Nat → Prop} {v : Value} {xs : List α} (h : IsS51 w0 W g f0 f1 f2) (ho : Kd.N d e W base ok v xs) (ht : e ≠ 51) : some g ≠ v.ownBlock := by
 obtain ⟨A0, c0, hb, hg, hr0⟩ := h; exact Kd.N_ne ho hb ht
theorem IsS51.fresh {w0 W : World} {g : Nat} {f0 : List Int} {f1 : Int} {f2 : Int} (h : IsS51 w0 W g f0 f1 f2) : ∀ k, W.heap.size ≤ k → k ≠ g := by
 obtain ⟨A0, c0, hb, hg, hr0⟩ := h; exact Kd.freshB hb
theorem IsS51.kept {w0 W : World} {g : Nat} {f0 : List Int} {f1 : Int} {f2 : Int} {W1 : World} {S : Nat → Prop} (h : IsS51 w0 W g f0 f1 f2) (hk : Kept W W1 S) (hne : ¬ S g) : IsS51 w0 W1 g f0 f1 f2 := by
 obtain ⟨A0, c0, hb, hg, hr0⟩ := h; exact ⟨A0, c0, blk_kept hb hk hne, hg, hr0⟩
theorem IsS51.below {w0 W : World} {g : Nat} {f0 : List Int} {f1 : Int} {f2 : Int} {W1 : World} (h : IsS51 w0 W g f0 f1 f2) (hw : Below W.heap.size W W1) : IsS51 w0 W1 g f0 f1 f2 := h.grown (grown_of_below hw none) (by simp)
theorem IsS51.alloc {w0 W : World} {g : Nat} {f0 : List Int} {f1 : Int} {f2 : Int} (h : IsS51 w0 W g f0 f1 f2) (o : Obj) : IsS51 w0 (W.alloc o) g f0 f1 f2 := h.below (below_alloc (Below.refl _ _) o)
theorem IsS51.drewN {w0 W : World} {g : Nat} {f0 : List Int} {f1 : Int} {f2 : Int} (h : IsS51 w0 W g f0 f1 f2) (m : Nat) : IsS51 w0 (W.drewN m) g f0 f1 f2 := h
theorem IsS51.drew {w0 W : World} {g : Nat} {f0 : List Int} {f1 : Int} {f2 : Int} (h : IsS51 w0 W g f0 f1 f2) : IsS51 w0 W.drew g f0 f1 f2 := h
theorem IsS51.at_ {w0 W : World} {g : Nat} {f0 : List Int} {f1 : Int} {f2 : Int} {w' : World} {m : Nat} (hq : W.drewN m = w') (h : IsS51 w0 W g f0 f1 f2) : IsS51 w0 w' g f0 f1 f2 := by subst hq; exact IsS51.drewN h m
theorem IsS51.apart {w0 W : World} {g : Nat} {f0 : List Int} {f1 : Int} {f2 : Int} {α : Type} {d : Kd α} {e : Nat} {base : Nat} {ok : Nat → Prop} {v : Value} {xs : List α} (h : IsS51 w0 W g f0 f1 f2) (ho : d.R e W base ok v xs) (ht : ∀ q, q ∈ e :: d.E → q ≠ 51) : d.R e W base (fun k => ok k ∧ k ≠ g) v xs := by
 obtain ⟨A0, c0, hb, hg, hr0⟩ := h; exact Kd.R_types ho hb ht
theorem IsS51.own_ne {w0 W : World} {g : Nat} {f0 : List Int} {f1 : Int} {f2 : Int} {α : Type} {d : Kd α} {e : Nat} {base : Nat} {ok : Nat → Prop} {v : Value} {xs : List α} (h : IsS51 w0 W g f0 f1 f2) (ho : d.R e W base ok v xs) (ht : e ≠ 51) : some g ≠ v.ownBlock := by
 obtain ⟨A0, c0, hb, hg, hr0⟩ := h; exact Kd.R_ne ho hb ht
theorem IsS51.apartQ {w0 W : World} {g : Nat} {f0 : List Int} {f1 : Int} {f2 : Int} {α : Type} {d : Kd α} {e : Nat} {base : Nat} {ok : Nat → Prop} {v : Value} {xs : List α} (h : IsS51 w0 W g f0 f1 f2) (ho : d.Q e W base ok v xs) (ht : ∀ q, q ∈ e :: d.E → q ≠ 51) : d.Q e W base (fun k => ok k ∧ k ≠ g) v xs := by
 obtain ⟨A0, c0, hb, hg, hr0⟩ := h; exact Kd.Q_types ho hb ht
theorem IsS51.own_neQ {w0 W : World} {g : Nat} {f0 : List Int} {f1 : Int} {f2 : Int} {α : Type} {d : Kd α} {e : Nat} {base : Nat} {ok : Nat → Prop} {v : Value} {xs : List α} (h : IsS51 w0 W g f0 f1 f2) (ho : d.Q e W base ok v xs) (ht : e ≠ 51) : some g ≠ v.ownBlock := by
 obtain ⟨A0, c0, hb, hg, hr0⟩ := h; exact Kd.Q_ne ho hb ht
theorem IsS51.apartS {w0 W : World} {g : Nat} {f0 : List Int} {f1 : Int} {f2 : Int} {α : Type} {d : Kd α} {e : Nat} {base : Nat} {ok : Nat → Prop} {v : Value} {xs : List α} (h : IsS51 w0 W g f0 f1 f2) (ho : d.S e W base ok v xs) (ht : ∀ q, q ∈ e :: d.E → q ≠ 51) : d.S e W base (fun k => ok k ∧ k ≠ g) v xs := by
 obtain ⟨A0, c0, hb, hg, hr0⟩ := h; exact Kd.S_types ho hb ht
theorem IsS51.own_neS {w0 W : World} {g : Nat} {f0 : List Int} {f1 : Int} {f2 : Int} {α : Type} {d : Kd α} {e : Nat} {base : Nat} {ok : Nat → Prop} {v : Value} {xs : List α} (h : IsS51 w0 W g f0 f1 f2) (ho : d.S e W base ok v xs) (ht : e ≠ 51) : some g ≠ v.ownBlock := by
 obtain ⟨A0, c0, hb, hg, hr0⟩ := h; exact Kd.S_ne ho hb ht
theorem IsS51.lt {w0 W : World} {g : Nat} {f0 : List Int} {f1 : Int} {f2 : Int} (h : IsS51 w0 W g f0 f1 f2) : g < W.heap.size := by
 obtain ⟨A0, c0, hb, hg, hr0⟩ := h; exact blk_lt hb
theorem IsS51.ge {w0 W : World} {g : Nat} {f0 : List Int} {f1 : Int} {f2 : Int} (h : IsS51 w0 W g f0 f1 f2) : w0.heap.size ≤ g := by
 obtain ⟨A0, c0, hb, hg, hr0⟩ := h; exact hg
theorem IsS51.ne_blk {w0 W : World} {g : Nat} {f0 : List Int} {f1 : Int} {f2 : Int} {a : Nat} {cs : Array Value} {t : TypeId} {fr : Nat × Nat} (h : IsS51 w0 W g f0 f1 f2) (hb2 : W.heap[a]? = some (.cells cs t fr)) (ht : t ≠ 51) : g ≠ a := by
 obtain ⟨A0, c0, hb, hg, hr0⟩ := h; rintro rfl; rw [hb] at hb2; (injection hb2 with hb2); (injection hb2 with _ ht2); exact ht ht2.symm
theorem IsS51.far {w0 W : World} {g : Nat} {f0 : List Int} {f1 : Int} {f2 : Int} {p : Addr} (h : IsS51 w0 W g f0 f1 f2) (hne : g ≠ p.block) (u : Value) : IsS51 w0 (W.setCell p u) g f0 f1 f2 := by
 obtain ⟨A0, c0, hb, hg, hr0⟩ := h; exact ⟨A0, c0, blk_far hb hne u, hg, hr0⟩
theorem cellS51_0 {W : World} {g : Nat} {A0 : Option Addr} {c0 : Nat} {f0 : List Int} {f1 : Int} {f2 : Int} (h : W.heap[g]? = some (.cells #[.slice A0 f0.length c0, .int .i64 f1, .int .u64 f2] 51 (0, 0))) : W.cell? ⟨g, 0, none⟩ = some (.slice A0 f0.length c0) := (blk_cell h 0).trans rfl
theorem cellS51_1 {W : World} {g : Nat} {A0 : Option Addr} {c0 : Nat} {f0 : List Int} {f1 : Int} {f2 : Int} (h : W.heap[g]? = some (.cells #[.slice A0 f0.length c0, .int .i64 f1, .int .u64 f2] 51 (0, 0))) : W.cell? ⟨g, 1, none⟩ = some (.int .i64 f1) := (blk_cell h 1).trans rfl
theorem IsS51.set_1 {w0 W : World} {g : Nat} {f0 : List Int} {f1 : Int} {f2 : Int} (h : IsS51 w0 W g f0 f1 f2) (x : Int) : IsS51 w0 (W.setCell ⟨g, 1, none⟩ (.int .i64 x)) g f0 x f2 := by
 obtain ⟨A0, c0, hb, hg, hr0⟩ := h; exact ⟨A0, c0, by simpa using blk_set hb 1 (.int .i64 x), hg, hr0⟩
theorem cellS51_2 {W : World} {g : Nat} {A0 : Option Addr} {c0 : Nat} {f0 : List Int} {f1 : Int} {f2 : Int} (h : W.heap[g]? = some (.cells #[.slice A0 f0.length c0, .int .i64 f1, .int .u64 f2] 51 (0, 0))) : W.cell? ⟨g, 2, none⟩ = some (.int .u64 f2) := (blk_cell h 2).trans rfl
theorem IsS51.set_2 {w0 W : World} {g : Nat} {f0 : List Int} {f1 : Int} {f2 : Int} (h : IsS51 w0 W g f0 f1 f2) (x : Int) : IsS51 w0 (W.setCell ⟨g, 2, none⟩ (.int .u64 x)) g f0 f1 x := by
 obtain ⟨A0, c0, hb, hg, hr0⟩ := h; exact ⟨A0, c0, by simpa using blk_set hb 2 (.int .u64 x), hg, hr0⟩
theorem IsS51.new (w0 W : World) (A0 : Option Addr) (c0 : Nat) (f0 : List Int) (f1 : Int) (f2 : Int) (hB : Below w0.heap.size w0 W) (hr0 : Kd.C (Kd.int .u8) w0 A0 f0.length f0) : IsS51 w0 (W.alloc (.cells #[.slice A0 f0.length c0, .int .i64 f1, .int .u64 f2] 51)) W.heap.size f0 f1 f2 := ⟨A0, c0, by simpa using heap_alloc_new W _, hB.size, hr0⟩

theorem iS {w0 W0 W : World} {g : Nat} {f0 : List Int} {f1 x1 f2 x2 : Int} (h : IsS51 w0 W0 g f0 f1 f2) (e : IsS51 w0 W0 g f0 f1 f2 → IsS51 w0 W g f0 x1 x2 := by intro h; repeat (first | (with_reducible first | exact h | apply IsS51.alloc | apply IsS51.drewN | apply IsS51.drew | apply IsS51.set_1 | apply IsS51.set_2) | exact h)) : IsS51 w0 W g f0 x1 x2 := e h
theorem iS1 {w0 W0 W : World} {g : Nat} {f0 : List Int} {f1 x1 f2 x2 : Int} {P : Prop} (h : IsS51 w0 W0 g f0 f1 f2) (p : P) (e : P → IsS51 w0 W0 g f0 f1 f2 → IsS51 w0 W g f0 x1 x2 := by intro p h; repeat (first | (with_reducible first | exact h | apply IsS51.alloc | apply IsS51.drewN | apply IsS51.drew | apply IsS51.set_1 | apply IsS51.set_2 | refine IsS51.far ?_ p _) | exact h)) : IsS51 w0 W g f0 x1 x2 := e p h
/-! ### spec_l1Cur_next: function 105 -/
def spec_l1Cur_next.f (s0_0 : List Int) (s0_1 : Int) (s0_2 : Int) : Option (Int × Int × Int) := if s0_1 < (s0_0.length : Int) then (if 0 ≤ s0_1 then (if (wrap64 (s0_1 + 1)) ≤ (s0_0.length : Int) then (some (wrap64 (rd s0_0 s0_1), wrap64 (s0_1 + 1), IntKind.u64.wrap ((IntKind.u64.wrap ((IntKind.u64.wrap (s0_2 * 6364136223846793005)) + (IntKind.u64.wrap (wrap64 (rd s0_0 s0_1))))) + 1442695040888963407))) else (some (wrap64 (Go.bits .and .u64 ((IntKind.u64.wrap ((IntKind.u64.wrap ((IntKind.u64.wrap (s0_2 * 6364136223846793005)) + (IntKind.u64.wrap (wrap64 (rd s0_0 s0_1))))) + 1442695040888963407)) / 1099511627776) 255), wrap64 (s0_1 + 1), IntKind.u64.wrap ((IntKind.u64.wrap ((IntKind.u64.wrap (s0_2 * 6364136223846793005)) + (IntKind.u64.wrap (wrap64 (rd s0_0 s0_1))))) + 1442695040888963407)))) else (none)) else (if (wrap64 (s0_1 + 1)) ≤ (s0_0.length : Int) then (some (0, wrap64 (s0_1 + 1), IntKind.u64.wrap ((IntKind.u64.wrap ((IntKind.u64.wrap (s0_2 * 6364136223846793005)) + 0)) + 1442695040888963407))) else (some (wrap64 (Go.bits .and .u64 ((IntKind.u64.wrap ((IntKind.u64.wrap ((IntKind.u64.wrap (s0_2 * 6364136223846793005)) + 0)) + 1442695040888963407)) / 1099511627776) 255), wrap64 (s0_1 + 1), IntKind.u64.wrap ((IntKind.u64.wrap ((IntKind.u64.wrap (s0_2 * 6364136223846793005)) + 0)) + 1442695040888963407))))
theorem spec_l1Cur_next.calls (g : Nat) (s0_0 : List Int) (s0_1 : Int) (s0_2 : Int) (r1 : Int) (r2 : Int) (r3 : Int) (w0 w : World) (hI : IsS51 w0 w g s0_0 s0_1 s0_2) (hB : Below w0.heap.size w0 w) (h : spec_l1Cur_next.f s0_0 s0_1 s0_2 = some (r1, r2, r3)) :
  Calls Tryz.prog 105 #[.pointer (some ⟨g, 0, none⟩)] w fun e w' => e = .returned (.int .i64 r1) ∧ IsS51 w0 w' g s0_0 r2 r3 ∧ Below w0.heap.size w0 w' ∧ KeepBut w w' g none := by
 have HI0 := Aside0.mk hI; have HK := Aside0.mk (KeepBut.refl w g none); have HL := Aside0.mk hB.size; clear hI; have HW0 := Aside0.mk hB.size; have HB := Aside0.mk hB; clear hB; have H : (if s0_1 < (s0_0.length : Int) then (if 0 ≤ s0_1 then (if (wrap64 (s0_1 + 1)) ≤ (s0_0.length : Int) then (some (wrap64 (rd s0_0 s0_1), wrap64 (s0_1 + 1), IntKind.u64.wrap ((IntKind.u64.wrap ((IntKind.u64.wrap (s0_2 * 6364136223846793005)) + (IntKind.u64.wrap (wrap64 (rd s0_0 s0_1))))) + 1442695040888963407))) else (some (wrap64 (Go.bits .and .u64 ((IntKind.u64.wrap ((IntKind.u64.wrap ((IntKind.u64.wrap (s0_2 * 6364136223846793005)) + (IntKind.u64.wrap (wrap64 (rd s0_0 s0_1))))) + 1442695040888963407)) / 1099511627776) 255), wrap64 (s0_1 + 1), IntKind.u64.wrap ((IntKind.u64.wrap ((IntKind.u64.wrap (s0_2 * 6364136223846793005)) + (IntKind.u64.wrap (wrap64 (rd s0_0 s0_1))))) + 1442695040888963407)))) else (none)) else (if (wrap64 (s0_1 + 1)) ≤ (s0_0.length : Int) then (some (0, wrap64 (s0_1 + 1), IntKind.u64.wrap ((IntKind.u64.wrap ((IntKind.u64.wrap (s0_2 * 6364136223846793005)) + 0)) + 1442695040888963407))) else (some (wrap64 (Go.bits .and .u64 ((IntKind.u64.wrap ((IntKind.u64.wrap ((IntKind.u64.wrap (s0_2 * 6364136223846793005)) + 0)) + 1442695040888963407)) / 1099511627776) 255), wrap64 (s0_1 + 1), IntKind.u64.wrap ((IntKind.u64.wrap ((IntKind.u64.wrap (s0_2 * 6364136223846793005)) + 0)) + 1442695040888963407))))) = some (r1, r2, r3) := h; clear h
 by_cases c2 : s0_1 < (s0_0.length : Int)
 ·rw [if_pos c2] at H; have c2b0 := decide_eq_true c2; clear c2
  by_cases c3 : 0 ≤ s0_1
  ·rw [if_pos c3] at H; have c3b0 := decide_eq_true c3; clear c3
   by_cases c4 : (wrap64 (s0_1 + 1)) ≤ (s0_0.length : Int)
   ·rw [if_pos c4] at H; have c4b0 := decide_eq_true c4; clear c4; simp only [Option.some.injEq, Prod.mk.injEq, Int.add_zero] at H; obtain ⟨rfl, rfl, rfl⟩ := H; obtain ⟨ASz5_0, cSz5_0, HGz5, hgz5, HSz5_0⟩ := HI0.out; have hcz5_0 := cellS51_0 HGz5; have hcz5_1 := cellS51_1 HGz5; have hcz5_2 := cellS51_2 HGz5; have hfz5_1 := blk_frozen HGz5 1; have hfz5_2 := blk_frozen HGz5 2; clear HGz5 hgz5; obtain ⟨ad101, e101, hx101_0, p101, q101⟩ := atI HSz5_0 s0_1; cases e101; replace hx101_0 := pw_cell_below HB.out hx101_0; go_enter Tryz.func105, Tryz.ntmps105; go_wp2
    repeat (go_quiet (fail); try go_wp2)
    go_ret; exact ⟨sr, iS HI0.out, bs1 HB.out (IsS51.ge HI0.out), kb HK.out⟩
   rw [if_neg c4] at H; have c4b0 := decide_eq_false c4; clear c4; simp only [Option.some.injEq, Prod.mk.injEq, Int.add_zero] at H; obtain ⟨rfl, rfl, rfl⟩ := H; obtain ⟨ASz6_0, cSz6_0, HGz6, hgz6, HSz6_0⟩ := HI0.out; have hcz6_0 := cellS51_0 HGz6; have hcz6_1 := cellS51_1 HGz6; have hcz6_2 := cellS51_2 HGz6; have hfz6_1 := blk_frozen HGz6 1; have hfz6_2 := blk_frozen HGz6 2; clear HGz6 hgz6; obtain ⟨ad101, e101, hx101_0, p101, q101⟩ := atI HSz6_0 s0_1; cases e101; replace hx101_0 := pw_cell_below HB.out hx101_0; go_enter Tryz.func105, Tryz.ntmps105; go_wp2
   repeat (go_quiet (fail); try go_wp2)
   go_ret; exact ⟨sr, iS HI0.out, bs1 HB.out (IsS51.ge HI0.out), kb HK.out⟩
  rw [if_neg c3] at H; exact absurd H (by simp)
 rw [if_neg c2] at H; have c2b0 := decide_eq_false c2; clear c2
 by_cases c7 : (wrap64 (s0_1 + 1)) ≤ (s0_0.length : Int)
 ·rw [if_pos c7] at H; have c7b0 := decide_eq_true c7; clear c7; simp only [Option.some.injEq, Prod.mk.injEq, Int.add_zero] at H; obtain ⟨rfl, rfl, rfl⟩ := H; obtain ⟨ASz8_0, cSz8_0, HGz8, hgz8, HSz8_0⟩ := HI0.out; have hcz8_0 := cellS51_0 HGz8; have hcz8_1 := cellS51_1 HGz8; have hcz8_2 := cellS51_2 HGz8; have hfz8_1 := blk_frozen HGz8 1; have hfz8_2 := blk_frozen HGz8 2; clear HGz8 hgz8; go_enter Tryz.func105, Tryz.ntmps105; go_wp2
  repeat (go_quiet (fail); try go_wp2)
  go_ret; exact ⟨sr, iS HI0.out, bs1 HB.out (IsS51.ge HI0.out), kb HK.out⟩
 rw [if_neg c7] at H; have c7b0 := decide_eq_false c7; clear c7; simp only [Option.some.injEq, Prod.mk.injEq, Int.add_zero] at H; obtain ⟨rfl, rfl, rfl⟩ := H; obtain ⟨ASz9_0, cSz9_0, HGz9, hgz9, HSz9_0⟩ := HI0.out; have hcz9_0 := cellS51_0 HGz9; have hcz9_1 := cellS51_1 HGz9; have hcz9_2 := cellS51_2 HGz9; have hfz9_1 := blk_frozen HGz9 1; have hfz9_2 := blk_frozen HGz9 2; clear HGz9 hgz9; go_enter Tryz.func105, Tryz.ntmps105; go_wp2
 repeat (go_quiet (fail); try go_wp2)
 go_ret; exact ⟨sr, iS HI0.out, bs1 HB.out (IsS51.ge HI0.out), kb HK.out⟩
/-! ### spec_l1Cur_pick: function 82 -/
def spec_l1Cur_pick.f (s0_0 : List Int) (s0_1 : Int) (s0_2 : Int) (a1 : Int) : Option (Int × Int × Int) := if a1 ≤ 1 then (some (0, s0_1, s0_2)) else ((spec_l1Cur_next.f s0_0 s0_1 s0_2).bind fun bt102 => (if a1 > 200 then ((spec_l1Cur_next.f s0_0 bt102.2.1 bt102.2.2).bind fun bt105 => (if a1 = 0 then (none) else (some (Int.tmod (wrap64 ((wrap64 (bt102.1 * 256)) + bt105.1)) a1, bt105.2.1, bt105.2.2)))) else (if a1 = 0 then (none) else (some (Int.tmod bt102.1 a1, bt102.2.1, bt102.2.2)))))
theorem spec_l1Cur_pick.calls (g : Nat) (s0_0 : List Int) (s0_1 : Int) (s0_2 : Int) (a1 : Int) (r1 : Int) (r2 : Int) (r3 : Int) (w0 w : World) (hI : IsS51 w0 w g s0_0 s0_1 s0_2) (hB : Below w0.heap.size w0 w) (h : spec_l1Cur_pick.f s0_0 s0_1 s0_2 a1 = some (r1, r2, r3)) :
  Calls Tryz.prog 82 #[.pointer (some ⟨g, 0, none⟩), .int .i64 a1] w fun e w' => e = .returned (.int .i64 r1) ∧ IsS51 w0 w' g s0_0 r2 r3 ∧ Below w0.heap.size w0 w' ∧ KeepBut w w' g none := by
 have HI0 := Aside0.mk hI; have HK := Aside0.mk (KeepBut.refl w g none); have HL := Aside0.mk hB.size; clear hI; have HW0 := Aside0.mk hB.size; have HB := Aside0.mk hB; clear hB; have H : (if a1 ≤ 1 then (some (0, s0_1, s0_2)) else ((spec_l1Cur_next.f s0_0 s0_1 s0_2).bind fun bt102 => (if a1 > 200 then ((spec_l1Cur_next.f s0_0 bt102.2.1 bt102.2.2).bind fun bt105 => (if a1 = 0 then (none) else (some (Int.tmod (wrap64 ((wrap64 (bt102.1 * 256)) + bt105.1)) a1, bt105.2.1, bt105.2.2)))) else (if a1 = 0 then (none) else (some (Int.tmod bt102.1 a1, bt102.2.1, bt102.2.2)))))) = some (r1, r2, r3) := h; clear h
 by_cases c3 : a1 ≤ 1
 ·rw [if_pos c3] at H; have c3b0 := decide_eq_true c3; clear c3; simp only [Option.some.injEq, Prod.mk.injEq] at H; obtain ⟨rfl, rfl, rfl⟩ := H; go_enter Tryz.func82, Tryz.ntmps82; go_wp2; go_ret; exact ⟨sr, iS HI0.out, bs1 HB.out (IsS51.ge HI0.out), kb HK.out⟩
 rw [if_neg c3] at H; have c3b0 := decide_eq_false c3; clear c3; obtain ⟨⟨t102, t103, t104⟩, A4, H⟩ := bi H; (try dsimp only at H)
 by_cases c5 : a1 > 200
 ·rw [if_pos c5] at H; have c5b0 := decide_eq_true c5; clear c5; obtain ⟨⟨t105, t106, t107⟩, A6, H⟩ := bi H; (try dsimp only at H)
  by_cases c7 : a1 = 0
  ·rw [if_pos c7] at H; exact absurd H (by simp)
  rw [if_neg c7] at H; have c7b0 := beq_eq_false_iff_ne.mpr c7; have c7b1 := bne_iff_ne.mpr c7; simp only [Option.some.injEq, Prod.mk.injEq] at H; obtain ⟨rfl, rfl, rfl⟩ := H; go_enter Tryz.func82, Tryz.ntmps82; go_wp2_with (first | ((with_reducible refine gate_callee (f := 105) rfl ?_); refine goesL_ (some 9) rfl rfl Tryz.func105 (by kernel_rfl) rfl #[.pointer (some ⟨g, 0, none⟩)] rfl mp ?_; (with_reducible refine (spec_l1Cur_next.calls g s0_0 s0_1 s0_2 t102 t103 t104 w0 _ ?side1 ?side2 A4.out).mono ?_); (case side1 => exact iS HI0.out); (case side2 => exact bs1 HB.out (IsS51.ge HI0.out)); rintro e w8 ⟨rfl, hi, hb, hk⟩; refine ⟨_, rfl, ?_⟩; replace HK := kt HK hk; replace HB := Aside0.mk (hb); replace HI0 := Aside0.mk (hi)) | ((with_reducible refine gate_callee (f := 105) rfl ?_); refine goesL_ (some 15) rfl rfl Tryz.func105 (by kernel_rfl) rfl #[.pointer (some ⟨g, 0, none⟩)] rfl mp ?_; (with_reducible refine (spec_l1Cur_next.calls g s0_0 t103 t104 t105 t106 t107 w0 _ ?side1 ?side2 A6.out).mono ?_); (case side1 => exact iS HI0.out); (case side2 => exact bs1 HB.out (IsS51.ge HI0.out)); rintro e w9 ⟨rfl, hi, hb, hk⟩; refine ⟨_, rfl, ?_⟩; replace HK := kt HK hk; replace HB := Aside0.mk (hb); replace HI0 := Aside0.mk (hi))); go_ret; exact ⟨sr, iS HI0.out, bs1 HB.out (IsS51.ge HI0.out), kb HK.out⟩
 rw [if_neg c5] at H; have c5b0 := decide_eq_false c5; clear c5
 by_cases c10 : a1 = 0
 ·rw [if_pos c10] at H; exact absurd H (by simp)
 rw [if_neg c10] at H; have c10b0 := beq_eq_false_iff_ne.mpr c10; have c10b1 := bne_iff_ne.mpr c10; simp only [Option.some.injEq, Prod.mk.injEq] at H; obtain ⟨rfl, rfl, rfl⟩ := H; go_enter Tryz.func82, Tryz.ntmps82; go_wp2_with (first | ((with_reducible refine gate_callee (f := 105) rfl ?_); refine goesL_ (some 9) rfl rfl Tryz.func105 (by kernel_rfl) rfl #[.pointer (some ⟨g, 0, none⟩)] rfl mp ?_; (with_reducible refine (spec_l1Cur_next.calls g s0_0 s0_1 s0_2 t102 t103 t104 w0 _ ?side1 ?side2 A4.out).mono ?_); (case side1 => exact iS HI0.out); (case side2 => exact bs1 HB.out (IsS51.ge HI0.out)); rintro e w11 ⟨rfl, hi, hb, hk⟩; refine ⟨_, rfl, ?_⟩; replace HK := kt HK hk; replace HB := Aside0.mk (hb); replace HI0 := Aside0.mk (hi))); go_ret; exact ⟨sr, iS HI0.out, bs1 HB.out (IsS51.ge HI0.out), kb HK.out⟩
/-! ### spec_l1Cur_among: function 45 -/
def spec_l1Cur_among.f (s0_0 : List Int) (s0_1 : Int) (s0_2 : Int) (l1 : List Int) : Option (Int × Int × Int) := (spec_l1Cur_pick.f s0_0 s0_1 s0_2 (l1.length : Int)).bind fun bt108 => (if 0 ≤ bt108.1 then (if bt108.1 < (l1.length : Int) then (some (rd l1 bt108.1, bt108.2.1, bt108.2.2)) else (none)) else (none))
theorem spec_l1Cur_among.calls (g : Nat) (s0_0 : List Int) (s0_1 : Int) (s0_2 : Int) (A1 : Option Addr) (c1 : Nat) (l1 : List Int) (r1 : Int) (r2 : Int) (r3 : Int) (w0 w : World) (hI : IsS51 w0 w g s0_0 s0_1 s0_2) (hB : Below w0.heap.size w0 w) (hr1 : Kd.C (Kd.int .i64) w A1 l1.length l1) (hc1 : l1.length ≤ c1) (hf1 : ∀ ad, A1 = some ad → 0 < l1.length → ad.block ≠ g) (h : spec_l1Cur_among.f s0_0 s0_1 s0_2 l1 = some (r1, r2, r3)) :
  Calls Tryz.prog 45 #[.pointer (some ⟨g, 0, none⟩), .slice A1 l1.length c1] w fun e w' => e = .returned (.int .i64 r1) ∧ IsS51 w0 w' g s0_0 r2 r3 ∧ Below w0.heap.size w0 w' ∧ KeepBut w w' g none := by
 have HR1 := Aside0.mk hr1; have HC1 := Aside0.mk hc1; clear hr1 hc1; have HI0 := Aside0.mk hI; have HK := Aside0.mk (KeepBut.refl w g none); have HL := Aside0.mk hB.size; clear hI; have HW0 := Aside0.mk hB.size; have HB := Aside0.mk hB; clear hB; have H : ((spec_l1Cur_pick.f s0_0 s0_1 s0_2 (l1.length : Int)).bind fun bt108 => (if 0 ≤ bt108.1 then (if bt108.1 < (l1.length : Int) then (some (rd l1 bt108.1, bt108.2.1, bt108.2.2)) else (none)) else (none))) = some (r1, r2, r3) := h; clear h; obtain ⟨⟨t108, t109, t110⟩, A3, H⟩ := bi H; (try dsimp only at H)
 by_cases c4 : 0 ≤ t108
 ·rw [if_pos c4] at H; have c4b0 := decide_eq_true c4; clear c4
  by_cases c5 : t108 < (l1.length : Int)
  ·rw [if_pos c5] at H; have c5b0 := decide_eq_true c5; clear c5; simp only [Option.some.injEq, Prod.mk.injEq] at H; obtain ⟨rfl, rfl, rfl⟩ := H; go_enter Tryz.func45, Tryz.ntmps45; go_wp2_with (first | (go_at_call 82; (with_reducible refine (spec_l1Cur_pick.calls g s0_0 s0_1 s0_2 (l1.length : Int) t108 t109 t110 w0 _ ?side1 (bs1 HB.out (IsS51.ge HI0.out)) A3.out).mono ?_); (case side1 => exact iS HI0.out); rintro e w6 ⟨rfl, hi, hb, hk⟩; replace HK := kt HK hk; replace HB := Aside0.mk (hb); replace HI0 := Aside0.mk (hi); have p111 : 0 ≤ (t108 : Int) := od; have q111 : t108 < (l1.length : Int) := od; obtain ⟨ad111, e111, hx111_0⟩ := Kd.at_int HR1.out t108 p111 q111; cases e111; replace hx111_0 := keep_cell HK.out hx111_0 (by first | (rw [add_block]; exact hf1 _ rfl (by omega)) | exact hf1 _ rfl (by omega) | exact hf1 ad111 rfl (by omega)); replace p111 := eq_true p111; replace q111 := eq_true q111)); go_ret; exact ⟨sr, iS HI0.out, bs1 HB.out (IsS51.ge HI0.out), kb HK.out⟩
  rw [if_neg c5] at H; exact absurd H (by simp)
 rw [if_neg c4] at H; exact absurd H (by simp)
/-! ### spec_DrawAllFoldings: function 6 -/
def spec_DrawAllFoldings.f (l0 : List Int) : Option (Int) := (spec_l1Cur_among.f l0 0 0 (([1, 2, 3, 4, 5, 6, 7, 0] : List Int))).bind fun bt116 => (some bt116.1)
theorem spec_DrawAllFoldings.calls (A0 : Option Addr) (c0 : Nat) (l0 : List Int) (r : Int) (w : World) (hr0 : Kd.C (Kd.int .u8) w A0 l0.length l0) (hc0 : l0.length ≤ c0) (h : spec_DrawAllFoldings.f l0 = some r) :
  Calls Tryz.prog 6 #[.slice A0 l0.length c0] w fun e w' => e = .returned (.int .i64 r) ∧ Below w.heap.size w w' := by
 have hu51 := Tryz.underlying51; have HR0 := Aside0.mk hr0; have HC0 := Aside0.mk hc0; clear hr0 hc0; have HB := Aside0.mk (Below.refl w.heap.size w); have H : ((spec_l1Cur_among.f l0 0 0 (([1, 2, 3, 4, 5, 6, 7, 0] : List Int))).bind fun bt116 => (some bt116.1)) = some r := h; clear h; obtain ⟨y113, hy113⟩ := yy (([1, 2, 3, 4, 5, 6, 7, 0] : List Int))
 (try rw [Option.bind_some] at H); (try dsimp only at H); rw [← hy113] at H
 have Ny113 := Aside0.mk hy113; clear hy113; obtain ⟨⟨t116, t117, t118⟩, A2, H⟩ := bi H; (try dsimp only at H); obtain rfl := Option.some.inj H; go_enter Tryz.func6, Tryz.ntmps6; go_wp2_with (first | ((with_reducible refine gate_dst (N := 6) rfl ?_); refine box_event ?hg (N := 6) ?hd (cs := #[.slice A0 l0.length c0, .int .i64 0, .int .u64 0]) (t := 51) ?hr ?_; (case hd => rfl); (case hg => rfl); (case hr => first | (go_simp; done) | (go_simp; rfl)); intro gb112 hg w3 hbox hb; have HI112 := Aside0.mk ((show IsS51 w w3 gb112 l0 0 0 from ⟨_, _, hbox, (by rw [hg]; exact (below_size (bl HB.out)) : w.heap.size ≤ gb112), HR0.out⟩)); replace HB := bst HB hb; clear hb hbox hg) | ((with_reducible refine gate_dst (N := 8) rfl ?_); refine Kd.R_lit (Kd.int .i64) _ 3 ?hg (N := 8) ?hd (xs := ([1, 2, 3, 4, 5, 6, 7, 0] : List Int)) (inner := [.int .i64 1, .int .i64 2, .int .i64 3, .int .i64 4, .int .i64 5, .int .i64 6, .int .i64 7, .int .i64 0]) (ok := fun _ => True) (okp := fun _ => True) ?hr ?hp (fun _ hk => hk) trivial (Below.refl _ _) (Nat.le_refl _) (by simp) ?_; (case hd => rfl); (case hg => rfl); (case hr => first | (go_simp; done) | (go_simp; rfl)); (case hp => exact (Reps.one (show Kd.M (Kd.int .i64) _ _ _ 1 [.int .i64 1] from rfl) (Reps.one (show Kd.M (Kd.int .i64) _ _ _ 2 [.int .i64 2] from rfl) (Reps.one (show Kd.M (Kd.int .i64) _ _ _ 3 [.int .i64 3] from rfl) (Reps.one (show Kd.M (Kd.int .i64) _ _ _ 4 [.int .i64 4] from rfl) (Reps.one (show Kd.M (Kd.int .i64) _ _ _ 5 [.int .i64 5] from rfl) (Reps.one (show Kd.M (Kd.int .i64) _ _ _ 6 [.int .i64 6] from rfl) (Reps.one (show Kd.M (Kd.int .i64) _ _ _ 7 [.int .i64 7] from rfl) (Reps.one (show Kd.M (Kd.int .i64) _ _ _ 0 [.int .i64 0] from rfl) (Reps.none _ _)))))))))); intro v114 w4 ho5 hb hg_ hnew_; clear hg_ hnew_; (first | rw [← Ny113.out] at ho5 | (simp only [Int.reduceToNat] at ho5; rw [← Ny113.out] at ho5)); have HO115 := Aside0.mk (Kd.R_lower ho5 (below_size (bs1 HB.out (IsS51.ge HI112.out)))); replace HB := Aside0.mk (below_step (bs1 HB.out (IsS51.ge HI112.out)) hb); replace HI112 := Aside0.mk (IsS51.below (iS HI112.out) hb); clear hb ho5; obtain ⟨Ao6, co6, eo6⟩ := Kd.R_slice HO115.out; subst eo6) | (go_at_call 45; (with_reducible refine (spec_l1Cur_among.calls gb112 l0 0 0 _ _ y113 t116 t117 t118 w _ ?side1 ?side2 ?side3 ?side4 (far_slice (IsS51.own_ne HI112.out HO115.out (by decide))) A2.out).mono ?_); (case side1 => exact iS HI112.out); (case side2 => exact bs1 HB.out (IsS51.ge HI112.out)); (case side3 => exact cw ((Kd.R_reads' HO115.out).2.2)); (case side4 => exact (Kd.R_reads' HO115.out).2.1); rintro e w7 ⟨rfl, hi, hb, hk⟩; replace HO115 := Aside0.mk (Kd.R_mono (Kd.R_keep (IsS51.apart (show IsS51 w _ gb112 l0 0 0 from iS HI112.out) (rR HO115.out) (by decide)) hk (fun _ h => h.2)) (fun _ h => h.1)); replace HB := Aside0.mk (hb); replace HI112 := Aside0.mk (hi))); go_ret; exact ⟨sr, bs1 HB.out (IsS51.ge HI112.out)⟩
/-! ### impl_in: function 46 -/
def impl_in.f (a0 : Int) (a1 : Int) (a2 : Int) : Option (Bool) := if a1 ≤ a0 then (some (decide (a0 ≤ a2))) else (some false)
theorem impl_in.calls (a0 : Int) (a1 : Int) (a2 : Int) (r : Bool) (w : World) (h : impl_in.f a0 a1 a2 = some r) :
  Calls Tryz.prog 46 #[.int .i64 a0, .int .i64 a1, .int .i64 a2] w fun e w' => e = .returned (.bool r) ∧ Drawn0 w w' := by
 have H : (if a1 ≤ a0 then (some (decide (a0 ≤ a2))) else (some false)) = some r := h; clear h
 by_cases c4 : a1 ≤ a0
 ·rw [if_pos c4] at H; have c4b0 := decide_eq_true c4; clear c4; obtain rfl := Option.some.inj H; go_enter Tryz.func46, Tryz.ntmps46; go_wp2; go_ret; exact ⟨sr2, by repeat (first | exact Drawn0.refl _ | apply Drawn0.step)⟩
 rw [if_neg c4] at H; have c4b0 := decide_eq_false c4; clear c4; obtain rfl := Option.some.inj H; go_enter Tryz.func46, Tryz.ntmps46; go_wp2; go_ret; exact ⟨sr2, by repeat (first | exact Drawn0.refl _ | apply Drawn0.step)⟩
/-! ### impl_inverse: function 115 -/
def impl_inverse.l0 : Nat → List Int → List Int → Int → Int → Option (List Int)
 | 0, _, _, _, _ => none
 | k + 1, x3, x9, x10, x11 => if x11 < x10 then (if 0 ≤ x11 then (if x11 < (x9.length : Int) then (if 0 ≤ (rd x9 x11) then (if (rd x9 x11) < (x3.length : Int) then (impl_inverse.l0 k (x3.set ((rd x9 x11) : Int).toNat x11) x9 x10 (wrap64 (x11 + 1))) else (none)) else (none)) else (none)) else (none)) else (some x3)
def impl_inverse.f (k : Nat) (l0 : List Int) : Option (List Int) := if 0 ≤ (l0.length : Int) then (if ((l0.length : Int) : Int).toNat ≤ 35184372088832 then (impl_inverse.l0 k (List.replicate ((l0.length : Int) : Int).toNat 0) l0 (l0.length : Int) 0) else (none)) else (none)
theorem impl_inverse.mono_l : ∀ k, (∀ y0 y1 y2 y3, LeO (impl_inverse.l0 k y0 y1 y2 y3) (impl_inverse.l0 (k + 1) y0 y1 y2 y3))
 | 0 => fun _ _ _ _ r h => by simp [impl_inverse.l0] at h
 | k + 1 => by
  have ih0 := impl_inverse.mono_l k
  ·intro y0 y1 y2 y3
   unfold impl_inverse.l0
   repeat' first
   | (with_reducible exact ih0 _ _ _ _)
   | (with_reducible exact LeO.refl _)
   | (with_reducible exact LeO.none _)
   | (with_reducible refine LeO.ite ?_ ?_)
   | (with_reducible refine LeO.bind ?_ (fun _ => ?_))
   | exact ih0 _ _ _ _
   | exact LeO.none _
   | refine LeO.ite ?_ ?_
   | refine LeO.bind ?_ (fun _ => ?_)
theorem impl_inverse.mono : ∀ a0 k, LeO (impl_inverse.f k a0) (impl_inverse.f (k + 1) a0) := by
 intro a0 k; have ih0 := impl_inverse.mono_l k; unfold impl_inverse.f
 repeat' first
   | (with_reducible exact ih0 _ _ _ _)
   | (with_reducible exact LeO.refl _)
   | (with_reducible exact LeO.none _)
   | (with_reducible refine LeO.ite ?_ ?_)
   | (with_reducible refine LeO.bind ?_ (fun _ => ?_))
   | exact ih0 _ _ _ _
   | exact LeO.none _
   | refine LeO.ite ?_ ?_
   | refine LeO.bind ?_ (fun _ => ?_)
theorem impl_inverse.calls (k : Nat) (A0 : Option Addr) (c0 : Nat) (l0 : List Int) (r : List Int) (w : World) (hr0 : Kd.C (Kd.int .i64) w A0 l0.length l0) (hc0 : l0.length ≤ c0) (h : impl_inverse.f k l0 = some r) :
  Calls Tryz.prog 115 #[.slice A0 l0.length c0] w fun e w' => ∃ v0_ : Value, e = .returned (v0_) ∧ Kd.R (Kd.int .i64) 3 w' w.heap.size (fun _ => True) v0_ r ∧ Below w.heap.size w w' := by
 have HR0 := Aside0.mk hr0; have HC0 := Aside0.mk hc0; clear hr0 hc0; have HB := Aside0.mk (Below.refl w.heap.size w); have H : (if 0 ≤ (l0.length : Int) then (if ((l0.length : Int) : Int).toNat ≤ 35184372088832 then (impl_inverse.l0 k (List.replicate ((l0.length : Int) : Int).toNat 0) l0 (l0.length : Int) 0) else (none)) else (none)) = some r := h; clear h
 by_cases c2 : 0 ≤ (l0.length : Int)
 ·rw [if_pos c2] at H; have c2b0 := eq_true c2; have c2b1 := decide_eq_true c2; clear c2
  by_cases c3 : ((l0.length : Int) : Int).toNat ≤ 35184372088832
  ·rw [if_pos c3] at H
   have c3b0 := eq_true c3
   have c3b1 : decide (((l0.length : Int) : Int).toNat ≤ 35184372088832) = true := decide_eq_true c3
   clear c3
   obtain ⟨y119, hy119⟩ : ∃ y_ : List Int, y_ = (List.replicate ((l0.length : Int) : Int).toNat 0) := ⟨_, rfl⟩
   (try rw [Option.bind_some] at H); (try dsimp only at H); rw [← hy119] at H
   have Ny119 := Aside0.mk hy119; clear hy119; have H' := Aside0.mk H; clear H; go_enter Tryz.func115, Tryz.ntmps115; go_wp2_with (first | ((with_reducible refine gate_dst (N := 8) rfl ?_); refine Kd.R_make (Kd.int .i64) _ 3 rfl (N := 8) rfl 31 _ _ rfl (l0.length : Int) rfl rfl Tryz.underlying31 (.int .i64 0) 8 info3 rfl (by decide) (by omega) 0 (ok := fun _ => True) (okp := fun _ => True) rfl (fun _ hk => hk) trivial (od) (Nat.le_trans (Nat.mul_le_mul_right _ (od : (l0.length : Int).toNat ≤ 35184372088832)) (by omega)) (Below.refl _ _) (Nat.le_refl _) ?_; intro v120 w4 ho5 hb hg_ hnew_; clear hg_ hnew_; (first | rw [← Ny119.out] at ho5 | (simp only [Int.reduceToNat] at ho5; rw [← Ny119.out] at ho5)); have HO121 := Aside0.mk (Kd.R_lower ho5 (below_size (bl HB.out))); replace HB := bst HB hb; clear hb ho5))
   go_loopg [11] k (fun kq v11 w' => ∃ (x3_1 : List Int) (x11_1 : Int), v11 = .int .i64 x11_1 ∧ Aside0 (impl_inverse.l0 kq x3_1 l0 (l0.length : Int) x11_1 = some r) ∧ Aside0 (kq ≤ k) ∧ Aside0 (Kd.R (Kd.int .i64) 3 w' w.heap.size (fun _ => True) v120 x3_1) ∧ Aside0 (Below w.heap.size w w'))
   case atStart => exact ⟨(y119), (0), (sr2), H', ⟨Nat.le_refl _⟩, ⟨rR HO121.out⟩, ⟨bl HB.out⟩⟩
   case round =>
    clear H'; obtain ⟨x3_1, x11_1, rfl, HA, HK1, HO_3, HB⟩ := hrel
    cases gk with
    | zero => exact absurd HA.out (by simp [impl_inverse.l0])
    | succ k1 =>
     have H := HA.out; clear HA; simp only [impl_inverse.l0] at H
     by_cases c6 : x11_1 < (l0.length : Int)
     ·rw [if_pos c6] at H; have c6b0 := decide_eq_true c6; clear c6
      by_cases c7 : 0 ≤ x11_1
      ·rw [if_pos c7] at H; have c7b0 := decide_eq_true c7; clear c7
       by_cases c8 : x11_1 < (l0.length : Int)
       ·rw [if_pos c8] at H; have c8b0 := decide_eq_true c8; clear c8
        by_cases c9 : 0 ≤ (rd l0 x11_1)
        ·rw [if_pos c9] at H; have c9b0 := decide_eq_true c9; clear c9
         by_cases c10 : (rd l0 x11_1) < (x3_1.length : Int)
         ·rw [if_pos c10] at H; have c10b0 := decide_eq_true c10; clear c10; obtain ⟨y123, hy123⟩ := yy (x3_1.set ((rd l0 x11_1) : Int).toNat x11_1)
          (try rw [Option.bind_some] at H); (try dsimp only at H); rw [← hy123] at H
          have Ny123 := Aside0.mk hy123; clear hy123; have H' := Aside0.mk H; clear H; obtain ⟨ad122, e122, hx122_0, p122, q122⟩ := atI HR0.out x11_1; cases e122; replace hx122_0 := hbx HB hx122_0; have p11 : 0 ≤ ((rd l0 x11_1) : Int) := od; have q11 : ((rd l0 x11_1) : Int) < ((x3_1.length : Int) : Int) := od; obtain ⟨go11, co11, eo11, gb11, gl11, cl11, HG11⟩ := Kd.R_form HO_3.out (by omega); (first | cases eo11 | (injection eo11 with ea_ en_ ec_; (first | subst ea_ | (injection ea_ with ea_; subst ea_)); subst ec_; clear en_)); have GB11 := Aside0.mk gb11; have GG11 := Aside0.mk HG11; clear gb11 gl11 HG11; obtain ⟨hx11_0, hf11_0⟩ := Kd.R_celln 0 HO_3.out ((rd l0 x11_1) : Int) p11 q11; replace p11 := eq_true p11; replace q11 := eq_true q11; have HP12 := Kd.R_putg HO_3.out ((rd l0 x11_1) : Int) x11_1; go_wp2_with (first | ((with_reducible refine gate_store (t := 3) (p := 19) rfl ?_); refine store_event (t := 3) (p := 19) (v := ?vo_w13) (w1 := (wr.setCell ⟨go11, ((rd l0 x11_1) : Int).toNat, none⟩ (.int .i64 x11_1))) ?hg ?ho ?hn ?hr ?_; (case ho => rfl); (case hg => rfl); (case hn => rfl); (case hr => first | (go_simp; done) | (go_simp; rfl)); intro w13 hw; have hg : wr.grownBy w13 (some go11) := (by rw [hw]; exact HP12.2); have hp_ : Kd.R (Kd.int .i64) 3 w13 w.heap.size (fun _ => True) (.slice (some ⟨go11, 0, none⟩) x3_1.length co11) y123 := (by rw [hw, Ny123.out]; exact HP12.1); clear HP12; replace HO_3 := Aside0.mk (hp_); replace HB := Aside0.mk ((by rw [hw]; exact below_set (HB.out) GB11.out : Below w.heap.size w w13)); clear hg hw hp_))
          go_roundg k1
          case measure => have := HK1.out; omega
          case rel => exact ⟨(y123), (wrap64 (x11_1 + 1)), (sr2), H', ⟨by have := HK1.out; omega⟩, ⟨rR HO_3.out⟩, ⟨bl HB.out⟩⟩
         rw [if_neg c10] at H; exact absurd H (by simp)
        rw [if_neg c9] at H; exact absurd H (by simp)
       rw [if_neg c8] at H; exact absurd H (by simp)
      rw [if_neg c7] at H; exact absurd H (by simp)
     rw [if_neg c6] at H; have c6b0 := decide_eq_false c6; clear c6; obtain rfl := Option.some.inj H; go_wp2; go_ret; exact ⟨_, sr, rR HO_3.out, bl HB.out⟩
  rw [if_neg c3] at H; exact absurd H (by simp)
 rw [if_neg c2] at H; exact absurd H (by simp)
/-! ### impl_cross: function 116 -/
def impl_cross.f (a0 a1 a2 a3 : Int) : Option Bool := some ((decide (min a0 a1 < a2) && decide (a2 < max a0 a1)) != (decide (min a0 a1 < a3) && decide (a3 < max a0 a1)))
theorem impl_cross.inside (W : World) (x lo hi : Int) (B1 B2 : Nat) (h1 : W.cell? ⟨B1, 0, none⟩ = some (.int .i64 lo)) (h2 : W.cell? ⟨B2, 0, none⟩ = some (.int .i64 hi)) :
    Calls Tryz.prog 136 #[.int .i64 x, .pointer (some ⟨B1, 0, none⟩), .pointer (some ⟨B2, 0, none⟩)] W fun e w' => e = .returned (.bool (decide (lo < x) && decide (x < hi))) ∧ w' = W := by
  go_enter Tryz.func136, Tryz.ntmps136
  go_wp2
  all_goals (go_ret; refine ⟨?_, rfl⟩; first | (simp [*]; done) | (congr 2; simp; omega))
theorem impl_cross.cells (w : World) (x y : Int) (t u : TypeId) : ((w.alloc (.cells #[.int .i64 x] t)).alloc (.cells #[.int .i64 y] u)).cell? ⟨w.heap.size, 0, none⟩ = some (.int .i64 x) ∧ ((w.alloc (.cells #[.int .i64 x] t)).alloc (.cells #[.int .i64 y] u)).cell? ⟨w.heap.size + 1, 0, none⟩ = some (.int .i64 y) := by
  constructor <;> simp
theorem impl_cross.calls (a0 a1 a2 a3 : Int) (r : Bool) (w : World) (h : impl_cross.f a0 a1 a2 a3 = some r) :
    Calls Tryz.prog 116 #[.int .i64 a0, .int .i64 a1, .int .i64 a2, .int .i64 a3] w fun e w' => e = .returned (.bool r) ∧ Below w.heap.size w w' := by
  have hmf : ∀ (fn : Fn) (first cap : Array Value) (w : World), (Instr.makeFunc fn first cap).run Tryz.prog w = .ok (.func fn first cap) w := fun _ _ _ _ => rfl
  obtain rfl := Option.some.inj h
  clear h
  go_enter Tryz.func116, Tryz.ntmps116
  go_wp2_with (go_at_call 136; (with_reducible refine (impl_cross.inside _ _ _ _ _ _ (impl_cross.cells w _ _ _ _).1 (impl_cross.cells w _ _ _ _).2).mono ?_); rintro e w' ⟨rfl, rfl⟩)
  all_goals first
    | (exfalso; omega)
    | (go_ret
       refine ⟨?_, ((Below.refl _ w).alloc (Nat.le_refl _) _).alloc (by simp) _⟩
       first
         | rfl
         | (rw [show min a0 a1 = a0 by omega, show max a0 a1 = a1 by omega]; rfl)
         | (rw [show min a0 a1 = a1 by omega, show max a0 a1 = a0 by omega]; rfl)
         | (rw [show min a0 a1 = a0 by omega, show max a0 a1 = a0 by omega]; rfl)
         | (rw [show min a0 a1 = a1 by omega, show max a0 a1 = a1 by omega]; rfl))
/-! ### impl_crossedArcs: function 93 -/
mutual
def impl_crossedArcs.l0 : Nat → List Int → List Int → List (List Int) → Int → Int → Option ((List (List Int)))
 | 0, _, _, _, _, _ => none
 | k + 1, x0, x3, x4, x12, x13 => if x13 < x12 then (impl_crossedArcs.l1 k x0 x3 x4 x13 (wrap64 (x13 + 2)) x12 x13) else (some x4)
def impl_crossedArcs.l1 : Nat → List Int → List Int → List (List Int) → Int → Int → Int → Int → Option ((List (List Int)))
 | 0, _, _, _, _, _, _, _ => none
 | k + 1, x0, x3, x4, x5, x6, x12, x13 => if x6 < (wrap64 ((x0.length : Int) - 1)) then (if 0 ≤ x5 then (if x5 < (x3.length : Int) then (if 0 ≤ (wrap64 (x5 + 1)) then (if (wrap64 (x5 + 1)) < (x3.length : Int) then (if 0 ≤ x6 then (if x6 < (x3.length : Int) then (if 0 ≤ (wrap64 (x6 + 1)) then (if (wrap64 (x6 + 1)) < (x3.length : Int) then ((impl_cross.f (rd x3 x5) (rd x3 (wrap64 (x5 + 1))) (rd x3 x6) (rd x3 (wrap64 (x6 + 1)))).bind fun t134 => (if t134 = true then (if x4.length < 5864062014805 then (impl_crossedArcs.l1 k x0 x3 (x4 ++ [(([x5, x6] : List Int))]) x5 (wrap64 (x6 + 2)) x12 x13) else (none)) else (impl_crossedArcs.l1 k x0 x3 x4 x5 (wrap64 (x6 + 2)) x12 x13))) else (none)) else (none)) else (none)) else (none)) else (none)) else (none)) else (none)) else (none)) else (impl_crossedArcs.l0 k x0 x3 x4 x12 (wrap64 (x13 + 1)))
end
def impl_crossedArcs.f (k : Nat) (l0 : List Int) : Option ((List (List Int))) := (impl_inverse.f k l0).bind fun t124 => (impl_crossedArcs.l0 k l0 t124 (([] : List (List Int))) (wrap64 ((l0.length : Int) - 1)) 0)
theorem impl_crossedArcs.mono_l : ∀ k, (∀ y0 y1 y2 y3 y4, LeO (impl_crossedArcs.l0 k y0 y1 y2 y3 y4) (impl_crossedArcs.l0 (k + 1) y0 y1 y2 y3 y4)) ∧ (∀ y0 y1 y2 y3 y4 y5 y6, LeO (impl_crossedArcs.l1 k y0 y1 y2 y3 y4 y5 y6) (impl_crossedArcs.l1 (k + 1) y0 y1 y2 y3 y4 y5 y6))
 | 0 => ⟨fun _ _ _ _ _ r h => by simp [impl_crossedArcs.l0] at h, fun _ _ _ _ _ _ _ r h => by simp [impl_crossedArcs.l1] at h⟩
 | k + 1 => by
  obtain ⟨ih0, ih1⟩ := impl_crossedArcs.mono_l k
  refine ⟨?_, ?_⟩
  ·intro y0 y1 y2 y3 y4
   unfold impl_crossedArcs.l0
   repeat' first
   | (with_reducible exact ih0 _ _ _ _ _)
   | (with_reducible exact ih1 _ _ _ _ _ _ _)
   | (with_reducible exact impl_inverse.mono _ _)
   | (with_reducible exact LeO.refl _)
   | (with_reducible exact LeO.none _)
   | (with_reducible refine LeO.ite ?_ ?_)
   | (with_reducible refine LeO.bind ?_ (fun _ => ?_))
   | exact ih0 _ _ _ _ _
   | exact ih1 _ _ _ _ _ _ _
   | exact impl_inverse.mono _ _
   | exact LeO.none _
   | refine LeO.ite ?_ ?_
   | refine LeO.bind ?_ (fun _ => ?_)
  ·intro y0 y1 y2 y3 y4 y5 y6
   unfold impl_crossedArcs.l1
   repeat' first
   | (with_reducible exact ih0 _ _ _ _ _)
   | (with_reducible exact ih1 _ _ _ _ _ _ _)
   | (with_reducible exact impl_inverse.mono _ _)
   | (with_reducible exact LeO.refl _)
   | (with_reducible exact LeO.none _)
   | (with_reducible refine LeO.ite ?_ ?_)
   | (with_reducible refine LeO.bind ?_ (fun _ => ?_))
   | exact ih0 _ _ _ _ _
   | exact ih1 _ _ _ _ _ _ _
   | exact impl_inverse.mono _ _
   | exact LeO.none _
   | refine LeO.ite ?_ ?_
   | refine LeO.bind ?_ (fun _ => ?_)
theorem impl_crossedArcs.mono : ∀ a0 k, LeO (impl_crossedArcs.f k a0) (impl_crossedArcs.f (k + 1) a0) := by
 intro a0 k; obtain ⟨ih0, ih1⟩ := impl_crossedArcs.mono_l k; unfold impl_crossedArcs.f
 repeat' first
   | (with_reducible exact ih0 _ _ _ _ _)
   | (with_reducible exact ih1 _ _ _ _ _ _ _)
   | (with_reducible exact impl_inverse.mono _ _)
   | (with_reducible exact LeO.refl _)
   | (with_reducible exact LeO.none _)
   | (with_reducible refine LeO.ite ?_ ?_)
   | (with_reducible refine LeO.bind ?_ (fun _ => ?_))
   | exact ih0 _ _ _ _ _
   | exact ih1 _ _ _ _ _ _ _
   | exact impl_inverse.mono _ _
   | exact LeO.none _
   | refine LeO.ite ?_ ?_
   | refine LeO.bind ?_ (fun _ => ?_)
def impl_crossedArcs.T8 : Bool × List (List Nat × List Nat) := (true, [([], []), ([], []), ([0, 1], [0, 1]), ([2], [2]), ([], []), ([], []), ([5], [5]), ([4, 6], [4, 6]), ([7], [7]), ([], []), ([], []), ([9, 10], [9, 10]), ([11], [11]), ([], []), ([], []), ([14], [14]), ([13, 15], [13, 15]), ([16], [16]), ([3, 8, 12, 17], [3, 8, 12, 17])])
def impl_crossedArcs.B8 : List Nat := [0, 0, 3, 7, 0, 0, 32, 112, 240, 0, 0, 1536, 3584, 0, 0, 16384, 57344, 122880, 262143]
theorem impl_crossedArcs.tab8 : rtab .any (opsOf Tryz.f93 8) = impl_crossedArcs.T8 := by kernel_rfl
theorem impl_crossedArcs.bits8 : waitsOk impl_crossedArcs.T8.2 impl_crossedArcs.B8 = true := by kernel_rfl
theorem impl_crossedArcs.calls (k : Nat) (A0 : Option Addr) (c0 : Nat) (l0 : List Int) (r : List (List Int)) (w : World) (hr0 : Kd.C (Kd.int .i64) w A0 l0.length l0) (hc0 : l0.length ≤ c0) (h : impl_crossedArcs.f k l0 = some r) :
  Calls Tryz.prog 93 #[.slice A0 l0.length c0] w fun e w' => ∃ v0_ : Value, e = .returned (v0_) ∧ Kd.S (Kd.slice 3 (Kd.int .i64)) 31 w' w.heap.size (fun _ => True) v0_ r ∧ Below w.heap.size w w' := by
 have HR0 := Aside0.mk hr0; have HC0 := Aside0.mk hc0; clear hr0 hc0; have HB := Aside0.mk (Below.refl w.heap.size w); have H : ((impl_inverse.f k l0).bind fun t124 => (impl_crossedArcs.l0 k l0 t124 (([] : List (List Int))) (wrap64 ((l0.length : Int) - 1)) 0)) = some r := h; clear h; obtain ⟨t124, A2, H⟩ := bi H; (try dsimp only at H); obtain ⟨y127, hy127⟩ := yy (([] : List (List Int)))
 (try rw [Option.bind_some] at H); (try dsimp only at H); rw [← hy127] at H
 have Ny127 := Aside0.mk hy127; clear hy127; have H' := Aside0.mk H; clear H; go_enter Tryz.func93, Tryz.ntmps93; go_wp2_with (first | (go_at_call 115; (with_reducible refine (impl_inverse.calls k _ _ l0 t124 _ ?side1 HC0.out A2.out).mono ?_); (case side1 => exact cw HR0.out); rintro e w3 ⟨v125, rfl, ho0, hb⟩; have HO126 := Aside0.mk (Kd.R_lower ho0 (below_size (bl HB.out))); replace HB := bst HB hb) | ((with_reducible refine gate_dst (N := 9) rfl ?_); refine Kd.S_lit (Kd.slice 3 (Kd.int .i64)) _ 31 ?hg (N := 9) ?hd (xs := ([] : List (List Int))) (inner := []) (ok := fun _ => True) (okp := fun _ => True) ?hr ?hp (fun _ hk => hk) trivial (Below.refl _ _) (Nat.le_refl _) (by simp) ?_; (case hd => rfl); (case hg => rfl); (case hr => first | (go_simp; done) | (go_simp; rfl)); (case hp => exact (Reps.none _ _)); intro v128 w4 ho5 hb hg_ hnew_; clear hg_ hnew_; (first | rw [← Ny127.out] at ho5 | (simp only [Int.reduceToNat] at ho5; rw [← Ny127.out] at ho5)); have HO129 := Aside0.mk (Kd.S_lower (Kd.S_new' ho5 (Kd.R_lt (rR HO126.out))) (below_size (bl HB.out))); replace HO126 := Aside0.mk (Kd.R_below (rR HO126.out) hb); replace HB := bst HB hb; clear hb ho5))
 go_loopg [4, 13] k (fun kq v4 v13 w' => ∃ (x4_1 : List (List Int)) (x13_1 : Int), v13 = .int .i64 x13_1 ∧ Aside0 (impl_crossedArcs.l0 kq l0 t124 x4_1 (wrap64 ((l0.length : Int) - 1)) x13_1 = some r) ∧ Aside0 (kq ≤ k) ∧ Aside0 (Kd.R (Kd.int .i64) 3 w' w.heap.size (fun _ => True) v125 t124) ∧ Aside0 (Kd.S (Kd.slice 3 (Kd.int .i64)) 31 w' w.heap.size (fun k_ => some k_ ≠ (v125 : Value).ownBlock) v4 x4_1) ∧ Aside0 (Below w.heap.size w w'))
 case atStart => exact ⟨(y127), (0), (sr2), H', ⟨Nat.le_refl _⟩, ⟨rR HO126.out⟩, ⟨rS (Kd.S_mono HO129.out (fun _ hk => hk.2))⟩, ⟨bl HB.out⟩⟩
 case round =>
  clear H'; obtain ⟨x4_1, x13_1, rfl, HA, HK1, HO_3, HO_4, HB⟩ := hrel
  cases gk with
  | zero => exact absurd HA.out (by simp [impl_crossedArcs.l0])
  | succ k1 =>
   have H := HA.out; clear HA; simp only [impl_crossedArcs.l0] at H
   by_cases c6 : x13_1 < (wrap64 ((l0.length : Int) - 1))
   ·rw [if_pos c6] at H; have c6b0 := decide_eq_true c6; clear c6; have H' := Aside0.mk H; clear H; go_wp2
    go_loopg [4, 6] k1 (fun kq v4 v6 w' => ∃ (x4_2 : List (List Int)) (x6_2 : Int), v6 = .int .i64 x6_2 ∧ Aside0 (impl_crossedArcs.l1 kq l0 t124 x4_2 x13_1 x6_2 (wrap64 ((l0.length : Int) - 1)) x13_1 = some r) ∧ Aside0 (kq ≤ k1) ∧ Aside0 (Kd.R (Kd.int .i64) 3 w' w.heap.size (fun _ => True) v125 t124) ∧ Aside0 (Kd.S (Kd.slice 3 (Kd.int .i64)) 31 w' w.heap.size (fun k_ => some k_ ≠ (v125 : Value).ownBlock) v4 x4_2) ∧ Aside0 (Below w.heap.size w w'))
    case atStart => exact ⟨(x4_1), (wrap64 (x13_1 + 2)), (sr2), H', ⟨Nat.le_refl _⟩, ⟨rR HO_3.out⟩, ⟨rS HO_4.out⟩, ⟨bl HB.out⟩⟩
    case round =>
     clear H'; obtain ⟨x4_2, x6_2, rfl, HA, HK2, HO_3, HO_4, HB⟩ := hrel
     cases gk with
     | zero => exact absurd HA.out (by simp [impl_crossedArcs.l1])
     | succ k2 =>
      have H := HA.out; clear HA; simp only [impl_crossedArcs.l1] at H
      by_cases c7 : x6_2 < (wrap64 ((l0.length : Int) - 1))
      ·rw [if_pos c7] at H; have c7b0 := decide_eq_true c7; clear c7
       by_cases c8 : 0 ≤ x13_1
       ·rw [if_pos c8] at H; have c8b0 := decide_eq_true c8; clear c8
        by_cases c9 : x13_1 < (t124.length : Int)
        ·rw [if_pos c9] at H; have c9b0 := decide_eq_true c9; clear c9; obtain ⟨ji10, hji10⟩ : ∃ j_ : Int, (wrap64 (x13_1 + 1)) = j_ := ⟨_, rfl⟩; (replace H : (if 0 ≤ (ji10) then (if (ji10) < (t124.length : Int) then (if 0 ≤ x6_2 then (if x6_2 < (t124.length : Int) then (if 0 ≤ (wrap64 (x6_2 + 1)) then (if (wrap64 (x6_2 + 1)) < (t124.length : Int) then ((impl_cross.f (rd t124 x13_1) (rd t124 (ji10)) (rd t124 x6_2) (rd t124 (wrap64 (x6_2 + 1)))).bind fun t134 => (if t134 = true then (if x4_2.length < 5864062014805 then (impl_crossedArcs.l1 k2 l0 t124 (x4_2 ++ [(([x13_1, x6_2] : List Int))]) x13_1 (wrap64 (x6_2 + 2)) (wrap64 ((l0.length : Int) - 1)) x13_1) else (none)) else (impl_crossedArcs.l1 k2 l0 t124 x4_2 x13_1 (wrap64 (x6_2 + 2)) (wrap64 ((l0.length : Int) - 1)) x13_1))) else (none)) else (none)) else (none)) else (none)) else (none)) else (none)) = some r := by first | (rw [hji10] at H; exact H) | (simp only [hji10] at H ⊢; exact H)); have hji10w : (IntKind.i64.wrap (x13_1 + 1)) = ji10 := (i64_w _).trans hji10
         by_cases c11 : 0 ≤ (ji10)
         ·rw [if_pos c11] at H; have c11b0 := decide_eq_true c11; clear c11
          by_cases c12 : (ji10) < (t124.length : Int)
          ·rw [if_pos c12] at H; have c12b0 := decide_eq_true c12; clear c12
           by_cases c13 : 0 ≤ x6_2
           ·rw [if_pos c13] at H; have c13b0 := decide_eq_true c13; clear c13
            by_cases c14 : x6_2 < (t124.length : Int)
            ·rw [if_pos c14] at H; have c14b0 := decide_eq_true c14; clear c14; obtain ⟨ji15, hji15⟩ : ∃ j_ : Int, (wrap64 (x6_2 + 1)) = j_ := ⟨_, rfl⟩; (replace H : (if 0 ≤ (ji15) then (if (ji15) < (t124.length : Int) then ((impl_cross.f (rd t124 x13_1) (rd t124 (ji10)) (rd t124 x6_2) (rd t124 (ji15))).bind fun t134 => (if t134 = true then (if x4_2.length < 5864062014805 then (impl_crossedArcs.l1 k2 l0 t124 (x4_2 ++ [(([x13_1, x6_2] : List Int))]) x13_1 (wrap64 (x6_2 + 2)) (wrap64 ((l0.length : Int) - 1)) x13_1) else (none)) else (impl_crossedArcs.l1 k2 l0 t124 x4_2 x13_1 (wrap64 (x6_2 + 2)) (wrap64 ((l0.length : Int) - 1)) x13_1))) else (none)) else (none)) = some r := by first | (rw [hji15] at H; exact H) | (simp only [hji15] at H ⊢; exact H)); have hji15w : (IntKind.i64.wrap (x6_2 + 1)) = ji15 := (i64_w _).trans hji15
             by_cases c16 : 0 ≤ (ji15)
             ·rw [if_pos c16] at H; have c16b0 := decide_eq_true c16; clear c16
              by_cases c17 : (ji15) < (t124.length : Int)
              ·rw [if_pos c17] at H; have c17b0 := decide_eq_true c17; clear c17; obtain ⟨t134, A18, H⟩ := bi H; (try dsimp only at H)
               by_cases c19 : t134 = true
               ·subst c19; rw [if_pos rfl] at H; obtain ⟨y135, hy135⟩ := yy (([x13_1, x6_2] : List Int))
                (try rw [Option.bind_some] at H); (try dsimp only at H); rw [← hy135] at H
                have Ny135 := Aside0.mk hy135; clear hy135
                by_cases c20 : x4_2.length < 5864062014805
                ·rw [if_pos c20] at H; have LMc20 := Aside0.mk c20; clear c20; obtain ⟨y138, hy138⟩ := yy (x4_2 ++ [y135])
                 (try rw [Option.bind_some] at H); (try dsimp only at H); rw [← hy138] at H
                 have Ny138 := Aside0.mk hy138; clear hy138; have H' := Aside0.mk H; clear H; (try go_wp2); replace HO_3 := Aside0.mk (Kd.R_drew HO_3.out); replace HO_4 := Aside0.mk (Kd.S_drew HO_4.out); replace HB := bd1 HB; obtain ⟨Ao22, co22, eo22⟩ := Kd.R_slice HO_3.out; (first | subst eo22 | (injection eo22 with f1_ f2_ f3_; have f4_ := f1_.symm; have f5_ := f3_.symm; clear f1_ f2_ f3_; subst f4_; subst f5_)); obtain ⟨ad130, e130, hx130_0, p130, q130⟩ := atI (Kd.R_reads' HO_3.out).2.2 x13_1; cases e130; obtain ⟨ad131, e131, hx131_0, p131, q131⟩ := atI (Kd.R_reads' HO_3.out).2.2 (ji10); obtain rfl : ad130 = ad131 := (by injection e131); obtain ⟨ad132, e132, hx132_0, p132, q132⟩ := atI (Kd.R_reads' HO_3.out).2.2 x6_2; obtain rfl : ad130 = ad132 := (by injection e132); obtain ⟨ad133, e133, hx133_0, p133, q133⟩ := atI (Kd.R_reads' HO_3.out).2.2 (ji15); obtain rfl : ad130 = ad133 := (by injection e133); refine start_ (n := 19) (S := fun w' => w'.cell? (ad130.add (x13_1).toNat) = some (.int .i64 (rd t124 x13_1)) ∧ w'.cell? (ad130.add ((ji10)).toNat) = some (.int .i64 (rd t124 (ji10))) ∧ w'.cell? (ad130.add (x6_2).toNat) = some (.int .i64 (rd t124 x6_2)) ∧ w'.cell? (ad130.add ((ji15)).toNat) = some (.int .i64 (rd t124 (ji15)))) (ds := []) #[false, false, false, false, false, false, false, false, false, false, false, false, false, false, false, false, false, false, false] (by kernel_rfl) rfl rfl ⟨hx130_0, hx131_0, hx132_0, hx133_0⟩ (fun hHeld => ?_); refine with_tabW impl_crossedArcs.tab8 impl_crossedArcs.bits8 (fun HT_ HW_ => ?_); generalize wr.drew = w21 at HO_3 HO_4 HB hx130_0 hx131_0 hx132_0 hx133_0 hHeld ⊢; refine pu 0 25 HT_.out ?_; refine pu 1 26 HT_.out ?_; refine pu 2 27 HT_.out ?_; refine pu 4 29 HT_.out ?_; refine pu 5 30 HT_.out ?_; refine pu 6 31 HT_.out ?_; refine pu 7 32 HT_.out ?_; refine pu 9 34 HT_.out ?_; refine pu 10 35 HT_.out ?_; refine pu 11 36 HT_.out ?_; refine pu 13 38 HT_.out ?_; refine pu 14 39 HT_.out ?_; refine pu 15 40 HT_.out ?_; refine pu 16 41 HT_.out ?_; refine tk 3 28 HT_.out HW_.out hHeld ?_ (hy := by rintro w' ⟨s0, s1, s2, s3⟩; go_simp; with_reducible rfl); refine tk 8 33 HT_.out HW_.out hHeld ?_ (hy := by rintro w' ⟨s0, s1, s2, s3⟩; go_simp; with_reducible rfl); refine tk 12 37 HT_.out HW_.out hHeld ?_ (hy := by rintro w' ⟨s0, s1, s2, s3⟩; go_simp; with_reducible rfl); refine tk 17 42 HT_.out HW_.out hHeld ?_ (hy := by rintro w' ⟨s0, s1, s2, s3⟩; go_simp; with_reducible rfl); refine one_ (i := 18) (N := some 43) #[true, true, true, true, true, true, true, true, true, true, true, true, true, true, true, true, true, true, true] rfl rfl (one_of HT_.out (by kernel_rfl)) (by decide) (fun K hK => ?_); refine goes_ Tryz.func116 (by kernel_rfl) rfl #[.int .i64 (rd t124 x13_1), .int .i64 (rd t124 (ji10)), .int .i64 (rd t124 x6_2), .int .i64 (rd t124 (ji15))] (by rfl) rfl rfl (by (try simp only [List.map_toArray, List.map_cons, List.map_nil]); first | done | (simp only [hji10, hji15]; rfl) | rfl | (simp only [List.length_drop, List.length_take]; rfl)) ?_; (with_reducible refine (impl_cross.calls (rd t124 x13_1) (rd t124 (ji10)) (rd t124 x6_2) (rd t124 (ji15)) true _ A18.out).mono ?_); rintro e w23 ⟨rfl, hb⟩; have HS0_ := (hb.cell (World.block_lt_of_cell? _ _ (hHeld.1))).trans (hHeld.1); have HS1_ := (hb.cell (World.block_lt_of_cell? _ _ (hHeld.2.1))).trans (hHeld.2.1); have HS2_ := (hb.cell (World.block_lt_of_cell? _ _ (hHeld.2.2.1))).trans (hHeld.2.2.1); have HS3_ := (hb.cell (World.block_lt_of_cell? _ _ (hHeld.2.2.2))).trans (hHeld.2.2.2); refine ⟨_, rfl, ?_⟩; replace HO_3 := Aside0.mk (Kd.R_below (rR HO_3.out) hb); replace HO_4 := Aside0.mk (Kd.S_below (rS HO_4.out) hb); replace HB := bst HB hb; (try clear hb); (try clear hb2); (try clear hk); (try clear hi); refine hK.out _ _ ⟨HS0_, HS1_, HS2_, HS3_⟩ (fun hHeld => ?_); clear hK K; refine norm_ (a' := ?_) ?_ ?_
                 rotate_left
                 ·show Act.put _ (some 43) _ = _; simp only [Act.put, List.setIfInBounds_toArray, List.set_cons_zero, List.set_cons_succ, i64_w, i32_w]; rfl
                 refine done_ (done_of HT_.out (by kernel_rfl)) ?_; try go_wp2_with (first | ((with_reducible refine gate_dst (N := 47) rfl ?_); refine Kd.R_lit (Kd.int .i64) _ 3 ?hg (N := 47) ?hd (xs := ([x13_1, x6_2] : List Int)) (inner := [.int .i64 x13_1, .int .i64 x6_2]) (ok := fun _ => True) (okp := fun _ => True) ?hr ?hp (fun _ hk => hk) trivial (Below.refl _ _) (Nat.le_refl _) (by simp) ?_; (case hd => rfl); (case hg => rfl); (case hr => first | (go_simp; done) | (go_simp; rfl)); (case hp => exact (Reps.one (show Kd.M (Kd.int .i64) _ _ _ x13_1 [.int .i64 x13_1] from rfl) (Reps.one (show Kd.M (Kd.int .i64) _ _ _ x6_2 [.int .i64 x6_2] from rfl) (Reps.none _ _)))); intro v136 w24 ho25 hb hg_ hnew_; clear hg_ hnew_; (first | rw [← Ny135.out] at ho25 | (simp only [Int.reduceToNat] at ho25; rw [← Ny135.out] at ho25)); replace HO_4 := Aside0.mk (Kd.S_elder' (rS HO_4.out) (Kd.R_base ho25) hb); have HO137 := Aside0.mk (Kd.R_lower (Kd.R_new' ho25 (Kd.R_lt (rR HO_3.out))) (below_size (bl HB.out))); replace HO_3 := Aside0.mk (Kd.R_elder' (rR HO_3.out) (Kd.R_base ho25) hb); replace HB := bst HB hb; clear hb ho25; obtain ⟨Ao27, co27, eo27⟩ := Kd.R_slice HO137.out; subst eo27) | ((with_reducible refine gate_builtin (b := .append) (xs := #[.tmp 44, .tmp 48]) rfl ?_); at_builtin; refine Kd.S_append (Kd.slice 3 (Kd.int .i64)) (w0 := w) w.heap.size rfl (.tmp 44) (.tmp 48) 25 31 (.slice none 0 0) 24 rfl Tryz.underlying25 info31 rfl (by decide) (by omega) u4 x4_2 y135 [.slice Ao27 y135.length co27] (fun k_ => some k_ ≠ (.slice (some ad130) t124.length co22 : Value).ownBlock) (fun k_ => some k_ = (.slice Ao27 y135.length co27 : Value).ownBlock) rfl rfl ?aP (fun k_ hk_ => ((Kd.R_mono (ok' := fun k_ => ((fun k_ => some k_ ≠ (.slice (some ad130) t124.length co22 : Value).ownBlock)) k_ ∧ some k_ ≠ (u4 : Value).ownBlock) (Kd.R_apart' (HO137.out) (Kd.S_typed HO_4.out) (by decide)) (fun k_ hk => ⟨hk.1.2, hk.2⟩))).1 k_ hk_.symm) ?aF ?aO ?aB ?aS (by have := LMc20.out; omega) ?_; (case aP => exact Kd.M_row (Kd.R_mono (Kd.R_tight rfl (Kd.R_mono (ok' := fun k_ => ((fun k_ => some k_ ≠ (.slice (some ad130) t124.length co22 : Value).ownBlock)) k_ ∧ some k_ ≠ (u4 : Value).ownBlock) (Kd.R_apart' (HO137.out) (Kd.S_typed HO_4.out) (by decide)) (fun k_ hk => ⟨hk.1.2, hk.2⟩))) (fun _ h_ => h_))); (case aB => exact (bl HB.out)); (case aF => exact (fun k_ hk => Kd.fresh' (Kd.R_lt (rR HO_3.out)) k_ hk)); (case aO => exact (rS (Kd.S_mono HO_4.out (fun k_ hk => ⟨hk.1, fun e_ => hk.2 e_⟩)))); (case aS => exact (below_size (bl HB.out))); intro v139 w26 ho hb hg hat; rw [← Ny138.out] at ho; replace HO_3 := Aside0.mk (Kd.R_over' (rR HO_3.out) (Kd.S_typed (rS HO_4.out)) (by decide) hg); replace HB := Aside0.mk (hb); have HO140 := Aside0.mk (ho); clear HO_4 HO137; clear ho hb hg hat))
                 first | go_roundg k2 | (simp only [← hji10, ← hji15]; go_roundg k2)
                 case measure => have := HK1.out; have := HK2.out; omega
                 case rel => exact ⟨(y138), (wrap64 (x6_2 + 2)), (sr2), H', ⟨by have := HK1.out; have := HK2.out; omega⟩, ⟨rR (Kd.R_mono HO_3.out (fun _ hk => trivial))⟩, ⟨rS HO140.out⟩, ⟨bl HB.out⟩⟩
                rw [if_neg c20] at H; exact absurd H (by simp)
               replace c19 := Bool.eq_false_iff.mpr c19; subst c19; rw [if_neg (show ¬ (false = true) by decide)] at H; have H' := Aside0.mk H; clear H; (try go_wp2); replace HO_3 := Aside0.mk (Kd.R_drew HO_3.out); replace HO_4 := Aside0.mk (Kd.S_drew HO_4.out); replace HB := bd1 HB; obtain ⟨Ao29, co29, eo29⟩ := Kd.R_slice HO_3.out; (first | subst eo29 | (injection eo29 with f1_ f2_ f3_; have f4_ := f1_.symm; have f5_ := f3_.symm; clear f1_ f2_ f3_; subst f4_; subst f5_)); obtain ⟨ad130, e130, hx130_0, p130, q130⟩ := atI (Kd.R_reads' HO_3.out).2.2 x13_1; cases e130; obtain ⟨ad131, e131, hx131_0, p131, q131⟩ := atI (Kd.R_reads' HO_3.out).2.2 (ji10); obtain rfl : ad130 = ad131 := (by injection e131); obtain ⟨ad132, e132, hx132_0, p132, q132⟩ := atI (Kd.R_reads' HO_3.out).2.2 x6_2; obtain rfl : ad130 = ad132 := (by injection e132); obtain ⟨ad133, e133, hx133_0, p133, q133⟩ := atI (Kd.R_reads' HO_3.out).2.2 (ji15); obtain rfl : ad130 = ad133 := (by injection e133); refine start_ (n := 19) (S := fun w' => w'.cell? (ad130.add (x13_1).toNat) = some (.int .i64 (rd t124 x13_1)) ∧ w'.cell? (ad130.add ((ji10)).toNat) = some (.int .i64 (rd t124 (ji10))) ∧ w'.cell? (ad130.add (x6_2).toNat) = some (.int .i64 (rd t124 x6_2)) ∧ w'.cell? (ad130.add ((ji15)).toNat) = some (.int .i64 (rd t124 (ji15)))) (ds := []) #[false, false, false, false, false, false, false, false, false, false, false, false, false, false, false, false, false, false, false] (by kernel_rfl) rfl rfl ⟨hx130_0, hx131_0, hx132_0, hx133_0⟩ (fun hHeld => ?_); refine with_tabW impl_crossedArcs.tab8 impl_crossedArcs.bits8 (fun HT_ HW_ => ?_); generalize wr.drew = w28 at HO_3 HO_4 HB hx130_0 hx131_0 hx132_0 hx133_0 hHeld ⊢; refine pu 0 25 HT_.out ?_; refine pu 1 26 HT_.out ?_; refine pu 2 27 HT_.out ?_; refine pu 4 29 HT_.out ?_; refine pu 5 30 HT_.out ?_; refine pu 6 31 HT_.out ?_; refine pu 7 32 HT_.out ?_; refine pu 9 34 HT_.out ?_; refine pu 10 35 HT_.out ?_; refine pu 11 36 HT_.out ?_; refine pu 13 38 HT_.out ?_; refine pu 14 39 HT_.out ?_; refine pu 15 40 HT_.out ?_; refine pu 16 41 HT_.out ?_; refine tk 3 28 HT_.out HW_.out hHeld ?_ (hy := by rintro w' ⟨s0, s1, s2, s3⟩; go_simp; with_reducible rfl); refine tk 8 33 HT_.out HW_.out hHeld ?_ (hy := by rintro w' ⟨s0, s1, s2, s3⟩; go_simp; with_reducible rfl); refine tk 12 37 HT_.out HW_.out hHeld ?_ (hy := by rintro w' ⟨s0, s1, s2, s3⟩; go_simp; with_reducible rfl); refine tk 17 42 HT_.out HW_.out hHeld ?_ (hy := by rintro w' ⟨s0, s1, s2, s3⟩; go_simp; with_reducible rfl); refine one_ (i := 18) (N := some 43) #[true, true, true, true, true, true, true, true, true, true, true, true, true, true, true, true, true, true, true] rfl rfl (one_of HT_.out (by kernel_rfl)) (by decide) (fun K hK => ?_); refine goes_ Tryz.func116 (by kernel_rfl) rfl #[.int .i64 (rd t124 x13_1), .int .i64 (rd t124 (ji10)), .int .i64 (rd t124 x6_2), .int .i64 (rd t124 (ji15))] (by rfl) rfl rfl (by (try simp only [List.map_toArray, List.map_cons, List.map_nil]); first | done | (simp only [hji10, hji15]; rfl) | rfl | (simp only [List.length_drop, List.length_take]; rfl)) ?_; (with_reducible refine (impl_cross.calls (rd t124 x13_1) (rd t124 (ji10)) (rd t124 x6_2) (rd t124 (ji15)) false _ A18.out).mono ?_); rintro e w30 ⟨rfl, hb⟩; have HS0_ := (hb.cell (World.block_lt_of_cell? _ _ (hHeld.1))).trans (hHeld.1); have HS1_ := (hb.cell (World.block_lt_of_cell? _ _ (hHeld.2.1))).trans (hHeld.2.1); have HS2_ := (hb.cell (World.block_lt_of_cell? _ _ (hHeld.2.2.1))).trans (hHeld.2.2.1); have HS3_ := (hb.cell (World.block_lt_of_cell? _ _ (hHeld.2.2.2))).trans (hHeld.2.2.2); refine ⟨_, rfl, ?_⟩; replace HO_3 := Aside0.mk (Kd.R_below (rR HO_3.out) hb); replace HO_4 := Aside0.mk (Kd.S_below (rS HO_4.out) hb); replace HB := bst HB hb; (try clear hb); (try clear hb2); (try clear hk); (try clear hi); refine hK.out _ _ ⟨HS0_, HS1_, HS2_, HS3_⟩ (fun hHeld => ?_); clear hK K; refine norm_ (a' := ?_) ?_ ?_
               rotate_left
               ·show Act.put _ (some 43) _ = _; simp only [Act.put, List.setIfInBounds_toArray, List.set_cons_zero, List.set_cons_succ, i64_w, i32_w]; rfl
               refine done_ (done_of HT_.out (by kernel_rfl)) ?_; try go_wp2
               first | go_roundg k2 | (simp only [← hji10, ← hji15]; go_roundg k2)
               case measure => have := HK1.out; have := HK2.out; omega
               case rel => exact ⟨(x4_2), (wrap64 (x6_2 + 2)), (sr2), H', ⟨by have := HK1.out; have := HK2.out; omega⟩, ⟨rR HO_3.out⟩, ⟨rS HO_4.out⟩, ⟨bl HB.out⟩⟩
              rw [if_neg c17] at H; exact absurd H (by simp)
             rw [if_neg c16] at H; exact absurd H (by simp)
            rw [if_neg c14] at H; exact absurd H (by simp)
           rw [if_neg c13] at H; exact absurd H (by simp)
          rw [if_neg c12] at H; exact absurd H (by simp)
         rw [if_neg c11] at H; exact absurd H (by simp)
        rw [if_neg c9] at H; exact absurd H (by simp)
       rw [if_neg c8] at H; exact absurd H (by simp)
      rw [if_neg c7] at H; have c7b0 := decide_eq_false c7; clear c7; have H' := Aside0.mk H; clear H; go_wp2
      go_roundg k2
      case measure => have := HK1.out; have := HK2.out; omega
      case rel => exact ⟨(x4_2), (wrap64 (x13_1 + 1)), (sr2), H', ⟨by have := HK1.out; have := HK2.out; omega⟩, ⟨rR HO_3.out⟩, ⟨rS HO_4.out⟩, ⟨bl HB.out⟩⟩
   rw [if_neg c6] at H; have c6b0 := decide_eq_false c6; clear c6; obtain rfl := Option.some.inj H; go_wp2; go_ret; exact ⟨_, sr, rS (Kd.S_mono HO_4.out (fun _ hk => trivial)), bl HB.out⟩
/-! ### impl_isFolding: function 54 -/
def impl_isFolding.f (k : Nat) (l0 : List Int) : Option (Bool) := (impl_crossedArcs.f k l0).bind fun t141 => (some ((t141.length : Int) == 0))
theorem impl_isFolding.mono : ∀ a0 k, LeO (impl_isFolding.f k a0) (impl_isFolding.f (k + 1) a0) := by
 intro a0 k; unfold impl_isFolding.f
 repeat' first
   | (with_reducible exact impl_crossedArcs.mono _ _)
   | (with_reducible exact LeO.refl _)
   | (with_reducible exact LeO.none _)
   | (with_reducible refine LeO.ite ?_ ?_)
   | (with_reducible refine LeO.bind ?_ (fun _ => ?_))
   | exact impl_crossedArcs.mono _ _
   | exact LeO.none _
   | refine LeO.ite ?_ ?_
   | refine LeO.bind ?_ (fun _ => ?_)
theorem impl_isFolding.calls (k : Nat) (A0 : Option Addr) (c0 : Nat) (l0 : List Int) (r : Bool) (w : World) (hr0 : Kd.C (Kd.int .i64) w A0 l0.length l0) (hc0 : l0.length ≤ c0) (h : impl_isFolding.f k l0 = some r) :
  Calls Tryz.prog 54 #[.slice A0 l0.length c0] w fun e w' => e = .returned (.bool r) ∧ Below w.heap.size w w' := by
 have HR0 := Aside0.mk hr0; have HC0 := Aside0.mk hc0; clear hr0 hc0; have HB := Aside0.mk (Below.refl w.heap.size w); have H : ((impl_crossedArcs.f k l0).bind fun t141 => (some ((t141.length : Int) == 0))) = some r := h; clear h; obtain ⟨t141, A2, H⟩ := bi H; (try dsimp only at H); obtain rfl := Option.some.inj H; go_enter Tryz.func54, Tryz.ntmps54; go_wp2_with (first | (go_at_call 93; (with_reducible refine (impl_crossedArcs.calls k _ _ l0 t141 _ ?side1 HC0.out A2.out).mono ?_); (case side1 => exact cw HR0.out); rintro e w3 ⟨v142, rfl, ho0, hb⟩; have HO143 := Aside0.mk (Kd.S_lower ho0 (below_size (bl HB.out))); replace HB := bst HB hb; obtain ⟨Ao4, co4, eo4⟩ := Kd.S_slice HO143.out; subst eo4)); go_ret; exact ⟨sr, bl HB.out⟩
/-! ### bits_Len64: function 133 -/
def bits_Len64.f (a0 : Int) : Option (Int) := if 0 ≤ a0 ∧ a0 < 256 then some (Lib.bitLen a0.toNat) else none
theorem bits_Len64.calls (a0 : Int) (r : Int) (w : World) (h : bits_Len64.f a0 = some r) :
  Calls Tryz.prog 133 #[.int .u64 a0] w fun e w' => e = .returned (.int .i64 r) ∧ Drawn0 w w' := by
 have hd : (0 ≤ a0 ∧ a0 < 256) ∧ (Lib.bitLen a0.toNat : Int) = r := by
  unfold bits_Len64.f at h
  split at h
  ·exact ⟨by assumption, by injection h⟩
  cases h
 obtain ⟨⟨h0, h1⟩, rfl⟩ := hd; go_enter Tryz.func133, Tryz.ntmps133; go_wp2
 all_goals first
  | (exfalso; omega)
  | (go_ret; refine ⟨congrArg Ending.returned (congrArg (Value.int IntKind.i64) ?_), Drawn0.refl _⟩)
 all_goals
  (have hb := Lib.len8_of a0 h0 (by omega)
   have l := Lib.bitLen_le8' a0 h0 (by omega)
   have hs : a0.toNat < Lib.len8tab.size := by rw [Lib.len8tab_size]; omega
   unfold Lib.len8 at hb
   rw [getElem?_pos Lib.len8tab a0.toNat hs, Option.getD_some] at hb
   rw [hb]
   unfold wrap64
   omega)
/-! ### bits_Len: function 110 -/
def bits_Len.f (a0 : Int) : Option (Int) := (bits_Len64.f a0).bind fun t144 => (some t144)
theorem bits_Len.calls (a0 : Int) (r : Int) (w : World) (h : bits_Len.f a0 = some r) :
  Calls Tryz.prog 110 #[.int .u64 a0] w fun e w' => e = .returned (.int .i64 r) ∧ Drawn0 w w' := by
 have H : ((bits_Len64.f a0).bind fun t144 => (some t144)) = some r := h; clear h; obtain ⟨t144, A2, H⟩ := bi H; (try dsimp only at H); obtain rfl := Option.some.inj H; go_enter Tryz.func110, Tryz.ntmps110; go_wp2_with (first | (go_at_call 133; (with_reducible refine (bits_Len64.calls a0 t144 _ A2.out).mono ?_); rintro e w' ⟨rfl, ⟨nd, rfl⟩⟩)); go_ret; exact ⟨sr2, by repeat (first | exact Drawn0.refl _ | apply Drawn0.step)⟩
/-! ### cmp_isNaN_int: function 134 -/
def cmp_isNaN_int.f (a0 : Int) : Option (Bool) := some (a0 != a0)
theorem cmp_isNaN_int.calls (a0 : Int) (r : Bool) (w : World) (h : cmp_isNaN_int.f a0 = some r) :
  Calls Tryz.prog 134 #[.int .i64 a0] w fun e w' => e = .returned (.bool r) ∧ Drawn0 w w' := by
 have H : (some (a0 != a0)) = some r := h; clear h; obtain rfl := Option.some.inj H; go_enter Tryz.func134, Tryz.ntmps134; go_wp2; go_ret; exact ⟨sr2, by repeat (first | exact Drawn0.refl _ | apply Drawn0.step)⟩
/-! ### cmp_Compare_int: function 111 -/
def cmp_Compare_int.f (a0 : Int) (a1 : Int) : Option (Int) := (cmp_isNaN_int.f a0).bind fun t146 => ((cmp_isNaN_int.f a1).bind fun t147 => (if t146 = true then (if t147 = true then (some 0) else (some (-1))) else (if t147 = true then (some 1) else (if a0 < a1 then (some (-1)) else (if a0 > a1 then (some 1) else (some 0))))))
theorem cmp_Compare_int.calls (a0 : Int) (a1 : Int) (r : Int) (w : World) (h : cmp_Compare_int.f a0 a1 = some r) :
  Calls Tryz.prog 111 #[.int .i64 a0, .int .i64 a1] w fun e w' => e = .returned (.int .i64 r) ∧ Drawn0 w w' := by
 have H : ((cmp_isNaN_int.f a0).bind fun t146 => ((cmp_isNaN_int.f a1).bind fun t147 => (if t146 = true then (if t147 = true then (some 0) else (some (-1))) else (if t147 = true then (some 1) else (if a0 < a1 then (some (-1)) else (if a0 > a1 then (some 1) else (some 0))))))) = some r := h; clear h; obtain ⟨t146, A3, H⟩ := bi H; (try dsimp only at H); obtain ⟨t147, A4, H⟩ := bi H; (try dsimp only at H)
 by_cases c5 : t146 = true
 ·subst c5; rw [if_pos rfl] at H
  by_cases c6 : t147 = true
  ·subst c6; rw [if_pos rfl] at H; obtain rfl := Option.some.inj H; go_enter Tryz.func111, Tryz.ntmps111; go_wp2_with (first | (go_at_call 134; (with_reducible refine (cmp_isNaN_int.calls a0 true _ A3.out).mono ?_); rintro e w' ⟨rfl, ⟨nd, rfl⟩⟩) | (go_at_call 134; (with_reducible refine (cmp_isNaN_int.calls a1 true _ A4.out).mono ?_); rintro e w' ⟨rfl, ⟨nd, rfl⟩⟩)); go_ret; exact ⟨sr2, by repeat (first | exact Drawn0.refl _ | apply Drawn0.step)⟩
  replace c6 := Bool.eq_false_iff.mpr c6; subst c6; rw [if_neg (show ¬ (false = true) by decide)] at H; obtain rfl := Option.some.inj H; go_enter Tryz.func111, Tryz.ntmps111; go_wp2_with (first | (go_at_call 134; (with_reducible refine (cmp_isNaN_int.calls a0 true _ A3.out).mono ?_); rintro e w' ⟨rfl, ⟨nd, rfl⟩⟩) | (go_at_call 134; (with_reducible refine (cmp_isNaN_int.calls a1 false _ A4.out).mono ?_); rintro e w' ⟨rfl, ⟨nd, rfl⟩⟩)); go_ret; exact ⟨sr2, by repeat (first | exact Drawn0.refl _ | apply Drawn0.step)⟩
 replace c5 := Bool.eq_false_iff.mpr c5; subst c5; rw [if_neg (show ¬ (false = true) by decide)] at H
 by_cases c7 : t147 = true
 ·subst c7; rw [if_pos rfl] at H; obtain rfl := Option.some.inj H; go_enter Tryz.func111, Tryz.ntmps111; go_wp2_with (first | (go_at_call 134; (with_reducible refine (cmp_isNaN_int.calls a0 false _ A3.out).mono ?_); rintro e w' ⟨rfl, ⟨nd, rfl⟩⟩) | (go_at_call 134; (with_reducible refine (cmp_isNaN_int.calls a1 true _ A4.out).mono ?_); rintro e w' ⟨rfl, ⟨nd, rfl⟩⟩)); go_ret; exact ⟨sr2, by repeat (first | exact Drawn0.refl _ | apply Drawn0.step)⟩
 replace c7 := Bool.eq_false_iff.mpr c7; subst c7; rw [if_neg (show ¬ (false = true) by decide)] at H
 by_cases c8 : a0 < a1
 ·rw [if_pos c8] at H; have c8b0 := decide_eq_true c8; clear c8; obtain rfl := Option.some.inj H; go_enter Tryz.func111, Tryz.ntmps111; go_wp2_with (first | (go_at_call 134; (with_reducible refine (cmp_isNaN_int.calls a0 false _ A3.out).mono ?_); rintro e w' ⟨rfl, ⟨nd, rfl⟩⟩) | (go_at_call 134; (with_reducible refine (cmp_isNaN_int.calls a1 false _ A4.out).mono ?_); rintro e w' ⟨rfl, ⟨nd, rfl⟩⟩)); go_ret; exact ⟨sr2, by repeat (first | exact Drawn0.refl _ | apply Drawn0.step)⟩
 rw [if_neg c8] at H; have c8b0 := decide_eq_false c8; clear c8
 by_cases c9 : a0 > a1
 ·rw [if_pos c9] at H; have c9b0 := decide_eq_true c9; clear c9; obtain rfl := Option.some.inj H; go_enter Tryz.func111, Tryz.ntmps111; go_wp2_with (first | (go_at_call 134; (with_reducible refine (cmp_isNaN_int.calls a0 false _ A3.out).mono ?_); rintro e w' ⟨rfl, ⟨nd, rfl⟩⟩) | (go_at_call 134; (with_reducible refine (cmp_isNaN_int.calls a1 false _ A4.out).mono ?_); rintro e w' ⟨rfl, ⟨nd, rfl⟩⟩)); go_ret; exact ⟨sr2, by repeat (first | exact Drawn0.refl _ | apply Drawn0.step)⟩
 rw [if_neg c9] at H; have c9b0 := decide_eq_false c9; clear c9; obtain rfl := Option.some.inj H; go_enter Tryz.func111, Tryz.ntmps111; go_wp2_with (first | (go_at_call 134; (with_reducible refine (cmp_isNaN_int.calls a0 false _ A3.out).mono ?_); rintro e w' ⟨rfl, ⟨nd, rfl⟩⟩) | (go_at_call 134; (with_reducible refine (cmp_isNaN_int.calls a1 false _ A4.out).mono ?_); rintro e w' ⟨rfl, ⟨nd, rfl⟩⟩)); go_ret; exact ⟨sr2, by repeat (first | exact Drawn0.refl _ | apply Drawn0.step)⟩
/-! ### slices_Compare_int_int: function 87 -/
def slices_Compare_int_int.l0 : Nat → List Int → List Int → List Int → Int → Int → Option (Int)
 | 0, _, _, _, _, _ => none
 | k + 1, x0, x1, x9, x10, x11 => if x11 < x10 then (if 0 ≤ x11 then (if x11 < (x9.length : Int) then (if x11 ≥ (x1.length : Int) then (some 1) else (if x11 < (x1.length : Int) then ((cmp_Compare_int.f (rd x9 x11) (rd x1 x11)).bind fun t150 => (if t150 = 0 then (slices_Compare_int_int.l0 k x0 x1 x9 x10 (wrap64 (x11 + 1))) else (some t150))) else (none))) else (none)) else (none)) else (if (x0.length : Int) < (x1.length : Int) then (some (-1)) else (some 0))
def slices_Compare_int_int.f (k : Nat) (l0 : List Int) (l1 : List Int) : Option (Int) := slices_Compare_int_int.l0 k l0 l1 l0 (l0.length : Int) 0
theorem slices_Compare_int_int.calls (k : Nat) (A0 : Option Addr) (c0 : Nat) (l0 : List Int) (A1 : Option Addr) (c1 : Nat) (l1 : List Int) (r : Int) (w : World) (hr0 : Kd.C (Kd.int .i64) w A0 l0.length l0) (hc0 : l0.length ≤ c0) (hr1 : Kd.C (Kd.int .i64) w A1 l1.length l1) (hc1 : l1.length ≤ c1) (h : slices_Compare_int_int.f k l0 l1 = some r) :
  Calls Tryz.prog 87 #[.slice A0 l0.length c0, .slice A1 l1.length c1] w fun e w' => e = .returned (.int .i64 r) ∧ Drawn0 w w' := by
 have HR0 := Aside0.mk hr0
 have HC0 := Aside0.mk hc0
 clear hr0 hc0
 have HR1 := Aside0.mk hr1
 have HC1 := Aside0.mk hc1
 clear hr1 hc1
 have H : (slices_Compare_int_int.l0 k l0 l1 l0 (l0.length : Int) 0) = some r := h
 clear h
 have H' := Aside0.mk H
 clear H
 go_enter Tryz.func87, Tryz.ntmps87
 go_wp2
 go_loopg [11] k (fun kq v11 w' => ∃ (x11_1 : Int), v11 = .int .i64 x11_1 ∧ Aside0 (slices_Compare_int_int.l0 kq l0 l1 l0 (l0.length : Int) x11_1 = some r) ∧ Aside0 (kq ≤ k) ∧ Drawn0 w w')
 case atStart => exact ⟨(0), (by first | rfl | (simp; done) | (simp [*]; done)), H', ⟨Nat.le_refl _⟩, by repeat (first | exact Drawn0.refl _ | apply Drawn0.step)⟩
 case round =>
  clear H'
  obtain ⟨x11_1, rfl, HA, HK1, ⟨m1, rfl⟩⟩ := hrel
  cases gk with
  | zero => exact absurd HA.out (by simp [slices_Compare_int_int.l0])
  | succ k1 =>
   have H := HA.out
   clear HA
   simp only [slices_Compare_int_int.l0] at H
   by_cases c3 : x11_1 < (l0.length : Int)
   ·rw [if_pos c3] at H
    have c3b0 : decide (x11_1 < (l0.length : Int)) = true := decide_eq_true c3
    clear c3
    by_cases c4 : 0 ≤ x11_1
    ·rw [if_pos c4] at H
     have c4b0 : decide (0 ≤ x11_1) = true := decide_eq_true c4
     clear c4
     by_cases c5 : x11_1 < (l0.length : Int)
     ·rw [if_pos c5] at H
      have c5b0 : decide (x11_1 < (l0.length : Int)) = true := decide_eq_true c5
      clear c5
      by_cases c6 : x11_1 ≥ (l1.length : Int)
      ·rw [if_pos c6] at H
       have c6b0 : decide ((l1.length : Int) ≤ x11_1) = true := decide_eq_true c6
       clear c6
       obtain rfl := Option.some.inj H
       have p148 : 0 ≤ (x11_1 : Int) := of_decide_eq_true (by first | (with_reducible assumption) | assumption)
       have q148 : x11_1 < (l0.length : Int) := of_decide_eq_true (by first | (with_reducible assumption) | assumption)
       obtain ⟨ad148, e148, hx148_0⟩ := Kd.at_int HR0.out x11_1 p148 q148
       cases e148
       replace p148 := eq_true p148
       replace q148 := eq_true q148
       go_wp2
       go_ret
       exact ⟨by first | rfl | (simp; done) | (simp [*]; done), by repeat (first | exact Drawn0.refl _ | apply Drawn0.step)⟩
      ·rw [if_neg c6] at H
       have c6b0 : decide ((l1.length : Int) ≤ x11_1) = false := decide_eq_false c6
       clear c6
       by_cases c7 : x11_1 < (l1.length : Int)
       ·rw [if_pos c7] at H
        have c7b0 : decide (x11_1 < (l1.length : Int)) = true := decide_eq_true c7
        clear c7
        replace H := Option.bind_eq_some_iff.mp H
        obtain ⟨t150, A80, H⟩ := H
        try dsimp only at H
        have A8 := Aside0.mk A80
        clear A80
        by_cases c9 : t150 = 0
        ·rw [if_pos c9] at H
         have c9b0 : (t150 == 0) = true := beq_iff_eq.mpr c9
         have c9b1 : (t150 != 0) = false := bne_eq_false_iff_eq.mpr c9
         clear c9
         have H' := Aside0.mk H
         clear H
         have p148 : 0 ≤ (x11_1 : Int) := of_decide_eq_true (by first | (with_reducible assumption) | assumption)
         have q148 : x11_1 < (l0.length : Int) := of_decide_eq_true (by first | (with_reducible assumption) | assumption)
         obtain ⟨ad148, e148, hx148_0⟩ := Kd.at_int HR0.out x11_1 p148 q148
         cases e148
         replace p148 := eq_true p148
         replace q148 := eq_true q148
         have p149 : 0 ≤ (x11_1 : Int) := of_decide_eq_true (by first | (with_reducible assumption) | assumption)
         have q149 : x11_1 < (l1.length : Int) := of_decide_eq_true (by first | (with_reducible assumption) | assumption)
         obtain ⟨ad149, e149, hx149_0⟩ := Kd.at_int HR1.out x11_1 p149 q149
         cases e149
         replace p149 := eq_true p149
         replace q149 := eq_true q149
         go_wp2_with (first | (go_at_call 111; (with_reducible refine (cmp_Compare_int.calls (rd l0 x11_1) (rd l1 x11_1) t150 _ A8.out).mono ?_); rintro e w' ⟨rfl, ⟨nd, rfl⟩⟩))
         go_roundg k1
         case measure => have := HK1.out; omega
         case rel => exact ⟨(wrap64 (x11_1 + 1)), (by first | rfl | (simp; done) | (simp [*]; done)), H', ⟨by have := HK1.out; omega⟩, by repeat (first | exact Drawn0.refl _ | apply Drawn0.step)⟩
        ·rw [if_neg c9] at H
         have c9b0 : (t150 == 0) = false := beq_eq_false_iff_ne.mpr c9
         have c9b1 : (t150 != 0) = true := bne_iff_ne.mpr c9
         obtain rfl := Option.some.inj H
         have p148 : 0 ≤ (x11_1 : Int) := of_decide_eq_true (by first | (with_reducible assumption) | assumption)
         have q148 : x11_1 < (l0.length : Int) := of_decide_eq_true (by first | (with_reducible assumption) | assumption)
         obtain ⟨ad148, e148, hx148_0⟩ := Kd.at_int HR0.out x11_1 p148 q148
         cases e148
         replace p148 := eq_true p148
         replace q148 := eq_true q148
         have p149 : 0 ≤ (x11_1 : Int) := of_decide_eq_true (by first | (with_reducible assumption) | assumption)
         have q149 : x11_1 < (l1.length : Int) := of_decide_eq_true (by first | (with_reducible assumption) | assumption)
         obtain ⟨ad149, e149, hx149_0⟩ := Kd.at_int HR1.out x11_1 p149 q149
         cases e149
         replace p149 := eq_true p149
         replace q149 := eq_true q149
         go_wp2_with (first | (go_at_call 111; (with_reducible refine (cmp_Compare_int.calls (rd l0 x11_1) (rd l1 x11_1) t150 _ A8.out).mono ?_); rintro e w' ⟨rfl, ⟨nd, rfl⟩⟩))
         go_ret
         exact ⟨by first | rfl | (simp; done) | (simp [*]; done), by repeat (first | exact Drawn0.refl _ | apply Drawn0.step)⟩
       ·rw [if_neg c7] at H
        exact absurd H (by simp)
     ·rw [if_neg c5] at H
      exact absurd H (by simp)
    ·rw [if_neg c4] at H
     exact absurd H (by simp)
   ·rw [if_neg c3] at H
    have c3b0 : decide (x11_1 < (l0.length : Int)) = false := decide_eq_false c3
    clear c3
    by_cases c10 : (l0.length : Int) < (l1.length : Int)
    ·rw [if_pos c10] at H
     have c10b0 : decide ((l0.length : Int) < (l1.length : Int)) = true := decide_eq_true c10
     have c10b1 : decide (l0.length < l1.length) = true := decide_eq_true (Int.ofNat_lt.mp c10)
     clear c10
     obtain rfl := Option.some.inj H
     go_wp2
     go_ret
     exact ⟨by first | rfl | (simp; done) | (simp [*]; done), by repeat (first | exact Drawn0.refl _ | apply Drawn0.step)⟩
    ·rw [if_neg c10] at H
     have c10b0 : decide ((l0.length : Int) < (l1.length : Int)) = false := decide_eq_false c10
     have c10b1 : decide (l0.length < l1.length) = false := decide_eq_false (fun h => c10 (Int.ofNat_lt.mpr h))
     clear c10
     obtain rfl := Option.some.inj H
     go_wp2
     go_ret
     exact ⟨by first | rfl | (simp; done) | (simp [*]; done), by repeat (first | exact Drawn0.refl _ | apply Drawn0.step)⟩

-- NOT PRINTED: function 122 (slices_overlaps_int)
/-! ### slices_Insert_int_int: function 106 -/
def slices_Insert_int_int.f (l0 : List Int) (a1 : Int) (l2 : List Int) : Option (List Int) := if 0 ≤ a1 then (if a1 ≤ (l0.length : Int) then (if l2.length = 1 then (if l0.length < 17592186044415 then some (l0.take a1.toNat ++ l2 ++ l0.drop a1.toNat) else none) else none) else none) else none
theorem slices_Insert_int_int.calls (P0_ : Nat → Prop) (u9000_ : Value) (l0 : List Int) (a1 : Int) (P2_ : Nat → Prop) (u9001_ : Value) (l2 : List Int) (r : List Int) (w0 w : World) (hB : Below w0.heap.size w0 w) (ho0 : Kd.R (Kd.int .i64) 3 w w0.heap.size P0_ u9000_ l0) (hp0_2 : ∀ k_, P0_ k_ → ¬ P2_ k_) (ho2 : Kd.R (Kd.int .i64) 3 w w0.heap.size P2_ u9001_ l2) (hp2_0 : ∀ k_, P2_ k_ → ¬ P0_ k_) (h : slices_Insert_int_int.f l0 a1 l2 = some r) :
  Calls Tryz.prog 106 #[u9000_, .int .i64 a1, u9001_] w fun e w' => ∃ v0_ : Value, e = .returned (v0_) ∧ Kd.R (Kd.int .i64) 3 w' w0.heap.size (fun k_ => ((P0_ k_ ∨ P2_ k_) ∨ w.heap.size ≤ k_)) v0_ r ∧ Below w0.heap.size w0 w' ∧ Kept w w' (fun k_ => P0_ k_ ∨ P2_ k_) := by
 unfold slices_Insert_int_int.f at h
 by_cases h1 : 0 ≤ a1
 ·rw [if_pos h1] at h
  by_cases h2 : a1 ≤ (l0.length : Int)
  ·rw [if_pos h2] at h
   by_cases h3 : l2.length = 1
   ·rw [if_pos h3] at h
    by_cases h4 : l0.length < 17592186044415
    ·rw [if_pos h4] at h; obtain rfl := Option.some.inj h
     obtain ⟨x, rfl⟩ : ∃ x, l2 = [x] := by
      match l2, h3 with
      | [x], _ => exact ⟨x, rfl⟩
     obtain ⟨i, rfl⟩ : ∃ i : Nat, a1 = i := ⟨a1.toNat, by omega⟩; have o0 := Kd.own_of_R ho0; have o2 := Kd.own_of_R ho2
     have hb0 : u9001_.ownBlock ≠ u9000_.ownBlock := by
      intro e; obtain ⟨g, cap, ev, _⟩ := Kd.R_form ho2 (by simp); (have e1 : u9001_.ownBlock = some g := by rw [ev]; rfl); exact hp0_2 g (ho0.1 g (e.symm.trans e1)) (ho2.1 g e1)
     have hcon := InsR.insert_own Shelf.insL 3 rfl w0.heap.size u9000_ u9001_ l0.length i (encs (Value.int .i64) l0) (.int .i64 x) w (by omega) (by omega) o0 o2 hb0 (fun v hv => by
      obtain ⟨y, _, rfl⟩ := List.mem_map.1 hv
      rfl) rfl hB.size
     refine hcon.mono ?_; rintro e w' ⟨v', rfl, hO, hg, hat⟩; (have hl : (l0.take ((i : Int)).toNat ++ [x] ++ l0.drop ((i : Int)).toNat).length = l0.length + 1 := by simp; omega); refine ⟨v', rfl, ?_, Below.grown hB hg hB.size (Kd.R_base ho0), hg.size, fun q hq hn => hg.block q hq (fun e => hn (.inl (ho0.1 q e.symm)))⟩
     refine Kd.R_of_own (h1 := fun _ => rfl) ?_ ?_
     ·rw [hl]
      have he : encs (Value.int .i64) (l0.take ((i : Int)).toNat ++ [x] ++ l0.drop ((i : Int)).toNat) = (encs (Value.int .i64) l0).take i ++ [.int .i64 x] ++ (encs (Value.int .i64) l0).drop i := by
       simp [encs]
      rw [he]; exact hO
     intro q hq
     rcases hat with hat | ⟨b, hb, hle⟩
     ·exact .inl (.inl (ho0.1 q (hat.symm.trans hq)))
     rw [hb] at hq; (injection hq with hq); exact .inr (by omega)
    rw [if_neg h4] at h; cases h
   rw [if_neg h3] at h; cases h
  rw [if_neg h2] at h; cases h
 rw [if_neg h1] at h; cases h
/-! ### slices_Clone_int_int: function 107 -/
def slices_Clone_int_int.f (l0 : List Int) : Option (List Int) := if l0.length < 17592186044416 then some l0 else none
theorem slices_Clone_int_int.calls (A0 : Option Addr) (c0 : Nat) (l0 : List Int) (r : List Int) (w : World) (hr0 : Kd.C (Kd.int .i64) w A0 l0.length l0) (hc0 : l0.length ≤ c0) (h : slices_Clone_int_int.f l0 = some r) :
  Calls Tryz.prog 107 #[.slice A0 l0.length c0] w fun e w' => ∃ v0_ : Value, e = .returned (v0_) ∧ Kd.R (Kd.int .i64) 3 w' w.heap.size (fun _ => True) v0_ r ∧ Below w.heap.size w w' := by
 have HR0 := Aside0.mk hr0; have HC0 := Aside0.mk hc0; have HB := Aside0.mk (Below.refl w.heap.size w)
 have hlen : l0.length < 17592186044416 ∧ l0 = r := by
  unfold slices_Clone_int_int.f at h
  split at h
  ·exact ⟨by assumption, by injection h⟩
  cases h
 obtain ⟨hl, rfl⟩ := hlen; have LM := Aside0.mk hl; clear h hl
 cases A0 with
 | none =>
  have e0 : l0 = [] := by
   cases l0 with
   | nil => rfl
   | cons x t => obtain ⟨ad, e, _⟩ := hr0.2.2 (by simp); cases e
  clear hr0 hc0; subst e0; have q22 : ∀ (w : World) (a : Option Addr) (n c n' c' : Nat), (binOp .eql 31 (.slice a n c) (.slice none n' c')).run Tryz.prog w = .ok (.bool a.isNone) w := fun w a n c n' c' => Go.Lib.run_eql_slice_nil w _ _ a n c n' c' Tryz.underlying31; go_enter Tryz.func107, Tryz.ntmps107; go_wp2; go_ret; exact ⟨_, rfl, Kd.R_nil _ _ _ _ _, Below.refl _ _⟩
 | some a0 =>
  clear hr0 hc0; obtain ⟨y0, hy0⟩ := yy ([] : List Int); have N0 := Aside0.mk hy0; have LN := Aside0.mk (show (y0 ++ l0) = l0 by rw [hy0]; rfl); clear hy0; have q22 : ∀ (w : World) (a : Option Addr) (n c n' c' : Nat), (binOp .eql 31 (.slice a n c) (.slice none n' c')).run Tryz.prog w = .ok (.bool a.isNone) w := fun w a n c n' c' => Go.Lib.run_eql_slice_nil w _ _ a n c n' c' Tryz.underlying31; go_enter Tryz.func107, Tryz.ntmps107; go_wp2_with (first | ((with_reducible refine gate_dst (N := 5) rfl ?_); refine Kd.R_lit (Kd.int .i64) _ 3 ?hg (N := 5) ?hd (xs := ([] : List Int)) (inner := []) (ok := fun _ => True) (okp := fun _ => True) ?hr ?hp (fun _ hk => hk) trivial (Below.refl _ _) (Nat.le_refl _) (by simp) ?_; (case hd => rfl); (case hg => rfl); (case hr => first | (go_simp; done) | (go_simp; rfl)); (case hp => exact (Reps.none _ _)); intro v126 w3 ho4 hb hg_ hnew_; clear hg_ hnew_; rw [← N0.out] at ho4; have HO127 := Aside0.mk (Kd.R_lower ho4 (below_size (bl HB.out))); replace HB := bst HB hb; clear hb ho4) | ((with_reducible refine gate_builtin (b := .append) (xs := #[.tmp 5, .tmp 6]) rfl ?_); at_builtin; refine Kd.R_append_rows (Kd.int .i64) (w0 := w) w.heap.size rfl (.tmp 5) (.tmp 6) 31 3 (.int .i64 0) 8 rfl Tryz.underlying31 info3 rfl (by decide) (by omega) v126 y0 l0 _ _ _ (fun _ => True) (fun _ => False) rfl rfl ?aO ?aR (fun _ _ h => h) (fun _ h => h.elim) ?aF ?aB ?aS (by have := LM.out; have h0 := N0.out; simp only [h0, List.length_nil]; omega) ?_; (case aR => exact cw (Kd.C_below HR0.out HB.out)); (case aB => exact (bl HB.out)); (case aF => exact (fun _ _ => trivial)); (case aO => exact (rR HO127.out)); (case aS => exact (below_size (bl HB.out))); intro v129 w5 ho hb hg hat; rw [LN.out] at ho; replace HB := Aside0.mk (hb); have HO130 := Aside0.mk (ho); clear HO127; clear ho hb hg hat)); go_ret; exact ⟨_, rfl, rR HO130.out, bl HB.out⟩
/-! ### slices_SortFunc_int_int_at_slices_Compare_int_int: function 185 -/
theorem slices_SortFunc_int_int_at_slices_Compare_int_int.cmp_l0 (a b : List Int) (d : Nat) : ∀ (k i : Nat), i + d = a.length → d < k → a.length ≤ 9223372036854775807 → a.take i = b.take i → i ≤ b.length →
  slices_Compare_int_int.l0 k a b a (a.length : Int) (i : Int) = some (SortL.cmpL (a.drop i) (b.drop i)) := by
 induction d with
 | zero =>
  intro k i hi hk hm ht hb; obtain ⟨k, rfl⟩ : ∃ m, k = m + 1 := ⟨k - 1, by omega⟩; rw [slices_Compare_int_int.l0, if_neg (by omega), List.drop_of_length_le (by omega)]
  by_cases h : (a.length : Int) < (b.length : Int)
  ·rw [if_pos h, List.drop_eq_getElem_cons (by omega : i < b.length)]; rfl
  rw [if_neg h, List.drop_of_length_le (by omega)]; rfl
 | succ d ih =>
  intro k i hi hk hm ht hb; obtain ⟨k, rfl⟩ : ∃ m, k = m + 1 := ⟨k - 1, by omega⟩; (have hlt : i < a.length := by omega); rw [slices_Compare_int_int.l0, if_pos (by omega), if_pos (by omega), if_pos (by omega)]
  by_cases hb2 : i < b.length
  ·rw [if_neg (by omega), if_pos (by omega)]; (have ea : rd a (i : Int) = a[i] := by unfold rd; simp [hlt]); (have eb : rd b (i : Int) = b[i] := by unfold rd; simp [hb2]); rw [ea, eb, List.drop_eq_getElem_cons hlt, List.drop_eq_getElem_cons hb2]; unfold cmp_Compare_int.f cmp_isNaN_int.f; simp only [Option.bind_some, bne_self_eq_false, Bool.false_eq_true, if_false]; have hw : wrap64 ((i : Int) + 1) = ((i + 1 : Nat) : Int) := by unfold wrap64; omega
   by_cases h1 : a[i] < b[i]
   ·rw [if_pos h1, Option.bind_some, if_neg (by decide)]; unfold SortL.cmpL; rw [if_pos h1]
   by_cases h2 : b[i] < a[i]
   ·rw [if_neg h1, if_pos (show a[i] > b[i] from h2), Option.bind_some, if_neg (by decide)]; unfold SortL.cmpL; rw [if_neg h1, if_pos h2]
   rw [if_neg h1, if_neg (show ¬ a[i] > b[i] from h2), Option.bind_some, if_pos rfl, hw]; rw [ih k (i + 1) (by omega) (by omega) hm (by rw [List.take_succ_eq_append_getElem hlt, List.take_succ_eq_append_getElem hb2, ht, show a[i] = b[i] by omega]) (by omega)]
   conv => rhs; unfold SortL.cmpL
   rw [if_neg h1, if_neg h2]
  rw [if_pos (by omega), List.drop_eq_getElem_cons hlt, List.drop_of_length_le (by omega : b.length ≤ i)]; rfl
theorem slices_SortFunc_int_int_at_slices_Compare_int_int.cmp (a b : List Int) (hm : a.length ≤ 9223372036854775807) : slices_Compare_int_int.f (a.length + 1) a b = some (SortL.cmpL a b) := by
 unfold slices_Compare_int_int.f; have := slices_SortFunc_int_int_at_slices_Compare_int_int.cmp_l0 a b a.length (a.length + 1) 0 (by omega) (by omega) hm rfl (by omega)
 simpa using this
def slices_SortFunc_int_int_at_slices_Compare_int_int.f (l0 : List (List Int)) : Option (List (List Int)) := if l0.length < 4611686018427387904 then some (SortL.sortL l0) else none
theorem slices_SortFunc_int_int_at_slices_Compare_int_int.calls (P0_ : Nat → Prop) (u9000_ : Value) (l0 : List (List Int)) (r : List (List Int)) (w0 w : World) (hB : Below w0.heap.size w0 w) (ho0 : Kd.S (Kd.slice 3 (Kd.int .i64)) 31 w w0.heap.size P0_ u9000_ l0) (h : slices_SortFunc_int_int_at_slices_Compare_int_int.f l0 = some r) :
  Calls Tryz.prog 86 #[u9000_, .func (.func 87) #[] #[]] w fun e w' => e = .returned (.tuple #[]) ∧ Kd.S (Kd.slice 3 (Kd.int .i64)) 31 w' w0.heap.size P0_ u9000_ r ∧ Below w0.heap.size w0 w' ∧ Kept w w' (fun k_ => some k_ = (u9000_ : Value).ownBlock) := by
 unfold slices_SortFunc_int_int_at_slices_Compare_int_int.f at h
 by_cases hl : l0.length < 4611686018427387904
 ·rw [if_pos hl] at h; obtain rfl := Option.some.inj h
  have hcon := SortS.sort_S Shelf.sortL 3 31 87
   (fun A c a A' c' b W hA hc hA' hc' => slices_Compare_int_int.calls (a.length + 1) A c a A' c' b (SortL.cmpL a b) W hA hc hA' hc' (slices_SortFunc_int_int_at_slices_Compare_int_int.cmp a b hA.2.1))
   (enters_of Tryz.func87 (by kernel_rfl) rfl) w0.heap.size P0_ u9000_ l0 w ho0 hl
  refine hcon.mono ?_; rintro e w' ⟨rfl, hS, hg⟩; exact ⟨rfl, hS, Below.grown hB hg hB.size (Kd.S_base ho0), hg.size, fun i hi hn => hg.block i hi hn⟩
 rw [if_neg hl] at h; cases h
/-! ### impl_added: function 83 -/
def impl_added.l0 : Nat → List Int → List (List Int) → Int → Int → Option ((List (List Int)))
 | 0, _, _, _, _ => none
 | k + 1, x0, x3, x9, x10 => if x10 < x9 then ((slices_Clone_int_int.f x0).bind fun t163 => ((slices_Insert_int_int.f t163 x10 (([(x0.length : Int)] : List Int))).bind fun t169 => ((impl_isFolding.f k t169).bind fun t172 => (if t172 = true then (if x3.length < 5864062014805 then (impl_added.l0 k x0 (x3 ++ [t169]) x9 (wrap64 (x10 + 1))) else (none)) else (impl_added.l0 k x0 x3 x9 (wrap64 (x10 + 1))))))) else ((slices_SortFunc_int_int_at_slices_Compare_int_int.f x3).bind fun t162 => (some t162))
def impl_added.f (k : Nat) (l0 : List Int) : Option ((List (List Int))) := impl_added.l0 k l0 (([] : List (List Int))) (wrap64 ((l0.length : Int) + 1)) 0
theorem impl_added.mono_l : ∀ k, (∀ y0 y1 y2 y3, LeO (impl_added.l0 k y0 y1 y2 y3) (impl_added.l0 (k + 1) y0 y1 y2 y3))
 | 0 => fun _ _ _ _ r h => by simp [impl_added.l0] at h
 | k + 1 => by
  have ih0 := impl_added.mono_l k
  ·intro y0 y1 y2 y3
   unfold impl_added.l0
   repeat' first
   | (with_reducible exact ih0 _ _ _ _)
   | (with_reducible exact impl_isFolding.mono _ _)
   | (with_reducible exact LeO.refl _)
   | (with_reducible exact LeO.none _)
   | (with_reducible refine LeO.ite ?_ ?_)
   | (with_reducible refine LeO.bind ?_ (fun _ => ?_))
   | exact ih0 _ _ _ _
   | exact impl_isFolding.mono _ _
   | exact LeO.none _
   | refine LeO.ite ?_ ?_
   | refine LeO.bind ?_ (fun _ => ?_)
theorem impl_added.mono : ∀ a0 k, LeO (impl_added.f k a0) (impl_added.f (k + 1) a0) := by
 intro a0 k; have ih0 := impl_added.mono_l k; unfold impl_added.f
 repeat' first
   | (with_reducible exact ih0 _ _ _ _)
   | (with_reducible exact impl_isFolding.mono _ _)
   | (with_reducible exact LeO.refl _)
   | (with_reducible exact LeO.none _)
   | (with_reducible refine LeO.ite ?_ ?_)
   | (with_reducible refine LeO.bind ?_ (fun _ => ?_))
   | exact ih0 _ _ _ _
   | exact impl_isFolding.mono _ _
   | exact LeO.none _
   | refine LeO.ite ?_ ?_
   | refine LeO.bind ?_ (fun _ => ?_)
theorem impl_added.calls (k : Nat) (A0 : Option Addr) (c0 : Nat) (l0 : List Int) (r : List (List Int)) (w : World) (hr0 : Kd.C (Kd.int .i64) w A0 l0.length l0) (hc0 : l0.length ≤ c0) (h : impl_added.f k l0 = some r) :
  Calls Tryz.prog 83 #[.slice A0 l0.length c0] w fun e w' => ∃ v0_ : Value, e = .returned (v0_) ∧ Kd.S (Kd.slice 3 (Kd.int .i64)) 31 w' w.heap.size (fun _ => True) v0_ r ∧ Below w.heap.size w w' := by
 have HR0 := Aside0.mk hr0; have HC0 := Aside0.mk hc0; clear hr0 hc0; have HB := Aside0.mk (Below.refl w.heap.size w); have H : (impl_added.l0 k l0 (([] : List (List Int))) (wrap64 ((l0.length : Int) + 1)) 0) = some r := h; clear h; obtain ⟨y159, hy159⟩ := yy (([] : List (List Int)))
 (try rw [Option.bind_some] at H); (try dsimp only at H); rw [← hy159] at H
 have Ny159 := Aside0.mk hy159; clear hy159; have H' := Aside0.mk H; clear H; go_enter Tryz.func83, Tryz.ntmps83; go_wp2_with (first | ((with_reducible refine gate_dst (N := 6) rfl ?_); refine Kd.S_lit (Kd.slice 3 (Kd.int .i64)) _ 31 ?hg (N := 6) ?hd (xs := ([] : List (List Int))) (inner := []) (ok := fun _ => True) (okp := fun _ => True) ?hr ?hp (fun _ hk => hk) trivial (Below.refl _ _) (Nat.le_refl _) (by simp) ?_; (case hd => rfl); (case hg => rfl); (case hr => first | (go_simp; done) | (go_simp; rfl)); (case hp => exact (Reps.none _ _)); intro v160 w2 ho3 hb hg_ hnew_; clear hg_ hnew_; (first | rw [← Ny159.out] at ho3 | (simp only [Int.reduceToNat] at ho3; rw [← Ny159.out] at ho3)); have HO161 := Aside0.mk (Kd.S_lower ho3 (below_size (bl HB.out))); replace HB := bst HB hb; clear hb ho3))
 go_loopg [3, 10] k (fun kq v3 v10 w' => ∃ (x3_1 : List (List Int)) (x10_1 : Int), v10 = .int .i64 x10_1 ∧ Aside0 (impl_added.l0 kq l0 x3_1 (wrap64 ((l0.length : Int) + 1)) x10_1 = some r) ∧ Aside0 (kq ≤ k) ∧ Aside0 (Kd.S (Kd.slice 3 (Kd.int .i64)) 31 w' w.heap.size (fun _ => True) v3 x3_1) ∧ Aside0 (Below w.heap.size w w'))
 case atStart => exact ⟨(y159), (0), (sr2), H', ⟨Nat.le_refl _⟩, ⟨rS HO161.out⟩, ⟨bl HB.out⟩⟩
 case round =>
  clear H'; obtain ⟨x3_1, x10_1, rfl, HA, HK1, HO_3, HB⟩ := hrel
  cases gk with
  | zero => exact absurd HA.out (by simp [impl_added.l0])
  | succ k1 =>
   have H := HA.out; clear HA; simp only [impl_added.l0] at H
   by_cases c4 : x10_1 < (wrap64 ((l0.length : Int) + 1))
   ·rw [if_pos c4] at H; have c4b0 := decide_eq_true c4; clear c4; obtain ⟨t163, A5, H⟩ := bi H; (try dsimp only at H); obtain ⟨y166, hy166⟩ := yy (([(l0.length : Int)] : List Int))
    (try rw [Option.bind_some] at H); (try dsimp only at H); rw [← hy166] at H
    have Ny166 := Aside0.mk hy166; clear hy166; obtain ⟨t169, A6, H⟩ := bi H; (try dsimp only at H); obtain ⟨t172, A7, H⟩ := bi H; (try dsimp only at H)
    by_cases c8 : t172 = true
    ·subst c8; rw [if_pos rfl] at H
     by_cases c9 : x3_1.length < 5864062014805
     ·rw [if_pos c9] at H; have LMc9 := Aside0.mk c9; clear c9; obtain ⟨y173, hy173⟩ := yy (x3_1 ++ [t169])
      (try rw [Option.bind_some] at H); (try dsimp only at H); rw [← hy173] at H
      have Ny173 := Aside0.mk hy173; clear hy173; have H' := Aside0.mk H; clear H; go_wp2_with (first | ((with_reducible refine gate_callee (f := 107) rfl ?_); refine goesL_ (some 14) rfl rfl Tryz.func107 (by kernel_rfl) rfl #[.slice A0 l0.length c0] rfl mp ?_; (with_reducible refine (slices_Clone_int_int.calls _ _ l0 t163 _ ?side1 ?side2 A5.out).mono ?_); (case side1 => exact cw (Kd.C_below HR0.out HB.out)); (case side2 => exact HC0.out); rintro e w10 ⟨v164, rfl, ho0, hb⟩; refine ⟨_, rfl, ?_⟩; replace HO_3 := Aside0.mk (Kd.S_elder' (rS HO_3.out) (Kd.R_base ho0) hb); have HO165 := Aside0.mk (Kd.R_lower ho0 (below_size (bl HB.out))); replace HB := bst HB hb) | ((with_reducible refine gate_dst (N := 18) rfl ?_); refine Kd.R_lit (Kd.int .i64) _ 3 ?hg (N := 18) ?hd (xs := ([(l0.length : Int)] : List Int)) (inner := [.int .i64 (l0.length : Int)]) (ok := fun _ => True) (okp := fun _ => True) ?hr ?hp (fun _ hk => hk) trivial (Below.refl _ _) (Nat.le_refl _) (by simp) ?_; (case hd => rfl); (case hg => rfl); (case hr => first | (go_simp; done) | (go_simp; rfl)); (case hp => exact (Reps.one (show Kd.M (Kd.int .i64) _ _ _ (l0.length : Int) [.int .i64 (l0.length : Int)] from rfl) (Reps.none _ _))); intro v167 w11 ho12 hb hg_ hnew_; clear hg_ hnew_; (first | rw [← Ny166.out] at ho12 | (simp only [Int.reduceToNat] at ho12; rw [← Ny166.out] at ho12)); replace HO_3 := Aside0.mk (Kd.S_elder' (rS HO_3.out) (Kd.R_base ho12) hb); have HO168 := Aside0.mk (Kd.R_lower (Kd.R_new' ho12 (Kd.R_lt (rR HO165.out))) (below_size (bl HB.out))); replace HO165 := Aside0.mk (Kd.R_elder' (rR HO165.out) (Kd.R_base ho12) hb); replace HB := bst HB hb; clear hb ho12; obtain ⟨Ao13, co13, eo13⟩ := Kd.R_slice HO165.out; subst eo13; obtain ⟨Ao14, co14, eo14⟩ := Kd.R_slice HO168.out; subst eo14) | ((with_reducible refine gate_callee (f := 106) rfl ?_); refine goesL_ (some 19) rfl rfl Tryz.func106 (by kernel_rfl) rfl #[.slice Ao13 t163.length co13, .int .i64 x10_1, .slice Ao14 y166.length co14] rfl mp ?_; (with_reducible refine (slices_Insert_int_int.calls (fun k_ => some k_ = (.slice Ao13 t163.length co13 : Value).ownBlock) (.slice Ao13 t163.length co13) t163 x10_1 (fun k_ => some k_ = (.slice Ao14 y166.length co14 : Value).ownBlock) (.slice Ao14 y166.length co14) y166 t169 w _ ?side1 ?side2 ?side3 ?side4 ?side5 A6.out).mono ?_); (case side1 => repeat (first | (with_reducible first | exact HB.out | apply below_alloc | apply pw_below_drewN | apply below_drew1) | exact HB.out)); (case side2 => exact Kd.R_tight rfl HO165.out); (case side3 => exact fun k_ e_ => (HO165.out.1 k_ e_.symm).2); (case side4 => exact Kd.R_tight rfl HO168.out); (case side5 => exact fun k_ e_ => (HO168.out.1 k_ e_.symm).2); rintro e w15 ⟨v170, rfl, ho0, hb, hkp⟩; refine ⟨_, rfl, ?_⟩; replace HO_3 := Aside0.mk (Kd.S_mono (ok' := fun k_ => some k_ ≠ (v170 : Value).ownBlock) (Kd.S_keptB (HO_3.out) hkp (fun k_ hk_ hs_ => Or.elim hs_ (fun e_ => (hk_.1.2) e_) (fun e_ => (hk_.2) e_))) (fun k_ hk_ => fun e_ => Or.elim (ho0.1 k_ e_.symm) (fun hs_ => hk_.2.1 hs_) (fun hn_ => Nat.not_le.2 hk_.2.2 hn_))); have HO171 := Aside0.mk (Kd.R_mono (ok' := fun k_ => True) ho0 (fun k_ hk_ => trivial)); replace HB := Aside0.mk (hb); clear HO165 HO168; obtain ⟨Ao16, co16, eo16⟩ := Kd.R_slice HO171.out; subst eo16) | ((with_reducible refine gate_callee (f := 54) rfl ?_); refine goesL_ (some 21) rfl rfl Tryz.func54 (by kernel_rfl) rfl #[.slice Ao16 t169.length co16] rfl mp ?_; (with_reducible refine (impl_isFolding.calls k1 _ _ t169 true _ ?side1 ?side2 A7.out).mono ?_); (case side1 => exact cw ((Kd.R_reads' HO171.out).2.2)); (case side2 => exact (Kd.R_reads' HO171.out).2.1); rintro e w17 ⟨rfl, hb⟩; refine ⟨_, rfl, ?_⟩; replace HO_3 := Aside0.mk (Kd.S_below (rS HO_3.out) hb); replace HO171 := Aside0.mk (Kd.R_below (rR HO171.out) hb); replace HB := bst HB hb) | ((with_reducible refine gate_builtin (b := .append) (xs := #[.tmp 22, .tmp 24]) rfl ?_); at_builtin; refine Kd.S_append (Kd.slice 3 (Kd.int .i64)) (w0 := w) w.heap.size rfl (.tmp 22) (.tmp 24) 25 31 (.slice none 0 0) 24 rfl Tryz.underlying25 info31 rfl (by decide) (by omega) u3 x3_1 t169 [.slice Ao16 t169.length co16] (fun _ => True) (fun k_ => some k_ = (.slice Ao16 t169.length co16 : Value).ownBlock) rfl rfl ?aP (fun k_ hk_ => ((Kd.R_mono (ok' := fun k_ => ((fun _ => True)) k_ ∧ some k_ ≠ (u3 : Value).ownBlock) (Kd.R_apart' (HO171.out) (Kd.S_typed HO_3.out) (by decide)) (fun k_ hk => ⟨trivial, hk.2⟩))).1 k_ hk_.symm) ?aF ?aO ?aB ?aS ?aL ?_; (case aP => exact Kd.M_row (Kd.R_mono (Kd.R_tight rfl (Kd.R_mono (ok' := fun k_ => ((fun _ => True)) k_ ∧ some k_ ≠ (u3 : Value).ownBlock) (Kd.R_apart' (HO171.out) (Kd.S_typed HO_3.out) (by decide)) (fun k_ hk => ⟨trivial, hk.2⟩))) (fun _ h_ => h_))); (case aB => exact (bl HB.out)); (case aF => exact (fun _ _ => trivial)); (case aO => exact (rS (Kd.S_mono HO_3.out (fun k_ hk => ⟨trivial, fun e_ => hk e_⟩)))); (case aS => exact (below_size (bl HB.out))); (case aL => have := LMc9.out; omega); intro v174 w18 ho hb hg hat; rw [← Ny173.out] at ho; replace HB := Aside0.mk (hb); have HO175 := Aside0.mk (ho); clear HO_3 HO171; clear ho hb hg hat))
      go_roundg k1
      case measure => have := HK1.out; omega
      case rel => exact ⟨(y173), (wrap64 (x10_1 + 1)), (sr2), H', ⟨by have := HK1.out; omega⟩, ⟨rS HO175.out⟩, ⟨bl HB.out⟩⟩
     rw [if_neg c9] at H; exact absurd H (by simp)
    replace c8 := Bool.eq_false_iff.mpr c8; subst c8; rw [if_neg (show ¬ (false = true) by decide)] at H; have H' := Aside0.mk H; clear H; go_wp2_with (first | ((with_reducible refine gate_callee (f := 107) rfl ?_); refine goesL_ (some 14) rfl rfl Tryz.func107 (by kernel_rfl) rfl #[.slice A0 l0.length c0] rfl mp ?_; (with_reducible refine (slices_Clone_int_int.calls _ _ l0 t163 _ ?side1 ?side2 A5.out).mono ?_); (case side1 => exact cw (Kd.C_below HR0.out HB.out)); (case side2 => exact HC0.out); rintro e w19 ⟨v164, rfl, ho0, hb⟩; refine ⟨_, rfl, ?_⟩; replace HO_3 := Aside0.mk (Kd.S_elder' (rS HO_3.out) (Kd.R_base ho0) hb); have HO165 := Aside0.mk (Kd.R_lower ho0 (below_size (bl HB.out))); replace HB := bst HB hb) | ((with_reducible refine gate_dst (N := 18) rfl ?_); refine Kd.R_lit (Kd.int .i64) _ 3 ?hg (N := 18) ?hd (xs := ([(l0.length : Int)] : List Int)) (inner := [.int .i64 (l0.length : Int)]) (ok := fun _ => True) (okp := fun _ => True) ?hr ?hp (fun _ hk => hk) trivial (Below.refl _ _) (Nat.le_refl _) (by simp) ?_; (case hd => rfl); (case hg => rfl); (case hr => first | (go_simp; done) | (go_simp; rfl)); (case hp => exact (Reps.one (show Kd.M (Kd.int .i64) _ _ _ (l0.length : Int) [.int .i64 (l0.length : Int)] from rfl) (Reps.none _ _))); intro v167 w20 ho21 hb hg_ hnew_; clear hg_ hnew_; (first | rw [← Ny166.out] at ho21 | (simp only [Int.reduceToNat] at ho21; rw [← Ny166.out] at ho21)); replace HO_3 := Aside0.mk (Kd.S_elder' (rS HO_3.out) (Kd.R_base ho21) hb); have HO168 := Aside0.mk (Kd.R_lower (Kd.R_new' ho21 (Kd.R_lt (rR HO165.out))) (below_size (bl HB.out))); replace HO165 := Aside0.mk (Kd.R_elder' (rR HO165.out) (Kd.R_base ho21) hb); replace HB := bst HB hb; clear hb ho21; obtain ⟨Ao22, co22, eo22⟩ := Kd.R_slice HO165.out; subst eo22; obtain ⟨Ao23, co23, eo23⟩ := Kd.R_slice HO168.out; subst eo23) | ((with_reducible refine gate_callee (f := 106) rfl ?_); refine goesL_ (some 19) rfl rfl Tryz.func106 (by kernel_rfl) rfl #[.slice Ao22 t163.length co22, .int .i64 x10_1, .slice Ao23 y166.length co23] rfl mp ?_; (with_reducible refine (slices_Insert_int_int.calls (fun k_ => some k_ = (.slice Ao22 t163.length co22 : Value).ownBlock) (.slice Ao22 t163.length co22) t163 x10_1 (fun k_ => some k_ = (.slice Ao23 y166.length co23 : Value).ownBlock) (.slice Ao23 y166.length co23) y166 t169 w _ ?side1 ?side2 ?side3 ?side4 ?side5 A6.out).mono ?_); (case side1 => repeat (first | (with_reducible first | exact HB.out | apply below_alloc | apply pw_below_drewN | apply below_drew1) | exact HB.out)); (case side2 => exact Kd.R_tight rfl HO165.out); (case side3 => exact fun k_ e_ => (HO165.out.1 k_ e_.symm).2); (case side4 => exact Kd.R_tight rfl HO168.out); (case side5 => exact fun k_ e_ => (HO168.out.1 k_ e_.symm).2); rintro e w24 ⟨v170, rfl, ho0, hb, hkp⟩; refine ⟨_, rfl, ?_⟩; replace HO_3 := Aside0.mk (Kd.S_mono (ok' := fun k_ => some k_ ≠ (v170 : Value).ownBlock) (Kd.S_keptB (HO_3.out) hkp (fun k_ hk_ hs_ => Or.elim hs_ (fun e_ => (hk_.1.2) e_) (fun e_ => (hk_.2) e_))) (fun k_ hk_ => fun e_ => Or.elim (ho0.1 k_ e_.symm) (fun hs_ => hk_.2.1 hs_) (fun hn_ => Nat.not_le.2 hk_.2.2 hn_))); have HO171 := Aside0.mk (Kd.R_mono (ok' := fun k_ => True) ho0 (fun k_ hk_ => trivial)); replace HB := Aside0.mk (hb); clear HO165 HO168; obtain ⟨Ao25, co25, eo25⟩ := Kd.R_slice HO171.out; subst eo25) | ((with_reducible refine gate_callee (f := 54) rfl ?_); refine goesL_ (some 21) rfl rfl Tryz.func54 (by kernel_rfl) rfl #[.slice Ao25 t169.length co25] rfl mp ?_; (with_reducible refine (impl_isFolding.calls k1 _ _ t169 false _ ?side1 ?side2 A7.out).mono ?_); (case side1 => exact cw ((Kd.R_reads' HO171.out).2.2)); (case side2 => exact (Kd.R_reads' HO171.out).2.1); rintro e w26 ⟨rfl, hb⟩; refine ⟨_, rfl, ?_⟩; replace HO_3 := Aside0.mk (Kd.S_below (rS HO_3.out) hb); replace HO171 := Aside0.mk (Kd.R_below (rR HO171.out) hb); replace HB := bst HB hb))
    go_roundg k1
    case measure => have := HK1.out; omega
    case rel => exact ⟨(x3_1), (wrap64 (x10_1 + 1)), (sr2), H', ⟨by have := HK1.out; omega⟩, ⟨rS (Kd.S_mono HO_3.out (fun _ hk => trivial))⟩, ⟨bl HB.out⟩⟩
   rw [if_neg c4] at H; have c4b0 := decide_eq_false c4; clear c4; obtain ⟨t162, A27, H⟩ := bi H; (try dsimp only at H); obtain rfl := Option.some.inj H; obtain ⟨Ao28, co28, eo28⟩ := Kd.S_slice HO_3.out; subst eo28; go_wp2_with (first | ((with_reducible refine gate_callee (f := 86) rfl ?_); refine goesL_ (some 28) rfl rfl Tryz.func86 (by kernel_rfl) rfl #[.slice Ao28 x3_1.length co28, .func (.func 87) #[] #[]] rfl mp ?_; (with_reducible refine (slices_SortFunc_int_int_at_slices_Compare_int_int.calls (fun k_ => True) (.slice Ao28 x3_1.length co28) x3_1  t162 w _ ?side1 ?side2 A27.out).mono ?_); (case side1 => repeat (first | (with_reducible first | exact HB.out | apply below_alloc | apply pw_below_drewN | apply below_drew1) | exact HB.out)); (case side2 => exact HO_3.out); rintro e w29 ⟨rfl, hy0, hb, hkp⟩; refine ⟨_, rfl, ?_⟩; replace HO_3 := Aside0.mk (hy0); replace HB := Aside0.mk (hb))); go_ret; exact ⟨_, sr, rS HO_3.out, bl HB.out⟩
/-! ### impl_foldings: function 47 -/
def impl_foldings.all (k : Nat) (acc : List (List Int)) : List (List Int) → Option (List (List Int))
 | [] => some acc
 | p :: t => (impl_added.f k p).bind fun A => if acc.length + A.length < 5864062014805 then impl_foldings.all k (acc ++ A) t else none
def impl_foldings.strike (a1 : Bool) (next : List (List Int)) : Option (List (List Int)) := if next.length = 0 then none else if (next.all fun p => decide (0 < p.length)) = true then some (next.filter fun p => !(a1 && (p.getD 0 0 != 0))) else none
def impl_foldings.go (k : Nat) (a1 : Bool) : Nat → List (List Int) → Option (List (List Int))
 | 0, out => some out
 | d + 1, out => if out.length < 5864062014805 then ((impl_foldings.all k [] out).bind fun next => (impl_foldings.strike a1 next).bind fun o => impl_foldings.go k a1 d o) else none
def impl_foldings.f (k : Nat) (a0 : Int) (a1 : Bool) : Option (List (List Int)) := if 1 ≤ a0 ∧ a0 ≤ 1000000 then ((impl_foldings.go k a1 (a0.toNat - 1) [[0]]).bind fun out => slices_SortFunc_int_int_at_slices_Compare_int_int.f out) else none
theorem impl_foldings.all_mono (k : Nat) : ∀ l acc, LeO (impl_foldings.all k acc l) (impl_foldings.all (k + 1) acc l)
 | [], _ => LeO.refl _
 | p :: t, acc => LeO.bind (impl_added.mono _ _) (fun _ => LeO.ite (impl_foldings.all_mono k t _) (LeO.refl _))
theorem impl_foldings.go_mono (k : Nat) (a1 : Bool) : ∀ d out, LeO (impl_foldings.go k a1 d out) (impl_foldings.go (k + 1) a1 d out)
 | 0, _ => LeO.refl _
 | d + 1, out => LeO.ite (LeO.bind (impl_foldings.all_mono k out _) (fun _ => LeO.bind (LeO.refl _) (fun _ => impl_foldings.go_mono k a1 d _))) (LeO.refl _)
theorem impl_foldings.mono : ∀ a0 a1 k, LeO (impl_foldings.f k a0 a1) (impl_foldings.f (k + 1) a0 a1) := fun a0 a1 k => LeO.ite (LeO.bind (impl_foldings.go_mono k a1 _ _) (fun _ => LeO.refl _)) (LeO.refl _)
/-- the closure that strikes -/
theorem impl_foldings.closure (a1 : Bool) (A : Option Addr) (c b : Nat) (row : List Int) (W : World) (hb : W.cell? ⟨b, 0, none⟩ = some (.bool a1)) (hA : Kd.C (Kd.int .i64) W A row.length row) (hne : 0 < row.length) :
  Calls Tryz.prog 85 #[.slice A row.length c, .pointer (some ⟨b, 0, none⟩)] W fun e w' => e = .returned (.bool (a1 && (row.getD 0 0 != 0))) ∧ Below W.heap.size W w' := by
 obtain ⟨ad, rfl, hx⟩ := Kd.at_int hA 0 (by omega) (by omega); have h0 : rd row 0 = row.getD 0 0 := rfl; rw [h0] at hx; have q1 : ((0 : Int) < (row.length : Int)) = True := eq_true (by omega); have q2 : (0 < row.length) = True := eq_true hne; simp only [Int.toNat_zero] at hx
 have hx0 : W.cell? ad = some (.int .i64 (row.getD 0 0)) := by
  (have e0 : ad.add 0 = ad := by cases ad; simp [Addr.add]); rw [← e0]; exact hx
 generalize row.getD 0 0 = z at hx hx0 ⊢; clear hA hne h0
 cases a1 with
 | true =>
  go_enter Tryz.func85, Tryz.ntmps85; go_wp2
  all_goals (go_ret; exact ⟨by simp_all, Below.refl _ _⟩)
 | false =>
  go_enter Tryz.func85, Tryz.ntmps85; go_wp2
  all_goals (go_ret; exact ⟨by simp_all, Below.refl _ _⟩)
theorem impl_foldings.drop_cons {l : List (List Int)} {j : Nat} (h : j < l.length) : l.drop j = l[j] :: l.drop (j + 1) := List.drop_eq_getElem_cons h
theorem impl_foldings.calls (k : Nat) (a0 : Int) (a1 : Bool) (r : List (List Int)) (w : World) (h : impl_foldings.f k a0 a1 = some r) :
  Calls Tryz.prog 47 #[.int .i64 a0, .bool a1] w fun e w' => ∃ v0_ : Value, e = .returned (v0_) ∧ Kd.S (Kd.slice 3 (Kd.int .i64)) 31 w' w.heap.size (fun _ => True) v0_ r ∧ Below w.heap.size w w' := by
 unfold impl_foldings.f at h; by_cases ha : 1 ≤ a0 ∧ a0 ≤ 1000000
 case neg => rw [if_neg ha] at h; cases h
 rw [if_pos ha] at h; obtain ⟨fin, hgo, hsort⟩ := Option.bind_eq_some_iff.mp h; obtain ⟨D, rfl⟩ : ∃ D : Nat, a0 = (D : Int) + 1 := ⟨a0.toNat - 1, by omega⟩; (have hD : D < 1000000 := by omega); rw [show (((D : Int) + 1).toNat - 1) = D by omega] at hgo; (have hw0 : wrap64 ((D : Int) + 1 - 1) = (D : Int) := by unfold wrap64; omega); have hw0' : IntKind.i64.wrap ((D : Int) + 1 - 1) = (D : Int) := (i64_w _).trans hw0; have FG := Aside0.mk hgo; have FS := Aside0.mk hsort; clear h hgo hsort ha; go_enter Tryz.func47, Tryz.ntmps47
 go_wp2_with (first
  | ((with_reducible refine gate_dst (N := 9) rfl ?_); refine Kd.R_lit (Kd.int .i64) _ 3 ?hg (N := 9) ?hd (xs := ([0] : List Int)) (inner := [.int .i64 0]) (ok := fun _ => True) (okp := fun _ => True) ?hr ?hp (fun _ hk => hk) trivial (Below.refl _ _) (Nat.le_refl _) (by simp) ?_; (case hd => rfl); (case hg => rfl); (case hr => first | (go_simp; done) | (go_simp; rfl)); (case hp => exact (Reps.one (show Kd.M (Kd.int .i64) _ _ _ 0 [.int .i64 0] from rfl) (Reps.none _ _))); intro v9 w2 ho hb hg_ hnew_; clear hg_ hnew_; obtain ⟨A9, c9, rfl⟩ := Kd.R_slice ho; have H9 := Aside0.mk ho; have HB := Aside0.mk hb; clear ho hb)
  | ((with_reducible refine gate_dst (N := 10) rfl ?_); refine RowsS.S_lit1 (Kd.slice 3 (Kd.int .i64)) (w0 := (w.alloc (.cells #[.bool a1] 4))) (w.alloc (.cells #[.bool a1] 4)).heap.size 31 ?hg (N := 10) ?hd (x := [0]) (cs := [.slice A9 ([0] : List Int).length c9]) ?hr ?hp ?hB ?hS ?_; (case hd => rfl); (case hg => rfl); (case hr => first | (go_simp; done) | (go_simp; rfl)); (case hp => exact Kd.M_row (Kd.R_mono (ok' := fun _ => True) H9.out (fun _ _ => trivial))); (case hB => exact HB.out); (case hS => exact HB.out.size); intro v10 w3 ho hb hg_ hnew_; clear hg_ hnew_; have B2 := Aside0.mk (below_step HB.out hb); have HO := Aside0.mk ho; clear HB hb ho H9; have HB := B2; clear B2))
 obtain ⟨W1, hW1⟩ : ∃ W1 : World, w.alloc (.cells #[.bool a1] 4) = W1 := ⟨_, rfl⟩; (have hcell : W1.cell? ⟨w.heap.size, 0, none⟩ = some (.bool a1) := by rw [← hW1]; simp); (have hsz : w.heap.size < W1.heap.size := by rw [← hW1]; simp); (have hlow : Below w.heap.size w W1 := by rw [← hW1]; exact (Below.refl _ w).alloc (Nat.le_refl _) _); rw [hW1] at HO HB; have CL := Aside0.mk hcell; have LW := Aside0.mk hlow; clear hcell hlow hW1
 go_loopg [5, 13] (D + 1) (fun kq v5 v13 w' => ∃ (i : Nat) (out : List (List Int)), v13 = .int .i64 i ∧ i ≤ D ∧ D - i < kq ∧ Aside0 (impl_foldings.go k a1 (D - i) out = some fin) ∧ Aside0 (Kd.S (Kd.slice 3 (Kd.int .i64)) 31 w' W1.heap.size (fun _ => True) v5 out) ∧ Aside0 (Below W1.heap.size W1 w'))
 case atStart => exact ⟨0, [[0]], by go_num, Nat.zero_le _, by omega, FG, HO, HB⟩
 case round =>
  clear FG HO HB; obtain ⟨i, out, rfl, hi, hg, FG, HO, HB⟩ := hrel; obtain ⟨K1, rfl⟩ : ∃ m, gk = m + 1 := ⟨gk - 1, by omega⟩
  by_cases hlt : i < D
  ·(have hltz : (i : Int) < (D : Int) := by omega); (have hd : D - i = (D - (i + 1)) + 1 := by omega); have hgo := FG.out; rw [hd, impl_foldings.go] at hgo; by_cases hol : out.length < 5864062014805
   case neg => rw [if_neg hol] at hgo; cases hgo
   rw [if_pos hol] at hgo; obtain ⟨next, hall, hgo⟩ := Option.bind_eq_some_iff.mp hgo; obtain ⟨o2, hstr, hgo⟩ := Option.bind_eq_some_iff.mp hgo; have F1 := Aside0.mk hall; have F2 := Aside0.mk hstr; have F3 := Aside0.mk hgo; have hH0 := HB.out.size; obtain ⟨A5, c5, rfl⟩ := Kd.S_slice HO.out; clear hall hstr hgo FG hd; go_wp2_with ((with_reducible refine gate_dst (N := 15) rfl ?_); refine Kd.S_lit (Kd.slice 3 (Kd.int .i64)) _ 31 ?hg (N := 15) ?hd (xs := ([] : List (List Int))) (inner := []) (ok := fun _ => True) (okp := fun _ => True) ?hr ?hp (fun _ hk => hk) trivial (Below.refl _ _) (Nat.le_refl _) (by simp) ?_; (case hd => rfl); (case hg => rfl); (case hr => first | (go_simp; done) | (go_simp; rfl)); (case hp => exact (Reps.none _ _)); intro v15 w4 ho hb hg_ hnew_; clear hg_ hnew_; have HX := Aside0.mk ho; have HBi := Aside0.mk hb; clear ho hb); obtain ⟨WR, eWR⟩ : ∃ X : World, X = wr := ⟨_, rfl⟩; subst eWR
   go_loopg [6, 18] (out.length + 1) (fun kq v6 v18 w' => ∃ (j : Nat) (acc : List (List Int)), v18 = .int .i64 j ∧ j ≤ out.length ∧ out.length - j < kq ∧ Aside0 (impl_foldings.all k acc (out.drop j) = some next) ∧ Aside0 (Kd.S (Kd.slice 3 (Kd.int .i64)) 31 w' WR.heap.size (fun _ => True) v6 acc) ∧ Aside0 (Below WR.heap.size WR w'))
   case atStart => exact ⟨0, [], by go_num, Nat.zero_le _, by omega, ⟨by rw [List.drop_zero]; exact F1.out⟩, HX, HBi⟩
   case round =>
    clear F1 HX HBi; obtain ⟨j, acc, rfl, hj, hm2, FA, HX, HBi⟩ := hrel; have HS := Aside0.mk HBi.out.size; obtain ⟨k1, rfl⟩ : ∃ m, gk = m + 1 := ⟨gk - 1, by omega⟩
    by_cases hjl : j < out.length
    ·(have hjz : (j : Int) < (out.length : Int) := by omega); have FA1 := FA.out; rw [impl_foldings.drop_cons hjl, impl_foldings.all] at FA1; obtain ⟨A, hA, FA2⟩ := Option.bind_eq_some_iff.mp FA1; by_cases hb : acc.length + A.length < 5864062014805
     case neg => rw [if_neg hb] at FA2; cases FA2
     rw [if_pos hb] at FA2; have hbb := Aside0.mk hb; have FB := Aside0.mk FA2; have FC := Aside0.mk hA; have HOi := Aside0.mk (Kd.S_below HO.out HBi.out); obtain ⟨g, vr, oki, rfl, hcell, hRow, _, _⟩ := RowsS.S_one j hjl HOi.out; obtain ⟨Ar, cr, rfl⟩ := Kd.R_slice hRow; have HR := Aside0.mk (Kd.R_reads' hRow); clear FA FA1 FA2 hA hb hRow; have p1 : (0 ≤ (j : Int)) = True := eq_true (by omega); have p2 : ((j : Int) < (out.length : Int)) = True := eq_true hjz
     go_wp2_with (first
      | (go_at_call 83; (with_reducible refine (impl_added.calls k Ar _ out[j] A _ HR.out.2.2 HR.out.2.1 FC.out).mono ?_); rintro e w5 ⟨v24, rfl, ho, hb⟩; have HX2 := Aside0.mk (Kd.S_old HX.out hb); have HY := Aside0.mk (Kd.S_lower (RowsS.S_young (base := 0) ho) HS.out); have HB2 := Aside0.mk (below_step HBi.out hb); obtain ⟨A24, c24, rfl⟩ := Kd.S_slice HY.out; clear HX HBi ho hb)
      | ((with_reducible refine gate_builtin (b := .append) (xs := #[.tmp 22, .tmp 24]) rfl ?_); at_builtin; refine RowsS.S_append_rows (Kd.slice 3 (Kd.int .i64)) (w0 := WR) WR.heap.size rfl (.tmp 22) (.tmp 24) 25 31 (.slice none 0 0) 24 rfl Tryz.underlying25 info31 rfl (by decide) (by omega) _ acc A A24 A.length c24 (fun _ => True) _ _ rfl rfl HX2.out HY.out ?aA (fun _ _ => trivial) (fun _ _ => trivial) (fun _ _ => trivial) HB2.out HB2.out.size (by have := hbb.out; omega) ?_; (case aA => intro k_ h1 h2; exact absurd h2.2 (Nat.not_lt.2 h1)); intro v25 w6 ho hb _ _; have HXn := Aside0.mk ho; have HBn := Aside0.mk hb; clear ho hb HX2 HY HB2))
     go_roundg k1
     case measure => exact Nat.lt_succ_self _
     case rel => exact ⟨j + 1, acc ++ A, by go_num, by omega, by omega, FB, HXn, HBn⟩
    (obtain rfl : j = out.length := by omega); have FA1 := FA.out; rw [List.drop_length, impl_foldings.all] at FA1; obtain rfl := Option.some.inj FA1; clear FA FA1; have FT := F2.out; unfold impl_foldings.strike at FT; by_cases hz : acc.length = 0
    case pos => rw [if_pos hz] at FT; cases FT
    rw [if_neg hz] at FT; by_cases hpos : (acc.all fun p => decide (0 < p.length)) = true
    case neg => rw [if_neg hpos] at FT; cases FT
    rw [if_pos hpos] at FT; obtain rfl := Option.some.inj FT; have FP := Aside0.mk hpos; have FZ := Aside0.mk hz; clear FT F2 hpos hz hjl
    have hcon := DelS.delete_S Shelf.delL 3 31 85 #[.pointer (some ⟨w.heap.size, 0, none⟩)] (enters_of Tryz.func85 (by kernel_rfl) rfl) Tryz.zeroValue31 (fun p => a1 && (p.getD 0 0 != 0))
     WR.heap.size (fun _ => True) u6 acc wr HX.out (fun e => FZ.out (by rw [e]; rfl))
     (fun A c row W hrow hg hA hc => impl_foldings.closure a1 A c w.heap.size row W (by
      have hg1 : Below WR.heap.size WR W := Below.grown HBi.out hg HBi.out.size (Kd.S_base HX.out)
      rw [hg1.cell (by show w.heap.size < WR.heap.size; omega), HB.out.cell (by show w.heap.size < W1.heap.size; exact hsz)]
      exact CL.out) hA (of_decide_eq_true (List.all_eq_true.1 FP.out row hrow)))
    go_wp2_with (go_at_call 84; (refine Calls.mono (show Calls Tryz.prog 84 _ _ _ from hcon) ?_); rintro e w7 ⟨v29, rfl, ho, hg, hv⟩; have HO2 := Aside0.mk (Kd.S_lower ho HB.out.size); have HB2 := Aside0.mk (below_step HB.out (Below.grown HBi.out hg HBi.out.size (Kd.S_base HX.out))); clear ho hg hv HX HBi HB HO hcon)
    go_roundg K1
    case measure => exact Nat.lt_succ_self _
    case rel => exact ⟨i + 1, _, by go_num, by omega, by omega, F3, HO2, HB2⟩
  (obtain rfl : i = D := by omega); have hgo := FG.out; rw [Nat.sub_self, impl_foldings.go] at hgo; obtain rfl := Option.some.inj hgo; clear FG hgo hlt; go_wp2_with (go_at_call 86; (with_reducible refine (slices_SortFunc_int_int_at_slices_Compare_int_int.calls (fun _ => True) u5 out r W1 _ HB.out HO.out FS.out).mono ?_); rintro e w7 ⟨rfl, hy, hb, hkp⟩; have HO2 := Aside0.mk hy; have HB2 := Aside0.mk hb; clear hy hb hkp HO HB); go_ret; exact ⟨_, rfl, Kd.S_lower HO2.out (Nat.le_of_lt hsz), LW.out.trans (HB2.out.mono (Nat.le_of_lt hsz))⟩
/-! ### impl_AllFoldings: function 7 -/
def impl_AllFoldings.f (k : Nat) (a0 : Int) : Option ((List (List Int)) × Bool) := (impl_in.f a0 1 6).bind fun t176 => (if t176 = true then ((impl_foldings.f k a0 false).bind fun t177 => (some (t177, true))) else (some (([] : List (List Int)), false)))
theorem impl_AllFoldings.mono : ∀ a0 k, LeO (impl_AllFoldings.f k a0) (impl_AllFoldings.f (k + 1) a0) := by
 intro a0 k; unfold impl_AllFoldings.f
 repeat' first
   | (with_reducible exact impl_foldings.mono _ _ _)
   | (with_reducible exact LeO.refl _)
   | (with_reducible exact LeO.none _)
   | (with_reducible refine LeO.ite ?_ ?_)
   | (with_reducible refine LeO.bind ?_ (fun _ => ?_))
   | exact impl_foldings.mono _ _ _
   | exact LeO.none _
   | refine LeO.ite ?_ ?_
   | refine LeO.bind ?_ (fun _ => ?_)
theorem impl_AllFoldings.calls (k : Nat) (a0 : Int) (r1 : List (List Int)) (r2 : Bool) (w : World) (h : impl_AllFoldings.f k a0 = some (r1, r2)) :
  Calls Tryz.prog 7 #[.int .i64 a0] w fun e w' => ∃ v0_ : Value, e = .returned (.tuple #[v0_, .bool r2]) ∧ Kd.S (Kd.slice 3 (Kd.int .i64)) 31 w' w.heap.size (fun _ => True) v0_ r1 ∧ Below w.heap.size w w' := by
 have HB := Aside0.mk (Below.refl w.heap.size w); have H : ((impl_in.f a0 1 6).bind fun t176 => (if t176 = true then ((impl_foldings.f k a0 false).bind fun t177 => (some (t177, true))) else (some (([] : List (List Int)), false)))) = some (r1, r2) := h; clear h; obtain ⟨t176, A2, H⟩ := bi H; (try dsimp only at H)
 by_cases c3 : t176 = true
 ·subst c3; rw [if_pos rfl] at H; obtain ⟨t177, A4, H⟩ := bi H; (try dsimp only at H); simp only [Option.some.injEq, Prod.mk.injEq] at H; obtain ⟨rfl, rfl⟩ := H; go_enter Tryz.func7, Tryz.ntmps7; go_wp2_with (first | (go_at_call 46; (with_reducible refine (impl_in.calls a0 1 6 true _ A2.out).mono ?_); rintro e w' ⟨rfl, ⟨nd, rfl⟩⟩) | (go_at_call 47; (with_reducible refine (impl_foldings.calls k a0 false t177 _ A4.out).mono ?_); rintro e w5 ⟨v178, rfl, ho0, hb⟩; have HO179 := Aside0.mk (Kd.S_lower ho0 (below_size (bl HB.out))); replace HB := bst HB hb)); go_ret2; exact ⟨_, sr, rS HO179.out, bl HB.out⟩
 replace c3 := Bool.eq_false_iff.mpr c3; subst c3; rw [if_neg (show ¬ (false = true) by decide)] at H; simp only [Option.some.injEq, Prod.mk.injEq] at H; obtain ⟨rfl, rfl⟩ := H; go_enter Tryz.func7, Tryz.ntmps7; go_wp2_with (first | (go_at_call 46; (with_reducible refine (impl_in.calls a0 1 6 false _ A2.out).mono ?_); rintro e w' ⟨rfl, ⟨nd, rfl⟩⟩)); go_ret2; exact ⟨_, sr, by first | exact Kd.S_nil _ _ _ _ _ | exact Kd.N_nil _ _ _ _ _ | exact Kd.V_nil _ _ _ _ _ | exact Kd.Q_nil _ _ _ _ _ | exact Kd.R_nil _ _ _ _ _, bl HB.out⟩
/-! ### spec_l1In: function 48 -/
def spec_l1In.f (a0 : Int) (a1 : Int) (a2 : Int) : Option (Bool) := if a0 ≥ a1 then (some (decide (a0 ≤ a2))) else (some false)
theorem spec_l1In.calls (a0 : Int) (a1 : Int) (a2 : Int) (r : Bool) (w : World) (h : spec_l1In.f a0 a1 a2 = some r) :
  Calls Tryz.prog 48 #[.int .i64 a0, .int .i64 a1, .int .i64 a2] w fun e w' => e = .returned (.bool r) ∧ Drawn0 w w' := by
 have H : (if a0 ≥ a1 then (some (decide (a0 ≤ a2))) else (some false)) = some r := h; clear h
 by_cases c4 : a0 ≥ a1
 ·rw [if_pos c4] at H; have c4b0 := decide_eq_true c4; clear c4; obtain rfl := Option.some.inj H; go_enter Tryz.func48, Tryz.ntmps48; go_wp2; go_ret; exact ⟨sr2, by repeat (first | exact Drawn0.refl _ | apply Drawn0.step)⟩
 rw [if_neg c4] at H; have c4b0 := decide_eq_false c4; clear c4; obtain rfl := Option.some.inj H; go_enter Tryz.func48, Tryz.ntmps48; go_wp2; go_ret; exact ⟨sr2, by repeat (first | exact Drawn0.refl _ | apply Drawn0.step)⟩
/-! ### spec_stListLess: function 89 -/
def spec_stListLess.l0 : Nat → List Int → List Int → List Int → Int → Int → Option (Int)
 | 0, _, _, _, _, _ => none
 | k + 1, x0, x1, x7, x8, x9 => if x9 < x8 then (if 0 ≤ x9 then (if x9 < (x7.length : Int) then (if x9 ≥ (x1.length : Int) then (some 1) else (if x9 < (x1.length : Int) then (if (rd x7 x9) = (rd x1 x9) then (spec_stListLess.l0 k x0 x1 x7 x8 (wrap64 (x9 + 1))) else (some (wrap64 ((rd x7 x9) - (rd x1 x9))))) else (none))) else (none)) else (none)) else (some (wrap64 ((x0.length : Int) - (x1.length : Int))))
def spec_stListLess.f (k : Nat) (l0 : List Int) (l1 : List Int) : Option (Int) := spec_stListLess.l0 k l0 l1 l0 (l0.length : Int) 0
theorem spec_stListLess.mono_l : ∀ k, (∀ y0 y1 y2 y3 y4, LeO (spec_stListLess.l0 k y0 y1 y2 y3 y4) (spec_stListLess.l0 (k + 1) y0 y1 y2 y3 y4))
 | 0 => fun _ _ _ _ _ r h => by simp [spec_stListLess.l0] at h
 | k + 1 => by
  have ih0 := spec_stListLess.mono_l k
  ·intro y0 y1 y2 y3 y4
   unfold spec_stListLess.l0
   repeat' first
   | (with_reducible exact ih0 _ _ _ _ _)
   | (with_reducible exact LeO.refl _)
   | (with_reducible exact LeO.none _)
   | (with_reducible refine LeO.ite ?_ ?_)
   | (with_reducible refine LeO.bind ?_ (fun _ => ?_))
   | exact ih0 _ _ _ _ _
   | exact LeO.none _
   | refine LeO.ite ?_ ?_
   | refine LeO.bind ?_ (fun _ => ?_)
theorem spec_stListLess.mono : ∀ a0 a1 k, LeO (spec_stListLess.f k a0 a1) (spec_stListLess.f (k + 1) a0 a1) := by
 intro a0 a1 k; have ih0 := spec_stListLess.mono_l k; unfold spec_stListLess.f
 repeat' first
   | (with_reducible exact ih0 _ _ _ _ _)
   | (with_reducible exact LeO.refl _)
   | (with_reducible exact LeO.none _)
   | (with_reducible refine LeO.ite ?_ ?_)
   | (with_reducible refine LeO.bind ?_ (fun _ => ?_))
   | exact ih0 _ _ _ _ _
   | exact LeO.none _
   | refine LeO.ite ?_ ?_
   | refine LeO.bind ?_ (fun _ => ?_)
theorem spec_stListLess.calls (k : Nat) (A0 : Option Addr) (c0 : Nat) (l0 : List Int) (A1 : Option Addr) (c1 : Nat) (l1 : List Int) (r : Int) (w : World) (hr0 : Kd.C (Kd.int .i64) w A0 l0.length l0) (hc0 : l0.length ≤ c0) (hr1 : Kd.C (Kd.int .i64) w A1 l1.length l1) (hc1 : l1.length ≤ c1) (h : spec_stListLess.f k l0 l1 = some r) :
  Calls Tryz.prog 89 #[.slice A0 l0.length c0, .slice A1 l1.length c1] w fun e w' => e = .returned (.int .i64 r) ∧ Drawn0 w w' := by
 have HR0 := Aside0.mk hr0; have HC0 := Aside0.mk hc0; clear hr0 hc0; have HR1 := Aside0.mk hr1; have HC1 := Aside0.mk hc1; clear hr1 hc1; have H : (spec_stListLess.l0 k l0 l1 l0 (l0.length : Int) 0) = some r := h; clear h; have H' := Aside0.mk H; clear H; go_enter Tryz.func89, Tryz.ntmps89; go_wp2
 go_loopg [9] k (fun kq v9 w' => ∃ (x9_1 : Int), v9 = .int .i64 x9_1 ∧ Aside0 (spec_stListLess.l0 kq l0 l1 l0 (l0.length : Int) x9_1 = some r) ∧ Aside0 (kq ≤ k) ∧ Drawn0 w w')
 case atStart => exact ⟨(0), (sr2), H', ⟨Nat.le_refl _⟩, by repeat (first | exact Drawn0.refl _ | apply Drawn0.step)⟩
 case round =>
  clear H'; obtain ⟨x9_1, rfl, HA, HK1, ⟨m1, rfl⟩⟩ := hrel
  cases gk with
  | zero => exact absurd HA.out (by simp [spec_stListLess.l0])
  | succ k1 =>
   have H := HA.out; clear HA; simp only [spec_stListLess.l0] at H
   by_cases c3 : x9_1 < (l0.length : Int)
   ·rw [if_pos c3] at H; have c3b0 := decide_eq_true c3; clear c3
    by_cases c4 : 0 ≤ x9_1
    ·rw [if_pos c4] at H; have c4b0 := decide_eq_true c4; clear c4
     by_cases c5 : x9_1 < (l0.length : Int)
     ·rw [if_pos c5] at H; have c5b0 := decide_eq_true c5; clear c5
      by_cases c6 : x9_1 ≥ (l1.length : Int)
      ·rw [if_pos c6] at H; have c6b0 := decide_eq_true c6; clear c6; obtain rfl := Option.some.inj H; obtain ⟨ad180, e180, hx180_0, p180, q180⟩ := atI HR0.out x9_1; cases e180; go_wp2; go_ret; exact ⟨sr2, by repeat (first | exact Drawn0.refl _ | apply Drawn0.step)⟩
      rw [if_neg c6] at H; have c6b0 := decide_eq_false c6; clear c6
      by_cases c7 : x9_1 < (l1.length : Int)
      ·rw [if_pos c7] at H; have c7b0 := decide_eq_true c7; clear c7
       by_cases c8 : (rd l0 x9_1) = (rd l1 x9_1)
       ·rw [if_pos c8] at H; have c8b0 := beq_iff_eq.mpr c8; have c8b1 := bne_eq_false_iff_eq.mpr c8; clear c8; have H' := Aside0.mk H; clear H; obtain ⟨ad180, e180, hx180_0, p180, q180⟩ := atI HR0.out x9_1; cases e180; obtain ⟨ad181, e181, hx181_0, p181, q181⟩ := atI HR1.out x9_1; cases e181; go_wp2
        go_roundg k1
        case measure => have := HK1.out; omega
        case rel => exact ⟨(wrap64 (x9_1 + 1)), (sr2), H', ⟨by have := HK1.out; omega⟩, by repeat (first | exact Drawn0.refl _ | apply Drawn0.step)⟩
       rw [if_neg c8] at H; have c8b0 := beq_eq_false_iff_ne.mpr c8; have c8b1 := bne_iff_ne.mpr c8; obtain rfl := Option.some.inj H; obtain ⟨ad180, e180, hx180_0, p180, q180⟩ := atI HR0.out x9_1; cases e180; obtain ⟨ad181, e181, hx181_0, p181, q181⟩ := atI HR1.out x9_1; cases e181; obtain ⟨ad182, e182, hx182_0, p182, q182⟩ := atI HR1.out x9_1; obtain rfl : ad181 = ad182 := (by injection e182); go_wp2; go_ret; exact ⟨sr2, by repeat (first | exact Drawn0.refl _ | apply Drawn0.step)⟩
      rw [if_neg c7] at H; exact absurd H (by simp)
     rw [if_neg c5] at H; exact absurd H (by simp)
    rw [if_neg c4] at H; exact absurd H (by simp)
   rw [if_neg c3] at H; have c3b0 := decide_eq_false c3; clear c3; obtain rfl := Option.some.inj H; go_wp2; go_ret; exact ⟨sr2, by repeat (first | exact Drawn0.refl _ | apply Drawn0.step)⟩
/-! ### spec_spPut: function 50 -/
def spec_spPut.l0 : Nat → List (List Int) → List Int → Int → Option ((List (List Int)))
 | 0, _, _, _ => none
 | k + 1, x0, x1, x5 => if x5 < (x0.length : Int) then (if 0 ≤ x5 then ((spec_stListLess.f k (rd_L3 x0 x5) x1).bind fun t184 => (if t184 < 0 then (spec_spPut.l0 k x0 x1 (wrap64 (x5 + 1))) else ((some (([] : List (List Int)) : List (List Int))).bind fun y185 => (if x5 ≤ (x0.length : Int) then ((some (x0.take (x5 : Int).toNat : List (List Int))).bind fun y188 => (if y185.length + y188.length < 5864062014805 then ((some (y185 ++ y188 : List (List Int))).bind fun y193 => (if y193.length < 5864062014805 then ((some (y193 ++ [x1] : List (List Int))).bind fun y196 => ((some (x0.drop (x5 : Int).toNat : List (List Int))).bind fun y199 => (if y196.length + y199.length < 5864062014805 then (some (y196 ++ y199)) else (none)))) else (none))) else (none))) else (none))))) else (none)) else ((some (([] : List (List Int)) : List (List Int))).bind fun y207 => (if 0 ≤ x5 then (if x5 ≤ (x0.length : Int) then ((some (x0.take (x5 : Int).toNat : List (List Int))).bind fun y210 => (if y207.length + y210.length < 5864062014805 then ((some (y207 ++ y210 : List (List Int))).bind fun y215 => (if y215.length < 5864062014805 then ((some (y215 ++ [x1] : List (List Int))).bind fun y218 => ((some (x0.drop (x5 : Int).toNat : List (List Int))).bind fun y221 => (if y218.length + y221.length < 5864062014805 then (some (y218 ++ y221)) else (none)))) else (none))) else (none))) else (none)) else (none)))
def spec_spPut.f (k : Nat) (l0 : List (List Int)) (l1 : List Int) : Option ((List (List Int))) := spec_spPut.l0 k l0 l1 0
theorem spec_spPut.mono_l : ∀ k, (∀ y0 y1 y2, LeO (spec_spPut.l0 k y0 y1 y2) (spec_spPut.l0 (k + 1) y0 y1 y2))
 | 0 => fun _ _ _ r h => by simp [spec_spPut.l0] at h
 | k + 1 => by
  have ih0 := spec_spPut.mono_l k
  ·intro y0 y1 y2
   unfold spec_spPut.l0
   repeat' first
   | (with_reducible exact ih0 _ _ _)
   | (with_reducible exact spec_stListLess.mono _ _ _)
   | (with_reducible exact LeO.refl _)
   | (with_reducible exact LeO.none _)
   | (with_reducible refine LeO.ite ?_ ?_)
   | (with_reducible refine LeO.bind ?_ (fun _ => ?_))
   | exact ih0 _ _ _
   | exact spec_stListLess.mono _ _ _
   | exact LeO.none _
   | refine LeO.ite ?_ ?_
   | refine LeO.bind ?_ (fun _ => ?_)
theorem spec_spPut.mono : ∀ a0 a1 k, LeO (spec_spPut.f k a0 a1) (spec_spPut.f (k + 1) a0 a1) := by
 intro a0 a1 k; have ih0 := spec_spPut.mono_l k; unfold spec_spPut.f
 repeat' first
   | (with_reducible exact ih0 _ _ _)
   | (with_reducible exact spec_stListLess.mono _ _ _)
   | (with_reducible exact LeO.refl _)
   | (with_reducible exact LeO.none _)
   | (with_reducible refine LeO.ite ?_ ?_)
   | (with_reducible refine LeO.bind ?_ (fun _ => ?_))
   | exact ih0 _ _ _
   | exact spec_stListLess.mono _ _ _
   | exact LeO.none _
   | refine LeO.ite ?_ ?_
   | refine LeO.bind ?_ (fun _ => ?_)
theorem spec_spPut.calls (k : Nat) (P0_ : Nat → Prop) (A0 : Option Addr) (c0 : Nat) (l0 : List (List Int)) (P1_ : Nat → Prop) (A1 : Option Addr) (c1 : Nat) (l1 : List Int) (r : List (List Int)) (w : World) (hs0 : Kd.V (Kd.slice 3 (Kd.int .i64)) 31 w w.heap.size (fun k_ => P0_ k_) (.slice A0 l0.length c0) l0) (hs1 : Kd.V (Kd.int .i64) 3 w w.heap.size (fun k_ => P1_ k_) (.slice A1 l1.length c1) l1) (h : spec_spPut.f k l0 l1 = some r) :
  Calls Tryz.prog 50 #[.slice A0 l0.length c0, .slice A1 l1.length c1] w fun e w' => ∃ v0_ : Value, e = .returned (v0_) ∧ Kd.N (Kd.slice 3 (Kd.int .i64)) 31 w' w.heap.size (fun k_ => ((P0_ k_ ∨ P1_ k_) ∨ w.heap.size ≤ k_)) v0_ r ∧ Below w.heap.size w w' := by
 have HO0 := Aside0.mk (show Kd.V (Kd.slice 3 (Kd.int .i64)) 31 w w.heap.size (fun k_ => ((P0_ k_ ∨ P1_ k_) ∨ w.heap.size ≤ k_)) (.slice A0 l0.length c0) l0 from Kd.V_mono hs0 (fun k_ hk => .inl (.inl hk))); have HO1 := Aside0.mk (show Kd.V (Kd.int .i64) 3 w w.heap.size (fun k_ => ((P0_ k_ ∨ P1_ k_) ∨ w.heap.size ≤ k_)) (.slice A1 l1.length c1) l1 from Kd.V_mono hs1 (fun k_ hk => .inl (.inr hk))); have HB := Aside0.mk (Below.refl w.heap.size w); have H : (spec_spPut.l0 k l0 l1 0) = some r := h; clear h; have H' := Aside0.mk H; clear H; go_enter Tryz.func50, Tryz.ntmps50; go_wp2
 go_loopg [5] k (fun kq v5 w' => ∃ (x5_1 : Int), v5 = .int .i64 x5_1 ∧ Aside0 (spec_spPut.l0 kq l0 l1 x5_1 = some r) ∧ Aside0 (kq ≤ k) ∧ Aside0 (Kd.V (Kd.slice 3 (Kd.int .i64)) 31 w' w.heap.size (fun k_ => ((P0_ k_ ∨ P1_ k_) ∨ w.heap.size ≤ k_)) (.slice A0 l0.length c0) l0) ∧ Aside0 (Kd.V (Kd.int .i64) 3 w' w.heap.size (fun k_ => ((P0_ k_ ∨ P1_ k_) ∨ w.heap.size ≤ k_)) (.slice A1 l1.length c1) l1) ∧ Aside0 (Below w.heap.size w w'))
 case atStart => exact ⟨(0), (sr2), H', ⟨Nat.le_refl _⟩, ⟨rV HO0.out⟩, ⟨rV HO1.out⟩, ⟨bl HB.out⟩⟩
 case round =>
  clear H'; obtain ⟨x5_1, rfl, HA, HK1, HO_0, HO_1, HB⟩ := hrel
  cases gk with
  | zero => exact absurd HA.out (by simp [spec_spPut.l0])
  | succ k1 =>
   have H := HA.out; clear HA; simp only [spec_spPut.l0] at H
   by_cases c3 : x5_1 < (l0.length : Int)
   ·rw [if_pos c3] at H; have c3b0 := decide_eq_true c3; clear c3
    by_cases c4 : 0 ≤ x5_1
    ·rw [if_pos c4] at H; have c4b0 := decide_eq_true c4; clear c4; replace H := Option.bind_eq_some_iff.mp H; obtain ⟨t184, A50, H⟩ := H; replace H : (if t184 < 0 then (spec_spPut.l0 k1 l0 l1 (wrap64 (x5_1 + 1))) else ((some (([] : List (List Int)) : List (List Int))).bind fun y185 => (if x5_1 ≤ (l0.length : Int) then ((some (l0.take (x5_1 : Int).toNat : List (List Int))).bind fun y188 => (if y185.length + y188.length < 5864062014805 then ((some (y185 ++ y188 : List (List Int))).bind fun y193 => (if y193.length < 5864062014805 then ((some (y193 ++ [l1] : List (List Int))).bind fun y196 => ((some (l0.drop (x5_1 : Int).toNat : List (List Int))).bind fun y199 => (if y196.length + y199.length < 5864062014805 then (some (y196 ++ y199)) else (none)))) else (none))) else (none))) else (none)))) = some r := H; have A5 := Aside0.mk A50; clear A50
     by_cases c6 : t184 < 0
     ·rw [if_pos c6] at H; have c6b0 := decide_eq_true c6; clear c6; have H' := Aside0.mk H; clear H; have p183 : 0 ≤ (x5_1 : Int) := od; have q183 : x5_1 < (l0.length : Int) := od; obtain ⟨ad183, A183_0, c183_0, e183, hx183_0, hl183_0, hi183_0⟩ := at_L3 (Kd.V_reads' HO_0.out).2.2 x5_1 p183 q183; cases e183; obtain ⟨ce183, hce183, hMe183, hcc183⟩ := Kd.V_get HO_0.out [] x5_1 p183 (by first | exact q183 | exact od | (have e_ := (Kd.V_reads' HO_0.out).1; omega)); obtain ⟨ua183_0, uc183_0, rfl, ul183_0, ge183_0⟩ := Kd.FK_slice_open hMe183; have hv183_0 := hcc183 0 _ rfl; rw [Nat.add_zero, show ((Kd.slice 3 (Kd.int .i64))).sz = 1 from rfl, Nat.mul_one] at hv183_0; replace hv183_0 := Option.some.inj (hv183_0.symm.trans hx183_0); (injection hv183_0 with hva_ hvn_ hvc_); rw [hva_] at ge183_0; rw [hvc_] at ul183_0; have HL183_0 := Aside0.mk (show Kd.V (Kd.int .i64) 3 _ w.heap.size _ _ (rd_L3 l0 x5_1) from Kd.V_mk ul183_0 ge183_0); clear hva_ hvn_ hvc_ ge183_0 ul183_0; clear hcc183 hce183; have HR183_0 := Aside0.mk hi183_0; have HC183_0 := Aside0.mk hl183_0; clear hi183_0 hl183_0; replace p183 := eq_true p183; replace q183 := eq_true q183; go_wp2_with (first | (go_at_call 89; (with_reducible refine (spec_stListLess.calls k1 _ _ (rd_L3 l0 x5_1) _ _ l1 t184 _ ?side1 ?side2 ?side3 ((Kd.V_reads' HO_1.out).2.1) A5.out).mono ?_); (case side1 => repeat (first | exact (by repeat (first | (with_reducible exact HR183_0.out) | (with_reducible refine Kd.C_alloc ?_ _) | (with_reducible refine Kd.C_drewN ?_ _) | (with_reducible refine Kd.C_drew ?_) | exact HR183_0.out)) | (with_reducible refine Kd.C_alloc ?_ _) | (with_reducible refine Kd.C_drewN ?_ _) | (with_reducible refine Kd.C_drew ?_))); (case side2 => exact HC183_0.out); (case side3 => exact cw ((Kd.V_reads' HO_1.out).2.2)); rintro e w' ⟨rfl, ⟨nd, rfl⟩⟩))
      go_roundg k1
      case measure => have := HK1.out; omega
      case rel => exact ⟨(wrap64 (x5_1 + 1)), (sr2), H', ⟨by have := HK1.out; omega⟩, ⟨rV HO_0.out⟩, ⟨rV HO_1.out⟩, ⟨bl HB.out⟩⟩
     rw [if_neg c6] at H; have c6b0 := decide_eq_false c6; clear c6; obtain ⟨y185, hy185⟩ := yy (([] : List (List Int))); (replace H : (if x5_1 ≤ (l0.length : Int) then ((some (l0.take (x5_1 : Int).toNat : List (List Int))).bind fun y188 => (if y185.length + y188.length < 5864062014805 then ((some (y185 ++ y188 : List (List Int))).bind fun y193 => (if y193.length < 5864062014805 then ((some (y193 ++ [l1] : List (List Int))).bind fun y196 => ((some (l0.drop (x5_1 : Int).toNat : List (List Int))).bind fun y199 => (if y196.length + y199.length < 5864062014805 then (some (y196 ++ y199)) else (none)))) else (none))) else (none))) else (none)) = some r := by first | (rw [hy185]; with_reducible exact H) | (have H2_ := (Option.bind_some _ _).symm.trans H; rw [hy185]; with_reducible exact H2_) | (have H2_ := (Option.bind_some _ _).symm.trans H; with_reducible exact H2_) | with_reducible exact H | (rw [hy185]; exact H) | exact H); have Ny185 := Aside0.mk hy185; clear hy185; have c7b0 := eq_true (od : 0 ≤ x5_1)
     by_cases c8 : x5_1 ≤ (l0.length : Int)
     ·rw [if_pos c8] at H; have c8b0 := eq_true c8; have c8b1 := decide_eq_true c8; clear c8; obtain ⟨y188, hy188⟩ := yy (l0.take (x5_1 : Int).toNat); (replace H : (if y185.length + y188.length < 5864062014805 then ((some (y185 ++ y188 : List (List Int))).bind fun y193 => (if y193.length < 5864062014805 then ((some (y193 ++ [l1] : List (List Int))).bind fun y196 => ((some (l0.drop (x5_1 : Int).toNat : List (List Int))).bind fun y199 => (if y196.length + y199.length < 5864062014805 then (some (y196 ++ y199)) else (none)))) else (none))) else (none)) = some r := by first | (rw [hy188]; with_reducible exact H) | (have H2_ := (Option.bind_some _ _).symm.trans H; rw [hy188]; with_reducible exact H2_) | (have H2_ := (Option.bind_some _ _).symm.trans H; with_reducible exact H2_) | with_reducible exact H | (rw [hy188]; exact H) | exact H); have Ny188 := Aside0.mk hy188; clear hy188
      by_cases c9 : y185.length + y188.length < 5864062014805
      ·rw [if_pos c9] at H; have LMc9 := Aside0.mk c9; clear c9; obtain ⟨y193, hy193⟩ := yy (y185 ++ y188); (replace H : (if y193.length < 5864062014805 then ((some (y193 ++ [l1] : List (List Int))).bind fun y196 => ((some (l0.drop (x5_1 : Int).toNat : List (List Int))).bind fun y199 => (if y196.length + y199.length < 5864062014805 then (some (y196 ++ y199)) else (none)))) else (none)) = some r := by first | (rw [hy193]; with_reducible exact H) | (have H2_ := (Option.bind_some _ _).symm.trans H; rw [hy193]; with_reducible exact H2_) | (have H2_ := (Option.bind_some _ _).symm.trans H; with_reducible exact H2_) | with_reducible exact H | (rw [hy193]; exact H) | exact H); have Ny193 := Aside0.mk hy193; clear hy193
       by_cases c10 : y193.length < 5864062014805
       ·rw [if_pos c10] at H; have LMc10 := Aside0.mk c10; clear c10; obtain ⟨y196, hy196⟩ := yy (y193 ++ [l1]); (replace H : ((some (l0.drop (x5_1 : Int).toNat : List (List Int))).bind fun y199 => (if y196.length + y199.length < 5864062014805 then (some (y196 ++ y199)) else (none))) = some r := by first | (rw [hy196]; with_reducible exact H) | (have H2_ := (Option.bind_some _ _).symm.trans H; rw [hy196]; with_reducible exact H2_) | (have H2_ := (Option.bind_some _ _).symm.trans H; with_reducible exact H2_) | with_reducible exact H | (rw [hy196]; exact H) | exact H); have Ny196 := Aside0.mk hy196; clear hy196; have c11b0 := eq_true (od : 0 ≤ x5_1); have c12b0 := eq_true (od : x5_1 ≤ (l0.length : Int)); obtain ⟨y199, hy199⟩ := yy (l0.drop (x5_1 : Int).toNat); (replace H : (if y196.length + y199.length < 5864062014805 then (some (y196 ++ y199)) else (none)) = some r := by first | (rw [hy199]; with_reducible exact H) | (have H2_ := (Option.bind_some _ _).symm.trans H; rw [hy199]; with_reducible exact H2_) | (have H2_ := (Option.bind_some _ _).symm.trans H; with_reducible exact H2_) | with_reducible exact H | (rw [hy199]; exact H) | exact H); have Ny199 := Aside0.mk hy199; clear hy199
        by_cases c13 : y196.length + y199.length < 5864062014805
        ·rw [if_pos c13] at H; have LMc13 := Aside0.mk c13; clear c13; obtain ⟨y204, hy204⟩ := yy (y196 ++ y199); (replace H : (some y204) = some r := by first | (rw [hy204]; with_reducible exact H) | (have H2_ := (Option.bind_some _ _).symm.trans H; rw [hy204]; with_reducible exact H2_) | (have H2_ := (Option.bind_some _ _).symm.trans H; with_reducible exact H2_) | with_reducible exact H | (rw [hy204]; exact H) | exact H); have Ny204 := Aside0.mk hy204; clear hy204; obtain rfl := Option.some.inj H; have p183 : 0 ≤ (x5_1 : Int) := od; have q183 : x5_1 < (l0.length : Int) := od; obtain ⟨ad183, A183_0, c183_0, e183, hx183_0, hl183_0, hi183_0⟩ := at_L3 (Kd.V_reads' HO_0.out).2.2 x5_1 p183 q183; cases e183; obtain ⟨ce183, hce183, hMe183, hcc183⟩ := Kd.V_get HO_0.out [] x5_1 p183 (by first | exact q183 | exact od | (have e_ := (Kd.V_reads' HO_0.out).1; omega)); obtain ⟨ua183_0, uc183_0, rfl, ul183_0, ge183_0⟩ := Kd.FK_slice_open hMe183; have hv183_0 := hcc183 0 _ rfl; rw [Nat.add_zero, show ((Kd.slice 3 (Kd.int .i64))).sz = 1 from rfl, Nat.mul_one] at hv183_0; replace hv183_0 := Option.some.inj (hv183_0.symm.trans hx183_0); (injection hv183_0 with hva_ hvn_ hvc_); rw [hva_] at ge183_0; rw [hvc_] at ul183_0; have HL183_0 := Aside0.mk (show Kd.V (Kd.int .i64) 3 _ w.heap.size _ _ (rd_L3 l0 x5_1) from Kd.V_mk ul183_0 ge183_0); clear hva_ hvn_ hvc_ ge183_0 ul183_0; clear hcc183 hce183; have HR183_0 := Aside0.mk hi183_0; have HC183_0 := Aside0.mk hl183_0; clear hi183_0 hl183_0; replace p183 := eq_true p183; replace q183 := eq_true q183; go_wp2_with (first | (go_at_call 89; (with_reducible refine (spec_stListLess.calls k1 _ _ (rd_L3 l0 x5_1) _ _ l1 t184 _ ?side1 ?side2 ?side3 ((Kd.V_reads' HO_1.out).2.1) A5.out).mono ?_); (case side1 => repeat (first | exact (by repeat (first | (with_reducible exact HR183_0.out) | (with_reducible refine Kd.C_alloc ?_ _) | (with_reducible refine Kd.C_drewN ?_ _) | (with_reducible refine Kd.C_drew ?_) | exact HR183_0.out)) | (with_reducible refine Kd.C_alloc ?_ _) | (with_reducible refine Kd.C_drewN ?_ _) | (with_reducible refine Kd.C_drew ?_))); (case side2 => exact HC183_0.out); (case side3 => exact cw ((Kd.V_reads' HO_1.out).2.2)); rintro e w' ⟨rfl, ⟨nd, rfl⟩⟩) | ((with_reducible refine gate_dst (N := 22) rfl ?_); refine Kd.N_lit (Kd.slice 3 (Kd.int .i64)) _ 31 ?hg (N' := 22) ?hd (xs := ([] : List (List Int))) (inner := []) (ok := (fun k_ => ((P0_ k_ ∨ P1_ k_) ∨ w.heap.size ≤ k_))) (okp := (fun k_ => ((P0_ k_ ∨ P1_ k_) ∨ w.heap.size ≤ k_))) ?hr ?hp (fun _ hk => hk) ((show ∀ k_, wr.heap.size ≤ k_ → (fun k_ => ((P0_ k_ ∨ P1_ k_) ∨ w.heap.size ≤ k_)) k_ from fun k_ hk => (.inr (Nat.le_trans (below_size (bl HB.out)) hk))) _ (Nat.le_refl _)) (Below.refl _ _) (Nat.le_refl _) (by simp) ?_; (case hd => rfl); (case hg => rfl); (case hr => first | (go_simp; done) | (go_simp; rfl)); (case hp => exact (Reps.none _ _)); intro v186 w14 ho15 hb hg_ hnew_; clear hg_ hnew_; (first | rw [← Ny185.out] at ho15 | (simp only [Int.reduceToNat] at ho15; rw [← Ny185.out] at ho15)); replace HO_0 := Aside0.mk (Kd.V_elder' (rV HO_0.out) (Kd.N_base ho15) hb); replace HO_1 := Aside0.mk (Kd.V_elder' (rV HO_1.out) (Kd.N_base ho15) hb); replace HL183_0 := Aside0.mk (Kd.V_elder' (rV HL183_0.out) (Kd.N_base ho15) hb); have HO187 := Aside0.mk (Kd.N_lower ho15 (below_size (bl HB.out))); replace HR183_0 := Aside0.mk (Kd.C_below (by repeat (first | (with_reducible exact HR183_0.out) | (with_reducible refine Kd.C_alloc ?_ _) | (with_reducible refine Kd.C_drewN ?_ _) | (with_reducible refine Kd.C_drew ?_) | exact HR183_0.out)) hb); replace HB := bst HB hb; clear hb ho15; have q16 : (x5_1 : Int) ≤ ((l0.length : Int) : Int) := od; obtain ⟨i016, hi016, _, hsz16, _⟩ := info_parts info31; have hroom16 : l0.length ≤ c0 := (Kd.V_reads' HO_0.out).2.1; have hC16 : Kd.F (Kd.slice 3 (Kd.int .i64)) _ _ (some ad183) l0.length l0 := (Kd.V_at (base := w.heap.size) HO_0.out).2.2; have hcut16 := cut_to (P := Tryz.prog) 25 31 .i64 Tryz.underlying25 hi016 (some ad183) l0.length c0 x5_1 (od) q16 hroom16; have hr16 := Kd.F_take (m := (x5_1 : Int).toNat) hC16 (by omega); have hy16 : y188.length = (x5_1 : Int).toNat := (by rw [Ny188.out, List.length_take]; omega); rw [← Ny188.out] at hr16; rw [← hy16] at hcut16; have HO192 := Aside0.mk (show Kd.V (Kd.slice 3 (Kd.int .i64)) 31 _ w.heap.size _ (.slice (some ad183) y188.length c0) y188 from Kd.V_mk (by omega) hr16); have HC192 := Aside0.mk (show y188.length ≤ c0 from by omega); clear hr16 hC16 hroom16 hi016 hsz16; have KY16 := Aside0.mk hy16; clear hy16; replace q16 := eq_true q16) | ((with_reducible refine gate_builtin (b := .append) (xs := #[.tmp 22, .tmp 25]) rfl ?_); at_builtin; refine Kd.N_append_rows (Kd.slice 3 (Kd.int .i64)) (w0 := w) w.heap.size rfl (.tmp 22) (.tmp 25) 25 31 (.slice none 0 0) 24 rfl Tryz.underlying25 info31 rfl (by decide) (by omega) v186 y185 y188 _ _ _ (fun k_ => ((P0_ k_ ∨ P1_ k_) ∨ w.heap.size ≤ k_)) (fun k_ => ((fun k_ => ((P0_ k_ ∨ P1_ k_) ∨ w.heap.size ≤ k_))) k_ ∧ some k_ ≠ (v186 : Value).ownBlock) rfl rfl ?aO ?aR (fun _ hk => hk) ?aF ?aB ?aS (by have := LMc9.out; omega) ?_; (case aR => exact (by skip; exact Kd.V_F (Kd.V_mono (ok' := (fun k_ => ((fun k_ => ((P0_ k_ ∨ P1_ k_) ∨ w.heap.size ≤ k_))) k_ ∧ some k_ ≠ (v186 : Value).ownBlock)) (HO192.out) (fun k_ hk => ⟨hk.1, hk.2⟩)))); (case aB => exact (bl HB.out)); (case aF => exact (fun k_ hk => (.inr (Nat.le_trans (below_size (bl HB.out)) hk)))); (case aO => exact (rN HO187.out)); (case aS => exact (below_size (bl HB.out))); intro v194 w17 ho hb hg hat; rw [← Ny193.out] at ho; replace HO_0 := Aside0.mk (Kd.V_afterv (ok := (fun k_ => ((P0_ k_ ∨ P1_ k_) ∨ w.heap.size ≤ k_))) (rV HO_0.out) hg hat); replace HO_1 := Aside0.mk (Kd.V_afterv (ok := (fun k_ => ((P0_ k_ ∨ P1_ k_) ∨ w.heap.size ≤ k_))) (rV HO_1.out) hg hat); replace HL183_0 := Aside0.mk (Kd.V_afterv (ok := (fun k_ => ((P0_ k_ ∨ P1_ k_) ∨ w.heap.size ≤ k_))) (rV HL183_0.out) hg hat); replace HO192 := Aside0.mk (Kd.V_afterv (ok := (fun k_ => ((P0_ k_ ∨ P1_ k_) ∨ w.heap.size ≤ k_))) (rV HO192.out) hg hat); replace HB := Aside0.mk (hb); have HO195 := Aside0.mk (ho); clear HO187; clear ho hb hg hat) | ((with_reducible refine gate_builtin (b := .append) (xs := #[.tmp 26, .tmp 28]) rfl ?_); at_builtin; refine Kd.N_append (Kd.slice 3 (Kd.int .i64)) (w0 := w) w.heap.size rfl (.tmp 26) (.tmp 28) 25 31 (.slice none 0 0) 24 rfl Tryz.underlying25 info31 rfl (by decide) (by omega) v194 y193 l1 [.slice A1 l1.length c1] (fun k_ => ((P0_ k_ ∨ P1_ k_) ∨ w.heap.size ≤ k_)) (fun k_ => ((fun k_ => ((P0_ k_ ∨ P1_ k_) ∨ w.heap.size ≤ k_))) k_ ∧ some k_ ≠ (v194 : Value).ownBlock) rfl rfl ?aP (fun _ hk => hk) ?aF ?aO ?aB ?aS (by have := LMc10.out; omega) ?_; (case aP => exact (Kd.FK_slice_mk (Kd.V_reads' (Kd.V_mono (ok' := (fun k_ => ((fun k_ => ((P0_ k_ ∨ P1_ k_) ∨ w.heap.size ≤ k_))) k_ ∧ some k_ ≠ (v194 : Value).ownBlock)) (HO_1.out) (fun k_ hk => ⟨hk.1, hk.2⟩))).2.1 (Kd.V_F (Kd.V_mono (ok' := (fun k_ => ((fun k_ => ((P0_ k_ ∨ P1_ k_) ∨ w.heap.size ≤ k_))) k_ ∧ some k_ ≠ (v194 : Value).ownBlock)) (HO_1.out) (fun k_ hk => ⟨hk.1, hk.2⟩))))); (case aB => exact (bl HB.out)); (case aF => exact (fun k_ hk => (.inr (Nat.le_trans (below_size (bl HB.out)) hk)))); (case aO => exact (rN HO195.out)); (case aS => exact (below_size (bl HB.out))); intro v197 w18 ho hb hg hat; rw [← Ny196.out] at ho; replace HO_0 := Aside0.mk (Kd.V_afterv (ok := (fun k_ => ((P0_ k_ ∨ P1_ k_) ∨ w.heap.size ≤ k_))) (rV HO_0.out) hg hat); replace HO_1 := Aside0.mk (Kd.V_afterv (ok := (fun k_ => ((P0_ k_ ∨ P1_ k_) ∨ w.heap.size ≤ k_))) (rV HO_1.out) hg hat); replace HL183_0 := Aside0.mk (Kd.V_afterv (ok := (fun k_ => ((P0_ k_ ∨ P1_ k_) ∨ w.heap.size ≤ k_))) (rV HL183_0.out) hg hat); replace HO192 := Aside0.mk (Kd.V_afterv (ok := (fun k_ => ((P0_ k_ ∨ P1_ k_) ∨ w.heap.size ≤ k_))) (rV HO192.out) hg hat); replace HB := Aside0.mk (hb); have HO198 := Aside0.mk (ho); clear HO195; clear ho hb hg hat; have q19 : (x5_1 : Int) ≤ ((l0.length : Int) : Int) := od; obtain ⟨i019, hi019, _, hsz19, _⟩ := info_parts info31; have hroom19 : l0.length ≤ c0 := (Kd.V_reads' HO_0.out).2.1; have hC19 : Kd.F (Kd.slice 3 (Kd.int .i64)) _ _ (some ad183) l0.length l0 := (Kd.V_at (base := w.heap.size) HO_0.out).2.2; have q019 : (0 : Int) ≤ (x5_1 : Int) := od; have hcut19 := cut_from (P := Tryz.prog) 25 31 .i64 Tryz.underlying25 hi019 1 hsz19 (some ad183) l0.length c0 x5_1 q019 q19; have hr19 := Kd.F_cut (m := (x5_1 : Int).toNat) (c := c0) hC19 (by omega) hroom19; obtain ⟨A19, hA19⟩ : ∃ A1, A1 = (if c0 = (x5_1 : Int).toNat then (some ad183) else ((some ad183) : Option Addr).map (·.add ((x5_1 : Int).toNat * 1))) := ⟨_, rfl⟩; obtain ⟨c19, hc19⟩ : ∃ c1, c1 = c0 - (x5_1 : Int).toNat := ⟨_, rfl⟩; have hy19 : y199.length = l0.length - (x5_1 : Int).toNat := (by rw [Ny199.out, List.length_drop] <;> omega); rw [show (l0).drop (x5_1 : Int).toNat = y199 from Ny199.out.symm] at hr19; replace hr19 : Kd.F (Kd.slice 3 (Kd.int .i64)) _ _ A19 y199.length y199 := (by rw [hA19]; exact hr19); rw [← hy19, ← hA19, ← hc19] at hcut19; have HO203 := Aside0.mk (show Kd.V (Kd.slice 3 (Kd.int .i64)) 31 _ w.heap.size _ (.slice A19 y199.length c19) y199 from Kd.V_mk (by rw [hy19, hc19]; exact Nat.sub_le_sub_right hroom19 _) hr19); have HC203 := Aside0.mk (show y199.length ≤ c19 from by rw [hy19, hc19]; exact Nat.sub_le_sub_right hroom19 _); clear hr19 hC19 hroom19 hi019 hsz19 hc19; have KY19 := Aside0.mk hy19; have KA19 := Aside0.mk hA19; clear hy19 hA19; replace q19 := eq_true q19) | ((with_reducible refine gate_builtin (b := .append) (xs := #[.tmp 30, .tmp 33]) rfl ?_); at_builtin; refine Kd.N_append_rows (Kd.slice 3 (Kd.int .i64)) (w0 := w) w.heap.size rfl (.tmp 30) (.tmp 33) 25 31 (.slice none 0 0) 24 rfl Tryz.underlying25 info31 rfl (by decide) (by omega) v197 y196 y199 _ _ _ (fun k_ => ((P0_ k_ ∨ P1_ k_) ∨ w.heap.size ≤ k_)) (fun k_ => ((fun k_ => ((P0_ k_ ∨ P1_ k_) ∨ w.heap.size ≤ k_))) k_ ∧ some k_ ≠ (v197 : Value).ownBlock) rfl rfl ?aO ?aR (fun _ hk => hk) ?aF ?aB ?aS (by have := LMc13.out; omega) ?_; (case aR => exact (by skip; exact Kd.V_F (Kd.V_mono (ok' := (fun k_ => ((fun k_ => ((P0_ k_ ∨ P1_ k_) ∨ w.heap.size ≤ k_))) k_ ∧ some k_ ≠ (v197 : Value).ownBlock)) (HO203.out) (fun k_ hk => ⟨hk.1, hk.2⟩)))); (case aB => exact (bl HB.out)); (case aF => exact (fun k_ hk => (.inr (Nat.le_trans (below_size (bl HB.out)) hk)))); (case aO => exact (rN HO198.out)); (case aS => exact (below_size (bl HB.out))); intro v205 w20 ho hb hg hat; rw [← Ny204.out] at ho; replace HO_0 := Aside0.mk (Kd.V_afterv (ok := (fun k_ => ((P0_ k_ ∨ P1_ k_) ∨ w.heap.size ≤ k_))) (rV HO_0.out) hg hat); replace HO_1 := Aside0.mk (Kd.V_afterv (ok := (fun k_ => ((P0_ k_ ∨ P1_ k_) ∨ w.heap.size ≤ k_))) (rV HO_1.out) hg hat); replace HL183_0 := Aside0.mk (Kd.V_afterv (ok := (fun k_ => ((P0_ k_ ∨ P1_ k_) ∨ w.heap.size ≤ k_))) (rV HL183_0.out) hg hat); replace HO192 := Aside0.mk (Kd.V_afterv (ok := (fun k_ => ((P0_ k_ ∨ P1_ k_) ∨ w.heap.size ≤ k_))) (rV HO192.out) hg hat); replace HO203 := Aside0.mk (Kd.V_afterv (ok := (fun k_ => ((P0_ k_ ∨ P1_ k_) ∨ w.heap.size ≤ k_))) (rV HO203.out) hg hat); replace HB := Aside0.mk (hb); have HO206 := Aside0.mk (ho); clear HO198; clear ho hb hg hat)); go_ret; exact ⟨_, sr, rN HO206.out, bl HB.out⟩
        rw [if_neg c13] at H; exact absurd H (by simp)
       rw [if_neg c10] at H; exact absurd H (by simp)
      rw [if_neg c9] at H; exact absurd H (by simp)
     rw [if_neg c8] at H; exact absurd H (by simp)
    rw [if_neg c4] at H; exact absurd H (by simp)
   rw [if_neg c3] at H; have c3b0 := decide_eq_false c3; clear c3; obtain ⟨y207, hy207⟩ := yy (([] : List (List Int))); (replace H : (if 0 ≤ x5_1 then (if x5_1 ≤ (l0.length : Int) then ((some (l0.take (x5_1 : Int).toNat : List (List Int))).bind fun y210 => (if y207.length + y210.length < 5864062014805 then ((some (y207 ++ y210 : List (List Int))).bind fun y215 => (if y215.length < 5864062014805 then ((some (y215 ++ [l1] : List (List Int))).bind fun y218 => ((some (l0.drop (x5_1 : Int).toNat : List (List Int))).bind fun y221 => (if y218.length + y221.length < 5864062014805 then (some (y218 ++ y221)) else (none)))) else (none))) else (none))) else (none)) else (none)) = some r := by first | (rw [hy207]; with_reducible exact H) | (have H2_ := (Option.bind_some _ _).symm.trans H; rw [hy207]; with_reducible exact H2_) | (have H2_ := (Option.bind_some _ _).symm.trans H; with_reducible exact H2_) | with_reducible exact H | (rw [hy207]; exact H) | exact H); have Ny207 := Aside0.mk hy207; clear hy207
   by_cases c21 : 0 ≤ x5_1
   ·rw [if_pos c21] at H; have c21b0 := eq_true c21; have c21b1 := decide_eq_true c21; clear c21
    by_cases c22 : x5_1 ≤ (l0.length : Int)
    ·rw [if_pos c22] at H; have c22b0 := eq_true c22; have c22b1 := decide_eq_true c22; clear c22; obtain ⟨y210, hy210⟩ := yy (l0.take (x5_1 : Int).toNat); (replace H : (if y207.length + y210.length < 5864062014805 then ((some (y207 ++ y210 : List (List Int))).bind fun y215 => (if y215.length < 5864062014805 then ((some (y215 ++ [l1] : List (List Int))).bind fun y218 => ((some (l0.drop (x5_1 : Int).toNat : List (List Int))).bind fun y221 => (if y218.length + y221.length < 5864062014805 then (some (y218 ++ y221)) else (none)))) else (none))) else (none)) = some r := by first | (rw [hy210]; with_reducible exact H) | (have H2_ := (Option.bind_some _ _).symm.trans H; rw [hy210]; with_reducible exact H2_) | (have H2_ := (Option.bind_some _ _).symm.trans H; with_reducible exact H2_) | with_reducible exact H | (rw [hy210]; exact H) | exact H); have Ny210 := Aside0.mk hy210; clear hy210
     by_cases c23 : y207.length + y210.length < 5864062014805
     ·rw [if_pos c23] at H; have LMc23 := Aside0.mk c23; clear c23; obtain ⟨y215, hy215⟩ := yy (y207 ++ y210); (replace H : (if y215.length < 5864062014805 then ((some (y215 ++ [l1] : List (List Int))).bind fun y218 => ((some (l0.drop (x5_1 : Int).toNat : List (List Int))).bind fun y221 => (if y218.length + y221.length < 5864062014805 then (some (y218 ++ y221)) else (none)))) else (none)) = some r := by first | (rw [hy215]; with_reducible exact H) | (have H2_ := (Option.bind_some _ _).symm.trans H; rw [hy215]; with_reducible exact H2_) | (have H2_ := (Option.bind_some _ _).symm.trans H; with_reducible exact H2_) | with_reducible exact H | (rw [hy215]; exact H) | exact H); have Ny215 := Aside0.mk hy215; clear hy215
      by_cases c24 : y215.length < 5864062014805
      ·rw [if_pos c24] at H; have LMc24 := Aside0.mk c24; clear c24; obtain ⟨y218, hy218⟩ := yy (y215 ++ [l1]); (replace H : ((some (l0.drop (x5_1 : Int).toNat : List (List Int))).bind fun y221 => (if y218.length + y221.length < 5864062014805 then (some (y218 ++ y221)) else (none))) = some r := by first | (rw [hy218]; with_reducible exact H) | (have H2_ := (Option.bind_some _ _).symm.trans H; rw [hy218]; with_reducible exact H2_) | (have H2_ := (Option.bind_some _ _).symm.trans H; with_reducible exact H2_) | with_reducible exact H | (rw [hy218]; exact H) | exact H); have Ny218 := Aside0.mk hy218; clear hy218; have c25b0 := eq_true (od : 0 ≤ x5_1); have c26b0 := eq_true (od : x5_1 ≤ (l0.length : Int)); obtain ⟨y221, hy221⟩ := yy (l0.drop (x5_1 : Int).toNat); (replace H : (if y218.length + y221.length < 5864062014805 then (some (y218 ++ y221)) else (none)) = some r := by first | (rw [hy221]; with_reducible exact H) | (have H2_ := (Option.bind_some _ _).symm.trans H; rw [hy221]; with_reducible exact H2_) | (have H2_ := (Option.bind_some _ _).symm.trans H; with_reducible exact H2_) | with_reducible exact H | (rw [hy221]; exact H) | exact H); have Ny221 := Aside0.mk hy221; clear hy221
       by_cases c27 : y218.length + y221.length < 5864062014805
       ·rw [if_pos c27] at H; have LMc27 := Aside0.mk c27; clear c27; obtain ⟨y226, hy226⟩ := yy (y218 ++ y221); (replace H : (some y226) = some r := by first | (rw [hy226]; with_reducible exact H) | (have H2_ := (Option.bind_some _ _).symm.trans H; rw [hy226]; with_reducible exact H2_) | (have H2_ := (Option.bind_some _ _).symm.trans H; with_reducible exact H2_) | with_reducible exact H | (rw [hy226]; exact H) | exact H); have Ny226 := Aside0.mk hy226; clear hy226; obtain rfl := Option.some.inj H; go_wp2_with (first | ((with_reducible refine gate_dst (N := 22) rfl ?_); refine Kd.N_lit (Kd.slice 3 (Kd.int .i64)) _ 31 ?hg (N' := 22) ?hd (xs := ([] : List (List Int))) (inner := []) (ok := (fun k_ => ((P0_ k_ ∨ P1_ k_) ∨ w.heap.size ≤ k_))) (okp := (fun k_ => ((P0_ k_ ∨ P1_ k_) ∨ w.heap.size ≤ k_))) ?hr ?hp (fun _ hk => hk) ((show ∀ k_, wr.heap.size ≤ k_ → (fun k_ => ((P0_ k_ ∨ P1_ k_) ∨ w.heap.size ≤ k_)) k_ from fun k_ hk => (.inr (Nat.le_trans (below_size (bl HB.out)) hk))) _ (Nat.le_refl _)) (Below.refl _ _) (Nat.le_refl _) (by simp) ?_; (case hd => rfl); (case hg => rfl); (case hr => first | (go_simp; done) | (go_simp; rfl)); (case hp => exact (Reps.none _ _)); intro v208 w28 ho29 hb hg_ hnew_; clear hg_ hnew_; (first | rw [← Ny207.out] at ho29 | (simp only [Int.reduceToNat] at ho29; rw [← Ny207.out] at ho29)); replace HO_0 := Aside0.mk (Kd.V_elder' (rV HO_0.out) (Kd.N_base ho29) hb); replace HO_1 := Aside0.mk (Kd.V_elder' (rV HO_1.out) (Kd.N_base ho29) hb); have HO209 := Aside0.mk (Kd.N_lower ho29 (below_size (bl HB.out))); replace HB := bst HB hb; clear hb ho29; have q30 : (x5_1 : Int) ≤ ((l0.length : Int) : Int) := od; obtain ⟨i030, hi030, _, hsz30, _⟩ := info_parts info31; have hroom30 : l0.length ≤ c0 := (Kd.V_reads' HO_0.out).2.1; have hC30 : Kd.F (Kd.slice 3 (Kd.int .i64)) _ _ A0 l0.length l0 := (Kd.V_at (base := w.heap.size) HO_0.out).2.2; have hcut30 := cut_to (P := Tryz.prog) 25 31 .i64 Tryz.underlying25 hi030 A0 l0.length c0 x5_1 (od) q30 hroom30; have hr30 := Kd.F_take (m := (x5_1 : Int).toNat) hC30 (by omega); have hy30 : y210.length = (x5_1 : Int).toNat := (by rw [Ny210.out, List.length_take]; omega); rw [← Ny210.out] at hr30; rw [← hy30] at hcut30; have HO214 := Aside0.mk (show Kd.V (Kd.slice 3 (Kd.int .i64)) 31 _ w.heap.size _ (.slice A0 y210.length c0) y210 from Kd.V_mk (by omega) hr30); have HC214 := Aside0.mk (show y210.length ≤ c0 from by omega); clear hr30 hC30 hroom30 hi030 hsz30; have KY30 := Aside0.mk hy30; clear hy30; replace q30 := eq_true q30) | ((with_reducible refine gate_builtin (b := .append) (xs := #[.tmp 22, .tmp 25]) rfl ?_); at_builtin; refine Kd.N_append_rows (Kd.slice 3 (Kd.int .i64)) (w0 := w) w.heap.size rfl (.tmp 22) (.tmp 25) 25 31 (.slice none 0 0) 24 rfl Tryz.underlying25 info31 rfl (by decide) (by omega) v208 y207 y210 _ _ _ (fun k_ => ((P0_ k_ ∨ P1_ k_) ∨ w.heap.size ≤ k_)) (fun k_ => ((fun k_ => ((P0_ k_ ∨ P1_ k_) ∨ w.heap.size ≤ k_))) k_ ∧ some k_ ≠ (v208 : Value).ownBlock) rfl rfl ?aO ?aR (fun _ hk => hk) ?aF ?aB ?aS (by have := LMc23.out; omega) ?_; (case aR => exact (by skip; exact Kd.V_F (Kd.V_mono (ok' := (fun k_ => ((fun k_ => ((P0_ k_ ∨ P1_ k_) ∨ w.heap.size ≤ k_))) k_ ∧ some k_ ≠ (v208 : Value).ownBlock)) (HO214.out) (fun k_ hk => ⟨hk.1, hk.2⟩)))); (case aB => exact (bl HB.out)); (case aF => exact (fun k_ hk => (.inr (Nat.le_trans (below_size (bl HB.out)) hk)))); (case aO => exact (rN HO209.out)); (case aS => exact (below_size (bl HB.out))); intro v216 w31 ho hb hg hat; rw [← Ny215.out] at ho; replace HO_0 := Aside0.mk (Kd.V_afterv (ok := (fun k_ => ((P0_ k_ ∨ P1_ k_) ∨ w.heap.size ≤ k_))) (rV HO_0.out) hg hat); replace HO_1 := Aside0.mk (Kd.V_afterv (ok := (fun k_ => ((P0_ k_ ∨ P1_ k_) ∨ w.heap.size ≤ k_))) (rV HO_1.out) hg hat); replace HO214 := Aside0.mk (Kd.V_afterv (ok := (fun k_ => ((P0_ k_ ∨ P1_ k_) ∨ w.heap.size ≤ k_))) (rV HO214.out) hg hat); replace HB := Aside0.mk (hb); have HO217 := Aside0.mk (ho); clear HO209; clear ho hb hg hat) | ((with_reducible refine gate_builtin (b := .append) (xs := #[.tmp 26, .tmp 28]) rfl ?_); at_builtin; refine Kd.N_append (Kd.slice 3 (Kd.int .i64)) (w0 := w) w.heap.size rfl (.tmp 26) (.tmp 28) 25 31 (.slice none 0 0) 24 rfl Tryz.underlying25 info31 rfl (by decide) (by omega) v216 y215 l1 [.slice A1 l1.length c1] (fun k_ => ((P0_ k_ ∨ P1_ k_) ∨ w.heap.size ≤ k_)) (fun k_ => ((fun k_ => ((P0_ k_ ∨ P1_ k_) ∨ w.heap.size ≤ k_))) k_ ∧ some k_ ≠ (v216 : Value).ownBlock) rfl rfl ?aP (fun _ hk => hk) ?aF ?aO ?aB ?aS (by have := LMc24.out; omega) ?_; (case aP => exact (Kd.FK_slice_mk (Kd.V_reads' (Kd.V_mono (ok' := (fun k_ => ((fun k_ => ((P0_ k_ ∨ P1_ k_) ∨ w.heap.size ≤ k_))) k_ ∧ some k_ ≠ (v216 : Value).ownBlock)) (HO_1.out) (fun k_ hk => ⟨hk.1, hk.2⟩))).2.1 (Kd.V_F (Kd.V_mono (ok' := (fun k_ => ((fun k_ => ((P0_ k_ ∨ P1_ k_) ∨ w.heap.size ≤ k_))) k_ ∧ some k_ ≠ (v216 : Value).ownBlock)) (HO_1.out) (fun k_ hk => ⟨hk.1, hk.2⟩))))); (case aB => exact (bl HB.out)); (case aF => exact (fun k_ hk => (.inr (Nat.le_trans (below_size (bl HB.out)) hk)))); (case aO => exact (rN HO217.out)); (case aS => exact (below_size (bl HB.out))); intro v219 w32 ho hb hg hat; rw [← Ny218.out] at ho; replace HO_0 := Aside0.mk (Kd.V_afterv (ok := (fun k_ => ((P0_ k_ ∨ P1_ k_) ∨ w.heap.size ≤ k_))) (rV HO_0.out) hg hat); replace HO_1 := Aside0.mk (Kd.V_afterv (ok := (fun k_ => ((P0_ k_ ∨ P1_ k_) ∨ w.heap.size ≤ k_))) (rV HO_1.out) hg hat); replace HO214 := Aside0.mk (Kd.V_afterv (ok := (fun k_ => ((P0_ k_ ∨ P1_ k_) ∨ w.heap.size ≤ k_))) (rV HO214.out) hg hat); replace HB := Aside0.mk (hb); have HO220 := Aside0.mk (ho); clear HO217; clear ho hb hg hat; have q33 : (x5_1 : Int) ≤ ((l0.length : Int) : Int) := od; obtain ⟨i033, hi033, _, hsz33, _⟩ := info_parts info31; have hroom33 : l0.length ≤ c0 := (Kd.V_reads' HO_0.out).2.1; have hC33 : Kd.F (Kd.slice 3 (Kd.int .i64)) _ _ A0 l0.length l0 := (Kd.V_at (base := w.heap.size) HO_0.out).2.2; have q033 : (0 : Int) ≤ (x5_1 : Int) := od; have hcut33 := cut_from (P := Tryz.prog) 25 31 .i64 Tryz.underlying25 hi033 1 hsz33 A0 l0.length c0 x5_1 q033 q33; have hr33 := Kd.F_cut (m := (x5_1 : Int).toNat) (c := c0) hC33 (by omega) hroom33; obtain ⟨A33, hA33⟩ : ∃ A1, A1 = (if c0 = (x5_1 : Int).toNat then A0 else (A0 : Option Addr).map (·.add ((x5_1 : Int).toNat * 1))) := ⟨_, rfl⟩; obtain ⟨c33, hc33⟩ : ∃ c1, c1 = c0 - (x5_1 : Int).toNat := ⟨_, rfl⟩; have hy33 : y221.length = l0.length - (x5_1 : Int).toNat := (by rw [Ny221.out, List.length_drop] <;> omega); rw [show (l0).drop (x5_1 : Int).toNat = y221 from Ny221.out.symm] at hr33; replace hr33 : Kd.F (Kd.slice 3 (Kd.int .i64)) _ _ A33 y221.length y221 := (by rw [hA33]; exact hr33); rw [← hy33, ← hA33, ← hc33] at hcut33; have HO225 := Aside0.mk (show Kd.V (Kd.slice 3 (Kd.int .i64)) 31 _ w.heap.size _ (.slice A33 y221.length c33) y221 from Kd.V_mk (by rw [hy33, hc33]; exact Nat.sub_le_sub_right hroom33 _) hr33); have HC225 := Aside0.mk (show y221.length ≤ c33 from by rw [hy33, hc33]; exact Nat.sub_le_sub_right hroom33 _); clear hr33 hC33 hroom33 hi033 hsz33 hc33; have KY33 := Aside0.mk hy33; have KA33 := Aside0.mk hA33; clear hy33 hA33; replace q33 := eq_true q33) | ((with_reducible refine gate_builtin (b := .append) (xs := #[.tmp 30, .tmp 33]) rfl ?_); at_builtin; refine Kd.N_append_rows (Kd.slice 3 (Kd.int .i64)) (w0 := w) w.heap.size rfl (.tmp 30) (.tmp 33) 25 31 (.slice none 0 0) 24 rfl Tryz.underlying25 info31 rfl (by decide) (by omega) v219 y218 y221 _ _ _ (fun k_ => ((P0_ k_ ∨ P1_ k_) ∨ w.heap.size ≤ k_)) (fun k_ => ((fun k_ => ((P0_ k_ ∨ P1_ k_) ∨ w.heap.size ≤ k_))) k_ ∧ some k_ ≠ (v219 : Value).ownBlock) rfl rfl ?aO ?aR (fun _ hk => hk) ?aF ?aB ?aS (by have := LMc27.out; omega) ?_; (case aR => exact (by skip; exact Kd.V_F (Kd.V_mono (ok' := (fun k_ => ((fun k_ => ((P0_ k_ ∨ P1_ k_) ∨ w.heap.size ≤ k_))) k_ ∧ some k_ ≠ (v219 : Value).ownBlock)) (HO225.out) (fun k_ hk => ⟨hk.1, hk.2⟩)))); (case aB => exact (bl HB.out)); (case aF => exact (fun k_ hk => (.inr (Nat.le_trans (below_size (bl HB.out)) hk)))); (case aO => exact (rN HO220.out)); (case aS => exact (below_size (bl HB.out))); intro v227 w34 ho hb hg hat; rw [← Ny226.out] at ho; replace HO_0 := Aside0.mk (Kd.V_afterv (ok := (fun k_ => ((P0_ k_ ∨ P1_ k_) ∨ w.heap.size ≤ k_))) (rV HO_0.out) hg hat); replace HO_1 := Aside0.mk (Kd.V_afterv (ok := (fun k_ => ((P0_ k_ ∨ P1_ k_) ∨ w.heap.size ≤ k_))) (rV HO_1.out) hg hat); replace HO214 := Aside0.mk (Kd.V_afterv (ok := (fun k_ => ((P0_ k_ ∨ P1_ k_) ∨ w.heap.size ≤ k_))) (rV HO214.out) hg hat); replace HO225 := Aside0.mk (Kd.V_afterv (ok := (fun k_ => ((P0_ k_ ∨ P1_ k_) ∨ w.heap.size ≤ k_))) (rV HO225.out) hg hat); replace HB := Aside0.mk (hb); have HO228 := Aside0.mk (ho); clear HO220; clear ho hb hg hat)); go_ret; exact ⟨_, sr, rN HO228.out, bl HB.out⟩
       rw [if_neg c27] at H; exact absurd H (by simp)
      rw [if_neg c24] at H; exact absurd H (by simp)
     rw [if_neg c23] at H; exact absurd H (by simp)
    rw [if_neg c22] at H; exact absurd H (by simp)
   rw [if_neg c21] at H; exact absurd H (by simp)
/-! ### spec_spPlaces: function 76 -/
def spec_spPlaces.l0 : Nat → List Int → List Int → Int → Int → Option (List Int)
 | 0, _, _, _, _ => none
 | k + 1, x3, x9, x10, x11 => if x11 < x10 then (if 0 ≤ x11 then (if x11 < (x9.length : Int) then (if 0 ≤ (rd x9 x11) then (if (rd x9 x11) < (x3.length : Int) then (spec_spPlaces.l0 k (x3.set ((rd x9 x11) : Int).toNat x11) x9 x10 (wrap64 (x11 + 1))) else (none)) else (none)) else (none)) else (none)) else (some x3)
def spec_spPlaces.f (k : Nat) (l0 : List Int) : Option (List Int) := if 0 ≤ (l0.length : Int) then (if ((l0.length : Int) : Int).toNat ≤ 35184372088832 then (spec_spPlaces.l0 k (List.replicate ((l0.length : Int) : Int).toNat 0) l0 (l0.length : Int) 0) else (none)) else (none)
theorem spec_spPlaces.mono_l : ∀ k, (∀ y0 y1 y2 y3, LeO (spec_spPlaces.l0 k y0 y1 y2 y3) (spec_spPlaces.l0 (k + 1) y0 y1 y2 y3))
 | 0 => fun _ _ _ _ r h => by simp [spec_spPlaces.l0] at h
 | k + 1 => by
  have ih0 := spec_spPlaces.mono_l k
  ·intro y0 y1 y2 y3
   unfold spec_spPlaces.l0
   repeat' first
   | (with_reducible exact ih0 _ _ _ _)
   | (with_reducible exact LeO.refl _)
   | (with_reducible exact LeO.none _)
   | (with_reducible refine LeO.ite ?_ ?_)
   | (with_reducible refine LeO.bind ?_ (fun _ => ?_))
   | exact ih0 _ _ _ _
   | exact LeO.none _
   | refine LeO.ite ?_ ?_
   | refine LeO.bind ?_ (fun _ => ?_)
theorem spec_spPlaces.mono : ∀ a0 k, LeO (spec_spPlaces.f k a0) (spec_spPlaces.f (k + 1) a0) := by
 intro a0 k; have ih0 := spec_spPlaces.mono_l k; unfold spec_spPlaces.f
 repeat' first
   | (with_reducible exact ih0 _ _ _ _)
   | (with_reducible exact LeO.refl _)
   | (with_reducible exact LeO.none _)
   | (with_reducible refine LeO.ite ?_ ?_)
   | (with_reducible refine LeO.bind ?_ (fun _ => ?_))
   | exact ih0 _ _ _ _
   | exact LeO.none _
   | refine LeO.ite ?_ ?_
   | refine LeO.bind ?_ (fun _ => ?_)
theorem spec_spPlaces.calls (k : Nat) (A0 : Option Addr) (c0 : Nat) (l0 : List Int) (r : List Int) (w : World) (hr0 : Kd.C (Kd.int .i64) w A0 l0.length l0) (hc0 : l0.length ≤ c0) (h : spec_spPlaces.f k l0 = some r) :
  Calls Tryz.prog 76 #[.slice A0 l0.length c0] w fun e w' => ∃ v0_ : Value, e = .returned (v0_) ∧ Kd.R (Kd.int .i64) 3 w' w.heap.size (fun _ => True) v0_ r ∧ Below w.heap.size w w' := by
 have HR0 := Aside0.mk hr0; have HC0 := Aside0.mk hc0; clear hr0 hc0; have HB := Aside0.mk (Below.refl w.heap.size w); have H : (if 0 ≤ (l0.length : Int) then (if ((l0.length : Int) : Int).toNat ≤ 35184372088832 then (spec_spPlaces.l0 k (List.replicate ((l0.length : Int) : Int).toNat 0) l0 (l0.length : Int) 0) else (none)) else (none)) = some r := h; clear h
 by_cases c2 : 0 ≤ (l0.length : Int)
 ·rw [if_pos c2] at H; have c2b0 := eq_true c2; have c2b1 := decide_eq_true c2; clear c2
  by_cases c3 : ((l0.length : Int) : Int).toNat ≤ 35184372088832
  ·rw [if_pos c3] at H
   have c3b0 := eq_true c3
   have c3b1 : decide (((l0.length : Int) : Int).toNat ≤ 35184372088832) = true := decide_eq_true c3
   clear c3
   obtain ⟨y229, hy229⟩ : ∃ y_ : List Int, y_ = (List.replicate ((l0.length : Int) : Int).toNat 0) := ⟨_, rfl⟩
   (try rw [Option.bind_some] at H); (try dsimp only at H); rw [← hy229] at H
   have Ny229 := Aside0.mk hy229; clear hy229; have H' := Aside0.mk H; clear H; go_enter Tryz.func76, Tryz.ntmps76; go_wp2_with (first | ((with_reducible refine gate_dst (N := 8) rfl ?_); refine Kd.R_make (Kd.int .i64) _ 3 rfl (N := 8) rfl 31 _ _ rfl (l0.length : Int) rfl rfl Tryz.underlying31 (.int .i64 0) 8 info3 rfl (by decide) (by omega) 0 (ok := fun _ => True) (okp := fun _ => True) rfl (fun _ hk => hk) trivial (od) (Nat.le_trans (Nat.mul_le_mul_right _ (od : (l0.length : Int).toNat ≤ 35184372088832)) (by omega)) (Below.refl _ _) (Nat.le_refl _) ?_; intro v230 w4 ho5 hb hg_ hnew_; clear hg_ hnew_; (first | rw [← Ny229.out] at ho5 | (simp only [Int.reduceToNat] at ho5; rw [← Ny229.out] at ho5)); have HO231 := Aside0.mk (Kd.R_lower ho5 (below_size (bl HB.out))); replace HB := bst HB hb; clear hb ho5))
   go_loopg [11] k (fun kq v11 w' => ∃ (x3_1 : List Int) (x11_1 : Int), v11 = .int .i64 x11_1 ∧ Aside0 (spec_spPlaces.l0 kq x3_1 l0 (l0.length : Int) x11_1 = some r) ∧ Aside0 (kq ≤ k) ∧ Aside0 (Kd.R (Kd.int .i64) 3 w' w.heap.size (fun _ => True) v230 x3_1) ∧ Aside0 (Below w.heap.size w w'))
   case atStart => exact ⟨(y229), (0), (sr2), H', ⟨Nat.le_refl _⟩, ⟨rR HO231.out⟩, ⟨bl HB.out⟩⟩
   case round =>
    clear H'; obtain ⟨x3_1, x11_1, rfl, HA, HK1, HO_3, HB⟩ := hrel
    cases gk with
    | zero => exact absurd HA.out (by simp [spec_spPlaces.l0])
    | succ k1 =>
     have H := HA.out; clear HA; simp only [spec_spPlaces.l0] at H
     by_cases c6 : x11_1 < (l0.length : Int)
     ·rw [if_pos c6] at H; have c6b0 := decide_eq_true c6; clear c6
      by_cases c7 : 0 ≤ x11_1
      ·rw [if_pos c7] at H; have c7b0 := decide_eq_true c7; clear c7
       by_cases c8 : x11_1 < (l0.length : Int)
       ·rw [if_pos c8] at H; have c8b0 := decide_eq_true c8; clear c8
        by_cases c9 : 0 ≤ (rd l0 x11_1)
        ·rw [if_pos c9] at H; have c9b0 := decide_eq_true c9; clear c9
         by_cases c10 : (rd l0 x11_1) < (x3_1.length : Int)
         ·rw [if_pos c10] at H; have c10b0 := decide_eq_true c10; clear c10; obtain ⟨y233, hy233⟩ := yy (x3_1.set ((rd l0 x11_1) : Int).toNat x11_1)
          (try rw [Option.bind_some] at H); (try dsimp only at H); rw [← hy233] at H
          have Ny233 := Aside0.mk hy233; clear hy233; have H' := Aside0.mk H; clear H; obtain ⟨ad232, e232, hx232_0, p232, q232⟩ := atI HR0.out x11_1; cases e232; replace hx232_0 := hbx HB hx232_0; have p11 : 0 ≤ ((rd l0 x11_1) : Int) := od; have q11 : ((rd l0 x11_1) : Int) < ((x3_1.length : Int) : Int) := od; obtain ⟨go11, co11, eo11, gb11, gl11, cl11, HG11⟩ := Kd.R_form HO_3.out (by omega); (first | cases eo11 | (injection eo11 with ea_ en_ ec_; (first | subst ea_ | (injection ea_ with ea_; subst ea_)); subst ec_; clear en_)); have GB11 := Aside0.mk gb11; have GG11 := Aside0.mk HG11; clear gb11 gl11 HG11; obtain ⟨hx11_0, hf11_0⟩ := Kd.R_celln 0 HO_3.out ((rd l0 x11_1) : Int) p11 q11; replace p11 := eq_true p11; replace q11 := eq_true q11; have HP12 := Kd.R_putg HO_3.out ((rd l0 x11_1) : Int) x11_1; go_wp2_with (first | ((with_reducible refine gate_store (t := 3) (p := 19) rfl ?_); refine store_event (t := 3) (p := 19) (v := ?vo_w13) (w1 := (wr.setCell ⟨go11, ((rd l0 x11_1) : Int).toNat, none⟩ (.int .i64 x11_1))) ?hg ?ho ?hn ?hr ?_; (case ho => rfl); (case hg => rfl); (case hn => rfl); (case hr => first | (go_simp; done) | (go_simp; rfl)); intro w13 hw; have hg : wr.grownBy w13 (some go11) := (by rw [hw]; exact HP12.2); have hp_ : Kd.R (Kd.int .i64) 3 w13 w.heap.size (fun _ => True) (.slice (some ⟨go11, 0, none⟩) x3_1.length co11) y233 := (by rw [hw, Ny233.out]; exact HP12.1); clear HP12; replace HO_3 := Aside0.mk (hp_); replace HB := Aside0.mk ((by rw [hw]; exact below_set (HB.out) GB11.out : Below w.heap.size w w13)); clear hg hw hp_))
          go_roundg k1
          case measure => have := HK1.out; omega
          case rel => exact ⟨(y233), (wrap64 (x11_1 + 1)), (sr2), H', ⟨by have := HK1.out; omega⟩, ⟨rR HO_3.out⟩, ⟨bl HB.out⟩⟩
         rw [if_neg c10] at H; exact absurd H (by simp)
        rw [if_neg c9] at H; exact absurd H (by simp)
       rw [if_neg c8] at H; exact absurd H (by simp)
      rw [if_neg c7] at H; exact absurd H (by simp)
     rw [if_neg c6] at H; have c6b0 := decide_eq_false c6; clear c6; obtain rfl := Option.some.inj H; go_wp2; go_ret; exact ⟨_, sr, rR HO_3.out, bl HB.out⟩
  rw [if_neg c3] at H; exact absurd H (by simp)
 rw [if_neg c2] at H; exact absurd H (by simp)
/-! ### spec_l1Most: function 119 -/
def spec_l1Most.f (a0 : Int) (a1 : Int) : Option (Int) := if a0 > a1 then (some a0) else (some a1)
theorem spec_l1Most.calls (a0 : Int) (a1 : Int) (r : Int) (w : World) (h : spec_l1Most.f a0 a1 = some r) :
  Calls Tryz.prog 119 #[.int .i64 a0, .int .i64 a1] w fun e w' => e = .returned (.int .i64 r) ∧ Drawn0 w w' := by
 have H : (if a0 > a1 then (some a0) else (some a1)) = some r := h; clear h
 by_cases c3 : a0 > a1
 ·rw [if_pos c3] at H; have c3b0 := decide_eq_true c3; clear c3; obtain rfl := Option.some.inj H; go_enter Tryz.func119, Tryz.ntmps119; go_wp2; go_ret; exact ⟨sr2, by repeat (first | exact Drawn0.refl _ | apply Drawn0.step)⟩
 rw [if_neg c3] at H; have c3b0 := decide_eq_false c3; clear c3; obtain rfl := Option.some.inj H; go_enter Tryz.func119, Tryz.ntmps119; go_wp2; go_ret; exact ⟨sr2, by repeat (first | exact Drawn0.refl _ | apply Drawn0.step)⟩
/-! ### spec_l1Least: function 142 -/
def spec_l1Least.f (a0 : Int) (a1 : Int) : Option (Int) := if a0 < a1 then (some a0) else (some a1)
theorem spec_l1Least.calls (a0 : Int) (a1 : Int) (r : Int) (w : World) (h : spec_l1Least.f a0 a1 = some r) :
  Calls Tryz.prog 142 #[.int .i64 a0, .int .i64 a1] w fun e w' => e = .returned (.int .i64 r) ∧ Drawn0 w w' := by
 have H : (if a0 < a1 then (some a0) else (some a1)) = some r := h; clear h
 by_cases c3 : a0 < a1
 ·rw [if_pos c3] at H; have c3b0 := decide_eq_true c3; clear c3; obtain rfl := Option.some.inj H; go_enter Tryz.func142, Tryz.ntmps142; go_wp2; go_ret; exact ⟨sr2, by repeat (first | exact Drawn0.refl _ | apply Drawn0.step)⟩
 rw [if_neg c3] at H; have c3b0 := decide_eq_false c3; clear c3; obtain rfl := Option.some.inj H; go_enter Tryz.func142, Tryz.ntmps142; go_wp2; go_ret; exact ⟨sr2, by repeat (first | exact Drawn0.refl _ | apply Drawn0.step)⟩
/-! ### spec_spCross: function 121 -/
def spec_spCross.f (l0 : List Int) (a1 : Int) (a2 : Int) : Option (Bool) := if (Int.tmod (wrap64 (a2 - a1)) 2) = 1 then (some false) else (if 0 ≤ a1 then (if a1 < (l0.length : Int) then (if 0 ≤ (wrap64 (a1 + 1)) then (if (wrap64 (a1 + 1)) < (l0.length : Int) then ((spec_l1Least.f (rd l0 a1) (rd l0 (wrap64 (a1 + 1)))).bind fun t236 => ((spec_l1Most.f (rd l0 a1) (rd l0 (wrap64 (a1 + 1)))).bind fun t239 => (if 0 ≤ a2 then (if a2 < (l0.length : Int) then (if 0 ≤ (wrap64 (a2 + 1)) then (if (wrap64 (a2 + 1)) < (l0.length : Int) then ((spec_l1Least.f (rd l0 a2) (rd l0 (wrap64 (a2 + 1)))).bind fun t242 => ((spec_l1Most.f (rd l0 a2) (rd l0 (wrap64 (a2 + 1)))).bind fun t245 => (if t236 < t242 then (if t242 < t239 then (if t239 < t245 then (some true) else (if t242 < t236 then (if t236 < t245 then (some (decide (t245 < t239))) else (some false)) else (some false))) else (if t242 < t236 then (if t236 < t245 then (some (decide (t245 < t239))) else (some false)) else (some false))) else (if t242 < t236 then (if t236 < t245 then (some (decide (t245 < t239))) else (some false)) else (some false))))) else (none)) else (none)) else (none)) else (none)))) else (none)) else (none)) else (none)) else (none))
theorem spec_spCross.calls (A0 : Option Addr) (c0 : Nat) (l0 : List Int) (a1 : Int) (a2 : Int) (r : Bool) (w : World) (hr0 : Kd.C (Kd.int .i64) w A0 l0.length l0) (hc0 : l0.length ≤ c0) (h : spec_spCross.f l0 a1 a2 = some r) :
  Calls Tryz.prog 121 #[.slice A0 l0.length c0, .int .i64 a1, .int .i64 a2] w fun e w' => e = .returned (.bool r) ∧ Drawn0 w w' := by
 have HR0 := Aside0.mk hr0; have HC0 := Aside0.mk hc0; clear hr0 hc0; have H : (if (Int.tmod (wrap64 (a2 - a1)) 2) = 1 then (some false) else (if 0 ≤ a1 then (if a1 < (l0.length : Int) then (if 0 ≤ (wrap64 (a1 + 1)) then (if (wrap64 (a1 + 1)) < (l0.length : Int) then ((spec_l1Least.f (rd l0 a1) (rd l0 (wrap64 (a1 + 1)))).bind fun t236 => ((spec_l1Most.f (rd l0 a1) (rd l0 (wrap64 (a1 + 1)))).bind fun t239 => (if 0 ≤ a2 then (if a2 < (l0.length : Int) then (if 0 ≤ (wrap64 (a2 + 1)) then (if (wrap64 (a2 + 1)) < (l0.length : Int) then ((spec_l1Least.f (rd l0 a2) (rd l0 (wrap64 (a2 + 1)))).bind fun t242 => ((spec_l1Most.f (rd l0 a2) (rd l0 (wrap64 (a2 + 1)))).bind fun t245 => (if t236 < t242 then (if t242 < t239 then (if t239 < t245 then (some true) else (if t242 < t236 then (if t236 < t245 then (some (decide (t245 < t239))) else (some false)) else (some false))) else (if t242 < t236 then (if t236 < t245 then (some (decide (t245 < t239))) else (some false)) else (some false))) else (if t242 < t236 then (if t236 < t245 then (some (decide (t245 < t239))) else (some false)) else (some false))))) else (none)) else (none)) else (none)) else (none)))) else (none)) else (none)) else (none)) else (none))) = some r := h; clear h
 by_cases c4 : (Int.tmod (wrap64 (a2 - a1)) 2) = 1
 ·rw [if_pos c4] at H; have c4b0 := beq_iff_eq.mpr c4; have c4b1 := bne_eq_false_iff_eq.mpr c4; clear c4; obtain rfl := Option.some.inj H; go_enter Tryz.func121, Tryz.ntmps121; go_wp2
  repeat (go_quiet (fail); try go_wp2)
  go_ret; exact ⟨sr2, by repeat (first | exact Drawn0.refl _ | apply Drawn0.step)⟩
 rw [if_neg c4] at H; have c4b0 := beq_eq_false_iff_ne.mpr c4; have c4b1 := bne_iff_ne.mpr c4
 by_cases c5 : 0 ≤ a1
 ·rw [if_pos c5] at H; have c5b0 := decide_eq_true c5; clear c5
  by_cases c6 : a1 < (l0.length : Int)
  ·rw [if_pos c6] at H; have c6b0 := decide_eq_true c6; clear c6; obtain ⟨ji7, hji7⟩ : ∃ j_ : Int, (wrap64 (a1 + 1)) = j_ := ⟨_, rfl⟩; (replace H : (if 0 ≤ (ji7) then (if (ji7) < (l0.length : Int) then ((spec_l1Least.f (rd l0 a1) (rd l0 (ji7))).bind fun t236 => ((spec_l1Most.f (rd l0 a1) (rd l0 (ji7))).bind fun t239 => (if 0 ≤ a2 then (if a2 < (l0.length : Int) then (if 0 ≤ (wrap64 (a2 + 1)) then (if (wrap64 (a2 + 1)) < (l0.length : Int) then ((spec_l1Least.f (rd l0 a2) (rd l0 (wrap64 (a2 + 1)))).bind fun t242 => ((spec_l1Most.f (rd l0 a2) (rd l0 (wrap64 (a2 + 1)))).bind fun t245 => (if t236 < t242 then (if t242 < t239 then (if t239 < t245 then (some true) else (if t242 < t236 then (if t236 < t245 then (some (decide (t245 < t239))) else (some false)) else (some false))) else (if t242 < t236 then (if t236 < t245 then (some (decide (t245 < t239))) else (some false)) else (some false))) else (if t242 < t236 then (if t236 < t245 then (some (decide (t245 < t239))) else (some false)) else (some false))))) else (none)) else (none)) else (none)) else (none)))) else (none)) else (none)) = some r := by first | (rw [hji7] at H; exact H) | (simp only [hji7] at H ⊢; exact H)); have hji7w : (IntKind.i64.wrap (a1 + 1)) = ji7 := (i64_w _).trans hji7
   by_cases c8 : 0 ≤ (ji7)
   ·rw [if_pos c8] at H; have c8b0 := decide_eq_true c8; clear c8
    by_cases c9 : (ji7) < (l0.length : Int)
    ·rw [if_pos c9] at H; have c9b0 := decide_eq_true c9; clear c9; obtain ⟨t236, A10, H⟩ := bi H; (try dsimp only at H); obtain ⟨t239, A11, H⟩ := bi H; (try dsimp only at H)
     by_cases c12 : 0 ≤ a2
     ·rw [if_pos c12] at H; have c12b0 := decide_eq_true c12; clear c12
      by_cases c13 : a2 < (l0.length : Int)
      ·rw [if_pos c13] at H; have c13b0 := decide_eq_true c13; clear c13; obtain ⟨ji14, hji14⟩ : ∃ j_ : Int, (wrap64 (a2 + 1)) = j_ := ⟨_, rfl⟩; (replace H : (if 0 ≤ (ji14) then (if (ji14) < (l0.length : Int) then ((spec_l1Least.f (rd l0 a2) (rd l0 (ji14))).bind fun t242 => ((spec_l1Most.f (rd l0 a2) (rd l0 (ji14))).bind fun t245 => (if t236 < t242 then (if t242 < t239 then (if t239 < t245 then (some true) else (if t242 < t236 then (if t236 < t245 then (some (decide (t245 < t239))) else (some false)) else (some false))) else (if t242 < t236 then (if t236 < t245 then (some (decide (t245 < t239))) else (some false)) else (some false))) else (if t242 < t236 then (if t236 < t245 then (some (decide (t245 < t239))) else (some false)) else (some false))))) else (none)) else (none)) = some r := by first | (rw [hji14] at H; exact H) | (simp only [hji14] at H ⊢; exact H)); (try rw [hji14] at A10); (try rw [hji14] at A11); have hji14w : (IntKind.i64.wrap (a2 + 1)) = ji14 := (i64_w _).trans hji14
       by_cases c15 : 0 ≤ (ji14)
       ·rw [if_pos c15] at H; have c15b0 := decide_eq_true c15; clear c15
        by_cases c16 : (ji14) < (l0.length : Int)
        ·rw [if_pos c16] at H; have c16b0 := decide_eq_true c16; clear c16; obtain ⟨t242, A17, H⟩ := bi H; (try dsimp only at H); obtain ⟨t245, A18, H⟩ := bi H; (try dsimp only at H); by_cases c19 : t236 < t242 <;> by_cases c20 : t242 < t239 <;> by_cases c21 : t239 < t245 <;> by_cases c22 : t242 < t236 <;> by_cases c23 : t236 < t245
         all_goals try (exfalso; omega)
         all_goals
          first | (have c19b0 : decide (t236 < t242) = true := decide_eq_true c19) | (have c19b0 : decide (t236 < t242) = false := decide_eq_false c19)
          first | (have c20b0 : decide (t242 < t239) = true := decide_eq_true c20) | (have c20b0 : decide (t242 < t239) = false := decide_eq_false c20)
          first | (have c21b0 : decide (t239 < t245) = true := decide_eq_true c21) | (have c21b0 : decide (t239 < t245) = false := decide_eq_false c21)
          first | (have c22b0 : decide (t242 < t236) = true := decide_eq_true c22) | (have c22b0 : decide (t242 < t236) = false := decide_eq_false c22)
          first | (have c23b0 : decide (t236 < t245) = true := decide_eq_true c23) | (have c23b0 : decide (t236 < t245) = false := decide_eq_false c23)
          simp only [c19, c20, c21, c22, c23, if_true, if_false] at H; clear c19 c20 c21 c22 c23; obtain rfl := Option.some.inj H; obtain ⟨ad234, e234, hx234_0, p234, q234⟩ := atI HR0.out a1; cases e234; obtain ⟨ad235, e235, hx235_0, p235, q235⟩ := atI HR0.out (ji7); obtain rfl : ad234 = ad235 := (by injection e235); go_enter Tryz.func121, Tryz.ntmps121; go_wp2_with (first | (go_at_call 142; (with_reducible refine (spec_l1Least.calls (rd l0 a1) (rd l0 (ji7)) t236 _ A10.out).mono ?_); rintro e w' ⟨rfl, ⟨nd, rfl⟩⟩; (try first | exact ⟨rfl, _, World.drewN_drewN _ _ _⟩ | exact ⟨rfl, _, Eq.trans (World.drewN_drewN _ _ _) (congrArg (World.drewN _) (Nat.add_assoc _ _ _))⟩); have p237 : 0 ≤ (a1 : Int) := od; have q237 : a1 < (l0.length : Int) := od; obtain ⟨ad237, e237, hx237_0⟩ := Kd.at_int HR0.out a1 p237 q237; obtain rfl : ad234 = ad237 := (by injection e237); replace p237 := eq_true p237; replace q237 := eq_true q237; have p238 : 0 ≤ ((ji7) : Int) := od; have q238 : (ji7) < (l0.length : Int) := od; obtain ⟨ad238, e238, hx238_0⟩ := Kd.at_int HR0.out (ji7) p238 q238; obtain rfl : ad234 = ad238 := (by injection e238); replace p238 := eq_true p238; replace q238 := eq_true q238) | (go_at_call 119; (with_reducible refine (spec_l1Most.calls (rd l0 a1) (rd l0 (ji7)) t239 _ A11.out).mono ?_); rintro e w' ⟨rfl, ⟨nd, rfl⟩⟩; (try first | exact ⟨rfl, _, World.drewN_drewN _ _ _⟩ | exact ⟨rfl, _, Eq.trans (World.drewN_drewN _ _ _) (congrArg (World.drewN _) (Nat.add_assoc _ _ _))⟩); have p240 : 0 ≤ (a2 : Int) := od; have q240 : a2 < (l0.length : Int) := od; obtain ⟨ad240, e240, hx240_0⟩ := Kd.at_int HR0.out a2 p240 q240; obtain rfl : ad234 = ad240 := (by injection e240); replace p240 := eq_true p240; replace q240 := eq_true q240; have p241 : 0 ≤ ((ji14) : Int) := od; have q241 : (ji14) < (l0.length : Int) := od; obtain ⟨ad241, e241, hx241_0⟩ := Kd.at_int HR0.out (ji14) p241 q241; obtain rfl : ad234 = ad241 := (by injection e241); replace p241 := eq_true p241; replace q241 := eq_true q241) | (go_at_call 142; (with_reducible refine (spec_l1Least.calls (rd l0 a2) (rd l0 (ji14)) t242 _ A17.out).mono ?_); rintro e w' ⟨rfl, ⟨nd, rfl⟩⟩; (try first | exact ⟨rfl, _, World.drewN_drewN _ _ _⟩ | exact ⟨rfl, _, Eq.trans (World.drewN_drewN _ _ _) (congrArg (World.drewN _) (Nat.add_assoc _ _ _))⟩); have p243 : 0 ≤ (a2 : Int) := od; have q243 : a2 < (l0.length : Int) := od; obtain ⟨ad243, e243, hx243_0⟩ := Kd.at_int HR0.out a2 p243 q243; obtain rfl : ad234 = ad243 := (by injection e243); replace p243 := eq_true p243; replace q243 := eq_true q243; have p244 : 0 ≤ ((ji14) : Int) := od; have q244 : (ji14) < (l0.length : Int) := od; obtain ⟨ad244, e244, hx244_0⟩ := Kd.at_int HR0.out (ji14) p244 q244; obtain rfl : ad234 = ad244 := (by injection e244); replace p244 := eq_true p244; replace q244 := eq_true q244) | (go_at_call 119; (with_reducible refine (spec_l1Most.calls (rd l0 a2) (rd l0 (ji14)) t245 _ A18.out).mono ?_); rintro e w' ⟨rfl, ⟨nd, rfl⟩⟩; (try first | exact ⟨rfl, _, World.drewN_drewN _ _ _⟩ | exact ⟨rfl, _, Eq.trans (World.drewN_drewN _ _ _) (congrArg (World.drewN _) (Nat.add_assoc _ _ _))⟩)))
          repeat (go_quiet (first | (go_at_call 142; (with_reducible refine (spec_l1Least.calls (rd l0 a1) (rd l0 (ji7)) t236 _ A10.out).mono ?_); rintro e w' ⟨rfl, ⟨nd, rfl⟩⟩; (try first | exact ⟨rfl, _, World.drewN_drewN _ _ _⟩ | exact ⟨rfl, _, Eq.trans (World.drewN_drewN _ _ _) (congrArg (World.drewN _) (Nat.add_assoc _ _ _))⟩); have p237 : 0 ≤ (a1 : Int) := od; have q237 : a1 < (l0.length : Int) := od; obtain ⟨ad237, e237, hx237_0⟩ := Kd.at_int HR0.out a1 p237 q237; obtain rfl : ad234 = ad237 := (by injection e237); replace p237 := eq_true p237; replace q237 := eq_true q237; have p238 : 0 ≤ ((ji7) : Int) := od; have q238 : (ji7) < (l0.length : Int) := od; obtain ⟨ad238, e238, hx238_0⟩ := Kd.at_int HR0.out (ji7) p238 q238; obtain rfl : ad234 = ad238 := (by injection e238); replace p238 := eq_true p238; replace q238 := eq_true q238) | (go_at_call 119; (with_reducible refine (spec_l1Most.calls (rd l0 a1) (rd l0 (ji7)) t239 _ A11.out).mono ?_); rintro e w' ⟨rfl, ⟨nd, rfl⟩⟩; (try first | exact ⟨rfl, _, World.drewN_drewN _ _ _⟩ | exact ⟨rfl, _, Eq.trans (World.drewN_drewN _ _ _) (congrArg (World.drewN _) (Nat.add_assoc _ _ _))⟩); have p240 : 0 ≤ (a2 : Int) := od; have q240 : a2 < (l0.length : Int) := od; obtain ⟨ad240, e240, hx240_0⟩ := Kd.at_int HR0.out a2 p240 q240; obtain rfl : ad234 = ad240 := (by injection e240); replace p240 := eq_true p240; replace q240 := eq_true q240; have p241 : 0 ≤ ((ji14) : Int) := od; have q241 : (ji14) < (l0.length : Int) := od; obtain ⟨ad241, e241, hx241_0⟩ := Kd.at_int HR0.out (ji14) p241 q241; obtain rfl : ad234 = ad241 := (by injection e241); replace p241 := eq_true p241; replace q241 := eq_true q241) | (go_at_call 142; (with_reducible refine (spec_l1Least.calls (rd l0 a2) (rd l0 (ji14)) t242 _ A17.out).mono ?_); rintro e w' ⟨rfl, ⟨nd, rfl⟩⟩; (try first | exact ⟨rfl, _, World.drewN_drewN _ _ _⟩ | exact ⟨rfl, _, Eq.trans (World.drewN_drewN _ _ _) (congrArg (World.drewN _) (Nat.add_assoc _ _ _))⟩); have p243 : 0 ≤ (a2 : Int) := od; have q243 : a2 < (l0.length : Int) := od; obtain ⟨ad243, e243, hx243_0⟩ := Kd.at_int HR0.out a2 p243 q243; obtain rfl : ad234 = ad243 := (by injection e243); replace p243 := eq_true p243; replace q243 := eq_true q243; have p244 : 0 ≤ ((ji14) : Int) := od; have q244 : (ji14) < (l0.length : Int) := od; obtain ⟨ad244, e244, hx244_0⟩ := Kd.at_int HR0.out (ji14) p244 q244; obtain rfl : ad234 = ad244 := (by injection e244); replace p244 := eq_true p244; replace q244 := eq_true q244) | (go_at_call 119; (with_reducible refine (spec_l1Most.calls (rd l0 a2) (rd l0 (ji14)) t245 _ A18.out).mono ?_); rintro e w' ⟨rfl, ⟨nd, rfl⟩⟩; (try first | exact ⟨rfl, _, World.drewN_drewN _ _ _⟩ | exact ⟨rfl, _, Eq.trans (World.drewN_drewN _ _ _) (congrArg (World.drewN _) (Nat.add_assoc _ _ _))⟩))); try go_wp2_with (first | (go_at_call 142; (with_reducible refine (spec_l1Least.calls (rd l0 a1) (rd l0 (ji7)) t236 _ A10.out).mono ?_); rintro e w' ⟨rfl, ⟨nd, rfl⟩⟩; (try first | exact ⟨rfl, _, World.drewN_drewN _ _ _⟩ | exact ⟨rfl, _, Eq.trans (World.drewN_drewN _ _ _) (congrArg (World.drewN _) (Nat.add_assoc _ _ _))⟩); have p237 : 0 ≤ (a1 : Int) := od; have q237 : a1 < (l0.length : Int) := od; obtain ⟨ad237, e237, hx237_0⟩ := Kd.at_int HR0.out a1 p237 q237; obtain rfl : ad234 = ad237 := (by injection e237); replace p237 := eq_true p237; replace q237 := eq_true q237; have p238 : 0 ≤ ((ji7) : Int) := od; have q238 : (ji7) < (l0.length : Int) := od; obtain ⟨ad238, e238, hx238_0⟩ := Kd.at_int HR0.out (ji7) p238 q238; obtain rfl : ad234 = ad238 := (by injection e238); replace p238 := eq_true p238; replace q238 := eq_true q238) | (go_at_call 119; (with_reducible refine (spec_l1Most.calls (rd l0 a1) (rd l0 (ji7)) t239 _ A11.out).mono ?_); rintro e w' ⟨rfl, ⟨nd, rfl⟩⟩; (try first | exact ⟨rfl, _, World.drewN_drewN _ _ _⟩ | exact ⟨rfl, _, Eq.trans (World.drewN_drewN _ _ _) (congrArg (World.drewN _) (Nat.add_assoc _ _ _))⟩); have p240 : 0 ≤ (a2 : Int) := od; have q240 : a2 < (l0.length : Int) := od; obtain ⟨ad240, e240, hx240_0⟩ := Kd.at_int HR0.out a2 p240 q240; obtain rfl : ad234 = ad240 := (by injection e240); replace p240 := eq_true p240; replace q240 := eq_true q240; have p241 : 0 ≤ ((ji14) : Int) := od; have q241 : (ji14) < (l0.length : Int) := od; obtain ⟨ad241, e241, hx241_0⟩ := Kd.at_int HR0.out (ji14) p241 q241; obtain rfl : ad234 = ad241 := (by injection e241); replace p241 := eq_true p241; replace q241 := eq_true q241) | (go_at_call 142; (with_reducible refine (spec_l1Least.calls (rd l0 a2) (rd l0 (ji14)) t242 _ A17.out).mono ?_); rintro e w' ⟨rfl, ⟨nd, rfl⟩⟩; (try first | exact ⟨rfl, _, World.drewN_drewN _ _ _⟩ | exact ⟨rfl, _, Eq.trans (World.drewN_drewN _ _ _) (congrArg (World.drewN _) (Nat.add_assoc _ _ _))⟩); have p243 : 0 ≤ (a2 : Int) := od; have q243 : a2 < (l0.length : Int) := od; obtain ⟨ad243, e243, hx243_0⟩ := Kd.at_int HR0.out a2 p243 q243; obtain rfl : ad234 = ad243 := (by injection e243); replace p243 := eq_true p243; replace q243 := eq_true q243; have p244 : 0 ≤ ((ji14) : Int) := od; have q244 : (ji14) < (l0.length : Int) := od; obtain ⟨ad244, e244, hx244_0⟩ := Kd.at_int HR0.out (ji14) p244 q244; obtain rfl : ad234 = ad244 := (by injection e244); replace p244 := eq_true p244; replace q244 := eq_true q244) | (go_at_call 119; (with_reducible refine (spec_l1Most.calls (rd l0 a2) (rd l0 (ji14)) t245 _ A18.out).mono ?_); rintro e w' ⟨rfl, ⟨nd, rfl⟩⟩; (try first | exact ⟨rfl, _, World.drewN_drewN _ _ _⟩ | exact ⟨rfl, _, Eq.trans (World.drewN_drewN _ _ _) (congrArg (World.drewN _) (Nat.add_assoc _ _ _))⟩))))
          go_ret; exact ⟨by first | rfl | (simp; done) | (simp only [← hji7, ← hji14] <;> (first | rfl | simp)) | (simp [*]; done), by repeat (first | exact Drawn0.refl _ | apply Drawn0.step)⟩
        rw [if_neg c16] at H; exact absurd H (by simp)
       rw [if_neg c15] at H; exact absurd H (by simp)
      rw [if_neg c13] at H; exact absurd H (by simp)
     rw [if_neg c12] at H; exact absurd H (by simp)
    rw [if_neg c9] at H; exact absurd H (by simp)
   rw [if_neg c8] at H; exact absurd H (by simp)
  rw [if_neg c6] at H; exact absurd H (by simp)
 rw [if_neg c5] at H; exact absurd H (by simp)
/-! ### spec_spCrossed: function 103 -/
mutual
def spec_spCrossed.l0 : Nat → List Int → List Int → List (List Int) → Int → Option ((List (List Int)))
 | 0, _, _, _, _ => none
 | k + 1, x0, x3, x4, x5 => if (wrap64 (x5 + 1)) < (x0.length : Int) then (spec_spCrossed.l1 k x0 x3 x4 x5 (wrap64 (x5 + 1))) else (some x4)
def spec_spCrossed.l1 : Nat → List Int → List Int → List (List Int) → Int → Int → Option ((List (List Int)))
 | 0, _, _, _, _, _ => none
 | k + 1, x0, x3, x4, x5, x6 => if (wrap64 (x6 + 1)) < (x0.length : Int) then ((spec_spCross.f x3 x5 x6).bind fun t249 => (if t249 = true then (if x4.length < 5864062014805 then (spec_spCrossed.l1 k x0 x3 (x4 ++ [(([x5, x6] : List Int))]) x5 (wrap64 (x6 + 1))) else (none)) else (spec_spCrossed.l1 k x0 x3 x4 x5 (wrap64 (x6 + 1))))) else (spec_spCrossed.l0 k x0 x3 x4 (wrap64 (x5 + 1)))
end
def spec_spCrossed.f (k : Nat) (l0 : List Int) : Option ((List (List Int))) := (spec_spPlaces.f k l0).bind fun t246 => (spec_spCrossed.l0 k l0 t246 ([] : List (List Int)) 0)
theorem spec_spCrossed.mono_l : ∀ k, (∀ y0 y1 y2 y3, LeO (spec_spCrossed.l0 k y0 y1 y2 y3) (spec_spCrossed.l0 (k + 1) y0 y1 y2 y3)) ∧ (∀ y0 y1 y2 y3 y4, LeO (spec_spCrossed.l1 k y0 y1 y2 y3 y4) (spec_spCrossed.l1 (k + 1) y0 y1 y2 y3 y4))
 | 0 => ⟨fun _ _ _ _ r h => by simp [spec_spCrossed.l0] at h, fun _ _ _ _ _ r h => by simp [spec_spCrossed.l1] at h⟩
 | k + 1 => by
  obtain ⟨ih0, ih1⟩ := spec_spCrossed.mono_l k
  refine ⟨?_, ?_⟩
  ·intro y0 y1 y2 y3
   unfold spec_spCrossed.l0
   repeat' first
   | (with_reducible exact ih0 _ _ _ _)
   | (with_reducible exact ih1 _ _ _ _ _)
   | (with_reducible exact spec_spPlaces.mono _ _)
   | (with_reducible exact LeO.refl _)
   | (with_reducible exact LeO.none _)
   | (with_reducible refine LeO.ite ?_ ?_)
   | (with_reducible refine LeO.bind ?_ (fun _ => ?_))
   | exact ih0 _ _ _ _
   | exact ih1 _ _ _ _ _
   | exact spec_spPlaces.mono _ _
   | exact LeO.none _
   | refine LeO.ite ?_ ?_
   | refine LeO.bind ?_ (fun _ => ?_)
  ·intro y0 y1 y2 y3 y4
   unfold spec_spCrossed.l1
   repeat' first
   | (with_reducible exact ih0 _ _ _ _)
   | (with_reducible exact ih1 _ _ _ _ _)
   | (with_reducible exact spec_spPlaces.mono _ _)
   | (with_reducible exact LeO.refl _)
   | (with_reducible exact LeO.none _)
   | (with_reducible refine LeO.ite ?_ ?_)
   | (with_reducible refine LeO.bind ?_ (fun _ => ?_))
   | exact ih0 _ _ _ _
   | exact ih1 _ _ _ _ _
   | exact spec_spPlaces.mono _ _
   | exact LeO.none _
   | refine LeO.ite ?_ ?_
   | refine LeO.bind ?_ (fun _ => ?_)
theorem spec_spCrossed.mono : ∀ a0 k, LeO (spec_spCrossed.f k a0) (spec_spCrossed.f (k + 1) a0) := by
 intro a0 k; obtain ⟨ih0, ih1⟩ := spec_spCrossed.mono_l k; unfold spec_spCrossed.f
 repeat' first
   | (with_reducible exact ih0 _ _ _ _)
   | (with_reducible exact ih1 _ _ _ _ _)
   | (with_reducible exact spec_spPlaces.mono _ _)
   | (with_reducible exact LeO.refl _)
   | (with_reducible exact LeO.none _)
   | (with_reducible refine LeO.ite ?_ ?_)
   | (with_reducible refine LeO.bind ?_ (fun _ => ?_))
   | exact ih0 _ _ _ _
   | exact ih1 _ _ _ _ _
   | exact spec_spPlaces.mono _ _
   | exact LeO.none _
   | refine LeO.ite ?_ ?_
   | refine LeO.bind ?_ (fun _ => ?_)
theorem spec_spCrossed.calls (k : Nat) (A0 : Option Addr) (c0 : Nat) (l0 : List Int) (r : List (List Int)) (w : World) (hr0 : Kd.C (Kd.int .i64) w A0 l0.length l0) (hc0 : l0.length ≤ c0) (h : spec_spCrossed.f k l0 = some r) :
  Calls Tryz.prog 103 #[.slice A0 l0.length c0] w fun e w' => ∃ v0_ : Value, e = .returned (v0_) ∧ Kd.S (Kd.slice 3 (Kd.int .i64)) 31 w' w.heap.size (fun _ => True) v0_ r ∧ Below w.heap.size w w' := by
 have HR0 := Aside0.mk hr0; have HC0 := Aside0.mk hc0; clear hr0 hc0; have HB := Aside0.mk (Below.refl w.heap.size w); have H : ((spec_spPlaces.f k l0).bind fun t246 => (spec_spCrossed.l0 k l0 t246 ([] : List (List Int)) 0)) = some r := h; clear h; obtain ⟨t246, A2, H⟩ := bi H; (try dsimp only at H); have H' := Aside0.mk H; clear H; go_enter Tryz.func103, Tryz.ntmps103; go_wp2_with (first | (go_at_call 76; (with_reducible refine (spec_spPlaces.calls k _ _ l0 t246 _ ?side1 HC0.out A2.out).mono ?_); (case side1 => exact cw HR0.out); rintro e w3 ⟨v247, rfl, ho0, hb⟩; have HO248 := Aside0.mk (Kd.R_lower ho0 (below_size (bl HB.out))); replace HB := bst HB hb))
 go_loopg [4, 5] k (fun kq v4 v5 w' => ∃ (x4_1 : List (List Int)) (x5_1 : Int), v5 = .int .i64 x5_1 ∧ Aside0 (spec_spCrossed.l0 kq l0 t246 x4_1 x5_1 = some r) ∧ Aside0 (kq ≤ k) ∧ Aside0 (Kd.R (Kd.int .i64) 3 w' w.heap.size (fun _ => True) v247 t246) ∧ Aside0 (Kd.S (Kd.slice 3 (Kd.int .i64)) 31 w' w.heap.size (fun k_ => some k_ ≠ (v247 : Value).ownBlock) v4 x4_1) ∧ Aside0 (Below w.heap.size w w'))
 case atStart => exact ⟨(([] : List (List Int))), (0), (sr2), H', ⟨Nat.le_refl _⟩, ⟨rR HO248.out⟩, ⟨by first | exact Kd.S_nil _ _ _ _ _ | exact Kd.N_nil _ _ _ _ _ | exact Kd.V_nil _ _ _ _ _ | exact Kd.Q_nil _ _ _ _ _ | exact Kd.R_nil _ _ _ _ _⟩, ⟨bl HB.out⟩⟩
 case round =>
  clear H'; obtain ⟨x4_1, x5_1, rfl, HA, HK1, HO_3, HO_4, HB⟩ := hrel
  cases gk with
  | zero => exact absurd HA.out (by simp [spec_spCrossed.l0])
  | succ k1 =>
   have H := HA.out; clear HA; simp only [spec_spCrossed.l0] at H
   by_cases c4 : (wrap64 (x5_1 + 1)) < (l0.length : Int)
   ·rw [if_pos c4] at H; have c4b0 := decide_eq_true c4; clear c4; have H' := Aside0.mk H; clear H; go_wp2
    go_loopg [4, 6] k1 (fun kq v4 v6 w' => ∃ (x4_2 : List (List Int)) (x6_2 : Int), v6 = .int .i64 x6_2 ∧ Aside0 (spec_spCrossed.l1 kq l0 t246 x4_2 x5_1 x6_2 = some r) ∧ Aside0 (kq ≤ k1) ∧ Aside0 (Kd.R (Kd.int .i64) 3 w' w.heap.size (fun _ => True) v247 t246) ∧ Aside0 (Kd.S (Kd.slice 3 (Kd.int .i64)) 31 w' w.heap.size (fun k_ => some k_ ≠ (v247 : Value).ownBlock) v4 x4_2) ∧ Aside0 (Below w.heap.size w w'))
    case atStart => exact ⟨(x4_1), (wrap64 (x5_1 + 1)), (sr2), H', ⟨Nat.le_refl _⟩, ⟨rR HO_3.out⟩, ⟨rS HO_4.out⟩, ⟨bl HB.out⟩⟩
    case round =>
     clear H'; obtain ⟨x4_2, x6_2, rfl, HA, HK2, HO_3, HO_4, HB⟩ := hrel
     cases gk with
     | zero => exact absurd HA.out (by simp [spec_spCrossed.l1])
     | succ k2 =>
      have H := HA.out; clear HA; simp only [spec_spCrossed.l1] at H
      by_cases c5 : (wrap64 (x6_2 + 1)) < (l0.length : Int)
      ·rw [if_pos c5] at H; have c5b0 := decide_eq_true c5; clear c5; obtain ⟨t249, A6, H⟩ := bi H; (try dsimp only at H)
       by_cases c7 : t249 = true
       ·subst c7; rw [if_pos rfl] at H; obtain ⟨y250, hy250⟩ := yy (([x5_1, x6_2] : List Int))
        (try rw [Option.bind_some] at H); (try dsimp only at H); rw [← hy250] at H
        have Ny250 := Aside0.mk hy250; clear hy250
        by_cases c8 : x4_2.length < 5864062014805
        ·rw [if_pos c8] at H; have LMc8 := Aside0.mk c8; clear c8; obtain ⟨y253, hy253⟩ := yy (x4_2 ++ [y250])
         (try rw [Option.bind_some] at H); (try dsimp only at H); rw [← hy253] at H
         have Ny253 := Aside0.mk hy253; clear hy253; have H' := Aside0.mk H; clear H; obtain ⟨Ao9, co9, eo9⟩ := Kd.R_slice HO_3.out; subst eo9; go_wp2_with (first | (go_at_call 121; (with_reducible refine (spec_spCross.calls _ _ t246 x5_1 x6_2 true _ ?side1 ((Kd.R_reads' HO_3.out).2.1) A6.out).mono ?_); (case side1 => exact cw ((Kd.R_reads' HO_3.out).2.2)); rintro e w' ⟨rfl, ⟨nd, rfl⟩⟩) | ((with_reducible refine gate_dst (N := 32) rfl ?_); refine Kd.R_lit (Kd.int .i64) _ 3 ?hg (N := 32) ?hd (xs := ([x5_1, x6_2] : List Int)) (inner := [.int .i64 x5_1, .int .i64 x6_2]) (ok := fun _ => True) (okp := fun _ => True) ?hr ?hp (fun _ hk => hk) trivial (Below.refl _ _) (Nat.le_refl _) (by simp) ?_; (case hd => rfl); (case hg => rfl); (case hr => first | (go_simp; done) | (go_simp; rfl)); (case hp => exact (Reps.one (show Kd.M (Kd.int .i64) _ _ _ x5_1 [.int .i64 x5_1] from rfl) (Reps.one (show Kd.M (Kd.int .i64) _ _ _ x6_2 [.int .i64 x6_2] from rfl) (Reps.none _ _)))); intro v251 w10 ho11 hb hg_ hnew_; clear hg_ hnew_; (first | rw [← Ny250.out] at ho11 | (simp only [Int.reduceToNat] at ho11; rw [← Ny250.out] at ho11)); replace HO_4 := Aside0.mk (Kd.S_elder' (rS HO_4.out) (Kd.R_base ho11) hb); have HO252 := Aside0.mk (Kd.R_lower (Kd.R_new' ho11 (Kd.R_lt (rR HO_3.out))) (below_size (bl HB.out))); replace HO_3 := Aside0.mk (Kd.R_elder' (rR HO_3.out) (Kd.R_base ho11) hb); replace HB := bst HB hb; clear hb ho11; obtain ⟨Ao13, co13, eo13⟩ := Kd.R_slice HO252.out; subst eo13) | ((with_reducible refine gate_builtin (b := .append) (xs := #[.tmp 29, .tmp 33]) rfl ?_); at_builtin; refine Kd.S_append (Kd.slice 3 (Kd.int .i64)) (w0 := w) w.heap.size rfl (.tmp 29) (.tmp 33) 25 31 (.slice none 0 0) 24 rfl Tryz.underlying25 info31 rfl (by decide) (by omega) u4 x4_2 y250 [.slice Ao13 y250.length co13] (fun k_ => some k_ ≠ (.slice Ao9 t246.length co9 : Value).ownBlock) (fun k_ => some k_ = (.slice Ao13 y250.length co13 : Value).ownBlock) rfl rfl ?aP (fun k_ hk_ => ((Kd.R_mono (ok' := fun k_ => ((fun k_ => some k_ ≠ (.slice Ao9 t246.length co9 : Value).ownBlock)) k_ ∧ some k_ ≠ (u4 : Value).ownBlock) (Kd.R_apart' (HO252.out) (Kd.S_typed HO_4.out) (by decide)) (fun k_ hk => ⟨hk.1.2, hk.2⟩))).1 k_ hk_.symm) ?aF ?aO ?aB ?aS (by have := LMc8.out; omega) ?_; (case aP => exact Kd.M_row (Kd.R_mono (Kd.R_tight rfl (Kd.R_mono (ok' := fun k_ => ((fun k_ => some k_ ≠ (.slice Ao9 t246.length co9 : Value).ownBlock)) k_ ∧ some k_ ≠ (u4 : Value).ownBlock) (Kd.R_apart' (HO252.out) (Kd.S_typed HO_4.out) (by decide)) (fun k_ hk => ⟨hk.1.2, hk.2⟩))) (fun _ h_ => h_))); (case aB => exact (bl HB.out)); (case aF => exact (fun k_ hk => Kd.fresh' (Kd.R_lt (rR HO_3.out)) k_ hk)); (case aO => exact (rS (Kd.S_mono HO_4.out (fun k_ hk => ⟨hk.1, fun e_ => hk.2 e_⟩)))); (case aS => exact (below_size (bl HB.out))); intro v254 w12 ho hb hg hat; rw [← Ny253.out] at ho; replace HO_3 := Aside0.mk (Kd.R_over' (rR HO_3.out) (Kd.S_typed (rS HO_4.out)) (by decide) hg); replace HB := Aside0.mk (hb); have HO255 := Aside0.mk (ho); clear HO_4 HO252; clear ho hb hg hat))
         go_roundg k2
         case measure => have := HK1.out; have := HK2.out; omega
         case rel => exact ⟨(y253), (wrap64 (x6_2 + 1)), (sr2), H', ⟨by have := HK1.out; have := HK2.out; omega⟩, ⟨rR (Kd.R_mono HO_3.out (fun _ hk => trivial))⟩, ⟨rS HO255.out⟩, ⟨bl HB.out⟩⟩
        rw [if_neg c8] at H; exact absurd H (by simp)
       replace c7 := Bool.eq_false_iff.mpr c7; subst c7; rw [if_neg (show ¬ (false = true) by decide)] at H; have H' := Aside0.mk H; clear H; obtain ⟨Ao14, co14, eo14⟩ := Kd.R_slice HO_3.out; subst eo14; go_wp2_with (first | (go_at_call 121; (with_reducible refine (spec_spCross.calls _ _ t246 x5_1 x6_2 false _ ?side1 ((Kd.R_reads' HO_3.out).2.1) A6.out).mono ?_); (case side1 => exact cw ((Kd.R_reads' HO_3.out).2.2)); rintro e w' ⟨rfl, ⟨nd, rfl⟩⟩))
       go_roundg k2
       case measure => have := HK1.out; have := HK2.out; omega
       case rel => exact ⟨(x4_2), (wrap64 (x6_2 + 1)), (sr2), H', ⟨by have := HK1.out; have := HK2.out; omega⟩, ⟨rR HO_3.out⟩, ⟨rS HO_4.out⟩, ⟨bl HB.out⟩⟩
      rw [if_neg c5] at H; have c5b0 := decide_eq_false c5; clear c5; have H' := Aside0.mk H; clear H; go_wp2
      go_roundg k2
      case measure => have := HK1.out; have := HK2.out; omega
      case rel => exact ⟨(x4_2), (wrap64 (x5_1 + 1)), (sr2), H', ⟨by have := HK1.out; have := HK2.out; omega⟩, ⟨rR HO_3.out⟩, ⟨rS HO_4.out⟩, ⟨bl HB.out⟩⟩
   rw [if_neg c4] at H; have c4b0 := decide_eq_false c4; clear c4; obtain rfl := Option.some.inj H; go_wp2; go_ret; exact ⟨_, sr, rS (Kd.S_mono HO_4.out (fun _ hk => trivial)), bl HB.out⟩
/-! ### spec_spIs: function 77 -/
def spec_spIs.f (k : Nat) (l0 : List Int) : Option (Bool) := (spec_spCrossed.f k l0).bind fun t256 => (some ((t256.length : Int) == 0))
theorem spec_spIs.mono : ∀ a0 k, LeO (spec_spIs.f k a0) (spec_spIs.f (k + 1) a0) := by
 intro a0 k; unfold spec_spIs.f
 repeat' first
   | (with_reducible exact spec_spCrossed.mono _ _)
   | (with_reducible exact LeO.refl _)
   | (with_reducible exact LeO.none _)
   | (with_reducible refine LeO.ite ?_ ?_)
   | (with_reducible refine LeO.bind ?_ (fun _ => ?_))
   | exact spec_spCrossed.mono _ _
   | exact LeO.none _
   | refine LeO.ite ?_ ?_
   | refine LeO.bind ?_ (fun _ => ?_)
theorem spec_spIs.calls (k : Nat) (A0 : Option Addr) (c0 : Nat) (l0 : List Int) (r : Bool) (w : World) (hr0 : Kd.C (Kd.int .i64) w A0 l0.length l0) (hc0 : l0.length ≤ c0) (h : spec_spIs.f k l0 = some r) :
  Calls Tryz.prog 77 #[.slice A0 l0.length c0] w fun e w' => e = .returned (.bool r) ∧ Below w.heap.size w w' := by
 have HR0 := Aside0.mk hr0; have HC0 := Aside0.mk hc0; clear hr0 hc0; have HB := Aside0.mk (Below.refl w.heap.size w); have H : ((spec_spCrossed.f k l0).bind fun t256 => (some ((t256.length : Int) == 0))) = some r := h; clear h; obtain ⟨t256, A2, H⟩ := bi H; (try dsimp only at H); obtain rfl := Option.some.inj H; go_enter Tryz.func77, Tryz.ntmps77; go_wp2_with (first | (go_at_call 103; (with_reducible refine (spec_spCrossed.calls k _ _ l0 t256 _ ?side1 HC0.out A2.out).mono ?_); (case side1 => exact cw HR0.out); rintro e w3 ⟨v257, rfl, ho0, hb⟩; have HO258 := Aside0.mk (Kd.S_lower ho0 (below_size (bl HB.out))); replace HB := bst HB hb; obtain ⟨Ao4, co4, eo4⟩ := Kd.S_slice HO258.out; subst eo4)); go_ret; exact ⟨sr, bl HB.out⟩
/-! ### spec_l1Own: function 97 -/
def spec_l1Own.f (l0 : List Int) : Option (List Int) := (some (([] : List Int) : List Int)).bind fun y259 => (if y259.length + l0.length < 17592186044416 then (some (y259 ++ l0)) else (none))
theorem spec_l1Own.calls (A0 : Option Addr) (c0 : Nat) (l0 : List Int) (r : List Int) (w : World) (hr0 : Kd.C (Kd.int .i64) w A0 l0.length l0) (hc0 : l0.length ≤ c0) (h : spec_l1Own.f l0 = some r) :
  Calls Tryz.prog 97 #[.slice A0 l0.length c0] w fun e w' => ∃ v0_ : Value, e = .returned (v0_) ∧ Kd.R (Kd.int .i64) 3 w' w.heap.size (fun _ => True) v0_ r ∧ Below w.heap.size w w' := by
 have HR0 := Aside0.mk hr0; have HC0 := Aside0.mk hc0; clear hr0 hc0; have HB := Aside0.mk (Below.refl w.heap.size w); have H : ((some (([] : List Int) : List Int)).bind fun y259 => (if y259.length + l0.length < 17592186044416 then (some (y259 ++ l0)) else (none))) = some r := h; clear h; obtain ⟨y259, hy259⟩ := yy (([] : List Int))
 (try rw [Option.bind_some] at H); (try dsimp only at H); rw [← hy259] at H
 have Ny259 := Aside0.mk hy259; clear hy259
 by_cases c2 : y259.length + l0.length < 17592186044416
 ·rw [if_pos c2] at H; have LMc2 := Aside0.mk c2; clear c2; obtain ⟨y262, hy262⟩ := yy (y259 ++ l0)
  (try rw [Option.bind_some] at H); (try dsimp only at H); rw [← hy262] at H
  have Ny262 := Aside0.mk hy262; clear hy262; obtain rfl := Option.some.inj H; go_enter Tryz.func97, Tryz.ntmps97; go_wp2_with (first | ((with_reducible refine gate_dst (N := 3) rfl ?_); refine Kd.R_lit (Kd.int .i64) _ 3 ?hg (N := 3) ?hd (xs := ([] : List Int)) (inner := []) (ok := fun _ => True) (okp := fun _ => True) ?hr ?hp (fun _ hk => hk) trivial (Below.refl _ _) (Nat.le_refl _) (by simp) ?_; (case hd => rfl); (case hg => rfl); (case hr => first | (go_simp; done) | (go_simp; rfl)); (case hp => exact (Reps.none _ _)); intro v260 w3 ho4 hb hg_ hnew_; clear hg_ hnew_; (first | rw [← Ny259.out] at ho4 | (simp only [Int.reduceToNat] at ho4; rw [← Ny259.out] at ho4)); have HO261 := Aside0.mk (Kd.R_lower ho4 (below_size (bl HB.out))); replace HB := bst HB hb; clear hb ho4) | ((with_reducible refine gate_builtin (b := .append) (xs := #[.tmp 3, .tmp 4]) rfl ?_); at_builtin; refine Kd.R_append_rows (Kd.int .i64) (w0 := w) w.heap.size rfl (.tmp 3) (.tmp 4) 31 3 (.int .i64 0) 8 rfl Tryz.underlying31 info3 rfl (by decide) (by omega) v260 y259 l0 _ _ _ (fun _ => True) (fun _ => False) rfl rfl ?aO ?aR (fun _ _ h => h) (fun _ h => h.elim) ?aF ?aB ?aS (by have := LMc2.out; omega) ?_; (case aR => exact cw (Kd.C_below HR0.out HB.out)); (case aB => exact (bl HB.out)); (case aF => exact (fun _ _ => trivial)); (case aO => exact (rR HO261.out)); (case aS => exact (below_size (bl HB.out))); intro v263 w5 ho hb hg hat; rw [← Ny262.out] at ho; replace HB := Aside0.mk (hb); have HO264 := Aside0.mk (ho); clear HO261; clear ho hb hg hat)); go_ret; exact ⟨_, sr, rR HO264.out, bl HB.out⟩
 rw [if_neg c2] at H; exact absurd H (by simp)
/-! ### spec_spAdded: function 88 -/
def spec_spAdded.l0 : Nat → List Int → List (List Int) → Int → Option ((List (List Int)))
 | 0, _, _, _ => none
 | k + 1, x0, x3, x4 => if x4 ≤ (x0.length : Int) then (if 0 ≤ x4 then ((spec_l1Own.f (x0.take (x4 : Int).toNat)).bind fun t266 => (if t266.length < 17592186044416 then ((some (t266 ++ [(x0.length : Int)] : List Int)).bind fun y269 => (if y269.length + (x0.drop (x4 : Int).toNat).length < 17592186044416 then ((some (y269 ++ (x0.drop (x4 : Int).toNat) : List Int)).bind fun y273 => ((spec_spIs.f k y273).bind fun t276 => (if t276 = true then ((spec_spPut.f k x3 y273).bind fun t277 => (spec_spAdded.l0 k x0 t277 (wrap64 (x4 + 1)))) else (spec_spAdded.l0 k x0 x3 (wrap64 (x4 + 1)))))) else (none))) else (none))) else (none)) else (some x3)
def spec_spAdded.f (k : Nat) (l0 : List Int) : Option ((List (List Int))) := spec_spAdded.l0 k l0 ([] : List (List Int)) 0
theorem spec_spAdded.mono_l : ∀ k, (∀ y0 y1 y2, LeO (spec_spAdded.l0 k y0 y1 y2) (spec_spAdded.l0 (k + 1) y0 y1 y2))
 | 0 => fun _ _ _ r h => by simp [spec_spAdded.l0] at h
 | k + 1 => by
  have ih0 := spec_spAdded.mono_l k
  ·intro y0 y1 y2
   unfold spec_spAdded.l0
   repeat' first
   | (with_reducible exact ih0 _ _ _)
   | (with_reducible exact spec_spIs.mono _ _)
   | (with_reducible exact spec_spPut.mono _ _ _)
   | (with_reducible exact LeO.refl _)
   | (with_reducible exact LeO.none _)
   | (with_reducible refine LeO.ite ?_ ?_)
   | (with_reducible refine LeO.bind ?_ (fun _ => ?_))
   | exact ih0 _ _ _
   | exact spec_spIs.mono _ _
   | exact spec_spPut.mono _ _ _
   | exact LeO.none _
   | refine LeO.ite ?_ ?_
   | refine LeO.bind ?_ (fun _ => ?_)
theorem spec_spAdded.mono : ∀ a0 k, LeO (spec_spAdded.f k a0) (spec_spAdded.f (k + 1) a0) := by
 intro a0 k; have ih0 := spec_spAdded.mono_l k; unfold spec_spAdded.f
 repeat' first
   | (with_reducible exact ih0 _ _ _)
   | (with_reducible exact spec_spIs.mono _ _)
   | (with_reducible exact spec_spPut.mono _ _ _)
   | (with_reducible exact LeO.refl _)
   | (with_reducible exact LeO.none _)
   | (with_reducible refine LeO.ite ?_ ?_)
   | (with_reducible refine LeO.bind ?_ (fun _ => ?_))
   | exact ih0 _ _ _
   | exact spec_spIs.mono _ _
   | exact spec_spPut.mono _ _ _
   | exact LeO.none _
   | refine LeO.ite ?_ ?_
   | refine LeO.bind ?_ (fun _ => ?_)
theorem spec_spAdded.calls (k : Nat) (A0 : Option Addr) (c0 : Nat) (l0 : List Int) (r : List (List Int)) (w : World) (hr0 : Kd.C (Kd.int .i64) w A0 l0.length l0) (hc0 : l0.length ≤ c0) (h : spec_spAdded.f k l0 = some r) :
  Calls Tryz.prog 88 #[.slice A0 l0.length c0] w fun e w' => ∃ v0_ : Value, e = .returned (v0_) ∧ Kd.N (Kd.slice 3 (Kd.int .i64)) 31 w' w.heap.size (fun k_ => (w.heap.size ≤ k_)) v0_ r ∧ Below w.heap.size w w' := by
 have HR0 := Aside0.mk hr0; have HC0 := Aside0.mk hc0; clear hr0 hc0; have HB := Aside0.mk (Below.refl w.heap.size w); have H : (spec_spAdded.l0 k l0 ([] : List (List Int)) 0) = some r := h; clear h; have H' := Aside0.mk H; clear H; go_enter Tryz.func88, Tryz.ntmps88; go_wp2
 go_loopg [3, 4] k (fun kq v3 v4 w' => ∃ (x3_1 : List (List Int)) (x4_1 : Int), v4 = .int .i64 x4_1 ∧ Aside0 (spec_spAdded.l0 kq l0 x3_1 x4_1 = some r) ∧ Aside0 (kq ≤ k) ∧ Aside0 (Kd.N (Kd.slice 3 (Kd.int .i64)) 31 w' w.heap.size (fun k_ => (w.heap.size ≤ k_)) v3 x3_1) ∧ Aside0 (Below w.heap.size w w'))
 case atStart => exact ⟨(([] : List (List Int))), (0), (sr2), H', ⟨Nat.le_refl _⟩, ⟨by first | exact Kd.S_nil _ _ _ _ _ | exact Kd.N_nil _ _ _ _ _ | exact Kd.V_nil _ _ _ _ _ | exact Kd.Q_nil _ _ _ _ _ | exact Kd.R_nil _ _ _ _ _⟩, ⟨bl HB.out⟩⟩
 case round =>
  clear H'; obtain ⟨x3_1, x4_1, rfl, HA, HK1, HO_3, HB⟩ := hrel
  cases gk with
  | zero => exact absurd HA.out (by simp [spec_spAdded.l0])
  | succ k1 =>
   have H := HA.out; clear HA; simp only [spec_spAdded.l0] at H
   by_cases c2 : x4_1 ≤ (l0.length : Int)
   ·rw [if_pos c2] at H; have c2b0 := decide_eq_true c2; clear c2
    by_cases c3 : 0 ≤ x4_1
    ·rw [if_pos c3] at H; have c3b0 := eq_true c3; have c3b1 := decide_eq_true c3; clear c3; have c4b0 := eq_true (od : x4_1 ≤ (l0.length : Int)); obtain ⟨t266, A5, H⟩ := bi H; (try dsimp only at H)
     by_cases c6 : t266.length < 17592186044416
     ·rw [if_pos c6] at H; have LMc6 := Aside0.mk c6; clear c6; obtain ⟨y269, hy269⟩ := yy (t266 ++ [(l0.length : Int)])
      (try rw [Option.bind_some] at H); (try dsimp only at H); rw [← hy269] at H
      have Ny269 := Aside0.mk hy269; clear hy269; have c7b0 := eq_true (od : 0 ≤ x4_1); have c8b0 := eq_true (od : x4_1 ≤ (l0.length : Int))
      by_cases c9 : y269.length + (l0.drop (x4_1 : Int).toNat).length < 17592186044416
      ·rw [if_pos c9] at H; have LMc9 := Aside0.mk c9; clear c9; obtain ⟨y273, hy273⟩ := yy (y269 ++ (l0.drop (x4_1 : Int).toNat))
       (try rw [Option.bind_some] at H); (try dsimp only at H); rw [← hy273] at H
       have Ny273 := Aside0.mk hy273; clear hy273; obtain ⟨t276, A10, H⟩ := bi H; (try dsimp only at H)
       by_cases c11 : t276 = true
       ·subst c11; rw [if_pos rfl] at H; obtain ⟨t277, A12, H⟩ := bi H; (try dsimp only at H); have H' := Aside0.mk H; clear H; obtain ⟨i013, hi013, _, hsz13, _⟩ := info_parts info3; obtain ⟨hcut13, hA13, hC13⟩ := print_take_of (P := Tryz.prog) (Value.int .i64) 0 31 3 .i64 Tryz.underlying31 hi013 hsz13 A0 c0 l0 x4_1 (od) (od) HC0.out; have HR265 := Aside0.mk (Kd.C_of_reads (h1 := fun _ => rfl) (hA13 _ (Kd.reads_of_C HR0.out))); have HC265 := Aside0.mk hC13; clear hA13 hC13 hi013 hsz13; go_wp2_with (first | ((with_reducible refine gate_callee (f := 97) rfl ?_); refine goesL_ (some 15) rfl rfl Tryz.func97 (by kernel_rfl) rfl #[.slice A0 (l0.take (x4_1 : Int).toNat).length c0] rfl (by (try simp only [List.map_toArray, List.map_cons, List.map_nil]); first | done | (rw [show (l0.take (x4_1 : Int).toNat).length = x4_1.toNat from (by rw [List.length_take]; have h_ : (x4_1 : Int) ≤ (l0.length : Int) := od; omega)] <;> rfl) | rfl | (simp only [List.length_drop, List.length_take]; rfl)) ?_; (with_reducible refine (spec_l1Own.calls _ _ (l0.take (x4_1 : Int).toNat) t266 _ ?side1 ?side2 A5.out).mono ?_); (case side1 => exact cw (Kd.C_below HR265.out HB.out)); (case side2 => exact HC265.out); rintro e w14 ⟨v267, rfl, ho0, hb⟩; refine ⟨_, rfl, ?_⟩; replace HO_3 := Aside0.mk (Kd.N_elder' (rN HO_3.out) (Kd.R_base ho0) hb); have HO268 := Aside0.mk (Kd.R_lower (Kd.R_newM (M := fun k_ => (w.heap.size ≤ k_)) ho0 (below_size (bl HB.out)) (fun k_ h_ => h_)) (below_size (bl HB.out))); replace HB := bst HB hb) | ((with_reducible refine gate_builtin (b := .append) (xs := #[.tmp 15, .tmp 18]) rfl ?_); at_builtin; refine Kd.R_append (Kd.int .i64) (w0 := w) w.heap.size rfl (.tmp 15) (.tmp 18) 31 3 (.int .i64 0) 8 rfl Tryz.underlying31 info3 rfl (by decide) (by omega) v267 t266 (l0.length : Int) [.int .i64 (l0.length : Int)] (fun k_ => (w.heap.size ≤ k_)) (fun _ => False) rfl rfl ?aP (fun _ hk => hk.elim) ?aF ?aO ?aB ?aS ?aL ?_; (case aP => exact rfl); (case aB => exact (bl HB.out)); (case aF => exact (fun k_ hk => (Nat.le_trans (below_size (bl HB.out)) hk))); (case aO => exact (rR (Kd.R_mono HO268.out (fun _ hk => hk.1)))); (case aS => exact (below_size (bl HB.out))); (case aL => have := LMc6.out; omega); intro v270 w15 ho hb hg hat; rw [← Ny269.out] at ho; replace HO_3 := Aside0.mk (Kd.N_afterv (ok := (fun k_ => (w.heap.size ≤ k_))) (rN HO_3.out) hg hat); replace HB := Aside0.mk (hb); have HO271 := Aside0.mk (ho); clear HO268; clear ho hb hg hat; obtain ⟨i016, hi016, _, hsz16, _⟩ := info_parts info3; obtain ⟨A16, hcut16, hA16, hC16⟩ := print_drop_of (P := Tryz.prog) (Value.int .i64) 0 31 3 .i64 Tryz.underlying31 hi016 hsz16 A0 c0 l0 x4_1 (od) (od) HC0.out; have HR272 := Aside0.mk (Kd.C_of_reads (h1 := fun _ => rfl) (hA16 _ (Kd.reads_of_C HR0.out))); have HC272 := Aside0.mk hC16; clear hA16 hC16 hi016 hsz16) | ((with_reducible refine gate_builtin (b := .append) (xs := #[.tmp 20, .tmp 23]) rfl ?_); at_builtin; refine Kd.R_append_rows (Kd.int .i64) (w0 := w) w.heap.size rfl (.tmp 20) (.tmp 23) 31 3 (.int .i64 0) 8 rfl Tryz.underlying31 info3 rfl (by decide) (by omega) v270 y269 (l0.drop (x4_1 : Int).toNat) _ _ _ (fun k_ => (w.heap.size ≤ k_)) (fun _ => False) rfl rfl ?aO ?aR (fun _ _ h => h) (fun _ h => h.elim) ?aF ?aB ?aS ?aL ?_; (case aR => first | (rw [← show (l0.drop (x4_1 : Int).toNat).length = (l0.length - x4_1.toNat) from List.length_drop]; exact cw (Kd.C_below HR272.out HB.out)) | (exact cw (Kd.C_below HR272.out HB.out))); (case aB => exact (bl HB.out)); (case aF => exact (fun k_ hk => (Nat.le_trans (below_size (bl HB.out)) hk))); (case aO => exact (rR HO271.out)); (case aS => exact (below_size (bl HB.out))); (case aL => have := LMc9.out; have hlx_ := (show (l0.drop (x4_1 : Int).toNat).length = (l0.length - x4_1.toNat) from List.length_drop); omega); intro v274 w17 ho hb hg hat; rw [← Ny273.out] at ho; replace HO_3 := Aside0.mk (Kd.N_afterv (ok := (fun k_ => (w.heap.size ≤ k_))) (rN HO_3.out) hg hat); replace HB := Aside0.mk (hb); have HO275 := Aside0.mk (ho); clear HO271; clear ho hb hg hat; obtain ⟨Ao18, co18, eo18⟩ := Kd.R_slice HO275.out; subst eo18) | ((with_reducible refine gate_callee (f := 77) rfl ?_); refine goesL_ (some 26) rfl rfl Tryz.func77 (by kernel_rfl) rfl #[.slice Ao18 y273.length co18] rfl mp ?_; (with_reducible refine (spec_spIs.calls k1 _ _ y273 true _ ?side1 ?side2 A10.out).mono ?_); (case side1 => exact cw ((Kd.R_reads' HO275.out).2.2)); (case side2 => exact (Kd.R_reads' HO275.out).2.1); rintro e w19 ⟨rfl, hb⟩; refine ⟨_, rfl, ?_⟩; replace HO_3 := Aside0.mk (Kd.N_below (rN HO_3.out) hb); replace HO275 := Aside0.mk (Kd.R_below (rR HO275.out) hb); replace HB := bst HB hb; obtain ⟨Ao20, co20, eo20⟩ := Kd.N_slice HO_3.out; subst eo20) | ((with_reducible refine gate_callee (f := 50) rfl ?_); refine goesL_ (some 29) rfl rfl Tryz.func50 (by kernel_rfl) rfl #[.slice Ao20 x3_1.length co20, .slice Ao18 y273.length co18] rfl mp ?_; (with_reducible refine (spec_spPut.calls k1 (fun k_ => ((w.heap.size ≤ k_) ∧ some k_ ≠ (.slice Ao18 y273.length co18 : Value).ownBlock)) _ _ x3_1 (fun k_ => some k_ = (.slice Ao18 y273.length co18 : Value).ownBlock) _ _ y273 t277 _ ?side1 ?side2 A12.out).mono ?_); (case side1 => exact Kd.N_V (HO_3.out)); (case side2 => exact Kd.R_V (Kd.R_tight rfl (Kd.R_apart' (HO275.out) (Kd.N_typed HO_3.out) (by decide)))); rintro e w21 ⟨v278, rfl, ho0, hb⟩; refine ⟨_, rfl, ?_⟩; have HO279 := Aside0.mk (Kd.N_lower (Kd.N_mono (ok' := fun k_ => (w.heap.size ≤ k_)) ho0 (fun k_ hk_ => Or.elim hk_ (fun hs_ => Or.elim hs_ (fun hs_ => hs_.1) (fun hs_ => ((Kd.R_apart' (HO275.out) (Kd.N_typed HO_3.out) (by decide)).1 k_ hs_.symm).1)) (fun hn_ => (Nat.le_trans (below_size (bl HB.out)) hn_)))) (below_size (bl HB.out))); replace HO_3 := Aside0.mk (Kd.N_elder' (rN HO_3.out) (Kd.N_base ho0) hb); replace HO275 := Aside0.mk (Kd.R_below (rR HO275.out) hb); replace HB := bst HB hb))
        go_roundg k1
        case measure => have := HK1.out; omega
        case rel => exact ⟨(t277), (wrap64 (x4_1 + 1)), (sr2), H', ⟨by have := HK1.out; omega⟩, ⟨rN HO279.out⟩, ⟨bl HB.out⟩⟩
       replace c11 := Bool.eq_false_iff.mpr c11; subst c11; rw [if_neg (show ¬ (false = true) by decide)] at H; have H' := Aside0.mk H; clear H; obtain ⟨i022, hi022, _, hsz22, _⟩ := info_parts info3; obtain ⟨hcut22, hA22, hC22⟩ := print_take_of (P := Tryz.prog) (Value.int .i64) 0 31 3 .i64 Tryz.underlying31 hi022 hsz22 A0 c0 l0 x4_1 (od) (od) HC0.out; have HR265 := Aside0.mk (Kd.C_of_reads (h1 := fun _ => rfl) (hA22 _ (Kd.reads_of_C HR0.out))); have HC265 := Aside0.mk hC22; clear hA22 hC22 hi022 hsz22; go_wp2_with (first | ((with_reducible refine gate_callee (f := 97) rfl ?_); refine goesL_ (some 15) rfl rfl Tryz.func97 (by kernel_rfl) rfl #[.slice A0 (l0.take (x4_1 : Int).toNat).length c0] rfl (by (try simp only [List.map_toArray, List.map_cons, List.map_nil]); first | done | (rw [show (l0.take (x4_1 : Int).toNat).length = x4_1.toNat from (by rw [List.length_take]; have h_ : (x4_1 : Int) ≤ (l0.length : Int) := od; omega)] <;> rfl) | rfl | (simp only [List.length_drop, List.length_take]; rfl)) ?_; (with_reducible refine (spec_l1Own.calls _ _ (l0.take (x4_1 : Int).toNat) t266 _ ?side1 ?side2 A5.out).mono ?_); (case side1 => exact cw (Kd.C_below HR265.out HB.out)); (case side2 => exact HC265.out); rintro e w23 ⟨v267, rfl, ho0, hb⟩; refine ⟨_, rfl, ?_⟩; replace HO_3 := Aside0.mk (Kd.N_elder' (rN HO_3.out) (Kd.R_base ho0) hb); have HO268 := Aside0.mk (Kd.R_lower (Kd.R_newM (M := fun k_ => (w.heap.size ≤ k_)) ho0 (below_size (bl HB.out)) (fun k_ h_ => h_)) (below_size (bl HB.out))); replace HB := bst HB hb) | ((with_reducible refine gate_builtin (b := .append) (xs := #[.tmp 15, .tmp 18]) rfl ?_); at_builtin; refine Kd.R_append (Kd.int .i64) (w0 := w) w.heap.size rfl (.tmp 15) (.tmp 18) 31 3 (.int .i64 0) 8 rfl Tryz.underlying31 info3 rfl (by decide) (by omega) v267 t266 (l0.length : Int) [.int .i64 (l0.length : Int)] (fun k_ => (w.heap.size ≤ k_)) (fun _ => False) rfl rfl ?aP (fun _ hk => hk.elim) ?aF ?aO ?aB ?aS ?aL ?_; (case aP => exact rfl); (case aB => exact (bl HB.out)); (case aF => exact (fun k_ hk => (Nat.le_trans (below_size (bl HB.out)) hk))); (case aO => exact (rR (Kd.R_mono HO268.out (fun _ hk => hk.1)))); (case aS => exact (below_size (bl HB.out))); (case aL => have := LMc6.out; omega); intro v270 w24 ho hb hg hat; rw [← Ny269.out] at ho; replace HO_3 := Aside0.mk (Kd.N_afterv (ok := (fun k_ => (w.heap.size ≤ k_))) (rN HO_3.out) hg hat); replace HB := Aside0.mk (hb); have HO271 := Aside0.mk (ho); clear HO268; clear ho hb hg hat; obtain ⟨i025, hi025, _, hsz25, _⟩ := info_parts info3; obtain ⟨A25, hcut25, hA25, hC25⟩ := print_drop_of (P := Tryz.prog) (Value.int .i64) 0 31 3 .i64 Tryz.underlying31 hi025 hsz25 A0 c0 l0 x4_1 (od) (od) HC0.out; have HR272 := Aside0.mk (Kd.C_of_reads (h1 := fun _ => rfl) (hA25 _ (Kd.reads_of_C HR0.out))); have HC272 := Aside0.mk hC25; clear hA25 hC25 hi025 hsz25) | ((with_reducible refine gate_builtin (b := .append) (xs := #[.tmp 20, .tmp 23]) rfl ?_); at_builtin; refine Kd.R_append_rows (Kd.int .i64) (w0 := w) w.heap.size rfl (.tmp 20) (.tmp 23) 31 3 (.int .i64 0) 8 rfl Tryz.underlying31 info3 rfl (by decide) (by omega) v270 y269 (l0.drop (x4_1 : Int).toNat) _ _ _ (fun k_ => (w.heap.size ≤ k_)) (fun _ => False) rfl rfl ?aO ?aR (fun _ _ h => h) (fun _ h => h.elim) ?aF ?aB ?aS ?aL ?_; (case aR => first | (rw [← show (l0.drop (x4_1 : Int).toNat).length = (l0.length - x4_1.toNat) from List.length_drop]; exact cw (Kd.C_below HR272.out HB.out)) | (exact cw (Kd.C_below HR272.out HB.out))); (case aB => exact (bl HB.out)); (case aF => exact (fun k_ hk => (Nat.le_trans (below_size (bl HB.out)) hk))); (case aO => exact (rR HO271.out)); (case aS => exact (below_size (bl HB.out))); (case aL => have := LMc9.out; have hlx_ := (show (l0.drop (x4_1 : Int).toNat).length = (l0.length - x4_1.toNat) from List.length_drop); omega); intro v274 w26 ho hb hg hat; rw [← Ny273.out] at ho; replace HO_3 := Aside0.mk (Kd.N_afterv (ok := (fun k_ => (w.heap.size ≤ k_))) (rN HO_3.out) hg hat); replace HB := Aside0.mk (hb); have HO275 := Aside0.mk (ho); clear HO271; clear ho hb hg hat; obtain ⟨Ao27, co27, eo27⟩ := Kd.R_slice HO275.out; subst eo27) | ((with_reducible refine gate_callee (f := 77) rfl ?_); refine goesL_ (some 26) rfl rfl Tryz.func77 (by kernel_rfl) rfl #[.slice Ao27 y273.length co27] rfl mp ?_; (with_reducible refine (spec_spIs.calls k1 _ _ y273 false _ ?side1 ?side2 A10.out).mono ?_); (case side1 => exact cw ((Kd.R_reads' HO275.out).2.2)); (case side2 => exact (Kd.R_reads' HO275.out).2.1); rintro e w28 ⟨rfl, hb⟩; refine ⟨_, rfl, ?_⟩; replace HO_3 := Aside0.mk (Kd.N_below (rN HO_3.out) hb); replace HO275 := Aside0.mk (Kd.R_below (rR HO275.out) hb); replace HB := bst HB hb))
       go_roundg k1
       case measure => have := HK1.out; omega
       case rel => exact ⟨(x3_1), (wrap64 (x4_1 + 1)), (sr2), H', ⟨by have := HK1.out; omega⟩, ⟨rN (Kd.N_mono HO_3.out (fun _ hk => hk.1))⟩, ⟨bl HB.out⟩⟩
      rw [if_neg c9] at H; exact absurd H (by simp)
     rw [if_neg c6] at H; exact absurd H (by simp)
    rw [if_neg c3] at H; exact absurd H (by simp)
   rw [if_neg c2] at H; have c2b0 := decide_eq_false c2; clear c2; obtain rfl := Option.some.inj H; go_wp2; go_ret; exact ⟨_, sr, rN HO_3.out, bl HB.out⟩
/-! ### spec_spTop: function 49 -/
mutual
def spec_spTop.l0 : Nat → Int → List (List Int) → Int → Option ((List (List Int)))
 | 0, _, _, _ => none
 | k + 1, x0, x3, x4 => if x4 < x0 then (spec_spTop.l1 k x0 x4 ([] : List (List Int)) x3 (x3.length : Int) 0) else (some x3)
def spec_spTop.l1 : Nat → Int → Int → List (List Int) → List (List Int) → Int → Int → Option ((List (List Int)))
 | 0, _, _, _, _, _, _ => none
 | k + 1, x0, x4, x5, x17, x18, x19 => if x19 < x18 then (if 0 ≤ x19 then (if x19 < (x17.length : Int) then ((spec_spAdded.f k (rd_L3 x17 x19)).bind fun t287 => (spec_spTop.l2 k x0 x4 x5 x17 x18 x19 t287 (t287.length : Int) 0)) else (none)) else (none)) else (spec_spTop.l0 k x0 x5 (wrap64 (x4 + 1)))
def spec_spTop.l2 : Nat → Int → Int → List (List Int) → List (List Int) → Int → Int → List (List Int) → Int → Int → Option ((List (List Int)))
 | 0, _, _, _, _, _, _, _, _, _ => none
 | k + 1, x0, x4, x5, x17, x18, x19, x24, x25, x26 => if x26 < x25 then (if 0 ≤ x26 then (if x26 < (x24.length : Int) then (if 0 < ((rd_L3 x24 x26).length : Int) then (if (rd (rd_L3 x24 x26) 0) = 0 then (if x5.length < 5864062014805 then (spec_spTop.l2 k x0 x4 (x5 ++ [rd_L3 x24 x26]) x17 x18 x19 x24 x25 (wrap64 (x26 + 1))) else (none)) else (spec_spTop.l2 k x0 x4 x5 x17 x18 x19 x24 x25 (wrap64 (x26 + 1)))) else (none)) else (none)) else (none)) else (spec_spTop.l1 k x0 x4 x5 x17 x18 (wrap64 (x19 + 1)))
end
def spec_spTop.f (k : Nat) (a0 : Int) : Option ((List (List Int))) := spec_spTop.l0 k a0 (([(([0] : List Int))] : List (List Int))) 1
theorem spec_spTop.mono_l : ∀ k, (∀ y0 y1 y2, LeO (spec_spTop.l0 k y0 y1 y2) (spec_spTop.l0 (k + 1) y0 y1 y2)) ∧ (∀ y0 y1 y2 y3 y4 y5, LeO (spec_spTop.l1 k y0 y1 y2 y3 y4 y5) (spec_spTop.l1 (k + 1) y0 y1 y2 y3 y4 y5)) ∧ (∀ y0 y1 y2 y3 y4 y5 y6 y7 y8, LeO (spec_spTop.l2 k y0 y1 y2 y3 y4 y5 y6 y7 y8) (spec_spTop.l2 (k + 1) y0 y1 y2 y3 y4 y5 y6 y7 y8))
 | 0 => ⟨fun _ _ _ r h => by simp [spec_spTop.l0] at h, fun _ _ _ _ _ _ r h => by simp [spec_spTop.l1] at h, fun _ _ _ _ _ _ _ _ _ r h => by simp [spec_spTop.l2] at h⟩
 | k + 1 => by
  obtain ⟨ih0, ih1, ih2⟩ := spec_spTop.mono_l k
  refine ⟨?_, ?_, ?_⟩
  ·intro y0 y1 y2
   unfold spec_spTop.l0
   repeat' first
   | (with_reducible exact ih0 _ _ _)
   | (with_reducible exact ih1 _ _ _ _ _ _)
   | (with_reducible exact ih2 _ _ _ _ _ _ _ _ _)
   | (with_reducible exact spec_spAdded.mono _ _)
   | (with_reducible exact LeO.refl _)
   | (with_reducible exact LeO.none _)
   | (with_reducible refine LeO.ite ?_ ?_)
   | (with_reducible refine LeO.bind ?_ (fun _ => ?_))
   | exact ih0 _ _ _
   | exact ih1 _ _ _ _ _ _
   | exact ih2 _ _ _ _ _ _ _ _ _
   | exact spec_spAdded.mono _ _
   | exact LeO.none _
   | refine LeO.ite ?_ ?_
   | refine LeO.bind ?_ (fun _ => ?_)
  ·intro y0 y1 y2 y3 y4 y5
   unfold spec_spTop.l1
   repeat' first
   | (with_reducible exact ih0 _ _ _)
   | (with_reducible exact ih1 _ _ _ _ _ _)
   | (with_reducible exact ih2 _ _ _ _ _ _ _ _ _)
   | (with_reducible exact spec_spAdded.mono _ _)
   | (with_reducible exact LeO.refl _)
   | (with_reducible exact LeO.none _)
   | (with_reducible refine LeO.ite ?_ ?_)
   | (with_reducible refine LeO.bind ?_ (fun _ => ?_))
   | exact ih0 _ _ _
   | exact ih1 _ _ _ _ _ _
   | exact ih2 _ _ _ _ _ _ _ _ _
   | exact spec_spAdded.mono _ _
   | exact LeO.none _
   | refine LeO.ite ?_ ?_
   | refine LeO.bind ?_ (fun _ => ?_)
  ·intro y0 y1 y2 y3 y4 y5 y6 y7 y8
   unfold spec_spTop.l2
   repeat' first
   | (with_reducible exact ih0 _ _ _)
   | (with_reducible exact ih1 _ _ _ _ _ _)
   | (with_reducible exact ih2 _ _ _ _ _ _ _ _ _)
   | (with_reducible exact spec_spAdded.mono _ _)
   | (with_reducible exact LeO.refl _)
   | (with_reducible exact LeO.none _)
   | (with_reducible refine LeO.ite ?_ ?_)
   | (with_reducible refine LeO.bind ?_ (fun _ => ?_))
   | exact ih0 _ _ _
   | exact ih1 _ _ _ _ _ _
   | exact ih2 _ _ _ _ _ _ _ _ _
   | exact spec_spAdded.mono _ _
   | exact LeO.none _
   | refine LeO.ite ?_ ?_
   | refine LeO.bind ?_ (fun _ => ?_)
theorem spec_spTop.mono : ∀ a0 k, LeO (spec_spTop.f k a0) (spec_spTop.f (k + 1) a0) := by
 intro a0 k; obtain ⟨ih0, ih1, ih2⟩ := spec_spTop.mono_l k; unfold spec_spTop.f
 repeat' first
   | (with_reducible exact ih0 _ _ _)
   | (with_reducible exact ih1 _ _ _ _ _ _)
   | (with_reducible exact ih2 _ _ _ _ _ _ _ _ _)
   | (with_reducible exact spec_spAdded.mono _ _)
   | (with_reducible exact LeO.refl _)
   | (with_reducible exact LeO.none _)
   | (with_reducible refine LeO.ite ?_ ?_)
   | (with_reducible refine LeO.bind ?_ (fun _ => ?_))
   | exact ih0 _ _ _
   | exact ih1 _ _ _ _ _ _
   | exact ih2 _ _ _ _ _ _ _ _ _
   | exact spec_spAdded.mono _ _
   | exact LeO.none _
   | refine LeO.ite ?_ ?_
   | refine LeO.bind ?_ (fun _ => ?_)
theorem spec_spTop.calls (k : Nat) (a0 : Int) (r : List (List Int)) (w : World) (h : spec_spTop.f k a0 = some r) :
  Calls Tryz.prog 49 #[.int .i64 a0] w fun e w' => ∃ v0_ : Value, e = .returned (v0_) ∧ Kd.N (Kd.slice 3 (Kd.int .i64)) 31 w' w.heap.size (fun k_ => (w.heap.size ≤ k_)) v0_ r ∧ Below w.heap.size w w' := by
 have HB := Aside0.mk (Below.refl w.heap.size w); have H : (spec_spTop.l0 k a0 (([(([0] : List Int))] : List (List Int))) 1) = some r := h; clear h; obtain ⟨y280, hy280⟩ := yy (([0] : List Int))
 (try rw [Option.bind_some] at H); (try dsimp only at H); rw [← hy280] at H
 have Ny280 := Aside0.mk hy280; clear hy280; obtain ⟨y283, hy283⟩ := yy (([y280] : List (List Int)))
 (try rw [Option.bind_some] at H); (try dsimp only at H); rw [← hy283] at H
 have Ny283 := Aside0.mk hy283; clear hy283; have H' := Aside0.mk H; clear H; go_enter Tryz.func49, Tryz.ntmps49; go_wp2_with (first | ((with_reducible refine gate_dst (N := 10) rfl ?_); refine Kd.R_lit (Kd.int .i64) _ 3 ?hg (N := 10) ?hd (xs := ([0] : List Int)) (inner := [.int .i64 0]) (ok := fun _ => True) (okp := fun _ => True) ?hr ?hp (fun _ hk => hk) trivial (Below.refl _ _) (Nat.le_refl _) (by simp) ?_; (case hd => rfl); (case hg => rfl); (case hr => first | (go_simp; done) | (go_simp; rfl)); (case hp => exact (Reps.one (show Kd.M (Kd.int .i64) _ _ _ 0 [.int .i64 0] from rfl) (Reps.none _ _))); intro v281 w2 ho3 hb hg_ hnew_; clear hg_ hnew_; (first | rw [← Ny280.out] at ho3 | (simp only [Int.reduceToNat] at ho3; rw [← Ny280.out] at ho3)); have HO282 := Aside0.mk (Kd.R_lower (Kd.R_newM (M := fun k_ => (w.heap.size ≤ k_)) ho3 (below_size (bl HB.out)) (fun k_ h_ => h_)) (below_size (bl HB.out))); replace HB := bst HB hb; clear hb ho3; obtain ⟨Ao4, co4, eo4⟩ := Kd.R_slice HO282.out; subst eo4) | ((with_reducible refine gate_dst (N := 11) rfl ?_); refine Kd.N_lit (Kd.slice 3 (Kd.int .i64)) _ 31 ?hg (N' := 11) ?hd (xs := ([y280] : List (List Int))) (inner := [.slice Ao4 y280.length co4]) (ok := (fun k_ => (w.heap.size ≤ k_))) (okp := (fun k_ => (w.heap.size ≤ k_))) ?hr ?hp (fun _ hk => hk) ((show ∀ k_, w2.heap.size ≤ k_ → (fun k_ => (w.heap.size ≤ k_)) k_ from fun k_ hk => (Nat.le_trans (below_size (bl HB.out)) hk)) _ (Nat.le_refl _)) (Below.refl _ _) (Nat.le_refl _) (by simp) ?_; (case hd => rfl); (case hg => rfl); (case hr => first | (go_simp; done) | (go_simp; rfl)); (case hp => exact (Reps.one (show Kd.FK (Kd.slice 3 (Kd.int .i64)) _ _ y280 [.slice Ao4 y280.length co4] from (Kd.FK_slice_mk (Kd.R_reads' (Kd.R_mono (ok' := (fun k_ => (w.heap.size ≤ k_))) (HO282.out) (fun k_ hk => hk.1))).2.1 (Kd.R_F (Kd.R_mono (ok' := (fun k_ => (w.heap.size ≤ k_))) (HO282.out) (fun k_ hk => hk.1))))) (Reps.none _ _))); intro v284 w5 ho6 hb hg_ hnew_; clear hg_ hnew_; (first | rw [← Ny283.out] at ho6 | (simp only [Int.reduceToNat] at ho6; rw [← Ny283.out] at ho6)); have HO285 := Aside0.mk (Kd.N_lower ho6 (below_size (bl HB.out))); replace HB := bst HB hb; clear HO282; clear hb ho6))
 go_loopg [3, 4] k (fun kq v3 v4 w' => ∃ (x3_1 : List (List Int)) (x4_1 : Int), v4 = .int .i64 x4_1 ∧ Aside0 (spec_spTop.l0 kq a0 x3_1 x4_1 = some r) ∧ Aside0 (kq ≤ k) ∧ Aside0 (Kd.N (Kd.slice 3 (Kd.int .i64)) 31 w' w.heap.size (fun k_ => (w.heap.size ≤ k_)) v3 x3_1) ∧ Aside0 (Below w.heap.size w w'))
 case atStart => exact ⟨(y283), (1), (sr2), H', ⟨Nat.le_refl _⟩, ⟨rN HO285.out⟩, ⟨bl HB.out⟩⟩
 case round =>
  clear H'; obtain ⟨x3_1, x4_1, rfl, HA, HK1, HO_3, HB⟩ := hrel
  cases gk with
  | zero => exact absurd HA.out (by simp [spec_spTop.l0])
  | succ k1 =>
   have H := HA.out; clear HA; simp only [spec_spTop.l0] at H
   by_cases c7 : x4_1 < a0
   ·rw [if_pos c7] at H; have c7b0 := decide_eq_true c7; clear c7; have H' := Aside0.mk H; clear H; obtain ⟨Ao8, co8, eo8⟩ := Kd.N_slice HO_3.out; subst eo8; go_wp2
    go_loopg [5, 19] k1 (fun kq v5 v19 w' => ∃ (x5_2 : List (List Int)) (x19_2 : Int), v19 = .int .i64 x19_2 ∧ Aside0 (spec_spTop.l1 kq a0 x4_1 x5_2 x3_1 (x3_1.length : Int) x19_2 = some r) ∧ Aside0 (kq ≤ k1) ∧ Aside0 (Kd.N (Kd.slice 3 (Kd.int .i64)) 31 w' w.heap.size (fun k_ => (w.heap.size ≤ k_) ∧ some k_ ≠ ((.slice Ao8 x3_1.length co8) : Value).ownBlock) v5 x5_2) ∧ Aside0 (Kd.N (Kd.slice 3 (Kd.int .i64)) 31 w' w.heap.size (fun k_ => (w.heap.size ≤ k_) ∧ some k_ ≠ (v5 : Value).ownBlock) (.slice Ao8 x3_1.length co8) x3_1) ∧ Aside0 (Below w.heap.size w w'))
    case atStart => exact ⟨(([] : List (List Int))), (0), (sr2), H', ⟨Nat.le_refl _⟩, ⟨by first | exact Kd.S_nil _ _ _ _ _ | exact Kd.N_nil _ _ _ _ _ | exact Kd.V_nil _ _ _ _ _ | exact Kd.Q_nil _ _ _ _ _ | exact Kd.R_nil _ _ _ _ _⟩, ⟨rN (Kd.N_mono HO_3.out (fun _ hk => ⟨hk, (by simp [Value.ownBlock])⟩))⟩, ⟨bl HB.out⟩⟩
    case round =>
     clear H'; obtain ⟨x5_2, x19_2, rfl, HA, HK2, HO_5, HO_17, HB⟩ := hrel
     cases gk with
     | zero => exact absurd HA.out (by simp [spec_spTop.l1])
     | succ k2 =>
      have H := HA.out; clear HA; simp only [spec_spTop.l1] at H
      by_cases c9 : x19_2 < (x3_1.length : Int)
      ·rw [if_pos c9] at H; have c9b0 := decide_eq_true c9; clear c9
       by_cases c10 : 0 ≤ x19_2
       ·rw [if_pos c10] at H; have c10b0 := decide_eq_true c10; clear c10
        by_cases c11 : x19_2 < (x3_1.length : Int)
        ·rw [if_pos c11] at H; have c11b0 := decide_eq_true c11; clear c11; obtain ⟨t287, A12, H⟩ := bi H; (try dsimp only at H); have H' := Aside0.mk H; clear H; have p286 : 0 ≤ (x19_2 : Int) := od; have q286 : x19_2 < (x3_1.length : Int) := od; obtain ⟨ad286, A286_0, c286_0, e286, hx286_0, hl286_0, hi286_0⟩ := at_L3 (Kd.N_reads' HO_17.out).2.2 x19_2 p286 q286; cases e286; obtain ⟨ce286, hce286, hMe286, hcc286⟩ := Kd.N_get HO_17.out [] x19_2 p286 (by first | exact q286 | exact od | (have e_ := (Kd.N_reads' HO_17.out).1; omega)); obtain ⟨ua286_0, uc286_0, rfl, ul286_0, ge286_0⟩ := Kd.FK_slice_open hMe286; have hv286_0 := hcc286 0 _ rfl; rw [Nat.add_zero, show ((Kd.slice 3 (Kd.int .i64))).sz = 1 from rfl, Nat.mul_one] at hv286_0; replace hv286_0 := Option.some.inj (hv286_0.symm.trans hx286_0); (injection hv286_0 with hva_ hvn_ hvc_); rw [hva_] at ge286_0; rw [hvc_] at ul286_0; have HL286_0 := Aside0.mk (show Kd.V (Kd.int .i64) 3 _ w.heap.size _ _ (rd_L3 x3_1 x19_2) from Kd.V_mk ul286_0 ge286_0); clear hva_ hvn_ hvc_ ge286_0 ul286_0; clear hcc286 hce286; have HR286_0 := Aside0.mk hi286_0; have HC286_0 := Aside0.mk hl286_0; clear hi286_0 hl286_0; replace p286 := eq_true p286; replace q286 := eq_true q286; go_wp2_with (first | (go_at_call 88; (with_reducible refine (spec_spAdded.calls k2 _ _ (rd_L3 x3_1 x19_2) t287 _ ?side1 HC286_0.out A12.out).mono ?_); (case side1 => repeat (first | exact (by repeat (first | (with_reducible exact HR286_0.out) | (with_reducible refine Kd.C_alloc ?_ _) | (with_reducible refine Kd.C_drewN ?_ _) | (with_reducible refine Kd.C_drew ?_) | exact HR286_0.out)) | (with_reducible refine Kd.C_alloc ?_ _) | (with_reducible refine Kd.C_drewN ?_ _) | (with_reducible refine Kd.C_drew ?_))); rintro e w13 ⟨v288, rfl, ho0, hb⟩; replace HL286_0 := Aside0.mk (Kd.V_elder' (rV HL286_0.out) (Kd.N_base ho0) hb); have HO289 := Aside0.mk (Kd.N_lower (Kd.N_mono (ok' := fun k_ => (w.heap.size ≤ k_) ∧ some k_ ≠ (u5 : Value).ownBlock ∧ some k_ ≠ (.slice (some ad286) x3_1.length co8 : Value).ownBlock) ho0 (fun k_ hk_ => ⟨(Nat.le_trans (below_size (bl HB.out)) hk_), (Kd.fresh' (Kd.N_lt (rN HO_5.out)) k_ hk_), (Kd.fresh' (Kd.N_lt (rN HO_17.out)) k_ hk_)⟩)) (below_size (bl HB.out))); replace HO_5 := Aside0.mk (Kd.N_elder' (rN HO_5.out) (Kd.N_base ho0) hb); replace HO_17 := Aside0.mk (Kd.N_elder' (rN HO_17.out) (Kd.N_base ho0) hb); replace HR286_0 := Aside0.mk (Kd.C_below (by repeat (first | (with_reducible exact HR286_0.out) | (with_reducible refine Kd.C_alloc ?_ _) | (with_reducible refine Kd.C_drewN ?_ _) | (with_reducible refine Kd.C_drew ?_) | exact HR286_0.out)) hb); replace HB := bst HB hb; obtain ⟨Ao14, co14, eo14⟩ := Kd.N_slice HO289.out; subst eo14))
         go_loopg [5, 26] k2 (fun kq v5 v26 w' => ∃ (x5_3 : List (List Int)) (x26_3 : Int), v26 = .int .i64 x26_3 ∧ Aside0 (spec_spTop.l2 kq a0 x4_1 x5_3 x3_1 (x3_1.length : Int) x19_2 t287 (t287.length : Int) x26_3 = some r) ∧ Aside0 (kq ≤ k2) ∧ Aside0 (Kd.N (Kd.slice 3 (Kd.int .i64)) 31 w' w.heap.size (fun k_ => (w.heap.size ≤ k_) ∧ some k_ ≠ ((.slice (some ad286) x3_1.length co8) : Value).ownBlock ∧ some k_ ≠ ((.slice Ao14 t287.length co14) : Value).ownBlock) v5 x5_3) ∧ Aside0 (Kd.N (Kd.slice 3 (Kd.int .i64)) 31 w' w.heap.size (fun k_ => (w.heap.size ≤ k_) ∧ some k_ ≠ (v5 : Value).ownBlock ∧ some k_ ≠ ((.slice Ao14 t287.length co14) : Value).ownBlock) (.slice (some ad286) x3_1.length co8) x3_1) ∧ Aside0 (Kd.N (Kd.slice 3 (Kd.int .i64)) 31 w' w.heap.size (fun k_ => (w.heap.size ≤ k_) ∧ some k_ ≠ (v5 : Value).ownBlock ∧ some k_ ≠ ((.slice (some ad286) x3_1.length co8) : Value).ownBlock) (.slice Ao14 t287.length co14) t287) ∧ Aside0 (Below w.heap.size w w'))
         case atStart => exact ⟨(x5_2), (0), (sr2), H', ⟨Nat.le_refl _⟩, ⟨rN (Kd.N_mono HO_5.out (fun _ hk => ⟨hk.1.1, ⟨hk.1.2, hk.2⟩⟩))⟩, ⟨rN (Kd.N_mono HO_17.out (fun _ hk => ⟨hk.1.1, ⟨hk.1.2, hk.2⟩⟩))⟩, ⟨rN HO289.out⟩, ⟨bl HB.out⟩⟩
         case round =>
          clear H'; obtain ⟨x5_3, x26_3, rfl, HA, HK3, HO_5, HO_17, HO_24, HB⟩ := hrel
          cases gk with
          | zero => exact absurd HA.out (by simp [spec_spTop.l2])
          | succ k3 =>
           have H := HA.out; clear HA; simp only [spec_spTop.l2] at H
           by_cases c15 : x26_3 < (t287.length : Int)
           ·rw [if_pos c15] at H; have c15b0 := decide_eq_true c15; clear c15
            by_cases c16 : 0 ≤ x26_3
            ·rw [if_pos c16] at H; have c16b0 := decide_eq_true c16; clear c16
             by_cases c17 : x26_3 < (t287.length : Int)
             ·rw [if_pos c17] at H; have c17b0 := decide_eq_true c17; clear c17
              by_cases c18 : 0 < ((rd_L3 t287 x26_3).length : Int)
              ·rw [if_pos c18] at H; have c18b0 := decide_eq_true c18; have c18b1 : decide (0 < (rd_L3 t287 x26_3).length) = true := decide_eq_true (by omega); clear c18
               by_cases c19 : (rd (rd_L3 t287 x26_3) 0) = 0
               ·rw [if_pos c19] at H; have c19b0 := beq_iff_eq.mpr c19; have c19b1 := bne_eq_false_iff_eq.mpr c19; clear c19
                by_cases c20 : x5_3.length < 5864062014805
                ·rw [if_pos c20] at H; have LMc20 := Aside0.mk c20; clear c20; obtain ⟨y292, hy292⟩ := yy (x5_3 ++ [rd_L3 t287 x26_3])
                 (try rw [Option.bind_some] at H); (try dsimp only at H); rw [← hy292] at H
                 have Ny292 := Aside0.mk hy292; clear hy292; have H' := Aside0.mk H; clear H; have p290 : 0 ≤ (x26_3 : Int) := od; have q290 : x26_3 < (t287.length : Int) := od; obtain ⟨ad290, A290_0, c290_0, e290, hx290_0, hl290_0, hi290_0⟩ := at_L3 (Kd.N_reads' HO_24.out).2.2 x26_3 p290 q290; cases e290; obtain ⟨ce290, hce290, hMe290, hcc290⟩ := Kd.N_get HO_24.out [] x26_3 p290 (by first | exact q290 | exact od | (have e_ := (Kd.N_reads' HO_24.out).1; omega)); obtain ⟨ua290_0, uc290_0, rfl, ul290_0, ge290_0⟩ := Kd.FK_slice_open hMe290; have hv290_0 := hcc290 0 _ rfl; rw [Nat.add_zero, show ((Kd.slice 3 (Kd.int .i64))).sz = 1 from rfl, Nat.mul_one] at hv290_0; replace hv290_0 := Option.some.inj (hv290_0.symm.trans hx290_0); (injection hv290_0 with hva_ hvn_ hvc_); rw [hva_] at ge290_0; rw [hvc_] at ul290_0; have HL290_0 := Aside0.mk (show Kd.V (Kd.int .i64) 3 _ w.heap.size _ _ (rd_L3 t287 x26_3) from Kd.V_mk ul290_0 ge290_0); clear hva_ hvn_ hvc_ ge290_0 ul290_0; clear hcc290 hce290; have HR290_0 := Aside0.mk hi290_0; have HC290_0 := Aside0.mk hl290_0; clear hi290_0 hl290_0; replace p290 := eq_true p290; replace q290 := eq_true q290; have p291 : 0 ≤ (0 : Int) := (by omega); have q291 : 0 < ((rd_L3 t287 x26_3).length : Int) := od; obtain ⟨ad291, e291, hx291_0⟩ := Kd.at_int (by repeat (first | (with_reducible exact HR290_0.out) | (with_reducible refine Kd.C_alloc ?_ _) | (with_reducible refine Kd.C_drewN ?_ _) | (with_reducible refine Kd.C_drew ?_) | exact HR290_0.out)) 0 p291 q291; cases e291; have qi291 : (0 < (rd_L3 t287 x26_3).length) = True := eq_true (by omega); (try rw [show ((0 : Int)).toNat = 0 from rfl] at hx291_0); (try rw [Addr.add_zero'] at hx291_0); replace p291 := eq_true p291; replace q291 := eq_true q291; go_wp2_with (first | ((with_reducible refine gate_builtin (b := .append) (xs := #[.tmp 34, .tmp 36]) rfl ?_); at_builtin; refine Kd.N_append (Kd.slice 3 (Kd.int .i64)) (w0 := w) w.heap.size rfl (.tmp 34) (.tmp 36) 25 31 (.slice none 0 0) 24 rfl Tryz.underlying25 info31 rfl (by decide) (by omega) u5 x5_3 (rd_L3 t287 x26_3) [.slice (some ad291) (rd_L3 t287 x26_3).length c290_0] (fun k_ => (w.heap.size ≤ k_) ∧ some k_ ≠ (.slice (some ad286) x3_1.length co8 : Value).ownBlock ∧ some k_ ≠ (.slice (some ad290) t287.length co14 : Value).ownBlock) (fun k_ => ((fun k_ => (w.heap.size ≤ k_) ∧ some k_ ≠ (.slice (some ad286) x3_1.length co8 : Value).ownBlock ∧ some k_ ≠ (.slice (some ad290) t287.length co14 : Value).ownBlock)) k_ ∧ some k_ ≠ (u5 : Value).ownBlock) rfl rfl ?aP (fun _ hk => hk) ?aF ?aO ?aB ?aS (by have := LMc20.out; omega) ?_; (case aP => exact (Kd.FK_slice_mk (Kd.V_reads' (Kd.V_mono (ok' := (fun k_ => ((fun k_ => (w.heap.size ≤ k_) ∧ some k_ ≠ (.slice (some ad286) x3_1.length co8 : Value).ownBlock ∧ some k_ ≠ (.slice (some ad290) t287.length co14 : Value).ownBlock)) k_ ∧ some k_ ≠ (u5 : Value).ownBlock)) (HL290_0.out) (fun k_ hk => ⟨⟨hk.1.1, ⟨hk.1.2.2, hk.2⟩⟩, hk.1.2.1⟩))).2.1 (Kd.V_F (Kd.V_mono (ok' := (fun k_ => ((fun k_ => (w.heap.size ≤ k_) ∧ some k_ ≠ (.slice (some ad286) x3_1.length co8 : Value).ownBlock ∧ some k_ ≠ (.slice (some ad290) t287.length co14 : Value).ownBlock)) k_ ∧ some k_ ≠ (u5 : Value).ownBlock)) (HL290_0.out) (fun k_ hk => ⟨⟨hk.1.1, ⟨hk.1.2.2, hk.2⟩⟩, hk.1.2.1⟩))))); (case aB => exact (bl HB.out)); (case aF => exact (fun k_ hk => ⟨(Nat.le_trans (below_size (bl HB.out)) hk), Kd.fresh' (Kd.N_lt (rN HO_17.out)) k_ hk, Kd.fresh' (Kd.N_lt (rN HO_24.out)) k_ hk⟩)); (case aO => exact (rN HO_5.out)); (case aS => exact (below_size (bl HB.out))); intro v293 w21 ho hb hg hat; rw [← Ny292.out] at ho; replace HO_17 := Aside0.mk (Kd.N_afterv (ok := (fun k_ => (w.heap.size ≤ k_) ∧ some k_ ≠ (.slice (some ad290) t287.length co14 : Value).ownBlock)) (rN (Kd.N_mono HO_17.out (fun _ hk => ⟨⟨hk.1, hk.2.2⟩, hk.2.1⟩))) hg hat); replace HO_24 := Aside0.mk (Kd.N_afterv (ok := (fun k_ => (w.heap.size ≤ k_) ∧ some k_ ≠ (.slice (some ad286) x3_1.length co8 : Value).ownBlock)) (rN (Kd.N_mono HO_24.out (fun _ hk => ⟨⟨hk.1, hk.2.2⟩, hk.2.1⟩))) hg hat); replace HL290_0 := Aside0.mk (Kd.V_afterv (ok := (fun k_ => (w.heap.size ≤ k_) ∧ some k_ ≠ (.slice (some ad286) x3_1.length co8 : Value).ownBlock ∧ some k_ ≠ (.slice (some ad290) t287.length co14 : Value).ownBlock)) (rV (Kd.V_mono HL290_0.out (fun _ hk => ⟨⟨hk.1.1, ⟨hk.1.2.2, hk.2⟩⟩, hk.1.2.1⟩))) hg hat); replace HB := Aside0.mk (hb); have HO294 := Aside0.mk (ho); clear HO_5; clear ho hb hg hat))
                 go_roundg k3
                 case measure => have := HK1.out; have := HK2.out; have := HK3.out; omega
                 case rel => exact ⟨(y292), (wrap64 (x26_3 + 1)), (sr2), H', ⟨by have := HK1.out; have := HK2.out; have := HK3.out; omega⟩, ⟨rN HO294.out⟩, ⟨rN (Kd.N_mono HO_17.out (fun _ hk => ⟨hk.1.1, ⟨hk.2, hk.1.2⟩⟩))⟩, ⟨rN (Kd.N_mono HO_24.out (fun _ hk => ⟨hk.1.1, ⟨hk.2, hk.1.2⟩⟩))⟩, ⟨bl HB.out⟩⟩
                rw [if_neg c20] at H; exact absurd H (by simp)
               rw [if_neg c19] at H; have c19b0 := beq_eq_false_iff_ne.mpr c19; have c19b1 := bne_iff_ne.mpr c19; have H' := Aside0.mk H; clear H; have p290 : 0 ≤ (x26_3 : Int) := od; have q290 : x26_3 < (t287.length : Int) := od; obtain ⟨ad290, A290_0, c290_0, e290, hx290_0, hl290_0, hi290_0⟩ := at_L3 (Kd.N_reads' HO_24.out).2.2 x26_3 p290 q290; cases e290; obtain ⟨ce290, hce290, hMe290, hcc290⟩ := Kd.N_get HO_24.out [] x26_3 p290 (by first | exact q290 | exact od | (have e_ := (Kd.N_reads' HO_24.out).1; omega)); obtain ⟨ua290_0, uc290_0, rfl, ul290_0, ge290_0⟩ := Kd.FK_slice_open hMe290; have hv290_0 := hcc290 0 _ rfl; rw [Nat.add_zero, show ((Kd.slice 3 (Kd.int .i64))).sz = 1 from rfl, Nat.mul_one] at hv290_0; replace hv290_0 := Option.some.inj (hv290_0.symm.trans hx290_0); (injection hv290_0 with hva_ hvn_ hvc_); rw [hva_] at ge290_0; rw [hvc_] at ul290_0; have HL290_0 := Aside0.mk (show Kd.V (Kd.int .i64) 3 _ w.heap.size _ _ (rd_L3 t287 x26_3) from Kd.V_mk ul290_0 ge290_0); clear hva_ hvn_ hvc_ ge290_0 ul290_0; clear hcc290 hce290; have HR290_0 := Aside0.mk hi290_0; have HC290_0 := Aside0.mk hl290_0; clear hi290_0 hl290_0; replace p290 := eq_true p290; replace q290 := eq_true q290; have p291 : 0 ≤ (0 : Int) := (by omega); have q291 : 0 < ((rd_L3 t287 x26_3).length : Int) := od; obtain ⟨ad291, e291, hx291_0⟩ := Kd.at_int (by repeat (first | (with_reducible exact HR290_0.out) | (with_reducible refine Kd.C_alloc ?_ _) | (with_reducible refine Kd.C_drewN ?_ _) | (with_reducible refine Kd.C_drew ?_) | exact HR290_0.out)) 0 p291 q291; cases e291; have qi291 : (0 < (rd_L3 t287 x26_3).length) = True := eq_true (by omega); (try rw [show ((0 : Int)).toNat = 0 from rfl] at hx291_0); (try rw [Addr.add_zero'] at hx291_0); replace p291 := eq_true p291; replace q291 := eq_true q291; go_wp2
               go_roundg k3
               case measure => have := HK1.out; have := HK2.out; have := HK3.out; omega
               case rel => exact ⟨(x5_3), (wrap64 (x26_3 + 1)), (sr2), H', ⟨by have := HK1.out; have := HK2.out; have := HK3.out; omega⟩, ⟨rN HO_5.out⟩, ⟨rN HO_17.out⟩, ⟨rN HO_24.out⟩, ⟨bl HB.out⟩⟩
              rw [if_neg c18] at H; exact absurd H (by simp)
             rw [if_neg c17] at H; exact absurd H (by simp)
            rw [if_neg c16] at H; exact absurd H (by simp)
           rw [if_neg c15] at H; have c15b0 := decide_eq_false c15; clear c15; have H' := Aside0.mk H; clear H; go_wp2
           go_roundg k3
           case measure => have := HK1.out; have := HK2.out; have := HK3.out; omega
           case rel => exact ⟨(x5_3), (wrap64 (x19_2 + 1)), (sr2), H', ⟨by have := HK1.out; have := HK2.out; have := HK3.out; omega⟩, ⟨rN (Kd.N_mono HO_5.out (fun _ hk => ⟨hk.1, hk.2.1⟩))⟩, ⟨rN (Kd.N_mono HO_17.out (fun _ hk => ⟨hk.1, hk.2.1⟩))⟩, ⟨bl HB.out⟩⟩
        rw [if_neg c11] at H; exact absurd H (by simp)
       rw [if_neg c10] at H; exact absurd H (by simp)
      rw [if_neg c9] at H; have c9b0 := decide_eq_false c9; clear c9; have H' := Aside0.mk H; clear H; go_wp2
      go_roundg k2
      case measure => have := HK1.out; have := HK2.out; omega
      case rel => exact ⟨(x5_2), (wrap64 (x4_1 + 1)), (sr2), H', ⟨by have := HK1.out; have := HK2.out; omega⟩, ⟨rN (Kd.N_mono HO_5.out (fun _ hk => hk.1))⟩, ⟨bl HB.out⟩⟩
   rw [if_neg c7] at H; have c7b0 := decide_eq_false c7; clear c7; obtain rfl := Option.some.inj H; go_wp2; go_ret; exact ⟨_, sr, rN HO_3.out, bl HB.out⟩
/-! ### spec_spTurn: function 51 -/
def spec_spTurn.l0 : Nat → Int → Int → List Int → List Int → Int → Int → Option (List Int)
 | 0, _, _, _, _, _, _ => none
 | k + 1, x1, x5, x6, x13, x14, x15 => if x15 < x14 then (if 0 ≤ x15 then (if x15 < (x13.length : Int) then (if x5 = 0 then (none) else (if 0 ≤ (Int.tmod (wrap64 ((Int.tmod (wrap64 (x15 + x1)) x5) + x5)) x5) then (if (Int.tmod (wrap64 ((Int.tmod (wrap64 (x15 + x1)) x5) + x5)) x5) < (x6.length : Int) then (spec_spTurn.l0 k x1 x5 (x6.set ((Int.tmod (wrap64 ((Int.tmod (wrap64 (x15 + x1)) x5) + x5)) x5) : Int).toNat (rd x13 x15)) x13 x14 (wrap64 (x15 + 1))) else (none)) else (none))) else (none)) else (none)) else (some x6)
def spec_spTurn.f (k : Nat) (l0 : List Int) (a1 : Int) : Option (List Int) := if 0 ≤ (l0.length : Int) then (if ((l0.length : Int) : Int).toNat ≤ 35184372088832 then (spec_spTurn.l0 k a1 (l0.length : Int) (List.replicate ((l0.length : Int) : Int).toNat 0) l0 (l0.length : Int) 0) else (none)) else (none)
theorem spec_spTurn.mono_l : ∀ k, (∀ y0 y1 y2 y3 y4 y5, LeO (spec_spTurn.l0 k y0 y1 y2 y3 y4 y5) (spec_spTurn.l0 (k + 1) y0 y1 y2 y3 y4 y5))
 | 0 => fun _ _ _ _ _ _ r h => by simp [spec_spTurn.l0] at h
 | k + 1 => by
  have ih0 := spec_spTurn.mono_l k
  ·intro y0 y1 y2 y3 y4 y5
   unfold spec_spTurn.l0
   repeat' first
   | (with_reducible exact ih0 _ _ _ _ _ _)
   | (with_reducible exact LeO.refl _)
   | (with_reducible exact LeO.none _)
   | (with_reducible refine LeO.ite ?_ ?_)
   | (with_reducible refine LeO.bind ?_ (fun _ => ?_))
   | exact ih0 _ _ _ _ _ _
   | exact LeO.none _
   | refine LeO.ite ?_ ?_
   | refine LeO.bind ?_ (fun _ => ?_)
theorem spec_spTurn.mono : ∀ a0 a1 k, LeO (spec_spTurn.f k a0 a1) (spec_spTurn.f (k + 1) a0 a1) := by
 intro a0 a1 k; have ih0 := spec_spTurn.mono_l k; unfold spec_spTurn.f
 repeat' first
   | (with_reducible exact ih0 _ _ _ _ _ _)
   | (with_reducible exact LeO.refl _)
   | (with_reducible exact LeO.none _)
   | (with_reducible refine LeO.ite ?_ ?_)
   | (with_reducible refine LeO.bind ?_ (fun _ => ?_))
   | exact ih0 _ _ _ _ _ _
   | exact LeO.none _
   | refine LeO.ite ?_ ?_
   | refine LeO.bind ?_ (fun _ => ?_)
theorem spec_spTurn.calls (k : Nat) (A0 : Option Addr) (c0 : Nat) (l0 : List Int) (a1 : Int) (r : List Int) (w : World) (hr0 : Kd.C (Kd.int .i64) w A0 l0.length l0) (hc0 : l0.length ≤ c0) (h : spec_spTurn.f k l0 a1 = some r) :
  Calls Tryz.prog 51 #[.slice A0 l0.length c0, .int .i64 a1] w fun e w' => ∃ v0_ : Value, e = .returned (v0_) ∧ Kd.R (Kd.int .i64) 3 w' w.heap.size (fun _ => True) v0_ r ∧ Below w.heap.size w w' := by
 have HR0 := Aside0.mk hr0; have HC0 := Aside0.mk hc0; clear hr0 hc0; have HB := Aside0.mk (Below.refl w.heap.size w); have H : (if 0 ≤ (l0.length : Int) then (if ((l0.length : Int) : Int).toNat ≤ 35184372088832 then (spec_spTurn.l0 k a1 (l0.length : Int) (List.replicate ((l0.length : Int) : Int).toNat 0) l0 (l0.length : Int) 0) else (none)) else (none)) = some r := h; clear h
 by_cases c3 : 0 ≤ (l0.length : Int)
 ·rw [if_pos c3] at H; have c3b0 := eq_true c3; have c3b1 := decide_eq_true c3; clear c3
  by_cases c4 : ((l0.length : Int) : Int).toNat ≤ 35184372088832
  ·rw [if_pos c4] at H
   have c4b0 := eq_true c4
   have c4b1 : decide (((l0.length : Int) : Int).toNat ≤ 35184372088832) = true := decide_eq_true c4
   clear c4
   obtain ⟨y295, hy295⟩ : ∃ y_ : List Int, y_ = (List.replicate ((l0.length : Int) : Int).toNat 0) := ⟨_, rfl⟩
   (try rw [Option.bind_some] at H); (try dsimp only at H); rw [← hy295] at H
   have Ny295 := Aside0.mk hy295; clear hy295; have H' := Aside0.mk H; clear H; go_enter Tryz.func51, Tryz.ntmps51; go_wp2_with (first | ((with_reducible refine gate_dst (N := 12) rfl ?_); refine Kd.R_make (Kd.int .i64) _ 3 rfl (N := 12) rfl 31 _ _ rfl (l0.length : Int) rfl rfl Tryz.underlying31 (.int .i64 0) 8 info3 rfl (by decide) (by omega) 0 (ok := fun _ => True) (okp := fun _ => True) rfl (fun _ hk => hk) trivial (od) (Nat.le_trans (Nat.mul_le_mul_right _ (od : (l0.length : Int).toNat ≤ 35184372088832)) (by omega)) (Below.refl _ _) (Nat.le_refl _) ?_; intro v296 w5 ho6 hb hg_ hnew_; clear hg_ hnew_; (first | rw [← Ny295.out] at ho6 | (simp only [Int.reduceToNat] at ho6; rw [← Ny295.out] at ho6)); have HO297 := Aside0.mk (Kd.R_lower ho6 (below_size (bl HB.out))); replace HB := bst HB hb; clear hb ho6))
   go_loopg [15] k (fun kq v15 w' => ∃ (x6_1 : List Int) (x15_1 : Int), v15 = .int .i64 x15_1 ∧ Aside0 (spec_spTurn.l0 kq a1 (l0.length : Int) x6_1 l0 (l0.length : Int) x15_1 = some r) ∧ Aside0 (kq ≤ k) ∧ Aside0 (Kd.R (Kd.int .i64) 3 w' w.heap.size (fun _ => True) v296 x6_1) ∧ Aside0 (Below w.heap.size w w'))
   case atStart => exact ⟨(y295), (0), (sr2), H', ⟨Nat.le_refl _⟩, ⟨rR HO297.out⟩, ⟨bl HB.out⟩⟩
   case round =>
    clear H'; obtain ⟨x6_1, x15_1, rfl, HA, HK1, HO_6, HB⟩ := hrel
    cases gk with
    | zero => exact absurd HA.out (by simp [spec_spTurn.l0])
    | succ k1 =>
     have H := HA.out; clear HA; simp only [spec_spTurn.l0] at H
     by_cases c7 : x15_1 < (l0.length : Int)
     ·rw [if_pos c7] at H; have c7b0 := decide_eq_true c7; clear c7
      by_cases c8 : 0 ≤ x15_1
      ·rw [if_pos c8] at H; have c8b0 := decide_eq_true c8; clear c8
       by_cases c9 : x15_1 < (l0.length : Int)
       ·rw [if_pos c9] at H; have c9b0 := decide_eq_true c9; clear c9
        by_cases c10 : (l0.length : Int) = 0
        ·rw [if_pos c10] at H; exact absurd H (by simp)
        rw [if_neg c10] at H; have c10b0 := beq_eq_false_iff_ne.mpr c10; have c10b1 := bne_iff_ne.mpr c10; have c10b2 : ¬ (l0 = []) := fun h_ => c10 (by rw [h_]; rfl); obtain ⟨ji11, hji11⟩ : ∃ j_ : Int, (Int.tmod (wrap64 ((Int.tmod (wrap64 (x15_1 + a1)) (l0.length : Int)) + (l0.length : Int))) (l0.length : Int)) = j_ := ⟨_, rfl⟩; replace H : (if 0 ≤ (ji11) then (if (ji11) < (x6_1.length : Int) then (spec_spTurn.l0 k1 a1 (l0.length : Int) (x6_1.set ((ji11) : Int).toNat (rd l0 x15_1)) l0 (l0.length : Int) (wrap64 (x15_1 + 1))) else (none)) else (none)) = some r := by first | (rw [hji11] at H; exact H) | (simp only [hji11] at H ⊢; exact H)
        by_cases c12 : 0 ≤ (ji11)
        ·rw [if_pos c12] at H; have c12b0 := decide_eq_true c12; clear c12
         by_cases c13 : (ji11) < (x6_1.length : Int)
         ·rw [if_pos c13] at H; have c13b0 := decide_eq_true c13; clear c13; obtain ⟨y299, hy299⟩ := yy (x6_1.set ((ji11) : Int).toNat (rd l0 x15_1))
          (try rw [Option.bind_some] at H); (try dsimp only at H); rw [← hy299] at H
          have Ny299 := Aside0.mk hy299; clear hy299; have H' := Aside0.mk H; clear H; obtain ⟨ad298, e298, hx298_0, p298, q298⟩ := atI HR0.out x15_1; cases e298; replace hx298_0 := hbx HB hx298_0; have p14 : 0 ≤ ((ji11) : Int) := od; have q14 : ((ji11) : Int) < ((x6_1.length : Int) : Int) := od; obtain ⟨go14, co14, eo14, gb14, gl14, cl14, HG14⟩ := Kd.R_form HO_6.out (by omega); (first | cases eo14 | (injection eo14 with ea_ en_ ec_; (first | subst ea_ | (injection ea_ with ea_; subst ea_)); subst ec_; clear en_)); have GB14 := Aside0.mk gb14; have GG14 := Aside0.mk HG14; clear gb14 gl14 HG14; obtain ⟨hx14_0, hf14_0⟩ := Kd.R_celln 0 HO_6.out ((ji11) : Int) p14 q14; replace p14 := eq_true p14; replace q14 := eq_true q14; have HP15 := Kd.R_putg HO_6.out ((ji11) : Int) (rd l0 x15_1); go_wp2_with (first | ((with_reducible refine gate_store (t := 3) (p := 31) rfl ?_); refine store_event (t := 3) (p := 31) (v := ?vo_w16) (w1 := (wr.setCell ⟨go14, ((ji11) : Int).toNat, none⟩ (.int .i64 (rd l0 x15_1)))) ?hg ?ho ?hn ?hr ?_; (case ho => rfl); (case hg => rfl); (case hn => rfl); (case hr => first | (go_simp; done) | (go_simp; rfl)); intro w16 hw; have hg : wr.grownBy w16 (some go14) := (by rw [hw]; exact HP15.2); have hp_ : Kd.R (Kd.int .i64) 3 w16 w.heap.size (fun _ => True) (.slice (some ⟨go14, 0, none⟩) x6_1.length co14) y299 := (by rw [hw, Ny299.out]; exact HP15.1); clear HP15; replace HO_6 := Aside0.mk (hp_); replace HB := Aside0.mk ((by rw [hw]; exact below_set (HB.out) GB14.out : Below w.heap.size w w16)); clear hg hw hp_))
          first | go_roundg k1 | (simp only [← hji11]; go_roundg k1)
          case measure => have := HK1.out; omega
          case rel => exact ⟨(y299), (wrap64 (x15_1 + 1)), (sr2), H', ⟨by have := HK1.out; omega⟩, ⟨rR HO_6.out⟩, ⟨bl HB.out⟩⟩
         rw [if_neg c13] at H; exact absurd H (by simp)
        rw [if_neg c12] at H; exact absurd H (by simp)
       rw [if_neg c9] at H; exact absurd H (by simp)
      rw [if_neg c8] at H; exact absurd H (by simp)
     rw [if_neg c7] at H; have c7b0 := decide_eq_false c7; clear c7; obtain rfl := Option.some.inj H; go_wp2; go_ret; exact ⟨_, sr, rR HO_6.out, bl HB.out⟩
  rw [if_neg c4] at H; exact absurd H (by simp)
 rw [if_neg c3] at H; exact absurd H (by simp)
/-! ### spec_AllFoldings: function 8 -/
mutual
def spec_AllFoldings.l0 : Nat → Int → List (List Int) → List (List Int) → Int → Int → Option ((List (List Int)) × Bool)
 | 0, _, _, _, _, _ => none
 | k + 1, x0, x4, x12, x13, x14 => if x14 < x13 then (if 0 ≤ x14 then (if x14 < (x12.length : Int) then (spec_AllFoldings.l1 k x0 x4 (rd_L3 x12 x14) 0 x12 x13 x14) else (none)) else (none)) else (some (x4, true))
def spec_AllFoldings.l1 : Nat → Int → List (List Int) → List Int → Int → List (List Int) → Int → Int → Option ((List (List Int)) × Bool)
 | 0, _, _, _, _, _, _, _ => none
 | k + 1, x0, x4, x6, x7, x12, x13, x14 => if x7 < x0 then ((spec_spTurn.f k x6 x7).bind fun t305 => ((spec_spPut.f k x4 t305).bind fun t308 => (spec_AllFoldings.l1 k x0 t308 x6 (wrap64 (x7 + 1)) x12 x13 x14))) else (spec_AllFoldings.l0 k x0 x4 x12 x13 (wrap64 (x14 + 1)))
end
def spec_AllFoldings.f (k : Nat) (a0 : Int) : Option ((List (List Int)) × Bool) := (spec_l1In.f a0 1 6).bind fun t300 => (if t300 = true then ((spec_spTop.f k a0).bind fun t301 => (spec_AllFoldings.l0 k a0 ([] : List (List Int)) t301 (t301.length : Int) 0)) else (some (([] : List (List Int)), false)))
theorem spec_AllFoldings.mono_l : ∀ k, (∀ y0 y1 y2 y3 y4, LeO (spec_AllFoldings.l0 k y0 y1 y2 y3 y4) (spec_AllFoldings.l0 (k + 1) y0 y1 y2 y3 y4)) ∧ (∀ y0 y1 y2 y3 y4 y5 y6, LeO (spec_AllFoldings.l1 k y0 y1 y2 y3 y4 y5 y6) (spec_AllFoldings.l1 (k + 1) y0 y1 y2 y3 y4 y5 y6))
 | 0 => ⟨fun _ _ _ _ _ r h => by simp [spec_AllFoldings.l0] at h, fun _ _ _ _ _ _ _ r h => by simp [spec_AllFoldings.l1] at h⟩
 | k + 1 => by
  obtain ⟨ih0, ih1⟩ := spec_AllFoldings.mono_l k
  refine ⟨?_, ?_⟩
  ·intro y0 y1 y2 y3 y4
   unfold spec_AllFoldings.l0
   repeat' first
   | (with_reducible exact ih0 _ _ _ _ _)
   | (with_reducible exact ih1 _ _ _ _ _ _ _)
   | (with_reducible exact spec_spPut.mono _ _ _)
   | (with_reducible exact spec_spTop.mono _ _)
   | (with_reducible exact spec_spTurn.mono _ _ _)
   | (with_reducible exact LeO.refl _)
   | (with_reducible exact LeO.none _)
   | (with_reducible refine LeO.ite ?_ ?_)
   | (with_reducible refine LeO.bind ?_ (fun _ => ?_))
   | exact ih0 _ _ _ _ _
   | exact ih1 _ _ _ _ _ _ _
   | exact spec_spPut.mono _ _ _
   | exact spec_spTop.mono _ _
   | exact spec_spTurn.mono _ _ _
   | exact LeO.none _
   | refine LeO.ite ?_ ?_
   | refine LeO.bind ?_ (fun _ => ?_)
  ·intro y0 y1 y2 y3 y4 y5 y6
   unfold spec_AllFoldings.l1
   repeat' first
   | (with_reducible exact ih0 _ _ _ _ _)
   | (with_reducible exact ih1 _ _ _ _ _ _ _)
   | (with_reducible exact spec_spPut.mono _ _ _)
   | (with_reducible exact spec_spTop.mono _ _)
   | (with_reducible exact spec_spTurn.mono _ _ _)
   | (with_reducible exact LeO.refl _)
   | (with_reducible exact LeO.none _)
   | (with_reducible refine LeO.ite ?_ ?_)
   | (with_reducible refine LeO.bind ?_ (fun _ => ?_))
   | exact ih0 _ _ _ _ _
   | exact ih1 _ _ _ _ _ _ _
   | exact spec_spPut.mono _ _ _
   | exact spec_spTop.mono _ _
   | exact spec_spTurn.mono _ _ _
   | exact LeO.none _
   | refine LeO.ite ?_ ?_
   | refine LeO.bind ?_ (fun _ => ?_)
theorem spec_AllFoldings.mono : ∀ a0 k, LeO (spec_AllFoldings.f k a0) (spec_AllFoldings.f (k + 1) a0) := by
 intro a0 k; obtain ⟨ih0, ih1⟩ := spec_AllFoldings.mono_l k; unfold spec_AllFoldings.f
 repeat' first
   | (with_reducible exact ih0 _ _ _ _ _)
   | (with_reducible exact ih1 _ _ _ _ _ _ _)
   | (with_reducible exact spec_spPut.mono _ _ _)
   | (with_reducible exact spec_spTop.mono _ _)
   | (with_reducible exact spec_spTurn.mono _ _ _)
   | (with_reducible exact LeO.refl _)
   | (with_reducible exact LeO.none _)
   | (with_reducible refine LeO.ite ?_ ?_)
   | (with_reducible refine LeO.bind ?_ (fun _ => ?_))
   | exact ih0 _ _ _ _ _
   | exact ih1 _ _ _ _ _ _ _
   | exact spec_spPut.mono _ _ _
   | exact spec_spTop.mono _ _
   | exact spec_spTurn.mono _ _ _
   | exact LeO.none _
   | refine LeO.ite ?_ ?_
   | refine LeO.bind ?_ (fun _ => ?_)
theorem spec_AllFoldings.calls (k : Nat) (a0 : Int) (r1 : List (List Int)) (r2 : Bool) (w : World) (h : spec_AllFoldings.f k a0 = some (r1, r2)) :
  Calls Tryz.prog 8 #[.int .i64 a0] w fun e w' => ∃ v0_ : Value, e = .returned (.tuple #[v0_, .bool r2]) ∧ Kd.N (Kd.slice 3 (Kd.int .i64)) 31 w' w.heap.size (fun k_ => (w.heap.size ≤ k_)) v0_ r1 ∧ Below w.heap.size w w' := by
 have HB := Aside0.mk (Below.refl w.heap.size w); have H : ((spec_l1In.f a0 1 6).bind fun t300 => (if t300 = true then ((spec_spTop.f k a0).bind fun t301 => (spec_AllFoldings.l0 k a0 ([] : List (List Int)) t301 (t301.length : Int) 0)) else (some (([] : List (List Int)), false)))) = some (r1, r2) := h; clear h; obtain ⟨t300, A2, H⟩ := bi H; (try dsimp only at H)
 by_cases c3 : t300 = true
 ·subst c3; rw [if_pos rfl] at H; obtain ⟨t301, A4, H⟩ := bi H; (try dsimp only at H); have H' := Aside0.mk H; clear H; go_enter Tryz.func8, Tryz.ntmps8; go_wp2_with (first | (go_at_call 48; (with_reducible refine (spec_l1In.calls a0 1 6 true _ A2.out).mono ?_); rintro e w' ⟨rfl, ⟨nd, rfl⟩⟩) | (go_at_call 49; (with_reducible refine (spec_spTop.calls k a0 t301 _ A4.out).mono ?_); rintro e w5 ⟨v302, rfl, ho0, hb⟩; have HO303 := Aside0.mk (Kd.N_lower (Kd.N_mono (ok' := fun k_ => (w.heap.size ≤ k_)) ho0 (fun k_ hk_ => (Nat.le_trans (below_size (bl HB.out)) hk_))) (below_size (bl HB.out))); replace HB := bst HB hb; obtain ⟨Ao6, co6, eo6⟩ := Kd.N_slice HO303.out; subst eo6))
  go_loopg [4, 14] k (fun kq v4 v14 w' => ∃ (x4_1 : List (List Int)) (x14_1 : Int), v14 = .int .i64 x14_1 ∧ Aside0 (spec_AllFoldings.l0 kq a0 x4_1 t301 (t301.length : Int) x14_1 = some (r1, r2)) ∧ Aside0 (kq ≤ k) ∧ Aside0 (Kd.N (Kd.slice 3 (Kd.int .i64)) 31 w' w.heap.size (fun k_ => (w.heap.size ≤ k_) ∧ some k_ ≠ ((.slice Ao6 t301.length co6) : Value).ownBlock) v4 x4_1) ∧ Aside0 (Kd.N (Kd.slice 3 (Kd.int .i64)) 31 w' w.heap.size (fun k_ => (w.heap.size ≤ k_) ∧ some k_ ≠ (v4 : Value).ownBlock) (.slice Ao6 t301.length co6) t301) ∧ Aside0 (Below w.heap.size w w'))
  case atStart => exact ⟨(([] : List (List Int))), (0), (sr2), H', ⟨Nat.le_refl _⟩, ⟨by first | exact Kd.S_nil _ _ _ _ _ | exact Kd.N_nil _ _ _ _ _ | exact Kd.V_nil _ _ _ _ _ | exact Kd.Q_nil _ _ _ _ _ | exact Kd.R_nil _ _ _ _ _⟩, ⟨rN (Kd.N_mono HO303.out (fun _ hk => ⟨hk, (by simp [Value.ownBlock])⟩))⟩, ⟨bl HB.out⟩⟩
  case round =>
   clear H'; obtain ⟨x4_1, x14_1, rfl, HA, HK1, HO_4, HO_12, HB⟩ := hrel
   cases gk with
   | zero => exact absurd HA.out (by simp [spec_AllFoldings.l0])
   | succ k1 =>
    have H := HA.out; clear HA; simp only [spec_AllFoldings.l0] at H
    by_cases c7 : x14_1 < (t301.length : Int)
    ·rw [if_pos c7] at H; have c7b0 := decide_eq_true c7; clear c7
     by_cases c8 : 0 ≤ x14_1
     ·rw [if_pos c8] at H; have c8b0 := decide_eq_true c8; clear c8
      by_cases c9 : x14_1 < (t301.length : Int)
      ·rw [if_pos c9] at H; have c9b0 := decide_eq_true c9; clear c9; have H' := Aside0.mk H; clear H; have p304 : 0 ≤ (x14_1 : Int) := od; have q304 : x14_1 < (t301.length : Int) := od; obtain ⟨ad304, A304_0, c304_0, e304, hx304_0, hl304_0, hi304_0⟩ := at_L3 (Kd.N_reads' HO_12.out).2.2 x14_1 p304 q304; cases e304; obtain ⟨ce304, hce304, hMe304, hcc304⟩ := Kd.N_get HO_12.out [] x14_1 p304 (by first | exact q304 | exact od | (have e_ := (Kd.N_reads' HO_12.out).1; omega)); obtain ⟨ua304_0, uc304_0, rfl, ul304_0, ge304_0⟩ := Kd.FK_slice_open hMe304; have hv304_0 := hcc304 0 _ rfl; rw [Nat.add_zero, show ((Kd.slice 3 (Kd.int .i64))).sz = 1 from rfl, Nat.mul_one] at hv304_0; replace hv304_0 := Option.some.inj (hv304_0.symm.trans hx304_0); (injection hv304_0 with hva_ hvn_ hvc_); rw [hva_] at ge304_0; rw [hvc_] at ul304_0; have HL304_0 := Aside0.mk (show Kd.V (Kd.int .i64) 3 _ w.heap.size _ _ (rd_L3 t301 x14_1) from Kd.V_mk ul304_0 ge304_0); clear hva_ hvn_ hvc_ ge304_0 ul304_0; clear hcc304 hce304; have HR304_0 := Aside0.mk hi304_0; have HC304_0 := Aside0.mk hl304_0; clear hi304_0 hl304_0; replace p304 := eq_true p304; replace q304 := eq_true q304; go_wp2
       go_loopg [4, 7] k1 (fun kq v4 v7 w' => ∃ (x4_2 : List (List Int)) (x7_2 : Int), v7 = .int .i64 x7_2 ∧ Aside0 (spec_AllFoldings.l1 kq a0 x4_2 (rd_L3 t301 x14_1) x7_2 t301 (t301.length : Int) x14_1 = some (r1, r2)) ∧ Aside0 (kq ≤ k1) ∧ Aside0 (Kd.N (Kd.slice 3 (Kd.int .i64)) 31 w' w.heap.size (fun k_ => (w.heap.size ≤ k_) ∧ some k_ ≠ ((.slice (some ad304) t301.length co6) : Value).ownBlock) v4 x4_2) ∧ Aside0 (Kd.V (Kd.int .i64) 3 w' w.heap.size (fun k_ => (w.heap.size ≤ k_)) (.slice A304_0 (rd_L3 t301 x14_1).length c304_0) (rd_L3 t301 x14_1)) ∧ Aside0 (Kd.N (Kd.slice 3 (Kd.int .i64)) 31 w' w.heap.size (fun k_ => (w.heap.size ≤ k_) ∧ some k_ ≠ (v4 : Value).ownBlock) (.slice (some ad304) t301.length co6) t301) ∧ Aside0 (Kd.C (Kd.int .i64) w' A304_0 (rd_L3 t301 x14_1).length (rd_L3 t301 x14_1)) ∧ Aside0 (Below w.heap.size w w'))
       case atStart => exact ⟨(x4_1), (0), (sr2), H', ⟨Nat.le_refl _⟩, ⟨rN HO_4.out⟩, ⟨rV (Kd.V_mono HL304_0.out (fun _ hk => hk.1.1))⟩, ⟨rN HO_12.out⟩, ⟨by repeat (first | (with_reducible exact HR304_0.out) | (with_reducible refine Kd.C_alloc ?_ _) | (with_reducible refine Kd.C_drewN ?_ _) | (with_reducible refine Kd.C_drew ?_) | exact HR304_0.out)⟩, ⟨bl HB.out⟩⟩
       case round =>
        clear H'; obtain ⟨x4_2, x7_2, rfl, HA, HK2, HO_4, HO_6, HO_12, HR304_0, HB⟩ := hrel
        cases gk with
        | zero => exact absurd HA.out (by simp [spec_AllFoldings.l1])
        | succ k2 =>
         have H := HA.out; clear HA; simp only [spec_AllFoldings.l1] at H
         by_cases c10 : x7_2 < a0
         ·rw [if_pos c10] at H; have c10b0 := decide_eq_true c10; clear c10; obtain ⟨t305, A11, H⟩ := bi H; (try dsimp only at H); obtain ⟨t308, A12, H⟩ := bi H; (try dsimp only at H); have H' := Aside0.mk H; clear H; go_wp2_with (first | (go_at_call 51; (with_reducible refine (spec_spTurn.calls k2 _ _ (rd_L3 t301 x14_1) x7_2 t305 _ ?side1 ((Kd.V_reads' HO_6.out).2.1) A11.out).mono ?_); (case side1 => exact cw ((Kd.V_reads' HO_6.out).2.2)); rintro e w13 ⟨v306, rfl, ho0, hb⟩; replace HO_4 := Aside0.mk (Kd.N_elder' (rN HO_4.out) (Kd.R_base ho0) hb); replace HO_6 := Aside0.mk (Kd.V_elder' (rV HO_6.out) (Kd.R_base ho0) hb); replace HO_12 := Aside0.mk (Kd.N_elder' (rN HO_12.out) (Kd.R_base ho0) hb); have HO307 := Aside0.mk (Kd.R_lower (Kd.R_newM (M := fun k_ => (w.heap.size ≤ k_)) ho0 (below_size (bl HB.out)) (fun k_ h_ => h_)) (below_size (bl HB.out))); replace HR304_0 := Aside0.mk (Kd.C_below (by repeat (first | (with_reducible exact HR304_0.out) | (with_reducible refine Kd.C_alloc ?_ _) | (with_reducible refine Kd.C_drewN ?_ _) | (with_reducible refine Kd.C_drew ?_) | exact HR304_0.out)) hb); replace HB := bst HB hb; obtain ⟨Ao14, co14, eo14⟩ := Kd.N_slice HO_4.out; subst eo14; obtain ⟨Ao15, co15, eo15⟩ := Kd.R_slice HO307.out; subst eo15) | (go_at_call 50; (with_reducible refine (spec_spPut.calls k2 (fun k_ => (((w.heap.size ≤ k_) ∧ some k_ ≠ (.slice (some ad304) t301.length co6 : Value).ownBlock) ∧ some k_ ≠ (.slice Ao15 t305.length co15 : Value).ownBlock)) _ _ x4_2 (fun k_ => some k_ = (.slice Ao15 t305.length co15 : Value).ownBlock) _ _ t305 t308 _ ?side1 (Kd.R_V (Kd.R_tight rfl (Kd.R_apart' (Kd.R_apart' (HO307.out) (Kd.N_typed HO_4.out) (by decide)) (Kd.N_typed HO_12.out) (by decide)))) A12.out).mono ?_); (case side1 => exact Kd.N_V (HO_4.out)); rintro e w16 ⟨v309, rfl, ho0, hb⟩; replace HO_6 := Aside0.mk (Kd.V_elder' (rV HO_6.out) (Kd.N_base ho0) hb); have HO310 := Aside0.mk (Kd.N_lower (Kd.N_mono (ok' := fun k_ => (w.heap.size ≤ k_) ∧ some k_ ≠ (.slice (some ad304) t301.length co6 : Value).ownBlock) ho0 (fun k_ hk_ => ⟨Or.elim hk_ (fun hs_ => Or.elim hs_ (fun hs_ => hs_.1.1) (fun hs_ => ((Kd.R_apart' (Kd.R_apart' (HO307.out) (Kd.N_typed HO_4.out) (by decide)) (Kd.N_typed HO_12.out) (by decide)).1 k_ hs_.symm).1.1.1)) (fun hn_ => (Nat.le_trans (below_size (bl HB.out)) hn_)), Or.elim hk_ (fun hs_ => Or.elim hs_ (fun hs_ => hs_.1.2) (fun hs_ => ((Kd.R_apart' (Kd.R_apart' (HO307.out) (Kd.N_typed HO_4.out) (by decide)) (Kd.N_typed HO_12.out) (by decide)).1 k_ hs_.symm).2)) (fun hn_ => (Kd.fresh' (Kd.N_lt (rN HO_12.out)) k_ hn_))⟩)) (below_size (bl HB.out))); replace HO_4 := Aside0.mk (Kd.N_elder' (rN HO_4.out) (Kd.N_base ho0) hb); replace HO_12 := Aside0.mk (Kd.N_elder' (rN HO_12.out) (Kd.N_base ho0) hb); replace HO307 := Aside0.mk (Kd.R_below (rR HO307.out) hb); replace HR304_0 := Aside0.mk (Kd.C_below (by repeat (first | (with_reducible exact HR304_0.out) | (with_reducible refine Kd.C_alloc ?_ _) | (with_reducible refine Kd.C_drewN ?_ _) | (with_reducible refine Kd.C_drew ?_) | exact HR304_0.out)) hb); replace HB := bst HB hb))
          go_roundg k2
          case measure => have := HK1.out; have := HK2.out; omega
          case rel => exact ⟨(t308), (wrap64 (x7_2 + 1)), (sr2), H', ⟨by have := HK1.out; have := HK2.out; omega⟩, ⟨rN HO310.out⟩, ⟨rV (Kd.V_mono HO_6.out (fun _ hk => hk.1.1))⟩, ⟨rN (Kd.N_mono HO_12.out (fun _ hk => ⟨hk.1.1.1, hk.2⟩))⟩, ⟨by repeat (first | (with_reducible exact HR304_0.out) | (with_reducible refine Kd.C_alloc ?_ _) | (with_reducible refine Kd.C_drewN ?_ _) | (with_reducible refine Kd.C_drew ?_) | exact HR304_0.out)⟩, ⟨bl HB.out⟩⟩
         rw [if_neg c10] at H; have c10b0 := decide_eq_false c10; clear c10; have H' := Aside0.mk H; clear H; go_wp2
         go_roundg k2
         case measure => have := HK1.out; have := HK2.out; omega
         case rel => exact ⟨(x4_2), (wrap64 (x14_1 + 1)), (sr2), H', ⟨by have := HK1.out; have := HK2.out; omega⟩, ⟨rN HO_4.out⟩, ⟨rN HO_12.out⟩, ⟨bl HB.out⟩⟩
      rw [if_neg c9] at H; exact absurd H (by simp)
     rw [if_neg c8] at H; exact absurd H (by simp)
    rw [if_neg c7] at H; have c7b0 := decide_eq_false c7; clear c7; simp only [Option.some.injEq, Prod.mk.injEq] at H; obtain ⟨rfl, rfl⟩ := H; go_wp2; go_ret2; exact ⟨_, sr, rN (Kd.N_mono HO_4.out (fun _ hk => hk.1)), bl HB.out⟩
 replace c3 := Bool.eq_false_iff.mpr c3; subst c3; rw [if_neg (show ¬ (false = true) by decide)] at H; simp only [Option.some.injEq, Prod.mk.injEq] at H; obtain ⟨rfl, rfl⟩ := H; go_enter Tryz.func8, Tryz.ntmps8; go_wp2_with (first | (go_at_call 48; (with_reducible refine (spec_l1In.calls a0 1 6 false _ A2.out).mono ?_); rintro e w' ⟨rfl, ⟨nd, rfl⟩⟩)); go_ret2; exact ⟨_, sr, by first | exact Kd.S_nil _ _ _ _ _ | exact Kd.N_nil _ _ _ _ _ | exact Kd.V_nil _ _ _ _ _ | exact Kd.Q_nil _ _ _ _ _ | exact Kd.R_nil _ _ _ _ _, bl HB.out⟩
/-! ### laws_ySame: function 24 -/
def laws_ySame.l0 : Nat → List Int → List Int → Int → Int → Option (Bool)
 | 0, _, _, _, _ => none
 | k + 1, x0, x1, x12, x13 => if x13 < x12 then (if 0 ≤ x13 then (if x13 < (x0.length : Int) then (if x13 < (x1.length : Int) then (if (rd x0 x13) = (rd x1 x13) then (laws_ySame.l0 k x0 x1 x12 (wrap64 (x13 + 1))) else (some false)) else (none)) else (none)) else (none)) else (some true)
def laws_ySame.f (k : Nat) (l0 : List Int) (l1 : List Int) : Option (Bool) := if (l0.length : Int) = (l1.length : Int) then (laws_ySame.l0 k l0 l1 (l0.length : Int) 0) else (some false)
theorem laws_ySame.calls (k : Nat) (A0 : Option Addr) (c0 : Nat) (l0 : List Int) (A1 : Option Addr) (c1 : Nat) (l1 : List Int) (r : Bool) (w : World) (hr0 : Kd.C (Kd.int .i64) w A0 l0.length l0) (hc0 : l0.length ≤ c0) (hr1 : Kd.C (Kd.int .i64) w A1 l1.length l1) (hc1 : l1.length ≤ c1) (h : laws_ySame.f k l0 l1 = some r) :
  Calls Tryz.prog 24 #[.slice A0 l0.length c0, .slice A1 l1.length c1] w fun e w' => e = .returned (.bool r) ∧ Drawn0 w w' := by
 have HR0 := Aside0.mk hr0; have HC0 := Aside0.mk hc0; clear hr0 hc0; have HR1 := Aside0.mk hr1; have HC1 := Aside0.mk hc1; clear hr1 hc1; have H : (if (l0.length : Int) = (l1.length : Int) then (laws_ySame.l0 k l0 l1 (l0.length : Int) 0) else (some false)) = some r := h; clear h
 by_cases c3 : (l0.length : Int) = (l1.length : Int)
 ·rw [if_pos c3] at H; have c3b0 := beq_iff_eq.mpr c3; have c3b1 := bne_eq_false_iff_eq.mpr c3; (have c3b2 : (l0.length == l1.length) = true := by first | simpa using c3 | (simp at c3 ⊢; omega)); clear c3; have H' := Aside0.mk H; clear H; go_enter Tryz.func24, Tryz.ntmps24; go_wp2
  repeat (go_quiet (fail); try go_wp2)
  go_loopg [13] k (fun kq v13 w' => ∃ (x13_1 : Int), v13 = .int .i64 x13_1 ∧ Aside0 (laws_ySame.l0 kq l0 l1 (l0.length : Int) x13_1 = some r) ∧ Aside0 (kq ≤ k) ∧ Drawn0 w w')
  case atStart => exact ⟨(0), (sr2), H', ⟨Nat.le_refl _⟩, by repeat (first | exact Drawn0.refl _ | apply Drawn0.step)⟩
  case round =>
   clear H'; obtain ⟨x13_1, rfl, HA, HK1, ⟨m1, rfl⟩⟩ := hrel
   cases gk with
   | zero => exact absurd HA.out (by simp [laws_ySame.l0])
   | succ k1 =>
    have H := HA.out; clear HA; simp only [laws_ySame.l0] at H
    by_cases c4 : x13_1 < (l0.length : Int)
    ·rw [if_pos c4] at H; have c4b0 := decide_eq_true c4; clear c4
     by_cases c5 : 0 ≤ x13_1
     ·rw [if_pos c5] at H; have c5b0 := decide_eq_true c5; clear c5
      by_cases c6 : x13_1 < (l0.length : Int)
      ·rw [if_pos c6] at H; have c6b0 := decide_eq_true c6; clear c6
       by_cases c7 : x13_1 < (l1.length : Int)
       ·rw [if_pos c7] at H; have c7b0 := decide_eq_true c7; clear c7
        by_cases c8 : (rd l0 x13_1) = (rd l1 x13_1)
        ·rw [if_pos c8] at H; have c8b0 := beq_iff_eq.mpr c8; have c8b1 := bne_eq_false_iff_eq.mpr c8; clear c8; have H' := Aside0.mk H; clear H; obtain ⟨ad311, e311, hx311_0, p311, q311⟩ := atI HR0.out x13_1; cases e311; obtain ⟨ad312, e312, hx312_0, p312, q312⟩ := atI HR1.out x13_1; cases e312; go_wp2
         repeat (go_quiet (fail); try go_wp2)
         go_roundg k1
         case measure => have := HK1.out; omega
         case rel => exact ⟨(wrap64 (x13_1 + 1)), (sr2), H', ⟨by have := HK1.out; omega⟩, by repeat (first | exact Drawn0.refl _ | apply Drawn0.step)⟩
        rw [if_neg c8] at H; have c8b0 := beq_eq_false_iff_ne.mpr c8; have c8b1 := bne_iff_ne.mpr c8; obtain rfl := Option.some.inj H; obtain ⟨ad311, e311, hx311_0, p311, q311⟩ := atI HR0.out x13_1; cases e311; obtain ⟨ad312, e312, hx312_0, p312, q312⟩ := atI HR1.out x13_1; cases e312; go_wp2
        repeat (go_quiet (fail); try go_wp2)
        go_ret; exact ⟨sr2, by repeat (first | exact Drawn0.refl _ | apply Drawn0.step)⟩
       rw [if_neg c7] at H; exact absurd H (by simp)
      rw [if_neg c6] at H; exact absurd H (by simp)
     rw [if_neg c5] at H; exact absurd H (by simp)
    rw [if_neg c4] at H; have c4b0 := decide_eq_false c4; clear c4; obtain rfl := Option.some.inj H; go_wp2
    repeat (go_quiet (fail); try go_wp2)
    go_ret; exact ⟨sr2, by repeat (first | exact Drawn0.refl _ | apply Drawn0.step)⟩
 rw [if_neg c3] at H; have c3b0 := beq_eq_false_iff_ne.mpr c3; have c3b1 := bne_iff_ne.mpr c3; (have c3b2 : (l0.length == l1.length) = false := by first | simpa using c3 | (simp at c3 ⊢; omega)); obtain rfl := Option.some.inj H; go_enter Tryz.func24, Tryz.ntmps24; go_wp2
 repeat (go_quiet (fail); try go_wp2)
 go_ret; exact ⟨sr2, by repeat (first | exact Drawn0.refl _ | apply Drawn0.step)⟩
end Go.Proofs.YtjgkcknopnollaaGreat.C
