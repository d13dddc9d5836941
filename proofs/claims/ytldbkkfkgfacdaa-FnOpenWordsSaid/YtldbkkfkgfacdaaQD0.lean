-- printed by wip/drv/xprint.py (our driver), shortened by wip/drv/squeeze.py: those functions that the claim reaches; Lean checks it
import Derived.Test.YtldbkkfkgfacdaaQA2
namespace Go.Proofs.Ytldbkkfkgfacdaa.P
open Go.Proofs.Ytldbkkfkgfacdaa.Short Go.RowKit Go.Proofs.YtldbkkfkgfacdaaW.PrintWords Go.Proofs.YtldbkkfkgfacdaaW.PrintLast Go.Proofs.YtldbkkfkgfacdaaW.PrintMore
attribute [local go_sem] max2_int min2_int max_two min_two max_three min_three max_four min_four   -- for this text's walks alone
set_option linter.unusedVariables false
set_option linter.unusedSimpArgs false



set_option maxHeartbeats 8000000
set_option maxRecDepth 100000
/-! ### impl_closes: function 90 -/
/-! ### impl_isMeanderWord: function 75 -/
/-! ### impl_meanderOf: function 76 -/
/-! ### impl_FromPermutation: function 40 -/
/-! ### spec_peClosed: function 66 -/
/-! ### spec_peMeander: function 67 -/
/-! ### impl_isSystem: function 95 -/
/-! ### impl_IsSystem: function 85 -/
/-! ### impl_IsPair: function 68 -/
/-! ### impl_Meander_way: function 70 -/
def impl_Meander_way.l0 : Nat → Int → List Int → Int → List Int → List Int → Option (List Int)
 | 0, _, _, _, _, _ => none
 | k + 1, x1, x5, x6, x843000, x843001 => if 0 ≤ x6 then (if x6 < (x843000.length : Int) then ((some (([x6, rd x843000 x6] : List Int) : List Int)).bind fun y847 => (if x5.length + y847.length < 17592186044416 then ((some (x5 ++ y847 : List Int)).bind fun y850 => (if 0 ≤ (rd x843000 x6) then (if (rd x843000 x6) < (x843001.length : Int) then (if (rd x843001 (rd x843000 x6)) = x1 then (some y850) else (impl_Meander_way.l0 k x1 y850 (rd x843001 (rd x843000 x6)) x843000 x843001)) else (none)) else (none))) else (none))) else (none)) else (none)
def impl_Meander_way.f (k : Nat) (l0_0 : List Int) (l0_1 : List Int) (a1 : Int) : Option (List Int) := impl_Meander_way.l0 k a1 (([] : List Int)) a1 l0_0 l0_1
/-! ### bits_Mul64: function 131 -/
/-! ### bits_Mul: function 122 -/
/-! ### slices_Repeat_int_int: function 105 -/
def slices_Repeat_int_int.lay (x : Int) (m n : Nat) : List Int := List.replicate m x ++ List.replicate (n - m) 0
theorem slices_Repeat_int_int.size {i0 : TypeInfo} (h : Try.prog.info? 3 = some i0) (h1 : i0.size = 1) : (Try.prog.info? 3).map (·.size) = some 1 := by rw [h]; simp [h1]
theorem slices_Repeat_int_int.first (x : Int) (n : Nat) : splice (nums .i64 (slices_Repeat_int_int.lay x 0 n)) 0 ((nums .i64 [x]).take (min 1 n)) = nums .i64 (slices_Repeat_int_int.lay x (min 1 n) n) := by
  cases n with
  | zero => rfl
  | succ n =>
    have : min 1 (n + 1) = 1 := by omega
    rw [this]
    simp [splice, nums, slices_Repeat_int_int.lay, List.replicate_succ]
theorem slices_Repeat_int_int.below {w W w1 : World} {g : Nat} {cs : Array Value} (hb : Below w.heap.size w W) (hg : w.heap.size ≤ g) (hw : w1 = W.drew.setRow g cs) : Below w.heap.size w w1 := by
  rw [hw]; exact below_setRow (below_drew hb) hg cs
/-! ### impl_Meander_curves: function 96 -/
mutual
def impl_Meander_curves.l0 : Nat → List Int → Int → Int → Int → List Int → List Int → Option (List Int × Int)
 | 0, _, _, _, _, _, _ => none
 | k + 1, x4, x5, x15, x16, x857000, x857001 => if x16 < x15 then (if 0 ≤ x16 then (if x16 < (x4.length : Int) then (if (rd x4 x16) ≥ 0 then (impl_Meander_curves.l0 k x4 x5 x15 (wrap64 (x16 + 1)) x857000 x857001) else ((impl_Meander_way.f k x857000 x857001 x16).bind fun t864 => (impl_Meander_curves.l1 k x4 x5 x15 x16 t864 (t864.length : Int) 0 x857000 x857001))) else (none)) else (none)) else (some (x4, x5))
def impl_Meander_curves.l1 : Nat → List Int → Int → Int → Int → List Int → Int → Int → List Int → List Int → Option (List Int × Int)
 | 0, _, _, _, _, _, _, _, _, _ => none
 | k + 1, x4, x5, x15, x16, x26, x27, x28, x857000, x857001 => if x28 < x27 then (if 0 ≤ x28 then (if x28 < (x26.length : Int) then (if 0 ≤ (rd x26 x28) then (if (rd x26 x28) < (x4.length : Int) then (impl_Meander_curves.l1 k (x4.set ((rd x26 x28) : Int).toNat x5) x5 x15 x16 x26 x27 (wrap64 (x28 + 1)) x857000 x857001) else (none)) else (none)) else (none)) else (none)) else (impl_Meander_curves.l0 k x4 (wrap64 (x5 + 1)) x15 (wrap64 (x16 + 1)) x857000 x857001)
end
/-! ### impl_Meander_components: function 86 -/
/-! ### impl_Meander_isOne: function 69 -/
/-! ### impl_PermutationOf: function 32 -/
-- NOT PRINTED: function 30 (impl_ClosedToOpen)
/-! ### spec_DrawIsMeander: function 71 -/
/-! ### spec_DrawFromPermutation: function 39 -/
/-! ### spec_FromPermutation: function 41 -/
end Go.Proofs.Ytldbkkfkgfacdaa.P
