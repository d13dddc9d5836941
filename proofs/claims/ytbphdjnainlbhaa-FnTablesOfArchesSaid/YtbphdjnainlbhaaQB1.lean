-- printed by wip/drv/xprint.py (our driver), shortened by wip/drv/squeeze.py: those functions that the claim reaches; Lean checks it
import Derived.Test.YtbphdjnainlbhaaQB0
namespace Go.Proofs.Ytbphdjnainlbhaa.R
open Go.Proofs.Ytbphdjnainlbhaa.Short Go.RowKit Go.Proofs.YtbphdjnainlbhaaW.PrintWords Go.Proofs.YtbphdjnainlbhaaW.PrintLast Go.Proofs.YtbphdjnainlbhaaW.PrintMore
attribute [local go_sem] max2_int min2_int max_two min_two max_three min_three max_four min_four   -- for this text's walks alone
set_option linter.unusedVariables false
set_option linter.unusedSimpArgs false



set_option maxHeartbeats 8000000
set_option maxRecDepth 100000
/-! ### bits_Mul64: function 123 -/
def bits_Mul64.f (a0 : Int) (a1 : Int) : Option (Int × Int) := some (IntKind.u64.wrap ((IntKind.u64.wrap ((IntKind.u64.wrap ((a0 / 4294967296) * (a1 / 4294967296))) + ((IntKind.u64.wrap ((IntKind.u64.wrap ((a0 / 4294967296) * (Go.bits .and .u64 a1 4294967295))) + ((IntKind.u64.wrap ((Go.bits .and .u64 a0 4294967295) * (Go.bits .and .u64 a1 4294967295))) / 4294967296))) / 4294967296))) + ((IntKind.u64.wrap ((Go.bits .and .u64 (IntKind.u64.wrap ((IntKind.u64.wrap ((a0 / 4294967296) * (Go.bits .and .u64 a1 4294967295))) + ((IntKind.u64.wrap ((Go.bits .and .u64 a0 4294967295) * (Go.bits .and .u64 a1 4294967295))) / 4294967296))) 4294967295) + (IntKind.u64.wrap ((Go.bits .and .u64 a0 4294967295) * (a1 / 4294967296))))) / 4294967296)), IntKind.u64.wrap (a0 * a1))
theorem bits_Mul64.calls (a0 : Int) (a1 : Int) (r1 : Int) (r2 : Int) (w : World) (h : bits_Mul64.f a0 a1 = some (r1, r2)) :
  Calls Try.prog 123 #[.int .u64 a0, .int .u64 a1] w fun e w' => e = .returned (.tuple #[.int .u64 r1, .int .u64 r2]) ∧ Drawn0 w w' := by
 have H : (some (IntKind.u64.wrap ((IntKind.u64.wrap ((IntKind.u64.wrap ((a0 / 4294967296) * (a1 / 4294967296))) + ((IntKind.u64.wrap ((IntKind.u64.wrap ((a0 / 4294967296) * (Go.bits .and .u64 a1 4294967295))) + ((IntKind.u64.wrap ((Go.bits .and .u64 a0 4294967295) * (Go.bits .and .u64 a1 4294967295))) / 4294967296))) / 4294967296))) + ((IntKind.u64.wrap ((Go.bits .and .u64 (IntKind.u64.wrap ((IntKind.u64.wrap ((a0 / 4294967296) * (Go.bits .and .u64 a1 4294967295))) + ((IntKind.u64.wrap ((Go.bits .and .u64 a0 4294967295) * (Go.bits .and .u64 a1 4294967295))) / 4294967296))) 4294967295) + (IntKind.u64.wrap ((Go.bits .and .u64 a0 4294967295) * (a1 / 4294967296))))) / 4294967296)), IntKind.u64.wrap (a0 * a1))) = some (r1, r2) := h; clear h; simp only [Option.some.injEq, Prod.mk.injEq] at H; obtain ⟨rfl, rfl⟩ := H; go_enter Try.func123, Try.ntmps123; go_wp2; go_ret2; exact ⟨sr2, by repeat (first | exact Drawn0.refl _ | apply Drawn0.step)⟩
/-! ### bits_Mul: function 110 -/
def bits_Mul.f (a0 : Int) (a1 : Int) : Option (Int × Int) := (bits_Mul64.f a0 a1).bind fun bt374 => (some (bt374.1, bt374.2))
theorem bits_Mul.calls (a0 : Int) (a1 : Int) (r1 : Int) (r2 : Int) (w : World) (h : bits_Mul.f a0 a1 = some (r1, r2)) :
  Calls Try.prog 110 #[.int .u64 a0, .int .u64 a1] w fun e w' => e = .returned (.tuple #[.int .u64 r1, .int .u64 r2]) ∧ Drawn0 w w' := by
 have H : ((bits_Mul64.f a0 a1).bind fun bt374 => (some (bt374.1, bt374.2))) = some (r1, r2) := h; clear h; obtain ⟨⟨t374, t375⟩, A3, H⟩ := bi H; (try dsimp only at H); simp only [Option.some.injEq, Prod.mk.injEq] at H; obtain ⟨rfl, rfl⟩ := H; go_enter Try.func110, Try.ntmps110; go_wp2_with (first | (go_at_call 123; (with_reducible refine (bits_Mul64.calls a0 a1 t374 t375 _ A3.out).mono ?_); rintro e w' ⟨rfl, ⟨nd, rfl⟩⟩)); go_ret2; exact ⟨sr2, by repeat (first | exact Drawn0.refl _ | apply Drawn0.step)⟩
/-! ### slices_Repeat_int_int: function 104 -/
def slices_Repeat_int_int.f (l0 : List Int) (a1 : Int) : Option (List Int) := if l0.length = 1 ∧ 0 ≤ a1 ∧ a1 ≤ 64 then some (List.replicate a1.toNat (l0.getD 0 0)) else none
theorem slices_Repeat_int_int.mul : ∀ m : Fin 65, bits_Mul.f 1 (m.val : Int) = some (0, (m.val : Int)) := by decide +kernel
def slices_Repeat_int_int.lay (x : Int) (m n : Nat) : List Int := List.replicate m x ++ List.replicate (n - m) 0
/-- A copy within one row of the call's own, as one step of a region that draws. -/
theorem step_copy_own {P : Program} {ops : Array Oper} {o : Oper} {a : Act} {w : World} {K : Act → World → Prop} {Q : Exit → Act → World → Prop} {E : Prop} (hgd : o.guard = none) (d s : Operand) (dT sT : TypeId)
    (ho : o.op = .call { callee := .builtin .copy, args := #[d, s], argTypes := #[dT, sT] }) (elem : TypeId) (hu : P.underlying dT = some (.slice elem)) (hsz : (P.info? elem).map (·.size) = some 1)
    (g off dLen dCap : Nat) (ad : Addr) (sLen sCap : Nat) (hd : a.eval d = .slice (some ⟨g, off, none⟩) dLen dCap) (hs : a.eval s = .slice (some ad) sLen sCap)
    (cur : Array Value) (t : TypeId) (hg : w.heap[g]? = some (.cells cur t (0, 0))) (cs : List Value) (hn : cs.length = Nat.min sLen dLen)
    (hsrc : ∀ j v, cs[j]? = some v → w.cell? (ad.add j) = some v) (hfit : off + cs.length ≤ cur.size) (h1 : ∀ v ∈ cs, v.oneCell' = true)
    (h : ∀ w1, w1 = w.setRow g (cur.toList.take off ++ cs ++ cur.toList.drop (off + cs.length)).toArray → K (a.put o.dst (goInt cs.length)) w1) :
    if Region.wanted o (yielded ops a.tmps) = true then Oper.wp P o a w K Q else E := by
  have hw : Region.wanted o (yielded ops a.tmps) = true := by simp [Region.wanted, hgd]
  rw [if_pos hw]
  have hrun := run_copy_row (P := P) w dT sT o.type elem g off dLen dCap ad sLen sCap cur t cs hu hsz hg hn hsrc hfit h1
  have h' := h _ rfl
  unfold Oper.wp
  simp only [execOp, ho, resolve, invoke, builtin, List.map_toArray, List.map_cons, List.map_nil, hd, hs, Sem.run_bind, Sem.run_pure, hrun, Result.andThen_ok]
  exact h'
theorem slices_Repeat_int_int.row (x : Int) (m n : Nat) (h1 : 1 ≤ m) (h2 : m ≤ n) : (nums .i64 (slices_Repeat_int_int.lay x m n)).take m ++ (nums .i64 (slices_Repeat_int_int.lay x m n)).take (min m (n - m)) ++ (nums .i64 (slices_Repeat_int_int.lay x m n)).drop (m + min m (n - m)) = nums .i64 (slices_Repeat_int_int.lay x (m + min m (n - m)) n) := by
  unfold slices_Repeat_int_int.lay nums
  simp only [List.map_append, List.map_replicate]
  rw [List.take_append_of_le_length (by simp), List.take_append_of_le_length (by simp; omega), List.drop_append]
  simp only [List.take_replicate, List.drop_replicate, List.length_replicate, Nat.min_self]
  rw [show m - (m + min m (n - m)) = 0 by omega, List.replicate_zero, List.nil_append]
  congr 1
  · rw [← List.replicate_append_replicate]; simp
  · congr 1; omega
theorem slices_Repeat_int_int.cells {x : Int} {n g : Nat} {W : World} {base : Nat} (h : W.ownsRow base 3 1 (.slice (some ⟨g, 0, none⟩) n n) n (madeCells (Value.int .i64 0).cells (n * 1)).toList) : W.heap[g]? = some (.cells (nums .i64 (slices_Repeat_int_int.lay x 0 n)).toArray 3 (0, 0)) := by
  obtain ⟨_, h2⟩ := h
  rcases h2 with ⟨h2, _⟩ | ⟨g', cap, cur, e1, _, hh, _, _, hs, ht⟩
  · cases h2
  · injection e1 with e2 _ e3
    injection e2 with e4
    injection e4 with e5
    subst e5 e3
    rw [hh]
    have e6 : (madeCells (Value.int .i64 0).cells (n * 1)).toList = List.replicate n (.int .i64 0) := by
      rw [Nat.mul_one]; exact toList_madeCells_one _ n
    rw [e6, List.take_of_length_le (by simp [hs])] at ht
    have e7 : cur = (nums .i64 (slices_Repeat_int_int.lay x 0 n)).toArray := by
      apply Array.toList_inj.1
      rw [ht]; simp [nums, slices_Repeat_int_int.lay]
    rw [e7]
theorem slices_Repeat_int_int.src {x : Int} {n : Nat} {ad : Addr} {W : World} (h : W.cell? ad = some (.int .i64 x)) {j : Nat} {v : Value} (hj : ((nums .i64 [x]).take (min 1 n))[j]? = some v) : W.cell? (ad.add j) = some v := by
  have hj0 : j = 0 := by
    have := (List.getElem?_eq_some_iff.1 hj).1
    simp [nums] at this; omega
  subst hj0
  have e : v = .int .i64 x := by
    have := List.mem_of_mem_take (List.mem_of_getElem? hj)
    simpa [nums] using this
  subst e
  simpa [Addr.add] using h
theorem slices_Repeat_int_int.len (x : Int) (n : Nat) : (goInt ((nums .i64 [x]).take (min 1 n)).length) = .int .i64 ((min 1 n : Nat) : Int) := by
  simp [nums, goInt]
  try omega
theorem slices_Repeat_int_int.len0 (x : Int) (n : Nat) : ((nums .i64 [x]).take (min 1 n)).length = Nat.min 1 n := by
  simp only [nums, List.map_cons, List.map_nil, List.length_take, List.length_cons, List.length_nil]
  have : Nat.min 1 n = min 1 n := rfl
  omega
theorem slices_Repeat_int_int.fit (x : Int) (n : Nat) : 0 + ((nums .i64 [x]).take (min 1 n)).length ≤ (nums .i64 (slices_Repeat_int_int.lay x 0 n)).length := by
  simp only [nums, slices_Repeat_int_int.lay, List.map_cons, List.map_nil, List.length_take, List.length_cons, List.length_nil, List.length_map, List.length_append, List.length_replicate]
  omega
theorem slices_Repeat_int_int.one (x : Int) (n : Nat) : ∀ v ∈ (nums .i64 [x]).take (min 1 n), v.oneCell' = true := by
  intro v hv
  have := List.mem_of_mem_take hv
  simp [nums] at this
  subst this
  rfl
theorem slices_Repeat_int_int.size {i0 : TypeInfo} (h : Try.prog.info? 3 = some i0) (h1 : i0.size = 1) : (Try.prog.info? 3).map (·.size) = some 1 := by rw [h]; simp [h1]
theorem slices_Repeat_int_int.first (x : Int) (n : Nat) : splice (nums .i64 (slices_Repeat_int_int.lay x 0 n)) 0 ((nums .i64 [x]).take (min 1 n)) = nums .i64 (slices_Repeat_int_int.lay x (min 1 n) n) := by
  cases n with
  | zero => rfl
  | succ n =>
    have : min 1 (n + 1) = 1 := by omega
    rw [this]
    simp [splice, nums, slices_Repeat_int_int.lay, List.replicate_succ]
theorem slices_Repeat_int_int.wrapq (m q : Nat) (h : m + q ≤ 64) : IntKind.i64.wrap ((m : Int) + (q : Int)) = ((m + q : Nat) : Int) := by
  rw [i64_w]; unfold wrap64; omega
theorem slices_Repeat_int_int.done {x : Int} {n g : Nat} {w W : World} (hn : n ≤ 64) (hg : W.heap[g]? = some (.cells (nums .i64 (slices_Repeat_int_int.lay x n n)).toArray 3 (0, 0))) (hb : w.heap.size ≤ g) :
    Kd.R (Kd.int .i64) 3 W w.heap.size (fun _ => True) (.slice (some ⟨g, 0, none⟩) n n) (List.replicate n x) := by
  refine Kd.R_of_own ?_ (fun _ _ => trivial)
  refine ⟨by simp [encs], .inr ⟨g, n, _, by simp, hb, hg, by simp, by unfold maxLen; omega, by simp [nums, slices_Repeat_int_int.lay], ?_⟩⟩
  simp [nums, slices_Repeat_int_int.lay, encs]
theorem slices_Repeat_int_int.src2 {x : Int} {m n g : Nat} {W : World} (h1 : m ≤ n) (hg : W.heap[g]? = some (.cells (nums .i64 (slices_Repeat_int_int.lay x m n)).toArray 3 (0, 0))) {j : Nat} {v : Value} (hj : ((nums .i64 (slices_Repeat_int_int.lay x m n)).take (min m (n - m)))[j]? = some v) :
    W.cell? ((⟨g, 0, none⟩ : Addr).add j) = some v := by
  have hlt := (List.getElem?_eq_some_iff.1 hj).1
  rw [List.length_take] at hlt
  rw [List.getElem?_take_of_lt (by omega)] at hj
  have e : (⟨g, 0, none⟩ : Addr).add j = ⟨g, j, none⟩ := by unfold Addr.add; split <;> simp_all
  rw [e]
  simp only [World.cell?, hg]
  simpa using hj
theorem slices_Repeat_int_int.len2 (x : Int) (m n : Nat) (h1 : m ≤ n) : ((nums .i64 (slices_Repeat_int_int.lay x m n)).take (min m (n - m))).length = Nat.min m (n - m) := by
  simp only [nums, slices_Repeat_int_int.lay, List.length_take, List.length_map, List.length_append, List.length_replicate]
  have : Nat.min m (n - m) = min m (n - m) := rfl
  omega
theorem slices_Repeat_int_int.one2 (x : Int) (m n q : Nat) : ∀ v ∈ (nums .i64 (slices_Repeat_int_int.lay x m n)).take q, v.oneCell' = true := by
  intro v hv
  have := List.mem_of_mem_take hv
  simp only [nums, List.mem_map] at this
  obtain ⟨y, _, rfl⟩ := this
  rfl
theorem slices_Repeat_int_int.fit2 (x : Int) (m n : Nat) (h1 : m ≤ n) : m + ((nums .i64 (slices_Repeat_int_int.lay x m n)).take (min m (n - m))).length ≤ (nums .i64 (slices_Repeat_int_int.lay x m n)).toArray.size := by
  rw [slices_Repeat_int_int.len2 x m n h1]
  have : Nat.min m (n - m) = min m (n - m) := rfl
  simp only [nums, slices_Repeat_int_int.lay, List.size_toArray, List.length_map, List.length_append, List.length_replicate]
  omega
theorem slices_Repeat_int_int.next {x : Int} {m n q g : Nat} {W w1 : World} {cs : List Value} (hg : W.heap[g]? = some (.cells (nums .i64 (slices_Repeat_int_int.lay x m n)).toArray 3 (0, 0)))
    (hr : (nums .i64 (slices_Repeat_int_int.lay x m n)).take m ++ cs ++ (nums .i64 (slices_Repeat_int_int.lay x m n)).drop (m + q) = nums .i64 (slices_Repeat_int_int.lay x (m + q) n)) (hq : q = cs.length)
    (hw : w1 = W.drew.setRow g ((nums .i64 (slices_Repeat_int_int.lay x m n)).toArray.toList.take m ++ cs ++ (nums .i64 (slices_Repeat_int_int.lay x m n)).toArray.toList.drop (m + cs.length)).toArray) :
    w1.heap[g]? = some (.cells (nums .i64 (slices_Repeat_int_int.lay x (m + q) n)).toArray 3 (0, 0)) := by
  rw [hw, setRow_heap W.drew g _ _ 3 (0, 0) hg, ← hr, hq]
theorem slices_Repeat_int_int.below {w W w1 : World} {g : Nat} {cs : Array Value} (hb : Below w.heap.size w W) (hg : w.heap.size ≤ g) (hw : w1 = W.drew.setRow g cs) : Below w.heap.size w w1 := by
  rw [hw]; exact below_setRow (below_drew hb) hg cs
theorem slices_Repeat_int_int.calls (A0 : Option Addr) (c0 : Nat) (l0 : List Int) (a1 : Int) (r : List Int) (w : World) (hr0 : Kd.C (Kd.int .i64) w A0 l0.length l0) (hc0 : l0.length ≤ c0) (h : slices_Repeat_int_int.f l0 a1 = some r) :
    Calls Try.prog 104 #[.slice A0 l0.length c0, .int .i64 a1] w fun e w' => ∃ v0_ : Value, e = .returned (v0_) ∧ Kd.R (Kd.int .i64) 3 w' w.heap.size (fun _ => True) v0_ r ∧ Below w.heap.size w w' := by
  obtain ⟨x, n, rfl, rfl, hle, rfl⟩ : ∃ (x : Int) (n : Nat), l0 = [x] ∧ a1 = (n : Int) ∧ n ≤ 64 ∧ r = List.replicate n x := by
    unfold slices_Repeat_int_int.f at h
    split at h
    · rename_i hc
      obtain ⟨h1, h2, h3⟩ := hc
      obtain ⟨x, rfl⟩ : ∃ x, l0 = [x] := by
        match l0, h1 with
        | [x], _ => exact ⟨x, rfl⟩
      exact ⟨x, a1.toNat, rfl, by omega, by omega, (Option.some.inj h).symm⟩
    · cases h
  clear h
  have hm := slices_Repeat_int_int.mul ⟨n, by omega⟩
  simp only at hm
  obtain ⟨ad, c, rfl, hcl, hK, hcell⟩ := Kd.C_get hr0 (0 : Int) 0 (by omega) (by simp)
  have hc1 : c = [.int .i64 x] := hK
  subst hc1
  have hcc : w.cell? ad = some (.int .i64 x) := by
    have e := hcell 0 _ rfl
    simpa [Addr.add] using e
  obtain ⟨i0, hi, hzz⟩ := Option.map_eq_some_iff.1 info3
  simp only [Prod.mk.injEq] at hzz
  obtain ⟨hz0, hz1, hz2⟩ := hzz
  have HI := Aside0.mk hi
  have HZ0 := Aside0.mk hz0
  have HZ1 := Aside0.mk hz1
  have HZ2 := Aside0.mk hz2
  have HM := Aside0.mk hm
  have HCC := Aside0.mk hcc
  have HLT := Aside0.mk (World.block_lt_of_cell? _ _ hcc)
  have HC0 := Aside0.mk hc0
  clear hi hz0 hz1 hz2 hm hcc hcell hK hcl hr0 hc0
  have hu0_ := Try.underlying35
  have hn0 : (0 : Int) ≤ (n : Int) := by omega
  have hn1 : (n : Int) ≤ 64 := by omega
  go_enter Try.func104, Try.ntmps104
  go_wp2_with (first
    | (go_at_call 110; refine (bits_Mul.calls 1 (n : Int) 0 (n : Int) _ HM.out).mono ?_; rintro e w' ⟨rfl, ⟨nd, rfl⟩⟩)
    | ((with_reducible refine gate_dst (N := 30) rfl ?_); go_must (refine wpList_make_full _ rfl (.tmp 29) (.tmp 29) 35 rfl w.heap.size 3 i0 (.int .i64 0) 1 Try.underlying35 HI.out HZ0.out HZ1.out .i64 .i64 n n n rfl rfl rfl rfl ?b2 ?b3 ?b4 ?K
                                                                   case b2 => rw [HZ2.out]; omega
                                                                   case b3 => unfold maxLen; omega
                                                                   case b4 => simp
                                                                   intro w2 hown hgr
                                                                   obtain ⟨g, hg⟩ : ∃ g, g = (w.drewN nd).heap.size := ⟨_, rfl⟩
                                                                   rw [← hg] at hown ⊢
                                                                   have HGE := Aside0.mk (show w.heap.size ≤ g by rw [hg]; exact Nat.le_refl _)
                                                                   have HB := Aside0.mk (pw_below_grown (pw_below_drewN (Below.refl w.heap.size w) nd) none (Nat.le_refl _) hgr (by simp))
                                                                   have HG := Aside0.mk (slices_Repeat_int_int.cells (x := x) hown)
                                                                   have HCW := Aside0.mk ((HB.out.cell (p := ad) HLT.out).trans HCC.out)
                                                                   clear hg hown hgr))
    | ((with_reducible refine gate_dst (N := 33) rfl ?_); go_must (refine wpList_copy_splice rfl (.tmp 31) (.tmp 32) 35 35 rfl 3 Try.underlying35 ?hsz (some ⟨g, 0, none⟩) (some ad) n n 1 c0 ?e1 ?e2 g 0 (nums .i64 (slices_Repeat_int_int.lay x 0 n)) 3 HG.out ((nums .i64 [x]).take (min 1 n)) ?hn ?hpos ?hfit ?h1 w.heap.size w HB.out HGE.out ?_
                                                                   case hsz => exact slices_Repeat_int_int.size HI.out HZ1.out
                                                                   case e1 => rfl
                                                                   case e2 => rfl
                                                                   case hn => exact slices_Repeat_int_int.len0 x n
                                                                   case hpos => intro _; refine ⟨rfl, ad, rfl, ?_⟩; intro j v hj; exact slices_Repeat_int_int.src (HCW.out) hj
                                                                   case hfit => exact slices_Repeat_int_int.fit x n
                                                                   case h1 => exact slices_Repeat_int_int.one x n
                                                                   intro w3 hg3 hb3
                                                                   have HG3 := Aside0.mk (show w3.heap[g]? = some (.cells (nums .i64 (slices_Repeat_int_int.lay x (min 1 n) n)).toArray 3 (0, 0)) by rw [← slices_Repeat_int_int.first]; exact hg3.out)
                                                                   have HB3 := Aside0.mk hb3
                                                                   clear hg3 hb3 HG HB HCW
                                                                   rw [show (goInt ((nums .i64 [x]).take (min 1 n)).length) = .int .i64 ((min 1 n : Nat) : Int) from slices_Repeat_int_int.len x n]))
    | fail)
  go_loopw [8] (fun v8 w' => ∃ m : Nat, v8 = .int .i64 (m : Int) ∧ Aside0 (m ≤ n ∧ (1 ≤ m ∨ n = 0)) ∧ Aside0 (w'.heap[g]? = some (.cells (nums .i64 (slices_Repeat_int_int.lay x m n)).toArray 3 (0, 0))) ∧ Aside0 (Below w.heap.size w w')) (fun v8 _ => n - (intOf v8).toNat)
  case atStart => exact ⟨min 1 n, rfl, ⟨by omega⟩, HG3, HB3⟩
  case round =>
    obtain ⟨m, rfl, HMN, HGm, HBm⟩ := hrel
    by_cases hlt : m < n
    · have h1m : 1 ≤ m := by have := HMN.out; omega
      have hmi : (m : Int) < (n : Int) := by omega
      have hmi2 : (m : Int) ≤ (n : Int) := by omega
      have hnm : ¬ n = m := by omega
      obtain ⟨cs, hcs⟩ : ∃ cs, cs = (nums .i64 (slices_Repeat_int_int.lay x m n)).take (min m (n - m)) := ⟨_, rfl⟩
      have L1 := slices_Repeat_int_int.len2 x m n (by omega)
      have L2 : ∀ j v, cs[j]? = some v → wr.cell? ((⟨g, 0, none⟩ : Addr).add j) = some v := fun j v hj => slices_Repeat_int_int.src2 (by omega) HGm.out (by rw [← hcs]; exact hj)
      have L3 := slices_Repeat_int_int.fit2 x m n (by omega)
      have L4 := slices_Repeat_int_int.one2 x m n (min m (n - m))
      have L5 := slices_Repeat_int_int.row x m n h1m (by omega)
      rw [← hcs] at L1 L3 L4
      have hml : (nums .i64 (slices_Repeat_int_int.lay x m n)).take (min m (n - m)) = cs := hcs.symm
      rw [hml] at L5
      obtain ⟨q, hq⟩ : ∃ q, q = cs.length := ⟨_, rfl⟩
      have hq1 : 1 ≤ q := by rw [hq, L1]; have : Nat.min m (n - m) = min m (n - m) := rfl; omega
      have hq2 : m + q ≤ n := by rw [hq, L1]; have : Nat.min m (n - m) = min m (n - m) := rfl; omega
      have hq3 : min m (n - m) = q := by rw [hq, L1]
      rw [hq3] at L5
      have H1 := Aside0.mk L1
      have H2 := Aside0.mk L2
      have H3 := Aside0.mk L3
      have H4 := Aside0.mk L4
      have H5 := Aside0.mk L5
      have HQ := Aside0.mk hq
      clear hcs hml L1 L2 L3 L4 L5 hq hq3
      go_wp2_with fail
      go_region_law (refine step_copy_own rfl (.tmp 41) (.tmp 44) 35 35 rfl 3 Try.underlying35 (slices_Repeat_int_int.size HI.out HZ1.out) g m (n - m) (n - m) ⟨g, 0, none⟩ m n (by simp [Act.eval, Act.put, hnm]) (by simp [Act.eval, Act.put]) _ 3 HGm.out cs H1.out H2.out H3.out H4.out ?_; intro w1 hw1; (have HG1 := Aside0.mk (slices_Repeat_int_int.next HGm.out H5.out HQ.out hw1)); (have HB1 := Aside0.mk (slices_Repeat_int_int.below HBm.out HGE.out hw1)); clear hw1; rw [show goInt cs.length = .int .i64 (q : Int) by rw [HQ.out]; rfl])
      go_simp
      rw [slices_Repeat_int_int.wrapq m q (by omega)]
      go_roundw

      case rel => exact ⟨_, _, _, _, _, _, _, _, _, _, _, _, _, _, ⟨m + q, rfl, ⟨by omega⟩, HG1, HB1⟩, rfl⟩
      case measure => simp [intOf]; omega
    · have hmn : m = n := by have := HMN.out; omega
      subst hmn
      go_wp2
      go_ret
      exact ⟨_, rfl, slices_Repeat_int_int.done hle HGm.out HGE.out, HBm.out⟩
/-! ### impl_Meander_way: function 105 -/
def impl_Meander_way.l0 : Nat → Int → List Int → Int → List Int → List Int → Option (List Int)
 | 0, _, _, _, _, _ => none
 | k + 1, x1, x5, x6, x377000, x377001 => if 0 ≤ x6 then (if x6 < (x377000.length : Int) then ((some (([x6, rd x377000 x6] : List Int) : List Int)).bind fun y381 => (if x5.length + y381.length < 17592186044416 then ((some (x5 ++ y381 : List Int)).bind fun y384 => (if 0 ≤ (rd x377000 x6) then (if (rd x377000 x6) < (x377001.length : Int) then (if (rd x377001 (rd x377000 x6)) = x1 then (some y384) else (impl_Meander_way.l0 k x1 y384 (rd x377001 (rd x377000 x6)) x377000 x377001)) else (none)) else (none))) else (none))) else (none)) else (none)
def impl_Meander_way.f (k : Nat) (l0_0 : List Int) (l0_1 : List Int) (a1 : Int) : Option (List Int) := impl_Meander_way.l0 k a1 (([] : List Int)) a1 l0_0 l0_1
theorem impl_Meander_way.mono_l : ∀ k, (∀ y0 y1 y2 y3 y4, LeO (impl_Meander_way.l0 k y0 y1 y2 y3 y4) (impl_Meander_way.l0 (k + 1) y0 y1 y2 y3 y4))
 | 0 => fun _ _ _ _ _ r h => by simp [impl_Meander_way.l0] at h
 | k + 1 => by
  have ih0 := impl_Meander_way.mono_l k
  ·intro y0 y1 y2 y3 y4
   unfold impl_Meander_way.l0
   repeat' first
   | (with_reducible exact ih0 _ _ _ _ _)
   | (with_reducible exact LeO.refl _)
   | (with_reducible exact LeO.none _)
   | (with_reducible refine LeO.ite ?_ ?_)
   | (with_reducible refine LeO.bind ?_ (fun _ => ?_))
   | exact ih0 _ _ _ _ _
   | exact LeO.none _
   | refine LeO.ite ?_ ?_
   | refine LeO.bind ?_ (fun _ => ?_)
theorem impl_Meander_way.mono : ∀ a0 a1 a2 k, LeO (impl_Meander_way.f k a0 a1 a2) (impl_Meander_way.f (k + 1) a0 a1 a2) := by
 intro a0 a1 a2 k; have ih0 := impl_Meander_way.mono_l k; unfold impl_Meander_way.f
 repeat' first
   | (with_reducible exact ih0 _ _ _ _ _)
   | (with_reducible exact LeO.refl _)
   | (with_reducible exact LeO.none _)
   | (with_reducible refine LeO.ite ?_ ?_)
   | (with_reducible refine LeO.bind ?_ (fun _ => ?_))
   | exact ih0 _ _ _ _ _
   | exact LeO.none _
   | refine LeO.ite ?_ ?_
   | refine LeO.bind ?_ (fun _ => ?_)
theorem impl_Meander_way.calls (k : Nat) (A0_0 : Option Addr) (c0_0 : Nat) (l0_0 : List Int) (A0_1 : Option Addr) (c0_1 : Nat) (l0_1 : List Int) (a1 : Int) (r : List Int) (w : World) (hr0_0 : Kd.C (Kd.int .i64) w A0_0 l0_0.length l0_0) (hc0_0 : l0_0.length ≤ c0_0) (hr0_1 : Kd.C (Kd.int .i64) w A0_1 l0_1.length l0_1) (hc0_1 : l0_1.length ≤ c0_1) (h : impl_Meander_way.f k l0_0 l0_1 a1 = some r) :
  Calls Try.prog 105 #[.agg #[.slice A0_0 l0_0.length c0_0, .slice A0_1 l0_1.length c0_1], .int .i64 a1] w fun e w' => ∃ v0_ : Value, e = .returned (v0_) ∧ Kd.R (Kd.int .i64) 3 w' w.heap.size (fun _ => True) v0_ r ∧ Below w.heap.size w w' := by
 have hu71 := Try.underlying71; have HR0_0 := Aside0.mk hr0_0; have HC0_0 := Aside0.mk hc0_0; clear hr0_0 hc0_0; have HR0_1 := Aside0.mk hr0_1; have HC0_1 := Aside0.mk hc0_1; clear hr0_1 hc0_1; have HB := Aside0.mk (Below.refl w.heap.size w); have H : (impl_Meander_way.l0 k a1 (([] : List Int)) a1 l0_0 l0_1) = some r := h; clear h; obtain ⟨y377, hy377⟩ := yy (([] : List Int))
 (try rw [Option.bind_some] at H); (try dsimp only at H); rw [← hy377] at H
 have Ny377 := Aside0.mk hy377; clear hy377; have H' := Aside0.mk H; clear H; go_enter Try.func105, Try.ntmps105; go_wp2_with (first | ((with_reducible refine gate_dst (N := 2) rfl ?_); refine box_event ?hg (N := 2) ?hd (cs := #[.slice A0_0 l0_0.length c0_0, .slice A0_1 l0_1.length c0_1]) (t := 71) ?hr ?_; (case hd => rfl); (case hg => rfl); (case hr => first | (go_simp; done) | (go_simp; rfl)); intro gb376 hg w3 hbox hb; have BK376 := Aside0.mk (hbox); have GW376 := Aside0.mk ((by rw [hg]; exact (below_size (bl HB.out)) : w.heap.size ≤ gb376)); have GE376 := Aside0.mk ((by rw [hg]; exact (below_size (bl HB.out)) : w.heap.size ≤ gb376)); replace HB := bst HB hb; clear hb hbox hg) | ((with_reducible refine gate_dst (N := 8) rfl ?_); refine Kd.R_lit (Kd.int .i64) _ 3 ?hg (N := 8) ?hd (xs := ([] : List Int)) (inner := []) (ok := fun _ => True) (okp := fun _ => True) ?hr ?hp (fun _ hk => hk) trivial (Below.refl _ _) (Nat.le_refl _) (by simp) ?_; (case hd => rfl); (case hg => rfl); (case hr => first | (go_simp; done) | (go_simp; rfl)); (case hp => exact (Reps.none _ _)); intro v378 w4 ho5 hb hg_ hnew_; clear hg_ hnew_; (first | rw [← Ny377.out] at ho5 | (simp only [Int.reduceToNat] at ho5; rw [← Ny377.out] at ho5)); have HO379 := Aside0.mk (Kd.R_lower ho5 (below_size (bs1 HB.out GE376.out))); replace BK376 := bkb BK376 hb; replace HB := Aside0.mk (below_step (bs1 HB.out GE376.out) hb); clear hb ho5))
 go_loopg [5, 6] k (fun kq v5 v6 w' => ∃ (x5_1 : List Int) (x6_1 : Int), v6 = .int .i64 x6_1 ∧ Aside0 (impl_Meander_way.l0 kq a1 x5_1 x6_1 l0_0 l0_1 = some r) ∧ Aside0 (kq ≤ k) ∧ Aside0 (Kd.R (Kd.int .i64) 3 w' w.heap.size (fun _ => True) v5 x5_1) ∧ Aside0 (w'.heap[gb376]? = some (.cells #[(.slice A0_0 l0_0.length c0_0), (.slice A0_1 l0_1.length c0_1)] 71 (0, 0))) ∧ Aside0 (Below w.heap.size w w'))
 case atStart => exact ⟨(y377), (a1), (sr2), H', ⟨Nat.le_refl _⟩, ⟨rR HO379.out⟩, ⟨by (with_reducible repeat (first | refine blk_drewN ?_ _ | refine blk_drew ?_ | refine blk_alloc ?_ _)); exact BK376.out⟩, ⟨bs1 HB.out GE376.out⟩⟩
 case round =>
  clear H'; obtain ⟨x5_1, x6_1, rfl, HA, HK1, HO_5, BK376, HB⟩ := hrel
  cases gk with
  | zero => exact absurd HA.out (by simp [impl_Meander_way.l0])
  | succ k1 =>
   have H := HA.out; clear HA; simp only [impl_Meander_way.l0] at H
   by_cases c6 : 0 ≤ x6_1
   ·rw [if_pos c6] at H; have c6b0 := decide_eq_true c6; clear c6
    by_cases c7 : x6_1 < (l0_0.length : Int)
    ·rw [if_pos c7] at H; have c7b0 := decide_eq_true c7; clear c7; obtain ⟨y381, hy381⟩ := yy (([x6_1, rd l0_0 x6_1] : List Int))
     (try rw [Option.bind_some] at H); (try dsimp only at H); rw [← hy381] at H
     have Ny381 := Aside0.mk hy381; clear hy381
     by_cases c8 : x5_1.length + y381.length < 17592186044416
     ·rw [if_pos c8] at H; have LMc8 := Aside0.mk c8; clear c8; obtain ⟨y384, hy384⟩ := yy (x5_1 ++ y381)
      (try rw [Option.bind_some] at H); (try dsimp only at H); rw [← hy384] at H
      have Ny384 := Aside0.mk hy384; clear hy384
      by_cases c9 : 0 ≤ (rd l0_0 x6_1)
      ·rw [if_pos c9] at H; have c9b0 := decide_eq_true c9; clear c9
       by_cases c10 : (rd l0_0 x6_1) < (l0_1.length : Int)
       ·rw [if_pos c10] at H; have c10b0 := decide_eq_true c10; clear c10
        by_cases c11 : (rd l0_1 (rd l0_0 x6_1)) = a1
        ·rw [if_pos c11] at H; have c11b0 := beq_iff_eq.mpr c11; have c11b1 := bne_eq_false_iff_eq.mpr c11; clear c11; obtain rfl := Option.some.inj H; have hcz12_0 : wr.cell? ⟨gb376, 0, none⟩ = some (.slice A0_0 l0_0.length c0_0) := (blk_cell BK376.out 0).trans rfl; have hcz12_1 : wr.cell? ⟨gb376, 1, none⟩ = some (.slice A0_1 l0_1.length c0_1) := (blk_cell BK376.out 1).trans rfl; have hfz12_0 := blk_frozen BK376.out 0; have hfz12_1 := blk_frozen BK376.out 1; obtain ⟨ad380, e380, hx380_0, p380, q380⟩ := atI HR0_0.out x6_1; cases e380; replace hx380_0 := hbx HB hx380_0; go_wp2_with (first | ((with_reducible refine gate_dst (N := 18) rfl ?_); refine Kd.R_lit (Kd.int .i64) _ 3 ?hg (N := 18) ?hd (xs := ([x6_1, rd l0_0 x6_1] : List Int)) (inner := [.int .i64 x6_1, .int .i64 (rd l0_0 x6_1)]) (ok := fun _ => True) (okp := fun _ => True) ?hr ?hp (fun _ hk => hk) trivial (Below.refl _ _) (Nat.le_refl _) (by simp) ?_; (case hd => rfl); (case hg => rfl); (case hr => first | (go_simp; done) | (go_simp; rfl)); (case hp => exact (Reps.one (show Kd.M (Kd.int .i64) _ _ _ x6_1 [.int .i64 x6_1] from rfl) (Reps.one (show Kd.M (Kd.int .i64) _ _ _ (rd l0_0 x6_1) [.int .i64 (rd l0_0 x6_1)] from rfl) (Reps.none _ _)))); intro v382 w13 ho14 hb hg_ hnew_; clear hg_ hnew_; (first | rw [← Ny381.out] at ho14 | (simp only [Int.reduceToNat] at ho14; rw [← Ny381.out] at ho14)); have HO383 := Aside0.mk (Kd.R_lower (Kd.R_new' ho14 (Kd.R_lt (rR HO_5.out))) (below_size (bs1 HB.out GE376.out))); replace HO_5 := Aside0.mk (Kd.R_elder' (rR HO_5.out) (Kd.R_base ho14) hb); replace BK376 := bkb BK376 hb; replace HB := Aside0.mk (below_step (bs1 HB.out GE376.out) hb); clear hb ho14; obtain ⟨Ao16, co16, eo16⟩ := Kd.R_slice HO383.out; subst eo16) | ((with_reducible refine gate_builtin (b := .append) (xs := #[.tmp 15, .tmp 18]) rfl ?_); at_builtin; refine Kd.R_append_rows (Kd.int .i64) (w0 := w) w.heap.size rfl (.tmp 15) (.tmp 18) 35 3 (.int .i64 0) 8 rfl Try.underlying35 info3 rfl (by decide) (by omega) u5 x5_1 y381 _ _ _ (fun k_ => some k_ ≠ (.slice Ao16 y381.length co16 : Value).ownBlock) (fun _ => False) rfl rfl ?aO ?aR (fun _ _ h => h) (fun _ h => h.elim) ?aF ?aB ?aS (by have := LMc8.out; omega) ?_; (case aR => exact cw ((Kd.R_reads' HO383.out).2.2)); (case aB => exact (bs1 HB.out GE376.out)); (case aF => exact (fun k_ hk => Kd.fresh' (Kd.R_lt (rR HO383.out)) k_ hk)); (case aO => exact (rR (Kd.R_mono HO_5.out (fun _ hk => hk.2)))); (case aS => exact (below_size (bs1 HB.out GE376.out))); intro v385 w15 ho hb hg hat; rw [← Ny384.out] at ho; replace BK376 := Aside0.mk (blk_grown (bk BK376.out) hg (Kd.R_ne HO_5.out BK376.out (by decide))); replace HO383 := Aside0.mk (Kd.R_after (ok := (fun _ => True)) (rR HO383.out) hg hat); replace HB := Aside0.mk (hb); have HO386 := Aside0.mk (ho); clear HO_5; clear ho hb hg hat; have hcz17_0 : w15.cell? ⟨gb376, 0, none⟩ = some (.slice (some ad380) l0_0.length c0_0) := (blk_cell BK376.out 0).trans rfl; have hcz17_1 : w15.cell? ⟨gb376, 1, none⟩ = some (.slice A0_1 l0_1.length c0_1) := (blk_cell BK376.out 1).trans rfl; have hfz17_0 := blk_frozen BK376.out 0; have hfz17_1 := blk_frozen BK376.out 1; have p387 : 0 ≤ ((rd l0_0 x6_1) : Int) := od; have q387 : (rd l0_0 x6_1) < (l0_1.length : Int) := od; obtain ⟨ad387, e387, hx387_0⟩ := Kd.at_int HR0_1.out (rd l0_0 x6_1) p387 q387; cases e387; replace hx387_0 := hbx HB hx387_0; replace p387 := eq_true p387; replace q387 := eq_true q387)); go_ret; exact ⟨_, sr, rR (Kd.R_mono HO386.out (fun _ hk => trivial)), bs1 HB.out GE376.out⟩
        rw [if_neg c11] at H; have c11b0 := beq_eq_false_iff_ne.mpr c11; have c11b1 := bne_iff_ne.mpr c11; have H' := Aside0.mk H; clear H; have hcz18_0 : wr.cell? ⟨gb376, 0, none⟩ = some (.slice A0_0 l0_0.length c0_0) := (blk_cell BK376.out 0).trans rfl; have hcz18_1 : wr.cell? ⟨gb376, 1, none⟩ = some (.slice A0_1 l0_1.length c0_1) := (blk_cell BK376.out 1).trans rfl; have hfz18_0 := blk_frozen BK376.out 0; have hfz18_1 := blk_frozen BK376.out 1; obtain ⟨ad380, e380, hx380_0, p380, q380⟩ := atI HR0_0.out x6_1; cases e380; replace hx380_0 := hbx HB hx380_0; go_wp2_with (first | ((with_reducible refine gate_dst (N := 18) rfl ?_); refine Kd.R_lit (Kd.int .i64) _ 3 ?hg (N := 18) ?hd (xs := ([x6_1, rd l0_0 x6_1] : List Int)) (inner := [.int .i64 x6_1, .int .i64 (rd l0_0 x6_1)]) (ok := fun _ => True) (okp := fun _ => True) ?hr ?hp (fun _ hk => hk) trivial (Below.refl _ _) (Nat.le_refl _) (by simp) ?_; (case hd => rfl); (case hg => rfl); (case hr => first | (go_simp; done) | (go_simp; rfl)); (case hp => exact (Reps.one (show Kd.M (Kd.int .i64) _ _ _ x6_1 [.int .i64 x6_1] from rfl) (Reps.one (show Kd.M (Kd.int .i64) _ _ _ (rd l0_0 x6_1) [.int .i64 (rd l0_0 x6_1)] from rfl) (Reps.none _ _)))); intro v382 w19 ho20 hb hg_ hnew_; clear hg_ hnew_; (first | rw [← Ny381.out] at ho20 | (simp only [Int.reduceToNat] at ho20; rw [← Ny381.out] at ho20)); have HO383 := Aside0.mk (Kd.R_lower (Kd.R_new' ho20 (Kd.R_lt (rR HO_5.out))) (below_size (bs1 HB.out GE376.out))); replace HO_5 := Aside0.mk (Kd.R_elder' (rR HO_5.out) (Kd.R_base ho20) hb); replace BK376 := bkb BK376 hb; replace HB := Aside0.mk (below_step (bs1 HB.out GE376.out) hb); clear hb ho20; obtain ⟨Ao22, co22, eo22⟩ := Kd.R_slice HO383.out; subst eo22) | ((with_reducible refine gate_builtin (b := .append) (xs := #[.tmp 15, .tmp 18]) rfl ?_); at_builtin; refine Kd.R_append_rows (Kd.int .i64) (w0 := w) w.heap.size rfl (.tmp 15) (.tmp 18) 35 3 (.int .i64 0) 8 rfl Try.underlying35 info3 rfl (by decide) (by omega) u5 x5_1 y381 _ _ _ (fun k_ => some k_ ≠ (.slice Ao22 y381.length co22 : Value).ownBlock) (fun _ => False) rfl rfl ?aO ?aR (fun _ _ h => h) (fun _ h => h.elim) ?aF ?aB ?aS (by have := LMc8.out; omega) ?_; (case aR => exact cw ((Kd.R_reads' HO383.out).2.2)); (case aB => exact (bs1 HB.out GE376.out)); (case aF => exact (fun k_ hk => Kd.fresh' (Kd.R_lt (rR HO383.out)) k_ hk)); (case aO => exact (rR (Kd.R_mono HO_5.out (fun _ hk => hk.2)))); (case aS => exact (below_size (bs1 HB.out GE376.out))); intro v385 w21 ho hb hg hat; rw [← Ny384.out] at ho; replace BK376 := Aside0.mk (blk_grown (bk BK376.out) hg (Kd.R_ne HO_5.out BK376.out (by decide))); replace HO383 := Aside0.mk (Kd.R_after (ok := (fun _ => True)) (rR HO383.out) hg hat); replace HB := Aside0.mk (hb); have HO386 := Aside0.mk (ho); clear HO_5; clear ho hb hg hat; have hcz23_0 : w21.cell? ⟨gb376, 0, none⟩ = some (.slice (some ad380) l0_0.length c0_0) := (blk_cell BK376.out 0).trans rfl; have hcz23_1 : w21.cell? ⟨gb376, 1, none⟩ = some (.slice A0_1 l0_1.length c0_1) := (blk_cell BK376.out 1).trans rfl; have hfz23_0 := blk_frozen BK376.out 0; have hfz23_1 := blk_frozen BK376.out 1; have p387 : 0 ≤ ((rd l0_0 x6_1) : Int) := od; have q387 : (rd l0_0 x6_1) < (l0_1.length : Int) := od; obtain ⟨ad387, e387, hx387_0⟩ := Kd.at_int HR0_1.out (rd l0_0 x6_1) p387 q387; cases e387; replace hx387_0 := hbx HB hx387_0; replace p387 := eq_true p387; replace q387 := eq_true q387))
        go_roundg k1
        case measure => have := HK1.out; omega
        case rel => exact ⟨(y384), (rd l0_1 (rd l0_0 x6_1)), (sr2), H', ⟨by have := HK1.out; omega⟩, ⟨rR (Kd.R_mono HO386.out (fun _ hk => trivial))⟩, ⟨by (with_reducible repeat (first | refine blk_drewN ?_ _ | refine blk_drew ?_ | refine blk_alloc ?_ _)); exact BK376.out⟩, ⟨bs1 HB.out GE376.out⟩⟩
       rw [if_neg c10] at H; exact absurd H (by simp)
      rw [if_neg c9] at H; exact absurd H (by simp)
     rw [if_neg c8] at H; exact absurd H (by simp)
    rw [if_neg c7] at H; exact absurd H (by simp)
   rw [if_neg c6] at H; exact absurd H (by simp)
/-! ### impl_Meander_curves: function 98 -/
mutual
def impl_Meander_curves.l0 : Nat → List Int → Int → Int → Int → List Int → List Int → Option (List Int × Int)
 | 0, _, _, _, _, _, _ => none
 | k + 1, x4, x5, x15, x16, x389000, x389001 => if x16 < x15 then (if 0 ≤ x16 then (if x16 < (x4.length : Int) then (if (rd x4 x16) ≥ 0 then (impl_Meander_curves.l0 k x4 x5 x15 (wrap64 (x16 + 1)) x389000 x389001) else ((impl_Meander_way.f k x389000 x389001 x16).bind fun t396 => (impl_Meander_curves.l1 k x4 x5 x15 x16 t396 (t396.length : Int) 0 x389000 x389001))) else (none)) else (none)) else (some (x4, x5))
def impl_Meander_curves.l1 : Nat → List Int → Int → Int → Int → List Int → Int → Int → List Int → List Int → Option (List Int × Int)
 | 0, _, _, _, _, _, _, _, _, _ => none
 | k + 1, x4, x5, x15, x16, x26, x27, x28, x389000, x389001 => if x28 < x27 then (if 0 ≤ x28 then (if x28 < (x26.length : Int) then (if 0 ≤ (rd x26 x28) then (if (rd x26 x28) < (x4.length : Int) then (impl_Meander_curves.l1 k (x4.set ((rd x26 x28) : Int).toNat x5) x5 x15 x16 x26 x27 (wrap64 (x28 + 1)) x389000 x389001) else (none)) else (none)) else (none)) else (none)) else (impl_Meander_curves.l0 k x4 (wrap64 (x5 + 1)) x15 (wrap64 (x16 + 1)) x389000 x389001)
end
def impl_Meander_curves.f (k : Nat) (l0_0 : List Int) (l0_1 : List Int) : Option (List Int × Int) := (slices_Repeat_int_int.f (([(-1)] : List Int)) (l0_0.length : Int)).bind fun t392 => (impl_Meander_curves.l0 k t392 0 (t392.length : Int) 0 l0_0 l0_1)
theorem impl_Meander_curves.mono_l : ∀ k, (∀ y0 y1 y2 y3 y4 y5, LeO (impl_Meander_curves.l0 k y0 y1 y2 y3 y4 y5) (impl_Meander_curves.l0 (k + 1) y0 y1 y2 y3 y4 y5)) ∧ (∀ y0 y1 y2 y3 y4 y5 y6 y7 y8, LeO (impl_Meander_curves.l1 k y0 y1 y2 y3 y4 y5 y6 y7 y8) (impl_Meander_curves.l1 (k + 1) y0 y1 y2 y3 y4 y5 y6 y7 y8))
 | 0 => ⟨fun _ _ _ _ _ _ r h => by simp [impl_Meander_curves.l0] at h, fun _ _ _ _ _ _ _ _ _ r h => by simp [impl_Meander_curves.l1] at h⟩
 | k + 1 => by
  obtain ⟨ih0, ih1⟩ := impl_Meander_curves.mono_l k
  refine ⟨?_, ?_⟩
  ·intro y0 y1 y2 y3 y4 y5
   unfold impl_Meander_curves.l0
   repeat' first
   | (with_reducible exact ih0 _ _ _ _ _ _)
   | (with_reducible exact ih1 _ _ _ _ _ _ _ _ _)
   | (with_reducible exact impl_Meander_way.mono _ _ _ _)
   | (with_reducible exact LeO.refl _)
   | (with_reducible exact LeO.none _)
   | (with_reducible refine LeO.ite ?_ ?_)
   | (with_reducible refine LeO.bind ?_ (fun _ => ?_))
   | exact ih0 _ _ _ _ _ _
   | exact ih1 _ _ _ _ _ _ _ _ _
   | exact impl_Meander_way.mono _ _ _ _
   | exact LeO.none _
   | refine LeO.ite ?_ ?_
   | refine LeO.bind ?_ (fun _ => ?_)
  ·intro y0 y1 y2 y3 y4 y5 y6 y7 y8
   unfold impl_Meander_curves.l1
   repeat' first
   | (with_reducible exact ih0 _ _ _ _ _ _)
   | (with_reducible exact ih1 _ _ _ _ _ _ _ _ _)
   | (with_reducible exact impl_Meander_way.mono _ _ _ _)
   | (with_reducible exact LeO.refl _)
   | (with_reducible exact LeO.none _)
   | (with_reducible refine LeO.ite ?_ ?_)
   | (with_reducible refine LeO.bind ?_ (fun _ => ?_))
   | exact ih0 _ _ _ _ _ _
   | exact ih1 _ _ _ _ _ _ _ _ _
   | exact impl_Meander_way.mono _ _ _ _
   | exact LeO.none _
   | refine LeO.ite ?_ ?_
   | refine LeO.bind ?_ (fun _ => ?_)
theorem impl_Meander_curves.mono : ∀ a0 a1 k, LeO (impl_Meander_curves.f k a0 a1) (impl_Meander_curves.f (k + 1) a0 a1) := by
 intro a0 a1 k; obtain ⟨ih0, ih1⟩ := impl_Meander_curves.mono_l k; unfold impl_Meander_curves.f
 repeat' first
   | (with_reducible exact ih0 _ _ _ _ _ _)
   | (with_reducible exact ih1 _ _ _ _ _ _ _ _ _)
   | (with_reducible exact impl_Meander_way.mono _ _ _ _)
   | (with_reducible exact LeO.refl _)
   | (with_reducible exact LeO.none _)
   | (with_reducible refine LeO.ite ?_ ?_)
   | (with_reducible refine LeO.bind ?_ (fun _ => ?_))
   | exact ih0 _ _ _ _ _ _
   | exact ih1 _ _ _ _ _ _ _ _ _
   | exact impl_Meander_way.mono _ _ _ _
   | exact LeO.none _
   | refine LeO.ite ?_ ?_
   | refine LeO.bind ?_ (fun _ => ?_)
theorem impl_Meander_curves.calls (k : Nat) (A0_0 : Option Addr) (c0_0 : Nat) (l0_0 : List Int) (A0_1 : Option Addr) (c0_1 : Nat) (l0_1 : List Int) (r1 : List Int) (r2 : Int) (w : World) (hr0_0 : Kd.C (Kd.int .i64) w A0_0 l0_0.length l0_0) (hc0_0 : l0_0.length ≤ c0_0) (hr0_1 : Kd.C (Kd.int .i64) w A0_1 l0_1.length l0_1) (hc0_1 : l0_1.length ≤ c0_1) (h : impl_Meander_curves.f k l0_0 l0_1 = some (r1, r2)) :
  Calls Try.prog 98 #[.agg #[.slice A0_0 l0_0.length c0_0, .slice A0_1 l0_1.length c0_1]] w fun e w' => ∃ v0_ : Value, e = .returned (.tuple #[v0_, .int .i64 r2]) ∧ Kd.R (Kd.int .i64) 3 w' w.heap.size (fun _ => True) v0_ r1 ∧ Below w.heap.size w w' := by
 have hu71 := Try.underlying71; have HR0_0 := Aside0.mk hr0_0; have HC0_0 := Aside0.mk hc0_0; clear hr0_0 hc0_0; have HR0_1 := Aside0.mk hr0_1; have HC0_1 := Aside0.mk hc0_1; clear hr0_1 hc0_1; have HB := Aside0.mk (Below.refl w.heap.size w); have H : ((slices_Repeat_int_int.f (([(-1)] : List Int)) (l0_0.length : Int)).bind fun t392 => (impl_Meander_curves.l0 k t392 0 (t392.length : Int) 0 l0_0 l0_1)) = some (r1, r2) := h; clear h; obtain ⟨y389, hy389⟩ := yy (([(-1)] : List Int))
 (try rw [Option.bind_some] at H); (try dsimp only at H); rw [← hy389] at H
 have Ny389 := Aside0.mk hy389; clear hy389; obtain ⟨t392, A2, H⟩ := bi H; (try dsimp only at H); have H' := Aside0.mk H; clear H; go_enter Try.func98, Try.ntmps98; go_wp2_with (first | ((with_reducible refine gate_dst (N := 1) rfl ?_); refine box_event ?hg (N := 1) ?hd (cs := #[.slice A0_0 l0_0.length c0_0, .slice A0_1 l0_1.length c0_1]) (t := 71) ?hr ?_; (case hd => rfl); (case hg => rfl); (case hr => first | (go_simp; done) | (go_simp; rfl)); intro gb388 hg w3 hbox hb; have BK388 := Aside0.mk (hbox); have GW388 := Aside0.mk ((by rw [hg]; exact (below_size (bl HB.out)) : w.heap.size ≤ gb388)); have GE388 := Aside0.mk ((by rw [hg]; exact (below_size (bl HB.out)) : w.heap.size ≤ gb388)); replace HB := bst HB hb; clear hb hbox hg) | ((with_reducible refine gate_dst (N := 9) rfl ?_); refine Kd.R_lit (Kd.int .i64) _ 3 ?hg (N := 9) ?hd (xs := ([(-1)] : List Int)) (inner := [.int .i64 (-1)]) (ok := fun _ => True) (okp := fun _ => True) ?hr ?hp (fun _ hk => hk) trivial (Below.refl _ _) (Nat.le_refl _) (by simp) ?_; (case hd => rfl); (case hg => rfl); (case hr => first | (go_simp; done) | (go_simp; rfl)); (case hp => exact (Reps.one (show Kd.M (Kd.int .i64) _ _ _ (-1) [.int .i64 (-1)] from rfl) (Reps.none _ _))); intro v390 w4 ho5 hb hg_ hnew_; clear hg_ hnew_; (first | rw [← Ny389.out] at ho5 | (simp only [Int.reduceToNat] at ho5; rw [← Ny389.out] at ho5)); have HO391 := Aside0.mk (Kd.R_lower ho5 (below_size (bs1 HB.out GE388.out))); replace BK388 := bkb BK388 hb; replace HB := Aside0.mk (below_step (bs1 HB.out GE388.out) hb); clear hb ho5; have hcz6_0 : w4.cell? ⟨gb388, 0, none⟩ = some (.slice A0_0 l0_0.length c0_0) := (blk_cell BK388.out 0).trans rfl; have hcz6_1 : w4.cell? ⟨gb388, 1, none⟩ = some (.slice A0_1 l0_1.length c0_1) := (blk_cell BK388.out 1).trans rfl; have hfz6_0 := blk_frozen BK388.out 0; have hfz6_1 := blk_frozen BK388.out 1; obtain ⟨Ao7, co7, eo7⟩ := Kd.R_slice HO391.out; subst eo7) | (go_at_call 104; (with_reducible refine (slices_Repeat_int_int.calls _ _ y389 (l0_0.length : Int) t392 _ ?side1 ((Kd.R_reads' HO391.out).2.1) A2.out).mono ?_); (case side1 => exact cw ((Kd.R_reads' HO391.out).2.2)); rintro e w8 ⟨v393, rfl, ho0, hb⟩; have HO394 := Aside0.mk (Kd.R_lower (Kd.R_new' ho0 (Kd.R_lt (rR HO391.out))) (below_size (bs1 HB.out GE388.out))); replace HO391 := Aside0.mk (Kd.R_elder' (rR HO391.out) (Kd.R_base ho0) hb); replace BK388 := bkb BK388 hb; replace HB := Aside0.mk (below_step (bs1 HB.out GE388.out) hb); obtain ⟨Ao9, co9, eo9⟩ := Kd.R_slice HO394.out; subst eo9))
 go_loopg [5, 16] k (fun kq v5 v16 w' => ∃ (x4_1 : List Int) (x5_1 : Int) (x16_1 : Int), v5 = .int .i64 x5_1 ∧ v16 = .int .i64 x16_1 ∧ Aside0 (impl_Meander_curves.l0 kq x4_1 x5_1 (t392.length : Int) x16_1 l0_0 l0_1 = some (r1, r2)) ∧ Aside0 (kq ≤ k) ∧ Aside0 (Kd.R (Kd.int .i64) 3 w' w.heap.size (fun _ => True) (.slice Ao9 t392.length co9) x4_1) ∧ Aside0 (w'.heap[gb388]? = some (.cells #[(.slice A0_0 l0_0.length c0_0), (.slice A0_1 l0_1.length c0_1)] 71 (0, 0))) ∧ Aside0 (Below w.heap.size w w'))
 case atStart => exact ⟨(t392), (0), (0), (sr2), (sr2), H', ⟨Nat.le_refl _⟩, ⟨rR (Kd.R_mono HO394.out (fun _ hk => trivial))⟩, ⟨by (with_reducible repeat (first | refine blk_drewN ?_ _ | refine blk_drew ?_ | refine blk_alloc ?_ _)); exact BK388.out⟩, ⟨bs1 HB.out GE388.out⟩⟩
 case round =>
  clear H'; obtain ⟨x4_1, x5_1, x16_1, rfl, rfl, HA, HK1, HO_4, BK388, HB⟩ := hrel; have hl4_1 := (Kd.R_reads' HO_4.out).1; rw [hl4_1] at HO_4; (try simp only [hl4_1]); (try simp only [hl4_1] at BK388)
  cases gk with
  | zero => exact absurd HA.out (by simp [impl_Meander_curves.l0])
  | succ k1 =>
   have H := HA.out; clear HA; simp only [impl_Meander_curves.l0] at H
   by_cases c10 : x16_1 < (t392.length : Int)
   ·rw [if_pos c10] at H; have c10b0 := decide_eq_true c10; clear c10; (try simp only [hl4_1] at c10b0)
    by_cases c11 : 0 ≤ x16_1
    ·rw [if_pos c11] at H; have c11b0 := decide_eq_true c11; clear c11; (try simp only [hl4_1] at c11b0)
     by_cases c12 : x16_1 < (x4_1.length : Int)
     ·rw [if_pos c12] at H; have c12b0 := decide_eq_true c12; clear c12; (try simp only [hl4_1] at c12b0)
      by_cases c13 : (rd x4_1 x16_1) ≥ 0
      ·rw [if_pos c13] at H; have c13b0 := decide_eq_true c13; clear c13; (try simp only [hl4_1] at c13b0); have H' := Aside0.mk H; clear H; obtain ⟨ad395, e395, hx395_0, p395, q395⟩ := atI (Kd.R_reads' HO_4.out).2.2 x16_1; cases e395; go_wp2; (try simp only [← hl4_1])
       go_roundg k1
       case measure => have := HK1.out; omega
       case rel => exact ⟨(x4_1), (x5_1), (wrap64 (x16_1 + 1)), (sr2), (sr2), H', ⟨by have := HK1.out; omega⟩, ⟨by (try simp only [hl4_1]); (with_reducible repeat (first | apply Kd.R_alloc | apply Kd.R_drewN | apply Kd.R_drew)); exact HO_4.out⟩, ⟨by (try simp only [hl4_1]); (with_reducible repeat (first | refine blk_drewN ?_ _ | refine blk_drew ?_ | refine blk_alloc ?_ _)); exact BK388.out⟩, ⟨bs1 HB.out GE388.out⟩⟩
      rw [if_neg c13] at H; have c13b0 := decide_eq_false c13; clear c13; (try simp only [hl4_1] at c13b0); obtain ⟨t396, A14, H⟩ := bi H; (try dsimp only at H); have H' := Aside0.mk H; clear H; obtain ⟨ad395, e395, hx395_0, p395, q395⟩ := atI (Kd.R_reads' HO_4.out).2.2 x16_1; cases e395; have hcz15_0 : wr.cell? ⟨gb388, 0, none⟩ = some (.slice A0_0 l0_0.length c0_0) := (blk_cell BK388.out 0).trans rfl; have hcz15_1 : wr.cell? ⟨gb388, 1, none⟩ = some (.slice A0_1 l0_1.length c0_1) := (blk_cell BK388.out 1).trans rfl; have hfz15_0 := blk_frozen BK388.out 0; have hfz15_1 := blk_frozen BK388.out 1; go_wp2_with (first | (go_at_call 105; (with_reducible refine (impl_Meander_way.calls k1 _ _ l0_0 _ _ l0_1 x16_1 t396 _ ?side1 ?side2 ?side3 HC0_1.out A14.out).mono ?_); (case side1 => exact cw (Kd.C_below HR0_0.out HB.out)); (case side2 => exact HC0_0.out); (case side3 => exact cw (Kd.C_below HR0_1.out HB.out)); rintro e w16 ⟨v397, rfl, ho0, hb⟩; have HO398 := Aside0.mk (Kd.R_lower (Kd.R_new' ho0 (Kd.R_lt (rR HO_4.out))) (below_size (bs1 HB.out GE388.out))); replace HO_4 := Aside0.mk (Kd.R_elder' (rR HO_4.out) (Kd.R_base ho0) hb); replace BK388 := bkb BK388 hb; replace HB := Aside0.mk (below_step (bs1 HB.out GE388.out) hb); obtain ⟨Ao17, co17, eo17⟩ := Kd.R_slice HO398.out; subst eo17))
      go_loopg [28] k1 (fun kq v28 w' => ∃ (x4_2 : List Int) (x28_2 : Int), v28 = .int .i64 x28_2 ∧ Aside0 (impl_Meander_curves.l1 kq x4_2 x5_1 (t392.length : Int) x16_1 t396 (t396.length : Int) x28_2 l0_0 l0_1 = some (r1, r2)) ∧ Aside0 (kq ≤ k1) ∧ Aside0 (Kd.R (Kd.int .i64) 3 w' w.heap.size (fun k_ => some k_ ≠ ((.slice Ao17 t396.length co17) : Value).ownBlock) (.slice (some ad395) x4_1.length co9) x4_2) ∧ Aside0 (Kd.R (Kd.int .i64) 3 w' w.heap.size (fun k_ => some k_ ≠ ((.slice (some ad395) x4_1.length co9) : Value).ownBlock) (.slice Ao17 t396.length co17) t396) ∧ Aside0 (w'.heap[gb388]? = some (.cells #[(.slice A0_0 l0_0.length c0_0), (.slice A0_1 l0_1.length c0_1)] 71 (0, 0))) ∧ Aside0 (Below w.heap.size w w'))
      case atStart => exact ⟨(x4_1), (0), (sr2), H', ⟨Nat.le_refl _⟩, ⟨by (try simp only [hl4_1]); (with_reducible repeat (first | apply Kd.R_alloc | apply Kd.R_drewN | apply Kd.R_drew)); exact Kd.R_mono HO_4.out (fun _ hk => hk.2)⟩, ⟨by (try simp only [hl4_1]); (with_reducible repeat (first | apply Kd.R_alloc | apply Kd.R_drewN | apply Kd.R_drew)); exact Kd.R_mono HO398.out (fun _ hk => hk.2)⟩, ⟨by (try simp only [hl4_1]); (with_reducible repeat (first | refine blk_drewN ?_ _ | refine blk_drew ?_ | refine blk_alloc ?_ _)); exact BK388.out⟩, ⟨bs1 HB.out GE388.out⟩⟩
      case round =>
       clear H'; obtain ⟨x4_2, x28_2, rfl, HA, HK2, HO_4, HO_26, BK388, HB⟩ := hrel; have hl4_2 := (Kd.R_reads' HO_4.out).1; rw [hl4_2] at HO_4; (try simp only [hl4_2]); (try simp only [hl4_2] at BK388); (try simp only [hl4_2] at HO_26)
       cases gk with
       | zero => exact absurd HA.out (by simp [impl_Meander_curves.l1])
       | succ k2 =>
        have H := HA.out; clear HA; simp only [impl_Meander_curves.l1] at H
        by_cases c18 : x28_2 < (t396.length : Int)
        ·rw [if_pos c18] at H; have c18b0 := decide_eq_true c18; clear c18; (try simp only [hl4_1, hl4_2] at c18b0)
         by_cases c19 : 0 ≤ x28_2
         ·rw [if_pos c19] at H; have c19b0 := decide_eq_true c19; clear c19; (try simp only [hl4_1, hl4_2] at c19b0)
          by_cases c20 : x28_2 < (t396.length : Int)
          ·rw [if_pos c20] at H; have c20b0 := decide_eq_true c20; clear c20; (try simp only [hl4_1, hl4_2] at c20b0)
           by_cases c21 : 0 ≤ (rd t396 x28_2)
           ·rw [if_pos c21] at H; have c21b0 := decide_eq_true c21; clear c21; (try simp only [hl4_1, hl4_2] at c21b0)
            by_cases c22 : (rd t396 x28_2) < (x4_2.length : Int)
            ·rw [if_pos c22] at H; have c22b0 := decide_eq_true c22; clear c22; (try simp only [hl4_1, hl4_2] at c22b0); obtain ⟨y400, hy400⟩ := yy (x4_2.set ((rd t396 x28_2) : Int).toNat x5_1)
             (try rw [Option.bind_some] at H); (try dsimp only at H); rw [← hy400] at H
             have Ny400 := Aside0.mk hy400; clear hy400; have H' := Aside0.mk H; clear H; obtain ⟨ad399, e399, hx399_0, p399, q399⟩ := atI (Kd.R_reads' HO_26.out).2.2 x28_2; cases e399; have p23 : 0 ≤ ((rd t396 x28_2) : Int) := od; have q23 : ((rd t396 x28_2) : Int) < ((x4_2.length : Int) : Int) := od; obtain ⟨go23, co23, eo23, gb23, gl23, cl23, HG23⟩ := Kd.R_form HO_4.out (by omega); (first | cases eo23 | (injection eo23 with ea_ en_ ec_; (first | subst ea_ | (injection ea_ with ea_; subst ea_)); subst ec_; clear en_)); have GB23 := Aside0.mk gb23; have GG23 := Aside0.mk HG23; clear gb23 gl23 HG23; (first | simp only [add_plain] at hx395_0 | skip); obtain ⟨hx23_0, hf23_0⟩ := Kd.R_celln 0 HO_4.out ((rd t396 x28_2) : Int) p23 q23; replace p23 := eq_true p23; replace q23 := eq_true q23; have HP24 := Kd.R_putg HO_4.out ((rd t396 x28_2) : Int) x5_1; go_wp2_with (first | ((with_reducible refine gate_store (t := 3) (p := 35) rfl ?_); refine store_event (t := 3) (p := 35) (v := ?vo_w25) (w1 := (wr.setCell ⟨go23, ((rd t396 x28_2) : Int).toNat, none⟩ (.int .i64 x5_1))) ?hg ?ho ?hn ?hr ?_; (case ho => rfl); (case hg => rfl); (case hn => rfl); (case hr => first | (go_simp; done) | (go_simp; rfl)); intro w25 hw; have hg : wr.grownBy w25 (some go23) := (by rw [hw]; exact HP24.2); have hp_ : Kd.R (Kd.int .i64) 3 w25 w.heap.size (fun k_ => some k_ ≠ (.slice (some ad399) t396.length co17 : Value).ownBlock) (.slice (some ⟨go23, 0, none⟩) x4_2.length co9) y400 := (by rw [hw, Ny400.out]; exact HP24.1); clear HP24; replace HO_26 := Aside0.mk (Kd.R_after (v := (.slice (some ⟨go23, 0, none⟩) x4_2.length co9)) (v1 := (.slice (some ⟨go23, 0, none⟩) x4_2.length co9)) (ok := (fun _ => True)) (rR (Kd.R_mono HO_26.out (fun _ hk => ⟨trivial, hk⟩))) hg (.inl rfl)); replace BK388 := Aside0.mk (blk_grown (bk BK388.out) hg (Kd.R_ne HO_4.out BK388.out (by decide))); replace HO_4 := Aside0.mk (hp_); replace HB := Aside0.mk ((by rw [hw]; exact below_set (HB.out) GB23.out : Below w.heap.size w w25)); clear hg hw hp_)); (try simp only [← hl4_2])
             go_roundg k2
             case measure => have := HK1.out; have := HK2.out; omega
             case rel => exact ⟨(y400), (wrap64 (x28_2 + 1)), (sr2), H', ⟨by have := HK1.out; have := HK2.out; omega⟩, ⟨by (try simp only [hl4_1]); (try simp only [hl4_2]); (with_reducible repeat (first | apply Kd.R_alloc | apply Kd.R_drewN | apply Kd.R_drew)); exact HO_4.out⟩, ⟨by (try simp only [hl4_1]); (try simp only [hl4_2]); (with_reducible repeat (first | apply Kd.R_alloc | apply Kd.R_drewN | apply Kd.R_drew)); exact Kd.R_mono HO_26.out (fun _ hk => hk.2)⟩, ⟨by (try simp only [hl4_1]); (try simp only [hl4_2]); (with_reducible repeat (first | refine blk_drewN ?_ _ | refine blk_drew ?_ | refine blk_alloc ?_ _)); exact BK388.out⟩, ⟨bs1 HB.out GE388.out⟩⟩
            rw [if_neg c22] at H; exact absurd H (by simp)
           rw [if_neg c21] at H; exact absurd H (by simp)
          rw [if_neg c20] at H; exact absurd H (by simp)
         rw [if_neg c19] at H; exact absurd H (by simp)
        rw [if_neg c18] at H; have c18b0 := decide_eq_false c18; clear c18; (try simp only [hl4_1, hl4_2] at c18b0); have H' := Aside0.mk H; clear H; go_wp2; (try simp only [← hl4_1, ← hl4_2])
        go_roundg k2
        case measure => have := HK1.out; have := HK2.out; omega
        case rel => exact ⟨(x4_2), (wrap64 (x5_1 + 1)), (wrap64 (x16_1 + 1)), (sr2), (sr2), H', ⟨by have := HK1.out; have := HK2.out; omega⟩, ⟨by (try simp only [hl4_1]); (try simp only [hl4_2]); (with_reducible repeat (first | apply Kd.R_alloc | apply Kd.R_drewN | apply Kd.R_drew)); exact Kd.R_mono HO_4.out (fun _ hk => trivial)⟩, ⟨by (try simp only [hl4_1]); (try simp only [hl4_2]); (with_reducible repeat (first | refine blk_drewN ?_ _ | refine blk_drew ?_ | refine blk_alloc ?_ _)); exact BK388.out⟩, ⟨bs1 HB.out GE388.out⟩⟩
     rw [if_neg c12] at H; exact absurd H (by simp)
    rw [if_neg c11] at H; exact absurd H (by simp)
   rw [if_neg c10] at H; have c10b0 := decide_eq_false c10; clear c10; (try simp only [hl4_1] at c10b0); simp only [Option.some.injEq, Prod.mk.injEq] at H; obtain ⟨rfl, rfl⟩ := H; go_wp2; go_ret2; exact ⟨_, sr, rR HO_4.out, bs1 HB.out GE388.out⟩
/-! ### impl_Meander_components: function 82 -/
def impl_Meander_components.f (k : Nat) (l0_0 : List Int) (l0_1 : List Int) : Option (Int) := (impl_Meander_curves.f k l0_0 l0_1).bind fun bt402 => (some bt402.2)
theorem impl_Meander_components.mono : ∀ a0 a1 k, LeO (impl_Meander_components.f k a0 a1) (impl_Meander_components.f (k + 1) a0 a1) := by
 intro a0 a1 k; unfold impl_Meander_components.f
 repeat' first
   | (with_reducible exact impl_Meander_curves.mono _ _ _)
   | (with_reducible exact LeO.refl _)
   | (with_reducible exact LeO.none _)
   | (with_reducible refine LeO.ite ?_ ?_)
   | (with_reducible refine LeO.bind ?_ (fun _ => ?_))
   | exact impl_Meander_curves.mono _ _ _
   | exact LeO.none _
   | refine LeO.ite ?_ ?_
   | refine LeO.bind ?_ (fun _ => ?_)
theorem impl_Meander_components.calls (k : Nat) (A0_0 : Option Addr) (c0_0 : Nat) (l0_0 : List Int) (A0_1 : Option Addr) (c0_1 : Nat) (l0_1 : List Int) (r : Int) (w : World) (hr0_0 : Kd.C (Kd.int .i64) w A0_0 l0_0.length l0_0) (hc0_0 : l0_0.length ≤ c0_0) (hr0_1 : Kd.C (Kd.int .i64) w A0_1 l0_1.length l0_1) (hc0_1 : l0_1.length ≤ c0_1) (h : impl_Meander_components.f k l0_0 l0_1 = some r) :
  Calls Try.prog 82 #[.agg #[.slice A0_0 l0_0.length c0_0, .slice A0_1 l0_1.length c0_1]] w fun e w' => e = .returned (.int .i64 r) ∧ Below w.heap.size w w' := by
 have hu71 := Try.underlying71; have HR0_0 := Aside0.mk hr0_0; have HC0_0 := Aside0.mk hc0_0; clear hr0_0 hc0_0; have HR0_1 := Aside0.mk hr0_1; have HC0_1 := Aside0.mk hc0_1; clear hr0_1 hc0_1; have HB := Aside0.mk (Below.refl w.heap.size w); have H : ((impl_Meander_curves.f k l0_0 l0_1).bind fun bt402 => (some bt402.2)) = some r := h; clear h; obtain ⟨⟨t402, t405⟩, A2, H⟩ := bi H; (try dsimp only at H); obtain rfl := Option.some.inj H; go_enter Try.func82, Try.ntmps82; go_wp2_with (first | ((with_reducible refine gate_dst (N := 1) rfl ?_); refine box_event ?hg (N := 1) ?hd (cs := #[.slice A0_0 l0_0.length c0_0, .slice A0_1 l0_1.length c0_1]) (t := 71) ?hr ?_; (case hd => rfl); (case hg => rfl); (case hr => first | (go_simp; done) | (go_simp; rfl)); intro gb401 hg w3 hbox hb; have BK401 := Aside0.mk (hbox); have GW401 := Aside0.mk ((by rw [hg]; exact (below_size (bl HB.out)) : w.heap.size ≤ gb401)); have GE401 := Aside0.mk ((by rw [hg]; exact (below_size (bl HB.out)) : w.heap.size ≤ gb401)); replace HB := bst HB hb; clear hb hbox hg; have hcz4_0 : w3.cell? ⟨gb401, 0, none⟩ = some (.slice A0_0 l0_0.length c0_0) := (blk_cell BK401.out 0).trans rfl; have hcz4_1 : w3.cell? ⟨gb401, 1, none⟩ = some (.slice A0_1 l0_1.length c0_1) := (blk_cell BK401.out 1).trans rfl; have hfz4_0 := blk_frozen BK401.out 0; have hfz4_1 := blk_frozen BK401.out 1) | (go_at_call 98; (with_reducible refine (impl_Meander_curves.calls k _ _ l0_0 _ _ l0_1 t402 t405 _ ?side1 ?side2 ?side3 HC0_1.out A2.out).mono ?_); (case side1 => exact cw (Kd.C_below HR0_0.out HB.out)); (case side2 => exact HC0_0.out); (case side3 => exact cw (Kd.C_below HR0_1.out HB.out)); rintro e w5 ⟨v403, rfl, ho0, hb⟩; have HO404 := Aside0.mk (Kd.R_lower ho0 (below_size (bs1 HB.out GE401.out))); replace BK401 := bkb BK401 hb; replace HB := Aside0.mk (below_step (bs1 HB.out GE401.out) hb))); go_ret; exact ⟨sr, bs1 HB.out GE401.out⟩
/-! ### slices_Clone_int_int: function 97 -/
def slices_Clone_int_int.f (l0 : List Int) : Option (List Int) := if l0.length < 17592186044416 then some l0 else none
theorem slices_Clone_int_int.calls (A0 : Option Addr) (c0 : Nat) (l0 : List Int) (r : List Int) (w : World) (hr0 : Kd.C (Kd.int .i64) w A0 l0.length l0) (hc0 : l0.length ≤ c0) (h : slices_Clone_int_int.f l0 = some r) :
  Calls Try.prog 97 #[.slice A0 l0.length c0] w fun e w' => ∃ v0_ : Value, e = .returned (v0_) ∧ Kd.R (Kd.int .i64) 3 w' w.heap.size (fun _ => True) v0_ r ∧ Below w.heap.size w w' := by
 have HR0 := Aside0.mk hr0; have HC0 := Aside0.mk hc0; have HB := Aside0.mk (Below.refl w.heap.size w)
 have hlen : l0.length < 17592186044416 ∧ l0 = r := by
  unfold slices_Clone_int_int.f at h
  split at h
  ·exact ⟨by assumption, by injection h⟩
  cases h
 obtain ⟨hl, rfl⟩ := hlen; have LM := Aside0.mk hl; clear h hl
 cases A0 with
 | none =>
  have e0 : l0 = [] := by
   cases l0 with
   | nil => rfl
   | cons x t => obtain ⟨ad, e, _⟩ := hr0.2.2 (by simp); cases e
  clear hr0 hc0; subst e0; have q22 : ∀ (w : World) (a : Option Addr) (n c n' c' : Nat), (binOp .eql 35 (.slice a n c) (.slice none n' c')).run Try.prog w = .ok (.bool a.isNone) w := fun w a n c n' c' => Go.Lib.run_eql_slice_nil w _ _ a n c n' c' Try.underlying35; go_enter Try.func97, Try.ntmps97; go_wp2; go_ret; exact ⟨_, rfl, Kd.R_nil _ _ _ _ _, Below.refl _ _⟩
 | some a0 =>
  clear hr0 hc0; obtain ⟨y0, hy0⟩ := yy ([] : List Int); have N0 := Aside0.mk hy0; have LN := Aside0.mk (show (y0 ++ l0) = l0 by rw [hy0]; rfl); clear hy0; have q22 : ∀ (w : World) (a : Option Addr) (n c n' c' : Nat), (binOp .eql 35 (.slice a n c) (.slice none n' c')).run Try.prog w = .ok (.bool a.isNone) w := fun w a n c n' c' => Go.Lib.run_eql_slice_nil w _ _ a n c n' c' Try.underlying35; go_enter Try.func97, Try.ntmps97; go_wp2_with (first | ((with_reducible refine gate_dst (N := 5) rfl ?_); refine Kd.R_lit (Kd.int .i64) _ 3 ?hg (N := 5) ?hd (xs := ([] : List Int)) (inner := []) (ok := fun _ => True) (okp := fun _ => True) ?hr ?hp (fun _ hk => hk) trivial (Below.refl _ _) (Nat.le_refl _) (by simp) ?_; (case hd => rfl); (case hg => rfl); (case hr => first | (go_simp; done) | (go_simp; rfl)); (case hp => exact (Reps.none _ _)); intro v126 w3 ho4 hb hg_ hnew_; clear hg_ hnew_; rw [← N0.out] at ho4; have HO127 := Aside0.mk (Kd.R_lower ho4 (below_size (bl HB.out))); replace HB := bst HB hb; clear hb ho4) | ((with_reducible refine gate_builtin (b := .append) (xs := #[.tmp 5, .tmp 6]) rfl ?_); at_builtin; refine Kd.R_append_rows (Kd.int .i64) (w0 := w) w.heap.size rfl (.tmp 5) (.tmp 6) 35 3 (.int .i64 0) 8 rfl Try.underlying35 info3 rfl (by decide) (by omega) v126 y0 l0 _ _ _ (fun _ => True) (fun _ => False) rfl rfl ?aO ?aR (fun _ _ h => h) (fun _ h => h.elim) ?aF ?aB ?aS (by have := LM.out; have h0 := N0.out; simp only [h0, List.length_nil]; omega) ?_; (case aR => exact cw (Kd.C_below HR0.out HB.out)); (case aB => exact (bl HB.out)); (case aF => exact (fun _ _ => trivial)); (case aO => exact (rR HO127.out)); (case aS => exact (below_size (bl HB.out))); intro v129 w5 ho hb hg hat; rw [LN.out] at ho; replace HB := Aside0.mk (hb); have HO130 := Aside0.mk (ho); clear HO127; clear ho hb hg hat)); go_ret; exact ⟨_, rfl, rR HO130.out, bl HB.out⟩
/-! ### impl_joined: function 99 -/
def impl_joined.l0 : Nat → List Int → List Int → List Int → Int → Int → Option (List Int)
 | 0, _, _, _, _, _ => none
 | k + 1, x0, x5, x10, x11, x12 => if x12 < x11 then (if 0 ≤ x12 then (if x12 < (x10.length : Int) then (if x5.length < 17592186044416 then (impl_joined.l0 k x0 (x5 ++ [wrap64 ((rd x10 x12) + (x0.length : Int))]) x10 x11 (wrap64 (x12 + 1))) else (none)) else (none)) else (none)) else (some x5)
def impl_joined.f (k : Nat) (l0 : List Int) (l1 : List Int) : Option (List Int) := (slices_Clone_int_int.f l0).bind fun t406 => (impl_joined.l0 k l0 t406 l1 (l1.length : Int) 0)
theorem impl_joined.mono_l : ∀ k, (∀ y0 y1 y2 y3 y4, LeO (impl_joined.l0 k y0 y1 y2 y3 y4) (impl_joined.l0 (k + 1) y0 y1 y2 y3 y4))
 | 0 => fun _ _ _ _ _ r h => by simp [impl_joined.l0] at h
 | k + 1 => by
  have ih0 := impl_joined.mono_l k
  ·intro y0 y1 y2 y3 y4
   unfold impl_joined.l0
   repeat' first
   | (with_reducible exact ih0 _ _ _ _ _)
   | (with_reducible exact LeO.refl _)
   | (with_reducible exact LeO.none _)
   | (with_reducible refine LeO.ite ?_ ?_)
   | (with_reducible refine LeO.bind ?_ (fun _ => ?_))
   | exact ih0 _ _ _ _ _
   | exact LeO.none _
   | refine LeO.ite ?_ ?_
   | refine LeO.bind ?_ (fun _ => ?_)
theorem impl_joined.mono : ∀ a0 a1 k, LeO (impl_joined.f k a0 a1) (impl_joined.f (k + 1) a0 a1) := by
 intro a0 a1 k; have ih0 := impl_joined.mono_l k; unfold impl_joined.f
 repeat' first
   | (with_reducible exact ih0 _ _ _ _ _)
   | (with_reducible exact LeO.refl _)
   | (with_reducible exact LeO.none _)
   | (with_reducible refine LeO.ite ?_ ?_)
   | (with_reducible refine LeO.bind ?_ (fun _ => ?_))
   | exact ih0 _ _ _ _ _
   | exact LeO.none _
   | refine LeO.ite ?_ ?_
   | refine LeO.bind ?_ (fun _ => ?_)
theorem impl_joined.calls (k : Nat) (A0 : Option Addr) (c0 : Nat) (l0 : List Int) (A1 : Option Addr) (c1 : Nat) (l1 : List Int) (r : List Int) (w : World) (hr0 : Kd.C (Kd.int .i64) w A0 l0.length l0) (hc0 : l0.length ≤ c0) (hr1 : Kd.C (Kd.int .i64) w A1 l1.length l1) (hc1 : l1.length ≤ c1) (h : impl_joined.f k l0 l1 = some r) :
  Calls Try.prog 99 #[.slice A0 l0.length c0, .slice A1 l1.length c1] w fun e w' => ∃ v0_ : Value, e = .returned (v0_) ∧ Kd.R (Kd.int .i64) 3 w' w.heap.size (fun _ => True) v0_ r ∧ Below w.heap.size w w' := by
 have HR0 := Aside0.mk hr0; have HC0 := Aside0.mk hc0; clear hr0 hc0; have HR1 := Aside0.mk hr1; have HC1 := Aside0.mk hc1; clear hr1 hc1; have HB := Aside0.mk (Below.refl w.heap.size w); have H : ((slices_Clone_int_int.f l0).bind fun t406 => (impl_joined.l0 k l0 t406 l1 (l1.length : Int) 0)) = some r := h; clear h; obtain ⟨t406, A3, H⟩ := bi H; (try dsimp only at H); have H' := Aside0.mk H; clear H; go_enter Try.func99, Try.ntmps99; go_wp2_with (first | (go_at_call 97; (with_reducible refine (slices_Clone_int_int.calls _ _ l0 t406 _ ?side1 HC0.out A3.out).mono ?_); (case side1 => exact cw HR0.out); rintro e w4 ⟨v407, rfl, ho0, hb⟩; have HO408 := Aside0.mk (Kd.R_lower ho0 (below_size (bl HB.out))); replace HB := bst HB hb))
 go_loopg [5, 12] k (fun kq v5 v12 w' => ∃ (x5_1 : List Int) (x12_1 : Int), v12 = .int .i64 x12_1 ∧ Aside0 (impl_joined.l0 kq l0 x5_1 l1 (l1.length : Int) x12_1 = some r) ∧ Aside0 (kq ≤ k) ∧ Aside0 (Kd.R (Kd.int .i64) 3 w' w.heap.size (fun _ => True) v5 x5_1) ∧ Aside0 (Below w.heap.size w w'))
 case atStart => exact ⟨(t406), (0), (sr2), H', ⟨Nat.le_refl _⟩, ⟨rR HO408.out⟩, ⟨bl HB.out⟩⟩
 case round =>
  clear H'; obtain ⟨x5_1, x12_1, rfl, HA, HK1, HO_5, HB⟩ := hrel
  cases gk with
  | zero => exact absurd HA.out (by simp [impl_joined.l0])
  | succ k1 =>
   have H := HA.out; clear HA; simp only [impl_joined.l0] at H
   by_cases c5 : x12_1 < (l1.length : Int)
   ·rw [if_pos c5] at H; have c5b0 := decide_eq_true c5; clear c5
    by_cases c6 : 0 ≤ x12_1
    ·rw [if_pos c6] at H; have c6b0 := decide_eq_true c6; clear c6
     by_cases c7 : x12_1 < (l1.length : Int)
     ·rw [if_pos c7] at H; have c7b0 := decide_eq_true c7; clear c7
      by_cases c8 : x5_1.length < 17592186044416
      ·rw [if_pos c8] at H; have LMc8 := Aside0.mk c8; clear c8; obtain ⟨y410, hy410⟩ := yy (x5_1 ++ [wrap64 ((rd l1 x12_1) + (l0.length : Int))])
       (try rw [Option.bind_some] at H); (try dsimp only at H); rw [← hy410] at H
       have Ny410 := Aside0.mk hy410; clear hy410; have H' := Aside0.mk H; clear H; obtain ⟨ad409, e409, hx409_0, p409, q409⟩ := atI HR1.out x12_1; cases e409; replace hx409_0 := hbx HB hx409_0; go_wp2_with (first | ((with_reducible refine gate_builtin (b := .append) (xs := #[.tmp 16, .tmp 21]) rfl ?_); at_builtin; refine Kd.R_append (Kd.int .i64) (w0 := w) w.heap.size rfl (.tmp 16) (.tmp 21) 35 3 (.int .i64 0) 8 rfl Try.underlying35 info3 rfl (by decide) (by omega) u5 x5_1 (wrap64 ((rd l1 x12_1) + (l0.length : Int))) [.int .i64 (wrap64 ((rd l1 x12_1) + (l0.length : Int)))] (fun _ => True) (fun _ => False) rfl rfl ?aP (fun _ hk => hk.elim) ?aF ?aO ?aB ?aS (by have := LMc8.out; omega) ?_; (case aP => exact rfl); (case aB => exact (bl HB.out)); (case aF => exact (fun _ _ => trivial)); (case aO => exact (rR HO_5.out)); (case aS => exact (below_size (bl HB.out))); intro v411 w9 ho hb hg hat; rw [← Ny410.out] at ho; replace HB := Aside0.mk (hb); have HO412 := Aside0.mk (ho); clear HO_5; clear ho hb hg hat))
       go_roundg k1
       case measure => have := HK1.out; omega
       case rel => exact ⟨(y410), (wrap64 (x12_1 + 1)), (sr2), H', ⟨by have := HK1.out; omega⟩, ⟨rR HO412.out⟩, ⟨bl HB.out⟩⟩
      rw [if_neg c8] at H; exact absurd H (by simp)
     rw [if_neg c7] at H; exact absurd H (by simp)
    rw [if_neg c6] at H; exact absurd H (by simp)
   rw [if_neg c5] at H; have c5b0 := decide_eq_false c5; clear c5; obtain rfl := Option.some.inj H; go_wp2; go_ret; exact ⟨_, sr, rR HO_5.out, bl HB.out⟩
/-! ### impl_covered: function 100 -/
def impl_covered.l0 : Nat → List Int → List Int → Int → Int → Option (List Int)
 | 0, _, _, _, _ => none
 | k + 1, x3, x10, x11, x12 => if x12 < x11 then (if 0 ≤ x12 then (if x12 < (x10.length : Int) then (if x3.length < 17592186044416 then (impl_covered.l0 k (x3 ++ [wrap64 ((rd x10 x12) + 1)]) x10 x11 (wrap64 (x12 + 1))) else (none)) else (none)) else (none)) else (if x3.length < 17592186044416 then (some (x3 ++ [0])) else (none))
def impl_covered.f (k : Nat) (l0 : List Int) : Option (List Int) := impl_covered.l0 k (([wrap64 ((l0.length : Int) + 1)] : List Int)) l0 (l0.length : Int) 0
theorem impl_covered.mono_l : ∀ k, (∀ y0 y1 y2 y3, LeO (impl_covered.l0 k y0 y1 y2 y3) (impl_covered.l0 (k + 1) y0 y1 y2 y3))
 | 0 => fun _ _ _ _ r h => by simp [impl_covered.l0] at h
 | k + 1 => by
  have ih0 := impl_covered.mono_l k
  ·intro y0 y1 y2 y3
   unfold impl_covered.l0
   repeat' first
   | (with_reducible exact ih0 _ _ _ _)
   | (with_reducible exact LeO.refl _)
   | (with_reducible exact LeO.none _)
   | (with_reducible refine LeO.ite ?_ ?_)
   | (with_reducible refine LeO.bind ?_ (fun _ => ?_))
   | exact ih0 _ _ _ _
   | exact LeO.none _
   | refine LeO.ite ?_ ?_
   | refine LeO.bind ?_ (fun _ => ?_)
theorem impl_covered.mono : ∀ a0 k, LeO (impl_covered.f k a0) (impl_covered.f (k + 1) a0) := by
 intro a0 k; have ih0 := impl_covered.mono_l k; unfold impl_covered.f
 repeat' first
   | (with_reducible exact ih0 _ _ _ _)
   | (with_reducible exact LeO.refl _)
   | (with_reducible exact LeO.none _)
   | (with_reducible refine LeO.ite ?_ ?_)
   | (with_reducible refine LeO.bind ?_ (fun _ => ?_))
   | exact ih0 _ _ _ _
   | exact LeO.none _
   | refine LeO.ite ?_ ?_
   | refine LeO.bind ?_ (fun _ => ?_)
theorem impl_covered.calls (k : Nat) (A0 : Option Addr) (c0 : Nat) (l0 : List Int) (r : List Int) (w : World) (hr0 : Kd.C (Kd.int .i64) w A0 l0.length l0) (hc0 : l0.length ≤ c0) (h : impl_covered.f k l0 = some r) :
  Calls Try.prog 100 #[.slice A0 l0.length c0] w fun e w' => ∃ v0_ : Value, e = .returned (v0_) ∧ Kd.R (Kd.int .i64) 3 w' w.heap.size (fun _ => True) v0_ r ∧ Below w.heap.size w w' := by
 have HR0 := Aside0.mk hr0; have HC0 := Aside0.mk hc0; clear hr0 hc0; have HB := Aside0.mk (Below.refl w.heap.size w); have H : (impl_covered.l0 k (([wrap64 ((l0.length : Int) + 1)] : List Int)) l0 (l0.length : Int) 0) = some r := h; clear h; obtain ⟨y413, hy413⟩ := yy (([wrap64 ((l0.length : Int) + 1)] : List Int))
 (try rw [Option.bind_some] at H); (try dsimp only at H); rw [← hy413] at H
 have Ny413 := Aside0.mk hy413; clear hy413; have H' := Aside0.mk H; clear H; go_enter Try.func100, Try.ntmps100; go_wp2_with (first | ((with_reducible refine gate_dst (N := 9) rfl ?_); refine Kd.R_lit (Kd.int .i64) _ 3 ?hg (N := 9) ?hd (xs := ([wrap64 ((l0.length : Int) + 1)] : List Int)) (inner := [.int .i64 (wrap64 ((l0.length : Int) + 1))]) (ok := fun _ => True) (okp := fun _ => True) ?hr ?hp (fun _ hk => hk) trivial (Below.refl _ _) (Nat.le_refl _) (by simp) ?_; (case hd => rfl); (case hg => rfl); (case hr => first | (go_simp; done) | (go_simp; rfl)); (case hp => exact (Reps.one (show Kd.M (Kd.int .i64) _ _ _ (wrap64 ((l0.length : Int) + 1)) [.int .i64 (wrap64 ((l0.length : Int) + 1))] from rfl) (Reps.none _ _))); intro v414 w2 ho3 hb hg_ hnew_; clear hg_ hnew_; (first | rw [← Ny413.out] at ho3 | (simp only [Int.reduceToNat] at ho3; rw [← Ny413.out] at ho3)); have HO415 := Aside0.mk (Kd.R_lower ho3 (below_size (bl HB.out))); replace HB := bst HB hb; clear hb ho3))
 go_loopg [3, 12] k (fun kq v3 v12 w' => ∃ (x3_1 : List Int) (x12_1 : Int), v12 = .int .i64 x12_1 ∧ Aside0 (impl_covered.l0 kq x3_1 l0 (l0.length : Int) x12_1 = some r) ∧ Aside0 (kq ≤ k) ∧ Aside0 (Kd.R (Kd.int .i64) 3 w' w.heap.size (fun _ => True) v3 x3_1) ∧ Aside0 (Below w.heap.size w w'))
 case atStart => exact ⟨(y413), (0), (sr2), H', ⟨Nat.le_refl _⟩, ⟨rR HO415.out⟩, ⟨bl HB.out⟩⟩
 case round =>
  clear H'; obtain ⟨x3_1, x12_1, rfl, HA, HK1, HO_3, HB⟩ := hrel
  cases gk with
  | zero => exact absurd HA.out (by simp [impl_covered.l0])
  | succ k1 =>
   have H := HA.out; clear HA; simp only [impl_covered.l0] at H
   by_cases c4 : x12_1 < (l0.length : Int)
   ·rw [if_pos c4] at H; have c4b0 := decide_eq_true c4; clear c4
    by_cases c5 : 0 ≤ x12_1
    ·rw [if_pos c5] at H; have c5b0 := decide_eq_true c5; clear c5
     by_cases c6 : x12_1 < (l0.length : Int)
     ·rw [if_pos c6] at H; have c6b0 := decide_eq_true c6; clear c6
      by_cases c7 : x3_1.length < 17592186044416
      ·rw [if_pos c7] at H; have LMc7 := Aside0.mk c7; clear c7; obtain ⟨y417, hy417⟩ := yy (x3_1 ++ [wrap64 ((rd l0 x12_1) + 1)])
       (try rw [Option.bind_some] at H); (try dsimp only at H); rw [← hy417] at H
       have Ny417 := Aside0.mk hy417; clear hy417; have H' := Aside0.mk H; clear H; obtain ⟨ad416, e416, hx416_0, p416, q416⟩ := atI HR0.out x12_1; cases e416; replace hx416_0 := hbx HB hx416_0; go_wp2_with (first | ((with_reducible refine gate_builtin (b := .append) (xs := #[.tmp 16, .tmp 19]) rfl ?_); at_builtin; refine Kd.R_append (Kd.int .i64) (w0 := w) w.heap.size rfl (.tmp 16) (.tmp 19) 35 3 (.int .i64 0) 8 rfl Try.underlying35 info3 rfl (by decide) (by omega) u3 x3_1 (wrap64 ((rd l0 x12_1) + 1)) [.int .i64 (wrap64 ((rd l0 x12_1) + 1))] (fun _ => True) (fun _ => False) rfl rfl ?aP (fun _ hk => hk.elim) ?aF ?aO ?aB ?aS (by have := LMc7.out; omega) ?_; (case aP => exact rfl); (case aB => exact (bl HB.out)); (case aF => exact (fun _ _ => trivial)); (case aO => exact (rR HO_3.out)); (case aS => exact (below_size (bl HB.out))); intro v418 w8 ho hb hg hat; rw [← Ny417.out] at ho; replace HB := Aside0.mk (hb); have HO419 := Aside0.mk (ho); clear HO_3; clear ho hb hg hat))
       go_roundg k1
       case measure => have := HK1.out; omega
       case rel => exact ⟨(y417), (wrap64 (x12_1 + 1)), (sr2), H', ⟨by have := HK1.out; omega⟩, ⟨rR HO419.out⟩, ⟨bl HB.out⟩⟩
      rw [if_neg c7] at H; exact absurd H (by simp)
     rw [if_neg c6] at H; exact absurd H (by simp)
    rw [if_neg c5] at H; exact absurd H (by simp)
   rw [if_neg c4] at H; have c4b0 := decide_eq_false c4; clear c4
   by_cases c9 : x3_1.length < 17592186044416
   ·rw [if_pos c9] at H; have LMc9 := Aside0.mk c9; clear c9; obtain ⟨y420, hy420⟩ := yy (x3_1 ++ [0])
    (try rw [Option.bind_some] at H); (try dsimp only at H); rw [← hy420] at H
    have Ny420 := Aside0.mk hy420; clear hy420; obtain rfl := Option.some.inj H; go_wp2_with (first | ((with_reducible refine gate_builtin (b := .append) (xs := #[.tmp 22, .tmp 23]) rfl ?_); at_builtin; refine Kd.R_append (Kd.int .i64) (w0 := w) w.heap.size rfl (.tmp 22) (.tmp 23) 35 3 (.int .i64 0) 8 rfl Try.underlying35 info3 rfl (by decide) (by omega) u3 x3_1 0 [.int .i64 0] (fun _ => True) (fun _ => False) rfl rfl ?aP (fun _ hk => hk.elim) ?aF ?aO ?aB ?aS (by have := LMc9.out; omega) ?_; (case aP => exact rfl); (case aB => exact (bl HB.out)); (case aF => exact (fun _ _ => trivial)); (case aO => exact (rR HO_3.out)); (case aS => exact (below_size (bl HB.out))); intro v421 w10 ho hb hg hat; rw [← Ny420.out] at ho; replace HB := Aside0.mk (hb); have HO422 := Aside0.mk (ho); clear HO_3; clear ho hb hg hat)); go_ret; exact ⟨_, sr, rR HO422.out, bl HB.out⟩
   rw [if_neg c9] at H; exact absurd H (by simp)
/-! ### cmp_isNaN_int: function 121 -/
def cmp_isNaN_int.f (a0 : Int) : Option (Bool) := some (a0 != a0)
theorem cmp_isNaN_int.calls (a0 : Int) (r : Bool) (w : World) (h : cmp_isNaN_int.f a0 = some r) :
  Calls Try.prog 121 #[.int .i64 a0] w fun e w' => e = .returned (.bool r) ∧ Drawn0 w w' := by
 have H : (some (a0 != a0)) = some r := h; clear h; obtain rfl := Option.some.inj H; go_enter Try.func121, Try.ntmps121; go_wp2; go_ret; exact ⟨sr2, by repeat (first | exact Drawn0.refl _ | apply Drawn0.step)⟩
/-! ### cmp_Compare_int: function 108 -/
def cmp_Compare_int.f (a0 : Int) (a1 : Int) : Option (Int) := (cmp_isNaN_int.f a0).bind fun t425 => ((cmp_isNaN_int.f a1).bind fun t426 => (if t425 = true then (if t426 = true then (some 0) else (some (-1))) else (if t426 = true then (some 1) else (if a0 < a1 then (some (-1)) else (if a0 > a1 then (some 1) else (some 0))))))
theorem cmp_Compare_int.calls (a0 : Int) (a1 : Int) (r : Int) (w : World) (h : cmp_Compare_int.f a0 a1 = some r) :
  Calls Try.prog 108 #[.int .i64 a0, .int .i64 a1] w fun e w' => e = .returned (.int .i64 r) ∧ Drawn0 w w' := by
 have H : ((cmp_isNaN_int.f a0).bind fun t425 => ((cmp_isNaN_int.f a1).bind fun t426 => (if t425 = true then (if t426 = true then (some 0) else (some (-1))) else (if t426 = true then (some 1) else (if a0 < a1 then (some (-1)) else (if a0 > a1 then (some 1) else (some 0))))))) = some r := h; clear h; obtain ⟨t425, A3, H⟩ := bi H; (try dsimp only at H); obtain ⟨t426, A4, H⟩ := bi H; (try dsimp only at H)
 by_cases c5 : t425 = true
 ·subst c5; rw [if_pos rfl] at H
  by_cases c6 : t426 = true
  ·subst c6; rw [if_pos rfl] at H; obtain rfl := Option.some.inj H; go_enter Try.func108, Try.ntmps108; go_wp2_with (first | (go_at_call 121; (with_reducible refine (cmp_isNaN_int.calls a0 true _ A3.out).mono ?_); rintro e w' ⟨rfl, ⟨nd, rfl⟩⟩) | (go_at_call 121; (with_reducible refine (cmp_isNaN_int.calls a1 true _ A4.out).mono ?_); rintro e w' ⟨rfl, ⟨nd, rfl⟩⟩)); go_ret; exact ⟨sr2, by repeat (first | exact Drawn0.refl _ | apply Drawn0.step)⟩
  replace c6 := Bool.eq_false_iff.mpr c6; subst c6; rw [if_neg (show ¬ (false = true) by decide)] at H; obtain rfl := Option.some.inj H; go_enter Try.func108, Try.ntmps108; go_wp2_with (first | (go_at_call 121; (with_reducible refine (cmp_isNaN_int.calls a0 true _ A3.out).mono ?_); rintro e w' ⟨rfl, ⟨nd, rfl⟩⟩) | (go_at_call 121; (with_reducible refine (cmp_isNaN_int.calls a1 false _ A4.out).mono ?_); rintro e w' ⟨rfl, ⟨nd, rfl⟩⟩)); go_ret; exact ⟨sr2, by repeat (first | exact Drawn0.refl _ | apply Drawn0.step)⟩
 replace c5 := Bool.eq_false_iff.mpr c5; subst c5; rw [if_neg (show ¬ (false = true) by decide)] at H
 by_cases c7 : t426 = true
 ·subst c7; rw [if_pos rfl] at H; obtain rfl := Option.some.inj H; go_enter Try.func108, Try.ntmps108; go_wp2_with (first | (go_at_call 121; (with_reducible refine (cmp_isNaN_int.calls a0 false _ A3.out).mono ?_); rintro e w' ⟨rfl, ⟨nd, rfl⟩⟩) | (go_at_call 121; (with_reducible refine (cmp_isNaN_int.calls a1 true _ A4.out).mono ?_); rintro e w' ⟨rfl, ⟨nd, rfl⟩⟩)); go_ret; exact ⟨sr2, by repeat (first | exact Drawn0.refl _ | apply Drawn0.step)⟩
 replace c7 := Bool.eq_false_iff.mpr c7; subst c7; rw [if_neg (show ¬ (false = true) by decide)] at H
 by_cases c8 : a0 < a1
 ·rw [if_pos c8] at H; have c8b0 := decide_eq_true c8; clear c8; obtain rfl := Option.some.inj H; go_enter Try.func108, Try.ntmps108; go_wp2_with (first | (go_at_call 121; (with_reducible refine (cmp_isNaN_int.calls a0 false _ A3.out).mono ?_); rintro e w' ⟨rfl, ⟨nd, rfl⟩⟩) | (go_at_call 121; (with_reducible refine (cmp_isNaN_int.calls a1 false _ A4.out).mono ?_); rintro e w' ⟨rfl, ⟨nd, rfl⟩⟩)); go_ret; exact ⟨sr2, by repeat (first | exact Drawn0.refl _ | apply Drawn0.step)⟩
 rw [if_neg c8] at H; have c8b0 := decide_eq_false c8; clear c8
 by_cases c9 : a0 > a1
 ·rw [if_pos c9] at H; have c9b0 := decide_eq_true c9; clear c9; obtain rfl := Option.some.inj H; go_enter Try.func108, Try.ntmps108; go_wp2_with (first | (go_at_call 121; (with_reducible refine (cmp_isNaN_int.calls a0 false _ A3.out).mono ?_); rintro e w' ⟨rfl, ⟨nd, rfl⟩⟩) | (go_at_call 121; (with_reducible refine (cmp_isNaN_int.calls a1 false _ A4.out).mono ?_); rintro e w' ⟨rfl, ⟨nd, rfl⟩⟩)); go_ret; exact ⟨sr2, by repeat (first | exact Drawn0.refl _ | apply Drawn0.step)⟩
 rw [if_neg c9] at H; have c9b0 := decide_eq_false c9; clear c9; obtain rfl := Option.some.inj H; go_enter Try.func108, Try.ntmps108; go_wp2_with (first | (go_at_call 121; (with_reducible refine (cmp_isNaN_int.calls a0 false _ A3.out).mono ?_); rintro e w' ⟨rfl, ⟨nd, rfl⟩⟩) | (go_at_call 121; (with_reducible refine (cmp_isNaN_int.calls a1 false _ A4.out).mono ?_); rintro e w' ⟨rfl, ⟨nd, rfl⟩⟩)); go_ret; exact ⟨sr2, by repeat (first | exact Drawn0.refl _ | apply Drawn0.step)⟩
/-! ### slices_Compare_int_int: function 102 -/
def slices_Compare_int_int.l0 : Nat → List Int → List Int → List Int → Int → Int → Option (Int)
 | 0, _, _, _, _, _ => none
 | k + 1, x0, x1, x9, x10, x11 => if x11 < x10 then (if 0 ≤ x11 then (if x11 < (x9.length : Int) then (if x11 ≥ (x1.length : Int) then (some 1) else (if x11 < (x1.length : Int) then ((cmp_Compare_int.f (rd x9 x11) (rd x1 x11)).bind fun t429 => (if t429 = 0 then (slices_Compare_int_int.l0 k x0 x1 x9 x10 (wrap64 (x11 + 1))) else (some t429))) else (none))) else (none)) else (none)) else (if (x0.length : Int) < (x1.length : Int) then (some (-1)) else (some 0))
def slices_Compare_int_int.f (k : Nat) (l0 : List Int) (l1 : List Int) : Option (Int) := slices_Compare_int_int.l0 k l0 l1 l0 (l0.length : Int) 0
theorem slices_Compare_int_int.calls (k : Nat) (A0 : Option Addr) (c0 : Nat) (l0 : List Int) (A1 : Option Addr) (c1 : Nat) (l1 : List Int) (r : Int) (w : World) (hr0 : Kd.C (Kd.int .i64) w A0 l0.length l0) (hc0 : l0.length ≤ c0) (hr1 : Kd.C (Kd.int .i64) w A1 l1.length l1) (hc1 : l1.length ≤ c1) (h : slices_Compare_int_int.f k l0 l1 = some r) :
  Calls Try.prog 102 #[.slice A0 l0.length c0, .slice A1 l1.length c1] w fun e w' => e = .returned (.int .i64 r) ∧ Drawn0 w w' := by
 have HR0 := Aside0.mk hr0; have HC0 := Aside0.mk hc0; clear hr0 hc0; have HR1 := Aside0.mk hr1; have HC1 := Aside0.mk hc1; clear hr1 hc1; have H : (slices_Compare_int_int.l0 k l0 l1 l0 (l0.length : Int) 0) = some r := h; clear h; have H' := Aside0.mk H; clear H; go_enter Try.func102, Try.ntmps102; go_wp2
 go_loopg [11] k (fun kq v11 w' => ∃ (x11_1 : Int), v11 = .int .i64 x11_1 ∧ Aside0 (slices_Compare_int_int.l0 kq l0 l1 l0 (l0.length : Int) x11_1 = some r) ∧ Aside0 (kq ≤ k) ∧ Drawn0 w w')
 case atStart => exact ⟨(0), (sr2), H', ⟨Nat.le_refl _⟩, by repeat (first | exact Drawn0.refl _ | apply Drawn0.step)⟩
 case round =>
  clear H'; obtain ⟨x11_1, rfl, HA, HK1, ⟨m1, rfl⟩⟩ := hrel
  cases gk with
  | zero => exact absurd HA.out (by simp [slices_Compare_int_int.l0])
  | succ k1 =>
   have H := HA.out; clear HA; simp only [slices_Compare_int_int.l0] at H
   by_cases c3 : x11_1 < (l0.length : Int)
   ·rw [if_pos c3] at H; have c3b0 := decide_eq_true c3; clear c3
    by_cases c4 : 0 ≤ x11_1
    ·rw [if_pos c4] at H; have c4b0 := decide_eq_true c4; clear c4
     by_cases c5 : x11_1 < (l0.length : Int)
     ·rw [if_pos c5] at H; have c5b0 := decide_eq_true c5; clear c5
      by_cases c6 : x11_1 ≥ (l1.length : Int)
      ·rw [if_pos c6] at H; have c6b0 := decide_eq_true c6; clear c6; obtain rfl := Option.some.inj H; obtain ⟨ad427, e427, hx427_0, p427, q427⟩ := atI HR0.out x11_1; cases e427; go_wp2; go_ret; exact ⟨sr2, by repeat (first | exact Drawn0.refl _ | apply Drawn0.step)⟩
      rw [if_neg c6] at H; have c6b0 := decide_eq_false c6; clear c6
      by_cases c7 : x11_1 < (l1.length : Int)
      ·rw [if_pos c7] at H; have c7b0 := decide_eq_true c7; clear c7; obtain ⟨t429, A8, H⟩ := bi H; (try dsimp only at H)
       by_cases c9 : t429 = 0
       ·rw [if_pos c9] at H; have c9b0 := beq_iff_eq.mpr c9; have c9b1 := bne_eq_false_iff_eq.mpr c9; clear c9; have H' := Aside0.mk H; clear H; obtain ⟨ad427, e427, hx427_0, p427, q427⟩ := atI HR0.out x11_1; cases e427; obtain ⟨ad428, e428, hx428_0, p428, q428⟩ := atI HR1.out x11_1; cases e428; go_wp2_with (first | (go_at_call 108; (with_reducible refine (cmp_Compare_int.calls (rd l0 x11_1) (rd l1 x11_1) t429 _ A8.out).mono ?_); rintro e w' ⟨rfl, ⟨nd, rfl⟩⟩))
        go_roundg k1
        case measure => have := HK1.out; omega
        case rel => exact ⟨(wrap64 (x11_1 + 1)), (sr2), H', ⟨by have := HK1.out; omega⟩, by repeat (first | exact Drawn0.refl _ | apply Drawn0.step)⟩
       rw [if_neg c9] at H; have c9b0 := beq_eq_false_iff_ne.mpr c9; have c9b1 := bne_iff_ne.mpr c9; obtain rfl := Option.some.inj H; obtain ⟨ad427, e427, hx427_0, p427, q427⟩ := atI HR0.out x11_1; cases e427; obtain ⟨ad428, e428, hx428_0, p428, q428⟩ := atI HR1.out x11_1; cases e428; go_wp2_with (first | (go_at_call 108; (with_reducible refine (cmp_Compare_int.calls (rd l0 x11_1) (rd l1 x11_1) t429 _ A8.out).mono ?_); rintro e w' ⟨rfl, ⟨nd, rfl⟩⟩)); go_ret; exact ⟨sr2, by repeat (first | exact Drawn0.refl _ | apply Drawn0.step)⟩
      rw [if_neg c7] at H; exact absurd H (by simp)
     rw [if_neg c5] at H; exact absurd H (by simp)
    rw [if_neg c4] at H; exact absurd H (by simp)
   rw [if_neg c3] at H; have c3b0 := decide_eq_false c3; clear c3
   by_cases c10 : (l0.length : Int) < (l1.length : Int)
   ·rw [if_pos c10] at H; have c10b0 := decide_eq_true c10; have c10b1 : decide (l0.length < l1.length) = true := decide_eq_true (Int.ofNat_lt.mp c10); clear c10; obtain rfl := Option.some.inj H; go_wp2; go_ret; exact ⟨sr2, by repeat (first | exact Drawn0.refl _ | apply Drawn0.step)⟩
   rw [if_neg c10] at H; have c10b0 := decide_eq_false c10; have c10b1 : decide (l0.length < l1.length) = false := decide_eq_false (fun h => c10 (Int.ofNat_lt.mpr h)); clear c10; obtain rfl := Option.some.inj H; go_wp2; go_ret; exact ⟨sr2, by repeat (first | exact Drawn0.refl _ | apply Drawn0.step)⟩
/-! ### slices_SortFunc_int_int_at_slices_Compare_int_int: function 147 -/
theorem slices_SortFunc_int_int_at_slices_Compare_int_int.cmp_l0 (a b : List Int) (d : Nat) : ∀ (k i : Nat), i + d = a.length → d < k → a.length ≤ 9223372036854775807 → a.take i = b.take i → i ≤ b.length →
  slices_Compare_int_int.l0 k a b a (a.length : Int) (i : Int) = some (SortL.cmpL (a.drop i) (b.drop i)) := by
 induction d with
 | zero =>
  intro k i hi hk hm ht hb; obtain ⟨k, rfl⟩ : ∃ m, k = m + 1 := ⟨k - 1, by omega⟩; rw [slices_Compare_int_int.l0, if_neg (by omega), List.drop_of_length_le (by omega)]
  by_cases h : (a.length : Int) < (b.length : Int)
  ·rw [if_pos h, List.drop_eq_getElem_cons (by omega : i < b.length)]; rfl
  rw [if_neg h, List.drop_of_length_le (by omega)]; rfl
 | succ d ih =>
  intro k i hi hk hm ht hb; obtain ⟨k, rfl⟩ : ∃ m, k = m + 1 := ⟨k - 1, by omega⟩; (have hlt : i < a.length := by omega); rw [slices_Compare_int_int.l0, if_pos (by omega), if_pos (by omega), if_pos (by omega)]
  by_cases hb2 : i < b.length
  ·rw [if_neg (by omega), if_pos (by omega)]; (have ea : rd a (i : Int) = a[i] := by unfold rd; simp [hlt]); (have eb : rd b (i : Int) = b[i] := by unfold rd; simp [hb2]); rw [ea, eb, List.drop_eq_getElem_cons hlt, List.drop_eq_getElem_cons hb2]; unfold cmp_Compare_int.f cmp_isNaN_int.f; simp only [Option.bind_some, bne_self_eq_false, Bool.false_eq_true, if_false]; have hw : wrap64 ((i : Int) + 1) = ((i + 1 : Nat) : Int) := by unfold wrap64; omega
   by_cases h1 : a[i] < b[i]
   ·rw [if_pos h1, Option.bind_some, if_neg (by decide)]; unfold SortL.cmpL; rw [if_pos h1]
   by_cases h2 : b[i] < a[i]
   ·rw [if_neg h1, if_pos (show a[i] > b[i] from h2), Option.bind_some, if_neg (by decide)]; unfold SortL.cmpL; rw [if_neg h1, if_pos h2]
   rw [if_neg h1, if_neg (show ¬ a[i] > b[i] from h2), Option.bind_some, if_pos rfl, hw]; rw [ih k (i + 1) (by omega) (by omega) hm (by rw [List.take_succ_eq_append_getElem hlt, List.take_succ_eq_append_getElem hb2, ht, show a[i] = b[i] by omega]) (by omega)]
   conv => rhs; unfold SortL.cmpL
   rw [if_neg h1, if_neg h2]
  rw [if_pos (by omega), List.drop_eq_getElem_cons hlt, List.drop_of_length_le (by omega : b.length ≤ i)]; rfl
theorem slices_SortFunc_int_int_at_slices_Compare_int_int.cmp (a b : List Int) (hm : a.length ≤ 9223372036854775807) : slices_Compare_int_int.f (a.length + 1) a b = some (SortL.cmpL a b) := by
 unfold slices_Compare_int_int.f; have := slices_SortFunc_int_int_at_slices_Compare_int_int.cmp_l0 a b a.length (a.length + 1) 0 (by omega) (by omega) hm rfl (by omega)
 simpa using this
def slices_SortFunc_int_int_at_slices_Compare_int_int.f (l0 : List (List Int)) : Option (List (List Int)) := if l0.length < 4611686018427387904 then some (SortL.sortL l0) else none
theorem slices_SortFunc_int_int_at_slices_Compare_int_int.calls (P0_ : Nat → Prop) (u9000_ : Value) (l0 : List (List Int)) (r : List (List Int)) (w0 w : World) (hB : Below w0.heap.size w0 w) (ho0 : Kd.S (Kd.slice 3 (Kd.int .i64)) 35 w w0.heap.size P0_ u9000_ l0) (h : slices_SortFunc_int_int_at_slices_Compare_int_int.f l0 = some r) :
  Calls Try.prog 101 #[u9000_, .func (.func 102) #[] #[]] w fun e w' => e = .returned (.tuple #[]) ∧ Kd.S (Kd.slice 3 (Kd.int .i64)) 35 w' w0.heap.size P0_ u9000_ r ∧ Below w0.heap.size w0 w' ∧ Kept w w' (fun k_ => some k_ = (u9000_ : Value).ownBlock) := by
 unfold slices_SortFunc_int_int_at_slices_Compare_int_int.f at h
 by_cases hl : l0.length < 4611686018427387904
 ·rw [if_pos hl] at h; obtain rfl := Option.some.inj h
  have hcon := SortS.sort_S Shelf.sortL 3 35 102
   (fun A c a A' c' b W hA hc hA' hc' => slices_Compare_int_int.calls (a.length + 1) A c a A' c' b (SortL.cmpL a b) W hA hc hA' hc' (slices_SortFunc_int_int_at_slices_Compare_int_int.cmp a b hA.2.1))
   (enters_of Try.func102 (by kernel_rfl) rfl) w0.heap.size P0_ u9000_ l0 w ho0 hl
  refine hcon.mono ?_; rintro e w' ⟨rfl, hS, hg⟩; exact ⟨rfl, hS, Below.grown hB hg hB.size (Kd.S_base ho0), hg.size, fun i hi hn => hg.block i hi hn⟩
 rw [if_neg hl] at h; cases h
/-! ### impl_systems: function 90 -/
mutual
def impl_systems.l0 : Nat → Int → List (List Int) → Int → Int → Option ((List (List Int)))
 | 0, _, _, _, _ => none
 | k + 1, x0, x3, x14, x15 => if x15 < x14 then ((impl_systems.f k x15).bind fun t440 => (impl_systems.l1 k x0 x3 x15 x14 x15 t440 (t440.length : Int) 0)) else ((slices_SortFunc_int_int_at_slices_Compare_int_int.f x3).bind fun t439 => (some t439))
def impl_systems.l1 : Nat → Int → List (List Int) → Int → Int → Int → List (List Int) → Int → Int → Option ((List (List Int)))
 | 0, _, _, _, _, _, _, _, _ => none
 | k + 1, x0, x3, x4, x14, x15, x19, x20, x21 => if x21 < x20 then (if 0 ≤ x21 then (if x21 < (x19.length : Int) then ((impl_systems.f k (wrap64 ((wrap64 (x0 - 1)) - x4))).bind fun t444 => (impl_systems.l2 k x0 x3 x4 (rd_L1 x19 x21) x14 x15 x19 x20 x21 t444 (t444.length : Int) 0)) else (none)) else (none)) else (impl_systems.l0 k x0 x3 x14 (wrap64 (x15 + 1)))
def impl_systems.l2 : Nat → Int → List (List Int) → Int → List Int → Int → Int → List (List Int) → Int → Int → List (List Int) → Int → Int → Option ((List (List Int)))
 | 0, _, _, _, _, _, _, _, _, _, _, _, _ => none
 | k + 1, x0, x3, x4, x6, x14, x15, x19, x20, x21, x29, x30, x31 => if x31 < x30 then (if 0 ≤ x31 then (if x31 < (x29.length : Int) then ((impl_covered.f k x6).bind fun t448 => ((impl_joined.f k t448 (rd_L1 x29 x31)).bind fun t451 => (if x3.length < 5864062014805 then (impl_systems.l2 k x0 (x3 ++ [t451]) x4 x6 x14 x15 x19 x20 x21 x29 x30 (wrap64 (x31 + 1))) else (none)))) else (none)) else (none)) else (impl_systems.l1 k x0 x3 x4 x14 x15 x19 x20 (wrap64 (x21 + 1)))
def impl_systems.f : Nat → Int → Option ((List (List Int)))
 | 0, _ => none
 | k + 1, a0 => if a0 = 0 then (some (([(([] : List Int))] : List (List Int)))) else (impl_systems.l0 k a0 (([] : List (List Int))) a0 0)
end
theorem impl_systems.mono_l : ∀ k, (∀ y0, LeO (impl_systems.f k y0) (impl_systems.f (k + 1) y0)) ∧ (∀ y0 y1 y2 y3, LeO (impl_systems.l0 k y0 y1 y2 y3) (impl_systems.l0 (k + 1) y0 y1 y2 y3)) ∧ (∀ y0 y1 y2 y3 y4 y5 y6 y7, LeO (impl_systems.l1 k y0 y1 y2 y3 y4 y5 y6 y7) (impl_systems.l1 (k + 1) y0 y1 y2 y3 y4 y5 y6 y7)) ∧ (∀ y0 y1 y2 y3 y4 y5 y6 y7 y8 y9 y10 y11, LeO (impl_systems.l2 k y0 y1 y2 y3 y4 y5 y6 y7 y8 y9 y10 y11) (impl_systems.l2 (k + 1) y0 y1 y2 y3 y4 y5 y6 y7 y8 y9 y10 y11))
 | 0 => ⟨fun _ r h => by simp [impl_systems.f] at h, fun _ _ _ _ r h => by simp [impl_systems.l0] at h, fun _ _ _ _ _ _ _ _ r h => by simp [impl_systems.l1] at h, fun _ _ _ _ _ _ _ _ _ _ _ _ r h => by simp [impl_systems.l2] at h⟩
 | k + 1 => by
  obtain ⟨ih0, ih1, ih2, ih3⟩ := impl_systems.mono_l k
  refine ⟨?_, ?_, ?_, ?_⟩
  ·intro y0
   unfold impl_systems.f
   repeat' first
   | (with_reducible exact ih0 _)
   | (with_reducible exact ih1 _ _ _ _)
   | (with_reducible exact ih2 _ _ _ _ _ _ _ _)
   | (with_reducible exact ih3 _ _ _ _ _ _ _ _ _ _ _ _)
   | (with_reducible exact impl_covered.mono _ _)
   | (with_reducible exact impl_joined.mono _ _ _)
   | (with_reducible exact LeO.refl _)
   | (with_reducible exact LeO.none _)
   | (with_reducible refine LeO.ite ?_ ?_)
   | (with_reducible refine LeO.bind ?_ (fun _ => ?_))
   | exact ih0 _
   | exact ih1 _ _ _ _
   | exact ih2 _ _ _ _ _ _ _ _
   | exact ih3 _ _ _ _ _ _ _ _ _ _ _ _
   | exact impl_covered.mono _ _
   | exact impl_joined.mono _ _ _
   | exact LeO.none _
   | refine LeO.ite ?_ ?_
   | refine LeO.bind ?_ (fun _ => ?_)
  ·intro y0 y1 y2 y3
   unfold impl_systems.l0
   repeat' first
   | (with_reducible exact ih0 _)
   | (with_reducible exact ih1 _ _ _ _)
   | (with_reducible exact ih2 _ _ _ _ _ _ _ _)
   | (with_reducible exact ih3 _ _ _ _ _ _ _ _ _ _ _ _)
   | (with_reducible exact impl_covered.mono _ _)
   | (with_reducible exact impl_joined.mono _ _ _)
   | (with_reducible exact LeO.refl _)
   | (with_reducible exact LeO.none _)
   | (with_reducible refine LeO.ite ?_ ?_)
   | (with_reducible refine LeO.bind ?_ (fun _ => ?_))
   | exact ih0 _
   | exact ih1 _ _ _ _
   | exact ih2 _ _ _ _ _ _ _ _
   | exact ih3 _ _ _ _ _ _ _ _ _ _ _ _
   | exact impl_covered.mono _ _
   | exact impl_joined.mono _ _ _
   | exact LeO.none _
   | refine LeO.ite ?_ ?_
   | refine LeO.bind ?_ (fun _ => ?_)
  ·intro y0 y1 y2 y3 y4 y5 y6 y7
   unfold impl_systems.l1
   repeat' first
   | (with_reducible exact ih0 _)
   | (with_reducible exact ih1 _ _ _ _)
   | (with_reducible exact ih2 _ _ _ _ _ _ _ _)
   | (with_reducible exact ih3 _ _ _ _ _ _ _ _ _ _ _ _)
   | (with_reducible exact impl_covered.mono _ _)
   | (with_reducible exact impl_joined.mono _ _ _)
   | (with_reducible exact LeO.refl _)
   | (with_reducible exact LeO.none _)
   | (with_reducible refine LeO.ite ?_ ?_)
   | (with_reducible refine LeO.bind ?_ (fun _ => ?_))
   | exact ih0 _
   | exact ih1 _ _ _ _
   | exact ih2 _ _ _ _ _ _ _ _
   | exact ih3 _ _ _ _ _ _ _ _ _ _ _ _
   | exact impl_covered.mono _ _
   | exact impl_joined.mono _ _ _
   | exact LeO.none _
   | refine LeO.ite ?_ ?_
   | refine LeO.bind ?_ (fun _ => ?_)
  ·intro y0 y1 y2 y3 y4 y5 y6 y7 y8 y9 y10 y11
   unfold impl_systems.l2
   repeat' first
   | (with_reducible exact ih0 _)
   | (with_reducible exact ih1 _ _ _ _)
   | (with_reducible exact ih2 _ _ _ _ _ _ _ _)
   | (with_reducible exact ih3 _ _ _ _ _ _ _ _ _ _ _ _)
   | (with_reducible exact impl_covered.mono _ _)
   | (with_reducible exact impl_joined.mono _ _ _)
   | (with_reducible exact LeO.refl _)
   | (with_reducible exact LeO.none _)
   | (with_reducible refine LeO.ite ?_ ?_)
   | (with_reducible refine LeO.bind ?_ (fun _ => ?_))
   | exact ih0 _
   | exact ih1 _ _ _ _
   | exact ih2 _ _ _ _ _ _ _ _
   | exact ih3 _ _ _ _ _ _ _ _ _ _ _ _
   | exact impl_covered.mono _ _
   | exact impl_joined.mono _ _ _
   | exact LeO.none _
   | refine LeO.ite ?_ ?_
   | refine LeO.bind ?_ (fun _ => ?_)
theorem impl_systems.mono : ∀ a0 k, LeO (impl_systems.f k a0) (impl_systems.f (k + 1) a0) := by
 intro a0 k; obtain ⟨ih0, ih1, ih2, ih3⟩ := impl_systems.mono_l k; exact ih0 a0
theorem impl_systems.calls (k : Nat) : ∀ (a0 : Int) (r : List (List Int)) (w : World) (h : impl_systems.f k a0 = some r),
  Calls Try.prog 90 #[.int .i64 a0] w fun e w' => ∃ v0_ : Value, e = .returned (v0_) ∧ Kd.S (Kd.slice 3 (Kd.int .i64)) 35 w' w.heap.size (fun _ => True) v0_ r ∧ Below w.heap.size w w' := by
 induction k using Nat.strongRecOn with
 | _ k ih =>
 intro a0 r w h
 cases k with
 | zero => exact absurd h (by simp [impl_systems.f])
 | succ k =>
 simp only [impl_systems.f] at h; have HB := Aside0.mk (Below.refl w.heap.size w); have H : (if a0 = 0 then (some (([(([] : List Int))] : List (List Int)))) else (impl_systems.l0 k a0 (([] : List (List Int))) a0 0)) = some r := h; clear h
 by_cases c2 : a0 = 0
 ·rw [if_pos c2] at H; have c2b0 := beq_iff_eq.mpr c2; have c2b1 := bne_eq_false_iff_eq.mpr c2; clear c2; obtain ⟨y430, hy430⟩ := yy (([] : List Int))
  (try rw [Option.bind_some] at H); (try dsimp only at H); rw [← hy430] at H
  have Ny430 := Aside0.mk hy430; clear hy430; obtain ⟨y433, hy433⟩ := yy (([y430] : List (List Int)))
  (try rw [Option.bind_some] at H); (try dsimp only at H); rw [← hy433] at H
  have Ny433 := Aside0.mk hy433; clear hy433; obtain rfl := Option.some.inj H; go_enter Try.func90, Try.ntmps90; go_wp2_with (first | ((with_reducible refine gate_dst (N := 11) rfl ?_); refine Kd.R_lit (Kd.int .i64) _ 3 ?hg (N := 11) ?hd (xs := ([] : List Int)) (inner := []) (ok := fun _ => True) (okp := fun _ => True) ?hr ?hp (fun _ hk => hk) trivial (Below.refl _ _) (Nat.le_refl _) (by simp) ?_; (case hd => rfl); (case hg => rfl); (case hr => first | (go_simp; done) | (go_simp; rfl)); (case hp => exact (Reps.none _ _)); intro v431 w3 ho4 hb hg_ hnew_; clear hg_ hnew_; (first | rw [← Ny430.out] at ho4 | (simp only [Int.reduceToNat] at ho4; rw [← Ny430.out] at ho4)); have HO432 := Aside0.mk (Kd.R_lower ho4 (below_size (bl HB.out))); replace HB := bst HB hb; clear hb ho4; obtain ⟨Ao5, co5, eo5⟩ := Kd.R_slice HO432.out; subst eo5) | ((with_reducible refine gate_dst (N := 12) rfl ?_); refine RowsS.S_lit1 (Kd.slice 3 (Kd.int .i64)) (w0 := w) w.heap.size 35 ?hg (N := 12) ?hd (x := y430) (cs := [.slice Ao5 y430.length co5]) ?hr ?hp ?hB ?hS ?_; (case hd => rfl); (case hg => rfl); (case hr => first | (go_simp; done) | (go_simp; rfl)); (case hp => exact Kd.M_row (Kd.R_mono (ok' := fun _ => True) (rR HO432.out) (fun _ _ => trivial))); (case hB => exact (bl HB.out)); (case hS => exact ((below_size (bl HB.out)))); intro v434 w6 ho7 hb hg_ hnew_; clear hg_ hnew_; (first | rw [← Ny433.out] at ho7 | (simp only [Int.reduceToNat] at ho7; rw [← Ny433.out] at ho7)); have HO435 := Aside0.mk (ho7); replace HB := bst HB hb; clear HO432; clear hb ho7)); go_ret; exact ⟨_, sr, rS HO435.out, bl HB.out⟩
 rw [if_neg c2] at H; have c2b0 := beq_eq_false_iff_ne.mpr c2; have c2b1 := bne_iff_ne.mpr c2; obtain ⟨y436, hy436⟩ := yy (([] : List (List Int)))
 (try rw [Option.bind_some] at H); (try dsimp only at H); rw [← hy436] at H
 have Ny436 := Aside0.mk hy436; clear hy436; have H' := Aside0.mk H; clear H; go_enter Try.func90, Try.ntmps90; go_wp2_with (first | ((with_reducible refine gate_dst (N := 13) rfl ?_); refine Kd.S_lit (Kd.slice 3 (Kd.int .i64)) _ 35 ?hg (N := 13) ?hd (xs := ([] : List (List Int))) (inner := []) (ok := fun _ => True) (okp := fun _ => True) ?hr ?hp (fun _ hk => hk) trivial (Below.refl _ _) (Nat.le_refl _) (by simp) ?_; (case hd => rfl); (case hg => rfl); (case hr => first | (go_simp; done) | (go_simp; rfl)); (case hp => exact (Reps.none _ _)); intro v437 w8 ho9 hb hg_ hnew_; clear hg_ hnew_; (first | rw [← Ny436.out] at ho9 | (simp only [Int.reduceToNat] at ho9; rw [← Ny436.out] at ho9)); have HO438 := Aside0.mk (Kd.S_lower ho9 (below_size (bl HB.out))); replace HB := bst HB hb; clear hb ho9))
 go_loopg [3, 15] k (fun kq v3 v15 w' => ∃ (x3_1 : List (List Int)) (x15_1 : Int), v15 = .int .i64 x15_1 ∧ Aside0 (impl_systems.l0 kq a0 x3_1 a0 x15_1 = some r) ∧ Aside0 (kq ≤ k) ∧ Aside0 (Kd.S (Kd.slice 3 (Kd.int .i64)) 35 w' w.heap.size (fun _ => True) v3 x3_1) ∧ Aside0 (Below w.heap.size w w'))
 case atStart => exact ⟨(y436), (0), (sr2), H', ⟨Nat.le_refl _⟩, ⟨rS HO438.out⟩, ⟨bl HB.out⟩⟩
 case round =>
  clear H'; obtain ⟨x3_1, x15_1, rfl, HA, HK1, HO_3, HB⟩ := hrel
  cases gk with
  | zero => exact absurd HA.out (by simp [impl_systems.l0])
  | succ k1 =>
   have H := HA.out; clear HA; simp only [impl_systems.l0] at H
   by_cases c10 : x15_1 < a0
   ·rw [if_pos c10] at H; have c10b0 := decide_eq_true c10; clear c10; obtain ⟨t440, A11, H⟩ := bi H; (try dsimp only at H); have H' := Aside0.mk H; clear H; go_wp2_with (first | (go_at_call 90; (with_reducible refine (ih k1 (by have := HK1.out; omega) x15_1 t440 _ A11.out).mono ?_); rintro e w12 ⟨v441, rfl, ho0, hb⟩; have HO442 := Aside0.mk (Kd.S_lower (Kd.S_new' ho0 (Kd.S_lt (rS HO_3.out))) (below_size (bl HB.out))); replace HO_3 := Aside0.mk (Kd.S_elder' (rS HO_3.out) (Kd.S_base ho0) hb); replace HB := bst HB hb; obtain ⟨Ao13, co13, eo13⟩ := Kd.S_slice HO442.out; subst eo13))
    go_loopg [3, 21] k1 (fun kq v3 v21 w' => ∃ (x3_2 : List (List Int)) (x21_2 : Int), v21 = .int .i64 x21_2 ∧ Aside0 (impl_systems.l1 kq a0 x3_2 x15_1 a0 x15_1 t440 (t440.length : Int) x21_2 = some r) ∧ Aside0 (kq ≤ k1) ∧ Aside0 (Kd.S (Kd.slice 3 (Kd.int .i64)) 35 w' w.heap.size (fun k_ => some k_ ≠ ((.slice Ao13 t440.length co13) : Value).ownBlock) v3 x3_2) ∧ Aside0 (Kd.S (Kd.slice 3 (Kd.int .i64)) 35 w' w.heap.size (fun k_ => some k_ ≠ (v3 : Value).ownBlock) (.slice Ao13 t440.length co13) t440) ∧ Aside0 (Below w.heap.size w w'))
    case atStart => exact ⟨(x3_1), (0), (sr2), H', ⟨Nat.le_refl _⟩, ⟨rS (Kd.S_mono HO_3.out (fun _ hk => hk.2))⟩, ⟨rS (Kd.S_mono HO442.out (fun _ hk => hk.2))⟩, ⟨bl HB.out⟩⟩
    case round =>
     clear H'; obtain ⟨x3_2, x21_2, rfl, HA, HK2, HO_3, HO_19, HB⟩ := hrel
     cases gk with
     | zero => exact absurd HA.out (by simp [impl_systems.l1])
     | succ k2 =>
      have H := HA.out; clear HA; simp only [impl_systems.l1] at H
      by_cases c14 : x21_2 < (t440.length : Int)
      ·rw [if_pos c14] at H; have c14b0 := decide_eq_true c14; clear c14
       by_cases c15 : 0 ≤ x21_2
       ·rw [if_pos c15] at H; have c15b0 := decide_eq_true c15; clear c15
        by_cases c16 : x21_2 < (t440.length : Int)
        ·rw [if_pos c16] at H; have c16b0 := decide_eq_true c16; clear c16; obtain ⟨t444, A17, H⟩ := bi H; (try dsimp only at H); have H' := Aside0.mk H; clear H; have p443 : 0 ≤ (x21_2 : Int) := od; have q443 : x21_2 < (t440.length : Int) := od; obtain ⟨ad443, A443_0, c443_0, e443, hx443_0, hl443_0, hi443_0⟩ := at_L1 (Kd.S_reads' HO_19.out).2.2 x21_2 p443 q443; cases e443; obtain ⟨ce443, hce443, hMe443, hcc443⟩ := Kd.S_get HO_19.out [] x21_2 p443 (by first | exact q443 | exact od | (have e_ := (Kd.S_reads' HO_19.out).1; omega)); obtain ⟨ve443_0, rfl, ge443_0⟩ := hMe443; have hv443_0 := hcc443 0 _ rfl; rw [Nat.add_zero, show ((Kd.slice 3 (Kd.int .i64))).sz = 1 from rfl, Nat.mul_one] at hv443_0; replace hv443_0 := Option.some.inj (hv443_0.symm.trans hx443_0); rw [hv443_0] at ge443_0; have HL443_0 := Aside0.mk (show Kd.R (Kd.int .i64) 3 _ _ _ _ (rd_L1 t440 x21_2) from ge443_0); clear hv443_0 ge443_0; clear hcc443 hce443; have HR443_0 := Aside0.mk hi443_0; have HC443_0 := Aside0.mk hl443_0; clear hi443_0 hl443_0; replace p443 := eq_true p443; replace q443 := eq_true q443; go_wp2_with (first | (go_at_call 90; (with_reducible refine (ih k2 (by have := HK1.out; have := HK2.out; omega) (wrap64 ((wrap64 (a0 - 1)) - x15_1)) t444 _ A17.out).mono ?_); rintro e w18 ⟨v445, rfl, ho0, hb⟩; have HO446 := Aside0.mk (Kd.S_lower (Kd.S_new' (Kd.S_new' (Kd.S_new' ho0 (Kd.S_lt (rS HO_3.out))) (Kd.S_lt (rS HO_19.out))) (Kd.R_lt (rR HL443_0.out))) (below_size (bl HB.out))); replace HO_3 := Aside0.mk (Kd.S_elder' (rS HO_3.out) (Kd.S_base ho0) hb); replace HO_19 := Aside0.mk (Kd.S_elder' (rS HO_19.out) (Kd.S_base ho0) hb); replace HL443_0 := Aside0.mk (Kd.R_below (rR HL443_0.out) hb); replace HR443_0 := Aside0.mk (Kd.C_below (by repeat (first | (with_reducible exact HR443_0.out) | (with_reducible refine Kd.C_alloc ?_ _) | (with_reducible refine Kd.C_drewN ?_ _) | (with_reducible refine Kd.C_drew ?_) | exact HR443_0.out)) hb); replace HB := bst HB hb; obtain ⟨Ao19, co19, eo19⟩ := Kd.S_slice HO446.out; subst eo19))
         go_loopg [3, 31] k2 (fun kq v3 v31 w' => ∃ (x3_3 : List (List Int)) (x31_3 : Int), v31 = .int .i64 x31_3 ∧ Aside0 (impl_systems.l2 kq a0 x3_3 x15_1 (rd_L1 t440 x21_2) a0 x15_1 t440 (t440.length : Int) x21_2 t444 (t444.length : Int) x31_3 = some r) ∧ Aside0 (kq ≤ k2) ∧ Aside0 (Kd.S (Kd.slice 3 (Kd.int .i64)) 35 w' w.heap.size (fun k_ => some k_ ≠ ((.slice (some ad443) t440.length co13) : Value).ownBlock ∧ some k_ ≠ ((.slice Ao19 t444.length co19) : Value).ownBlock) v3 x3_3) ∧ Aside0 (Kd.R (Kd.int .i64) 3 w' w.heap.size (fun _ => True) (.slice A443_0 (rd_L1 t440 x21_2).length c443_0) (rd_L1 t440 x21_2)) ∧ Aside0 (Kd.S (Kd.slice 3 (Kd.int .i64)) 35 w' w.heap.size (fun k_ => some k_ ≠ (v3 : Value).ownBlock ∧ some k_ ≠ ((.slice Ao19 t444.length co19) : Value).ownBlock) (.slice (some ad443) t440.length co13) t440) ∧ Aside0 (Kd.S (Kd.slice 3 (Kd.int .i64)) 35 w' w.heap.size (fun k_ => some k_ ≠ (v3 : Value).ownBlock ∧ some k_ ≠ ((.slice (some ad443) t440.length co13) : Value).ownBlock) (.slice Ao19 t444.length co19) t444) ∧ Aside0 (Below w.heap.size w w'))
         case atStart => exact ⟨(x3_2), (0), (sr2), H', ⟨Nat.le_refl _⟩, ⟨rS HO_3.out⟩, ⟨rR (Kd.R_mono HL443_0.out (fun _ hk => trivial))⟩, ⟨rS HO_19.out⟩, ⟨rS (Kd.S_mono HO446.out (fun _ hk => ⟨hk.1.1.2, hk.1.2⟩))⟩, ⟨bl HB.out⟩⟩
         case round =>
          clear H'; obtain ⟨x3_3, x31_3, rfl, HA, HK3, HO_3, HO_6, HO_19, HO_29, HB⟩ := hrel
          cases gk with
          | zero => exact absurd HA.out (by simp [impl_systems.l2])
          | succ k3 =>
           have H := HA.out; clear HA; simp only [impl_systems.l2] at H
           by_cases c20 : x31_3 < (t444.length : Int)
           ·rw [if_pos c20] at H; have c20b0 := decide_eq_true c20; clear c20
            by_cases c21 : 0 ≤ x31_3
            ·rw [if_pos c21] at H; have c21b0 := decide_eq_true c21; clear c21
             by_cases c22 : x31_3 < (t444.length : Int)
             ·rw [if_pos c22] at H; have c22b0 := decide_eq_true c22; clear c22; obtain ⟨t448, A23, H⟩ := bi H; (try dsimp only at H); obtain ⟨t451, A24, H⟩ := bi H; (try dsimp only at H)
              by_cases c25 : x3_3.length < 5864062014805
              ·rw [if_pos c25] at H; have LMc25 := Aside0.mk c25; clear c25; obtain ⟨y454, hy454⟩ := yy (x3_3 ++ [t451])
               (try rw [Option.bind_some] at H); (try dsimp only at H); rw [← hy454] at H
               have Ny454 := Aside0.mk hy454; clear hy454; have H' := Aside0.mk H; clear H; have p447 : 0 ≤ (x31_3 : Int) := od; have q447 : x31_3 < (t444.length : Int) := od; obtain ⟨ad447, A447_0, c447_0, e447, hx447_0, hl447_0, hi447_0⟩ := at_L1 (Kd.S_reads' HO_29.out).2.2 x31_3 p447 q447; cases e447; obtain ⟨ce447, hce447, hMe447, hcc447⟩ := Kd.S_get HO_29.out [] x31_3 p447 (by first | exact q447 | exact od | (have e_ := (Kd.S_reads' HO_29.out).1; omega)); obtain ⟨ve447_0, rfl, ge447_0⟩ := hMe447; have hv447_0 := hcc447 0 _ rfl; rw [Nat.add_zero, show ((Kd.slice 3 (Kd.int .i64))).sz = 1 from rfl, Nat.mul_one] at hv447_0; replace hv447_0 := Option.some.inj (hv447_0.symm.trans hx447_0); rw [hv447_0] at ge447_0; have HL447_0 := Aside0.mk (show Kd.R (Kd.int .i64) 3 _ _ _ _ (rd_L1 t444 x31_3) from ge447_0); clear hv447_0 ge447_0; clear hcc447 hce447; have HR447_0 := Aside0.mk hi447_0; have HC447_0 := Aside0.mk hl447_0; clear hi447_0 hl447_0; replace p447 := eq_true p447; replace q447 := eq_true q447; go_wp2_with (first | (go_at_call 100; (with_reducible refine (impl_covered.calls k3 _ _ (rd_L1 t440 x21_2) t448 _ ?side1 ((Kd.R_reads' HO_6.out).2.1) A23.out).mono ?_); (case side1 => exact cw ((Kd.R_reads' HO_6.out).2.2)); rintro e w26 ⟨v449, rfl, ho0, hb⟩; replace HO_3 := Aside0.mk (Kd.S_elder' (rS HO_3.out) (Kd.R_base ho0) hb); replace HO_19 := Aside0.mk (Kd.S_elder' (rS HO_19.out) (Kd.R_base ho0) hb); replace HO_29 := Aside0.mk (Kd.S_elder' (rS HO_29.out) (Kd.R_base ho0) hb); have HO450 := Aside0.mk (Kd.R_lower (Kd.R_new' (Kd.R_new' ho0 (Kd.R_lt (rR HO_6.out))) (Kd.R_lt (rR HL447_0.out))) (below_size (bl HB.out))); replace HO_6 := Aside0.mk (Kd.R_elder' (rR HO_6.out) (Kd.R_base ho0) hb); replace HL447_0 := Aside0.mk (Kd.R_elder' (rR HL447_0.out) (Kd.R_base ho0) hb); replace HR447_0 := Aside0.mk (Kd.C_below (by repeat (first | (with_reducible exact HR447_0.out) | (with_reducible refine Kd.C_alloc ?_ _) | (with_reducible refine Kd.C_drewN ?_ _) | (with_reducible refine Kd.C_drew ?_) | exact HR447_0.out)) hb); replace HB := bst HB hb; obtain ⟨Ao27, co27, eo27⟩ := Kd.R_slice HO450.out; subst eo27) | (go_at_call 99; (with_reducible refine (impl_joined.calls k3 _ _ t448 _ _ (rd_L1 t444 x31_3) t451 _ ?side1 ?side2 ?side3 HC447_0.out A24.out).mono ?_); (case side1 => exact cw ((Kd.R_reads' HO450.out).2.2)); (case side2 => exact (Kd.R_reads' HO450.out).2.1); (case side3 => repeat (first | exact (by repeat (first | (with_reducible exact HR447_0.out) | (with_reducible refine Kd.C_alloc ?_ _) | (with_reducible refine Kd.C_drewN ?_ _) | (with_reducible refine Kd.C_drew ?_) | exact HR447_0.out)) | (with_reducible refine Kd.C_alloc ?_ _) | (with_reducible refine Kd.C_drewN ?_ _) | (with_reducible refine Kd.C_drew ?_))); rintro e w28 ⟨v452, rfl, ho0, hb⟩; replace HO_3 := Aside0.mk (Kd.S_elder' (rS HO_3.out) (Kd.R_base ho0) hb); replace HO_19 := Aside0.mk (Kd.S_elder' (rS HO_19.out) (Kd.R_base ho0) hb); replace HO_29 := Aside0.mk (Kd.S_elder' (rS HO_29.out) (Kd.R_base ho0) hb); have HO453 := Aside0.mk (Kd.R_lower (Kd.R_new' (Kd.R_new' (Kd.R_new' ho0 (Kd.R_lt (rR HO_6.out))) (Kd.R_lt (rR HL447_0.out))) (Kd.R_lt (rR HO450.out))) (below_size (bl HB.out))); replace HO_6 := Aside0.mk (Kd.R_elder' (rR HO_6.out) (Kd.R_base ho0) hb); replace HL447_0 := Aside0.mk (Kd.R_elder' (rR HL447_0.out) (Kd.R_base ho0) hb); replace HO450 := Aside0.mk (Kd.R_elder' (rR HO450.out) (Kd.R_base ho0) hb); replace HR447_0 := Aside0.mk (Kd.C_below (by repeat (first | (with_reducible exact HR447_0.out) | (with_reducible refine Kd.C_alloc ?_ _) | (with_reducible refine Kd.C_drewN ?_ _) | (with_reducible refine Kd.C_drew ?_) | exact HR447_0.out)) hb); replace HB := bst HB hb; obtain ⟨Ao30, co30, eo30⟩ := Kd.R_slice HO453.out; subst eo30) | ((with_reducible refine gate_builtin (b := .append) (xs := #[.tmp 35, .tmp 40]) rfl ?_); at_builtin; refine Kd.S_append (Kd.slice 3 (Kd.int .i64)) (w0 := w) w.heap.size rfl (.tmp 35) (.tmp 40) 22 35 (.slice none 0 0) 24 rfl Try.underlying22 info35 rfl (by decide) (by omega) u3 x3_3 t451 [.slice Ao30 t451.length co30] (fun k_ => some k_ ≠ (.slice (some ad443) t440.length co13 : Value).ownBlock ∧ some k_ ≠ (.slice (some ad447) t444.length co19 : Value).ownBlock ∧ some k_ ≠ (.slice Ao27 t448.length co27 : Value).ownBlock) (fun k_ => some k_ = (.slice Ao30 t451.length co30 : Value).ownBlock) rfl rfl ?aP (fun k_ hk_ => ((Kd.R_mono (ok' := fun k_ => ((fun k_ => some k_ ≠ (.slice (some ad443) t440.length co13 : Value).ownBlock ∧ some k_ ≠ (.slice (some ad447) t444.length co19 : Value).ownBlock ∧ some k_ ≠ (.slice Ao27 t448.length co27 : Value).ownBlock)) k_ ∧ some k_ ≠ (u3 : Value).ownBlock) (Kd.R_apart' (Kd.R_apart' (Kd.R_apart' (HO453.out) (Kd.S_typed HO_19.out) (by decide)) (Kd.S_typed HO_29.out) (by decide)) (Kd.S_typed HO_3.out) (by decide)) (fun k_ hk => ⟨⟨hk.1.1.2, ⟨hk.1.2, hk.1.1.1.2⟩⟩, hk.2⟩))).1 k_ hk_.symm) ?aF ?aO ?aB ?aS (by have := LMc25.out; omega) ?_; (case aP => exact Kd.M_row (Kd.R_mono (Kd.R_tight rfl (Kd.R_mono (ok' := fun k_ => ((fun k_ => some k_ ≠ (.slice (some ad443) t440.length co13 : Value).ownBlock ∧ some k_ ≠ (.slice (some ad447) t444.length co19 : Value).ownBlock ∧ some k_ ≠ (.slice Ao27 t448.length co27 : Value).ownBlock)) k_ ∧ some k_ ≠ (u3 : Value).ownBlock) (Kd.R_apart' (Kd.R_apart' (Kd.R_apart' (HO453.out) (Kd.S_typed HO_19.out) (by decide)) (Kd.S_typed HO_29.out) (by decide)) (Kd.S_typed HO_3.out) (by decide)) (fun k_ hk => ⟨⟨hk.1.1.2, ⟨hk.1.2, hk.1.1.1.2⟩⟩, hk.2⟩))) (fun _ h_ => h_))); (case aB => exact (bl HB.out)); (case aF => exact (fun k_ hk => ⟨Kd.fresh' (Kd.S_lt (rS HO_19.out)) k_ hk, Kd.fresh' (Kd.S_lt (rS HO_29.out)) k_ hk, Kd.fresh' (Kd.R_lt (rR HO450.out)) k_ hk⟩)); (case aO => exact (rS (Kd.S_mono HO_3.out (fun k_ hk => ⟨⟨hk.1.1.1, ⟨hk.1.1.2, hk.1.2⟩⟩, fun e_ => hk.2 e_⟩)))); (case aS => exact (below_size (bl HB.out))); intro v455 w29 ho hb hg hat; rw [← Ny454.out] at ho; replace HO_6 := Aside0.mk (Kd.R_over' (rR HO_6.out) (Kd.S_typed (rS HO_3.out)) (by decide) hg); replace HO_19 := Aside0.mk (Kd.S_after (ok := (fun k_ => some k_ ≠ (.slice (some ad447) t444.length co19 : Value).ownBlock ∧ some k_ ≠ (.slice Ao27 t448.length co27 : Value).ownBlock ∧ some k_ ≠ (.slice Ao30 t451.length co30 : Value).ownBlock)) (rS (Kd.S_mono HO_19.out (fun _ hk => ⟨⟨hk.1.1.2, ⟨hk.1.2, hk.2⟩⟩, hk.1.1.1⟩))) hg hat); replace HO_29 := Aside0.mk (Kd.S_after (ok := (fun k_ => some k_ ≠ (.slice (some ad443) t440.length co13 : Value).ownBlock ∧ some k_ ≠ (.slice Ao27 t448.length co27 : Value).ownBlock ∧ some k_ ≠ (.slice Ao30 t451.length co30 : Value).ownBlock)) (rS (Kd.S_mono HO_29.out (fun _ hk => ⟨⟨hk.1.1.2, ⟨hk.1.2, hk.2⟩⟩, hk.1.1.1⟩))) hg hat); replace HL447_0 := Aside0.mk (Kd.R_after (ok := (fun k_ => some k_ ≠ (.slice (some ad443) t440.length co13 : Value).ownBlock ∧ some k_ ≠ (.slice (some ad447) t444.length co19 : Value).ownBlock ∧ some k_ ≠ (.slice Ao27 t448.length co27 : Value).ownBlock ∧ some k_ ≠ (.slice Ao30 t451.length co30 : Value).ownBlock)) (rR (Kd.R_mono HL447_0.out (fun _ hk => ⟨⟨hk.1.1.1.2, ⟨hk.1.1.2, ⟨hk.1.2, hk.2⟩⟩⟩, hk.1.1.1.1⟩))) hg hat); replace HO450 := Aside0.mk (Kd.R_over' (rR HO450.out) (Kd.S_typed (rS HO_3.out)) (by decide) hg); replace HB := Aside0.mk (hb); have HO456 := Aside0.mk (ho); clear HO_3 HO453; clear ho hb hg hat))
               go_roundg k3
               case measure => have := HK1.out; have := HK2.out; have := HK3.out; omega
               case rel => exact ⟨(y454), (wrap64 (x31_3 + 1)), (sr2), H', ⟨by have := HK1.out; have := HK2.out; have := HK3.out; omega⟩, ⟨rS (Kd.S_mono HO456.out (fun _ hk => ⟨hk.1, hk.2.1⟩))⟩, ⟨rR (Kd.R_mono HO_6.out (fun _ hk => trivial))⟩, ⟨rS (Kd.S_mono HO_19.out (fun _ hk => ⟨hk.2, hk.1.1⟩))⟩, ⟨rS (Kd.S_mono HO_29.out (fun _ hk => ⟨hk.2, hk.1.1⟩))⟩, ⟨bl HB.out⟩⟩
              rw [if_neg c25] at H; exact absurd H (by simp)
             rw [if_neg c22] at H; exact absurd H (by simp)
            rw [if_neg c21] at H; exact absurd H (by simp)
           rw [if_neg c20] at H; have c20b0 := decide_eq_false c20; clear c20; have H' := Aside0.mk H; clear H; go_wp2
           go_roundg k3
           case measure => have := HK1.out; have := HK2.out; have := HK3.out; omega
           case rel => exact ⟨(x3_3), (wrap64 (x21_2 + 1)), (sr2), H', ⟨by have := HK1.out; have := HK2.out; have := HK3.out; omega⟩, ⟨rS (Kd.S_mono HO_3.out (fun _ hk => hk.1))⟩, ⟨rS (Kd.S_mono HO_19.out (fun _ hk => hk.1))⟩, ⟨bl HB.out⟩⟩
        rw [if_neg c16] at H; exact absurd H (by simp)
       rw [if_neg c15] at H; exact absurd H (by simp)
      rw [if_neg c14] at H; have c14b0 := decide_eq_false c14; clear c14; have H' := Aside0.mk H; clear H; go_wp2
      go_roundg k2
      case measure => have := HK1.out; have := HK2.out; omega
      case rel => exact ⟨(x3_2), (wrap64 (x15_1 + 1)), (sr2), H', ⟨by have := HK1.out; have := HK2.out; omega⟩, ⟨rS (Kd.S_mono HO_3.out (fun _ hk => trivial))⟩, ⟨bl HB.out⟩⟩
   rw [if_neg c10] at H; have c10b0 := decide_eq_false c10; clear c10; obtain ⟨t439, A31, H⟩ := bi H; (try dsimp only at H); obtain rfl := Option.some.inj H; obtain ⟨Ao32, co32, eo32⟩ := Kd.S_slice HO_3.out; subst eo32; go_wp2_with (first | (go_at_call 101; (with_reducible refine (slices_SortFunc_int_int_at_slices_Compare_int_int.calls (fun k_ => True) (.slice Ao32 x3_1.length co32) x3_1  t439 w _ ?side1 HO_3.out A31.out).mono ?_); (case side1 => repeat (first | (with_reducible first | exact HB.out | apply below_alloc | apply pw_below_drewN | apply below_drew1) | exact HB.out)); rintro e w33 ⟨rfl, hy0, hb, hkp⟩; replace HO_3 := Aside0.mk (hy0); replace HB := Aside0.mk (hb))); go_ret; exact ⟨_, sr, rS HO_3.out, bl HB.out⟩
/-! ### impl_exponents: function 60 -/
mutual
def impl_exponents.l0 : Nat → List (List Int) → List (List Int) → List (List Int) → Int → Int → Option ((List (List Int)))
 | 0, _, _, _, _, _ => none
 | k + 1, x3, x4, x13, x14, x15 => if x15 < x14 then (if 0 ≤ x15 then (if x15 < (x13.length : Int) then (impl_exponents.l1 k x3 x4 (rd_L1 x13 x15) (([] : List Int)) x13 x14 x15 x4 (x4.length : Int) 0) else (none)) else (none)) else (some x3)
def impl_exponents.l1 : Nat → List (List Int) → List (List Int) → List Int → List Int → List (List Int) → Int → Int → List (List Int) → Int → Int → Option ((List (List Int)))
 | 0, _, _, _, _, _, _, _, _, _, _ => none
 | k + 1, x3, x4, x6, x7, x13, x14, x15, x20, x21, x22 => if x22 < x21 then (if 0 ≤ x22 then (if x22 < (x20.length : Int) then ((impl_Meander_components.f k x6 (rd_L1 x20 x22)).bind fun t468 => (if x7.length < 17592186044416 then (impl_exponents.l1 k x3 x4 x6 (x7 ++ [t468]) x13 x14 x15 x20 x21 (wrap64 (x22 + 1))) else (none))) else (none)) else (none)) else (if x3.length < 5864062014805 then (impl_exponents.l0 k (x3 ++ [x7]) x4 x13 x14 (wrap64 (x15 + 1))) else (none))
end
def impl_exponents.f (k : Nat) (a0 : Int) : Option ((List (List Int))) := (impl_systems.f k a0).bind fun t460 => (impl_exponents.l0 k (([] : List (List Int))) t460 t460 (t460.length : Int) 0)
theorem impl_exponents.mono_l : ∀ k, (∀ y0 y1 y2 y3 y4, LeO (impl_exponents.l0 k y0 y1 y2 y3 y4) (impl_exponents.l0 (k + 1) y0 y1 y2 y3 y4)) ∧ (∀ y0 y1 y2 y3 y4 y5 y6 y7 y8 y9, LeO (impl_exponents.l1 k y0 y1 y2 y3 y4 y5 y6 y7 y8 y9) (impl_exponents.l1 (k + 1) y0 y1 y2 y3 y4 y5 y6 y7 y8 y9))
 | 0 => ⟨fun _ _ _ _ _ r h => by simp [impl_exponents.l0] at h, fun _ _ _ _ _ _ _ _ _ _ r h => by simp [impl_exponents.l1] at h⟩
 | k + 1 => by
  obtain ⟨ih0, ih1⟩ := impl_exponents.mono_l k
  refine ⟨?_, ?_⟩
  ·intro y0 y1 y2 y3 y4
   unfold impl_exponents.l0
   repeat' first
   | (with_reducible exact ih0 _ _ _ _ _)
   | (with_reducible exact ih1 _ _ _ _ _ _ _ _ _ _)
   | (with_reducible exact impl_Meander_components.mono _ _ _)
   | (with_reducible exact impl_systems.mono _ _)
   | (with_reducible exact LeO.refl _)
   | (with_reducible exact LeO.none _)
   | (with_reducible refine LeO.ite ?_ ?_)
   | (with_reducible refine LeO.bind ?_ (fun _ => ?_))
   | exact ih0 _ _ _ _ _
   | exact ih1 _ _ _ _ _ _ _ _ _ _
   | exact impl_Meander_components.mono _ _ _
   | exact impl_systems.mono _ _
   | exact LeO.none _
   | refine LeO.ite ?_ ?_
   | refine LeO.bind ?_ (fun _ => ?_)
  ·intro y0 y1 y2 y3 y4 y5 y6 y7 y8 y9
   unfold impl_exponents.l1
   repeat' first
   | (with_reducible exact ih0 _ _ _ _ _)
   | (with_reducible exact ih1 _ _ _ _ _ _ _ _ _ _)
   | (with_reducible exact impl_Meander_components.mono _ _ _)
   | (with_reducible exact impl_systems.mono _ _)
   | (with_reducible exact LeO.refl _)
   | (with_reducible exact LeO.none _)
   | (with_reducible refine LeO.ite ?_ ?_)
   | (with_reducible refine LeO.bind ?_ (fun _ => ?_))
   | exact ih0 _ _ _ _ _
   | exact ih1 _ _ _ _ _ _ _ _ _ _
   | exact impl_Meander_components.mono _ _ _
   | exact impl_systems.mono _ _
   | exact LeO.none _
   | refine LeO.ite ?_ ?_
   | refine LeO.bind ?_ (fun _ => ?_)
theorem impl_exponents.mono : ∀ a0 k, LeO (impl_exponents.f k a0) (impl_exponents.f (k + 1) a0) := by
 intro a0 k; obtain ⟨ih0, ih1⟩ := impl_exponents.mono_l k; unfold impl_exponents.f
 repeat' first
   | (with_reducible exact ih0 _ _ _ _ _)
   | (with_reducible exact ih1 _ _ _ _ _ _ _ _ _ _)
   | (with_reducible exact impl_Meander_components.mono _ _ _)
   | (with_reducible exact impl_systems.mono _ _)
   | (with_reducible exact LeO.refl _)
   | (with_reducible exact LeO.none _)
   | (with_reducible refine LeO.ite ?_ ?_)
   | (with_reducible refine LeO.bind ?_ (fun _ => ?_))
   | exact ih0 _ _ _ _ _
   | exact ih1 _ _ _ _ _ _ _ _ _ _
   | exact impl_Meander_components.mono _ _ _
   | exact impl_systems.mono _ _
   | exact LeO.none _
   | refine LeO.ite ?_ ?_
   | refine LeO.bind ?_ (fun _ => ?_)
theorem impl_exponents.calls (k : Nat) (a0 : Int) (r : List (List Int)) (w : World) (h : impl_exponents.f k a0 = some r) :
  Calls Try.prog 60 #[.int .i64 a0] w fun e w' => ∃ v0_ : Value, e = .returned (v0_) ∧ Kd.S (Kd.slice 3 (Kd.int .i64)) 35 w' w.heap.size (fun _ => True) v0_ r ∧ Below w.heap.size w w' := by
 have hu71 := Try.underlying71; have HB := Aside0.mk (Below.refl w.heap.size w); have H : ((impl_systems.f k a0).bind fun t460 => (impl_exponents.l0 k (([] : List (List Int))) t460 t460 (t460.length : Int) 0)) = some r := h; clear h; obtain ⟨y457, hy457⟩ := yy (([] : List (List Int)))
 (try rw [Option.bind_some] at H); (try dsimp only at H); rw [← hy457] at H
 have Ny457 := Aside0.mk hy457; clear hy457; obtain ⟨t460, A2, H⟩ := bi H; (try dsimp only at H); have H' := Aside0.mk H; clear H; go_enter Try.func60, Try.ntmps60; go_wp2_with (first | ((with_reducible refine gate_dst (N := 10) rfl ?_); refine Kd.S_lit (Kd.slice 3 (Kd.int .i64)) _ 35 ?hg (N := 10) ?hd (xs := ([] : List (List Int))) (inner := []) (ok := fun _ => True) (okp := fun _ => True) ?hr ?hp (fun _ hk => hk) trivial (Below.refl _ _) (Nat.le_refl _) (by simp) ?_; (case hd => rfl); (case hg => rfl); (case hr => first | (go_simp; done) | (go_simp; rfl)); (case hp => exact (Reps.none _ _)); intro v458 w3 ho4 hb hg_ hnew_; clear hg_ hnew_; (first | rw [← Ny457.out] at ho4 | (simp only [Int.reduceToNat] at ho4; rw [← Ny457.out] at ho4)); have HO459 := Aside0.mk (Kd.S_lower ho4 (below_size (bl HB.out))); replace HB := bst HB hb; clear hb ho4) | (go_at_call 90; (with_reducible refine (impl_systems.calls k a0 t460 _ A2.out).mono ?_); rintro e w5 ⟨v461, rfl, ho0, hb⟩; have HO462 := Aside0.mk (Kd.S_lower (Kd.S_new' ho0 (Kd.S_lt (rS HO459.out))) (below_size (bl HB.out))); replace HO459 := Aside0.mk (Kd.S_elder' (rS HO459.out) (Kd.S_base ho0) hb); replace HB := bst HB hb; obtain ⟨Ao6, co6, eo6⟩ := Kd.S_slice HO462.out; subst eo6))
 go_loopg [3, 15] k (fun kq v3 v15 w' => ∃ (x3_1 : List (List Int)) (x15_1 : Int), v15 = .int .i64 x15_1 ∧ Aside0 (impl_exponents.l0 kq x3_1 t460 t460 (t460.length : Int) x15_1 = some r) ∧ Aside0 (kq ≤ k) ∧ Aside0 (Kd.S (Kd.slice 3 (Kd.int .i64)) 35 w' w.heap.size (fun k_ => some k_ ≠ ((.slice Ao6 t460.length co6) : Value).ownBlock ∧ some k_ ≠ ((.slice Ao6 t460.length co6) : Value).ownBlock) v3 x3_1) ∧ Aside0 (Kd.S (Kd.slice 3 (Kd.int .i64)) 35 w' w.heap.size (fun k_ => some k_ ≠ (v3 : Value).ownBlock) (.slice Ao6 t460.length co6) t460) ∧ Aside0 (Kd.S (Kd.slice 3 (Kd.int .i64)) 35 w' w.heap.size (fun k_ => some k_ ≠ (v3 : Value).ownBlock) (.slice Ao6 t460.length co6) t460) ∧ Aside0 (Below w.heap.size w w'))
 case atStart => exact ⟨(y457), (0), (sr2), H', ⟨Nat.le_refl _⟩, ⟨rS (Kd.S_mono HO459.out (fun _ hk => ⟨hk.2, hk.2⟩))⟩, ⟨rS (Kd.S_mono HO462.out (fun _ hk => hk.2))⟩, ⟨rS (Kd.S_mono HO462.out (fun _ hk => hk.2))⟩, ⟨bl HB.out⟩⟩
 case round =>
  clear H'; obtain ⟨x3_1, x15_1, rfl, HA, HK1, HO_3, HO_4, HO_13, HB⟩ := hrel
  cases gk with
  | zero => exact absurd HA.out (by simp [impl_exponents.l0])
  | succ k1 =>
   have H := HA.out; clear HA; simp only [impl_exponents.l0] at H
   by_cases c7 : x15_1 < (t460.length : Int)
   ·rw [if_pos c7] at H; have c7b0 := decide_eq_true c7; clear c7
    by_cases c8 : 0 ≤ x15_1
    ·rw [if_pos c8] at H; have c8b0 := decide_eq_true c8; clear c8
     by_cases c9 : x15_1 < (t460.length : Int)
     ·rw [if_pos c9] at H; have c9b0 := decide_eq_true c9; clear c9; obtain ⟨y464, hy464⟩ := yy (([] : List Int))
      (try rw [Option.bind_some] at H); (try dsimp only at H); rw [← hy464] at H
      have Ny464 := Aside0.mk hy464; clear hy464; have H' := Aside0.mk H; clear H; have p463 : 0 ≤ (x15_1 : Int) := od; have q463 : x15_1 < (t460.length : Int) := od; obtain ⟨ad463, A463_0, c463_0, e463, hx463_0, hl463_0, hi463_0⟩ := at_L1 (Kd.S_reads' HO_13.out).2.2 x15_1 p463 q463; cases e463; obtain ⟨ce463, hce463, hMe463, hcc463⟩ := Kd.S_get HO_13.out [] x15_1 p463 (by first | exact q463 | exact od | (have e_ := (Kd.S_reads' HO_13.out).1; omega)); obtain ⟨ve463_0, rfl, ge463_0⟩ := hMe463; have hv463_0 := hcc463 0 _ rfl; rw [Nat.add_zero, show ((Kd.slice 3 (Kd.int .i64))).sz = 1 from rfl, Nat.mul_one] at hv463_0; replace hv463_0 := Option.some.inj (hv463_0.symm.trans hx463_0); rw [hv463_0] at ge463_0; have HL463_0 := Aside0.mk (show Kd.R (Kd.int .i64) 3 _ _ _ _ (rd_L1 t460 x15_1) from ge463_0); clear hv463_0 ge463_0; clear hcc463 hce463; have HR463_0 := Aside0.mk hi463_0; have HC463_0 := Aside0.mk hl463_0; clear hi463_0 hl463_0; replace p463 := eq_true p463; replace q463 := eq_true q463; go_wp2_with (first | ((with_reducible refine gate_dst (N := 19) rfl ?_); refine Kd.R_lit (Kd.int .i64) _ 3 ?hg (N := 19) ?hd (xs := ([] : List Int)) (inner := []) (ok := fun _ => True) (okp := fun _ => True) ?hr ?hp (fun _ hk => hk) trivial (Below.refl _ _) (Nat.le_refl _) (by simp) ?_; (case hd => rfl); (case hg => rfl); (case hr => first | (go_simp; done) | (go_simp; rfl)); (case hp => exact (Reps.none _ _)); intro v465 w10 ho11 hb hg_ hnew_; clear hg_ hnew_; (first | rw [← Ny464.out] at ho11 | (simp only [Int.reduceToNat] at ho11; rw [← Ny464.out] at ho11)); replace HO_3 := Aside0.mk (Kd.S_elder' (rS HO_3.out) (Kd.R_base ho11) hb); replace HO_4 := Aside0.mk (Kd.S_elder' (rS HO_4.out) (Kd.R_base ho11) hb); replace HO_13 := Aside0.mk (Kd.S_elder' (rS HO_13.out) (Kd.R_base ho11) hb); have HO466 := Aside0.mk (Kd.R_lower (Kd.R_new' ho11 (Kd.R_lt (rR HL463_0.out))) (below_size (bl HB.out))); replace HL463_0 := Aside0.mk (Kd.R_elder' (rR HL463_0.out) (Kd.R_base ho11) hb); replace HR463_0 := Aside0.mk (Kd.C_below (by repeat (first | (with_reducible exact HR463_0.out) | (with_reducible refine Kd.C_alloc ?_ _) | (with_reducible refine Kd.C_drewN ?_ _) | (with_reducible refine Kd.C_drew ?_) | exact HR463_0.out)) hb); replace HB := bst HB hb; clear hb ho11))
      go_loopg [7, 22] k1 (fun kq v7 v22 w' => ∃ (x7_2 : List Int) (x22_2 : Int), v22 = .int .i64 x22_2 ∧ Aside0 (impl_exponents.l1 kq x3_1 t460 (rd_L1 t460 x15_1) x7_2 t460 (t460.length : Int) x15_1 t460 (t460.length : Int) x22_2 = some r) ∧ Aside0 (kq ≤ k1) ∧ Aside0 (Kd.S (Kd.slice 3 (Kd.int .i64)) 35 w' w.heap.size (fun k_ => some k_ ≠ ((.slice (some ad463) t460.length co6) : Value).ownBlock ∧ some k_ ≠ (v7 : Value).ownBlock ∧ some k_ ≠ ((.slice (some ad463) t460.length co6) : Value).ownBlock ∧ some k_ ≠ ((.slice (some ad463) t460.length co6) : Value).ownBlock) u3 x3_1) ∧ Aside0 (Kd.S (Kd.slice 3 (Kd.int .i64)) 35 w' w.heap.size (fun k_ => some k_ ≠ (u3 : Value).ownBlock ∧ some k_ ≠ (v7 : Value).ownBlock) (.slice (some ad463) t460.length co6) t460) ∧ Aside0 (Kd.R (Kd.int .i64) 3 w' w.heap.size (fun k_ => some k_ ≠ (v7 : Value).ownBlock) (.slice A463_0 (rd_L1 t460 x15_1).length c463_0) (rd_L1 t460 x15_1)) ∧ Aside0 (Kd.R (Kd.int .i64) 3 w' w.heap.size (fun _ => True) v7 x7_2) ∧ Aside0 (Kd.S (Kd.slice 3 (Kd.int .i64)) 35 w' w.heap.size (fun k_ => some k_ ≠ (u3 : Value).ownBlock ∧ some k_ ≠ (v7 : Value).ownBlock) (.slice (some ad463) t460.length co6) t460) ∧ Aside0 (Kd.S (Kd.slice 3 (Kd.int .i64)) 35 w' w.heap.size (fun k_ => some k_ ≠ (u3 : Value).ownBlock ∧ some k_ ≠ (v7 : Value).ownBlock) (.slice (some ad463) t460.length co6) t460) ∧ Aside0 (Below w.heap.size w w'))
      case atStart => exact ⟨(y464), (0), (sr2), H', ⟨Nat.le_refl _⟩, ⟨rS (Kd.S_mono HO_3.out (fun _ hk => ⟨hk.1.1, ⟨hk.2, ⟨hk.1.2, hk.1.1⟩⟩⟩))⟩, ⟨rS HO_4.out⟩, ⟨rR (Kd.R_mono HL463_0.out (fun _ hk => hk.2))⟩, ⟨rR (Kd.R_mono HO466.out (fun _ hk => trivial))⟩, ⟨rS HO_13.out⟩, ⟨rS HO_4.out⟩, ⟨bl HB.out⟩⟩
      case round =>
       clear H'; obtain ⟨x7_2, x22_2, rfl, HA, HK2, HO_3, HO_4, HO_6, HO_7, HO_13, HO_20, HB⟩ := hrel
       cases gk with
       | zero => exact absurd HA.out (by simp [impl_exponents.l1])
       | succ k2 =>
        have H := HA.out; clear HA; simp only [impl_exponents.l1] at H
        by_cases c12 : x22_2 < (t460.length : Int)
        ·rw [if_pos c12] at H; have c12b0 := decide_eq_true c12; clear c12
         by_cases c13 : 0 ≤ x22_2
         ·rw [if_pos c13] at H; have c13b0 := decide_eq_true c13; clear c13
          by_cases c14 : x22_2 < (t460.length : Int)
          ·rw [if_pos c14] at H; have c14b0 := decide_eq_true c14; clear c14; obtain ⟨t468, A15, H⟩ := bi H; (try dsimp only at H)
           by_cases c16 : x7_2.length < 17592186044416
           ·rw [if_pos c16] at H; have LMc16 := Aside0.mk c16; clear c16; obtain ⟨y469, hy469⟩ := yy (x7_2 ++ [t468])
            (try rw [Option.bind_some] at H); (try dsimp only at H); rw [← hy469] at H
            have Ny469 := Aside0.mk hy469; clear hy469; have H' := Aside0.mk H; clear H; have p467 : 0 ≤ (x22_2 : Int) := od; have q467 : x22_2 < (t460.length : Int) := od; obtain ⟨ad467, A467_0, c467_0, e467, hx467_0, hl467_0, hi467_0⟩ := at_L1 (Kd.S_reads' HO_20.out).2.2 x22_2 p467 q467; obtain rfl : ad463 = ad467 := (by injection e467); obtain ⟨ce467, hce467, hMe467, hcc467⟩ := Kd.S_get HO_20.out [] x22_2 p467 (by first | exact q467 | exact od | (have e_ := (Kd.S_reads' HO_20.out).1; omega)); obtain ⟨ve467_0, rfl, ge467_0⟩ := hMe467; have hv467_0 := hcc467 0 _ rfl; rw [Nat.add_zero, show ((Kd.slice 3 (Kd.int .i64))).sz = 1 from rfl, Nat.mul_one] at hv467_0; replace hv467_0 := Option.some.inj (hv467_0.symm.trans hx467_0); rw [hv467_0] at ge467_0; have HL467_0 := Aside0.mk (show Kd.R (Kd.int .i64) 3 _ _ _ _ (rd_L1 t460 x22_2) from ge467_0); clear hv467_0 ge467_0; clear hcc467 hce467; have HR467_0 := Aside0.mk hi467_0; have HC467_0 := Aside0.mk hl467_0; clear hi467_0 hl467_0; replace p467 := eq_true p467; replace q467 := eq_true q467; go_wp2_with (first | (go_at_call 82; (with_reducible refine (impl_Meander_components.calls k2 _ _ (rd_L1 t460 x15_1) _ _ (rd_L1 t460 x22_2) t468 _ ?side1 ?side2 ?side3 HC467_0.out A15.out).mono ?_); (case side1 => exact cw ((Kd.R_reads' HO_6.out).2.2)); (case side2 => exact (Kd.R_reads' HO_6.out).2.1); (case side3 => repeat (first | exact (by repeat (first | (with_reducible exact HR467_0.out) | (with_reducible refine Kd.C_alloc ?_ _) | (with_reducible refine Kd.C_drewN ?_ _) | (with_reducible refine Kd.C_drew ?_) | exact HR467_0.out)) | (with_reducible refine Kd.C_alloc ?_ _) | (with_reducible refine Kd.C_drewN ?_ _) | (with_reducible refine Kd.C_drew ?_))); rintro e w17 ⟨rfl, hb⟩; replace HO_3 := Aside0.mk (Kd.S_below (rS HO_3.out) hb); replace HO_4 := Aside0.mk (Kd.S_below (rS HO_4.out) hb); replace HO_6 := Aside0.mk (Kd.R_below (rR HO_6.out) hb); replace HO_7 := Aside0.mk (Kd.R_below (rR HO_7.out) hb); replace HO_13 := Aside0.mk (Kd.S_below (rS HO_13.out) hb); replace HO_20 := Aside0.mk (Kd.S_below (rS HO_20.out) hb); replace HL467_0 := Aside0.mk (Kd.R_below (rR HL467_0.out) hb); replace HR467_0 := Aside0.mk (Kd.C_below (by repeat (first | (with_reducible exact HR467_0.out) | (with_reducible refine Kd.C_alloc ?_ _) | (with_reducible refine Kd.C_drewN ?_ _) | (with_reducible refine Kd.C_drew ?_) | exact HR467_0.out)) hb); replace HB := bst HB hb) | ((with_reducible refine gate_builtin (b := .append) (xs := #[.tmp 26, .tmp 31]) rfl ?_); at_builtin; refine Kd.R_append (Kd.int .i64) (w0 := w) w.heap.size rfl (.tmp 26) (.tmp 31) 35 3 (.int .i64 0) 8 rfl Try.underlying35 info3 rfl (by decide) (by omega) u7 x7_2 t468 [.int .i64 t468] (fun _ => True) (fun _ => False) rfl rfl ?aP (fun _ hk => hk.elim) ?aF ?aO ?aB ?aS (by have := LMc16.out; omega) ?_; (case aP => exact rfl); (case aB => exact (bl HB.out)); (case aF => exact (fun _ _ => trivial)); (case aO => exact (rR HO_7.out)); (case aS => exact (below_size (bl HB.out))); intro v470 w18 ho hb hg hat; rw [← Ny469.out] at ho; replace HO_3 := Aside0.mk (Kd.S_after (ok := (fun k_ => some k_ ≠ (.slice (some ad463) t460.length co6 : Value).ownBlock ∧ some k_ ≠ (.slice (some ad463) t460.length co6 : Value).ownBlock ∧ some k_ ≠ (.slice (some ad463) t460.length co6 : Value).ownBlock)) (rS (Kd.S_mono HO_3.out (fun _ hk => ⟨⟨hk.1, ⟨hk.2.2.1, hk.2.2.2⟩⟩, hk.2.1⟩))) hg hat); replace HO_4 := Aside0.mk (Kd.S_after (ok := (fun k_ => some k_ ≠ (u3 : Value).ownBlock)) (rS HO_4.out) hg hat); replace HO_6 := Aside0.mk (Kd.R_after (ok := (fun _ => True)) (rR (Kd.R_mono HO_6.out (fun _ hk => ⟨trivial, hk⟩))) hg hat); replace HO_13 := Aside0.mk (Kd.S_after (ok := (fun k_ => some k_ ≠ (u3 : Value).ownBlock)) (rS HO_13.out) hg hat); replace HO_20 := Aside0.mk (Kd.S_after (ok := (fun k_ => some k_ ≠ (u3 : Value).ownBlock)) (rS HO_20.out) hg hat); replace HL467_0 := Aside0.mk (Kd.R_after (ok := (fun k_ => some k_ ≠ (u3 : Value).ownBlock ∧ some k_ ≠ (.slice (some ad463) t460.length co6 : Value).ownBlock)) (rR (Kd.R_mono HL467_0.out (fun _ hk => ⟨⟨hk.1.1, hk.2⟩, hk.1.2⟩))) hg hat); replace HB := Aside0.mk (hb); have HO471 := Aside0.mk (ho); clear HO_7; clear ho hb hg hat))
            go_roundg k2
            case measure => have := HK1.out; have := HK2.out; omega
            case rel => exact ⟨(y469), (wrap64 (x22_2 + 1)), (sr2), H', ⟨by have := HK1.out; have := HK2.out; omega⟩, ⟨rS (Kd.S_mono HO_3.out (fun _ hk => ⟨hk.1.1, ⟨hk.2, ⟨hk.1.2.1, hk.1.2.2⟩⟩⟩))⟩, ⟨rS HO_4.out⟩, ⟨rR (Kd.R_mono HO_6.out (fun _ hk => hk.2))⟩, ⟨rR HO471.out⟩, ⟨rS HO_13.out⟩, ⟨rS HO_20.out⟩, ⟨bl HB.out⟩⟩
           rw [if_neg c16] at H; exact absurd H (by simp)
          rw [if_neg c14] at H; exact absurd H (by simp)
         rw [if_neg c13] at H; exact absurd H (by simp)
        rw [if_neg c12] at H; have c12b0 := decide_eq_false c12; clear c12
        by_cases c19 : x3_1.length < 5864062014805
        ·rw [if_pos c19] at H; have LMc19 := Aside0.mk c19; clear c19; obtain ⟨y472, hy472⟩ := yy (x3_1 ++ [x7_2])
         (try rw [Option.bind_some] at H); (try dsimp only at H); rw [← hy472] at H
         have Ny472 := Aside0.mk hy472; clear hy472; have H' := Aside0.mk H; clear H; obtain ⟨Ao21, co21, eo21⟩ := Kd.R_slice HO_7.out; subst eo21; go_wp2_with (first | ((with_reducible refine gate_builtin (b := .append) (xs := #[.tmp 34, .tmp 36]) rfl ?_); at_builtin; refine Kd.S_append (Kd.slice 3 (Kd.int .i64)) (w0 := w) w.heap.size rfl (.tmp 34) (.tmp 36) 22 35 (.slice none 0 0) 24 rfl Try.underlying22 info35 rfl (by decide) (by omega) u3 x3_1 x7_2 [.slice Ao21 x7_2.length co21] (fun k_ => some k_ ≠ (.slice (some ad463) t460.length co6 : Value).ownBlock ∧ some k_ ≠ (.slice (some ad463) t460.length co6 : Value).ownBlock ∧ some k_ ≠ (.slice (some ad463) t460.length co6 : Value).ownBlock) (fun k_ => some k_ = (.slice Ao21 x7_2.length co21 : Value).ownBlock) rfl rfl ?aP (fun k_ hk_ => ((Kd.R_mono (ok' := fun k_ => ((fun k_ => some k_ ≠ (.slice (some ad463) t460.length co6 : Value).ownBlock ∧ some k_ ≠ (.slice (some ad463) t460.length co6 : Value).ownBlock ∧ some k_ ≠ (.slice (some ad463) t460.length co6 : Value).ownBlock)) k_ ∧ some k_ ≠ (u3 : Value).ownBlock) (Kd.R_apart' (Kd.R_apart' (Kd.R_apart' (Kd.R_apart' (HO_7.out) (Kd.S_typed HO_4.out) (by decide)) (Kd.S_typed HO_13.out) (by decide)) (Kd.S_typed HO_20.out) (by decide)) (Kd.S_typed HO_3.out) (by decide)) (fun k_ hk => ⟨⟨hk.1.1.1.2, ⟨hk.1.1.2, hk.1.2⟩⟩, hk.2⟩))).1 k_ hk_.symm) ?aF ?aO ?aB ?aS (by have := LMc19.out; omega) ?_; (case aP => exact Kd.M_row (Kd.R_mono (Kd.R_tight rfl (Kd.R_mono (ok' := fun k_ => ((fun k_ => some k_ ≠ (.slice (some ad463) t460.length co6 : Value).ownBlock ∧ some k_ ≠ (.slice (some ad463) t460.length co6 : Value).ownBlock ∧ some k_ ≠ (.slice (some ad463) t460.length co6 : Value).ownBlock)) k_ ∧ some k_ ≠ (u3 : Value).ownBlock) (Kd.R_apart' (Kd.R_apart' (Kd.R_apart' (Kd.R_apart' (HO_7.out) (Kd.S_typed HO_4.out) (by decide)) (Kd.S_typed HO_13.out) (by decide)) (Kd.S_typed HO_20.out) (by decide)) (Kd.S_typed HO_3.out) (by decide)) (fun k_ hk => ⟨⟨hk.1.1.1.2, ⟨hk.1.1.2, hk.1.2⟩⟩, hk.2⟩))) (fun _ h_ => h_))); (case aB => exact (bl HB.out)); (case aF => exact (fun k_ hk => ⟨Kd.fresh' (Kd.S_lt (rS HO_4.out)) k_ hk, Kd.fresh' (Kd.S_lt (rS HO_13.out)) k_ hk, Kd.fresh' (Kd.S_lt (rS HO_20.out)) k_ hk⟩)); (case aO => exact (rS (Kd.S_mono HO_3.out (fun k_ hk => ⟨⟨hk.1, ⟨hk.2.2.1, hk.2.2.2⟩⟩, fun e_ => hk.2.1 e_⟩)))); (case aS => exact (below_size (bl HB.out))); intro v473 w20 ho hb hg hat; rw [← Ny472.out] at ho; replace HO_4 := Aside0.mk (Kd.S_after (ok := (fun k_ => some k_ ≠ (.slice Ao21 x7_2.length co21 : Value).ownBlock)) (rS (Kd.S_mono HO_4.out (fun _ hk => by first | exact ⟨hk.2, hk.1⟩ | exact ⟨hk.1, hk.2⟩))) hg hat); replace HO_6 := Aside0.mk (Kd.R_over' (rR HO_6.out) (Kd.S_typed (rS HO_3.out)) (by decide) hg); replace HO_13 := Aside0.mk (Kd.S_after (ok := (fun k_ => some k_ ≠ (.slice Ao21 x7_2.length co21 : Value).ownBlock)) (rS (Kd.S_mono HO_13.out (fun _ hk => by first | exact ⟨hk.2, hk.1⟩ | exact ⟨hk.1, hk.2⟩))) hg hat); replace HO_20 := Aside0.mk (Kd.S_after (ok := (fun k_ => some k_ ≠ (.slice Ao21 x7_2.length co21 : Value).ownBlock)) (rS (Kd.S_mono HO_20.out (fun _ hk => by first | exact ⟨hk.2, hk.1⟩ | exact ⟨hk.1, hk.2⟩))) hg hat); replace HB := Aside0.mk (hb); have HO474 := Aside0.mk (ho); clear HO_3 HO_7; clear ho hb hg hat))
         go_roundg k2
         case measure => have := HK1.out; have := HK2.out; omega
         case rel => exact ⟨(y472), (wrap64 (x15_1 + 1)), (sr2), H', ⟨by have := HK1.out; have := HK2.out; omega⟩, ⟨rS (Kd.S_mono HO474.out (fun _ hk => ⟨hk.1, hk.2.1⟩))⟩, ⟨rS (Kd.S_mono HO_4.out (fun _ hk => hk.2))⟩, ⟨rS (Kd.S_mono HO_13.out (fun _ hk => hk.2))⟩, ⟨bl HB.out⟩⟩
        rw [if_neg c19] at H; exact absurd H (by simp)
     rw [if_neg c9] at H; exact absurd H (by simp)
    rw [if_neg c8] at H; exact absurd H (by simp)
   rw [if_neg c7] at H; have c7b0 := decide_eq_false c7; clear c7; obtain rfl := Option.some.inj H; go_wp2; go_ret; exact ⟨_, sr, rS (Kd.S_mono HO_3.out (fun _ hk => trivial)), bl HB.out⟩
/-! ### impl_ExponentTable: function 20 -/
def impl_ExponentTable.f (k : Nat) (a0 : Int) : Option ((List (List Int)) × Bool) := (impl_in.f a0 0 4).bind fun t475 => (if t475 = true then ((impl_exponents.f k a0).bind fun t476 => (some (t476, true))) else (some (([] : List (List Int)), false)))
theorem impl_ExponentTable.mono : ∀ a0 k, LeO (impl_ExponentTable.f k a0) (impl_ExponentTable.f (k + 1) a0) := by
 intro a0 k; unfold impl_ExponentTable.f
 repeat' first
   | (with_reducible exact impl_exponents.mono _ _)
   | (with_reducible exact LeO.refl _)
   | (with_reducible exact LeO.none _)
   | (with_reducible refine LeO.ite ?_ ?_)
   | (with_reducible refine LeO.bind ?_ (fun _ => ?_))
   | exact impl_exponents.mono _ _
   | exact LeO.none _
   | refine LeO.ite ?_ ?_
   | refine LeO.bind ?_ (fun _ => ?_)
theorem impl_ExponentTable.calls (k : Nat) (a0 : Int) (r1 : List (List Int)) (r2 : Bool) (w : World) (h : impl_ExponentTable.f k a0 = some (r1, r2)) :
  Calls Try.prog 20 #[.int .i64 a0] w fun e w' => ∃ v0_ : Value, e = .returned (.tuple #[v0_, .bool r2]) ∧ Kd.S (Kd.slice 3 (Kd.int .i64)) 35 w' w.heap.size (fun _ => True) v0_ r1 ∧ Below w.heap.size w w' := by
 have HB := Aside0.mk (Below.refl w.heap.size w); have H : ((impl_in.f a0 0 4).bind fun t475 => (if t475 = true then ((impl_exponents.f k a0).bind fun t476 => (some (t476, true))) else (some (([] : List (List Int)), false)))) = some (r1, r2) := h; clear h; obtain ⟨t475, A2, H⟩ := bi H; (try dsimp only at H)
 by_cases c3 : t475 = true
 ·subst c3; rw [if_pos rfl] at H; obtain ⟨t476, A4, H⟩ := bi H; (try dsimp only at H); simp only [Option.some.injEq, Prod.mk.injEq] at H; obtain ⟨rfl, rfl⟩ := H; go_enter Try.func20, Try.ntmps20; go_wp2_with (first | (go_at_call 57; (with_reducible refine (impl_in.calls a0 0 4 true _ A2.out).mono ?_); rintro e w' ⟨rfl, ⟨nd, rfl⟩⟩) | (go_at_call 60; (with_reducible refine (impl_exponents.calls k a0 t476 _ A4.out).mono ?_); rintro e w5 ⟨v477, rfl, ho0, hb⟩; have HO478 := Aside0.mk (Kd.S_lower ho0 (below_size (bl HB.out))); replace HB := bst HB hb)); go_ret2; exact ⟨_, sr, rS HO478.out, bl HB.out⟩
 replace c3 := Bool.eq_false_iff.mpr c3; subst c3; rw [if_neg (show ¬ (false = true) by decide)] at H; simp only [Option.some.injEq, Prod.mk.injEq] at H; obtain ⟨rfl, rfl⟩ := H; go_enter Try.func20, Try.ntmps20; go_wp2_with (first | (go_at_call 57; (with_reducible refine (impl_in.calls a0 0 4 false _ A2.out).mono ?_); rintro e w' ⟨rfl, ⟨nd, rfl⟩⟩)); go_ret2; exact ⟨_, sr, by first | exact Kd.S_nil _ _ _ _ _ | exact Kd.N_nil _ _ _ _ _ | exact Kd.V_nil _ _ _ _ _ | exact Kd.Q_nil _ _ _ _ _ | exact Kd.R_nil _ _ _ _ _, bl HB.out⟩
/-! ### spec_taAsked: function 61 -/
def spec_taAsked.f (a0 : Int) (a1 : Int) : Option (Bool) := (spec_l1In.f a0 0 4).bind fun t479 => (if t479 = true then ((spec_l1In.f a1 (-3) 3).bind fun t480 => (if t480 = true then (if a0 < 4 then (some true) else ((spec_l1In.f a1 (-2) 2).bind fun t481 => (some t481))) else (some false))) else (some false))
theorem spec_taAsked.calls (a0 : Int) (a1 : Int) (r : Bool) (w : World) (h : spec_taAsked.f a0 a1 = some r) :
  Calls Try.prog 61 #[.int .i64 a0, .int .i64 a1] w fun e w' => e = .returned (.bool r) ∧ Drawn0 w w' := by
 have H : ((spec_l1In.f a0 0 4).bind fun t479 => (if t479 = true then ((spec_l1In.f a1 (-3) 3).bind fun t480 => (if t480 = true then (if a0 < 4 then (some true) else ((spec_l1In.f a1 (-2) 2).bind fun t481 => (some t481))) else (some false))) else (some false))) = some r := h; clear h; obtain ⟨t479, A3, H⟩ := bi H; (try dsimp only at H)
 by_cases c4 : t479 = true
 ·subst c4; rw [if_pos rfl] at H; obtain ⟨t480, A5, H⟩ := bi H; (try dsimp only at H)
  by_cases c6 : t480 = true
  ·subst c6; rw [if_pos rfl] at H
   by_cases c7 : a0 < 4
   ·rw [if_pos c7] at H; have c7b0 := decide_eq_true c7; clear c7; obtain rfl := Option.some.inj H; go_enter Try.func61, Try.ntmps61; go_wp2_with (first | (go_at_call 79; (with_reducible refine (spec_l1In.calls a0 0 4 true _ A3.out).mono ?_); rintro e w' ⟨rfl, ⟨nd, rfl⟩⟩) | (go_at_call 79; (with_reducible refine (spec_l1In.calls a1 (-3) 3 true _ A5.out).mono ?_); rintro e w' ⟨rfl, ⟨nd, rfl⟩⟩)); go_ret; exact ⟨sr2, by repeat (first | exact Drawn0.refl _ | apply Drawn0.step)⟩
   rw [if_neg c7] at H; have c7b0 := decide_eq_false c7; clear c7; obtain ⟨t481, A8, H⟩ := bi H; (try dsimp only at H); obtain rfl := Option.some.inj H; go_enter Try.func61, Try.ntmps61; go_wp2_with (first | (go_at_call 79; (with_reducible refine (spec_l1In.calls a0 0 4 true _ A3.out).mono ?_); rintro e w' ⟨rfl, ⟨nd, rfl⟩⟩) | (go_at_call 79; (with_reducible refine (spec_l1In.calls a1 (-3) 3 true _ A5.out).mono ?_); rintro e w' ⟨rfl, ⟨nd, rfl⟩⟩) | (go_at_call 79; (with_reducible refine (spec_l1In.calls a1 (-2) 2 t481 _ A8.out).mono ?_); rintro e w' ⟨rfl, ⟨nd, rfl⟩⟩)); go_ret; exact ⟨sr2, by repeat (first | exact Drawn0.refl _ | apply Drawn0.step)⟩
  replace c6 := Bool.eq_false_iff.mpr c6; subst c6; rw [if_neg (show ¬ (false = true) by decide)] at H; obtain rfl := Option.some.inj H; go_enter Try.func61, Try.ntmps61; go_wp2_with (first | (go_at_call 79; (with_reducible refine (spec_l1In.calls a0 0 4 true _ A3.out).mono ?_); rintro e w' ⟨rfl, ⟨nd, rfl⟩⟩) | (go_at_call 79; (with_reducible refine (spec_l1In.calls a1 (-3) 3 false _ A5.out).mono ?_); rintro e w' ⟨rfl, ⟨nd, rfl⟩⟩)); go_ret; exact ⟨sr2, by repeat (first | exact Drawn0.refl _ | apply Drawn0.step)⟩
 replace c4 := Bool.eq_false_iff.mpr c4; subst c4; rw [if_neg (show ¬ (false = true) by decide)] at H; obtain rfl := Option.some.inj H; go_enter Try.func61, Try.ntmps61; go_wp2_with (first | (go_at_call 79; (with_reducible refine (spec_l1In.calls a0 0 4 false _ A3.out).mono ?_); rintro e w' ⟨rfl, ⟨nd, rfl⟩⟩)); go_ret; exact ⟨sr2, by repeat (first | exact Drawn0.refl _ | apply Drawn0.step)⟩
/-! ### laws_sSame: function 26 -/
def laws_sSame.l0 : Nat → List Int → List Int → Int → Int → Option (Bool)
 | 0, _, _, _, _ => none
 | k + 1, x0, x1, x12, x13 => if x13 < x12 then (if 0 ≤ x13 then (if x13 < (x0.length : Int) then (if x13 < (x1.length : Int) then (if (rd x0 x13) = (rd x1 x13) then (laws_sSame.l0 k x0 x1 x12 (wrap64 (x13 + 1))) else (some false)) else (none)) else (none)) else (none)) else (some true)
def laws_sSame.f (k : Nat) (l0 : List Int) (l1 : List Int) : Option (Bool) := if (l0.length : Int) = (l1.length : Int) then (laws_sSame.l0 k l0 l1 (l0.length : Int) 0) else (some false)
theorem laws_sSame.mono_l : ∀ k, (∀ y0 y1 y2 y3, LeO (laws_sSame.l0 k y0 y1 y2 y3) (laws_sSame.l0 (k + 1) y0 y1 y2 y3))
 | 0 => fun _ _ _ _ r h => by simp [laws_sSame.l0] at h
 | k + 1 => by
  have ih0 := laws_sSame.mono_l k
  ·intro y0 y1 y2 y3
   unfold laws_sSame.l0
   repeat' first
   | (with_reducible exact ih0 _ _ _ _)
   | (with_reducible exact LeO.refl _)
   | (with_reducible exact LeO.none _)
   | (with_reducible refine LeO.ite ?_ ?_)
   | (with_reducible refine LeO.bind ?_ (fun _ => ?_))
   | exact ih0 _ _ _ _
   | exact LeO.none _
   | refine LeO.ite ?_ ?_
   | refine LeO.bind ?_ (fun _ => ?_)
theorem laws_sSame.mono : ∀ a0 a1 k, LeO (laws_sSame.f k a0 a1) (laws_sSame.f (k + 1) a0 a1) := by
 intro a0 a1 k; have ih0 := laws_sSame.mono_l k; unfold laws_sSame.f
 repeat' first
   | (with_reducible exact ih0 _ _ _ _)
   | (with_reducible exact LeO.refl _)
   | (with_reducible exact LeO.none _)
   | (with_reducible refine LeO.ite ?_ ?_)
   | (with_reducible refine LeO.bind ?_ (fun _ => ?_))
   | exact ih0 _ _ _ _
   | exact LeO.none _
   | refine LeO.ite ?_ ?_
   | refine LeO.bind ?_ (fun _ => ?_)
theorem laws_sSame.calls (k : Nat) (A0 : Option Addr) (c0 : Nat) (l0 : List Int) (A1 : Option Addr) (c1 : Nat) (l1 : List Int) (r : Bool) (w : World) (hr0 : Kd.C (Kd.int .i64) w A0 l0.length l0) (hc0 : l0.length ≤ c0) (hr1 : Kd.C (Kd.int .i64) w A1 l1.length l1) (hc1 : l1.length ≤ c1) (h : laws_sSame.f k l0 l1 = some r) :
  Calls Try.prog 26 #[.slice A0 l0.length c0, .slice A1 l1.length c1] w fun e w' => e = .returned (.bool r) ∧ Drawn0 w w' := by
 have HR0 := Aside0.mk hr0; have HC0 := Aside0.mk hc0; clear hr0 hc0; have HR1 := Aside0.mk hr1; have HC1 := Aside0.mk hc1; clear hr1 hc1; have H : (if (l0.length : Int) = (l1.length : Int) then (laws_sSame.l0 k l0 l1 (l0.length : Int) 0) else (some false)) = some r := h; clear h
 by_cases c3 : (l0.length : Int) = (l1.length : Int)
 ·rw [if_pos c3] at H; have c3b0 := beq_iff_eq.mpr c3; have c3b1 := bne_eq_false_iff_eq.mpr c3; (have c3b2 : (l0.length == l1.length) = true := by first | simpa using c3 | (simp at c3 ⊢; omega)); clear c3; have H' := Aside0.mk H; clear H; go_enter Try.func26, Try.ntmps26; go_wp2
  repeat (go_quiet (fail); try go_wp2)
  go_loopg [13] k (fun kq v13 w' => ∃ (x13_1 : Int), v13 = .int .i64 x13_1 ∧ Aside0 (laws_sSame.l0 kq l0 l1 (l0.length : Int) x13_1 = some r) ∧ Aside0 (kq ≤ k) ∧ Drawn0 w w')
  case atStart => exact ⟨(0), (sr2), H', ⟨Nat.le_refl _⟩, by repeat (first | exact Drawn0.refl _ | apply Drawn0.step)⟩
  case round =>
   clear H'; obtain ⟨x13_1, rfl, HA, HK1, ⟨m1, rfl⟩⟩ := hrel
   cases gk with
   | zero => exact absurd HA.out (by simp [laws_sSame.l0])
   | succ k1 =>
    have H := HA.out; clear HA; simp only [laws_sSame.l0] at H
    by_cases c4 : x13_1 < (l0.length : Int)
    ·rw [if_pos c4] at H; have c4b0 := decide_eq_true c4; clear c4
     by_cases c5 : 0 ≤ x13_1
     ·rw [if_pos c5] at H; have c5b0 := decide_eq_true c5; clear c5
      by_cases c6 : x13_1 < (l0.length : Int)
      ·rw [if_pos c6] at H; have c6b0 := decide_eq_true c6; clear c6
       by_cases c7 : x13_1 < (l1.length : Int)
       ·rw [if_pos c7] at H; have c7b0 := decide_eq_true c7; clear c7
        by_cases c8 : (rd l0 x13_1) = (rd l1 x13_1)
        ·rw [if_pos c8] at H; have c8b0 := beq_iff_eq.mpr c8; have c8b1 := bne_eq_false_iff_eq.mpr c8; clear c8; have H' := Aside0.mk H; clear H; obtain ⟨ad486, e486, hx486_0, p486, q486⟩ := atI HR0.out x13_1; cases e486; obtain ⟨ad487, e487, hx487_0, p487, q487⟩ := atI HR1.out x13_1; cases e487; go_wp2
         repeat (go_quiet (fail); try go_wp2)
         go_roundg k1
         case measure => have := HK1.out; omega
         case rel => exact ⟨(wrap64 (x13_1 + 1)), (sr2), H', ⟨by have := HK1.out; omega⟩, by repeat (first | exact Drawn0.refl _ | apply Drawn0.step)⟩
        rw [if_neg c8] at H; have c8b0 := beq_eq_false_iff_ne.mpr c8; have c8b1 := bne_iff_ne.mpr c8; obtain rfl := Option.some.inj H; obtain ⟨ad486, e486, hx486_0, p486, q486⟩ := atI HR0.out x13_1; cases e486; obtain ⟨ad487, e487, hx487_0, p487, q487⟩ := atI HR1.out x13_1; cases e487; go_wp2
        repeat (go_quiet (fail); try go_wp2)
        go_ret; exact ⟨sr2, by repeat (first | exact Drawn0.refl _ | apply Drawn0.step)⟩
       rw [if_neg c7] at H; exact absurd H (by simp)
      rw [if_neg c6] at H; exact absurd H (by simp)
     rw [if_neg c5] at H; exact absurd H (by simp)
    rw [if_neg c4] at H; have c4b0 := decide_eq_false c4; clear c4; obtain rfl := Option.some.inj H; go_wp2
    repeat (go_quiet (fail); try go_wp2)
    go_ret; exact ⟨sr2, by repeat (first | exact Drawn0.refl _ | apply Drawn0.step)⟩
 rw [if_neg c3] at H; have c3b0 := beq_eq_false_iff_ne.mpr c3; have c3b1 := bne_iff_ne.mpr c3; (have c3b2 : (l0.length == l1.length) = false := by first | simpa using c3 | (simp at c3 ⊢; omega)); obtain rfl := Option.some.inj H; go_enter Try.func26, Try.ntmps26; go_wp2
 repeat (go_quiet (fail); try go_wp2)
 go_ret; exact ⟨sr2, by repeat (first | exact Drawn0.refl _ | apply Drawn0.step)⟩
/-! ### laws_sSameRows: function 22 -/
def laws_sSameRows.l0 : Nat → List (List Int) → List (List Int) → Int → Int → Option (Bool)
 | 0, _, _, _, _ => none
 | k + 1, x0, x1, x12, x13 => if x13 < x12 then (if 0 ≤ x13 then (if x13 < (x0.length : Int) then (if x13 < (x1.length : Int) then ((laws_sSame.f k (rd_L1 x0 x13) (rd_L1 x1 x13)).bind fun t490 => (if t490 = true then (laws_sSameRows.l0 k x0 x1 x12 (wrap64 (x13 + 1))) else (some false))) else (none)) else (none)) else (none)) else (some true)
def laws_sSameRows.f (k : Nat) (l0 : List (List Int)) (l1 : List (List Int)) : Option (Bool) := if (l0.length : Int) = (l1.length : Int) then (laws_sSameRows.l0 k l0 l1 (l0.length : Int) 0) else (some false)
theorem laws_sSameRows.mono_l : ∀ k, (∀ y0 y1 y2 y3, LeO (laws_sSameRows.l0 k y0 y1 y2 y3) (laws_sSameRows.l0 (k + 1) y0 y1 y2 y3))
 | 0 => fun _ _ _ _ r h => by simp [laws_sSameRows.l0] at h
 | k + 1 => by
  have ih0 := laws_sSameRows.mono_l k
  ·intro y0 y1 y2 y3
   unfold laws_sSameRows.l0
   repeat' first
   | (with_reducible exact ih0 _ _ _ _)
   | (with_reducible exact laws_sSame.mono _ _ _)
   | (with_reducible exact LeO.refl _)
   | (with_reducible exact LeO.none _)
   | (with_reducible refine LeO.ite ?_ ?_)
   | (with_reducible refine LeO.bind ?_ (fun _ => ?_))
   | exact ih0 _ _ _ _
   | exact laws_sSame.mono _ _ _
   | exact LeO.none _
   | refine LeO.ite ?_ ?_
   | refine LeO.bind ?_ (fun _ => ?_)
theorem laws_sSameRows.mono : ∀ a0 a1 k, LeO (laws_sSameRows.f k a0 a1) (laws_sSameRows.f (k + 1) a0 a1) := by
 intro a0 a1 k; have ih0 := laws_sSameRows.mono_l k; unfold laws_sSameRows.f
 repeat' first
   | (with_reducible exact ih0 _ _ _ _)
   | (with_reducible exact laws_sSame.mono _ _ _)
   | (with_reducible exact LeO.refl _)
   | (with_reducible exact LeO.none _)
   | (with_reducible refine LeO.ite ?_ ?_)
   | (with_reducible refine LeO.bind ?_ (fun _ => ?_))
   | exact ih0 _ _ _ _
   | exact laws_sSame.mono _ _ _
   | exact LeO.none _
   | refine LeO.ite ?_ ?_
   | refine LeO.bind ?_ (fun _ => ?_)
theorem laws_sSameRows.calls (k : Nat) (A0 : Option Addr) (c0 : Nat) (l0 : List (List Int)) (A1 : Option Addr) (c1 : Nat) (l1 : List (List Int)) (r : Bool) (w : World) (hr0 : Kd.C (Kd.slice 3 (Kd.int .i64)) w A0 l0.length l0) (hc0 : l0.length ≤ c0) (hr1 : Kd.C (Kd.slice 3 (Kd.int .i64)) w A1 l1.length l1) (hc1 : l1.length ≤ c1) (h : laws_sSameRows.f k l0 l1 = some r) :
  Calls Try.prog 22 #[.slice A0 l0.length c0, .slice A1 l1.length c1] w fun e w' => e = .returned (.bool r) ∧ Drawn0 w w' := by
 have HR0 := Aside0.mk hr0; have HC0 := Aside0.mk hc0; clear hr0 hc0; have HR1 := Aside0.mk hr1; have HC1 := Aside0.mk hc1; clear hr1 hc1; have H : (if (l0.length : Int) = (l1.length : Int) then (laws_sSameRows.l0 k l0 l1 (l0.length : Int) 0) else (some false)) = some r := h; clear h
 by_cases c3 : (l0.length : Int) = (l1.length : Int)
 ·rw [if_pos c3] at H; have c3b0 := beq_iff_eq.mpr c3; have c3b1 := bne_eq_false_iff_eq.mpr c3; (have c3b2 : (l0.length == l1.length) = true := by first | simpa using c3 | (simp at c3 ⊢; omega)); clear c3; have H' := Aside0.mk H; clear H; go_enter Try.func22, Try.ntmps22; go_wp2
  repeat (go_quiet (fail); try go_wp2)
  go_loopg [13] k (fun kq v13 w' => ∃ (x13_1 : Int), v13 = .int .i64 x13_1 ∧ Aside0 (laws_sSameRows.l0 kq l0 l1 (l0.length : Int) x13_1 = some r) ∧ Aside0 (kq ≤ k) ∧ Drawn0 w w')
  case atStart => exact ⟨(0), (sr2), H', ⟨Nat.le_refl _⟩, by repeat (first | exact Drawn0.refl _ | apply Drawn0.step)⟩
  case round =>
   clear H'; obtain ⟨x13_1, rfl, HA, HK1, ⟨m1, rfl⟩⟩ := hrel
   cases gk with
   | zero => exact absurd HA.out (by simp [laws_sSameRows.l0])
   | succ k1 =>
    have H := HA.out; clear HA; simp only [laws_sSameRows.l0] at H
    by_cases c4 : x13_1 < (l0.length : Int)
    ·rw [if_pos c4] at H; have c4b0 := decide_eq_true c4; clear c4
     by_cases c5 : 0 ≤ x13_1
     ·rw [if_pos c5] at H; have c5b0 := decide_eq_true c5; clear c5
      by_cases c6 : x13_1 < (l0.length : Int)
      ·rw [if_pos c6] at H; have c6b0 := decide_eq_true c6; clear c6
       by_cases c7 : x13_1 < (l1.length : Int)
       ·rw [if_pos c7] at H; have c7b0 := decide_eq_true c7; clear c7; obtain ⟨t490, A8, H⟩ := bi H; (try dsimp only at H)
        by_cases c9 : t490 = true
        ·subst c9; rw [if_pos rfl] at H; have H' := Aside0.mk H; clear H; have p488 : 0 ≤ (x13_1 : Int) := od; have q488 : x13_1 < (l0.length : Int) := od; obtain ⟨ad488, A488_0, c488_0, e488, hx488_0, hl488_0, hi488_0⟩ := at_L1 HR0.out x13_1 p488 q488; cases e488; have HR488_0 := Aside0.mk hi488_0; have HC488_0 := Aside0.mk hl488_0; clear hi488_0 hl488_0; replace p488 := eq_true p488; replace q488 := eq_true q488; have p489 : 0 ≤ (x13_1 : Int) := od; have q489 : x13_1 < (l1.length : Int) := od; obtain ⟨ad489, A489_0, c489_0, e489, hx489_0, hl489_0, hi489_0⟩ := at_L1 HR1.out x13_1 p489 q489; cases e489; have HR489_0 := Aside0.mk hi489_0; have HC489_0 := Aside0.mk hl489_0; clear hi489_0 hl489_0; replace p489 := eq_true p489; replace q489 := eq_true q489; go_wp2_with (first | (go_at_call 26; (with_reducible refine (laws_sSame.calls k1 _ _ (rd_L1 l0 x13_1) _ _ (rd_L1 l1 x13_1) true _ ?side1 ?side2 ?side3 HC489_0.out A8.out).mono ?_); (case side1 => exact cw HR488_0.out); (case side2 => exact HC488_0.out); (case side3 => exact cw HR489_0.out); rintro e w' ⟨rfl, ⟨nd, rfl⟩⟩; (try first | exact ⟨rfl, _, World.drewN_drewN _ _ _⟩ | exact ⟨rfl, _, Eq.trans (World.drewN_drewN _ _ _) (congrArg (World.drewN _) (Nat.add_assoc _ _ _))⟩)))
         repeat (go_quiet (first | (go_at_call 26; (with_reducible refine (laws_sSame.calls k1 _ _ (rd_L1 l0 x13_1) _ _ (rd_L1 l1 x13_1) true _ ?side1 ?side2 ?side3 HC489_0.out A8.out).mono ?_); (case side1 => exact cw HR488_0.out); (case side2 => exact HC488_0.out); (case side3 => exact cw HR489_0.out); rintro e w' ⟨rfl, ⟨nd, rfl⟩⟩; (try first | exact ⟨rfl, _, World.drewN_drewN _ _ _⟩ | exact ⟨rfl, _, Eq.trans (World.drewN_drewN _ _ _) (congrArg (World.drewN _) (Nat.add_assoc _ _ _))⟩))); try go_wp2_with (first | (go_at_call 26; (with_reducible refine (laws_sSame.calls k1 _ _ (rd_L1 l0 x13_1) _ _ (rd_L1 l1 x13_1) true _ ?side1 ?side2 ?side3 HC489_0.out A8.out).mono ?_); (case side1 => exact cw HR488_0.out); (case side2 => exact HC488_0.out); (case side3 => exact cw HR489_0.out); rintro e w' ⟨rfl, ⟨nd, rfl⟩⟩; (try first | exact ⟨rfl, _, World.drewN_drewN _ _ _⟩ | exact ⟨rfl, _, Eq.trans (World.drewN_drewN _ _ _) (congrArg (World.drewN _) (Nat.add_assoc _ _ _))⟩))))
         go_roundg k1
         case measure => have := HK1.out; omega
         case rel => exact ⟨(wrap64 (x13_1 + 1)), (sr2), H', ⟨by have := HK1.out; omega⟩, by repeat (first | exact Drawn0.refl _ | apply Drawn0.step)⟩
        replace c9 := Bool.eq_false_iff.mpr c9; subst c9; rw [if_neg (show ¬ (false = true) by decide)] at H; obtain rfl := Option.some.inj H; have p488 : 0 ≤ (x13_1 : Int) := od; have q488 : x13_1 < (l0.length : Int) := od; obtain ⟨ad488, A488_0, c488_0, e488, hx488_0, hl488_0, hi488_0⟩ := at_L1 HR0.out x13_1 p488 q488; cases e488; have HR488_0 := Aside0.mk hi488_0; have HC488_0 := Aside0.mk hl488_0; clear hi488_0 hl488_0; replace p488 := eq_true p488; replace q488 := eq_true q488; have p489 : 0 ≤ (x13_1 : Int) := od; have q489 : x13_1 < (l1.length : Int) := od; obtain ⟨ad489, A489_0, c489_0, e489, hx489_0, hl489_0, hi489_0⟩ := at_L1 HR1.out x13_1 p489 q489; cases e489; have HR489_0 := Aside0.mk hi489_0; have HC489_0 := Aside0.mk hl489_0; clear hi489_0 hl489_0; replace p489 := eq_true p489; replace q489 := eq_true q489; go_wp2_with (first | (go_at_call 26; (with_reducible refine (laws_sSame.calls k1 _ _ (rd_L1 l0 x13_1) _ _ (rd_L1 l1 x13_1) false _ ?side1 ?side2 ?side3 HC489_0.out A8.out).mono ?_); (case side1 => exact cw HR488_0.out); (case side2 => exact HC488_0.out); (case side3 => exact cw HR489_0.out); rintro e w' ⟨rfl, ⟨nd, rfl⟩⟩; (try first | exact ⟨rfl, _, World.drewN_drewN _ _ _⟩ | exact ⟨rfl, _, Eq.trans (World.drewN_drewN _ _ _) (congrArg (World.drewN _) (Nat.add_assoc _ _ _))⟩)))
        repeat (go_quiet (first | (go_at_call 26; (with_reducible refine (laws_sSame.calls k1 _ _ (rd_L1 l0 x13_1) _ _ (rd_L1 l1 x13_1) false _ ?side1 ?side2 ?side3 HC489_0.out A8.out).mono ?_); (case side1 => exact cw HR488_0.out); (case side2 => exact HC488_0.out); (case side3 => exact cw HR489_0.out); rintro e w' ⟨rfl, ⟨nd, rfl⟩⟩; (try first | exact ⟨rfl, _, World.drewN_drewN _ _ _⟩ | exact ⟨rfl, _, Eq.trans (World.drewN_drewN _ _ _) (congrArg (World.drewN _) (Nat.add_assoc _ _ _))⟩))); try go_wp2_with (first | (go_at_call 26; (with_reducible refine (laws_sSame.calls k1 _ _ (rd_L1 l0 x13_1) _ _ (rd_L1 l1 x13_1) false _ ?side1 ?side2 ?side3 HC489_0.out A8.out).mono ?_); (case side1 => exact cw HR488_0.out); (case side2 => exact HC488_0.out); (case side3 => exact cw HR489_0.out); rintro e w' ⟨rfl, ⟨nd, rfl⟩⟩; (try first | exact ⟨rfl, _, World.drewN_drewN _ _ _⟩ | exact ⟨rfl, _, Eq.trans (World.drewN_drewN _ _ _) (congrArg (World.drewN _) (Nat.add_assoc _ _ _))⟩))))
        go_ret; exact ⟨sr2, by repeat (first | exact Drawn0.refl _ | apply Drawn0.step)⟩
       rw [if_neg c7] at H; exact absurd H (by simp)
      rw [if_neg c6] at H; exact absurd H (by simp)
     rw [if_neg c5] at H; exact absurd H (by simp)
    rw [if_neg c4] at H; have c4b0 := decide_eq_false c4; clear c4; obtain rfl := Option.some.inj H; go_wp2
    repeat (go_quiet (fail); try go_wp2)
    go_ret; exact ⟨sr2, by repeat (first | exact Drawn0.refl _ | apply Drawn0.step)⟩
 rw [if_neg c3] at H; have c3b0 := beq_eq_false_iff_ne.mpr c3; have c3b1 := bne_iff_ne.mpr c3; (have c3b2 : (l0.length == l1.length) = false := by first | simpa using c3 | (simp at c3 ⊢; omega)); obtain rfl := Option.some.inj H; go_enter Try.func22, Try.ntmps22; go_wp2
 repeat (go_quiet (fail); try go_wp2)
 go_ret; exact ⟨sr2, by repeat (first | exact Drawn0.refl _ | apply Drawn0.step)⟩
/-! ### spec_l1Cur_tabled: function 69 -/
def spec_l1Cur_tabled.f (s0_0 : List Int) (s0_1 : Int) (s0_2 : Int) (a1 : Int) : Option (Int × Int × Int × Int) := (spec_l1Cur_pick.f s0_0 s0_1 s0_2 (wrap64 (a1 + 1))).bind fun bt536 => ((spec_l1Cur_pick.f s0_0 bt536.2.1 bt536.2.2 7).bind fun bt539 => ((spec_l1Cur_pick.f s0_0 bt539.2.1 bt539.2.2 12).bind fun bt542 => (if bt542.1 = 0 then ((spec_l1Cur_among.f s0_0 bt542.2.1 bt542.2.2 (([(-1), 4, 5] : List Int))).bind fun bt548 => (some (bt548.1, wrap64 (bt539.1 - 3), bt548.2.1, bt548.2.2))) else (if bt542.1 = 1 then ((spec_l1Cur_among.f s0_0 bt542.2.1 bt542.2.2 (([(-4), (-3), 3, 4, 4611686018427387904] : List Int))).bind fun bt554 => (some (bt536.1, bt554.1, bt554.2.1, bt554.2.2))) else (some (bt536.1, wrap64 (bt539.1 - 3), bt542.2.1, bt542.2.2))))))
theorem spec_l1Cur_tabled.calls (g : Nat) (s0_0 : List Int) (s0_1 : Int) (s0_2 : Int) (a1 : Int) (r1 : Int) (r2 : Int) (r3 : Int) (r4 : Int) (w0 w : World) (hI : IsS57 w0 w g s0_0 s0_1 s0_2) (hB : Below w0.heap.size w0 w) (h : spec_l1Cur_tabled.f s0_0 s0_1 s0_2 a1 = some (r1, r2, r3, r4)) :
  Calls Try.prog 69 #[.pointer (some ⟨g, 0, none⟩), .int .i64 a1] w fun e w' => e = .returned (.tuple #[.int .i64 r1, .int .i64 r2]) ∧ IsS57 w0 w' g s0_0 r3 r4 ∧ Below w0.heap.size w0 w' ∧ KeepBut w w' g none := by
 have HI0 := Aside0.mk hI; have HK := Aside0.mk (KeepBut.refl w g none); have HL := Aside0.mk hB.size; clear hI; have HW0 := Aside0.mk hB.size; have HB := Aside0.mk hB; clear hB; have H : ((spec_l1Cur_pick.f s0_0 s0_1 s0_2 (wrap64 (a1 + 1))).bind fun bt536 => ((spec_l1Cur_pick.f s0_0 bt536.2.1 bt536.2.2 7).bind fun bt539 => ((spec_l1Cur_pick.f s0_0 bt539.2.1 bt539.2.2 12).bind fun bt542 => (if bt542.1 = 0 then ((spec_l1Cur_among.f s0_0 bt542.2.1 bt542.2.2 (([(-1), 4, 5] : List Int))).bind fun bt548 => (some (bt548.1, wrap64 (bt539.1 - 3), bt548.2.1, bt548.2.2))) else (if bt542.1 = 1 then ((spec_l1Cur_among.f s0_0 bt542.2.1 bt542.2.2 (([(-4), (-3), 3, 4, 4611686018427387904] : List Int))).bind fun bt554 => (some (bt536.1, bt554.1, bt554.2.1, bt554.2.2))) else (some (bt536.1, wrap64 (bt539.1 - 3), bt542.2.1, bt542.2.2))))))) = some (r1, r2, r3, r4) := h; clear h; obtain ⟨⟨t536, t537, t538⟩, A3, H⟩ := bi H; (try dsimp only at H); obtain ⟨⟨t539, t540, t541⟩, A4, H⟩ := bi H; (try dsimp only at H); obtain ⟨⟨t542, t543, t544⟩, A5, H⟩ := bi H; (try dsimp only at H)
 by_cases c6 : t542 = 0
 ·rw [if_pos c6] at H; have c6b0 := beq_iff_eq.mpr c6; have c6b1 := bne_eq_false_iff_eq.mpr c6; clear c6; obtain ⟨y545, hy545⟩ := yy (([(-1), 4, 5] : List Int))
  (try rw [Option.bind_some] at H); (try dsimp only at H); rw [← hy545] at H
  have Ny545 := Aside0.mk hy545; clear hy545; obtain ⟨⟨t548, t549, t550⟩, A7, H⟩ := bi H; (try dsimp only at H); simp only [Option.some.injEq, Prod.mk.injEq] at H; obtain ⟨rfl, rfl, rfl, rfl⟩ := H; go_enter Try.func69, Try.ntmps69; go_wp2_with (first | (go_at_call 63; (with_reducible refine (spec_l1Cur_pick.calls g s0_0 s0_1 s0_2 (wrap64 (a1 + 1)) t536 t537 t538 w0 _ ?side1 (bs1 HB.out (IsS57.ge HI0.out)) A3.out).mono ?_); (case side1 => exact iS HI0.out); rintro e w8 ⟨rfl, hi, hb, hk⟩; replace HK := kt HK hk; replace HB := Aside0.mk (hb); replace HI0 := Aside0.mk (hi)) | (go_at_call 63; (with_reducible refine (spec_l1Cur_pick.calls g s0_0 t537 t538 7 t539 t540 t541 w0 _ ?side1 (bs1 HB.out (IsS57.ge HI0.out)) A4.out).mono ?_); (case side1 => exact iS HI0.out); rintro e w9 ⟨rfl, hi, hb, hk⟩; replace HK := kt HK hk; replace HB := Aside0.mk (hb); replace HI0 := Aside0.mk (hi)) | (go_at_call 63; (with_reducible refine (spec_l1Cur_pick.calls g s0_0 t540 t541 12 t542 t543 t544 w0 _ ?side1 (bs1 HB.out (IsS57.ge HI0.out)) A5.out).mono ?_); (case side1 => exact iS HI0.out); rintro e w10 ⟨rfl, hi, hb, hk⟩; replace HK := kt HK hk; replace HB := Aside0.mk (hb); replace HI0 := Aside0.mk (hi)) | ((with_reducible refine gate_dst (N := 20) rfl ?_); refine Kd.R_lit (Kd.int .i64) _ 3 ?hg (N := 20) ?hd (xs := ([(-1), 4, 5] : List Int)) (inner := [.int .i64 (-1), .int .i64 4, .int .i64 5]) (ok := fun _ => True) (okp := fun _ => True) ?hr ?hp (fun _ hk => hk) trivial (Below.refl _ _) (Nat.le_refl _) (by simp) ?_; (case hd => rfl); (case hg => rfl); (case hr => first | (go_simp; done) | (go_simp; rfl)); (case hp => exact (Reps.one (show Kd.M (Kd.int .i64) _ _ _ (-1) [.int .i64 (-1)] from rfl) (Reps.one (show Kd.M (Kd.int .i64) _ _ _ 4 [.int .i64 4] from rfl) (Reps.one (show Kd.M (Kd.int .i64) _ _ _ 5 [.int .i64 5] from rfl) (Reps.none _ _))))); intro v546 w11 ho12 hb hg_ hnew_; clear hg_ hnew_; (first | rw [← Ny545.out] at ho12 | (simp only [Int.reduceToNat] at ho12; rw [← Ny545.out] at ho12)); have HO547 := Aside0.mk (Kd.R_lower ho12 (keep_size (w := w) (g := g) (row := none) (kb HK.out))); replace HK := Aside0.mk (KeepBut.trans (kb HK.out) (KeepBut.of_below hb g none) (.inl rfl)); replace HB := Aside0.mk (below_step (bs1 HB.out (IsS57.ge HI0.out)) hb); replace HI0 := Aside0.mk (IsS57.below (iS HI0.out) hb); clear hb ho12; obtain ⟨Ao13, co13, eo13⟩ := Kd.R_slice HO547.out; subst eo13) | (go_at_call 65; (with_reducible refine (spec_l1Cur_among.calls g s0_0 t543 t544 _ _ y545 t548 t549 t550 w0 _ ?side1 ?side2 ?side3 ?side4 (far_slice (IsS57.own_ne HI0.out HO547.out (by decide))) A7.out).mono ?_); (case side1 => exact iS HI0.out); (case side2 => exact bs1 HB.out (IsS57.ge HI0.out)); (case side3 => exact cw ((Kd.R_reads' HO547.out).2.2)); (case side4 => exact (Kd.R_reads' HO547.out).2.1); rintro e w14 ⟨rfl, hi, hb, hk⟩; replace HO547 := Aside0.mk (Kd.R_mono (Kd.R_keep (IsS57.apart (show IsS57 w0 _ g s0_0 t543 t544 from iS HI0.out) (rR HO547.out) (by decide)) hk (fun _ h => h.2)) (fun _ h => h.1)); replace HK := kt HK hk; replace HB := Aside0.mk (hb); replace HI0 := Aside0.mk (hi))); go_ret2; exact ⟨sr, iS HI0.out, bs1 HB.out (IsS57.ge HI0.out), kb HK.out⟩
 rw [if_neg c6] at H; have c6b0 := beq_eq_false_iff_ne.mpr c6; have c6b1 := bne_iff_ne.mpr c6
 by_cases c15 : t542 = 1
 ·rw [if_pos c15] at H; have c15b0 := beq_iff_eq.mpr c15; have c15b1 := bne_eq_false_iff_eq.mpr c15; clear c15; obtain ⟨y551, hy551⟩ := yy (([(-4), (-3), 3, 4, 4611686018427387904] : List Int))
  (try rw [Option.bind_some] at H); (try dsimp only at H); rw [← hy551] at H
  have Ny551 := Aside0.mk hy551; clear hy551; obtain ⟨⟨t554, t555, t556⟩, A16, H⟩ := bi H; (try dsimp only at H); simp only [Option.some.injEq, Prod.mk.injEq] at H; obtain ⟨rfl, rfl, rfl, rfl⟩ := H; go_enter Try.func69, Try.ntmps69; go_wp2_with (first | (go_at_call 63; (with_reducible refine (spec_l1Cur_pick.calls g s0_0 s0_1 s0_2 (wrap64 (a1 + 1)) t536 t537 t538 w0 _ ?side1 (bs1 HB.out (IsS57.ge HI0.out)) A3.out).mono ?_); (case side1 => exact iS HI0.out); rintro e w17 ⟨rfl, hi, hb, hk⟩; replace HK := kt HK hk; replace HB := Aside0.mk (hb); replace HI0 := Aside0.mk (hi)) | (go_at_call 63; (with_reducible refine (spec_l1Cur_pick.calls g s0_0 t537 t538 7 t539 t540 t541 w0 _ ?side1 (bs1 HB.out (IsS57.ge HI0.out)) A4.out).mono ?_); (case side1 => exact iS HI0.out); rintro e w18 ⟨rfl, hi, hb, hk⟩; replace HK := kt HK hk; replace HB := Aside0.mk (hb); replace HI0 := Aside0.mk (hi)) | (go_at_call 63; (with_reducible refine (spec_l1Cur_pick.calls g s0_0 t540 t541 12 t542 t543 t544 w0 _ ?side1 (bs1 HB.out (IsS57.ge HI0.out)) A5.out).mono ?_); (case side1 => exact iS HI0.out); rintro e w19 ⟨rfl, hi, hb, hk⟩; replace HK := kt HK hk; replace HB := Aside0.mk (hb); replace HI0 := Aside0.mk (hi)) | ((with_reducible refine gate_dst (N := 25) rfl ?_); refine Kd.R_lit (Kd.int .i64) _ 3 ?hg (N := 25) ?hd (xs := ([(-4), (-3), 3, 4, 4611686018427387904] : List Int)) (inner := [.int .i64 (-4), .int .i64 (-3), .int .i64 3, .int .i64 4, .int .i64 4611686018427387904]) (ok := fun _ => True) (okp := fun _ => True) ?hr ?hp (fun _ hk => hk) trivial (Below.refl _ _) (Nat.le_refl _) (by simp) ?_; (case hd => rfl); (case hg => rfl); (case hr => first | (go_simp; done) | (go_simp; rfl)); (case hp => exact (Reps.one (show Kd.M (Kd.int .i64) _ _ _ (-4) [.int .i64 (-4)] from rfl) (Reps.one (show Kd.M (Kd.int .i64) _ _ _ (-3) [.int .i64 (-3)] from rfl) (Reps.one (show Kd.M (Kd.int .i64) _ _ _ 3 [.int .i64 3] from rfl) (Reps.one (show Kd.M (Kd.int .i64) _ _ _ 4 [.int .i64 4] from rfl) (Reps.one (show Kd.M (Kd.int .i64) _ _ _ 4611686018427387904 [.int .i64 4611686018427387904] from rfl) (Reps.none _ _))))))); intro v552 w20 ho21 hb hg_ hnew_; clear hg_ hnew_; (first | rw [← Ny551.out] at ho21 | (simp only [Int.reduceToNat] at ho21; rw [← Ny551.out] at ho21)); have HO553 := Aside0.mk (Kd.R_lower ho21 (keep_size (w := w) (g := g) (row := none) (kb HK.out))); replace HK := Aside0.mk (KeepBut.trans (kb HK.out) (KeepBut.of_below hb g none) (.inl rfl)); replace HB := Aside0.mk (below_step (bs1 HB.out (IsS57.ge HI0.out)) hb); replace HI0 := Aside0.mk (IsS57.below (iS HI0.out) hb); clear hb ho21; obtain ⟨Ao22, co22, eo22⟩ := Kd.R_slice HO553.out; subst eo22) | (go_at_call 65; (with_reducible refine (spec_l1Cur_among.calls g s0_0 t543 t544 _ _ y551 t554 t555 t556 w0 _ ?side1 ?side2 ?side3 ?side4 (far_slice (IsS57.own_ne HI0.out HO553.out (by decide))) A16.out).mono ?_); (case side1 => exact iS HI0.out); (case side2 => exact bs1 HB.out (IsS57.ge HI0.out)); (case side3 => exact cw ((Kd.R_reads' HO553.out).2.2)); (case side4 => exact (Kd.R_reads' HO553.out).2.1); rintro e w23 ⟨rfl, hi, hb, hk⟩; replace HO553 := Aside0.mk (Kd.R_mono (Kd.R_keep (IsS57.apart (show IsS57 w0 _ g s0_0 t543 t544 from iS HI0.out) (rR HO553.out) (by decide)) hk (fun _ h => h.2)) (fun _ h => h.1)); replace HK := kt HK hk; replace HB := Aside0.mk (hb); replace HI0 := Aside0.mk (hi))); go_ret2; exact ⟨sr, iS HI0.out, bs1 HB.out (IsS57.ge HI0.out), kb HK.out⟩
 rw [if_neg c15] at H; have c15b0 := beq_eq_false_iff_ne.mpr c15; have c15b1 := bne_iff_ne.mpr c15; simp only [Option.some.injEq, Prod.mk.injEq] at H; obtain ⟨rfl, rfl, rfl, rfl⟩ := H; go_enter Try.func69, Try.ntmps69; go_wp2_with (first | (go_at_call 63; (with_reducible refine (spec_l1Cur_pick.calls g s0_0 s0_1 s0_2 (wrap64 (a1 + 1)) t536 t537 t538 w0 _ ?side1 (bs1 HB.out (IsS57.ge HI0.out)) A3.out).mono ?_); (case side1 => exact iS HI0.out); rintro e w24 ⟨rfl, hi, hb, hk⟩; replace HK := kt HK hk; replace HB := Aside0.mk (hb); replace HI0 := Aside0.mk (hi)) | (go_at_call 63; (with_reducible refine (spec_l1Cur_pick.calls g s0_0 t537 t538 7 t539 t540 t541 w0 _ ?side1 (bs1 HB.out (IsS57.ge HI0.out)) A4.out).mono ?_); (case side1 => exact iS HI0.out); rintro e w25 ⟨rfl, hi, hb, hk⟩; replace HK := kt HK hk; replace HB := Aside0.mk (hb); replace HI0 := Aside0.mk (hi)) | (go_at_call 63; (with_reducible refine (spec_l1Cur_pick.calls g s0_0 t540 t541 12 t542 t543 t544 w0 _ ?side1 (bs1 HB.out (IsS57.ge HI0.out)) A5.out).mono ?_); (case side1 => exact iS HI0.out); rintro e w26 ⟨rfl, hi, hb, hk⟩; replace HK := kt HK hk; replace HB := Aside0.mk (hb); replace HI0 := Aside0.mk (hi))); go_ret2; exact ⟨sr, iS HI0.out, bs1 HB.out (IsS57.ge HI0.out), kb HK.out⟩
/-! ### spec_DrawTableAt: function 27 -/
def spec_DrawTableAt.f (l0 : List Int) : Option (Int × Int) := (spec_l1Cur_tabled.f l0 0 0 3).bind fun bt558 => (some (bt558.1, bt558.2.1))
theorem spec_DrawTableAt.calls (A0 : Option Addr) (c0 : Nat) (l0 : List Int) (r1 : Int) (r2 : Int) (w : World) (hr0 : Kd.C (Kd.int .u8) w A0 l0.length l0) (hc0 : l0.length ≤ c0) (h : spec_DrawTableAt.f l0 = some (r1, r2)) :
  Calls Try.prog 27 #[.slice A0 l0.length c0] w fun e w' => e = .returned (.tuple #[.int .i64 r1, .int .i64 r2]) ∧ Below w.heap.size w w' := by
 have hu57 := Try.underlying57; have HR0 := Aside0.mk hr0; have HC0 := Aside0.mk hc0; clear hr0 hc0; have HB := Aside0.mk (Below.refl w.heap.size w); have H : ((spec_l1Cur_tabled.f l0 0 0 3).bind fun bt558 => (some (bt558.1, bt558.2.1))) = some (r1, r2) := h; clear h; obtain ⟨⟨t558, t559, t560, t561⟩, A2, H⟩ := bi H; (try dsimp only at H); simp only [Option.some.injEq, Prod.mk.injEq] at H; obtain ⟨rfl, rfl⟩ := H; go_enter Try.func27, Try.ntmps27; go_wp2_with (first | ((with_reducible refine gate_dst (N := 7) rfl ?_); refine box_event ?hg (N := 7) ?hd (cs := #[.slice A0 l0.length c0, .int .i64 0, .int .u64 0]) (t := 57) ?hr ?_; (case hd => rfl); (case hg => rfl); (case hr => first | (go_simp; done) | (go_simp; rfl)); intro gb557 hg w3 hbox hb; have HI557 := Aside0.mk ((show IsS57 w w3 gb557 l0 0 0 from ⟨_, _, hbox, (by rw [hg]; exact (below_size (bl HB.out)) : w.heap.size ≤ gb557), HR0.out⟩)); replace HB := bst HB hb; clear hb hbox hg) | (go_at_call 69; (with_reducible refine (spec_l1Cur_tabled.calls gb557 l0 0 0 3 t558 t559 t560 t561 w _ ?side1 (bs1 HB.out (IsS57.ge HI557.out)) A2.out).mono ?_); (case side1 => exact iS HI557.out); rintro e w4 ⟨rfl, hi, hb, hk⟩; replace HB := Aside0.mk (hb); replace HI557 := Aside0.mk (hi))); go_ret2; exact ⟨sr, bs1 HB.out (IsS57.ge HI557.out)⟩
/-! ### impl_isTable: function 70 -/
def impl_isTable.f (a0 : Int) (a1 : Int) : Option (Bool) := (impl_in.f a0 0 4).bind fun t562 => (if t562 = true then ((impl_in.f a1 (-3) 3).bind fun t563 => (if t563 = true then (if a0 < 4 then (some true) else ((impl_in.f a1 (-2) 2).bind fun t564 => (some t564))) else (some false))) else (some false))
theorem impl_isTable.calls (a0 : Int) (a1 : Int) (r : Bool) (w : World) (h : impl_isTable.f a0 a1 = some r) :
  Calls Try.prog 70 #[.int .i64 a0, .int .i64 a1] w fun e w' => e = .returned (.bool r) ∧ Drawn0 w w' := by
 have H : ((impl_in.f a0 0 4).bind fun t562 => (if t562 = true then ((impl_in.f a1 (-3) 3).bind fun t563 => (if t563 = true then (if a0 < 4 then (some true) else ((impl_in.f a1 (-2) 2).bind fun t564 => (some t564))) else (some false))) else (some false))) = some r := h; clear h; obtain ⟨t562, A3, H⟩ := bi H; (try dsimp only at H)
 by_cases c4 : t562 = true
 ·subst c4; rw [if_pos rfl] at H; obtain ⟨t563, A5, H⟩ := bi H; (try dsimp only at H)
  by_cases c6 : t563 = true
  ·subst c6; rw [if_pos rfl] at H
   by_cases c7 : a0 < 4
   ·rw [if_pos c7] at H; have c7b0 := decide_eq_true c7; clear c7; obtain rfl := Option.some.inj H; go_enter Try.func70, Try.ntmps70; go_wp2_with (first | (go_at_call 57; (with_reducible refine (impl_in.calls a0 0 4 true _ A3.out).mono ?_); rintro e w' ⟨rfl, ⟨nd, rfl⟩⟩) | (go_at_call 57; (with_reducible refine (impl_in.calls a1 (-3) 3 true _ A5.out).mono ?_); rintro e w' ⟨rfl, ⟨nd, rfl⟩⟩)); go_ret; exact ⟨sr2, by repeat (first | exact Drawn0.refl _ | apply Drawn0.step)⟩
   rw [if_neg c7] at H; have c7b0 := decide_eq_false c7; clear c7; obtain ⟨t564, A8, H⟩ := bi H; (try dsimp only at H); obtain rfl := Option.some.inj H; go_enter Try.func70, Try.ntmps70; go_wp2_with (first | (go_at_call 57; (with_reducible refine (impl_in.calls a0 0 4 true _ A3.out).mono ?_); rintro e w' ⟨rfl, ⟨nd, rfl⟩⟩) | (go_at_call 57; (with_reducible refine (impl_in.calls a1 (-3) 3 true _ A5.out).mono ?_); rintro e w' ⟨rfl, ⟨nd, rfl⟩⟩) | (go_at_call 57; (with_reducible refine (impl_in.calls a1 (-2) 2 t564 _ A8.out).mono ?_); rintro e w' ⟨rfl, ⟨nd, rfl⟩⟩)); go_ret; exact ⟨sr2, by repeat (first | exact Drawn0.refl _ | apply Drawn0.step)⟩
  replace c6 := Bool.eq_false_iff.mpr c6; subst c6; rw [if_neg (show ¬ (false = true) by decide)] at H; obtain rfl := Option.some.inj H; go_enter Try.func70, Try.ntmps70; go_wp2_with (first | (go_at_call 57; (with_reducible refine (impl_in.calls a0 0 4 true _ A3.out).mono ?_); rintro e w' ⟨rfl, ⟨nd, rfl⟩⟩) | (go_at_call 57; (with_reducible refine (impl_in.calls a1 (-3) 3 false _ A5.out).mono ?_); rintro e w' ⟨rfl, ⟨nd, rfl⟩⟩)); go_ret; exact ⟨sr2, by repeat (first | exact Drawn0.refl _ | apply Drawn0.step)⟩
 replace c4 := Bool.eq_false_iff.mpr c4; subst c4; rw [if_neg (show ¬ (false = true) by decide)] at H; obtain rfl := Option.some.inj H; go_enter Try.func70, Try.ntmps70; go_wp2_with (first | (go_at_call 57; (with_reducible refine (impl_in.calls a0 0 4 false _ A3.out).mono ?_); rintro e w' ⟨rfl, ⟨nd, rfl⟩⟩)); go_ret; exact ⟨sr2, by repeat (first | exact Drawn0.refl _ | apply Drawn0.step)⟩
/-! ### impl_power: function 73 -/
def impl_power.l0 : Nat → Int → Int → Int → Int → Option (Int)
 | 0, _, _, _, _ => none
 | k + 1, x0, x5, x6, x7 => if x7 < x6 then (impl_power.l0 k x0 (wrap64 (x5 * x0)) x6 (wrap64 (x7 + 1))) else (some x5)
def impl_power.f (k : Nat) (a0 : Int) (a1 : Int) : Option (Int) := impl_power.l0 k a0 1 a1 0
theorem impl_power.mono_l : ∀ k, (∀ y0 y1 y2 y3, LeO (impl_power.l0 k y0 y1 y2 y3) (impl_power.l0 (k + 1) y0 y1 y2 y3))
 | 0 => fun _ _ _ _ r h => by simp [impl_power.l0] at h
 | k + 1 => by
  have ih0 := impl_power.mono_l k
  ·intro y0 y1 y2 y3
   unfold impl_power.l0
   repeat' first
   | (with_reducible exact ih0 _ _ _ _)
   | (with_reducible exact LeO.refl _)
   | (with_reducible exact LeO.none _)
   | (with_reducible refine LeO.ite ?_ ?_)
   | (with_reducible refine LeO.bind ?_ (fun _ => ?_))
   | exact ih0 _ _ _ _
   | exact LeO.none _
   | refine LeO.ite ?_ ?_
   | refine LeO.bind ?_ (fun _ => ?_)
theorem impl_power.mono : ∀ a0 a1 k, LeO (impl_power.f k a0 a1) (impl_power.f (k + 1) a0 a1) := by
 intro a0 a1 k; have ih0 := impl_power.mono_l k; unfold impl_power.f
 repeat' first
   | (with_reducible exact ih0 _ _ _ _)
   | (with_reducible exact LeO.refl _)
   | (with_reducible exact LeO.none _)
   | (with_reducible refine LeO.ite ?_ ?_)
   | (with_reducible refine LeO.bind ?_ (fun _ => ?_))
   | exact ih0 _ _ _ _
   | exact LeO.none _
   | refine LeO.ite ?_ ?_
   | refine LeO.bind ?_ (fun _ => ?_)
theorem impl_power.calls (k : Nat) (a0 : Int) (a1 : Int) (r : Int) (w : World) (h : impl_power.f k a0 a1 = some r) :
  Calls Try.prog 73 #[.int .i64 a0, .int .i64 a1] w fun e w' => e = .returned (.int .i64 r) ∧ Drawn0 w w' := by
 have H : (impl_power.l0 k a0 1 a1 0) = some r := h; clear h; have H' := Aside0.mk H; clear H; go_enter Try.func73, Try.ntmps73; go_wp2
 go_loopg [5, 7] k (fun kq v5 v7 w' => ∃ (x5_1 : Int) (x7_1 : Int), v5 = .int .i64 x5_1 ∧ v7 = .int .i64 x7_1 ∧ Aside0 (impl_power.l0 kq a0 x5_1 a1 x7_1 = some r) ∧ Aside0 (kq ≤ k) ∧ Drawn0 w w')
 case atStart => exact ⟨(1), (0), (sr2), (sr2), H', ⟨Nat.le_refl _⟩, by repeat (first | exact Drawn0.refl _ | apply Drawn0.step)⟩
 case round =>
  clear H'; obtain ⟨x5_1, x7_1, rfl, rfl, HA, HK1, ⟨m1, rfl⟩⟩ := hrel
  cases gk with
  | zero => exact absurd HA.out (by simp [impl_power.l0])
  | succ k1 =>
   have H := HA.out; clear HA; simp only [impl_power.l0] at H
   by_cases c3 : x7_1 < a1
   ·rw [if_pos c3] at H; have c3b0 := decide_eq_true c3; clear c3; have H' := Aside0.mk H; clear H; go_wp2
    go_roundg k1
    case measure => have := HK1.out; omega
    case rel => exact ⟨(wrap64 (x5_1 * a0)), (wrap64 (x7_1 + 1)), (sr2), (sr2), H', ⟨by have := HK1.out; omega⟩, by repeat (first | exact Drawn0.refl _ | apply Drawn0.step)⟩
   rw [if_neg c3] at H; have c3b0 := decide_eq_false c3; clear c3; obtain rfl := Option.some.inj H; go_wp2; go_ret; exact ⟨sr2, by repeat (first | exact Drawn0.refl _ | apply Drawn0.step)⟩
/-! ### impl_table: function 71 -/
def impl_table.row (k : Nat) (x : Int) : List Int → Option (List Int)
 | [] => some []
 | v :: t => (impl_power.f k x v).bind fun p => (impl_table.row k x t).bind fun r => some (p :: r)
def impl_table.tab (k : Nat) (x : Int) : List (List Int) → Option (List (List Int))
 | [] => some []
 | v :: t => (impl_table.row k x v).bind fun p => (impl_table.tab k x t).bind fun r => some (p :: r)
def impl_table.f (k : Nat) (a0 a1 : Int) : Option (List (List Int)) := (impl_exponents.f k a0).bind fun R => impl_table.tab k a1 R
theorem impl_table.row_mono (k : Nat) (x : Int) : ∀ l, LeO (impl_table.row k x l) (impl_table.row (k + 1) x l)
 | [] => LeO.refl _
 | v :: t => LeO.bind (impl_power.mono _ _ _) (fun _ => LeO.bind (impl_table.row_mono k x t) (fun _ => LeO.refl _))
theorem impl_table.tab_mono (k : Nat) (x : Int) : ∀ l, LeO (impl_table.tab k x l) (impl_table.tab (k + 1) x l)
 | [] => LeO.refl _
 | v :: t => LeO.bind (impl_table.row_mono k x v) (fun _ => LeO.bind (impl_table.tab_mono k x t) (fun _ => LeO.refl _))
theorem impl_table.mono : ∀ a0 a1 k, LeO (impl_table.f k a0 a1) (impl_table.f (k + 1) a0 a1) := fun a0 a1 k => LeO.bind (impl_exponents.mono _ _) (fun _ => impl_table.tab_mono k a1 _)
theorem impl_table.row_get (k : Nat) (x : Int) : ∀ (l T : List Int), impl_table.row k x l = some T → T.length = l.length ∧ ∀ i (h : i < l.length) (h2 : i < T.length), impl_power.f k x l[i] = some T[i]
 | [], T, h => by
  obtain rfl := Option.some.inj h
  exact ⟨rfl, fun i h => absurd h (Nat.not_lt_zero _)⟩
 | v :: t, T, h => by
  obtain ⟨p, hp, h⟩ := Option.bind_eq_some_iff.mp h
  obtain ⟨r, hr, h⟩ := Option.bind_eq_some_iff.mp h
  obtain rfl := Option.some.inj h
  have ih := impl_table.row_get k x t r hr
  refine ⟨by simp [ih.1], fun i h1 h2 => ?_⟩
  cases i with
  | zero => exact hp
  | succ i => exact ih.2 i (by simpa using h1) (by simpa using h2)
theorem impl_table.tab_get (k : Nat) (x : Int) : ∀ (l T : List (List Int)), impl_table.tab k x l = some T → T.length = l.length ∧ ∀ i (h : i < l.length) (h2 : i < T.length), impl_table.row k x l[i] = some T[i]
 | [], T, h => by
  obtain rfl := Option.some.inj h
  exact ⟨rfl, fun i h => absurd h (Nat.not_lt_zero _)⟩
 | v :: t, T, h => by
  obtain ⟨p, hp, h⟩ := Option.bind_eq_some_iff.mp h
  obtain ⟨r, hr, h⟩ := Option.bind_eq_some_iff.mp h
  obtain rfl := Option.some.inj h
  have ih := impl_table.tab_get k x t r hr
  refine ⟨by simp [ih.1], fun i h1 h2 => ?_⟩
  cases i with
  | zero => exact hp
  | succ i => exact ih.2 i (by simpa using h1) (by simpa using h2)
theorem impl_table.step {α : Type} (T R : List α) (i : Nat) (h : i < R.length) (hT : i < T.length) : (T.take i ++ R.drop i).set i T[i] = T.take (i + 1) ++ R.drop (i + 1) := by
 (have hl : (T.take i).length = i := by rw [List.length_take]; omega); rw [List.set_append_right _ _ (by omega), hl, Nat.sub_self, List.drop_eq_getElem_cons h, List.set_cons_zero, List.take_succ_eq_append_getElem hT, List.append_assoc]; rfl
theorem impl_table.at_ {α : Type} (T R : List α) (i : Nat) (h : i < R.length) (hT : T.length = R.length) (h2 : i < (T.take i ++ R.drop i).length) : (T.take i ++ R.drop i)[i] = R[i] := by
 (have hl : (T.take i).length = i := by rw [List.length_take]; omega); rw [List.getElem_append_right (by omega)]; simp [hl]
theorem impl_table.len_ {α : Type} (T R : List α) (i : Nat) (h : i ≤ R.length) (hT : T.length = R.length) : (T.take i ++ R.drop i).length = R.length := by
 rw [List.length_append, List.length_take, List.length_drop]; omega
theorem impl_table.calls (k : Nat) (a0 a1 : Int) (r : List (List Int)) (w : World) (h : impl_table.f k a0 a1 = some r) :
  Calls Try.prog 71 #[.int .i64 a0, .int .i64 a1] w fun e w' => ∃ v0_ : Value, e = .returned (v0_) ∧ Kd.S (Kd.slice 3 (Kd.int .i64)) 35 w' w.heap.size (fun _ => True) v0_ r ∧ Below w.heap.size w w' := by
 obtain ⟨R, hR, hT⟩ := Option.bind_eq_some_iff.mp h; obtain ⟨hlen, hget⟩ := impl_table.tab_get k a1 R r hT; have FR := Aside0.mk hR; have FG := Aside0.mk hget; have FL := Aside0.mk hlen; clear h hR hT hget hlen; go_enter Try.func71, Try.ntmps71; go_wp2_with (go_at_call 60; (with_reducible refine (impl_exponents.calls k a0 R _ FR.out).mono ?_); rintro e w2 ⟨v2, rfl, ho, hb⟩; obtain ⟨A, c, rfl⟩ := Kd.S_slice ho; have HO := Aside0.mk ho; have HB := Aside0.mk hb; clear ho hb)
 go_loopg [14] R.length (fun kq v14 w' => ∃ (i : Nat), v14 = .int .i64 i ∧ i ≤ R.length ∧ R.length - i ≤ kq ∧ Aside0 (Kd.S (Kd.slice 3 (Kd.int .i64)) 35 w' w.heap.size (fun _ => True) (.slice A R.length c) (r.take i ++ R.drop i)) ∧ Aside0 (Below w.heap.size w w'))
 case atStart => exact ⟨0, by go_num, Nat.zero_le _, by omega, ⟨by simpa using HO.out⟩, HB⟩
 case round =>
  clear HO HB; obtain ⟨i, rfl, hi, hg, HO, HB⟩ := hrel
  by_cases hlt : i < R.length
  ·(have hltz : (i : Int) < (R.length : Int) := by omega); have hll := impl_table.len_ r R i hi FL.out; have hrow := FG.out i hlt (by have := FL.out; omega); have HRL := Aside0.mk hrow; obtain ⟨g, v, oki, rfl, hcell, hRw, hoki, hback⟩ := RowsS.S_one i (by omega) HO.out; rw [impl_table.at_ r R i hlt FL.out (by omega)] at hRw; obtain ⟨Ai, ci, rfl⟩ := Kd.R_slice hRw; obtain ⟨hTl, hTg⟩ := impl_table.row_get k a1 _ _ HRL.out; generalize hrw : R[i] = row at hRw hTl hTg hcell hback HRL; (have hrl : i < r.length := by have := FL.out; omega); generalize htw : r[i] = T at hTl hTg HRL; have TW := Aside0.mk htw; clear htw hrw hrow; have TL := Aside0.mk hTl; have TG := Aside0.mk hTg; have RW := Aside0.mk hRw; have BK := Aside0.mk hback; have HK := Aside0.mk (Kept.refl wr oki); have HO2 := HO; clear hTl hTg hRw hback hll hoki HO HRL; go_wp2
   go_loopg [20] row.length (fun kq v20 w' => ∃ (j : Nat), v20 = .int .i64 j ∧ j ≤ row.length ∧ row.length - j ≤ kq ∧ Aside0 (Kd.R (Kd.int .i64) 3 w' w.heap.size oki (.slice Ai row.length ci) (T.take j ++ row.drop j)) ∧ Aside0 (Kept wr w' oki) ∧ Aside0 (Below w.heap.size w w'))
   case atStart => exact ⟨0, by go_num, Nat.zero_le _, by omega, ⟨by simpa using RW.out⟩, HK, HB⟩
   case round =>
    clear RW HK HB; obtain ⟨j, rfl, hj, hgj, RW, HK, HB⟩ := hrel
    by_cases hltj : j < row.length
    ·(have hltzj : (j : Int) < (row.length : Int) := by omega); have hlj := impl_table.len_ T row j hj TL.out; obtain ⟨go, co, eo, gb, gl, cl, HG⟩ := Kd.R_form RW.out (by omega); (injection eo with e1 e2 e3); subst e1 e3; (have p5 : (0 : Int) ≤ (j : Int) := by omega); (have q5 : (j : Int) < ((row.length : Nat) : Int) := by omega); obtain ⟨hx, hf⟩ := Kd.R_celln 0 RW.out (j : Int) p5 q5
     have hv : rdOf 0 (T.take j ++ row.drop j) (j : Int) = row[j] := by
      unfold rdOf; rw [Int.toNat_natCast, List.getD_eq_getElem?_getD, List.getElem?_eq_getElem (by omega)]; exact impl_table.at_ T row j hltj TL.out (by omega)
     have hp := TG.out j hltj (by have := TL.out; omega); have FP := Aside0.mk hp; have HN := Aside0.mk (impl_table.step T row j hltj (by have := TL.out; omega)); simp only [Int.toNat_natCast] at hx hf; rw [hv] at hx; generalize row[j] = vj at hx FP; clear hv; generalize T[j]'(by have := TL.out; omega) = tj at FP HN; clear hp hlj p5 e2; go_wp2_with (go_at_call 73; (with_reducible refine (impl_power.calls k a1 vj tj _ FP.out).mono ?_); rintro e w4 ⟨rfl, hd⟩; have hb := RowsS.drawn_below hd; clear hd; have RW4 := Aside0.mk (Kd.R_below RW.out hb); have hK4 := Aside0.mk (Kept.below HK.out hb); have hB4 := Aside0.mk (below_step HB.out hb); clear RW HK HB hb hx hf; have RW := RW4; have HK := hK4; have HB := hB4; clear RW4 hK4 hB4; obtain ⟨hx, hf⟩ := Kd.R_celln 0 RW.out (j : Int) (by omega) (by omega); simp only [Int.toNat_natCast] at hx hf)
     have hw1 : wrap64 ((j : Int) + 1) = ((j + 1 : Nat) : Int) := by
      have hm := (Kd.R_reads' RW.out).2.2.2.1; rw [impl_table.len_ T row j hj TL.out] at hm; unfold wrap64; omega
     have hP := Kd.R_putg RW.out (j : Int) tj; rw [Int.toNat_natCast, HN.out] at hP; (have hs1 : Value.int .i64 (wrap64 ((j : Int) + 1)) = Value.int .i64 ((j + 1 : Nat) : Int) := by rw [hw1]); have hj1 : j + 1 ≤ row.length := hltj; clear hw1
     go_roundg (row.length - (j + 1))
     case measure => exact Nat.lt_of_lt_of_le (Nat.sub_lt_sub_left hltj (Nat.lt_succ_self j)) hgj
     case rel => exact ⟨j + 1, hs1, hj1, Nat.le_refl _, ⟨hP.1⟩, ⟨Kept.of_grown hP.2 HK.out (fun q hq => .inl (RW.out.1 q hq))⟩, ⟨below_set HB.out gb⟩⟩
    (have hje : j = row.length := by omega); subst hje; have hltzj : ¬ ((row.length : Int) < (row.length : Int)) := by omega
    have hrow2 : T.take row.length ++ row.drop row.length = T := by
     rw [List.drop_length, List.append_nil]; exact List.take_of_length_le (Nat.le_of_eq TL.out)
    rw [hrow2] at RW; have HS := BK.out _ T oki RW.out HK.out
    have hw1 : wrap64 ((i : Int) + 1) = ((i + 1 : Nat) : Int) := by
     have hm := (Kd.S_reads' HO2.out).2.2.2.1; rw [impl_table.len_ r R i hi FL.out] at hm; unfold wrap64; omega
    have HN := impl_table.step r R i hlt (by have := FL.out; omega); rw [TW.out] at HN; rw [HN] at HS; have HS2 := Aside0.mk HS; clear HS HN hrow2 RW; go_wp2; have hi1 : i + 1 ≤ R.length := hlt; clear hw1
    go_roundg (R.length - (i + 1))
    case measure => exact Nat.lt_of_lt_of_le (Nat.sub_lt_sub_left hlt (Nat.lt_succ_self i)) hg
    case rel => exact ⟨i + 1, by go_num, hi1, Nat.le_refl _, HS2, HB⟩
  (have hie : i = R.length := by omega); subst hie; have hltz : ¬ ((R.length : Int) < (R.length : Int)) := by omega
  have hr2 : r.take R.length ++ R.drop R.length = r := by
   rw [List.drop_length, List.append_nil]; exact List.take_of_length_le (Nat.le_of_eq FL.out)
  rw [hr2] at HO; clear hr2; go_wp2; go_ret; exact ⟨.slice A R.length c, rfl, HO.out, HB.out⟩
/-! ### impl_TableAt: function 28 -/
def impl_TableAt.f (k : Nat) (a0 : Int) (a1 : Int) : Option ((List (List Int)) × Bool) := (impl_isTable.f a0 a1).bind fun t565 => (if t565 = true then ((impl_table.f k a0 a1).bind fun t566 => (some (t566, true))) else (some (([] : List (List Int)), false)))
theorem impl_TableAt.mono : ∀ a0 a1 k, LeO (impl_TableAt.f k a0 a1) (impl_TableAt.f (k + 1) a0 a1) := by
 intro a0 a1 k; unfold impl_TableAt.f
 repeat' first
   | (with_reducible exact impl_table.mono _ _ _)
   | (with_reducible exact LeO.refl _)
   | (with_reducible exact LeO.none _)
   | (with_reducible refine LeO.ite ?_ ?_)
   | (with_reducible refine LeO.bind ?_ (fun _ => ?_))
   | exact impl_table.mono _ _ _
   | exact LeO.none _
   | refine LeO.ite ?_ ?_
   | refine LeO.bind ?_ (fun _ => ?_)
theorem impl_TableAt.calls (k : Nat) (a0 : Int) (a1 : Int) (r1 : List (List Int)) (r2 : Bool) (w : World) (h : impl_TableAt.f k a0 a1 = some (r1, r2)) :
  Calls Try.prog 28 #[.int .i64 a0, .int .i64 a1] w fun e w' => ∃ v0_ : Value, e = .returned (.tuple #[v0_, .bool r2]) ∧ Kd.S (Kd.slice 3 (Kd.int .i64)) 35 w' w.heap.size (fun _ => True) v0_ r1 ∧ Below w.heap.size w w' := by
 have HB := Aside0.mk (Below.refl w.heap.size w); have H : ((impl_isTable.f a0 a1).bind fun t565 => (if t565 = true then ((impl_table.f k a0 a1).bind fun t566 => (some (t566, true))) else (some (([] : List (List Int)), false)))) = some (r1, r2) := h; clear h; obtain ⟨t565, A3, H⟩ := bi H; (try dsimp only at H)
 by_cases c4 : t565 = true
 ·subst c4; rw [if_pos rfl] at H; obtain ⟨t566, A5, H⟩ := bi H; (try dsimp only at H); simp only [Option.some.injEq, Prod.mk.injEq] at H; obtain ⟨rfl, rfl⟩ := H; go_enter Try.func28, Try.ntmps28; go_wp2_with (first | (go_at_call 70; (with_reducible refine (impl_isTable.calls a0 a1 true _ A3.out).mono ?_); rintro e w' ⟨rfl, ⟨nd, rfl⟩⟩) | (go_at_call 71; (with_reducible refine (impl_table.calls k a0 a1 t566 _ A5.out).mono ?_); rintro e w6 ⟨v567, rfl, ho0, hb⟩; have HO568 := Aside0.mk (Kd.S_lower ho0 (below_size (bl HB.out))); replace HB := bst HB hb)); go_ret2; exact ⟨_, sr, rS HO568.out, bl HB.out⟩
 replace c4 := Bool.eq_false_iff.mpr c4; subst c4; rw [if_neg (show ¬ (false = true) by decide)] at H; simp only [Option.some.injEq, Prod.mk.injEq] at H; obtain ⟨rfl, rfl⟩ := H; go_enter Try.func28, Try.ntmps28; go_wp2_with (first | (go_at_call 70; (with_reducible refine (impl_isTable.calls a0 a1 false _ A3.out).mono ?_); rintro e w' ⟨rfl, ⟨nd, rfl⟩⟩)); go_ret2; exact ⟨_, sr, by first | exact Kd.S_nil _ _ _ _ _ | exact Kd.N_nil _ _ _ _ _ | exact Kd.V_nil _ _ _ _ _ | exact Kd.Q_nil _ _ _ _ _ | exact Kd.R_nil _ _ _ _ _, bl HB.out⟩
/-! ### spec_TableAt: function 29 -/
def spec_TableAt.f (k : Nat) (a0 : Int) (a1 : Int) : Option ((List (List Int)) × Bool) := (spec_taAsked.f a0 a1).bind fun t569 => (if t569 = true then ((spec_taTable.f k a0 a1).bind fun t570 => (some (t570, true))) else (some (([] : List (List Int)), false)))
theorem spec_TableAt.mono : ∀ a0 a1 k, LeO (spec_TableAt.f k a0 a1) (spec_TableAt.f (k + 1) a0 a1) := by
 intro a0 a1 k; unfold spec_TableAt.f
 repeat' first
   | (with_reducible exact spec_taTable.mono _ _ _)
   | (with_reducible exact LeO.refl _)
   | (with_reducible exact LeO.none _)
   | (with_reducible refine LeO.ite ?_ ?_)
   | (with_reducible refine LeO.bind ?_ (fun _ => ?_))
   | exact spec_taTable.mono _ _ _
   | exact LeO.none _
   | refine LeO.ite ?_ ?_
   | refine LeO.bind ?_ (fun _ => ?_)
theorem spec_TableAt.calls (k : Nat) (a0 : Int) (a1 : Int) (r1 : List (List Int)) (r2 : Bool) (w : World) (h : spec_TableAt.f k a0 a1 = some (r1, r2)) :
  Calls Try.prog 29 #[.int .i64 a0, .int .i64 a1] w fun e w' => ∃ v0_ : Value, e = .returned (.tuple #[v0_, .bool r2]) ∧ Kd.S (Kd.slice 3 (Kd.int .i64)) 35 w' w.heap.size (fun _ => True) v0_ r1 ∧ Below w.heap.size w w' := by
 have HB := Aside0.mk (Below.refl w.heap.size w); have H : ((spec_taAsked.f a0 a1).bind fun t569 => (if t569 = true then ((spec_taTable.f k a0 a1).bind fun t570 => (some (t570, true))) else (some (([] : List (List Int)), false)))) = some (r1, r2) := h; clear h; obtain ⟨t569, A3, H⟩ := bi H; (try dsimp only at H)
 by_cases c4 : t569 = true
 ·subst c4; rw [if_pos rfl] at H; obtain ⟨t570, A5, H⟩ := bi H; (try dsimp only at H); simp only [Option.some.injEq, Prod.mk.injEq] at H; obtain ⟨rfl, rfl⟩ := H; go_enter Try.func29, Try.ntmps29; go_wp2_with (first | (go_at_call 61; (with_reducible refine (spec_taAsked.calls a0 a1 true _ A3.out).mono ?_); rintro e w' ⟨rfl, ⟨nd, rfl⟩⟩) | (go_at_call 72; (with_reducible refine (spec_taTable.calls k a0 a1 t570 _ A5.out).mono ?_); rintro e w6 ⟨v571, rfl, ho0, hb⟩; have HO572 := Aside0.mk (Kd.S_lower ho0 (below_size (bl HB.out))); replace HB := bst HB hb)); go_ret2; exact ⟨_, sr, rS HO572.out, bl HB.out⟩
 replace c4 := Bool.eq_false_iff.mpr c4; subst c4; rw [if_neg (show ¬ (false = true) by decide)] at H; simp only [Option.some.injEq, Prod.mk.injEq] at H; obtain ⟨rfl, rfl⟩ := H; go_enter Try.func29, Try.ntmps29; go_wp2_with (first | (go_at_call 61; (with_reducible refine (spec_taAsked.calls a0 a1 false _ A3.out).mono ?_); rintro e w' ⟨rfl, ⟨nd, rfl⟩⟩)); go_ret2; exact ⟨_, sr, by first | exact Kd.S_nil _ _ _ _ _ | exact Kd.N_nil _ _ _ _ _ | exact Kd.V_nil _ _ _ _ _ | exact Kd.Q_nil _ _ _ _ _ | exact Kd.R_nil _ _ _ _ _, bl HB.out⟩
/-! ### impl_SumOfTable: function 30 -/
mutual
def impl_SumOfTable.l0 : Nat → Int → List (List Int) → Int → Int → Option (Int × Bool)
 | 0, _, _, _, _ => none
 | k + 1, x6, x17, x18, x19 => if x19 < x18 then (if 0 ≤ x19 then (if x19 < (x17.length : Int) then (impl_SumOfTable.l1 k x6 x17 x18 x19 (rd_L1 x17 x19) ((rd_L1 x17 x19).length : Int) 0) else (none)) else (none)) else (some (x6, true))
def impl_SumOfTable.l1 : Nat → Int → List (List Int) → Int → Int → List Int → Int → Int → Option (Int × Bool)
 | 0, _, _, _, _, _, _, _ => none
 | k + 1, x6, x17, x18, x19, x23, x24, x25 => if x25 < x24 then (if 0 ≤ x25 then (if x25 < (x23.length : Int) then (impl_SumOfTable.l1 k (wrap64 (x6 + (rd x23 x25))) x17 x18 x19 x23 x24 (wrap64 (x25 + 1))) else (none)) else (none)) else (impl_SumOfTable.l0 k x6 x17 x18 (wrap64 (x19 + 1)))
end
def impl_SumOfTable.f (k : Nat) (a0 : Int) (a1 : Int) : Option (Int × Bool) := (impl_isTable.f a0 a1).bind fun t573 => (if t573 = true then ((impl_table.f k a0 a1).bind fun t574 => (impl_SumOfTable.l0 k 0 t574 (t574.length : Int) 0)) else (some (0, false)))
theorem impl_SumOfTable.mono_l : ∀ k, (∀ y0 y1 y2 y3, LeO (impl_SumOfTable.l0 k y0 y1 y2 y3) (impl_SumOfTable.l0 (k + 1) y0 y1 y2 y3)) ∧ (∀ y0 y1 y2 y3 y4 y5 y6, LeO (impl_SumOfTable.l1 k y0 y1 y2 y3 y4 y5 y6) (impl_SumOfTable.l1 (k + 1) y0 y1 y2 y3 y4 y5 y6))
 | 0 => ⟨fun _ _ _ _ r h => by simp [impl_SumOfTable.l0] at h, fun _ _ _ _ _ _ _ r h => by simp [impl_SumOfTable.l1] at h⟩
 | k + 1 => by
  obtain ⟨ih0, ih1⟩ := impl_SumOfTable.mono_l k
  refine ⟨?_, ?_⟩
  ·intro y0 y1 y2 y3
   unfold impl_SumOfTable.l0
   repeat' first
   | (with_reducible exact ih0 _ _ _ _)
   | (with_reducible exact ih1 _ _ _ _ _ _ _)
   | (with_reducible exact impl_table.mono _ _ _)
   | (with_reducible exact LeO.refl _)
   | (with_reducible exact LeO.none _)
   | (with_reducible refine LeO.ite ?_ ?_)
   | (with_reducible refine LeO.bind ?_ (fun _ => ?_))
   | exact ih0 _ _ _ _
   | exact ih1 _ _ _ _ _ _ _
   | exact impl_table.mono _ _ _
   | exact LeO.none _
   | refine LeO.ite ?_ ?_
   | refine LeO.bind ?_ (fun _ => ?_)
  ·intro y0 y1 y2 y3 y4 y5 y6
   unfold impl_SumOfTable.l1
   repeat' first
   | (with_reducible exact ih0 _ _ _ _)
   | (with_reducible exact ih1 _ _ _ _ _ _ _)
   | (with_reducible exact impl_table.mono _ _ _)
   | (with_reducible exact LeO.refl _)
   | (with_reducible exact LeO.none _)
   | (with_reducible refine LeO.ite ?_ ?_)
   | (with_reducible refine LeO.bind ?_ (fun _ => ?_))
   | exact ih0 _ _ _ _
   | exact ih1 _ _ _ _ _ _ _
   | exact impl_table.mono _ _ _
   | exact LeO.none _
   | refine LeO.ite ?_ ?_
   | refine LeO.bind ?_ (fun _ => ?_)
theorem impl_SumOfTable.mono : ∀ a0 a1 k, LeO (impl_SumOfTable.f k a0 a1) (impl_SumOfTable.f (k + 1) a0 a1) := by
 intro a0 a1 k; obtain ⟨ih0, ih1⟩ := impl_SumOfTable.mono_l k; unfold impl_SumOfTable.f
 repeat' first
   | (with_reducible exact ih0 _ _ _ _)
   | (with_reducible exact ih1 _ _ _ _ _ _ _)
   | (with_reducible exact impl_table.mono _ _ _)
   | (with_reducible exact LeO.refl _)
   | (with_reducible exact LeO.none _)
   | (with_reducible refine LeO.ite ?_ ?_)
   | (with_reducible refine LeO.bind ?_ (fun _ => ?_))
   | exact ih0 _ _ _ _
   | exact ih1 _ _ _ _ _ _ _
   | exact impl_table.mono _ _ _
   | exact LeO.none _
   | refine LeO.ite ?_ ?_
   | refine LeO.bind ?_ (fun _ => ?_)
theorem impl_SumOfTable.calls (k : Nat) (a0 : Int) (a1 : Int) (r1 : Int) (r2 : Bool) (w : World) (h : impl_SumOfTable.f k a0 a1 = some (r1, r2)) :
  Calls Try.prog 30 #[.int .i64 a0, .int .i64 a1] w fun e w' => e = .returned (.tuple #[.int .i64 r1, .bool r2]) ∧ Below w.heap.size w w' := by
 have HB := Aside0.mk (Below.refl w.heap.size w); have H : ((impl_isTable.f a0 a1).bind fun t573 => (if t573 = true then ((impl_table.f k a0 a1).bind fun t574 => (impl_SumOfTable.l0 k 0 t574 (t574.length : Int) 0)) else (some (0, false)))) = some (r1, r2) := h; clear h; obtain ⟨t573, A3, H⟩ := bi H; (try dsimp only at H)
 by_cases c4 : t573 = true
 ·subst c4; rw [if_pos rfl] at H; obtain ⟨t574, A5, H⟩ := bi H; (try dsimp only at H); have H' := Aside0.mk H; clear H; go_enter Try.func30, Try.ntmps30; go_wp2_with (first | (go_at_call 70; (with_reducible refine (impl_isTable.calls a0 a1 true _ A3.out).mono ?_); rintro e w' ⟨rfl, ⟨nd, rfl⟩⟩) | (go_at_call 71; (with_reducible refine (impl_table.calls k a0 a1 t574 _ A5.out).mono ?_); rintro e w6 ⟨v575, rfl, ho0, hb⟩; have HO576 := Aside0.mk (Kd.S_lower ho0 (below_size (bl HB.out))); replace HB := bst HB hb; obtain ⟨Ao7, co7, eo7⟩ := Kd.S_slice HO576.out; subst eo7))
  go_loopg [6, 19] k (fun kq v6 v19 w' => ∃ (x6_1 : Int) (x19_1 : Int), v6 = .int .i64 x6_1 ∧ v19 = .int .i64 x19_1 ∧ Aside0 (impl_SumOfTable.l0 kq x6_1 t574 (t574.length : Int) x19_1 = some (r1, r2)) ∧ Aside0 (kq ≤ k) ∧ Aside0 (Kd.S (Kd.slice 3 (Kd.int .i64)) 35 w' w.heap.size (fun _ => True) (.slice Ao7 t574.length co7) t574) ∧ Aside0 (Below w.heap.size w w'))
  case atStart => exact ⟨(0), (0), (sr2), (sr2), H', ⟨Nat.le_refl _⟩, ⟨rS HO576.out⟩, ⟨bl HB.out⟩⟩
  case round =>
   clear H'; obtain ⟨x6_1, x19_1, rfl, rfl, HA, HK1, HO_17, HB⟩ := hrel
   cases gk with
   | zero => exact absurd HA.out (by simp [impl_SumOfTable.l0])
   | succ k1 =>
    have H := HA.out; clear HA; simp only [impl_SumOfTable.l0] at H
    by_cases c8 : x19_1 < (t574.length : Int)
    ·rw [if_pos c8] at H; have c8b0 := decide_eq_true c8; clear c8
     by_cases c9 : 0 ≤ x19_1
     ·rw [if_pos c9] at H; have c9b0 := decide_eq_true c9; clear c9
      by_cases c10 : x19_1 < (t574.length : Int)
      ·rw [if_pos c10] at H; have c10b0 := decide_eq_true c10; clear c10; have H' := Aside0.mk H; clear H; have p577 : 0 ≤ (x19_1 : Int) := od; have q577 : x19_1 < (t574.length : Int) := od; obtain ⟨ad577, A577_0, c577_0, e577, hx577_0, hl577_0, hi577_0⟩ := at_L1 (Kd.S_reads' HO_17.out).2.2 x19_1 p577 q577; cases e577; obtain ⟨ce577, hce577, hMe577, hcc577⟩ := Kd.S_get HO_17.out [] x19_1 p577 (by first | exact q577 | exact od | (have e_ := (Kd.S_reads' HO_17.out).1; omega)); obtain ⟨ve577_0, rfl, ge577_0⟩ := hMe577; have hv577_0 := hcc577 0 _ rfl; rw [Nat.add_zero, show ((Kd.slice 3 (Kd.int .i64))).sz = 1 from rfl, Nat.mul_one] at hv577_0; replace hv577_0 := Option.some.inj (hv577_0.symm.trans hx577_0); rw [hv577_0] at ge577_0; have HL577_0 := Aside0.mk (show Kd.R (Kd.int .i64) 3 _ _ _ _ (rd_L1 t574 x19_1) from ge577_0); clear hv577_0 ge577_0; clear hcc577 hce577; have HR577_0 := Aside0.mk hi577_0; have HC577_0 := Aside0.mk hl577_0; clear hi577_0 hl577_0; replace p577 := eq_true p577; replace q577 := eq_true q577; go_wp2
       go_loopg [6, 25] k1 (fun kq v6 v25 w' => ∃ (x6_2 : Int) (x25_2 : Int), v6 = .int .i64 x6_2 ∧ v25 = .int .i64 x25_2 ∧ Aside0 (impl_SumOfTable.l1 kq x6_2 t574 (t574.length : Int) x19_1 (rd_L1 t574 x19_1) ((rd_L1 t574 x19_1).length : Int) x25_2 = some (r1, r2)) ∧ Aside0 (kq ≤ k1) ∧ Aside0 (Kd.S (Kd.slice 3 (Kd.int .i64)) 35 w' w.heap.size (fun _ => True) (.slice (some ad577) t574.length co7) t574) ∧ Aside0 (Kd.R (Kd.int .i64) 3 w' w.heap.size (fun _ => True) (.slice A577_0 (rd_L1 t574 x19_1).length c577_0) (rd_L1 t574 x19_1)) ∧ Aside0 (Kd.C (Kd.int .i64) w' A577_0 (rd_L1 t574 x19_1).length (rd_L1 t574 x19_1)) ∧ Aside0 (Below w.heap.size w w'))
       case atStart => exact ⟨(x6_1), (0), (sr2), (sr2), H', ⟨Nat.le_refl _⟩, ⟨rS HO_17.out⟩, ⟨rR (Kd.R_mono HL577_0.out (fun _ hk => trivial))⟩, ⟨by repeat (first | (with_reducible exact HR577_0.out) | (with_reducible refine Kd.C_alloc ?_ _) | (with_reducible refine Kd.C_drewN ?_ _) | (with_reducible refine Kd.C_drew ?_) | exact HR577_0.out)⟩, ⟨bl HB.out⟩⟩
       case round =>
        clear H'; obtain ⟨x6_2, x25_2, rfl, rfl, HA, HK2, HO_17, HO_23, HR577_0, HB⟩ := hrel
        cases gk with
        | zero => exact absurd HA.out (by simp [impl_SumOfTable.l1])
        | succ k2 =>
         have H := HA.out; clear HA; simp only [impl_SumOfTable.l1] at H
         by_cases c11 : x25_2 < ((rd_L1 t574 x19_1).length : Int)
         ·rw [if_pos c11] at H; have c11b0 := decide_eq_true c11; clear c11
          by_cases c12 : 0 ≤ x25_2
          ·rw [if_pos c12] at H; have c12b0 := decide_eq_true c12; clear c12
           by_cases c13 : x25_2 < ((rd_L1 t574 x19_1).length : Int)
           ·rw [if_pos c13] at H; have c13b0 := decide_eq_true c13; clear c13; have H' := Aside0.mk H; clear H; obtain ⟨ad578, e578, hx578_0, p578, q578⟩ := atI (Kd.R_reads' HO_23.out).2.2 x25_2; cases e578; go_wp2
            go_roundg k2
            case measure => have := HK1.out; have := HK2.out; omega
            case rel => exact ⟨(wrap64 (x6_2 + (rd (rd_L1 t574 x19_1) x25_2))), (wrap64 (x25_2 + 1)), (sr2), (sr2), H', ⟨by have := HK1.out; have := HK2.out; omega⟩, ⟨rS HO_17.out⟩, ⟨rR HO_23.out⟩, ⟨by repeat (first | (with_reducible exact HR577_0.out) | (with_reducible refine Kd.C_alloc ?_ _) | (with_reducible refine Kd.C_drewN ?_ _) | (with_reducible refine Kd.C_drew ?_) | exact HR577_0.out)⟩, ⟨bl HB.out⟩⟩
           rw [if_neg c13] at H; exact absurd H (by simp)
          rw [if_neg c12] at H; exact absurd H (by simp)
         rw [if_neg c11] at H; have c11b0 := decide_eq_false c11; clear c11; have H' := Aside0.mk H; clear H; go_wp2
         go_roundg k2
         case measure => have := HK1.out; have := HK2.out; omega
         case rel => exact ⟨(x6_2), (wrap64 (x19_1 + 1)), (sr2), (sr2), H', ⟨by have := HK1.out; have := HK2.out; omega⟩, ⟨rS HO_17.out⟩, ⟨bl HB.out⟩⟩
      rw [if_neg c10] at H; exact absurd H (by simp)
     rw [if_neg c9] at H; exact absurd H (by simp)
    rw [if_neg c8] at H; have c8b0 := decide_eq_false c8; clear c8; simp only [Option.some.injEq, Prod.mk.injEq] at H; obtain ⟨rfl, rfl⟩ := H; go_wp2; go_ret2; exact ⟨sr, bl HB.out⟩
 replace c4 := Bool.eq_false_iff.mpr c4; subst c4; rw [if_neg (show ¬ (false = true) by decide)] at H; simp only [Option.some.injEq, Prod.mk.injEq] at H; obtain ⟨rfl, rfl⟩ := H; go_enter Try.func30, Try.ntmps30; go_wp2_with (first | (go_at_call 70; (with_reducible refine (impl_isTable.calls a0 a1 false _ A3.out).mono ?_); rintro e w' ⟨rfl, ⟨nd, rfl⟩⟩)); go_ret2; exact ⟨sr, bl HB.out⟩
/-! ### spec_SumOfTable: function 31 -/
mutual
def spec_SumOfTable.l0 : Nat → Int → List (List Int) → Int → Int → Option (Int × Bool)
 | 0, _, _, _, _ => none
 | k + 1, x6, x17, x18, x19 => if x19 < x18 then (if 0 ≤ x19 then (if x19 < (x17.length : Int) then (spec_SumOfTable.l1 k x6 x17 x18 x19 (rd_L1 x17 x19) ((rd_L1 x17 x19).length : Int) 0) else (none)) else (none)) else (some (x6, true))
def spec_SumOfTable.l1 : Nat → Int → List (List Int) → Int → Int → List Int → Int → Int → Option (Int × Bool)
 | 0, _, _, _, _, _, _, _ => none
 | k + 1, x6, x17, x18, x19, x23, x24, x25 => if x25 < x24 then (if 0 ≤ x25 then (if x25 < (x23.length : Int) then (spec_SumOfTable.l1 k (wrap64 (x6 + (rd x23 x25))) x17 x18 x19 x23 x24 (wrap64 (x25 + 1))) else (none)) else (none)) else (spec_SumOfTable.l0 k x6 x17 x18 (wrap64 (x19 + 1)))
end
def spec_SumOfTable.f (k : Nat) (a0 : Int) (a1 : Int) : Option (Int × Bool) := (spec_taAsked.f a0 a1).bind fun t579 => (if t579 = true then ((spec_taTable.f k a0 a1).bind fun t580 => (spec_SumOfTable.l0 k 0 t580 (t580.length : Int) 0)) else (some (0, false)))
theorem spec_SumOfTable.mono_l : ∀ k, (∀ y0 y1 y2 y3, LeO (spec_SumOfTable.l0 k y0 y1 y2 y3) (spec_SumOfTable.l0 (k + 1) y0 y1 y2 y3)) ∧ (∀ y0 y1 y2 y3 y4 y5 y6, LeO (spec_SumOfTable.l1 k y0 y1 y2 y3 y4 y5 y6) (spec_SumOfTable.l1 (k + 1) y0 y1 y2 y3 y4 y5 y6))
 | 0 => ⟨fun _ _ _ _ r h => by simp [spec_SumOfTable.l0] at h, fun _ _ _ _ _ _ _ r h => by simp [spec_SumOfTable.l1] at h⟩
 | k + 1 => by
  obtain ⟨ih0, ih1⟩ := spec_SumOfTable.mono_l k
  refine ⟨?_, ?_⟩
  ·intro y0 y1 y2 y3
   unfold spec_SumOfTable.l0
   repeat' first
   | (with_reducible exact ih0 _ _ _ _)
   | (with_reducible exact ih1 _ _ _ _ _ _ _)
   | (with_reducible exact spec_taTable.mono _ _ _)
   | (with_reducible exact LeO.refl _)
   | (with_reducible exact LeO.none _)
   | (with_reducible refine LeO.ite ?_ ?_)
   | (with_reducible refine LeO.bind ?_ (fun _ => ?_))
   | exact ih0 _ _ _ _
   | exact ih1 _ _ _ _ _ _ _
   | exact spec_taTable.mono _ _ _
   | exact LeO.none _
   | refine LeO.ite ?_ ?_
   | refine LeO.bind ?_ (fun _ => ?_)
  ·intro y0 y1 y2 y3 y4 y5 y6
   unfold spec_SumOfTable.l1
   repeat' first
   | (with_reducible exact ih0 _ _ _ _)
   | (with_reducible exact ih1 _ _ _ _ _ _ _)
   | (with_reducible exact spec_taTable.mono _ _ _)
   | (with_reducible exact LeO.refl _)
   | (with_reducible exact LeO.none _)
   | (with_reducible refine LeO.ite ?_ ?_)
   | (with_reducible refine LeO.bind ?_ (fun _ => ?_))
   | exact ih0 _ _ _ _
   | exact ih1 _ _ _ _ _ _ _
   | exact spec_taTable.mono _ _ _
   | exact LeO.none _
   | refine LeO.ite ?_ ?_
   | refine LeO.bind ?_ (fun _ => ?_)
theorem spec_SumOfTable.mono : ∀ a0 a1 k, LeO (spec_SumOfTable.f k a0 a1) (spec_SumOfTable.f (k + 1) a0 a1) := by
 intro a0 a1 k; obtain ⟨ih0, ih1⟩ := spec_SumOfTable.mono_l k; unfold spec_SumOfTable.f
 repeat' first
   | (with_reducible exact ih0 _ _ _ _)
   | (with_reducible exact ih1 _ _ _ _ _ _ _)
   | (with_reducible exact spec_taTable.mono _ _ _)
   | (with_reducible exact LeO.refl _)
   | (with_reducible exact LeO.none _)
   | (with_reducible refine LeO.ite ?_ ?_)
   | (with_reducible refine LeO.bind ?_ (fun _ => ?_))
   | exact ih0 _ _ _ _
   | exact ih1 _ _ _ _ _ _ _
   | exact spec_taTable.mono _ _ _
   | exact LeO.none _
   | refine LeO.ite ?_ ?_
   | refine LeO.bind ?_ (fun _ => ?_)
theorem spec_SumOfTable.calls (k : Nat) (a0 : Int) (a1 : Int) (r1 : Int) (r2 : Bool) (w : World) (h : spec_SumOfTable.f k a0 a1 = some (r1, r2)) :
  Calls Try.prog 31 #[.int .i64 a0, .int .i64 a1] w fun e w' => e = .returned (.tuple #[.int .i64 r1, .bool r2]) ∧ Below w.heap.size w w' := by
 have HB := Aside0.mk (Below.refl w.heap.size w); have H : ((spec_taAsked.f a0 a1).bind fun t579 => (if t579 = true then ((spec_taTable.f k a0 a1).bind fun t580 => (spec_SumOfTable.l0 k 0 t580 (t580.length : Int) 0)) else (some (0, false)))) = some (r1, r2) := h; clear h; obtain ⟨t579, A3, H⟩ := bi H; (try dsimp only at H)
 by_cases c4 : t579 = true
 ·subst c4; rw [if_pos rfl] at H; obtain ⟨t580, A5, H⟩ := bi H; (try dsimp only at H); have H' := Aside0.mk H; clear H; go_enter Try.func31, Try.ntmps31; go_wp2_with (first | (go_at_call 61; (with_reducible refine (spec_taAsked.calls a0 a1 true _ A3.out).mono ?_); rintro e w' ⟨rfl, ⟨nd, rfl⟩⟩) | (go_at_call 72; (with_reducible refine (spec_taTable.calls k a0 a1 t580 _ A5.out).mono ?_); rintro e w6 ⟨v581, rfl, ho0, hb⟩; have HO582 := Aside0.mk (Kd.S_lower ho0 (below_size (bl HB.out))); replace HB := bst HB hb; obtain ⟨Ao7, co7, eo7⟩ := Kd.S_slice HO582.out; subst eo7))
  go_loopg [6, 19] k (fun kq v6 v19 w' => ∃ (x6_1 : Int) (x19_1 : Int), v6 = .int .i64 x6_1 ∧ v19 = .int .i64 x19_1 ∧ Aside0 (spec_SumOfTable.l0 kq x6_1 t580 (t580.length : Int) x19_1 = some (r1, r2)) ∧ Aside0 (kq ≤ k) ∧ Aside0 (Kd.S (Kd.slice 3 (Kd.int .i64)) 35 w' w.heap.size (fun _ => True) (.slice Ao7 t580.length co7) t580) ∧ Aside0 (Below w.heap.size w w'))
  case atStart => exact ⟨(0), (0), (sr2), (sr2), H', ⟨Nat.le_refl _⟩, ⟨rS HO582.out⟩, ⟨bl HB.out⟩⟩
  case round =>
   clear H'; obtain ⟨x6_1, x19_1, rfl, rfl, HA, HK1, HO_17, HB⟩ := hrel
   cases gk with
   | zero => exact absurd HA.out (by simp [spec_SumOfTable.l0])
   | succ k1 =>
    have H := HA.out; clear HA; simp only [spec_SumOfTable.l0] at H
    by_cases c8 : x19_1 < (t580.length : Int)
    ·rw [if_pos c8] at H; have c8b0 := decide_eq_true c8; clear c8
     by_cases c9 : 0 ≤ x19_1
     ·rw [if_pos c9] at H; have c9b0 := decide_eq_true c9; clear c9
      by_cases c10 : x19_1 < (t580.length : Int)
      ·rw [if_pos c10] at H; have c10b0 := decide_eq_true c10; clear c10; have H' := Aside0.mk H; clear H; have p583 : 0 ≤ (x19_1 : Int) := od; have q583 : x19_1 < (t580.length : Int) := od; obtain ⟨ad583, A583_0, c583_0, e583, hx583_0, hl583_0, hi583_0⟩ := at_L1 (Kd.S_reads' HO_17.out).2.2 x19_1 p583 q583; cases e583; obtain ⟨ce583, hce583, hMe583, hcc583⟩ := Kd.S_get HO_17.out [] x19_1 p583 (by first | exact q583 | exact od | (have e_ := (Kd.S_reads' HO_17.out).1; omega)); obtain ⟨ve583_0, rfl, ge583_0⟩ := hMe583; have hv583_0 := hcc583 0 _ rfl; rw [Nat.add_zero, show ((Kd.slice 3 (Kd.int .i64))).sz = 1 from rfl, Nat.mul_one] at hv583_0; replace hv583_0 := Option.some.inj (hv583_0.symm.trans hx583_0); rw [hv583_0] at ge583_0; have HL583_0 := Aside0.mk (show Kd.R (Kd.int .i64) 3 _ _ _ _ (rd_L1 t580 x19_1) from ge583_0); clear hv583_0 ge583_0; clear hcc583 hce583; have HR583_0 := Aside0.mk hi583_0; have HC583_0 := Aside0.mk hl583_0; clear hi583_0 hl583_0; replace p583 := eq_true p583; replace q583 := eq_true q583; go_wp2
       go_loopg [6, 25] k1 (fun kq v6 v25 w' => ∃ (x6_2 : Int) (x25_2 : Int), v6 = .int .i64 x6_2 ∧ v25 = .int .i64 x25_2 ∧ Aside0 (spec_SumOfTable.l1 kq x6_2 t580 (t580.length : Int) x19_1 (rd_L1 t580 x19_1) ((rd_L1 t580 x19_1).length : Int) x25_2 = some (r1, r2)) ∧ Aside0 (kq ≤ k1) ∧ Aside0 (Kd.S (Kd.slice 3 (Kd.int .i64)) 35 w' w.heap.size (fun _ => True) (.slice (some ad583) t580.length co7) t580) ∧ Aside0 (Kd.R (Kd.int .i64) 3 w' w.heap.size (fun _ => True) (.slice A583_0 (rd_L1 t580 x19_1).length c583_0) (rd_L1 t580 x19_1)) ∧ Aside0 (Kd.C (Kd.int .i64) w' A583_0 (rd_L1 t580 x19_1).length (rd_L1 t580 x19_1)) ∧ Aside0 (Below w.heap.size w w'))
       case atStart => exact ⟨(x6_1), (0), (sr2), (sr2), H', ⟨Nat.le_refl _⟩, ⟨rS HO_17.out⟩, ⟨rR (Kd.R_mono HL583_0.out (fun _ hk => trivial))⟩, ⟨by repeat (first | (with_reducible exact HR583_0.out) | (with_reducible refine Kd.C_alloc ?_ _) | (with_reducible refine Kd.C_drewN ?_ _) | (with_reducible refine Kd.C_drew ?_) | exact HR583_0.out)⟩, ⟨bl HB.out⟩⟩
       case round =>
        clear H'; obtain ⟨x6_2, x25_2, rfl, rfl, HA, HK2, HO_17, HO_23, HR583_0, HB⟩ := hrel
        cases gk with
        | zero => exact absurd HA.out (by simp [spec_SumOfTable.l1])
        | succ k2 =>
         have H := HA.out; clear HA; simp only [spec_SumOfTable.l1] at H
         by_cases c11 : x25_2 < ((rd_L1 t580 x19_1).length : Int)
         ·rw [if_pos c11] at H; have c11b0 := decide_eq_true c11; clear c11
          by_cases c12 : 0 ≤ x25_2
          ·rw [if_pos c12] at H; have c12b0 := decide_eq_true c12; clear c12
           by_cases c13 : x25_2 < ((rd_L1 t580 x19_1).length : Int)
           ·rw [if_pos c13] at H; have c13b0 := decide_eq_true c13; clear c13; have H' := Aside0.mk H; clear H; obtain ⟨ad584, e584, hx584_0, p584, q584⟩ := atI (Kd.R_reads' HO_23.out).2.2 x25_2; cases e584; go_wp2
            go_roundg k2
            case measure => have := HK1.out; have := HK2.out; omega
            case rel => exact ⟨(wrap64 (x6_2 + (rd (rd_L1 t580 x19_1) x25_2))), (wrap64 (x25_2 + 1)), (sr2), (sr2), H', ⟨by have := HK1.out; have := HK2.out; omega⟩, ⟨rS HO_17.out⟩, ⟨rR HO_23.out⟩, ⟨by repeat (first | (with_reducible exact HR583_0.out) | (with_reducible refine Kd.C_alloc ?_ _) | (with_reducible refine Kd.C_drewN ?_ _) | (with_reducible refine Kd.C_drew ?_) | exact HR583_0.out)⟩, ⟨bl HB.out⟩⟩
           rw [if_neg c13] at H; exact absurd H (by simp)
          rw [if_neg c12] at H; exact absurd H (by simp)
         rw [if_neg c11] at H; have c11b0 := decide_eq_false c11; clear c11; have H' := Aside0.mk H; clear H; go_wp2
         go_roundg k2
         case measure => have := HK1.out; have := HK2.out; omega
         case rel => exact ⟨(x6_2), (wrap64 (x19_1 + 1)), (sr2), (sr2), H', ⟨by have := HK1.out; have := HK2.out; omega⟩, ⟨rS HO_17.out⟩, ⟨bl HB.out⟩⟩
      rw [if_neg c10] at H; exact absurd H (by simp)
     rw [if_neg c9] at H; exact absurd H (by simp)
    rw [if_neg c8] at H; have c8b0 := decide_eq_false c8; clear c8; simp only [Option.some.injEq, Prod.mk.injEq] at H; obtain ⟨rfl, rfl⟩ := H; go_wp2; go_ret2; exact ⟨sr, bl HB.out⟩
 replace c4 := Bool.eq_false_iff.mpr c4; subst c4; rw [if_neg (show ¬ (false = true) by decide)] at H; simp only [Option.some.injEq, Prod.mk.injEq] at H; obtain ⟨rfl, rfl⟩ := H; go_enter Try.func31, Try.ntmps31; go_wp2_with (first | (go_at_call 61; (with_reducible refine (spec_taAsked.calls a0 a1 false _ A3.out).mono ?_); rintro e w' ⟨rfl, ⟨nd, rfl⟩⟩)); go_ret2; exact ⟨sr, bl HB.out⟩
/-! ### spec_DrawProductDeterminant: function 32 -/
def spec_DrawProductDeterminant.f (l0 : List Int) : Option (Int × Int) := (spec_l1Cur_tabled.f l0 0 0 4).bind fun bt586 => (some (bt586.1, bt586.2.1))
theorem spec_DrawProductDeterminant.calls (A0 : Option Addr) (c0 : Nat) (l0 : List Int) (r1 : Int) (r2 : Int) (w : World) (hr0 : Kd.C (Kd.int .u8) w A0 l0.length l0) (hc0 : l0.length ≤ c0) (h : spec_DrawProductDeterminant.f l0 = some (r1, r2)) :
  Calls Try.prog 32 #[.slice A0 l0.length c0] w fun e w' => e = .returned (.tuple #[.int .i64 r1, .int .i64 r2]) ∧ Below w.heap.size w w' := by
 have hu57 := Try.underlying57; have HR0 := Aside0.mk hr0; have HC0 := Aside0.mk hc0; clear hr0 hc0; have HB := Aside0.mk (Below.refl w.heap.size w); have H : ((spec_l1Cur_tabled.f l0 0 0 4).bind fun bt586 => (some (bt586.1, bt586.2.1))) = some (r1, r2) := h; clear h; obtain ⟨⟨t586, t587, t588, t589⟩, A2, H⟩ := bi H; (try dsimp only at H); simp only [Option.some.injEq, Prod.mk.injEq] at H; obtain ⟨rfl, rfl⟩ := H; go_enter Try.func32, Try.ntmps32; go_wp2_with (first | ((with_reducible refine gate_dst (N := 7) rfl ?_); refine box_event ?hg (N := 7) ?hd (cs := #[.slice A0 l0.length c0, .int .i64 0, .int .u64 0]) (t := 57) ?hr ?_; (case hd => rfl); (case hg => rfl); (case hr => first | (go_simp; done) | (go_simp; rfl)); intro gb585 hg w3 hbox hb; have HI585 := Aside0.mk ((show IsS57 w w3 gb585 l0 0 0 from ⟨_, _, hbox, (by rw [hg]; exact (below_size (bl HB.out)) : w.heap.size ≤ gb585), HR0.out⟩)); replace HB := bst HB hb; clear hb hbox hg) | (go_at_call 69; (with_reducible refine (spec_l1Cur_tabled.calls gb585 l0 0 0 4 t586 t587 t588 t589 w _ ?side1 (bs1 HB.out (IsS57.ge HI585.out)) A2.out).mono ?_); (case side1 => exact iS HI585.out); rintro e w4 ⟨rfl, hi, hb, hk⟩; replace HB := Aside0.mk (hb); replace HI585 := Aside0.mk (hi))); go_ret2; exact ⟨sr, bs1 HB.out (IsS57.ge HI585.out)⟩
/-! ### impl_value: function 74 -/
def impl_value.l0 : Nat → Int → Int → Int → Int → Int → Option (Int)
 | 0, _, _, _, _, _ => none
 | k + 1, x1, x5, x6, x7, x8 => if x8 < x7 then (impl_value.l0 k x1 x6 (wrap64 ((wrap64 (x1 * x6)) - x5)) x7 (wrap64 (x8 + 1))) else (some x6)
def impl_value.f (k : Nat) (a0 : Int) (a1 : Int) : Option (Int) := impl_value.l0 k a1 0 1 a0 0
theorem impl_value.mono_l : ∀ k, (∀ y0 y1 y2 y3 y4, LeO (impl_value.l0 k y0 y1 y2 y3 y4) (impl_value.l0 (k + 1) y0 y1 y2 y3 y4))
 | 0 => fun _ _ _ _ _ r h => by simp [impl_value.l0] at h
 | k + 1 => by
  have ih0 := impl_value.mono_l k
  ·intro y0 y1 y2 y3 y4
   unfold impl_value.l0
   repeat' first
   | (with_reducible exact ih0 _ _ _ _ _)
   | (with_reducible exact LeO.refl _)
   | (with_reducible exact LeO.none _)
   | (with_reducible refine LeO.ite ?_ ?_)
   | (with_reducible refine LeO.bind ?_ (fun _ => ?_))
   | exact ih0 _ _ _ _ _
   | exact LeO.none _
   | refine LeO.ite ?_ ?_
   | refine LeO.bind ?_ (fun _ => ?_)
theorem impl_value.mono : ∀ a0 a1 k, LeO (impl_value.f k a0 a1) (impl_value.f (k + 1) a0 a1) := by
 intro a0 a1 k; have ih0 := impl_value.mono_l k; unfold impl_value.f
 repeat' first
   | (with_reducible exact ih0 _ _ _ _ _)
   | (with_reducible exact LeO.refl _)
   | (with_reducible exact LeO.none _)
   | (with_reducible refine LeO.ite ?_ ?_)
   | (with_reducible refine LeO.bind ?_ (fun _ => ?_))
   | exact ih0 _ _ _ _ _
   | exact LeO.none _
   | refine LeO.ite ?_ ?_
   | refine LeO.bind ?_ (fun _ => ?_)
theorem impl_value.calls (k : Nat) (a0 : Int) (a1 : Int) (r : Int) (w : World) (h : impl_value.f k a0 a1 = some r) :
  Calls Try.prog 74 #[.int .i64 a0, .int .i64 a1] w fun e w' => e = .returned (.int .i64 r) ∧ Drawn0 w w' := by
 have H : (impl_value.l0 k a1 0 1 a0 0) = some r := h; clear h; have H' := Aside0.mk H; clear H; go_enter Try.func74, Try.ntmps74; go_wp2
 go_loopg [5, 6, 8] k (fun kq v5 v6 v8 w' => ∃ (x5_1 : Int) (x6_1 : Int) (x8_1 : Int), v5 = .int .i64 x5_1 ∧ v6 = .int .i64 x6_1 ∧ v8 = .int .i64 x8_1 ∧ Aside0 (impl_value.l0 kq a1 x5_1 x6_1 a0 x8_1 = some r) ∧ Aside0 (kq ≤ k) ∧ Drawn0 w w')
 case atStart => exact ⟨(0), (1), (0), (sr2), (sr2), (sr2), H', ⟨Nat.le_refl _⟩, by repeat (first | exact Drawn0.refl _ | apply Drawn0.step)⟩
 case round =>
  clear H'; obtain ⟨x5_1, x6_1, x8_1, rfl, rfl, rfl, HA, HK1, ⟨m1, rfl⟩⟩ := hrel
  cases gk with
  | zero => exact absurd HA.out (by simp [impl_value.l0])
  | succ k1 =>
   have H := HA.out; clear HA; simp only [impl_value.l0] at H
   by_cases c3 : x8_1 < a0
   ·rw [if_pos c3] at H; have c3b0 := decide_eq_true c3; clear c3; have H' := Aside0.mk H; clear H; go_wp2
    go_roundg k1
    case measure => have := HK1.out; omega
    case rel => exact ⟨(x6_1), (wrap64 ((wrap64 (a1 * x6_1)) - x5_1)), (wrap64 (x8_1 + 1)), (sr2), (sr2), (sr2), H', ⟨by have := HK1.out; omega⟩, by repeat (first | exact Drawn0.refl _ | apply Drawn0.step)⟩
   rw [if_neg c3] at H; have c3b0 := decide_eq_false c3; clear c3; obtain rfl := Option.some.inj H; go_wp2; go_ret; exact ⟨sr2, by repeat (first | exact Drawn0.refl _ | apply Drawn0.step)⟩
/-! ### impl_choose: function 95 -/
def impl_choose.l0 : Nat → Int → Int → Int → Int → Option (Int)
 | 0, _, _, _, _ => none
 | k + 1, x0, x5, x9, x10 => if x10 < x9 then (if (wrap64 (x10 + 1)) = 0 then (none) else (impl_choose.l0 k x0 (wrap64 (Int.tdiv (wrap64 (x5 * (wrap64 (x0 - x10)))) (wrap64 (x10 + 1)))) x9 (wrap64 (x10 + 1)))) else (some x5)
def impl_choose.f (k : Nat) (a0 : Int) (a1 : Int) : Option (Int) := if a1 < 0 then (some 0) else (impl_choose.l0 k a0 1 a1 0)
theorem impl_choose.mono_l : ∀ k, (∀ y0 y1 y2 y3, LeO (impl_choose.l0 k y0 y1 y2 y3) (impl_choose.l0 (k + 1) y0 y1 y2 y3))
 | 0 => fun _ _ _ _ r h => by simp [impl_choose.l0] at h
 | k + 1 => by
  have ih0 := impl_choose.mono_l k
  ·intro y0 y1 y2 y3
   unfold impl_choose.l0
   repeat' first
   | (with_reducible exact ih0 _ _ _ _)
   | (with_reducible exact LeO.refl _)
   | (with_reducible exact LeO.none _)
   | (with_reducible refine LeO.ite ?_ ?_)
   | (with_reducible refine LeO.bind ?_ (fun _ => ?_))
   | exact ih0 _ _ _ _
   | exact LeO.none _
   | refine LeO.ite ?_ ?_
   | refine LeO.bind ?_ (fun _ => ?_)
theorem impl_choose.mono : ∀ a0 a1 k, LeO (impl_choose.f k a0 a1) (impl_choose.f (k + 1) a0 a1) := by
 intro a0 a1 k; have ih0 := impl_choose.mono_l k; unfold impl_choose.f
 repeat' first
   | (with_reducible exact ih0 _ _ _ _)
   | (with_reducible exact LeO.refl _)
   | (with_reducible exact LeO.none _)
   | (with_reducible refine LeO.ite ?_ ?_)
   | (with_reducible refine LeO.bind ?_ (fun _ => ?_))
   | exact ih0 _ _ _ _
   | exact LeO.none _
   | refine LeO.ite ?_ ?_
   | refine LeO.bind ?_ (fun _ => ?_)
theorem impl_choose.calls (k : Nat) (a0 : Int) (a1 : Int) (r : Int) (w : World) (h : impl_choose.f k a0 a1 = some r) :
  Calls Try.prog 95 #[.int .i64 a0, .int .i64 a1] w fun e w' => e = .returned (.int .i64 r) ∧ Drawn0 w w' := by
 have H : (if a1 < 0 then (some 0) else (impl_choose.l0 k a0 1 a1 0)) = some r := h; clear h
 by_cases c3 : a1 < 0
 ·rw [if_pos c3] at H; have c3b0 := decide_eq_true c3; clear c3; obtain rfl := Option.some.inj H; go_enter Try.func95, Try.ntmps95; go_wp2; go_ret; exact ⟨sr2, by repeat (first | exact Drawn0.refl _ | apply Drawn0.step)⟩
 rw [if_neg c3] at H; have c3b0 := decide_eq_false c3; clear c3; have H' := Aside0.mk H; clear H; go_enter Try.func95, Try.ntmps95; go_wp2
 go_loopg [5, 10] k (fun kq v5 v10 w' => ∃ (x5_1 : Int) (x10_1 : Int), v5 = .int .i64 x5_1 ∧ v10 = .int .i64 x10_1 ∧ Aside0 (impl_choose.l0 kq a0 x5_1 a1 x10_1 = some r) ∧ Aside0 (kq ≤ k) ∧ Drawn0 w w')
 case atStart => exact ⟨(1), (0), (sr2), (sr2), H', ⟨Nat.le_refl _⟩, by repeat (first | exact Drawn0.refl _ | apply Drawn0.step)⟩
 case round =>
  clear H'; obtain ⟨x5_1, x10_1, rfl, rfl, HA, HK1, ⟨m1, rfl⟩⟩ := hrel
  cases gk with
  | zero => exact absurd HA.out (by simp [impl_choose.l0])
  | succ k1 =>
   have H := HA.out; clear HA; simp only [impl_choose.l0] at H
   by_cases c4 : x10_1 < a1
   ·rw [if_pos c4] at H; have c4b0 := decide_eq_true c4; clear c4
    by_cases c5 : (wrap64 (x10_1 + 1)) = 0
    ·rw [if_pos c5] at H; exact absurd H (by simp)
    rw [if_neg c5] at H; have c5b0 := beq_eq_false_iff_ne.mpr c5; have c5b1 := bne_iff_ne.mpr c5; have H' := Aside0.mk H; clear H; go_wp2
    go_roundg k1
    case measure => have := HK1.out; omega
    case rel => exact ⟨(wrap64 (Int.tdiv (wrap64 (x5_1 * (wrap64 (a0 - x10_1)))) (wrap64 (x10_1 + 1)))), (wrap64 (x10_1 + 1)), (sr2), (sr2), H', ⟨by have := HK1.out; omega⟩, by repeat (first | exact Drawn0.refl _ | apply Drawn0.step)⟩
   rw [if_neg c4] at H; have c4b0 := decide_eq_false c4; clear c4; obtain rfl := Option.some.inj H; go_wp2; go_ret; exact ⟨sr2, by repeat (first | exact Drawn0.refl _ | apply Drawn0.step)⟩
/-! ### impl_exponent: function 75 -/
def impl_exponent.f (k : Nat) (a0 : Int) (a1 : Int) : Option (Int) := (impl_choose.f k (wrap64 (2 * a0)) (wrap64 (a0 - a1))).bind fun t590 => ((impl_choose.f k (wrap64 (2 * a0)) (wrap64 ((wrap64 (a0 - a1)) - 1))).bind fun t591 => ((impl_choose.f k (wrap64 (2 * a0)) (wrap64 ((wrap64 (a0 - a1)) - 2))).bind fun t592 => (some (wrap64 ((wrap64 (t590 - (wrap64 (2 * t591)))) + t592)))))
theorem impl_exponent.mono : ∀ a0 a1 k, LeO (impl_exponent.f k a0 a1) (impl_exponent.f (k + 1) a0 a1) := by
 intro a0 a1 k; unfold impl_exponent.f
 repeat' first
   | (with_reducible exact impl_choose.mono _ _ _)
   | (with_reducible exact LeO.refl _)
   | (with_reducible exact LeO.none _)
   | (with_reducible refine LeO.ite ?_ ?_)
   | (with_reducible refine LeO.bind ?_ (fun _ => ?_))
   | exact impl_choose.mono _ _ _
   | exact LeO.none _
   | refine LeO.ite ?_ ?_
   | refine LeO.bind ?_ (fun _ => ?_)
theorem impl_exponent.calls (k : Nat) (a0 : Int) (a1 : Int) (r : Int) (w : World) (h : impl_exponent.f k a0 a1 = some r) :
  Calls Try.prog 75 #[.int .i64 a0, .int .i64 a1] w fun e w' => e = .returned (.int .i64 r) ∧ Drawn0 w w' := by
 have H : ((impl_choose.f k (wrap64 (2 * a0)) (wrap64 (a0 - a1))).bind fun t590 => ((impl_choose.f k (wrap64 (2 * a0)) (wrap64 ((wrap64 (a0 - a1)) - 1))).bind fun t591 => ((impl_choose.f k (wrap64 (2 * a0)) (wrap64 ((wrap64 (a0 - a1)) - 2))).bind fun t592 => (some (wrap64 ((wrap64 (t590 - (wrap64 (2 * t591)))) + t592)))))) = some r := h; clear h; obtain ⟨t590, A3, H⟩ := bi H; (try dsimp only at H); obtain ⟨t591, A4, H⟩ := bi H; (try dsimp only at H); obtain ⟨t592, A5, H⟩ := bi H; (try dsimp only at H); obtain rfl := Option.some.inj H; go_enter Try.func75, Try.ntmps75; go_wp2_with (first | (go_at_call 95; (with_reducible refine (impl_choose.calls k (wrap64 (2 * a0)) (wrap64 (a0 - a1)) t590 _ A3.out).mono ?_); rintro e w' ⟨rfl, ⟨nd, rfl⟩⟩) | (go_at_call 95; (with_reducible refine (impl_choose.calls k (wrap64 (2 * a0)) (wrap64 ((wrap64 (a0 - a1)) - 1)) t591 _ A4.out).mono ?_); rintro e w' ⟨rfl, ⟨nd, rfl⟩⟩) | (go_at_call 95; (with_reducible refine (impl_choose.calls k (wrap64 (2 * a0)) (wrap64 ((wrap64 (a0 - a1)) - 2)) t592 _ A5.out).mono ?_); rintro e w' ⟨rfl, ⟨nd, rfl⟩⟩)); go_ret; exact ⟨sr2, by repeat (first | exact Drawn0.refl _ | apply Drawn0.step)⟩
/-! ### impl_ProductDeterminant: function 33 -/
mutual
def impl_ProductDeterminant.j0 : Nat → Int → Int → Bool → Option (Int × Bool)
 | 0, _, _, _ => none
 | k + 1, x0, x1, x15 => if x15 = true then (some (0, false)) else (impl_ProductDeterminant.l0 k x0 x1 1 1)
def impl_ProductDeterminant.l0 : Nat → Int → Int → Int → Int → Option (Int × Bool)
 | 0, _, _, _, _ => none
 | k + 1, x0, x1, x6, x7 => if x7 ≤ x0 then ((impl_value.f k x7 x1).bind fun t594 => ((impl_exponent.f k x0 x7).bind fun t595 => ((impl_power.f k t594 t595).bind fun t596 => (impl_ProductDeterminant.l0 k x0 x1 (wrap64 (x6 * t596)) (wrap64 (x7 + 1)))))) else (some (x6, true))
end
def impl_ProductDeterminant.f (k : Nat) (a0 : Int) (a1 : Int) : Option (Int × Bool) := if a0 < 1 then (impl_ProductDeterminant.j0 k a0 a1 true) else ((impl_isTable.f a0 a1).bind fun t593 => (impl_ProductDeterminant.j0 k a0 a1 (!t593)))
theorem impl_ProductDeterminant.mono_l : ∀ k, (∀ y0 y1 y2, LeO (impl_ProductDeterminant.j0 k y0 y1 y2) (impl_ProductDeterminant.j0 (k + 1) y0 y1 y2)) ∧ (∀ y0 y1 y2 y3, LeO (impl_ProductDeterminant.l0 k y0 y1 y2 y3) (impl_ProductDeterminant.l0 (k + 1) y0 y1 y2 y3))
 | 0 => ⟨fun _ _ _ r h => by simp [impl_ProductDeterminant.j0] at h, fun _ _ _ _ r h => by simp [impl_ProductDeterminant.l0] at h⟩
 | k + 1 => by
  obtain ⟨ih0, ih1⟩ := impl_ProductDeterminant.mono_l k
  refine ⟨?_, ?_⟩
  ·intro y0 y1 y2
   unfold impl_ProductDeterminant.j0
   repeat' first
   | (with_reducible exact ih0 _ _ _)
   | (with_reducible exact ih1 _ _ _ _)
   | (with_reducible exact impl_exponent.mono _ _ _)
   | (with_reducible exact impl_power.mono _ _ _)
   | (with_reducible exact impl_value.mono _ _ _)
   | (with_reducible exact LeO.refl _)
   | (with_reducible exact LeO.none _)
   | (with_reducible refine LeO.ite ?_ ?_)
   | (with_reducible refine LeO.bind ?_ (fun _ => ?_))
   | exact ih0 _ _ _
   | exact ih1 _ _ _ _
   | exact impl_exponent.mono _ _ _
   | exact impl_power.mono _ _ _
   | exact impl_value.mono _ _ _
   | exact LeO.none _
   | refine LeO.ite ?_ ?_
   | refine LeO.bind ?_ (fun _ => ?_)
  ·intro y0 y1 y2 y3
   unfold impl_ProductDeterminant.l0
   repeat' first
   | (with_reducible exact ih0 _ _ _)
   | (with_reducible exact ih1 _ _ _ _)
   | (with_reducible exact impl_exponent.mono _ _ _)
   | (with_reducible exact impl_power.mono _ _ _)
   | (with_reducible exact impl_value.mono _ _ _)
   | (with_reducible exact LeO.refl _)
   | (with_reducible exact LeO.none _)
   | (with_reducible refine LeO.ite ?_ ?_)
   | (with_reducible refine LeO.bind ?_ (fun _ => ?_))
   | exact ih0 _ _ _
   | exact ih1 _ _ _ _
   | exact impl_exponent.mono _ _ _
   | exact impl_power.mono _ _ _
   | exact impl_value.mono _ _ _
   | exact LeO.none _
   | refine LeO.ite ?_ ?_
   | refine LeO.bind ?_ (fun _ => ?_)
theorem impl_ProductDeterminant.mono : ∀ a0 a1 k, LeO (impl_ProductDeterminant.f k a0 a1) (impl_ProductDeterminant.f (k + 1) a0 a1) := by
 intro a0 a1 k; obtain ⟨ih0, ih1⟩ := impl_ProductDeterminant.mono_l k; unfold impl_ProductDeterminant.f
 repeat' first
   | (with_reducible exact ih0 _ _ _)
   | (with_reducible exact ih1 _ _ _ _)
   | (with_reducible exact impl_exponent.mono _ _ _)
   | (with_reducible exact impl_power.mono _ _ _)
   | (with_reducible exact impl_value.mono _ _ _)
   | (with_reducible exact LeO.refl _)
   | (with_reducible exact LeO.none _)
   | (with_reducible refine LeO.ite ?_ ?_)
   | (with_reducible refine LeO.bind ?_ (fun _ => ?_))
   | exact ih0 _ _ _
   | exact ih1 _ _ _ _
   | exact impl_exponent.mono _ _ _
   | exact impl_power.mono _ _ _
   | exact impl_value.mono _ _ _
   | exact LeO.none _
   | refine LeO.ite ?_ ?_
   | refine LeO.bind ?_ (fun _ => ?_)
theorem impl_ProductDeterminant.calls (k : Nat) (a0 : Int) (a1 : Int) (r1 : Int) (r2 : Bool) (w : World) (h : impl_ProductDeterminant.f k a0 a1 = some (r1, r2)) :
  Calls Try.prog 33 #[.int .i64 a0, .int .i64 a1] w fun e w' => e = .returned (.tuple #[.int .i64 r1, .bool r2]) ∧ Drawn0 w w' := by
 have H : (if a0 < 1 then (impl_ProductDeterminant.j0 k a0 a1 true) else ((impl_isTable.f a0 a1).bind fun t593 => (impl_ProductDeterminant.j0 k a0 a1 (!t593)))) = some (r1, r2) := h; clear h; have HC3 := Aside0.mk H; clear H; go_enter Try.func33, Try.ntmps33
 go_upto_region 1 with (fail)
 go_cut [15] (fun v15 wc => ∃ (kq : Nat) (x15_2 : Bool), v15 = .bool x15_2 ∧ Aside0 (impl_ProductDeterminant.j0 kq a0 a1 x15_2 = some (r1, r2)) ∧ Aside0 (kq ≤ k) ∧ Drawn0 w wc)
 case first =>
  have H := HC3.out; clear HC3
  by_cases c4 : a0 < 1
  ·rw [if_pos c4] at H; have c4b0 := decide_eq_true c4; clear c4; (first | rw [c4b0] | (simp only [i64_w, i32_w]; rw [c4b0]) | skip); have H' := Aside0.mk H; clear H; go_wp2; go_meet
   case rel => exact ⟨_, (true), (sr2), H', ⟨by first | omega | exact Nat.le_refl _⟩, by repeat (first | exact Drawn0.refl _ | apply Drawn0.step)⟩
  rw [if_neg c4] at H; have c4b0 := decide_eq_false c4; clear c4; (first | rw [c4b0] | (simp only [i64_w, i32_w]; rw [c4b0]) | skip); obtain ⟨t593, A5, H⟩ := bi H; (try dsimp only at H); have H' := Aside0.mk H; clear H; go_wp2_with (first | (go_at_call 70; (with_reducible refine (impl_isTable.calls a0 a1 t593 _ A5.out).mono ?_); rintro e w' ⟨rfl, ⟨nd, rfl⟩⟩)); go_meet
  case rel => exact ⟨_, (!t593), (sr2), H', ⟨by first | omega | exact Nat.le_refl _⟩, by repeat (first | exact Drawn0.refl _ | apply Drawn0.step)⟩
 case rest =>
  clear HC3; obtain ⟨kq, x15_2, rfl, HA, HJ2, ⟨mc2, rfl⟩⟩ := hcut
  cases kq with
  | zero => exact absurd HA.out (by simp [impl_ProductDeterminant.j0])
  | succ kj2 =>
   have H := HA.out; clear HA; simp only [impl_ProductDeterminant.j0] at H
   by_cases c6 : x15_2 = true
   ·subst c6; rw [if_pos rfl] at H; simp only [Option.some.injEq, Prod.mk.injEq] at H; obtain ⟨rfl, rfl⟩ := H; go_wp2; go_ret2; exact ⟨sr2, by repeat (first | exact Drawn0.refl _ | apply Drawn0.step)⟩
   replace c6 := Bool.eq_false_iff.mpr c6; subst c6; rw [if_neg (show ¬ (false = true) by decide)] at H; have H' := Aside0.mk H; clear H; go_wp2
   go_loopg [6, 7] kj2 (fun kq v6 v7 w' => ∃ (x6_2 : Int) (x7_2 : Int), v6 = .int .i64 x6_2 ∧ v7 = .int .i64 x7_2 ∧ Aside0 (impl_ProductDeterminant.l0 kq a0 a1 x6_2 x7_2 = some (r1, r2)) ∧ Aside0 (kq ≤ kj2) ∧ Drawn0 w w')
   case atStart => exact ⟨(1), (1), (sr2), (sr2), H', ⟨Nat.le_refl _⟩, by repeat (first | exact Drawn0.refl _ | apply Drawn0.step)⟩
   case round =>
    clear H'; obtain ⟨x6_2, x7_2, rfl, rfl, HA, HK2, ⟨m2, rfl⟩⟩ := hrel
    cases gk with
    | zero => exact absurd HA.out (by simp [impl_ProductDeterminant.l0])
    | succ k2 =>
     have H := HA.out; clear HA; simp only [impl_ProductDeterminant.l0] at H
     by_cases c7 : x7_2 ≤ a0
     ·rw [if_pos c7] at H; have c7b0 := decide_eq_true c7; clear c7; obtain ⟨t594, A8, H⟩ := bi H; (try dsimp only at H); obtain ⟨t595, A9, H⟩ := bi H; (try dsimp only at H); obtain ⟨t596, A10, H⟩ := bi H; (try dsimp only at H); have H' := Aside0.mk H; clear H; go_wp2_with (first | (go_at_call 74; (with_reducible refine (impl_value.calls k2 x7_2 a1 t594 _ A8.out).mono ?_); rintro e w' ⟨rfl, ⟨nd, rfl⟩⟩) | (go_at_call 75; (with_reducible refine (impl_exponent.calls k2 a0 x7_2 t595 _ A9.out).mono ?_); rintro e w' ⟨rfl, ⟨nd, rfl⟩⟩) | (go_at_call 73; (with_reducible refine (impl_power.calls k2 t594 t595 t596 _ A10.out).mono ?_); rintro e w' ⟨rfl, ⟨nd, rfl⟩⟩))
      go_roundg k2
      case measure => have := HJ2.out; have := HK2.out; omega
      case rel => exact ⟨(wrap64 (x6_2 * t596)), (wrap64 (x7_2 + 1)), (sr2), (sr2), H', ⟨by have := HJ2.out; have := HK2.out; omega⟩, by repeat (first | exact Drawn0.refl _ | apply Drawn0.step)⟩
     rw [if_neg c7] at H; have c7b0 := decide_eq_false c7; clear c7; simp only [Option.some.injEq, Prod.mk.injEq] at H; obtain ⟨rfl, rfl⟩ := H; go_wp2; go_ret2; exact ⟨sr2, by repeat (first | exact Drawn0.refl _ | apply Drawn0.step)⟩
/-! ### spec_taValue: function 77 -/
def spec_taValue.l0 : Nat → Int → Int → Int → Int → Option (Int)
 | 0, _, _, _, _ => none
 | k + 1, x0, x1, x5, x6 => if x0 > 0 then (spec_taValue.l0 k (wrap64 (x0 - 1)) x1 x6 (wrap64 ((wrap64 (x1 * x6)) - x5))) else (some x6)
def spec_taValue.f (k : Nat) (a0 : Int) (a1 : Int) : Option (Int) := spec_taValue.l0 k a0 a1 0 1
theorem spec_taValue.mono_l : ∀ k, (∀ y0 y1 y2 y3, LeO (spec_taValue.l0 k y0 y1 y2 y3) (spec_taValue.l0 (k + 1) y0 y1 y2 y3))
 | 0 => fun _ _ _ _ r h => by simp [spec_taValue.l0] at h
 | k + 1 => by
  have ih0 := spec_taValue.mono_l k
  ·intro y0 y1 y2 y3
   unfold spec_taValue.l0
   repeat' first
   | (with_reducible exact ih0 _ _ _ _)
   | (with_reducible exact LeO.refl _)
   | (with_reducible exact LeO.none _)
   | (with_reducible refine LeO.ite ?_ ?_)
   | (with_reducible refine LeO.bind ?_ (fun _ => ?_))
   | exact ih0 _ _ _ _
   | exact LeO.none _
   | refine LeO.ite ?_ ?_
   | refine LeO.bind ?_ (fun _ => ?_)
theorem spec_taValue.mono : ∀ a0 a1 k, LeO (spec_taValue.f k a0 a1) (spec_taValue.f (k + 1) a0 a1) := by
 intro a0 a1 k; have ih0 := spec_taValue.mono_l k; unfold spec_taValue.f
 repeat' first
   | (with_reducible exact ih0 _ _ _ _)
   | (with_reducible exact LeO.refl _)
   | (with_reducible exact LeO.none _)
   | (with_reducible refine LeO.ite ?_ ?_)
   | (with_reducible refine LeO.bind ?_ (fun _ => ?_))
   | exact ih0 _ _ _ _
   | exact LeO.none _
   | refine LeO.ite ?_ ?_
   | refine LeO.bind ?_ (fun _ => ?_)
theorem spec_taValue.calls (k : Nat) (a0 : Int) (a1 : Int) (r : Int) (w : World) (h : spec_taValue.f k a0 a1 = some r) :
  Calls Try.prog 77 #[.int .i64 a0, .int .i64 a1] w fun e w' => e = .returned (.int .i64 r) ∧ Drawn0 w w' := by
 have H : (spec_taValue.l0 k a0 a1 0 1) = some r := h; clear h; have H' := Aside0.mk H; clear H; go_enter Try.func77, Try.ntmps77; go_wp2
 go_loopg [0, 5, 6] k (fun kq v0 v5 v6 w' => ∃ (x0_1 : Int) (x5_1 : Int) (x6_1 : Int), v0 = .int .i64 x0_1 ∧ v5 = .int .i64 x5_1 ∧ v6 = .int .i64 x6_1 ∧ Aside0 (spec_taValue.l0 kq x0_1 a1 x5_1 x6_1 = some r) ∧ Aside0 (kq ≤ k) ∧ Drawn0 w w')
 case atStart => exact ⟨(a0), (0), (1), (sr2), (sr2), (sr2), H', ⟨Nat.le_refl _⟩, by repeat (first | exact Drawn0.refl _ | apply Drawn0.step)⟩
 case round =>
  clear H'; obtain ⟨x0_1, x5_1, x6_1, rfl, rfl, rfl, HA, HK1, ⟨m1, rfl⟩⟩ := hrel
  cases gk with
  | zero => exact absurd HA.out (by simp [spec_taValue.l0])
  | succ k1 =>
   have H := HA.out; clear HA; simp only [spec_taValue.l0] at H
   by_cases c3 : x0_1 > 0
   ·rw [if_pos c3] at H; have c3b0 := decide_eq_true c3; clear c3; have H' := Aside0.mk H; clear H; go_wp2
    go_roundg k1
    case measure => have := HK1.out; omega
    case rel => exact ⟨(wrap64 (x0_1 - 1)), (x6_1), (wrap64 ((wrap64 (a1 * x6_1)) - x5_1)), (sr2), (sr2), (sr2), H', ⟨by have := HK1.out; omega⟩, by repeat (first | exact Drawn0.refl _ | apply Drawn0.step)⟩
   rw [if_neg c3] at H; have c3b0 := decide_eq_false c3; clear c3; obtain rfl := Option.some.inj H; go_wp2; go_ret; exact ⟨sr2, by repeat (first | exact Drawn0.refl _ | apply Drawn0.step)⟩
/-! ### spec_taChoose: function 96 -/
def spec_taChoose.l0 : Nat → Int → Int → Int → Int → Option (Int)
 | 0, _, _, _, _ => none
 | k + 1, x0, x1, x5, x6 => if x6 ≤ x1 then (if x6 = 0 then (none) else (spec_taChoose.l0 k x0 x1 (wrap64 (Int.tdiv (wrap64 (x5 * (wrap64 ((wrap64 (x0 - x1)) + x6)))) x6)) (wrap64 (x6 + 1)))) else (some x5)
def spec_taChoose.f (k : Nat) (a0 : Int) (a1 : Int) : Option (Int) := if a1 < 0 then (some 0) else (spec_taChoose.l0 k a0 a1 1 1)
theorem spec_taChoose.mono_l : ∀ k, (∀ y0 y1 y2 y3, LeO (spec_taChoose.l0 k y0 y1 y2 y3) (spec_taChoose.l0 (k + 1) y0 y1 y2 y3))
 | 0 => fun _ _ _ _ r h => by simp [spec_taChoose.l0] at h
 | k + 1 => by
  have ih0 := spec_taChoose.mono_l k
  ·intro y0 y1 y2 y3
   unfold spec_taChoose.l0
   repeat' first
   | (with_reducible exact ih0 _ _ _ _)
   | (with_reducible exact LeO.refl _)
   | (with_reducible exact LeO.none _)
   | (with_reducible refine LeO.ite ?_ ?_)
   | (with_reducible refine LeO.bind ?_ (fun _ => ?_))
   | exact ih0 _ _ _ _
   | exact LeO.none _
   | refine LeO.ite ?_ ?_
   | refine LeO.bind ?_ (fun _ => ?_)
theorem spec_taChoose.mono : ∀ a0 a1 k, LeO (spec_taChoose.f k a0 a1) (spec_taChoose.f (k + 1) a0 a1) := by
 intro a0 a1 k; have ih0 := spec_taChoose.mono_l k; unfold spec_taChoose.f
 repeat' first
   | (with_reducible exact ih0 _ _ _ _)
   | (with_reducible exact LeO.refl _)
   | (with_reducible exact LeO.none _)
   | (with_reducible refine LeO.ite ?_ ?_)
   | (with_reducible refine LeO.bind ?_ (fun _ => ?_))
   | exact ih0 _ _ _ _
   | exact LeO.none _
   | refine LeO.ite ?_ ?_
   | refine LeO.bind ?_ (fun _ => ?_)
theorem spec_taChoose.calls (k : Nat) (a0 : Int) (a1 : Int) (r : Int) (w : World) (h : spec_taChoose.f k a0 a1 = some r) :
  Calls Try.prog 96 #[.int .i64 a0, .int .i64 a1] w fun e w' => e = .returned (.int .i64 r) ∧ Drawn0 w w' := by
 have H : (if a1 < 0 then (some 0) else (spec_taChoose.l0 k a0 a1 1 1)) = some r := h; clear h
 by_cases c3 : a1 < 0
 ·rw [if_pos c3] at H; have c3b0 := decide_eq_true c3; clear c3; obtain rfl := Option.some.inj H; go_enter Try.func96, Try.ntmps96; go_wp2; go_ret; exact ⟨sr2, by repeat (first | exact Drawn0.refl _ | apply Drawn0.step)⟩
 rw [if_neg c3] at H; have c3b0 := decide_eq_false c3; clear c3; have H' := Aside0.mk H; clear H; go_enter Try.func96, Try.ntmps96; go_wp2
 go_loopg [5, 6] k (fun kq v5 v6 w' => ∃ (x5_1 : Int) (x6_1 : Int), v5 = .int .i64 x5_1 ∧ v6 = .int .i64 x6_1 ∧ Aside0 (spec_taChoose.l0 kq a0 a1 x5_1 x6_1 = some r) ∧ Aside0 (kq ≤ k) ∧ Drawn0 w w')
 case atStart => exact ⟨(1), (1), (sr2), (sr2), H', ⟨Nat.le_refl _⟩, by repeat (first | exact Drawn0.refl _ | apply Drawn0.step)⟩
 case round =>
  clear H'; obtain ⟨x5_1, x6_1, rfl, rfl, HA, HK1, ⟨m1, rfl⟩⟩ := hrel
  cases gk with
  | zero => exact absurd HA.out (by simp [spec_taChoose.l0])
  | succ k1 =>
   have H := HA.out; clear HA; simp only [spec_taChoose.l0] at H
   by_cases c4 : x6_1 ≤ a1
   ·rw [if_pos c4] at H; have c4b0 := decide_eq_true c4; clear c4
    by_cases c5 : x6_1 = 0
    ·rw [if_pos c5] at H; exact absurd H (by simp)
    rw [if_neg c5] at H; have c5b0 := beq_eq_false_iff_ne.mpr c5; have c5b1 := bne_iff_ne.mpr c5; have H' := Aside0.mk H; clear H; go_wp2
    go_roundg k1
    case measure => have := HK1.out; omega
    case rel => exact ⟨(wrap64 (Int.tdiv (wrap64 (x5_1 * (wrap64 ((wrap64 (a0 - a1)) + x6_1)))) x6_1)), (wrap64 (x6_1 + 1)), (sr2), (sr2), H', ⟨by have := HK1.out; omega⟩, by repeat (first | exact Drawn0.refl _ | apply Drawn0.step)⟩
   rw [if_neg c4] at H; have c4b0 := decide_eq_false c4; clear c4; obtain rfl := Option.some.inj H; go_wp2; go_ret; exact ⟨sr2, by repeat (first | exact Drawn0.refl _ | apply Drawn0.step)⟩
/-! ### spec_taExponent: function 78 -/
def spec_taExponent.f (k : Nat) (a0 : Int) (a1 : Int) : Option (Int) := (spec_taChoose.f k (wrap64 (2 * a0)) (wrap64 (a0 - a1))).bind fun t597 => ((spec_taChoose.f k (wrap64 (2 * a0)) (wrap64 ((wrap64 (a0 - a1)) - 1))).bind fun t598 => ((spec_taChoose.f k (wrap64 (2 * a0)) (wrap64 ((wrap64 (a0 - a1)) - 2))).bind fun t599 => (some (wrap64 ((wrap64 (t597 - (wrap64 (2 * t598)))) + t599)))))
theorem spec_taExponent.mono : ∀ a0 a1 k, LeO (spec_taExponent.f k a0 a1) (spec_taExponent.f (k + 1) a0 a1) := by
 intro a0 a1 k; unfold spec_taExponent.f
 repeat' first
   | (with_reducible exact spec_taChoose.mono _ _ _)
   | (with_reducible exact LeO.refl _)
   | (with_reducible exact LeO.none _)
   | (with_reducible refine LeO.ite ?_ ?_)
   | (with_reducible refine LeO.bind ?_ (fun _ => ?_))
   | exact spec_taChoose.mono _ _ _
   | exact LeO.none _
   | refine LeO.ite ?_ ?_
   | refine LeO.bind ?_ (fun _ => ?_)
theorem spec_taExponent.calls (k : Nat) (a0 : Int) (a1 : Int) (r : Int) (w : World) (h : spec_taExponent.f k a0 a1 = some r) :
  Calls Try.prog 78 #[.int .i64 a0, .int .i64 a1] w fun e w' => e = .returned (.int .i64 r) ∧ Drawn0 w w' := by
 have H : ((spec_taChoose.f k (wrap64 (2 * a0)) (wrap64 (a0 - a1))).bind fun t597 => ((spec_taChoose.f k (wrap64 (2 * a0)) (wrap64 ((wrap64 (a0 - a1)) - 1))).bind fun t598 => ((spec_taChoose.f k (wrap64 (2 * a0)) (wrap64 ((wrap64 (a0 - a1)) - 2))).bind fun t599 => (some (wrap64 ((wrap64 (t597 - (wrap64 (2 * t598)))) + t599)))))) = some r := h; clear h; obtain ⟨t597, A3, H⟩ := bi H; (try dsimp only at H); obtain ⟨t598, A4, H⟩ := bi H; (try dsimp only at H); obtain ⟨t599, A5, H⟩ := bi H; (try dsimp only at H); obtain rfl := Option.some.inj H; go_enter Try.func78, Try.ntmps78; go_wp2_with (first | (go_at_call 96; (with_reducible refine (spec_taChoose.calls k (wrap64 (2 * a0)) (wrap64 (a0 - a1)) t597 _ A3.out).mono ?_); rintro e w' ⟨rfl, ⟨nd, rfl⟩⟩) | (go_at_call 96; (with_reducible refine (spec_taChoose.calls k (wrap64 (2 * a0)) (wrap64 ((wrap64 (a0 - a1)) - 1)) t598 _ A4.out).mono ?_); rintro e w' ⟨rfl, ⟨nd, rfl⟩⟩) | (go_at_call 96; (with_reducible refine (spec_taChoose.calls k (wrap64 (2 * a0)) (wrap64 ((wrap64 (a0 - a1)) - 2)) t599 _ A5.out).mono ?_); rintro e w' ⟨rfl, ⟨nd, rfl⟩⟩)); go_ret; exact ⟨sr2, by repeat (first | exact Drawn0.refl _ | apply Drawn0.step)⟩
/-! ### spec_ProductDeterminant: function 34 -/
mutual
def spec_ProductDeterminant.j0 : Nat → Int → Int → Bool → Option (Int × Bool)
 | 0, _, _, _ => none
 | k + 1, x0, x1, x15 => if x15 = true then (some (0, false)) else (spec_ProductDeterminant.l0 k x0 x1 1 1)
def spec_ProductDeterminant.l0 : Nat → Int → Int → Int → Int → Option (Int × Bool)
 | 0, _, _, _, _ => none
 | k + 1, x0, x1, x6, x7 => if x7 ≤ x0 then ((spec_taValue.f k x7 x1).bind fun t601 => ((spec_taExponent.f k x0 x7).bind fun t602 => ((spec_taPower.f k t601 t602).bind fun t603 => (spec_ProductDeterminant.l0 k x0 x1 (wrap64 (x6 * t603)) (wrap64 (x7 + 1)))))) else (some (x6, true))
end
def spec_ProductDeterminant.f (k : Nat) (a0 : Int) (a1 : Int) : Option (Int × Bool) := if a0 = 0 then (spec_ProductDeterminant.j0 k a0 a1 true) else ((spec_taAsked.f a0 a1).bind fun t600 => (spec_ProductDeterminant.j0 k a0 a1 (!t600)))
theorem spec_ProductDeterminant.mono_l : ∀ k, (∀ y0 y1 y2, LeO (spec_ProductDeterminant.j0 k y0 y1 y2) (spec_ProductDeterminant.j0 (k + 1) y0 y1 y2)) ∧ (∀ y0 y1 y2 y3, LeO (spec_ProductDeterminant.l0 k y0 y1 y2 y3) (spec_ProductDeterminant.l0 (k + 1) y0 y1 y2 y3))
 | 0 => ⟨fun _ _ _ r h => by simp [spec_ProductDeterminant.j0] at h, fun _ _ _ _ r h => by simp [spec_ProductDeterminant.l0] at h⟩
 | k + 1 => by
  obtain ⟨ih0, ih1⟩ := spec_ProductDeterminant.mono_l k
  refine ⟨?_, ?_⟩
  ·intro y0 y1 y2
   unfold spec_ProductDeterminant.j0
   repeat' first
   | (with_reducible exact ih0 _ _ _)
   | (with_reducible exact ih1 _ _ _ _)
   | (with_reducible exact spec_taExponent.mono _ _ _)
   | (with_reducible exact spec_taPower.mono _ _ _)
   | (with_reducible exact spec_taValue.mono _ _ _)
   | (with_reducible exact LeO.refl _)
   | (with_reducible exact LeO.none _)
   | (with_reducible refine LeO.ite ?_ ?_)
   | (with_reducible refine LeO.bind ?_ (fun _ => ?_))
   | exact ih0 _ _ _
   | exact ih1 _ _ _ _
   | exact spec_taExponent.mono _ _ _
   | exact spec_taPower.mono _ _ _
   | exact spec_taValue.mono _ _ _
   | exact LeO.none _
   | refine LeO.ite ?_ ?_
   | refine LeO.bind ?_ (fun _ => ?_)
  ·intro y0 y1 y2 y3
   unfold spec_ProductDeterminant.l0
   repeat' first
   | (with_reducible exact ih0 _ _ _)
   | (with_reducible exact ih1 _ _ _ _)
   | (with_reducible exact spec_taExponent.mono _ _ _)
   | (with_reducible exact spec_taPower.mono _ _ _)
   | (with_reducible exact spec_taValue.mono _ _ _)
   | (with_reducible exact LeO.refl _)
   | (with_reducible exact LeO.none _)
   | (with_reducible refine LeO.ite ?_ ?_)
   | (with_reducible refine LeO.bind ?_ (fun _ => ?_))
   | exact ih0 _ _ _
   | exact ih1 _ _ _ _
   | exact spec_taExponent.mono _ _ _
   | exact spec_taPower.mono _ _ _
   | exact spec_taValue.mono _ _ _
   | exact LeO.none _
   | refine LeO.ite ?_ ?_
   | refine LeO.bind ?_ (fun _ => ?_)
theorem spec_ProductDeterminant.mono : ∀ a0 a1 k, LeO (spec_ProductDeterminant.f k a0 a1) (spec_ProductDeterminant.f (k + 1) a0 a1) := by
 intro a0 a1 k; obtain ⟨ih0, ih1⟩ := spec_ProductDeterminant.mono_l k; unfold spec_ProductDeterminant.f
 repeat' first
   | (with_reducible exact ih0 _ _ _)
   | (with_reducible exact ih1 _ _ _ _)
   | (with_reducible exact spec_taExponent.mono _ _ _)
   | (with_reducible exact spec_taPower.mono _ _ _)
   | (with_reducible exact spec_taValue.mono _ _ _)
   | (with_reducible exact LeO.refl _)
   | (with_reducible exact LeO.none _)
   | (with_reducible refine LeO.ite ?_ ?_)
   | (with_reducible refine LeO.bind ?_ (fun _ => ?_))
   | exact ih0 _ _ _
   | exact ih1 _ _ _ _
   | exact spec_taExponent.mono _ _ _
   | exact spec_taPower.mono _ _ _
   | exact spec_taValue.mono _ _ _
   | exact LeO.none _
   | refine LeO.ite ?_ ?_
   | refine LeO.bind ?_ (fun _ => ?_)
theorem spec_ProductDeterminant.calls (k : Nat) (a0 : Int) (a1 : Int) (r1 : Int) (r2 : Bool) (w : World) (h : spec_ProductDeterminant.f k a0 a1 = some (r1, r2)) :
  Calls Try.prog 34 #[.int .i64 a0, .int .i64 a1] w fun e w' => e = .returned (.tuple #[.int .i64 r1, .bool r2]) ∧ Drawn0 w w' := by
 have H : (if a0 = 0 then (spec_ProductDeterminant.j0 k a0 a1 true) else ((spec_taAsked.f a0 a1).bind fun t600 => (spec_ProductDeterminant.j0 k a0 a1 (!t600)))) = some (r1, r2) := h; clear h; have HC3 := Aside0.mk H; clear H; go_enter Try.func34, Try.ntmps34
 go_upto_region 1 with (fail)
 go_cut [15] (fun v15 wc => ∃ (kq : Nat) (x15_2 : Bool), v15 = .bool x15_2 ∧ Aside0 (spec_ProductDeterminant.j0 kq a0 a1 x15_2 = some (r1, r2)) ∧ Aside0 (kq ≤ k) ∧ Drawn0 w wc)
 case first =>
  have H := HC3.out; clear HC3
  by_cases c4 : a0 = 0
  ·rw [if_pos c4] at H; have c4b0 := beq_iff_eq.mpr c4; have c4b1 := bne_eq_false_iff_eq.mpr c4; clear c4; (first | rw [c4b0] | (simp only [i64_w, i32_w]; rw [c4b0]) | skip); have H' := Aside0.mk H; clear H; go_wp2; go_meet
   case rel => exact ⟨_, (true), (sr2), H', ⟨by first | omega | exact Nat.le_refl _⟩, by repeat (first | exact Drawn0.refl _ | apply Drawn0.step)⟩
  rw [if_neg c4] at H; have c4b0 := beq_eq_false_iff_ne.mpr c4; have c4b1 := bne_iff_ne.mpr c4; (first | rw [c4b0] | (simp only [i64_w, i32_w]; rw [c4b0]) | skip); obtain ⟨t600, A5, H⟩ := bi H; (try dsimp only at H); have H' := Aside0.mk H; clear H; go_wp2_with (first | (go_at_call 61; (with_reducible refine (spec_taAsked.calls a0 a1 t600 _ A5.out).mono ?_); rintro e w' ⟨rfl, ⟨nd, rfl⟩⟩)); go_meet
  case rel => exact ⟨_, (!t600), (sr2), H', ⟨by first | omega | exact Nat.le_refl _⟩, by repeat (first | exact Drawn0.refl _ | apply Drawn0.step)⟩
 case rest =>
  clear HC3; obtain ⟨kq, x15_2, rfl, HA, HJ2, ⟨mc2, rfl⟩⟩ := hcut
  cases kq with
  | zero => exact absurd HA.out (by simp [spec_ProductDeterminant.j0])
  | succ kj2 =>
   have H := HA.out; clear HA; simp only [spec_ProductDeterminant.j0] at H
   by_cases c6 : x15_2 = true
   ·subst c6; rw [if_pos rfl] at H; simp only [Option.some.injEq, Prod.mk.injEq] at H; obtain ⟨rfl, rfl⟩ := H; go_wp2; go_ret2; exact ⟨sr2, by repeat (first | exact Drawn0.refl _ | apply Drawn0.step)⟩
   replace c6 := Bool.eq_false_iff.mpr c6; subst c6; rw [if_neg (show ¬ (false = true) by decide)] at H; have H' := Aside0.mk H; clear H; go_wp2
   go_loopg [6, 7] kj2 (fun kq v6 v7 w' => ∃ (x6_2 : Int) (x7_2 : Int), v6 = .int .i64 x6_2 ∧ v7 = .int .i64 x7_2 ∧ Aside0 (spec_ProductDeterminant.l0 kq a0 a1 x6_2 x7_2 = some (r1, r2)) ∧ Aside0 (kq ≤ kj2) ∧ Drawn0 w w')
   case atStart => exact ⟨(1), (1), (sr2), (sr2), H', ⟨Nat.le_refl _⟩, by repeat (first | exact Drawn0.refl _ | apply Drawn0.step)⟩
   case round =>
    clear H'; obtain ⟨x6_2, x7_2, rfl, rfl, HA, HK2, ⟨m2, rfl⟩⟩ := hrel
    cases gk with
    | zero => exact absurd HA.out (by simp [spec_ProductDeterminant.l0])
    | succ k2 =>
     have H := HA.out; clear HA; simp only [spec_ProductDeterminant.l0] at H
     by_cases c7 : x7_2 ≤ a0
     ·rw [if_pos c7] at H; have c7b0 := decide_eq_true c7; clear c7; obtain ⟨t601, A8, H⟩ := bi H; (try dsimp only at H); obtain ⟨t602, A9, H⟩ := bi H; (try dsimp only at H); obtain ⟨t603, A10, H⟩ := bi H; (try dsimp only at H); have H' := Aside0.mk H; clear H; go_wp2_with (first | (go_at_call 77; (with_reducible refine (spec_taValue.calls k2 x7_2 a1 t601 _ A8.out).mono ?_); rintro e w' ⟨rfl, ⟨nd, rfl⟩⟩) | (go_at_call 78; (with_reducible refine (spec_taExponent.calls k2 a0 x7_2 t602 _ A9.out).mono ?_); rintro e w' ⟨rfl, ⟨nd, rfl⟩⟩) | (go_at_call 76; (with_reducible refine (spec_taPower.calls k2 t601 t602 t603 _ A10.out).mono ?_); rintro e w' ⟨rfl, ⟨nd, rfl⟩⟩))
      go_roundg k2
      case measure => have := HJ2.out; have := HK2.out; omega
      case rel => exact ⟨(wrap64 (x6_2 * t603)), (wrap64 (x7_2 + 1)), (sr2), (sr2), H', ⟨by have := HJ2.out; have := HK2.out; omega⟩, by repeat (first | exact Drawn0.refl _ | apply Drawn0.step)⟩
     rw [if_neg c7] at H; have c7b0 := decide_eq_false c7; clear c7; simp only [Option.some.injEq, Prod.mk.injEq] at H; obtain ⟨rfl, rfl⟩ := H; go_wp2; go_ret2; exact ⟨sr2, by repeat (first | exact Drawn0.refl _ | apply Drawn0.step)⟩
/-! ### impl_ValueAt: function 35 -/
def impl_ValueAt.f (k : Nat) (a0 : Int) (a1 : Int) : Option (Int × Bool) := (impl_in.f a0 0 10).bind fun t604 => (if t604 = true then ((impl_in.f a1 (-3) 3).bind fun t605 => (if t605 = true then ((impl_value.f k a0 a1).bind fun t606 => (some (t606, true))) else (some (0, false)))) else (some (0, false)))
theorem impl_ValueAt.mono : ∀ a0 a1 k, LeO (impl_ValueAt.f k a0 a1) (impl_ValueAt.f (k + 1) a0 a1) := by
 intro a0 a1 k; unfold impl_ValueAt.f
 repeat' first
   | (with_reducible exact impl_value.mono _ _ _)
   | (with_reducible exact LeO.refl _)
   | (with_reducible exact LeO.none _)
   | (with_reducible refine LeO.ite ?_ ?_)
   | (with_reducible refine LeO.bind ?_ (fun _ => ?_))
   | exact impl_value.mono _ _ _
   | exact LeO.none _
   | refine LeO.ite ?_ ?_
   | refine LeO.bind ?_ (fun _ => ?_)
theorem impl_ValueAt.calls (k : Nat) (a0 : Int) (a1 : Int) (r1 : Int) (r2 : Bool) (w : World) (h : impl_ValueAt.f k a0 a1 = some (r1, r2)) :
  Calls Try.prog 35 #[.int .i64 a0, .int .i64 a1] w fun e w' => e = .returned (.tuple #[.int .i64 r1, .bool r2]) ∧ Drawn0 w w' := by
 have H : ((impl_in.f a0 0 10).bind fun t604 => (if t604 = true then ((impl_in.f a1 (-3) 3).bind fun t605 => (if t605 = true then ((impl_value.f k a0 a1).bind fun t606 => (some (t606, true))) else (some (0, false)))) else (some (0, false)))) = some (r1, r2) := h; clear h; obtain ⟨t604, A3, H⟩ := bi H; (try dsimp only at H)
 by_cases c4 : t604 = true
 ·subst c4; rw [if_pos rfl] at H; obtain ⟨t605, A5, H⟩ := bi H; (try dsimp only at H)
  by_cases c6 : t605 = true
  ·subst c6; rw [if_pos rfl] at H; obtain ⟨t606, A7, H⟩ := bi H; (try dsimp only at H); simp only [Option.some.injEq, Prod.mk.injEq] at H; obtain ⟨rfl, rfl⟩ := H; go_enter Try.func35, Try.ntmps35; go_wp2_with (first | (go_at_call 57; (with_reducible refine (impl_in.calls a0 0 10 true _ A3.out).mono ?_); rintro e w' ⟨rfl, ⟨nd, rfl⟩⟩) | (go_at_call 57; (with_reducible refine (impl_in.calls a1 (-3) 3 true _ A5.out).mono ?_); rintro e w' ⟨rfl, ⟨nd, rfl⟩⟩) | (go_at_call 74; (with_reducible refine (impl_value.calls k a0 a1 t606 _ A7.out).mono ?_); rintro e w' ⟨rfl, ⟨nd, rfl⟩⟩)); go_ret2; exact ⟨sr2, by repeat (first | exact Drawn0.refl _ | apply Drawn0.step)⟩
  replace c6 := Bool.eq_false_iff.mpr c6; subst c6; rw [if_neg (show ¬ (false = true) by decide)] at H; simp only [Option.some.injEq, Prod.mk.injEq] at H; obtain ⟨rfl, rfl⟩ := H; go_enter Try.func35, Try.ntmps35; go_wp2_with (first | (go_at_call 57; (with_reducible refine (impl_in.calls a0 0 10 true _ A3.out).mono ?_); rintro e w' ⟨rfl, ⟨nd, rfl⟩⟩) | (go_at_call 57; (with_reducible refine (impl_in.calls a1 (-3) 3 false _ A5.out).mono ?_); rintro e w' ⟨rfl, ⟨nd, rfl⟩⟩)); go_ret2; exact ⟨sr2, by repeat (first | exact Drawn0.refl _ | apply Drawn0.step)⟩
 replace c4 := Bool.eq_false_iff.mpr c4; subst c4; rw [if_neg (show ¬ (false = true) by decide)] at H; simp only [Option.some.injEq, Prod.mk.injEq] at H; obtain ⟨rfl, rfl⟩ := H; go_enter Try.func35, Try.ntmps35; go_wp2_with (first | (go_at_call 57; (with_reducible refine (impl_in.calls a0 0 10 false _ A3.out).mono ?_); rintro e w' ⟨rfl, ⟨nd, rfl⟩⟩)); go_ret2; exact ⟨sr2, by repeat (first | exact Drawn0.refl _ | apply Drawn0.step)⟩
/-! ### impl_ExponentOf: function 36 -/
def impl_ExponentOf.f (k : Nat) (a0 : Int) (a1 : Int) : Option (Int × Bool) := (impl_in.f a0 1 4).bind fun t607 => (if t607 = true then ((impl_in.f a1 1 a0).bind fun t608 => (if t608 = true then ((impl_exponent.f k a0 a1).bind fun t609 => (some (t609, true))) else (some (0, false)))) else (some (0, false)))
theorem impl_ExponentOf.mono : ∀ a0 a1 k, LeO (impl_ExponentOf.f k a0 a1) (impl_ExponentOf.f (k + 1) a0 a1) := by
 intro a0 a1 k; unfold impl_ExponentOf.f
 repeat' first
   | (with_reducible exact impl_exponent.mono _ _ _)
   | (with_reducible exact LeO.refl _)
   | (with_reducible exact LeO.none _)
   | (with_reducible refine LeO.ite ?_ ?_)
   | (with_reducible refine LeO.bind ?_ (fun _ => ?_))
   | exact impl_exponent.mono _ _ _
   | exact LeO.none _
   | refine LeO.ite ?_ ?_
   | refine LeO.bind ?_ (fun _ => ?_)
theorem impl_ExponentOf.calls (k : Nat) (a0 : Int) (a1 : Int) (r1 : Int) (r2 : Bool) (w : World) (h : impl_ExponentOf.f k a0 a1 = some (r1, r2)) :
  Calls Try.prog 36 #[.int .i64 a0, .int .i64 a1] w fun e w' => e = .returned (.tuple #[.int .i64 r1, .bool r2]) ∧ Drawn0 w w' := by
 have H : ((impl_in.f a0 1 4).bind fun t607 => (if t607 = true then ((impl_in.f a1 1 a0).bind fun t608 => (if t608 = true then ((impl_exponent.f k a0 a1).bind fun t609 => (some (t609, true))) else (some (0, false)))) else (some (0, false)))) = some (r1, r2) := h; clear h; obtain ⟨t607, A3, H⟩ := bi H; (try dsimp only at H)
 by_cases c4 : t607 = true
 ·subst c4; rw [if_pos rfl] at H; obtain ⟨t608, A5, H⟩ := bi H; (try dsimp only at H)
  by_cases c6 : t608 = true
  ·subst c6; rw [if_pos rfl] at H; obtain ⟨t609, A7, H⟩ := bi H; (try dsimp only at H); simp only [Option.some.injEq, Prod.mk.injEq] at H; obtain ⟨rfl, rfl⟩ := H; go_enter Try.func36, Try.ntmps36; go_wp2_with (first | (go_at_call 57; (with_reducible refine (impl_in.calls a0 1 4 true _ A3.out).mono ?_); rintro e w' ⟨rfl, ⟨nd, rfl⟩⟩) | (go_at_call 57; (with_reducible refine (impl_in.calls a1 1 a0 true _ A5.out).mono ?_); rintro e w' ⟨rfl, ⟨nd, rfl⟩⟩) | (go_at_call 75; (with_reducible refine (impl_exponent.calls k a0 a1 t609 _ A7.out).mono ?_); rintro e w' ⟨rfl, ⟨nd, rfl⟩⟩)); go_ret2; exact ⟨sr2, by repeat (first | exact Drawn0.refl _ | apply Drawn0.step)⟩
  replace c6 := Bool.eq_false_iff.mpr c6; subst c6; rw [if_neg (show ¬ (false = true) by decide)] at H; simp only [Option.some.injEq, Prod.mk.injEq] at H; obtain ⟨rfl, rfl⟩ := H; go_enter Try.func36, Try.ntmps36; go_wp2_with (first | (go_at_call 57; (with_reducible refine (impl_in.calls a0 1 4 true _ A3.out).mono ?_); rintro e w' ⟨rfl, ⟨nd, rfl⟩⟩) | (go_at_call 57; (with_reducible refine (impl_in.calls a1 1 a0 false _ A5.out).mono ?_); rintro e w' ⟨rfl, ⟨nd, rfl⟩⟩)); go_ret2; exact ⟨sr2, by repeat (first | exact Drawn0.refl _ | apply Drawn0.step)⟩
 replace c4 := Bool.eq_false_iff.mpr c4; subst c4; rw [if_neg (show ¬ (false = true) by decide)] at H; simp only [Option.some.injEq, Prod.mk.injEq] at H; obtain ⟨rfl, rfl⟩ := H; go_enter Try.func36, Try.ntmps36; go_wp2_with (first | (go_at_call 57; (with_reducible refine (impl_in.calls a0 1 4 false _ A3.out).mono ?_); rintro e w' ⟨rfl, ⟨nd, rfl⟩⟩)); go_ret2; exact ⟨sr2, by repeat (first | exact Drawn0.refl _ | apply Drawn0.step)⟩
/-! ### laws_sPower: function 37 -/
def laws_sPower.l0 : Nat → Int → Int → Int → Option (Int)
 | 0, _, _, _ => none
 | k + 1, x0, x1, x5 => if x1 > 0 then (laws_sPower.l0 k x0 (wrap64 (x1 - 1)) (wrap64 (x5 * x0))) else (some x5)
def laws_sPower.f (k : Nat) (a0 : Int) (a1 : Int) : Option (Int) := laws_sPower.l0 k a0 a1 1
theorem laws_sPower.mono_l : ∀ k, (∀ y0 y1 y2, LeO (laws_sPower.l0 k y0 y1 y2) (laws_sPower.l0 (k + 1) y0 y1 y2))
 | 0 => fun _ _ _ r h => by simp [laws_sPower.l0] at h
 | k + 1 => by
  have ih0 := laws_sPower.mono_l k
  ·intro y0 y1 y2
   unfold laws_sPower.l0
   repeat' first
   | (with_reducible exact ih0 _ _ _)
   | (with_reducible exact LeO.refl _)
   | (with_reducible exact LeO.none _)
   | (with_reducible refine LeO.ite ?_ ?_)
   | (with_reducible refine LeO.bind ?_ (fun _ => ?_))
   | exact ih0 _ _ _
   | exact LeO.none _
   | refine LeO.ite ?_ ?_
   | refine LeO.bind ?_ (fun _ => ?_)
theorem laws_sPower.mono : ∀ a0 a1 k, LeO (laws_sPower.f k a0 a1) (laws_sPower.f (k + 1) a0 a1) := by
 intro a0 a1 k; have ih0 := laws_sPower.mono_l k; unfold laws_sPower.f
 repeat' first
   | (with_reducible exact ih0 _ _ _)
   | (with_reducible exact LeO.refl _)
   | (with_reducible exact LeO.none _)
   | (with_reducible refine LeO.ite ?_ ?_)
   | (with_reducible refine LeO.bind ?_ (fun _ => ?_))
   | exact ih0 _ _ _
   | exact LeO.none _
   | refine LeO.ite ?_ ?_
   | refine LeO.bind ?_ (fun _ => ?_)
theorem laws_sPower.calls (k : Nat) (a0 : Int) (a1 : Int) (r : Int) (w : World) (h : laws_sPower.f k a0 a1 = some r) :
  Calls Try.prog 37 #[.int .i64 a0, .int .i64 a1] w fun e w' => e = .returned (.int .i64 r) ∧ Drawn0 w w' := by
 have H : (laws_sPower.l0 k a0 a1 1) = some r := h; clear h; have H' := Aside0.mk H; clear H; go_enter Try.func37, Try.ntmps37; go_wp2
 go_loopg [1, 5] k (fun kq v1 v5 w' => ∃ (x1_1 : Int) (x5_1 : Int), v1 = .int .i64 x1_1 ∧ v5 = .int .i64 x5_1 ∧ Aside0 (laws_sPower.l0 kq a0 x1_1 x5_1 = some r) ∧ Aside0 (kq ≤ k) ∧ Drawn0 w w')
 case atStart => exact ⟨(a1), (1), (sr2), (sr2), H', ⟨Nat.le_refl _⟩, by repeat (first | exact Drawn0.refl _ | apply Drawn0.step)⟩
 case round =>
  clear H'; obtain ⟨x1_1, x5_1, rfl, rfl, HA, HK1, ⟨m1, rfl⟩⟩ := hrel
  cases gk with
  | zero => exact absurd HA.out (by simp [laws_sPower.l0])
  | succ k1 =>
   have H := HA.out; clear HA; simp only [laws_sPower.l0] at H
   by_cases c3 : x1_1 > 0
   ·rw [if_pos c3] at H; have c3b0 := decide_eq_true c3; clear c3; have H' := Aside0.mk H; clear H; go_wp2
    go_roundg k1
    case measure => have := HK1.out; omega
    case rel => exact ⟨(wrap64 (x1_1 - 1)), (wrap64 (x5_1 * a0)), (sr2), (sr2), H', ⟨by have := HK1.out; omega⟩, by repeat (first | exact Drawn0.refl _ | apply Drawn0.step)⟩
   rw [if_neg c3] at H; have c3b0 := decide_eq_false c3; clear c3; obtain rfl := Option.some.inj H; go_wp2; go_ret; exact ⟨sr2, by repeat (first | exact Drawn0.refl _ | apply Drawn0.step)⟩
/-! ### spec_DrawValueAt: function 38 -/
def spec_DrawValueAt.f (l0 : List Int) : Option (Int × Int) := (spec_l1Cur_pick.f l0 0 0 13).bind fun bt611 => ((spec_l1Cur_pick.f l0 bt611.2.1 bt611.2.2 9).bind fun bt614 => (some (wrap64 (bt611.1 - 1), wrap64 (bt614.1 - 4))))
theorem spec_DrawValueAt.calls (A0 : Option Addr) (c0 : Nat) (l0 : List Int) (r1 : Int) (r2 : Int) (w : World) (hr0 : Kd.C (Kd.int .u8) w A0 l0.length l0) (hc0 : l0.length ≤ c0) (h : spec_DrawValueAt.f l0 = some (r1, r2)) :
  Calls Try.prog 38 #[.slice A0 l0.length c0] w fun e w' => e = .returned (.tuple #[.int .i64 r1, .int .i64 r2]) ∧ Below w.heap.size w w' := by
 have hu57 := Try.underlying57; have HR0 := Aside0.mk hr0; have HC0 := Aside0.mk hc0; clear hr0 hc0; have HB := Aside0.mk (Below.refl w.heap.size w); have H : ((spec_l1Cur_pick.f l0 0 0 13).bind fun bt611 => ((spec_l1Cur_pick.f l0 bt611.2.1 bt611.2.2 9).bind fun bt614 => (some (wrap64 (bt611.1 - 1), wrap64 (bt614.1 - 4))))) = some (r1, r2) := h; clear h; obtain ⟨⟨t611, t612, t613⟩, A2, H⟩ := bi H; (try dsimp only at H); obtain ⟨⟨t614, t615, t616⟩, A3, H⟩ := bi H; (try dsimp only at H); simp only [Option.some.injEq, Prod.mk.injEq] at H; obtain ⟨rfl, rfl⟩ := H; go_enter Try.func38, Try.ntmps38; go_wp2_with (first | ((with_reducible refine gate_dst (N := 7) rfl ?_); refine box_event ?hg (N := 7) ?hd (cs := #[.slice A0 l0.length c0, .int .i64 0, .int .u64 0]) (t := 57) ?hr ?_; (case hd => rfl); (case hg => rfl); (case hr => first | (go_simp; done) | (go_simp; rfl)); intro gb610 hg w4 hbox hb; have HI610 := Aside0.mk ((show IsS57 w w4 gb610 l0 0 0 from ⟨_, _, hbox, (by rw [hg]; exact (below_size (bl HB.out)) : w.heap.size ≤ gb610), HR0.out⟩)); replace HB := bst HB hb; clear hb hbox hg) | (go_at_call 63; (with_reducible refine (spec_l1Cur_pick.calls gb610 l0 0 0 13 t611 t612 t613 w _ ?side1 (bs1 HB.out (IsS57.ge HI610.out)) A2.out).mono ?_); (case side1 => exact iS HI610.out); rintro e w5 ⟨rfl, hi, hb, hk⟩; replace HB := Aside0.mk (hb); replace HI610 := Aside0.mk (hi)) | (go_at_call 63; (with_reducible refine (spec_l1Cur_pick.calls gb610 l0 t612 t613 9 t614 t615 t616 w _ ?side1 (bs1 HB.out (IsS57.ge HI610.out)) A3.out).mono ?_); (case side1 => exact iS HI610.out); rintro e w6 ⟨rfl, hi, hb, hk⟩; replace HB := Aside0.mk (hb); replace HI610 := Aside0.mk (hi))); go_ret2; exact ⟨sr, bs1 HB.out (IsS57.ge HI610.out)⟩
/-! ### spec_ValueAt: function 39 -/
def spec_ValueAt.f (k : Nat) (a0 : Int) (a1 : Int) : Option (Int × Bool) := (spec_l1In.f a0 0 10).bind fun t617 => (if t617 = true then ((spec_l1In.f a1 (-3) 3).bind fun t618 => (if t618 = true then ((spec_taValue.f k a0 a1).bind fun t619 => (some (t619, true))) else (some (0, false)))) else (some (0, false)))
theorem spec_ValueAt.mono : ∀ a0 a1 k, LeO (spec_ValueAt.f k a0 a1) (spec_ValueAt.f (k + 1) a0 a1) := by
 intro a0 a1 k; unfold spec_ValueAt.f
 repeat' first
   | (with_reducible exact spec_taValue.mono _ _ _)
   | (with_reducible exact LeO.refl _)
   | (with_reducible exact LeO.none _)
   | (with_reducible refine LeO.ite ?_ ?_)
   | (with_reducible refine LeO.bind ?_ (fun _ => ?_))
   | exact spec_taValue.mono _ _ _
   | exact LeO.none _
   | refine LeO.ite ?_ ?_
   | refine LeO.bind ?_ (fun _ => ?_)
theorem spec_ValueAt.calls (k : Nat) (a0 : Int) (a1 : Int) (r1 : Int) (r2 : Bool) (w : World) (h : spec_ValueAt.f k a0 a1 = some (r1, r2)) :
  Calls Try.prog 39 #[.int .i64 a0, .int .i64 a1] w fun e w' => e = .returned (.tuple #[.int .i64 r1, .bool r2]) ∧ Drawn0 w w' := by
 have H : ((spec_l1In.f a0 0 10).bind fun t617 => (if t617 = true then ((spec_l1In.f a1 (-3) 3).bind fun t618 => (if t618 = true then ((spec_taValue.f k a0 a1).bind fun t619 => (some (t619, true))) else (some (0, false)))) else (some (0, false)))) = some (r1, r2) := h; clear h; obtain ⟨t617, A3, H⟩ := bi H; (try dsimp only at H)
 by_cases c4 : t617 = true
 ·subst c4; rw [if_pos rfl] at H; obtain ⟨t618, A5, H⟩ := bi H; (try dsimp only at H)
  by_cases c6 : t618 = true
  ·subst c6; rw [if_pos rfl] at H; obtain ⟨t619, A7, H⟩ := bi H; (try dsimp only at H); simp only [Option.some.injEq, Prod.mk.injEq] at H; obtain ⟨rfl, rfl⟩ := H; go_enter Try.func39, Try.ntmps39; go_wp2_with (first | (go_at_call 79; (with_reducible refine (spec_l1In.calls a0 0 10 true _ A3.out).mono ?_); rintro e w' ⟨rfl, ⟨nd, rfl⟩⟩) | (go_at_call 79; (with_reducible refine (spec_l1In.calls a1 (-3) 3 true _ A5.out).mono ?_); rintro e w' ⟨rfl, ⟨nd, rfl⟩⟩) | (go_at_call 77; (with_reducible refine (spec_taValue.calls k a0 a1 t619 _ A7.out).mono ?_); rintro e w' ⟨rfl, ⟨nd, rfl⟩⟩)); go_ret2; exact ⟨sr2, by repeat (first | exact Drawn0.refl _ | apply Drawn0.step)⟩
  replace c6 := Bool.eq_false_iff.mpr c6; subst c6; rw [if_neg (show ¬ (false = true) by decide)] at H; simp only [Option.some.injEq, Prod.mk.injEq] at H; obtain ⟨rfl, rfl⟩ := H; go_enter Try.func39, Try.ntmps39; go_wp2_with (first | (go_at_call 79; (with_reducible refine (spec_l1In.calls a0 0 10 true _ A3.out).mono ?_); rintro e w' ⟨rfl, ⟨nd, rfl⟩⟩) | (go_at_call 79; (with_reducible refine (spec_l1In.calls a1 (-3) 3 false _ A5.out).mono ?_); rintro e w' ⟨rfl, ⟨nd, rfl⟩⟩)); go_ret2; exact ⟨sr2, by repeat (first | exact Drawn0.refl _ | apply Drawn0.step)⟩
 replace c4 := Bool.eq_false_iff.mpr c4; subst c4; rw [if_neg (show ¬ (false = true) by decide)] at H; simp only [Option.some.injEq, Prod.mk.injEq] at H; obtain ⟨rfl, rfl⟩ := H; go_enter Try.func39, Try.ntmps39; go_wp2_with (first | (go_at_call 79; (with_reducible refine (spec_l1In.calls a0 0 10 false _ A3.out).mono ?_); rintro e w' ⟨rfl, ⟨nd, rfl⟩⟩)); go_ret2; exact ⟨sr2, by repeat (first | exact Drawn0.refl _ | apply Drawn0.step)⟩
/-! ### spec_DrawExponentOf: function 40 -/
def spec_DrawExponentOf.f (l0 : List Int) : Option (Int × Int) := (spec_l1Cur_pick.f l0 0 0 6).bind fun bt621 => ((spec_l1Cur_pick.f l0 bt621.2.1 bt621.2.2 9).bind fun bt624 => ((spec_l1Cur_pick.f l0 bt624.2.1 bt624.2.2 6).bind fun bt627 => (some (wrap64 (bt621.1 - (wrap64 (Int.tdiv bt624.1 8))), bt627.1))))
theorem spec_DrawExponentOf.calls (A0 : Option Addr) (c0 : Nat) (l0 : List Int) (r1 : Int) (r2 : Int) (w : World) (hr0 : Kd.C (Kd.int .u8) w A0 l0.length l0) (hc0 : l0.length ≤ c0) (h : spec_DrawExponentOf.f l0 = some (r1, r2)) :
  Calls Try.prog 40 #[.slice A0 l0.length c0] w fun e w' => e = .returned (.tuple #[.int .i64 r1, .int .i64 r2]) ∧ Below w.heap.size w w' := by
 have hu57 := Try.underlying57; have HR0 := Aside0.mk hr0; have HC0 := Aside0.mk hc0; clear hr0 hc0; have HB := Aside0.mk (Below.refl w.heap.size w); have H : ((spec_l1Cur_pick.f l0 0 0 6).bind fun bt621 => ((spec_l1Cur_pick.f l0 bt621.2.1 bt621.2.2 9).bind fun bt624 => ((spec_l1Cur_pick.f l0 bt624.2.1 bt624.2.2 6).bind fun bt627 => (some (wrap64 (bt621.1 - (wrap64 (Int.tdiv bt624.1 8))), bt627.1))))) = some (r1, r2) := h; clear h; obtain ⟨⟨t621, t622, t623⟩, A2, H⟩ := bi H; (try dsimp only at H); obtain ⟨⟨t624, t625, t626⟩, A3, H⟩ := bi H; (try dsimp only at H); obtain ⟨⟨t627, t628, t629⟩, A4, H⟩ := bi H; (try dsimp only at H); simp only [Option.some.injEq, Prod.mk.injEq] at H; obtain ⟨rfl, rfl⟩ := H; go_enter Try.func40, Try.ntmps40; go_wp2_with (first | ((with_reducible refine gate_dst (N := 7) rfl ?_); refine box_event ?hg (N := 7) ?hd (cs := #[.slice A0 l0.length c0, .int .i64 0, .int .u64 0]) (t := 57) ?hr ?_; (case hd => rfl); (case hg => rfl); (case hr => first | (go_simp; done) | (go_simp; rfl)); intro gb620 hg w5 hbox hb; have HI620 := Aside0.mk ((show IsS57 w w5 gb620 l0 0 0 from ⟨_, _, hbox, (by rw [hg]; exact (below_size (bl HB.out)) : w.heap.size ≤ gb620), HR0.out⟩)); replace HB := bst HB hb; clear hb hbox hg) | ((with_reducible refine gate_callee (f := 63) rfl ?_); refine goesL_ (some 9) rfl rfl Try.func63 (by kernel_rfl) rfl #[.pointer (some ⟨gb620, 0, none⟩), .int .i64 6] rfl mp ?_; (with_reducible refine (spec_l1Cur_pick.calls gb620 l0 0 0 6 t621 t622 t623 w _ ?side1 ?side2 A2.out).mono ?_); (case side1 => exact iS HI620.out); (case side2 => exact bs1 HB.out (IsS57.ge HI620.out)); rintro e w6 ⟨rfl, hi, hb, hk⟩; refine ⟨_, rfl, ?_⟩; replace HB := Aside0.mk (hb); replace HI620 := Aside0.mk (hi)) | ((with_reducible refine gate_callee (f := 63) rfl ?_); refine goesL_ (some 11) rfl rfl Try.func63 (by kernel_rfl) rfl #[.pointer (some ⟨gb620, 0, none⟩), .int .i64 9] rfl mp ?_; (with_reducible refine (spec_l1Cur_pick.calls gb620 l0 t622 t623 9 t624 t625 t626 w _ ?side1 ?side2 A3.out).mono ?_); (case side1 => exact iS HI620.out); (case side2 => exact bs1 HB.out (IsS57.ge HI620.out)); rintro e w7 ⟨rfl, hi, hb, hk⟩; refine ⟨_, rfl, ?_⟩; replace HB := Aside0.mk (hb); replace HI620 := Aside0.mk (hi)) | ((with_reducible refine gate_callee (f := 63) rfl ?_); refine goesL_ (some 15) rfl rfl Try.func63 (by kernel_rfl) rfl #[.pointer (some ⟨gb620, 0, none⟩), .int .i64 6] rfl mp ?_; (with_reducible refine (spec_l1Cur_pick.calls gb620 l0 t625 t626 6 t627 t628 t629 w _ ?side1 ?side2 A4.out).mono ?_); (case side1 => exact iS HI620.out); (case side2 => exact bs1 HB.out (IsS57.ge HI620.out)); rintro e w8 ⟨rfl, hi, hb, hk⟩; refine ⟨_, rfl, ?_⟩; replace HB := Aside0.mk (hb); replace HI620 := Aside0.mk (hi))); go_ret2; exact ⟨sr, bs1 HB.out (IsS57.ge HI620.out)⟩
/-! ### spec_ExponentOf: function 41 -/
def spec_ExponentOf.f (k : Nat) (a0 : Int) (a1 : Int) : Option (Int × Bool) := (spec_l1In.f a0 1 4).bind fun t630 => (if t630 = true then ((spec_l1In.f a1 1 a0).bind fun t631 => (if t631 = true then ((spec_taExponent.f k a0 a1).bind fun t632 => (some (t632, true))) else (some (0, false)))) else (some (0, false)))
theorem spec_ExponentOf.mono : ∀ a0 a1 k, LeO (spec_ExponentOf.f k a0 a1) (spec_ExponentOf.f (k + 1) a0 a1) := by
 intro a0 a1 k; unfold spec_ExponentOf.f
 repeat' first
   | (with_reducible exact spec_taExponent.mono _ _ _)
   | (with_reducible exact LeO.refl _)
   | (with_reducible exact LeO.none _)
   | (with_reducible refine LeO.ite ?_ ?_)
   | (with_reducible refine LeO.bind ?_ (fun _ => ?_))
   | exact spec_taExponent.mono _ _ _
   | exact LeO.none _
   | refine LeO.ite ?_ ?_
   | refine LeO.bind ?_ (fun _ => ?_)
theorem spec_ExponentOf.calls (k : Nat) (a0 : Int) (a1 : Int) (r1 : Int) (r2 : Bool) (w : World) (h : spec_ExponentOf.f k a0 a1 = some (r1, r2)) :
  Calls Try.prog 41 #[.int .i64 a0, .int .i64 a1] w fun e w' => e = .returned (.tuple #[.int .i64 r1, .bool r2]) ∧ Drawn0 w w' := by
 have H : ((spec_l1In.f a0 1 4).bind fun t630 => (if t630 = true then ((spec_l1In.f a1 1 a0).bind fun t631 => (if t631 = true then ((spec_taExponent.f k a0 a1).bind fun t632 => (some (t632, true))) else (some (0, false)))) else (some (0, false)))) = some (r1, r2) := h; clear h; obtain ⟨t630, A3, H⟩ := bi H; (try dsimp only at H)
 by_cases c4 : t630 = true
 ·subst c4; rw [if_pos rfl] at H; obtain ⟨t631, A5, H⟩ := bi H; (try dsimp only at H)
  by_cases c6 : t631 = true
  ·subst c6; rw [if_pos rfl] at H; obtain ⟨t632, A7, H⟩ := bi H; (try dsimp only at H); simp only [Option.some.injEq, Prod.mk.injEq] at H; obtain ⟨rfl, rfl⟩ := H; go_enter Try.func41, Try.ntmps41; go_wp2_with (first | (go_at_call 79; (with_reducible refine (spec_l1In.calls a0 1 4 true _ A3.out).mono ?_); rintro e w' ⟨rfl, ⟨nd, rfl⟩⟩) | (go_at_call 79; (with_reducible refine (spec_l1In.calls a1 1 a0 true _ A5.out).mono ?_); rintro e w' ⟨rfl, ⟨nd, rfl⟩⟩) | (go_at_call 78; (with_reducible refine (spec_taExponent.calls k a0 a1 t632 _ A7.out).mono ?_); rintro e w' ⟨rfl, ⟨nd, rfl⟩⟩)); go_ret2; exact ⟨sr2, by repeat (first | exact Drawn0.refl _ | apply Drawn0.step)⟩
  replace c6 := Bool.eq_false_iff.mpr c6; subst c6; rw [if_neg (show ¬ (false = true) by decide)] at H; simp only [Option.some.injEq, Prod.mk.injEq] at H; obtain ⟨rfl, rfl⟩ := H; go_enter Try.func41, Try.ntmps41; go_wp2_with (first | (go_at_call 79; (with_reducible refine (spec_l1In.calls a0 1 4 true _ A3.out).mono ?_); rintro e w' ⟨rfl, ⟨nd, rfl⟩⟩) | (go_at_call 79; (with_reducible refine (spec_l1In.calls a1 1 a0 false _ A5.out).mono ?_); rintro e w' ⟨rfl, ⟨nd, rfl⟩⟩)); go_ret2; exact ⟨sr2, by repeat (first | exact Drawn0.refl _ | apply Drawn0.step)⟩
 replace c4 := Bool.eq_false_iff.mpr c4; subst c4; rw [if_neg (show ¬ (false = true) by decide)] at H; simp only [Option.some.injEq, Prod.mk.injEq] at H; obtain ⟨rfl, rfl⟩ := H; go_enter Try.func41, Try.ntmps41; go_wp2_with (first | (go_at_call 79; (with_reducible refine (spec_l1In.calls a0 1 4 false _ A3.out).mono ?_); rintro e w' ⟨rfl, ⟨nd, rfl⟩⟩)); go_ret2; exact ⟨sr2, by repeat (first | exact Drawn0.refl _ | apply Drawn0.step)⟩
/-! ### impl_isListed: function 80 -/
def impl_isListed.f (a0 : Int) : Option (Bool) := (impl_in.f a0 0 4).bind fun t633 => (some t633)
theorem impl_isListed.calls (a0 : Int) (r : Bool) (w : World) (h : impl_isListed.f a0 = some r) :
  Calls Try.prog 80 #[.int .i64 a0] w fun e w' => e = .returned (.bool r) ∧ Drawn0 w w' := by
 have H : ((impl_in.f a0 0 4).bind fun t633 => (some t633)) = some r := h; clear h; obtain ⟨t633, A2, H⟩ := bi H; (try dsimp only at H); obtain rfl := Option.some.inj H; go_enter Try.func80, Try.ntmps80; go_wp2_with (first | (go_at_call 57; (with_reducible refine (impl_in.calls a0 0 4 t633 _ A2.out).mono ?_); rintro e w' ⟨rfl, ⟨nd, rfl⟩⟩)); go_ret; exact ⟨sr2, by repeat (first | exact Drawn0.refl _ | apply Drawn0.step)⟩
end Go.Proofs.Ytbphdjnainlbhaa.R
