-- printed by wip/drv/xprint.py (our driver), shortened by wip/drv/squeeze.py: those functions that the claim reaches; Lean checks it
import Derived.Test.YtldbkkfkgfacdaaQA2
namespace Go.Proofs.Ytldbkkfkgfacdaa.P
open Go.Proofs.Ytldbkkfkgfacdaa.Short Go.RowKit Go.Proofs.YtldbkkfkgfacdaaW.PrintWords Go.Proofs.YtldbkkfkgfacdaaW.PrintLast Go.Proofs.YtldbkkfkgfacdaaW.PrintMore
attribute [local go_sem] max2_int min2_int max_two min_two max_three min_three max_four min_four   -- for this text's walks alone
set_option linter.unusedVariables false
set_option linter.unusedSimpArgs false



set_option maxHeartbeats 8000000
set_option maxRecDepth 100000
/-! ### slices_Repeat_int_int: function 105 -/
def slices_Repeat_int_int.f (l0 : List Int) (a1 : Int) : Option (List Int) := if l0.length = 1 ∧ 0 ≤ a1 ∧ a1 ≤ 64 then some (List.replicate a1.toNat (l0.getD 0 0)) else none
theorem slices_Repeat_int_int.mul : ∀ m : Fin 65, bits_Mul.f 1 (m.val : Int) = some (0, (m.val : Int)) := by decide +kernel
def slices_Repeat_int_int.lay (x : Int) (m n : Nat) : List Int := List.replicate m x ++ List.replicate (n - m) 0
/-- A copy within one row of the call's own, as one step of a region that draws. -/
theorem step_copy_own {P : Program} {ops : Array Oper} {o : Oper} {a : Act} {w : World} {K : Act → World → Prop} {Q : Exit → Act → World → Prop} {E : Prop} (hgd : o.guard = none) (d s : Operand) (dT sT : TypeId)
    (ho : o.op = .call { callee := .builtin .copy, args := #[d, s], argTypes := #[dT, sT] }) (elem : TypeId) (hu : P.underlying dT = some (.slice elem)) (hsz : (P.info? elem).map (·.size) = some 1)
    (g off dLen dCap : Nat) (ad : Addr) (sLen sCap : Nat) (hd : a.eval d = .slice (some ⟨g, off, none⟩) dLen dCap) (hs : a.eval s = .slice (some ad) sLen sCap)
    (cur : Array Value) (t : TypeId) (hg : w.heap[g]? = some (.cells cur t (0, 0))) (cs : List Value) (hn : cs.length = Nat.min sLen dLen)
    (hsrc : ∀ j v, cs[j]? = some v → w.cell? (ad.add j) = some v) (hfit : off + cs.length ≤ cur.size) (h1 : ∀ v ∈ cs, v.oneCell' = true)
    (h : ∀ w1, w1 = w.setRow g (cur.toList.take off ++ cs ++ cur.toList.drop (off + cs.length)).toArray → K (a.put o.dst (goInt cs.length)) w1) :
    if Region.wanted o (yielded ops a.tmps) = true then Oper.wp P o a w K Q else E := by
  have hw : Region.wanted o (yielded ops a.tmps) = true := by simp [Region.wanted, hgd]
  rw [if_pos hw]
  have hrun := run_copy_row (P := P) w dT sT o.type elem g off dLen dCap ad sLen sCap cur t cs hu hsz hg hn hsrc hfit h1
  have h' := h _ rfl
  unfold Oper.wp
  simp only [execOp, ho, resolve, invoke, builtin, List.map_toArray, List.map_cons, List.map_nil, hd, hs, Sem.run_bind, Sem.run_pure, hrun, Result.andThen_ok]
  exact h'
theorem slices_Repeat_int_int.row (x : Int) (m n : Nat) (h1 : 1 ≤ m) (h2 : m ≤ n) : (nums .i64 (slices_Repeat_int_int.lay x m n)).take m ++ (nums .i64 (slices_Repeat_int_int.lay x m n)).take (min m (n - m)) ++ (nums .i64 (slices_Repeat_int_int.lay x m n)).drop (m + min m (n - m)) = nums .i64 (slices_Repeat_int_int.lay x (m + min m (n - m)) n) := by
  unfold slices_Repeat_int_int.lay nums
  simp only [List.map_append, List.map_replicate]
  rw [List.take_append_of_le_length (by simp), List.take_append_of_le_length (by simp; omega), List.drop_append]
  simp only [List.take_replicate, List.drop_replicate, List.length_replicate, Nat.min_self]
  rw [show m - (m + min m (n - m)) = 0 by omega, List.replicate_zero, List.nil_append]
  congr 1
  · rw [← List.replicate_append_replicate]; simp
  · congr 1; omega
theorem slices_Repeat_int_int.cells {x : Int} {n g : Nat} {W : World} {base : Nat} (h : W.ownsRow base 3 1 (.slice (some ⟨g, 0, none⟩) n n) n (madeCells (Value.int .i64 0).cells (n * 1)).toList) : W.heap[g]? = some (.cells (nums .i64 (slices_Repeat_int_int.lay x 0 n)).toArray 3 (0, 0)) := by
  obtain ⟨_, h2⟩ := h
  rcases h2 with ⟨h2, _⟩ | ⟨g', cap, cur, e1, _, hh, _, _, hs, ht⟩
  · cases h2
  · injection e1 with e2 _ e3
    injection e2 with e4
    injection e4 with e5
    subst e5 e3
    rw [hh]
    have e6 : (madeCells (Value.int .i64 0).cells (n * 1)).toList = List.replicate n (.int .i64 0) := by
      rw [Nat.mul_one]; exact toList_madeCells_one _ n
    rw [e6, List.take_of_length_le (by simp [hs])] at ht
    have e7 : cur = (nums .i64 (slices_Repeat_int_int.lay x 0 n)).toArray := by
      apply Array.toList_inj.1
      rw [ht]; simp [nums, slices_Repeat_int_int.lay]
    rw [e7]
theorem slices_Repeat_int_int.src {x : Int} {n : Nat} {ad : Addr} {W : World} (h : W.cell? ad = some (.int .i64 x)) {j : Nat} {v : Value} (hj : ((nums .i64 [x]).take (min 1 n))[j]? = some v) : W.cell? (ad.add j) = some v := by
  have hj0 : j = 0 := by
    have := (List.getElem?_eq_some_iff.1 hj).1
    simp [nums] at this; omega
  subst hj0
  have e : v = .int .i64 x := by
    have := List.mem_of_mem_take (List.mem_of_getElem? hj)
    simpa [nums] using this
  subst e
  simpa [Addr.add] using h
theorem slices_Repeat_int_int.len (x : Int) (n : Nat) : (goInt ((nums .i64 [x]).take (min 1 n)).length) = .int .i64 ((min 1 n : Nat) : Int) := by
  simp [nums, goInt]
  try omega
theorem slices_Repeat_int_int.len0 (x : Int) (n : Nat) : ((nums .i64 [x]).take (min 1 n)).length = Nat.min 1 n := by
  simp only [nums, List.map_cons, List.map_nil, List.length_take, List.length_cons, List.length_nil]
  have : Nat.min 1 n = min 1 n := rfl
  omega
theorem slices_Repeat_int_int.fit (x : Int) (n : Nat) : 0 + ((nums .i64 [x]).take (min 1 n)).length ≤ (nums .i64 (slices_Repeat_int_int.lay x 0 n)).length := by
  simp only [nums, slices_Repeat_int_int.lay, List.map_cons, List.map_nil, List.length_take, List.length_cons, List.length_nil, List.length_map, List.length_append, List.length_replicate]
  omega
theorem slices_Repeat_int_int.one (x : Int) (n : Nat) : ∀ v ∈ (nums .i64 [x]).take (min 1 n), v.oneCell' = true := by
  intro v hv
  have := List.mem_of_mem_take hv
  simp [nums] at this
  subst this
  rfl
theorem slices_Repeat_int_int.size {i0 : TypeInfo} (h : Try.prog.info? 3 = some i0) (h1 : i0.size = 1) : (Try.prog.info? 3).map (·.size) = some 1 := by rw [h]; simp [h1]
theorem slices_Repeat_int_int.first (x : Int) (n : Nat) : splice (nums .i64 (slices_Repeat_int_int.lay x 0 n)) 0 ((nums .i64 [x]).take (min 1 n)) = nums .i64 (slices_Repeat_int_int.lay x (min 1 n) n) := by
  cases n with
  | zero => rfl
  | succ n =>
    have : min 1 (n + 1) = 1 := by omega
    rw [this]
    simp [splice, nums, slices_Repeat_int_int.lay, List.replicate_succ]
theorem slices_Repeat_int_int.wrapq (m q : Nat) (h : m + q ≤ 64) : IntKind.i64.wrap ((m : Int) + (q : Int)) = ((m + q : Nat) : Int) := by
  rw [i64_w]; unfold wrap64; omega
theorem slices_Repeat_int_int.done {x : Int} {n g : Nat} {w W : World} (hn : n ≤ 64) (hg : W.heap[g]? = some (.cells (nums .i64 (slices_Repeat_int_int.lay x n n)).toArray 3 (0, 0))) (hb : w.heap.size ≤ g) :
    Kd.R (Kd.int .i64) 3 W w.heap.size (fun _ => True) (.slice (some ⟨g, 0, none⟩) n n) (List.replicate n x) := by
  refine Kd.R_of_own ?_ (fun _ _ => trivial)
  refine ⟨by simp [encs], .inr ⟨g, n, _, by simp, hb, hg, by simp, by unfold maxLen; omega, by simp [nums, slices_Repeat_int_int.lay], ?_⟩⟩
  simp [nums, slices_Repeat_int_int.lay, encs]
theorem slices_Repeat_int_int.src2 {x : Int} {m n g : Nat} {W : World} (h1 : m ≤ n) (hg : W.heap[g]? = some (.cells (nums .i64 (slices_Repeat_int_int.lay x m n)).toArray 3 (0, 0))) {j : Nat} {v : Value} (hj : ((nums .i64 (slices_Repeat_int_int.lay x m n)).take (min m (n - m)))[j]? = some v) :
    W.cell? ((⟨g, 0, none⟩ : Addr).add j) = some v := by
  have hlt := (List.getElem?_eq_some_iff.1 hj).1
  rw [List.length_take] at hlt
  rw [List.getElem?_take_of_lt (by omega)] at hj
  have e : (⟨g, 0, none⟩ : Addr).add j = ⟨g, j, none⟩ := by unfold Addr.add; split <;> simp_all
  rw [e]
  simp only [World.cell?, hg]
  simpa using hj
theorem slices_Repeat_int_int.len2 (x : Int) (m n : Nat) (h1 : m ≤ n) : ((nums .i64 (slices_Repeat_int_int.lay x m n)).take (min m (n - m))).length = Nat.min m (n - m) := by
  simp only [nums, slices_Repeat_int_int.lay, List.length_take, List.length_map, List.length_append, List.length_replicate]
  have : Nat.min m (n - m) = min m (n - m) := rfl
  omega
theorem slices_Repeat_int_int.one2 (x : Int) (m n q : Nat) : ∀ v ∈ (nums .i64 (slices_Repeat_int_int.lay x m n)).take q, v.oneCell' = true := by
  intro v hv
  have := List.mem_of_mem_take hv
  simp only [nums, List.mem_map] at this
  obtain ⟨y, _, rfl⟩ := this
  rfl
theorem slices_Repeat_int_int.fit2 (x : Int) (m n : Nat) (h1 : m ≤ n) : m + ((nums .i64 (slices_Repeat_int_int.lay x m n)).take (min m (n - m))).length ≤ (nums .i64 (slices_Repeat_int_int.lay x m n)).toArray.size := by
  rw [slices_Repeat_int_int.len2 x m n h1]
  have : Nat.min m (n - m) = min m (n - m) := rfl
  simp only [nums, slices_Repeat_int_int.lay, List.size_toArray, List.length_map, List.length_append, List.length_replicate]
  omega
theorem slices_Repeat_int_int.next {x : Int} {m n q g : Nat} {W w1 : World} {cs : List Value} (hg : W.heap[g]? = some (.cells (nums .i64 (slices_Repeat_int_int.lay x m n)).toArray 3 (0, 0)))
    (hr : (nums .i64 (slices_Repeat_int_int.lay x m n)).take m ++ cs ++ (nums .i64 (slices_Repeat_int_int.lay x m n)).drop (m + q) = nums .i64 (slices_Repeat_int_int.lay x (m + q) n)) (hq : q = cs.length)
    (hw : w1 = W.drew.setRow g ((nums .i64 (slices_Repeat_int_int.lay x m n)).toArray.toList.take m ++ cs ++ (nums .i64 (slices_Repeat_int_int.lay x m n)).toArray.toList.drop (m + cs.length)).toArray) :
    w1.heap[g]? = some (.cells (nums .i64 (slices_Repeat_int_int.lay x (m + q) n)).toArray 3 (0, 0)) := by
  rw [hw, setRow_heap W.drew g _ _ 3 (0, 0) hg, ← hr, hq]
theorem slices_Repeat_int_int.below {w W w1 : World} {g : Nat} {cs : Array Value} (hb : Below w.heap.size w W) (hg : w.heap.size ≤ g) (hw : w1 = W.drew.setRow g cs) : Below w.heap.size w w1 := by
  rw [hw]; exact below_setRow (below_drew hb) hg cs
theorem slices_Repeat_int_int.calls (A0 : Option Addr) (c0 : Nat) (l0 : List Int) (a1 : Int) (r : List Int) (w : World) (hr0 : Kd.C (Kd.int .i64) w A0 l0.length l0) (hc0 : l0.length ≤ c0) (h : slices_Repeat_int_int.f l0 a1 = some r) :
    Calls Try.prog 105 #[.slice A0 l0.length c0, .int .i64 a1] w fun e w' => ∃ v0_ : Value, e = .returned (v0_) ∧ Kd.R (Kd.int .i64) 3 w' w.heap.size (fun _ => True) v0_ r ∧ Below w.heap.size w w' := by
  obtain ⟨x, n, rfl, rfl, hle, rfl⟩ : ∃ (x : Int) (n : Nat), l0 = [x] ∧ a1 = (n : Int) ∧ n ≤ 64 ∧ r = List.replicate n x := by
    unfold slices_Repeat_int_int.f at h
    split at h
    · rename_i hc
      obtain ⟨h1, h2, h3⟩ := hc
      obtain ⟨x, rfl⟩ : ∃ x, l0 = [x] := by
        match l0, h1 with
        | [x], _ => exact ⟨x, rfl⟩
      exact ⟨x, a1.toNat, rfl, by omega, by omega, (Option.some.inj h).symm⟩
    · cases h
  clear h
  have hm := slices_Repeat_int_int.mul ⟨n, by omega⟩
  simp only at hm
  obtain ⟨ad, c, rfl, hcl, hK, hcell⟩ := Kd.C_get hr0 (0 : Int) 0 (by omega) (by simp)
  have hc1 : c = [.int .i64 x] := hK
  subst hc1
  have hcc : w.cell? ad = some (.int .i64 x) := by
    have e := hcell 0 _ rfl
    simpa [Addr.add] using e
  obtain ⟨i0, hi, hzz⟩ := Option.map_eq_some_iff.1 info3
  simp only [Prod.mk.injEq] at hzz
  obtain ⟨hz0, hz1, hz2⟩ := hzz
  have HI := Aside0.mk hi
  have HZ0 := Aside0.mk hz0
  have HZ1 := Aside0.mk hz1
  have HZ2 := Aside0.mk hz2
  have HM := Aside0.mk hm
  have HCC := Aside0.mk hcc
  have HLT := Aside0.mk (World.block_lt_of_cell? _ _ hcc)
  have HC0 := Aside0.mk hc0
  clear hi hz0 hz1 hz2 hm hcc hcell hK hcl hr0 hc0
  have hu0_ := Try.underlying24
  have hn0 : (0 : Int) ≤ (n : Int) := by omega
  have hn1 : (n : Int) ≤ 64 := by omega
  go_enter Try.func105, Try.ntmps105
  go_wp2_with (first
    | (go_at_call 122; refine (bits_Mul.calls 1 (n : Int) 0 (n : Int) _ HM.out).mono ?_; rintro e w' ⟨rfl, ⟨nd, rfl⟩⟩)
    | ((with_reducible refine gate_dst (N := 30) rfl ?_); go_must (refine wpList_make_full _ rfl (.tmp 29) (.tmp 29) 24 rfl w.heap.size 3 i0 (.int .i64 0) 1 Try.underlying24 HI.out HZ0.out HZ1.out .i64 .i64 n n n rfl rfl rfl rfl ?b2 ?b3 ?b4 ?K
                                                                   case b2 => rw [HZ2.out]; omega
                                                                   case b3 => unfold maxLen; omega
                                                                   case b4 => simp
                                                                   intro w2 hown hgr
                                                                   obtain ⟨g, hg⟩ : ∃ g, g = (w.drewN nd).heap.size := ⟨_, rfl⟩
                                                                   rw [← hg] at hown ⊢
                                                                   have HGE := Aside0.mk (show w.heap.size ≤ g by rw [hg]; exact Nat.le_refl _)
                                                                   have HB := Aside0.mk (pw_below_grown (pw_below_drewN (Below.refl w.heap.size w) nd) none (Nat.le_refl _) hgr (by simp))
                                                                   have HG := Aside0.mk (slices_Repeat_int_int.cells (x := x) hown)
                                                                   have HCW := Aside0.mk ((HB.out.cell (p := ad) HLT.out).trans HCC.out)
                                                                   clear hg hown hgr))
    | ((with_reducible refine gate_dst (N := 33) rfl ?_); go_must (refine wpList_copy_splice rfl (.tmp 31) (.tmp 32) 24 24 rfl 3 Try.underlying24 ?hsz (some ⟨g, 0, none⟩) (some ad) n n 1 c0 ?e1 ?e2 g 0 (nums .i64 (slices_Repeat_int_int.lay x 0 n)) 3 HG.out ((nums .i64 [x]).take (min 1 n)) ?hn ?hpos ?hfit ?h1 w.heap.size w HB.out HGE.out ?_
                                                                   case hsz => exact slices_Repeat_int_int.size HI.out HZ1.out
                                                                   case e1 => rfl
                                                                   case e2 => rfl
                                                                   case hn => exact slices_Repeat_int_int.len0 x n
                                                                   case hpos => intro _; refine ⟨rfl, ad, rfl, ?_⟩; intro j v hj; exact slices_Repeat_int_int.src (HCW.out) hj
                                                                   case hfit => exact slices_Repeat_int_int.fit x n
                                                                   case h1 => exact slices_Repeat_int_int.one x n
                                                                   intro w3 hg3 hb3
                                                                   have HG3 := Aside0.mk (show w3.heap[g]? = some (.cells (nums .i64 (slices_Repeat_int_int.lay x (min 1 n) n)).toArray 3 (0, 0)) by rw [← slices_Repeat_int_int.first]; exact hg3.out)
                                                                   have HB3 := Aside0.mk hb3
                                                                   clear hg3 hb3 HG HB HCW
                                                                   rw [show (goInt ((nums .i64 [x]).take (min 1 n)).length) = .int .i64 ((min 1 n : Nat) : Int) from slices_Repeat_int_int.len x n]))
    | fail)
  go_loopw [8] (fun v8 w' => ∃ m : Nat, v8 = .int .i64 (m : Int) ∧ Aside0 (m ≤ n ∧ (1 ≤ m ∨ n = 0)) ∧ Aside0 (w'.heap[g]? = some (.cells (nums .i64 (slices_Repeat_int_int.lay x m n)).toArray 3 (0, 0))) ∧ Aside0 (Below w.heap.size w w')) (fun v8 _ => n - (intOf v8).toNat)
  case atStart => exact ⟨min 1 n, rfl, ⟨by omega⟩, HG3, HB3⟩
  case round =>
    obtain ⟨m, rfl, HMN, HGm, HBm⟩ := hrel
    by_cases hlt : m < n
    · have h1m : 1 ≤ m := by have := HMN.out; omega
      have hmi : (m : Int) < (n : Int) := by omega
      have hmi2 : (m : Int) ≤ (n : Int) := by omega
      have hnm : ¬ n = m := by omega
      obtain ⟨cs, hcs⟩ : ∃ cs, cs = (nums .i64 (slices_Repeat_int_int.lay x m n)).take (min m (n - m)) := ⟨_, rfl⟩
      have L1 := slices_Repeat_int_int.len2 x m n (by omega)
      have L2 : ∀ j v, cs[j]? = some v → wr.cell? ((⟨g, 0, none⟩ : Addr).add j) = some v := fun j v hj => slices_Repeat_int_int.src2 (by omega) HGm.out (by rw [← hcs]; exact hj)
      have L3 := slices_Repeat_int_int.fit2 x m n (by omega)
      have L4 := slices_Repeat_int_int.one2 x m n (min m (n - m))
      have L5 := slices_Repeat_int_int.row x m n h1m (by omega)
      rw [← hcs] at L1 L3 L4
      have hml : (nums .i64 (slices_Repeat_int_int.lay x m n)).take (min m (n - m)) = cs := hcs.symm
      rw [hml] at L5
      obtain ⟨q, hq⟩ : ∃ q, q = cs.length := ⟨_, rfl⟩
      have hq1 : 1 ≤ q := by rw [hq, L1]; have : Nat.min m (n - m) = min m (n - m) := rfl; omega
      have hq2 : m + q ≤ n := by rw [hq, L1]; have : Nat.min m (n - m) = min m (n - m) := rfl; omega
      have hq3 : min m (n - m) = q := by rw [hq, L1]
      rw [hq3] at L5
      have H1 := Aside0.mk L1
      have H2 := Aside0.mk L2
      have H3 := Aside0.mk L3
      have H4 := Aside0.mk L4
      have H5 := Aside0.mk L5
      have HQ := Aside0.mk hq
      clear hcs hml L1 L2 L3 L4 L5 hq hq3
      go_wp2_with fail
      go_region_law (refine step_copy_own rfl (.tmp 41) (.tmp 44) 24 24 rfl 3 Try.underlying24 (slices_Repeat_int_int.size HI.out HZ1.out) g m (n - m) (n - m) ⟨g, 0, none⟩ m n (by simp [Act.eval, Act.put, hnm]) (by simp [Act.eval, Act.put]) _ 3 HGm.out cs H1.out H2.out H3.out H4.out ?_; intro w1 hw1; (have HG1 := Aside0.mk (slices_Repeat_int_int.next HGm.out H5.out HQ.out hw1)); (have HB1 := Aside0.mk (slices_Repeat_int_int.below HBm.out HGE.out hw1)); clear hw1; rw [show goInt cs.length = .int .i64 (q : Int) by rw [HQ.out]; rfl])
      go_simp
      rw [slices_Repeat_int_int.wrapq m q (by omega)]
      go_roundw

      case rel => exact ⟨_, _, _, _, _, _, _, _, _, _, _, _, _, _, ⟨m + q, rfl, ⟨by omega⟩, HG1, HB1⟩, rfl⟩
      case measure => simp [intOf]; omega
    · have hmn : m = n := by have := HMN.out; omega
      subst hmn
      go_wp2
      go_ret
      exact ⟨_, rfl, slices_Repeat_int_int.done hle HGm.out HGE.out, HBm.out⟩
/-! ### impl_Meander_curves: function 96 -/
mutual
def impl_Meander_curves.l0 : Nat → List Int → Int → Int → Int → List Int → List Int → Option (List Int × Int)
 | 0, _, _, _, _, _, _ => none
 | k + 1, x4, x5, x15, x16, x857000, x857001 => if x16 < x15 then (if 0 ≤ x16 then (if x16 < (x4.length : Int) then (if (rd x4 x16) ≥ 0 then (impl_Meander_curves.l0 k x4 x5 x15 (wrap64 (x16 + 1)) x857000 x857001) else ((impl_Meander_way.f k x857000 x857001 x16).bind fun t864 => (impl_Meander_curves.l1 k x4 x5 x15 x16 t864 (t864.length : Int) 0 x857000 x857001))) else (none)) else (none)) else (some (x4, x5))
def impl_Meander_curves.l1 : Nat → List Int → Int → Int → Int → List Int → Int → Int → List Int → List Int → Option (List Int × Int)
 | 0, _, _, _, _, _, _, _, _, _ => none
 | k + 1, x4, x5, x15, x16, x26, x27, x28, x857000, x857001 => if x28 < x27 then (if 0 ≤ x28 then (if x28 < (x26.length : Int) then (if 0 ≤ (rd x26 x28) then (if (rd x26 x28) < (x4.length : Int) then (impl_Meander_curves.l1 k (x4.set ((rd x26 x28) : Int).toNat x5) x5 x15 x16 x26 x27 (wrap64 (x28 + 1)) x857000 x857001) else (none)) else (none)) else (none)) else (none)) else (impl_Meander_curves.l0 k x4 (wrap64 (x5 + 1)) x15 (wrap64 (x16 + 1)) x857000 x857001)
end
def impl_Meander_curves.f (k : Nat) (l0_0 : List Int) (l0_1 : List Int) : Option (List Int × Int) := (slices_Repeat_int_int.f (([(-1)] : List Int)) (l0_0.length : Int)).bind fun t860 => (impl_Meander_curves.l0 k t860 0 (t860.length : Int) 0 l0_0 l0_1)
theorem impl_Meander_curves.calls (k : Nat) (A0_0 : Option Addr) (c0_0 : Nat) (l0_0 : List Int) (A0_1 : Option Addr) (c0_1 : Nat) (l0_1 : List Int) (r1 : List Int) (r2 : Int) (w : World) (hr0_0 : Kd.C (Kd.int .i64) w A0_0 l0_0.length l0_0) (hc0_0 : l0_0.length ≤ c0_0) (hr0_1 : Kd.C (Kd.int .i64) w A0_1 l0_1.length l0_1) (hc0_1 : l0_1.length ≤ c0_1) (h : impl_Meander_curves.f k l0_0 l0_1 = some (r1, r2)) :
  Calls Try.prog 96 #[.agg #[.slice A0_0 l0_0.length c0_0, .slice A0_1 l0_1.length c0_1]] w fun e w' => ∃ v0_ : Value, e = .returned (.tuple #[v0_, .int .i64 r2]) ∧ Kd.R (Kd.int .i64) 3 w' w.heap.size (fun _ => True) v0_ r1 ∧ Below w.heap.size w w' := by
 have hu39 := Try.underlying39; have HR0_0 := Aside0.mk hr0_0; have HC0_0 := Aside0.mk hc0_0; clear hr0_0 hc0_0; have HR0_1 := Aside0.mk hr0_1; have HC0_1 := Aside0.mk hc0_1; clear hr0_1 hc0_1; have HB := Aside0.mk (Below.refl w.heap.size w); have H : ((slices_Repeat_int_int.f (([(-1)] : List Int)) (l0_0.length : Int)).bind fun t860 => (impl_Meander_curves.l0 k t860 0 (t860.length : Int) 0 l0_0 l0_1)) = some (r1, r2) := h; clear h; obtain ⟨y857, hy857⟩ := yy (([(-1)] : List Int))
 (try rw [Option.bind_some] at H); (try dsimp only at H); rw [← hy857] at H
 have Ny857 := Aside0.mk hy857; clear hy857; obtain ⟨t860, A2, H⟩ := bi H; (try dsimp only at H); have H' := Aside0.mk H; clear H; go_enter Try.func96, Try.ntmps96; go_wp2_with (first | ((with_reducible refine gate_dst (N := 1) rfl ?_); refine box_event ?hg (N := 1) ?hd (cs := #[.slice A0_0 l0_0.length c0_0, .slice A0_1 l0_1.length c0_1]) (t := 39) ?hr ?_; (case hd => rfl); (case hg => rfl); (case hr => first | (go_simp; done) | (go_simp; rfl)); intro gb856 hg w3 hbox hb; have BK856 := Aside0.mk (hbox); have GW856 := Aside0.mk ((by rw [hg]; exact (below_size (bl HB.out)) : w.heap.size ≤ gb856)); have GE856 := Aside0.mk ((by rw [hg]; exact (below_size (bl HB.out)) : w.heap.size ≤ gb856)); replace HB := bst HB hb; clear hb hbox hg) | ((with_reducible refine gate_dst (N := 9) rfl ?_); refine Kd.R_lit (Kd.int .i64) _ 3 ?hg (N := 9) ?hd (xs := ([(-1)] : List Int)) (inner := [.int .i64 (-1)]) (ok := fun _ => True) (okp := fun _ => True) ?hr ?hp (fun _ hk => hk) trivial (Below.refl _ _) (Nat.le_refl _) (by simp) ?_; (case hd => rfl); (case hg => rfl); (case hr => first | (go_simp; done) | (go_simp; rfl)); (case hp => exact (Reps.one (show Kd.M (Kd.int .i64) _ _ _ (-1) [.int .i64 (-1)] from rfl) (Reps.none _ _))); intro v858 w4 ho5 hb hg_ hnew_; clear hg_ hnew_; (first | rw [← Ny857.out] at ho5 | (simp only [Int.reduceToNat] at ho5; rw [← Ny857.out] at ho5)); have HO859 := Aside0.mk (Kd.R_lower ho5 (below_size (bs1 HB.out GE856.out))); replace BK856 := bkb BK856 hb; replace HB := Aside0.mk (below_step (bs1 HB.out GE856.out) hb); clear hb ho5; have hcz6_0 : w4.cell? ⟨gb856, 0, none⟩ = some (.slice A0_0 l0_0.length c0_0) := (blk_cell BK856.out 0).trans rfl; have hcz6_1 : w4.cell? ⟨gb856, 1, none⟩ = some (.slice A0_1 l0_1.length c0_1) := (blk_cell BK856.out 1).trans rfl; have hfz6_0 := blk_frozen BK856.out 0; have hfz6_1 := blk_frozen BK856.out 1; obtain ⟨Ao7, co7, eo7⟩ := Kd.R_slice HO859.out; subst eo7) | (go_at_call 105; (with_reducible refine (slices_Repeat_int_int.calls _ _ y857 (l0_0.length : Int) t860 _ ?side1 ((Kd.R_reads' HO859.out).2.1) A2.out).mono ?_); (case side1 => exact cw ((Kd.R_reads' HO859.out).2.2)); rintro e w8 ⟨v861, rfl, ho0, hb⟩; have HO862 := Aside0.mk (Kd.R_lower (Kd.R_new' ho0 (Kd.R_lt (rR HO859.out))) (below_size (bs1 HB.out GE856.out))); replace HO859 := Aside0.mk (Kd.R_elder' (rR HO859.out) (Kd.R_base ho0) hb); replace BK856 := bkb BK856 hb; replace HB := Aside0.mk (below_step (bs1 HB.out GE856.out) hb); obtain ⟨Ao9, co9, eo9⟩ := Kd.R_slice HO862.out; subst eo9))
 go_loopg [5, 16] k (fun kq v5 v16 w' => ∃ (x4_1 : List Int) (x5_1 : Int) (x16_1 : Int), v5 = .int .i64 x5_1 ∧ v16 = .int .i64 x16_1 ∧ Aside0 (impl_Meander_curves.l0 kq x4_1 x5_1 (t860.length : Int) x16_1 l0_0 l0_1 = some (r1, r2)) ∧ Aside0 (kq ≤ k) ∧ Aside0 (Kd.R (Kd.int .i64) 3 w' w.heap.size (fun _ => True) (.slice Ao9 t860.length co9) x4_1) ∧ Aside0 (w'.heap[gb856]? = some (.cells #[(.slice A0_0 l0_0.length c0_0), (.slice A0_1 l0_1.length c0_1)] 39 (0, 0))) ∧ Aside0 (Below w.heap.size w w'))
 case atStart => exact ⟨(t860), (0), (0), (sr2), (sr2), H', ⟨Nat.le_refl _⟩, ⟨rR (Kd.R_mono HO862.out (fun _ hk => trivial))⟩, ⟨by (with_reducible repeat (first | refine blk_drewN ?_ _ | refine blk_drew ?_ | refine blk_alloc ?_ _)); exact BK856.out⟩, ⟨bs1 HB.out GE856.out⟩⟩
 case round =>
  clear H'; obtain ⟨x4_1, x5_1, x16_1, rfl, rfl, HA, HK1, HO_4, BK856, HB⟩ := hrel; have hl4_1 := (Kd.R_reads' HO_4.out).1; rw [hl4_1] at HO_4; (try simp only [hl4_1]); (try simp only [hl4_1] at BK856)
  cases gk with
  | zero => exact absurd HA.out (by simp [impl_Meander_curves.l0])
  | succ k1 =>
   have H := HA.out; clear HA; simp only [impl_Meander_curves.l0] at H
   by_cases c10 : x16_1 < (t860.length : Int)
   ·rw [if_pos c10] at H; have c10b0 := decide_eq_true c10; clear c10; (try simp only [hl4_1] at c10b0)
    by_cases c11 : 0 ≤ x16_1
    ·rw [if_pos c11] at H; have c11b0 := decide_eq_true c11; clear c11; (try simp only [hl4_1] at c11b0)
     by_cases c12 : x16_1 < (x4_1.length : Int)
     ·rw [if_pos c12] at H; have c12b0 := decide_eq_true c12; clear c12; (try simp only [hl4_1] at c12b0)
      by_cases c13 : (rd x4_1 x16_1) ≥ 0
      ·rw [if_pos c13] at H; have c13b0 := decide_eq_true c13; clear c13; (try simp only [hl4_1] at c13b0); have H' := Aside0.mk H; clear H; obtain ⟨ad863, e863, hx863_0, p863, q863⟩ := atI (Kd.R_reads' HO_4.out).2.2 x16_1; cases e863; go_wp2; (try simp only [← hl4_1])
       go_roundg k1
       case measure => have := HK1.out; omega
       case rel => exact ⟨(x4_1), (x5_1), (wrap64 (x16_1 + 1)), (sr2), (sr2), H', ⟨by have := HK1.out; omega⟩, ⟨by (try simp only [hl4_1]); (with_reducible repeat (first | apply Kd.R_alloc | apply Kd.R_drewN | apply Kd.R_drew)); exact HO_4.out⟩, ⟨by (try simp only [hl4_1]); (with_reducible repeat (first | refine blk_drewN ?_ _ | refine blk_drew ?_ | refine blk_alloc ?_ _)); exact BK856.out⟩, ⟨bs1 HB.out GE856.out⟩⟩
      rw [if_neg c13] at H; have c13b0 := decide_eq_false c13; clear c13; (try simp only [hl4_1] at c13b0); obtain ⟨t864, A14, H⟩ := bi H; (try dsimp only at H); have H' := Aside0.mk H; clear H; obtain ⟨ad863, e863, hx863_0, p863, q863⟩ := atI (Kd.R_reads' HO_4.out).2.2 x16_1; cases e863; have hcz15_0 : wr.cell? ⟨gb856, 0, none⟩ = some (.slice A0_0 l0_0.length c0_0) := (blk_cell BK856.out 0).trans rfl; have hcz15_1 : wr.cell? ⟨gb856, 1, none⟩ = some (.slice A0_1 l0_1.length c0_1) := (blk_cell BK856.out 1).trans rfl; have hfz15_0 := blk_frozen BK856.out 0; have hfz15_1 := blk_frozen BK856.out 1; go_wp2_with (first | (go_at_call 70; (with_reducible refine (impl_Meander_way.calls k1 _ _ l0_0 _ _ l0_1 x16_1 t864 _ ?side1 ?side2 ?side3 HC0_1.out A14.out).mono ?_); (case side1 => exact cw (Kd.C_below HR0_0.out HB.out)); (case side2 => exact HC0_0.out); (case side3 => exact cw (Kd.C_below HR0_1.out HB.out)); rintro e w16 ⟨v865, rfl, ho0, hb⟩; have HO866 := Aside0.mk (Kd.R_lower (Kd.R_new' ho0 (Kd.R_lt (rR HO_4.out))) (below_size (bs1 HB.out GE856.out))); replace HO_4 := Aside0.mk (Kd.R_elder' (rR HO_4.out) (Kd.R_base ho0) hb); replace BK856 := bkb BK856 hb; replace HB := Aside0.mk (below_step (bs1 HB.out GE856.out) hb); obtain ⟨Ao17, co17, eo17⟩ := Kd.R_slice HO866.out; subst eo17))
      go_loopg [28] k1 (fun kq v28 w' => ∃ (x4_2 : List Int) (x28_2 : Int), v28 = .int .i64 x28_2 ∧ Aside0 (impl_Meander_curves.l1 kq x4_2 x5_1 (t860.length : Int) x16_1 t864 (t864.length : Int) x28_2 l0_0 l0_1 = some (r1, r2)) ∧ Aside0 (kq ≤ k1) ∧ Aside0 (Kd.R (Kd.int .i64) 3 w' w.heap.size (fun k_ => some k_ ≠ ((.slice Ao17 t864.length co17) : Value).ownBlock) (.slice (some ad863) x4_1.length co9) x4_2) ∧ Aside0 (Kd.R (Kd.int .i64) 3 w' w.heap.size (fun k_ => some k_ ≠ ((.slice (some ad863) x4_1.length co9) : Value).ownBlock) (.slice Ao17 t864.length co17) t864) ∧ Aside0 (w'.heap[gb856]? = some (.cells #[(.slice A0_0 l0_0.length c0_0), (.slice A0_1 l0_1.length c0_1)] 39 (0, 0))) ∧ Aside0 (Below w.heap.size w w'))
      case atStart => exact ⟨(x4_1), (0), (sr2), H', ⟨Nat.le_refl _⟩, ⟨by (try simp only [hl4_1]); (with_reducible repeat (first | apply Kd.R_alloc | apply Kd.R_drewN | apply Kd.R_drew)); exact Kd.R_mono HO_4.out (fun _ hk => hk.2)⟩, ⟨by (try simp only [hl4_1]); (with_reducible repeat (first | apply Kd.R_alloc | apply Kd.R_drewN | apply Kd.R_drew)); exact Kd.R_mono HO866.out (fun _ hk => hk.2)⟩, ⟨by (try simp only [hl4_1]); (with_reducible repeat (first | refine blk_drewN ?_ _ | refine blk_drew ?_ | refine blk_alloc ?_ _)); exact BK856.out⟩, ⟨bs1 HB.out GE856.out⟩⟩
      case round =>
       clear H'; obtain ⟨x4_2, x28_2, rfl, HA, HK2, HO_4, HO_26, BK856, HB⟩ := hrel; have hl4_2 := (Kd.R_reads' HO_4.out).1; rw [hl4_2] at HO_4; (try simp only [hl4_2]); (try simp only [hl4_2] at BK856); (try simp only [hl4_2] at HO_26)
       cases gk with
       | zero => exact absurd HA.out (by simp [impl_Meander_curves.l1])
       | succ k2 =>
        have H := HA.out; clear HA; simp only [impl_Meander_curves.l1] at H
        by_cases c18 : x28_2 < (t864.length : Int)
        ·rw [if_pos c18] at H; have c18b0 := decide_eq_true c18; clear c18; (try simp only [hl4_1, hl4_2] at c18b0)
         by_cases c19 : 0 ≤ x28_2
         ·rw [if_pos c19] at H; have c19b0 := decide_eq_true c19; clear c19; (try simp only [hl4_1, hl4_2] at c19b0)
          by_cases c20 : x28_2 < (t864.length : Int)
          ·rw [if_pos c20] at H; have c20b0 := decide_eq_true c20; clear c20; (try simp only [hl4_1, hl4_2] at c20b0)
           by_cases c21 : 0 ≤ (rd t864 x28_2)
           ·rw [if_pos c21] at H; have c21b0 := decide_eq_true c21; clear c21; (try simp only [hl4_1, hl4_2] at c21b0)
            by_cases c22 : (rd t864 x28_2) < (x4_2.length : Int)
            ·rw [if_pos c22] at H; have c22b0 := decide_eq_true c22; clear c22; (try simp only [hl4_1, hl4_2] at c22b0); obtain ⟨y868, hy868⟩ := yy (x4_2.set ((rd t864 x28_2) : Int).toNat x5_1)
             (try rw [Option.bind_some] at H); (try dsimp only at H); rw [← hy868] at H
             have Ny868 := Aside0.mk hy868; clear hy868; have H' := Aside0.mk H; clear H; obtain ⟨ad867, e867, hx867_0, p867, q867⟩ := atI (Kd.R_reads' HO_26.out).2.2 x28_2; cases e867; have p23 : 0 ≤ ((rd t864 x28_2) : Int) := od; have q23 : ((rd t864 x28_2) : Int) < ((x4_2.length : Int) : Int) := od; obtain ⟨go23, co23, eo23, gb23, gl23, cl23, HG23⟩ := Kd.R_form HO_4.out (by omega); (first | cases eo23 | (injection eo23 with ea_ en_ ec_; (first | subst ea_ | (injection ea_ with ea_; subst ea_)); subst ec_; clear en_)); have GB23 := Aside0.mk gb23; have GG23 := Aside0.mk HG23; clear gb23 gl23 HG23; (first | simp only [add_plain] at hx863_0 | skip); obtain ⟨hx23_0, hf23_0⟩ := Kd.R_celln 0 HO_4.out ((rd t864 x28_2) : Int) p23 q23; replace p23 := eq_true p23; replace q23 := eq_true q23; have HP24 := Kd.R_putg HO_4.out ((rd t864 x28_2) : Int) x5_1; go_wp2_with (first | ((with_reducible refine gate_store (t := 3) (p := 35) rfl ?_); refine store_event (t := 3) (p := 35) (v := ?vo_w25) (w1 := (wr.setCell ⟨go23, ((rd t864 x28_2) : Int).toNat, none⟩ (.int .i64 x5_1))) ?hg ?ho ?hn ?hr ?_; (case ho => rfl); (case hg => rfl); (case hn => rfl); (case hr => first | (go_simp; done) | (go_simp; rfl)); intro w25 hw; have hg : wr.grownBy w25 (some go23) := (by rw [hw]; exact HP24.2); have hp_ : Kd.R (Kd.int .i64) 3 w25 w.heap.size (fun k_ => some k_ ≠ (.slice (some ad867) t864.length co17 : Value).ownBlock) (.slice (some ⟨go23, 0, none⟩) x4_2.length co9) y868 := (by rw [hw, Ny868.out]; exact HP24.1); clear HP24; replace HO_26 := Aside0.mk (Kd.R_after (v := (.slice (some ⟨go23, 0, none⟩) x4_2.length co9)) (v1 := (.slice (some ⟨go23, 0, none⟩) x4_2.length co9)) (ok := (fun _ => True)) (rR (Kd.R_mono HO_26.out (fun _ hk => ⟨trivial, hk⟩))) hg (.inl rfl)); replace BK856 := Aside0.mk (blk_grown (bk BK856.out) hg (Kd.R_ne HO_4.out BK856.out (by decide))); replace HO_4 := Aside0.mk (hp_); replace HB := Aside0.mk ((by rw [hw]; exact below_set (HB.out) GB23.out : Below w.heap.size w w25)); clear hg hw hp_)); (try simp only [← hl4_2])
             go_roundg k2
             case measure => have := HK1.out; have := HK2.out; omega
             case rel => exact ⟨(y868), (wrap64 (x28_2 + 1)), (sr2), H', ⟨by have := HK1.out; have := HK2.out; omega⟩, ⟨by (try simp only [hl4_1]); (try simp only [hl4_2]); (with_reducible repeat (first | apply Kd.R_alloc | apply Kd.R_drewN | apply Kd.R_drew)); exact HO_4.out⟩, ⟨by (try simp only [hl4_1]); (try simp only [hl4_2]); (with_reducible repeat (first | apply Kd.R_alloc | apply Kd.R_drewN | apply Kd.R_drew)); exact Kd.R_mono HO_26.out (fun _ hk => hk.2)⟩, ⟨by (try simp only [hl4_1]); (try simp only [hl4_2]); (with_reducible repeat (first | refine blk_drewN ?_ _ | refine blk_drew ?_ | refine blk_alloc ?_ _)); exact BK856.out⟩, ⟨bs1 HB.out GE856.out⟩⟩
            rw [if_neg c22] at H; exact absurd H (by simp)
           rw [if_neg c21] at H; exact absurd H (by simp)
          rw [if_neg c20] at H; exact absurd H (by simp)
         rw [if_neg c19] at H; exact absurd H (by simp)
        rw [if_neg c18] at H; have c18b0 := decide_eq_false c18; clear c18; (try simp only [hl4_1, hl4_2] at c18b0); have H' := Aside0.mk H; clear H; go_wp2; (try simp only [← hl4_1, ← hl4_2])
        go_roundg k2
        case measure => have := HK1.out; have := HK2.out; omega
        case rel => exact ⟨(x4_2), (wrap64 (x5_1 + 1)), (wrap64 (x16_1 + 1)), (sr2), (sr2), H', ⟨by have := HK1.out; have := HK2.out; omega⟩, ⟨by (try simp only [hl4_1]); (try simp only [hl4_2]); (with_reducible repeat (first | apply Kd.R_alloc | apply Kd.R_drewN | apply Kd.R_drew)); exact Kd.R_mono HO_4.out (fun _ hk => trivial)⟩, ⟨by (try simp only [hl4_1]); (try simp only [hl4_2]); (with_reducible repeat (first | refine blk_drewN ?_ _ | refine blk_drew ?_ | refine blk_alloc ?_ _)); exact BK856.out⟩, ⟨bs1 HB.out GE856.out⟩⟩
     rw [if_neg c12] at H; exact absurd H (by simp)
    rw [if_neg c11] at H; exact absurd H (by simp)
   rw [if_neg c10] at H; have c10b0 := decide_eq_false c10; clear c10; (try simp only [hl4_1] at c10b0); simp only [Option.some.injEq, Prod.mk.injEq] at H; obtain ⟨rfl, rfl⟩ := H; go_wp2; go_ret2; exact ⟨_, sr, rR HO_4.out, bs1 HB.out GE856.out⟩
/-! ### impl_Meander_components: function 86 -/
def impl_Meander_components.f (k : Nat) (l0_0 : List Int) (l0_1 : List Int) : Option (Int) := (impl_Meander_curves.f k l0_0 l0_1).bind fun bt870 => (some bt870.2)
theorem impl_Meander_components.calls (k : Nat) (A0_0 : Option Addr) (c0_0 : Nat) (l0_0 : List Int) (A0_1 : Option Addr) (c0_1 : Nat) (l0_1 : List Int) (r : Int) (w : World) (hr0_0 : Kd.C (Kd.int .i64) w A0_0 l0_0.length l0_0) (hc0_0 : l0_0.length ≤ c0_0) (hr0_1 : Kd.C (Kd.int .i64) w A0_1 l0_1.length l0_1) (hc0_1 : l0_1.length ≤ c0_1) (h : impl_Meander_components.f k l0_0 l0_1 = some r) :
  Calls Try.prog 86 #[.agg #[.slice A0_0 l0_0.length c0_0, .slice A0_1 l0_1.length c0_1]] w fun e w' => e = .returned (.int .i64 r) ∧ Below w.heap.size w w' := by
 have hu39 := Try.underlying39; have HR0_0 := Aside0.mk hr0_0; have HC0_0 := Aside0.mk hc0_0; clear hr0_0 hc0_0; have HR0_1 := Aside0.mk hr0_1; have HC0_1 := Aside0.mk hc0_1; clear hr0_1 hc0_1; have HB := Aside0.mk (Below.refl w.heap.size w); have H : ((impl_Meander_curves.f k l0_0 l0_1).bind fun bt870 => (some bt870.2)) = some r := h; clear h; obtain ⟨⟨t870, t873⟩, A2, H⟩ := bi H; (try dsimp only at H); obtain rfl := Option.some.inj H; go_enter Try.func86, Try.ntmps86; go_wp2_with (first | ((with_reducible refine gate_dst (N := 1) rfl ?_); refine box_event ?hg (N := 1) ?hd (cs := #[.slice A0_0 l0_0.length c0_0, .slice A0_1 l0_1.length c0_1]) (t := 39) ?hr ?_; (case hd => rfl); (case hg => rfl); (case hr => first | (go_simp; done) | (go_simp; rfl)); intro gb869 hg w3 hbox hb; have BK869 := Aside0.mk (hbox); have GW869 := Aside0.mk ((by rw [hg]; exact (below_size (bl HB.out)) : w.heap.size ≤ gb869)); have GE869 := Aside0.mk ((by rw [hg]; exact (below_size (bl HB.out)) : w.heap.size ≤ gb869)); replace HB := bst HB hb; clear hb hbox hg; have hcz4_0 : w3.cell? ⟨gb869, 0, none⟩ = some (.slice A0_0 l0_0.length c0_0) := (blk_cell BK869.out 0).trans rfl; have hcz4_1 : w3.cell? ⟨gb869, 1, none⟩ = some (.slice A0_1 l0_1.length c0_1) := (blk_cell BK869.out 1).trans rfl; have hfz4_0 := blk_frozen BK869.out 0; have hfz4_1 := blk_frozen BK869.out 1) | (go_at_call 96; (with_reducible refine (impl_Meander_curves.calls k _ _ l0_0 _ _ l0_1 t870 t873 _ ?side1 ?side2 ?side3 HC0_1.out A2.out).mono ?_); (case side1 => exact cw (Kd.C_below HR0_0.out HB.out)); (case side2 => exact HC0_0.out); (case side3 => exact cw (Kd.C_below HR0_1.out HB.out)); rintro e w5 ⟨v871, rfl, ho0, hb⟩; have HO872 := Aside0.mk (Kd.R_lower ho0 (below_size (bs1 HB.out GE869.out))); replace BK869 := bkb BK869 hb; replace HB := Aside0.mk (below_step (bs1 HB.out GE869.out) hb))); go_ret; exact ⟨sr, bs1 HB.out GE869.out⟩
/-! ### impl_Meander_isOne: function 69 -/
def impl_Meander_isOne.f (k : Nat) (l0_0 : List Int) (l0_1 : List Int) : Option (Bool) := (impl_Meander_components.f k l0_0 l0_1).bind fun t875 => (some (t875 == 1))
theorem impl_Meander_isOne.calls (k : Nat) (A0_0 : Option Addr) (c0_0 : Nat) (l0_0 : List Int) (A0_1 : Option Addr) (c0_1 : Nat) (l0_1 : List Int) (r : Bool) (w : World) (hr0_0 : Kd.C (Kd.int .i64) w A0_0 l0_0.length l0_0) (hc0_0 : l0_0.length ≤ c0_0) (hr0_1 : Kd.C (Kd.int .i64) w A0_1 l0_1.length l0_1) (hc0_1 : l0_1.length ≤ c0_1) (h : impl_Meander_isOne.f k l0_0 l0_1 = some r) :
  Calls Try.prog 69 #[.agg #[.slice A0_0 l0_0.length c0_0, .slice A0_1 l0_1.length c0_1]] w fun e w' => e = .returned (.bool r) ∧ Below w.heap.size w w' := by
 have hu39 := Try.underlying39; have HR0_0 := Aside0.mk hr0_0; have HC0_0 := Aside0.mk hc0_0; clear hr0_0 hc0_0; have HR0_1 := Aside0.mk hr0_1; have HC0_1 := Aside0.mk hc0_1; clear hr0_1 hc0_1; have HB := Aside0.mk (Below.refl w.heap.size w); have H : ((impl_Meander_components.f k l0_0 l0_1).bind fun t875 => (some (t875 == 1))) = some r := h; clear h; obtain ⟨t875, A2, H⟩ := bi H; (try dsimp only at H); obtain rfl := Option.some.inj H; go_enter Try.func69, Try.ntmps69; go_wp2_with (first | ((with_reducible refine gate_dst (N := 1) rfl ?_); refine box_event ?hg (N := 1) ?hd (cs := #[.slice A0_0 l0_0.length c0_0, .slice A0_1 l0_1.length c0_1]) (t := 39) ?hr ?_; (case hd => rfl); (case hg => rfl); (case hr => first | (go_simp; done) | (go_simp; rfl)); intro gb874 hg w3 hbox hb; have BK874 := Aside0.mk (hbox); have GW874 := Aside0.mk ((by rw [hg]; exact (below_size (bl HB.out)) : w.heap.size ≤ gb874)); have GE874 := Aside0.mk ((by rw [hg]; exact (below_size (bl HB.out)) : w.heap.size ≤ gb874)); replace HB := bst HB hb; clear hb hbox hg; have hcz4_0 : w3.cell? ⟨gb874, 0, none⟩ = some (.slice A0_0 l0_0.length c0_0) := (blk_cell BK874.out 0).trans rfl; have hcz4_1 : w3.cell? ⟨gb874, 1, none⟩ = some (.slice A0_1 l0_1.length c0_1) := (blk_cell BK874.out 1).trans rfl; have hfz4_0 := blk_frozen BK874.out 0; have hfz4_1 := blk_frozen BK874.out 1) | (go_at_call 86; (with_reducible refine (impl_Meander_components.calls k _ _ l0_0 _ _ l0_1 t875 _ ?side1 ?side2 ?side3 HC0_1.out A2.out).mono ?_); (case side1 => exact cw (Kd.C_below HR0_0.out HB.out)); (case side2 => exact HC0_0.out); (case side3 => exact cw (Kd.C_below HR0_1.out HB.out)); rintro e w5 ⟨rfl, hb⟩; replace BK874 := bkb BK874 hb; replace HB := Aside0.mk (below_step (bs1 HB.out GE874.out) hb))); go_ret; exact ⟨sr, bs1 HB.out GE874.out⟩
/-! ### impl_PermutationOf: function 32 -/
def impl_PermutationOf.f (k : Nat) (l0_0 : List Int) (l0_1 : List Int) : Option (List Int × Bool) := (impl_IsPair.f k l0_0 l0_1).bind fun t877 => (if t877 = true then ((impl_Meander_isOne.f k l0_0 l0_1).bind fun t878 => (if t878 = true then ((impl_Meander_way.f k l0_0 l0_1 0).bind fun t879 => (some (t879, true))) else (some (([] : List Int), false)))) else (some (([] : List Int), false)))
theorem impl_PermutationOf.calls (k : Nat) (A0_0 : Option Addr) (c0_0 : Nat) (l0_0 : List Int) (A0_1 : Option Addr) (c0_1 : Nat) (l0_1 : List Int) (r1 : List Int) (r2 : Bool) (w : World) (hr0_0 : Kd.C (Kd.int .i64) w A0_0 l0_0.length l0_0) (hc0_0 : l0_0.length ≤ c0_0) (hr0_1 : Kd.C (Kd.int .i64) w A0_1 l0_1.length l0_1) (hc0_1 : l0_1.length ≤ c0_1) (h : impl_PermutationOf.f k l0_0 l0_1 = some (r1, r2)) :
  Calls Try.prog 32 #[.agg #[.slice A0_0 l0_0.length c0_0, .slice A0_1 l0_1.length c0_1]] w fun e w' => ∃ v0_ : Value, e = .returned (.tuple #[v0_, .bool r2]) ∧ Kd.R (Kd.int .i64) 3 w' w.heap.size (fun _ => True) v0_ r1 ∧ Below w.heap.size w w' := by
 have hu39 := Try.underlying39
 have HR0_0 := Aside0.mk hr0_0
 have HC0_0 := Aside0.mk hc0_0
 clear hr0_0 hc0_0
 have HR0_1 := Aside0.mk hr0_1
 have HC0_1 := Aside0.mk hc0_1
 clear hr0_1 hc0_1
 have HB := Aside0.mk (Below.refl w.heap.size w)
 have H : ((impl_IsPair.f k l0_0 l0_1).bind fun t877 => (if t877 = true then ((impl_Meander_isOne.f k l0_0 l0_1).bind fun t878 => (if t878 = true then ((impl_Meander_way.f k l0_0 l0_1 0).bind fun t879 => (some (t879, true))) else (some (([] : List Int), false)))) else (some (([] : List Int), false)))) = some (r1, r2) := h
 clear h
 replace H := Option.bind_eq_some_iff.mp H
 obtain ⟨t877, A20, H⟩ := H
 try dsimp only at H
 have A2 := Aside0.mk A20
 clear A20
 by_cases c3 : t877 = true
 ·subst c3
  rw [if_pos rfl] at H
  replace H := Option.bind_eq_some_iff.mp H
  obtain ⟨t878, A40, H⟩ := H
  try dsimp only at H
  have A4 := Aside0.mk A40
  clear A40
  by_cases c5 : t878 = true
  ·subst c5
   rw [if_pos rfl] at H
   replace H := Option.bind_eq_some_iff.mp H
   obtain ⟨t879, A60, H⟩ := H
   try dsimp only at H
   have A6 := Aside0.mk A60
   clear A60
   simp only [Option.some.injEq, Prod.mk.injEq] at H
   obtain ⟨rfl, rfl⟩ := H
   go_enter Try.func32, Try.ntmps32
   go_wp2_with (first | ((with_reducible refine gate_dst (N := 1) rfl ?_); refine box_event ?hg (N := 1) ?hd (cs := #[.slice A0_0 l0_0.length c0_0, .slice A0_1 l0_1.length c0_1]) (t := 39) ?hr ?_; (case hd => rfl); (case hg => rfl); (case hr => first | (go_simp; done) | (go_simp; rfl)); intro gb876 hg w7 hbox hb; have BK876 := Aside0.mk (hbox); have GW876 := Aside0.mk ((by rw [hg]; exact (below_size (bl HB.out)) : w.heap.size ≤ gb876)); have GE876 := Aside0.mk ((by rw [hg]; exact (below_size (bl HB.out)) : w.heap.size ≤ gb876)); replace HB := Aside0.mk (below_step (bl HB.out) hb); clear hb hbox hg; have hcz8_0 : w7.cell? ⟨gb876, 0, none⟩ = some (.slice A0_0 l0_0.length c0_0) := (blk_cell BK876.out 0).trans rfl; have hcz8_1 : w7.cell? ⟨gb876, 1, none⟩ = some (.slice A0_1 l0_1.length c0_1) := (blk_cell BK876.out 1).trans rfl; have hfz8_0 := blk_frozen BK876.out 0; have hfz8_1 := blk_frozen BK876.out 1) | (go_at_call 68; (with_reducible refine (impl_IsPair.calls k _ _ l0_0 _ _ l0_1 true _ ?side1 ?side2 ?side3 HC0_1.out A2.out).mono ?_); (case side1 => exact cw (Kd.C_below HR0_0.out HB.out)); (case side2 => exact HC0_0.out); (case side3 => exact cw (Kd.C_below HR0_1.out HB.out)); rintro e w9 ⟨rfl, hb⟩; replace BK876 := Aside0.mk (blk_below (bk BK876.out) hb); replace HB := Aside0.mk (below_step (bs1 HB.out GE876.out) hb); have hcz10_0 : w9.cell? ⟨gb876, 0, none⟩ = some (.slice A0_0 l0_0.length c0_0) := (blk_cell BK876.out 0).trans rfl; have hcz10_1 : w9.cell? ⟨gb876, 1, none⟩ = some (.slice A0_1 l0_1.length c0_1) := (blk_cell BK876.out 1).trans rfl; have hfz10_0 := blk_frozen BK876.out 0; have hfz10_1 := blk_frozen BK876.out 1) | (go_at_call 69; (with_reducible refine (impl_Meander_isOne.calls k _ _ l0_0 _ _ l0_1 true _ ?side1 ?side2 ?side3 HC0_1.out A4.out).mono ?_); (case side1 => exact cw (Kd.C_below HR0_0.out HB.out)); (case side2 => exact HC0_0.out); (case side3 => exact cw (Kd.C_below HR0_1.out HB.out)); rintro e w11 ⟨rfl, hb⟩; replace BK876 := Aside0.mk (blk_below (bk BK876.out) hb); replace HB := Aside0.mk (below_step (bs1 HB.out GE876.out) hb); have hcz12_0 : w11.cell? ⟨gb876, 0, none⟩ = some (.slice A0_0 l0_0.length c0_0) := (blk_cell BK876.out 0).trans rfl; have hcz12_1 : w11.cell? ⟨gb876, 1, none⟩ = some (.slice A0_1 l0_1.length c0_1) := (blk_cell BK876.out 1).trans rfl; have hfz12_0 := blk_frozen BK876.out 0; have hfz12_1 := blk_frozen BK876.out 1) | (go_at_call 70; (with_reducible refine (impl_Meander_way.calls k _ _ l0_0 _ _ l0_1 0 t879 _ ?side1 ?side2 ?side3 HC0_1.out A6.out).mono ?_); (case side1 => exact cw (Kd.C_below HR0_0.out HB.out)); (case side2 => exact HC0_0.out); (case side3 => exact cw (Kd.C_below HR0_1.out HB.out)); rintro e w13 ⟨v880, rfl, ho0, hb⟩; have HO881 := Aside0.mk (Kd.R_lower ho0 (below_size (bs1 HB.out GE876.out))); replace BK876 := Aside0.mk (blk_below (bk BK876.out) hb); replace HB := Aside0.mk (below_step (bs1 HB.out GE876.out) hb)))
   go_ret2
   exact ⟨_, by first | rfl | (simp [errW_none, errW_some] <;> rfl) | (simp [*, errW_none, errW_some] <;> rfl), by (with_reducible repeat (first | apply Kd.R_alloc | apply Kd.R_drewN | apply Kd.R_drew)); exact HO881.out, bs1 HB.out GE876.out⟩
  ·replace c5 := Bool.eq_false_iff.mpr c5
   subst c5
   rw [if_neg (show ¬ (false = true) by decide)] at H
   simp only [Option.some.injEq, Prod.mk.injEq] at H
   obtain ⟨rfl, rfl⟩ := H
   go_enter Try.func32, Try.ntmps32
   go_wp2_with (first | ((with_reducible refine gate_dst (N := 1) rfl ?_); refine box_event ?hg (N := 1) ?hd (cs := #[.slice A0_0 l0_0.length c0_0, .slice A0_1 l0_1.length c0_1]) (t := 39) ?hr ?_; (case hd => rfl); (case hg => rfl); (case hr => first | (go_simp; done) | (go_simp; rfl)); intro gb876 hg w14 hbox hb; have BK876 := Aside0.mk (hbox); have GW876 := Aside0.mk ((by rw [hg]; exact (below_size (bl HB.out)) : w.heap.size ≤ gb876)); have GE876 := Aside0.mk ((by rw [hg]; exact (below_size (bl HB.out)) : w.heap.size ≤ gb876)); replace HB := Aside0.mk (below_step (bl HB.out) hb); clear hb hbox hg; have hcz15_0 : w14.cell? ⟨gb876, 0, none⟩ = some (.slice A0_0 l0_0.length c0_0) := (blk_cell BK876.out 0).trans rfl; have hcz15_1 : w14.cell? ⟨gb876, 1, none⟩ = some (.slice A0_1 l0_1.length c0_1) := (blk_cell BK876.out 1).trans rfl; have hfz15_0 := blk_frozen BK876.out 0; have hfz15_1 := blk_frozen BK876.out 1) | (go_at_call 68; (with_reducible refine (impl_IsPair.calls k _ _ l0_0 _ _ l0_1 true _ ?side1 ?side2 ?side3 HC0_1.out A2.out).mono ?_); (case side1 => exact cw (Kd.C_below HR0_0.out HB.out)); (case side2 => exact HC0_0.out); (case side3 => exact cw (Kd.C_below HR0_1.out HB.out)); rintro e w16 ⟨rfl, hb⟩; replace BK876 := Aside0.mk (blk_below (bk BK876.out) hb); replace HB := Aside0.mk (below_step (bs1 HB.out GE876.out) hb); have hcz17_0 : w16.cell? ⟨gb876, 0, none⟩ = some (.slice A0_0 l0_0.length c0_0) := (blk_cell BK876.out 0).trans rfl; have hcz17_1 : w16.cell? ⟨gb876, 1, none⟩ = some (.slice A0_1 l0_1.length c0_1) := (blk_cell BK876.out 1).trans rfl; have hfz17_0 := blk_frozen BK876.out 0; have hfz17_1 := blk_frozen BK876.out 1) | (go_at_call 69; (with_reducible refine (impl_Meander_isOne.calls k _ _ l0_0 _ _ l0_1 false _ ?side1 ?side2 ?side3 HC0_1.out A4.out).mono ?_); (case side1 => exact cw (Kd.C_below HR0_0.out HB.out)); (case side2 => exact HC0_0.out); (case side3 => exact cw (Kd.C_below HR0_1.out HB.out)); rintro e w18 ⟨rfl, hb⟩; replace BK876 := Aside0.mk (blk_below (bk BK876.out) hb); replace HB := Aside0.mk (below_step (bs1 HB.out GE876.out) hb)))
   go_ret2
   exact ⟨_, by first | rfl | (simp [errW_none, errW_some] <;> rfl) | (simp [*, errW_none, errW_some] <;> rfl), by first | exact Kd.R_nil _ _ _ _ _ | exact Kd.N_nil _ _ _ _ _ | exact Kd.V_nil _ _ _ _ _ | exact Kd.Q_nil _ _ _ _ _ | exact Kd.S_nil _ _ _ _ _, bs1 HB.out GE876.out⟩
 ·replace c3 := Bool.eq_false_iff.mpr c3
  subst c3
  rw [if_neg (show ¬ (false = true) by decide)] at H
  simp only [Option.some.injEq, Prod.mk.injEq] at H
  obtain ⟨rfl, rfl⟩ := H
  go_enter Try.func32, Try.ntmps32
  go_wp2_with (first | ((with_reducible refine gate_dst (N := 1) rfl ?_); refine box_event ?hg (N := 1) ?hd (cs := #[.slice A0_0 l0_0.length c0_0, .slice A0_1 l0_1.length c0_1]) (t := 39) ?hr ?_; (case hd => rfl); (case hg => rfl); (case hr => first | (go_simp; done) | (go_simp; rfl)); intro gb876 hg w19 hbox hb; have BK876 := Aside0.mk (hbox); have GW876 := Aside0.mk ((by rw [hg]; exact (below_size (bl HB.out)) : w.heap.size ≤ gb876)); have GE876 := Aside0.mk ((by rw [hg]; exact (below_size (bl HB.out)) : w.heap.size ≤ gb876)); replace HB := Aside0.mk (below_step (bl HB.out) hb); clear hb hbox hg; have hcz20_0 : w19.cell? ⟨gb876, 0, none⟩ = some (.slice A0_0 l0_0.length c0_0) := (blk_cell BK876.out 0).trans rfl; have hcz20_1 : w19.cell? ⟨gb876, 1, none⟩ = some (.slice A0_1 l0_1.length c0_1) := (blk_cell BK876.out 1).trans rfl; have hfz20_0 := blk_frozen BK876.out 0; have hfz20_1 := blk_frozen BK876.out 1) | (go_at_call 68; (with_reducible refine (impl_IsPair.calls k _ _ l0_0 _ _ l0_1 false _ ?side1 ?side2 ?side3 HC0_1.out A2.out).mono ?_); (case side1 => exact cw (Kd.C_below HR0_0.out HB.out)); (case side2 => exact HC0_0.out); (case side3 => exact cw (Kd.C_below HR0_1.out HB.out)); rintro e w21 ⟨rfl, hb⟩; replace BK876 := Aside0.mk (blk_below (bk BK876.out) hb); replace HB := Aside0.mk (below_step (bs1 HB.out GE876.out) hb)))
  go_ret2
  exact ⟨_, by first | rfl | (simp [errW_none, errW_some] <;> rfl) | (simp [*, errW_none, errW_some] <;> rfl), by first | exact Kd.R_nil _ _ _ _ _ | exact Kd.N_nil _ _ _ _ _ | exact Kd.V_nil _ _ _ _ _ | exact Kd.Q_nil _ _ _ _ _ | exact Kd.S_nil _ _ _ _ _, bs1 HB.out GE876.out⟩

-- NOT PRINTED: function 30 (impl_ClosedToOpen)
/-! ### impl_IsMeander: function 31 -/
/-! ### spec_DrawIsMeander: function 71 -/
def spec_DrawIsMeander.f (k : Nat) (l0 : List Int) : Option (List Int × List Int) := (spec_l1Cur_single.f k l0 0 0 5).bind fun bt893 => (some (bt893.1, bt893.2.1))
theorem spec_DrawIsMeander.calls (k : Nat) (A0 : Option Addr) (c0 : Nat) (l0 : List Int) (r1 : List Int) (r2 : List Int) (w : World) (hr0 : Kd.C (Kd.int .u8) w A0 l0.length l0) (hc0 : l0.length ≤ c0) (h : spec_DrawIsMeander.f k l0 = some (r1, r2)) :
  Calls Try.prog 71 #[.slice A0 l0.length c0] w fun e w' => ∃ v0_ v1_ : Value, e = .returned (.agg #[v0_, v1_]) ∧ Kd.R (Kd.int .i64) 3 w' w.heap.size (fun k_ => some k_ ≠ (v1_ : Value).ownBlock) v0_ r1 ∧ Kd.R (Kd.int .i64) 3 w' w.heap.size (fun k_ => some k_ ≠ (v0_ : Value).ownBlock) v1_ r2 ∧ Below w.heap.size w w' := by
 have hu39 := Try.underlying39; have hu49 := Try.underlying49; have HR0 := Aside0.mk hr0; have HC0 := Aside0.mk hc0; clear hr0 hc0; have HB := Aside0.mk (Below.refl w.heap.size w); have H : ((spec_l1Cur_single.f k l0 0 0 5).bind fun bt893 => (some (bt893.1, bt893.2.1))) = some (r1, r2) := h; clear h; obtain ⟨⟨t893, t896, t899, t900⟩, A2, H⟩ := bi H; (try dsimp only at H); simp only [Option.some.injEq, Prod.mk.injEq] at H; obtain ⟨rfl, rfl⟩ := H; go_enter Try.func71, Try.ntmps71; go_wp2_with (first | ((with_reducible refine gate_dst (N := 2) rfl ?_); refine box_event ?hg (N := 2) ?hd (cs := #[.slice none 0 0, .slice none 0 0]) (t := 39) ?hr ?_; (case hd => rfl); (case hg => rfl); (case hr => first | (go_simp; done) | (go_simp; rfl)); intro gb891 hg w3 hbox hb; have BK891 := Aside0.mk (hbox); have GW891 := Aside0.mk ((by rw [hg]; exact (below_size (bl HB.out)) : w.heap.size ≤ gb891)); have GE891 := Aside0.mk ((by rw [hg]; exact (below_size (bl HB.out)) : w.heap.size ≤ gb891)); replace HB := bst HB hb; clear hb hbox hg) | ((with_reducible refine gate_dst (N := 6) rfl ?_); refine box_event ?hg (N := 6) ?hd (cs := #[.slice A0 l0.length c0, .int .i64 0, .int .u64 0]) (t := 49) ?hr ?_; (case hd => rfl); (case hg => rfl); (case hr => first | (go_simp; done) | (go_simp; rfl)); intro gb892 hg w4 hbox hb; have NB891_892 := Aside0.mk ((by rw [hg]; exact Nat.ne_of_lt (blk_lt (bk BK891.out)) : gb891 ≠ gb892)); have NB892_891 := Aside0.mk ((by rw [hg]; exact Nat.ne_of_gt (blk_lt (bk BK891.out)) : gb892 ≠ gb891)); replace BK891 := bkb BK891 hb; have HI892 := Aside0.mk ((show IsS49 w w4 gb892 l0 0 0 from ⟨_, _, hbox, (by rw [hg]; exact (below_size (bs1 HB.out GE891.out)) : w.heap.size ≤ gb892), HR0.out⟩)); replace HB := Aside0.mk (below_step (bs1 HB.out GE891.out) hb); clear hb hbox hg) | (go_at_call 87; (with_reducible refine (spec_l1Cur_single.calls k gb892 l0 0 0 5 t893 t896 t899 t900 w _ ?side1 (bs2 HB.out (IsS49.ge HI892.out) GE891.out) A2.out).mono ?_); (case side1 => exact iS1 HI892.out NB892_891.out); rintro e w5 ⟨v894, v897, rfl, ho0, ho1, hi, hb, hk⟩; replace BK891 := Aside0.mk (KeepBut.blk hk (g' := gb891) (o := .cells #[.slice none 0 0, .slice none 0 0] 39 (0, 0)) (by (with_reducible repeat (first | refine blk_drewN ?_ _ | refine blk_drew ?_ | refine blk_alloc ?_ _)); exact BK891.out) NB891_892.out (by simp)); have HO895 := Aside0.mk (Kd.R_lower ho0 (below_size (bs2 HB.out (IsS49.ge HI892.out) GE891.out))); have HO898 := Aside0.mk (Kd.R_lower ho1 (below_size (bs2 HB.out (IsS49.ge HI892.out) GE891.out))); replace HB := Aside0.mk (hb); replace HI892 := Aside0.mk (hi); obtain ⟨Ao6, co6, eo6⟩ := Kd.R_slice HO895.out; subst eo6; have hnb7 := NB891_892.out; have hnc7 := NB892_891.out; have hcz8_0 : w5.cell? ⟨gb891, 0, none⟩ = some (.slice none 0 0) := (blk_cell BK891.out 0).trans rfl; have hcz8_1 : w5.cell? ⟨gb891, 1, none⟩ = some (.slice none 0 0) := (blk_cell BK891.out 1).trans rfl; have hfz8_0 := blk_frozen BK891.out 0; have hfz8_1 := blk_frozen BK891.out 1; obtain ⟨Ao9, co9, eo9⟩ := Kd.R_slice HO898.out; subst eo9)); refine bodyPost_ret (results_cell_row rfl _ _ gb891 39 #[.slice Ao6 t893.length co6, .slice Ao9 t896.length co9] (0, 0) _ rfl (by (with_reducible repeat (first | refine blk_drewN ?_ _ | refine blk_drew ?_ | refine blk_alloc ?_ _)); refine blk_put (cs := #[.slice Ao6 t893.length co6, .slice none 0 0]) ?_ 1 _ rfl; (with_reducible repeat (first | refine blk_drewN ?_ _ | refine blk_drew ?_ | refine blk_alloc ?_ _)); refine blk_put (cs := #[.slice none 0 0, .slice none 0 0]) ?_ 0 _ rfl; (with_reducible repeat (first | refine blk_drewN ?_ _ | refine blk_drew ?_ | refine blk_alloc ?_ _)); exact BK891.out) Try.underlying39 rfl (by kernel_rfl)) rfl ?_; exact ⟨_, _, sr, rR (Kd.R_mono (Kd.R_far (p := ⟨gb891, 1, none⟩) (Kd.R_far (p := ⟨gb891, 0, none⟩) (Kd.R_types HO895.out BK891.out (by decide)) (fun _ hk => hk.2) (.slice Ao6 t893.length co6)) (fun _ hk => hk.2) (.slice Ao9 t896.length co9)) (fun _ hk => hk.1)), rR (Kd.R_mono (Kd.R_far (p := ⟨gb891, 1, none⟩) (Kd.R_far (p := ⟨gb891, 0, none⟩) (Kd.R_types HO898.out BK891.out (by decide)) (fun _ hk => hk.2) (.slice Ao6 t893.length co6)) (fun _ hk => hk.2) (.slice Ao9 t896.length co9)) (fun _ hk => hk.1)), bs2 HB.out (IsS49.ge HI892.out) GE891.out⟩
/-! ### spec_DrawClosedToOpen: function 33 -/
/-! ### spec_ClosedToOpen: function 34 -/
-- NOT PRINTED: function 4 (laws_FnOpenAndClosed)
/-! ### spec_PermutationOf: function 36 -/
def spec_PermutationOf.f (k : Nat) (l0_0 : List Int) (l0_1 : List Int) : Option (List Int × Bool) := (spec_peSingle.f k l0_0 l0_1).bind fun t950 => (if t950 = true then ((spec_meWay.f k l0_0 l0_1 0).bind fun t951 => (some (t951, true))) else (some (([] : List Int), false)))
theorem spec_PermutationOf.calls (k : Nat) (A0_0 : Option Addr) (c0_0 : Nat) (l0_0 : List Int) (A0_1 : Option Addr) (c0_1 : Nat) (l0_1 : List Int) (r1 : List Int) (r2 : Bool) (w : World) (hr0_0 : Kd.C (Kd.int .i64) w A0_0 l0_0.length l0_0) (hc0_0 : l0_0.length ≤ c0_0) (hr0_1 : Kd.C (Kd.int .i64) w A0_1 l0_1.length l0_1) (hc0_1 : l0_1.length ≤ c0_1) (h : spec_PermutationOf.f k l0_0 l0_1 = some (r1, r2)) :
  Calls Try.prog 36 #[.agg #[.slice A0_0 l0_0.length c0_0, .slice A0_1 l0_1.length c0_1]] w fun e w' => ∃ v0_ : Value, e = .returned (.tuple #[v0_, .bool r2]) ∧ Kd.R (Kd.int .i64) 3 w' w.heap.size (fun _ => True) v0_ r1 ∧ Below w.heap.size w w' := by
 have hu39 := Try.underlying39; have HR0_0 := Aside0.mk hr0_0; have HC0_0 := Aside0.mk hc0_0; clear hr0_0 hc0_0; have HR0_1 := Aside0.mk hr0_1; have HC0_1 := Aside0.mk hc0_1; clear hr0_1 hc0_1; have HB := Aside0.mk (Below.refl w.heap.size w); have H : ((spec_peSingle.f k l0_0 l0_1).bind fun t950 => (if t950 = true then ((spec_meWay.f k l0_0 l0_1 0).bind fun t951 => (some (t951, true))) else (some (([] : List Int), false)))) = some (r1, r2) := h; clear h; obtain ⟨t950, A2, H⟩ := bi H; (try dsimp only at H)
 by_cases c3 : t950 = true
 ·subst c3; rw [if_pos rfl] at H; obtain ⟨t951, A4, H⟩ := bi H; (try dsimp only at H); simp only [Option.some.injEq, Prod.mk.injEq] at H; obtain ⟨rfl, rfl⟩ := H; go_enter Try.func36, Try.ntmps36; go_wp2_with (first | ((with_reducible refine gate_dst (N := 1) rfl ?_); refine box_event ?hg (N := 1) ?hd (cs := #[.slice A0_0 l0_0.length c0_0, .slice A0_1 l0_1.length c0_1]) (t := 39) ?hr ?_; (case hd => rfl); (case hg => rfl); (case hr => first | (go_simp; done) | (go_simp; rfl)); intro gb949 hg w5 hbox hb; have BK949 := Aside0.mk (hbox); have GW949 := Aside0.mk ((by rw [hg]; exact (below_size (bl HB.out)) : w.heap.size ≤ gb949)); have GE949 := Aside0.mk ((by rw [hg]; exact (below_size (bl HB.out)) : w.heap.size ≤ gb949)); replace HB := bst HB hb; clear hb hbox hg; have hcz6_0 : w5.cell? ⟨gb949, 0, none⟩ = some (.slice A0_0 l0_0.length c0_0) := (blk_cell BK949.out 0).trans rfl; have hcz6_1 : w5.cell? ⟨gb949, 1, none⟩ = some (.slice A0_1 l0_1.length c0_1) := (blk_cell BK949.out 1).trans rfl; have hfz6_0 := blk_frozen BK949.out 0; have hfz6_1 := blk_frozen BK949.out 1) | (go_at_call 72; (with_reducible refine (spec_peSingle.calls k _ _ l0_0 _ _ l0_1 true _ ?side1 ?side2 ?side3 HC0_1.out A2.out).mono ?_); (case side1 => exact cw (Kd.C_below HR0_0.out HB.out)); (case side2 => exact HC0_0.out); (case side3 => exact cw (Kd.C_below HR0_1.out HB.out)); rintro e w7 ⟨rfl, hb⟩; replace BK949 := bkb BK949 hb; replace HB := Aside0.mk (below_step (bs1 HB.out GE949.out) hb); have hcz8_0 : w7.cell? ⟨gb949, 0, none⟩ = some (.slice A0_0 l0_0.length c0_0) := (blk_cell BK949.out 0).trans rfl; have hcz8_1 : w7.cell? ⟨gb949, 1, none⟩ = some (.slice A0_1 l0_1.length c0_1) := (blk_cell BK949.out 1).trans rfl; have hfz8_0 := blk_frozen BK949.out 0; have hfz8_1 := blk_frozen BK949.out 1) | (go_at_call 73; (with_reducible refine (spec_meWay.calls k _ _ l0_0 _ _ l0_1 0 t951 _ ?side1 ?side2 ?side3 HC0_1.out A4.out).mono ?_); (case side1 => exact cw (Kd.C_below HR0_0.out HB.out)); (case side2 => exact HC0_0.out); (case side3 => exact cw (Kd.C_below HR0_1.out HB.out)); rintro e w9 ⟨v952, rfl, ho0, hb⟩; have HO953 := Aside0.mk (Kd.R_lower ho0 (below_size (bs1 HB.out GE949.out))); replace BK949 := bkb BK949 hb; replace HB := Aside0.mk (below_step (bs1 HB.out GE949.out) hb))); go_ret2; exact ⟨_, sr, rR HO953.out, bs1 HB.out GE949.out⟩
 replace c3 := Bool.eq_false_iff.mpr c3; subst c3; rw [if_neg (show ¬ (false = true) by decide)] at H; simp only [Option.some.injEq, Prod.mk.injEq] at H; obtain ⟨rfl, rfl⟩ := H; go_enter Try.func36, Try.ntmps36; go_wp2_with (first | ((with_reducible refine gate_dst (N := 1) rfl ?_); refine box_event ?hg (N := 1) ?hd (cs := #[.slice A0_0 l0_0.length c0_0, .slice A0_1 l0_1.length c0_1]) (t := 39) ?hr ?_; (case hd => rfl); (case hg => rfl); (case hr => first | (go_simp; done) | (go_simp; rfl)); intro gb949 hg w10 hbox hb; have BK949 := Aside0.mk (hbox); have GW949 := Aside0.mk ((by rw [hg]; exact (below_size (bl HB.out)) : w.heap.size ≤ gb949)); have GE949 := Aside0.mk ((by rw [hg]; exact (below_size (bl HB.out)) : w.heap.size ≤ gb949)); replace HB := bst HB hb; clear hb hbox hg; have hcz11_0 : w10.cell? ⟨gb949, 0, none⟩ = some (.slice A0_0 l0_0.length c0_0) := (blk_cell BK949.out 0).trans rfl; have hcz11_1 : w10.cell? ⟨gb949, 1, none⟩ = some (.slice A0_1 l0_1.length c0_1) := (blk_cell BK949.out 1).trans rfl; have hfz11_0 := blk_frozen BK949.out 0; have hfz11_1 := blk_frozen BK949.out 1) | (go_at_call 72; (with_reducible refine (spec_peSingle.calls k _ _ l0_0 _ _ l0_1 false _ ?side1 ?side2 ?side3 HC0_1.out A2.out).mono ?_); (case side1 => exact cw (Kd.C_below HR0_0.out HB.out)); (case side2 => exact HC0_0.out); (case side3 => exact cw (Kd.C_below HR0_1.out HB.out)); rintro e w12 ⟨rfl, hb⟩; replace BK949 := bkb BK949 hb; replace HB := Aside0.mk (below_step (bs1 HB.out GE949.out) hb))); go_ret2; exact ⟨_, sr, by first | exact Kd.R_nil _ _ _ _ _ | exact Kd.N_nil _ _ _ _ _ | exact Kd.V_nil _ _ _ _ _ | exact Kd.Q_nil _ _ _ _ _ | exact Kd.S_nil _ _ _ _ _, bs1 HB.out GE949.out⟩
/-! ### spec_DrawFromPermutation: function 39 -/
def spec_DrawFromPermutation.f (k : Nat) (l0 : List Int) : Option (List Int) := (spec_l1Cur_closedWord.f k l0 0 0).bind fun bt977 => (some bt977.1)
theorem spec_DrawFromPermutation.calls (k : Nat) (A0 : Option Addr) (c0 : Nat) (l0 : List Int) (r : List Int) (w : World) (hr0 : Kd.C (Kd.int .u8) w A0 l0.length l0) (hc0 : l0.length ≤ c0) (h : spec_DrawFromPermutation.f k l0 = some r) :
  Calls Try.prog 39 #[.slice A0 l0.length c0] w fun e w' => ∃ v0_ : Value, e = .returned (v0_) ∧ Kd.R (Kd.int .i64) 3 w' w.heap.size (fun _ => True) v0_ r ∧ Below w.heap.size w w' := by
 have hu49 := Try.underlying49; have HR0 := Aside0.mk hr0; have HC0 := Aside0.mk hc0; clear hr0 hc0; have HB := Aside0.mk (Below.refl w.heap.size w); have H : ((spec_l1Cur_closedWord.f k l0 0 0).bind fun bt977 => (some bt977.1)) = some r := h; clear h; obtain ⟨⟨t977, t980, t981⟩, A2, H⟩ := bi H; (try dsimp only at H); obtain rfl := Option.some.inj H; go_enter Try.func39, Try.ntmps39; go_wp2_with (first | ((with_reducible refine gate_dst (N := 6) rfl ?_); refine box_event ?hg (N := 6) ?hd (cs := #[.slice A0 l0.length c0, .int .i64 0, .int .u64 0]) (t := 49) ?hr ?_; (case hd => rfl); (case hg => rfl); (case hr => first | (go_simp; done) | (go_simp; rfl)); intro gb976 hg w3 hbox hb; have HI976 := Aside0.mk ((show IsS49 w w3 gb976 l0 0 0 from ⟨_, _, hbox, (by rw [hg]; exact (below_size (bl HB.out)) : w.heap.size ≤ gb976), HR0.out⟩)); replace HB := bst HB hb; clear hb hbox hg) | (go_at_call 74; (with_reducible refine (spec_l1Cur_closedWord.calls k gb976 l0 0 0 t977 t980 t981 w _ ?side1 (bs1 HB.out (IsS49.ge HI976.out)) A2.out).mono ?_); (case side1 => exact iS HI976.out); rintro e w4 ⟨v978, rfl, ho0, hi, hb, hk⟩; have HO979 := Aside0.mk (Kd.R_lower ho0 (below_size (bs1 HB.out (IsS49.ge HI976.out)))); replace HB := Aside0.mk (hb); replace HI976 := Aside0.mk (hi))); go_ret; exact ⟨_, sr, rR HO979.out, bs1 HB.out (IsS49.ge HI976.out)⟩
/-! ### spec_FromPermutation: function 41 -/
def spec_FromPermutation.f (k : Nat) (l0 : List Int) : Option (List Int × List Int × Bool) := (spec_peClosed.f k l0).bind fun t983 => (if t983 = true then ((spec_peMeander.f k l0).bind fun bt984 => (some (bt984.1, bt984.2, true))) else (some (([] : List Int), ([] : List Int), false)))
theorem spec_FromPermutation.calls (k : Nat) (A0 : Option Addr) (c0 : Nat) (l0 : List Int) (r1 : List Int) (r2 : List Int) (r3 : Bool) (w : World) (hr0 : Kd.C (Kd.int .i64) w A0 l0.length l0) (hc0 : l0.length ≤ c0) (h : spec_FromPermutation.f k l0 = some (r1, r2, r3)) :
  Calls Try.prog 41 #[.slice A0 l0.length c0] w fun e w' => ∃ v0_ v1_ : Value, e = .returned (.tuple #[.agg #[v0_, v1_], .bool r3]) ∧ Kd.R (Kd.int .i64) 3 w' w.heap.size (fun k_ => some k_ ≠ (v1_ : Value).ownBlock) v0_ r1 ∧ Kd.R (Kd.int .i64) 3 w' w.heap.size (fun k_ => some k_ ≠ (v0_ : Value).ownBlock) v1_ r2 ∧ Below w.heap.size w w' := by
 have hu39 := Try.underlying39; have HR0 := Aside0.mk hr0; have HC0 := Aside0.mk hc0; clear hr0 hc0; have HB := Aside0.mk (Below.refl w.heap.size w); have H : ((spec_peClosed.f k l0).bind fun t983 => (if t983 = true then ((spec_peMeander.f k l0).bind fun bt984 => (some (bt984.1, bt984.2, true))) else (some (([] : List Int), ([] : List Int), false)))) = some (r1, r2, r3) := h; clear h; obtain ⟨t983, A2, H⟩ := bi H; (try dsimp only at H)
 by_cases c3 : t983 = true
 ·subst c3; rw [if_pos rfl] at H; obtain ⟨⟨t984, t987⟩, A4, H⟩ := bi H; (try dsimp only at H); simp only [Option.some.injEq, Prod.mk.injEq] at H; obtain ⟨rfl, rfl, rfl⟩ := H; go_enter Try.func41, Try.ntmps41; go_wp2_with (first | ((with_reducible refine gate_dst (N := 2) rfl ?_); refine box_event ?hg (N := 2) ?hd (cs := #[.slice none 0 0, .slice none 0 0]) (t := 39) ?hr ?_; (case hd => rfl); (case hg => rfl); (case hr => first | (go_simp; done) | (go_simp; rfl)); intro gb982 hg w5 hbox hb; have BK982 := Aside0.mk (hbox); have GW982 := Aside0.mk ((by rw [hg]; exact (below_size (bl HB.out)) : w.heap.size ≤ gb982)); have GE982 := Aside0.mk ((by rw [hg]; exact (below_size (bl HB.out)) : w.heap.size ≤ gb982)); replace HB := bst HB hb; clear hb hbox hg) | (go_at_call 66; (with_reducible refine (spec_peClosed.calls k _ _ l0 true _ ?side1 HC0.out A2.out).mono ?_); (case side1 => exact cw (Kd.C_below HR0.out HB.out)); rintro e w6 ⟨rfl, hb⟩; replace BK982 := bkb BK982 hb; replace HB := Aside0.mk (below_step (bs1 HB.out GE982.out) hb)) | (go_at_call 67; (with_reducible refine (spec_peMeander.calls k _ _ l0 t984 t987 _ ?side1 HC0.out A4.out).mono ?_); (case side1 => exact cw (Kd.C_below HR0.out HB.out)); rintro e w7 ⟨v985, v988, rfl, ho0, ho1, hb⟩; have HO986 := Aside0.mk (Kd.R_lower ho0 (below_size (bs1 HB.out GE982.out))); have HO989 := Aside0.mk (Kd.R_lower ho1 (below_size (bs1 HB.out GE982.out))); replace BK982 := bkb BK982 hb; replace HB := Aside0.mk (below_step (bs1 HB.out GE982.out) hb); obtain ⟨Ao8, co8, eo8⟩ := Kd.R_slice HO986.out; subst eo8; have hcz9_0 : w7.cell? ⟨gb982, 0, none⟩ = some (.slice none 0 0) := (blk_cell BK982.out 0).trans rfl; have hcz9_1 : w7.cell? ⟨gb982, 1, none⟩ = some (.slice none 0 0) := (blk_cell BK982.out 1).trans rfl; have hfz9_0 := blk_frozen BK982.out 0; have hfz9_1 := blk_frozen BK982.out 1; obtain ⟨Ao10, co10, eo10⟩ := Kd.R_slice HO989.out; subst eo10)); refine bodyPost_ret (results_ct rfl _ _ gb982 39 #[.slice Ao8 t984.length co8, .slice Ao10 t987.length co10] (0, 0) _ rfl (by (with_reducible repeat (first | refine blk_drewN ?_ _ | refine blk_drew ?_ | refine blk_alloc ?_ _)); refine blk_put (cs := #[.slice Ao8 t984.length co8, .slice none 0 0]) ?_ 1 _ rfl; (with_reducible repeat (first | refine blk_drewN ?_ _ | refine blk_drew ?_ | refine blk_alloc ?_ _)); refine blk_put (cs := #[.slice none 0 0, .slice none 0 0]) ?_ 0 _ rfl; (with_reducible repeat (first | refine blk_drewN ?_ _ | refine blk_drew ?_ | refine blk_alloc ?_ _)); exact BK982.out) Try.underlying39 rfl (by kernel_rfl)) rfl ?_; exact ⟨_, _, sr, rR (Kd.R_mono (Kd.R_far (p := ⟨gb982, 1, none⟩) (Kd.R_far (p := ⟨gb982, 0, none⟩) (Kd.R_types HO986.out BK982.out (by decide)) (fun _ hk => hk.2) (.slice Ao8 t984.length co8)) (fun _ hk => hk.2) (.slice Ao10 t987.length co10)) (fun _ hk => hk.1)), rR (Kd.R_mono (Kd.R_far (p := ⟨gb982, 1, none⟩) (Kd.R_far (p := ⟨gb982, 0, none⟩) (Kd.R_types HO989.out BK982.out (by decide)) (fun _ hk => hk.2) (.slice Ao8 t984.length co8)) (fun _ hk => hk.2) (.slice Ao10 t987.length co10)) (fun _ hk => hk.1)), bs1 HB.out GE982.out⟩
 replace c3 := Bool.eq_false_iff.mpr c3; subst c3; rw [if_neg (show ¬ (false = true) by decide)] at H; simp only [Option.some.injEq, Prod.mk.injEq] at H; obtain ⟨rfl, rfl, rfl⟩ := H; go_enter Try.func41, Try.ntmps41; go_wp2_with (first | ((with_reducible refine gate_dst (N := 2) rfl ?_); refine box_event ?hg (N := 2) ?hd (cs := #[.slice none 0 0, .slice none 0 0]) (t := 39) ?hr ?_; (case hd => rfl); (case hg => rfl); (case hr => first | (go_simp; done) | (go_simp; rfl)); intro gb982 hg w11 hbox hb; have BK982 := Aside0.mk (hbox); have GW982 := Aside0.mk ((by rw [hg]; exact (below_size (bl HB.out)) : w.heap.size ≤ gb982)); have GE982 := Aside0.mk ((by rw [hg]; exact (below_size (bl HB.out)) : w.heap.size ≤ gb982)); replace HB := bst HB hb; clear hb hbox hg) | (go_at_call 66; (with_reducible refine (spec_peClosed.calls k _ _ l0 false _ ?side1 HC0.out A2.out).mono ?_); (case side1 => exact cw (Kd.C_below HR0.out HB.out)); rintro e w12 ⟨rfl, hb⟩; replace BK982 := bkb BK982 hb; replace HB := Aside0.mk (below_step (bs1 HB.out GE982.out) hb); have hcz13_0 : w12.cell? ⟨gb982, 0, none⟩ = some (.slice none 0 0) := (blk_cell BK982.out 0).trans rfl; have hcz13_1 : w12.cell? ⟨gb982, 1, none⟩ = some (.slice none 0 0) := (blk_cell BK982.out 1).trans rfl; have hfz13_0 := blk_frozen BK982.out 0; have hfz13_1 := blk_frozen BK982.out 1)); refine bodyPost_ret (results_ct rfl _ _ gb982 39 #[.slice none 0 0, .slice none 0 0] (0, 0) _ rfl (by (with_reducible repeat (first | refine blk_drewN ?_ _ | refine blk_drew ?_ | refine blk_alloc ?_ _)); refine blk_put (cs := #[.slice none 0 0, .slice none 0 0]) ?_ 1 _ rfl; (with_reducible repeat (first | refine blk_drewN ?_ _ | refine blk_drew ?_ | refine blk_alloc ?_ _)); refine blk_put (cs := #[.slice none 0 0, .slice none 0 0]) ?_ 0 _ rfl; (with_reducible repeat (first | refine blk_drewN ?_ _ | refine blk_drew ?_ | refine blk_alloc ?_ _)); exact BK982.out) Try.underlying39 rfl (by kernel_rfl)) rfl ?_; exact ⟨_, _, sr, by first | exact Kd.R_nil _ _ _ _ _ | exact Kd.N_nil _ _ _ _ _ | exact Kd.V_nil _ _ _ _ _ | exact Kd.Q_nil _ _ _ _ _ | exact Kd.S_nil _ _ _ _ _, by first | exact Kd.R_nil _ _ _ _ _ | exact Kd.N_nil _ _ _ _ _ | exact Kd.V_nil _ _ _ _ _ | exact Kd.Q_nil _ _ _ _ _ | exact Kd.S_nil _ _ _ _ _, bs1 HB.out GE982.out⟩
end Go.Proofs.Ytldbkkfkgfacdaa.P
