/- slices.DeleteFunc at elements of one cell, the predicate may make memory of its own; and at rows of rows that lie apart. The walk follows the kit's own contract's text (SlicesE.DeleteFunc), whose predicate makes nothing. -/
import Derived.Shelf.SlicesE.DeleteFunc
import Derived.Test.YtjgkcknopnollaaGreatElS
set_option linter.unusedVariables false
namespace Go.Proofs.YtjgkcknopnollaaGreat.DelS
open Go.Shelf Go.RowKit Go.Lib Go.Proofs.YtjgkcknopnollaaGreat.SortL Go.Proofs.YtjgkcknopnollaaGreat.ElS
section
variable {P : Program} {ρ : Ren} {α : Type} [Inhabited α] {enc : α → Value} {w W W' : World} {blk off : Nat} {d dk : Array α} {size : Nat} {e : TypeId}
theorem grown_trans {a w w' : World} {row : Option Nat} (h : a.grownBy w row) (k : w.grownBy w' row) : a.grownBy w' row :=
  ⟨k.os.trans h.os, k.tape.trans h.tape, k.output.trans h.output, Nat.le_trans h.size k.size, fun i hi hn => (k.block i (Nat.lt_of_lt_of_le hi h.size) hn).trans (h.block i hi hn)⟩
theorem grown_below {a w w' : World} {row : Option Nat} (h : a.grownBy w row) (hb : Go.RowKit.Below w.heap.size w w') : a.grownBy w' row :=
  grown_trans h ⟨hb.os, hb.tape, hb.output, hb.size, fun i hi _ => hb.block i hi⟩
/-- The row's block, as the call goes: it holds dk; nothing elder but it has turned. -/
structure RowIs (enc : α → Value) (w : World) (blk off : Nat) (size : Nat) (e : TypeId) (dk : Array α) (W : World) : Prop where
  grown : w.grownBy W (some blk)
  block : ∃ c : Array Value, W.heap[blk]? = some (.cells c e (0, 0)) ∧ c.size = size
  holds : Go.Sort.Holds enc W blk off dk
theorem RowIs.below (h : RowIs enc w blk off size e dk W) (hb : Go.RowKit.Below W.heap.size W W') : RowIs enc w blk off size e dk W' := by
  obtain ⟨c, hc, hs⟩ := h.block
  have hlt : blk < W.heap.size := (Array.getElem?_eq_some_iff.1 hc).1
  exact ⟨grown_below h.grown hb, ⟨c, (hb.block blk hlt).trans hc, hs⟩, fun j hj => ⟨(hb.cell (p := ⟨blk, off + j, none⟩) hlt).trans (h.holds j hj).1, (hb.frozen (p := ⟨blk, off + j, none⟩) hlt).trans (h.holds j hj).2⟩⟩
theorem grown_putRow (w : World) (dk : Array α) : w.grownBy (Go.Sort.putRow enc w blk off dk) (some blk) :=
  ⟨rfl, rfl, rfl, by rw [size_putRow]; exact Nat.le_refl _, fun k _ hne => by
    simp only [Go.Sort.putRow, Go.Sort.mapBlock, Array.getElem?_modify]
    rw [if_neg (fun e => hne (by rw [e]))]⟩
theorem RowIs.put (h : RowIs enc w blk off size e dk W) (dk' : Array α) (hs : dk'.size = dk.size) : RowIs enc w blk off size e dk' (Go.Sort.putRow enc W blk off dk') := by
  obtain ⟨c, hc, hz⟩ := h.block
  refine ⟨grown_trans h.grown (grown_putRow W dk'), ⟨Go.Sort.putCells enc off dk' c, ?_, by simp [Go.Sort.putCells, hz]⟩, Go.Sort.holds_putRow enc W blk off dk dk' h.holds hs⟩
  simp only [Go.Sort.putRow, Go.Sort.mapBlock, Array.getElem?_modify, if_true, hc]; rfl
theorem RowIs.set (h : RowIs enc w blk off size e dk W) (i : Nat) (u : α) (hi : i < dk.size) : RowIs enc w blk off size e (dk.setIfInBounds i u) (W.setCell ⟨blk, off + i, none⟩ (enc u)) := by
  have := h.put (dk.setIfInBounds i u) (by simp)
  rw [← Go.Sort.putRow_set enc W blk off dk i u hi, Go.Sort.putRow_self enc W blk off dk h.holds] at this
  exact this
omit [Inhabited α] in
theorem size_lay : ∀ (xs : List α) (d : Array α) (k : Nat), (lay d k xs).size = d.size
  | [], _, _ => rfl
  | x :: r, d, k => by rw [lay, size_lay r]; simp
theorem RowIs.sets (h : RowIs enc w blk off size e dk W) (k : Nat) (xs : List α) (hk : k + xs.length ≤ dk.size) : RowIs enc w blk off size e (lay dk k xs) (W.setCells blk (off + k) (xs.map enc)) := by
  have h2 := Go.Lib.putRow_setCells enc W blk off xs dk k hk
  rw [Go.Sort.putRow_self enc W blk off dk h.holds] at h2
  rw [h2]
  exact h.put _ (size_lay _ _ _)
/-- What is asked of the predicate: wherever nothing elder has turned but the row, it answers p; it may make memory of its own. -/
def Asks (P : Program) (g : Nat) (lb : Array Value) (enc : α → Value) (G : α → Prop) (p : α → Bool) (blk : Nat) (w : World) : Prop :=
  ∀ (x : α) (W : World), G x → w.grownBy W (some blk) → Calls P g (#[enc x] ++ lb) W fun en w' => en = .returned (.bool (p x)) ∧ Go.RowKit.Below W.heap.size W w'
set_option maxHeartbeats 4000000 in
set_option maxRecDepth 1000000 in
theorem index_rows (L : SlLaysH.n6 P ρ) (enc : α → Value) (G : α → Prop) (p : α → Bool) (g : Nat) (lb : Array Value) (eg : ∀ args w, (callFunc g args).run P w = .ok (.enter g args) w) (blk off cap size : Nat) (e : TypeId) (d : Array α) (w : World)
    (hp : Asks P g lb enc G p blk w) (hG : ∀ j, j < d.size → G d[j]!) (hR : RowIs enc w blk off size e d w) (hsz : d.size ≤ 9223372036854775807) :
    Calls P (ρ.f 6) #[.slice (some ⟨blk, off, none⟩) d.size cap, .func (.func g) #[] lb] w fun en w' => en = .returned (.int .i64 (Lib.idxBy (fun _ y => p y) d.toList default)) ∧ RowIs enc w blk off size e d w' := by
  have mixed := L.mixed; have t0 := L.t0; have a0 := L.a0; have z0 := L.z0; have v0 := L.v0; have t3 := L.t3; have a3 := L.a3; have z3 := L.z3; have v3 := L.v3; have t4 := L.t4; have a4 := L.a4; have z4 := L.z4; have v4 := L.v4; have t22 := L.t22; have a22 := L.a22; have z22 := L.z22; have v22 := L.v22; have a23 := L.a23; have z23 := L.z23; have t25 := L.t25; have a25 := L.a25; have z25 := L.z25; have v25 := L.v25
  have HP : Aside (Asks P g lb enc G p blk w) := hp
  have HR : Aside (RowIs enc w blk off size e d w) := hR
  have HG : Aside (∀ j, j < d.size → G d[j]!) := hG
  clear hp hR hG
  obtain ⟨_, _, FG⟩ := L.f6
  go_enter FG, SlBodyH.n6_ntmps ρ
  go_wp2
  go_loopg [5, 8] d.size (fun gg _ s8 wr => ∃ kk : Nat, kk ≤ d.size ∧ d.size - kk ≤ gg ∧ s8 = .int .i64 kk ∧ Aside (RowIs enc w blk off size e d wr) ∧ Aside (∀ j, j < kk → p d.toList[j]! = false))
  case atStart => exact ⟨0, Nat.zero_le _, by omega, rfl, HR, fun j hj => absurd hj (Nat.not_lt_zero _)⟩
  case round =>
    obtain ⟨kk, hkk, hg, rfl, HW, A⟩ := hrel
    by_cases hlt : kk < d.size
    · have hltz : (kk : Int) < (d.size : Int) := by omega
      have hcell : wr.cell? ⟨blk, off + kk, none⟩ = some (enc d[kk]!) := (HW.out.holds kk hlt).1
      have hg1 : G d[kk]! := HG.out kk hlt
      have htl : d.toList[kk]! = d[kk]! := by rw [getElem!_pos d kk hlt, getElem!_pos d.toList kk (by simpa using hlt)]; simp
      generalize hy : d[kk]! = y at hcell htl hg1
      have B : Aside (d.toList[kk]! = y) := htl
      clear hy htl
      have hcall := HP.out y wr hg1 HW.out.grown
      clear hg1
      cases hq : p y with
      | true =>
        rw [hq] at hcall
        go_wp2_with (go_at_fn g; refine hcall.mono ?_; rintro en w' ⟨rfl, hb⟩)
        go_ret
        refine ⟨?_, HW.out.below hb⟩
        have hz : d.toList.length = d.size := by simp
        have := Lib.idxBy_hit (fun _ y => p y) d.toList d.size kk default hlt (by simp) (by show p d.toList[kk]! = true; rw [B.out]; exact hq) A.out
        rw [show d.toList.take d.size = d.toList from List.take_of_length_le (by simp)] at this
        rw [this]
        rfl
      | false =>
        rw [hq] at hcall
        go_wp2_with (go_at_fn g; refine hcall.mono ?_; rintro en w' ⟨rfl, hb⟩; have HW2 : Aside (RowIs enc w blk off size e d w') := HW.out.below hb; clear hb)
        go_roundg (d.size - (kk + 1))
        case measure => omega
        case rel =>
          refine ⟨kk + 1, by omega, by omega, by go_num, HW2, (show Aside _ from fun j hj => ?_)⟩
          by_cases ej : j = kk
          · subst ej
            rw [B.out]; exact hq
          · exact A.out j (by omega)
    · have hltz : ¬ (kk : Int) < (d.size : Int) := by omega
      go_wp2
      go_ret
      refine ⟨?_, HW.out⟩
      obtain rfl : kk = d.size := by omega
      have := Lib.idxBy_miss (fun _ y => p y) d.toList d.size default A.out
      rw [show d.toList.take d.size = d.toList from List.take_of_length_le (by simp)] at this
      rw [this]
      rfl
set_option maxHeartbeats 4000000 in
set_option maxRecDepth 1000000 in
theorem delete_rows (L : SlLaysH.n10 P ρ) (enc : α → Value) (hO : OneCell enc) (G : α → Prop) (p : α → Bool) (g : Nat) (lb : Array Value) (eg : ∀ args w, (callFunc g args).run P w = .ok (.enter g args) w) (zr : α) (v23 : ∀ w, (zeroValue (ρ.t 23)).run P w = .ok (enc zr) w)
    (blk off cap size : Nat) (e : TypeId) (d : Array α) (w : World) (hp : Asks P g lb enc G p blk w) (hG : ∀ j, j < d.size → G d[j]!) (hR : RowIs enc w blk off size e d w) (hsz : d.size ≤ 9223372036854775807) (hcap : d.size ≤ cap) :
    Calls P (ρ.f 10) #[.slice (some ⟨blk, off, none⟩) d.size cap, .func (.func g) #[] lb] w fun en w' => en = .returned (.slice (some ⟨blk, off, none⟩) (d.toList.filter fun x => !p x).length cap) ∧ RowIs enc w blk off size e ((d.toList.filter fun x => !p x) ++ List.replicate (d.size - (d.toList.filter fun x => !p x).length) zr).toArray w' := by
  have mixed := L.mixed; have t0 := L.t0; have a0 := L.a0; have z0 := L.z0; have v0 := L.v0; have t3 := L.t3; have a3 := L.a3; have z3 := L.z3; have v3 := L.v3; have t4 := L.t4; have a4 := L.a4; have z4 := L.z4; have v4 := L.v4; have t22 := L.t22; have a22 := L.a22; have z22 := L.z22; have v22 := L.v22; have a23 := L.a23; have z23 := L.z23; have t25 := L.t25; have a25 := L.a25; have z25 := L.z25; have v25 := L.v25
  have e6 : ∀ args w, (callFunc (ρ.f 6) args).run P w = .ok (.enter (ρ.f 6) args) w := L.f6.enters rfl
  have hcl0 := hO.cells
  simp only [Value.cells] at hcl0
  have hst := hO.store P
  have tl : ∀ j, j < d.size → d.toList[j]! = d[j]! := fun j hj => by rw [getElem!_pos d j hj, getElem!_pos d.toList j (by simpa using hj)]; simp
  have hIF := index_rows (P := P) (ρ := ρ) { L with } enc G p g lb eg blk off cap size e d w hp hG hR hsz
  obtain ⟨kp, HK⟩ : ∃ kp : Nat → Bool, Go.RowKit.Hid (kp = fun j => !p d[j]!) := ⟨_, rfl⟩
  have hfil : (d.toList.filter fun x => !p x) = keptUpTo kp d d.size := by rw [HK.out]; exact (keptUpTo_filter (fun x => !p x) d).symm
  rw [hfil]
  have HP : Aside (Asks P g lb enc G p blk w) := hp
  have HG : Aside (∀ j, j < d.size → G d[j]!) := hG
  rcases idxByFrom_spec (fun _ y => p y) default d.toList 0 with ⟨e1, hall⟩ | ⟨k0, hk0, e1, ht, hall⟩
  · have e2 : Lib.idxBy (fun _ y => p y) d.toList default = -1 := e1
    rw [e2] at hIF
    have hkeep : ∀ j, j < d.size → kp j = true := fun j hj => by rw [HK.out]; show (!p d[j]!) = true; rw [← tl j hj, hall j (by simpa using hj)]; rfl
    have e3 : keptUpTo kp d d.size = d.toList := by rw [keptUpTo_all kp d _ hkeep, Go.Lib.range_map_get]
    clear hp hR hG
    obtain ⟨_, _, FG⟩ := L.f10
    go_enter FG, SlBodyH.n10_ntmps ρ
    go_wp2_with (go_at_fn (ρ.f 6); refine hIF.mono ?_; rintro en w' ⟨rfl, HW⟩)
    go_ret
    rw [e3]
    refine ⟨by simp, ?_⟩
    simp only [Array.length_toList, Nat.sub_self, List.replicate_zero, List.append_nil, Array.toArray_toList]
    exact HW
  · have hk0' : k0 < d.size := by simpa using hk0
    have e2 : Lib.idxBy (fun _ y => p y) d.toList default = (k0 : Int) := by unfold Lib.idxBy; rw [e1]; simp
    rw [e2] at hIF
    have hkeep : ∀ j, j < k0 → kp j = true := fun j hj => by rw [HK.out]; show (!p d[j]!) = true; rw [← tl j (by omega), hall j hj]; rfl
    have hdrop : kp k0 = false := by rw [HK.out]; show (!p d[k0]!) = false; rw [← tl k0 hk0']; rw [show p d.toList[k0]! = true from ht]; rfl
    have hne1 : ((k0 : Int) == -1) = false := beq_eq_false_iff_ne.2 (by omega)
    clear hp hR hG hall ht e1 e2 tl
    obtain ⟨_, _, FG⟩ := L.f10
    go_enter FG, SlBodyH.n10_ntmps ρ
    go_wp2_with (go_at_fn (ρ.f 6); refine hIF.mono ?_; rintro en w' ⟨rfl, HW0⟩; have HW : Aside (RowIs enc w blk off size e d w') := HW0; clear HW0)
    go_loopg [5, 6, 7] d.size (fun gg s5 s6 _ wr => ∃ (i j : Nat) (dk : Array α), s5 = .int .i64 i ∧ s6 = .int .i64 j ∧ j ≤ d.size ∧ d.size - j ≤ gg ∧ Aside (RowIs enc w blk off size e dk wr) ∧ Aside (KeptInv kp d j i dk))
    case atStart => exact ⟨k0, k0 + 1, d, rfl, by go_num, by omega, by omega, HW, KeptInv.start hkeep hdrop⟩
    case round =>
      obtain ⟨i, j, dk, rfl, rfl, hjd, hgg, W2, I2⟩ := hrel
      have hI := I2.out
      have hij := hI.lt
      have hds := hI.size
      have hHk := W2.out.holds
      by_cases hlt : j < d.size
      · have hltz : (j : Int) < (d.size : Int) := by omega
        obtain ⟨cj, _⟩ := hHk j (by omega)
        obtain ⟨ci, fi⟩ := hHk i (by omega)
        rw [hI.high j (by omega)] at cj
        have hcall := HP.out d[j]! wr (HG.out j hlt) W2.out.grown
        clear hHk hI
        generalize hu : d[j]! = u at cj hcall
        generalize dk[i]! = old at ci
        have C : Aside (d[j]! = u) := hu
        clear hu
        cases hq : p u with
        | false =>
          rw [hq] at hcall
          go_wp2_with (go_at_fn g; refine hcall.mono ?_; rintro en w' ⟨rfl, hb⟩; have W3 : Aside (RowIs enc w blk off size e dk w') := W2.out.below hb; have cj' := (hb.cell (p := ⟨blk, off + j, none⟩) (World.block_lt_of_cell? _ _ cj)).trans cj; have ci' := (hb.cell (p := ⟨blk, off + i, none⟩) (World.block_lt_of_cell? _ _ ci)).trans ci; have fi' := (hb.frozen (p := ⟨blk, off + i, none⟩) (World.block_lt_of_cell? _ _ ci)).trans fi; clear hb)
          go_roundg (d.size - (j + 1))
          case measure => omega
          case rel =>
            refine ⟨i + 1, j + 1, dk.setIfInBounds i u, by go_num, by go_num, by omega, Nat.le_refl _, (show Aside _ from W3.out.set i u (by omega)), (show Aside _ from ?_)⟩
            have := I2.out.keep hlt (by rw [HK.out]; show (!p d[j]!) = true; rw [C.out, hq]; rfl)
            rwa [C.out] at this
        | true =>
          rw [hq] at hcall
          go_wp2_with (go_at_fn g; refine hcall.mono ?_; rintro en w' ⟨rfl, hb⟩; have W3 : Aside (RowIs enc w blk off size e dk w') := W2.out.below hb; clear hb)
          go_roundg (d.size - (j + 1))
          case measure => omega
          case rel => exact ⟨i, j + 1, dk, rfl, by go_num, by omega, Nat.le_refl _, W3, I2.out.skip (by rw [HK.out]; show (!p d[j]!) = false; rw [C.out, hq]; rfl)⟩
      · obtain rfl : j = d.size := by omega
        have hltz : ¬ (d.size : Int) < (d.size : Int) := by omega
        have hcl : ∀ ty, (Builtin.clear_ #[ρ.t 22] ty #[.slice (some ⟨blk, off + i, none⟩) (d.size - i) (cap - i)]).run P wr = .ok (.tuple #[]) (wr.setCells blk (off + i) (List.replicate (d.size - i) (enc zr))) :=
          fun ty => Lib.run_clear_slice wr _ _ ty _ t22 v23 (hO.cells zr) (hO zr) blk (off + i) _ _ (by omega) (fun t ht => by rw [show off + i + t = off + (i + t) by omega, (hHk (i + t) (by omega)).1]; rfl) (fun t ht => by rw [show off + i + t = off + (i + t) by omega]; exact (hHk (i + t) (by omega)).2)
        clear hHk hI
        go_wp2
        go_ret
        have hI := I2.out
        refine ⟨by rw [hI.len]; rfl, ?_⟩
        have := W2.out.sets i (List.replicate (d.size - i) zr) (by simp; omega)
        rw [List.map_replicate] at this
        rw [hI.len, ← hI.done zr]
        exact this
end
open Go.Proofs.YtjgkcknopnollaaGreatW.PrintWords Go.Proofs.YtjgkcknopnollaaGreatW.PrintLast Go.Proofs.YtjgkcknopnollaaGreatW.PrintMore in
/-- slices.DeleteFunc at rows of rows that lie apart, at least one. -/
theorem delete_S {P : Program} {ρ : Ren} (L : SlLaysH.n10 P ρ) (ei e : Nat) (g : Nat) (lb : Array Value) (eg : ∀ args w, (callFunc g args).run P w = .ok (.enter g args) w) (v23 : ∀ w, (zeroValue (ρ.t 23)).run P w = .ok (.slice none 0 0) w) (q : List Int → Bool)
    (base : Nat) (ok : Nat → Prop) (v : Value) (xs : List (List Int)) (w : World) (hS : Kd.S (Kd.slice ei (Kd.int .i64)) e w base ok v xs) (hx : xs ≠ [])
    (hq : ∀ (A : Option Addr) (c : Nat) (row : List Int) (W : World), row ∈ xs → w.grownBy W v.ownBlock → Kd.C (Kd.int .i64) W A row.length row → row.length ≤ c → Calls P g (#[.slice A row.length c] ++ lb) W fun en w' => en = .returned (.bool (q row)) ∧ Go.RowKit.Below W.heap.size W w') :
    Calls P (ρ.f 10) #[v, .func (.func g) #[] lb] w fun en w' => ∃ v' : Value, en = .returned v' ∧ Kd.S (Kd.slice ei (Kd.int .i64)) e w' base ok v' (xs.filter fun x => !q x) ∧ w.grownBy w' v.ownBlock ∧ v'.ownBlock = v.ownBlock := by
  obtain ⟨g0, cap, cur, f, rfl, hb, h0, hh, hnc, hcm, hcs1, d, hds, hrow, htag, henc⟩ := open_S hS hx
  have hg : g0 < w.heap.size := (Array.getElem?_eq_some_iff.1 hh).1
  have hH := holds_S (W := w) hh henc
  have hcon := delete_rows (P := P) (ρ := ρ) L (El.enc (ei := ei) (w := w) (base := base) (ok := okt ok g0 f)) El.one (fun x => x.row ∈ xs) (fun x => q x.row) g lb eg El.nil v23 g0 0 cap cap e d w
    (by
      intro x W hxx hW
      have hm := x.move W (fun k hk hne => hW.block k hk (fun e => hne (by injection e)))
      obtain ⟨A, c, ex, hc, hC⟩ := Kd.R_reads hm
      rw [ex]
      exact hq A c x.row W hxx hW hC hc)
    (fun j hj => by
      rw [getElem!_pos d j hj, ← hrow]
      exact List.mem_map.2 ⟨d[j], by simp, rfl⟩)
    ⟨⟨rfl, rfl, rfl, Nat.le_refl _, fun _ _ _ => rfl⟩, ⟨cur, hh, hcs1⟩, hH⟩ (by unfold maxLen at hcm; omega) (by omega)
  rw [hds] at hcon
  refine hcon.mono ?_
  rintro en w' ⟨rfl, hR⟩
  obtain ⟨c, hc, hcz⟩ := hR.block
  have hf : (d.toList.filter fun (x : El ei w base (okt ok g0 f)) => !q x.row).map El.row = xs.filter fun x => !q x := by
    rw [← hrow, List.filter_map]; rfl
  have hnd : ((d.toList.filter fun (x : El ei w base (okt ok g0 f)) => !q x.row).map El.tag).Nodup := by
    have h1 : ((d.toList.filter fun (x : El ei w base (okt ok g0 f)) => !q x.row).map El.tag).Sublist (d.toList.map El.tag) := List.filter_sublist.map _
    rw [htag] at h1
    exact List.nodup_range.sublist h1
  have hlen : (d.toList.filter fun (x : El ei w base (okt ok g0 f)) => !q x.row).length ≤ d.size := Nat.le_trans (List.length_filter_le _ _) (by simp)
  refine ⟨_, rfl, ?_, hR.grown, rfl⟩
  rw [← hf]
  refine close_S _ hnd (fun k hk hne => hR.grown.block k hk (fun e => hne (by injection e))) c hc hcz (by omega) hcm hb h0 ?_
  intro j hj
  have hsz : j < ((d.toList.filter fun (x : El ei w base (okt ok g0 f)) => !q x.row) ++ List.replicate (d.size - (d.toList.filter fun (x : El ei w base (okt ok g0 f)) => !q x.row).length) El.nil).toArray.size := by simp; omega
  have := (hR.holds j (by rw [← hds]; exact hsz)).1
  unfold World.cell? at this
  simp only [hc, Option.isSome_none, Bool.false_eq_true, if_false, Nat.zero_add] at this
  rw [this, ← hds, getElem!_pos _ j hsz]
  simp [List.getElem_append_left hj]
end Go.Proofs.YtjgkcknopnollaaGreat.DelS
