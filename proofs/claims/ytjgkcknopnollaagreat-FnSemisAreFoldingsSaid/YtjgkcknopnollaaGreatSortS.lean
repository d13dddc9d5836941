/- slices.SortFunc(rows, slices.Compare): a row of rows that lie apart is put in order, out of the kit's contract over elements of one cell. -/
import Derived.Test.YtjgkcknopnollaaGreatElS
set_option linter.unusedVariables false
namespace Go.Proofs.YtjgkcknopnollaaGreat.SortS
open Go.Shelf Go.RowKit Go.Proofs.YtjgkcknopnollaaGreat.SortL Go.Proofs.YtjgkcknopnollaaGreat.ElS Go.Proofs.YtjgkcknopnollaaGreatW.PrintWords Go.Proofs.YtjgkcknopnollaaGreatW.PrintLast Go.Proofs.YtjgkcknopnollaaGreatW.PrintMore
theorem sw_block {α : Type} [Inhabited α] (enc : α → Value) (w : World) (blk off m : Nat) (dk : Array α) (os : Array Obj) (k : Nat) (hk : k < w.heap.size) (hne : k ≠ blk) : (sortWorld enc w blk off m dk os).heap[k]? = w.heap[k]? := by
  unfold sortWorld
  rw [Go.Sort.heap_grow_old _ _ (by rw [size_putRow]; exact hk)]
  simp only [Go.Sort.putRow, Go.Sort.mapBlock, Array.getElem?_modify]
  rw [if_neg (fun e => hne e.symm)]; rfl
theorem sw_own {α : Type} [Inhabited α] (enc : α → Value) (w : World) (blk off m : Nat) (dk : Array α) (os : Array Obj) {cur : Array Value} {e : TypeId} {fr : Nat × Nat} (hc : w.heap[blk]? = some (.cells cur e fr)) : (sortWorld enc w blk off m dk os).heap[blk]? = some (.cells (Go.Sort.putCells enc off dk cur) e fr) := by
  have hlt : blk < w.heap.size := (Array.getElem?_eq_some_iff.1 hc).1
  unfold sortWorld
  rw [Go.Sort.heap_grow_old _ _ (by rw [size_putRow]; exact hlt)]
  simp only [Go.Sort.putRow, Go.Sort.mapBlock, Array.getElem?_modify, if_true]
  have : (Go.Sort.ahead w m).heap[blk]? = some (.cells cur e fr) := hc
  rw [this]; rfl
theorem sw_grown {α : Type} [Inhabited α] (enc : α → Value) (w : World) (blk off m : Nat) (dk : Array α) (os : Array Obj) : w.grownBy (sortWorld enc w blk off m dk os) (some blk) :=
  ⟨rfl, rfl, rfl, by unfold sortWorld; show w.heap.size ≤ ((Go.Sort.putRow enc (Go.Sort.ahead w m) blk off dk).heap ++ os).size; rw [Array.size_append, size_putRow]; show w.heap.size ≤ w.heap.size + _; omega, fun k hk hne => sw_block enc w blk off m dk os k hk (fun e => hne (by rw [e]))⟩
section
variable {ei : Nat} {w : World} {base : Nat} {ok : Nat → Nat → Prop}
def elCmp (x y : El ei w base ok) : Int := cmpL x.row y.row
theorem elSwo : Go.Sort.SWO (ltOf (elCmp (ei := ei) (w := w) (base := base) (ok := ok))) where
  irrefl x := by unfold ltOf elCmp; rw [cmpL_self]; decide
  trans x y z h1 h2 := by
    unfold ltOf elCmp at *
    exact decide_eq_true (cmpL_trans _ _ _ (of_decide_eq_true h1) (of_decide_eq_true h2))
  ntrans x y z h1 h2 := by
    unfold ltOf elCmp at *
    exact decide_eq_false (cmpL_ntrans _ _ _ (of_decide_eq_false h1) (of_decide_eq_false h2))
end
set_option maxHeartbeats 2000000 in
theorem sort_S {P : Program} {ρ : Ren} (L : SlLaysF.n6 P ρ) (ei e gc : Nat)
    (hcmpf : ∀ (A : Option Addr) (c : Nat) (a : List Int) (A' : Option Addr) (c' : Nat) (b : List Int) (W : World), Kd.C (Kd.int .i64) W A a.length a → a.length ≤ c → Kd.C (Kd.int .i64) W A' b.length b → b.length ≤ c' → Calls P gc #[.slice A a.length c, .slice A' b.length c'] W fun en w' => en = .returned (.int .i64 (cmpL a b)) ∧ Drawn0 W w')
    (eg : ∀ args w, (callFunc gc args).run P w = .ok (.enter gc args) w)
    (base : Nat) (ok : Nat → Prop) (v : Value) (xs : List (List Int)) (w : World) (hS : Kd.S (Kd.slice ei (Kd.int .i64)) e w base ok v xs) (hlen : xs.length < 4611686018427387904) :
    Calls P (ρ.f 6) #[v, .func (.func gc) #[] #[]] w fun en w' => en = .returned (.tuple #[]) ∧ Kd.S (Kd.slice ei (Kd.int .i64)) e w' base ok v (sortL xs) ∧ w.grownBy w' v.ownBlock := by
  by_cases hx : xs = []
  · subst hx
    obtain ⟨A, c, rfl⟩ := Kd.S_slice hS
    refine (AnyF.slices_SortFunc_none (P := P) (ρ := ρ) { L with } A c (.func (.func gc) #[] #[]) w).mono ?_
    rintro en w' ⟨rfl, rfl⟩
    exact ⟨rfl, hS, ⟨rfl, rfl, rfl, Nat.le_refl _, fun _ _ _ => rfl⟩⟩
  obtain ⟨g, cap, cur, f, rfl, hb, h0, hh, hnc, hcm, hcs1, d, hds, hrow, htag, henc⟩ := open_S hS hx
  have hg : g < w.heap.size := (Array.getElem?_eq_some_iff.1 hh).1
  have hH := holds_S (W := w) hh henc
  have hcmp : CmpReads P gc #[] (El.enc (ei := ei) (w := w) (base := base) (ok := okt ok g f)) elCmp g 0 d.size w := by
    intro m os dk hs x y
    have hx' := x.move (sortWorld El.enc w g 0 m dk os) (fun k hk hne => sw_block _ w g 0 m dk os k hk hne)
    have hy' := y.move (sortWorld El.enc w g 0 m dk os) (fun k hk hne => sw_block _ w g 0 m dk os k hk hne)
    obtain ⟨A, c, ex, hc, hC⟩ := Kd.R_reads hx'
    obtain ⟨A', c', ey, hc', hC'⟩ := Kd.R_reads hy'
    rw [ex, ey]
    refine (hcmpf A c x.row A' c' y.row _ hC hc hC' hc').mono ?_
    rintro en w' ⟨rfl, n, rfl⟩
    exact ⟨rfl, n, rfl⟩
  have hcon := Any.slices_SortFunc L El.enc El.one elCmp elSwo gc #[] g 0 cap d w eg hcmp.lays hH hg (by omega)
  rw [hds] at hcon
  refine hcon.mono ?_
  rintro en w' ⟨rfl, d', n, os, hp, hs, rfl⟩
  obtain ⟨hp1, _, hp2⟩ := hp
  have hd1 : d'.size = xs.length := by omega
  have hperm : d'.toList.Perm d.toList := by
    have e1 : d'.extract 0 xs.length = d' := by rw [← hd1]; simp
    have e2 : d.extract 0 xs.length = d := by rw [← hds]; simp
    rw [e1, e2] at hp2; exact hp2
  have hys : d'.toList.map El.row = sortL xs := by
    refine sortL_eq ?_ ?_
    · have := hperm.map El.row
      rw [hrow] at this; exact this
    · unfold Sorted
      rw [List.pairwise_iff_getElem]
      intro i j hi hj hij
      have hi' : i < d'.size := by simpa using hi
      have hj' : j < d'.size := by simpa using hj
      have := hs i j (Nat.zero_le _) hij (by omega)
      rw [getElem!_pos d' i hi', getElem!_pos d' j hj'] at this
      unfold ltOf elCmp at this
      have := of_decide_eq_false this
      simpa using this
  have htags : (d'.toList.map El.tag).Nodup := by
    have := hperm.map El.tag
    rw [htag] at this
    exact this.nodup_iff.2 List.nodup_range
  refine ⟨rfl, ?_, sw_grown _ w g 0 n d' os⟩
  rw [← hys]
  have hlen' : d'.toList.length = xs.length := by simpa using hd1
  have := close_S (e := e) (cap := cap) d'.toList htags (fun k hk hne => sw_block El.enc w g 0 n d' os k hk hne) (Go.Sort.putCells El.enc 0 d' cur) (sw_own _ w g 0 n d' os hh) (by simp [Go.Sort.putCells]; exact hcs1) (by omega) hcm hb h0 (by
    intro j hj
    have hj' : j < d'.size := by simpa using hj
    have hic : j < cur.size := by omega
    simp [Go.Sort.putCells, hj', hic])
  rw [hlen'] at this
  exact this
end Go.Proofs.YtjgkcknopnollaaGreat.SortS
