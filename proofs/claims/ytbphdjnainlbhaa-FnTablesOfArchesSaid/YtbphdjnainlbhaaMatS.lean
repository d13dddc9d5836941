/- Rows of whole numbers that lie apart, told row by row: what is written into one says nothing of the others, and rows may change places. -/
import Derived.Test.YtbphdjnainlbhaaWMore
import Derived.Test.YtbphdjnainlbhaaElO
set_option linter.unusedVariables false
namespace Go.Proofs.Ytbphdjnainlbhaa.MatS
open Go.RowKit Go.Proofs.YtbphdjnainlbhaaW.PrintWords Go.Proofs.YtbphdjnainlbhaaW.PrintLast Go.Proofs.YtbphdjnainlbhaaW.PrintMore
/-- row i of L lies in the block (B i).1 with the capacity (B i).2; the rows' slices lie in block g -/
structure Mat (e ei : Nat) (W : World) (base g : Nat) (B : List (Nat × Nat)) (L : List (List Int)) : Prop where
  len : B.length = L.length
  gb : base ≤ g
  cells : ∃ cur : Array Value, W.heap[g]? = some (.cells cur e (0, 0)) ∧ ∀ (i : Nat) (b : Nat × Nat) (l : List Int), B[i]? = some b → L[i]? = some l → cur[i]? = some (.slice (some ⟨b.1, 0, none⟩) l.length b.2)
  rows : ∀ (i : Nat) (b : Nat × Nat) (l : List Int), B[i]? = some b → L[i]? = some l → (Kd.int .i64).R ei W base (fun k => k = b.1) (.slice (some ⟨b.1, 0, none⟩) l.length b.2) l
  apart : ∀ (i j : Nat) (b c : Nat × Nat), B[i]? = some b → B[j]? = some c → b.1 = c.1 → i = j
  off : ∀ (i : Nat) (b : Nat × Nat), B[i]? = some b → b.1 ≠ g
section
variable {e ei base g : Nat} {W W' : World} {B : List (Nat × Nat)} {L : List (List Int)}
theorem Mat.below (h : Mat e ei W base g B L) (hb : Below W.heap.size W W') : Mat e ei W' base g B L where
  len := h.len
  gb := h.gb
  cells := by
    obtain ⟨cur, h1, h2⟩ := h.cells
    exact ⟨cur, blk_below h1 hb, h2⟩
  rows := fun i b l h1 h2 => Kd.R_below (h.rows i b l h1 h2) hb
  apart := h.apart
  off := h.off
theorem Mat.at_ (h : Mat e ei W base g B L) {i : Nat} (hi : i < L.length) : ∃ b : Nat × Nat, B[i]? = some b ∧ L[i]? = some L[i] := by
  have := h.len
  exact ⟨B[i]'(by omega), List.getElem?_eq_getElem _, List.getElem?_eq_getElem _⟩
/-- a row's slice, read out of the whole -/
theorem Mat.cell (h : Mat e ei W base g B L) {i : Nat} {b : Nat × Nat} {l : List Int} (h1 : B[i]? = some b) (h2 : L[i]? = some l) : W.cell? ⟨g, i, none⟩ = some (.slice (some ⟨b.1, 0, none⟩) l.length b.2) ∧ W.frozen? ⟨g, i, none⟩ = false := by
  obtain ⟨cur, hc, hx⟩ := h.cells
  exact ⟨(blk_cell hc i).trans (hx i b l h1 h2), blk_frozen hc i⟩
/-- a number of a row -/
theorem Mat.num (h : Mat e ei W base g B L) {i : Nat} {b : Nat × Nat} {l : List Int} (h1 : B[i]? = some b) (h2 : L[i]? = some l) (k : Int) (k0 : 0 ≤ k) (k1 : k < (l.length : Int)) : W.cell? ⟨b.1, k.toNat, none⟩ = some (.int .i64 (rd l k)) ∧ W.frozen? ⟨b.1, k.toNat, none⟩ = false :=
  Kd.R_celln (0 : Int) (h.rows i b l h1 h2) k k0 k1
theorem Mat.reads (h : Mat e ei W base g B L) {i : Nat} {b : Nat × Nat} {l : List Int} (h1 : B[i]? = some b) (h2 : L[i]? = some l) : l.length ≤ b.2 ∧ Kd.C (Kd.int .i64) W (some ⟨b.1, 0, none⟩) l.length l := (Kd.R_reads' (h.rows i b l h1 h2)).2
theorem Mat.lo (h : Mat e ei W base g B L) {i : Nat} {b : Nat × Nat} {l : List Int} (h1 : B[i]? = some b) (h2 : L[i]? = some l) : base ≤ b.1 := Kd.R_base (h.rows i b l h1 h2) b.1 rfl
theorem Mat.hi (h : Mat e ei W base g B L) {i : Nat} {b : Nat × Nat} (h1 : B[i]? = some b) : b.1 < W.heap.size := by
  have hi := (List.getElem?_eq_some_iff.1 h1).1
  have hl := h.len
  exact Kd.R_lt (h.rows i b L[i] h1 (List.getElem?_eq_getElem (by omega))) b.1 rfl
theorem Mat.gt (h : Mat e ei W base g B L) : g < W.heap.size := by
  obtain ⟨cur, hc, _⟩ := h.cells
  exact blk_lt hc
/-- a number written into a row -/
theorem Mat.put (h : Mat e ei W base g B L) {i : Nat} {b : Nat × Nat} {l : List Int} (h1 : B[i]? = some b) (h2 : L[i]? = some l) (k : Int) (x : Int) : Mat e ei (W.setCell ⟨b.1, k.toNat, none⟩ (.int .i64 x)) base g B (L.set i (l.set k.toNat x)) where
  len := by rw [List.length_set]; exact h.len
  gb := h.gb
  cells := by
    obtain ⟨cur, hc, hx⟩ := h.cells
    refine ⟨cur, (Below.heap_setCell W _ _ g (Ne.symm (h.off i b h1))).trans hc, fun j c m g1 g2 => ?_⟩
    rw [List.getElem?_set] at g2
    by_cases e : i = j
    · subst e
      rw [h1] at g1
      obtain rfl := Option.some.inj g1
      rw [if_pos rfl] at g2
      by_cases hl : i < L.length
      · rw [if_pos hl] at g2
        obtain rfl := Option.some.inj g2
        rw [List.length_set]
        exact hx i b l h1 h2
      · rw [if_neg hl] at g2; cases g2
    · rw [if_neg e] at g2
      exact hx j c m g1 g2
  rows := fun j c m g1 g2 => by
    rw [List.getElem?_set] at g2
    by_cases e : i = j
    · subst e
      rw [h1] at g1
      obtain rfl := Option.some.inj g1
      rw [if_pos rfl] at g2
      by_cases hl : i < L.length
      · rw [if_pos hl] at g2
        obtain rfl := Option.some.inj g2
        rw [List.length_set]
        exact (Kd.R_putg (h.rows i b l h1 h2) k x).1
      · rw [if_neg hl] at g2; cases g2
    · rw [if_neg e] at g2
      exact Kd.R_far (h.rows j c m g1 g2) (fun q hq hn => e (h.apart i j b c h1 g1 (by rw [hq] at hn; exact hn.symm))) _
  apart := h.apart
  off := h.off
def exch {α : Type} (A : List α) (i j : Nat) (x y : α) : List α := (A.set i y).set j x
theorem exch_at {α : Type} {A : List α} {i j : Nat} {x y : α} (hi : A[i]? = some x) (hj : A[j]? = some y) (k : Nat) : (exch A i j x y)[k]? = A[if j = k then i else if i = k then j else k]? := by
  have li : i < A.length := (List.getElem?_eq_some_iff.1 hi).1
  have lj : j < A.length := (List.getElem?_eq_some_iff.1 hj).1
  unfold exch
  rw [List.getElem?_set, List.getElem?_set, List.length_set]
  by_cases e1 : j = k
  · rw [if_pos e1, if_pos e1, if_pos lj, hi]
  · rw [if_neg e1, if_neg e1]
    by_cases e2 : i = k
    · rw [if_pos e2, if_pos e2, if_pos li, hj]
    · rw [if_neg e2, if_neg e2]
theorem turn_inj {i j a b : Nat} (h : (if j = a then i else if i = a then j else a) = (if j = b then i else if i = b then j else b)) : a = b := by
  split at h <;> split at h <;> (try split at h) <;> (try split at h) <;> omega
/-- two rows change places: their slices are written -/
theorem Mat.swap (h : Mat e ei W base g B L) {i j : Nat} {b c : Nat × Nat} {l m : List Int} (h1 : B[i]? = some b) (h2 : L[i]? = some l) (h3 : B[j]? = some c) (h4 : L[j]? = some m) :
    Mat e ei ((W.setCell ⟨g, i, none⟩ (.slice (some ⟨c.1, 0, none⟩) m.length c.2)).setCell ⟨g, j, none⟩ (.slice (some ⟨b.1, 0, none⟩) l.length b.2)) base g (exch B i j b c) (exch L i j l m) where
  len := by unfold exch; simp [h.len]
  gb := h.gb
  cells := by
    obtain ⟨cur, hc, hx⟩ := h.cells
    refine ⟨_, blk_put (blk_put hc i _ rfl) j _ rfl, fun k d n g1 g2 => ?_⟩
    rw [exch_at h1 h3] at g1
    rw [exch_at h2 h4] at g2
    have hc1 := hx _ _ _ g1 g2
    have ci := (Array.getElem?_eq_some_iff.1 (hx i b l h1 h2)).1
    have cj := (Array.getElem?_eq_some_iff.1 (hx j c m h3 h4)).1
    rw [Array.getElem?_setIfInBounds, Array.getElem?_setIfInBounds, Array.size_setIfInBounds]
    by_cases e1 : j = k
    · subst e1
      rw [if_pos rfl] at g1 g2
      rw [h1] at g1; rw [h2] at g2
      obtain rfl := Option.some.inj g1
      obtain rfl := Option.some.inj g2
      rw [if_pos rfl, if_pos cj]
    · rw [if_neg e1] at g1 g2
      rw [if_neg e1]
      by_cases e2 : i = k
      · subst e2
        rw [if_pos rfl] at g1 g2
        rw [h3] at g1; rw [h4] at g2
        obtain rfl := Option.some.inj g1
        obtain rfl := Option.some.inj g2
        rw [if_pos rfl, if_pos ci]
      · rw [if_neg e2] at g1 g2
        rw [if_neg e2]
        exact hx k d n g1 g2
  rows := fun k d n g1 g2 => by
    rw [exch_at h1 h3] at g1
    rw [exch_at h2 h4] at g2
    exact Kd.R_far (Kd.R_far (h.rows _ _ _ g1 g2) (fun q hq => by rw [hq]; exact h.off _ _ g1) _) (fun q hq => by rw [hq]; exact h.off _ _ g1) _
  apart := fun p q d n g1 g2 hd => by
    rw [exch_at h1 h3] at g1 g2
    exact turn_inj (h.apart _ _ _ _ g1 g2 hd)
  off := fun k d g1 => by
    rw [exch_at h1 h3] at g1
    exact h.off _ _ g1
/-- between the two stores of an exchange -/
theorem Mat.mid (h : Mat e ei W base g B L) {i j : Nat} {c : Nat × Nat} {m : List Int} (h3 : B[j]? = some c) (h4 : L[j]? = some m) (hij : i ≠ j) (u : Value) : (W.setCell ⟨g, i, none⟩ u).cell? ⟨g, j, none⟩ = some (.slice (some ⟨c.1, 0, none⟩) m.length c.2) ∧ (W.setCell ⟨g, i, none⟩ u).frozen? ⟨g, j, none⟩ = false := by
  obtain ⟨cur, hc, hx⟩ := h.cells
  have hb := blk_put hc i u rfl
  refine ⟨(blk_cell hb j).trans ?_, blk_frozen hb j⟩
  rw [Array.getElem?_setIfInBounds, if_neg hij]
  exact hx j c m h3 h4
/-- the rows from r on, as a slice that is read -/
theorem Mat.tail (h : Mat e ei W base g B L) (r : Nat) (hr : r ≤ L.length) (hm : L.length ≤ maxLen) : Kd.C (Kd.slice ei (Kd.int .i64)) W (some ⟨g, r, none⟩) (L.drop r).length (L.drop r) := by
  refine ⟨rfl, ?_, fun hp => ⟨⟨g, r, none⟩, rfl, fun j p hj => ?_⟩⟩
  · have : maxLen = 9223372036854775807 := rfl
    rw [List.length_drop]; omega
  · rw [List.getElem?_drop] at hj
    have hl := (List.getElem?_eq_some_iff.1 hj).1
    obtain ⟨b, hb, _⟩ := h.at_ hl
    obtain ⟨h1, h2⟩ := h.reads hb hj
    refine ⟨[.slice (some ⟨b.1, 0, none⟩) p.length b.2], rfl, ⟨_, _, rfl, h1, h2⟩, fun i u hu => ?_⟩
    have hi : i = 0 := by
      by_cases h0 : i = 0
      · exact h0
      · rw [List.getElem?_eq_none (by simp; omega)] at hu; cases hu
    subst hi
    simp only [List.getElem?_cons_zero, Option.some.injEq] at hu
    subst hu
    have e1 : (⟨g, r, none⟩ : Addr).add (j * (Kd.slice ei (Kd.int .i64)).sz + 0) = ⟨g, r + j, none⟩ := by
      have e2 : j * (Kd.slice ei (Kd.int .i64)).sz + 0 = j := by show j * 1 + 0 = j; omega
      rw [e2]; exact add_at g r j
    rw [e1]
    exact (h.cell hb hj).1
/-- out of the form S -/
theorem Mat.of_S {ok : Nat → Prop} {v : Value} (hS : Kd.S (Kd.slice ei (Kd.int .i64)) e W base ok v L) (hL : L ≠ []) (hl : ∀ x ∈ L, x ≠ []) : ∃ (g cap : Nat) (B : List (Nat × Nat)), v = .slice (some ⟨g, 0, none⟩) L.length cap ∧ L.length ≤ cap ∧ cap ≤ maxLen ∧ Mat e ei W base g B L := by
  obtain ⟨g, cap, cur, f, rfl, hb, _, hh, hle, hcm, _, d, hds, hrow, htag, henc⟩ := ElO.open_S hS hL
  have hrl : ∀ (i : Nat) (l : List Int), L[i]? = some l → ∃ h : i < d.size, d[i].row = l := by
    intro i l hi
    have hlt : i < L.length := (List.getElem?_eq_some_iff.1 hi).1
    refine ⟨by omega, ?_⟩
    rw [← hrow, List.getElem?_map, Array.getElem?_toList, Array.getElem?_eq_getElem (by omega)] at hi
    exact Option.some.inj hi
  have htg : ∀ (i : Nat) (h : i < d.size), d[i].tag = i := by
    intro i h
    have := congrArg (fun l => l[i]?) htag
    simp only [List.getElem?_map, Array.getElem?_toList, Array.getElem?_eq_getElem h, Option.map_some] at this
    rw [List.getElem?_range (by omega)] at this
    exact Option.some.inj this
  have hform : ∀ (i : Nat) (h : i < d.size), ∃ b : Nat × Nat, d[i].enc = .slice (some ⟨b.1, 0, none⟩) d[i].row.length b.2 := by
    intro i h
    have hlt : i < L.length := by omega
    obtain ⟨h', e⟩ := hrl i L[i] (List.getElem?_eq_getElem hlt)
    have hp : 0 < d[i].row.length := by rw [e]; exact List.length_pos_iff.2 (hl _ (List.getElem_mem hlt))
    obtain ⟨b, c, hv, _⟩ := Kd.R_form d[i].told hp
    exact ⟨(b, c), hv⟩
  have hB : ∃ B : List (Nat × Nat), B.length = d.size ∧ ∀ (i : Nat) (b : Nat × Nat), B[i]? = some b → ∃ h : i < d.size, d[i].enc = .slice (some ⟨b.1, 0, none⟩) d[i].row.length b.2 := by
    refine ⟨(List.range d.size).map (fun i => if h : i < d.size then Classical.choose (hform i h) else (0, 0)), by simp, fun i b hb => ?_⟩
    rw [List.getElem?_map] at hb
    obtain ⟨j, hj, e⟩ := Option.map_eq_some_iff.1 hb
    have hlt : i < d.size := by have := (List.getElem?_eq_some_iff.1 hj).1; simpa using this
    rw [List.getElem?_range hlt] at hj
    obtain rfl := Option.some.inj hj
    rw [dif_pos hlt] at e
    subst e
    exact ⟨hlt, Classical.choose_spec (hform i hlt)⟩
  obtain ⟨B, hBl, hBs⟩ := hB
  have hown : ∀ (i : Nat) (b : Nat × Nat), B[i]? = some b → ∃ h : i < d.size, ElO.okt ok g f i b.1 := by
    intro i b hb
    obtain ⟨h, e⟩ := hBs i b hb
    have := d[i].told.1 b.1 (by rw [e]; rfl)
    rw [htg i h] at this
    exact ⟨h, this⟩
  refine ⟨g, cap, B, rfl, hle, hcm, ?_⟩
  refine { len := by omega, gb := hb, cells := ⟨cur, hh, fun i b l h1 h2 => ?_⟩, rows := fun i b l h1 h2 => ?_, apart := fun i j b c h1 h2 hbc => ?_, off := fun i b h1 hq => ?_ }
  · obtain ⟨h, e⟩ := hBs i b h1
    obtain ⟨_, er⟩ := hrl i l h2
    rw [henc i h, e, er]
  · obtain ⟨h, e⟩ := hBs i b h1
    obtain ⟨_, er⟩ := hrl i l h2
    have := d[i].told
    rw [e, er] at this
    have ht := Kd.R_tight rfl this
    exact Kd.R_mono ht (fun k hk => by
      have : some k = some b.1 := hk
      exact Option.some.inj this)
  · obtain ⟨_, o1⟩ := hown i b h1
    obtain ⟨_, o2⟩ := hown j c h2
    rw [hbc] at o1
    exact o1.2.symm.trans o2.2
  · obtain ⟨_, o1⟩ := hown i b h1
    exact o1.1.2 (by rw [hq])
end
end Go.Proofs.Ytbphdjnainlbhaa.MatS
