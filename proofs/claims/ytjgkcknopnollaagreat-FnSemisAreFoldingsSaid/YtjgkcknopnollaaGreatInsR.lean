/- slices.Insert of one number into a row of whole numbers of the call's own, out of the kit's contracts (in place or in a new row). -/
import Derived.Shelf.Spec.SlicesInsertGrow
import Derived.Test.YtjgkcknopnollaaGreatWMore
set_option linter.unusedVariables false
namespace Go.Proofs.YtjgkcknopnollaaGreat.InsR
open Go.Shelf Go.RowKit Go.Proofs.YtjgkcknopnollaaGreatW.PrintWords Go.Proofs.YtjgkcknopnollaaGreatW.PrintLast Go.Proofs.YtjgkcknopnollaaGreatW.PrintMore
/-- cells laid one behind the other into a block -/
def layC (c : Array Value) : Nat → List Value → Array Value
  | _, [] => c
  | o, v :: r => layC (c.setIfInBounds o v) (o + 1) r
theorem layC_size : ∀ (vs : List Value) (c : Array Value) (o : Nat), (layC c o vs).size = c.size
  | [], _, _ => rfl
  | v :: r, c, o => by rw [layC, layC_size r]; exact Array.size_setIfInBounds
theorem layC_list : ∀ (vs : List Value) (c : Array Value) (o : Nat), o + vs.length ≤ c.size → (layC c o vs).toList = c.toList.take o ++ vs ++ c.toList.drop (o + vs.length)
  | [], c, o, h => by simp [layC]
  | v :: r, c, o, h => by
    have h' : o < c.size := by rw [List.length_cons] at h; omega
    rw [layC, layC_list r _ (o + 1) (by rw [Array.size_setIfInBounds]; rw [List.length_cons] at h; omega)]
    have e1 : (c.setIfInBounds o v).toList = c.toList.set o v := by simp
    have h2 : o < c.toList.length := by simpa using h'
    rw [e1, List.take_set, List.drop_set_of_lt (by omega), List.length_cons, show o + 1 + r.length = o + (r.length + 1) by omega]
    have e2 : (List.take (o + 1) c.toList).set o v = List.take o c.toList ++ [v] := by
      rw [List.take_succ_eq_append_getElem h2, List.set_append_right _ _ (by rw [List.length_take]; omega), List.length_take, Nat.min_eq_left (by omega), Nat.sub_self, List.set_cons_zero]
    rw [e2]; simp
theorem setCells_block : ∀ (vs : List Value) (w : World) (b o : Nat) (c : Array Value) (e : TypeId) (fr : Nat × Nat), w.heap[b]? = some (.cells c e fr) → (w.setCells b o vs).heap[b]? = some (.cells (layC c o vs) e fr)
  | [], _, _, _, _, _, _, h => h
  | v :: r, w, b, o, c, e, fr, h => by
    rw [World.setCells, layC]
    refine setCells_block r _ b (o + 1) _ e fr ?_
    simp only [World.setCell, Array.getElem?_modify, if_true, h]
    simp
theorem setCells_grown : ∀ (vs : List Value) (w : World) (b o : Nat), w.grownBy (w.setCells b o vs) (some b)
  | [], w, _, _ => ⟨rfl, rfl, rfl, Nat.le_refl _, fun _ _ _ => rfl⟩
  | v :: r, w, b, o => by
    have h := setCells_grown r (w.setCell ⟨b, o, none⟩ v) b (o + 1)
    rw [World.setCells]
    exact ⟨h.os, h.tape, h.output, Nat.le_trans (by simp) h.size, fun k hk hn => (h.block k (by simpa using hk) hn).trans (Below.heap_setCell w _ v k (fun e => hn (by rw [e])))⟩
theorem grown_trans {a w w' : World} {row : Option Nat} (h : a.grownBy w row) (k : w.grownBy w' row) : a.grownBy w' row :=
  ⟨k.os.trans h.os, k.tape.trans h.tape, k.output.trans h.output, Nat.le_trans h.size k.size, fun i hi hn => (k.block i (Nat.lt_of_lt_of_le hi h.size) hn).trans (h.block i hi hn)⟩
theorem grown_new {w w' : World} {b : Nat} {row : Option Nat} (h : w.grownBy w' (some b)) (hb : w.heap.size ≤ b) : w.grownBy w' row :=
  ⟨h.os, h.tape, h.output, h.size, fun k hk _ => h.block k hk (fun e => by injection e with e; omega)⟩
/-- what a row of one's own holds -/
theorem own_cells {w : World} {b0 e n g cap : Nat} {cs : List Value} (h : w.ownsRow b0 e 1 (.slice (some ⟨g, 0, none⟩) n cap) n cs) :
    ∃ cur : Array Value, w.heap[g]? = some (.cells cur e (0, 0)) ∧ b0 ≤ g ∧ n ≤ cap ∧ cap ≤ maxLen ∧ cur.size = cap ∧ cur.toList.take n = cs ∧ cs.length = n := by
  obtain ⟨h1, h2⟩ := h
  rcases h2 with ⟨hv, _⟩ | ⟨g', cap', cur, hv, hb, hh, hnc, hcm, hcs, ht⟩
  · cases hv
  · injection hv with h3 h4 h5
    injection h3 with h3
    injection h3 with h3
    subst h3 h5
    exact ⟨cur, hh, hb, hnc, hcm, by rw [hcs]; exact Nat.mul_one _, by rw [← ht]; congr 1; exact (Nat.mul_one _).symm, by rw [h1]; exact Nat.mul_one _⟩
theorem cell_at {w : World} {g e : Nat} {cur : Array Value} (h : w.heap[g]? = some (.cells cur e (0, 0))) (j : Nat) : w.cell? ⟨g, j, none⟩ = cur[j]? := by
  unfold World.cell?; simp [h]
theorem frozen_at {w : World} {g e : Nat} {cur : Array Value} (h : w.heap[g]? = some (.cells cur e (0, 0))) (j : Nat) : w.frozen? ⟨g, j, none⟩ = false := by
  unfold World.frozen?; simp [h]
theorem shape_at {w : World} {g e : Nat} {cur : Array Value} (h : w.heap[g]? = some (.cells cur e (0, 0))) : w.shape? g = some (e, cur.size) := by
  unfold World.shape?; simp [h]
theorem owns_of {w : World} {b0 e g cap m : Nat} {cur : Array Value} {cs : List Value} (h : w.heap[g]? = some (.cells cur e (0, 0))) (hb : b0 ≤ g) (hm : m ≤ cap) (hc : cap ≤ maxLen) (hs : cur.size = cap) (ht : cur.toList.take m = cs) (hl : cs.length = m) : w.ownsRow b0 e 1 (.slice (some ⟨g, 0, none⟩) m cap) m cs :=
  ⟨by rw [hl, Nat.mul_one], .inr ⟨g, cap, cur, rfl, hb, h, hm, hc, by rw [hs, Nat.mul_one], by rw [Nat.mul_one]; exact ht⟩⟩
theorem take_take_ {c l : List Value} {n i : Nat} (h : c.take n = l) (hi : i ≤ n) : c.take i = l.take i := by
  rw [← h, List.take_take, Nat.min_eq_left hi]
set_option maxHeartbeats 2000000 in
theorem insert_own {P : Program} {ρ : Ren} (L : Lays2.n21 P ρ) (e : Nat) (he : ρ.t 3 = e) (b0 : Nat) (v V : Value) (n i : Nat) (cs : List Value) (u : Value) (w : World) (hi : i ≤ n) (hn : (n + 1) * 8 ≤ 140737488355328)
    (ho : w.ownsRow b0 e 1 v n cs) (hV : w.ownsRow b0 e 1 V 1 [u]) (hap : V.ownBlock ≠ v.ownBlock) (h1c : ∀ x ∈ cs, x.oneCell' = true) (h1u : u.oneCell' = true) (hbase : b0 ≤ w.heap.size) :
    Calls P (ρ.f 21) #[v, .int .i64 i, V] w fun en w' => ∃ v' : Value, en = .returned v' ∧ w'.ownsRow b0 e 1 v' (n + 1) (cs.take i ++ [u] ++ cs.drop i) ∧ w.grownBy w' v.ownBlock ∧ (v'.ownBlock = v.ownBlock ∨ ∃ b, v'.ownBlock = some b ∧ w.heap.size ≤ b) := by
  have hml : maxLen = 9223372036854775807 := rfl
  rcases hV.2 with ⟨_, hz⟩ | ⟨gv, cv, _, rfl, _⟩
  · omega
  obtain ⟨curV, hhV, _, hncV, hcmV, hsV, htV, _⟩ := own_cells hV
  have hvs : ∀ j x, ([u] : List Value)[j]? = some x → w.cell? ⟨gv, 0 + j, none⟩ = some x := by
    intro j x hj
    rw [cell_at hhV, Nat.zero_add, ← Array.getElem?_toList]
    have : (curV.toList.take 1)[j]? = some x := by rw [htV]; exact hj
    rw [List.getElem?_take] at this
    split at this
    · exact this
    · cases this
  have h1v : ∀ x ∈ ([u] : List Value), x.oneCell' = true := fun x hx => by rw [List.mem_singleton.1 hx]; exact h1u
  rcases ho.2 with ⟨rfl, rfl⟩ | ⟨g, cap, _, rfl, _⟩
  · -- the nil row
    obtain rfl : i = 0 := by omega
    have hcs0 : cs = [] := by have := ho.1; exact List.eq_nil_of_length_eq_zero (by omega)
    subst hcs0
    have hcon := Any2.slices_Insert_int_end_grow (P := P) (ρ := ρ) L none 0 0 gv 0 1 cv [] [u] w (by omega) (by omega) (by omega) hn rfl rfl (fun _ => rfl) (fun a ha => by cases ha) hvs h1v
    refine hcon.mono ?_
    rintro en w' ⟨rfl, rfl⟩
    refine ⟨_, rfl, ?_, ⟨rfl, rfl, rfl, by simp, fun k hk _ => by show ((w.heap.push _))[k]? = _; rw [Array.getElem?_push, if_neg (by omega)]⟩, .inr ⟨_, rfl, Nat.le_refl _⟩⟩
    rw [he]
    have hge := grownCap_ge w (0 + 1) 0 e
    have hle := grownCap_le_maxLen w (0 + 1) 0 e (by omega)
    generalize grownCap w (0 + 1) 0 e = G at hge hle ⊢
    refine owns_of (cur := _) (g := w.heap.size) (by show ((w.heap.push _))[w.heap.size]? = _; rw [Array.getElem?_push, if_pos rfl]) hbase hge hle ?_ ?_ (by simp)
    · simp [Builtin.zeroCells, Value.cells]; omega
    · simp
  · have hown : (Value.slice (some ⟨g, 0, none⟩) n cap).ownBlock = some g := rfl
    obtain ⟨cur, hh, hb, hnc, hcm, hs, ht, hcl⟩ := own_cells ho
    rw [hown] at hap ⊢
    have hne : gv ≠ g := fun e => hap (by rw [← e]; rfl)
    have hg : g < w.heap.size := (Array.getElem?_eq_some_iff.1 hh).1
    have hcs : ∀ j x, cs[j]? = some x → w.cell? ⟨g, 0 + j, none⟩ = some x := by
      intro j x hj
      rw [cell_at hh, Nat.zero_add, ← Array.getElem?_toList]
      have : (cur.toList.take n)[j]? = some x := by rw [ht]; exact hj
      rw [List.getElem?_take] at this
      split at this
      · exact this
      · cases this
    have hdrop : n + 1 ≤ cap → ∀ j, j < n + 1 → (w.cell? ⟨g, 0 + j, none⟩).isSome = true := by
      intro hr j hj
      rw [cell_at hh, Nat.zero_add, Array.getElem?_eq_getElem (by omega)]; rfl
    by_cases hroom : n + 1 ≤ cap
    · by_cases hin : i < n
      · have hcon := Any2.slices_Insert_int_shift (P := P) (ρ := ρ) L g 0 n cap i gv 0 1 cv cs [u] w hin (by omega) hroom (by omega) hne hcl rfl hcs (hdrop hroom) (fun j _ => frozen_at hh _) hvs h1c h1v e e curV.size cur.size (shape_at hhV) (shape_at hh) (by omega) (frozen_at hhV _) (frozen_at hhV _)
        refine hcon.mono ?_
        rintro en w' ⟨rfl, rfl⟩
        have hb1 := setCells_block (cs.drop i) w.drew g (0 + (i + 1)) cur e (0, 0) hh
        have hb2 := setCells_block [u] _ g (0 + i) _ e (0, 0) hb1
        refine ⟨_, rfl, owns_of hb2 hb hroom hcm (by rw [layC_size, layC_size]; exact hs) ?_ (by simp; omega), ?_, .inl rfl⟩
        · rw [Nat.zero_add, Nat.zero_add, layC_list _ _ _ (by rw [layC_size]; simp; omega), layC_list _ _ _ (by simp; omega)]
          have ht1 := take_take_ ht (show i ≤ n by omega)
          have hlc : cur.toList.length = cap := by simpa using hs
          have e1 : (List.take i (List.take (i + 1) cur.toList ++ List.drop i cs ++ List.drop (i + 1 + (List.drop i cs).length) cur.toList)) = cs.take i := by
            rw [List.append_assoc, List.take_append_of_le_length (by rw [List.length_take]; omega), List.take_take, Nat.min_eq_left (by omega), ht1]
          have e2 : (List.drop (i + [u].length) (List.take (i + 1) cur.toList ++ List.drop i cs ++ List.drop (i + 1 + (List.drop i cs).length) cur.toList)) = cs.drop i ++ List.drop (i + 1 + (List.drop i cs).length) cur.toList := by
            rw [List.append_assoc, List.length_singleton]
            have : (List.take (i + 1) cur.toList).length = i + 1 := by rw [List.length_take]; omega
            rw [List.drop_append_of_le_length (by omega), List.drop_eq_nil_of_le (by omega), List.nil_append]
          rw [e1, e2]
          have : (cs.take i ++ [u] ++ cs.drop i).length = n + 1 := by simp; omega
          rw [← List.append_assoc, List.take_append_of_le_length (by omega), List.take_of_length_le (by omega)]
        · have h1 := setCells_grown (cs.drop i) w.drew g (0 + (i + 1))
          have h2 := setCells_grown [u] (w.drew.setCells g (0 + (i + 1)) (cs.drop i)) g (0 + i)
          exact grown_trans ⟨h1.os, h1.tape, h1.output, h1.size, h1.block⟩ h2
      · obtain rfl : i = n := by omega
        have hcon := Any2.slices_Insert_int_end_room (P := P) (ρ := ρ) L g 0 i cap gv 0 1 cv [u] w (by omega) hroom (by omega) rfl
          (fun j hj => by rw [show 0 + i + j = 0 + (i + j) by omega]; exact hdrop hroom (i + j) (by omega)) (fun j _ => frozen_at hh _) hvs h1v
        refine hcon.mono ?_
        rintro en w' ⟨rfl, rfl⟩
        have hb1 := setCells_block [u] w g (0 + i) cur e (0, 0) hh
        refine ⟨_, rfl, owns_of hb1 hb hroom hcm (by rw [layC_size]; exact hs) ?_ (by simp; omega), setCells_grown _ _ _ _, .inl rfl⟩
        rw [Nat.zero_add, layC_list _ _ _ (by simp; omega), ht, List.take_of_length_le (show cs.length ≤ i by omega), List.drop_of_length_le (show cs.length ≤ i by omega), List.append_nil]
        rw [List.take_append_of_le_length (by simp; omega), List.take_of_length_le (by simp; omega)]
    · by_cases hin : i < n
      · have hcon := Any2.slices_Insert_int_grow (P := P) (ρ := ρ) L g 0 n cap i gv 0 1 cv cs [u] w hin (by omega) hnc (by omega) hn hcl rfl hcs hvs h1c h1v
        refine hcon.mono ?_
        rintro en w' ⟨rfl, rfl⟩
        rw [he]
        have hge := grownCap_ge w (n + 1) cap e
        have hle := grownCap_le_maxLen w (n + 1) cap e (by omega)
        generalize grownCap w (n + 1) cap e = G at hge hle ⊢
        obtain ⟨new, hnew⟩ : ∃ new : Array Value, new = ((cs.take i).toArray ++ Builtin.zeroCells (Value.int .i64 0).cells (n + 1 - i) ++ Builtin.zeroCells (Value.int .i64 0).cells (G - (n + 1))) := ⟨_, rfl⟩
        rw [← hnew]
        have hns : new.size = G := by rw [hnew]; simp [Builtin.zeroCells, Value.cells]; omega
        have hnt : new.toList.take i = cs.take i := by
          rw [hnew]; simp
          rw [List.take_append_of_le_length (by rw [List.length_take]; omega), List.take_take, Nat.min_self]
        have hb0 : (w.alloc (.cells new e)).heap[w.heap.size]? = some (.cells new e (0, 0)) := by show ((w.heap.push _))[w.heap.size]? = _; rw [Array.getElem?_push, if_pos rfl]
        have hb1 := setCells_block [u] (w.alloc (.cells new e)).drew w.heap.size i new e (0, 0) hb0
        have hb2 := setCells_block (cs.drop i) ((w.alloc (.cells new e)).drew.setCells w.heap.size i [u]).drew w.heap.size (i + 1) _ e (0, 0) hb1
        refine ⟨_, rfl, owns_of hb2 hbase hge hle (by rw [layC_size, layC_size]; exact hns) ?_ (by simp; omega), ?_, .inr ⟨_, rfl, Nat.le_refl _⟩⟩
        · have hlc : new.toList.length = G := by simpa using hns
          rw [layC_list _ _ _ (by rw [layC_size]; simp; omega), layC_list _ _ _ (by simp; omega), hnt]
          have hl1 : (cs.take i ++ [u]).length = i + 1 := by simp; omega
          have e1 : List.take (i + 1) (cs.take i ++ [u] ++ List.drop (i + [u].length) new.toList) = cs.take i ++ [u] := by
            rw [List.take_append_of_le_length (by omega), List.take_of_length_le (by omega)]
          rw [e1]
          have : (cs.take i ++ [u] ++ cs.drop i).length = n + 1 := by simp; omega
          rw [List.take_append_of_le_length (by omega), List.take_of_length_le (by omega)]
        · have h1 := setCells_grown [u] (w.alloc (.cells new e)).drew w.heap.size i
          have h2 := setCells_grown (cs.drop i) ((w.alloc (.cells new e)).drew.setCells w.heap.size i [u]).drew w.heap.size (i + 1)
          have h0 : w.grownBy (w.alloc (.cells new e)).drew (some w.heap.size) := ⟨rfl, rfl, rfl, by simp, fun k hk _ => by show ((w.heap.push _))[k]? = _; rw [Array.getElem?_push, if_neg (by omega)]⟩
          exact grown_new (grown_trans (grown_trans h0 h1) ⟨h2.os, h2.tape, h2.output, h2.size, h2.block⟩) (Nat.le_refl _)
      · obtain rfl : i = n := by omega
        have hcon := Any2.slices_Insert_int_end_grow (P := P) (ρ := ρ) L (some ⟨g, 0, none⟩) i cap gv 0 1 cv cs [u] w (by omega) hnc (by omega) hn hcl rfl (fun h => by cases h)
          (fun a ha j x hj => by
            injection ha with ha; subst ha; have := hcs j x hj
            by_cases hj0 : j = 0
            · subst hj0; simpa [Addr.add] using this
            · simpa [Addr.add, hj0] using this) hvs h1v
        refine hcon.mono ?_
        rintro en w' ⟨rfl, rfl⟩
        rw [he]
        have hge := grownCap_ge w (i + 1) cap e
        have hle := grownCap_le_maxLen w (i + 1) cap e (by omega)
        generalize grownCap w (i + 1) cap e = G at hge hle ⊢
        refine ⟨_, rfl, ?_, ⟨rfl, rfl, rfl, by simp, fun k hk _ => by show ((w.heap.push _))[k]? = _; rw [Array.getElem?_push, if_neg (by omega)]⟩, .inr ⟨_, rfl, Nat.le_refl _⟩⟩
        refine owns_of (cur := _) (g := w.heap.size) (by show ((w.heap.push _))[w.heap.size]? = _; rw [Array.getElem?_push, if_pos rfl]) hbase hge hle ?_ ?_ (by simp; omega)
        · simp [Builtin.zeroCells, Value.cells]; omega
        · rw [List.take_of_length_le (show cs.length ≤ i by omega), List.drop_of_length_le (show cs.length ≤ i by omega), List.append_nil]
          rw [Array.toList_append, List.take_append_of_le_length (by simp; omega), List.take_of_length_le (by simp; omega)]
end Go.Proofs.YtjgkcknopnollaaGreat.InsR
