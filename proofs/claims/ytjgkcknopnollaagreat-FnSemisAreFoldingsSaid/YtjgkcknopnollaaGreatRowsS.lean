/- append(v, ys...) for rows of rows that lie apart (form S): the appended whole's rows lie apart from those that were there. -/
import Derived.Test.YtjgkcknopnollaaGreatWMore
set_option linter.unusedVariables false
namespace Go.Proofs.YtjgkcknopnollaaGreat.RowsS
open Go.RowKit Go.Proofs.YtjgkcknopnollaaGreatW.PrintWords Go.Proofs.YtjgkcknopnollaaGreatW.PrintLast Go.Proofs.YtjgkcknopnollaaGreatW.PrintMore
open Go.Proofs.YtjgkcknopnollaaGreatW.PrintWords.Kd in
open Classical in
theorem S_append_rows {P : Program} {ops : Array Oper} {rest : List Oper} {o : Oper} {a : Act} {Q : Exit → Act → World → Prop} {α : Type} (d : Kd α) {w0 W : World} (base : Nat) (hgd : o.guard = none) (s x : Operand) (t e : TypeId) (z : Value) (bytes : Nat)
    (ho : o.op = .call { callee := .builtin .append, args := #[s, x], argTypes := #[t, t] })
    (ht : P.underlying t = some (.slice e)) (hinfo : (P.info? e).map (fun i => (i.zero, i.size, i.bytes)) = some (some z, d.sz, bytes)) (hz : z.cells.size = d.sz) (hs0 : 0 < d.sz) (hb0 : 0 < bytes)
    (v : Value) (xs ys : List α) (A : Option Addr) (m c : Nat) (ok okx oky : Nat → Prop) (hs : a.eval s = v) (hx : a.eval x = .slice A m c)
    (HO : Kd.S d e W base okx v xs) (HY : Kd.S d e W base oky (.slice A m c) ys) (hap : ∀ k, oky k → ¬ okx k) (hokx : ∀ k, okx k → ok k) (hoky : ∀ k, oky k → ok k) (hfresh : ∀ k, W.heap.size ≤ k → ok k)
    (HB : Below base w0 W) (hbase : base ≤ W.heap.size) (hl : (xs.length + m) * bytes ≤ 140737488355328)
    (h : ∀ v1 w1, Kd.S d e w1 base ok v1 (xs ++ ys) → Below base w0 w1 → W.grownBy w1 v.ownBlock → (v1.ownBlock = v.ownBlock ∨ ∃ b, v1.ownBlock = some b ∧ W.heap.size ≤ b) → wpList P ops Q rest (a.put o.dst v1) w1) :
    wpList P ops Q (o :: rest) a W := by
  obtain ⟨fx, hX⟩ := HO
  obtain ⟨fy, hY⟩ := HY
  obtain ⟨f, hf⟩ : ∃ f : Nat → Nat, f = fun k => if oky k then xs.length + fy k else fx k := ⟨_, rfl⟩
  have hX2 : (tag f d).R e W base ok v xs.zipIdx := R_mono (R_tag hX (fun k hk _ => by rw [hf]; exact if_neg (fun h2 => hap k h2 hk))) hokx
  obtain ⟨A', c', e', _, hrd⟩ := OwnRow.reads hY.2
  injection e' with e1 e2 e3
  subst e1 e2 e3
  have hRR : ReadsRow ((tag f d).M W base oky) d.sz W A ys.zipIdx.length (ys.zipIdx xs.length) := by
    refine ⟨by simp, hrd.2.1, fun hp => ?_⟩
    obtain ⟨ad, ea, hc⟩ := hrd.2.2 hp
    refine ⟨ad, ea, fun j p hj => ?_⟩
    rw [List.getElem?_zipIdx] at hj
    obtain ⟨y, hy, rfl⟩ := Option.map_eq_some_iff.1 hj
    obtain ⟨cc, h1, h2, h3⟩ := hc j (y, j) (by rw [List.getElem?_zipIdx, hy, Nat.zero_add]; rfl)
    refine ⟨cc, h1, ?_, h3⟩
    have h2' : d.M W base (fun k => (oky k ∧ some k ≠ _) ∧ fy k = j) y cc := h2
    refine d.M_mono (fun k hk => ⟨hk.1.1, ?_⟩) h2'
    show f k = xs.length + j
    rw [hf]
    show (if oky k then xs.length + fy k else fx k) = _
    rw [if_pos hk.1.1, hk.2]
  have hlen : ys.zipIdx.length = ys.length := by simp
  refine R_append_rows (tag f d) (Rr := (tag f d).M W base oky) base hgd s x t e z bytes ho ht hinfo hz hs0 hb0 v xs.zipIdx (ys.zipIdx xs.length) A ys.zipIdx.length c ok oky hs hx hX2 hRR (fun _ _ hk => hk) (fun k hk => ⟨hoky k hk, fun e2 => hap k hk (hX.1 k e2.symm)⟩) hfresh HB hbase (by rw [List.length_zipIdx]; exact hl) ?_
  intro v1 w1 hr hb hg hat
  refine h v1 w1 ⟨f, ?_⟩ hb hg hat
  rw [List.zipIdx_append, Nat.zero_add]; exact hr
theorem S_lit1 {P : Program} {ops : Array Oper} {rest : List Oper} {o : Oper} {a : Act} {Q : Exit → Act → World → Prop} {α : Type} (d : Kd α) {w0 W : World} (base e : Nat) (hgd : o.guard = none) {N : Tmp} (hd : o.dst = some N) {x : α} {cs : List Value}
    (hrun : (execOp a.eval o).run P W = .ok (.value (.slice (some ⟨W.heap.size, 0, none⟩) 1 1)) (W.alloc (.cells cs.toArray e))) (hp : d.M W base (fun _ => True) x cs) (HB : Below base w0 W) (hbase : base ≤ W.heap.size)
    (h : ∀ v1 w1, Kd.S d e w1 base (fun _ => True) v1 [x] → Below W.heap.size W w1 → W.grownBy w1 none → (∃ b, v1.ownBlock = some b ∧ W.heap.size ≤ b) → wpList P ops Q rest (a.put o.dst v1) w1) : wpList P ops Q (o :: rest) a W := by
  have hl : cs.length = d.sz := d.K_len (d.K_of_M hp)
  refine Kd.S_lits d (w0 := w0) base e hgd hd (xs := [x]) (inner := cs) (ok := fun _ => True) (fun j _ => j = 0) hrun (by rw [hl]; simp) ?_ (fun i j k hi hj => hi.trans hj.symm) (fun _ _ _ => trivial) trivial HB hbase (by simp) ?_
  · intro j y hj
    cases j with
    | zero =>
      injection hj with hj
      subst hj
      rw [Nat.zero_mul, List.drop_zero, List.take_of_length_le (by omega)]
      exact d.M_mono (fun _ _ => rfl) hp
    | succ j => simp at hj
  · intro v1 w1 hS _ hg hn
    exact h v1 w1 hS ⟨hg.os, hg.tape, hg.output, hg.size, fun k hk => hg.block k hk (by simp)⟩ hg hn
/-- One element's row lent: what is told of the whole when it comes back. -/
theorem S_one {ei e base : Nat} {W : World} {ok : Nat → Prop} {n c0 : Nat} {A : Option Addr} {y : List (List Int)} (i : Nat) (h1 : i < y.length)
    (h : Kd.S (Kd.slice ei (Kd.int .i64)) e W base ok (.slice A n c0) y) :
    ∃ (g : Nat) (v : Value) (oki : Nat → Prop), A = some ⟨g, 0, none⟩ ∧ W.cell? ⟨g, i, none⟩ = some v ∧ Kd.R (Kd.int .i64) ei W base oki v y[i] ∧ (∀ k, oki k → ok k) ∧
      ∀ (w' : World) (row : List Int) (okr : Nat → Prop), Kd.R (Kd.int .i64) ei w' base okr v row → Kept W w' oki → Kd.S (Kd.slice ei (Kd.int .i64)) e w' base ok (.slice A n c0) (y.set i row) := by
  obtain ⟨g, cap, ev, _⟩ := Kd.S_form h (by omega)
  injection ev with e1 e2 e3
  subst e1 e2 e3
  obtain ⟨oki, c, hcl, hM, hcc, _, hoki, hH⟩ := Kd.S_elem h [] (i : Int) (by omega) (by omega)
  simp only [Int.toNat_natCast] at hM hcc hH
  obtain ⟨v, rfl, hR⟩ := hM
  have hcell := hcc 0 v rfl
  have hown : ∀ k, v.ownBlock = some k → oki k := hR.1
  have hgi : y.getD i [] = y[i] := by rw [List.getD_eq_getElem?_getD, List.getElem?_eq_getElem h1]; rfl
  rw [hgi] at hR
  refine ⟨g, v, oki, rfl, by simpa [Kd.slice] using hcell, hR, fun k hk => (hoki k hk).1, fun w' row okr hr hk => ?_⟩
  have hH' := Kd.H_step (w1 := w') hH (fun k _ hn hlt => hk.2 k hlt hn)
  have := Kd.H_back hH' (x' := row) (okp := fun k => some k = v.ownBlock) ⟨v, rfl, Kd.R_tight rfl hr⟩ (fun k hk => hown k hk.symm)
  simpa using this
theorem drawn_below {w w' : World} (h : Drawn0 w w') : Below w.heap.size w w' := by
  obtain ⟨nd, rfl⟩ := h
  exact pw_below_drewN (Below.refl _ _) nd
/-- What was made behind a world is apart from what is elder. -/
theorem S_young {α : Type} {d : Kd α} {e base : Nat} {ok : Nat → Prop} {w W : World} {v : Value} {xs : List α} (h : Kd.S d e w W.heap.size ok v xs) : Kd.S d e w W.heap.size (fun k => W.heap.size ≤ k) v xs := Kd.S_mono (Kd.S_bound h) (fun _ hk => hk.2.1)
end Go.Proofs.YtjgkcknopnollaaGreat.RowsS
