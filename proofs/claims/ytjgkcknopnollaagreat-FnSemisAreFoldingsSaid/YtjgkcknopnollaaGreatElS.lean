/- A row of rows that lie apart (form S), opened into its elements and closed again behind a library function that moves them. -/
import Derived.Shelf.SlSortCmp.NoneTotal
import Derived.Test.YtjgkcknopnollaaGreatWMore
import Derived.Test.YtjgkcknopnollaaGreatSortL
set_option linter.unusedVariables false
namespace Go.Proofs.YtjgkcknopnollaaGreat.ElS
open Go.Shelf Go.RowKit Go.Proofs.YtjgkcknopnollaaGreat.SortL Go.Proofs.YtjgkcknopnollaaGreatW.PrintWords Go.Proofs.YtjgkcknopnollaaGreatW.PrintLast Go.Proofs.YtjgkcknopnollaaGreatW.PrintMore
/-- an element: its value, the row that it leads to, its place at first -/
def El (ei : Nat) (w : World) (base : Nat) (ok : Nat → Nat → Prop) : Type := { p : (Value × List Int) × Nat // (Kd.int .i64).R ei w base (ok p.2) p.1.1 p.1.2 }
section
variable {ei : Nat} {w : World} {base : Nat} {ok : Nat → Nat → Prop}
instance : Inhabited (El ei w base ok) := ⟨⟨((.slice none 0 0, []), 0), Kd.R_nil _ _ _ _ _⟩⟩
def El.mk (v : Value) (row : List Int) (t : Nat) (h : (Kd.int .i64).R ei w base (ok t) v row) : El ei w base ok := ⟨((v, row), t), h⟩
def El.enc (x : El ei w base ok) : Value := x.1.1.1
def El.row (x : El ei w base ok) : List Int := x.1.1.2
def El.tag (x : El ei w base ok) : Nat := x.1.2
theorem El.told (x : El ei w base ok) : (Kd.int .i64).R ei w base (ok x.tag) x.enc x.row := x.2
theorem El.one : OneCell (El.enc (ei := ei) (w := w) (base := base) (ok := ok)) := fun x => (Kd.R_val x.told).2
theorem El.enc_mk (v : Value) (row : List Int) (t : Nat) (h : (Kd.int .i64).R ei w base (ok t) v row) : (El.mk v row t h).enc = v := rfl
theorem El.row_mk (v : Value) (row : List Int) (t : Nat) (h : (Kd.int .i64).R ei w base (ok t) v row) : (El.mk v row t h).row = row := rfl
theorem El.tag_mk (v : Value) (row : List Int) (t : Nat) (h : (Kd.int .i64).R ei w base (ok t) v row) : (El.mk v row t h).tag = t := rfl
def El.nil : El ei w base ok := ⟨((.slice none 0 0, []), 0), Kd.R_nil _ _ _ _ _⟩
end
/-- the blocks of the element with the mark t -/
def okt (ok : Nat → Prop) (g : Nat) (f : Nat → Nat) : Nat → Nat → Prop := fun t k => (ok k ∧ some k ≠ some g) ∧ f k = t
theorem El.move {ei : Nat} {w : World} {base g : Nat} {ok : Nat → Prop} {f : Nat → Nat} (x : El ei w base (okt ok g f)) (W : World) (hW : ∀ k, k < w.heap.size → k ≠ g → W.heap[k]? = w.heap[k]?) : (Kd.int .i64).R ei W base (okt ok g f x.tag) x.enc x.row :=
  Kd.R_step x.told (fun k hk hlt => hW k hlt (fun e => hk.1.2 (by rw [e])))
theorem one_at {inner : List Value} {i : Nat} {v : Value} (h : (inner.drop (i * 1)).take 1 = [v]) : inner[i]? = some v := by
  have := congrArg (fun l => l[0]?) h
  simpa [List.getElem?_take, List.getElem?_drop] using this
theorem at_one {inner : List Value} {i : Nat} {v : Value} (h : inner[i]? = some v) : (inner.drop (i * 1)).take 1 = [v] := by
  obtain ⟨hi, e⟩ := List.getElem?_eq_some_iff.1 h
  rw [Nat.mul_one, List.drop_eq_getElem_cons hi, List.take_succ_cons, List.take_zero, e]
theorem open_S {ei e base : Nat} {ok : Nat → Prop} {v : Value} {xs : List (List Int)} {w : World} (hS : Kd.S (Kd.slice ei (Kd.int .i64)) e w base ok v xs) (hx : xs ≠ []) :
    ∃ (g cap : Nat) (cur : Array Value) (f : Nat → Nat), v = .slice (some ⟨g, 0, none⟩) xs.length cap ∧ base ≤ g ∧ ok g ∧ w.heap[g]? = some (.cells cur e (0, 0)) ∧ xs.length ≤ cap ∧ cap ≤ maxLen ∧ cur.size = cap ∧
      ∃ d : Array (El ei w base (okt ok g f)), d.size = xs.length ∧ d.toList.map El.row = xs ∧ d.toList.map El.tag = List.range xs.length ∧ ∀ j (hj : j < d.size), cur[j]? = some (d[j].enc) := by
  obtain ⟨f, h0, inner, ho, hr⟩ := hS
  rw [List.length_zipIdx] at ho
  obtain ⟨hl, ho⟩ := ho
  have hl1 : inner.length = xs.length := by rw [hl]; exact Nat.mul_one _
  have hpos : 0 < xs.length := List.length_pos_iff.2 hx
  rcases ho with ⟨_, hz⟩ | ⟨g, cap, cur, rfl, hb, hh, hnc, hcm, hcs, ht⟩
  · omega
  have hown : (Value.slice (some ⟨g, 0, none⟩) xs.length cap).ownBlock = some g := rfl
  rw [hown] at hr
  have hcs1 : cur.size = cap := by rw [hcs]; exact Nat.mul_one _
  have ht1 : cur.toList.take xs.length = inner := by rw [← ht]; congr 1; exact (Nat.mul_one _).symm
  have hel : ∀ (i : Nat) (hi : i < xs.length), (Kd.int .i64).R ei w base (okt ok g f i) (inner[i]'(by omega)) (xs[i]) := by
    intro i hi
    obtain ⟨u, hu, hR⟩ := hr.2 i (xs[i], i) (by rw [List.getElem?_zipIdx, Nat.zero_add, List.getElem?_eq_getElem hi]; rfl)
    have h1 := one_at hu
    have h2 : inner[i]'(by omega) = u := (List.getElem?_eq_some_iff.1 h1).2
    rw [h2]; exact hR
  refine ⟨g, cap, cur, f, rfl, hb, h0 g hown, hh, hnc, hcm, hcs1, Array.ofFn (n := xs.length) fun i => El.mk (inner[i.1]'(by omega)) xs[i.1] i.1 (hel i.1 i.2), by simp, ?_, ?_, ?_⟩
  · apply List.ext_getElem
    · simp
    · intro i h1 h2; simp [El.row_mk]
  · apply List.ext_getElem
    · simp
    · intro i h1 h2; simp [El.tag_mk]
  · intro j hj
    have hj' : j < xs.length := by simpa using hj
    have : cur.toList[j]? = inner[j]? := by rw [← ht1, List.getElem?_take, if_pos hj']
    rw [← Array.getElem?_toList, this]
    simp [El.enc_mk]
theorem holds_S {ei base : Nat} {e : TypeId} {ok : Nat → Nat → Prop} {w W : World} {g : Nat} {cur : Array Value} {d : Array (El ei w base ok)} (hh : W.heap[g]? = some (.cells cur e (0, 0))) (henc : ∀ j (hj : j < d.size), cur[j]? = some (d[j].enc)) : Go.Sort.Holds (El.enc) W g 0 d := by
  intro j hj
  refine ⟨?_, ?_⟩
  · unfold World.cell?
    simp only [hh, Option.isSome_none, Bool.false_eq_true, if_false, Nat.zero_add]
    rw [henc j hj, getElem!_pos d j hj]
  · unfold World.frozen?
    simp only [hh]
    simp
theorem close_S {ei e base g cap : Nat} {ok : Nat → Prop} {f : Nat → Nat} {w W : World} (ds : List (El ei w base (okt ok g f))) (hnd : (ds.map El.tag).Nodup) (hW : ∀ k, k < w.heap.size → k ≠ g → W.heap[k]? = w.heap[k]?) (cells : Array Value) (hblock : W.heap[g]? = some (.cells cells e (0, 0))) (hsize : cells.size = cap) (hle : ds.length ≤ cap) (hcap : cap ≤ maxLen) (hb : base ≤ g) (h0 : ok g)
    (hcells : ∀ j (hj : j < ds.length), cells[j]? = some (ds[j].enc)) : Kd.S (Kd.slice ei (Kd.int .i64)) e W base ok (.slice (some ⟨g, 0, none⟩) ds.length cap) (ds.map El.row) := by
  have hown : (Value.slice (some ⟨g, 0, none⟩) ds.length cap).ownBlock = some g := rfl
  obtain ⟨f', hr'⟩ := Kd.reps_tag (d := Kd.slice ei (Kd.int .i64)) (w := W) (base := base) (ok := fun k => ok k ∧ some k ≠ some g) (xs := ds.map El.row) (inner := ds.map El.enc) (fun j k => ∃ h : j < ds.length, okt ok g f (ds[j].tag) k)
    (by
      rintro i j k ⟨hi, h1⟩ ⟨hj, h2⟩
      have e : ds[i].tag = ds[j].tag := h1.2.symm.trans h2.2
      have hi' : i < (ds.map El.tag).length := by simpa using hi
      have hj' : j < (ds.map El.tag).length := by simpa using hj
      exact (List.getElem_inj (h₀ := hi') (h₁ := hj') hnd).1 (by simpa using e))
    (by
      rintro j k ⟨hj, h1⟩
      exact h1.1)
    (by simp [Kd.slice])
    (by
      intro j x hjx
      obtain ⟨hj, rfl⟩ := List.getElem?_eq_some_iff.1 hjx
      have hj' : j < ds.length := by simpa using hj
      refine ⟨ds[j].enc, at_one (by simp [hj']), ?_⟩
      have := El.move ds[j] W hW
      simp only [List.getElem_map]
      exact Kd.R_mono this (fun k hk => ⟨hj', hk⟩))
  refine ⟨f', fun k hk => ?_, ds.map El.enc, ?_, ?_⟩
  · rw [hown] at hk
    injection hk with hk
    rw [← hk]; exact h0
  · rw [List.length_zipIdx, List.length_map]
    refine ⟨by simp [Kd.tag, Kd.slice], .inr ⟨g, cap, cells, rfl, hb, hblock, hle, hcap, by rw [hsize]; exact (Nat.mul_one _).symm, ?_⟩⟩
    apply List.ext_getElem?
    intro i
    have hsz1 : (Kd.tag f' (Kd.slice ei (Kd.int .i64))).sz = 1 := rfl
    rw [hsz1, Nat.mul_one, List.getElem?_take]
    by_cases hi : i < ds.length
    · rw [if_pos hi, Array.getElem?_toList, hcells i hi]
      simp [hi]
    · rw [if_neg hi]
      rw [List.getElem?_eq_none (by simp; omega)]
  · rw [hown]; exact hr'
end Go.Proofs.YtjgkcknopnollaaGreat.ElS
