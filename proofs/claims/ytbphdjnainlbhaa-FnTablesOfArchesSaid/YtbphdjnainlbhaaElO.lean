/- A row of rows that lie apart (form S), opened into its elements. -/
import Derived.Test.YtbphdjnainlbhaaWMore
set_option linter.unusedVariables false
namespace Go.Proofs.Ytbphdjnainlbhaa.ElO
open Go.RowKit Go.Proofs.YtbphdjnainlbhaaW.PrintWords Go.Proofs.YtbphdjnainlbhaaW.PrintLast Go.Proofs.YtbphdjnainlbhaaW.PrintMore
/-- an element: its value, the row that it leads to, its place at first -/
def El (ei : Nat) (w : World) (base : Nat) (ok : Nat → Nat → Prop) : Type := { p : (Value × List Int) × Nat // (Kd.int .i64).R ei w base (ok p.2) p.1.1 p.1.2 }
section
variable {ei : Nat} {w : World} {base : Nat} {ok : Nat → Nat → Prop}
instance : Inhabited (El ei w base ok) := ⟨⟨((.slice none 0 0, []), 0), Kd.R_nil _ _ _ _ _⟩⟩
def El.mk (v : Value) (row : List Int) (t : Nat) (h : (Kd.int .i64).R ei w base (ok t) v row) : El ei w base ok := ⟨((v, row), t), h⟩
def El.enc (x : El ei w base ok) : Value := x.1.1.1
def El.row (x : El ei w base ok) : List Int := x.1.1.2
def El.tag (x : El ei w base ok) : Nat := x.1.2
theorem El.told (x : El ei w base ok) : (Kd.int .i64).R ei w base (ok x.tag) x.enc x.row := x.2
theorem El.enc_mk (v : Value) (row : List Int) (t : Nat) (h : (Kd.int .i64).R ei w base (ok t) v row) : (El.mk v row t h).enc = v := rfl
theorem El.row_mk (v : Value) (row : List Int) (t : Nat) (h : (Kd.int .i64).R ei w base (ok t) v row) : (El.mk v row t h).row = row := rfl
theorem El.tag_mk (v : Value) (row : List Int) (t : Nat) (h : (Kd.int .i64).R ei w base (ok t) v row) : (El.mk v row t h).tag = t := rfl
def El.nil : El ei w base ok := ⟨((.slice none 0 0, []), 0), Kd.R_nil _ _ _ _ _⟩
end
/-- the blocks of the element with the mark t -/
def okt (ok : Nat → Prop) (g : Nat) (f : Nat → Nat) : Nat → Nat → Prop := fun t k => (ok k ∧ some k ≠ some g) ∧ f k = t
theorem El.move {ei : Nat} {w : World} {base g : Nat} {ok : Nat → Prop} {f : Nat → Nat} (x : El ei w base (okt ok g f)) (W : World) (hW : ∀ k, k < w.heap.size → k ≠ g → W.heap[k]? = w.heap[k]?) : (Kd.int .i64).R ei W base (okt ok g f x.tag) x.enc x.row :=
  Kd.R_step x.told (fun k hk hlt => hW k hlt (fun e => hk.1.2 (by rw [e])))
theorem one_at {inner : List Value} {i : Nat} {v : Value} (h : (inner.drop (i * 1)).take 1 = [v]) : inner[i]? = some v := by
  have := congrArg (fun l => l[0]?) h
  simpa [List.getElem?_take, List.getElem?_drop] using this
theorem at_one {inner : List Value} {i : Nat} {v : Value} (h : inner[i]? = some v) : (inner.drop (i * 1)).take 1 = [v] := by
  obtain ⟨hi, e⟩ := List.getElem?_eq_some_iff.1 h
  rw [Nat.mul_one, List.drop_eq_getElem_cons hi, List.take_succ_cons, List.take_zero, e]
theorem open_S {ei e base : Nat} {ok : Nat → Prop} {v : Value} {xs : List (List Int)} {w : World} (hS : Kd.S (Kd.slice ei (Kd.int .i64)) e w base ok v xs) (hx : xs ≠ []) :
    ∃ (g cap : Nat) (cur : Array Value) (f : Nat → Nat), v = .slice (some ⟨g, 0, none⟩) xs.length cap ∧ base ≤ g ∧ ok g ∧ w.heap[g]? = some (.cells cur e (0, 0)) ∧ xs.length ≤ cap ∧ cap ≤ maxLen ∧ cur.size = cap ∧
      ∃ d : Array (El ei w base (okt ok g f)), d.size = xs.length ∧ d.toList.map El.row = xs ∧ d.toList.map El.tag = List.range xs.length ∧ ∀ j (hj : j < d.size), cur[j]? = some (d[j].enc) := by
  obtain ⟨f, h0, inner, ho, hr⟩ := hS
  rw [List.length_zipIdx] at ho
  obtain ⟨hl, ho⟩ := ho
  have hl1 : inner.length = xs.length := by rw [hl]; exact Nat.mul_one _
  have hpos : 0 < xs.length := List.length_pos_iff.2 hx
  rcases ho with ⟨_, hz⟩ | ⟨g, cap, cur, rfl, hb, hh, hnc, hcm, hcs, ht⟩
  · omega
  have hown : (Value.slice (some ⟨g, 0, none⟩) xs.length cap).ownBlock = some g := rfl
  rw [hown] at hr
  have hcs1 : cur.size = cap := by rw [hcs]; exact Nat.mul_one _
  have ht1 : cur.toList.take xs.length = inner := by rw [← ht]; congr 1; exact (Nat.mul_one _).symm
  have hel : ∀ (i : Nat) (hi : i < xs.length), (Kd.int .i64).R ei w base (okt ok g f i) (inner[i]'(by omega)) (xs[i]) := by
    intro i hi
    obtain ⟨u, hu, hR⟩ := hr.2 i (xs[i], i) (by rw [List.getElem?_zipIdx, Nat.zero_add, List.getElem?_eq_getElem hi]; rfl)
    have h1 := one_at hu
    have h2 : inner[i]'(by omega) = u := (List.getElem?_eq_some_iff.1 h1).2
    rw [h2]; exact hR
  refine ⟨g, cap, cur, f, rfl, hb, h0 g hown, hh, hnc, hcm, hcs1, Array.ofFn (n := xs.length) fun i => El.mk (inner[i.1]'(by omega)) xs[i.1] i.1 (hel i.1 i.2), by simp, ?_, ?_, ?_⟩
  · apply List.ext_getElem
    · simp
    · intro i h1 h2; simp [El.row_mk]
  · apply List.ext_getElem
    · simp
    · intro i h1 h2; simp [El.tag_mk]
  · intro j hj
    have hj' : j < xs.length := by simpa using hj
    have : cur.toList[j]? = inner[j]? := by rw [← ht1, List.getElem?_take, if_pos hj']
    rw [← Array.getElem?_toList, this]
    simp [El.enc_mk]
end Go.Proofs.Ytbphdjnainlbhaa.ElO
