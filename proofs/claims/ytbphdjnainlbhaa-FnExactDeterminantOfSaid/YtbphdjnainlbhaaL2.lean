-- printed by wip/drv/xprint.py (our driver) out of the translation; Lean checks it
import Derived.Test.YtbphdjnainlbhaaL0
import Derived.Test.YtbphdjnainlbhaaL1
namespace Go.Proofs.Ytbphdjnainlbhaa.L
open Go.RowKit Go.Proofs.YtbphdjnainlbhaaW.PrintWords Go.Proofs.YtbphdjnainlbhaaW.PrintLast Go.Proofs.YtbphdjnainlbhaaW.PrintMore
attribute [local go_sem] max2_int min2_int max_two min_two max_three min_three max_four min_four   -- for this text's walks alone
set_option linter.unusedVariables false
set_option linter.unusedSimpArgs false

/-! ### impl_reduce: function 54 -/
def impl_reduce.mods (p : Int) : List Int → Option (List Int)
  | [] => some []
  | x :: t => (impl_rest.f x p).bind fun y => (impl_reduce.mods p t).bind fun r => some (y :: r)
def impl_reduce.modsR (p : Int) : List (List Int) → Option (List (List Int))
  | [] => some []
  | x :: t => (impl_reduce.mods p x).bind fun y => (impl_reduce.modsR p t).bind fun r => some (y :: r)
def impl_reduce.red (p b : Int) : List Int → List Int → Option (List Int)
  | [], _ => some []
  | x :: t, y :: o => (impl_rest.f (wrap64 (x - Int.tmod (wrap64 (b * y)) p)) p).bind fun z => (impl_reduce.red p b t o).bind fun r => some (z :: r)
  | _ :: _, [] => none
/-- a row below the pivot's row, changed from column j on -/
def impl_reduce.row (p : Int) (j : Nat) (inv : Int) (own row : List Int) : Option (List Int) := (impl_reduce.red p (Int.tmod (wrap64 (row.getD j 0 * inv)) p) (row.drop j) (own.drop j)).bind fun r => some (row.take j ++ r)
def impl_reduce.rowsF (p : Int) (j : Nat) (inv : Int) (own : List Int) : List (List Int) → Option (List (List Int))
  | [] => some []
  | x :: t => (impl_reduce.row p j inv own x).bind fun y => (impl_reduce.rowsF p j inv own t).bind fun r => some (y :: r)
/-- the first row that is not 0 at column j -/
def impl_reduce.find (j : Nat) : List (List Int) → Option Nat
  | [] => none
  | x :: t => if x.getD j 0 = 0 then (impl_reduce.find j t).map (· + 1) else some 0
def impl_reduce.swap (L : List (List Int)) (a b : Nat) : List (List Int) := if a = b then L else MatS.exch L a b (L.getD a []) (L.getD b [])
def impl_reduce.use (k : Nat) (p : Int) (j : Nat) (L : List (List Int)) (rank : Nat) (det : Int) (next : List (List Int) → Nat → Int → Option (Int × Int)) : Option (Int × Int) :=
  (impl_inverseMod.f k ((L.getD rank []).getD j 0) p).bind fun inv => (impl_reduce.rowsF p j inv (L.getD rank []) (L.drop (rank + 1))).bind fun M =>
    if rank + 1 = L.length then some (((rank + 1 : Nat) : Int), Int.tmod (wrap64 (det * (L.getD rank []).getD j 0)) p) else next (L.take (rank + 1) ++ M) (rank + 1) (Int.tmod (wrap64 (det * (L.getD rank []).getD j 0)) p)
def impl_reduce.go (k : Nat) (p : Int) : Nat → Nat → List (List Int) → Nat → Int → Option (Int × Int)
  | 0, _, _, rank, det => some ((rank : Int), det)
  | d + 1, j, L, rank, det =>
    match impl_reduce.find j (L.drop rank) with
    | none => impl_reduce.go k p d (j + 1) L rank 0
    | some q => impl_reduce.use k p j (impl_reduce.swap L rank (rank + q)) rank (if q = 0 then det else Int.tmod (wrap64 (p - det)) p) (fun L2 rank2 det2 => impl_reduce.go k p d (j + 1) L2 rank2 det2)
/-- rows that can be reduced: of one length -/
def impl_reduce.good (l : List (List Int)) (p : Int) : Bool := decide (1 ≤ l.length ∧ l.length ≤ 1000 ∧ 1 ≤ (l.getD 0 []).length ∧ (l.getD 0 []).length ≤ 1000 ∧ 0 < p) && l.all fun x => decide (x.length = (l.getD 0 []).length)
def impl_reduce.f (k : Nat) (l0 : List (List Int)) (a1 : Int) : Option (Int × Int) := if impl_reduce.good l0 a1 = true then (impl_reduce.modsR a1 l0).bind fun L => impl_reduce.go k a1 (l0.getD 0 []).length 0 L 0 1 else none
theorem impl_reduce.go_mono (k : Nat) (p : Int) : ∀ d j L rank det, LeO (impl_reduce.go k p d j L rank det) (impl_reduce.go (k + 1) p d j L rank det)
  | 0, _, _, _, _ => LeO.refl _
  | d + 1, j, L, rank, det => by
    rw [impl_reduce.go, impl_reduce.go]
    cases impl_reduce.find j (L.drop rank) with
    | none => exact impl_reduce.go_mono k p d _ _ _ _
    | some q =>
      unfold impl_reduce.use
      exact LeO.bind (impl_inverseMod.mono _ _ _) (fun _ => LeO.bind (LeO.refl _) (fun _ => LeO.ite (LeO.refl _) (impl_reduce.go_mono k p d _ _ _ _)))
theorem impl_reduce.mono : ∀ a0 a1 k, LeO (impl_reduce.f k a0 a1) (impl_reduce.f (k + 1) a0 a1) := fun a0 a1 k => LeO.ite (LeO.bind (LeO.refl _) (fun _ => impl_reduce.go_mono k a1 _ _ _ _ _)) (LeO.refl _)
theorem impl_reduce.mods_get (p : Int) : ∀ (l T : List Int), impl_reduce.mods p l = some T → T.length = l.length ∧ ∀ i (h : i < l.length) (h2 : i < T.length), impl_rest.f l[i] p = some T[i]
  | [], T, h => by
    obtain rfl := Option.some.inj h
    exact ⟨rfl, fun i h => absurd h (Nat.not_lt_zero _)⟩
  | v :: t, T, h => by
    obtain ⟨q, hq, h⟩ := Option.bind_eq_some_iff.mp h
    obtain ⟨r, hr, h⟩ := Option.bind_eq_some_iff.mp h
    obtain rfl := Option.some.inj h
    have ih := impl_reduce.mods_get p t r hr
    refine ⟨by simp [ih.1], fun i h1 h2 => ?_⟩
    cases i with
    | zero => exact hq
    | succ i => exact ih.2 i (by simpa using h1) (by simpa using h2)
theorem impl_reduce.modsR_get (p : Int) : ∀ (l T : List (List Int)), impl_reduce.modsR p l = some T → T.length = l.length ∧ ∀ i (h : i < l.length) (h2 : i < T.length), impl_reduce.mods p l[i] = some T[i]
  | [], T, h => by
    obtain rfl := Option.some.inj h
    exact ⟨rfl, fun i h => absurd h (Nat.not_lt_zero _)⟩
  | v :: t, T, h => by
    obtain ⟨q, hq, h⟩ := Option.bind_eq_some_iff.mp h
    obtain ⟨r, hr, h⟩ := Option.bind_eq_some_iff.mp h
    obtain rfl := Option.some.inj h
    have ih := impl_reduce.modsR_get p t r hr
    refine ⟨by simp [ih.1], fun i h1 h2 => ?_⟩
    cases i with
    | zero => exact hq
    | succ i => exact ih.2 i (by simpa using h1) (by simpa using h2)
theorem impl_reduce.rowsF_get (p : Int) (j : Nat) (inv : Int) (own : List Int) : ∀ (l T : List (List Int)), impl_reduce.rowsF p j inv own l = some T → T.length = l.length ∧ ∀ i (h : i < l.length) (h2 : i < T.length), impl_reduce.row p j inv own l[i] = some T[i]
  | [], T, h => by
    obtain rfl := Option.some.inj h
    exact ⟨rfl, fun i h => absurd h (Nat.not_lt_zero _)⟩
  | v :: t, T, h => by
    obtain ⟨q, hq, h⟩ := Option.bind_eq_some_iff.mp h
    obtain ⟨r, hr, h⟩ := Option.bind_eq_some_iff.mp h
    obtain rfl := Option.some.inj h
    have ih := impl_reduce.rowsF_get p j inv own t r hr
    refine ⟨by simp [ih.1], fun i h1 h2 => ?_⟩
    cases i with
    | zero => exact hq
    | succ i => exact ih.2 i (by simpa using h1) (by simpa using h2)
theorem impl_reduce.red_get (p b : Int) : ∀ (l o T : List Int), impl_reduce.red p b l o = some T → T.length = l.length ∧ l.length ≤ o.length ∧ ∀ i (h : i < l.length) (h2 : i < T.length), impl_rest.f (wrap64 (l.getD i 0 - Int.tmod (wrap64 (b * o.getD i 0)) p)) p = some T[i]
  | [], o, T, h => by
    obtain rfl := Option.some.inj h
    exact ⟨rfl, Nat.zero_le _, fun i h => absurd h (Nat.not_lt_zero _)⟩
  | v :: t, [], T, h => by cases h
  | v :: t, y :: o, T, h => by
    obtain ⟨q, hq, h⟩ := Option.bind_eq_some_iff.mp h
    obtain ⟨r, hr, h⟩ := Option.bind_eq_some_iff.mp h
    obtain rfl := Option.some.inj h
    have ih := impl_reduce.red_get p b t o r hr
    refine ⟨by simp [ih.1], by simp [ih.2.1], fun i h1 h2 => ?_⟩
    cases i with
    | zero => exact hq
    | succ i => exact ih.2.2 i (by simpa using h1) (by simpa using h2)
/-- the closure: is a row not 0 at column j -/
theorem impl_reduce.closure (j : Nat) (A : Option Addr) (c b : Nat) (row : List Int) (W : World) (hb : W.cell? ⟨b, 0, none⟩ = some (.int .i64 (j : Int))) (hA : Kd.C (Kd.int .i64) W A row.length row) (hj : j < row.length) :
    Calls Try.prog 89 #[.slice A row.length c, .pointer (some ⟨b, 0, none⟩)] W fun e w' => e = .returned (.bool (row.getD j 0 != 0)) ∧ Drawn0 W w' := by
  have q5 : (j : Int) < (row.length : Int) := by omega
  have p5 : (0 : Int) ≤ (j : Int) := by omega
  obtain ⟨ad, rfl, hx⟩ := Kd.at_int hA (j : Int) p5 q5
  have h0 : rd row (j : Int) = row.getD j 0 := by unfold rd; rw [Int.toNat_natCast]
  rw [h0] at hx
  simp only [Int.toNat_natCast] at hx
  replace p5 := eq_true p5
  replace q5 := eq_true q5
  clear hA h0
  generalize row.getD j 0 = z at hx ⊢
  go_enter Try.func89, Try.ntmps89
  go_wp2
  go_ret
  exact ⟨by first | rfl | simp, by repeat (first | exact Drawn0.refl _ | apply Drawn0.step)⟩
/-- what slices.IndexFunc answers -/
def impl_reduce.place (o : Option Nat) : Int := match o with | none => -1 | some q => (q : Int)
theorem impl_reduce.find_skip (j : Nat) : ∀ (l : List (List Int)) (i : Nat), (∀ x ∈ l.take i, x.getD j 0 = 0) → i ≤ l.length → impl_reduce.find j l = (impl_reduce.find j (l.drop i)).map (· + i)
  | l, 0, _, _ => by rw [List.drop_zero]; simp
  | [], i + 1, _, h => absurd h (Nat.not_succ_le_zero _)
  | x :: t, i + 1, h, hl => by
    have h0 : x.getD j 0 = 0 := h x (by simp)
    rw [impl_reduce.find, if_pos h0, List.drop_succ_cons, impl_reduce.find_skip j t i (fun y hy => h y (by simp [hy])) (by simpa using hl), Option.map_map]
    congr 1
set_option maxHeartbeats 8000000 in
/-- slices.IndexFunc over rows, by the closure -/
theorem impl_reduce.index (j : Nat) (b : Nat) (A0 : Option Addr) (c0 : Nat) (l0 : List (List Int)) (w : World) (hr0 : Kd.C (Kd.slice 3 (Kd.int .i64)) w A0 l0.length l0) (hc0 : l0.length ≤ c0) (hl : l0.length < 4611686018427387904)
    (hb : w.cell? ⟨b, 0, none⟩ = some (.int .i64 (j : Int))) (hj : ∀ x ∈ l0, j < x.length) :
    Calls Try.prog 88 #[.slice A0 l0.length c0, .func (.func 89) #[] #[.pointer (some ⟨b, 0, none⟩)]] w fun e w' => e = .returned (.int .i64 (impl_reduce.place (impl_reduce.find j l0))) ∧ Drawn0 w w' := by
  have HR0 := Aside0.mk hr0
  have HBX := Aside0.mk hb
  have HJ := Aside0.mk hj
  clear hr0 hb hj
  go_enter Try.func88, Try.ntmps88
  go_wp2
  go_loopg [8] (l0.length + 1) (fun kq v8 w' => ∃ (i : Nat), v8 = .int .i64 i ∧ i ≤ l0.length ∧ l0.length - i < kq ∧ Aside0 (∀ x ∈ l0.take i, x.getD j 0 = 0) ∧ Drawn0 w w')
  case atStart => exact ⟨0, by go_num, Nat.zero_le _, by omega, ⟨by simp⟩, by repeat (first | exact Drawn0.refl _ | apply Drawn0.step)⟩
  case round =>
    obtain ⟨i, rfl, hi, hm, HA, ⟨m1, rfl⟩⟩ := hrel
    obtain ⟨k1, rfl⟩ : ∃ m, gk = m + 1 := ⟨gk - 1, by omega⟩
    by_cases hil : i < l0.length
    · have hiz : (i : Int) < (l0.length : Int) := by omega
      obtain ⟨ad, A1, c1, e0, hx0, hl1, hi1⟩ := at_L1 HR0.out (i : Int) (by omega) hiz
      have hrd : rd_L1 l0 (i : Int) = l0[i] := by unfold rd_L1; simp [hil]
      rw [hrd] at hx0 hl1 hi1
      rw [Int.toNat_natCast] at hx0
      cases e0
      have p1 : (0 ≤ (i : Int)) = True := eq_true (by omega)
      have p2 : ((i : Int) < (l0.length : Int)) = True := eq_true hiz
      have HC := Aside0.mk (impl_reduce.closure j A1 c1 b l0[i] (w.drewN m1) ((pw_below_drewN (Below.refl _ _) m1).cell (World.block_lt_of_cell? w _ HBX.out) |>.trans HBX.out) (Kd.C_drewN hi1 m1) (HJ.out _ (List.getElem_mem hil)))
      clear hi1
      by_cases hz : l0[i].getD j 0 = 0
      · have e1 : (l0[i].getD j 0 != 0) = false := by rw [hz]; rfl
        rw [e1] at HC
        have HA2 := Aside0.mk (show ∀ x ∈ l0.take (i + 1), x.getD j 0 = 0 by
          intro x hx
          rw [List.take_succ_eq_append_getElem hil, List.mem_append, List.mem_singleton] at hx
          rcases hx with hx | rfl
          · exact HA.out x hx
          · exact hz)
        clear hz e1
        go_wp2_with ((go_at_call 89); (with_reducible refine HC.out.mono ?_); rintro e w' ⟨rfl, ⟨nd, rfl⟩⟩)
        go_roundg k1
        case measure => exact Nat.lt_succ_self _
        case rel => exact ⟨i + 1, by go_num, by omega, by omega, HA2, by repeat (first | exact Drawn0.refl _ | apply Drawn0.step)⟩
      · have e1 : (l0[i].getD j 0 != 0) = true := bne_iff_ne.mpr hz
        rw [e1] at HC
        have HF := Aside0.mk (show impl_reduce.find j l0 = some i by
          rw [impl_reduce.find_skip j l0 i HA.out hi, List.drop_eq_getElem_cons hil, impl_reduce.find, if_neg hz]; simp)
        clear hz e1
        go_wp2_with ((go_at_call 89); (with_reducible refine HC.out.mono ?_); rintro e w' ⟨rfl, ⟨nd, rfl⟩⟩)
        go_ret
        exact ⟨by rw [HF.out]; rfl, by repeat (first | exact Drawn0.refl _ | apply Drawn0.step)⟩
    · obtain rfl : i = l0.length := by omega
      have HF := Aside0.mk (show impl_reduce.find j l0 = none by
        rw [impl_reduce.find_skip j l0 _ HA.out hi, List.drop_length, impl_reduce.find]; rfl)
      clear HA
      go_wp2
      go_ret
      exact ⟨by rw [HF.out]; rfl, by repeat (first | exact Drawn0.refl _ | apply Drawn0.step)⟩
theorem impl_reduce.find_lt (j : Nat) : ∀ (l : List (List Int)) (q : Nat), impl_reduce.find j l = some q → q < l.length
  | [], q, h => by cases h
  | x :: t, q, h => by
    rw [impl_reduce.find] at h
    split at h
    · obtain ⟨q', h', rfl⟩ := Option.map_eq_some_iff.1 h
      have := impl_reduce.find_lt j t q' h'
      simp; omega
    · obtain rfl := Option.some.inj h
      simp
/-- a row that is being changed, at place kk -/
def impl_reduce.cur (row T : List Int) (j kk : Nat) : List Int := row.take j ++ (T.take (kk - j) ++ row.drop kk)
theorem impl_reduce.cur_len (row T : List Int) (j kk : Nat) (hj : j ≤ kk) (hk : kk ≤ row.length) (hT : T.length = row.length - j) : (impl_reduce.cur row T j kk).length = row.length := by
  unfold impl_reduce.cur
  simp only [List.length_append, List.length_take, List.length_drop]
  omega
theorem impl_reduce.cur_at (row T : List Int) (j kk : Nat) (hj : j ≤ kk) (hk : kk < row.length) (hT : T.length = row.length - j) : (impl_reduce.cur row T j kk).getD kk 0 = row.getD kk 0 := by
  unfold impl_reduce.cur
  have h1 : (row.take j ++ T.take (kk - j)).length = kk := by simp only [List.length_append, List.length_take]; omega
  rw [← List.append_assoc, List.getD_eq_getElem?_getD, List.getElem?_append_right (by omega), h1, Nat.sub_self, List.getElem?_drop, List.getD_eq_getElem?_getD, Nat.add_zero]
theorem impl_reduce.cur_set (row T : List Int) (j kk : Nat) (hj : j ≤ kk) (hk : kk < row.length) (hT : T.length = row.length - j) (h : kk - j < T.length) : (impl_reduce.cur row T j kk).set kk T[kk - j] = impl_reduce.cur row T j (kk + 1) := by
  unfold impl_reduce.cur
  have h1 : (row.take j ++ T.take (kk - j)).length = kk := by simp only [List.length_append, List.length_take]; omega
  rw [← List.append_assoc, List.set_append_right _ _ (by omega), h1, Nat.sub_self, List.drop_eq_getElem_cons hk, List.set_cons_zero, show kk + 1 - j = (kk - j) + 1 by omega, List.take_succ_eq_append_getElem h]
  simp only [List.append_assoc, List.singleton_append]
theorem impl_reduce.cur_start (row T : List Int) (j : Nat) : impl_reduce.cur row T j j = row := by
  unfold impl_reduce.cur
  rw [Nat.sub_self, List.take_zero, List.nil_append, List.take_append_drop]
theorem impl_reduce.cur_end (row T : List Int) (j : Nat) (hT : T.length = row.length - j) : impl_reduce.cur row T j row.length = row.take j ++ T := by
  unfold impl_reduce.cur
  rw [List.drop_length, List.append_nil, ← hT, List.take_length]
/-- the rows while those below rank are changed, at place i -/
def impl_reduce.mid (L M : List (List Int)) (s i : Nat) : List (List Int) := L.take s ++ (M.take i ++ L.drop (s + i))
theorem impl_reduce.mid_len (L M : List (List Int)) (s i : Nat) (hs : s ≤ L.length) (hM : M.length = L.length - s) (hi : i ≤ M.length) : (impl_reduce.mid L M s i).length = L.length := by
  unfold impl_reduce.mid
  simp only [List.length_append, List.length_take, List.length_drop]
  omega
theorem impl_reduce.mid_low (L M : List (List Int)) (s i k : Nat) (hk : k < s) (hs : s ≤ L.length) : (impl_reduce.mid L M s i)[k]? = L[k]? := by
  unfold impl_reduce.mid
  rw [List.getElem?_append_left (by rw [List.length_take]; omega), List.getElem?_take, if_pos hk]
theorem impl_reduce.mid_at (L M : List (List Int)) (s i : Nat) (hs : s ≤ L.length) (hM : M.length = L.length - s) (hi : i < M.length) : (impl_reduce.mid L M s i)[s + i]? = L[s + i]? := by
  unfold impl_reduce.mid
  have h1 : (L.take s ++ M.take i).length = s + i := by simp only [List.length_append, List.length_take]; omega
  rw [← List.append_assoc, List.getElem?_append_right (by omega), h1, Nat.sub_self, List.getElem?_drop, Nat.add_zero]
theorem impl_reduce.mid_set (L M : List (List Int)) (s i : Nat) (hs : s ≤ L.length) (hM : M.length = L.length - s) (hi : i < M.length) : (impl_reduce.mid L M s i).set (s + i) M[i] = impl_reduce.mid L M s (i + 1) := by
  unfold impl_reduce.mid
  have h1 : (L.take s ++ M.take i).length = s + i := by simp only [List.length_append, List.length_take]; omega
  rw [← List.append_assoc, List.set_append_right _ _ (by omega), h1, Nat.sub_self, List.drop_eq_getElem_cons (by omega), List.set_cons_zero, List.take_succ_eq_append_getElem hi]
  simp only [List.append_assoc, List.singleton_append, Nat.add_assoc]
theorem impl_reduce.mid_start (L M : List (List Int)) (s : Nat) : impl_reduce.mid L M s 0 = L := by
  unfold impl_reduce.mid
  simp
theorem impl_reduce.mid_end (L M : List (List Int)) (s : Nat) (hs : s ≤ L.length) (hM : M.length = L.length - s) : impl_reduce.mid L M s M.length = L.take s ++ M := by
  unfold impl_reduce.mid
  rw [List.take_length, List.drop_of_length_le (by omega), List.append_nil]
theorem impl_reduce.mid_rows (L M : List (List Int)) (s i m : Nat) (hL : ∀ x ∈ L, x.length = m) (hM : ∀ x ∈ M, x.length = m) : ∀ x ∈ impl_reduce.mid L M s i, x.length = m := by
  intro x hx
  unfold impl_reduce.mid at hx
  rw [List.mem_append, List.mem_append] at hx
  rcases hx with hx | hx | hx
  · exact hL x (List.mem_of_mem_take hx)
  · exact hM x (List.mem_of_mem_take hx)
  · exact hL x (List.mem_of_mem_drop hx)
def impl_reduce.T20 : Bool × List (List Nat × List Nat) := (true, [([], []), ([], []), ([], []), ([], []), ([], []), ([3, 4], [3, 4]), ([], []), ([], []), ([], []), ([7, 8], [7, 8]), ([6, 9], [6, 9]), ([10], [10]), ([], []), ([], []), ([12, 13], [12, 13]), ([14], [14]), ([0, 1, 0, 1, 6, 7, 8, 9, 10, 11, 15], [0, 1]), ([16, 11, 0, 1, 6, 7, 8, 9, 10, 11, 15], [11, 16]), ([2, 5, 0, 1, 2, 3, 4, 5, 6, 7, 8, 9, 10, 11, 12, 13, 14, 15, 16, 17], [2, 5]), ([18, 15, 17, 0, 1, 2, 3, 4, 5, 6, 7, 8, 9, 10, 11, 12, 13, 14, 15, 16, 17], [15, 18])])
def impl_reduce.B20 : List Nat := [0, 0, 0, 0, 0, 24, 0, 0, 0, 384, 960, 1984, 0, 0, 12288, 28672, 65475, 131011, 262143, 524287]
theorem impl_reduce.tab20 : rtab .any (opsOf Try.f54 20) = impl_reduce.T20 := by kernel_rfl
theorem impl_reduce.bits20 : waitsOk impl_reduce.T20.2 impl_reduce.B20 = true := by kernel_rfl
def impl_reduce.T32 : Bool × List (List Nat × List Nat) := (true, [([], []), ([], []), ([], []), ([], []), ([2, 3], [2, 3]), ([4], [4]), ([], []), ([], []), ([], []), ([7, 8], [7, 8]), ([9], [9]), ([6, 10], [6, 10]), ([], []), ([11, 12], [11, 12]), ([5, 13], [5, 13]), ([], []), ([14, 15], [14, 15]), ([0, 1, 0, 1, 2, 3, 4, 5, 6, 7, 8, 9, 10, 11, 12, 13, 14, 15, 16], [0, 1]), ([17, 16, 16, 0, 1, 2, 3, 4, 5, 6, 7, 8, 9, 10, 11, 12, 13, 14, 15, 16], [16, 17])])
def impl_reduce.B32 : List Nat := [0, 0, 0, 0, 12, 28, 0, 0, 0, 384, 896, 1984, 0, 8128, 16380, 0, 65532, 131071, 262143]
theorem impl_reduce.tab32 : rtab .any (opsOf Try.f54 32) = impl_reduce.T32 := by kernel_rfl
theorem impl_reduce.bits32 : waitsOk impl_reduce.T32.2 impl_reduce.B32 = true := by kernel_rfl
set_option maxHeartbeats 8000000 in
set_option maxRecDepth 100000 in
theorem impl_reduce.calls (k : Nat) (A0 : Option Addr) (c0 : Nat) (l0 : List (List Int)) (a1 : Int) (r1 r2 : Int) (w : World) (hr0 : Kd.C (Kd.slice 3 (Kd.int .i64)) w A0 l0.length l0) (hc0 : l0.length ≤ c0) (h : impl_reduce.f k l0 a1 = some (r1, r2)) :
    Calls Try.prog 54 #[.slice A0 l0.length c0, .int .i64 a1] w fun e w' => e = .returned (.tuple #[.int .i64 r1, .int .i64 r2]) ∧ Below w.heap.size w w' := by
  unfold impl_reduce.f at h
  by_cases hg : impl_reduce.good l0 a1 = true
  case neg => rw [if_neg hg] at h; cases h
  rw [if_pos hg] at h
  unfold impl_reduce.good at hg
  rw [Bool.and_eq_true, decide_eq_true_eq] at hg
  obtain ⟨⟨hn1, hn2, hm1, hm2, hp0⟩, hall⟩ := hg
  have hrow : ∀ x ∈ l0, x.length = (l0.getD 0 []).length := fun x hx => of_decide_eq_true (List.all_eq_true.1 hall x hx)
  generalize (l0.getD 0 []).length = m at h hm1 hm2 hrow
  obtain ⟨L0, hL, hgo⟩ := Option.bind_eq_some_iff.mp h
  obtain ⟨hLl, hLg⟩ := impl_reduce.modsR_get a1 l0 L0 hL
  have HR0 := Aside0.mk hr0
  have HRW := Aside0.mk hrow
  have FG := Aside0.mk hgo
  have FM := Aside0.mk hLg
  have FL := Aside0.mk hLl
  have HB := Aside0.mk (Below.refl w.heap.size w)
  clear h hr0 hall hL hgo hLg hLl hrow
  go_enter Try.func54, Try.ntmps54
  go_wp2_with ((with_reducible refine gate_dst (N := 22) rfl ?_); refine Kd.S_lit (Kd.slice 3 (Kd.int .i64)) _ 35 ?hg (N := 22) ?hd (xs := ([] : List (List Int))) (inner := []) (ok := fun _ => True) (okp := fun _ => True) ?hr ?hp (fun _ hk => hk) trivial (Below.refl _ _) (Nat.le_refl _) (by simp) ?_; (case hd => rfl); (case hg => rfl); (case hr => first | (go_simp; done) | (go_simp; rfl)); (case hp => exact (Reps.none _ _)); intro v22 w4 ho hb hg_ hnew_; clear hg_ hnew_; have HX := Aside0.mk ho; have HB2 := Aside0.mk hb; clear HB ho hb; have HB := HB2; clear HB2)
  go_loopg [6, 25] (l0.length + 1) (fun kq v6 v25 w' => ∃ (i : Nat), v25 = .int .i64 i ∧ i ≤ l0.length ∧ l0.length - i < kq ∧ Aside0 (Kd.S (Kd.slice 3 (Kd.int .i64)) 35 w' w.heap.size (fun _ => True) v6 (L0.take i)) ∧ Aside0 (Below w.heap.size w w'))
  case atStart => exact ⟨0, by go_num, Nat.zero_le _, by omega, ⟨by rw [List.take_zero]; exact HX.out⟩, HB⟩
  case round =>
    clear HX HB
    obtain ⟨i, rfl, hi, hgi, HX, HB⟩ := hrel
    obtain ⟨k1, rfl⟩ : ∃ m, gk = m + 1 := ⟨gk - 1, by omega⟩
    by_cases hil : i < l0.length
    · have hiz : (i : Int) < (l0.length : Int) := by omega
      obtain ⟨ad, A1, c1, e0, hx0, hl1, hi1⟩ := at_L1 (Kd.C_below HR0.out HB.out) (i : Int) (by omega) hiz
      have hrd : rd_L1 l0 (i : Int) = l0[i] := by unfold rd_L1; simp [hil]
      rw [hrd] at hx0 hl1 hi1
      rw [Int.toNat_natCast] at hx0
      cases e0
      have hLi : i < L0.length := by have := FL.out; omega
      obtain ⟨hTl, hTg⟩ := impl_reduce.mods_get a1 _ _ (FM.out i hil hLi)
      have hnew : L0.take (i + 1) = L0.take i ++ [L0[i]] := List.take_succ_eq_append_getElem hLi
      have hrl := HRW.out _ (List.getElem_mem hil)
      generalize hT : L0[i] = T at hTl hTg hnew
      generalize hR : l0[i] = row at hx0 hl1 hi1 hTl hTg hrl
      have HN := Aside0.mk hnew
      have TG := Aside0.mk hTg
      have TL := Aside0.mk hTl
      have HRI := Aside0.mk hi1
      have HRL := Aside0.mk hrl
      have hrb : row.length ≤ 1000 := by omega
      have p1 : (0 ≤ (i : Int)) = True := eq_true (by omega)
      have p2 : ((i : Int) < (l0.length : Int)) = True := eq_true hiz
      clear hi1 hnew hTg hTl hR hT hrd hrl
      go_wp2_with ((with_reducible refine gate_dst (N := 29) rfl ?_); refine Kd.R_lit (Kd.int .i64) _ 3 ?hg (N := 29) ?hd (xs := ([] : List Int)) (inner := []) (ok := fun _ => True) (okp := fun _ => True) ?hr ?hp (fun _ hk => hk) trivial (Below.refl _ _) (Nat.le_refl _) (by simp) ?_; (case hd => rfl); (case hg => rfl); (case hr => first | (go_simp; done) | (go_simp; rfl)); (case hp => exact (Reps.none _ _)); intro v29 w5 ho hb hg_ hnew_; clear hg_ hnew_; have HN1 := Aside0.mk ho; have HBi := Aside0.mk hb; clear ho hb)
      obtain ⟨WR, eWR⟩ : ∃ X : World, X = wr := ⟨_, rfl⟩
      subst eWR
      go_loopg [11, 32] (row.length + 1) (fun kq v11 v32 w' => ∃ (j : Nat), v32 = .int .i64 j ∧ j ≤ row.length ∧ row.length - j < kq ∧ Aside0 (Kd.R (Kd.int .i64) 3 w' WR.heap.size (fun _ => True) v11 (T.take j)) ∧ Aside0 (Below WR.heap.size WR w'))
      case atStart => exact ⟨0, by go_num, Nat.zero_le _, by omega, ⟨by rw [List.take_zero]; exact HN1.out⟩, HBi⟩
      case round =>
        clear HN1 HBi
        obtain ⟨j, rfl, hj, hgj, HN1, HBi⟩ := hrel
        obtain ⟨k2, rfl⟩ : ∃ m, gk = m + 1 := ⟨gk - 1, by omega⟩
        by_cases hjl : j < row.length
        · have hjz : (j : Int) < (row.length : Int) := by omega
          have p3 : (0 : Int) ≤ (j : Int) := by omega
          obtain ⟨ad2, e2, hx2⟩ := Kd.at_int (Kd.C_below HRI.out HBi.out) (j : Int) p3 hjz
          cases e2
          have hrd2 : rd row (j : Int) = row[j] := by unfold rd; simp [hjl]
          rw [hrd2] at hx2
          simp only [Int.toNat_natCast] at hx2
          have hTj : j < T.length := by have := TL.out; omega
          have F1 := Aside0.mk (TG.out j hjl hTj)
          have hnew : T.take (j + 1) = T.take j ++ [T[j]] := List.take_succ_eq_append_getElem hTj
          generalize T[j] = tj at F1 hnew
          generalize row[j] = vj at hx2 F1
          have HN2 := Aside0.mk hnew
          clear hnew hrd2
          replace p3 := eq_true p3
          have q3 := eq_true hjz
          have hTs := Aside0.mk (show (T.take j).length ≤ 1000 by rw [List.length_take]; have := TL.out; omega)
          go_wp2_with (first
            | (go_at_call 55; (with_reducible refine (impl_rest.calls vj a1 tj _ F1.out).mono ?_); rintro e w6 ⟨rfl, ⟨nd, rfl⟩⟩; have HN3 := Aside0.mk (Kd.R_drewN HN1.out nd); have HBj := Aside0.mk (pw_below_drewN HBi.out nd); clear HN1 HBi hx2; have HN1 := HN3; have HBi := HBj; clear HN3 HBj)
            | ((with_reducible refine gate_builtin (b := .append) (xs := #[.tmp 36, .tmp 40]) rfl ?_); at_builtin; refine Kd.R_append (Kd.int .i64) (w0 := WR) WR.heap.size rfl (.tmp 36) (.tmp 40) 35 3 (.int .i64 0) 8 rfl Try.underlying35 info3 rfl (by decide) (by omega) u11 (T.take j) tj [.int .i64 tj] (fun _ => True) (fun _ => False) rfl rfl ?aP (fun _ hk => hk.elim) ?aF ?aO ?aB ?aS ?aL ?_; (case aP => exact rfl); (case aB => exact HBi.out); (case aF => exact (fun _ _ => trivial)); (case aO => exact Kd.R_mono HN1.out (fun _ _ => trivial)); (case aS => exact HBi.out.size); (case aL => have := hTs.out; omega); intro v2 w2 ho hb hg_ hat_; rw [← HN2.out] at ho; have HN3 := Aside0.mk ho; have HBj := Aside0.mk hb; clear ho hb hg_ hat_ HN1 HBi; have HN1 := HN3; have HBi := HBj; clear HN3 HBj))
          go_roundg k2
          case measure => exact Nat.lt_succ_self _
          case rel => exact ⟨j + 1, by go_num, by omega, by omega, HN1, HBi⟩
        · obtain rfl : j = row.length := by omega
          have hfull : T.take row.length = T := List.take_of_length_le (by have := TL.out; omega)
          rw [hfull] at HN1
          clear hfull
          obtain ⟨Ao, co, eo⟩ := Kd.R_slice HN1.out
          subst eo
          have hTs := Aside0.mk (show (L0.take i).length ≤ 1000 by rw [List.length_take]; omega)
          have HXn := Aside0.mk (Kd.S_old HX.out HBi.out)
          have HXo := Aside0.mk (Kd.S_lt HX.out)
          have HBn := Aside0.mk (below_step HB.out HBi.out)
          have HWs := Aside0.mk HB.out.size
          clear HX HB
          go_wp2_with ((with_reducible refine gate_builtin (b := .append) (xs := #[.tmp 43, .tmp 45]) rfl ?_); at_builtin; refine Kd.S_append (Kd.slice 3 (Kd.int .i64)) (w0 := w) w.heap.size rfl (.tmp 43) (.tmp 45) 22 35 (.slice none 0 0) 24 rfl Try.underlying22 info35 rfl (by decide) (by omega) u6 (L0.take i) T [.slice Ao T.length co] (fun _ => True) (fun k_ => some k_ = (.slice Ao T.length co : Value).ownBlock) rfl rfl ?aP ?aK (fun _ _ => trivial) ?aO ?aB ?aS ?aL ?_; (case aP => exact Kd.M_row (Kd.R_tight rfl (Kd.R_lower HN1.out HWs.out))); (case aK => intro k_ hk; exact ⟨trivial, fun e_ => Nat.lt_irrefl _ (Nat.lt_of_lt_of_le (HXo.out k_ e_.symm) (Kd.R_base HN1.out k_ hk.symm))⟩); (case aO => exact Kd.S_mono HXn.out (fun k_ hk => ⟨trivial, fun e_ => Nat.lt_irrefl _ (Nat.lt_of_lt_of_le hk.2 (Kd.R_base HN1.out k_ e_.symm))⟩)); (case aB => exact HBn.out); (case aS => exact HBn.out.size); (case aL => have := hTs.out; omega); intro v5 w5 ho hb _ _; rw [← HN.out] at ho; have HX := Aside0.mk ho; have HB := Aside0.mk hb; clear ho hb HXn HBn HN1 HBi)
          go_roundg k1
          case measure => exact Nat.lt_succ_self _
          case rel => exact ⟨i + 1, by go_num, by omega, by omega, HX, HB⟩
    · obtain rfl : i = l0.length := by omega
      have hfull : L0.take l0.length = L0 := List.take_of_length_le (by have := FL.out; omega)
      rw [hfull] at HX
      have hLm : ∀ x ∈ L0, x.length = m := by
        intro x hx
        obtain ⟨q, hq, rfl⟩ := List.getElem_of_mem hx
        have hq2 : q < l0.length := by have := FL.out; omega
        rw [(impl_reduce.mods_get a1 _ _ (FM.out q hq2 hq)).1]
        exact HRW.out _ (List.getElem_mem hq2)
      have hL0 : 0 < L0.length := by have := FL.out; omega
      obtain ⟨g, cap, B0, rfl, hle, hcm, hM⟩ := MatS.Mat.of_S HX.out (List.length_pos_iff.1 hL0) (fun x hx => List.length_pos_iff.1 (by rw [hLm x hx]; omega))
      have HL2 := Aside0.mk (show L0.length ≤ 1000 by have := FL.out; omega)
      clear HX hfull FM HRW HR0 hi hgi hil FL hn1 hn2
      obtain ⟨b0, hb0, hl0⟩ := hM.at_ hL0
      obtain ⟨hc0_, hf0_⟩ := hM.cell hb0 hl0
      rw [hLm _ (List.getElem_mem hL0)] at hc0_
      have HM := Aside0.mk hM
      have HLM := Aside0.mk hLm
      have HLE := Aside0.mk hle
      have p1 : ((0 : Int) < (L0.length : Int)) = True := eq_true (by omega)
      clear hM hLm hle hcm hl0 hb0
      go_wp2
      go_loopg [7, 8, 52] (m + 1) (fun kq v7 v8 v52 w' => ∃ (j rank : Nat) (det : Int) (L : List (List Int)) (B : List (Nat × Nat)), v7 = .int .i64 rank ∧ v8 = .int .i64 det ∧ v52 = .int .i64 j ∧ j ≤ m ∧ m - j < kq ∧ rank < L0.length ∧ Aside0 (L.length = L0.length ∧ ∀ x ∈ L, x.length = m) ∧ Aside0 (impl_reduce.go k a1 (m - j) j L rank det = some (r1, r2)) ∧ Aside0 (MatS.Mat 35 3 w' w.heap.size g B L) ∧ Aside0 (Below w.heap.size w w'))
      case atStart => exact ⟨0, 0, 1, L0, B0, by go_num, rfl, by go_num, Nat.zero_le _, by omega, hL0, ⟨rfl, HLM.out⟩, FG, HM, HB⟩
      case round =>
        clear FG HM HB HLM hc0_ hf0_ hL0
        obtain ⟨j, rank, det, L, B, rfl, rfl, rfl, hj, hgj, hrk, HL, FG, HM, HB⟩ := hrel
        obtain ⟨k1, rfl⟩ : ∃ m, gk = m + 1 := ⟨gk - 1, by omega⟩
        by_cases hjm : j < m
        · have hjz : (j : Int) < (m : Int) := by omega
          have hcr : (cap = rank) = False := eq_false (by have := HLE.out; omega)
          have hpz : (a1 = 0) = False := eq_false (by omega)
          have p2 : (0 ≤ (rank : Int)) = True := eq_true (by omega)
          have q2 : ((rank : Int) < (L0.length : Int)) = True := eq_true (by omega)
          have hdl : (L.drop rank).length = L0.length - rank := by rw [List.length_drop, HL.out.1]
          have hix := impl_reduce.index j wr.heap.size (some ⟨g, rank, none⟩) (cap - rank) (L.drop rank) (wr.alloc (.cells #[.int .i64 (j : Int)] 3)) (Kd.C_alloc (HM.out.tail rank (by have := HL.out.1; omega) (by have := HL.out.1; have := HL2.out; have : maxLen = 9223372036854775807 := rfl; omega)) _) (by rw [hdl]; have := HLE.out; omega) (by rw [hdl]; have := HL2.out; omega) (by simp) (fun x hx => by rw [HL.out.2 x (List.mem_of_mem_drop hx)]; exact hjm)
          rw [hdl] at hix
          have HMA := Aside0.mk (HM.out.below (below_alloc (Below.refl _ _) (.cells #[.int .i64 (j : Int)] 3)))
          have HBA := Aside0.mk (HB.out.alloc HB.out.size (.cells #[.int .i64 (j : Int)] 3))
          have BXA := Aside0.mk (blk_new wr (.cells #[.int .i64 (j : Int)] 3))
          have HWL := Aside0.mk HB.out.size
          have NBB := Aside0.mk (show g ≠ wr.heap.size ∧ ∀ (i : Nat) (b : Nat × Nat), B[i]? = some b → b.1 ≠ wr.heap.size from ⟨Nat.ne_of_lt HM.out.gt, fun i b hb => Nat.ne_of_lt (HM.out.hi hb)⟩)
          clear HM HB
          have hgo := FG.out
          rw [show m - j = (m - (j + 1)) + 1 by omega, impl_reduce.go] at hgo
          have hpj : (0 ≤ (j : Int)) = True := eq_true (by omega)
          have hqj : ((j : Int) < (m : Int)) = True := eq_true hjz
          cases hf : impl_reduce.find j (L.drop rank) with
          | none =>
            rw [hf] at hgo hix
            simp only [impl_reduce.place] at hgo hix
            have CC := Aside0.mk hix
            have FG2 := Aside0.mk hgo
            clear hix hgo FG hdl
            go_wp2_with (go_at_call 88; (with_reducible refine CC.out.mono ?_); rintro e w' ⟨rfl, ⟨nd, rfl⟩⟩; have HM2 := Aside0.mk (HMA.out.below (pw_below_drewN (Below.refl _ _) nd)); have HB2 := Aside0.mk (pw_below_drewN HBA.out nd); clear HMA HBA BXA CC)
            go_roundg k1
            case measure => exact Nat.lt_succ_self _
            case rel => exact ⟨j + 1, rank, 0, L, B, rfl, rfl, by go_num, by omega, by omega, hrk, HL, FG2, HM2, HB2⟩
          | some q =>
            rw [hf] at hgo hix
            simp only [impl_reduce.place] at hgo hix
            have hql : rank + q < L0.length := by have := impl_reduce.find_lt j _ _ hf; rw [hdl] at this; omega
            have CC := Aside0.mk hix
            clear hix FG hdl
            have hl1000 := HL2.out
            have hrq2 : rank + q < L.length := by have := HL.out.1; omega
            have hrk2 : rank < L.length := by have := HL.out.1; omega
            by_cases hq0 : q = 0
            case' pos =>
              subst hq0
              have hsw : impl_reduce.swap L rank (rank + 0) = L := if_pos rfl
              rw [hsw, if_pos rfl] at hgo
              obtain ⟨o, ho, hlo⟩ := HMA.out.at_ hrk2
              have hom : L[rank].length = m := HL.out.2 _ (List.getElem_mem _)
              obtain ⟨own, hown⟩ : ∃ own, L[rank] = own := ⟨_, rfl⟩
              rw [hown] at hlo hom
              have hgd : L.getD rank [] = own := by rw [List.getD_eq_getElem?_getD, hlo]; rfl
              obtain ⟨v, hv⟩ : ∃ v, own.getD j 0 = v := ⟨_, rfl⟩
              obtain ⟨d1, hd1⟩ : ∃ d1, det = d1 := ⟨_, rfl⟩
              subst hd1
              unfold impl_reduce.use at hgo
              rw [hgd, hv] at hgo
              obtain ⟨inv, hinv, hgo⟩ := Option.bind_eq_some_iff.mp hgo
              obtain ⟨M, hM, hgo⟩ := Option.bind_eq_some_iff.mp hgo
              have FI := Aside0.mk hinv
              have FMM := Aside0.mk hM
              have FG3 := Aside0.mk hgo
              have HO1 := Aside0.mk ho
              have HO2 := Aside0.mk hlo
              have HO3 := Aside0.mk hom
              have HO4 := Aside0.mk hv
              clear hinv hM hgo ho hlo hom hgd hsw hown hv hrq2 hql
              go_wp2_with (first
                | (go_at_call 88; (with_reducible refine CC.out.mono ?_); rintro e w' ⟨rfl, ⟨nd, rfl⟩⟩; have HM1 := Aside0.mk (HMA.out.below (pw_below_drewN (Below.refl _ _) nd)); have HB1 := Aside0.mk (pw_below_drewN HBA.out nd); have BX1 := Aside0.mk (blk_below BXA.out (pw_below_drewN (Below.refl _ _) nd)); clear HMA HBA BXA CC; have hxo := (HM1.out.cell HO1.out HO2.out).1; rw [HO3.out] at hxo; have hbx := (blk_cell BX1.out 0).trans rfl; have hxv := (HM1.out.num HO1.out HO2.out (j : Int) (by omega) (by rw [HO3.out]; omega)).1; rw [show rd own (j : Int) = own.getD j 0 from by unfold rd; rw [Int.toNat_natCast], HO4.out, Int.toNat_natCast] at hxv)
                | (go_at_call 56; (with_reducible refine (impl_inverseMod.calls k v a1 inv _ FI.out).mono ?_); rintro e w' ⟨rfl, ⟨nd2, rfl⟩⟩; have HM2 := Aside0.mk (HM1.out.below (pw_below_drewN (Below.refl _ _) nd2)); have HB2 := Aside0.mk (pw_below_drewN HB1.out nd2); have BX2 := Aside0.mk (blk_below BX1.out (pw_below_drewN (Below.refl _ _) nd2)); clear HM1 HB1 BX1 hxo hbx hxv))
              all_goals
                have eW : ((wr.alloc (.cells #[.int .i64 (j : Int)] 3)).drewN nd).drewN nd2 = (wr.alloc (.cells #[.int .i64 (j : Int)] 3)).drewN (nd + nd2) := by simp
                rw [eW] at HM2 HB2 BX2
                clear eW
                generalize (wr.alloc (.cells #[.int .i64 (j : Int)] 3)).drewN (nd + nd2) = W5 at HM2 HB2 BX2 ⊢
                generalize wr.heap.size = bx at BX2 HWL NBB ⊢
                obtain ⟨L1, hL1⟩ : ∃ L1, L1 = L := ⟨_, rfl⟩
                rw [← hL1] at HM2 HL FMM FG3 HO2
                obtain ⟨B1, hB1⟩ : ∃ B1, B1 = B := ⟨_, rfl⟩
                rw [← hB1] at HM2 NBB HO1
                clear hL1 hB1 hrk2 hpj hqj p2 q2
                generalize Int.tmod (wrap64 (det * v)) a1 = d2 at FG3 ⊢
              case' inl =>
                have hin : L0.length = rank + 1 := by have := HLE.out; omega
                have hlen : rank + 1 = L1.length := by rw [HL.out.1, hin]
                have h3 := FG3.out
                rw [if_pos hlen] at h3
                obtain ⟨e1, e2⟩ := Prod.mk.inj (Option.some.inj h3)
                subst e1 e2
                have hns : L0.length - (rank + 1) = 0 := by omega
                rw [hns]
                have hl2 : ((L0.length : Nat) : Int) = ((rank + 1 : Nat) : Int) := by rw [hin]
                clear h3 FG3 hlen hns
                go_loopg [110] 1 (fun kq v110 w' => v110 = .int .i64 0 ∧ Aside0 (Below w.heap.size w w'))
                case' atStart => exact ⟨rfl, HB2⟩
                case' round =>
                  clear HB2
                  obtain ⟨rfl, HB⟩ := hrel
                  go_wp2
                  go_ret2
                  exact ⟨by first | rfl | (simp; done), HB.out⟩
            case' neg =>
              have hqz : ((q : Int) < 0) = False := eq_false (by omega)
              have hqp : ((0 : Int) < (q : Int)) = True := eq_true (by omega)
              have hqn : (0 < q) = True := eq_true (by omega)
              have hqd : decide ((0 : Int) < (q : Int)) = true := decide_eq_true (by omega)
              have hqe : decide ((q : Int) < 0) = false := decide_eq_false (by omega)
              have hw : IntKind.i64.wrap ((rank : Int) + (q : Int)) = ((rank + q : Nat) : Int) := by rw [i64_w]; unfold wrap64; omega
              have hne : rank ≠ rank + q := by omega
              have hsw : impl_reduce.swap L rank (rank + q) = MatS.exch L rank (rank + q) (L.getD rank []) (L.getD (rank + q) []) := if_neg hne
              rw [hsw, if_neg hq0] at hgo
              generalize rank + q = rq at hgo hrq2 hql hw hne
              have prq : (0 ≤ (rq : Int)) = True := eq_true (by omega)
              have qrq : ((rq : Int) < (L0.length : Int)) = True := eq_true (by omega)
              obtain ⟨b, hb, hlb⟩ := HMA.out.at_ hrk2
              obtain ⟨c, hc, hlc⟩ := HMA.out.at_ hrq2
              have hbm : L[rank].length = m := HL.out.2 _ (List.getElem_mem _)
              have hcm : L[rq].length = m := HL.out.2 _ (List.getElem_mem _)
              obtain ⟨lb, hlbe⟩ : ∃ x, L[rank] = x := ⟨_, rfl⟩
              obtain ⟨own, hown⟩ : ∃ own, L[rq] = own := ⟨_, rfl⟩
              rw [hlbe] at hlb hbm
              rw [hown] at hlc hcm
              rw [show L.getD rank [] = lb by rw [List.getD_eq_getElem?_getD, hlb]; rfl, show L.getD rq [] = own by rw [List.getD_eq_getElem?_getD, hlc]; rfl] at hgo
              have hx1 : (MatS.exch L rank rq lb own)[rank]? = some own := by rw [MatS.exch_at hlb hlc, if_neg (Ne.symm hne), if_pos rfl]; exact hlc
              have hx2 : (MatS.exch B rank rq b c)[rank]? = some c := by rw [MatS.exch_at hb hc, if_neg (Ne.symm hne), if_pos rfl]; exact hc
              obtain ⟨v, hv⟩ : ∃ v, own.getD j 0 = v := ⟨_, rfl⟩
              obtain ⟨d1, hd1⟩ : ∃ d1, Int.tmod (wrap64 (a1 - det)) a1 = d1 := ⟨_, rfl⟩
              unfold impl_reduce.use at hgo
              rw [show (MatS.exch L rank rq lb own).getD rank [] = own by rw [List.getD_eq_getElem?_getD, hx1]; rfl, hv, hd1] at hgo
              obtain ⟨inv, hinv, hgo⟩ := Option.bind_eq_some_iff.mp hgo
              obtain ⟨M, hM, hgo⟩ := Option.bind_eq_some_iff.mp hgo
              have FI := Aside0.mk hinv
              have FMM := Aside0.mk hM
              have FG3 := Aside0.mk hgo
              have HO1 := Aside0.mk hx2
              have HO2 := Aside0.mk hx1
              have HO3 := Aside0.mk hcm
              have HO4 := Aside0.mk hv
              have Kb := Aside0.mk hb
              have Kc := Aside0.mk hc
              have Klb := Aside0.mk hlb
              have Klc := Aside0.mk hlc
              have Kbm := Aside0.mk hbm
              have HLx : Aside0 ((MatS.exch L rank rq lb own).length = L0.length ∧ ∀ x ∈ MatS.exch L rank rq lb own, x.length = m) := ⟨by unfold MatS.exch; rw [List.length_set, List.length_set]; exact HL.out.1, fun x hx => by
                obtain ⟨t, ht⟩ := List.getElem?_of_mem hx
                rw [MatS.exch_at hlb hlc] at ht
                exact HL.out.2 x (List.mem_of_getElem? ht)⟩
              have NBx : Aside0 (g ≠ wr.heap.size ∧ ∀ (i : Nat) (b_ : Nat × Nat), (MatS.exch B rank rq b c)[i]? = some b_ → b_.1 ≠ wr.heap.size) := ⟨NBB.out.1, fun i b_ hb_ => by
                rw [MatS.exch_at hb hc] at hb_
                exact NBB.out.2 _ b_ hb_⟩
              clear hinv hM hgo hb hc hlb hlc hbm hcm hsw hlbe hown hx1 hx2 hv hrq2 hql hrk2 HL NBB hq0
              have HL := HLx
              have NBB := NBx
              clear HLx NBx
              go_wp2_with (go_at_call 88; (with_reducible refine CC.out.mono ?_); rintro e w' ⟨rfl, ⟨nd, rfl⟩⟩; have HM1 := Aside0.mk (HMA.out.below (pw_below_drewN (Below.refl _ _) nd)); have HB1 := Aside0.mk (pw_below_drewN HBA.out nd); have BX1 := Aside0.mk (blk_below BXA.out (pw_below_drewN (Below.refl _ _) nd)); clear HMA HBA BXA CC)
              generalize (wr.alloc (.cells #[.int .i64 (j : Int)] 3)).drewN nd = W1 at HM1 HB1 BX1 ⊢
              generalize wr.heap.size = bx at BX1 HWL NBB ⊢
              have HM2 := Aside0.mk (HM1.out.below (below_drew (Below.refl _ _)))
              have BX2 := Aside0.mk (blk_below BX1.out (below_drew (Below.refl _ _)))
              have HB2 := Aside0.mk (below_drew1 HB1.out)
              clear HM1 HB1 BX1
              obtain ⟨hxb, hfb⟩ := HM2.out.cell Kb.out Klb.out
              rw [Kbm.out] at hxb
              have hxc := (HM2.out.cell Kc.out Klc.out).1
              obtain ⟨hyc, hyf⟩ := HM2.out.mid Kc.out Klc.out hne (.slice (some ⟨c.1, 0, none⟩) m c.2)
              rw [HO3.out] at hxc hyc
              refine start_ (n := 20) (S := fun w' => w'.cell? ⟨g, rq, none⟩ = some (.slice (some ⟨c.1, 0, none⟩) m c.2) ∧ w'.cell? ⟨g, rank, none⟩ = some (.slice (some ⟨b.1, 0, none⟩) m b.2)) (ds := [17, 19]) #[false, false, false, false, false, false, false, false, false, false, false, false, false, false, false, false, false, false, false, false] (by kernel_rfl) rfl rfl ⟨hxc, hxb⟩ (fun hHeld => ?_); refine with_tabW impl_reduce.tab20 impl_reduce.bits20 (fun HT_ HW_ => ?_)
              generalize W1.drew = W2 at HM2 HB2 BX2 hxc hxb hfb hyc hyf hHeld ⊢
              refine pure_ (i := 0) (N := some 64) (v := ?_) (a' := ?_) #[true, false, false, false, false, false, false, false, false, false, false, false, false, false, false, false, false, false, false, false] rfl rfl (any_of HT_.out (by kernel_rfl)) (fun _ _ _ h => h) (Or.inl ⟨by rfl, ?_⟩) ?_ ?_
              rotate_left
              · intro w'
                go_simp
                with_reducible rfl
              rotate_left
              · simp only [Act.put, List.setIfInBounds_toArray, List.set_cons_zero, List.set_cons_succ, i64_w, i32_w]
                rfl
              refine pure_ (i := 1) (N := some 65) (v := ?_) (a' := ?_) #[true, true, false, false, false, false, false, false, false, false, false, false, false, false, false, false, false, false, false, false] rfl rfl (any_of HT_.out (by kernel_rfl)) (fun _ _ _ h => h) (Or.inl ⟨by rfl, ?_⟩) ?_ ?_
              rotate_left
              · intro w'
                go_simp
                with_reducible rfl
              rotate_left
              · simp only [Act.put, List.setIfInBounds_toArray, List.set_cons_zero, List.set_cons_succ, i64_w, i32_w]
                rfl
              refine pure_ (i := 2) (N := some 66) (v := ?_) (a' := ?_) #[true, true, true, false, false, false, false, false, false, false, false, false, false, false, false, false, false, false, false, false] rfl rfl (any_of HT_.out (by kernel_rfl)) (fun _ _ _ h => h) (Or.inl ⟨by rfl, ?_⟩) ?_ ?_
              rotate_left
              · intro w'
                go_simp
                with_reducible rfl
              rotate_left
              · simp only [Act.put, List.setIfInBounds_toArray, List.set_cons_zero, List.set_cons_succ, i64_w, i32_w]
                rfl
              refine pure_ (i := 3) (N := some 67) (v := ?_) (a' := ?_) #[true, true, true, true, false, false, false, false, false, false, false, false, false, false, false, false, false, false, false, false] rfl rfl (any_of HT_.out (by kernel_rfl)) (fun _ _ _ h => h) (Or.inl ⟨by rfl, ?_⟩) ?_ ?_
              rotate_left
              · intro w'
                go_simp
                with_reducible rfl
              rotate_left
              · simp only [Act.put, List.setIfInBounds_toArray, List.set_cons_zero, List.set_cons_succ, i64_w, i32_w]
                rfl
              refine pure_ (i := 4) (N := some 68) (v := ?_) (a' := ?_) #[true, true, true, true, true, false, false, false, false, false, false, false, false, false, false, false, false, false, false, false] rfl rfl (any_of HT_.out (by kernel_rfl)) (fun _ _ _ h => h) (Or.inl ⟨by rfl, ?_⟩) ?_ ?_
              rotate_left
              · intro w'
                go_simp
                with_reducible rfl
              rotate_left
              · simp only [Act.put, List.setIfInBounds_toArray, List.set_cons_zero, List.set_cons_succ, i64_w, i32_w]
                rfl
              refine pure_ (i := 5) (N := some 69) (v := ?_) (a' := ?_) #[true, true, true, true, true, true, false, false, false, false, false, false, false, false, false, false, false, false, false, false] rfl rfl (any_of HT_.out (by kernel_rfl)) (fun _ _ _ h => h) (Or.inl ⟨by rfl, ?_⟩) ?_ ?_
              rotate_left
              · intro w'
                go_simp
                with_reducible rfl
              rotate_left
              · simp only [Act.put, List.setIfInBounds_toArray, List.set_cons_zero, List.set_cons_succ, i64_w, i32_w]
                rfl
              refine pure_ (i := 6) (N := some 70) (v := ?_) (a' := ?_) #[true, true, true, true, true, true, true, false, false, false, false, false, false, false, false, false, false, false, false, false] rfl rfl (any_of HT_.out (by kernel_rfl)) (fun _ _ _ h => h) (Or.inl ⟨by rfl, ?_⟩) ?_ ?_
              rotate_left
              · intro w'
                go_simp
                with_reducible rfl
              rotate_left
              · simp only [Act.put, List.setIfInBounds_toArray, List.set_cons_zero, List.set_cons_succ, i64_w, i32_w]
                rfl
              refine pure_ (i := 7) (N := some 71) (v := ?_) (a' := ?_) #[true, true, true, true, true, true, true, true, false, false, false, false, false, false, false, false, false, false, false, false] rfl rfl (any_of HT_.out (by kernel_rfl)) (fun _ _ _ h => h) (Or.inl ⟨by rfl, ?_⟩) ?_ ?_
              rotate_left
              · intro w'
                go_simp
                with_reducible rfl
              rotate_left
              · simp only [Act.put, List.setIfInBounds_toArray, List.set_cons_zero, List.set_cons_succ, i64_w, i32_w]
                rfl
              refine pure_ (i := 8) (N := some 72) (v := ?_) (a' := ?_) #[true, true, true, true, true, true, true, true, true, false, false, false, false, false, false, false, false, false, false, false] rfl rfl (any_of HT_.out (by kernel_rfl)) (fun _ _ _ h => h) (Or.inl ⟨by rfl, ?_⟩) ?_ ?_
              rotate_left
              · intro w'
                go_simp
                with_reducible rfl
              rotate_left
              · simp only [Act.put, List.setIfInBounds_toArray, List.set_cons_zero, List.set_cons_succ, i64_w, i32_w]
                rfl
              refine pure_ (i := 9) (N := some 73) (v := ?_) (a' := ?_) #[true, true, true, true, true, true, true, true, true, true, false, false, false, false, false, false, false, false, false, false] rfl rfl (any_of HT_.out (by kernel_rfl)) (fun _ _ _ h => h) (Or.inl ⟨by rfl, ?_⟩) ?_ ?_
              rotate_left
              · intro w'
                go_simp
                with_reducible rfl
              rotate_left
              · simp only [Act.put, List.setIfInBounds_toArray, List.set_cons_zero, List.set_cons_succ, i64_w, i32_w]
                rfl
              refine pure_ (i := 10) (N := some 74) (v := ?_) (a' := ?_) #[true, true, true, true, true, true, true, true, true, true, true, false, false, false, false, false, false, false, false, false] rfl rfl (any_of HT_.out (by kernel_rfl)) (fun _ _ _ h => h) (Or.inl ⟨by rfl, ?_⟩) ?_ ?_
              rotate_left
              · intro w'
                go_simp
                with_reducible rfl
              rotate_left
              · simp only [Act.put, List.setIfInBounds_toArray, List.set_cons_zero, List.set_cons_succ, i64_w, i32_w]
                rfl
              refine pure_ (i := 12) (N := some 76) (v := ?_) (a' := ?_) #[true, true, true, true, true, true, true, true, true, true, true, false, true, false, false, false, false, false, false, false] rfl rfl (any_of HT_.out (by kernel_rfl)) (fun _ _ _ h => h) (Or.inl ⟨by rfl, ?_⟩) ?_ ?_
              rotate_left
              · intro w'
                go_simp
                with_reducible rfl
              rotate_left
              · simp only [Act.put, List.setIfInBounds_toArray, List.set_cons_zero, List.set_cons_succ, i64_w, i32_w]
                rfl
              refine pure_ (i := 13) (N := some 77) (v := ?_) (a' := ?_) #[true, true, true, true, true, true, true, true, true, true, true, false, true, true, false, false, false, false, false, false] rfl rfl (any_of HT_.out (by kernel_rfl)) (fun _ _ _ h => h) (Or.inl ⟨by rfl, ?_⟩) ?_ ?_
              rotate_left
              · intro w'
                go_simp
                with_reducible rfl
              rotate_left
              · simp only [Act.put, List.setIfInBounds_toArray, List.set_cons_zero, List.set_cons_succ, i64_w, i32_w]
                rfl
              refine pure_ (i := 14) (N := some 78) (v := ?_) (a' := ?_) #[true, true, true, true, true, true, true, true, true, true, true, false, true, true, true, false, false, false, false, false] rfl rfl (any_of HT_.out (by kernel_rfl)) (fun _ _ _ h => h) (Or.inl ⟨by rfl, ?_⟩) ?_ ?_
              rotate_left
              · intro w'
                go_simp
                with_reducible rfl
              rotate_left
              · simp only [Act.put, List.setIfInBounds_toArray, List.set_cons_zero, List.set_cons_succ, i64_w, i32_w]
                rfl
              refine take_ (i := 11) (N := some 75) (v := ?_) (a' := ?_) #[true, true, true, true, true, true, true, true, true, true, true, true, true, true, true, false, false, false, false, false] rfl rfl (take_ofW HT_.out HW_.out (by kernel_rfl)) (fun _ _ _ h => h) (Or.inl ⟨by rfl, ?_⟩) hHeld ?_ ?_
              rotate_left
              · rintro w' ⟨s0, s1⟩
                go_simp
                with_reducible rfl
              rotate_left
              · simp only [Act.put, List.setIfInBounds_toArray, List.set_cons_zero, List.set_cons_succ, i64_w, i32_w]
                rfl
              refine take_ (i := 15) (N := some 79) (v := ?_) (a' := ?_) #[true, true, true, true, true, true, true, true, true, true, true, true, true, true, true, true, false, false, false, false] rfl rfl (take_ofW HT_.out HW_.out (by kernel_rfl)) (fun _ _ _ h => h) (Or.inl ⟨by rfl, ?_⟩) hHeld ?_ ?_
              rotate_left
              · rintro w' ⟨s0, s1⟩
                go_simp
                with_reducible rfl
              rotate_left
              · simp only [Act.put, List.setIfInBounds_toArray, List.set_cons_zero, List.set_cons_succ, i64_w, i32_w]
                rfl
              refine pure_ (i := 16) (N := some 80) (v := ?_) (a' := ?_) #[true, true, true, true, true, true, true, true, true, true, true, true, true, true, true, true, true, false, false, false] rfl rfl (any_of HT_.out (by kernel_rfl)) (fun _ _ _ h => h) (Or.inl ⟨by rfl, ?_⟩) ?_ ?_
              rotate_left
              · intro w'
                go_simp
                with_reducible rfl
              rotate_left
              · simp only [Act.put, List.setIfInBounds_toArray, List.set_cons_zero, List.set_cons_succ, i64_w, i32_w]
                rfl
              refine last_ (i := 17) (N := none) #[true, true, true, true, true, true, true, true, true, true, true, true, true, true, true, true, true, true, false, false] rfl rfl (one_of HT_.out (by kernel_rfl)) (by decide) (fun K hK => ?_)
              refine skip_ (w1 := ?_) (by rfl) rfl ?_ ?_
              rotate_left
              · go_simp
                rfl
              refine hK.out _ _ ?_
              clear hK K
              refine pure_ (i := 18) (N := some 81) (v := ?_) (a' := ?_) #[true, true, true, true, true, true, true, true, true, true, true, true, true, true, true, true, true, true, true, false] rfl rfl (any_of HT_.out (by kernel_rfl)) (fun _ _ _ h => h) (Or.inl ⟨by rfl, ?_⟩) ?_ ?_
              rotate_left
              · intro w'
                go_simp
                with_reducible rfl
              rotate_left
              · simp only [Act.put, List.setIfInBounds_toArray, List.set_cons_zero, List.set_cons_succ, i64_w, i32_w]
                rfl
              refine last_ (i := 19) (N := none) #[true, true, true, true, true, true, true, true, true, true, true, true, true, true, true, true, true, true, true, true] rfl rfl (one_of HT_.out (by kernel_rfl)) (by decide) (fun K hK => ?_)
              refine skip_ (w1 := ?_) (by rfl) rfl ?_ ?_
              rotate_left
              · go_simp
                rfl
              refine hK.out _ _ ?_
              clear hK K
              refine done_ (done_of HT_.out (by kernel_rfl)) ?_
              have hP := HM2.out.swap Kb.out Klb.out Kc.out Klc.out
              rw [HO3.out, Kbm.out] at hP
              have HM3 := Aside0.mk hP
              have BX3 := Aside0.mk ((Below.heap_setCell (W2.setCell ⟨g, rank, none⟩ (.slice (some ⟨c.1, 0, none⟩) m c.2)) ⟨g, rq, none⟩ (.slice (some ⟨b.1, 0, none⟩) m b.2) bx (Ne.symm NBB.out.1)).trans ((Below.heap_setCell W2 ⟨g, rank, none⟩ (.slice (some ⟨c.1, 0, none⟩) m c.2) bx (Ne.symm NBB.out.1)).trans BX2.out))
              have HB3 := Aside0.mk (below_set (g := g) (j := rq) (v := .slice (some ⟨b.1, 0, none⟩) m b.2) (below_set (g := g) (j := rank) (v := .slice (some ⟨c.1, 0, none⟩) m c.2) HB2.out HM2.out.gb) HM2.out.gb)
              clear hP HM2 BX2 HB2 hxb hxc hfb hyc hyf hHeld hw prq qrq hne
              generalize (W2.setCell ⟨g, rank, none⟩ (.slice (some ⟨c.1, 0, none⟩) m c.2)).setCell ⟨g, rq, none⟩ (.slice (some ⟨b.1, 0, none⟩) m b.2) = W3 at HM3 BX3 HB3 ⊢
              obtain ⟨L1, hL1⟩ : ∃ L1, L1 = MatS.exch L rank rq lb own := ⟨_, rfl⟩
              rw [← hL1] at HM3 HL FMM FG3 HO2
              obtain ⟨B1, hB1⟩ : ∃ B1, B1 = MatS.exch B rank rq b c := ⟨_, rfl⟩
              rw [← hB1] at HM3 NBB HO1
              clear hL1 hB1
              have hxo := (HM3.out.cell HO1.out HO2.out).1
              rw [HO3.out] at hxo
              have hbx := (blk_cell BX3.out 0).trans rfl
              have hxv := (HM3.out.num HO1.out HO2.out (j : Int) (by omega) (by rw [HO3.out]; omega)).1
              rw [show rd own (j : Int) = own.getD j 0 from by unfold rd; rw [Int.toNat_natCast], HO4.out, Int.toNat_natCast] at hxv
              obtain ⟨o, ho⟩ : ∃ o, o = c := ⟨_, rfl⟩
              rw [← ho] at HO1 hxo hxv
              clear ho Kb Kc Klb Klc Kbm
              go_wp2_with (go_at_call 56; (with_reducible refine (impl_inverseMod.calls k v a1 inv _ FI.out).mono ?_); rintro e w' ⟨rfl, ⟨nd2, rfl⟩⟩; have HM2 := Aside0.mk (HM3.out.below (pw_below_drewN (Below.refl _ _) nd2)); have HB2 := Aside0.mk (pw_below_drewN HB3.out nd2); have BX2 := Aside0.mk (blk_below BX3.out (pw_below_drewN (Below.refl _ _) nd2)); clear HM3 HB3 BX3 hxo hbx hxv)
              all_goals
                generalize W3.drewN nd2 = W5 at HM2 HB2 BX2 ⊢
                clear hpj hqj p2 q2 hd1 hqz hqp hqn hqd hqe
                generalize Int.tmod (wrap64 (d1 * v)) a1 = d2 at FG3 ⊢
              case' inl =>
                have hin : L0.length = rank + 1 := by have := HLE.out; omega
                have hlen : rank + 1 = L1.length := by rw [HL.out.1, hin]
                have h3 := FG3.out
                rw [if_pos hlen] at h3
                obtain ⟨e1, e2⟩ := Prod.mk.inj (Option.some.inj h3)
                subst e1 e2
                have hns : L0.length - (rank + 1) = 0 := by omega
                rw [hns]
                have hl2 : ((L0.length : Nat) : Int) = ((rank + 1 : Nat) : Int) := by rw [hin]
                clear h3 FG3 hlen hns
                go_loopg [110] 1 (fun kq v110 w' => v110 = .int .i64 0 ∧ Aside0 (Below w.heap.size w w'))
                case' atStart => exact ⟨rfl, HB2⟩
                case' round =>
                  clear HB2
                  obtain ⟨rfl, HB⟩ := hrel
                  go_wp2
                  go_ret2
                  exact ⟨by first | rfl | (simp; done), HB.out⟩
            all_goals
              obtain ⟨hMl, hMg⟩ := impl_reduce.rowsF_get a1 j inv own _ M FMM.out
              rw [List.length_drop, HL.out.1] at hMl
              have HMl := Aside0.mk hMl
              have HMg := Aside0.mk hMg
              have HMr : Aside0 (∀ x ∈ M, x.length = m) := ⟨by
                intro x hx
                obtain ⟨t, ht, rfl⟩ := List.getElem_of_mem hx
                have hd : t < (L1.drop (rank + 1)).length := by rw [List.length_drop, HL.out.1]; omega
                obtain ⟨T, hT, e⟩ := Option.bind_eq_some_iff.mp (HMg.out t hd ht)
                have hr := HL.out.2 _ (List.mem_of_mem_drop (List.getElem_mem hd))
                have hTl := (impl_reduce.red_get a1 _ _ _ T hT).1
                rw [List.length_drop] at hTl
                rw [← Option.some.inj e, List.length_append, List.length_take, hTl]
                omega⟩
              clear hMl hMg
              go_loopg [110] (L0.length + 1) (fun kq v110 w' => ∃ (i : Nat), v110 = .int .i64 i ∧ i ≤ L0.length - (rank + 1) ∧ L0.length - (rank + 1) - i < kq ∧ Aside0 (MatS.Mat 35 3 w' w.heap.size g B1 (impl_reduce.mid L1 M (rank + 1) i)) ∧ Aside0 (w'.heap[bx]? = some (.cells #[.int .i64 (j : Int)] 3 (0, 0))) ∧ Aside0 (Below w.heap.size w w'))
              case' atStart => exact ⟨0, by go_num, Nat.zero_le _, by omega, ⟨by rw [impl_reduce.mid_start]; exact HM2.out⟩, BX2, HB2⟩
              case' round =>
                clear HM2 BX2 HB2
                obtain ⟨i, rfl, hi, hgi, HM, BX, HB⟩ := hrel
                obtain ⟨k2, rfl⟩ : ∃ m, gk = m + 1 := ⟨gk - 1, by omega⟩
                by_cases hil : i < L0.length - (rank + 1)
                case' pos =>
                  have hiz : (i : Int) < ((L0.length - (rank + 1) : Nat) : Int) := by omega
                  have hMi : i < M.length := by have := HMl.out; omega
                  have hr1 : rank + 1 + i < L1.length := by have := HL.out.1; omega
                  have hLM := impl_reduce.mid_len L1 M (rank + 1) i (by omega) (by have := HMl.out; have := HL.out.1; omega) (by omega)
                  obtain ⟨b, hb, hb_⟩ := HM.out.at_ (i := rank + 1 + i) (by rw [hLM]; exact hr1)
                  clear hb_
                  have hrow := impl_reduce.mid_at L1 M (rank + 1) i (by omega) (by have := HMl.out; have := HL.out.1; omega) hMi
                  rw [List.getElem?_eq_getElem hr1] at hrow
                  have hd : i < (L1.drop (rank + 1)).length := by rw [List.length_drop]; omega
                  obtain ⟨T, hT, hTe⟩ := Option.bind_eq_some_iff.mp (HMg.out i hd hMi)
                  rw [List.getElem_drop] at hT hTe
                  have hrm := HL.out.2 _ (List.getElem_mem hr1)
                  obtain ⟨row, hre⟩ : ∃ row, L1[rank + 1 + i] = row := ⟨_, rfl⟩
                  rw [hre] at hT hTe hrow hrm
                  obtain ⟨u, hu⟩ : ∃ u, row.getD j 0 = u := ⟨_, rfl⟩
                  rw [hu] at hT
                  generalize hbq : Int.tmod (wrap64 (u * inv)) a1 = bq at hT
                  obtain ⟨hTl, _, hTg⟩ := impl_reduce.red_get a1 bq _ _ T hT
                  rw [List.length_drop, hrm] at hTl
                  have hset := impl_reduce.mid_set L1 M (rank + 1) i (by omega) (by have := HMl.out; have := HL.out.1; omega) hMi
                  rw [← Option.some.inj hTe] at hset
                  have HSET := Aside0.mk hset
                  have HROW := Aside0.mk hrow
                  have HRM := Aside0.mk hrm
                  have HBB := Aside0.mk hb
                  have HTG := Aside0.mk hTg
                  have HTL := Aside0.mk hTl
                  have HOL : Aside0 ((impl_reduce.mid L1 M (rank + 1) i)[rank]? = some own) := ⟨by rw [impl_reduce.mid_low L1 M _ i rank (by omega) (by omega)]; exact HO2.out⟩
                  have HLL := Aside0.mk hLM
                  have hxr := (HM.out.cell hb hrow).1
                  rw [hrm] at hxr
                  have hbx := (blk_cell BX.out 0).trans rfl
                  have hxu := (HM.out.num hb hrow (j : Int) (by omega) (by rw [hrm]; omega)).1
                  rw [show rd row (j : Int) = row.getD j 0 from by unfold rd; rw [Int.toNat_natCast], hu, Int.toNat_natCast] at hxu
                  have pi := eq_true (show 0 ≤ (i : Int) by omega)
                  have pj := eq_true (show 0 ≤ (j : Int) by omega)
                  have qj := eq_true hjz
                  clear hset hrow hrm hb hTg hTl hLM hT hTe hre hu hd hMi
                  go_wp2
                  have HNE := Aside0.mk (show b.1 ≠ bx from NBB.out.2 _ b HBB.out)
                  have HRK := Aside0.mk (show rank ≠ rank + 1 + i by omega)
                  have HSS := Aside0.mk (show ((impl_reduce.mid L1 M (rank + 1) i).set (rank + 1 + i) row) = impl_reduce.mid L1 M (rank + 1) i from by
                    obtain ⟨h1_, h2_⟩ := List.getElem?_eq_some_iff.1 HROW.out
                    rw [← h2_, List.set_getElem_self])
                  have hri : row.length = m := HRM.out
                  generalize impl_reduce.mid L1 M (rank + 1) i = LL at HM HOL HLL HROW HSET HSS
                  first | rw [hbq] | skip
                  clear hxr hxu
                  go_loopg [21] (m + 1) (fun kq v21 w' => ∃ (kk : Nat), v21 = .int .i64 kk ∧ j ≤ kk ∧ kk ≤ m ∧ m - kk < kq ∧ Aside0 (MatS.Mat 35 3 w' w.heap.size g B1 (LL.set (rank + 1 + i) (impl_reduce.cur row T j kk))) ∧ Aside0 (w'.heap[bx]? = some (.cells #[.int .i64 (j : Int)] 3 (0, 0))) ∧ Aside0 (Below w.heap.size w w'))
                  case' atStart => exact ⟨j, rfl, Nat.le_refl _, hj, by omega, ⟨by rw [impl_reduce.cur_start, HSS.out]; exact HM.out⟩, BX, HB⟩
                  case' round =>
                    clear HM BX HB hbx
                    obtain ⟨kk, rfl, hj', hkm0, hgk, HM, BX, HB⟩ := hrel
                    obtain ⟨k3, rfl⟩ : ∃ m, gk = m + 1 := ⟨gk - 1, by omega⟩
                    by_cases hkl : kk < m
                    case' pos =>
                      have hkm : kk < row.length := by omega
                      have hbr := HBB.out
                      have TLn := Aside0.mk (show T.length = row.length - j by rw [hri]; exact HTL.out)
                      have hrowc : (LL.set (rank + 1 + i) (impl_reduce.cur row T j kk))[rank + 1 + i]? = some (impl_reduce.cur row T j kk) := by rw [List.getElem?_set, if_pos rfl, if_pos (by rw [HLL.out]; exact hr1)]
                      have howc : (LL.set (rank + 1 + i) (impl_reduce.cur row T j kk))[rank]? = some own := by rw [List.getElem?_set, if_neg (Ne.symm HRK.out)]; exact HOL.out
                      have hkt : kk - j < T.length := by have := HTL.out; omega
                      have hft := HTG.out (kk - j) (by rw [List.length_drop]; omega) hkt
                      have hgd : ∀ l : List Int, (l.drop j).getD (kk - j) 0 = l.getD kk 0 := fun l => by rw [List.getD_eq_getElem?_getD, List.getElem?_drop, List.getD_eq_getElem?_getD, show j + (kk - j) = kk by omega]
                      rw [hgd, hgd] at hft
                      have hcs := impl_reduce.cur_set row T j kk hj' hkm TLn.out hkt
                      generalize T[kk - j] = tk at hft hcs
                      obtain ⟨xk, hxk⟩ : ∃ x, row.getD kk 0 = x := ⟨_, rfl⟩
                      obtain ⟨yk, hyk⟩ : ∃ y, own.getD kk 0 = y := ⟨_, rfl⟩
                      rw [hxk, hyk] at hft
                      have FT := Aside0.mk hft
                      have HCS := Aside0.mk hcs
                      have nM := Aside0.mk (HM.out.below (below_drew (Below.refl _ _)))
                      have nX := Aside0.mk (blk_below BX.out (below_drew (Below.refl _ _)))
                      have nB := Aside0.mk (below_drew1 HB.out)
                      clear HM BX HB hft hcs hgd
                      have HM := nM
                      have BX := nX
                      have HB := nB
                      clear nM nX nB
                      have hxr := (HM.out.num hbr hrowc (kk : Int) (by omega) (by rw [impl_reduce.cur_len row T j kk hj' (by omega) TLn.out]; omega)).1
                      rw [show rd (impl_reduce.cur row T j kk) (kk : Int) = (impl_reduce.cur row T j kk).getD kk 0 from by unfold rd; rw [Int.toNat_natCast], impl_reduce.cur_at row T j kk hj' hkm TLn.out, hxk, Int.toNat_natCast] at hxr
                      have hxo := (HM.out.num HO1.out howc (kk : Int) (by omega) (by rw [HO3.out]; omega)).1
                      rw [show rd own (kk : Int) = own.getD kk 0 from by unfold rd; rw [Int.toNat_natCast], hyk, Int.toNat_natCast] at hxo
                      have HRC := Aside0.mk hrowc
                      have HKM := Aside0.mk hkm
                      have HKT := Aside0.mk hkt
                      have HBR := Aside0.mk hbr
                      have pk := eq_true (show 0 ≤ (kk : Int) by omega)
                      have qk := eq_true (show (kk : Int) < (m : Int) by omega)
                      clear hrowc howc hkm hbr hkt hxk hyk
                      go_wp2
                      refine start_ (n := 19) (S := fun w' => w'.cell? ⟨b.1, kk, none⟩ = some (.int .i64 xk) ∧ w'.cell? ⟨o.1, kk, none⟩ = some (.int .i64 yk)) (ds := [18]) #[false, false, false, false, false, false, false, false, false, false, false, false, false, false, false, false, false, false, false] (by kernel_rfl) rfl rfl ⟨hxr, hxo⟩ (fun hHeld => ?_); refine with_tabW impl_reduce.tab32 impl_reduce.bits32 (fun HT_ HW_ => ?_)
                      generalize wr.drew = W4 at HM HB BX hxr hxo hHeld ⊢
                      refine pure_ (i := 0) (N := some 129) (v := ?_) (a' := ?_) #[true, false, false, false, false, false, false, false, false, false, false, false, false, false, false, false, false, false, false] rfl rfl (any_of HT_.out (by kernel_rfl)) (fun _ _ _ h => h) (Or.inl ⟨by rfl, ?_⟩) ?_ ?_
                      rotate_left
                      · intro w'
                        go_simp
                        with_reducible rfl
                      rotate_left
                      · simp only [Act.put, List.setIfInBounds_toArray, List.set_cons_zero, List.set_cons_succ, i64_w, i32_w]
                        rfl
                      refine pure_ (i := 1) (N := some 130) (v := ?_) (a' := ?_) #[true, true, false, false, false, false, false, false, false, false, false, false, false, false, false, false, false, false, false] rfl rfl (any_of HT_.out (by kernel_rfl)) (fun _ _ _ h => h) (Or.inl ⟨by rfl, ?_⟩) ?_ ?_
                      rotate_left
                      · intro w'
                        go_simp
                        with_reducible rfl
                      rotate_left
                      · simp only [Act.put, List.setIfInBounds_toArray, List.set_cons_zero, List.set_cons_succ, i64_w, i32_w]
                        rfl
                      refine pure_ (i := 2) (N := some 131) (v := ?_) (a' := ?_) #[true, true, true, false, false, false, false, false, false, false, false, false, false, false, false, false, false, false, false] rfl rfl (any_of HT_.out (by kernel_rfl)) (fun _ _ _ h => h) (Or.inl ⟨by rfl, ?_⟩) ?_ ?_
                      rotate_left
                      · intro w'
                        go_simp
                        with_reducible rfl
                      rotate_left
                      · simp only [Act.put, List.setIfInBounds_toArray, List.set_cons_zero, List.set_cons_succ, i64_w, i32_w]
                        rfl
                      refine pure_ (i := 3) (N := some 132) (v := ?_) (a' := ?_) #[true, true, true, true, false, false, false, false, false, false, false, false, false, false, false, false, false, false, false] rfl rfl (any_of HT_.out (by kernel_rfl)) (fun _ _ _ h => h) (Or.inl ⟨by rfl, ?_⟩) ?_ ?_
                      rotate_left
                      · intro w'
                        go_simp
                        with_reducible rfl
                      rotate_left
                      · simp only [Act.put, List.setIfInBounds_toArray, List.set_cons_zero, List.set_cons_succ, i64_w, i32_w]
                        rfl
                      refine pure_ (i := 4) (N := some 133) (v := ?_) (a' := ?_) #[true, true, true, true, true, false, false, false, false, false, false, false, false, false, false, false, false, false, false] rfl rfl (any_of HT_.out (by kernel_rfl)) (fun _ _ _ h => h) (Or.inl ⟨by rfl, ?_⟩) ?_ ?_
                      rotate_left
                      · intro w'
                        go_simp
                        with_reducible rfl
                      rotate_left
                      · simp only [Act.put, List.setIfInBounds_toArray, List.set_cons_zero, List.set_cons_succ, i64_w, i32_w]
                        rfl
                      refine pure_ (i := 6) (N := some 135) (v := ?_) (a' := ?_) #[true, true, true, true, true, false, true, false, false, false, false, false, false, false, false, false, false, false, false] rfl rfl (any_of HT_.out (by kernel_rfl)) (fun _ _ _ h => h) (Or.inl ⟨by rfl, ?_⟩) ?_ ?_
                      rotate_left
                      · intro w'
                        go_simp
                        with_reducible rfl
                      rotate_left
                      · simp only [Act.put, List.setIfInBounds_toArray, List.set_cons_zero, List.set_cons_succ, i64_w, i32_w]
                        rfl
                      refine pure_ (i := 7) (N := some 136) (v := ?_) (a' := ?_) #[true, true, true, true, true, false, true, true, false, false, false, false, false, false, false, false, false, false, false] rfl rfl (any_of HT_.out (by kernel_rfl)) (fun _ _ _ h => h) (Or.inl ⟨by rfl, ?_⟩) ?_ ?_
                      rotate_left
                      · intro w'
                        go_simp
                        with_reducible rfl
                      rotate_left
                      · simp only [Act.put, List.setIfInBounds_toArray, List.set_cons_zero, List.set_cons_succ, i64_w, i32_w]
                        rfl
                      refine pure_ (i := 8) (N := some 137) (v := ?_) (a' := ?_) #[true, true, true, true, true, false, true, true, true, false, false, false, false, false, false, false, false, false, false] rfl rfl (any_of HT_.out (by kernel_rfl)) (fun _ _ _ h => h) (Or.inl ⟨by rfl, ?_⟩) ?_ ?_
                      rotate_left
                      · intro w'
                        go_simp
                        with_reducible rfl
                      rotate_left
                      · simp only [Act.put, List.setIfInBounds_toArray, List.set_cons_zero, List.set_cons_succ, i64_w, i32_w]
                        rfl
                      refine pure_ (i := 9) (N := some 138) (v := ?_) (a' := ?_) #[true, true, true, true, true, false, true, true, true, true, false, false, false, false, false, false, false, false, false] rfl rfl (any_of HT_.out (by kernel_rfl)) (fun _ _ _ h => h) (Or.inl ⟨by rfl, ?_⟩) ?_ ?_
                      rotate_left
                      · intro w'
                        go_simp
                        with_reducible rfl
                      rotate_left
                      · simp only [Act.put, List.setIfInBounds_toArray, List.set_cons_zero, List.set_cons_succ, i64_w, i32_w]
                        rfl
                      refine pure_ (i := 12) (N := some 141) (v := ?_) (a' := ?_) #[true, true, true, true, true, false, true, true, true, true, false, false, true, false, false, false, false, false, false] rfl rfl (any_of HT_.out (by kernel_rfl)) (fun _ _ _ h => h) (Or.inl ⟨by rfl, ?_⟩) ?_ ?_
                      rotate_left
                      · intro w'
                        go_simp
                        with_reducible rfl
                      rotate_left
                      · simp only [Act.put, List.setIfInBounds_toArray, List.set_cons_zero, List.set_cons_succ, i64_w, i32_w]
                        rfl
                      refine pure_ (i := 15) (N := some 144) (v := ?_) (a' := ?_) #[true, true, true, true, true, false, true, true, true, true, false, false, true, false, false, true, false, false, false] rfl rfl (any_of HT_.out (by kernel_rfl)) (fun _ _ _ h => h) (Or.inl ⟨by rfl, ?_⟩) ?_ ?_
                      rotate_left
                      · intro w'
                        go_simp
                        with_reducible rfl
                      rotate_left
                      · simp only [Act.put, List.setIfInBounds_toArray, List.set_cons_zero, List.set_cons_succ, i64_w, i32_w]
                        rfl
                      refine take_ (i := 5) (N := some 134) (v := ?_) (a' := ?_) #[true, true, true, true, true, true, true, true, true, true, false, false, true, false, false, true, false, false, false] rfl rfl (take_ofW HT_.out HW_.out (by kernel_rfl)) (fun _ _ _ h => h) (Or.inl ⟨by rfl, ?_⟩) hHeld ?_ ?_
                      rotate_left
                      · rintro w' ⟨s0, s1⟩
                        go_simp
                        with_reducible rfl
                      rotate_left
                      · simp only [Act.put, List.setIfInBounds_toArray, List.set_cons_zero, List.set_cons_succ, i64_w, i32_w]
                        rfl
                      refine take_ (i := 10) (N := some 139) (v := ?_) (a' := ?_) #[true, true, true, true, true, true, true, true, true, true, true, false, true, false, false, true, false, false, false] rfl rfl (take_ofW HT_.out HW_.out (by kernel_rfl)) (fun _ _ _ h => h) (Or.inl ⟨by rfl, ?_⟩) hHeld ?_ ?_
                      rotate_left
                      · rintro w' ⟨s0, s1⟩
                        go_simp
                        with_reducible rfl
                      rotate_left
                      · simp only [Act.put, List.setIfInBounds_toArray, List.set_cons_zero, List.set_cons_succ, i64_w, i32_w]
                        rfl
                      refine pure_ (i := 11) (N := some 140) (v := ?_) (a' := ?_) #[true, true, true, true, true, true, true, true, true, true, true, true, true, false, false, true, false, false, false] rfl rfl (any_of HT_.out (by kernel_rfl)) (fun _ _ _ h => h) (Or.inl ⟨by rfl, ?_⟩) ?_ ?_
                      rotate_left
                      · intro w'
                        go_simp
                        with_reducible rfl
                      rotate_left
                      · simp only [Act.put, List.setIfInBounds_toArray, List.set_cons_zero, List.set_cons_succ, i64_w, i32_w]
                        rfl
                      refine pure_ (i := 13) (N := some 142) (v := ?_) (a' := ?_) #[true, true, true, true, true, true, true, true, true, true, true, true, true, true, false, true, false, false, false] rfl rfl (any_of HT_.out (by kernel_rfl)) (fun _ _ _ h => h) (Or.inl ⟨by rfl, ?_⟩) ?_ ?_
                      rotate_left
                      · intro w'
                        go_simp
                        with_reducible rfl
                      rotate_left
                      · simp only [Act.put, List.setIfInBounds_toArray, List.set_cons_zero, List.set_cons_succ, i64_w, i32_w]
                        rfl
                      refine pure_ (i := 14) (N := some 143) (v := ?_) (a' := ?_) #[true, true, true, true, true, true, true, true, true, true, true, true, true, true, true, true, false, false, false] rfl rfl (any_of HT_.out (by kernel_rfl)) (fun _ _ _ h => h) (Or.inl ⟨by rfl, ?_⟩) ?_ ?_
                      rotate_left
                      · intro w'
                        go_simp
                        with_reducible rfl
                      rotate_left
                      · simp only [Act.put, List.setIfInBounds_toArray, List.set_cons_zero, List.set_cons_succ, i64_w, i32_w]
                        rfl
                      refine one_ (i := 16) (N := some 145) #[true, true, true, true, true, true, true, true, true, true, true, true, true, true, true, true, true, false, false] rfl rfl (one_of HT_.out (by kernel_rfl)) (by decide) (fun K hK => ?_)
                      refine goes_ Try.func55 (by kernel_rfl) rfl #[(.int .i64 (wrap64 (xk - Int.tmod (wrap64 (bq * yk)) a1))), .int .i64 a1] (by rfl) rfl rfl (by (try simp only [List.map_toArray, List.map_cons, List.map_nil]); first | done | rfl) ?_
                      with_reducible refine (impl_rest.calls _ a1 tk _ FT.out).mono ?_
                      rintro e w' ⟨rfl, ⟨nd, rfl⟩⟩
                      refine ⟨_, rfl, ?_⟩
                      refine hK.out _ _ ⟨by rw [(pw_below_drewN (Below.refl _ _) nd).cell (World.block_lt_of_cell? _ _ hHeld.1)]; exact hHeld.1, by rw [(pw_below_drewN (Below.refl _ _) nd).cell (World.block_lt_of_cell? _ _ hHeld.2)]; exact hHeld.2⟩ (fun hHeld => ?_)
                      have hfr_ := (HM.out.below (pw_below_drewN (Below.refl _ _) nd)).num HBR.out HRC.out (kk : Int) (by omega) (by rw [impl_reduce.cur_len row T j kk hj' (Nat.le_of_lt HKM.out) TLn.out]; have := HKM.out; omega)
                      simp only [Int.toNat_natCast] at hfr_
                      have hfc := hfr_.1
                      have hff := hfr_.2
                      clear hfr_
                      clear hK K
                      refine norm_ (a' := ?_) ?_ ?_
                      rotate_left
                      · show Act.put _ (some 145) _ = _
                        simp only [Act.put, List.setIfInBounds_toArray, List.set_cons_zero, List.set_cons_succ, i64_w, i32_w]
                        rfl
                      refine pure_ (i := 17) (N := some 146) (v := ?_) (a' := ?_) #[true, true, true, true, true, true, true, true, true, true, true, true, true, true, true, true, true, true, false] rfl rfl (any_of HT_.out (by kernel_rfl)) (fun _ _ _ h => h) (Or.inl ⟨by rfl, ?_⟩) ?_ ?_
                      rotate_left
                      · intro w'
                        go_simp
                        with_reducible rfl
                      rotate_left
                      · simp only [Act.put, List.setIfInBounds_toArray, List.set_cons_zero, List.set_cons_succ, i64_w, i32_w]
                        rfl
                      refine last_ (i := 18) (N := none) #[true, true, true, true, true, true, true, true, true, true, true, true, true, true, true, true, true, true, true] rfl rfl (one_of HT_.out (by kernel_rfl)) (by decide) (fun K hK => ?_)
                      refine skip_ (w1 := ?_) (by rfl) rfl ?_ ?_
                      rotate_left
                      · go_simp
                        rfl
                      refine hK.out _ _ ?_
                      clear hK K
                      refine done_ (done_of HT_.out (by kernel_rfl)) ?_
                      have hP := (HM.out.below (pw_below_drewN (Below.refl _ _) nd)).put HBR.out HRC.out (kk : Int) tk
                      rw [Int.toNat_natCast, List.set_set, HCS.out] at hP
                      have nM := Aside0.mk hP
                      have nX := Aside0.mk ((Below.heap_setCell (W4.drewN nd) ⟨b.1, kk, none⟩ (.int .i64 tk) bx (Ne.symm HNE.out)).trans (blk_below BX.out (pw_below_drewN (Below.refl _ _) nd)))
                      have nB := Aside0.mk (below_set (g := b.1) (j := kk) (v := .int .i64 tk) (pw_below_drewN HB.out nd) (HM.out.lo HBR.out HRC.out))
                      clear hP HM BX HB hfc hff hHeld hxr hxo
                      go_wp2
                      go_roundg k3
                      case' measure => exact Nat.lt_succ_self _
                      case' rel => exact ⟨kk + 1, by go_num, by omega, by omega, by omega, nM, nX, nB⟩
                    case' neg =>
                      have hke : kk = row.length := by omega
                      subst hke
                      rw [impl_reduce.cur_end row T j (by rw [hri]; exact HTL.out), HSET.out] at HM
                      go_wp2
                      go_roundg k2
                      case' measure => exact Nat.lt_succ_self _
                      case' rel => exact ⟨i + 1, by go_num, by omega, by omega, HM, BX, HB⟩
                case' neg =>
                  have hie : i = M.length := by have := HMl.out; omega
                  have hml : M.length = L0.length - (rank + 1) := HMl.out
                  rw [hie, impl_reduce.mid_end L1 M (rank + 1) (by have := HL.out.1; omega) (by have := HL.out.1; omega)] at HM
                  have hLn : (L1.take (rank + 1) ++ M).length = L0.length := by rw [List.length_append, List.length_take, hml]; have := HL.out.1; omega
                  have HLN : Aside0 ((L1.take (rank + 1) ++ M).length = L0.length ∧ ∀ x ∈ L1.take (rank + 1) ++ M, x.length = m) := ⟨hLn, fun x hx => by
                    rcases List.mem_append.1 hx with hx | hx
                    · exact HL.out.2 x (List.mem_of_mem_take hx)
                    · exact HMr.out x hx⟩
                  have hie2 : (i : Int) = ((L0.length - (rank + 1) : Nat) : Int) := by omega
                  have h3 := FG3.out
                  clear hLn hml hie
                  by_cases hend : L0.length = rank + 1
                  case' pos =>
                    rw [if_pos (by rw [HL.out.1, hend])] at h3
                    obtain ⟨e1, e2⟩ := Prod.mk.inj (Option.some.inj h3)
                    subst e1 e2
                    have hl2 : ((L0.length : Nat) : Int) = ((rank + 1 : Nat) : Int) := by rw [hend]
                    clear h3 FG3
                    go_wp2
                    go_ret2
                    exact ⟨by first | rfl | (simp; done), HB.out⟩
                  case' neg =>
                    rw [if_neg (fun e => hend (by rw [← HL.out.1]; exact e.symm))] at h3
                    have FG4 := Aside0.mk h3
                    have hl3 : (((rank + 1 : Nat) : Int) = ((L0.length : Nat) : Int)) = False := eq_false (by omega)
                    clear h3 FG3
                    go_wp2
                    go_roundg k1
                    case' measure => exact Nat.lt_succ_self _
                    case' rel => exact ⟨j + 1, rank + 1, d2, _, B1, by go_num, rfl, by go_num, by omega, by omega, by omega, HLN, FG4, HM, HB⟩
        · obtain rfl : j = m := by omega
          have h3 := FG.out
          rw [Nat.sub_self, impl_reduce.go] at h3
          obtain ⟨e1, e2⟩ := Prod.mk.inj (Option.some.inj h3)
          subst e1 e2
          clear h3 FG
          go_wp2
          go_ret2
          exact ⟨by first | rfl | (simp; done), HB.out⟩

end Go.Proofs.Ytbphdjnainlbhaa.L
