/- The reference's drawn systems: the draw has an answer, a short row. -/
import Derived.Test.YtjgkcknopnollaaGreatPCur
import Derived.Test.YtjgkcknopnollaaGreatQA2
set_option linter.unusedVariables false
set_option linter.unusedSimpArgs false
namespace Go.Proofs.YtjgkcknopnollaaGreat.Pure
open Go.RowKit Go.Proofs.YtjgkcknopnollaaGreat.D Go.Proofs.YtjgkcknopnollaaGreatW.PrintWords Go.Proofs.YtjgkcknopnollaaGreatW.PrintLast Go.Proofs.YtjgkcknopnollaaGreatW.PrintMore

theorem size_app (a : ByteArray) (x : UInt8) : (a ++ (⟨#[x]⟩ : ByteArray)).size = a.size + 1 := by
  rw [ByteArray.size_append]; rfl
theorem parse_l0 (a : ByteArray) (n : Nat) (hn : n ≤ 12) (ha : a.size = n) (d : Nat) : ∀ (k i : Nat) (p st : List Int), i + d = n → d < k → p.length = n → st.length ≤ i → (∀ x ∈ st, 0 ≤ x ∧ x < (n : Int)) →
    ∃ q b, spec_ahParse.l0 k a p st (i : Int) = some (q, b) ∧ q.length ≤ n := by
  induction d with
  | zero =>
    intro k i p st hi hk hp hs hst
    obtain ⟨k, rfl⟩ : ∃ m, k = m + 1 := ⟨k - 1, by omega⟩
    rw [spec_ahParse.l0, if_neg (by omega)]
    repeat' first
      | (exact ⟨_, _, rfl, by simp⟩)
      | (exact ⟨_, _, rfl, by omega⟩)
      | split
  | succ d ih =>
    intro k i p st hi hk hp hs hst
    obtain ⟨k, rfl⟩ : ∃ m, k = m + 1 := ⟨k - 1, by omega⟩
    rw [spec_ahParse.l0, if_pos (by omega), if_pos (by omega), wrap_succ (by omega)]
    by_cases c : bt a (i : Int) = 40
    · rw [if_pos c, if_pos (by omega)]
      exact ih k (i + 1) p _ (by omega) (by omega) hp (by simp; omega) (fun x hx => by
        rcases List.mem_append.1 hx with hx | hx
        · exact hst x hx
        · rw [List.mem_singleton.1 hx]; omega)
    · rw [if_neg c]
      by_cases c2 : bt a (i : Int) = 41
      · rw [if_pos c2]
        by_cases c3 : (st.length : Int) > 0
        · have hw : wrap64 ((st.length : Int) - 1) = ((st.length - 1 : Nat) : Int) := by rw [wrap_id (by omega) (by omega)]; omega
          have hm := hst _ (List.getElem_mem (l := st) (n := st.length - 1) (by omega))
          rw [if_pos c3, hw, rd_get (by omega), if_pos (by omega), if_pos (by omega), if_pos (by omega), if_pos (by omega), if_pos (by omega), if_pos (by omega)]
          exact ih k (i + 1) _ _ (by omega) (by omega) (by simpa using hp) (by simp; omega) (fun x hx => hst x (List.mem_of_mem_take hx))
        · rw [if_neg c3]; exact ⟨_, _, rfl, by simp⟩
      · rw [if_neg c2]; exact ⟨_, _, rfl, by simp⟩
theorem parse_ok (a : ByteArray) (ha : a.size ≤ 12) (k : Nat) (hk : 20 ≤ k) : ∃ q b, spec_ahParse.f k a = some (q, b) ∧ q.length ≤ 12 := by
  unfold spec_ahParse.f
  rw [if_neg (by omega), if_pos (by omega), if_pos (by omega)]
  obtain ⟨q, b, e, h⟩ := parse_l0 a a.size ha rfl a.size k 0 (List.replicate a.size 0) [] (by omega) (by omega) (by simp) (by simp) (fun x hx => by simp at hx)
  exact ⟨q, b, by rw [Int.toNat_natCast]; exact e, by omega⟩
theorem sure_l0 {l : List Int} (h : Bytes l) (n : Int) (h0 : 0 ≤ n) (hn : n ≤ 6) (d : Nat) : ∀ (k i : Nat) (a : ByteArray) (x6 x7 j s : Int), (i : Int) + d = 2 * n → a.size = i → d + 30 ≤ k → 0 ≤ j → j + d ≤ 100000000 →
    Drew (spec_l1Cur_sure.l0 k n a x6 x7 (i : Int) l j s) j d (fun q => q.length ≤ 12) := by
  have hw : wrap64 (2 * n) = 2 * n := wrap_id (by omega) (by omega)
  induction d with
  | zero =>
    intro k i a x6 x7 j s hi ha hk hj hj2
    obtain ⟨k, rfl⟩ : ∃ m, k = m + 1 := ⟨k - 1, by omega⟩
    obtain ⟨q, b, e, hq⟩ := parse_ok a (by omega) k (by omega)
    rw [spec_l1Cur_sure.l0, hw, if_neg (by omega), e]
    exact ⟨_, _, _, rfl, hq, by omega, by omega⟩
  | succ d ih =>
    intro k i a x6 x7 j s hi ha hk hj hj2
    obtain ⟨k, rfl⟩ : ∃ m, k = m + 1 := ⟨k - 1, by omega⟩
    have step : ∀ (b : UInt8) (y6 y7 j' s' : Int), j ≤ j' → j' ≤ j + 1 → Drew (spec_l1Cur_sure.l0 k n (a ++ (⟨#[b]⟩ : ByteArray)) y6 y7 (wrap64 ((i : Int) + 1)) l j' s') j ((d + 1 : Nat) : Int) (fun q => q.length ≤ 12) := by
      intro b y6 y7 j' s' h1 h2
      rw [wrap_succ (by omega)]
      obtain ⟨v, z, t, e, hv, hz⟩ := (ih k (i + 1) (a ++ (⟨#[b]⟩ : ByteArray)) y6 y7 j' s' (by omega) (by rw [size_app, ha]) (by omega) (by omega) (by omega)).ok
      exact ⟨_, _, _, e, hv, by omega, by omega⟩
    rw [spec_l1Cur_sure.l0, hw, if_pos (by omega)]
    have hsz : a.size + 1 ≤ 9223372036854775807 := by omega
    obtain ⟨b, z, t, e, _, hz⟩ := (one_ok h j s 2 hj (by omega) (by omega)).ok
    by_cases c7 : x7 > 0
    · rw [if_pos c7]
      by_cases c6 : x6 = 0
      · rw [if_pos c6, if_pos hsz]; exact step _ _ _ _ _ (by omega) (by omega)
      · rw [if_neg c6, e]
        simp only [Option.bind_some]
        by_cases cb : b = true
        · rw [if_pos cb, if_pos hsz]; exact step _ _ _ _ _ (by omega) (by omega)
        · rw [if_neg cb, if_pos hsz]; exact step _ _ _ _ _ (by omega) (by omega)
    · rw [if_neg c7, if_pos hsz]; exact step _ _ _ _ _ (by omega) (by omega)
theorem sure_ok {l : List Int} (h : Bytes l) (n : Int) (h0 : 0 ≤ n) (hn : n ≤ 6) (k : Nat) (hk : 50 ≤ k) (j s : Int) (hj : 0 ≤ j) (hj2 : j ≤ 1000000) : Drew (spec_l1Cur_sure.f k l j s n) j 12 (fun q => q.length ≤ 12) := by
  unfold spec_l1Cur_sure.f
  obtain ⟨m, rfl⟩ : ∃ m : Nat, n = (m : Int) := ⟨n.toNat, by omega⟩
  obtain ⟨v, z, t, e, hv, hz⟩ := (sure_l0 h (m : Int) h0 hn (2 * m) k 0 ⟨#[]⟩ 0 (m : Int) j s (by omega) rfl (by omega) hj (by omega)).ok
  exact ⟨_, _, _, e, hv, by omega, by omega⟩
theorem flat_l0 (n : Int) (hn : n ≤ 100) (d : Nat) : ∀ (k : Nat) (i : Int) (p : List Int), 0 ≤ i → i + d = n → d < k → (p.length : Int) = 2 * i → ∃ q, spec_ahFlat.l0 k n p i = some q ∧ (q.length : Int) = 2 * n := by
  induction d with
  | zero =>
    intro k i p h0 hi hk hp
    obtain ⟨k, rfl⟩ : ∃ m, k = m + 1 := ⟨k - 1, by omega⟩
    rw [spec_ahFlat.l0, if_neg (by omega)]
    exact ⟨_, rfl, by omega⟩
  | succ d ih =>
    intro k i p h0 hi hk hp
    obtain ⟨k, rfl⟩ : ∃ m, k = m + 1 := ⟨k - 1, by omega⟩
    rw [spec_ahFlat.l0, if_pos (by omega), Option.bind_some, if_pos (by simp; omega), wrap_id (x := i + 1) (by omega) (by omega)]
    exact ih k (i + 1) _ (by omega) (by omega) (by omega) (by simp; omega)
theorem flat_ok (n : Int) (h0 : 0 ≤ n) (hn : n ≤ 90) (k : Nat) (hk : 200 ≤ k) : ∃ q, spec_ahFlat.f k n = some q ∧ q.length ≤ 180 := by
  unfold spec_ahFlat.f
  obtain ⟨q, e, h⟩ := flat_l0 n (by omega) n.toNat k 0 [] (by omega) (by omega) (by omega) (by simp)
  exact ⟨q, e, by omega⟩
theorem rain_l0 (d : Nat) : ∀ (k : Nat) (i : Int) (p : List Int), i + 1 = d → d < k → d ≤ 1000 → p.length + d ≤ 1000 → ∃ q, spec_ahRainbow.l0 k p i = some q ∧ q.length = p.length + d := by
  induction d with
  | zero =>
    intro k i p hi hk hd hp
    obtain ⟨k, rfl⟩ : ∃ m, k = m + 1 := ⟨k - 1, by omega⟩
    rw [spec_ahRainbow.l0, if_neg (by omega)]
    exact ⟨_, rfl, by omega⟩
  | succ d ih =>
    intro k i p hi hk hd hp
    obtain ⟨k, rfl⟩ : ∃ m, k = m + 1 := ⟨k - 1, by omega⟩
    rw [spec_ahRainbow.l0, if_pos (by omega), if_pos (by omega), wrap_id (x := i - 1) (by omega) (by omega)]
    obtain ⟨q, e, h⟩ := ih k (i - 1) (p ++ [i]) (by omega) (by omega) (by omega) (by simp; omega)
    exact ⟨q, e, by rw [h]; simp; omega⟩
theorem rain_ok (n : Int) (h0 : 0 ≤ n) (hn : n ≤ 90) (k : Nat) (hk : 300 ≤ k) : ∃ q, spec_ahRainbow.f k n = some q ∧ q.length ≤ 180 := by
  unfold spec_ahRainbow.f
  rw [wrap_id (x := 2 * n) (by omega) (by omega), wrap_id (x := 2 * n - 1) (by omega) (by omega)]
  obtain ⟨q, e, h⟩ := rain_l0 (2 * n).toNat k (2 * n - 1) [] (by omega) (by omega) (by omega) (by simp; omega)
  exact ⟨q, e, by rw [h]; simp; omega⟩
theorem w7 : wrap64 (6 + 1) = 7 := wrap_id (by omega) (by omega)
theorem system_ok {l : List Int} (h : Bytes l) (k : Nat) (hk : 400 ≤ k) (j s : Int) (hj : 0 ≤ j) (hj2 : j ≤ 1000) : Drew (spec_l1Cur_system.f k l j s 6) j 100 (fun q => q.length ≤ 198) := by
  unfold spec_l1Cur_system.f
  refine Drew.bind (m := 1) (m' := 50) (pick_ok h j s _ hj (by omega) (by rw [w7]; omega)) (fun v1 j1 s1 hv1 a1 b1 => ?_) (by omega)
  have hw1 : v1 < 7 := by
    rw [w7] at hv1
    omega
  refine Drew.bind (m := 12) (m' := 30) (sure_ok h v1 hv1.1 (by omega) k (by omega) j1 s1 (by omega) (by omega)) (fun p j2 s2 hp a2 b2 => ?_) (by omega)
  have hp : p.length ≤ 12 := hp
  have hw2 : wrap64 ((p.length : Int) + 2) = (p.length : Int) + 2 := wrap_id (by omega) (by omega)
  refine Drew.bind (m := 1) (m' := 20) (pick_ok h j2 s2 16 (by omega) (by omega) (by omega)) (fun v3 j3 s3 hv3 a3 b3 => ?_) (by omega)
  refine Drew.ite (fun _ => ?_) (fun _ => Drew.ite (fun _ => ?_) (fun _ => Drew.ite (fun _ => ?_) (fun _ => Drew.ite (fun _ => ?_) (fun _ => ?_))))
  · refine Drew.ite (fun cl => ?_) (fun _ => ?_)
    · have cl' : (p.length : Int) > 0 := cl
      refine Drew.bind (m := 1) (m' := 10) (pick_ok h j3 s3 (p.length : Int) (by omega) (by omega) (by omega)) (fun v4 j4 s4 hv4 a4 b4 => ?_) (by omega)
      refine Drew.bind (m := 1) (m' := 5) (pick_ok h j4 s4 _ (by omega) (by omega) (by show wrap64 ((p.length : Int) + 2) ≤ 200; rw [hw2]; omega)) (fun v5 j5 s5 hv5 a5 b5 => ?_) (by omega)
      have h1 : 0 ≤ v4 := hv4.1
      have h2 : v4 < (p.length : Int) := by omega
      refine Drew.ite (fun _ => Drew.ite (fun _ => ?_) (fun n => absurd h2 n)) (fun n => absurd h1 n)
      exact Drew.done _ _ rfl (by show (p.set _ _).length ≤ 198; rw [List.length_set]; omega) (by omega)
    · exact Drew.done _ _ rfl (by show p.length ≤ 198; omega) (by omega)
  · have h2 : p.length < 17592186044416 := by omega
    refine Drew.ite (fun _ => ?_) (fun n => absurd h2 n)
    exact Drew.done _ _ rfl (by show (p ++ [_]).length ≤ 198; rw [List.length_append, List.length_singleton]; omega) (by omega)
  · refine Drew.bind (m := 1) (m' := 10) (pick_ok h j3 s3 2 (by omega) (by omega) (by omega)) (fun v4 j4 s4 hv4 a4 b4 => ?_) (by omega)
    obtain ⟨q, eq, hq⟩ := flat_ok (wrap64 (6 + v4)) (by rw [wrap_id (by omega) (by omega)]; omega) (by rw [wrap_id (by omega) (by omega)]; omega) k (by omega)
    have hq2 : q.length ≤ 198 := by omega
    exact Drew.done q s4 (by show (spec_ahFlat.f k (wrap64 (6 + v4))).bind _ = _; rw [eq]; rfl) hq2 (by omega)
  · refine Drew.bind (m := 1) (m' := 10) (pick_ok h j3 s3 7 (by omega) (by omega) (by omega)) (fun v4 j4 s4 hv4 a4 b4 => ?_) (by omega)
    obtain ⟨q, eq, hq⟩ := rain_ok v4 hv4.1 (by omega) k (by omega)
    have hq2 : q.length ≤ 198 := by omega
    exact Drew.done q s4 (by show (spec_ahRainbow.f k v4).bind _ = _; rw [eq]; rfl) hq2 (by omega)
  · exact Drew.done _ _ rfl (by show p.length ≤ 198; omega) (by omega)

end Go.Proofs.YtjgkcknopnollaaGreat.Pure
