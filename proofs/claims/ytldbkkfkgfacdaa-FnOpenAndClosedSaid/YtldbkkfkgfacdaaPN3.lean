/- The reference's cursor over bytes: each draw has an answer, in its range. The reference's drawn systems: the draw has an answer, a short row. Open words: the program's list of them and the reference's are one. The reference's drawn words, pairs and meanders: each draw has an answer, of short rows. What the functions over words and meanders answer, told outright. -/
import Derived.Laws.Bits64b
import Derived.Test.YtldbkkfkgfacdaaPN1
import Derived.Test.YtldbkkfkgfacdaaQA3
import Derived.Test.YtldbkkfkgfacdaaPN2
import Derived.Test.YtldbkkfkgfacdaaHOpenCutP
set_option linter.unusedVariables false
set_option linter.unusedSimpArgs false
namespace Go.Proofs.Ytldbkkfkgfacdaa.Pure
open Go.RowKit Go.Proofs.Ytldbkkfkgfacdaa.P Go.Proofs.YtldbkkfkgfacdaaW.PrintWords Go.Proofs.YtldbkkfkgfacdaaW.PrintLast Go.Proofs.YtldbkkfkgfacdaaW.PrintMore

def Bytes (l : List Int) : Prop := l.length ≤ 1048576 ∧ ∀ x ∈ l, 0 ≤ x ∧ x ≤ 255
theorem wf_u8' {x : Int} (h : (Lit.int .u8 x).wf = true) : 0 ≤ x ∧ x ≤ 255 := by
 simp [Lit.wf, IntKind.min, IntKind.max, IntKind.bits, IntKind.signed] at h; omega
theorem bytes_rd {l : List Int} (h : Bytes l) (i : Int) (h0 : 0 ≤ i) (h1 : i < (l.length : Int)) : 0 ≤ rd l i ∧ rd l i ≤ 255 := by
 obtain ⟨n, rfl⟩ : ∃ n : Nat, i = (n : Int) := ⟨i.toNat, by omega⟩; rw [rd_get (by omega)]; exact h.2 _ (List.getElem_mem _)
theorem and255 (x : Int) (h0 : 0 ≤ x) (h1 : x < 18446744073709551616) : 0 ≤ bits .and .u64 x 255 ∧ bits .and .u64 x 255 ≤ 255 := by
 obtain ⟨n, rfl⟩ : ∃ n : Nat, x = (n : Int) := ⟨x.toNat, by omega⟩; have h := bits_and_u64_nat n 255 (by omega) (by omega); rw [show ((255 : Nat) : Int) = 255 from rfl] at h; rw [h]; have := Nat.and_le_right (n := n) (m := 255); omega
theorem high8 (y : Int) : 0 ≤ wrap64 (bits .and .u64 (IntKind.u64.wrap y / 1099511627776) 255) ∧ wrap64 (bits .and .u64 (IntKind.u64.wrap y / 1099511627776) 255) ≤ 255 := by
 (have h1 : 0 ≤ IntKind.u64.wrap y ∧ IntKind.u64.wrap y < 18446744073709551616 := by rw [IntKind.wrap_u64]; omega); have h := and255 (IntKind.u64.wrap y / 1099511627776) (by omega) (by omega); rw [wrap_id (by omega) (by omega)]; exact h
/-- a draw: its answer, and where the cursor stands -/
structure Drew {α : Type} (o : Option (α × Int × Int)) (i : Int) (m : Int) (R : α → Prop) : Prop where
 ok : ∃ v j s, o = some (v, j, s) ∧ R v ∧ i ≤ j ∧ j ≤ i + m
theorem next_ok {l : List Int} (h : Bytes l) (i s : Int) (h0 : 0 ≤ i) (h1 : i ≤ 1099511627776) : Drew (spec_l1Cur_next.f l i s) i 1 (fun v => 0 ≤ v ∧ v ≤ 255) := by
 have hw : wrap64 (i + 1) = i + 1 := wrap_id (by omega) (by omega); unfold spec_l1Cur_next.f; rw [hw]
 by_cases c : i < (l.length : Int)
 ·have hr := bytes_rd h i h0 c; rw [if_pos c, if_pos h0, if_pos (by omega)]; exact ⟨_, _, _, rfl, by rw [wrap_id (by omega) (by omega)]; exact hr, by omega, by omega⟩
 rw [if_neg c, if_neg (by omega)]; exact ⟨_, _, _, rfl, high8 _, by omega, by omega⟩
theorem pick_ok {l : List Int} (h : Bytes l) (i s n : Int) (h0 : 0 ≤ i) (h1 : i ≤ 1000000000) (hn : n ≤ 200) : Drew (spec_l1Cur_pick.f l i s n) i 1 (fun v => 0 ≤ v ∧ (v < n ∨ v = 0)) := by
 unfold spec_l1Cur_pick.f
 by_cases c : n ≤ 1
 ·rw [if_pos c]; exact ⟨_, _, _, rfl, ⟨by omega, .inr rfl⟩, by omega, by omega⟩
 obtain ⟨v, j, s', e, hv, hj⟩ := (next_ok h i s h0 (by omega)).ok; rw [if_neg c, e]; simp only [Option.bind_some]; rw [if_neg (by omega), if_neg (by omega)]; exact ⟨_, _, _, rfl, ⟨Int.tmod_nonneg _ hv.1, .inl (Int.tmod_lt_of_pos _ (by omega))⟩, hj⟩
theorem one_ok {l : List Int} (h : Bytes l) (i s n : Int) (h0 : 0 ≤ i) (h1 : i ≤ 1000000000) (hn : n ≤ 200) : Drew (spec_l1Cur_one.f l i s n) i 1 (fun _ => True) := by
 unfold spec_l1Cur_one.f; obtain ⟨v, j, s', e, hv, hj⟩ := (pick_ok h i s n h0 h1 hn).ok; rw [e]; exact ⟨_, _, _, rfl, trivial, hj⟩
theorem Drew.bind {α β : Type} {o : Option (α × Int × Int)} {f : α × Int × Int → Option (β × Int × Int)} {i m m' M : Int} {R : α → Prop} {R' : β → Prop} (h1 : Drew o i m R)
  (h2 : ∀ v j s, R v → i ≤ j → j ≤ i + m → Drew (f (v, j, s)) j m' R') (hm : m + m' ≤ M) : Drew (o.bind f) i M R' := by
 obtain ⟨v, j, s, e, hv, h3, h4⟩ := h1.ok; obtain ⟨v', j', s', e', hv', h3', h4'⟩ := (h2 v j s hv h3 h4).ok; exact ⟨v', j', s', by rw [e]; exact e', hv', by omega, by omega⟩
theorem Drew.done {β : Type} {o : Option (β × Int × Int)} {i M : Int} {R' : β → Prop} (v : β) (s : Int) (e : o = some (v, i, s)) (hv : R' v) (hM : 0 ≤ M) : Drew o i M R' := ⟨v, i, s, e, hv, by omega, by omega⟩
theorem Drew.ite {β : Type} {c : Prop} [Decidable c] {a b : Option (β × Int × Int)} {i M : Int} {R' : β → Prop} (h1 : c → Drew a i M R') (h2 : ¬ c → Drew b i M R') : Drew (if c then a else b) i M R' := by
 by_cases h : c
 ·rw [if_pos h]; exact h1 h
 rw [if_neg h]; exact h2 h
theorem size_app (a : ByteArray) (x : UInt8) : (a ++ (⟨#[x]⟩ : ByteArray)).size = a.size + 1 := by
 rw [ByteArray.size_append]; rfl
theorem parse_l0 (a : ByteArray) (n : Nat) (hn : n ≤ 12) (ha : a.size = n) (d : Nat) : ∀ (k i : Nat) (p st : List Int), i + d = n → d < k → p.length = n → st.length ≤ i → (∀ x ∈ st, 0 ≤ x ∧ x < (n : Int)) →
  ∃ q b, spec_ahParse.l0 k a p st (i : Int) = some (q, b) ∧ q.length ≤ n := by
 induction d with
 | zero =>
  intro k i p st hi hk hp hs hst; obtain ⟨k, rfl⟩ : ∃ m, k = m + 1 := ⟨k - 1, by omega⟩; rw [spec_ahParse.l0, if_neg (by omega)]
  repeat' first
   | (exact ⟨_, _, rfl, by simp⟩)
   | (exact ⟨_, _, rfl, by omega⟩)
   | split
 | succ d ih =>
  intro k i p st hi hk hp hs hst; obtain ⟨k, rfl⟩ : ∃ m, k = m + 1 := ⟨k - 1, by omega⟩; rw [spec_ahParse.l0, if_pos (by omega), if_pos (by omega), wrap_succ (by omega)]
  by_cases c : bt a (i : Int) = 40
  ·rw [if_pos c, if_pos (by omega)]
   exact ih k (i + 1) p _ (by omega) (by omega) hp (by simp; omega) (fun x hx => by
    rcases List.mem_append.1 hx with hx | hx
    ·exact hst x hx
    rw [List.mem_singleton.1 hx]; omega)
  rw [if_neg c]
  by_cases c2 : bt a (i : Int) = 41
  ·rw [if_pos c2]
   by_cases c3 : (st.length : Int) > 0
   ·(have hw : wrap64 ((st.length : Int) - 1) = ((st.length - 1 : Nat) : Int) := by rw [wrap_id (by omega) (by omega)]; omega); have hm := hst _ (List.getElem_mem (l := st) (n := st.length - 1) (by omega)); rw [if_pos c3, hw, rd_get (by omega), if_pos (by omega), if_pos (by omega), if_pos (by omega), if_pos (by omega), if_pos (by omega), if_pos (by omega)]; exact ih k (i + 1) _ _ (by omega) (by omega) (by simpa using hp) (by simp; omega) (fun x hx => hst x (List.mem_of_mem_take hx))
   rw [if_neg c3]; exact ⟨_, _, rfl, by simp⟩
  rw [if_neg c2]; exact ⟨_, _, rfl, by simp⟩
theorem parse_ok (a : ByteArray) (ha : a.size ≤ 12) (k : Nat) (hk : 20 ≤ k) : ∃ q b, spec_ahParse.f k a = some (q, b) ∧ q.length ≤ 12 := by
 unfold spec_ahParse.f; rw [if_neg (by omega), if_pos (by omega), if_pos (by omega)]; obtain ⟨q, b, e, h⟩ := parse_l0 a a.size ha rfl a.size k 0 (List.replicate a.size 0) [] (by omega) (by omega) (by simp) (by simp) (fun x hx => by simp at hx); exact ⟨q, b, by rw [Int.toNat_natCast]; exact e, by omega⟩
theorem sure_l0 {l : List Int} (h : Bytes l) (n : Int) (h0 : 0 ≤ n) (hn : n ≤ 6) (d : Nat) : ∀ (k i : Nat) (a : ByteArray) (x6 x7 j s : Int), (i : Int) + d = 2 * n → a.size = i → d + 30 ≤ k → 0 ≤ j → j + d ≤ 100000000 →
  Drew (spec_l1Cur_sure.l0 k n a x6 x7 (i : Int) l j s) j d (fun q => q.length ≤ 12) := by
 have hw : wrap64 (2 * n) = 2 * n := wrap_id (by omega) (by omega)
 induction d with
 | zero =>
  intro k i a x6 x7 j s hi ha hk hj hj2; obtain ⟨k, rfl⟩ : ∃ m, k = m + 1 := ⟨k - 1, by omega⟩; obtain ⟨q, b, e, hq⟩ := parse_ok a (by omega) k (by omega); rw [spec_l1Cur_sure.l0, hw, if_neg (by omega), e]; exact ⟨_, _, _, rfl, hq, by omega, by omega⟩
 | succ d ih =>
  intro k i a x6 x7 j s hi ha hk hj hj2; obtain ⟨k, rfl⟩ : ∃ m, k = m + 1 := ⟨k - 1, by omega⟩
  have step : ∀ (b : UInt8) (y6 y7 j' s' : Int), j ≤ j' → j' ≤ j + 1 → Drew (spec_l1Cur_sure.l0 k n (a ++ (⟨#[b]⟩ : ByteArray)) y6 y7 (wrap64 ((i : Int) + 1)) l j' s') j ((d + 1 : Nat) : Int) (fun q => q.length ≤ 12) := by
   intro b y6 y7 j' s' h1 h2; rw [wrap_succ (by omega)]; obtain ⟨v, z, t, e, hv, hz⟩ := (ih k (i + 1) (a ++ (⟨#[b]⟩ : ByteArray)) y6 y7 j' s' (by omega) (by rw [size_app, ha]) (by omega) (by omega) (by omega)).ok; exact ⟨_, _, _, e, hv, by omega, by omega⟩
  rw [spec_l1Cur_sure.l0, hw, if_pos (by omega)]; (have hsz : a.size + 1 ≤ 9223372036854775807 := by omega); obtain ⟨b, z, t, e, _, hz⟩ := (one_ok h j s 2 hj (by omega) (by omega)).ok
  by_cases c7 : x7 > 0
  ·rw [if_pos c7]
   by_cases c6 : x6 = 0
   ·rw [if_pos c6, if_pos hsz]; exact step _ _ _ _ _ (by omega) (by omega)
   rw [if_neg c6, e]; simp only [Option.bind_some]
   by_cases cb : b = true
   ·rw [if_pos cb, if_pos hsz]; exact step _ _ _ _ _ (by omega) (by omega)
   rw [if_neg cb, if_pos hsz]; exact step _ _ _ _ _ (by omega) (by omega)
  rw [if_neg c7, if_pos hsz]; exact step _ _ _ _ _ (by omega) (by omega)
theorem sure_ok {l : List Int} (h : Bytes l) (n : Int) (h0 : 0 ≤ n) (hn : n ≤ 6) (k : Nat) (hk : 50 ≤ k) (j s : Int) (hj : 0 ≤ j) (hj2 : j ≤ 1000000) : Drew (spec_l1Cur_sure.f k l j s n) j 12 (fun q => q.length ≤ 12) := by
 unfold spec_l1Cur_sure.f; obtain ⟨m, rfl⟩ : ∃ m : Nat, n = (m : Int) := ⟨n.toNat, by omega⟩; obtain ⟨v, z, t, e, hv, hz⟩ := (sure_l0 h (m : Int) h0 hn (2 * m) k 0 ⟨#[]⟩ 0 (m : Int) j s (by omega) rfl (by omega) hj (by omega)).ok; exact ⟨_, _, _, e, hv, by omega, by omega⟩
theorem flat_l0 (n : Int) (hn : n ≤ 100) (d : Nat) : ∀ (k : Nat) (i : Int) (p : List Int), 0 ≤ i → i + d = n → d < k → (p.length : Int) = 2 * i → ∃ q, spec_ahFlat.l0 k n p i = some q ∧ (q.length : Int) = 2 * n := by
 induction d with
 | zero =>
  intro k i p h0 hi hk hp; obtain ⟨k, rfl⟩ : ∃ m, k = m + 1 := ⟨k - 1, by omega⟩; rw [spec_ahFlat.l0, if_neg (by omega)]; exact ⟨_, rfl, by omega⟩
 | succ d ih =>
  intro k i p h0 hi hk hp; obtain ⟨k, rfl⟩ : ∃ m, k = m + 1 := ⟨k - 1, by omega⟩; rw [spec_ahFlat.l0, if_pos (by omega), Option.bind_some, if_pos (by simp; omega), wrap_id (x := i + 1) (by omega) (by omega)]; exact ih k (i + 1) _ (by omega) (by omega) (by omega) (by simp; omega)
theorem flat_ok (n : Int) (h0 : 0 ≤ n) (hn : n ≤ 90) (k : Nat) (hk : 200 ≤ k) : ∃ q, spec_ahFlat.f k n = some q ∧ q.length ≤ 180 := by
 unfold spec_ahFlat.f; obtain ⟨q, e, h⟩ := flat_l0 n (by omega) n.toNat k 0 [] (by omega) (by omega) (by omega) (by simp); exact ⟨q, e, by omega⟩
theorem rain_l0 (d : Nat) : ∀ (k : Nat) (i : Int) (p : List Int), i + 1 = d → d < k → d ≤ 1000 → p.length + d ≤ 1000 → ∃ q, spec_ahRainbow.l0 k p i = some q ∧ q.length = p.length + d := by
 induction d with
 | zero =>
  intro k i p hi hk hd hp; obtain ⟨k, rfl⟩ : ∃ m, k = m + 1 := ⟨k - 1, by omega⟩; rw [spec_ahRainbow.l0, if_neg (by omega)]; exact ⟨_, rfl, by omega⟩
 | succ d ih =>
  intro k i p hi hk hd hp; obtain ⟨k, rfl⟩ : ∃ m, k = m + 1 := ⟨k - 1, by omega⟩; rw [spec_ahRainbow.l0, if_pos (by omega), if_pos (by omega), wrap_id (x := i - 1) (by omega) (by omega)]; obtain ⟨q, e, h⟩ := ih k (i - 1) (p ++ [i]) (by omega) (by omega) (by omega) (by simp; omega); exact ⟨q, e, by rw [h]; simp; omega⟩
theorem rain_ok (n : Int) (h0 : 0 ≤ n) (hn : n ≤ 90) (k : Nat) (hk : 300 ≤ k) : ∃ q, spec_ahRainbow.f k n = some q ∧ q.length ≤ 180 := by
 unfold spec_ahRainbow.f; rw [wrap_id (x := 2 * n) (by omega) (by omega), wrap_id (x := 2 * n - 1) (by omega) (by omega)]; obtain ⟨q, e, h⟩ := rain_l0 (2 * n).toNat k (2 * n - 1) [] (by omega) (by omega) (by omega) (by simp; omega); exact ⟨q, e, by rw [h]; simp; omega⟩
theorem w7 : wrap64 (6 + 1) = 7 := wrap_id (by omega) (by omega)
theorem system_ok {l : List Int} (h : Bytes l) (k : Nat) (hk : 400 ≤ k) (j s : Int) (hj : 0 ≤ j) (hj2 : j ≤ 1000) : Drew (spec_l1Cur_system.f k l j s 6) j 100 (fun q => q.length ≤ 198) := by
 unfold spec_l1Cur_system.f; refine Drew.bind (m := 1) (m' := 50) (pick_ok h j s _ hj (by omega) (by rw [w7]; omega)) (fun v1 j1 s1 hv1 a1 b1 => ?_) (by omega)
 have hw1 : v1 < 7 := by
  rw [w7] at hv1; omega
 refine Drew.bind (m := 12) (m' := 30) (sure_ok h v1 hv1.1 (by omega) k (by omega) j1 s1 (by omega) (by omega)) (fun p j2 s2 hp a2 b2 => ?_) (by omega); have hp : p.length ≤ 12 := hp; have hw2 : wrap64 ((p.length : Int) + 2) = (p.length : Int) + 2 := wrap_id (by omega) (by omega); refine Drew.bind (m := 1) (m' := 20) (pick_ok h j2 s2 16 (by omega) (by omega) (by omega)) (fun v3 j3 s3 hv3 a3 b3 => ?_) (by omega)
 refine Drew.ite (fun _ => ?_) (fun _ => Drew.ite (fun _ => ?_) (fun _ => Drew.ite (fun _ => ?_) (fun _ => Drew.ite (fun _ => ?_) (fun _ => ?_))))
 ·refine Drew.ite (fun cl => ?_) (fun _ => ?_)
  ·have cl' : (p.length : Int) > 0 := cl; refine Drew.bind (m := 1) (m' := 10) (pick_ok h j3 s3 (p.length : Int) (by omega) (by omega) (by omega)) (fun v4 j4 s4 hv4 a4 b4 => ?_) (by omega); refine Drew.bind (m := 1) (m' := 5) (pick_ok h j4 s4 _ (by omega) (by omega) (by show wrap64 ((p.length : Int) + 2) ≤ 200; rw [hw2]; omega)) (fun v5 j5 s5 hv5 a5 b5 => ?_) (by omega); have h1 : 0 ≤ v4 := hv4.1; (have h2 : v4 < (p.length : Int) := by omega); refine Drew.ite (fun _ => Drew.ite (fun _ => ?_) (fun n => absurd h2 n)) (fun n => absurd h1 n); exact Drew.done _ _ rfl (by show (p.set _ _).length ≤ 198; rw [List.length_set]; omega) (by omega)
  exact Drew.done _ _ rfl (by show p.length ≤ 198; omega) (by omega)
 ·(have h2 : p.length < 17592186044416 := by omega); refine Drew.ite (fun _ => ?_) (fun n => absurd h2 n); exact Drew.done _ _ rfl (by show (p ++ [_]).length ≤ 198; rw [List.length_append, List.length_singleton]; omega) (by omega)
 ·refine Drew.bind (m := 1) (m' := 10) (pick_ok h j3 s3 2 (by omega) (by omega) (by omega)) (fun v4 j4 s4 hv4 a4 b4 => ?_) (by omega); obtain ⟨q, eq, hq⟩ := flat_ok (wrap64 (6 + v4)) (by rw [wrap_id (by omega) (by omega)]; omega) (by rw [wrap_id (by omega) (by omega)]; omega) k (by omega); (have hq2 : q.length ≤ 198 := by omega); exact Drew.done q s4 (by show (spec_ahFlat.f k (wrap64 (6 + v4))).bind _ = _; rw [eq]; rfl) hq2 (by omega)
 ·refine Drew.bind (m := 1) (m' := 10) (pick_ok h j3 s3 7 (by omega) (by omega) (by omega)) (fun v4 j4 s4 hv4 a4 b4 => ?_) (by omega); obtain ⟨q, eq, hq⟩ := rain_ok v4 hv4.1 (by omega) k (by omega); (have hq2 : q.length ≤ 198 := by omega); exact Drew.done q s4 (by show (spec_ahRainbow.f k v4).bind _ = _; rw [eq]; rfl) hq2 (by omega)
 exact Drew.done _ _ rfl (by show p.length ≤ 198; omega) (by omega)
theorem own_val (l : List Int) (h : l.length ≤ 1000) : spec_l1Own.f l = some l := by
 unfold spec_l1Own.f; rw [Option.bind_some, if_pos (by simp; omega)]; rfl
theorem index_l0 (l : List Int) (a : Int) (hl : l.length ≤ 1000) (d : Nat) : ∀ (k i : Nat), i + d = l.length → d < k →
  ∃ r : Int, slices_Index_int_int.l0 k l a (l.length : Int) (i : Int) = some r ∧ decide (r ≥ 0) = decide (a ∈ l.drop i) := by
 induction d with
 | zero =>
  intro k i hi hk; obtain ⟨k, rfl⟩ : ∃ m, k = m + 1 := ⟨k - 1, by omega⟩; rw [slices_Index_int_int.l0, if_neg (by omega), List.drop_of_length_le (by omega)]; exact ⟨-1, rfl, by simp⟩
 | succ d ih =>
  intro k i hi hk; obtain ⟨k, rfl⟩ : ∃ m, k = m + 1 := ⟨k - 1, by omega⟩; (have hlt : i < l.length := by omega); rw [slices_Index_int_int.l0, if_pos (by omega), if_pos (by omega), if_pos (by omega), rd_get hlt, wrap_succ (by omega), List.drop_eq_getElem_cons hlt]
  by_cases e : a = l[i]
  ·rw [if_pos e]; exact ⟨_, rfl, by rw [decide_eq_decide]; exact ⟨fun _ => by rw [e]; exact List.mem_cons_self, fun _ => by omega⟩⟩
  rw [if_neg e]; obtain ⟨r, h1, h2⟩ := ih k (i + 1) (by omega) (by omega); refine ⟨r, h1, ?_⟩; rw [h2, decide_eq_decide, List.mem_cons]; exact ⟨.inr, fun g => g.resolve_left e⟩
theorem contains_ev (l : List Int) (a : Int) (hl : l.length ≤ 1000) (k : Nat) (hk : l.length < k) : slices_Contains_int_int.f k l a = some (decide (a ∈ l)) := by
 obtain ⟨r, h1, h2⟩ := index_l0 l a hl l.length k 0 (by omega) hk; unfold slices_Contains_int_int.f slices_Index_int_int.f; rw [Int.natCast_zero] at h1; rw [h1, Option.bind_some, h2]; rfl
/-- all open words of n numbers that go on a list by so many numbers -/
def words (n : Nat) : Nat → List Int → List (List Int)
 | 0, l => [l]
 | d + 1, l => (List.range n).flatMap fun x : Nat => if (x : Int) ∈ l ∨ (crs (l ++ [(x : Int)])).1 ≠ [] then [] else words n d (l ++ [(x : Int)])
theorem flat_len {α β : Type} (g : α → List β) (b : Nat) : ∀ (L : List α), (∀ x ∈ L, (g x).length ≤ b) → (L.flatMap g).length ≤ L.length * b := by
 intro L
 induction L with
 | nil => intro _; simp
 | cons a L ih =>
  intro h; rw [List.flatMap_cons, List.length_append, List.length_cons, Nat.succ_mul]; have h1 := h a (by simp); have h2 := ih (fun x hx => h x (by simp [hx])); omega
theorem words_len (n : Nat) (hn : n ≤ 7) (d : Nat) : ∀ l, (words n d l).length ≤ 7 ^ d := by
 induction d with
 | zero => intro l; simp [words]
 | succ d ih =>
  intro l
  have h1 := flat_len (fun x : Nat => if (x : Int) ∈ l ∨ (crs (l ++ [(x : Int)])).1 ≠ [] then [] else words n d (l ++ [(x : Int)])) (7 ^ d) (List.range n) (fun x _ => by
   show (if _ then _ else _ : List (List Int)).length ≤ _
   split
   ·simp
   exact ih _)
  rw [List.length_range] at h1; have h2 : n * 7 ^ d ≤ 7 * 7 ^ d := Nat.mul_le_mul_right _ hn; rw [Nat.pow_succ, Nat.mul_comm (7 ^ d) 7]; exact Nat.le_trans h1 h2
theorem both_words (n : Nat) (hn : n ≤ 7) (d : Nat) : ∀ (l : List Int) (k : Nat), l.length + d = n → 600 + 20 * d ≤ k →
  spec_peAll.f k l (n : Int) = some (words n d l) ∧ impl_openWords.f k l (n : Int) = some (words n d l) := by
 induction d with
 | zero =>
  intro l k hl hk; obtain ⟨k, rfl⟩ : ∃ m, k = m + 1 := ⟨k - 1, by omega⟩; rw [spec_peAll.f, impl_openWords.f, if_pos (by omega), if_pos (by omega), own_val l (by omega)]; unfold slices_Clone_int_int.f; rw [if_pos (by omega)]; exact ⟨rfl, rfl⟩
 | succ d ih =>
  intro l k hl hk; obtain ⟨k, rfl⟩ : ∃ m, k = m + 1 := ⟨k - 1, by omega⟩; rw [spec_peAll.f, impl_openWords.f, if_neg (by omega), if_neg (by omega)]; have hd : 7 ^ d ≤ 823543 := Nat.le_trans (Nat.pow_le_pow_right (by omega) (show d ≤ 7 by omega)) (by decide); have hclone : slices_Clone_int_int.f l = some l := by unfold slices_Clone_int_int.f; rw [if_pos (by omega)]
  have loop : ∀ (m x k : Nat) (acc : List (List Int)), x + m = n → 600 + 20 * d + m + 1 ≤ k → acc.length ≤ x * 823543 →
    spec_peAll.l0 k l (n : Int) acc (x : Int) = some (acc ++ ((List.range n).drop x).flatMap fun x : Nat => if (x : Int) ∈ l ∨ (crs (l ++ [(x : Int)])).1 ≠ [] then [] else words n d (l ++ [(x : Int)])) ∧
    impl_openWords.l0 k l (n : Int) acc (n : Int) (x : Int) = some (acc ++ ((List.range n).drop x).flatMap fun x : Nat => if (x : Int) ∈ l ∨ (crs (l ++ [(x : Int)])).1 ≠ [] then [] else words n d (l ++ [(x : Int)])) := by
   intro m
   induction m with
   | zero =>
    intro x k acc hx hk hacc; obtain ⟨k, rfl⟩ : ∃ m, k = m + 1 := ⟨k - 1, by omega⟩; rw [spec_peAll.l0, impl_openWords.l0, if_neg (by omega), if_neg (by omega), List.drop_of_length_le (by simp; omega)]; simp
   | succ m ihm =>
    intro x k acc hx hk hacc; obtain ⟨k, rfl⟩ : ∃ m, k = m + 1 := ⟨k - 1, by omega⟩; (have hxn : x < (List.range n).length := by simp; omega); rw [List.drop_eq_getElem_cons hxn, List.flatMap_cons, List.getElem_range]; (have hlen : (l ++ [(x : Int)]).length ≤ 12 := by simp; omega); (have hw : (words n d (l ++ [(x : Int)])).length ≤ 823543 := by have h1 := words_len n hn d (l ++ [(x : Int)]); omega); (have hs : ∀ y, y ≤ x * 823543 + 823543 → y ≤ (x + 1) * 823543 := fun y h => by rw [Nat.succ_mul]; exact h); have nextn := ihm (x + 1) k acc (by omega) (by omega) (hs _ (Nat.le_trans hacc (Nat.le_add_right _ _))); have nexty := ihm (x + 1) k (acc ++ words n d (l ++ [(x : Int)])) (by omega) (by omega) (hs _ (by rw [List.length_append]; exact Nat.add_le_add hacc hw)); obtain ⟨r1, r2⟩ := ih (l ++ [(x : Int)]) k (by simp; omega) (by omega); obtain ⟨v, hv⟩ : ∃ v, v = (if (x : Int) ∈ l ∨ (crs (l ++ [(x : Int)])).1 ≠ [] then [] else words n d (l ++ [(x : Int)])) := ⟨_, rfl⟩; rw [← hv]; (have hll : l.length < 17592186044416 := by omega); rw [spec_peAll.l0, impl_openWords.l0, if_pos (show (x : Int) < (n : Int) by omega), if_pos (show (x : Int) < (n : Int) by omega), sHas_ev l _ (by omega) k (by omega), contains_ev l _ (by omega) k (by omega), own_val l (by omega), hclone, wrap_succ (by omega)]; simp only [Option.bind_some, if_pos hll]; rw [scrossing_ev _ hlen k (by omega), icrossing_ev _ hlen k (by omega)]; simp only [Option.bind_some]; rw [crs_snd]
    by_cases hm : (x : Int) ∈ l
    ·(have hv' : v = [] := by rw [hv, if_pos (show _ ∨ _ from .inl hm)]); have hd' : decide ((x : Int) ∈ l) = true := decide_eq_true hm; rw [hv', hd', List.nil_append]; exact nextn
    have hd' : decide ((x : Int) ∈ l) = false := decide_eq_false hm; rw [hd']; simp only [Bool.false_eq_true, if_false]
    by_cases hc : (crs (l ++ [(x : Int)])).1 = []
    ·(have hv' : v = words n d (l ++ [(x : Int)]) := by rw [hv, if_neg (fun g : _ ∨ _ => g.elim hm (fun g => g hc))]); (have hd2 : (!decide ((crs (l ++ [(x : Int)])).1 = [])) = false := by rw [decide_eq_true hc]; rfl); rw [hv', hd2, if_pos hc, r1, r2]; simp only [Option.bind_some, Bool.false_eq_true, if_false]; rw [if_pos (by omega), if_pos (by omega), ← List.append_assoc]; exact nexty
    (have hv' : v = [] := by rw [hv, if_pos (show _ ∨ _ from .inr hc)]); (have hd2 : (!decide ((crs (l ++ [(x : Int)])).1 = [])) = true := by rw [decide_eq_false hc]; rfl); rw [hv', hd2, if_pos rfl, if_neg hc, List.nil_append]; exact nextn
  have := loop n 0 k [] (by omega) (by omega) (by simp); rw [Int.natCast_zero, List.drop_zero, List.nil_append] at this; exact this
def openAns (n : Int) : List (List Int) × Bool := if 0 ≤ n ∧ n ≤ 7 then (words n.toNat n.toNat [], true) else ([], false)
theorem iopen_ev (n : Int) (k : Nat) (hk : 1000 ≤ k) : impl_OpenPermutations.f k n = some (openAns n) := by
 unfold impl_OpenPermutations.f openAns; rw [iIn_val, Option.bind_some]
 by_cases h : 0 ≤ n ∧ n ≤ 7
 ·obtain ⟨m, rfl⟩ : ∃ m : Nat, n = m := ⟨n.toNat, by omega⟩; have := (both_words m (by omega) m [] k (by simp) (by omega)).2; rw [if_pos (decide_eq_true h), if_pos h, this]; rfl
 rw [if_neg (by simpa using h), if_neg h]
structure Drew2 (o : Option (List Int × List Int × Int × Int)) (i : Int) (m : Int) (R : List Int → List Int → Prop) : Prop where
 ok : ∃ p q j s, o = some (p, q, j, s) ∧ R p q ∧ i ≤ j ∧ j ≤ i + m
theorem Drew.bind2 {α : Type} {o : Option (α × Int × Int)} {f : α × Int × Int → Option (List Int × List Int × Int × Int)} {i m m' M : Int} {R : α → Prop} {R' : List Int → List Int → Prop} (h1 : Drew o i m R)
  (h2 : ∀ v j s, R v → i ≤ j → j ≤ i + m → Drew2 (f (v, j, s)) j m' R') (hm : m + m' ≤ M) : Drew2 (o.bind f) i M R' := by
 obtain ⟨v, j, s, e, hv, h3, h4⟩ := h1.ok; obtain ⟨p, q, j', s', e', hv', h3', h4'⟩ := (h2 v j s hv h3 h4).ok; exact ⟨p, q, j', s', by rw [e]; exact e', hv', by omega, by omega⟩
theorem Drew2.bind {β : Type} {o : Option (List Int × List Int × Int × Int)} {f : List Int × List Int × Int × Int → Option (β × Int × Int)} {i m m' M : Int} {R : List Int → List Int → Prop} {R' : β → Prop} (h1 : Drew2 o i m R)
  (h2 : ∀ p q j s, R p q → i ≤ j → j ≤ i + m → Drew (f (p, q, j, s)) j m' R') (hm : m + m' ≤ M) : Drew (o.bind f) i M R' := by
 obtain ⟨p, q, j, s, e, hv, h3, h4⟩ := h1.ok; obtain ⟨v', j', s', e', hv', h3', h4'⟩ := (h2 p q j s hv h3 h4).ok; exact ⟨v', j', s', by rw [e]; exact e', hv', by omega, by omega⟩
theorem Drew2.bind2 {o : Option (List Int × List Int × Int × Int)} {f : List Int × List Int × Int × Int → Option (List Int × List Int × Int × Int)} {i m m' M : Int} {R R' : List Int → List Int → Prop} (h1 : Drew2 o i m R)
  (h2 : ∀ p q j s, R p q → i ≤ j → j ≤ i + m → Drew2 (f (p, q, j, s)) j m' R') (hm : m + m' ≤ M) : Drew2 (o.bind f) i M R' := by
 obtain ⟨p, q, j, s, e, hv, h3, h4⟩ := h1.ok; obtain ⟨p', q', j', s', e', hv', h3', h4'⟩ := (h2 p q j s hv h3 h4).ok; exact ⟨p', q', j', s', by rw [e]; exact e', hv', by omega, by omega⟩
theorem Drew2.done {o : Option (List Int × List Int × Int × Int)} {i M : Int} {R' : List Int → List Int → Prop} (p q : List Int) (s : Int) (e : o = some (p, q, i, s)) (hv : R' p q) (hM : 0 ≤ M) : Drew2 o i M R' := ⟨p, q, i, s, e, hv, by omega, by omega⟩
theorem Drew2.ite {c : Prop} [Decidable c] {a b : Option (List Int × List Int × Int × Int)} {i M : Int} {R' : List Int → List Int → Prop} (h1 : c → Drew2 a i M R') (h2 : ¬ c → Drew2 b i M R') : Drew2 (if c then a else b) i M R' := by
 by_cases h : c
 ·rw [if_pos h]; exact h1 h
 rw [if_neg h]; exact h2 h
theorem Drew2.some {o : Option (List Int × List Int × Int × Int)} {α : Type} {x : Option α} {f : α → Option (List Int × List Int × Int × Int)} {i M : Int} {R' : List Int → List Int → Prop} (v : α) (e : x = .some v) (h : Drew2 (f v) i M R') : Drew2 (x.bind f) i M R' := by rw [e]; exact h
theorem Drew.some {β α : Type} {x : Option α} {f : α → Option (β × Int × Int)} {i M : Int} {R' : β → Prop} (v : α) (e : x = .some v) (h : Drew (f v) i M R') : Drew (x.bind f) i M R' := by rw [e]; exact h
theorem Drew.le {β : Type} {o : Option (β × Int × Int)} {i m M : Int} {R : β → Prop} (h : Drew o i m R) (hm : m ≤ M) : Drew o i M R := by
 obtain ⟨v, j, s, e, hv, h1, h2⟩ := h.ok; exact ⟨v, j, s, e, hv, h1, by omega⟩
/-- words -/
theorem word_l1 {l : List Int} (h : Bytes l) (d : Nat) : ∀ (k : Nat) (x : List Int) (i j s : Int), i + d = 14 → 0 ≤ i → x.length = i.toNat → d < k → 0 ≤ j → j + d ≤ 1000000 →
  Drew (spec_l1Cur_word.l1 k x i l j s) j (d + 1) (fun q => q.length ≤ 14) := by
 induction d with
 | zero =>
  intro k x i j s hi h0 hx hk hj hj2; obtain ⟨k, rfl⟩ : ∃ m, k = m + 1 := ⟨k - 1, by omega⟩; rw [spec_l1Cur_word.l1]; refine Drew.bind (m := 1) (m' := 0) (pick_ok h j s 2 hj (by omega) (by omega)) (fun v j1 s1 hv a b => ?_) (by omega); have hw : wrap64 (12 + v) = 12 + v := wrap_id (by omega) (by omega); (have hn : ¬ i < wrap64 (12 + v) := by rw [hw]; omega); refine Drew.ite (fun c => absurd c hn) (fun _ => ?_); exact Drew.done x s1 rfl (by show x.length ≤ 14; omega) (by omega)
 | succ d ih =>
  intro k x i j s hi h0 hx hk hj hj2; obtain ⟨k, rfl⟩ : ∃ m, k = m + 1 := ⟨k - 1, by omega⟩; rw [spec_l1Cur_word.l1]; refine Drew.bind (m := 1) (m' := d + 1) (pick_ok h j s 2 hj (by omega) (by omega)) (fun v j1 s1 hv a b => ?_) (by omega); refine Drew.ite (fun _ => ?_) (fun _ => Drew.done x s1 rfl (by show x.length ≤ 14; omega) (by omega)); (have hl : x.length < 17592186044416 := by omega); refine Drew.ite (fun _ => ?_) (fun n => absurd hl n); have hw : wrap64 (i + 1) = i + 1 := wrap_id (by omega) (by omega); show Drew (spec_l1Cur_word.l1 k (x ++ [i]) (wrap64 (i + 1)) l j1 s1) j1 _ _; rw [hw]; exact ih k (x ++ [i]) (i + 1) j1 s1 (by omega) (by omega) (by rw [List.length_append, List.length_singleton]; omega) (by omega) (by omega) (by omega)
theorem word_l0 {l : List Int} (h : Bytes l) (n : Nat) (hn : n ≤ 9) (d : Nat) : ∀ (k i : Nat) (x : List Int) (j s : Int), i + d = n → x.length = i → d + 20 ≤ k → 0 ≤ j → j + 2 * d ≤ 100000 →
  Drew (spec_l1Cur_word.l0 k (n : Int) x (i : Int) l j s) j (2 * d + 20) (fun q => q.length ≤ 14) := by
 induction d with
 | zero =>
  intro k i x j s hi hx hk hj hj2; obtain ⟨k, rfl⟩ : ∃ m, k = m + 1 := ⟨k - 1, by omega⟩; rw [spec_l1Cur_word.l0]; refine Drew.ite (fun c => absurd c (by omega)) (fun _ => ?_); refine Drew.bind (m := 1) (m' := 19) (pick_ok h j s 14 hj (by omega) (by omega)) (fun v j1 s1 hv a b => ?_) (by omega)
  refine Drew.ite (fun _ => Drew.ite (fun cl => ?_) (fun _ => Drew.done x s1 rfl (by show x.length ≤ 14; omega) (by omega))) (fun _ => Drew.ite (fun _ => ?_) (fun _ => Drew.done x s1 rfl (by show x.length ≤ 14; omega) (by omega)))
  ·have cl' : (x.length : Int) > 0 := cl; refine Drew.bind (m := 1) (m' := 10) (pick_ok h j1 s1 (x.length : Int) (by omega) (by omega) (by omega)) (fun v4 j4 s4 hv4 a4 b4 => ?_) (by omega); have hw2 : wrap64 ((n : Int) + 2) = (n : Int) + 2 := wrap_id (by omega) (by omega); refine Drew.bind (m := 1) (m' := 5) (pick_ok h j4 s4 _ (by omega) (by omega) (by show wrap64 ((n : Int) + 2) ≤ 200; rw [hw2]; omega)) (fun v5 j5 s5 hv5 a5 b5 => ?_) (by omega); have h1 : 0 ≤ v4 := hv4.1; (have h2 : v4 < (x.length : Int) := by omega); refine Drew.ite (fun _ => Drew.ite (fun _ => ?_) (fun n => absurd h2 n)) (fun n => absurd h1 n); exact Drew.done _ _ rfl (by show (x.set _ _).length ≤ 14; rw [List.length_set]; omega) (by omega)
  exact (word_l1 h 14 k [] 0 j1 s1 (by omega) (by omega) rfl (by omega) (by omega) (by omega)).le (by omega)
 | succ d ih =>
  intro k i x j s hi hx hk hj hj2; obtain ⟨k, rfl⟩ : ∃ m, k = m + 1 := ⟨k - 1, by omega⟩; have hw : wrap64 ((i : Int) + 1) = ((i + 1 : Nat) : Int) := wrap_succ (by omega); rw [spec_l1Cur_word.l0]; refine Drew.ite (fun _ => ?_) (fun c => absurd (show (i : Int) < (n : Int) by omega) c); refine Drew.bind (m := 1) (m' := 2 * d + 21) (pick_ok h j s _ hj (by omega) (by show wrap64 ((i : Int) + 1) ≤ 200; rw [hw]; omega)) (fun v1 j1 s1 hv1 a1 b1 => ?_) (by omega); rw [hw] at hv1; refine Drew.bind (m := 1) (m' := 2 * d + 20) (one_ok h j1 s1 2 (by omega) (by omega) (by omega)) (fun b j2 s2 _ a2 b2 => ?_) (by omega)
  -- a number put in at a place
  have put : ∀ t : Nat, t ≤ x.length → Drew ((spec_l1Own.f (x.take t)).bind fun t130 => (if t130.length < 17592186044416 then ((some (t130 ++ [(i : Int)] : List Int)).bind fun y133 => ((some (x.drop t : List Int)).bind fun y136 => (if y133.length + y136.length < 17592186044416 then (spec_l1Cur_word.l0 k (n : Int) (y133 ++ y136) (wrap64 ((i : Int) + 1)) l j2 s2) else (none)))) else (none))) j2 (2 * d + 20) (fun q => q.length ≤ 14) := by
   intro t ht; refine Drew.some (x.take t) (own_val _ (by rw [List.length_take]; omega)) ?_; (have c1 : (x.take t).length < 17592186044416 := by rw [List.length_take]; omega); refine Drew.ite (fun _ => ?_) (fun n => absurd c1 n); (have c2 : (x.take t ++ [(i : Int)]).length + (x.drop t).length < 17592186044416 := by simp; omega); refine Drew.some _ rfl (Drew.some _ rfl (Drew.ite (fun _ => ?_) (fun n => absurd c2 n))); rw [hw]; exact ih k (i + 1) _ j2 s2 (by omega) (by simp; omega) (by omega) (by omega) (by omega)
  refine Drew.ite (fun _ => ?_) (fun _ => ?_)
  ·(have h1 : (0 : Int) ≤ (i : Int) := by omega); (have h2 : (i : Int) ≤ (x.length : Int) := by omega); refine Drew.ite (fun _ => Drew.ite (fun _ => ?_) (fun n => absurd h2 n)) (fun n => absurd h1 n); exact put (i : Int).toNat (by omega)
  have h1 : 0 ≤ v1 := hv1.1; (have h2 : v1 ≤ (x.length : Int) := by omega); refine Drew.ite (fun _ => Drew.ite (fun _ => ?_) (fun n => absurd h2 n)) (fun n => absurd h1 n); exact put v1.toNat (by omega)
theorem word_ok {l : List Int} (h : Bytes l) (a : Nat) (ha : a ≤ 9) (k : Nat) (hk : 100 ≤ k) (j s : Int) (hj : 0 ≤ j) (hj2 : j ≤ 50000) : Drew (spec_l1Cur_word.f k l j s (a : Int)) j 50 (fun q => q.length ≤ 14) := by
 have hw : wrap64 ((a : Int) + 1) = (a : Int) + 1 := wrap_id (by omega) (by omega); unfold spec_l1Cur_word.f; refine Drew.bind (m := 1) (m' := 40) (pick_ok h j s _ hj (by omega) (by rw [hw]; omega)) (fun v1 j1 s1 hv1 a1 b1 => ?_) (by omega); rw [hw] at hv1; obtain ⟨n, rfl⟩ : ∃ n : Nat, v1 = (n : Int) := ⟨v1.toNat, by omega⟩; exact (word_l0 h n (by omega) n k 0 [] j1 s1 (by omega) rfl (by omega) (by omega) (by omega)).le (by omega)
/-- systems -/
theorem systemN_ok {l : List Int} (h : Bytes l) (a : Nat) (ha : a ≤ 6) (k : Nat) (hk : 400 ≤ k) (j s : Int) (hj : 0 ≤ j) (hj2 : j ≤ 1000) : Drew (spec_l1Cur_system.f k l j s (a : Int)) j 100 (fun q => q.length ≤ 198) := by
 have w7 : wrap64 ((a : Int) + 1) = (a : Int) + 1 := wrap_id (by omega) (by omega); unfold spec_l1Cur_system.f; refine Drew.bind (m := 1) (m' := 50) (pick_ok h j s _ hj (by omega) (by rw [w7]; omega)) (fun v1 j1 s1 hv1 a1 b1 => ?_) (by omega)
 have hw1 : v1 < 7 := by
  rw [w7] at hv1; omega
 refine Drew.bind (m := 12) (m' := 30) (sure_ok h v1 hv1.1 (by omega) k (by omega) j1 s1 (by omega) (by omega)) (fun p j2 s2 hp a2 b2 => ?_) (by omega); have hp : p.length ≤ 12 := hp; have hw2 : wrap64 ((p.length : Int) + 2) = (p.length : Int) + 2 := wrap_id (by omega) (by omega); refine Drew.bind (m := 1) (m' := 20) (pick_ok h j2 s2 16 (by omega) (by omega) (by omega)) (fun v3 j3 s3 hv3 a3 b3 => ?_) (by omega)
 refine Drew.ite (fun _ => ?_) (fun _ => Drew.ite (fun _ => ?_) (fun _ => Drew.ite (fun _ => ?_) (fun _ => Drew.ite (fun _ => ?_) (fun _ => ?_))))
 ·refine Drew.ite (fun cl => ?_) (fun _ => ?_)
  ·have cl' : (p.length : Int) > 0 := cl; refine Drew.bind (m := 1) (m' := 10) (pick_ok h j3 s3 (p.length : Int) (by omega) (by omega) (by omega)) (fun v4 j4 s4 hv4 a4 b4 => ?_) (by omega); refine Drew.bind (m := 1) (m' := 5) (pick_ok h j4 s4 _ (by omega) (by omega) (by show wrap64 ((p.length : Int) + 2) ≤ 200; rw [hw2]; omega)) (fun v5 j5 s5 hv5 a5 b5 => ?_) (by omega); have h1 : 0 ≤ v4 := hv4.1; (have h2 : v4 < (p.length : Int) := by omega); refine Drew.ite (fun _ => Drew.ite (fun _ => ?_) (fun n => absurd h2 n)) (fun n => absurd h1 n); exact Drew.done _ _ rfl (by show (p.set _ _).length ≤ 198; rw [List.length_set]; omega) (by omega)
  exact Drew.done _ _ rfl (by show p.length ≤ 198; omega) (by omega)
 ·(have h2 : p.length < 17592186044416 := by omega); refine Drew.ite (fun _ => ?_) (fun n => absurd h2 n); exact Drew.done _ _ rfl (by show (p ++ [_]).length ≤ 198; rw [List.length_append, List.length_singleton]; omega) (by omega)
 ·refine Drew.bind (m := 1) (m' := 10) (pick_ok h j3 s3 2 (by omega) (by omega) (by omega)) (fun v4 j4 s4 hv4 a4 b4 => ?_) (by omega); obtain ⟨q, eq, hq⟩ := flat_ok (wrap64 (6 + v4)) (by rw [wrap_id (by omega) (by omega)]; omega) (by rw [wrap_id (by omega) (by omega)]; omega) k (by omega); (have hq2 : q.length ≤ 198 := by omega); exact Drew.done q s4 (by show (spec_ahFlat.f k (wrap64 (6 + v4))).bind _ = _; rw [eq]; rfl) hq2 (by omega)
 ·refine Drew.bind (m := 1) (m' := 10) (pick_ok h j3 s3 7 (by omega) (by omega) (by omega)) (fun v4 j4 s4 hv4 a4 b4 => ?_) (by omega); obtain ⟨q, eq, hq⟩ := rain_ok v4 hv4.1 (by omega) k (by omega); (have hq2 : q.length ≤ 198 := by omega); exact Drew.done q s4 (by show (spec_ahRainbow.f k v4).bind _ = _; rw [eq]; rfl) hq2 (by omega)
 exact Drew.done _ _ rfl (by show p.length ≤ 198; omega) (by omega)
/-- pairs -/
theorem pair_ok {l : List Int} (h : Bytes l) (a : Nat) (ha : a ≤ 6) (k : Nat) (hk : 1000 ≤ k) (j s : Int) (hj : 0 ≤ j) (hj2 : j ≤ 500) : Drew2 (spec_l1Cur_pair.f k l j s (a : Int)) j 200 (fun p q => p.length ≤ 198 ∧ q.length ≤ 198) := by
 have hw : wrap64 ((a : Int) + 1) = (a : Int) + 1 := wrap_id (by omega) (by omega); unfold spec_l1Cur_pair.f; refine Drew.bind2 (m := 1) (m' := 190) (pick_ok h j s _ hj (by omega) (by rw [hw]; omega)) (fun n j1 s1 hn a1 b1 => ?_) (by omega); rw [hw] at hn; refine Drew.bind2 (m := 12) (m' := 170) (sure_ok h n hn.1 (by omega) k (by omega) j1 s1 (by omega) (by omega)) (fun p j2 s2 hp a2 b2 => ?_) (by omega); have hp : p.length ≤ 12 := hp; refine Drew.bind2 (m := 12) (m' := 150) (sure_ok h n hn.1 (by omega) k (by omega) j2 s2 (by omega) (by omega)) (fun q j3 s3 hq a3 b3 => ?_) (by omega); have hq : q.length ≤ 12 := hq; refine Drew.bind2 (m := 1) (m' := 120) (pick_ok h j3 s3 16 (by omega) (by omega) (by omega)) (fun v j4 s4 hv a4 b4 => ?_) (by omega)
 refine Drew2.ite (fun _ => ?_) (fun _ => Drew2.ite (fun _ => ?_) (fun _ => Drew2.ite (fun _ => ?_) (fun _ => Drew2.ite (fun _ => ?_) (fun _ => ?_))))
 ·refine Drew.bind2 (m := 100) (m' := 0) (systemN_ok h a ha k (by omega) j4 s4 (by omega) (by omega)) (fun t j5 s5 ht _ _ => ?_) (by omega); have ht : t.length ≤ 198 := ht; exact Drew2.done t q s5 rfl (show t.length ≤ 198 ∧ q.length ≤ 198 by omega) (by omega)
 ·refine Drew.bind2 (m := 100) (m' := 0) (systemN_ok h a ha k (by omega) j4 s4 (by omega) (by omega)) (fun t j5 s5 ht _ _ => ?_) (by omega); have ht : t.length ≤ 198 := ht; exact Drew2.done p t s5 rfl (show p.length ≤ 198 ∧ t.length ≤ 198 by omega) (by omega)
 ·obtain ⟨t, et, ht⟩ := rain_ok n hn.1 (by omega) k (by omega); obtain ⟨u, eu, hu⟩ := flat_ok n hn.1 (by omega) k (by omega); exact Drew2.done t u s4 (by show (spec_ahRainbow.f k n).bind _ = _; rw [et]; show (spec_ahFlat.f k n).bind _ = _; rw [eu]; rfl) (show t.length ≤ 198 ∧ u.length ≤ 198 by omega) (by omega)
 ·exact Drew2.done p p s4 (by show (spec_l1Own.f p).bind _ = _; rw [own_val p (by omega)]; rfl) (show p.length ≤ 198 ∧ p.length ≤ 198 by omega) (by omega)
 exact Drew2.done p q s4 rfl (show p.length ≤ 198 ∧ q.length ≤ 198 by omega) (by omega)
/-- all systems of n arches are good ones of 2 n points -/
def listedS (n : Nat) : Bool := match spec_ahAll.f 3000 (n : Int) 0 with
 | some l => decide (l.length ≤ 200) && l.all fun p => good p && p.length == 2 * n
 | _ => false
set_option maxRecDepth 100000 in
theorem listedS_all : ∀ n : Fin 7, listedS n.val = true := by decide +kernel
theorem upF {α : Type} {g : Nat → Option α} (hm : ∀ k, LeO (g k) (g (k + 1))) {r : α} {k : Nat} (h : g k = some r) : ∀ d, g (k + d) = some r
 | 0 => h
 | d + 1 => hm _ r (upF hm h d)
theorem allS_ok (n : Nat) (hn : n ≤ 6) : ∃ l, (∀ k, 3000 ≤ k → spec_ahAll.f k (n : Int) 0 = some l) ∧ l.length ≤ 200 ∧ ∀ p ∈ l, good p = true ∧ p.length = 2 * n := by
 have h := listedS_all ⟨n, by omega⟩; unfold listedS at h
 split at h
 ·rename_i l e; simp only [Bool.and_eq_true, decide_eq_true_eq, List.all_eq_true, beq_iff_eq] at h; refine ⟨l, fun k hk => ?_, h.1, h.2⟩; obtain ⟨d, rfl⟩ : ∃ d, k = 3000 + d := ⟨k - 3000, by omega⟩; exact upF (g := fun k => spec_ahAll.f k (n : Int) 0) (fun k => spec_ahAll.mono _ _ k) e d
 cases h
theorem rdL2_at {L : List (List Int)} {i : Nat} (h : i < L.length) : rd_L2 L (i : Int) = L[i] := by
 unfold rd_L2; simp [h]
theorem closing_l0 {p : List Int} (hg : good p = true) (L : List (List Int)) (hL : L.length ≤ 200) (hall : ∀ q ∈ L, good q = true ∧ q.length = p.length) (d : Nat) : ∀ (k i : Nat) (acc : List (List Int)), i + d = L.length → d + 1000 ≤ k → acc.length ≤ i → (∀ q ∈ acc, q.length = p.length) →
  ∃ R, spec_meClosing.l0 k p 1 acc L (L.length : Int) (i : Int) = some R ∧ R.length ≤ 200 ∧ ∀ q ∈ R, q.length = p.length := by
 induction d with
 | zero =>
  intro k i acc hi hk ha hq; obtain ⟨k, rfl⟩ : ∃ m, k = m + 1 := ⟨k - 1, by omega⟩; rw [spec_meClosing.l0, if_neg (by omega)]; exact ⟨acc, rfl, by omega, hq⟩
 | succ d ih =>
  intro k i acc hi hk ha hq; obtain ⟨k, rfl⟩ : ∃ m, k = m + 1 := ⟨k - 1, by omega⟩; (have hlt : i < L.length := by omega); have hx := hall _ (List.getElem_mem hlt); have hP : Pair p L[i] := ⟨hg, hx.1, hx.2.symm⟩; rw [spec_meClosing.l0, if_pos (by omega), if_pos (by omega), if_pos (by omega), rdL2_at hlt, count_ev hP k (by omega), Option.bind_some, wrap_succ (by omega)]
  by_cases c : (((colours (qof p) (qof L[i]) p.length).2 : Nat) : Int) = 1
  ·rw [if_pos c, if_pos (by omega)]
   exact ih k (i + 1) _ (by omega) (by omega) (by simp; omega) (fun q hm => by
    rcases List.mem_append.1 hm with h | h
    ·exact hq q h
    rw [List.mem_singleton.1 h]; exact hx.2)
  rw [if_neg c]; exact ih k (i + 1) acc (by omega) (by omega) (by omega) hq
theorem closing_ok {p : List Int} (hg : good p = true) (k : Nat) (hk : 4000 ≤ k) : ∃ R, spec_meClosing.f k p 1 = some R ∧ R.length ≤ 200 ∧ ∀ q ∈ R, q.length = p.length := by
 have h12 := (good_len hg).1
 have hev : p.length % 2 = 0 := by
  unfold good at hg; simp only [Bool.and_eq_true, decide_eq_true_eq] at hg; exact hg.1
 obtain ⟨L, hL, h1, h2⟩ := allS_ok (p.length / 2) (by omega); unfold spec_meClosing.f; rw [show wrap64 ((p.length : Int) / 2) = ((p.length / 2 : Nat) : Int) by rw [wrap_id (by omega) (by omega)]; omega, hL k (by omega), Option.bind_some]; exact closing_l0 hg L h1 (fun q hq => ⟨(h2 q hq).1, by have := (h2 q hq).2; omega⟩) L.length k 0 [] (by omega) (by omega) (by simp) (by simp)
/-- meanders -/
theorem single_ok {l : List Int} (h : Bytes l) (a : Nat) (ha : a ≤ 6) (k : Nat) (hk : 5000 ≤ k) (j s : Int) (hj : 0 ≤ j) (hj2 : j ≤ 500) : Drew2 (spec_l1Cur_single.f k l j s (a : Int)) j 210 (fun p q => p.length ≤ 198 ∧ q.length ≤ 198) := by
 unfold spec_l1Cur_single.f; refine Drew2.bind2 (m := 200) (m' := 10) (pair_ok h a ha k (by omega) j s hj hj2) (fun p q j1 s1 hpq a1 b1 => ?_) (by omega); have hpq : p.length ≤ 198 ∧ q.length ≤ 198 := hpq; refine Drew2.some (o := none) (pairB p q) (mePair_ev p q (by omega) (by omega) k (by omega)) ?_; obtain ⟨k, rfl⟩ : ∃ m, k = m + 1 := ⟨k - 1, by omega⟩
 have out : ∀ j2 s2, j1 ≤ j2 → j2 ≤ j1 + 1 → Drew2 (spec_l1Cur_single.j0 (k + 1) true l j2 s2 p q) j2 5 (fun p q => p.length ≤ 198 ∧ q.length ≤ 198) := by
  intro j2 s2 _ _; rw [spec_l1Cur_single.j0, if_pos rfl]; exact Drew2.done p q s2 rfl hpq (by omega)
 refine Drew2.ite (fun hp => ?_) (fun _ => ?_)
 ·have hP := pairB_pair hp; refine Drew.bind2 (m := 1) (m' := 5) (one_ok h j1 s1 8 (by omega) (by omega) (by omega)) (fun b j2 s2 _ a2 b2 => ?_) (by omega)
  cases b with
  | true => exact out j2 s2 a2 b2
  | false =>
   show Drew2 (spec_l1Cur_single.j0 (k + 1) false l j2 s2 p q) j2 5 _; rw [spec_l1Cur_single.j0, if_neg (by simp)]; obtain ⟨R, eR, hR, hRq⟩ := closing_ok hP.gp k (by omega); refine Drew2.some (o := none) R eR ?_; refine Drew2.ite (fun hpos => ?_) (fun _ => Drew2.done p q s2 rfl hpq (by omega)); have hpos' : (R.length : Int) > 0 := hpos; refine Drew.bind2 (m := 1) (m' := 0) (pick_ok h j2 s2 (R.length : Int) (by omega) (by omega) (by omega)) (fun v j3 s3 hv a3 b3 => ?_) (by omega); have h1 : 0 ≤ v := hv.1; (have h2 : v < (R.length : Int) := by omega); refine Drew2.ite (fun _ => Drew2.ite (fun _ => ?_) (fun n => absurd h2 n)) (fun n => absurd h1 n); obtain ⟨m, rfl⟩ : ∃ m : Nat, v = (m : Int) := ⟨v.toNat, by omega⟩; have hm := hRq _ (List.getElem_mem (l := R) (n := m) (by omega)); refine Drew2.some (o := none) R[m] (by show spec_l1Own.f (rd_L2 R (m : Int)) = _; rw [rdL2_at (by omega)]; exact own_val _ (by omega)) ?_; exact Drew2.done p R[m] s3 rfl (show p.length ≤ 198 ∧ R[m].length ≤ 198 by omega) (by omega)
 have := out j1 s1 (by omega) (by omega); obtain ⟨p', q', j', s', e, hv, h3, h4⟩ := this.ok; exact ⟨p', q', j', s', e, hv, h3, by omega⟩
theorem drawMeander_ok {l : List Int} (h : Bytes l) (k : Nat) (hk : 5000 ≤ k) : ∃ p q, p.length ≤ 198 ∧ q.length ≤ 198 ∧ spec_DrawIsMeander.f k l = some (p, q) := by
 obtain ⟨p, q, j, s, e, hpq, _⟩ := (single_ok h 5 (by omega) k hk 0 0 (by omega) (by omega)).ok; have hpq : p.length ≤ 198 ∧ q.length ≤ 198 := hpq; refine ⟨p, q, hpq.1, hpq.2, ?_⟩; unfold spec_DrawIsMeander.f; have e' : spec_l1Cur_single.f k l 0 0 5 = some (p, q, j, s) := e; rw [e']; rfl
/-- words of meanders -/
theorem closedWord_ok {l : List Int} (h : Bytes l) (k : Nat) (hk : 6000 ≤ k) (j s : Int) (hj : 0 ≤ j) (hj2 : j ≤ 400) : Drew (spec_l1Cur_closedWord.f k l j s) j 300 (fun w => w.length ≤ 24) := by
 unfold spec_l1Cur_closedWord.f; refine Drew2.bind (m := 210) (m' := 80) (single_ok h 5 (by omega) k (by omega) j s hj (by omega)) (fun p q j1 s1 hpq a1 b1 => ?_) (by omega); have hpq : p.length ≤ 198 ∧ q.length ≤ 198 := hpq; refine Drew.some (meander p q) (peSingle_ev p q (by omega) (by omega) k (by omega)) ?_; obtain ⟨k, rfl⟩ : ∃ m, k = m + 1 := ⟨k - 1, by omega⟩
 have out : ∀ j2 s2, j1 ≤ j2 → j2 ≤ j1 + 1 → Drew (spec_l1Cur_closedWord.j0 (k + 1) true l j2 s2 p q) j2 60 (fun w => w.length ≤ 24) := by
  intro j2 s2 _ _; rw [spec_l1Cur_closedWord.j0, if_pos rfl]; refine Drew.bind (m := 50) (m' := 0) (word_ok h 8 (by omega) k (by omega) j2 s2 (by omega) (by omega)) (fun w j3 s3 hw _ _ => ?_) (by omega); have hw : w.length ≤ 14 := hw; exact Drew.done w s3 rfl (by show w.length ≤ 24; omega) (by omega)
 refine Drew.ite (fun hp => ?_) (fun _ => ?_)
 ·have hp : meander p q = true := hp; refine Drew.bind (m := 1) (m' := 70) (one_ok h j1 s1 5 (by omega) (by omega) (by omega)) (fun b j2 s2 _ a2 b2 => ?_) (by omega)
  cases b with
  | true => exact (out j2 s2 a2 b2).le (by omega)
  | false =>
   obtain ⟨hP, hn, _⟩ := meander_one hp; show Drew (spec_l1Cur_closedWord.j0 (k + 1) false l j2 s2 p q) j2 70 _; rw [spec_l1Cur_closedWord.j0, if_neg (by simp)]; refine Drew.some (word p q) (sway_ev hP 0 hn k (by omega)) ?_; exact Drew.done (word p q) s2 rfl (word_len hp) (by omega)
 exact (out j1 s1 (by omega) (by omega)).le (by omega)
/-- open words -/
theorem peAll_ok (n : Nat) (hn : n ≤ 7) (k : Nat) (hk : 2000 ≤ k) : spec_peAll.f k [] (n : Int) = some (words n n []) := (both_words n hn n [] k (by simp) (by omega)).1
theorem rest_words (n : Nat) (d : Nat) : ∀ (l : List Int), ∀ w ∈ words n d l, w.length = l.length + d := by
 induction d with
 | zero => intro l w hw; rw [words, List.mem_singleton] at hw; rw [hw]; rfl
 | succ d ih =>
  intro l w hw; rw [words, List.mem_flatMap] at hw; obtain ⟨x, _, hw⟩ := hw
  split at hw
  ·cases hw
  have := ih _ w hw; rw [List.length_append, List.length_singleton] at this; omega
set_option maxRecDepth 100000 in
theorem words_small : ∀ n : Fin 6, 0 < (words n n []).length ∧ (words n n []).length ≤ 200 := by decide +kernel
theorem openWord_ok {l : List Int} (h : Bytes l) (k : Nat) (hk : 7000 ≤ k) (j s : Int) (hj : 0 ≤ j) (hj2 : j ≤ 300) : Drew (spec_l1Cur_openWord.f k l j s) j 400 (fun w => w.length ≤ 24) := by
 unfold spec_l1Cur_openWord.f; refine Drew.bind (m := 1) (m' := 390) (one_ok h j s 4 hj (by omega) (by omega)) (fun b j1 s1 _ a1 b1 => ?_) (by omega)
 refine Drew.ite (fun _ => ?_) (fun _ => ?_)
 ·refine Drew.bind (m := 50) (m' := 0) (word_ok h 7 (by omega) k (by omega) j1 s1 (by omega) (by omega)) (fun w j3 s3 hw _ _ => ?_) (by omega); have hw : w.length ≤ 14 := hw; exact Drew.done w s3 rfl (by show w.length ≤ 24; omega) (by omega)
 refine Drew.bind (m := 1) (m' := 380) (one_ok h j1 s1 2 (by omega) (by omega) (by omega)) (fun b2 j2 s2 _ a2 b2' => ?_) (by omega)
 refine Drew.ite (fun _ => ?_) (fun _ => ?_)
 ·refine Drew.bind (m := 300) (m' := 10) (closedWord_ok h k (by omega) j2 s2 (by omega) (by omega)) (fun w j3 s3 hw a3 b3 => ?_) (by omega); have hw : w.length ≤ 24 := hw; have hw1 : wrap64 ((w.length : Int) + 1) = (w.length : Int) + 1 := wrap_id (by omega) (by omega); refine Drew.bind (m := 1) (m' := 0) (pick_ok h j3 s3 _ (by omega) (by omega) (by show wrap64 ((w.length : Int) + 1) ≤ 200; rw [hw1]; omega)) (fun v j4 s4 hv a4 b4 => ?_) (by omega); rw [hw1] at hv; have h1 : 0 ≤ v := hv.1; (have h2 : v ≤ (w.length : Int) := by omega); refine Drew.ite (fun _ => Drew.ite (fun _ => ?_) (fun n => absurd h2 n)) (fun n => absurd h1 n); exact Drew.done _ s4 rfl (by show (w.take v.toNat).length ≤ 24; rw [List.length_take]; omega) (by omega)
 refine Drew.bind (m := 1) (m' := 10) (pick_ok h j2 s2 6 (by omega) (by omega) (by omega)) (fun v j3 s3 hv a3 b3 => ?_) (by omega); obtain ⟨n, rfl⟩ : ∃ n : Nat, v = (n : Int) := ⟨v.toNat, by omega⟩; (have hn : n ≤ 5 := by omega); obtain ⟨hpos, hle⟩ := words_small ⟨n, by omega⟩; have hpos : 0 < (words n n []).length := hpos; have hle : (words n n []).length ≤ 200 := hle; refine Drew.some (words n n []) (peAll_ok n (by omega) k (by omega)) ?_; refine Drew.bind (m := 1) (m' := 0) (pick_ok h j3 s3 ((words n n []).length : Int) (by omega) (by omega) (by omega)) (fun v j4 s4 hv a4 b4 => ?_) (by omega); have h1 : 0 ≤ v := hv.1; (have h2 : v < ((words n n []).length : Int) := by omega); refine Drew.ite (fun _ => Drew.ite (fun _ => ?_) (fun n => absurd h2 n)) (fun n => absurd h1 n); obtain ⟨m, rfl⟩ : ∃ m : Nat, v = (m : Int) := ⟨v.toNat, by omega⟩; have hm := rest_words n n [] _ (List.getElem_mem (l := words n n []) (n := m) (by omega)); refine Drew.done (words n n [])[m] s4 (by show some (rd_L2 (words n n []) (m : Int), j4, s4) = _; rw [rdL2_at (by omega)]) ?_ (by omega); rw [hm]; simp; omega
theorem drawOpen_ok {l : List Int} (h : Bytes l) (k : Nat) (hk : 7000 ≤ k) : ∃ w, w.length ≤ 24 ∧ spec_DrawIsOpenPermutation.f k l = some w := by
 obtain ⟨w, j, s, e, hw, _⟩ := (openWord_ok h k hk 0 0 (by omega) (by omega)).ok; exact ⟨w, hw, by unfold spec_DrawIsOpenPermutation.f; rw [e]; rfl⟩
theorem drawClosed_ok {l : List Int} (h : Bytes l) (k : Nat) (hk : 7000 ≤ k) : ∃ w, w.length ≤ 24 ∧ spec_DrawFromPermutation.f k l = some w := by
 obtain ⟨w, j, s, e, hw, _⟩ := (closedWord_ok h k (by omega) 0 0 (by omega) (by omega)).ok; exact ⟨w, hw, by unfold spec_DrawFromPermutation.f; rw [e]; rfl⟩
theorem drawWord_ok {l : List Int} (h : Bytes l) (k : Nat) (hk : 7000 ≤ k) : ∃ w, w.length ≤ 24 ∧ spec_DrawCrossingOf.f k l = some w := by
 obtain ⟨w, j, s, e, hw, _⟩ := (word_ok h 9 (by omega) k (by omega) 0 0 (by omega) (by omega)).ok; have hw : w.length ≤ 14 := hw; have e' : spec_l1Cur_word.f k l 0 0 9 = some (w, j, s) := e; exact ⟨w, by omega, by unfold spec_DrawCrossingOf.f; rw [e']; rfl⟩
theorem clone_val (l : List Int) (h : l.length ≤ 1000) : slices_Clone_int_int.f l = some l := by
 unfold slices_Clone_int_int.f; rw [if_pos (by omega)]
theorem fromW_yes (l : List Int) (hp : closedB l = true) : ∃ r s, MeaIs l r s l.length ∧ ∀ k, 2000 ≤ k → spec_FromPermutation.f k l = some (r, s, true) ∧ impl_FromPermutation.f k l = some (r, s, true) := by
 have h12 := ptsB_len (closedB_pts hp); obtain ⟨r, s, hM, h⟩ := meaV_ev l h12 (ptsB_word (closedB_pts hp)) (closedB_even hp); refine ⟨r, s, hM, fun k hk => ?_⟩; unfold spec_FromPermutation.f impl_FromPermutation.f; rw [peClosed_ev l (by omega) k (by omega), isMeanderWord_ev l k (by omega), hp]; simp only [Option.bind_some, if_true]; rw [(h k (by omega)).1, (h k (by omega)).2]; exact ⟨rfl, rfl⟩
theorem fromW_no (l : List Int) (hl : l.length ≤ 1000) (hp : closedB l = false) (k : Nat) (hk : 3000 ≤ k) : spec_FromPermutation.f k l = some ([], [], false) ∧ impl_FromPermutation.f k l = some ([], [], false) := by
 unfold spec_FromPermutation.f impl_FromPermutation.f; rw [peClosed_ev l (by omega) k (by omega), isMeanderWord_ev l k (by omega), hp]; exact ⟨rfl, rfl⟩
/-- does an open word close -/
def otcB (l : List Int) : Bool := openB l && (decide (l.length % 2 = 1 ∧ l.getD 0 0 = 0) && closedB (l ++ [(l.length : Int)]))
theorem otc_all (l : List Int) (hl : l.length ≤ 1000) (A : List Int × List Int × Bool) (hno : otcB l = false → A = ([], [], false))
  (hyes : otcB l = true → ∀ k, 2000 ≤ k → spec_FromPermutation.f k (l ++ [(l.length : Int)]) = some A ∧ impl_FromPermutation.f k (l ++ [(l.length : Int)]) = some A) (k : Nat) (hk : 4000 ≤ k) : spec_OpenToClosed.f k l = some A ∧ impl_OpenToClosed.f k l = some A := by
 obtain ⟨k, rfl⟩ : ∃ m, k = m + 2 := ⟨k - 2, by omega⟩; (have js : spec_OpenToClosed.j0 (k + 2) l true = some ([], [], false) := by rw [spec_OpenToClosed.j0, if_pos rfl]); (have ji : impl_OpenToClosed.j0 (k + 2) l true = some ([], [], false) := by rw [impl_OpenToClosed.j0, if_pos rfl]); by_cases ho : openB l = true
 case neg =>
  rw [hno (by unfold otcB; rw [Bool.eq_false_iff.mpr ho]; rfl)]; unfold spec_OpenToClosed.f impl_OpenToClosed.f; rw [peOpen_ev l (by omega) (k + 2) (by omega), isPoints_ev l (k + 2) (by omega), Option.bind_some, Option.bind_some, if_neg ho, js]; refine ⟨rfl, ?_⟩
  cases hp : ptsB l with
  | false => rw [if_neg (by simp), ji]
  | true =>
   rw [if_pos rfl, icrossing_ev l (ptsB_len hp) (k + 2) (by omega), Option.bind_some, if_neg, ji]; intro e; apply ho; unfold openB; rw [hp, e]; rfl
 (have hp : ptsB l = true := by unfold openB at ho; simp only [Bool.and_eq_true] at ho; exact ho.1); (have hc : (crs l).1 = [] := by unfold openB at ho; simp only [Bool.and_eq_true, decide_eq_true_eq] at ho; exact ho.2); have h12 := ptsB_len hp
 by_cases h2 : l.length % 2 = 0
 ·rw [hno (by unfold otcB; rw [ho, decide_eq_false (by omega : ¬ (l.length % 2 = 1 ∧ l.getD 0 0 = 0))]; rfl)]; unfold spec_OpenToClosed.f impl_OpenToClosed.f; rw [peOpen_ev l (by omega) (k + 2) (by omega), isPoints_ev l (k + 2) (by omega), Option.bind_some, Option.bind_some, if_pos ho, if_pos hp, icrossing_ev l h12 (k + 2) (by omega), Option.bind_some, if_pos hc, if_pos (by omega), if_neg (by omega), js, ji]; exact ⟨rfl, rfl⟩
 have hz : rd l 0 = l.getD 0 0 := rd_nat l 0; by_cases h3 : rd l 0 = 0
 case neg =>
  rw [hno (by unfold otcB; rw [ho, decide_eq_false (by rw [← hz]; exact fun h => h3 h.2 : ¬ (l.length % 2 = 1 ∧ l.getD 0 0 = 0))]; rfl)]; unfold spec_OpenToClosed.f impl_OpenToClosed.f; rw [peOpen_ev l (by omega) (k + 2) (by omega), isPoints_ev l (k + 2) (by omega), Option.bind_some, Option.bind_some, if_pos ho, if_pos hp, icrossing_ev l h12 (k + 2) (by omega), Option.bind_some, if_pos hc, if_neg (by omega), if_pos (by omega), if_neg h3, if_pos (by omega), if_pos (by omega), show (rd l 0 != 0) = true from bne_iff_ne.mpr h3, js, ji]; exact ⟨rfl, rfl⟩
 have he : otcB l = closedB (l ++ [(l.length : Int)]) := by
  unfold otcB; rw [ho, decide_eq_true (⟨by omega, by rw [← hz]; exact h3⟩ : l.length % 2 = 1 ∧ l.getD 0 0 = 0), Bool.true_and, Bool.true_and]
 have hA : spec_FromPermutation.f (k + 1) (l ++ [(l.length : Int)]) = some A ∧ impl_FromPermutation.f (k + 1) (l ++ [(l.length : Int)]) = some A := by
  cases hcl : closedB (l ++ [(l.length : Int)]) with
  | true => exact hyes (he.trans hcl) (k + 1) (by omega)
  | false => rw [hno (he.trans hcl)]; exact fromW_no _ (by simp; omega) hcl (k + 1) (by omega)
 obtain ⟨hs, hi⟩ := hA; obtain ⟨y, hy⟩ : ∃ y, y = l ++ [(l.length : Int)] := ⟨_, rfl⟩; rw [← hy] at hs hi; unfold spec_OpenToClosed.f impl_OpenToClosed.f; rw [peOpen_ev l (by omega) (k + 2) (by omega), isPoints_ev l (k + 2) (by omega), Option.bind_some, Option.bind_some, if_pos ho, if_pos hp, icrossing_ev l h12 (k + 2) (by omega), Option.bind_some, if_pos hc, if_neg (by omega), if_pos (by omega), if_pos h3, if_pos (by omega), if_pos (by omega), show (rd l 0 != 0) = false from by rw [h3]; rfl, show ((l.length : Int) == 12) = false from by rw [beq_eq_false_iff_ne]; omega]; rw [spec_OpenToClosed.j0, impl_OpenToClosed.j0, if_neg (by simp), if_neg (by simp), own_val l (by omega), clone_val l (by omega)]; unfold spec_FromPermutation.f at hs; (have hlt : l.length < 17592186044416 := by omega); simp only [Option.bind_some, if_pos hlt, ← hy, hi]; exact ⟨hs, trivial⟩
theorem otc_no (l : List Int) (hl : l.length ≤ 1000) (h : otcB l = false) (k : Nat) (hk : 4000 ≤ k) : spec_OpenToClosed.f k l = some ([], [], false) ∧ impl_OpenToClosed.f k l = some ([], [], false) :=
 otc_all l hl _ (fun _ => rfl) (fun h2 => by rw [h] at h2; cases h2) k hk
theorem otc_closed {l : List Int} (h : otcB l = true) : Closed (l ++ [(l.length : Int)]) := by
 unfold otcB at h; simp only [Bool.and_eq_true] at h; exact (closed_iff _).1 h.2.2
theorem otc_yes (l : List Int) (hl : l.length ≤ 1000) (h : otcB l = true) : ∃ r s, MeaIs (l ++ [(l.length : Int)]) r s (l ++ [(l.length : Int)]).length ∧ ∀ k, 4000 ≤ k → spec_OpenToClosed.f k l = some (r, s, true) ∧ impl_OpenToClosed.f k l = some (r, s, true) := by
 obtain ⟨r, s, hM, hr⟩ := fromW_yes (l ++ [(l.length : Int)]) ((closed_iff _).2 (otc_closed h)); exact ⟨r, s, hM, fun k hk => otc_all l hl (r, s, true) (fun h2 => by rw [h] at h2; cases h2) (fun _ k hk => hr k hk) k hk⟩
/-- an open word closes -/
theorem open_of_closed {w : List Int} (h : Closed (w ++ [(w.length : Int)])) : otcB w = true ∧ openB w = true := by
 (have hlen : (w ++ [(w.length : Int)]).length = w.length + 1 := by simp); have hl := h.len; have hev := h.even; rw [hlen] at hl hev; have hw := h.word
 have hget : ∀ i, i < w.length → (w ++ [(w.length : Int)]).getD i 0 = w.getD i 0 := fun i hi => by
  rw [List.getD_eq_getElem?_getD, List.getElem?_append_left hi, ← List.getD_eq_getElem?_getD]
 have hwb : wordB w = true := by
  unfold wordB inR at hw ⊢; rw [Bool.and_eq_true, List.all_eq_true, decide_eq_true_eq] at hw ⊢; obtain ⟨h1, h2⟩ := hw; rw [List.pairwise_append] at h2; refine ⟨fun x hx => ?_, h2.1⟩; have h3 := of_decide_eq_true (h1 x (List.mem_append.2 (.inl hx))); have h4 := h2.2.2 x hx (w.length : Int) (by simp); rw [hlen] at h3; exact decide_eq_true (by omega)
 have ho : openB w = true := by
  unfold openB ptsB
  have hc : (crs w).1 = [] := crs_of fun i m h1 h2 h3 => by
   have := h.noX i m h1 h2 (by rw [hlen]; omega); unfold c4 at this ⊢; rw [hget i (by omega), hget (i + 1) (by omega), hget m (by omega), hget (m + 1) (by omega)] at this; exact this
  rw [hwb, decide_eq_true hc]; simp; omega
 have hz := h.zero; rw [hget 0 (by omega)] at hz; refine ⟨?_, ho⟩; unfold otcB; rw [ho, decide_eq_true (⟨by omega, hz⟩ : w.length % 2 = 1 ∧ w.getD 0 0 = 0), (closed_iff _).2 h]; rfl
theorem sperm_ans (a b : List Int) (ha : a.length ≤ 1000) (hb : b.length ≤ 1000) (k : Nat) (hk : 4000 ≤ k) : spec_PermutationOf.f k a b = some (if meander a b = true then (word a b, true) else ([], false)) := by
 unfold spec_PermutationOf.f; rw [peSingle_ev a b (by omega) (by omega) k (by omega), Option.bind_some]
 cases h : meander a b with
 | false => rfl
 | true =>
  obtain ⟨hP, h0, _⟩ := meander_one h; have := sway_ev hP 0 h0 k (by omega); rw [Int.natCast_zero] at this; rw [if_pos rfl, this]; rfl
/-- does a meander open -/
def ctoB (a b : List Int) : Bool := meander a b && decide ((word a b).getD ((word a b).length - 1) 0 = (((word a b).length - 1 : Nat) : Int))
theorem cto_ans (a b : List Int) (ha : a.length ≤ 1000) (hb : b.length ≤ 1000) (k : Nat) (hk : 4000 ≤ k) :
  spec_ClosedToOpen.f k a b = some (if ctoB a b = true then ((word a b).take ((word a b).length - 1), true) else ([], false)) ∧ impl_ClosedToOpen.f k a b = some (if ctoB a b = true then ((word a b).take ((word a b).length - 1), true) else ([], false)) := by
 have hp := perm_ev a b (by omega) (by omega) k (by omega); unfold ctoB
 cases h : meander a b with
 | false =>
  rw [h] at hp; unfold spec_ClosedToOpen.f impl_ClosedToOpen.f; rw [peSingle_ev a b (by omega) (by omega) k (by omega), h, hp]; exact ⟨rfl, rfl⟩
 | true =>
  rw [h, if_pos rfl] at hp; obtain ⟨hP, h0, hall⟩ := meander_one h; have hwl := word_len h; have hs := sway_ev hP 0 h0 k (by omega); rw [Int.natCast_zero] at hs
  have hne : 1 ≤ (word a b).length := by
   have h1 := List.length_pos_of_mem (hall 0 h0); unfold word; rw [ints_length]; omega
  have hs2 : spec_meWay.f k a b 0 = some (word a b) := hs; generalize word a b = R at hp hwl hne hs2 ⊢; have hw : wrap64 ((R.length : Int) - 1) = ((R.length - 1 : Nat) : Int) := by rw [wrap_id (by omega) (by omega)]; omega
  have hcut : impl_ClosedToOpen.cut R = if R.getD (R.length - 1) 0 = ((R.length - 1 : Nat) : Int) then some (R.take (R.length - 1), true) else some ([], false) := by
   unfold impl_ClosedToOpen.cut; rw [if_pos ⟨hne, by omega⟩]
  have himp : impl_ClosedToOpen.f k a b = if R.getD (R.length - 1) 0 = ((R.length - 1 : Nat) : Int) then some (R.take (R.length - 1), true) else some ([], false) := by
   unfold impl_ClosedToOpen.f; rw [hp, Option.bind_some]; exact hcut
  have hspec : spec_ClosedToOpen.f k a b = if R.getD (R.length - 1) 0 = ((R.length - 1 : Nat) : Int) then some (R.take (R.length - 1), true) else some ([], false) := by
   unfold spec_ClosedToOpen.f; rw [peSingle_ev a b (by omega) (by omega) k (by omega), h, Option.bind_some, if_pos rfl, hs2, Option.bind_some, hw, if_pos (by omega), if_pos (by omega), rd_nat]
   by_cases hc : R.getD (R.length - 1) 0 = ((R.length - 1 : Nat) : Int)
   ·rw [if_pos hc, if_pos (by omega), if_pos hc, Int.toNat_natCast, own_val _ (by rw [List.length_take]; omega)]; rfl
   rw [if_neg hc, if_neg hc]
  rw [himp, hspec, Bool.true_and]
  by_cases hc : R.getD (R.length - 1) 0 = ((R.length - 1 : Nat) : Int)
  ·rw [if_pos hc, if_pos (decide_eq_true hc)]; exact ⟨rfl, rfl⟩
  rw [if_neg hc, if_neg (by rw [decide_eq_false hc]; simp)]; exact ⟨rfl, rfl⟩
theorem isMeander_yes (a b : List Int) (h : meander a b = true) (k : Nat) (hk : 2000 ≤ k) : impl_IsMeander.f k a b = some (true, true) := by
 have h2 := h; unfold meander at h2; rw [Bool.and_eq_true] at h2; unfold impl_IsMeander.f; rw [isPair_ev a b k (by omega), h2.1, Option.bind_some, if_pos rfl, isOne_ev (pairB_pair h2.1) k (by omega), h2.2]; rfl
theorem isOpen_ans (l : List Int) (k : Nat) (hk : 1000 ≤ k) : impl_IsOpenPermutation.f k l = some (openB l, decide (l.length ≤ 12)) := by
 unfold impl_IsOpenPermutation.f openB; rw [isPoints_ev l k (by omega), Option.bind_some]
 cases hp : ptsB l with
 | false => simp; omega
 | true =>
  rw [if_pos rfl, icrossing_ev l (ptsB_len hp) k (by omega), Option.bind_some, Bool.true_and]; have h12 := ptsB_len hp; rw [nil_beq, decide_eq_true h12, decide_eq_true (by omega : (l.length : Int) ≤ 12)]
theorem sSame_l0 (l : List Int) (hl : l.length ≤ 1048576) (d : Nat) : ∀ (k i : Nat), i + d = l.length → d < k → laws_sSame.l0 k l l (l.length : Int) (i : Int) = some true := by
 induction d with
 | zero =>
  intro k i hi hk; obtain ⟨k, rfl⟩ : ∃ m, k = m + 1 := ⟨k - 1, by omega⟩; rw [laws_sSame.l0, if_neg (by omega)]
 | succ d ih =>
  intro k i hi hk; obtain ⟨k, rfl⟩ : ∃ m, k = m + 1 := ⟨k - 1, by omega⟩; rw [laws_sSame.l0, if_pos (by omega), if_pos (by omega), if_pos (by omega), if_pos (by omega), if_pos rfl, wrap_succ (by omega)]; exact ih k (i + 1) (by omega) (by omega)
theorem sSame_ev (l : List Int) (hl : l.length ≤ 1000) (k : Nat) (hk : 1100 ≤ k) : laws_sSame.f k l l = some true := by
 unfold laws_sSame.f; rw [if_pos rfl]; exact sSame_l0 l (by omega) l.length k 0 (by omega) (by omega)
theorem sSamePair_ev (a b : List Int) (ha : a.length ≤ 1000) (hb : b.length ≤ 1000) (k : Nat) (hk : 1100 ≤ k) : laws_sSamePair.f k a b a b = some true := by
 unfold laws_sSamePair.f; rw [sSame_ev a ha k hk, Option.bind_some, if_pos rfl, sSame_ev b hb k hk]; rfl
theorem big_ans (l0 l1 : List Int) (h0 : l0.length ≤ maxLen) (h1 : l1.length ≤ maxLen) : laws_big.f l0 l1 = some (!decide (l0.length + l1.length ≤ 1048576)) := by
 unfold maxLen at h0 h1; unfold laws_big.f
 by_cases hb : (l0.length : Int) > 1048576
 ·rw [if_pos hb, decide_eq_false (by omega)]; rfl
 rw [if_neg hb, wrap_id (by omega) (by omega)]
 congr 1
 rw [← decide_not, decide_eq_decide]; omega

end Go.Proofs.Ytldbkkfkgfacdaa.Pure
