/- A row that was cut (w[:n:n]) marked and read: the whole row is told, the cut is its beginning. By hand, after our driver's print of laws.markIntS. -/
import Derived.Test.YteflkoghligofaaC5
set_option linter.unusedVariables false
namespace Go.Proofs.Yteflkoghligofaa.C
open Go.RowKit Go.Proofs.YteflkoghligofaaW.PrintWords Go.Proofs.YteflkoghligofaaW.PrintLast Go.Proofs.YteflkoghligofaaW.PrintMore
theorem set_take {α : Type} (y : List α) (n i : Nat) (v : α) : (y.set i v).take n = (y.take n).set i v := by
  rw [List.take_set]
theorem set_drop {α : Type} (y : List α) (n i : Nat) (v : α) (h : i < n) : (y.set i v).drop n = y.drop n := by
  rw [List.drop_set, if_pos h]
set_option maxHeartbeats 8000000 in
set_option maxRecDepth 100000 in
theorem markIntS_cut (k : Nat) (P0_ : Nat → Prop) (A0 : Option Addr) (cap n : Nat) (l0 : List Int) (hn : n ≤ l0.length) (a1 : Int) (r1 : Int) (r2 : List Int) (w0 w : World) (hB : Below w0.heap.size w0 w) (ho0 : Kd.R (Kd.int .i64) 3 w w0.heap.size P0_ (.slice A0 l0.length cap) l0) (h : laws_markIntS.f k (l0.take n) a1 = some (r1, r2)) :
    Calls Try.prog 17 #[.slice A0 n n, .int .i64 a1] w fun e w' => e = .returned (.int .i64 r1) ∧ Kd.R (Kd.int .i64) 3 w' w0.heap.size P0_ (.slice A0 l0.length cap) (r2 ++ l0.drop n) ∧ Below w0.heap.size w0 w' ∧ Kept w w' (fun k_ => P0_ k_) := by
  have HO0 := Aside0.mk ho0
  have HK := Aside0.mk (Kept.refl w (fun k_ => P0_ k_))
  have HB := Aside0.mk hB
  have HN := Aside0.mk hn
  clear hB ho0 hn
  have H : (laws_markIntS.l0 k (l0.take n) a1 0) = some (r1, r2) := h
  clear h
  have H' := Aside0.mk H
  clear H
  go_enter Try.func17, Try.ntmps17
  go_wp2
  go_loopg [1, 5] k (fun kq v1 v5 w' => ∃ (y : List Int) (x1_1 : Int) (x5_1 : Int), v1 = .int .i64 x1_1 ∧ v5 = .int .i64 x5_1 ∧ Aside0 (laws_markIntS.l0 kq (y.take n) x1_1 x5_1 = some (r1, r2)) ∧ Aside0 (kq ≤ k) ∧ Aside0 (y.length = l0.length ∧ y.drop n = l0.drop n) ∧ Aside0 (Kd.R (Kd.int .i64) 3 w' w0.heap.size P0_ (.slice A0 l0.length cap) y) ∧ Aside0 (Kept w w' (fun k_ => P0_ k_)) ∧ Aside0 (Below w0.heap.size w0 w'))
  case atStart => exact ⟨(l0), (a1), (0), (by first | rfl | (simp; done) | (simp [*]; done)), (by first | rfl | (simp; done) | (simp [*]; done)), H', ⟨Nat.le_refl _⟩, ⟨rfl, rfl⟩, HO0, HK, HB⟩
  case round =>
    clear H' HO0 HK HB
    try clear c1
    try clear p2
    obtain ⟨y, x1_1, x5_1, rfl, rfl, HA, HK1, HL, HO_0, HK, HB⟩ := hrel
    cases gk with
    | zero => exact absurd HA.out (by simp [laws_markIntS.l0])
    | succ k1 =>
      have H := HA.out
      clear HA
      simp only [laws_markIntS.l0] at H
      have HLt := Aside0.mk (show (y.take n).length = n by have := HL.out.1; have := HN.out; rw [List.length_take]; omega)
      by_cases c3 : x5_1 < ((y.take n).length : Int)
      · rw [if_pos c3] at H
        rw [HLt.out] at c3
        have c3b0 : decide (x5_1 < (n : Int)) = true := decide_eq_true c3
        by_cases c4 : 0 ≤ x5_1
        · rw [if_pos c4] at H
          have c4b0 : decide (0 ≤ x5_1) = true := decide_eq_true c4
          obtain ⟨y254, hy254⟩ : ∃ y_ : List Int, y_ = (y.set (x5_1 : Int).toNat x1_1) := ⟨_, rfl⟩
          have H' := Aside0.mk (show laws_markIntS.l0 k1 (y254.take n) (wrap64 (x1_1 + 1)) (wrap64 (x5_1 + 1)) = some (r1, r2) by rw [hy254, set_take]; exact H)
          have HL2 := Aside0.mk (show y254.length = l0.length ∧ y254.drop n = l0.drop n by rw [hy254, List.length_set, set_drop y n _ _ (by omega)]; exact HL.out)
          have Ny254 := Aside0.mk hy254
          clear hy254 H
          have hyl : y.length = l0.length := HL.out.1
          have p5 : 0 ≤ (x5_1 : Int) := c4
          have q5 : (x5_1 : Int) < (n : Int) := c3
          have q5' : (x5_1 : Int) < (y.length : Int) := by have := HN.out; omega
          clear c3 c4
          have hRy : Kd.R (Kd.int .i64) 3 wr w0.heap.size P0_ (.slice A0 y.length cap) y := by rw [hyl]; exact HO_0.out
          obtain ⟨go5, co5, eo5, gb5, gl5, cl5, HG5⟩ := Kd.R_form hRy (by omega)
          (first | cases eo5 | (injection eo5 with ea_ en_ ec_; (first | subst ea_ | (injection ea_ with ea_; subst ea_)); subst ec_; clear en_))
          have GB5 := Aside0.mk gb5
          clear gb5 gl5 HG5
          obtain ⟨hx5_0, hf5_0⟩ := Kd.R_celln 0 hRy (x5_1 : Int) p5 q5'
          have HP7 := Kd.R_putg hRy (x5_1 : Int) x1_1
          have HRY := Aside0.mk hRy
          have HYL := Aside0.mk hyl
          clear hRy hyl q5'
          replace p5 := eq_true p5
          replace q5 := eq_true q5
          have HO2 := Aside0.mk (show Kd.R (Kd.int .i64) 3 (wr.setCell ⟨go5, (x5_1 : Int).toNat, none⟩ (.int .i64 x1_1)) w0.heap.size P0_ (.slice (some ⟨go5, 0, none⟩) l0.length cap) y254 by rw [Ny254.out, ← HYL.out]; exact HP7.1)
          have HB2 := Aside0.mk (below_set HB.out GB5.out : Below w0.heap.size w0 (wr.setCell ⟨go5, (x5_1 : Int).toNat, none⟩ (.int .i64 x1_1)))
          have HK2 := Aside0.mk (Kept.of_grown (S := (fun k_ => P0_ k_)) HP7.2 HK.out (fun k_ e_ => .inl (HRY.out.1 k_ e_)))
          clear HP7 HRY
          go_wp2
          go_roundg k1
          case measure => have := HK1.out; omega
          case rel => exact ⟨y254, (wrap64 (x1_1 + 1)), (wrap64 (x5_1 + 1)), (by first | rfl | (simp; done) | (simp [*]; done)), (by first | rfl | (simp; done) | (simp [*]; done)), H', ⟨by have := HK1.out; omega⟩, HL2, HO2, HK2, HB2⟩
        · rw [if_neg c4] at H
          exact absurd H (by simp)
      · rw [if_neg c3] at H
        rw [HLt.out] at c3
        have c3b0 : decide (x5_1 < (n : Int)) = false := decide_eq_false c3
        clear c3
        simp only [Option.some.injEq, Prod.mk.injEq] at H
        obtain ⟨rfl, rfl⟩ := H
        go_wp2
        go_ret
        refine ⟨by first | rfl | (simp; done) | (simp [*]; done), ?_, HB.out, HK.out⟩
        rw [← HL.out.2, List.take_append_drop]
        exact HO_0.out
end Go.Proofs.Yteflkoghligofaa.C
