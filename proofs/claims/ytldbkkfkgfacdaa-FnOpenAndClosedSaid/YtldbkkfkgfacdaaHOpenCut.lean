/- impl.ClosedToOpen by hand: the word of a meander without its last number, cut (w[:n:n]). -/
import Derived.Test.YtldbkkfkgfacdaaQA3
set_option linter.unusedVariables false
namespace Go.Proofs.Ytldbkkfkgfacdaa.P
open Go.RowKit Go.Proofs.YtldbkkfkgfacdaaW.PrintWords Go.Proofs.YtldbkkfkgfacdaaW.PrintLast Go.Proofs.YtldbkkfkgfacdaaW.PrintMore
theorem cut_facts {w2 : World} {base : Nat} {ok : Nat → Prop} {A : Option Addr} {cap n : Nat} {R : List Int} {z : Int} (hR : R.length = n + 1) (hlast : R.getD n 0 = z) (ho : Kd.R (Kd.int .i64) 3 w2 base ok (.slice A R.length cap) R) :
  ∃ ad, A = some ad ∧ w2.cell? (ad.add n) = some (.int .i64 z) ∧ n + 1 ≤ cap := by
 obtain ⟨_, hc, hC⟩ := Kd.R_reads' ho; obtain ⟨ad, e, hx⟩ := Kd.at_int hC (n : Int) (by omega) (by omega); refine ⟨ad, e, ?_, by omega⟩; (have hv : rd R (n : Int) = z := by rw [← hlast]; unfold rd; simp); rw [hv] at hx
 simpa using hx
set_option maxHeartbeats 8000000 in
set_option maxRecDepth 100000 in
theorem impl_ClosedToOpen_some (k : Nat) (A0_0 : Option Addr) (c0_0 : Nat) (l0_0 : List Int) (A0_1 : Option Addr) (c0_1 : Nat) (l0_1 : List Int) (R : List Int) (n : Nat) (hR : R.length = n + 1) (hlast : R.getD n 0 = (n : Int)) (hn : n ≤ 1000) (w : World)
  (hr0_0 : Kd.C (Kd.int .i64) w A0_0 l0_0.length l0_0) (hc0_0 : l0_0.length ≤ c0_0) (hr0_1 : Kd.C (Kd.int .i64) w A0_1 l0_1.length l0_1) (hc0_1 : l0_1.length ≤ c0_1) (h : impl_PermutationOf.f k l0_0 l0_1 = some (R, true)) :
  Calls Try.prog 30 #[.agg #[.slice A0_0 l0_0.length c0_0, .slice A0_1 l0_1.length c0_1]] w fun e w' => ∃ (A : Option Addr) (cap : Nat), e = .returned (.tuple #[.slice A n n, .bool true]) ∧ Kd.R (Kd.int .i64) 3 w' w.heap.size (fun _ => True) (.slice A (n + 1) cap) R ∧ Below w.heap.size w w' := by
 have H0 := Aside0.mk hr0_0; have H1 := Aside0.mk hr0_1; have C0 := Aside0.mk hc0_0; have C1 := Aside0.mk hc0_1; have F := Aside0.mk h; have HL := Aside0.mk hR; have HV := Aside0.mk hlast; clear hr0_0 hr0_1 hc0_0 hc0_1 h hR hlast; (have hw1 : IntKind.i64.wrap (((n + 1 : Nat) : Int) - 1) = (n : Int) := by simp [IntKind.wrap, IntKind.bits, IntKind.signed]; omega); have p1 : (0 ≤ (n : Int)) = True := eq_true (by omega); have p2 : ((n : Int) < ((n + 1 : Nat) : Int)) = True := eq_true (by omega); go_enter Try.func30, Try.ntmps30; go_wp2_with (go_at_call 32; (with_reducible refine (impl_PermutationOf.calls k _ _ l0_0 _ _ l0_1 R true _ (Kd.C_alloc H0.out _) C0.out (Kd.C_alloc H1.out _) C1.out F.out).mono ?_); rintro e w2 ⟨v2, rfl, ho, hb⟩; obtain ⟨A, cap, rfl⟩ := Kd.R_slice ho; obtain ⟨ad, rfl, hx, hcap⟩ := cut_facts HL.out HV.out ho; rw [HL.out] at ho ⊢; have HO := Aside0.mk ho; have HB := Aside0.mk hb; clear ho hb); go_ret2; exact ⟨_, _, rfl, Kd.R_lower HO.out (by simp), below_step ((Below.refl _ w).alloc (Nat.le_refl _) _) HB.out⟩
set_option maxHeartbeats 8000000 in
set_option maxRecDepth 100000 in
theorem impl_ClosedToOpen_none (k : Nat) (A0_0 : Option Addr) (c0_0 : Nat) (l0_0 : List Int) (A0_1 : Option Addr) (c0_1 : Nat) (l0_1 : List Int) (w : World)
  (hr0_0 : Kd.C (Kd.int .i64) w A0_0 l0_0.length l0_0) (hc0_0 : l0_0.length ≤ c0_0) (hr0_1 : Kd.C (Kd.int .i64) w A0_1 l0_1.length l0_1) (hc0_1 : l0_1.length ≤ c0_1) (h : impl_PermutationOf.f k l0_0 l0_1 = some ([], false)) :
  Calls Try.prog 30 #[.agg #[.slice A0_0 l0_0.length c0_0, .slice A0_1 l0_1.length c0_1]] w fun e w' => e = .returned (.tuple #[.slice none 0 0, .bool false]) ∧ Below w.heap.size w w' := by
 have H0 := Aside0.mk hr0_0; have H1 := Aside0.mk hr0_1; have C0 := Aside0.mk hc0_0; have C1 := Aside0.mk hc0_1; have F := Aside0.mk h; clear hr0_0 hr0_1 hc0_0 hc0_1 h; go_enter Try.func30, Try.ntmps30; go_wp2_with (go_at_call 32; (with_reducible refine (impl_PermutationOf.calls k _ _ l0_0 _ _ l0_1 [] false _ (Kd.C_alloc H0.out _) C0.out (Kd.C_alloc H1.out _) C1.out F.out).mono ?_); rintro e w2 ⟨v2, rfl, ho, hb⟩; obtain ⟨A, cap, rfl⟩ := Kd.R_slice ho; have HB := Aside0.mk hb; clear ho hb); go_ret2; exact ⟨rfl, below_step ((Below.refl _ w).alloc (Nat.le_refl _) _) HB.out⟩
/-- a word that doesn't end with its greatest number -/
theorem impl_ClosedToOpen_other (k : Nat) (A0_0 : Option Addr) (c0_0 : Nat) (l0_0 : List Int) (A0_1 : Option Addr) (c0_1 : Nat) (l0_1 : List Int) (R : List Int) (n : Nat) (hR : R.length = n + 1) (hlast : R.getD n 0 ≠ (n : Int)) (hn : n ≤ 1000) (w : World)
  (hr0_0 : Kd.C (Kd.int .i64) w A0_0 l0_0.length l0_0) (hc0_0 : l0_0.length ≤ c0_0) (hr0_1 : Kd.C (Kd.int .i64) w A0_1 l0_1.length l0_1) (hc0_1 : l0_1.length ≤ c0_1) (h : impl_PermutationOf.f k l0_0 l0_1 = some (R, true)) :
  Calls Try.prog 30 #[.agg #[.slice A0_0 l0_0.length c0_0, .slice A0_1 l0_1.length c0_1]] w fun e w' => e = .returned (.tuple #[.slice none 0 0, .bool false]) ∧ Below w.heap.size w w' := by
 have H0 := Aside0.mk hr0_0; have H1 := Aside0.mk hr0_1; have C0 := Aside0.mk hc0_0; have C1 := Aside0.mk hc0_1; have F := Aside0.mk h; have HL := Aside0.mk hR; obtain ⟨z, hz⟩ : ∃ z, z = R.getD n 0 := ⟨_, rfl⟩; rw [← hz] at hlast; have HV := Aside0.mk hz.symm; have hzn : (z = (n : Int)) = False := eq_false hlast; have hzb : (z != (n : Int)) = true := bne_iff_ne.mpr hlast; clear hr0_0 hr0_1 hc0_0 hc0_1 h hR hz hlast; (have hw1 : IntKind.i64.wrap (((n + 1 : Nat) : Int) - 1) = (n : Int) := by simp [IntKind.wrap, IntKind.bits, IntKind.signed]; omega); have p1 : (0 ≤ (n : Int)) = True := eq_true (by omega); have p2 : ((n : Int) < ((n + 1 : Nat) : Int)) = True := eq_true (by omega); go_enter Try.func30, Try.ntmps30; go_wp2_with (go_at_call 32; (with_reducible refine (impl_PermutationOf.calls k _ _ l0_0 _ _ l0_1 R true _ (Kd.C_alloc H0.out _) C0.out (Kd.C_alloc H1.out _) C1.out F.out).mono ?_); rintro e w2 ⟨v2, rfl, ho, hb⟩; obtain ⟨A, cap, rfl⟩ := Kd.R_slice ho; obtain ⟨ad, rfl, hx, hcap⟩ := cut_facts HL.out HV.out ho; rw [HL.out] at ho ⊢; have HO := Aside0.mk ho; have HB := Aside0.mk hb; clear ho hb); go_ret2; exact ⟨rfl, below_step ((Below.refl _ w).alloc (Nat.le_refl _) _) HB.out⟩
/-- what the program's ClosedToOpen answers: the first n numbers of a whole row -/
def CutTold (k : Nat) (l0_0 l0_1 full : List Int) (n : Nat) (b : Bool) : Prop :=
 (b = false ∧ full = [] ∧ n = 0 ∧ (impl_PermutationOf.f k l0_0 l0_1 = some ([], false) ∨ ∃ (R : List Int) (m : Nat), impl_PermutationOf.f k l0_0 l0_1 = some (R, true) ∧ R.length = m + 1 ∧ R.getD m 0 ≠ (m : Int) ∧ m ≤ 1000)) ∨
 (b = true ∧ full.length = n + 1 ∧ full.getD n 0 = (n : Int) ∧ n ≤ 1000 ∧ impl_PermutationOf.f k l0_0 l0_1 = some (full, true))
theorem CutTold.le {k : Nat} {l0_0 l0_1 full : List Int} {n : Nat} {b : Bool} (h : CutTold k l0_0 l0_1 full n b) : n ≤ full.length := by
 rcases h with ⟨_, _, h, _⟩ | ⟨_, h, _⟩ <;> omega
theorem impl_ClosedToOpen_told (k : Nat) (A0_0 : Option Addr) (c0_0 : Nat) (l0_0 : List Int) (A0_1 : Option Addr) (c0_1 : Nat) (l0_1 full : List Int) (n : Nat) (b : Bool) (w : World)
  (hr0_0 : Kd.C (Kd.int .i64) w A0_0 l0_0.length l0_0) (hc0_0 : l0_0.length ≤ c0_0) (hr0_1 : Kd.C (Kd.int .i64) w A0_1 l0_1.length l0_1) (hc0_1 : l0_1.length ≤ c0_1) (h : CutTold k l0_0 l0_1 full n b) :
  Calls Try.prog 30 #[.agg #[.slice A0_0 l0_0.length c0_0, .slice A0_1 l0_1.length c0_1]] w fun e w' => ∃ (A : Option Addr) (cap : Nat), e = .returned (.tuple #[.slice A n n, .bool b]) ∧ Kd.R (Kd.int .i64) 3 w' w.heap.size (fun _ => True) (.slice A full.length cap) full ∧ Below w.heap.size w w' := by
 rcases h with ⟨rfl, rfl, rfl, h | ⟨R, m, h, h1, h2, h3⟩⟩ | ⟨rfl, h1, h2, h3, h⟩
 ·refine (impl_ClosedToOpen_none k _ _ l0_0 _ _ l0_1 w hr0_0 hc0_0 hr0_1 hc0_1 h).mono ?_; rintro e w' ⟨rfl, hb⟩; exact ⟨none, 0, rfl, Kd.R_nil _ _ _ _ _, hb⟩
 ·refine (impl_ClosedToOpen_other k _ _ l0_0 _ _ l0_1 R m h1 h2 h3 w hr0_0 hc0_0 hr0_1 hc0_1 h).mono ?_; rintro e w' ⟨rfl, hb⟩; exact ⟨none, 0, rfl, Kd.R_nil _ _ _ _ _, hb⟩
 refine (impl_ClosedToOpen_some k _ _ l0_0 _ _ l0_1 full n h1 h2 h3 w hr0_0 hc0_0 hr0_1 hc0_1 h).mono ?_; rintro e w' ⟨A, cap, rfl, ho, hb⟩; exact ⟨A, cap, rfl, by rw [h1]; exact ho, hb⟩
/-- a cut row is read as what it begins with -/
theorem cut_reads {w : World} {base : Nat} {ok : Nat → Prop} {A : Option Addr} {cap n : Nat} {full : List Int} (hn : n ≤ full.length) (h : Kd.R (Kd.int .i64) 3 w base ok (.slice A full.length cap) full) : Kd.C (Kd.int .i64) w A (full.take n).length (full.take n) := by
 exact Kd.C_take (Kd.R_reads' h).2.2 hn
end Go.Proofs.Ytldbkkfkgfacdaa.P
