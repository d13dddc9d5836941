/- impl.ClosedToOpen: one contract, its answer read as a row. By hand, over our printed contract of impl.PermutationOf. -/
import Derived.Test.YtldbkkfkgfacdaaHOpenCut
import Derived.Test.YtldbkkfkgfacdaaQA3
set_option linter.unusedVariables false
namespace Go.Proofs.Ytldbkkfkgfacdaa.P
open Go.RowKit Go.Proofs.YtldbkkfkgfacdaaW.PrintWords Go.Proofs.YtldbkkfkgfacdaaW.PrintLast Go.Proofs.YtldbkkfkgfacdaaW.PrintMore
/-- a row that can be read -/
def CutR (w : World) (v : Value) (r : List Int) : Prop := ∃ A c, v = .slice A r.length c ∧ r.length ≤ c ∧ Kd.C (Kd.int .i64) w A r.length r
def impl_ClosedToOpen.cut (R : List Int) : Option (List Int × Bool) :=
 if 1 ≤ R.length ∧ R.length ≤ 1000 then (if R.getD (R.length - 1) 0 = ((R.length - 1 : Nat) : Int) then some (R.take (R.length - 1), true) else some ([], false)) else none
def impl_ClosedToOpen.f (k : Nat) (l0 l1 : List Int) : Option (List Int × Bool) :=
 (impl_PermutationOf.f k l0 l1).bind fun bt => if bt.2 = true then impl_ClosedToOpen.cut bt.1 else (if bt.1 = [] then some ([], false) else none)
theorem impl_ClosedToOpen.told (k : Nat) (l0 l1 r1 : List Int) (r2 : Bool) (h : impl_ClosedToOpen.f k l0 l1 = some (r1, r2)) : ∃ full n, r1 = full.take n ∧ CutTold k l0 l1 full n r2 := by
 unfold impl_ClosedToOpen.f at h; obtain ⟨⟨R, b⟩, hP, h⟩ := Option.bind_eq_some_iff.mp h
 cases b with
 | false =>
  simp only [Bool.false_eq_true, if_false] at h
  by_cases e : R = []
  ·subst e; rw [if_pos rfl] at h; obtain ⟨rfl, rfl⟩ := Prod.mk.inj (Option.some.inj h); exact ⟨[], 0, rfl, .inl ⟨rfl, rfl, rfl, .inl hP⟩⟩
  rw [if_neg e] at h; cases h
 | true =>
  simp only [if_true] at h; unfold impl_ClosedToOpen.cut at h
  by_cases c : 1 ≤ R.length ∧ R.length ≤ 1000
  ·rw [if_pos c] at h
   by_cases e : R.getD (R.length - 1) 0 = ((R.length - 1 : Nat) : Int)
   ·rw [if_pos e] at h; obtain ⟨rfl, rfl⟩ := Prod.mk.inj (Option.some.inj h); exact ⟨R, R.length - 1, rfl, .inr ⟨rfl, by omega, e, by omega, hP⟩⟩
   rw [if_neg e] at h; obtain ⟨rfl, rfl⟩ := Prod.mk.inj (Option.some.inj h); exact ⟨[], 0, rfl, .inl ⟨rfl, rfl, rfl, .inr ⟨R, R.length - 1, hP, by omega, e, by omega⟩⟩⟩
  rw [if_neg c] at h; cases h
theorem impl_ClosedToOpen.calls (k : Nat) (A0_0 : Option Addr) (c0_0 : Nat) (l0_0 : List Int) (A0_1 : Option Addr) (c0_1 : Nat) (l0_1 : List Int) (r1 : List Int) (r2 : Bool) (w : World) (hr0_0 : Kd.C (Kd.int .i64) w A0_0 l0_0.length l0_0) (hc0_0 : l0_0.length ≤ c0_0) (hr0_1 : Kd.C (Kd.int .i64) w A0_1 l0_1.length l0_1) (hc0_1 : l0_1.length ≤ c0_1) (h : impl_ClosedToOpen.f k l0_0 l0_1 = some (r1, r2)) :
  Calls Try.prog 30 #[.agg #[.slice A0_0 l0_0.length c0_0, .slice A0_1 l0_1.length c0_1]] w fun e w' => ∃ v0_ : Value, e = .returned (.tuple #[v0_, .bool r2]) ∧ CutR w' v0_ r1 ∧ Below w.heap.size w w' := by
 obtain ⟨full, n, hfull, ht⟩ := impl_ClosedToOpen.told k l0_0 l0_1 r1 r2 h; refine (impl_ClosedToOpen_told k _ _ l0_0 _ _ l0_1 full n r2 w hr0_0 hc0_0 hr0_1 hc0_1 ht).mono ?_; rintro e w' ⟨A, cap, rfl, ho, hb⟩; have hn := ht.le; (have hlen : r1.length = n := by rw [hfull, List.length_take]; omega); have hC := cut_reads hn ho; rw [← hfull] at hC; exact ⟨_, rfl, ⟨A, n, by rw [hlen], by omega, hC⟩, hb⟩
end Go.Proofs.Ytldbkkfkgfacdaa.P
