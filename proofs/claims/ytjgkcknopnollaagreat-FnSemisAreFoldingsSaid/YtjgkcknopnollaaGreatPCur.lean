/- The reference's cursor over bytes: each draw has an answer, in its range. -/
import Derived.Laws.Bits64b
import Derived.Test.YtjgkcknopnollaaGreatPNum
import Derived.Test.YtjgkcknopnollaaGreatQA2
set_option linter.unusedVariables false
set_option linter.unusedSimpArgs false
namespace Go.Proofs.YtjgkcknopnollaaGreat.Pure
open Go.RowKit Go.Proofs.YtjgkcknopnollaaGreat.D Go.Proofs.YtjgkcknopnollaaGreatW.PrintWords Go.Proofs.YtjgkcknopnollaaGreatW.PrintLast Go.Proofs.YtjgkcknopnollaaGreatW.PrintMore

def Bytes (l : List Int) : Prop := l.length ≤ 1048576 ∧ ∀ x ∈ l, 0 ≤ x ∧ x ≤ 255
theorem wf_u8' {x : Int} (h : (Lit.int .u8 x).wf = true) : 0 ≤ x ∧ x ≤ 255 := by
  simp [Lit.wf, IntKind.min, IntKind.max, IntKind.bits, IntKind.signed] at h
  omega
theorem bytes_rd {l : List Int} (h : Bytes l) (i : Int) (h0 : 0 ≤ i) (h1 : i < (l.length : Int)) : 0 ≤ rd l i ∧ rd l i ≤ 255 := by
  obtain ⟨n, rfl⟩ : ∃ n : Nat, i = (n : Int) := ⟨i.toNat, by omega⟩
  rw [rd_get (by omega)]
  exact h.2 _ (List.getElem_mem _)
theorem and255 (x : Int) (h0 : 0 ≤ x) (h1 : x < 18446744073709551616) : 0 ≤ bits .and .u64 x 255 ∧ bits .and .u64 x 255 ≤ 255 := by
  obtain ⟨n, rfl⟩ : ∃ n : Nat, x = (n : Int) := ⟨x.toNat, by omega⟩
  have h := bits_and_u64_nat n 255 (by omega) (by omega)
  rw [show ((255 : Nat) : Int) = 255 from rfl] at h
  rw [h]
  have := Nat.and_le_right (n := n) (m := 255)
  omega
theorem high8 (y : Int) : 0 ≤ wrap64 (bits .and .u64 (IntKind.u64.wrap y / 1099511627776) 255) ∧ wrap64 (bits .and .u64 (IntKind.u64.wrap y / 1099511627776) 255) ≤ 255 := by
  have h1 : 0 ≤ IntKind.u64.wrap y ∧ IntKind.u64.wrap y < 18446744073709551616 := by rw [IntKind.wrap_u64]; omega
  have h := and255 (IntKind.u64.wrap y / 1099511627776) (by omega) (by omega)
  rw [wrap_id (by omega) (by omega)]
  exact h
/-- a draw: its answer, and where the cursor stands -/
structure Drew {α : Type} (o : Option (α × Int × Int)) (i : Int) (m : Int) (R : α → Prop) : Prop where
  ok : ∃ v j s, o = some (v, j, s) ∧ R v ∧ i ≤ j ∧ j ≤ i + m
theorem next_ok {l : List Int} (h : Bytes l) (i s : Int) (h0 : 0 ≤ i) (h1 : i ≤ 1099511627776) : Drew (spec_l1Cur_next.f l i s) i 1 (fun v => 0 ≤ v ∧ v ≤ 255) := by
  have hw : wrap64 (i + 1) = i + 1 := wrap_id (by omega) (by omega)
  unfold spec_l1Cur_next.f
  rw [hw]
  by_cases c : i < (l.length : Int)
  · have hr := bytes_rd h i h0 c
    rw [if_pos c, if_pos h0, if_pos (by omega)]
    exact ⟨_, _, _, rfl, by rw [wrap_id (by omega) (by omega)]; exact hr, by omega, by omega⟩
  · rw [if_neg c, if_neg (by omega)]
    exact ⟨_, _, _, rfl, high8 _, by omega, by omega⟩
theorem pick_ok {l : List Int} (h : Bytes l) (i s n : Int) (h0 : 0 ≤ i) (h1 : i ≤ 1000000000) (hn : n ≤ 200) : Drew (spec_l1Cur_pick.f l i s n) i 1 (fun v => 0 ≤ v ∧ (v < n ∨ v = 0)) := by
  unfold spec_l1Cur_pick.f
  by_cases c : n ≤ 1
  · rw [if_pos c]
    exact ⟨_, _, _, rfl, ⟨by omega, .inr rfl⟩, by omega, by omega⟩
  · obtain ⟨v, j, s', e, hv, hj⟩ := (next_ok h i s h0 (by omega)).ok
    rw [if_neg c, e]
    simp only [Option.bind_some]
    rw [if_neg (by omega), if_neg (by omega)]
    exact ⟨_, _, _, rfl, ⟨Int.tmod_nonneg _ hv.1, .inl (Int.tmod_lt_of_pos _ (by omega))⟩, hj⟩
theorem one_ok {l : List Int} (h : Bytes l) (i s n : Int) (h0 : 0 ≤ i) (h1 : i ≤ 1000000000) (hn : n ≤ 200) : Drew (spec_l1Cur_one.f l i s n) i 1 (fun _ => True) := by
  unfold spec_l1Cur_one.f
  obtain ⟨v, j, s', e, hv, hj⟩ := (pick_ok h i s n h0 h1 hn).ok
  rw [e]
  exact ⟨_, _, _, rfl, trivial, hj⟩
theorem Drew.bind {α β : Type} {o : Option (α × Int × Int)} {f : α × Int × Int → Option (β × Int × Int)} {i m m' M : Int} {R : α → Prop} {R' : β → Prop} (h1 : Drew o i m R)
    (h2 : ∀ v j s, R v → i ≤ j → j ≤ i + m → Drew (f (v, j, s)) j m' R') (hm : m + m' ≤ M) : Drew (o.bind f) i M R' := by
  obtain ⟨v, j, s, e, hv, h3, h4⟩ := h1.ok
  obtain ⟨v', j', s', e', hv', h3', h4'⟩ := (h2 v j s hv h3 h4).ok
  exact ⟨v', j', s', by rw [e]; exact e', hv', by omega, by omega⟩
theorem Drew.done {β : Type} {o : Option (β × Int × Int)} {i M : Int} {R' : β → Prop} (v : β) (s : Int) (e : o = some (v, i, s)) (hv : R' v) (hM : 0 ≤ M) : Drew o i M R' := ⟨v, i, s, e, hv, by omega, by omega⟩
theorem Drew.ite {β : Type} {c : Prop} [Decidable c] {a b : Option (β × Int × Int)} {i M : Int} {R' : β → Prop} (h1 : c → Drew a i M R') (h2 : ¬ c → Drew b i M R') : Drew (if c then a else b) i M R' := by
  by_cases h : c
  · rw [if_pos h]; exact h1 h
  · rw [if_neg h]; exact h2 h

end Go.Proofs.YtjgkcknopnollaaGreat.Pure
