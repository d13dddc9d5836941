-- printed by wip/drv/xprint.py (our driver) out of the translation; Lean checks it
import Derived.Test.YtbphdjnainlbhaaL0
import Derived.Test.YtbphdjnainlbhaaL1
import Derived.Test.YtbphdjnainlbhaaL2
namespace Go.Proofs.Ytbphdjnainlbhaa.L
open Go.RowKit Go.Proofs.YtbphdjnainlbhaaW.PrintWords Go.Proofs.YtbphdjnainlbhaaW.PrintLast Go.Proofs.YtbphdjnainlbhaaW.PrintMore
attribute [local go_sem] max2_int min2_int max_two min_two max_three min_three max_four min_four   -- for this text's walks alone
set_option linter.unusedVariables false
set_option linter.unusedSimpArgs false

/-! ### spec_taSteps: function 51 -/
/-- a number modulo p, as the reference reckons it -/
def spec_taSteps.mod (p x : Int) : Int := Int.tmod (wrap64 (Int.tmod x p + p)) p
def spec_taSteps.one (p t x y : Int) : Int := Int.tmod (wrap64 (x + wrap64 (wrap64 (p - t) * y))) p
/-- a row below the pivot's row, changed -/
def spec_taSteps.row (p : Int) (j : Nat) (inv : Int) (own row : List Int) : List Int := List.zipWith (spec_taSteps.one p (Int.tmod (wrap64 (row.getD j 0 * inv)) p)) row own
def spec_taSteps.go (k : Nat) (p : Int) : Nat → Nat → List (List Int) → Nat → Int → Option (Int × Int)
  | 0, _, _, rank, det => some (det, (rank : Int))
  | d + 1, j, L, rank, det =>
    match impl_reduce.find j (L.drop rank) with
    | none => spec_taSteps.go k p d (j + 1) L rank 0
    | some q => (spec_taInverse.f k (((impl_reduce.swap L rank (rank + q)).getD rank []).getD j 0) p).bind fun inv =>
        spec_taSteps.go k p d (j + 1) ((impl_reduce.swap L rank (rank + q)).take (rank + 1) ++ ((impl_reduce.swap L rank (rank + q)).drop (rank + 1)).map (spec_taSteps.row p j inv ((impl_reduce.swap L rank (rank + q)).getD rank []))) (rank + 1)
          (Int.tmod (wrap64 ((if q = 0 then det else Int.tmod (wrap64 (p - det)) p) * ((impl_reduce.swap L rank (rank + q)).getD rank []).getD j 0)) p)
def spec_taSteps.f (k : Nat) (l0 : List (List Int)) (a1 : Int) : Option (Int × Int) := if l0 = [] then some (1, 0) else if impl_reduce.good l0 a1 = true then spec_taSteps.go k a1 (l0.getD 0 []).length 0 (l0.map fun x => x.map (spec_taSteps.mod a1)) 0 1 else none
theorem spec_taSteps.go_mono (k : Nat) (p : Int) : ∀ d j L rank det, LeO (spec_taSteps.go k p d j L rank det) (spec_taSteps.go (k + 1) p d j L rank det)
  | 0, _, _, _, _ => LeO.refl _
  | d + 1, j, L, rank, det => by
    rw [spec_taSteps.go, spec_taSteps.go]
    cases impl_reduce.find j (L.drop rank) with
    | none => exact spec_taSteps.go_mono k p d _ _ _ _
    | some q => exact LeO.bind (spec_taInverse.mono _ _ _) (fun _ => spec_taSteps.go_mono k p d _ _ _ _)
theorem spec_taSteps.mono : ∀ a0 a1 k, LeO (spec_taSteps.f k a0 a1) (spec_taSteps.f (k + 1) a0 a1) := fun a0 a1 k => LeO.ite (LeO.refl _) (LeO.ite (spec_taSteps.go_mono k a1 _ _ _ _ _) (LeO.refl _))
def spec_taSteps.T26 : Bool × List (List Nat × List Nat) := (true, [([], []), ([], []), ([0, 1], [0, 1]), ([2], [2]), ([], []), ([], []), ([4, 5], [4, 5]), ([6], [6]), ([3, 0, 1, 2, 3], [3]), ([7, 8, 0, 1, 2, 3, 4, 5, 6, 7, 8], [7])])
def spec_taSteps.B26 : List Nat := [0, 0, 3, 7, 0, 0, 48, 112, 15, 511]
theorem spec_taSteps.tab26 : rtab .any (opsOf Try.f51 26) = spec_taSteps.T26 := by kernel_rfl
theorem spec_taSteps.bits26 : waitsOk spec_taSteps.T26.2 spec_taSteps.B26 = true := by kernel_rfl
def spec_taSteps.T38 : Bool × List (List Nat × List Nat) := (true, [([], []), ([], []), ([0, 1], [0, 1]), ([2], [2]), ([], []), ([], []), ([], []), ([5, 6], [5, 6]), ([7], [7]), ([], []), ([8, 9], [8, 9]), ([10], [10]), ([], []), ([], []), ([12, 13], [12, 13]), ([], []), ([], []), ([15, 16], [15, 16]), ([17], [17]), ([], []), ([18, 19], [18, 19]), ([20], [20]), ([14, 21], [14, 21]), ([11, 22], [11, 22]), ([], []), ([23, 24], [23, 24]), ([3, 4, 0, 1, 2, 3, 4, 5, 6, 7, 8, 9, 10, 11, 12, 13, 14, 15, 16, 17, 18, 19, 20, 21, 22, 23, 24, 25], [3, 4]), ([26, 25, 0, 1, 2, 3, 4, 5, 6, 7, 8, 9, 10, 11, 12, 13, 14, 15, 16, 17, 18, 19, 20, 21, 22, 23, 24, 25], [25, 26])])
def spec_taSteps.B38 : List Nat := [0, 0, 3, 7, 0, 0, 0, 96, 224, 0, 992, 2016, 0, 0, 12288, 0, 0, 98304, 229376, 0, 1015808, 2064384, 4190208, 8388576, 0, 33554400, 67108863, 134217727]
theorem spec_taSteps.tab38 : rtab .any (opsOf Try.f51 38) = spec_taSteps.T38 := by kernel_rfl
theorem spec_taSteps.bits38 : waitsOk spec_taSteps.T38.2 spec_taSteps.B38 = true := by kernel_rfl

set_option maxHeartbeats 8000000 in
set_option maxRecDepth 100000 in
theorem spec_taSteps.calls (k : Nat) (A0 : Option Addr) (c0 : Nat) (l0 : List (List Int)) (a1 : Int) (r1 r2 : Int) (w : World) (hr0 : Kd.C (Kd.slice 3 (Kd.int .i64)) w A0 l0.length l0) (hc0 : l0.length ≤ c0) (h : spec_taSteps.f k l0 a1 = some (r1, r2)) :
    Calls Try.prog 51 #[.slice A0 l0.length c0, .int .i64 a1] w fun e w' => e = .returned (.tuple #[.int .i64 r1, .int .i64 r2]) ∧ Below w.heap.size w w' := by
  unfold spec_taSteps.f at h
  by_cases hem : l0 = []
  · rw [if_pos hem] at h
    subst hem
    obtain ⟨e1, e2⟩ := Prod.mk.inj (Option.some.inj h)
    subst e1 e2
    have HB := Aside0.mk (Below.refl w.heap.size w)
    clear h hr0
    go_enter Try.func51, Try.ntmps51
    go_wp2
    go_loopg [6, 24] 1 (fun kq v6 v24 w' => v6 = .slice none 0 0 ∧ v24 = .int .i64 0 ∧ Aside0 (Below w.heap.size w w'))
    case atStart => exact ⟨rfl, by go_num, HB⟩
    case round =>
      clear HB
      obtain ⟨rfl, rfl, HB⟩ := hrel
      go_wp2
      go_ret2
      exact ⟨by first | rfl | (simp; done), HB.out⟩
  rw [if_neg hem] at h
  by_cases hg : impl_reduce.good l0 a1 = true
  case neg => rw [if_neg hg] at h; cases h
  rw [if_pos hg] at h
  unfold impl_reduce.good at hg
  rw [Bool.and_eq_true, decide_eq_true_eq] at hg
  obtain ⟨⟨hn1, hn2, hm1, hm2, hp0⟩, hall⟩ := hg
  have hrow : ∀ x ∈ l0, x.length = (l0.getD 0 []).length := fun x hx => of_decide_eq_true (List.all_eq_true.1 hall x hx)
  generalize (l0.getD 0 []).length = m at h hm1 hm2 hrow
  obtain ⟨L0, hL⟩ : ∃ L0, (l0.map fun x => x.map (spec_taSteps.mod a1)) = L0 := ⟨_, rfl⟩
  rw [hL] at h
  have hLl : L0.length = l0.length := by rw [← hL, List.length_map]
  have hLg : ∀ i (h1 : i < l0.length) (h2 : i < L0.length), L0[i] = l0[i].map (spec_taSteps.mod a1) := fun i h1 h2 => by subst hL; rw [List.getElem_map]
  have HR0 := Aside0.mk hr0
  have HRW := Aside0.mk hrow
  have FG := Aside0.mk h
  have FM := Aside0.mk hLg
  have FL := Aside0.mk hLl
  have HB := Aside0.mk (Below.refl w.heap.size w)
  have hpz : (a1 = 0) = False := eq_false (by omega)
  clear h hr0 hall hL hLg hLl hrow hem
  go_enter Try.func51, Try.ntmps51
  go_wp2
  go_loopg [6, 24] (l0.length + 1) (fun kq v6 v24 w' => ∃ (i : Nat), v24 = .int .i64 i ∧ i ≤ l0.length ∧ l0.length - i < kq ∧ Aside0 (Kd.S (Kd.slice 3 (Kd.int .i64)) 35 w' w.heap.size (fun _ => True) v6 (L0.take i)) ∧ Aside0 (Below w.heap.size w w'))
  case atStart => exact ⟨0, by go_num, Nat.zero_le _, by omega, ⟨by rw [List.take_zero]; exact Kd.S_nil _ _ _ _ _⟩, HB⟩
  case round =>
    clear HB
    obtain ⟨i, rfl, hi, hgi, HX, HB⟩ := hrel
    obtain ⟨k1, rfl⟩ : ∃ m, gk = m + 1 := ⟨gk - 1, by omega⟩
    by_cases hil : i < l0.length
    · have hiz : (i : Int) < (l0.length : Int) := by omega
      obtain ⟨ad, A1, c1, e0, hx0, hl1, hi1⟩ := at_L1 (Kd.C_below HR0.out HB.out) (i : Int) (by omega) hiz
      have hrd : rd_L1 l0 (i : Int) = l0[i] := by unfold rd_L1; simp [hil]
      rw [hrd] at hx0 hl1 hi1
      rw [Int.toNat_natCast] at hx0
      cases e0
      have hLi : i < L0.length := by have := FL.out; omega
      have hTe := FM.out i hil hLi
      have hnew : L0.take (i + 1) = L0.take i ++ [L0[i]] := List.take_succ_eq_append_getElem hLi
      have hrl := HRW.out _ (List.getElem_mem hil)
      generalize hT : L0[i] = T at hTe hnew
      generalize hR : l0[i] = row at hx0 hl1 hi1 hTe hrl
      have HN := Aside0.mk hnew
      have TE := Aside0.mk hTe
      have TL : Aside0 (T.length = row.length) := ⟨by rw [hTe, List.length_map]⟩
      have HRI := Aside0.mk hi1
      have HRL := Aside0.mk hrl
      have hrb : row.length ≤ 1000 := by omega
      have p1 : (0 ≤ (i : Int)) = True := eq_true (by omega)
      have p2 : ((i : Int) < (l0.length : Int)) = True := eq_true hiz
      clear hi1 hnew hTe hR hT hrd hrl
      go_wp2
      obtain ⟨WR, eWR⟩ : ∃ X : World, X = wr := ⟨_, rfl⟩
      subst eWR
      go_loopg [9, 30] (row.length + 1) (fun kq v9 v30 w' => ∃ (j : Nat), v30 = .int .i64 j ∧ j ≤ row.length ∧ row.length - j < kq ∧ Aside0 (Kd.R (Kd.int .i64) 3 w' WR.heap.size (fun _ => True) v9 (T.take j)) ∧ Aside0 (Below WR.heap.size WR w'))
      case atStart => exact ⟨0, by go_num, Nat.zero_le _, by omega, ⟨by rw [List.take_zero]; exact Kd.R_nil _ _ _ _ _⟩, ⟨Below.refl _ _⟩⟩
      case round =>
        obtain ⟨j, rfl, hj, hgj, HN1, HBi⟩ := hrel
        obtain ⟨k2, rfl⟩ : ∃ m, gk = m + 1 := ⟨gk - 1, by omega⟩
        by_cases hjl : j < row.length
        · have hjz : (j : Int) < (row.length : Int) := by omega
          have p3 : (0 : Int) ≤ (j : Int) := by omega
          obtain ⟨ad2, e2, hx2⟩ := Kd.at_int (Kd.C_below HRI.out HBi.out) (j : Int) p3 hjz
          cases e2
          have hrd2 : rd row (j : Int) = row[j] := by unfold rd; simp [hjl]
          rw [hrd2] at hx2
          simp only [Int.toNat_natCast] at hx2
          have hTj : j < T.length := by have := TL.out; omega
          have hte : T[j] = spec_taSteps.mod a1 row[j] := by
            have h1 := TE.out
            subst h1
            rw [List.getElem_map]
          have hnew : T.take (j + 1) = T.take j ++ [T[j]] := List.take_succ_eq_append_getElem hTj
          rw [hte] at hnew
          generalize row[j] = vj at hx2 hnew
          unfold spec_taSteps.mod at hnew
          obtain ⟨tj, htj⟩ : ∃ tj, Int.tmod (wrap64 (Int.tmod vj a1 + a1)) a1 = tj := ⟨_, rfl⟩
          rw [htj] at hnew
          have HN2 := Aside0.mk hnew
          clear hnew hrd2 hte
          replace p3 := eq_true p3
          have q3 := eq_true hjz
          have hTs := Aside0.mk (show (T.take j).length ≤ 1000 by rw [List.length_take]; have := TL.out; omega)
          go_wp2_with ((with_reducible refine gate_builtin (b := .append) (xs := #[.tmp 34, .tmp 42]) rfl ?_); at_builtin; refine Kd.R_append (Kd.int .i64) (w0 := WR) WR.heap.size rfl (.tmp 34) (.tmp 42) 35 3 (.int .i64 0) 8 rfl Try.underlying35 info3 rfl (by decide) (by omega) u9 (T.take j) tj [.int .i64 tj] (fun _ => True) (fun _ => False) rfl rfl ?aP (fun _ hk => hk.elim) ?aF ?aO ?aB ?aS ?aL ?_; (case aP => exact rfl); (case aB => exact HBi.out); (case aF => exact (fun _ _ => trivial)); (case aO => exact Kd.R_mono HN1.out (fun _ _ => trivial)); (case aS => exact HBi.out.size); (case aL => have := hTs.out; omega); intro v2 w2 ho hb hg_ hat_; rw [← HN2.out] at ho; have HN3 := Aside0.mk ho; have HBj := Aside0.mk hb; clear ho hb hg_ hat_ HN1 HBi; have HN1 := HN3; have HBi := HBj; clear HN3 HBj)
          go_roundg k2
          case measure => exact Nat.lt_succ_self _
          case rel => exact ⟨j + 1, by go_num, by omega, by omega, HN1, HBi⟩
        · obtain rfl : j = row.length := by omega
          have hfull : T.take row.length = T := List.take_of_length_le (by have := TL.out; omega)
          rw [hfull] at HN1
          clear hfull
          obtain ⟨Ao, co, eo⟩ := Kd.R_slice HN1.out
          subst eo
          have hTs := Aside0.mk (show (L0.take i).length ≤ 1000 by rw [List.length_take]; omega)
          have HXn := Aside0.mk (Kd.S_old HX.out HBi.out)
          have HXo := Aside0.mk (Kd.S_lt HX.out)
          have HBn := Aside0.mk (below_step HB.out HBi.out)
          have HWs := Aside0.mk HB.out.size
          clear HX HB
          go_wp2_with ((with_reducible refine gate_builtin (b := .append) (xs := #[.tmp 45, .tmp 47]) rfl ?_); at_builtin; refine Kd.S_append (Kd.slice 3 (Kd.int .i64)) (w0 := w) w.heap.size rfl (.tmp 45) (.tmp 47) 22 35 (.slice none 0 0) 24 rfl Try.underlying22 info35 rfl (by decide) (by omega) u6 (L0.take i) T [.slice Ao T.length co] (fun _ => True) (fun k_ => some k_ = (.slice Ao T.length co : Value).ownBlock) rfl rfl ?aP ?aK (fun _ _ => trivial) ?aO ?aB ?aS ?aL ?_; (case aP => exact Kd.M_row (Kd.R_tight rfl (Kd.R_lower HN1.out HWs.out))); (case aK => intro k_ hk; exact ⟨trivial, fun e_ => Nat.lt_irrefl _ (Nat.lt_of_lt_of_le (HXo.out k_ e_.symm) (Kd.R_base HN1.out k_ hk.symm))⟩); (case aO => exact Kd.S_mono HXn.out (fun k_ hk => ⟨trivial, fun e_ => Nat.lt_irrefl _ (Nat.lt_of_lt_of_le hk.2 (Kd.R_base HN1.out k_ e_.symm))⟩)); (case aB => exact HBn.out); (case aS => exact HBn.out.size); (case aL => have := hTs.out; omega); intro v5 w5 ho hb _ _; rw [← HN.out] at ho; have HX := Aside0.mk ho; have HB := Aside0.mk hb; clear ho hb HXn HBn HN1 HBi)
          go_roundg k1
          case measure => exact Nat.lt_succ_self _
          case rel => exact ⟨i + 1, by go_num, by omega, by omega, HX, HB⟩
    · obtain rfl : i = l0.length := by omega
      have hfull : L0.take l0.length = L0 := List.take_of_length_le (by have := FL.out; omega)
      rw [hfull] at HX
      have hLm : ∀ x ∈ L0, x.length = m := by
        intro x hx
        obtain ⟨q, hq, rfl⟩ := List.getElem_of_mem hx
        have hq2 : q < l0.length := by have := FL.out; omega
        rw [FM.out q hq2 hq, List.length_map]
        exact HRW.out _ (List.getElem_mem hq2)
      have hL0 : 0 < L0.length := by have := FL.out; omega
      obtain ⟨g, cap, B0, rfl, hle, hcm, hM⟩ := MatS.Mat.of_S HX.out (List.length_pos_iff.1 hL0) (fun x hx => List.length_pos_iff.1 (by rw [hLm x hx]; omega))
      have HL2 := Aside0.mk (show L0.length ≤ 1000 by have := FL.out; omega)
      clear HX hfull FM HRW HR0 hi hgi hil FL hn1 hn2
      obtain ⟨b0, hb0, hl0⟩ := hM.at_ hL0
      obtain ⟨hc0_, hf0_⟩ := hM.cell hb0 hl0
      rw [hLm _ (List.getElem_mem hL0)] at hc0_
      have HM := Aside0.mk hM
      have HLM := Aside0.mk hLm
      have p1 : ((0 : Int) < (L0.length : Int)) = True := eq_true (by omega)
      have pz : (((L0.length : Nat) : Int) = 0) = False := eq_false (by omega)
      have pz2 : (L0.length = 0) = False := eq_false (by omega)
      have pz3 : (((L0.length : Nat) : Int) == 0) = false := beq_eq_false_iff_ne.mpr (by omega)
      have hl1000 : L0.length ≤ 1000 := HL2.out
      clear hM hLm hle hcm hl0 hb0
      go_wp2
      go_loopg [12, 13, 59] (m + 1) (fun kq v12 v13 v59 w' => ∃ (j rank : Nat) (det : Int) (L : List (List Int)) (B : List (Nat × Nat)), v13 = .int .i64 rank ∧ v12 = .int .i64 det ∧ v59 = .int .i64 j ∧ j ≤ m ∧ m - j < kq ∧ rank ≤ L0.length ∧ Aside0 (L.length = L0.length ∧ ∀ x ∈ L, x.length = m) ∧ Aside0 (spec_taSteps.go k a1 (m - j) j L rank det = some (r1, r2)) ∧ Aside0 (MatS.Mat 35 3 w' w.heap.size g B L) ∧ Aside0 (Below w.heap.size w w'))
      case atStart => exact ⟨0, 0, 1, L0, B0, by go_num, rfl, by go_num, Nat.zero_le _, by omega, Nat.zero_le _, ⟨rfl, HLM.out⟩, FG, HM, HB⟩
      case round =>
        clear FG HM HB HLM hc0_ hf0_ p1 pz pz2 pz3
        obtain ⟨j, rank, det, L, B, rfl, rfl, rfl, hj, hgj, hrk, HL, FG, HM, HB⟩ := hrel
        obtain ⟨k1, rfl⟩ : ∃ m, gk = m + 1 := ⟨gk - 1, by omega⟩
        by_cases hjm : j < m
        · have hjz : (j : Int) < (m : Int) := by omega
          have hgo := FG.out
          rw [show m - j = (m - (j + 1)) + 1 by omega, spec_taSteps.go] at hgo
          have FG1 := Aside0.mk hgo
          have hpj : (0 ≤ (j : Int)) = True := eq_true (by omega)
          have hqj : ((j : Int) < (m : Int)) = True := eq_true hjz
          clear hgo FG
          go_wp2
          go_loopg [15] (L0.length + 1) (fun kq v15 w' => ∃ (rq : Nat), v15 = .int .i64 (rq : Int) ∧ rank ≤ rq ∧ rq ≤ L0.length ∧ L0.length - rq < kq ∧ Aside0 (∀ x ∈ (L.drop rank).take (rq - rank), x.getD j 0 = 0) ∧ Aside0 (MatS.Mat 35 3 w' w.heap.size g B L) ∧ Aside0 (Below w.heap.size w w'))
          case atStart => exact ⟨rank, rfl, Nat.le_refl _, hrk, by omega, ⟨by simp⟩, HM, HB⟩
          case round =>
            clear HM HB
            obtain ⟨rq, rfl, hrr, hqn, hgq, HZ, HM, HB⟩ := hrel
            obtain ⟨k2, rfl⟩ : ∃ m, gk = m + 1 := ⟨gk - 1, by omega⟩
            have hdl : (L.drop rank).length = L0.length - rank := by rw [List.length_drop, HL.out.1]
            have hsk := impl_reduce.find_skip j (L.drop rank) (rq - rank) HZ.out (by rw [hdl]; omega)
            rw [List.drop_drop, show rank + (rq - rank) = rq by omega] at hsk
            have prq : (0 ≤ (rq : Int)) = True := eq_true (by omega)
            by_cases hql : rq < L0.length
            · have hlt : rq < L.length := by have := HL.out.1; omega
              obtain ⟨c, hc, hlc⟩ := HM.out.at_ hlt
              have hcm : L[rq].length = m := HL.out.2 _ (List.getElem_mem _)
              rw [List.drop_eq_getElem_cons hlt, impl_reduce.find] at hsk
              have hHZ : L[rq].getD j 0 = 0 → ∀ x ∈ (L.drop rank).take (rq + 1 - rank), x.getD j 0 = 0 := fun h0 x hx => by
                rw [show rq + 1 - rank = (rq - rank) + 1 by omega, List.take_succ_eq_append_getElem (by rw [hdl]; omega), List.mem_append, List.mem_singleton, List.getElem_drop] at hx
                rcases hx with hx | rfl
                · exact HZ.out x hx
                · simpa [show rank + (rq - rank) = rq by omega] using h0
              obtain ⟨own, hown⟩ : ∃ own, L[rq] = own := ⟨_, rfl⟩
              rw [hown] at hlc hcm hsk hHZ
              obtain ⟨v, hv⟩ : ∃ v, own.getD j 0 = v := ⟨_, rfl⟩
              rw [hv] at hsk hHZ
              have hcell := (HM.out.cell hc hlc).1
              have hnum := (HM.out.num hc hlc (j : Int) (by omega) (by rw [hcm]; omega)).1
              rw [hcm] at hcell
              rw [show rd own (j : Int) = own.getD j 0 from by unfold rd; rw [Int.toNat_natCast], hv, Int.toNat_natCast] at hnum
              have qrq : ((rq : Int) < (L0.length : Int)) = True := eq_true (by omega)
              have hrqn : ((rq : Int) = (L0.length : Int)) = False := eq_false (by omega)
              by_cases hz : v = 0
              · have HHZ2 := Aside0.mk (hHZ hz)
                subst hz
                clear hsk hHZ hdl hown hlc hc hcm hv hlt
                go_wp2
                go_roundg k2
                case measure => exact Nat.lt_succ_self _
                case rel => exact ⟨rq + 1, by go_num, by omega, by omega, by omega, HHZ2, HM, HB⟩
              · rw [if_neg hz, Option.map_some, Nat.zero_add] at hsk
                have hgo := FG1.out
                rw [hsk] at hgo
                simp only [show rank + (rq - rank) = rq by omega] at hgo
                have hvz : (v = 0) = False := eq_false hz
                have HO2 := Aside0.mk hlc
                have HO3 := Aside0.mk hcm
                have HO4 := Aside0.mk hv
                have Kc := Aside0.mk hc
                clear hsk hHZ hdl hown hcm hv hgq HZ hlc hc
                have p2 : (0 ≤ (rank : Int)) = True := eq_true (by omega)
                have q2 : ((rank : Int) < (L0.length : Int)) = True := eq_true (by omega)
                by_cases hq0 : rq = rank
                case' pos =>
                  have hq1 : rank = rq := hq0.symm
                  clear hq0
                  subst hq1
                  have hsw : impl_reduce.swap L rank rank = L := if_pos rfl
                  have hgd : L.getD rank [] = own := by rw [List.getD_eq_getElem?_getD, HO2.out]; rfl
                  rw [hsw, if_pos (Nat.sub_self _), hgd, HO4.out] at hgo
                  obtain ⟨inv, hinv, hgo⟩ := Option.bind_eq_some_iff.mp hgo
                  have FI := Aside0.mk hinv
                  have FG3 := Aside0.mk hgo
                  have HO1 := Kc
                  clear hinv hgo hsw hgd Kc FG1
                  go_wp2_with (go_at_call 87; (with_reducible refine (spec_taInverse.calls k v a1 inv _ FI.out).mono ?_); rintro e w' ⟨rfl, ⟨nd2, rfl⟩⟩; have HM2 := Aside0.mk (HM.out.below (pw_below_drewN (Below.refl _ _) nd2)); have HB2 := Aside0.mk (pw_below_drewN HB.out nd2); clear HM HB hcell hnum)
                  generalize wr.drewN nd2 = W5 at HM2 HB2 ⊢
                  obtain ⟨L1, hL1⟩ : ∃ L1, L1 = L := ⟨_, rfl⟩
                  rw [← hL1] at HM2 HL FG3 HO2
                  obtain ⟨B1, hB1⟩ : ∃ B1, B1 = B := ⟨_, rfl⟩
                  rw [← hB1] at HM2 HO1
                  obtain ⟨o, ho⟩ : ∃ o, o = c := ⟨_, rfl⟩
                  rw [← ho] at HO1
                  clear hL1 hB1 ho prq qrq hrqn hlt hvz
                  generalize Int.tmod (wrap64 (det * v)) a1 = d2 at FG3 ⊢
                case' neg =>
                  have hne : rank ≠ rq := fun e => hq0 e.symm
                  have hrke : ((rq : Int) = (rank : Int)) = False := eq_false (by omega)
                  have hsw : impl_reduce.swap L rank rq = MatS.exch L rank rq (L.getD rank []) (L.getD rq []) := if_neg hne
                  have hrk2 : rank < L.length := by have := HL.out.1; omega
                  obtain ⟨b, hb, hlb⟩ := HM.out.at_ hrk2
                  have hbm : L[rank].length = m := HL.out.2 _ (List.getElem_mem _)
                  obtain ⟨lb, hlbe⟩ : ∃ x, L[rank] = x := ⟨_, rfl⟩
                  rw [hlbe] at hlb hbm
                  rw [hsw, if_neg (show ¬ rq - rank = 0 by omega), show L.getD rank [] = lb by rw [List.getD_eq_getElem?_getD, hlb]; rfl, show L.getD rq [] = own by rw [List.getD_eq_getElem?_getD, HO2.out]; rfl] at hgo
                  have hx1 : (MatS.exch L rank rq lb own)[rank]? = some own := by rw [MatS.exch_at hlb HO2.out, if_neg (Ne.symm hne), if_pos rfl]; exact HO2.out
                  have hx2 : (MatS.exch B rank rq b c)[rank]? = some c := by rw [MatS.exch_at hb Kc.out, if_neg (Ne.symm hne), if_pos rfl]; exact Kc.out
                  obtain ⟨d1, hd1⟩ : ∃ d1, Int.tmod (wrap64 (a1 - det)) a1 = d1 := ⟨_, rfl⟩
                  rw [show (MatS.exch L rank rq lb own).getD rank [] = own by rw [List.getD_eq_getElem?_getD, hx1]; rfl, HO4.out, hd1] at hgo
                  obtain ⟨inv, hinv, hgo⟩ := Option.bind_eq_some_iff.mp hgo
                  have FI := Aside0.mk hinv
                  have FG3 := Aside0.mk hgo
                  have Klc := HO2
                  have HO1 := Aside0.mk hx2
                  have Kb := Aside0.mk hb
                  have Klb := Aside0.mk hlb
                  have Kbm := Aside0.mk hbm
                  have HLx : Aside0 ((MatS.exch L rank rq lb own).length = L0.length ∧ ∀ x ∈ MatS.exch L rank rq lb own, x.length = m) := ⟨by unfold MatS.exch; rw [List.length_set, List.length_set]; exact HL.out.1, fun x hx => by
                    obtain ⟨t, ht⟩ := List.getElem?_of_mem hx
                    rw [MatS.exch_at hlb HO2.out] at ht
                    exact HL.out.2 x (List.mem_of_getElem? ht)⟩
                  clear HO2
                  have HO2 := Aside0.mk hx1
                  clear hinv hgo hb hlb hbm hsw hlbe hx1 hx2 hrk2 HL hq0 FG1 hlt
                  have HL := HLx
                  clear HLx
                  go_wp2
                  have HM2 := Aside0.mk (HM.out.below (below_drew (Below.refl _ _)))
                  have HB2 := Aside0.mk (below_drew1 HB.out)
                  clear HM HB hcell hnum
                  obtain ⟨hxb, hfb⟩ := HM2.out.cell Kb.out Klb.out
                  rw [Kbm.out] at hxb
                  have hxc := (HM2.out.cell Kc.out Klc.out).1
                  obtain ⟨hyc, hyf⟩ := HM2.out.mid Kc.out Klc.out hne (.slice (some ⟨c.1, 0, none⟩) m c.2)
                  rw [HO3.out] at hxc hyc
                  refine start_ (n := 10) (S := fun w' => w'.cell? ⟨g, rank, none⟩ = some (.slice (some ⟨b.1, 0, none⟩) m b.2) ∧ w'.cell? ⟨g, rq, none⟩ = some (.slice (some ⟨c.1, 0, none⟩) m c.2)) (ds := []) #[false, false, false, false, false, false, false, false, false, false] (by kernel_rfl) rfl rfl ⟨hxb, hxc⟩ (fun hHeld => ?_); refine with_tabW spec_taSteps.tab26 spec_taSteps.bits26 (fun HT_ HW_ => ?_)
                  generalize wr.drew = W2 at HM2 HB2 hxb hxc hfb hyc hyf hHeld ⊢
                  refine pure_ (i := 0) (N := some 91) (v := ?_) (a' := ?_) #[true, false, false, false, false, false, false, false, false, false] rfl rfl (any_of HT_.out (by kernel_rfl)) (fun _ _ _ h => h) (Or.inl ⟨by rfl, ?_⟩) ?_ ?_
                  rotate_left
                  · intro w'
                    go_simp
                    with_reducible rfl
                  rotate_left
                  · simp only [Act.put, List.setIfInBounds_toArray, List.set_cons_zero, List.set_cons_succ, i64_w, i32_w]
                    rfl
                  refine pure_ (i := 1) (N := some 92) (v := ?_) (a' := ?_) #[true, true, false, false, false, false, false, false, false, false] rfl rfl (any_of HT_.out (by kernel_rfl)) (fun _ _ _ h => h) (Or.inl ⟨by rfl, ?_⟩) ?_ ?_
                  rotate_left
                  · intro w'
                    go_simp
                    with_reducible rfl
                  rotate_left
                  · simp only [Act.put, List.setIfInBounds_toArray, List.set_cons_zero, List.set_cons_succ, i64_w, i32_w]
                    rfl
                  refine pure_ (i := 2) (N := some 93) (v := ?_) (a' := ?_) #[true, true, true, false, false, false, false, false, false, false] rfl rfl (any_of HT_.out (by kernel_rfl)) (fun _ _ _ h => h) (Or.inl ⟨by rfl, ?_⟩) ?_ ?_
                  rotate_left
                  · intro w'
                    go_simp
                    with_reducible rfl
                  rotate_left
                  · simp only [Act.put, List.setIfInBounds_toArray, List.set_cons_zero, List.set_cons_succ, i64_w, i32_w]
                    rfl
                  refine pure_ (i := 4) (N := some 95) (v := ?_) (a' := ?_) #[true, true, true, false, true, false, false, false, false, false] rfl rfl (any_of HT_.out (by kernel_rfl)) (fun _ _ _ h => h) (Or.inl ⟨by rfl, ?_⟩) ?_ ?_
                  rotate_left
                  · intro w'
                    go_simp
                    with_reducible rfl
                  rotate_left
                  · simp only [Act.put, List.setIfInBounds_toArray, List.set_cons_zero, List.set_cons_succ, i64_w, i32_w]
                    rfl
                  refine pure_ (i := 5) (N := some 96) (v := ?_) (a' := ?_) #[true, true, true, false, true, true, false, false, false, false] rfl rfl (any_of HT_.out (by kernel_rfl)) (fun _ _ _ h => h) (Or.inl ⟨by rfl, ?_⟩) ?_ ?_
                  rotate_left
                  · intro w'
                    go_simp
                    with_reducible rfl
                  rotate_left
                  · simp only [Act.put, List.setIfInBounds_toArray, List.set_cons_zero, List.set_cons_succ, i64_w, i32_w]
                    rfl
                  refine pure_ (i := 6) (N := some 97) (v := ?_) (a' := ?_) #[true, true, true, false, true, true, true, false, false, false] rfl rfl (any_of HT_.out (by kernel_rfl)) (fun _ _ _ h => h) (Or.inl ⟨by rfl, ?_⟩) ?_ ?_
                  rotate_left
                  · intro w'
                    go_simp
                    with_reducible rfl
                  rotate_left
                  · simp only [Act.put, List.setIfInBounds_toArray, List.set_cons_zero, List.set_cons_succ, i64_w, i32_w]
                    rfl
                  refine take_ (i := 3) (N := some 94) (v := ?_) (a' := ?_) #[true, true, true, true, true, true, true, false, false, false] rfl rfl (take_ofW HT_.out HW_.out (by kernel_rfl)) (fun _ _ _ h => h) (Or.inl ⟨by rfl, ?_⟩) hHeld ?_ ?_
                  rotate_left
                  · rintro w' ⟨s0, s1⟩
                    go_simp
                    with_reducible rfl
                  rotate_left
                  · simp only [Act.put, List.setIfInBounds_toArray, List.set_cons_zero, List.set_cons_succ, i64_w, i32_w]
                    rfl
                  refine pure_ (i := 8) (N := some 16) (v := ?_) (a' := ?_) #[true, true, true, true, true, true, true, false, true, false] rfl rfl (any_of HT_.out (by kernel_rfl)) (fun _ _ _ h => h) (Or.inl ⟨by rfl, ?_⟩) ?_ ?_
                  rotate_left
                  · intro w'
                    go_simp
                    with_reducible rfl
                  rotate_left
                  · simp only [Act.put, List.setIfInBounds_toArray, List.set_cons_zero, List.set_cons_succ, i64_w, i32_w]
                    rfl
                  refine take_ (i := 7) (N := some 98) (v := ?_) (a' := ?_) #[true, true, true, true, true, true, true, true, true, false] rfl rfl (take_ofW HT_.out HW_.out (by kernel_rfl)) (fun _ _ _ h => h) (Or.inl ⟨by rfl, ?_⟩) hHeld ?_ ?_
                  rotate_left
                  · rintro w' ⟨s0, s1⟩
                    go_simp
                    with_reducible rfl
                  rotate_left
                  · simp only [Act.put, List.setIfInBounds_toArray, List.set_cons_zero, List.set_cons_succ, i64_w, i32_w]
                    rfl
                  refine pure_ (i := 9) (N := some 17) (v := ?_) (a' := ?_) #[true, true, true, true, true, true, true, true, true, true] rfl rfl (any_of HT_.out (by kernel_rfl)) (fun _ _ _ h => h) (Or.inl ⟨by rfl, ?_⟩) ?_ ?_
                  rotate_left
                  · intro w'
                    go_simp
                    with_reducible rfl
                  rotate_left
                  · simp only [Act.put, List.setIfInBounds_toArray, List.set_cons_zero, List.set_cons_succ, i64_w, i32_w]
                    rfl
                  refine done_ (done_of HT_.out (by kernel_rfl)) ?_
                  obtain ⟨W3, hW3⟩ : ∃ W3, W3 = (W2.setCell ⟨g, rank, none⟩ (.slice (some ⟨c.1, 0, none⟩) m c.2)).setCell ⟨g, rq, none⟩ (.slice (some ⟨b.1, 0, none⟩) m b.2) := ⟨_, rfl⟩
                  have hP := HM2.out.swap Kb.out Klb.out Kc.out Klc.out
                  rw [HO3.out, Kbm.out, ← hW3] at hP
                  have HM3 := Aside0.mk hP
                  have HB3 := Aside0.mk (below_set (g := g) (j := rq) (v := .slice (some ⟨b.1, 0, none⟩) m b.2) (below_set (g := g) (j := rank) (v := .slice (some ⟨c.1, 0, none⟩) m c.2) HB2.out HM2.out.gb) HM2.out.gb)
                  rw [← hW3] at HB3
                  have HW3 := Aside0.mk hW3
                  clear hP HM2 HB2 hxc hHeld hne hW3
                  obtain ⟨L1, hL1⟩ : ∃ L1, L1 = MatS.exch L rank rq lb own := ⟨_, rfl⟩
                  rw [← hL1] at HM3 HL FG3 HO2
                  obtain ⟨B1, hB1⟩ : ∃ B1, B1 = MatS.exch B rank rq b c := ⟨_, rfl⟩
                  rw [← hB1] at HM3 HO1
                  clear hL1 hB1
                  have hxo := (HM3.out.cell HO1.out HO2.out).1
                  rw [HO3.out] at hxo
                  have hxv := (HM3.out.num HO1.out HO2.out (j : Int) (by omega) (by rw [HO3.out]; omega)).1
                  rw [show rd own (j : Int) = own.getD j 0 from by unfold rd; rw [Int.toNat_natCast], HO4.out, Int.toNat_natCast] at hxv
                  obtain ⟨o, ho⟩ : ∃ o, o = c := ⟨_, rfl⟩
                  clear Klb Klc Kbm
                  go_wp2_with (first
                    | ((with_reducible refine gate_store (t := 35) (p := 102) (v := .tmp 101) rfl ?_); refine store_event ?sg (t := 35) (p := 102) (v := .tmp 101) ?so ?sN (w1 := W2.setCell ⟨g, rank, none⟩ (.slice (some ⟨c.1, 0, none⟩) m c.2)) ?sr ?_; (case sg => rfl); (case so => rfl); (case sN => rfl); (case sr => first | (go_simp; done) | (go_simp; rfl)); intro WS hWS; rw [← hWS] at hyc hyf HW3; clear hWS hxb hfb)
                    | ((with_reducible refine gate_store (t := 35) (p := 106) (v := .tmp 105) rfl ?_); refine store_event ?sg (t := 35) (p := 106) (v := .tmp 105) ?so ?sN (w1 := WS.setCell ⟨g, rq, none⟩ (.slice (some ⟨b.1, 0, none⟩) m b.2)) ?sr ?_; (case sg => rfl); (case so => rfl); (case sN => rfl); (case sr => first | (go_simp; done) | (go_simp; rfl)); intro WT hWT; obtain rfl : W3 = WT := HW3.out.trans hWT.symm; clear hWT HW3 hyc hyf)
                    | (go_at_call 87; (with_reducible refine (spec_taInverse.calls k v a1 inv _ FI.out).mono ?_); rintro e w' ⟨rfl, ⟨nd2, rfl⟩⟩; have HM2 := Aside0.mk (HM3.out.below (pw_below_drewN (Below.refl _ _) nd2)); have HB2 := Aside0.mk (pw_below_drewN HB3.out nd2); clear HM3 HB3 hxo hxv))
                  generalize W3.drewN nd2 = W5 at HM2 HB2 ⊢
                  rw [← ho] at HO1
                  clear ho prq qrq hrqn hvz hd1 hrke
                  generalize Int.tmod (wrap64 (d1 * v)) a1 = d2 at FG3 ⊢
                all_goals
                  obtain ⟨M, hM⟩ : ∃ M, (L1.drop (rank + 1)).map (spec_taSteps.row a1 j inv own) = M := ⟨_, rfl⟩
                  rw [hM] at FG3
                  have HMl : Aside0 (M.length = L0.length - (rank + 1)) := ⟨by rw [← hM, List.length_map, List.length_drop, HL.out.1]⟩
                  have HMg : Aside0 (∀ (i : Nat) (h1 : rank + 1 + i < L1.length) (h2 : i < M.length), M[i] = spec_taSteps.row a1 j inv own L1[rank + 1 + i]) := ⟨fun i h1 h2 => by subst hM; rw [List.getElem_map, List.getElem_drop]⟩
                  have HRl : Aside0 (∀ row : List Int, row.length = m → (spec_taSteps.row a1 j inv own row).length = m) := ⟨fun row hr => by unfold spec_taSteps.row; rw [List.length_zipWith, hr, HO3.out]; omega⟩
                  have HMr : Aside0 (∀ x ∈ M, x.length = m) := ⟨by
                    intro x hx
                    rw [← hM] at hx
                    obtain ⟨y, hy, rfl⟩ := List.mem_map.1 hx
                    exact HRl.out y (HL.out.2 _ (List.mem_of_mem_drop hy))⟩
                  clear hM
                  have hrkn : rank < L0.length := by omega
                  go_loopg [19] (L0.length + 1) (fun kq v19 w' => ∃ (ri : Nat), v19 = .int .i64 (ri : Int) ∧ rank + 1 ≤ ri ∧ ri ≤ L0.length ∧ L0.length - ri < kq ∧ Aside0 (MatS.Mat 35 3 w' w.heap.size g B1 (impl_reduce.mid L1 M (rank + 1) (ri - (rank + 1)))) ∧ Aside0 (Below w.heap.size w w'))
                  case' atStart => exact ⟨rank + 1, by go_num, Nat.le_refl _, by omega, by omega, ⟨by rw [Nat.sub_self, impl_reduce.mid_start]; exact HM2.out⟩, HB2⟩
                  case' round =>
                    clear HM2 HB2
                    obtain ⟨ri, rfl, hri1, hri2, hgi, HM, HB⟩ := hrel
                    obtain ⟨k3, rfl⟩ : ∃ m, gk = m + 1 := ⟨gk - 1, by omega⟩
                    obtain ⟨i, hi⟩ : ∃ i, ri - (rank + 1) = i := ⟨_, rfl⟩
                    rw [hi] at HM
                    have HI := Aside0.mk (show rank + 1 + i = ri by omega)
                    clear hi
                    by_cases hil : ri < L0.length
                    case' pos =>
                      have hMi : i < M.length := by have := HMl.out; have := HI.out; omega
                      have hr1 : ri < L1.length := by have := HL.out.1; omega
                      have hLM := impl_reduce.mid_len L1 M (rank + 1) i (by omega) (by have := HMl.out; have := HL.out.1; omega) (by omega)
                      obtain ⟨b, hb, hb_⟩ := HM.out.at_ (i := ri) (by rw [hLM]; exact hr1)
                      clear hb_
                      have hrow := impl_reduce.mid_at L1 M (rank + 1) i (by omega) (by have := HMl.out; have := HL.out.1; omega) hMi
                      have hset := impl_reduce.mid_set L1 M (rank + 1) i (by omega) (by have := HMl.out; have := HL.out.1; omega) hMi
                      have hmg := HMg.out i (by rw [HI.out]; exact hr1) hMi
                      simp only [HI.out] at hrow hset hmg
                      rw [List.getElem?_eq_getElem hr1] at hrow
                      have hrm := HL.out.2 _ (List.getElem_mem hr1)
                      rw [hmg] at hset
                      obtain ⟨row, hre⟩ : ∃ row, L1[ri] = row := ⟨_, rfl⟩
                      rw [hre] at hrow hrm hset
                      obtain ⟨u, hu⟩ : ∃ u, row.getD j 0 = u := ⟨_, rfl⟩
                      have HOL : Aside0 ((impl_reduce.mid L1 M (rank + 1) i)[rank]? = some own) := ⟨by rw [impl_reduce.mid_low L1 M _ i rank (by omega) (by omega)]; exact HO2.out⟩
                      obtain ⟨T, hT⟩ : ∃ T, spec_taSteps.row a1 j inv own row = T := ⟨_, rfl⟩
                      have hTl : T.length = m := by rw [← hT]; exact HRl.out row hrm
                      generalize hbq : Int.tmod (wrap64 (u * inv)) a1 = bq
                      have hTg : ∀ (kk : Nat) (h : kk < T.length), T[kk] = spec_taSteps.one a1 bq (row.getD kk 0) (own.getD kk 0) := fun kk h => by
                        have h2 := hT
                        unfold spec_taSteps.row at h2
                        rw [hu, hbq] at h2
                        subst h2
                        have h1 : kk < row.length := by omega
                        have h3 : kk < own.length := by have := HO3.out; omega
                        rw [List.getElem_zipWith, List.getD_eq_getElem?_getD, List.getElem?_eq_getElem h1, List.getD_eq_getElem?_getD, List.getElem?_eq_getElem h3]; rfl
                      rw [hT] at hset
                      have HSET := Aside0.mk hset
                      have HROW := Aside0.mk hrow
                      have HRM := Aside0.mk hrm
                      have HBB := Aside0.mk hb
                      have HTG := Aside0.mk hTg
                      have HTL := Aside0.mk hTl
                      have HLL := Aside0.mk hLM
                      have hxr := (HM.out.cell hb hrow).1
                      rw [hrm] at hxr
                      have hxu := (HM.out.num hb hrow (j : Int) (by omega) (by rw [hrm]; omega)).1
                      rw [show rd row (j : Int) = row.getD j 0 from by unfold rd; rw [Int.toNat_natCast], hu, Int.toNat_natCast] at hxu
                      have pri := eq_true (show 0 ≤ (ri : Int) by omega)
                      have qri := eq_true (show (ri : Int) < (L0.length : Int) by omega)
                      clear hset hrow hrm hb hTg hTl hLM hT hre hu hMi hmg
                      go_wp2
                      have HRK := Aside0.mk (show rank ≠ ri by omega)
                      have HSS := Aside0.mk (show ((impl_reduce.mid L1 M (rank + 1) i).set ri row) = impl_reduce.mid L1 M (rank + 1) i from by
                        obtain ⟨h1_, h2_⟩ := List.getElem?_eq_some_iff.1 HROW.out
                        rw [← h2_, List.set_getElem_self])
                      have hrl : row.length = m := HRM.out
                      generalize impl_reduce.mid L1 M (rank + 1) i = LL at HM HOL HLL HROW HSET HSS
                      first | rw [hbq] | skip
                      clear hxr hxu
                      go_loopg [151] (m + 1) (fun kq v151 w' => ∃ (kk : Nat), v151 = .int .i64 kk ∧ kk ≤ m ∧ m - kk < kq ∧ Aside0 (MatS.Mat 35 3 w' w.heap.size g B1 (LL.set ri (impl_reduce.cur row T 0 kk))) ∧ Aside0 (Below w.heap.size w w'))
                      case' atStart => exact ⟨0, by go_num, Nat.zero_le _, by omega, ⟨by rw [impl_reduce.cur_start, HSS.out]; exact HM.out⟩, HB⟩
                      case' round =>
                        clear HM HB
                        obtain ⟨kk, rfl, hkm0, hgk, HM, HB⟩ := hrel
                        obtain ⟨k4, rfl⟩ : ∃ m, gk = m + 1 := ⟨gk - 1, by omega⟩
                        by_cases hkl : kk < m
                        case' pos =>
                          have hkm : kk < row.length := by omega
                          have hbr := HBB.out
                          have TLn := Aside0.mk (show T.length = row.length - 0 by rw [hrl]; exact HTL.out)
                          have hrowc : (LL.set ri (impl_reduce.cur row T 0 kk))[ri]? = some (impl_reduce.cur row T 0 kk) := by rw [List.getElem?_set, if_pos rfl, if_pos (by rw [HLL.out]; exact hr1)]
                          have howc : (LL.set ri (impl_reduce.cur row T 0 kk))[rank]? = some own := by rw [List.getElem?_set, if_neg (Ne.symm HRK.out)]; exact HOL.out
                          have hkt : kk < T.length := by have := HTL.out; omega
                          have hft := HTG.out kk hkt
                          have hcs := impl_reduce.cur_set row T 0 kk (Nat.zero_le _) hkm TLn.out (by rw [Nat.sub_zero]; exact hkt)
                          simp only [Nat.sub_zero] at hcs
                          obtain ⟨xk, hxk⟩ : ∃ x, row.getD kk 0 = x := ⟨_, rfl⟩
                          obtain ⟨yk, hyk⟩ : ∃ y, own.getD kk 0 = y := ⟨_, rfl⟩
                          rw [hft, hxk, hyk] at hcs
                          unfold spec_taSteps.one at hcs
                          have HCS := Aside0.mk hcs
                          have nM := Aside0.mk (HM.out.below (below_drew (Below.refl _ _)))
                          have nB := Aside0.mk (below_drew1 HB.out)
                          have hxg0 := HM.out.cell hbr hrowc
                          have hcl := impl_reduce.cur_len row T 0 kk (Nat.zero_le _) (by omega) TLn.out
                          clear HM HB hft hcs
                          have HM := nM
                          have HB := nB
                          clear nM nB hxg0
                          have hxg := (HM.out.cell hbr hrowc).1
                          rw [hcl, hrl] at hxg
                          have hxh := (HM.out.cell HO1.out howc).1
                          rw [HO3.out] at hxh
                          obtain ⟨hxr, hff⟩ := HM.out.num hbr hrowc (kk : Int) (by omega) (by rw [hcl]; omega)
                          rw [show rd (impl_reduce.cur row T 0 kk) (kk : Int) = (impl_reduce.cur row T 0 kk).getD kk 0 from by unfold rd; rw [Int.toNat_natCast], impl_reduce.cur_at row T 0 kk (Nat.zero_le _) hkm TLn.out, hxk, Int.toNat_natCast] at hxr
                          rw [Int.toNat_natCast] at hff
                          have hxo := (HM.out.num HO1.out howc (kk : Int) (by omega) (by rw [HO3.out]; omega)).1
                          rw [show rd own (kk : Int) = own.getD kk 0 from by unfold rd; rw [Int.toNat_natCast], hyk, Int.toNat_natCast] at hxo
                          have HRC := Aside0.mk hrowc
                          have HBR := Aside0.mk hbr
                          have pk := eq_true (show 0 ≤ (kk : Int) by omega)
                          have qk := eq_true (show (kk : Int) < (m : Int) by omega)
                          clear hrowc howc hkm hbr hkt hxk hyk hcl
                          go_wp2
                          refine start_ (n := 28) (S := fun w' => w'.cell? ⟨g, ri, none⟩ = some (.slice (some ⟨b.1, 0, none⟩) m b.2) ∧ w'.cell? ⟨b.1, kk, none⟩ = some (.int .i64 xk) ∧ w'.cell? ⟨g, rank, none⟩ = some (.slice (some ⟨o.1, 0, none⟩) m o.2) ∧ w'.cell? ⟨o.1, kk, none⟩ = some (.int .i64 yk)) (ds := [27]) #[false, false, false, false, false, false, false, false, false, false, false, false, false, false, false, false, false, false, false, false, false, false, false, false, false, false, false, false] (by kernel_rfl) rfl rfl ⟨hxg, hxr, hxh, hxo⟩ (fun hHeld => ?_); refine with_tabW spec_taSteps.tab38 spec_taSteps.bits38 (fun HT_ HW_ => ?_)
                          generalize wr.drew = W4 at HM HB hxg hxr hxh hxo hff hHeld ⊢
                          refine pure_ (i := 0) (N := some 154) (v := ?_) (a' := ?_) #[true, false, false, false, false, false, false, false, false, false, false, false, false, false, false, false, false, false, false, false, false, false, false, false, false, false, false, false] rfl rfl (any_of HT_.out (by kernel_rfl)) (fun _ _ _ h => h) (Or.inl ⟨by rfl, ?_⟩) ?_ ?_
                          rotate_left
                          · intro w'
                            go_simp
                            with_reducible rfl
                          rotate_left
                          · simp only [Act.put, List.setIfInBounds_toArray, List.set_cons_zero, List.set_cons_succ, i64_w, i32_w]
                            rfl
                          refine pure_ (i := 1) (N := some 155) (v := ?_) (a' := ?_) #[true, true, false, false, false, false, false, false, false, false, false, false, false, false, false, false, false, false, false, false, false, false, false, false, false, false, false, false] rfl rfl (any_of HT_.out (by kernel_rfl)) (fun _ _ _ h => h) (Or.inl ⟨by rfl, ?_⟩) ?_ ?_
                          rotate_left
                          · intro w'
                            go_simp
                            with_reducible rfl
                          rotate_left
                          · simp only [Act.put, List.setIfInBounds_toArray, List.set_cons_zero, List.set_cons_succ, i64_w, i32_w]
                            rfl
                          refine pure_ (i := 2) (N := some 156) (v := ?_) (a' := ?_) #[true, true, true, false, false, false, false, false, false, false, false, false, false, false, false, false, false, false, false, false, false, false, false, false, false, false, false, false] rfl rfl (any_of HT_.out (by kernel_rfl)) (fun _ _ _ h => h) (Or.inl ⟨by rfl, ?_⟩) ?_ ?_
                          rotate_left
                          · intro w'
                            go_simp
                            with_reducible rfl
                          rotate_left
                          · simp only [Act.put, List.setIfInBounds_toArray, List.set_cons_zero, List.set_cons_succ, i64_w, i32_w]
                            rfl
                          refine pure_ (i := 4) (N := some 158) (v := ?_) (a' := ?_) #[true, true, true, false, true, false, false, false, false, false, false, false, false, false, false, false, false, false, false, false, false, false, false, false, false, false, false, false] rfl rfl (any_of HT_.out (by kernel_rfl)) (fun _ _ _ h => h) (Or.inl ⟨by rfl, ?_⟩) ?_ ?_
                          rotate_left
                          · intro w'
                            go_simp
                            with_reducible rfl
                          rotate_left
                          · simp only [Act.put, List.setIfInBounds_toArray, List.set_cons_zero, List.set_cons_succ, i64_w, i32_w]
                            rfl
                          refine pure_ (i := 5) (N := some 159) (v := ?_) (a' := ?_) #[true, true, true, false, true, true, false, false, false, false, false, false, false, false, false, false, false, false, false, false, false, false, false, false, false, false, false, false] rfl rfl (any_of HT_.out (by kernel_rfl)) (fun _ _ _ h => h) (Or.inl ⟨by rfl, ?_⟩) ?_ ?_
                          rotate_left
                          · intro w'
                            go_simp
                            with_reducible rfl
                          rotate_left
                          · simp only [Act.put, List.setIfInBounds_toArray, List.set_cons_zero, List.set_cons_succ, i64_w, i32_w]
                            rfl
                          refine pure_ (i := 6) (N := some 160) (v := ?_) (a' := ?_) #[true, true, true, false, true, true, true, false, false, false, false, false, false, false, false, false, false, false, false, false, false, false, false, false, false, false, false, false] rfl rfl (any_of HT_.out (by kernel_rfl)) (fun _ _ _ h => h) (Or.inl ⟨by rfl, ?_⟩) ?_ ?_
                          rotate_left
                          · intro w'
                            go_simp
                            with_reducible rfl
                          rotate_left
                          · simp only [Act.put, List.setIfInBounds_toArray, List.set_cons_zero, List.set_cons_succ, i64_w, i32_w]
                            rfl
                          refine pure_ (i := 7) (N := some 161) (v := ?_) (a' := ?_) #[true, true, true, false, true, true, true, true, false, false, false, false, false, false, false, false, false, false, false, false, false, false, false, false, false, false, false, false] rfl rfl (any_of HT_.out (by kernel_rfl)) (fun _ _ _ h => h) (Or.inl ⟨by rfl, ?_⟩) ?_ ?_
                          rotate_left
                          · intro w'
                            go_simp
                            with_reducible rfl
                          rotate_left
                          · simp only [Act.put, List.setIfInBounds_toArray, List.set_cons_zero, List.set_cons_succ, i64_w, i32_w]
                            rfl
                          refine pure_ (i := 9) (N := some 163) (v := ?_) (a' := ?_) #[true, true, true, false, true, true, true, true, false, true, false, false, false, false, false, false, false, false, false, false, false, false, false, false, false, false, false, false] rfl rfl (any_of HT_.out (by kernel_rfl)) (fun _ _ _ h => h) (Or.inl ⟨by rfl, ?_⟩) ?_ ?_
                          rotate_left
                          · intro w'
                            go_simp
                            with_reducible rfl
                          rotate_left
                          · simp only [Act.put, List.setIfInBounds_toArray, List.set_cons_zero, List.set_cons_succ, i64_w, i32_w]
                            rfl
                          refine pure_ (i := 12) (N := some 166) (v := ?_) (a' := ?_) #[true, true, true, false, true, true, true, true, false, true, false, false, true, false, false, false, false, false, false, false, false, false, false, false, false, false, false, false] rfl rfl (any_of HT_.out (by kernel_rfl)) (fun _ _ _ h => h) (Or.inl ⟨by rfl, ?_⟩) ?_ ?_
                          rotate_left
                          · intro w'
                            go_simp
                            with_reducible rfl
                          rotate_left
                          · simp only [Act.put, List.setIfInBounds_toArray, List.set_cons_zero, List.set_cons_succ, i64_w, i32_w]
                            rfl
                          refine pure_ (i := 13) (N := some 167) (v := ?_) (a' := ?_) #[true, true, true, false, true, true, true, true, false, true, false, false, true, true, false, false, false, false, false, false, false, false, false, false, false, false, false, false] rfl rfl (any_of HT_.out (by kernel_rfl)) (fun _ _ _ h => h) (Or.inl ⟨by rfl, ?_⟩) ?_ ?_
                          rotate_left
                          · intro w'
                            go_simp
                            with_reducible rfl
                          rotate_left
                          · simp only [Act.put, List.setIfInBounds_toArray, List.set_cons_zero, List.set_cons_succ, i64_w, i32_w]
                            rfl
                          refine pure_ (i := 14) (N := some 168) (v := ?_) (a' := ?_) #[true, true, true, false, true, true, true, true, false, true, false, false, true, true, true, false, false, false, false, false, false, false, false, false, false, false, false, false] rfl rfl (any_of HT_.out (by kernel_rfl)) (fun _ _ _ h => h) (Or.inl ⟨by rfl, ?_⟩) ?_ ?_
                          rotate_left
                          · intro w'
                            go_simp
                            with_reducible rfl
                          rotate_left
                          · simp only [Act.put, List.setIfInBounds_toArray, List.set_cons_zero, List.set_cons_succ, i64_w, i32_w]
                            rfl
                          refine pure_ (i := 15) (N := some 169) (v := ?_) (a' := ?_) #[true, true, true, false, true, true, true, true, false, true, false, false, true, true, true, true, false, false, false, false, false, false, false, false, false, false, false, false] rfl rfl (any_of HT_.out (by kernel_rfl)) (fun _ _ _ h => h) (Or.inl ⟨by rfl, ?_⟩) ?_ ?_
                          rotate_left
                          · intro w'
                            go_simp
                            with_reducible rfl
                          rotate_left
                          · simp only [Act.put, List.setIfInBounds_toArray, List.set_cons_zero, List.set_cons_succ, i64_w, i32_w]
                            rfl
                          refine pure_ (i := 16) (N := some 170) (v := ?_) (a' := ?_) #[true, true, true, false, true, true, true, true, false, true, false, false, true, true, true, true, true, false, false, false, false, false, false, false, false, false, false, false] rfl rfl (any_of HT_.out (by kernel_rfl)) (fun _ _ _ h => h) (Or.inl ⟨by rfl, ?_⟩) ?_ ?_
                          rotate_left
                          · intro w'
                            go_simp
                            with_reducible rfl
                          rotate_left
                          · simp only [Act.put, List.setIfInBounds_toArray, List.set_cons_zero, List.set_cons_succ, i64_w, i32_w]
                            rfl
                          refine pure_ (i := 17) (N := some 171) (v := ?_) (a' := ?_) #[true, true, true, false, true, true, true, true, false, true, false, false, true, true, true, true, true, true, false, false, false, false, false, false, false, false, false, false] rfl rfl (any_of HT_.out (by kernel_rfl)) (fun _ _ _ h => h) (Or.inl ⟨by rfl, ?_⟩) ?_ ?_
                          rotate_left
                          · intro w'
                            go_simp
                            with_reducible rfl
                          rotate_left
                          · simp only [Act.put, List.setIfInBounds_toArray, List.set_cons_zero, List.set_cons_succ, i64_w, i32_w]
                            rfl
                          refine pure_ (i := 19) (N := some 173) (v := ?_) (a' := ?_) #[true, true, true, false, true, true, true, true, false, true, false, false, true, true, true, true, true, true, false, true, false, false, false, false, false, false, false, false] rfl rfl (any_of HT_.out (by kernel_rfl)) (fun _ _ _ h => h) (Or.inl ⟨by rfl, ?_⟩) ?_ ?_
                          rotate_left
                          · intro w'
                            go_simp
                            with_reducible rfl
                          rotate_left
                          · simp only [Act.put, List.setIfInBounds_toArray, List.set_cons_zero, List.set_cons_succ, i64_w, i32_w]
                            rfl
                          refine pure_ (i := 24) (N := some 178) (v := ?_) (a' := ?_) #[true, true, true, false, true, true, true, true, false, true, false, false, true, true, true, true, true, true, false, true, false, false, false, false, true, false, false, false] rfl rfl (any_of HT_.out (by kernel_rfl)) (fun _ _ _ h => h) (Or.inl ⟨by rfl, ?_⟩) ?_ ?_
                          rotate_left
                          · intro w'
                            go_simp
                            with_reducible rfl
                          rotate_left
                          · simp only [Act.put, List.setIfInBounds_toArray, List.set_cons_zero, List.set_cons_succ, i64_w, i32_w]
                            rfl
                          refine take_ (i := 3) (N := some 157) (v := ?_) (a' := ?_) #[true, true, true, true, true, true, true, true, false, true, false, false, true, true, true, true, true, true, false, true, false, false, false, false, true, false, false, false] rfl rfl (take_ofW HT_.out HW_.out (by kernel_rfl)) (fun _ _ _ h => h) (Or.inl ⟨by rfl, ?_⟩) hHeld ?_ ?_
                          rotate_left
                          · rintro w' ⟨s0, s1, s2, s3⟩
                            go_simp
                            with_reducible rfl
                          rotate_left
                          · simp only [Act.put, List.setIfInBounds_toArray, List.set_cons_zero, List.set_cons_succ, i64_w, i32_w]
                            rfl
                          refine take_ (i := 8) (N := some 162) (v := ?_) (a' := ?_) #[true, true, true, true, true, true, true, true, true, true, false, false, true, true, true, true, true, true, false, true, false, false, false, false, true, false, false, false] rfl rfl (take_ofW HT_.out HW_.out (by kernel_rfl)) (fun _ _ _ h => h) (Or.inl ⟨by rfl, ?_⟩) hHeld ?_ ?_
                          rotate_left
                          · rintro w' ⟨s0, s1, s2, s3⟩
                            go_simp
                            with_reducible rfl
                          rotate_left
                          · simp only [Act.put, List.setIfInBounds_toArray, List.set_cons_zero, List.set_cons_succ, i64_w, i32_w]
                            rfl
                          refine pure_ (i := 10) (N := some 164) (v := ?_) (a' := ?_) #[true, true, true, true, true, true, true, true, true, true, true, false, true, true, true, true, true, true, false, true, false, false, false, false, true, false, false, false] rfl rfl (any_of HT_.out (by kernel_rfl)) (fun _ _ _ h => h) (Or.inl ⟨by rfl, ?_⟩) ?_ ?_
                          rotate_left
                          · intro w'
                            go_simp
                            with_reducible rfl
                          rotate_left
                          · simp only [Act.put, List.setIfInBounds_toArray, List.set_cons_zero, List.set_cons_succ, i64_w, i32_w]
                            rfl
                          refine take_ (i := 11) (N := some 165) (v := ?_) (a' := ?_) #[true, true, true, true, true, true, true, true, true, true, true, true, true, true, true, true, true, true, false, true, false, false, false, false, true, false, false, false] rfl rfl (take_ofW HT_.out HW_.out (by kernel_rfl)) (fun _ _ _ h => h) (Or.inl ⟨by rfl, ?_⟩) hHeld ?_ ?_
                          rotate_left
                          · rintro w' ⟨s0, s1, s2, s3⟩
                            go_simp
                            with_reducible rfl
                          rotate_left
                          · simp only [Act.put, List.setIfInBounds_toArray, List.set_cons_zero, List.set_cons_succ, i64_w, i32_w]
                            rfl
                          refine take_ (i := 18) (N := some 172) (v := ?_) (a' := ?_) #[true, true, true, true, true, true, true, true, true, true, true, true, true, true, true, true, true, true, true, true, false, false, false, false, true, false, false, false] rfl rfl (take_ofW HT_.out HW_.out (by kernel_rfl)) (fun _ _ _ h => h) (Or.inl ⟨by rfl, ?_⟩) hHeld ?_ ?_
                          rotate_left
                          · rintro w' ⟨s0, s1, s2, s3⟩
                            go_simp
                            with_reducible rfl
                          rotate_left
                          · simp only [Act.put, List.setIfInBounds_toArray, List.set_cons_zero, List.set_cons_succ, i64_w, i32_w]
                            rfl
                          refine pure_ (i := 20) (N := some 174) (v := ?_) (a' := ?_) #[true, true, true, true, true, true, true, true, true, true, true, true, true, true, true, true, true, true, true, true, true, false, false, false, true, false, false, false] rfl rfl (any_of HT_.out (by kernel_rfl)) (fun _ _ _ h => h) (Or.inl ⟨by rfl, ?_⟩) ?_ ?_
                          rotate_left
                          · intro w'
                            go_simp
                            with_reducible rfl
                          rotate_left
                          · simp only [Act.put, List.setIfInBounds_toArray, List.set_cons_zero, List.set_cons_succ, i64_w, i32_w]
                            rfl
                          refine take_ (i := 21) (N := some 175) (v := ?_) (a' := ?_) #[true, true, true, true, true, true, true, true, true, true, true, true, true, true, true, true, true, true, true, true, true, true, false, false, true, false, false, false] rfl rfl (take_ofW HT_.out HW_.out (by kernel_rfl)) (fun _ _ _ h => h) (Or.inl ⟨by rfl, ?_⟩) hHeld ?_ ?_
                          rotate_left
                          · rintro w' ⟨s0, s1, s2, s3⟩
                            go_simp
                            with_reducible rfl
                          rotate_left
                          · simp only [Act.put, List.setIfInBounds_toArray, List.set_cons_zero, List.set_cons_succ, i64_w, i32_w]
                            rfl
                          refine pure_ (i := 22) (N := some 176) (v := ?_) (a' := ?_) #[true, true, true, true, true, true, true, true, true, true, true, true, true, true, true, true, true, true, true, true, true, true, true, false, true, false, false, false] rfl rfl (any_of HT_.out (by kernel_rfl)) (fun _ _ _ h => h) (Or.inl ⟨by rfl, ?_⟩) ?_ ?_
                          rotate_left
                          · intro w'
                            go_simp
                            with_reducible rfl
                          rotate_left
                          · simp only [Act.put, List.setIfInBounds_toArray, List.set_cons_zero, List.set_cons_succ, i64_w, i32_w]
                            rfl
                          refine pure_ (i := 23) (N := some 177) (v := ?_) (a' := ?_) #[true, true, true, true, true, true, true, true, true, true, true, true, true, true, true, true, true, true, true, true, true, true, true, true, true, false, false, false] rfl rfl (any_of HT_.out (by kernel_rfl)) (fun _ _ _ h => h) (Or.inl ⟨by rfl, ?_⟩) ?_ ?_
                          rotate_left
                          · intro w'
                            go_simp
                            with_reducible rfl
                          rotate_left
                          · simp only [Act.put, List.setIfInBounds_toArray, List.set_cons_zero, List.set_cons_succ, i64_w, i32_w]
                            rfl
                          refine pure_ (i := 25) (N := some 179) (v := ?_) (a' := ?_) #[true, true, true, true, true, true, true, true, true, true, true, true, true, true, true, true, true, true, true, true, true, true, true, true, true, true, false, false] rfl rfl (any_of HT_.out (by kernel_rfl)) (fun _ _ _ h => h) (Or.inl ⟨by rfl, ?_⟩) ?_ ?_
                          rotate_left
                          · intro w'
                            go_simp
                            with_reducible rfl
                          rotate_left
                          · simp only [Act.put, List.setIfInBounds_toArray, List.set_cons_zero, List.set_cons_succ, i64_w, i32_w]
                            rfl
                          refine pure_ (i := 26) (N := some 180) (v := ?_) (a' := ?_) #[true, true, true, true, true, true, true, true, true, true, true, true, true, true, true, true, true, true, true, true, true, true, true, true, true, true, true, false] rfl rfl (any_of HT_.out (by kernel_rfl)) (fun _ _ _ h => h) (Or.inl ⟨by rfl, ?_⟩) ?_ ?_
                          rotate_left
                          · intro w'
                            go_simp
                            with_reducible rfl
                          rotate_left
                          · simp only [Act.put, List.setIfInBounds_toArray, List.set_cons_zero, List.set_cons_succ, i64_w, i32_w]
                            rfl
                          refine last_ (i := 27) (N := none) #[true, true, true, true, true, true, true, true, true, true, true, true, true, true, true, true, true, true, true, true, true, true, true, true, true, true, true, true] rfl rfl (one_of HT_.out (by kernel_rfl)) (by decide) (fun K hK => ?_)
                          refine skip_ (w1 := ?_) (by rfl) rfl ?_ ?_
                          rotate_left
                          · go_simp
                            rfl
                          refine hK.out _ _ ?_
                          clear hK K
                          refine done_ (done_of HT_.out (by kernel_rfl)) ?_
                          have hP := HM.out.put HBR.out HRC.out (kk : Int) (Int.tmod (wrap64 (xk + wrap64 (wrap64 (a1 - bq) * yk))) a1)
                          rw [Int.toNat_natCast, List.set_set, HCS.out] at hP
                          have nM := Aside0.mk hP
                          have nB := Aside0.mk (below_set (g := b.1) (j := kk) (v := .int .i64 (Int.tmod (wrap64 (xk + wrap64 (wrap64 (a1 - bq) * yk))) a1)) HB.out (HM.out.lo HBR.out HRC.out))
                          clear hP HM HB hff hHeld hxr hxo hxg hxh
                          go_wp2
                          go_roundg k4
                          case' measure => exact Nat.lt_succ_self _
                          case' rel => exact ⟨kk + 1, by go_num, by omega, by omega, nM, nB⟩
                        case' neg =>
                          have hke : kk = row.length := by omega
                          subst hke
                          rw [impl_reduce.cur_end row T 0 (by rw [hrl]; exact HTL.out), List.take_zero, List.nil_append, HSET.out] at HM
                          go_wp2
                          go_roundg k3
                          case' measure => exact Nat.lt_succ_self _
                          case' rel => exact ⟨ri + 1, by go_num, by omega, by omega, by omega, ⟨by rw [show ri + 1 - (rank + 1) = i + 1 by have := HI.out; omega]; exact HM.out⟩, HB⟩
                    case' neg =>
                      have hie : i = M.length := by have := HMl.out; have := HI.out; omega
                      have hml : M.length = L0.length - (rank + 1) := HMl.out
                      rw [hie, impl_reduce.mid_end L1 M (rank + 1) (by have := HL.out.1; omega) (by have := HL.out.1; omega)] at HM
                      have hLn : (L1.take (rank + 1) ++ M).length = L0.length := by rw [List.length_append, List.length_take, hml]; have := HL.out.1; omega
                      have HLN : Aside0 ((L1.take (rank + 1) ++ M).length = L0.length ∧ ∀ x ∈ L1.take (rank + 1) ++ M, x.length = m) := ⟨hLn, fun x hx => by
                        rcases List.mem_append.1 hx with hx | hx
                        · exact HL.out.2 x (List.mem_of_mem_take hx)
                        · exact HMr.out x hx⟩
                      have hrie : (ri : Int) = (L0.length : Int) := by omega
                      have hrie2 : ((ri : Int) < (L0.length : Int)) = False := eq_false (by omega)
                      clear hLn hml hie
                      go_wp2
                      go_roundg k1
                      case' measure => exact Nat.lt_succ_self _
                      case' rel => exact ⟨j + 1, rank + 1, d2, _, B1, by go_num, rfl, by go_num, by omega, by omega, by omega, HLN, FG3, HM, HB⟩
            · have hrqe : rq = L0.length := by omega
              have hf : impl_reduce.find j (L.drop rank) = none := by
                rw [hsk, List.drop_of_length_le (by have := HL.out.1; omega)]; rfl
              have hgo := FG1.out
              rw [hf] at hgo
              simp only at hgo
              have FG2 := Aside0.mk hgo
              have hrqz : (rq : Int) = (L0.length : Int) := by omega
              clear hgo hf hsk hdl HZ
              subst hrqe
              go_wp2
              go_roundg k1
              case measure => exact Nat.lt_succ_self _
              case rel => exact ⟨j + 1, rank, 0, L, B, rfl, rfl, by go_num, by omega, by omega, hrk, HL, FG2, HM, HB⟩
        · obtain rfl : j = m := by omega
          have h3 := FG.out
          rw [Nat.sub_self, spec_taSteps.go] at h3
          obtain ⟨e1, e2⟩ := Prod.mk.inj (Option.some.inj h3)
          subst e1 e2
          clear h3 FG
          go_wp2
          go_ret2
          exact ⟨by first | rfl | (simp; done), HB.out⟩

/-! ### spec_l1Most: function 83 -/
def spec_l1Most.f (a0 : Int) (a1 : Int) : Option (Int) := if a0 > a1 then (some a0) else (some a1)
set_option maxHeartbeats 8000000 in
set_option maxRecDepth 100000 in
theorem spec_l1Most.calls (a0 : Int) (a1 : Int) (r : Int) (w : World) (h : spec_l1Most.f a0 a1 = some r) :
    Calls Try.prog 83 #[.int .i64 a0, .int .i64 a1] w fun e w' => e = .returned (.int .i64 r) ∧ Drawn0 w w' := by
  have H : (if a0 > a1 then (some a0) else (some a1)) = some r := h
  clear h
  by_cases c3 : a0 > a1
  · rw [if_pos c3] at H
    have c3b0 : decide (a1 < a0) = true := decide_eq_true c3
    clear c3
    obtain rfl := Option.some.inj H
    go_enter Try.func83, Try.ntmps83
    go_wp2
    go_ret
    exact ⟨by first | rfl | (simp; done) | (simp [*]; done), by repeat (first | exact Drawn0.refl _ | apply Drawn0.step)⟩
  · rw [if_neg c3] at H
    have c3b0 : decide (a1 < a0) = false := decide_eq_false c3
    clear c3
    obtain rfl := Option.some.inj H
    go_enter Try.func83, Try.ntmps83
    go_wp2
    go_ret
    exact ⟨by first | rfl | (simp; done) | (simp [*]; done), by repeat (first | exact Drawn0.refl _ | apply Drawn0.step)⟩

end Go.Proofs.Ytbphdjnainlbhaa.L
