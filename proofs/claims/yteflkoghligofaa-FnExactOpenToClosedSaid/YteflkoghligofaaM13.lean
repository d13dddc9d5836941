-- printed by wip/drv/xprint.py (our driver) out of the translation; Lean checks it
import Derived.Test.YteflkoghligofaaM0
import Derived.Test.YteflkoghligofaaM1
import Derived.Test.YteflkoghligofaaM4
import Derived.Test.YteflkoghligofaaM10
import Derived.Test.YteflkoghligofaaM12
namespace Go.Proofs.Yteflkoghligofaa.M
open Go.RowKit Go.Proofs.YteflkoghligofaaW.PrintWords Go.Proofs.YteflkoghligofaaW.PrintLast Go.Proofs.YteflkoghligofaaW.PrintMore
attribute [local go_sem] max2_int min2_int max_two min_two max_three min_three max_four min_four   -- for this text's walks alone
set_option linter.unusedVariables false
set_option linter.unusedSimpArgs false

/-! ### laws_FnExactOpenToClosed: function 6 -/
mutual
def laws_FnExactOpenToClosed.j0 : Nat → List Int → Bool → List Int → Bool → Bool → List Int → List Int → List Int → List Int → Option (Bool)
  | 0, _, _, _, _, _, _, _, _, _ => none
  | k + 1, x0, x4, x5, x7, x37, x338000, x338001, x349000, x349001 => if x37 = true then (some false) else ((laws_toIntS.f k x0).bind fun t350 => ((laws_eqIntS.f k x5 t350).bind fun t353 => (if t353 = true then ((laws_markIntS.f k x5 1).bind fun bt354 => (if bt354.1 < 0 then (laws_FnExactOpenToClosed.j1 k x0 x4 true x338000 x338001 x349000 x349001) else ((laws_eqMeander.f k x349000 x349001 x338000 x338001).bind fun t356 => (if t356 = true then (laws_FnExactOpenToClosed.j1 k x0 x4 (x7 != x4) x338000 x338001 x349000 x349001) else (laws_FnExactOpenToClosed.j1 k x0 x4 true x338000 x338001 x349000 x349001))))) else (some false))))
def laws_FnExactOpenToClosed.j1 : Nat → List Int → Bool → Bool → List Int → List Int → List Int → List Int → Option (Bool)
  | 0, _, _, _, _, _, _, _ => none
  | k + 1, x0, x4, x58, x338000, x338001, x349000, x349001 => if x58 = true then (some false) else ((laws_markMeander.f k x349000 x349001 1).bind fun bt357 => ((laws_heldMeander.f k bt357.2.1 bt357.2.2 1).bind fun t360 => (if t360 < 0 then (some false) else (if t360 = bt357.1 then ((laws_toIntS.f k x0).bind fun t361 => ((impl_OpenToClosed.f k t361).bind fun bt364 => ((laws_eqMeander.f k bt364.1 bt364.2.1 x338000 x338001).bind fun t372 => (if t372 = true then (laws_FnExactOpenToClosed.j2 k bt357.1 (bt364.2.2 != x4) bt357.2.1 bt357.2.2) else (laws_FnExactOpenToClosed.j2 k bt357.1 true bt357.2.1 bt357.2.2))))) else (some false)))))
def laws_FnExactOpenToClosed.j2 : Nat → Int → Bool → List Int → List Int → Option (Bool)
  | 0, _, _, _, _ => none
  | k + 1, x9, x84, x349000, x349001 => if x84 = true then (some false) else ((laws_heldMeander.f k x349000 x349001 1).bind fun t373 => (if t373 < 0 then (some false) else (if t373 = x9 then (some true) else (some false))))
end
def laws_FnExactOpenToClosed.f (k : Nat) (l0 : List Int) : Option (Bool) := if (l0.length : Int) > 1048576 then (some true) else ((laws_toIntS.f k l0).bind fun t327 => ((spec_OpenToClosed.f k t327).bind fun bt330 => ((laws_toIntS.f k l0).bind fun t338 => ((impl_OpenToClosed.f k t338).bind fun bt341 => ((laws_eqMeander.f k bt341.1 bt341.2.1 bt330.1 bt330.2.1).bind fun t349 => (if t349 = true then (laws_FnExactOpenToClosed.j0 k l0 bt330.2.2 t338 bt341.2.2 (bt341.2.2 != bt330.2.2) bt330.1 bt330.2.1 bt341.1 bt341.2.1) else (laws_FnExactOpenToClosed.j0 k l0 bt330.2.2 t338 bt341.2.2 true bt330.1 bt330.2.1 bt341.1 bt341.2.1)))))))
theorem laws_FnExactOpenToClosed.mono_l : ∀ k, (∀ y0 y1 y2 y3 y4 y5 y6 y7 y8, LeO (laws_FnExactOpenToClosed.j0 k y0 y1 y2 y3 y4 y5 y6 y7 y8) (laws_FnExactOpenToClosed.j0 (k + 1) y0 y1 y2 y3 y4 y5 y6 y7 y8)) ∧ (∀ y0 y1 y2 y3 y4 y5 y6, LeO (laws_FnExactOpenToClosed.j1 k y0 y1 y2 y3 y4 y5 y6) (laws_FnExactOpenToClosed.j1 (k + 1) y0 y1 y2 y3 y4 y5 y6)) ∧ (∀ y0 y1 y2 y3, LeO (laws_FnExactOpenToClosed.j2 k y0 y1 y2 y3) (laws_FnExactOpenToClosed.j2 (k + 1) y0 y1 y2 y3))
  | 0 => ⟨fun _ _ _ _ _ _ _ _ _ r h => by simp [laws_FnExactOpenToClosed.j0] at h, fun _ _ _ _ _ _ _ r h => by simp [laws_FnExactOpenToClosed.j1] at h, fun _ _ _ _ r h => by simp [laws_FnExactOpenToClosed.j2] at h⟩
  | k + 1 => by
    obtain ⟨ih0, ih1, ih2⟩ := laws_FnExactOpenToClosed.mono_l k
    refine ⟨?_, ?_, ?_⟩
    · intro y0 y1 y2 y3 y4 y5 y6 y7 y8
      unfold laws_FnExactOpenToClosed.j0
      repeat' first
      | (with_reducible exact ih0 _ _ _ _ _ _ _ _ _)
      | (with_reducible exact ih1 _ _ _ _ _ _ _)
      | (with_reducible exact ih2 _ _ _ _)
      | (with_reducible exact impl_OpenToClosed.mono _ _)
      | (with_reducible exact laws_eqIntS.mono _ _ _)
      | (with_reducible exact laws_eqMeander.mono _ _ _ _ _)
      | (with_reducible exact laws_heldMeander.mono _ _ _ _)
      | (with_reducible exact laws_markIntS.mono _ _ _)
      | (with_reducible exact laws_markMeander.mono _ _ _ _)
      | (with_reducible exact laws_toIntS.mono _ _)
      | (with_reducible exact spec_OpenToClosed.mono _ _)
      | (with_reducible exact LeO.refl _)
      | (with_reducible exact LeO.none _)
      | (with_reducible refine LeO.ite ?_ ?_)
      | (with_reducible refine LeO.bind ?_ (fun _ => ?_))
      | exact ih0 _ _ _ _ _ _ _ _ _
      | exact ih1 _ _ _ _ _ _ _
      | exact ih2 _ _ _ _
      | exact impl_OpenToClosed.mono _ _
      | exact laws_eqIntS.mono _ _ _
      | exact laws_eqMeander.mono _ _ _ _ _
      | exact laws_heldMeander.mono _ _ _ _
      | exact laws_markIntS.mono _ _ _
      | exact laws_markMeander.mono _ _ _ _
      | exact laws_toIntS.mono _ _
      | exact spec_OpenToClosed.mono _ _
      | exact LeO.none _
      | refine LeO.ite ?_ ?_
      | refine LeO.bind ?_ (fun _ => ?_)
    · intro y0 y1 y2 y3 y4 y5 y6
      unfold laws_FnExactOpenToClosed.j1
      repeat' first
      | (with_reducible exact ih0 _ _ _ _ _ _ _ _ _)
      | (with_reducible exact ih1 _ _ _ _ _ _ _)
      | (with_reducible exact ih2 _ _ _ _)
      | (with_reducible exact impl_OpenToClosed.mono _ _)
      | (with_reducible exact laws_eqIntS.mono _ _ _)
      | (with_reducible exact laws_eqMeander.mono _ _ _ _ _)
      | (with_reducible exact laws_heldMeander.mono _ _ _ _)
      | (with_reducible exact laws_markIntS.mono _ _ _)
      | (with_reducible exact laws_markMeander.mono _ _ _ _)
      | (with_reducible exact laws_toIntS.mono _ _)
      | (with_reducible exact spec_OpenToClosed.mono _ _)
      | (with_reducible exact LeO.refl _)
      | (with_reducible exact LeO.none _)
      | (with_reducible refine LeO.ite ?_ ?_)
      | (with_reducible refine LeO.bind ?_ (fun _ => ?_))
      | exact ih0 _ _ _ _ _ _ _ _ _
      | exact ih1 _ _ _ _ _ _ _
      | exact ih2 _ _ _ _
      | exact impl_OpenToClosed.mono _ _
      | exact laws_eqIntS.mono _ _ _
      | exact laws_eqMeander.mono _ _ _ _ _
      | exact laws_heldMeander.mono _ _ _ _
      | exact laws_markIntS.mono _ _ _
      | exact laws_markMeander.mono _ _ _ _
      | exact laws_toIntS.mono _ _
      | exact spec_OpenToClosed.mono _ _
      | exact LeO.none _
      | refine LeO.ite ?_ ?_
      | refine LeO.bind ?_ (fun _ => ?_)
    · intro y0 y1 y2 y3
      unfold laws_FnExactOpenToClosed.j2
      repeat' first
      | (with_reducible exact ih0 _ _ _ _ _ _ _ _ _)
      | (with_reducible exact ih1 _ _ _ _ _ _ _)
      | (with_reducible exact ih2 _ _ _ _)
      | (with_reducible exact impl_OpenToClosed.mono _ _)
      | (with_reducible exact laws_eqIntS.mono _ _ _)
      | (with_reducible exact laws_eqMeander.mono _ _ _ _ _)
      | (with_reducible exact laws_heldMeander.mono _ _ _ _)
      | (with_reducible exact laws_markIntS.mono _ _ _)
      | (with_reducible exact laws_markMeander.mono _ _ _ _)
      | (with_reducible exact laws_toIntS.mono _ _)
      | (with_reducible exact spec_OpenToClosed.mono _ _)
      | (with_reducible exact LeO.refl _)
      | (with_reducible exact LeO.none _)
      | (with_reducible refine LeO.ite ?_ ?_)
      | (with_reducible refine LeO.bind ?_ (fun _ => ?_))
      | exact ih0 _ _ _ _ _ _ _ _ _
      | exact ih1 _ _ _ _ _ _ _
      | exact ih2 _ _ _ _
      | exact impl_OpenToClosed.mono _ _
      | exact laws_eqIntS.mono _ _ _
      | exact laws_eqMeander.mono _ _ _ _ _
      | exact laws_heldMeander.mono _ _ _ _
      | exact laws_markIntS.mono _ _ _
      | exact laws_markMeander.mono _ _ _ _
      | exact laws_toIntS.mono _ _
      | exact spec_OpenToClosed.mono _ _
      | exact LeO.none _
      | refine LeO.ite ?_ ?_
      | refine LeO.bind ?_ (fun _ => ?_)
theorem laws_FnExactOpenToClosed.mono : ∀ a0 k, LeO (laws_FnExactOpenToClosed.f k a0) (laws_FnExactOpenToClosed.f (k + 1) a0) := by
  intro a0 k
  obtain ⟨ih0, ih1, ih2⟩ := laws_FnExactOpenToClosed.mono_l k
  unfold laws_FnExactOpenToClosed.f
  repeat' first
      | (with_reducible exact ih0 _ _ _ _ _ _ _ _ _)
      | (with_reducible exact ih1 _ _ _ _ _ _ _)
      | (with_reducible exact ih2 _ _ _ _)
      | (with_reducible exact impl_OpenToClosed.mono _ _)
      | (with_reducible exact laws_eqIntS.mono _ _ _)
      | (with_reducible exact laws_eqMeander.mono _ _ _ _ _)
      | (with_reducible exact laws_heldMeander.mono _ _ _ _)
      | (with_reducible exact laws_markIntS.mono _ _ _)
      | (with_reducible exact laws_markMeander.mono _ _ _ _)
      | (with_reducible exact laws_toIntS.mono _ _)
      | (with_reducible exact spec_OpenToClosed.mono _ _)
      | (with_reducible exact LeO.refl _)
      | (with_reducible exact LeO.none _)
      | (with_reducible refine LeO.ite ?_ ?_)
      | (with_reducible refine LeO.bind ?_ (fun _ => ?_))
      | exact ih0 _ _ _ _ _ _ _ _ _
      | exact ih1 _ _ _ _ _ _ _
      | exact ih2 _ _ _ _
      | exact impl_OpenToClosed.mono _ _
      | exact laws_eqIntS.mono _ _ _
      | exact laws_eqMeander.mono _ _ _ _ _
      | exact laws_heldMeander.mono _ _ _ _
      | exact laws_markIntS.mono _ _ _
      | exact laws_markMeander.mono _ _ _ _
      | exact laws_toIntS.mono _ _
      | exact spec_OpenToClosed.mono _ _
      | exact LeO.none _
      | refine LeO.ite ?_ ?_
      | refine LeO.bind ?_ (fun _ => ?_)
set_option maxHeartbeats 8000000 in
set_option maxRecDepth 100000 in
theorem laws_FnExactOpenToClosed.calls (k : Nat) (A0 : Option Addr) (c0 : Nat) (l0 : List Int) (w : World) (hr0 : Kd.C (Kd.int .i64) w A0 l0.length l0) (hc0 : l0.length ≤ c0) (h : laws_FnExactOpenToClosed.f k l0 = some true) :
    Calls Try.prog 6 #[.slice A0 l0.length c0] w fun e w' => e = .returned (.bool true) ∧ Below w.heap.size w w' := by
  have hu28 := Try.underlying28
  have HR0 := Aside0.mk hr0
  have HC0 := Aside0.mk hc0
  clear hr0 hc0
  have HB := Aside0.mk (Below.refl w.heap.size w)
  have H : (if (l0.length : Int) > 1048576 then (some true) else ((laws_toIntS.f k l0).bind fun t327 => ((spec_OpenToClosed.f k t327).bind fun bt330 => ((laws_toIntS.f k l0).bind fun t338 => ((impl_OpenToClosed.f k t338).bind fun bt341 => ((laws_eqMeander.f k bt341.1 bt341.2.1 bt330.1 bt330.2.1).bind fun t349 => (if t349 = true then (laws_FnExactOpenToClosed.j0 k l0 bt330.2.2 t338 bt341.2.2 (bt341.2.2 != bt330.2.2) bt330.1 bt330.2.1 bt341.1 bt341.2.1) else (laws_FnExactOpenToClosed.j0 k l0 bt330.2.2 t338 bt341.2.2 true bt330.1 bt330.2.1 bt341.1 bt341.2.1)))))))) = some true := h
  clear h
  by_cases c2 : (l0.length : Int) > 1048576
  · rw [if_pos c2] at H
    have c2b0 : decide (1048576 < (l0.length : Int)) = true := decide_eq_true c2
    have c2b1 : decide (1048576 < l0.length) = true := decide_eq_true (by omega)
    clear c2
    clear H
    go_enter Try.func6, Try.ntmps6
    go_wp2
    go_ret
    exact ⟨by first | rfl | (simp [errW_none, errW_some] <;> rfl) | (simp [*, errW_none, errW_some] <;> rfl), by repeat (first | (with_reducible first | exact HB.out | apply below_alloc | apply pw_below_drewN | apply below_drew1) | exact HB.out)⟩
  · rw [if_neg c2] at H
    have c2b0 : decide (1048576 < (l0.length : Int)) = false := decide_eq_false c2
    have c2b1 : decide (1048576 < l0.length) = false := decide_eq_false (by omega)
    clear c2
    replace H := Option.bind_eq_some_iff.mp H
    obtain ⟨t327, A30, H⟩ := H
    replace H : ((spec_OpenToClosed.f k t327).bind fun bt330 => ((laws_toIntS.f k l0).bind fun t338 => ((impl_OpenToClosed.f k t338).bind fun bt341 => ((laws_eqMeander.f k bt341.1 bt341.2.1 bt330.1 bt330.2.1).bind fun t349 => (if t349 = true then (laws_FnExactOpenToClosed.j0 k l0 bt330.2.2 t338 bt341.2.2 (bt341.2.2 != bt330.2.2) bt330.1 bt330.2.1 bt341.1 bt341.2.1) else (laws_FnExactOpenToClosed.j0 k l0 bt330.2.2 t338 bt341.2.2 true bt330.1 bt330.2.1 bt341.1 bt341.2.1)))))) = some true := H
    have A3 := Aside0.mk A30
    clear A30
    replace H := Option.bind_eq_some_iff.mp H
    obtain ⟨⟨t330, t333, t336⟩, A40, H⟩ := H
    replace H : ((laws_toIntS.f k l0).bind fun t338 => ((impl_OpenToClosed.f k t338).bind fun bt341 => ((laws_eqMeander.f k bt341.1 bt341.2.1 t330 t333).bind fun t349 => (if t349 = true then (laws_FnExactOpenToClosed.j0 k l0 t336 t338 bt341.2.2 (bt341.2.2 != t336) t330 t333 bt341.1 bt341.2.1) else (laws_FnExactOpenToClosed.j0 k l0 t336 t338 bt341.2.2 true t330 t333 bt341.1 bt341.2.1))))) = some true := H
    have A4 := Aside0.mk A40
    clear A40
    replace H := Option.bind_eq_some_iff.mp H
    obtain ⟨t338, A50, H⟩ := H
    replace H : ((impl_OpenToClosed.f k t338).bind fun bt341 => ((laws_eqMeander.f k bt341.1 bt341.2.1 t330 t333).bind fun t349 => (if t349 = true then (laws_FnExactOpenToClosed.j0 k l0 t336 t338 bt341.2.2 (bt341.2.2 != t336) t330 t333 bt341.1 bt341.2.1) else (laws_FnExactOpenToClosed.j0 k l0 t336 t338 bt341.2.2 true t330 t333 bt341.1 bt341.2.1)))) = some true := H
    have A5 := Aside0.mk A50
    clear A50
    replace H := Option.bind_eq_some_iff.mp H
    obtain ⟨⟨t341, t344, t347⟩, A60, H⟩ := H
    replace H : ((laws_eqMeander.f k t341 t344 t330 t333).bind fun t349 => (if t349 = true then (laws_FnExactOpenToClosed.j0 k l0 t336 t338 t347 (t347 != t336) t330 t333 t341 t344) else (laws_FnExactOpenToClosed.j0 k l0 t336 t338 t347 true t330 t333 t341 t344))) = some true := H
    have A6 := Aside0.mk A60
    clear A60
    have HC7 := Aside0.mk H
    clear H
    go_enter Try.func6, Try.ntmps6
    go_upto_region 6 with (first | ((with_reducible refine gate_callee (f := 25) rfl ?_); refine goesL_ (some 18) rfl rfl Try.func25 (by kernel_rfl) rfl #[.slice A0 l0.length c0] rfl (by (try simp only [List.map_toArray, List.map_cons, List.map_nil]); first | done | rfl) ?_; (with_reducible refine (laws_toIntS.calls k _ _ l0 t327 _ ?side1 ?side2 A3.out).mono ?_); (case side1 => repeat (first | exact HR0.out | (with_reducible refine Kd.C_alloc ?_ _) | (with_reducible refine Kd.C_drewN ?_ _) | (with_reducible refine Kd.C_drew ?_))); (case side2 => exact HC0.out); rintro e w8 ⟨v328, rfl, ho0, hb⟩; refine ⟨_, rfl, ?_⟩; have n0_ := Aside0.mk (Kd.R_lower ho0 (below_size (by repeat (first | (with_reducible first | exact HB.out | apply below_alloc | apply pw_below_drewN | apply below_drew1) | exact HB.out)))); have n1_ := Aside0.mk (below_step (by repeat (first | (with_reducible first | exact HB.out | apply below_alloc | apply pw_below_drewN | apply below_drew1) | exact HB.out)) hb); clear HB; have HO329 := n0_; have HB := n1_; clear n0_ n1_; (try clear hb); (try clear hb2); (try clear hk); (try clear hi); (try clear ho0); obtain ⟨Ao9, co9, eo9⟩ := Kd.R_slice HO329.out; subst eo9) | ((with_reducible refine gate_callee (f := 28) rfl ?_); refine goesL_ (some 19) rfl rfl Try.func28 (by kernel_rfl) rfl #[.slice Ao9 t327.length co9] rfl (by (try simp only [List.map_toArray, List.map_cons, List.map_nil]); first | done | rfl) ?_; (with_reducible refine (spec_OpenToClosed.calls k _ _ t327 t330 t333 t336 _ ?side1 ?side2 A4.out).mono ?_); (case side1 => repeat (first | exact (Kd.R_reads' HO329.out).2.2 | (with_reducible refine Kd.C_alloc ?_ _) | (with_reducible refine Kd.C_drewN ?_ _) | (with_reducible refine Kd.C_drew ?_))); (case side2 => exact (Kd.R_reads' HO329.out).2.1); rintro e w10 ⟨v331, v334, rfl, ho0, ho1, hb⟩; refine ⟨_, rfl, ?_⟩; have n0_ := Aside0.mk (Kd.R_mono (Kd.R_told (Kd.R_told (Kd.R_old (by (with_reducible repeat (first | apply Kd.R_alloc | apply Kd.R_drewN | apply Kd.R_drew)); exact HO329.out) hb) (Kd.R_base ho0)) (Kd.R_base ho1)) (fun _ h_ => h_.1)); have n1_ := Aside0.mk (Kd.R_lower (Kd.R_new' ho0 (Kd.R_lt (by (with_reducible repeat (first | apply Kd.R_alloc | apply Kd.R_drewN | apply Kd.R_drew)); exact HO329.out))) (below_size (by repeat (first | (with_reducible first | exact HB.out | apply below_alloc | apply pw_below_drewN | apply below_drew1) | exact HB.out)))); have n2_ := Aside0.mk (Kd.R_lower (Kd.R_new' ho1 (Kd.R_lt (by (with_reducible repeat (first | apply Kd.R_alloc | apply Kd.R_drewN | apply Kd.R_drew)); exact HO329.out))) (below_size (by repeat (first | (with_reducible first | exact HB.out | apply below_alloc | apply pw_below_drewN | apply below_drew1) | exact HB.out)))); have n3_ := Aside0.mk (below_step (by repeat (first | (with_reducible first | exact HB.out | apply below_alloc | apply pw_below_drewN | apply below_drew1) | exact HB.out)) hb); clear HO329; clear HB; have HO329 := n0_; have HO332 := n1_; have HO335 := n2_; have HB := n3_; clear n0_ n1_ n2_ n3_; (try clear hb); (try clear hb2); (try clear hk); (try clear hi); (try clear ho0); (try clear ho1)) | ((with_reducible refine gate_dst (N := 3) rfl ?_); refine box_event ?hg (N := 3) ?hd (cs := #[.slice none 0 0, .slice none 0 0]) (t := 28) ?hr ?_; (case hd => rfl); (case hg => rfl); (case hr => first | (go_simp; done) | (go_simp; rfl)); intro gb337 hg w11 hbox hb; have n0_ := Aside0.mk (Kd.R_below (by (with_reducible repeat (first | apply Kd.R_alloc | apply Kd.R_drewN | apply Kd.R_drew)); exact HO329.out) hb); have n1_ := Aside0.mk (Kd.R_below (by (with_reducible repeat (first | apply Kd.R_alloc | apply Kd.R_drewN | apply Kd.R_drew)); exact HO332.out) hb); have n2_ := Aside0.mk (Kd.R_below (by (with_reducible repeat (first | apply Kd.R_alloc | apply Kd.R_drewN | apply Kd.R_drew)); exact HO335.out) hb); have n3_ := Aside0.mk (below_step (by repeat (first | (with_reducible first | exact HB.out | apply below_alloc | apply pw_below_drewN | apply below_drew1) | exact HB.out)) hb); have n4_ := Aside0.mk (hbox); have n5_ := Aside0.mk ((by rw [hg]; exact (below_size (by repeat (first | (with_reducible first | exact HB.out | apply below_alloc | apply pw_below_drewN | apply below_drew1) | exact HB.out))) : w.heap.size ≤ gb337)); have n6_ := Aside0.mk ((by rw [hg]; exact (below_size (by repeat (first | (with_reducible first | exact HB.out | apply below_alloc | apply pw_below_drewN | apply below_drew1) | exact HB.out))) : w.heap.size ≤ gb337)); clear HO329; clear HO332; clear HO335; clear HB; have HO329 := n0_; have HO332 := n1_; have HO335 := n2_; have HB := n3_; have BK337 := n4_; have GW337 := n5_; have GE337 := n6_; clear n0_ n1_ n2_ n3_ n4_ n5_ n6_; clear hb hbox hg; obtain ⟨Ao12, co12, eo12⟩ := Kd.R_slice HO332.out; subst eo12; have hcz13_0 : w11.cell? ⟨gb337, 0, none⟩ = some (.slice none 0 0) := (blk_cell BK337.out 0).trans rfl; have hcz13_1 : w11.cell? ⟨gb337, 1, none⟩ = some (.slice none 0 0) := (blk_cell BK337.out 1).trans rfl; have hfz13_0 := blk_frozen BK337.out 0; have hfz13_1 := blk_frozen BK337.out 1; obtain ⟨Ao14, co14, eo14⟩ := Kd.R_slice HO335.out; subst eo14) | ((with_reducible refine gate_callee (f := 25) rfl ?_); refine goesL_ (some 23) rfl rfl Try.func25 (by kernel_rfl) rfl #[.slice A0 l0.length c0] rfl (by (try simp only [List.map_toArray, List.map_cons, List.map_nil]); first | done | rfl) ?_; (with_reducible refine (laws_toIntS.calls k _ _ l0 t338 _ ?side1 ?side2 A5.out).mono ?_); (case side1 => exact Kd.C_below HR0.out (by repeat (first | (with_reducible first | exact HB.out | apply below_alloc | apply pw_below_drewN | apply below_drew1 | refine below_set ?_ GE337.out) | exact HB.out))); (case side2 => exact HC0.out); rintro e w15 ⟨v339, rfl, ho0, hb⟩; refine ⟨_, rfl, ?_⟩; have n0_ := Aside0.mk (Kd.R_elder' (by (with_reducible repeat (first | apply Kd.R_alloc | apply Kd.R_drewN | apply Kd.R_drew)); exact (Kd.R_mono (Kd.R_far (p := ⟨gb337, 1, none⟩) (Kd.R_far (p := ⟨gb337, 0, none⟩) (Kd.R_types HO329.out BK337.out (by decide)) (fun _ hk => hk.2) (.slice Ao12 t330.length co12)) (fun _ hk => hk.2) (.slice Ao14 t333.length co14)) (fun _ h_ => h_.1))) (Kd.R_base ho0) hb); have n1_ := Aside0.mk (Kd.R_elder' (by (with_reducible repeat (first | apply Kd.R_alloc | apply Kd.R_drewN | apply Kd.R_drew)); exact (Kd.R_mono (Kd.R_far (p := ⟨gb337, 1, none⟩) (Kd.R_far (p := ⟨gb337, 0, none⟩) (Kd.R_types HO332.out BK337.out (by decide)) (fun _ hk => hk.2) (.slice Ao12 t330.length co12)) (fun _ hk => hk.2) (.slice Ao14 t333.length co14)) (fun _ h_ => h_.1))) (Kd.R_base ho0) hb); have n2_ := Aside0.mk (Kd.R_elder' (by (with_reducible repeat (first | apply Kd.R_alloc | apply Kd.R_drewN | apply Kd.R_drew)); exact (Kd.R_mono (Kd.R_far (p := ⟨gb337, 1, none⟩) (Kd.R_far (p := ⟨gb337, 0, none⟩) (Kd.R_types HO335.out BK337.out (by decide)) (fun _ hk => hk.2) (.slice Ao12 t330.length co12)) (fun _ hk => hk.2) (.slice Ao14 t333.length co14)) (fun _ h_ => h_.1))) (Kd.R_base ho0) hb); have n3_ := Aside0.mk (Kd.R_lower (Kd.R_new' (Kd.R_new' (Kd.R_new' ho0 (Kd.R_lt (by (with_reducible repeat (first | apply Kd.R_alloc | apply Kd.R_drewN | apply Kd.R_drew)); exact (Kd.R_mono (Kd.R_far (p := ⟨gb337, 1, none⟩) (Kd.R_far (p := ⟨gb337, 0, none⟩) (Kd.R_types HO329.out BK337.out (by decide)) (fun _ hk => hk.2) (.slice Ao12 t330.length co12)) (fun _ hk => hk.2) (.slice Ao14 t333.length co14)) (fun _ h_ => h_.1))))) (Kd.R_lt (by (with_reducible repeat (first | apply Kd.R_alloc | apply Kd.R_drewN | apply Kd.R_drew)); exact (Kd.R_mono (Kd.R_far (p := ⟨gb337, 1, none⟩) (Kd.R_far (p := ⟨gb337, 0, none⟩) (Kd.R_types HO332.out BK337.out (by decide)) (fun _ hk => hk.2) (.slice Ao12 t330.length co12)) (fun _ hk => hk.2) (.slice Ao14 t333.length co14)) (fun _ h_ => h_.1))))) (Kd.R_lt (by (with_reducible repeat (first | apply Kd.R_alloc | apply Kd.R_drewN | apply Kd.R_drew)); exact (Kd.R_mono (Kd.R_far (p := ⟨gb337, 1, none⟩) (Kd.R_far (p := ⟨gb337, 0, none⟩) (Kd.R_types HO335.out BK337.out (by decide)) (fun _ hk => hk.2) (.slice Ao12 t330.length co12)) (fun _ hk => hk.2) (.slice Ao14 t333.length co14)) (fun _ h_ => h_.1))))) (below_size (by repeat (first | (with_reducible first | exact HB.out | apply below_alloc | apply pw_below_drewN | apply below_drew1 | refine below_set ?_ GE337.out) | exact HB.out)))); have n4_ := Aside0.mk (blk_below (g := gb337) (o := .cells #[.slice Ao12 t330.length co12, .slice Ao14 t333.length co14] 28 (0, 0)) (by (with_reducible repeat (first | refine blk_drewN ?_ _ | refine blk_drew ?_ | refine blk_alloc ?_ _)); refine blk_put (cs := #[.slice Ao12 t330.length co12, .slice none 0 0]) ?_ 1 _ rfl; (with_reducible repeat (first | refine blk_drewN ?_ _ | refine blk_drew ?_ | refine blk_alloc ?_ _)); refine blk_put (cs := #[.slice none 0 0, .slice none 0 0]) ?_ 0 _ rfl; (with_reducible repeat (first | refine blk_drewN ?_ _ | refine blk_drew ?_ | refine blk_alloc ?_ _)); exact BK337.out) hb); have n5_ := Aside0.mk (below_step (by repeat (first | (with_reducible first | exact HB.out | apply below_alloc | apply pw_below_drewN | apply below_drew1 | refine below_set ?_ GE337.out) | exact HB.out)) hb); clear HO329; clear HO332; clear HO335; clear BK337; clear HB; have HO329 := n0_; have HO332 := n1_; have HO335 := n2_; have HO340 := n3_; have BK337 := n4_; have HB := n5_; clear n0_ n1_ n2_ n3_ n4_ n5_; (try clear hb); (try clear hb2); (try clear hk); (try clear hi); (try clear ho0); obtain ⟨Ao16, co16, eo16⟩ := Kd.R_slice HO340.out; subst eo16) | ((with_reducible refine gate_callee (f := 29) rfl ?_); refine goesL_ (some 26) rfl rfl Try.func29 (by kernel_rfl) rfl #[.slice Ao16 t338.length co16] rfl (by (try simp only [List.map_toArray, List.map_cons, List.map_nil]); first | done | rfl) ?_; (with_reducible refine (impl_OpenToClosed.calls k _ _ t338 t341 t344 t347 _ ?side1 ?side2 A6.out).mono ?_); (case side1 => repeat (first | exact (Kd.R_reads' HO340.out).2.2 | (with_reducible refine Kd.C_alloc ?_ _) | (with_reducible refine Kd.C_drewN ?_ _) | (with_reducible refine Kd.C_drew ?_))); (case side2 => exact (Kd.R_reads' HO340.out).2.1); rintro e w17 ⟨v342, v345, rfl, ho0, ho1, hb⟩; refine ⟨_, rfl, ?_⟩; have n0_ := Aside0.mk (Kd.R_mono (Kd.R_told (Kd.R_told (Kd.R_old (by (with_reducible repeat (first | apply Kd.R_alloc | apply Kd.R_drewN | apply Kd.R_drew)); exact HO329.out) hb) (Kd.R_base ho0)) (Kd.R_base ho1)) (fun _ h_ => h_.1)); have n1_ := Aside0.mk (Kd.R_mono (Kd.R_told (Kd.R_told (Kd.R_old (by (with_reducible repeat (first | apply Kd.R_alloc | apply Kd.R_drewN | apply Kd.R_drew)); exact HO332.out) hb) (Kd.R_base ho0)) (Kd.R_base ho1)) (fun _ h_ => h_.1)); have n2_ := Aside0.mk (Kd.R_mono (Kd.R_told (Kd.R_told (Kd.R_old (by (with_reducible repeat (first | apply Kd.R_alloc | apply Kd.R_drewN | apply Kd.R_drew)); exact HO335.out) hb) (Kd.R_base ho0)) (Kd.R_base ho1)) (fun _ h_ => h_.1)); have n3_ := Aside0.mk (Kd.R_mono (Kd.R_told (Kd.R_told (Kd.R_old (by (with_reducible repeat (first | apply Kd.R_alloc | apply Kd.R_drewN | apply Kd.R_drew)); exact HO340.out) hb) (Kd.R_base ho0)) (Kd.R_base ho1)) (fun _ h_ => h_.1)); have n4_ := Aside0.mk (Kd.R_lower (Kd.R_new' (Kd.R_new' (Kd.R_new' (Kd.R_new' ho0 (Kd.R_lt (by (with_reducible repeat (first | apply Kd.R_alloc | apply Kd.R_drewN | apply Kd.R_drew)); exact HO329.out))) (Kd.R_lt (by (with_reducible repeat (first | apply Kd.R_alloc | apply Kd.R_drewN | apply Kd.R_drew)); exact HO332.out))) (Kd.R_lt (by (with_reducible repeat (first | apply Kd.R_alloc | apply Kd.R_drewN | apply Kd.R_drew)); exact HO335.out))) (Kd.R_lt (by (with_reducible repeat (first | apply Kd.R_alloc | apply Kd.R_drewN | apply Kd.R_drew)); exact HO340.out))) (below_size (by repeat (first | (with_reducible first | exact HB.out | apply below_alloc | apply pw_below_drewN | apply below_drew1 | refine below_set ?_ GE337.out) | exact HB.out)))); have n5_ := Aside0.mk (Kd.R_lower (Kd.R_new' (Kd.R_new' (Kd.R_new' (Kd.R_new' ho1 (Kd.R_lt (by (with_reducible repeat (first | apply Kd.R_alloc | apply Kd.R_drewN | apply Kd.R_drew)); exact HO329.out))) (Kd.R_lt (by (with_reducible repeat (first | apply Kd.R_alloc | apply Kd.R_drewN | apply Kd.R_drew)); exact HO332.out))) (Kd.R_lt (by (with_reducible repeat (first | apply Kd.R_alloc | apply Kd.R_drewN | apply Kd.R_drew)); exact HO335.out))) (Kd.R_lt (by (with_reducible repeat (first | apply Kd.R_alloc | apply Kd.R_drewN | apply Kd.R_drew)); exact HO340.out))) (below_size (by repeat (first | (with_reducible first | exact HB.out | apply below_alloc | apply pw_below_drewN | apply below_drew1 | refine below_set ?_ GE337.out) | exact HB.out)))); have n6_ := Aside0.mk (blk_below (g := gb337) (o := .cells #[.slice Ao12 t330.length co12, .slice Ao14 t333.length co14] 28 (0, 0)) (by (with_reducible repeat (first | refine blk_drewN ?_ _ | refine blk_drew ?_ | refine blk_alloc ?_ _)); exact BK337.out) hb); have n7_ := Aside0.mk (below_step (by repeat (first | (with_reducible first | exact HB.out | apply below_alloc | apply pw_below_drewN | apply below_drew1 | refine below_set ?_ GE337.out) | exact HB.out)) hb); clear HO329; clear HO332; clear HO335; clear HO340; clear BK337; clear HB; have HO329 := n0_; have HO332 := n1_; have HO335 := n2_; have HO340 := n3_; have HO343 := n4_; have HO346 := n5_; have BK337 := n6_; have HB := n7_; clear n0_ n1_ n2_ n3_ n4_ n5_ n6_ n7_; (try clear hb); (try clear hb2); (try clear hk); (try clear hi); (try clear ho0); (try clear ho1)) | ((with_reducible refine gate_dst (N := 6) rfl ?_); refine box_event ?hg (N := 6) ?hd (cs := #[.slice none 0 0, .slice none 0 0]) (t := 28) ?hr ?_; (case hd => rfl); (case hg => rfl); (case hr => first | (go_simp; done) | (go_simp; rfl)); intro gb348 hg w18 hbox hb; have n0_ := Aside0.mk (Kd.R_below (by (with_reducible repeat (first | apply Kd.R_alloc | apply Kd.R_drewN | apply Kd.R_drew)); exact HO329.out) hb); have n1_ := Aside0.mk (Kd.R_below (by (with_reducible repeat (first | apply Kd.R_alloc | apply Kd.R_drewN | apply Kd.R_drew)); exact HO332.out) hb); have n2_ := Aside0.mk (Kd.R_below (by (with_reducible repeat (first | apply Kd.R_alloc | apply Kd.R_drewN | apply Kd.R_drew)); exact HO335.out) hb); have n3_ := Aside0.mk (Kd.R_below (by (with_reducible repeat (first | apply Kd.R_alloc | apply Kd.R_drewN | apply Kd.R_drew)); exact HO340.out) hb); have n4_ := Aside0.mk (Kd.R_below (by (with_reducible repeat (first | apply Kd.R_alloc | apply Kd.R_drewN | apply Kd.R_drew)); exact HO343.out) hb); have n5_ := Aside0.mk (Kd.R_below (by (with_reducible repeat (first | apply Kd.R_alloc | apply Kd.R_drewN | apply Kd.R_drew)); exact HO346.out) hb); have n6_ := Aside0.mk (blk_below (g := gb337) (o := .cells #[.slice Ao12 t330.length co12, .slice Ao14 t333.length co14] 28 (0, 0)) (by (with_reducible repeat (first | refine blk_drewN ?_ _ | refine blk_drew ?_ | refine blk_alloc ?_ _)); exact BK337.out) hb); have n7_ := Aside0.mk (below_step (by repeat (first | (with_reducible first | exact HB.out | apply below_alloc | apply pw_below_drewN | apply below_drew1 | refine below_set ?_ GE337.out) | exact HB.out)) hb); have n8_ := Aside0.mk (hbox); have n9_ := Aside0.mk ((by rw [hg]; exact (below_size (by repeat (first | (with_reducible first | exact HB.out | apply below_alloc | apply pw_below_drewN | apply below_drew1 | refine below_set ?_ GE337.out) | exact HB.out))) : w.heap.size ≤ gb348)); have n10_ := Aside0.mk ((by rw [hg]; exact (below_size (by repeat (first | (with_reducible first | exact HB.out | apply below_alloc | apply pw_below_drewN | apply below_drew1 | refine below_set ?_ GE337.out) | exact HB.out))) : w.heap.size ≤ gb348)); have n11_ := Aside0.mk ((by rw [hg]; exact Nat.ne_of_lt (blk_lt (g := gb337) (o := .cells #[.slice Ao12 t330.length co12, .slice Ao14 t333.length co14] 28 (0, 0)) (by (with_reducible repeat (first | refine blk_drewN ?_ _ | refine blk_drew ?_ | refine blk_alloc ?_ _)); exact BK337.out)) : gb337 ≠ gb348)); have n12_ := Aside0.mk ((by rw [hg]; exact Nat.ne_of_gt (blk_lt (g := gb337) (o := .cells #[.slice Ao12 t330.length co12, .slice Ao14 t333.length co14] 28 (0, 0)) (by (with_reducible repeat (first | refine blk_drewN ?_ _ | refine blk_drew ?_ | refine blk_alloc ?_ _)); exact BK337.out)) : gb348 ≠ gb337)); clear HO329; clear HO332; clear HO335; clear HO340; clear HO343; clear HO346; clear BK337; clear HB; have HO329 := n0_; have HO332 := n1_; have HO335 := n2_; have HO340 := n3_; have HO343 := n4_; have HO346 := n5_; have BK337 := n6_; have HB := n7_; have BK348 := n8_; have GW348 := n9_; have GE348 := n10_; have NB337_348 := n11_; have NB348_337 := n12_; clear n0_ n1_ n2_ n3_ n4_ n5_ n6_ n7_ n8_ n9_ n10_ n11_ n12_; clear hb hbox hg; obtain ⟨Ao19, co19, eo19⟩ := Kd.R_slice HO343.out; subst eo19; have hnb20 := NB348_337.out; have hnc20 := NB337_348.out; have hcz21_0 : w18.cell? ⟨gb348, 0, none⟩ = some (.slice none 0 0) := (blk_cell BK348.out 0).trans rfl; have hcz21_1 : w18.cell? ⟨gb348, 1, none⟩ = some (.slice none 0 0) := (blk_cell BK348.out 1).trans rfl; have hfz21_0 := blk_frozen BK348.out 0; have hfz21_1 := blk_frozen BK348.out 1; obtain ⟨Ao22, co22, eo22⟩ := Kd.R_slice HO346.out; subst eo22))
    (try simp only [Act.put, List.setIfInBounds_toArray, List.set_cons_zero, List.set_cons_succ])
    go_cut [37] (fun v37 wc => ∃ (kq : Nat) (x37_6 : Bool), v37 = .bool x37_6 ∧ Aside0 (laws_FnExactOpenToClosed.j0 kq l0 t336 t338 t347 x37_6 t330 t333 t341 t344 = some true) ∧ Aside0 (kq ≤ k) ∧ Aside0 (Kd.R (Kd.int .i64) 3 wc w.heap.size (fun k_ => some k_ ≠ ((.slice Ao12 t330.length co12) : Value).ownBlock ∧ some k_ ≠ ((.slice Ao14 t333.length co14) : Value).ownBlock ∧ some k_ ≠ ((.slice Ao19 t341.length co19) : Value).ownBlock ∧ some k_ ≠ ((.slice Ao22 t344.length co22) : Value).ownBlock) (.slice Ao16 t338.length co16) t338) ∧ Aside0 (Kd.R (Kd.int .i64) 3 wc w.heap.size (fun k_ => some k_ ≠ ((.slice Ao16 t338.length co16) : Value).ownBlock ∧ some k_ ≠ ((.slice Ao14 t333.length co14) : Value).ownBlock ∧ some k_ ≠ ((.slice Ao19 t341.length co19) : Value).ownBlock ∧ some k_ ≠ ((.slice Ao22 t344.length co22) : Value).ownBlock) (.slice Ao12 t330.length co12) t330) ∧ Aside0 (Kd.R (Kd.int .i64) 3 wc w.heap.size (fun k_ => some k_ ≠ ((.slice Ao16 t338.length co16) : Value).ownBlock ∧ some k_ ≠ ((.slice Ao12 t330.length co12) : Value).ownBlock ∧ some k_ ≠ ((.slice Ao19 t341.length co19) : Value).ownBlock ∧ some k_ ≠ ((.slice Ao22 t344.length co22) : Value).ownBlock) (.slice Ao14 t333.length co14) t333) ∧ Aside0 (Kd.R (Kd.int .i64) 3 wc w.heap.size (fun k_ => some k_ ≠ ((.slice Ao16 t338.length co16) : Value).ownBlock ∧ some k_ ≠ ((.slice Ao12 t330.length co12) : Value).ownBlock ∧ some k_ ≠ ((.slice Ao14 t333.length co14) : Value).ownBlock ∧ some k_ ≠ ((.slice Ao22 t344.length co22) : Value).ownBlock) (.slice Ao19 t341.length co19) t341) ∧ Aside0 (Kd.R (Kd.int .i64) 3 wc w.heap.size (fun k_ => some k_ ≠ ((.slice Ao16 t338.length co16) : Value).ownBlock ∧ some k_ ≠ ((.slice Ao12 t330.length co12) : Value).ownBlock ∧ some k_ ≠ ((.slice Ao14 t333.length co14) : Value).ownBlock ∧ some k_ ≠ ((.slice Ao19 t341.length co19) : Value).ownBlock) (.slice Ao22 t344.length co22) t344) ∧ Aside0 (wc.heap[gb337]? = some (.cells #[(.slice Ao12 t330.length co12), (.slice Ao14 t333.length co14)] 28 (0, 0))) ∧ Aside0 (wc.heap[gb348]? = some (.cells #[(.slice Ao19 t341.length co19), (.slice Ao22 t344.length co22)] 28 (0, 0))) ∧ Aside0 (Below w.heap.size w wc))
    case first =>
      have H := HC7.out
      clear HC7
      replace H := Option.bind_eq_some_iff.mp H
      obtain ⟨t349, A230, H⟩ := H
      replace H : (if t349 = true then (laws_FnExactOpenToClosed.j0 k l0 t336 t338 t347 (t347 != t336) t330 t333 t341 t344) else (laws_FnExactOpenToClosed.j0 k l0 t336 t338 t347 true t330 t333 t341 t344)) = some true := H
      have A23 := Aside0.mk A230
      clear A230
      by_cases c24 : t349 = true
      · subst c24
        have H1 : (laws_FnExactOpenToClosed.j0 k l0 t336 t338 t347 (t347 != t336) t330 t333 t341 t344) = some true := by rw [if_pos rfl] at H; first | done | exact H
        clear H
        have H := H1
        clear H1
        have H' := Aside0.mk H
        clear H
        have hnb25 := NB348_337.out
        have hnc25 := NB337_348.out
        have hcz26_0 : w18.cell? ⟨gb348, 0, none⟩ = some (.slice none 0 0) := (blk_cell BK348.out 0).trans rfl
        have hcz26_1 : w18.cell? ⟨gb348, 1, none⟩ = some (.slice none 0 0) := (blk_cell BK348.out 1).trans rfl
        have hfz26_0 := blk_frozen BK348.out 0
        have hfz26_1 := blk_frozen BK348.out 1
        have hcz27_0 : w18.cell? ⟨gb337, 0, none⟩ = some (.slice Ao12 t330.length co12) := (blk_cell BK337.out 0).trans rfl
        have hcz27_1 : w18.cell? ⟨gb337, 1, none⟩ = some (.slice Ao14 t333.length co14) := (blk_cell BK337.out 1).trans rfl
        have hfz27_0 := blk_frozen BK337.out 0
        have hfz27_1 := blk_frozen BK337.out 1
        go_wp2_with (first | ((with_reducible refine gate_callee (f := 15) rfl ?_); refine goesL_ (some 31) rfl rfl Try.func15 (by kernel_rfl) rfl #[.agg #[.slice Ao19 t341.length co19, .slice Ao22 t344.length co22], .agg #[.slice Ao12 t330.length co12, .slice Ao14 t333.length co14]] rfl (by (try simp only [List.map_toArray, List.map_cons, List.map_nil]); first | done | rfl) ?_; (with_reducible refine (laws_eqMeander.calls k _ _ t341 _ _ t344 _ _ t330 _ _ t333 true _ ?side1 ?side2 ?side3 ?side4 ?side5 ?side6 ?side7 ?side8 A23.out).mono ?_); (case side1 => refine (Kd.R_reads' (e := 3) (base := w.heap.size) (ok := fun k_ => ((((some k_ ≠ (.slice Ao22 t344.length co22 : Value).ownBlock ∧ some k_ ≠ (.slice Ao9 t327.length co9 : Value).ownBlock) ∧ some k_ ≠ (.slice Ao12 t330.length co12 : Value).ownBlock) ∧ some k_ ≠ (.slice Ao14 t333.length co14 : Value).ownBlock) ∧ some k_ ≠ (.slice Ao16 t338.length co16 : Value).ownBlock)) (n := t341.length) (c := co19) ?_).2.2; exact (by (with_reducible repeat (first | apply Kd.R_alloc | apply Kd.R_drewN | apply Kd.R_drew)); exact (Kd.R_mono (Kd.R_far (p := ⟨gb348, 1, none⟩) (Kd.R_far (p := ⟨gb348, 0, none⟩) (Kd.R_types HO343.out BK348.out (by decide)) (fun _ hk => hk.2) (.slice Ao19 t341.length co19)) (fun _ hk => hk.2) (.slice Ao22 t344.length co22)) (fun _ h_ => h_.1)))); (case side2 => exact (Kd.R_reads' HO343.out).2.1); (case side3 => refine (Kd.R_reads' (e := 3) (base := w.heap.size) (ok := fun k_ => ((((some k_ ≠ (.slice Ao19 t341.length co19 : Value).ownBlock ∧ some k_ ≠ (.slice Ao9 t327.length co9 : Value).ownBlock) ∧ some k_ ≠ (.slice Ao12 t330.length co12 : Value).ownBlock) ∧ some k_ ≠ (.slice Ao14 t333.length co14 : Value).ownBlock) ∧ some k_ ≠ (.slice Ao16 t338.length co16 : Value).ownBlock)) (n := t344.length) (c := co22) ?_).2.2; exact (by (with_reducible repeat (first | apply Kd.R_alloc | apply Kd.R_drewN | apply Kd.R_drew)); exact (Kd.R_mono (Kd.R_far (p := ⟨gb348, 1, none⟩) (Kd.R_far (p := ⟨gb348, 0, none⟩) (Kd.R_types HO346.out BK348.out (by decide)) (fun _ hk => hk.2) (.slice Ao19 t341.length co19)) (fun _ hk => hk.2) (.slice Ao22 t344.length co22)) (fun _ h_ => h_.1)))); (case side4 => exact (Kd.R_reads' HO346.out).2.1); (case side5 => refine (Kd.R_reads' (e := 3) (base := w.heap.size) (ok := fun k_ => ((((some k_ ≠ (.slice Ao14 t333.length co14 : Value).ownBlock ∧ some k_ ≠ (.slice Ao9 t327.length co9 : Value).ownBlock) ∧ some k_ ≠ (.slice Ao16 t338.length co16 : Value).ownBlock) ∧ some k_ ≠ (.slice Ao19 t341.length co19 : Value).ownBlock) ∧ some k_ ≠ (.slice Ao22 t344.length co22 : Value).ownBlock)) (n := t330.length) (c := co12) ?_).2.2; exact (by (with_reducible repeat (first | apply Kd.R_alloc | apply Kd.R_drewN | apply Kd.R_drew)); exact (Kd.R_mono (Kd.R_far (p := ⟨gb348, 1, none⟩) (Kd.R_far (p := ⟨gb348, 0, none⟩) (Kd.R_types HO332.out BK348.out (by decide)) (fun _ hk => hk.2) (.slice Ao19 t341.length co19)) (fun _ hk => hk.2) (.slice Ao22 t344.length co22)) (fun _ h_ => h_.1)))); (case side6 => exact (Kd.R_reads' HO332.out).2.1); (case side7 => refine (Kd.R_reads' (e := 3) (base := w.heap.size) (ok := fun k_ => ((((some k_ ≠ (.slice Ao12 t330.length co12 : Value).ownBlock ∧ some k_ ≠ (.slice Ao9 t327.length co9 : Value).ownBlock) ∧ some k_ ≠ (.slice Ao16 t338.length co16 : Value).ownBlock) ∧ some k_ ≠ (.slice Ao19 t341.length co19 : Value).ownBlock) ∧ some k_ ≠ (.slice Ao22 t344.length co22 : Value).ownBlock)) (n := t333.length) (c := co14) ?_).2.2; exact (by (with_reducible repeat (first | apply Kd.R_alloc | apply Kd.R_drewN | apply Kd.R_drew)); exact (Kd.R_mono (Kd.R_far (p := ⟨gb348, 1, none⟩) (Kd.R_far (p := ⟨gb348, 0, none⟩) (Kd.R_types HO335.out BK348.out (by decide)) (fun _ hk => hk.2) (.slice Ao19 t341.length co19)) (fun _ hk => hk.2) (.slice Ao22 t344.length co22)) (fun _ h_ => h_.1)))); (case side8 => exact (Kd.R_reads' HO335.out).2.1); rintro e w28 ⟨rfl, hb⟩; refine ⟨_, rfl, ?_⟩; have n0_ := Aside0.mk (Kd.R_below (by (with_reducible repeat (first | apply Kd.R_alloc | apply Kd.R_drewN | apply Kd.R_drew)); exact (Kd.R_mono (Kd.R_far (p := ⟨gb348, 1, none⟩) (Kd.R_far (p := ⟨gb348, 0, none⟩) (Kd.R_types HO329.out BK348.out (by decide)) (fun _ hk => hk.2) (.slice Ao19 t341.length co19)) (fun _ hk => hk.2) (.slice Ao22 t344.length co22)) (fun _ h_ => h_.1))) hb); have n1_ := Aside0.mk (Kd.R_below (by (with_reducible repeat (first | apply Kd.R_alloc | apply Kd.R_drewN | apply Kd.R_drew)); exact (Kd.R_mono (Kd.R_far (p := ⟨gb348, 1, none⟩) (Kd.R_far (p := ⟨gb348, 0, none⟩) (Kd.R_types HO332.out BK348.out (by decide)) (fun _ hk => hk.2) (.slice Ao19 t341.length co19)) (fun _ hk => hk.2) (.slice Ao22 t344.length co22)) (fun _ h_ => h_.1))) hb); have n2_ := Aside0.mk (Kd.R_below (by (with_reducible repeat (first | apply Kd.R_alloc | apply Kd.R_drewN | apply Kd.R_drew)); exact (Kd.R_mono (Kd.R_far (p := ⟨gb348, 1, none⟩) (Kd.R_far (p := ⟨gb348, 0, none⟩) (Kd.R_types HO335.out BK348.out (by decide)) (fun _ hk => hk.2) (.slice Ao19 t341.length co19)) (fun _ hk => hk.2) (.slice Ao22 t344.length co22)) (fun _ h_ => h_.1))) hb); have n3_ := Aside0.mk (Kd.R_below (by (with_reducible repeat (first | apply Kd.R_alloc | apply Kd.R_drewN | apply Kd.R_drew)); exact (Kd.R_mono (Kd.R_far (p := ⟨gb348, 1, none⟩) (Kd.R_far (p := ⟨gb348, 0, none⟩) (Kd.R_types HO340.out BK348.out (by decide)) (fun _ hk => hk.2) (.slice Ao19 t341.length co19)) (fun _ hk => hk.2) (.slice Ao22 t344.length co22)) (fun _ h_ => h_.1))) hb); have n4_ := Aside0.mk (Kd.R_below (by (with_reducible repeat (first | apply Kd.R_alloc | apply Kd.R_drewN | apply Kd.R_drew)); exact (Kd.R_mono (Kd.R_far (p := ⟨gb348, 1, none⟩) (Kd.R_far (p := ⟨gb348, 0, none⟩) (Kd.R_types HO343.out BK348.out (by decide)) (fun _ hk => hk.2) (.slice Ao19 t341.length co19)) (fun _ hk => hk.2) (.slice Ao22 t344.length co22)) (fun _ h_ => h_.1))) hb); have n5_ := Aside0.mk (Kd.R_below (by (with_reducible repeat (first | apply Kd.R_alloc | apply Kd.R_drewN | apply Kd.R_drew)); exact (Kd.R_mono (Kd.R_far (p := ⟨gb348, 1, none⟩) (Kd.R_far (p := ⟨gb348, 0, none⟩) (Kd.R_types HO346.out BK348.out (by decide)) (fun _ hk => hk.2) (.slice Ao19 t341.length co19)) (fun _ hk => hk.2) (.slice Ao22 t344.length co22)) (fun _ h_ => h_.1))) hb); have n6_ := Aside0.mk (blk_below (g := gb337) (o := .cells #[.slice Ao12 t330.length co12, .slice Ao14 t333.length co14] 28 (0, 0)) (by (with_reducible repeat (first | refine blk_drewN ?_ _ | refine blk_drew ?_ | refine blk_alloc ?_ _)); refine blk_far ?_ NB337_348.out _; (with_reducible repeat (first | refine blk_drewN ?_ _ | refine blk_drew ?_ | refine blk_alloc ?_ _)); refine blk_far ?_ NB337_348.out _; (with_reducible repeat (first | refine blk_drewN ?_ _ | refine blk_drew ?_ | refine blk_alloc ?_ _)); exact BK337.out) hb); have n7_ := Aside0.mk (blk_below (g := gb348) (o := .cells #[.slice Ao19 t341.length co19, .slice Ao22 t344.length co22] 28 (0, 0)) (by (with_reducible repeat (first | refine blk_drewN ?_ _ | refine blk_drew ?_ | refine blk_alloc ?_ _)); refine blk_put (cs := #[.slice Ao19 t341.length co19, .slice none 0 0]) ?_ 1 _ rfl; (with_reducible repeat (first | refine blk_drewN ?_ _ | refine blk_drew ?_ | refine blk_alloc ?_ _)); refine blk_put (cs := #[.slice none 0 0, .slice none 0 0]) ?_ 0 _ rfl; (with_reducible repeat (first | refine blk_drewN ?_ _ | refine blk_drew ?_ | refine blk_alloc ?_ _)); exact BK348.out) hb); have n8_ := Aside0.mk (below_step (by repeat (first | (with_reducible first | exact HB.out | apply below_alloc | apply pw_below_drewN | apply below_drew1 | refine below_set ?_ GE337.out | refine below_set ?_ GE348.out) | exact HB.out)) hb); clear HO329; clear HO332; clear HO335; clear HO340; clear HO343; clear HO346; clear BK337; clear BK348; clear HB; have HO329 := n0_; have HO332 := n1_; have HO335 := n2_; have HO340 := n3_; have HO343 := n4_; have HO346 := n5_; have BK337 := n6_; have BK348 := n7_; have HB := n8_; clear n0_ n1_ n2_ n3_ n4_ n5_ n6_ n7_ n8_; (try clear hb); (try clear hb2); (try clear hk); (try clear hi)))
        go_meet
        case rel => exact ⟨_, ((t347 != t336)), (by first | rfl | simp | simp [*]), H', ⟨by first | omega | exact Nat.le_refl _⟩, ⟨by (with_reducible repeat (first | apply Kd.R_alloc | apply Kd.R_drewN | apply Kd.R_drew)); exact Kd.R_mono HO340.out (fun _ hk => ⟨hk.1.1.1.2, ⟨hk.1.1.2, ⟨hk.1.2, hk.2⟩⟩⟩)⟩, ⟨by (with_reducible repeat (first | apply Kd.R_alloc | apply Kd.R_drewN | apply Kd.R_drew)); exact Kd.R_mono HO332.out (fun _ hk => ⟨hk.1.1.2, ⟨hk.1.1.1.1, ⟨hk.1.2, hk.2⟩⟩⟩)⟩, ⟨by (with_reducible repeat (first | apply Kd.R_alloc | apply Kd.R_drewN | apply Kd.R_drew)); exact Kd.R_mono HO335.out (fun _ hk => ⟨hk.1.1.2, ⟨hk.1.1.1.1, ⟨hk.1.2, hk.2⟩⟩⟩)⟩, ⟨by (with_reducible repeat (first | apply Kd.R_alloc | apply Kd.R_drewN | apply Kd.R_drew)); exact Kd.R_mono HO343.out (fun _ hk => ⟨hk.2, ⟨hk.1.1.2, ⟨hk.1.2, hk.1.1.1.1⟩⟩⟩)⟩, ⟨by (with_reducible repeat (first | apply Kd.R_alloc | apply Kd.R_drewN | apply Kd.R_drew)); exact Kd.R_mono HO346.out (fun _ hk => ⟨hk.2, ⟨hk.1.1.2, ⟨hk.1.2, hk.1.1.1.1⟩⟩⟩)⟩, ⟨by (with_reducible repeat (first | refine blk_drewN ?_ _ | refine blk_drew ?_ | refine blk_alloc ?_ _)); exact BK337.out⟩, ⟨by (with_reducible repeat (first | refine blk_drewN ?_ _ | refine blk_drew ?_ | refine blk_alloc ?_ _)); exact BK348.out⟩, ⟨by repeat (first | (with_reducible first | exact HB.out | apply below_alloc | apply pw_below_drewN | apply below_drew1 | refine below_set ?_ GE337.out | refine below_set ?_ GE348.out) | exact HB.out)⟩⟩
      · replace c24 := Bool.eq_false_iff.mpr c24
        subst c24
        have H1 : (laws_FnExactOpenToClosed.j0 k l0 t336 t338 t347 true t330 t333 t341 t344) = some true := by rw [if_neg (show ¬ (false = true) by decide)] at H; first | done | exact H
        clear H
        have H := H1
        clear H1
        have H' := Aside0.mk H
        clear H
        have hnb29 := NB348_337.out
        have hnc29 := NB337_348.out
        have hcz30_0 : w18.cell? ⟨gb348, 0, none⟩ = some (.slice none 0 0) := (blk_cell BK348.out 0).trans rfl
        have hcz30_1 : w18.cell? ⟨gb348, 1, none⟩ = some (.slice none 0 0) := (blk_cell BK348.out 1).trans rfl
        have hfz30_0 := blk_frozen BK348.out 0
        have hfz30_1 := blk_frozen BK348.out 1
        have hcz31_0 : w18.cell? ⟨gb337, 0, none⟩ = some (.slice Ao12 t330.length co12) := (blk_cell BK337.out 0).trans rfl
        have hcz31_1 : w18.cell? ⟨gb337, 1, none⟩ = some (.slice Ao14 t333.length co14) := (blk_cell BK337.out 1).trans rfl
        have hfz31_0 := blk_frozen BK337.out 0
        have hfz31_1 := blk_frozen BK337.out 1
        go_wp2_with (first | ((with_reducible refine gate_callee (f := 15) rfl ?_); refine goesL_ (some 31) rfl rfl Try.func15 (by kernel_rfl) rfl #[.agg #[.slice Ao19 t341.length co19, .slice Ao22 t344.length co22], .agg #[.slice Ao12 t330.length co12, .slice Ao14 t333.length co14]] rfl (by (try simp only [List.map_toArray, List.map_cons, List.map_nil]); first | done | rfl) ?_; (with_reducible refine (laws_eqMeander.calls k _ _ t341 _ _ t344 _ _ t330 _ _ t333 false _ ?side1 ?side2 ?side3 ?side4 ?side5 ?side6 ?side7 ?side8 A23.out).mono ?_); (case side1 => refine (Kd.R_reads' (e := 3) (base := w.heap.size) (ok := fun k_ => ((((some k_ ≠ (.slice Ao22 t344.length co22 : Value).ownBlock ∧ some k_ ≠ (.slice Ao9 t327.length co9 : Value).ownBlock) ∧ some k_ ≠ (.slice Ao12 t330.length co12 : Value).ownBlock) ∧ some k_ ≠ (.slice Ao14 t333.length co14 : Value).ownBlock) ∧ some k_ ≠ (.slice Ao16 t338.length co16 : Value).ownBlock)) (n := t341.length) (c := co19) ?_).2.2; exact (by (with_reducible repeat (first | apply Kd.R_alloc | apply Kd.R_drewN | apply Kd.R_drew)); exact (Kd.R_mono (Kd.R_far (p := ⟨gb348, 1, none⟩) (Kd.R_far (p := ⟨gb348, 0, none⟩) (Kd.R_types HO343.out BK348.out (by decide)) (fun _ hk => hk.2) (.slice Ao19 t341.length co19)) (fun _ hk => hk.2) (.slice Ao22 t344.length co22)) (fun _ h_ => h_.1)))); (case side2 => exact (Kd.R_reads' HO343.out).2.1); (case side3 => refine (Kd.R_reads' (e := 3) (base := w.heap.size) (ok := fun k_ => ((((some k_ ≠ (.slice Ao19 t341.length co19 : Value).ownBlock ∧ some k_ ≠ (.slice Ao9 t327.length co9 : Value).ownBlock) ∧ some k_ ≠ (.slice Ao12 t330.length co12 : Value).ownBlock) ∧ some k_ ≠ (.slice Ao14 t333.length co14 : Value).ownBlock) ∧ some k_ ≠ (.slice Ao16 t338.length co16 : Value).ownBlock)) (n := t344.length) (c := co22) ?_).2.2; exact (by (with_reducible repeat (first | apply Kd.R_alloc | apply Kd.R_drewN | apply Kd.R_drew)); exact (Kd.R_mono (Kd.R_far (p := ⟨gb348, 1, none⟩) (Kd.R_far (p := ⟨gb348, 0, none⟩) (Kd.R_types HO346.out BK348.out (by decide)) (fun _ hk => hk.2) (.slice Ao19 t341.length co19)) (fun _ hk => hk.2) (.slice Ao22 t344.length co22)) (fun _ h_ => h_.1)))); (case side4 => exact (Kd.R_reads' HO346.out).2.1); (case side5 => refine (Kd.R_reads' (e := 3) (base := w.heap.size) (ok := fun k_ => ((((some k_ ≠ (.slice Ao14 t333.length co14 : Value).ownBlock ∧ some k_ ≠ (.slice Ao9 t327.length co9 : Value).ownBlock) ∧ some k_ ≠ (.slice Ao16 t338.length co16 : Value).ownBlock) ∧ some k_ ≠ (.slice Ao19 t341.length co19 : Value).ownBlock) ∧ some k_ ≠ (.slice Ao22 t344.length co22 : Value).ownBlock)) (n := t330.length) (c := co12) ?_).2.2; exact (by (with_reducible repeat (first | apply Kd.R_alloc | apply Kd.R_drewN | apply Kd.R_drew)); exact (Kd.R_mono (Kd.R_far (p := ⟨gb348, 1, none⟩) (Kd.R_far (p := ⟨gb348, 0, none⟩) (Kd.R_types HO332.out BK348.out (by decide)) (fun _ hk => hk.2) (.slice Ao19 t341.length co19)) (fun _ hk => hk.2) (.slice Ao22 t344.length co22)) (fun _ h_ => h_.1)))); (case side6 => exact (Kd.R_reads' HO332.out).2.1); (case side7 => refine (Kd.R_reads' (e := 3) (base := w.heap.size) (ok := fun k_ => ((((some k_ ≠ (.slice Ao12 t330.length co12 : Value).ownBlock ∧ some k_ ≠ (.slice Ao9 t327.length co9 : Value).ownBlock) ∧ some k_ ≠ (.slice Ao16 t338.length co16 : Value).ownBlock) ∧ some k_ ≠ (.slice Ao19 t341.length co19 : Value).ownBlock) ∧ some k_ ≠ (.slice Ao22 t344.length co22 : Value).ownBlock)) (n := t333.length) (c := co14) ?_).2.2; exact (by (with_reducible repeat (first | apply Kd.R_alloc | apply Kd.R_drewN | apply Kd.R_drew)); exact (Kd.R_mono (Kd.R_far (p := ⟨gb348, 1, none⟩) (Kd.R_far (p := ⟨gb348, 0, none⟩) (Kd.R_types HO335.out BK348.out (by decide)) (fun _ hk => hk.2) (.slice Ao19 t341.length co19)) (fun _ hk => hk.2) (.slice Ao22 t344.length co22)) (fun _ h_ => h_.1)))); (case side8 => exact (Kd.R_reads' HO335.out).2.1); rintro e w32 ⟨rfl, hb⟩; refine ⟨_, rfl, ?_⟩; have n0_ := Aside0.mk (Kd.R_below (by (with_reducible repeat (first | apply Kd.R_alloc | apply Kd.R_drewN | apply Kd.R_drew)); exact (Kd.R_mono (Kd.R_far (p := ⟨gb348, 1, none⟩) (Kd.R_far (p := ⟨gb348, 0, none⟩) (Kd.R_types HO329.out BK348.out (by decide)) (fun _ hk => hk.2) (.slice Ao19 t341.length co19)) (fun _ hk => hk.2) (.slice Ao22 t344.length co22)) (fun _ h_ => h_.1))) hb); have n1_ := Aside0.mk (Kd.R_below (by (with_reducible repeat (first | apply Kd.R_alloc | apply Kd.R_drewN | apply Kd.R_drew)); exact (Kd.R_mono (Kd.R_far (p := ⟨gb348, 1, none⟩) (Kd.R_far (p := ⟨gb348, 0, none⟩) (Kd.R_types HO332.out BK348.out (by decide)) (fun _ hk => hk.2) (.slice Ao19 t341.length co19)) (fun _ hk => hk.2) (.slice Ao22 t344.length co22)) (fun _ h_ => h_.1))) hb); have n2_ := Aside0.mk (Kd.R_below (by (with_reducible repeat (first | apply Kd.R_alloc | apply Kd.R_drewN | apply Kd.R_drew)); exact (Kd.R_mono (Kd.R_far (p := ⟨gb348, 1, none⟩) (Kd.R_far (p := ⟨gb348, 0, none⟩) (Kd.R_types HO335.out BK348.out (by decide)) (fun _ hk => hk.2) (.slice Ao19 t341.length co19)) (fun _ hk => hk.2) (.slice Ao22 t344.length co22)) (fun _ h_ => h_.1))) hb); have n3_ := Aside0.mk (Kd.R_below (by (with_reducible repeat (first | apply Kd.R_alloc | apply Kd.R_drewN | apply Kd.R_drew)); exact (Kd.R_mono (Kd.R_far (p := ⟨gb348, 1, none⟩) (Kd.R_far (p := ⟨gb348, 0, none⟩) (Kd.R_types HO340.out BK348.out (by decide)) (fun _ hk => hk.2) (.slice Ao19 t341.length co19)) (fun _ hk => hk.2) (.slice Ao22 t344.length co22)) (fun _ h_ => h_.1))) hb); have n4_ := Aside0.mk (Kd.R_below (by (with_reducible repeat (first | apply Kd.R_alloc | apply Kd.R_drewN | apply Kd.R_drew)); exact (Kd.R_mono (Kd.R_far (p := ⟨gb348, 1, none⟩) (Kd.R_far (p := ⟨gb348, 0, none⟩) (Kd.R_types HO343.out BK348.out (by decide)) (fun _ hk => hk.2) (.slice Ao19 t341.length co19)) (fun _ hk => hk.2) (.slice Ao22 t344.length co22)) (fun _ h_ => h_.1))) hb); have n5_ := Aside0.mk (Kd.R_below (by (with_reducible repeat (first | apply Kd.R_alloc | apply Kd.R_drewN | apply Kd.R_drew)); exact (Kd.R_mono (Kd.R_far (p := ⟨gb348, 1, none⟩) (Kd.R_far (p := ⟨gb348, 0, none⟩) (Kd.R_types HO346.out BK348.out (by decide)) (fun _ hk => hk.2) (.slice Ao19 t341.length co19)) (fun _ hk => hk.2) (.slice Ao22 t344.length co22)) (fun _ h_ => h_.1))) hb); have n6_ := Aside0.mk (blk_below (g := gb337) (o := .cells #[.slice Ao12 t330.length co12, .slice Ao14 t333.length co14] 28 (0, 0)) (by (with_reducible repeat (first | refine blk_drewN ?_ _ | refine blk_drew ?_ | refine blk_alloc ?_ _)); refine blk_far ?_ NB337_348.out _; (with_reducible repeat (first | refine blk_drewN ?_ _ | refine blk_drew ?_ | refine blk_alloc ?_ _)); refine blk_far ?_ NB337_348.out _; (with_reducible repeat (first | refine blk_drewN ?_ _ | refine blk_drew ?_ | refine blk_alloc ?_ _)); exact BK337.out) hb); have n7_ := Aside0.mk (blk_below (g := gb348) (o := .cells #[.slice Ao19 t341.length co19, .slice Ao22 t344.length co22] 28 (0, 0)) (by (with_reducible repeat (first | refine blk_drewN ?_ _ | refine blk_drew ?_ | refine blk_alloc ?_ _)); refine blk_put (cs := #[.slice Ao19 t341.length co19, .slice none 0 0]) ?_ 1 _ rfl; (with_reducible repeat (first | refine blk_drewN ?_ _ | refine blk_drew ?_ | refine blk_alloc ?_ _)); refine blk_put (cs := #[.slice none 0 0, .slice none 0 0]) ?_ 0 _ rfl; (with_reducible repeat (first | refine blk_drewN ?_ _ | refine blk_drew ?_ | refine blk_alloc ?_ _)); exact BK348.out) hb); have n8_ := Aside0.mk (below_step (by repeat (first | (with_reducible first | exact HB.out | apply below_alloc | apply pw_below_drewN | apply below_drew1 | refine below_set ?_ GE337.out | refine below_set ?_ GE348.out) | exact HB.out)) hb); clear HO329; clear HO332; clear HO335; clear HO340; clear HO343; clear HO346; clear BK337; clear BK348; clear HB; have HO329 := n0_; have HO332 := n1_; have HO335 := n2_; have HO340 := n3_; have HO343 := n4_; have HO346 := n5_; have BK337 := n6_; have BK348 := n7_; have HB := n8_; clear n0_ n1_ n2_ n3_ n4_ n5_ n6_ n7_ n8_; (try clear hb); (try clear hb2); (try clear hk); (try clear hi)))
        go_meet
        case rel => exact ⟨_, (true), (by first | rfl | simp | simp [*]), H', ⟨by first | omega | exact Nat.le_refl _⟩, ⟨by (with_reducible repeat (first | apply Kd.R_alloc | apply Kd.R_drewN | apply Kd.R_drew)); exact Kd.R_mono HO340.out (fun _ hk => ⟨hk.1.1.1.2, ⟨hk.1.1.2, ⟨hk.1.2, hk.2⟩⟩⟩)⟩, ⟨by (with_reducible repeat (first | apply Kd.R_alloc | apply Kd.R_drewN | apply Kd.R_drew)); exact Kd.R_mono HO332.out (fun _ hk => ⟨hk.1.1.2, ⟨hk.1.1.1.1, ⟨hk.1.2, hk.2⟩⟩⟩)⟩, ⟨by (with_reducible repeat (first | apply Kd.R_alloc | apply Kd.R_drewN | apply Kd.R_drew)); exact Kd.R_mono HO335.out (fun _ hk => ⟨hk.1.1.2, ⟨hk.1.1.1.1, ⟨hk.1.2, hk.2⟩⟩⟩)⟩, ⟨by (with_reducible repeat (first | apply Kd.R_alloc | apply Kd.R_drewN | apply Kd.R_drew)); exact Kd.R_mono HO343.out (fun _ hk => ⟨hk.2, ⟨hk.1.1.2, ⟨hk.1.2, hk.1.1.1.1⟩⟩⟩)⟩, ⟨by (with_reducible repeat (first | apply Kd.R_alloc | apply Kd.R_drewN | apply Kd.R_drew)); exact Kd.R_mono HO346.out (fun _ hk => ⟨hk.2, ⟨hk.1.1.2, ⟨hk.1.2, hk.1.1.1.1⟩⟩⟩)⟩, ⟨by (with_reducible repeat (first | refine blk_drewN ?_ _ | refine blk_drew ?_ | refine blk_alloc ?_ _)); exact BK337.out⟩, ⟨by (with_reducible repeat (first | refine blk_drewN ?_ _ | refine blk_drew ?_ | refine blk_alloc ?_ _)); exact BK348.out⟩, ⟨by repeat (first | (with_reducible first | exact HB.out | apply below_alloc | apply pw_below_drewN | apply below_drew1 | refine below_set ?_ GE337.out | refine below_set ?_ GE348.out) | exact HB.out)⟩⟩
    case rest =>
      clear HC7
      try clear c1
      try clear c2
      try clear c2b0
      try clear c2b1
      try clear p2
      try clear c6
      try clear c15
      try clear c20
      try clear c24
      try clear c25
      try clear c28
      try clear c29
      try clear hcz13_0
      try clear hcz13_1
      try clear hcz21_0
      try clear hcz21_1
      try clear hcz26_0
      try clear hcz26_1
      try clear hcz27_0
      try clear hcz27_1
      try clear hcz30_0
      try clear hcz30_1
      try clear hcz31_0
      try clear hcz31_1
      try clear hfz13_0
      try clear hfz13_1
      try clear hfz21_0
      try clear hfz21_1
      try clear hfz26_0
      try clear hfz26_1
      try clear hfz27_0
      try clear hfz27_1
      try clear hfz30_0
      try clear hfz30_1
      try clear hfz31_0
      try clear hfz31_1
      obtain ⟨kq, x37_6, rfl, HA, HJ6, HO_5, HO_338000, HO_338001, HO_349000, HO_349001, BK337, BK348, HB⟩ := hcut
      cases kq with
      | zero => exact absurd HA.out (by simp [laws_FnExactOpenToClosed.j0])
      | succ kj6 =>
        have H := HA.out
        clear HA
        simp only [laws_FnExactOpenToClosed.j0] at H
        by_cases c33 : x37_6 = true
        · subst c33
          have H1 : (some false) = some true := by rw [if_pos rfl] at H; first | done | exact H
          clear H
          have H := H1
          clear H1
          exact absurd H (by simp)
        · replace c33 := Bool.eq_false_iff.mpr c33
          subst c33
          have H1 : ((laws_toIntS.f kj6 l0).bind fun t350 => ((laws_eqIntS.f kj6 t338 t350).bind fun t353 => (if t353 = true then ((laws_markIntS.f kj6 t338 1).bind fun bt354 => (if bt354.1 < 0 then (laws_FnExactOpenToClosed.j1 kj6 l0 t336 true t330 t333 t341 t344) else ((laws_eqMeander.f kj6 t341 t344 t330 t333).bind fun t356 => (if t356 = true then (laws_FnExactOpenToClosed.j1 kj6 l0 t336 (t347 != t336) t330 t333 t341 t344) else (laws_FnExactOpenToClosed.j1 kj6 l0 t336 true t330 t333 t341 t344))))) else (some false)))) = some true := by rw [if_neg (show ¬ (false = true) by decide)] at H; first | done | exact H
          clear H
          have H := H1
          clear H1
          replace H := Option.bind_eq_some_iff.mp H
          obtain ⟨t350, A340, H⟩ := H
          replace H : ((laws_eqIntS.f kj6 t338 t350).bind fun t353 => (if t353 = true then ((laws_markIntS.f kj6 t338 1).bind fun bt354 => (if bt354.1 < 0 then (laws_FnExactOpenToClosed.j1 kj6 l0 t336 true t330 t333 t341 t344) else ((laws_eqMeander.f kj6 t341 t344 t330 t333).bind fun t356 => (if t356 = true then (laws_FnExactOpenToClosed.j1 kj6 l0 t336 (t347 != t336) t330 t333 t341 t344) else (laws_FnExactOpenToClosed.j1 kj6 l0 t336 true t330 t333 t341 t344))))) else (some false))) = some true := H
          have A34 := Aside0.mk A340
          clear A340
          replace H := Option.bind_eq_some_iff.mp H
          obtain ⟨t353, A350, H⟩ := H
          replace H : (if t353 = true then ((laws_markIntS.f kj6 t338 1).bind fun bt354 => (if bt354.1 < 0 then (laws_FnExactOpenToClosed.j1 kj6 l0 t336 true t330 t333 t341 t344) else ((laws_eqMeander.f kj6 t341 t344 t330 t333).bind fun t356 => (if t356 = true then (laws_FnExactOpenToClosed.j1 kj6 l0 t336 (t347 != t336) t330 t333 t341 t344) else (laws_FnExactOpenToClosed.j1 kj6 l0 t336 true t330 t333 t341 t344))))) else (some false)) = some true := H
          have A35 := Aside0.mk A350
          clear A350
          by_cases c36 : t353 = true
          · subst c36
            have H1 : ((laws_markIntS.f kj6 t338 1).bind fun bt354 => (if bt354.1 < 0 then (laws_FnExactOpenToClosed.j1 kj6 l0 t336 true t330 t333 t341 t344) else ((laws_eqMeander.f kj6 t341 t344 t330 t333).bind fun t356 => (if t356 = true then (laws_FnExactOpenToClosed.j1 kj6 l0 t336 (t347 != t336) t330 t333 t341 t344) else (laws_FnExactOpenToClosed.j1 kj6 l0 t336 true t330 t333 t341 t344))))) = some true := by rw [if_pos rfl] at H; first | done | exact H
            clear H
            have H := H1
            clear H1
            replace H := Option.bind_eq_some_iff.mp H
            obtain ⟨⟨t354, t355⟩, A370, H⟩ := H
            replace H : (if t354 < 0 then (laws_FnExactOpenToClosed.j1 kj6 l0 t336 true t330 t333 t341 t344) else ((laws_eqMeander.f kj6 t341 t344 t330 t333).bind fun t356 => (if t356 = true then (laws_FnExactOpenToClosed.j1 kj6 l0 t336 (t347 != t336) t330 t333 t341 t344) else (laws_FnExactOpenToClosed.j1 kj6 l0 t336 true t330 t333 t341 t344)))) = some true := H
            have A37 := Aside0.mk A370
            clear A370
            have HC38 := Aside0.mk H
            clear H
            go_upto_region 12 with (first | ((with_reducible refine gate_callee (f := 25) rfl ?_); refine goesL_ (some 40) rfl rfl Try.func25 (by kernel_rfl) rfl #[.slice A0 l0.length c0] rfl (by (try simp only [List.map_toArray, List.map_cons, List.map_nil]); first | done | rfl) ?_; (with_reducible refine (laws_toIntS.calls kj6 _ _ l0 t350 _ ?side1 ?side2 A34.out).mono ?_); (case side1 => repeat (first | exact (Kd.C_below HR0.out HB.out) | (with_reducible refine Kd.C_alloc ?_ _) | (with_reducible refine Kd.C_drewN ?_ _) | (with_reducible refine Kd.C_drew ?_))); (case side2 => exact HC0.out); rintro e w39 ⟨v351, rfl, ho0, hb⟩; refine ⟨_, rfl, ?_⟩; have n0_ := Aside0.mk (Kd.R_elder' (by (with_reducible repeat (first | apply Kd.R_alloc | apply Kd.R_drewN | apply Kd.R_drew)); exact HO_5.out) (Kd.R_base ho0) hb); have n1_ := Aside0.mk (Kd.R_elder' (by (with_reducible repeat (first | apply Kd.R_alloc | apply Kd.R_drewN | apply Kd.R_drew)); exact HO_338000.out) (Kd.R_base ho0) hb); have n2_ := Aside0.mk (Kd.R_elder' (by (with_reducible repeat (first | apply Kd.R_alloc | apply Kd.R_drewN | apply Kd.R_drew)); exact HO_338001.out) (Kd.R_base ho0) hb); have n3_ := Aside0.mk (Kd.R_elder' (by (with_reducible repeat (first | apply Kd.R_alloc | apply Kd.R_drewN | apply Kd.R_drew)); exact HO_349000.out) (Kd.R_base ho0) hb); have n4_ := Aside0.mk (Kd.R_elder' (by (with_reducible repeat (first | apply Kd.R_alloc | apply Kd.R_drewN | apply Kd.R_drew)); exact HO_349001.out) (Kd.R_base ho0) hb); have n5_ := Aside0.mk (Kd.R_lower (Kd.R_new' (Kd.R_new' (Kd.R_new' (Kd.R_new' (Kd.R_new' ho0 (Kd.R_lt (by (with_reducible repeat (first | apply Kd.R_alloc | apply Kd.R_drewN | apply Kd.R_drew)); exact HO_5.out))) (Kd.R_lt (by (with_reducible repeat (first | apply Kd.R_alloc | apply Kd.R_drewN | apply Kd.R_drew)); exact HO_338000.out))) (Kd.R_lt (by (with_reducible repeat (first | apply Kd.R_alloc | apply Kd.R_drewN | apply Kd.R_drew)); exact HO_338001.out))) (Kd.R_lt (by (with_reducible repeat (first | apply Kd.R_alloc | apply Kd.R_drewN | apply Kd.R_drew)); exact HO_349000.out))) (Kd.R_lt (by (with_reducible repeat (first | apply Kd.R_alloc | apply Kd.R_drewN | apply Kd.R_drew)); exact HO_349001.out))) (below_size (by repeat (first | (with_reducible first | exact HB.out | apply below_alloc | apply pw_below_drewN | apply below_drew1 | refine below_set ?_ GE337.out | refine below_set ?_ GE348.out) | exact HB.out)))); have n6_ := Aside0.mk (blk_below (g := gb337) (o := .cells #[.slice Ao12 t330.length co12, .slice Ao14 t333.length co14] 28 (0, 0)) (by (with_reducible repeat (first | refine blk_drewN ?_ _ | refine blk_drew ?_ | refine blk_alloc ?_ _)); exact BK337.out) hb); have n7_ := Aside0.mk (blk_below (g := gb348) (o := .cells #[.slice Ao19 t341.length co19, .slice Ao22 t344.length co22] 28 (0, 0)) (by (with_reducible repeat (first | refine blk_drewN ?_ _ | refine blk_drew ?_ | refine blk_alloc ?_ _)); exact BK348.out) hb); have n8_ := Aside0.mk (below_step (by repeat (first | (with_reducible first | exact HB.out | apply below_alloc | apply pw_below_drewN | apply below_drew1 | refine below_set ?_ GE337.out | refine below_set ?_ GE348.out) | exact HB.out)) hb); clear HO_5; clear HO_338000; clear HO_338001; clear HO_349000; clear HO_349001; clear BK337; clear BK348; clear HB; have HO_5 := n0_; have HO_338000 := n1_; have HO_338001 := n2_; have HO_349000 := n3_; have HO_349001 := n4_; have HO352 := n5_; have BK337 := n6_; have BK348 := n7_; have HB := n8_; clear n0_ n1_ n2_ n3_ n4_ n5_ n6_ n7_ n8_; (try clear hb); (try clear hb2); (try clear hk); (try clear hi); (try clear ho0); obtain ⟨Ao40, co40, eo40⟩ := Kd.R_slice HO352.out; subst eo40) | ((with_reducible refine gate_callee (f := 14) rfl ?_); refine goesL_ (some 41) rfl rfl Try.func14 (by kernel_rfl) rfl #[.slice Ao16 t338.length co16, .slice Ao40 t350.length co40] rfl (by (try simp only [List.map_toArray, List.map_cons, List.map_nil]); first | done | rfl) ?_; (with_reducible refine (laws_eqIntS.calls kj6 _ _ t338 _ _ t350 true _ ?side1 ?side2 ?side3 ?side4 A35.out).mono ?_); (case side1 => repeat (first | exact (Kd.R_reads' HO_5.out).2.2 | (with_reducible refine Kd.C_alloc ?_ _) | (with_reducible refine Kd.C_drewN ?_ _) | (with_reducible refine Kd.C_drew ?_))); (case side2 => exact (Kd.R_reads' HO_5.out).2.1); (case side3 => repeat (first | exact (Kd.R_reads' HO352.out).2.2 | (with_reducible refine Kd.C_alloc ?_ _) | (with_reducible refine Kd.C_drewN ?_ _) | (with_reducible refine Kd.C_drew ?_))); (case side4 => exact (Kd.R_reads' HO352.out).2.1); rintro e w' ⟨rfl, ⟨nd, rfl⟩⟩; refine ⟨_, rfl, ?_⟩) | ((with_reducible refine gate_callee (f := 17) rfl ?_); refine goesL_ (some 45) rfl rfl Try.func17 (by kernel_rfl) rfl #[.slice Ao16 t338.length co16, .int .i64 1] rfl (by (try simp only [List.map_toArray, List.map_cons, List.map_nil]); first | done | rfl) ?_; (with_reducible refine (laws_markIntS.calls kj6 (fun k_ => some k_ = (.slice Ao16 t338.length co16 : Value).ownBlock) (.slice Ao16 t338.length co16) t338 1 t354 t355 w _ ?side1 ?side2 A37.out).mono ?_); (case side1 => repeat (first | (with_reducible first | exact HB.out | apply below_alloc | apply pw_below_drewN | apply below_drew1 | refine below_set ?_ GE337.out | refine below_set ?_ GE348.out) | exact HB.out)); (case side2 => exact Kd.R_tight rfl HO_5.out); rintro e w41 ⟨rfl, hy0, hb, hkp⟩; refine ⟨_, rfl, ?_⟩; have n0_ := Aside0.mk (Kd.R_reok rfl hy0 (fun k_ e_ => HO_5.out.1 k_ e_)); have n1_ := Aside0.mk (Kd.R_mono (ok' := fun k_ => some k_ ≠ (.slice Ao16 t338.length co16 : Value).ownBlock ∧ some k_ ≠ (.slice Ao14 t333.length co14 : Value).ownBlock ∧ some k_ ≠ (.slice Ao19 t341.length co19 : Value).ownBlock ∧ some k_ ≠ (.slice Ao22 t344.length co22 : Value).ownBlock ∧ some k_ ≠ (.slice Ao40 t350.length co40 : Value).ownBlock) (Kd.R_keptB (HO_338000.out) hkp (fun k_ hk_ hs_ => (hk_.1.1) hs_)) (fun k_ hk_ => ⟨hk_.1.1.1, hk_.1.1.2.1, hk_.1.1.2.2.1, hk_.1.1.2.2.2, hk_.1.2⟩)); have n2_ := Aside0.mk (Kd.R_mono (ok' := fun k_ => some k_ ≠ (.slice Ao16 t338.length co16 : Value).ownBlock ∧ some k_ ≠ (.slice Ao12 t330.length co12 : Value).ownBlock ∧ some k_ ≠ (.slice Ao19 t341.length co19 : Value).ownBlock ∧ some k_ ≠ (.slice Ao22 t344.length co22 : Value).ownBlock ∧ some k_ ≠ (.slice Ao40 t350.length co40 : Value).ownBlock) (Kd.R_keptB (HO_338001.out) hkp (fun k_ hk_ hs_ => (hk_.1.1) hs_)) (fun k_ hk_ => ⟨hk_.1.1.1, hk_.1.1.2.1, hk_.1.1.2.2.1, hk_.1.1.2.2.2, hk_.1.2⟩)); have n3_ := Aside0.mk (Kd.R_mono (ok' := fun k_ => some k_ ≠ (.slice Ao16 t338.length co16 : Value).ownBlock ∧ some k_ ≠ (.slice Ao12 t330.length co12 : Value).ownBlock ∧ some k_ ≠ (.slice Ao14 t333.length co14 : Value).ownBlock ∧ some k_ ≠ (.slice Ao22 t344.length co22 : Value).ownBlock ∧ some k_ ≠ (.slice Ao40 t350.length co40 : Value).ownBlock) (Kd.R_keptB (HO_349000.out) hkp (fun k_ hk_ hs_ => (hk_.1.1) hs_)) (fun k_ hk_ => ⟨hk_.1.1.1, hk_.1.1.2.1, hk_.1.1.2.2.1, hk_.1.1.2.2.2, hk_.1.2⟩)); have n4_ := Aside0.mk (Kd.R_mono (ok' := fun k_ => some k_ ≠ (.slice Ao16 t338.length co16 : Value).ownBlock ∧ some k_ ≠ (.slice Ao12 t330.length co12 : Value).ownBlock ∧ some k_ ≠ (.slice Ao14 t333.length co14 : Value).ownBlock ∧ some k_ ≠ (.slice Ao19 t341.length co19 : Value).ownBlock ∧ some k_ ≠ (.slice Ao40 t350.length co40 : Value).ownBlock) (Kd.R_keptB (HO_349001.out) hkp (fun k_ hk_ hs_ => (hk_.1.1) hs_)) (fun k_ hk_ => ⟨hk_.1.1.1, hk_.1.1.2.1, hk_.1.1.2.2.1, hk_.1.1.2.2.2, hk_.1.2⟩)); have n5_ := Aside0.mk (blk_kept (by (with_reducible repeat (first | refine blk_drewN ?_ _ | refine blk_drew ?_ | refine blk_alloc ?_ _)); exact BK337.out) hkp (fun hs_ => (fun e_ => (Kd.R_ne HO_5.out BK337.out (by decide)) e_) hs_)); have n6_ := Aside0.mk (blk_kept (by (with_reducible repeat (first | refine blk_drewN ?_ _ | refine blk_drew ?_ | refine blk_alloc ?_ _)); exact BK348.out) hkp (fun hs_ => (fun e_ => (Kd.R_ne HO_5.out BK348.out (by decide)) e_) hs_)); have n7_ := Aside0.mk (Kd.R_mono (ok' := fun k_ => some k_ ≠ (.slice Ao16 t338.length co16 : Value).ownBlock ∧ some k_ ≠ (.slice Ao12 t330.length co12 : Value).ownBlock ∧ some k_ ≠ (.slice Ao14 t333.length co14 : Value).ownBlock ∧ some k_ ≠ (.slice Ao19 t341.length co19 : Value).ownBlock ∧ some k_ ≠ (.slice Ao22 t344.length co22 : Value).ownBlock) (Kd.R_keptB (HO352.out) hkp (fun k_ hk_ hs_ => (hk_.1.1.1.1.2) hs_)) (fun k_ hk_ => ⟨hk_.1.1.1.1.1.2, hk_.1.1.1.1.2, hk_.1.1.1.2, hk_.1.1.2, hk_.1.2⟩)); have n8_ := Aside0.mk (hb); clear HO_5; clear HO_338000; clear HO_338001; clear HO_349000; clear HO_349001; clear BK337; clear BK348; clear HO352; clear HB; have HO_5 := n0_; have HO_338000 := n1_; have HO_338001 := n2_; have HO_349000 := n3_; have HO_349001 := n4_; have BK337 := n5_; have BK348 := n6_; have HO352 := n7_; have HB := n8_; clear n0_ n1_ n2_ n3_ n4_ n5_ n6_ n7_ n8_; (try clear hb); (try clear hkp); (try clear hy0)))
            (try simp only [Act.put, List.setIfInBounds_toArray, List.set_cons_zero, List.set_cons_succ])
            go_cut [58] (fun v58 wc => ∃ (kq : Nat) (x58_37 : Bool), v58 = .bool x58_37 ∧ Aside0 (laws_FnExactOpenToClosed.j1 kq l0 t336 x58_37 t330 t333 t341 t344 = some true) ∧ Aside0 (kq ≤ kj6) ∧ Aside0 (Kd.R (Kd.int .i64) 3 wc w.heap.size (fun k_ => some k_ ≠ ((.slice Ao14 t333.length co14) : Value).ownBlock ∧ some k_ ≠ ((.slice Ao19 t341.length co19) : Value).ownBlock ∧ some k_ ≠ ((.slice Ao22 t344.length co22) : Value).ownBlock) (.slice Ao12 t330.length co12) t330) ∧ Aside0 (Kd.R (Kd.int .i64) 3 wc w.heap.size (fun k_ => some k_ ≠ ((.slice Ao12 t330.length co12) : Value).ownBlock ∧ some k_ ≠ ((.slice Ao19 t341.length co19) : Value).ownBlock ∧ some k_ ≠ ((.slice Ao22 t344.length co22) : Value).ownBlock) (.slice Ao14 t333.length co14) t333) ∧ Aside0 (Kd.R (Kd.int .i64) 3 wc w.heap.size (fun k_ => some k_ ≠ ((.slice Ao12 t330.length co12) : Value).ownBlock ∧ some k_ ≠ ((.slice Ao14 t333.length co14) : Value).ownBlock ∧ some k_ ≠ ((.slice Ao22 t344.length co22) : Value).ownBlock) (.slice Ao19 t341.length co19) t341) ∧ Aside0 (Kd.R (Kd.int .i64) 3 wc w.heap.size (fun k_ => some k_ ≠ ((.slice Ao12 t330.length co12) : Value).ownBlock ∧ some k_ ≠ ((.slice Ao14 t333.length co14) : Value).ownBlock ∧ some k_ ≠ ((.slice Ao19 t341.length co19) : Value).ownBlock) (.slice Ao22 t344.length co22) t344) ∧ Aside0 (wc.heap[gb337]? = some (.cells #[(.slice Ao12 t330.length co12), (.slice Ao14 t333.length co14)] 28 (0, 0))) ∧ Aside0 (wc.heap[gb348]? = some (.cells #[(.slice Ao19 t341.length co19), (.slice Ao22 t344.length co22)] 28 (0, 0))) ∧ Aside0 (Below w.heap.size w wc))
            case first =>
              have H := HC38.out
              clear HC38
              by_cases c42 : t354 < 0
              · rw [if_pos c42] at H
                have c42b0 : decide (t354 < 0) = true := decide_eq_true c42
                clear c42
                (first | rw [c42b0] | (simp only [i64_w, i32_w]; rw [c42b0]) | skip)
                have H' := Aside0.mk H
                clear H
                go_wp2
                go_meet
                case rel => exact ⟨_, (true), (by first | rfl | simp | simp [*]), H', ⟨by have := HJ6.out; first | omega | exact Nat.le_refl _⟩, ⟨by (with_reducible repeat (first | apply Kd.R_alloc | apply Kd.R_drewN | apply Kd.R_drew)); exact Kd.R_mono HO_338000.out (fun _ hk => ⟨hk.2.1, ⟨hk.2.2.1, hk.2.2.2.1⟩⟩)⟩, ⟨by (with_reducible repeat (first | apply Kd.R_alloc | apply Kd.R_drewN | apply Kd.R_drew)); exact Kd.R_mono HO_338001.out (fun _ hk => ⟨hk.2.1, ⟨hk.2.2.1, hk.2.2.2.1⟩⟩)⟩, ⟨by (with_reducible repeat (first | apply Kd.R_alloc | apply Kd.R_drewN | apply Kd.R_drew)); exact Kd.R_mono HO_349000.out (fun _ hk => ⟨hk.2.1, ⟨hk.2.2.1, hk.2.2.2.1⟩⟩)⟩, ⟨by (with_reducible repeat (first | apply Kd.R_alloc | apply Kd.R_drewN | apply Kd.R_drew)); exact Kd.R_mono HO_349001.out (fun _ hk => ⟨hk.2.1, ⟨hk.2.2.1, hk.2.2.2.1⟩⟩)⟩, ⟨by (with_reducible repeat (first | refine blk_drewN ?_ _ | refine blk_drew ?_ | refine blk_alloc ?_ _)); exact BK337.out⟩, ⟨by (with_reducible repeat (first | refine blk_drewN ?_ _ | refine blk_drew ?_ | refine blk_alloc ?_ _)); exact BK348.out⟩, ⟨by repeat (first | (with_reducible first | exact HB.out | apply below_alloc | apply pw_below_drewN | apply below_drew1 | refine below_set ?_ GE337.out | refine below_set ?_ GE348.out) | exact HB.out)⟩⟩
              · rw [if_neg c42] at H
                have c42b0 : decide (t354 < 0) = false := decide_eq_false c42
                clear c42
                (first | rw [c42b0] | (simp only [i64_w, i32_w]; rw [c42b0]) | skip)
                replace H := Option.bind_eq_some_iff.mp H
                obtain ⟨t356, A430, H⟩ := H
                replace H : (if t356 = true then (laws_FnExactOpenToClosed.j1 kj6 l0 t336 (t347 != t336) t330 t333 t341 t344) else (laws_FnExactOpenToClosed.j1 kj6 l0 t336 true t330 t333 t341 t344)) = some true := H
                have A43 := Aside0.mk A430
                clear A430
                by_cases c44 : t356 = true
                · subst c44
                  have H1 : (laws_FnExactOpenToClosed.j1 kj6 l0 t336 (t347 != t336) t330 t333 t341 t344) = some true := by rw [if_pos rfl] at H; first | done | exact H
                  clear H
                  have H := H1
                  clear H1
                  have H' := Aside0.mk H
                  clear H
                  have hnb45 := NB348_337.out
                  have hnc45 := NB337_348.out
                  have hcz46_0 : w41.cell? ⟨gb348, 0, none⟩ = some (.slice Ao19 t341.length co19) := (blk_cell BK348.out 0).trans rfl
                  have hcz46_1 : w41.cell? ⟨gb348, 1, none⟩ = some (.slice Ao22 t344.length co22) := (blk_cell BK348.out 1).trans rfl
                  have hfz46_0 := blk_frozen BK348.out 0
                  have hfz46_1 := blk_frozen BK348.out 1
                  have hcz47_0 : w41.cell? ⟨gb337, 0, none⟩ = some (.slice Ao12 t330.length co12) := (blk_cell BK337.out 0).trans rfl
                  have hcz47_1 : w41.cell? ⟨gb337, 1, none⟩ = some (.slice Ao14 t333.length co14) := (blk_cell BK337.out 1).trans rfl
                  have hfz47_0 := blk_frozen BK337.out 0
                  have hfz47_1 := blk_frozen BK337.out 1
                  go_wp2_with (first | (go_at_call 15; (with_reducible refine (laws_eqMeander.calls kj6 _ _ t341 _ _ t344 _ _ t330 _ _ t333 true _ ?side1 ?side2 ?side3 ?side4 ?side5 ?side6 ?side7 ?side8 A43.out).mono ?_); (case side1 => repeat (first | exact (Kd.R_reads' HO_349000.out).2.2 | (with_reducible refine Kd.C_alloc ?_ _) | (with_reducible refine Kd.C_drewN ?_ _) | (with_reducible refine Kd.C_drew ?_))); (case side2 => exact (Kd.R_reads' HO_349000.out).2.1); (case side3 => repeat (first | exact (Kd.R_reads' HO_349001.out).2.2 | (with_reducible refine Kd.C_alloc ?_ _) | (with_reducible refine Kd.C_drewN ?_ _) | (with_reducible refine Kd.C_drew ?_))); (case side4 => exact (Kd.R_reads' HO_349001.out).2.1); (case side5 => repeat (first | exact (Kd.R_reads' HO_338000.out).2.2 | (with_reducible refine Kd.C_alloc ?_ _) | (with_reducible refine Kd.C_drewN ?_ _) | (with_reducible refine Kd.C_drew ?_))); (case side6 => exact (Kd.R_reads' HO_338000.out).2.1); (case side7 => repeat (first | exact (Kd.R_reads' HO_338001.out).2.2 | (with_reducible refine Kd.C_alloc ?_ _) | (with_reducible refine Kd.C_drewN ?_ _) | (with_reducible refine Kd.C_drew ?_))); (case side8 => exact (Kd.R_reads' HO_338001.out).2.1); rintro e w48 ⟨rfl, hb⟩; have n0_ := Aside0.mk (Kd.R_below (by (with_reducible repeat (first | apply Kd.R_alloc | apply Kd.R_drewN | apply Kd.R_drew)); exact HO_5.out) hb); have n1_ := Aside0.mk (Kd.R_below (by (with_reducible repeat (first | apply Kd.R_alloc | apply Kd.R_drewN | apply Kd.R_drew)); exact HO_338000.out) hb); have n2_ := Aside0.mk (Kd.R_below (by (with_reducible repeat (first | apply Kd.R_alloc | apply Kd.R_drewN | apply Kd.R_drew)); exact HO_338001.out) hb); have n3_ := Aside0.mk (Kd.R_below (by (with_reducible repeat (first | apply Kd.R_alloc | apply Kd.R_drewN | apply Kd.R_drew)); exact HO_349000.out) hb); have n4_ := Aside0.mk (Kd.R_below (by (with_reducible repeat (first | apply Kd.R_alloc | apply Kd.R_drewN | apply Kd.R_drew)); exact HO_349001.out) hb); have n5_ := Aside0.mk (Kd.R_below (by (with_reducible repeat (first | apply Kd.R_alloc | apply Kd.R_drewN | apply Kd.R_drew)); exact HO352.out) hb); have n6_ := Aside0.mk (blk_below (g := gb337) (o := .cells #[.slice Ao12 t330.length co12, .slice Ao14 t333.length co14] 28 (0, 0)) (by (with_reducible repeat (first | refine blk_drewN ?_ _ | refine blk_drew ?_ | refine blk_alloc ?_ _)); exact BK337.out) hb); have n7_ := Aside0.mk (blk_below (g := gb348) (o := .cells #[.slice Ao19 t341.length co19, .slice Ao22 t344.length co22] 28 (0, 0)) (by (with_reducible repeat (first | refine blk_drewN ?_ _ | refine blk_drew ?_ | refine blk_alloc ?_ _)); exact BK348.out) hb); have n8_ := Aside0.mk (below_step (by repeat (first | (with_reducible first | exact HB.out | apply below_alloc | apply pw_below_drewN | apply below_drew1 | refine below_set ?_ GE337.out | refine below_set ?_ GE348.out) | exact HB.out)) hb); clear HO_5; clear HO_338000; clear HO_338001; clear HO_349000; clear HO_349001; clear HO352; clear BK337; clear BK348; clear HB; have HO_5 := n0_; have HO_338000 := n1_; have HO_338001 := n2_; have HO_349000 := n3_; have HO_349001 := n4_; have HO352 := n5_; have BK337 := n6_; have BK348 := n7_; have HB := n8_; clear n0_ n1_ n2_ n3_ n4_ n5_ n6_ n7_ n8_; (try clear hb); (try clear hb2); (try clear hk); (try clear hi)))
                  go_meet
                  case rel => exact ⟨_, ((t347 != t336)), (by first | rfl | simp | simp [*]), H', ⟨by have := HJ6.out; first | omega | exact Nat.le_refl _⟩, ⟨by (with_reducible repeat (first | apply Kd.R_alloc | apply Kd.R_drewN | apply Kd.R_drew)); exact Kd.R_mono HO_338000.out (fun _ hk => ⟨hk.2.1, ⟨hk.2.2.1, hk.2.2.2.1⟩⟩)⟩, ⟨by (with_reducible repeat (first | apply Kd.R_alloc | apply Kd.R_drewN | apply Kd.R_drew)); exact Kd.R_mono HO_338001.out (fun _ hk => ⟨hk.2.1, ⟨hk.2.2.1, hk.2.2.2.1⟩⟩)⟩, ⟨by (with_reducible repeat (first | apply Kd.R_alloc | apply Kd.R_drewN | apply Kd.R_drew)); exact Kd.R_mono HO_349000.out (fun _ hk => ⟨hk.2.1, ⟨hk.2.2.1, hk.2.2.2.1⟩⟩)⟩, ⟨by (with_reducible repeat (first | apply Kd.R_alloc | apply Kd.R_drewN | apply Kd.R_drew)); exact Kd.R_mono HO_349001.out (fun _ hk => ⟨hk.2.1, ⟨hk.2.2.1, hk.2.2.2.1⟩⟩)⟩, ⟨by (with_reducible repeat (first | refine blk_drewN ?_ _ | refine blk_drew ?_ | refine blk_alloc ?_ _)); exact BK337.out⟩, ⟨by (with_reducible repeat (first | refine blk_drewN ?_ _ | refine blk_drew ?_ | refine blk_alloc ?_ _)); exact BK348.out⟩, ⟨by repeat (first | (with_reducible first | exact HB.out | apply below_alloc | apply pw_below_drewN | apply below_drew1 | refine below_set ?_ GE337.out | refine below_set ?_ GE348.out) | exact HB.out)⟩⟩
                · replace c44 := Bool.eq_false_iff.mpr c44
                  subst c44
                  have H1 : (laws_FnExactOpenToClosed.j1 kj6 l0 t336 true t330 t333 t341 t344) = some true := by rw [if_neg (show ¬ (false = true) by decide)] at H; first | done | exact H
                  clear H
                  have H := H1
                  clear H1
                  have H' := Aside0.mk H
                  clear H
                  have hnb49 := NB348_337.out
                  have hnc49 := NB337_348.out
                  have hcz50_0 : w41.cell? ⟨gb348, 0, none⟩ = some (.slice Ao19 t341.length co19) := (blk_cell BK348.out 0).trans rfl
                  have hcz50_1 : w41.cell? ⟨gb348, 1, none⟩ = some (.slice Ao22 t344.length co22) := (blk_cell BK348.out 1).trans rfl
                  have hfz50_0 := blk_frozen BK348.out 0
                  have hfz50_1 := blk_frozen BK348.out 1
                  have hcz51_0 : w41.cell? ⟨gb337, 0, none⟩ = some (.slice Ao12 t330.length co12) := (blk_cell BK337.out 0).trans rfl
                  have hcz51_1 : w41.cell? ⟨gb337, 1, none⟩ = some (.slice Ao14 t333.length co14) := (blk_cell BK337.out 1).trans rfl
                  have hfz51_0 := blk_frozen BK337.out 0
                  have hfz51_1 := blk_frozen BK337.out 1
                  go_wp2_with (first | (go_at_call 15; (with_reducible refine (laws_eqMeander.calls kj6 _ _ t341 _ _ t344 _ _ t330 _ _ t333 false _ ?side1 ?side2 ?side3 ?side4 ?side5 ?side6 ?side7 ?side8 A43.out).mono ?_); (case side1 => repeat (first | exact (Kd.R_reads' HO_349000.out).2.2 | (with_reducible refine Kd.C_alloc ?_ _) | (with_reducible refine Kd.C_drewN ?_ _) | (with_reducible refine Kd.C_drew ?_))); (case side2 => exact (Kd.R_reads' HO_349000.out).2.1); (case side3 => repeat (first | exact (Kd.R_reads' HO_349001.out).2.2 | (with_reducible refine Kd.C_alloc ?_ _) | (with_reducible refine Kd.C_drewN ?_ _) | (with_reducible refine Kd.C_drew ?_))); (case side4 => exact (Kd.R_reads' HO_349001.out).2.1); (case side5 => repeat (first | exact (Kd.R_reads' HO_338000.out).2.2 | (with_reducible refine Kd.C_alloc ?_ _) | (with_reducible refine Kd.C_drewN ?_ _) | (with_reducible refine Kd.C_drew ?_))); (case side6 => exact (Kd.R_reads' HO_338000.out).2.1); (case side7 => repeat (first | exact (Kd.R_reads' HO_338001.out).2.2 | (with_reducible refine Kd.C_alloc ?_ _) | (with_reducible refine Kd.C_drewN ?_ _) | (with_reducible refine Kd.C_drew ?_))); (case side8 => exact (Kd.R_reads' HO_338001.out).2.1); rintro e w52 ⟨rfl, hb⟩; have n0_ := Aside0.mk (Kd.R_below (by (with_reducible repeat (first | apply Kd.R_alloc | apply Kd.R_drewN | apply Kd.R_drew)); exact HO_5.out) hb); have n1_ := Aside0.mk (Kd.R_below (by (with_reducible repeat (first | apply Kd.R_alloc | apply Kd.R_drewN | apply Kd.R_drew)); exact HO_338000.out) hb); have n2_ := Aside0.mk (Kd.R_below (by (with_reducible repeat (first | apply Kd.R_alloc | apply Kd.R_drewN | apply Kd.R_drew)); exact HO_338001.out) hb); have n3_ := Aside0.mk (Kd.R_below (by (with_reducible repeat (first | apply Kd.R_alloc | apply Kd.R_drewN | apply Kd.R_drew)); exact HO_349000.out) hb); have n4_ := Aside0.mk (Kd.R_below (by (with_reducible repeat (first | apply Kd.R_alloc | apply Kd.R_drewN | apply Kd.R_drew)); exact HO_349001.out) hb); have n5_ := Aside0.mk (Kd.R_below (by (with_reducible repeat (first | apply Kd.R_alloc | apply Kd.R_drewN | apply Kd.R_drew)); exact HO352.out) hb); have n6_ := Aside0.mk (blk_below (g := gb337) (o := .cells #[.slice Ao12 t330.length co12, .slice Ao14 t333.length co14] 28 (0, 0)) (by (with_reducible repeat (first | refine blk_drewN ?_ _ | refine blk_drew ?_ | refine blk_alloc ?_ _)); exact BK337.out) hb); have n7_ := Aside0.mk (blk_below (g := gb348) (o := .cells #[.slice Ao19 t341.length co19, .slice Ao22 t344.length co22] 28 (0, 0)) (by (with_reducible repeat (first | refine blk_drewN ?_ _ | refine blk_drew ?_ | refine blk_alloc ?_ _)); exact BK348.out) hb); have n8_ := Aside0.mk (below_step (by repeat (first | (with_reducible first | exact HB.out | apply below_alloc | apply pw_below_drewN | apply below_drew1 | refine below_set ?_ GE337.out | refine below_set ?_ GE348.out) | exact HB.out)) hb); clear HO_5; clear HO_338000; clear HO_338001; clear HO_349000; clear HO_349001; clear HO352; clear BK337; clear BK348; clear HB; have HO_5 := n0_; have HO_338000 := n1_; have HO_338001 := n2_; have HO_349000 := n3_; have HO_349001 := n4_; have HO352 := n5_; have BK337 := n6_; have BK348 := n7_; have HB := n8_; clear n0_ n1_ n2_ n3_ n4_ n5_ n6_ n7_ n8_; (try clear hb); (try clear hb2); (try clear hk); (try clear hi)))
                  go_meet
                  case rel => exact ⟨_, (true), (by first | rfl | simp | simp [*]), H', ⟨by have := HJ6.out; first | omega | exact Nat.le_refl _⟩, ⟨by (with_reducible repeat (first | apply Kd.R_alloc | apply Kd.R_drewN | apply Kd.R_drew)); exact Kd.R_mono HO_338000.out (fun _ hk => ⟨hk.2.1, ⟨hk.2.2.1, hk.2.2.2.1⟩⟩)⟩, ⟨by (with_reducible repeat (first | apply Kd.R_alloc | apply Kd.R_drewN | apply Kd.R_drew)); exact Kd.R_mono HO_338001.out (fun _ hk => ⟨hk.2.1, ⟨hk.2.2.1, hk.2.2.2.1⟩⟩)⟩, ⟨by (with_reducible repeat (first | apply Kd.R_alloc | apply Kd.R_drewN | apply Kd.R_drew)); exact Kd.R_mono HO_349000.out (fun _ hk => ⟨hk.2.1, ⟨hk.2.2.1, hk.2.2.2.1⟩⟩)⟩, ⟨by (with_reducible repeat (first | apply Kd.R_alloc | apply Kd.R_drewN | apply Kd.R_drew)); exact Kd.R_mono HO_349001.out (fun _ hk => ⟨hk.2.1, ⟨hk.2.2.1, hk.2.2.2.1⟩⟩)⟩, ⟨by (with_reducible repeat (first | refine blk_drewN ?_ _ | refine blk_drew ?_ | refine blk_alloc ?_ _)); exact BK337.out⟩, ⟨by (with_reducible repeat (first | refine blk_drewN ?_ _ | refine blk_drew ?_ | refine blk_alloc ?_ _)); exact BK348.out⟩, ⟨by repeat (first | (with_reducible first | exact HB.out | apply below_alloc | apply pw_below_drewN | apply below_drew1 | refine below_set ?_ GE337.out | refine below_set ?_ GE348.out) | exact HB.out)⟩⟩
            case rest =>
              clear HC38
              try clear c1
              try clear c2
              try clear c2b0
              try clear c2b1
              try clear p2
              try clear c3
              try clear c4
              try clear c6
              try clear c14
              try clear c15
              try clear c17
              try clear c20
              try clear c24
              try clear c25
              try clear c28
              try clear c29
              try clear c33
              try clear c36
              try clear c42
              try clear c42b0
              try clear c44
              try clear c45
              try clear c49
              try clear hcz13_0
              try clear hcz13_1
              try clear hcz21_0
              try clear hcz21_1
              try clear hcz26_0
              try clear hcz26_1
              try clear hcz27_0
              try clear hcz27_1
              try clear hcz30_0
              try clear hcz30_1
              try clear hcz31_0
              try clear hcz31_1
              try clear hcz46_0
              try clear hcz46_1
              try clear hcz47_0
              try clear hcz47_1
              try clear hcz50_0
              try clear hcz50_1
              try clear hcz51_0
              try clear hcz51_1
              try clear hfz13_0
              try clear hfz13_1
              try clear hfz21_0
              try clear hfz21_1
              try clear hfz26_0
              try clear hfz26_1
              try clear hfz27_0
              try clear hfz27_1
              try clear hfz30_0
              try clear hfz30_1
              try clear hfz31_0
              try clear hfz31_1
              try clear hfz46_0
              try clear hfz46_1
              try clear hfz47_0
              try clear hfz47_1
              try clear hfz50_0
              try clear hfz50_1
              try clear hfz51_0
              try clear hfz51_1
              try clear p2
              obtain ⟨kq, x58_37, rfl, HA, HJ37, HO_338000, HO_338001, HO_349000, HO_349001, BK337, BK348, HB⟩ := hcut
              cases kq with
              | zero => exact absurd HA.out (by simp [laws_FnExactOpenToClosed.j1])
              | succ kj37 =>
                have H := HA.out
                clear HA
                simp only [laws_FnExactOpenToClosed.j1] at H
                by_cases c53 : x58_37 = true
                · subst c53
                  have H1 : (some false) = some true := by rw [if_pos rfl] at H; first | done | exact H
                  clear H
                  have H := H1
                  clear H1
                  exact absurd H (by simp)
                · replace c53 := Bool.eq_false_iff.mpr c53
                  subst c53
                  have H1 : ((laws_markMeander.f kj37 t341 t344 1).bind fun bt357 => ((laws_heldMeander.f kj37 bt357.2.1 bt357.2.2 1).bind fun t360 => (if t360 < 0 then (some false) else (if t360 = bt357.1 then ((laws_toIntS.f kj37 l0).bind fun t361 => ((impl_OpenToClosed.f kj37 t361).bind fun bt364 => ((laws_eqMeander.f kj37 bt364.1 bt364.2.1 t330 t333).bind fun t372 => (if t372 = true then (laws_FnExactOpenToClosed.j2 kj37 bt357.1 (bt364.2.2 != t336) bt357.2.1 bt357.2.2) else (laws_FnExactOpenToClosed.j2 kj37 bt357.1 true bt357.2.1 bt357.2.2))))) else (some false))))) = some true := by rw [if_neg (show ¬ (false = true) by decide)] at H; first | done | exact H
                  clear H
                  have H := H1
                  clear H1
                  replace H := Option.bind_eq_some_iff.mp H
                  obtain ⟨⟨t357, t358, t359⟩, A540, H⟩ := H
                  replace H : ((laws_heldMeander.f kj37 t358 t359 1).bind fun t360 => (if t360 < 0 then (some false) else (if t360 = t357 then ((laws_toIntS.f kj37 l0).bind fun t361 => ((impl_OpenToClosed.f kj37 t361).bind fun bt364 => ((laws_eqMeander.f kj37 bt364.1 bt364.2.1 t330 t333).bind fun t372 => (if t372 = true then (laws_FnExactOpenToClosed.j2 kj37 t357 (bt364.2.2 != t336) t358 t359) else (laws_FnExactOpenToClosed.j2 kj37 t357 true t358 t359))))) else (some false)))) = some true := H
                  have A54 := Aside0.mk A540
                  clear A540
                  replace H := Option.bind_eq_some_iff.mp H
                  obtain ⟨t360, A550, H⟩ := H
                  replace H : (if t360 < 0 then (some false) else (if t360 = t357 then ((laws_toIntS.f kj37 l0).bind fun t361 => ((impl_OpenToClosed.f kj37 t361).bind fun bt364 => ((laws_eqMeander.f kj37 bt364.1 bt364.2.1 t330 t333).bind fun t372 => (if t372 = true then (laws_FnExactOpenToClosed.j2 kj37 t357 (bt364.2.2 != t336) t358 t359) else (laws_FnExactOpenToClosed.j2 kj37 t357 true t358 t359))))) else (some false))) = some true := H
                  have A55 := Aside0.mk A550
                  clear A550
                  by_cases c56 : t360 < 0
                  · rw [if_pos c56] at H
                    have c56b0 : decide (t360 < 0) = true := decide_eq_true c56
                    clear c56
                    exact absurd H (by simp)
                  · rw [if_neg c56] at H
                    have c56b0 : decide (t360 < 0) = false := decide_eq_false c56
                    clear c56
                    by_cases c57 : t360 = t357
                    · rw [if_pos c57] at H
                      have c57b0 : (t360 == t357) = true := beq_iff_eq.mpr c57
                      have c57b1 : (t360 != t357) = false := bne_eq_false_iff_eq.mpr c57
                      clear c57
                      replace H := Option.bind_eq_some_iff.mp H
                      obtain ⟨t361, A580, H⟩ := H
                      replace H : ((impl_OpenToClosed.f kj37 t361).bind fun bt364 => ((laws_eqMeander.f kj37 bt364.1 bt364.2.1 t330 t333).bind fun t372 => (if t372 = true then (laws_FnExactOpenToClosed.j2 kj37 t357 (bt364.2.2 != t336) t358 t359) else (laws_FnExactOpenToClosed.j2 kj37 t357 true t358 t359)))) = some true := H
                      have A58 := Aside0.mk A580
                      clear A580
                      replace H := Option.bind_eq_some_iff.mp H
                      obtain ⟨⟨t364, t367, t370⟩, A590, H⟩ := H
                      replace H : ((laws_eqMeander.f kj37 t364 t367 t330 t333).bind fun t372 => (if t372 = true then (laws_FnExactOpenToClosed.j2 kj37 t357 (t370 != t336) t358 t359) else (laws_FnExactOpenToClosed.j2 kj37 t357 true t358 t359))) = some true := H
                      have A59 := Aside0.mk A590
                      clear A590
                      have HC60 := Aside0.mk H
                      clear H
                      have hnb61 := NB348_337.out
                      have hnc61 := NB337_348.out
                      have hcz62_0 : wc.cell? ⟨gb348, 0, none⟩ = some (.slice Ao19 t341.length co19) := (blk_cell BK348.out 0).trans rfl
                      have hcz62_1 : wc.cell? ⟨gb348, 1, none⟩ = some (.slice Ao22 t344.length co22) := (blk_cell BK348.out 1).trans rfl
                      have hfz62_0 := blk_frozen BK348.out 0
                      have hfz62_1 := blk_frozen BK348.out 1
                      go_upto_region 23 with (first | ((with_reducible refine gate_callee (f := 16) rfl ?_); refine goesL_ (some 61) rfl rfl Try.func16 (by kernel_rfl) rfl #[.agg #[.slice Ao19 t341.length co19, .slice Ao22 t344.length co22], .int .i64 1] rfl (by (try simp only [List.map_toArray, List.map_cons, List.map_nil]); first | done | rfl) ?_; (with_reducible refine (laws_markMeander.calls kj37 (fun k_ => some k_ = (.slice Ao19 t341.length co19 : Value).ownBlock) (.slice Ao19 t341.length co19) t341 (fun k_ => some k_ = (.slice Ao22 t344.length co22 : Value).ownBlock) (.slice Ao22 t344.length co22) t344 1 t357 t358 t359 w _ ?side1 ?side2 ?side3 ?side4 ?side5 A54.out).mono ?_); (case side1 => repeat (first | (with_reducible first | exact HB.out | apply below_alloc | apply pw_below_drewN | apply below_drew1 | refine below_set ?_ GE337.out | refine below_set ?_ GE348.out) | exact HB.out)); (case side2 => exact Kd.R_tight rfl HO_349000.out); (case side3 => exact fun k_ e_ => (HO_349000.out.1 k_ e_.symm).2.2); (case side4 => exact Kd.R_tight rfl HO_349001.out); (case side5 => exact fun k_ e_ => (HO_349001.out.1 k_ e_.symm).2.2); rintro e w63 ⟨rfl, hy0, hy1, hb, hkp⟩; refine ⟨_, rfl, ?_⟩; have n0_ := Aside0.mk (Kd.R_mono (ok' := fun k_ => some k_ ≠ (.slice Ao14 t333.length co14 : Value).ownBlock ∧ some k_ ≠ (.slice Ao19 t341.length co19 : Value).ownBlock ∧ some k_ ≠ (.slice Ao22 t344.length co22 : Value).ownBlock) (Kd.R_keptB (HO_338000.out) hkp (fun k_ hk_ hs_ => Or.elim hs_ (fun e_ => (hk_.2.1) e_) (fun e_ => (hk_.2.2) e_))) (fun k_ hk_ => ⟨hk_.1.1, hk_.1.2.1, hk_.1.2.2⟩)); have n1_ := Aside0.mk (Kd.R_mono (ok' := fun k_ => some k_ ≠ (.slice Ao12 t330.length co12 : Value).ownBlock ∧ some k_ ≠ (.slice Ao19 t341.length co19 : Value).ownBlock ∧ some k_ ≠ (.slice Ao22 t344.length co22 : Value).ownBlock) (Kd.R_keptB (HO_338001.out) hkp (fun k_ hk_ hs_ => Or.elim hs_ (fun e_ => (hk_.2.1) e_) (fun e_ => (hk_.2.2) e_))) (fun k_ hk_ => ⟨hk_.1.1, hk_.1.2.1, hk_.1.2.2⟩)); have n2_ := Aside0.mk (Kd.R_reok rfl hy0 (fun k_ e_ => HO_349000.out.1 k_ e_)); have n3_ := Aside0.mk (Kd.R_reok rfl hy1 (fun k_ e_ => HO_349001.out.1 k_ e_)); have n4_ := Aside0.mk (blk_kept (by (with_reducible repeat (first | refine blk_drewN ?_ _ | refine blk_drew ?_ | refine blk_alloc ?_ _)); exact BK337.out) hkp (fun hs_ => Or.elim hs_ (fun e_ => (fun e_ => (Kd.R_ne HO_349000.out BK337.out (by decide)) e_) e_) (fun e_ => (fun e_ => (Kd.R_ne HO_349001.out BK337.out (by decide)) e_) e_))); have n5_ := Aside0.mk (blk_kept (by (with_reducible repeat (first | refine blk_drewN ?_ _ | refine blk_drew ?_ | refine blk_alloc ?_ _)); exact BK348.out) hkp (fun hs_ => Or.elim hs_ (fun e_ => (fun e_ => (Kd.R_ne HO_349000.out BK348.out (by decide)) e_) e_) (fun e_ => (fun e_ => (Kd.R_ne HO_349001.out BK348.out (by decide)) e_) e_))); have n6_ := Aside0.mk (hb); clear HO_338000; clear HO_338001; clear HO_349000; clear HO_349001; clear BK337; clear BK348; clear HB; have HO_338000 := n0_; have HO_338001 := n1_; have HO_349000 := n2_; have HO_349001 := n3_; have BK337 := n4_; have BK348 := n5_; have HB := n6_; clear n0_ n1_ n2_ n3_ n4_ n5_ n6_; (try clear hb); (try clear hkp); (try clear hy0); (try clear hy1); have hcz64_0 : w63.cell? ⟨gb348, 0, none⟩ = some (.slice Ao19 t341.length co19) := (blk_cell BK348.out 0).trans rfl; have hcz64_1 : w63.cell? ⟨gb348, 1, none⟩ = some (.slice Ao22 t344.length co22) := (blk_cell BK348.out 1).trans rfl; have hfz64_0 := blk_frozen BK348.out 0; have hfz64_1 := blk_frozen BK348.out 1) | ((with_reducible refine gate_callee (f := 27) rfl ?_); refine goesL_ (some 64) rfl rfl Try.func27 (by kernel_rfl) rfl #[.agg #[.slice Ao19 t358.length co19, .slice Ao22 t359.length co22], .int .i64 1] rfl (by (try simp only [List.map_toArray, List.map_cons, List.map_nil]); first | done | (rw [show t358.length = t341.length from (Kd.R_reads' HO_349000.out).1.symm, show t359.length = t344.length from (Kd.R_reads' HO_349001.out).1.symm] <;> rfl) | rfl | (simp only [List.length_drop, List.length_take]; rfl)) ?_; (with_reducible refine (laws_heldMeander.calls kj37 _ _ t358 _ _ t359 1 t360 _ ?side1 ?side2 ?side3 ?side4 A55.out).mono ?_); (case side1 => repeat (first | exact (Kd.R_reads' HO_349000.out).2.2 | (with_reducible refine Kd.C_alloc ?_ _) | (with_reducible refine Kd.C_drewN ?_ _) | (with_reducible refine Kd.C_drew ?_))); (case side2 => rw [show t358.length = t341.length from (Kd.R_reads' HO_349000.out).1.symm]; exact (Kd.R_reads' HO_349000.out).2.1); (case side3 => repeat (first | exact (Kd.R_reads' HO_349001.out).2.2 | (with_reducible refine Kd.C_alloc ?_ _) | (with_reducible refine Kd.C_drewN ?_ _) | (with_reducible refine Kd.C_drew ?_))); (case side4 => rw [show t359.length = t344.length from (Kd.R_reads' HO_349001.out).1.symm]; exact (Kd.R_reads' HO_349001.out).2.1); rintro e w65 ⟨rfl, hb⟩; refine ⟨_, rfl, ?_⟩; have n0_ := Aside0.mk (Kd.R_below (by (with_reducible repeat (first | apply Kd.R_alloc | apply Kd.R_drewN | apply Kd.R_drew)); exact HO_338000.out) hb); have n1_ := Aside0.mk (Kd.R_below (by (with_reducible repeat (first | apply Kd.R_alloc | apply Kd.R_drewN | apply Kd.R_drew)); exact HO_338001.out) hb); have n2_ := Aside0.mk (Kd.R_below (by (with_reducible repeat (first | apply Kd.R_alloc | apply Kd.R_drewN | apply Kd.R_drew)); exact HO_349000.out) hb); have n3_ := Aside0.mk (Kd.R_below (by (with_reducible repeat (first | apply Kd.R_alloc | apply Kd.R_drewN | apply Kd.R_drew)); exact HO_349001.out) hb); have n4_ := Aside0.mk (blk_below (g := gb337) (o := .cells #[.slice Ao12 t330.length co12, .slice Ao14 t333.length co14] 28 (0, 0)) (by (with_reducible repeat (first | refine blk_drewN ?_ _ | refine blk_drew ?_ | refine blk_alloc ?_ _)); exact BK337.out) hb); have n5_ := Aside0.mk (blk_below (g := gb348) (o := .cells #[.slice Ao19 t341.length co19, .slice Ao22 t344.length co22] 28 (0, 0)) (by (with_reducible repeat (first | refine blk_drewN ?_ _ | refine blk_drew ?_ | refine blk_alloc ?_ _)); exact BK348.out) hb); have n6_ := Aside0.mk (below_step (by repeat (first | (with_reducible first | exact HB.out | apply below_alloc | apply pw_below_drewN | apply below_drew1 | refine below_set ?_ GE337.out | refine below_set ?_ GE348.out) | exact HB.out)) hb); clear HO_338000; clear HO_338001; clear HO_349000; clear HO_349001; clear BK337; clear BK348; clear HB; have HO_338000 := n0_; have HO_338001 := n1_; have HO_349000 := n2_; have HO_349001 := n3_; have BK337 := n4_; have BK348 := n5_; have HB := n6_; clear n0_ n1_ n2_ n3_ n4_ n5_ n6_; (try clear hb); (try clear hb2); (try clear hk); (try clear hi)) | ((with_reducible refine gate_callee (f := 25) rfl ?_); refine goesL_ (some 72) rfl rfl Try.func25 (by kernel_rfl) rfl #[.slice A0 l0.length c0] rfl (by (try simp only [List.map_toArray, List.map_cons, List.map_nil]); first | done | rfl) ?_; (with_reducible refine (laws_toIntS.calls kj37 _ _ l0 t361 _ ?side1 ?side2 A58.out).mono ?_); (case side1 => repeat (first | exact (Kd.C_below HR0.out HB.out) | (with_reducible refine Kd.C_alloc ?_ _) | (with_reducible refine Kd.C_drewN ?_ _) | (with_reducible refine Kd.C_drew ?_))); (case side2 => exact HC0.out); rintro e w66 ⟨v362, rfl, ho0, hb⟩; refine ⟨_, rfl, ?_⟩; have n0_ := Aside0.mk (Kd.R_elder' (by (with_reducible repeat (first | apply Kd.R_alloc | apply Kd.R_drewN | apply Kd.R_drew)); exact HO_338000.out) (Kd.R_base ho0) hb); have n1_ := Aside0.mk (Kd.R_elder' (by (with_reducible repeat (first | apply Kd.R_alloc | apply Kd.R_drewN | apply Kd.R_drew)); exact HO_338001.out) (Kd.R_base ho0) hb); have n2_ := Aside0.mk (Kd.R_elder' (by (with_reducible repeat (first | apply Kd.R_alloc | apply Kd.R_drewN | apply Kd.R_drew)); exact HO_349000.out) (Kd.R_base ho0) hb); have n3_ := Aside0.mk (Kd.R_elder' (by (with_reducible repeat (first | apply Kd.R_alloc | apply Kd.R_drewN | apply Kd.R_drew)); exact HO_349001.out) (Kd.R_base ho0) hb); have n4_ := Aside0.mk (Kd.R_lower (Kd.R_new' (Kd.R_new' (Kd.R_new' (Kd.R_new' ho0 (Kd.R_lt (by (with_reducible repeat (first | apply Kd.R_alloc | apply Kd.R_drewN | apply Kd.R_drew)); exact HO_338000.out))) (Kd.R_lt (by (with_reducible repeat (first | apply Kd.R_alloc | apply Kd.R_drewN | apply Kd.R_drew)); exact HO_338001.out))) (Kd.R_lt (by (with_reducible repeat (first | apply Kd.R_alloc | apply Kd.R_drewN | apply Kd.R_drew)); exact HO_349000.out))) (Kd.R_lt (by (with_reducible repeat (first | apply Kd.R_alloc | apply Kd.R_drewN | apply Kd.R_drew)); exact HO_349001.out))) (below_size (by repeat (first | (with_reducible first | exact HB.out | apply below_alloc | apply pw_below_drewN | apply below_drew1 | refine below_set ?_ GE337.out | refine below_set ?_ GE348.out) | exact HB.out)))); have n5_ := Aside0.mk (blk_below (g := gb337) (o := .cells #[.slice Ao12 t330.length co12, .slice Ao14 t333.length co14] 28 (0, 0)) (by (with_reducible repeat (first | refine blk_drewN ?_ _ | refine blk_drew ?_ | refine blk_alloc ?_ _)); exact BK337.out) hb); have n6_ := Aside0.mk (blk_below (g := gb348) (o := .cells #[.slice Ao19 t341.length co19, .slice Ao22 t344.length co22] 28 (0, 0)) (by (with_reducible repeat (first | refine blk_drewN ?_ _ | refine blk_drew ?_ | refine blk_alloc ?_ _)); exact BK348.out) hb); have n7_ := Aside0.mk (below_step (by repeat (first | (with_reducible first | exact HB.out | apply below_alloc | apply pw_below_drewN | apply below_drew1 | refine below_set ?_ GE337.out | refine below_set ?_ GE348.out) | exact HB.out)) hb); clear HO_338000; clear HO_338001; clear HO_349000; clear HO_349001; clear BK337; clear BK348; clear HB; have HO_338000 := n0_; have HO_338001 := n1_; have HO_349000 := n2_; have HO_349001 := n3_; have HO363 := n4_; have BK337 := n5_; have BK348 := n6_; have HB := n7_; clear n0_ n1_ n2_ n3_ n4_ n5_ n6_ n7_; (try clear hb); (try clear hb2); (try clear hk); (try clear hi); (try clear ho0); obtain ⟨Ao67, co67, eo67⟩ := Kd.R_slice HO363.out; subst eo67) | ((with_reducible refine gate_callee (f := 29) rfl ?_); refine goesL_ (some 73) rfl rfl Try.func29 (by kernel_rfl) rfl #[.slice Ao67 t361.length co67] rfl (by (try simp only [List.map_toArray, List.map_cons, List.map_nil]); first | done | rfl) ?_; (with_reducible refine (impl_OpenToClosed.calls kj37 _ _ t361 t364 t367 t370 _ ?side1 ?side2 A59.out).mono ?_); (case side1 => repeat (first | exact (Kd.R_reads' HO363.out).2.2 | (with_reducible refine Kd.C_alloc ?_ _) | (with_reducible refine Kd.C_drewN ?_ _) | (with_reducible refine Kd.C_drew ?_))); (case side2 => exact (Kd.R_reads' HO363.out).2.1); rintro e w68 ⟨v365, v368, rfl, ho0, ho1, hb⟩; refine ⟨_, rfl, ?_⟩; have n0_ := Aside0.mk (Kd.R_mono (Kd.R_told (Kd.R_told (Kd.R_old (by (with_reducible repeat (first | apply Kd.R_alloc | apply Kd.R_drewN | apply Kd.R_drew)); exact HO_338000.out) hb) (Kd.R_base ho0)) (Kd.R_base ho1)) (fun _ h_ => h_.1)); have n1_ := Aside0.mk (Kd.R_mono (Kd.R_told (Kd.R_told (Kd.R_old (by (with_reducible repeat (first | apply Kd.R_alloc | apply Kd.R_drewN | apply Kd.R_drew)); exact HO_338001.out) hb) (Kd.R_base ho0)) (Kd.R_base ho1)) (fun _ h_ => h_.1)); have n2_ := Aside0.mk (Kd.R_mono (Kd.R_told (Kd.R_told (Kd.R_old (by (with_reducible repeat (first | apply Kd.R_alloc | apply Kd.R_drewN | apply Kd.R_drew)); exact HO_349000.out) hb) (Kd.R_base ho0)) (Kd.R_base ho1)) (fun _ h_ => h_.1)); have n3_ := Aside0.mk (Kd.R_mono (Kd.R_told (Kd.R_told (Kd.R_old (by (with_reducible repeat (first | apply Kd.R_alloc | apply Kd.R_drewN | apply Kd.R_drew)); exact HO_349001.out) hb) (Kd.R_base ho0)) (Kd.R_base ho1)) (fun _ h_ => h_.1)); have n4_ := Aside0.mk (Kd.R_mono (Kd.R_told (Kd.R_told (Kd.R_old (by (with_reducible repeat (first | apply Kd.R_alloc | apply Kd.R_drewN | apply Kd.R_drew)); exact HO363.out) hb) (Kd.R_base ho0)) (Kd.R_base ho1)) (fun _ h_ => h_.1)); have n5_ := Aside0.mk (Kd.R_lower (Kd.R_new' (Kd.R_new' (Kd.R_new' (Kd.R_new' (Kd.R_new' ho0 (Kd.R_lt (by (with_reducible repeat (first | apply Kd.R_alloc | apply Kd.R_drewN | apply Kd.R_drew)); exact HO_338000.out))) (Kd.R_lt (by (with_reducible repeat (first | apply Kd.R_alloc | apply Kd.R_drewN | apply Kd.R_drew)); exact HO_338001.out))) (Kd.R_lt (by (with_reducible repeat (first | apply Kd.R_alloc | apply Kd.R_drewN | apply Kd.R_drew)); exact HO_349000.out))) (Kd.R_lt (by (with_reducible repeat (first | apply Kd.R_alloc | apply Kd.R_drewN | apply Kd.R_drew)); exact HO_349001.out))) (Kd.R_lt (by (with_reducible repeat (first | apply Kd.R_alloc | apply Kd.R_drewN | apply Kd.R_drew)); exact HO363.out))) (below_size (by repeat (first | (with_reducible first | exact HB.out | apply below_alloc | apply pw_below_drewN | apply below_drew1 | refine below_set ?_ GE337.out | refine below_set ?_ GE348.out) | exact HB.out)))); have n6_ := Aside0.mk (Kd.R_lower (Kd.R_new' (Kd.R_new' (Kd.R_new' (Kd.R_new' (Kd.R_new' ho1 (Kd.R_lt (by (with_reducible repeat (first | apply Kd.R_alloc | apply Kd.R_drewN | apply Kd.R_drew)); exact HO_338000.out))) (Kd.R_lt (by (with_reducible repeat (first | apply Kd.R_alloc | apply Kd.R_drewN | apply Kd.R_drew)); exact HO_338001.out))) (Kd.R_lt (by (with_reducible repeat (first | apply Kd.R_alloc | apply Kd.R_drewN | apply Kd.R_drew)); exact HO_349000.out))) (Kd.R_lt (by (with_reducible repeat (first | apply Kd.R_alloc | apply Kd.R_drewN | apply Kd.R_drew)); exact HO_349001.out))) (Kd.R_lt (by (with_reducible repeat (first | apply Kd.R_alloc | apply Kd.R_drewN | apply Kd.R_drew)); exact HO363.out))) (below_size (by repeat (first | (with_reducible first | exact HB.out | apply below_alloc | apply pw_below_drewN | apply below_drew1 | refine below_set ?_ GE337.out | refine below_set ?_ GE348.out) | exact HB.out)))); have n7_ := Aside0.mk (blk_below (g := gb337) (o := .cells #[.slice Ao12 t330.length co12, .slice Ao14 t333.length co14] 28 (0, 0)) (by (with_reducible repeat (first | refine blk_drewN ?_ _ | refine blk_drew ?_ | refine blk_alloc ?_ _)); exact BK337.out) hb); have n8_ := Aside0.mk (blk_below (g := gb348) (o := .cells #[.slice Ao19 t341.length co19, .slice Ao22 t344.length co22] 28 (0, 0)) (by (with_reducible repeat (first | refine blk_drewN ?_ _ | refine blk_drew ?_ | refine blk_alloc ?_ _)); exact BK348.out) hb); have n9_ := Aside0.mk (below_step (by repeat (first | (with_reducible first | exact HB.out | apply below_alloc | apply pw_below_drewN | apply below_drew1 | refine below_set ?_ GE337.out | refine below_set ?_ GE348.out) | exact HB.out)) hb); clear HO_338000; clear HO_338001; clear HO_349000; clear HO_349001; clear HO363; clear BK337; clear BK348; clear HB; have HO_338000 := n0_; have HO_338001 := n1_; have HO_349000 := n2_; have HO_349001 := n3_; have HO363 := n4_; have HO366 := n5_; have HO369 := n6_; have BK337 := n7_; have BK348 := n8_; have HB := n9_; clear n0_ n1_ n2_ n3_ n4_ n5_ n6_ n7_ n8_ n9_; (try clear hb); (try clear hb2); (try clear hk); (try clear hi); (try clear ho0); (try clear ho1)) | ((with_reducible refine gate_dst (N := 11) rfl ?_); refine box_event ?hg (N := 11) ?hd (cs := #[.slice none 0 0, .slice none 0 0]) (t := 28) ?hr ?_; (case hd => rfl); (case hg => rfl); (case hr => first | (go_simp; done) | (go_simp; rfl)); intro gb371 hg w69 hbox hb; have n0_ := Aside0.mk (Kd.R_below (by (with_reducible repeat (first | apply Kd.R_alloc | apply Kd.R_drewN | apply Kd.R_drew)); exact HO_338000.out) hb); have n1_ := Aside0.mk (Kd.R_below (by (with_reducible repeat (first | apply Kd.R_alloc | apply Kd.R_drewN | apply Kd.R_drew)); exact HO_338001.out) hb); have n2_ := Aside0.mk (Kd.R_below (by (with_reducible repeat (first | apply Kd.R_alloc | apply Kd.R_drewN | apply Kd.R_drew)); exact HO_349000.out) hb); have n3_ := Aside0.mk (Kd.R_below (by (with_reducible repeat (first | apply Kd.R_alloc | apply Kd.R_drewN | apply Kd.R_drew)); exact HO_349001.out) hb); have n4_ := Aside0.mk (Kd.R_below (by (with_reducible repeat (first | apply Kd.R_alloc | apply Kd.R_drewN | apply Kd.R_drew)); exact HO363.out) hb); have n5_ := Aside0.mk (Kd.R_below (by (with_reducible repeat (first | apply Kd.R_alloc | apply Kd.R_drewN | apply Kd.R_drew)); exact HO366.out) hb); have n6_ := Aside0.mk (Kd.R_below (by (with_reducible repeat (first | apply Kd.R_alloc | apply Kd.R_drewN | apply Kd.R_drew)); exact HO369.out) hb); have n7_ := Aside0.mk (blk_below (g := gb337) (o := .cells #[.slice Ao12 t330.length co12, .slice Ao14 t333.length co14] 28 (0, 0)) (by (with_reducible repeat (first | refine blk_drewN ?_ _ | refine blk_drew ?_ | refine blk_alloc ?_ _)); exact BK337.out) hb); have n8_ := Aside0.mk (blk_below (g := gb348) (o := .cells #[.slice Ao19 t341.length co19, .slice Ao22 t344.length co22] 28 (0, 0)) (by (with_reducible repeat (first | refine blk_drewN ?_ _ | refine blk_drew ?_ | refine blk_alloc ?_ _)); exact BK348.out) hb); have n9_ := Aside0.mk (below_step (by repeat (first | (with_reducible first | exact HB.out | apply below_alloc | apply pw_below_drewN | apply below_drew1 | refine below_set ?_ GE337.out | refine below_set ?_ GE348.out) | exact HB.out)) hb); have n10_ := Aside0.mk (hbox); have n11_ := Aside0.mk ((by rw [hg]; exact (below_size (by repeat (first | (with_reducible first | exact HB.out | apply below_alloc | apply pw_below_drewN | apply below_drew1 | refine below_set ?_ GE337.out | refine below_set ?_ GE348.out) | exact HB.out))) : w.heap.size ≤ gb371)); have n12_ := Aside0.mk ((by rw [hg]; exact (below_size (by repeat (first | (with_reducible first | exact HB.out | apply below_alloc | apply pw_below_drewN | apply below_drew1 | refine below_set ?_ GE337.out | refine below_set ?_ GE348.out) | exact HB.out))) : w.heap.size ≤ gb371)); have n13_ := Aside0.mk ((by rw [hg]; exact Nat.ne_of_lt (blk_lt (g := gb337) (o := .cells #[.slice Ao12 t330.length co12, .slice Ao14 t333.length co14] 28 (0, 0)) (by (with_reducible repeat (first | refine blk_drewN ?_ _ | refine blk_drew ?_ | refine blk_alloc ?_ _)); exact BK337.out)) : gb337 ≠ gb371)); have n14_ := Aside0.mk ((by rw [hg]; exact Nat.ne_of_gt (blk_lt (g := gb337) (o := .cells #[.slice Ao12 t330.length co12, .slice Ao14 t333.length co14] 28 (0, 0)) (by (with_reducible repeat (first | refine blk_drewN ?_ _ | refine blk_drew ?_ | refine blk_alloc ?_ _)); exact BK337.out)) : gb371 ≠ gb337)); have n15_ := Aside0.mk ((by rw [hg]; exact Nat.ne_of_lt (blk_lt (g := gb348) (o := .cells #[.slice Ao19 t341.length co19, .slice Ao22 t344.length co22] 28 (0, 0)) (by (with_reducible repeat (first | refine blk_drewN ?_ _ | refine blk_drew ?_ | refine blk_alloc ?_ _)); exact BK348.out)) : gb348 ≠ gb371)); have n16_ := Aside0.mk ((by rw [hg]; exact Nat.ne_of_gt (blk_lt (g := gb348) (o := .cells #[.slice Ao19 t341.length co19, .slice Ao22 t344.length co22] 28 (0, 0)) (by (with_reducible repeat (first | refine blk_drewN ?_ _ | refine blk_drew ?_ | refine blk_alloc ?_ _)); exact BK348.out)) : gb371 ≠ gb348)); clear HO_338000; clear HO_338001; clear HO_349000; clear HO_349001; clear HO363; clear HO366; clear HO369; clear BK337; clear BK348; clear HB; have HO_338000 := n0_; have HO_338001 := n1_; have HO_349000 := n2_; have HO_349001 := n3_; have HO363 := n4_; have HO366 := n5_; have HO369 := n6_; have BK337 := n7_; have BK348 := n8_; have HB := n9_; have BK371 := n10_; have GW371 := n11_; have GE371 := n12_; have NB337_371 := n13_; have NB371_337 := n14_; have NB348_371 := n15_; have NB371_348 := n16_; clear n0_ n1_ n2_ n3_ n4_ n5_ n6_ n7_ n8_ n9_ n10_ n11_ n12_ n13_ n14_ n15_ n16_; clear hb hbox hg; obtain ⟨Ao70, co70, eo70⟩ := Kd.R_slice HO366.out; subst eo70; have hnb71 := NB371_337.out; have hnc71 := NB337_371.out; have hnb72 := NB371_348.out; have hnc72 := NB348_371.out; have hcz73_0 : w69.cell? ⟨gb371, 0, none⟩ = some (.slice none 0 0) := (blk_cell BK371.out 0).trans rfl; have hcz73_1 : w69.cell? ⟨gb371, 1, none⟩ = some (.slice none 0 0) := (blk_cell BK371.out 1).trans rfl; have hfz73_0 := blk_frozen BK371.out 0; have hfz73_1 := blk_frozen BK371.out 1; obtain ⟨Ao74, co74, eo74⟩ := Kd.R_slice HO369.out; subst eo74))
                      (try simp only [Act.put, List.setIfInBounds_toArray, List.set_cons_zero, List.set_cons_succ])
                      go_cut [84] (fun v84 wc => ∃ (kq : Nat) (x84_59 : Bool), v84 = .bool x84_59 ∧ Aside0 (laws_FnExactOpenToClosed.j2 kq t357 x84_59 t358 t359 = some true) ∧ Aside0 (kq ≤ kj37) ∧ Aside0 (Kd.R (Kd.int .i64) 3 wc w.heap.size (fun k_ => some k_ ≠ ((.slice Ao14 t333.length co14) : Value).ownBlock ∧ some k_ ≠ ((.slice Ao19 t341.length co19) : Value).ownBlock ∧ some k_ ≠ ((.slice Ao22 t344.length co22) : Value).ownBlock ∧ some k_ ≠ ((.slice Ao70 t364.length co70) : Value).ownBlock ∧ some k_ ≠ ((.slice Ao74 t367.length co74) : Value).ownBlock) (.slice Ao12 t330.length co12) t330) ∧ Aside0 (Kd.R (Kd.int .i64) 3 wc w.heap.size (fun k_ => some k_ ≠ ((.slice Ao12 t330.length co12) : Value).ownBlock ∧ some k_ ≠ ((.slice Ao19 t341.length co19) : Value).ownBlock ∧ some k_ ≠ ((.slice Ao22 t344.length co22) : Value).ownBlock ∧ some k_ ≠ ((.slice Ao70 t364.length co70) : Value).ownBlock ∧ some k_ ≠ ((.slice Ao74 t367.length co74) : Value).ownBlock) (.slice Ao14 t333.length co14) t333) ∧ Aside0 (Kd.R (Kd.int .i64) 3 wc w.heap.size (fun k_ => some k_ ≠ ((.slice Ao12 t330.length co12) : Value).ownBlock ∧ some k_ ≠ ((.slice Ao14 t333.length co14) : Value).ownBlock ∧ some k_ ≠ ((.slice Ao22 t344.length co22) : Value).ownBlock ∧ some k_ ≠ ((.slice Ao70 t364.length co70) : Value).ownBlock ∧ some k_ ≠ ((.slice Ao74 t367.length co74) : Value).ownBlock) (.slice Ao19 t341.length co19) t358) ∧ Aside0 (Kd.R (Kd.int .i64) 3 wc w.heap.size (fun k_ => some k_ ≠ ((.slice Ao12 t330.length co12) : Value).ownBlock ∧ some k_ ≠ ((.slice Ao14 t333.length co14) : Value).ownBlock ∧ some k_ ≠ ((.slice Ao19 t341.length co19) : Value).ownBlock ∧ some k_ ≠ ((.slice Ao70 t364.length co70) : Value).ownBlock ∧ some k_ ≠ ((.slice Ao74 t367.length co74) : Value).ownBlock) (.slice Ao22 t344.length co22) t359) ∧ Aside0 (Kd.R (Kd.int .i64) 3 wc w.heap.size (fun k_ => some k_ ≠ ((.slice Ao12 t330.length co12) : Value).ownBlock ∧ some k_ ≠ ((.slice Ao14 t333.length co14) : Value).ownBlock ∧ some k_ ≠ ((.slice Ao19 t341.length co19) : Value).ownBlock ∧ some k_ ≠ ((.slice Ao22 t344.length co22) : Value).ownBlock ∧ some k_ ≠ ((.slice Ao74 t367.length co74) : Value).ownBlock) (.slice Ao70 t364.length co70) t364) ∧ Aside0 (Kd.R (Kd.int .i64) 3 wc w.heap.size (fun k_ => some k_ ≠ ((.slice Ao12 t330.length co12) : Value).ownBlock ∧ some k_ ≠ ((.slice Ao14 t333.length co14) : Value).ownBlock ∧ some k_ ≠ ((.slice Ao19 t341.length co19) : Value).ownBlock ∧ some k_ ≠ ((.slice Ao22 t344.length co22) : Value).ownBlock ∧ some k_ ≠ ((.slice Ao70 t364.length co70) : Value).ownBlock) (.slice Ao74 t367.length co74) t367) ∧ Aside0 (wc.heap[gb337]? = some (.cells #[(.slice Ao12 t330.length co12), (.slice Ao14 t333.length co14)] 28 (0, 0))) ∧ Aside0 (wc.heap[gb348]? = some (.cells #[(.slice Ao19 t341.length co19), (.slice Ao22 t344.length co22)] 28 (0, 0))) ∧ Aside0 (wc.heap[gb371]? = some (.cells #[(.slice Ao70 t364.length co70), (.slice Ao74 t367.length co74)] 28 (0, 0))) ∧ Aside0 (Below w.heap.size w wc))
                      case first =>
                        have H := HC60.out
                        clear HC60
                        replace H := Option.bind_eq_some_iff.mp H
                        obtain ⟨t372, A750, H⟩ := H
                        replace H : (if t372 = true then (laws_FnExactOpenToClosed.j2 kj37 t357 (t370 != t336) t358 t359) else (laws_FnExactOpenToClosed.j2 kj37 t357 true t358 t359)) = some true := H
                        have A75 := Aside0.mk A750
                        clear A750
                        by_cases c76 : t372 = true
                        · subst c76
                          have H1 : (laws_FnExactOpenToClosed.j2 kj37 t357 (t370 != t336) t358 t359) = some true := by rw [if_pos rfl] at H; first | done | exact H
                          clear H
                          have H := H1
                          clear H1
                          have H' := Aside0.mk H
                          clear H
                          have hnb77 := NB371_337.out
                          have hnc77 := NB337_371.out
                          have hnb78 := NB371_348.out
                          have hnc78 := NB348_371.out
                          have hcz79_0 : w69.cell? ⟨gb371, 0, none⟩ = some (.slice none 0 0) := (blk_cell BK371.out 0).trans rfl
                          have hcz79_1 : w69.cell? ⟨gb371, 1, none⟩ = some (.slice none 0 0) := (blk_cell BK371.out 1).trans rfl
                          have hfz79_0 := blk_frozen BK371.out 0
                          have hfz79_1 := blk_frozen BK371.out 1
                          have hnb80 := NB337_348.out
                          have hnc80 := NB348_337.out
                          have hcz81_0 : w69.cell? ⟨gb337, 0, none⟩ = some (.slice Ao12 t330.length co12) := (blk_cell BK337.out 0).trans rfl
                          have hcz81_1 : w69.cell? ⟨gb337, 1, none⟩ = some (.slice Ao14 t333.length co14) := (blk_cell BK337.out 1).trans rfl
                          have hfz81_0 := blk_frozen BK337.out 0
                          have hfz81_1 := blk_frozen BK337.out 1
                          go_wp2_with (first | ((with_reducible refine gate_callee (f := 15) rfl ?_); refine goesL_ (some 78) rfl rfl Try.func15 (by kernel_rfl) rfl #[.agg #[.slice Ao70 t364.length co70, .slice Ao74 t367.length co74], .agg #[.slice Ao12 t330.length co12, .slice Ao14 t333.length co14]] rfl (by (try simp only [List.map_toArray, List.map_cons, List.map_nil]); first | done | rfl) ?_; (with_reducible refine (laws_eqMeander.calls kj37 _ _ t364 _ _ t367 _ _ t330 _ _ t333 true _ ?side1 ?side2 ?side3 ?side4 ?side5 ?side6 ?side7 ?side8 A75.out).mono ?_); (case side1 => refine (Kd.R_reads' (e := 3) (base := w.heap.size) (ok := fun k_ => (((((some k_ ≠ (.slice Ao74 t367.length co74 : Value).ownBlock ∧ some k_ ≠ (.slice Ao12 t330.length co12 : Value).ownBlock) ∧ some k_ ≠ (.slice Ao14 t333.length co14 : Value).ownBlock) ∧ some k_ ≠ (.slice Ao19 t341.length co19 : Value).ownBlock) ∧ some k_ ≠ (.slice Ao22 t344.length co22 : Value).ownBlock) ∧ some k_ ≠ (.slice Ao67 t361.length co67 : Value).ownBlock)) (n := t364.length) (c := co70) ?_).2.2; exact (by (with_reducible repeat (first | apply Kd.R_alloc | apply Kd.R_drewN | apply Kd.R_drew)); exact (Kd.R_mono (Kd.R_far (p := ⟨gb371, 1, none⟩) (Kd.R_far (p := ⟨gb371, 0, none⟩) (Kd.R_types HO366.out BK371.out (by decide)) (fun _ hk => hk.2) (.slice Ao70 t364.length co70)) (fun _ hk => hk.2) (.slice Ao74 t367.length co74)) (fun _ h_ => h_.1)))); (case side2 => exact (Kd.R_reads' HO366.out).2.1); (case side3 => refine (Kd.R_reads' (e := 3) (base := w.heap.size) (ok := fun k_ => (((((some k_ ≠ (.slice Ao70 t364.length co70 : Value).ownBlock ∧ some k_ ≠ (.slice Ao12 t330.length co12 : Value).ownBlock) ∧ some k_ ≠ (.slice Ao14 t333.length co14 : Value).ownBlock) ∧ some k_ ≠ (.slice Ao19 t341.length co19 : Value).ownBlock) ∧ some k_ ≠ (.slice Ao22 t344.length co22 : Value).ownBlock) ∧ some k_ ≠ (.slice Ao67 t361.length co67 : Value).ownBlock)) (n := t367.length) (c := co74) ?_).2.2; exact (by (with_reducible repeat (first | apply Kd.R_alloc | apply Kd.R_drewN | apply Kd.R_drew)); exact (Kd.R_mono (Kd.R_far (p := ⟨gb371, 1, none⟩) (Kd.R_far (p := ⟨gb371, 0, none⟩) (Kd.R_types HO369.out BK371.out (by decide)) (fun _ hk => hk.2) (.slice Ao70 t364.length co70)) (fun _ hk => hk.2) (.slice Ao74 t367.length co74)) (fun _ h_ => h_.1)))); (case side4 => exact (Kd.R_reads' HO369.out).2.1); (case side5 => refine (Kd.R_reads' (e := 3) (base := w.heap.size) (ok := fun k_ => ((((some k_ ≠ (.slice Ao14 t333.length co14 : Value).ownBlock ∧ (some k_ ≠ (.slice Ao19 t341.length co19 : Value).ownBlock ∧ some k_ ≠ (.slice Ao22 t344.length co22 : Value).ownBlock)) ∧ some k_ ≠ (.slice Ao67 t361.length co67 : Value).ownBlock) ∧ some k_ ≠ (.slice Ao70 t364.length co70 : Value).ownBlock) ∧ some k_ ≠ (.slice Ao74 t367.length co74 : Value).ownBlock)) (n := t330.length) (c := co12) ?_).2.2; exact (by (with_reducible repeat (first | apply Kd.R_alloc | apply Kd.R_drewN | apply Kd.R_drew)); exact (Kd.R_mono (Kd.R_far (p := ⟨gb371, 1, none⟩) (Kd.R_far (p := ⟨gb371, 0, none⟩) (Kd.R_types HO_338000.out BK371.out (by decide)) (fun _ hk => hk.2) (.slice Ao70 t364.length co70)) (fun _ hk => hk.2) (.slice Ao74 t367.length co74)) (fun _ h_ => h_.1)))); (case side6 => exact (Kd.R_reads' HO_338000.out).2.1); (case side7 => refine (Kd.R_reads' (e := 3) (base := w.heap.size) (ok := fun k_ => ((((some k_ ≠ (.slice Ao12 t330.length co12 : Value).ownBlock ∧ (some k_ ≠ (.slice Ao19 t341.length co19 : Value).ownBlock ∧ some k_ ≠ (.slice Ao22 t344.length co22 : Value).ownBlock)) ∧ some k_ ≠ (.slice Ao67 t361.length co67 : Value).ownBlock) ∧ some k_ ≠ (.slice Ao70 t364.length co70 : Value).ownBlock) ∧ some k_ ≠ (.slice Ao74 t367.length co74 : Value).ownBlock)) (n := t333.length) (c := co14) ?_).2.2; exact (by (with_reducible repeat (first | apply Kd.R_alloc | apply Kd.R_drewN | apply Kd.R_drew)); exact (Kd.R_mono (Kd.R_far (p := ⟨gb371, 1, none⟩) (Kd.R_far (p := ⟨gb371, 0, none⟩) (Kd.R_types HO_338001.out BK371.out (by decide)) (fun _ hk => hk.2) (.slice Ao70 t364.length co70)) (fun _ hk => hk.2) (.slice Ao74 t367.length co74)) (fun _ h_ => h_.1)))); (case side8 => exact (Kd.R_reads' HO_338001.out).2.1); rintro e w82 ⟨rfl, hb⟩; refine ⟨_, rfl, ?_⟩; have n0_ := Aside0.mk (Kd.R_below (by (with_reducible repeat (first | apply Kd.R_alloc | apply Kd.R_drewN | apply Kd.R_drew)); exact (Kd.R_mono (Kd.R_far (p := ⟨gb371, 1, none⟩) (Kd.R_far (p := ⟨gb371, 0, none⟩) (Kd.R_types HO_338000.out BK371.out (by decide)) (fun _ hk => hk.2) (.slice Ao70 t364.length co70)) (fun _ hk => hk.2) (.slice Ao74 t367.length co74)) (fun _ h_ => h_.1))) hb); have n1_ := Aside0.mk (Kd.R_below (by (with_reducible repeat (first | apply Kd.R_alloc | apply Kd.R_drewN | apply Kd.R_drew)); exact (Kd.R_mono (Kd.R_far (p := ⟨gb371, 1, none⟩) (Kd.R_far (p := ⟨gb371, 0, none⟩) (Kd.R_types HO_338001.out BK371.out (by decide)) (fun _ hk => hk.2) (.slice Ao70 t364.length co70)) (fun _ hk => hk.2) (.slice Ao74 t367.length co74)) (fun _ h_ => h_.1))) hb); have n2_ := Aside0.mk (Kd.R_below (by (with_reducible repeat (first | apply Kd.R_alloc | apply Kd.R_drewN | apply Kd.R_drew)); exact (Kd.R_mono (Kd.R_far (p := ⟨gb371, 1, none⟩) (Kd.R_far (p := ⟨gb371, 0, none⟩) (Kd.R_types HO_349000.out BK371.out (by decide)) (fun _ hk => hk.2) (.slice Ao70 t364.length co70)) (fun _ hk => hk.2) (.slice Ao74 t367.length co74)) (fun _ h_ => h_.1))) hb); have n3_ := Aside0.mk (Kd.R_below (by (with_reducible repeat (first | apply Kd.R_alloc | apply Kd.R_drewN | apply Kd.R_drew)); exact (Kd.R_mono (Kd.R_far (p := ⟨gb371, 1, none⟩) (Kd.R_far (p := ⟨gb371, 0, none⟩) (Kd.R_types HO_349001.out BK371.out (by decide)) (fun _ hk => hk.2) (.slice Ao70 t364.length co70)) (fun _ hk => hk.2) (.slice Ao74 t367.length co74)) (fun _ h_ => h_.1))) hb); have n4_ := Aside0.mk (Kd.R_below (by (with_reducible repeat (first | apply Kd.R_alloc | apply Kd.R_drewN | apply Kd.R_drew)); exact (Kd.R_mono (Kd.R_far (p := ⟨gb371, 1, none⟩) (Kd.R_far (p := ⟨gb371, 0, none⟩) (Kd.R_types HO363.out BK371.out (by decide)) (fun _ hk => hk.2) (.slice Ao70 t364.length co70)) (fun _ hk => hk.2) (.slice Ao74 t367.length co74)) (fun _ h_ => h_.1))) hb); have n5_ := Aside0.mk (Kd.R_below (by (with_reducible repeat (first | apply Kd.R_alloc | apply Kd.R_drewN | apply Kd.R_drew)); exact (Kd.R_mono (Kd.R_far (p := ⟨gb371, 1, none⟩) (Kd.R_far (p := ⟨gb371, 0, none⟩) (Kd.R_types HO366.out BK371.out (by decide)) (fun _ hk => hk.2) (.slice Ao70 t364.length co70)) (fun _ hk => hk.2) (.slice Ao74 t367.length co74)) (fun _ h_ => h_.1))) hb); have n6_ := Aside0.mk (Kd.R_below (by (with_reducible repeat (first | apply Kd.R_alloc | apply Kd.R_drewN | apply Kd.R_drew)); exact (Kd.R_mono (Kd.R_far (p := ⟨gb371, 1, none⟩) (Kd.R_far (p := ⟨gb371, 0, none⟩) (Kd.R_types HO369.out BK371.out (by decide)) (fun _ hk => hk.2) (.slice Ao70 t364.length co70)) (fun _ hk => hk.2) (.slice Ao74 t367.length co74)) (fun _ h_ => h_.1))) hb); have n7_ := Aside0.mk (blk_below (g := gb337) (o := .cells #[.slice Ao12 t330.length co12, .slice Ao14 t333.length co14] 28 (0, 0)) (by (with_reducible repeat (first | refine blk_drewN ?_ _ | refine blk_drew ?_ | refine blk_alloc ?_ _)); refine blk_far ?_ NB337_371.out _; (with_reducible repeat (first | refine blk_drewN ?_ _ | refine blk_drew ?_ | refine blk_alloc ?_ _)); refine blk_far ?_ NB337_371.out _; (with_reducible repeat (first | refine blk_drewN ?_ _ | refine blk_drew ?_ | refine blk_alloc ?_ _)); exact BK337.out) hb); have n8_ := Aside0.mk (blk_below (g := gb348) (o := .cells #[.slice Ao19 t341.length co19, .slice Ao22 t344.length co22] 28 (0, 0)) (by (with_reducible repeat (first | refine blk_drewN ?_ _ | refine blk_drew ?_ | refine blk_alloc ?_ _)); refine blk_far ?_ NB348_371.out _; (with_reducible repeat (first | refine blk_drewN ?_ _ | refine blk_drew ?_ | refine blk_alloc ?_ _)); refine blk_far ?_ NB348_371.out _; (with_reducible repeat (first | refine blk_drewN ?_ _ | refine blk_drew ?_ | refine blk_alloc ?_ _)); exact BK348.out) hb); have n9_ := Aside0.mk (blk_below (g := gb371) (o := .cells #[.slice Ao70 t364.length co70, .slice Ao74 t367.length co74] 28 (0, 0)) (by (with_reducible repeat (first | refine blk_drewN ?_ _ | refine blk_drew ?_ | refine blk_alloc ?_ _)); refine blk_put (cs := #[.slice Ao70 t364.length co70, .slice none 0 0]) ?_ 1 _ rfl; (with_reducible repeat (first | refine blk_drewN ?_ _ | refine blk_drew ?_ | refine blk_alloc ?_ _)); refine blk_put (cs := #[.slice none 0 0, .slice none 0 0]) ?_ 0 _ rfl; (with_reducible repeat (first | refine blk_drewN ?_ _ | refine blk_drew ?_ | refine blk_alloc ?_ _)); exact BK371.out) hb); have n10_ := Aside0.mk (below_step (by repeat (first | (with_reducible first | exact HB.out | apply below_alloc | apply pw_below_drewN | apply below_drew1 | refine below_set ?_ GE337.out | refine below_set ?_ GE348.out | refine below_set ?_ GE371.out) | exact HB.out)) hb); clear HO_338000; clear HO_338001; clear HO_349000; clear HO_349001; clear HO363; clear HO366; clear HO369; clear BK337; clear BK348; clear BK371; clear HB; have HO_338000 := n0_; have HO_338001 := n1_; have HO_349000 := n2_; have HO_349001 := n3_; have HO363 := n4_; have HO366 := n5_; have HO369 := n6_; have BK337 := n7_; have BK348 := n8_; have BK371 := n9_; have HB := n10_; clear n0_ n1_ n2_ n3_ n4_ n5_ n6_ n7_ n8_ n9_ n10_; (try clear hb); (try clear hb2); (try clear hk); (try clear hi)))
                          go_meet
                          case rel => exact ⟨_, ((t370 != t336)), (by first | rfl | simp | simp [*]), H', ⟨by have := HJ6.out; have := HJ37.out; first | omega | exact Nat.le_refl _⟩, ⟨by (with_reducible repeat (first | apply Kd.R_alloc | apply Kd.R_drewN | apply Kd.R_drew)); exact Kd.R_mono HO_338000.out (fun _ hk => ⟨hk.1.1.1.1, ⟨hk.1.1.1.2.1, ⟨hk.1.1.1.2.2, ⟨hk.1.2, hk.2⟩⟩⟩⟩)⟩, ⟨by (with_reducible repeat (first | apply Kd.R_alloc | apply Kd.R_drewN | apply Kd.R_drew)); exact Kd.R_mono HO_338001.out (fun _ hk => ⟨hk.1.1.1.1, ⟨hk.1.1.1.2.1, ⟨hk.1.1.1.2.2, ⟨hk.1.2, hk.2⟩⟩⟩⟩)⟩, ⟨by (with_reducible repeat (first | apply Kd.R_alloc | apply Kd.R_drewN | apply Kd.R_drew)); exact Kd.R_mono HO_349000.out (fun _ hk => ⟨hk.1.1.1.1, ⟨hk.1.1.1.2.1, ⟨hk.1.1.1.2.2, ⟨hk.1.2, hk.2⟩⟩⟩⟩)⟩, ⟨by (with_reducible repeat (first | apply Kd.R_alloc | apply Kd.R_drewN | apply Kd.R_drew)); exact Kd.R_mono HO_349001.out (fun _ hk => ⟨hk.1.1.1.1, ⟨hk.1.1.1.2.1, ⟨hk.1.1.1.2.2, ⟨hk.1.2, hk.2⟩⟩⟩⟩)⟩, ⟨by (with_reducible repeat (first | apply Kd.R_alloc | apply Kd.R_drewN | apply Kd.R_drew)); exact Kd.R_mono HO366.out (fun _ hk => ⟨hk.1.1.1.1.2, ⟨hk.1.1.1.2, ⟨hk.1.1.2, ⟨hk.1.2, hk.1.1.1.1.1⟩⟩⟩⟩)⟩, ⟨by (with_reducible repeat (first | apply Kd.R_alloc | apply Kd.R_drewN | apply Kd.R_drew)); exact Kd.R_mono HO369.out (fun _ hk => ⟨hk.1.1.1.1.2, ⟨hk.1.1.1.2, ⟨hk.1.1.2, ⟨hk.1.2, hk.1.1.1.1.1⟩⟩⟩⟩)⟩, ⟨by (with_reducible repeat (first | refine blk_drewN ?_ _ | refine blk_drew ?_ | refine blk_alloc ?_ _)); exact BK337.out⟩, ⟨by (with_reducible repeat (first | refine blk_drewN ?_ _ | refine blk_drew ?_ | refine blk_alloc ?_ _)); exact BK348.out⟩, ⟨by (with_reducible repeat (first | refine blk_drewN ?_ _ | refine blk_drew ?_ | refine blk_alloc ?_ _)); exact BK371.out⟩, ⟨by repeat (first | (with_reducible first | exact HB.out | apply below_alloc | apply pw_below_drewN | apply below_drew1 | refine below_set ?_ GE337.out | refine below_set ?_ GE348.out | refine below_set ?_ GE371.out) | exact HB.out)⟩⟩
                        · replace c76 := Bool.eq_false_iff.mpr c76
                          subst c76
                          have H1 : (laws_FnExactOpenToClosed.j2 kj37 t357 true t358 t359) = some true := by rw [if_neg (show ¬ (false = true) by decide)] at H; first | done | exact H
                          clear H
                          have H := H1
                          clear H1
                          have H' := Aside0.mk H
                          clear H
                          have hnb83 := NB371_337.out
                          have hnc83 := NB337_371.out
                          have hnb84 := NB371_348.out
                          have hnc84 := NB348_371.out
                          have hcz85_0 : w69.cell? ⟨gb371, 0, none⟩ = some (.slice none 0 0) := (blk_cell BK371.out 0).trans rfl
                          have hcz85_1 : w69.cell? ⟨gb371, 1, none⟩ = some (.slice none 0 0) := (blk_cell BK371.out 1).trans rfl
                          have hfz85_0 := blk_frozen BK371.out 0
                          have hfz85_1 := blk_frozen BK371.out 1
                          have hnb86 := NB337_348.out
                          have hnc86 := NB348_337.out
                          have hcz87_0 : w69.cell? ⟨gb337, 0, none⟩ = some (.slice Ao12 t330.length co12) := (blk_cell BK337.out 0).trans rfl
                          have hcz87_1 : w69.cell? ⟨gb337, 1, none⟩ = some (.slice Ao14 t333.length co14) := (blk_cell BK337.out 1).trans rfl
                          have hfz87_0 := blk_frozen BK337.out 0
                          have hfz87_1 := blk_frozen BK337.out 1
                          go_wp2_with (first | ((with_reducible refine gate_callee (f := 15) rfl ?_); refine goesL_ (some 78) rfl rfl Try.func15 (by kernel_rfl) rfl #[.agg #[.slice Ao70 t364.length co70, .slice Ao74 t367.length co74], .agg #[.slice Ao12 t330.length co12, .slice Ao14 t333.length co14]] rfl (by (try simp only [List.map_toArray, List.map_cons, List.map_nil]); first | done | rfl) ?_; (with_reducible refine (laws_eqMeander.calls kj37 _ _ t364 _ _ t367 _ _ t330 _ _ t333 false _ ?side1 ?side2 ?side3 ?side4 ?side5 ?side6 ?side7 ?side8 A75.out).mono ?_); (case side1 => refine (Kd.R_reads' (e := 3) (base := w.heap.size) (ok := fun k_ => (((((some k_ ≠ (.slice Ao74 t367.length co74 : Value).ownBlock ∧ some k_ ≠ (.slice Ao12 t330.length co12 : Value).ownBlock) ∧ some k_ ≠ (.slice Ao14 t333.length co14 : Value).ownBlock) ∧ some k_ ≠ (.slice Ao19 t341.length co19 : Value).ownBlock) ∧ some k_ ≠ (.slice Ao22 t344.length co22 : Value).ownBlock) ∧ some k_ ≠ (.slice Ao67 t361.length co67 : Value).ownBlock)) (n := t364.length) (c := co70) ?_).2.2; exact (by (with_reducible repeat (first | apply Kd.R_alloc | apply Kd.R_drewN | apply Kd.R_drew)); exact (Kd.R_mono (Kd.R_far (p := ⟨gb371, 1, none⟩) (Kd.R_far (p := ⟨gb371, 0, none⟩) (Kd.R_types HO366.out BK371.out (by decide)) (fun _ hk => hk.2) (.slice Ao70 t364.length co70)) (fun _ hk => hk.2) (.slice Ao74 t367.length co74)) (fun _ h_ => h_.1)))); (case side2 => exact (Kd.R_reads' HO366.out).2.1); (case side3 => refine (Kd.R_reads' (e := 3) (base := w.heap.size) (ok := fun k_ => (((((some k_ ≠ (.slice Ao70 t364.length co70 : Value).ownBlock ∧ some k_ ≠ (.slice Ao12 t330.length co12 : Value).ownBlock) ∧ some k_ ≠ (.slice Ao14 t333.length co14 : Value).ownBlock) ∧ some k_ ≠ (.slice Ao19 t341.length co19 : Value).ownBlock) ∧ some k_ ≠ (.slice Ao22 t344.length co22 : Value).ownBlock) ∧ some k_ ≠ (.slice Ao67 t361.length co67 : Value).ownBlock)) (n := t367.length) (c := co74) ?_).2.2; exact (by (with_reducible repeat (first | apply Kd.R_alloc | apply Kd.R_drewN | apply Kd.R_drew)); exact (Kd.R_mono (Kd.R_far (p := ⟨gb371, 1, none⟩) (Kd.R_far (p := ⟨gb371, 0, none⟩) (Kd.R_types HO369.out BK371.out (by decide)) (fun _ hk => hk.2) (.slice Ao70 t364.length co70)) (fun _ hk => hk.2) (.slice Ao74 t367.length co74)) (fun _ h_ => h_.1)))); (case side4 => exact (Kd.R_reads' HO369.out).2.1); (case side5 => refine (Kd.R_reads' (e := 3) (base := w.heap.size) (ok := fun k_ => ((((some k_ ≠ (.slice Ao14 t333.length co14 : Value).ownBlock ∧ (some k_ ≠ (.slice Ao19 t341.length co19 : Value).ownBlock ∧ some k_ ≠ (.slice Ao22 t344.length co22 : Value).ownBlock)) ∧ some k_ ≠ (.slice Ao67 t361.length co67 : Value).ownBlock) ∧ some k_ ≠ (.slice Ao70 t364.length co70 : Value).ownBlock) ∧ some k_ ≠ (.slice Ao74 t367.length co74 : Value).ownBlock)) (n := t330.length) (c := co12) ?_).2.2; exact (by (with_reducible repeat (first | apply Kd.R_alloc | apply Kd.R_drewN | apply Kd.R_drew)); exact (Kd.R_mono (Kd.R_far (p := ⟨gb371, 1, none⟩) (Kd.R_far (p := ⟨gb371, 0, none⟩) (Kd.R_types HO_338000.out BK371.out (by decide)) (fun _ hk => hk.2) (.slice Ao70 t364.length co70)) (fun _ hk => hk.2) (.slice Ao74 t367.length co74)) (fun _ h_ => h_.1)))); (case side6 => exact (Kd.R_reads' HO_338000.out).2.1); (case side7 => refine (Kd.R_reads' (e := 3) (base := w.heap.size) (ok := fun k_ => ((((some k_ ≠ (.slice Ao12 t330.length co12 : Value).ownBlock ∧ (some k_ ≠ (.slice Ao19 t341.length co19 : Value).ownBlock ∧ some k_ ≠ (.slice Ao22 t344.length co22 : Value).ownBlock)) ∧ some k_ ≠ (.slice Ao67 t361.length co67 : Value).ownBlock) ∧ some k_ ≠ (.slice Ao70 t364.length co70 : Value).ownBlock) ∧ some k_ ≠ (.slice Ao74 t367.length co74 : Value).ownBlock)) (n := t333.length) (c := co14) ?_).2.2; exact (by (with_reducible repeat (first | apply Kd.R_alloc | apply Kd.R_drewN | apply Kd.R_drew)); exact (Kd.R_mono (Kd.R_far (p := ⟨gb371, 1, none⟩) (Kd.R_far (p := ⟨gb371, 0, none⟩) (Kd.R_types HO_338001.out BK371.out (by decide)) (fun _ hk => hk.2) (.slice Ao70 t364.length co70)) (fun _ hk => hk.2) (.slice Ao74 t367.length co74)) (fun _ h_ => h_.1)))); (case side8 => exact (Kd.R_reads' HO_338001.out).2.1); rintro e w88 ⟨rfl, hb⟩; refine ⟨_, rfl, ?_⟩; have n0_ := Aside0.mk (Kd.R_below (by (with_reducible repeat (first | apply Kd.R_alloc | apply Kd.R_drewN | apply Kd.R_drew)); exact (Kd.R_mono (Kd.R_far (p := ⟨gb371, 1, none⟩) (Kd.R_far (p := ⟨gb371, 0, none⟩) (Kd.R_types HO_338000.out BK371.out (by decide)) (fun _ hk => hk.2) (.slice Ao70 t364.length co70)) (fun _ hk => hk.2) (.slice Ao74 t367.length co74)) (fun _ h_ => h_.1))) hb); have n1_ := Aside0.mk (Kd.R_below (by (with_reducible repeat (first | apply Kd.R_alloc | apply Kd.R_drewN | apply Kd.R_drew)); exact (Kd.R_mono (Kd.R_far (p := ⟨gb371, 1, none⟩) (Kd.R_far (p := ⟨gb371, 0, none⟩) (Kd.R_types HO_338001.out BK371.out (by decide)) (fun _ hk => hk.2) (.slice Ao70 t364.length co70)) (fun _ hk => hk.2) (.slice Ao74 t367.length co74)) (fun _ h_ => h_.1))) hb); have n2_ := Aside0.mk (Kd.R_below (by (with_reducible repeat (first | apply Kd.R_alloc | apply Kd.R_drewN | apply Kd.R_drew)); exact (Kd.R_mono (Kd.R_far (p := ⟨gb371, 1, none⟩) (Kd.R_far (p := ⟨gb371, 0, none⟩) (Kd.R_types HO_349000.out BK371.out (by decide)) (fun _ hk => hk.2) (.slice Ao70 t364.length co70)) (fun _ hk => hk.2) (.slice Ao74 t367.length co74)) (fun _ h_ => h_.1))) hb); have n3_ := Aside0.mk (Kd.R_below (by (with_reducible repeat (first | apply Kd.R_alloc | apply Kd.R_drewN | apply Kd.R_drew)); exact (Kd.R_mono (Kd.R_far (p := ⟨gb371, 1, none⟩) (Kd.R_far (p := ⟨gb371, 0, none⟩) (Kd.R_types HO_349001.out BK371.out (by decide)) (fun _ hk => hk.2) (.slice Ao70 t364.length co70)) (fun _ hk => hk.2) (.slice Ao74 t367.length co74)) (fun _ h_ => h_.1))) hb); have n4_ := Aside0.mk (Kd.R_below (by (with_reducible repeat (first | apply Kd.R_alloc | apply Kd.R_drewN | apply Kd.R_drew)); exact (Kd.R_mono (Kd.R_far (p := ⟨gb371, 1, none⟩) (Kd.R_far (p := ⟨gb371, 0, none⟩) (Kd.R_types HO363.out BK371.out (by decide)) (fun _ hk => hk.2) (.slice Ao70 t364.length co70)) (fun _ hk => hk.2) (.slice Ao74 t367.length co74)) (fun _ h_ => h_.1))) hb); have n5_ := Aside0.mk (Kd.R_below (by (with_reducible repeat (first | apply Kd.R_alloc | apply Kd.R_drewN | apply Kd.R_drew)); exact (Kd.R_mono (Kd.R_far (p := ⟨gb371, 1, none⟩) (Kd.R_far (p := ⟨gb371, 0, none⟩) (Kd.R_types HO366.out BK371.out (by decide)) (fun _ hk => hk.2) (.slice Ao70 t364.length co70)) (fun _ hk => hk.2) (.slice Ao74 t367.length co74)) (fun _ h_ => h_.1))) hb); have n6_ := Aside0.mk (Kd.R_below (by (with_reducible repeat (first | apply Kd.R_alloc | apply Kd.R_drewN | apply Kd.R_drew)); exact (Kd.R_mono (Kd.R_far (p := ⟨gb371, 1, none⟩) (Kd.R_far (p := ⟨gb371, 0, none⟩) (Kd.R_types HO369.out BK371.out (by decide)) (fun _ hk => hk.2) (.slice Ao70 t364.length co70)) (fun _ hk => hk.2) (.slice Ao74 t367.length co74)) (fun _ h_ => h_.1))) hb); have n7_ := Aside0.mk (blk_below (g := gb337) (o := .cells #[.slice Ao12 t330.length co12, .slice Ao14 t333.length co14] 28 (0, 0)) (by (with_reducible repeat (first | refine blk_drewN ?_ _ | refine blk_drew ?_ | refine blk_alloc ?_ _)); refine blk_far ?_ NB337_371.out _; (with_reducible repeat (first | refine blk_drewN ?_ _ | refine blk_drew ?_ | refine blk_alloc ?_ _)); refine blk_far ?_ NB337_371.out _; (with_reducible repeat (first | refine blk_drewN ?_ _ | refine blk_drew ?_ | refine blk_alloc ?_ _)); exact BK337.out) hb); have n8_ := Aside0.mk (blk_below (g := gb348) (o := .cells #[.slice Ao19 t341.length co19, .slice Ao22 t344.length co22] 28 (0, 0)) (by (with_reducible repeat (first | refine blk_drewN ?_ _ | refine blk_drew ?_ | refine blk_alloc ?_ _)); refine blk_far ?_ NB348_371.out _; (with_reducible repeat (first | refine blk_drewN ?_ _ | refine blk_drew ?_ | refine blk_alloc ?_ _)); refine blk_far ?_ NB348_371.out _; (with_reducible repeat (first | refine blk_drewN ?_ _ | refine blk_drew ?_ | refine blk_alloc ?_ _)); exact BK348.out) hb); have n9_ := Aside0.mk (blk_below (g := gb371) (o := .cells #[.slice Ao70 t364.length co70, .slice Ao74 t367.length co74] 28 (0, 0)) (by (with_reducible repeat (first | refine blk_drewN ?_ _ | refine blk_drew ?_ | refine blk_alloc ?_ _)); refine blk_put (cs := #[.slice Ao70 t364.length co70, .slice none 0 0]) ?_ 1 _ rfl; (with_reducible repeat (first | refine blk_drewN ?_ _ | refine blk_drew ?_ | refine blk_alloc ?_ _)); refine blk_put (cs := #[.slice none 0 0, .slice none 0 0]) ?_ 0 _ rfl; (with_reducible repeat (first | refine blk_drewN ?_ _ | refine blk_drew ?_ | refine blk_alloc ?_ _)); exact BK371.out) hb); have n10_ := Aside0.mk (below_step (by repeat (first | (with_reducible first | exact HB.out | apply below_alloc | apply pw_below_drewN | apply below_drew1 | refine below_set ?_ GE337.out | refine below_set ?_ GE348.out | refine below_set ?_ GE371.out) | exact HB.out)) hb); clear HO_338000; clear HO_338001; clear HO_349000; clear HO_349001; clear HO363; clear HO366; clear HO369; clear BK337; clear BK348; clear BK371; clear HB; have HO_338000 := n0_; have HO_338001 := n1_; have HO_349000 := n2_; have HO_349001 := n3_; have HO363 := n4_; have HO366 := n5_; have HO369 := n6_; have BK337 := n7_; have BK348 := n8_; have BK371 := n9_; have HB := n10_; clear n0_ n1_ n2_ n3_ n4_ n5_ n6_ n7_ n8_ n9_ n10_; (try clear hb); (try clear hb2); (try clear hk); (try clear hi)))
                          go_meet
                          case rel => exact ⟨_, (true), (by first | rfl | simp | simp [*]), H', ⟨by have := HJ6.out; have := HJ37.out; first | omega | exact Nat.le_refl _⟩, ⟨by (with_reducible repeat (first | apply Kd.R_alloc | apply Kd.R_drewN | apply Kd.R_drew)); exact Kd.R_mono HO_338000.out (fun _ hk => ⟨hk.1.1.1.1, ⟨hk.1.1.1.2.1, ⟨hk.1.1.1.2.2, ⟨hk.1.2, hk.2⟩⟩⟩⟩)⟩, ⟨by (with_reducible repeat (first | apply Kd.R_alloc | apply Kd.R_drewN | apply Kd.R_drew)); exact Kd.R_mono HO_338001.out (fun _ hk => ⟨hk.1.1.1.1, ⟨hk.1.1.1.2.1, ⟨hk.1.1.1.2.2, ⟨hk.1.2, hk.2⟩⟩⟩⟩)⟩, ⟨by (with_reducible repeat (first | apply Kd.R_alloc | apply Kd.R_drewN | apply Kd.R_drew)); exact Kd.R_mono HO_349000.out (fun _ hk => ⟨hk.1.1.1.1, ⟨hk.1.1.1.2.1, ⟨hk.1.1.1.2.2, ⟨hk.1.2, hk.2⟩⟩⟩⟩)⟩, ⟨by (with_reducible repeat (first | apply Kd.R_alloc | apply Kd.R_drewN | apply Kd.R_drew)); exact Kd.R_mono HO_349001.out (fun _ hk => ⟨hk.1.1.1.1, ⟨hk.1.1.1.2.1, ⟨hk.1.1.1.2.2, ⟨hk.1.2, hk.2⟩⟩⟩⟩)⟩, ⟨by (with_reducible repeat (first | apply Kd.R_alloc | apply Kd.R_drewN | apply Kd.R_drew)); exact Kd.R_mono HO366.out (fun _ hk => ⟨hk.1.1.1.1.2, ⟨hk.1.1.1.2, ⟨hk.1.1.2, ⟨hk.1.2, hk.1.1.1.1.1⟩⟩⟩⟩)⟩, ⟨by (with_reducible repeat (first | apply Kd.R_alloc | apply Kd.R_drewN | apply Kd.R_drew)); exact Kd.R_mono HO369.out (fun _ hk => ⟨hk.1.1.1.1.2, ⟨hk.1.1.1.2, ⟨hk.1.1.2, ⟨hk.1.2, hk.1.1.1.1.1⟩⟩⟩⟩)⟩, ⟨by (with_reducible repeat (first | refine blk_drewN ?_ _ | refine blk_drew ?_ | refine blk_alloc ?_ _)); exact BK337.out⟩, ⟨by (with_reducible repeat (first | refine blk_drewN ?_ _ | refine blk_drew ?_ | refine blk_alloc ?_ _)); exact BK348.out⟩, ⟨by (with_reducible repeat (first | refine blk_drewN ?_ _ | refine blk_drew ?_ | refine blk_alloc ?_ _)); exact BK371.out⟩, ⟨by repeat (first | (with_reducible first | exact HB.out | apply below_alloc | apply pw_below_drewN | apply below_drew1 | refine below_set ?_ GE337.out | refine below_set ?_ GE348.out | refine below_set ?_ GE371.out) | exact HB.out)⟩⟩
                      case rest =>
                        clear HC60
                        try clear c1
                        try clear c2
                        try clear c2b0
                        try clear c2b1
                        try clear p2
                        try clear c3
                        try clear c4
                        try clear c5
                        try clear c6
                        try clear c7
                        try clear c8
                        try clear c14
                        try clear c15
                        try clear c16
                        try clear c17
                        try clear c20
                        try clear c24
                        try clear c25
                        try clear c27
                        try clear c28
                        try clear c29
                        try clear c33
                        try clear c36
                        try clear c42
                        try clear c42b0
                        try clear c44
                        try clear c45
                        try clear c49
                        try clear c53
                        try clear c56
                        try clear c56b0
                        try clear c57
                        try clear c57b0
                        try clear c57b1
                        try clear c61
                        try clear c71
                        try clear c72
                        try clear c76
                        try clear c77
                        try clear c78
                        try clear c80
                        try clear c83
                        try clear c84
                        try clear c86
                        try clear hcz13_0
                        try clear hcz13_1
                        try clear hcz21_0
                        try clear hcz21_1
                        try clear hcz26_0
                        try clear hcz26_1
                        try clear hcz27_0
                        try clear hcz27_1
                        try clear hcz30_0
                        try clear hcz30_1
                        try clear hcz31_0
                        try clear hcz31_1
                        try clear hcz46_0
                        try clear hcz46_1
                        try clear hcz47_0
                        try clear hcz47_1
                        try clear hcz50_0
                        try clear hcz50_1
                        try clear hcz51_0
                        try clear hcz51_1
                        try clear hcz62_0
                        try clear hcz62_1
                        try clear hcz64_0
                        try clear hcz64_1
                        try clear hcz73_0
                        try clear hcz73_1
                        try clear hcz79_0
                        try clear hcz79_1
                        try clear hcz81_0
                        try clear hcz81_1
                        try clear hcz85_0
                        try clear hcz85_1
                        try clear hcz87_0
                        try clear hcz87_1
                        try clear hfz13_0
                        try clear hfz13_1
                        try clear hfz21_0
                        try clear hfz21_1
                        try clear hfz26_0
                        try clear hfz26_1
                        try clear hfz27_0
                        try clear hfz27_1
                        try clear hfz30_0
                        try clear hfz30_1
                        try clear hfz31_0
                        try clear hfz31_1
                        try clear hfz46_0
                        try clear hfz46_1
                        try clear hfz47_0
                        try clear hfz47_1
                        try clear hfz50_0
                        try clear hfz50_1
                        try clear hfz51_0
                        try clear hfz51_1
                        try clear hfz62_0
                        try clear hfz62_1
                        try clear hfz64_0
                        try clear hfz64_1
                        try clear hfz73_0
                        try clear hfz73_1
                        try clear hfz79_0
                        try clear hfz79_1
                        try clear hfz81_0
                        try clear hfz81_1
                        try clear hfz85_0
                        try clear hfz85_1
                        try clear hfz87_0
                        try clear hfz87_1
                        try clear p2
                        obtain ⟨kq, x84_59, rfl, HA, HJ59, HO_338000, HO_338001, HO_349000, HO_349001, HO_372000, HO_372001, BK337, BK348, BK371, HB⟩ := hcut
                        have hl349000_59 := (Kd.R_reads' HO_349000.out).1
                        rw [hl349000_59] at HO_349000
                        (try simp only [hl349000_59])
                        (try simp only [hl349000_59] at BK337)
                        (try simp only [hl349000_59] at BK348)
                        (try simp only [hl349000_59] at BK371)
                        (try simp only [hl349000_59] at HO_338000)
                        (try simp only [hl349000_59] at HO_338001)
                        (try simp only [hl349000_59] at HO_349001)
                        (try simp only [hl349000_59] at HO_372000)
                        (try simp only [hl349000_59] at HO_372001)
                        have hl349001_59 := (Kd.R_reads' HO_349001.out).1
                        rw [hl349001_59] at HO_349001
                        (try simp only [hl349001_59])
                        (try simp only [hl349001_59] at BK337)
                        (try simp only [hl349001_59] at BK348)
                        (try simp only [hl349001_59] at BK371)
                        (try simp only [hl349001_59] at HO_338000)
                        (try simp only [hl349001_59] at HO_338001)
                        (try simp only [hl349001_59] at HO_349000)
                        (try simp only [hl349001_59] at HO_372000)
                        (try simp only [hl349001_59] at HO_372001)
                        cases kq with
                        | zero => exact absurd HA.out (by simp [laws_FnExactOpenToClosed.j2])
                        | succ kj59 =>
                          have H := HA.out
                          clear HA
                          simp only [laws_FnExactOpenToClosed.j2] at H
                          by_cases c89 : x84_59 = true
                          · subst c89
                            have H1 : (some false) = some true := by rw [if_pos rfl] at H; first | done | exact H
                            clear H
                            have H := H1
                            clear H1
                            exact absurd H (by simp)
                          · replace c89 := Bool.eq_false_iff.mpr c89
                            subst c89
                            have H1 : ((laws_heldMeander.f kj59 t358 t359 1).bind fun t373 => (if t373 < 0 then (some false) else (if t373 = t357 then (some true) else (some false)))) = some true := by rw [if_neg (show ¬ (false = true) by decide)] at H; first | done | exact H
                            clear H
                            have H := H1
                            clear H1
                            replace H := Option.bind_eq_some_iff.mp H
                            obtain ⟨t373, A900, H⟩ := H
                            replace H : (if t373 < 0 then (some false) else (if t373 = t357 then (some true) else (some false))) = some true := H
                            have A90 := Aside0.mk A900
                            clear A900
                            by_cases c91 : t373 < 0
                            · rw [if_pos c91] at H
                              have c91b0 : decide (t373 < 0) = true := decide_eq_true c91
                              clear c91
                              (try simp only [hl349000_59, hl349001_59] at c91b0)
                              exact absurd H (by simp)
                            · rw [if_neg c91] at H
                              have c91b0 : decide (t373 < 0) = false := decide_eq_false c91
                              clear c91
                              (try simp only [hl349000_59, hl349001_59] at c91b0)
                              by_cases c92 : t373 = t357
                              · rw [if_pos c92] at H
                                have c92b0 : (t373 == t357) = true := beq_iff_eq.mpr c92
                                have c92b1 : (t373 != t357) = false := bne_eq_false_iff_eq.mpr c92
                                clear c92
                                (try simp only [hl349000_59, hl349001_59] at c92b0 c92b1)
                                clear H
                                have hnb93 := NB348_337.out
                                have hnc93 := NB337_348.out
                                have hnb94 := NB348_371.out
                                have hnc94 := NB371_348.out
                                have hcz95_0 : wc.cell? ⟨gb348, 0, none⟩ = some (.slice Ao19 t358.length co19) := (blk_cell BK348.out 0).trans rfl
                                have hcz95_1 : wc.cell? ⟨gb348, 1, none⟩ = some (.slice Ao22 t359.length co22) := (blk_cell BK348.out 1).trans rfl
                                have hfz95_0 := blk_frozen BK348.out 0
                                have hfz95_1 := blk_frozen BK348.out 1
                                go_wp2_with (first | ((with_reducible refine gate_callee (f := 27) rfl ?_); refine goesL_ (some 87) rfl rfl Try.func27 (by kernel_rfl) rfl #[.agg #[.slice Ao19 t358.length co19, .slice Ao22 t359.length co22], .int .i64 1] rfl (by (try simp only [List.map_toArray, List.map_cons, List.map_nil]); first | done | rfl) ?_; (with_reducible refine (laws_heldMeander.calls kj59 _ _ t358 _ _ t359 1 t373 _ ?side1 ?side2 ?side3 ?side4 A90.out).mono ?_); (case side1 => repeat (first | exact (Kd.R_reads' HO_349000.out).2.2 | (with_reducible refine Kd.C_alloc ?_ _) | (with_reducible refine Kd.C_drewN ?_ _) | (with_reducible refine Kd.C_drew ?_))); (case side2 => exact (Kd.R_reads' HO_349000.out).2.1); (case side3 => repeat (first | exact (Kd.R_reads' HO_349001.out).2.2 | (with_reducible refine Kd.C_alloc ?_ _) | (with_reducible refine Kd.C_drewN ?_ _) | (with_reducible refine Kd.C_drew ?_))); (case side4 => exact (Kd.R_reads' HO_349001.out).2.1); rintro e w96 ⟨rfl, hb⟩; refine ⟨_, rfl, ?_⟩; have n0_ := Aside0.mk (Kd.R_below (by (with_reducible repeat (first | apply Kd.R_alloc | apply Kd.R_drewN | apply Kd.R_drew)); exact HO_338000.out) hb); have n1_ := Aside0.mk (Kd.R_below (by (with_reducible repeat (first | apply Kd.R_alloc | apply Kd.R_drewN | apply Kd.R_drew)); exact HO_338001.out) hb); have n2_ := Aside0.mk (Kd.R_below (by (with_reducible repeat (first | apply Kd.R_alloc | apply Kd.R_drewN | apply Kd.R_drew)); exact HO_349000.out) hb); have n3_ := Aside0.mk (Kd.R_below (by (with_reducible repeat (first | apply Kd.R_alloc | apply Kd.R_drewN | apply Kd.R_drew)); exact HO_349001.out) hb); have n4_ := Aside0.mk (Kd.R_below (by (with_reducible repeat (first | apply Kd.R_alloc | apply Kd.R_drewN | apply Kd.R_drew)); exact HO_372000.out) hb); have n5_ := Aside0.mk (Kd.R_below (by (with_reducible repeat (first | apply Kd.R_alloc | apply Kd.R_drewN | apply Kd.R_drew)); exact HO_372001.out) hb); have n6_ := Aside0.mk (blk_below (g := gb337) (o := .cells #[.slice Ao12 t330.length co12, .slice Ao14 t333.length co14] 28 (0, 0)) (by (with_reducible repeat (first | refine blk_drewN ?_ _ | refine blk_drew ?_ | refine blk_alloc ?_ _)); exact BK337.out) hb); have n7_ := Aside0.mk (blk_below (g := gb348) (o := .cells #[.slice Ao19 t358.length co19, .slice Ao22 t359.length co22] 28 (0, 0)) (by (with_reducible repeat (first | refine blk_drewN ?_ _ | refine blk_drew ?_ | refine blk_alloc ?_ _)); exact BK348.out) hb); have n8_ := Aside0.mk (blk_below (g := gb371) (o := .cells #[.slice Ao70 t364.length co70, .slice Ao74 t367.length co74] 28 (0, 0)) (by (with_reducible repeat (first | refine blk_drewN ?_ _ | refine blk_drew ?_ | refine blk_alloc ?_ _)); exact BK371.out) hb); have n9_ := Aside0.mk (below_step (by repeat (first | (with_reducible first | exact HB.out | apply below_alloc | apply pw_below_drewN | apply below_drew1 | refine below_set ?_ GE337.out | refine below_set ?_ GE348.out | refine below_set ?_ GE371.out) | exact HB.out)) hb); clear HO_338000; clear HO_338001; clear HO_349000; clear HO_349001; clear HO_372000; clear HO_372001; clear BK337; clear BK348; clear BK371; clear HB; have HO_338000 := n0_; have HO_338001 := n1_; have HO_349000 := n2_; have HO_349001 := n3_; have HO_372000 := n4_; have HO_372001 := n5_; have BK337 := n6_; have BK348 := n7_; have BK371 := n8_; have HB := n9_; clear n0_ n1_ n2_ n3_ n4_ n5_ n6_ n7_ n8_ n9_; (try clear hb); (try clear hb2); (try clear hk); (try clear hi)))
                                go_ret
                                exact ⟨by first | rfl | (simp [errW_none, errW_some] <;> rfl) | (simp [*, errW_none, errW_some] <;> rfl), by repeat (first | (with_reducible first | exact HB.out | apply below_alloc | apply pw_below_drewN | apply below_drew1 | refine below_set ?_ GE337.out | refine below_set ?_ GE348.out | refine below_set ?_ GE371.out) | exact HB.out)⟩
                              · rw [if_neg c92] at H
                                have c92b0 : (t373 == t357) = false := beq_eq_false_iff_ne.mpr c92
                                have c92b1 : (t373 != t357) = true := bne_iff_ne.mpr c92
                                (try simp only [hl349000_59, hl349001_59] at c92b0 c92b1)
                                exact absurd H (by simp)
                    · rw [if_neg c57] at H
                      have c57b0 : (t360 == t357) = false := beq_eq_false_iff_ne.mpr c57
                      have c57b1 : (t360 != t357) = true := bne_iff_ne.mpr c57
                      exact absurd H (by simp)
          · replace c36 := Bool.eq_false_iff.mpr c36
            subst c36
            have H1 : (some false) = some true := by rw [if_neg (show ¬ (false = true) by decide)] at H; first | done | exact H
            clear H
            have H := H1
            clear H1
            exact absurd H (by simp)

/-- THE ONE PURE STATEMENT of laws_FnExactOpenToClosed: yours. -/
def laws_FnExactOpenToClosed.Pure : Prop := ∀ (l0 : List Int), l0.length ≤ maxLen → l0.length * 8 ≤ 140737488351232 → (∀ x ∈ l0, (Lit.int .i64 x).wf = true) → ∃ k, laws_FnExactOpenToClosed.f k l0 = some true
theorem laws_FnExactOpenToClosed.walk (P : laws_FnExactOpenToClosed.Pure) (a0 : Option Addr) (len0 cap0 : Nat) (z0 : List Int) (w : World) (w0 : (a0 = none ∧ len0 = 0 ∧ cap0 = 0 ∧ z0 = []) ∨ ∃ x, a0 = some x ∧ len0 ≤ cap0 ∧ cap0 ≤ maxLen ∧ z0.length = cap0 ∧ (∀ i, i < z0.length → w.cell? (x.add i) = some (.int .i64 (z0.getD i 0))) ∧ ∀ n ∈ z0, (Lit.int .i64 n).wf = true) (y0 : len0 * 8 ≤ 140737488351232) :
    Calls Try.prog 6 #[.slice a0 len0 cap0] w fun e w' => e = .returned (.bool true) ∧ Below w.heap.size w w' := by
  obtain ⟨l0, rfl, hr0, hm0, hw0, hc0⟩ := ReadsInt.ofRowC w0
  obtain ⟨k, h⟩ := P l0 hm0 y0 hw0
  refine (laws_FnExactOpenToClosed.calls k _ _ l0 w (Kd.C_of_reads (d := (0 : Int)) (h1 := fun _ => rfl) hr0) hc0 h).mono ?_
  rintro e w' ⟨rfl, hd⟩
  exact ⟨rfl, hd⟩

end Go.Proofs.Yteflkoghligofaa.M
