-- printed by wip/drv/xprint.py (our driver) out of the translation; Lean checks it
import Derived.Test.YteflkoghligofaaM0
import Derived.Test.YteflkoghligofaaM1
import Derived.Test.YteflkoghligofaaM4
import Derived.Test.YteflkoghligofaaM10
namespace Go.Proofs.Yteflkoghligofaa.M
open Go.RowKit Go.Proofs.YteflkoghligofaaW.PrintWords Go.Proofs.YteflkoghligofaaW.PrintLast Go.Proofs.YteflkoghligofaaW.PrintMore
attribute [local go_sem] max2_int min2_int max_two min_two max_three min_three max_four min_four   -- for this text's walks alone
set_option linter.unusedVariables false
set_option linter.unusedSimpArgs false

/-! ### laws_FnExactFromPermutation: function 5 -/
mutual
def laws_FnExactFromPermutation.j0 : Nat → List Int → Bool → List Int → Bool → Bool → List Int → List Int → List Int → List Int → Option (Bool)
  | 0, _, _, _, _, _, _, _, _, _ => none
  | k + 1, x0, x4, x5, x7, x37, x250000, x250001, x261000, x261001 => if x37 = true then (some false) else ((laws_toIntS.f k x0).bind fun t262 => ((laws_eqIntS.f k x5 t262).bind fun t265 => (if t265 = true then ((laws_markIntS.f k x5 1).bind fun bt266 => (if bt266.1 < 0 then (laws_FnExactFromPermutation.j1 k x0 x4 true x250000 x250001 x261000 x261001) else ((laws_eqMeander.f k x261000 x261001 x250000 x250001).bind fun t268 => (if t268 = true then (laws_FnExactFromPermutation.j1 k x0 x4 (x7 != x4) x250000 x250001 x261000 x261001) else (laws_FnExactFromPermutation.j1 k x0 x4 true x250000 x250001 x261000 x261001))))) else (some false))))
def laws_FnExactFromPermutation.j1 : Nat → List Int → Bool → Bool → List Int → List Int → List Int → List Int → Option (Bool)
  | 0, _, _, _, _, _, _, _ => none
  | k + 1, x0, x4, x58, x250000, x250001, x261000, x261001 => if x58 = true then (some false) else ((laws_markMeander.f k x261000 x261001 1).bind fun bt269 => ((laws_heldMeander.f k bt269.2.1 bt269.2.2 1).bind fun t272 => (if t272 < 0 then (some false) else (if t272 = bt269.1 then ((laws_toIntS.f k x0).bind fun t273 => ((impl_FromPermutation.f k t273).bind fun bt276 => ((laws_eqMeander.f k bt276.1 bt276.2.1 x250000 x250001).bind fun t284 => (if t284 = true then (laws_FnExactFromPermutation.j2 k bt269.1 (bt276.2.2 != x4) bt269.2.1 bt269.2.2) else (laws_FnExactFromPermutation.j2 k bt269.1 true bt269.2.1 bt269.2.2))))) else (some false)))))
def laws_FnExactFromPermutation.j2 : Nat → Int → Bool → List Int → List Int → Option (Bool)
  | 0, _, _, _, _ => none
  | k + 1, x9, x84, x261000, x261001 => if x84 = true then (some false) else ((laws_heldMeander.f k x261000 x261001 1).bind fun t285 => (if t285 < 0 then (some false) else (if t285 = x9 then (some true) else (some false))))
end
def laws_FnExactFromPermutation.f (k : Nat) (l0 : List Int) : Option (Bool) := if (l0.length : Int) > 1048576 then (some true) else ((laws_toIntS.f k l0).bind fun t239 => ((spec_FromPermutation.f k t239).bind fun bt242 => ((laws_toIntS.f k l0).bind fun t250 => ((impl_FromPermutation.f k t250).bind fun bt253 => ((laws_eqMeander.f k bt253.1 bt253.2.1 bt242.1 bt242.2.1).bind fun t261 => (if t261 = true then (laws_FnExactFromPermutation.j0 k l0 bt242.2.2 t250 bt253.2.2 (bt253.2.2 != bt242.2.2) bt242.1 bt242.2.1 bt253.1 bt253.2.1) else (laws_FnExactFromPermutation.j0 k l0 bt242.2.2 t250 bt253.2.2 true bt242.1 bt242.2.1 bt253.1 bt253.2.1)))))))
theorem laws_FnExactFromPermutation.mono_l : ∀ k, (∀ y0 y1 y2 y3 y4 y5 y6 y7 y8, LeO (laws_FnExactFromPermutation.j0 k y0 y1 y2 y3 y4 y5 y6 y7 y8) (laws_FnExactFromPermutation.j0 (k + 1) y0 y1 y2 y3 y4 y5 y6 y7 y8)) ∧ (∀ y0 y1 y2 y3 y4 y5 y6, LeO (laws_FnExactFromPermutation.j1 k y0 y1 y2 y3 y4 y5 y6) (laws_FnExactFromPermutation.j1 (k + 1) y0 y1 y2 y3 y4 y5 y6)) ∧ (∀ y0 y1 y2 y3, LeO (laws_FnExactFromPermutation.j2 k y0 y1 y2 y3) (laws_FnExactFromPermutation.j2 (k + 1) y0 y1 y2 y3))
  | 0 => ⟨fun _ _ _ _ _ _ _ _ _ r h => by simp [laws_FnExactFromPermutation.j0] at h, fun _ _ _ _ _ _ _ r h => by simp [laws_FnExactFromPermutation.j1] at h, fun _ _ _ _ r h => by simp [laws_FnExactFromPermutation.j2] at h⟩
  | k + 1 => by
    obtain ⟨ih0, ih1, ih2⟩ := laws_FnExactFromPermutation.mono_l k
    refine ⟨?_, ?_, ?_⟩
    · intro y0 y1 y2 y3 y4 y5 y6 y7 y8
      unfold laws_FnExactFromPermutation.j0
      repeat' first
      | (with_reducible exact ih0 _ _ _ _ _ _ _ _ _)
      | (with_reducible exact ih1 _ _ _ _ _ _ _)
      | (with_reducible exact ih2 _ _ _ _)
      | (with_reducible exact impl_FromPermutation.mono _ _)
      | (with_reducible exact laws_eqIntS.mono _ _ _)
      | (with_reducible exact laws_eqMeander.mono _ _ _ _ _)
      | (with_reducible exact laws_heldMeander.mono _ _ _ _)
      | (with_reducible exact laws_markIntS.mono _ _ _)
      | (with_reducible exact laws_markMeander.mono _ _ _ _)
      | (with_reducible exact laws_toIntS.mono _ _)
      | (with_reducible exact spec_FromPermutation.mono _ _)
      | (with_reducible exact LeO.refl _)
      | (with_reducible exact LeO.none _)
      | (with_reducible refine LeO.ite ?_ ?_)
      | (with_reducible refine LeO.bind ?_ (fun _ => ?_))
      | exact ih0 _ _ _ _ _ _ _ _ _
      | exact ih1 _ _ _ _ _ _ _
      | exact ih2 _ _ _ _
      | exact impl_FromPermutation.mono _ _
      | exact laws_eqIntS.mono _ _ _
      | exact laws_eqMeander.mono _ _ _ _ _
      | exact laws_heldMeander.mono _ _ _ _
      | exact laws_markIntS.mono _ _ _
      | exact laws_markMeander.mono _ _ _ _
      | exact laws_toIntS.mono _ _
      | exact spec_FromPermutation.mono _ _
      | exact LeO.none _
      | refine LeO.ite ?_ ?_
      | refine LeO.bind ?_ (fun _ => ?_)
    · intro y0 y1 y2 y3 y4 y5 y6
      unfold laws_FnExactFromPermutation.j1
      repeat' first
      | (with_reducible exact ih0 _ _ _ _ _ _ _ _ _)
      | (with_reducible exact ih1 _ _ _ _ _ _ _)
      | (with_reducible exact ih2 _ _ _ _)
      | (with_reducible exact impl_FromPermutation.mono _ _)
      | (with_reducible exact laws_eqIntS.mono _ _ _)
      | (with_reducible exact laws_eqMeander.mono _ _ _ _ _)
      | (with_reducible exact laws_heldMeander.mono _ _ _ _)
      | (with_reducible exact laws_markIntS.mono _ _ _)
      | (with_reducible exact laws_markMeander.mono _ _ _ _)
      | (with_reducible exact laws_toIntS.mono _ _)
      | (with_reducible exact spec_FromPermutation.mono _ _)
      | (with_reducible exact LeO.refl _)
      | (with_reducible exact LeO.none _)
      | (with_reducible refine LeO.ite ?_ ?_)
      | (with_reducible refine LeO.bind ?_ (fun _ => ?_))
      | exact ih0 _ _ _ _ _ _ _ _ _
      | exact ih1 _ _ _ _ _ _ _
      | exact ih2 _ _ _ _
      | exact impl_FromPermutation.mono _ _
      | exact laws_eqIntS.mono _ _ _
      | exact laws_eqMeander.mono _ _ _ _ _
      | exact laws_heldMeander.mono _ _ _ _
      | exact laws_markIntS.mono _ _ _
      | exact laws_markMeander.mono _ _ _ _
      | exact laws_toIntS.mono _ _
      | exact spec_FromPermutation.mono _ _
      | exact LeO.none _
      | refine LeO.ite ?_ ?_
      | refine LeO.bind ?_ (fun _ => ?_)
    · intro y0 y1 y2 y3
      unfold laws_FnExactFromPermutation.j2
      repeat' first
      | (with_reducible exact ih0 _ _ _ _ _ _ _ _ _)
      | (with_reducible exact ih1 _ _ _ _ _ _ _)
      | (with_reducible exact ih2 _ _ _ _)
      | (with_reducible exact impl_FromPermutation.mono _ _)
      | (with_reducible exact laws_eqIntS.mono _ _ _)
      | (with_reducible exact laws_eqMeander.mono _ _ _ _ _)
      | (with_reducible exact laws_heldMeander.mono _ _ _ _)
      | (with_reducible exact laws_markIntS.mono _ _ _)
      | (with_reducible exact laws_markMeander.mono _ _ _ _)
      | (with_reducible exact laws_toIntS.mono _ _)
      | (with_reducible exact spec_FromPermutation.mono _ _)
      | (with_reducible exact LeO.refl _)
      | (with_reducible exact LeO.none _)
      | (with_reducible refine LeO.ite ?_ ?_)
      | (with_reducible refine LeO.bind ?_ (fun _ => ?_))
      | exact ih0 _ _ _ _ _ _ _ _ _
      | exact ih1 _ _ _ _ _ _ _
      | exact ih2 _ _ _ _
      | exact impl_FromPermutation.mono _ _
      | exact laws_eqIntS.mono _ _ _
      | exact laws_eqMeander.mono _ _ _ _ _
      | exact laws_heldMeander.mono _ _ _ _
      | exact laws_markIntS.mono _ _ _
      | exact laws_markMeander.mono _ _ _ _
      | exact laws_toIntS.mono _ _
      | exact spec_FromPermutation.mono _ _
      | exact LeO.none _
      | refine LeO.ite ?_ ?_
      | refine LeO.bind ?_ (fun _ => ?_)
theorem laws_FnExactFromPermutation.mono : ∀ a0 k, LeO (laws_FnExactFromPermutation.f k a0) (laws_FnExactFromPermutation.f (k + 1) a0) := by
  intro a0 k
  obtain ⟨ih0, ih1, ih2⟩ := laws_FnExactFromPermutation.mono_l k
  unfold laws_FnExactFromPermutation.f
  repeat' first
      | (with_reducible exact ih0 _ _ _ _ _ _ _ _ _)
      | (with_reducible exact ih1 _ _ _ _ _ _ _)
      | (with_reducible exact ih2 _ _ _ _)
      | (with_reducible exact impl_FromPermutation.mono _ _)
      | (with_reducible exact laws_eqIntS.mono _ _ _)
      | (with_reducible exact laws_eqMeander.mono _ _ _ _ _)
      | (with_reducible exact laws_heldMeander.mono _ _ _ _)
      | (with_reducible exact laws_markIntS.mono _ _ _)
      | (with_reducible exact laws_markMeander.mono _ _ _ _)
      | (with_reducible exact laws_toIntS.mono _ _)
      | (with_reducible exact spec_FromPermutation.mono _ _)
      | (with_reducible exact LeO.refl _)
      | (with_reducible exact LeO.none _)
      | (with_reducible refine LeO.ite ?_ ?_)
      | (with_reducible refine LeO.bind ?_ (fun _ => ?_))
      | exact ih0 _ _ _ _ _ _ _ _ _
      | exact ih1 _ _ _ _ _ _ _
      | exact ih2 _ _ _ _
      | exact impl_FromPermutation.mono _ _
      | exact laws_eqIntS.mono _ _ _
      | exact laws_eqMeander.mono _ _ _ _ _
      | exact laws_heldMeander.mono _ _ _ _
      | exact laws_markIntS.mono _ _ _
      | exact laws_markMeander.mono _ _ _ _
      | exact laws_toIntS.mono _ _
      | exact spec_FromPermutation.mono _ _
      | exact LeO.none _
      | refine LeO.ite ?_ ?_
      | refine LeO.bind ?_ (fun _ => ?_)
set_option maxHeartbeats 8000000 in
set_option maxRecDepth 100000 in
theorem laws_FnExactFromPermutation.calls (k : Nat) (A0 : Option Addr) (c0 : Nat) (l0 : List Int) (w : World) (hr0 : Kd.C (Kd.int .i64) w A0 l0.length l0) (hc0 : l0.length ≤ c0) (h : laws_FnExactFromPermutation.f k l0 = some true) :
    Calls Try.prog 5 #[.slice A0 l0.length c0] w fun e w' => e = .returned (.bool true) ∧ Below w.heap.size w w' := by
  have hu28 := Try.underlying28
  have HR0 := Aside0.mk hr0
  have HC0 := Aside0.mk hc0
  clear hr0 hc0
  have HB := Aside0.mk (Below.refl w.heap.size w)
  have H : (if (l0.length : Int) > 1048576 then (some true) else ((laws_toIntS.f k l0).bind fun t239 => ((spec_FromPermutation.f k t239).bind fun bt242 => ((laws_toIntS.f k l0).bind fun t250 => ((impl_FromPermutation.f k t250).bind fun bt253 => ((laws_eqMeander.f k bt253.1 bt253.2.1 bt242.1 bt242.2.1).bind fun t261 => (if t261 = true then (laws_FnExactFromPermutation.j0 k l0 bt242.2.2 t250 bt253.2.2 (bt253.2.2 != bt242.2.2) bt242.1 bt242.2.1 bt253.1 bt253.2.1) else (laws_FnExactFromPermutation.j0 k l0 bt242.2.2 t250 bt253.2.2 true bt242.1 bt242.2.1 bt253.1 bt253.2.1)))))))) = some true := h
  clear h
  by_cases c2 : (l0.length : Int) > 1048576
  · rw [if_pos c2] at H
    have c2b0 : decide (1048576 < (l0.length : Int)) = true := decide_eq_true c2
    have c2b1 : decide (1048576 < l0.length) = true := decide_eq_true (by omega)
    clear c2
    clear H
    go_enter Try.func5, Try.ntmps5
    go_wp2
    go_ret
    exact ⟨by first | rfl | (simp [errW_none, errW_some] <;> rfl) | (simp [*, errW_none, errW_some] <;> rfl), by repeat (first | (with_reducible first | exact HB.out | apply below_alloc | apply pw_below_drewN | apply below_drew1) | exact HB.out)⟩
  · rw [if_neg c2] at H
    have c2b0 : decide (1048576 < (l0.length : Int)) = false := decide_eq_false c2
    have c2b1 : decide (1048576 < l0.length) = false := decide_eq_false (by omega)
    clear c2
    replace H := Option.bind_eq_some_iff.mp H
    obtain ⟨t239, A30, H⟩ := H
    replace H : ((spec_FromPermutation.f k t239).bind fun bt242 => ((laws_toIntS.f k l0).bind fun t250 => ((impl_FromPermutation.f k t250).bind fun bt253 => ((laws_eqMeander.f k bt253.1 bt253.2.1 bt242.1 bt242.2.1).bind fun t261 => (if t261 = true then (laws_FnExactFromPermutation.j0 k l0 bt242.2.2 t250 bt253.2.2 (bt253.2.2 != bt242.2.2) bt242.1 bt242.2.1 bt253.1 bt253.2.1) else (laws_FnExactFromPermutation.j0 k l0 bt242.2.2 t250 bt253.2.2 true bt242.1 bt242.2.1 bt253.1 bt253.2.1)))))) = some true := H
    have A3 := Aside0.mk A30
    clear A30
    replace H := Option.bind_eq_some_iff.mp H
    obtain ⟨⟨t242, t245, t248⟩, A40, H⟩ := H
    replace H : ((laws_toIntS.f k l0).bind fun t250 => ((impl_FromPermutation.f k t250).bind fun bt253 => ((laws_eqMeander.f k bt253.1 bt253.2.1 t242 t245).bind fun t261 => (if t261 = true then (laws_FnExactFromPermutation.j0 k l0 t248 t250 bt253.2.2 (bt253.2.2 != t248) t242 t245 bt253.1 bt253.2.1) else (laws_FnExactFromPermutation.j0 k l0 t248 t250 bt253.2.2 true t242 t245 bt253.1 bt253.2.1))))) = some true := H
    have A4 := Aside0.mk A40
    clear A40
    replace H := Option.bind_eq_some_iff.mp H
    obtain ⟨t250, A50, H⟩ := H
    replace H : ((impl_FromPermutation.f k t250).bind fun bt253 => ((laws_eqMeander.f k bt253.1 bt253.2.1 t242 t245).bind fun t261 => (if t261 = true then (laws_FnExactFromPermutation.j0 k l0 t248 t250 bt253.2.2 (bt253.2.2 != t248) t242 t245 bt253.1 bt253.2.1) else (laws_FnExactFromPermutation.j0 k l0 t248 t250 bt253.2.2 true t242 t245 bt253.1 bt253.2.1)))) = some true := H
    have A5 := Aside0.mk A50
    clear A50
    replace H := Option.bind_eq_some_iff.mp H
    obtain ⟨⟨t253, t256, t259⟩, A60, H⟩ := H
    replace H : ((laws_eqMeander.f k t253 t256 t242 t245).bind fun t261 => (if t261 = true then (laws_FnExactFromPermutation.j0 k l0 t248 t250 t259 (t259 != t248) t242 t245 t253 t256) else (laws_FnExactFromPermutation.j0 k l0 t248 t250 t259 true t242 t245 t253 t256))) = some true := H
    have A6 := Aside0.mk A60
    clear A60
    have HC7 := Aside0.mk H
    clear H
    go_enter Try.func5, Try.ntmps5
    go_upto_region 6 with (first | ((with_reducible refine gate_callee (f := 25) rfl ?_); refine goesL_ (some 18) rfl rfl Try.func25 (by kernel_rfl) rfl #[.slice A0 l0.length c0] rfl (by (try simp only [List.map_toArray, List.map_cons, List.map_nil]); first | done | rfl) ?_; (with_reducible refine (laws_toIntS.calls k _ _ l0 t239 _ ?side1 ?side2 A3.out).mono ?_); (case side1 => repeat (first | exact HR0.out | (with_reducible refine Kd.C_alloc ?_ _) | (with_reducible refine Kd.C_drewN ?_ _) | (with_reducible refine Kd.C_drew ?_))); (case side2 => exact HC0.out); rintro e w8 ⟨v240, rfl, ho0, hb⟩; refine ⟨_, rfl, ?_⟩; have n0_ := Aside0.mk (Kd.R_lower ho0 (below_size (by repeat (first | (with_reducible first | exact HB.out | apply below_alloc | apply pw_below_drewN | apply below_drew1) | exact HB.out)))); have n1_ := Aside0.mk (below_step (by repeat (first | (with_reducible first | exact HB.out | apply below_alloc | apply pw_below_drewN | apply below_drew1) | exact HB.out)) hb); clear HB; have HO241 := n0_; have HB := n1_; clear n0_ n1_; (try clear hb); (try clear hb2); (try clear hk); (try clear hi); (try clear ho0); obtain ⟨Ao9, co9, eo9⟩ := Kd.R_slice HO241.out; subst eo9) | ((with_reducible refine gate_callee (f := 24) rfl ?_); refine goesL_ (some 19) rfl rfl Try.func24 (by kernel_rfl) rfl #[.slice Ao9 t239.length co9] rfl (by (try simp only [List.map_toArray, List.map_cons, List.map_nil]); first | done | rfl) ?_; (with_reducible refine (spec_FromPermutation.calls k _ _ t239 t242 t245 t248 _ ?side1 ?side2 A4.out).mono ?_); (case side1 => repeat (first | exact (Kd.R_reads' HO241.out).2.2 | (with_reducible refine Kd.C_alloc ?_ _) | (with_reducible refine Kd.C_drewN ?_ _) | (with_reducible refine Kd.C_drew ?_))); (case side2 => exact (Kd.R_reads' HO241.out).2.1); rintro e w10 ⟨v243, v246, rfl, ho0, ho1, hb⟩; refine ⟨_, rfl, ?_⟩; have n0_ := Aside0.mk (Kd.R_mono (Kd.R_told (Kd.R_told (Kd.R_old (by (with_reducible repeat (first | apply Kd.R_alloc | apply Kd.R_drewN | apply Kd.R_drew)); exact HO241.out) hb) (Kd.R_base ho0)) (Kd.R_base ho1)) (fun _ h_ => h_.1)); have n1_ := Aside0.mk (Kd.R_lower (Kd.R_new' ho0 (Kd.R_lt (by (with_reducible repeat (first | apply Kd.R_alloc | apply Kd.R_drewN | apply Kd.R_drew)); exact HO241.out))) (below_size (by repeat (first | (with_reducible first | exact HB.out | apply below_alloc | apply pw_below_drewN | apply below_drew1) | exact HB.out)))); have n2_ := Aside0.mk (Kd.R_lower (Kd.R_new' ho1 (Kd.R_lt (by (with_reducible repeat (first | apply Kd.R_alloc | apply Kd.R_drewN | apply Kd.R_drew)); exact HO241.out))) (below_size (by repeat (first | (with_reducible first | exact HB.out | apply below_alloc | apply pw_below_drewN | apply below_drew1) | exact HB.out)))); have n3_ := Aside0.mk (below_step (by repeat (first | (with_reducible first | exact HB.out | apply below_alloc | apply pw_below_drewN | apply below_drew1) | exact HB.out)) hb); clear HO241; clear HB; have HO241 := n0_; have HO244 := n1_; have HO247 := n2_; have HB := n3_; clear n0_ n1_ n2_ n3_; (try clear hb); (try clear hb2); (try clear hk); (try clear hi); (try clear ho0); (try clear ho1)) | ((with_reducible refine gate_dst (N := 3) rfl ?_); refine box_event ?hg (N := 3) ?hd (cs := #[.slice none 0 0, .slice none 0 0]) (t := 28) ?hr ?_; (case hd => rfl); (case hg => rfl); (case hr => first | (go_simp; done) | (go_simp; rfl)); intro gb249 hg w11 hbox hb; have n0_ := Aside0.mk (Kd.R_below (by (with_reducible repeat (first | apply Kd.R_alloc | apply Kd.R_drewN | apply Kd.R_drew)); exact HO241.out) hb); have n1_ := Aside0.mk (Kd.R_below (by (with_reducible repeat (first | apply Kd.R_alloc | apply Kd.R_drewN | apply Kd.R_drew)); exact HO244.out) hb); have n2_ := Aside0.mk (Kd.R_below (by (with_reducible repeat (first | apply Kd.R_alloc | apply Kd.R_drewN | apply Kd.R_drew)); exact HO247.out) hb); have n3_ := Aside0.mk (below_step (by repeat (first | (with_reducible first | exact HB.out | apply below_alloc | apply pw_below_drewN | apply below_drew1) | exact HB.out)) hb); have n4_ := Aside0.mk (hbox); have n5_ := Aside0.mk ((by rw [hg]; exact (below_size (by repeat (first | (with_reducible first | exact HB.out | apply below_alloc | apply pw_below_drewN | apply below_drew1) | exact HB.out))) : w.heap.size ≤ gb249)); have n6_ := Aside0.mk ((by rw [hg]; exact (below_size (by repeat (first | (with_reducible first | exact HB.out | apply below_alloc | apply pw_below_drewN | apply below_drew1) | exact HB.out))) : w.heap.size ≤ gb249)); clear HO241; clear HO244; clear HO247; clear HB; have HO241 := n0_; have HO244 := n1_; have HO247 := n2_; have HB := n3_; have BK249 := n4_; have GW249 := n5_; have GE249 := n6_; clear n0_ n1_ n2_ n3_ n4_ n5_ n6_; clear hb hbox hg; obtain ⟨Ao12, co12, eo12⟩ := Kd.R_slice HO244.out; subst eo12; have hcz13_0 : w11.cell? ⟨gb249, 0, none⟩ = some (.slice none 0 0) := (blk_cell BK249.out 0).trans rfl; have hcz13_1 : w11.cell? ⟨gb249, 1, none⟩ = some (.slice none 0 0) := (blk_cell BK249.out 1).trans rfl; have hfz13_0 := blk_frozen BK249.out 0; have hfz13_1 := blk_frozen BK249.out 1; obtain ⟨Ao14, co14, eo14⟩ := Kd.R_slice HO247.out; subst eo14) | ((with_reducible refine gate_callee (f := 25) rfl ?_); refine goesL_ (some 23) rfl rfl Try.func25 (by kernel_rfl) rfl #[.slice A0 l0.length c0] rfl (by (try simp only [List.map_toArray, List.map_cons, List.map_nil]); first | done | rfl) ?_; (with_reducible refine (laws_toIntS.calls k _ _ l0 t250 _ ?side1 ?side2 A5.out).mono ?_); (case side1 => exact Kd.C_below HR0.out (by repeat (first | (with_reducible first | exact HB.out | apply below_alloc | apply pw_below_drewN | apply below_drew1 | refine below_set ?_ GE249.out) | exact HB.out))); (case side2 => exact HC0.out); rintro e w15 ⟨v251, rfl, ho0, hb⟩; refine ⟨_, rfl, ?_⟩; have n0_ := Aside0.mk (Kd.R_elder' (by (with_reducible repeat (first | apply Kd.R_alloc | apply Kd.R_drewN | apply Kd.R_drew)); exact (Kd.R_mono (Kd.R_far (p := ⟨gb249, 1, none⟩) (Kd.R_far (p := ⟨gb249, 0, none⟩) (Kd.R_types HO241.out BK249.out (by decide)) (fun _ hk => hk.2) (.slice Ao12 t242.length co12)) (fun _ hk => hk.2) (.slice Ao14 t245.length co14)) (fun _ h_ => h_.1))) (Kd.R_base ho0) hb); have n1_ := Aside0.mk (Kd.R_elder' (by (with_reducible repeat (first | apply Kd.R_alloc | apply Kd.R_drewN | apply Kd.R_drew)); exact (Kd.R_mono (Kd.R_far (p := ⟨gb249, 1, none⟩) (Kd.R_far (p := ⟨gb249, 0, none⟩) (Kd.R_types HO244.out BK249.out (by decide)) (fun _ hk => hk.2) (.slice Ao12 t242.length co12)) (fun _ hk => hk.2) (.slice Ao14 t245.length co14)) (fun _ h_ => h_.1))) (Kd.R_base ho0) hb); have n2_ := Aside0.mk (Kd.R_elder' (by (with_reducible repeat (first | apply Kd.R_alloc | apply Kd.R_drewN | apply Kd.R_drew)); exact (Kd.R_mono (Kd.R_far (p := ⟨gb249, 1, none⟩) (Kd.R_far (p := ⟨gb249, 0, none⟩) (Kd.R_types HO247.out BK249.out (by decide)) (fun _ hk => hk.2) (.slice Ao12 t242.length co12)) (fun _ hk => hk.2) (.slice Ao14 t245.length co14)) (fun _ h_ => h_.1))) (Kd.R_base ho0) hb); have n3_ := Aside0.mk (Kd.R_lower (Kd.R_new' (Kd.R_new' (Kd.R_new' ho0 (Kd.R_lt (by (with_reducible repeat (first | apply Kd.R_alloc | apply Kd.R_drewN | apply Kd.R_drew)); exact (Kd.R_mono (Kd.R_far (p := ⟨gb249, 1, none⟩) (Kd.R_far (p := ⟨gb249, 0, none⟩) (Kd.R_types HO241.out BK249.out (by decide)) (fun _ hk => hk.2) (.slice Ao12 t242.length co12)) (fun _ hk => hk.2) (.slice Ao14 t245.length co14)) (fun _ h_ => h_.1))))) (Kd.R_lt (by (with_reducible repeat (first | apply Kd.R_alloc | apply Kd.R_drewN | apply Kd.R_drew)); exact (Kd.R_mono (Kd.R_far (p := ⟨gb249, 1, none⟩) (Kd.R_far (p := ⟨gb249, 0, none⟩) (Kd.R_types HO244.out BK249.out (by decide)) (fun _ hk => hk.2) (.slice Ao12 t242.length co12)) (fun _ hk => hk.2) (.slice Ao14 t245.length co14)) (fun _ h_ => h_.1))))) (Kd.R_lt (by (with_reducible repeat (first | apply Kd.R_alloc | apply Kd.R_drewN | apply Kd.R_drew)); exact (Kd.R_mono (Kd.R_far (p := ⟨gb249, 1, none⟩) (Kd.R_far (p := ⟨gb249, 0, none⟩) (Kd.R_types HO247.out BK249.out (by decide)) (fun _ hk => hk.2) (.slice Ao12 t242.length co12)) (fun _ hk => hk.2) (.slice Ao14 t245.length co14)) (fun _ h_ => h_.1))))) (below_size (by repeat (first | (with_reducible first | exact HB.out | apply below_alloc | apply pw_below_drewN | apply below_drew1 | refine below_set ?_ GE249.out) | exact HB.out)))); have n4_ := Aside0.mk (blk_below (g := gb249) (o := .cells #[.slice Ao12 t242.length co12, .slice Ao14 t245.length co14] 28 (0, 0)) (by (with_reducible repeat (first | refine blk_drewN ?_ _ | refine blk_drew ?_ | refine blk_alloc ?_ _)); refine blk_put (cs := #[.slice Ao12 t242.length co12, .slice none 0 0]) ?_ 1 _ rfl; (with_reducible repeat (first | refine blk_drewN ?_ _ | refine blk_drew ?_ | refine blk_alloc ?_ _)); refine blk_put (cs := #[.slice none 0 0, .slice none 0 0]) ?_ 0 _ rfl; (with_reducible repeat (first | refine blk_drewN ?_ _ | refine blk_drew ?_ | refine blk_alloc ?_ _)); exact BK249.out) hb); have n5_ := Aside0.mk (below_step (by repeat (first | (with_reducible first | exact HB.out | apply below_alloc | apply pw_below_drewN | apply below_drew1 | refine below_set ?_ GE249.out) | exact HB.out)) hb); clear HO241; clear HO244; clear HO247; clear BK249; clear HB; have HO241 := n0_; have HO244 := n1_; have HO247 := n2_; have HO252 := n3_; have BK249 := n4_; have HB := n5_; clear n0_ n1_ n2_ n3_ n4_ n5_; (try clear hb); (try clear hb2); (try clear hk); (try clear hi); (try clear ho0); obtain ⟨Ao16, co16, eo16⟩ := Kd.R_slice HO252.out; subst eo16) | ((with_reducible refine gate_callee (f := 26) rfl ?_); refine goesL_ (some 26) rfl rfl Try.func26 (by kernel_rfl) rfl #[.slice Ao16 t250.length co16] rfl (by (try simp only [List.map_toArray, List.map_cons, List.map_nil]); first | done | rfl) ?_; (with_reducible refine (impl_FromPermutation.calls k _ _ t250 t253 t256 t259 _ ?side1 ?side2 A6.out).mono ?_); (case side1 => repeat (first | exact (Kd.R_reads' HO252.out).2.2 | (with_reducible refine Kd.C_alloc ?_ _) | (with_reducible refine Kd.C_drewN ?_ _) | (with_reducible refine Kd.C_drew ?_))); (case side2 => exact (Kd.R_reads' HO252.out).2.1); rintro e w17 ⟨v254, v257, rfl, ho0, ho1, hb⟩; refine ⟨_, rfl, ?_⟩; have n0_ := Aside0.mk (Kd.R_mono (Kd.R_told (Kd.R_told (Kd.R_old (by (with_reducible repeat (first | apply Kd.R_alloc | apply Kd.R_drewN | apply Kd.R_drew)); exact HO241.out) hb) (Kd.R_base ho0)) (Kd.R_base ho1)) (fun _ h_ => h_.1)); have n1_ := Aside0.mk (Kd.R_mono (Kd.R_told (Kd.R_told (Kd.R_old (by (with_reducible repeat (first | apply Kd.R_alloc | apply Kd.R_drewN | apply Kd.R_drew)); exact HO244.out) hb) (Kd.R_base ho0)) (Kd.R_base ho1)) (fun _ h_ => h_.1)); have n2_ := Aside0.mk (Kd.R_mono (Kd.R_told (Kd.R_told (Kd.R_old (by (with_reducible repeat (first | apply Kd.R_alloc | apply Kd.R_drewN | apply Kd.R_drew)); exact HO247.out) hb) (Kd.R_base ho0)) (Kd.R_base ho1)) (fun _ h_ => h_.1)); have n3_ := Aside0.mk (Kd.R_mono (Kd.R_told (Kd.R_told (Kd.R_old (by (with_reducible repeat (first | apply Kd.R_alloc | apply Kd.R_drewN | apply Kd.R_drew)); exact HO252.out) hb) (Kd.R_base ho0)) (Kd.R_base ho1)) (fun _ h_ => h_.1)); have n4_ := Aside0.mk (Kd.R_lower (Kd.R_new' (Kd.R_new' (Kd.R_new' (Kd.R_new' ho0 (Kd.R_lt (by (with_reducible repeat (first | apply Kd.R_alloc | apply Kd.R_drewN | apply Kd.R_drew)); exact HO241.out))) (Kd.R_lt (by (with_reducible repeat (first | apply Kd.R_alloc | apply Kd.R_drewN | apply Kd.R_drew)); exact HO244.out))) (Kd.R_lt (by (with_reducible repeat (first | apply Kd.R_alloc | apply Kd.R_drewN | apply Kd.R_drew)); exact HO247.out))) (Kd.R_lt (by (with_reducible repeat (first | apply Kd.R_alloc | apply Kd.R_drewN | apply Kd.R_drew)); exact HO252.out))) (below_size (by repeat (first | (with_reducible first | exact HB.out | apply below_alloc | apply pw_below_drewN | apply below_drew1 | refine below_set ?_ GE249.out) | exact HB.out)))); have n5_ := Aside0.mk (Kd.R_lower (Kd.R_new' (Kd.R_new' (Kd.R_new' (Kd.R_new' ho1 (Kd.R_lt (by (with_reducible repeat (first | apply Kd.R_alloc | apply Kd.R_drewN | apply Kd.R_drew)); exact HO241.out))) (Kd.R_lt (by (with_reducible repeat (first | apply Kd.R_alloc | apply Kd.R_drewN | apply Kd.R_drew)); exact HO244.out))) (Kd.R_lt (by (with_reducible repeat (first | apply Kd.R_alloc | apply Kd.R_drewN | apply Kd.R_drew)); exact HO247.out))) (Kd.R_lt (by (with_reducible repeat (first | apply Kd.R_alloc | apply Kd.R_drewN | apply Kd.R_drew)); exact HO252.out))) (below_size (by repeat (first | (with_reducible first | exact HB.out | apply below_alloc | apply pw_below_drewN | apply below_drew1 | refine below_set ?_ GE249.out) | exact HB.out)))); have n6_ := Aside0.mk (blk_below (g := gb249) (o := .cells #[.slice Ao12 t242.length co12, .slice Ao14 t245.length co14] 28 (0, 0)) (by (with_reducible repeat (first | refine blk_drewN ?_ _ | refine blk_drew ?_ | refine blk_alloc ?_ _)); exact BK249.out) hb); have n7_ := Aside0.mk (below_step (by repeat (first | (with_reducible first | exact HB.out | apply below_alloc | apply pw_below_drewN | apply below_drew1 | refine below_set ?_ GE249.out) | exact HB.out)) hb); clear HO241; clear HO244; clear HO247; clear HO252; clear BK249; clear HB; have HO241 := n0_; have HO244 := n1_; have HO247 := n2_; have HO252 := n3_; have HO255 := n4_; have HO258 := n5_; have BK249 := n6_; have HB := n7_; clear n0_ n1_ n2_ n3_ n4_ n5_ n6_ n7_; (try clear hb); (try clear hb2); (try clear hk); (try clear hi); (try clear ho0); (try clear ho1)) | ((with_reducible refine gate_dst (N := 6) rfl ?_); refine box_event ?hg (N := 6) ?hd (cs := #[.slice none 0 0, .slice none 0 0]) (t := 28) ?hr ?_; (case hd => rfl); (case hg => rfl); (case hr => first | (go_simp; done) | (go_simp; rfl)); intro gb260 hg w18 hbox hb; have n0_ := Aside0.mk (Kd.R_below (by (with_reducible repeat (first | apply Kd.R_alloc | apply Kd.R_drewN | apply Kd.R_drew)); exact HO241.out) hb); have n1_ := Aside0.mk (Kd.R_below (by (with_reducible repeat (first | apply Kd.R_alloc | apply Kd.R_drewN | apply Kd.R_drew)); exact HO244.out) hb); have n2_ := Aside0.mk (Kd.R_below (by (with_reducible repeat (first | apply Kd.R_alloc | apply Kd.R_drewN | apply Kd.R_drew)); exact HO247.out) hb); have n3_ := Aside0.mk (Kd.R_below (by (with_reducible repeat (first | apply Kd.R_alloc | apply Kd.R_drewN | apply Kd.R_drew)); exact HO252.out) hb); have n4_ := Aside0.mk (Kd.R_below (by (with_reducible repeat (first | apply Kd.R_alloc | apply Kd.R_drewN | apply Kd.R_drew)); exact HO255.out) hb); have n5_ := Aside0.mk (Kd.R_below (by (with_reducible repeat (first | apply Kd.R_alloc | apply Kd.R_drewN | apply Kd.R_drew)); exact HO258.out) hb); have n6_ := Aside0.mk (blk_below (g := gb249) (o := .cells #[.slice Ao12 t242.length co12, .slice Ao14 t245.length co14] 28 (0, 0)) (by (with_reducible repeat (first | refine blk_drewN ?_ _ | refine blk_drew ?_ | refine blk_alloc ?_ _)); exact BK249.out) hb); have n7_ := Aside0.mk (below_step (by repeat (first | (with_reducible first | exact HB.out | apply below_alloc | apply pw_below_drewN | apply below_drew1 | refine below_set ?_ GE249.out) | exact HB.out)) hb); have n8_ := Aside0.mk (hbox); have n9_ := Aside0.mk ((by rw [hg]; exact (below_size (by repeat (first | (with_reducible first | exact HB.out | apply below_alloc | apply pw_below_drewN | apply below_drew1 | refine below_set ?_ GE249.out) | exact HB.out))) : w.heap.size ≤ gb260)); have n10_ := Aside0.mk ((by rw [hg]; exact (below_size (by repeat (first | (with_reducible first | exact HB.out | apply below_alloc | apply pw_below_drewN | apply below_drew1 | refine below_set ?_ GE249.out) | exact HB.out))) : w.heap.size ≤ gb260)); have n11_ := Aside0.mk ((by rw [hg]; exact Nat.ne_of_lt (blk_lt (g := gb249) (o := .cells #[.slice Ao12 t242.length co12, .slice Ao14 t245.length co14] 28 (0, 0)) (by (with_reducible repeat (first | refine blk_drewN ?_ _ | refine blk_drew ?_ | refine blk_alloc ?_ _)); exact BK249.out)) : gb249 ≠ gb260)); have n12_ := Aside0.mk ((by rw [hg]; exact Nat.ne_of_gt (blk_lt (g := gb249) (o := .cells #[.slice Ao12 t242.length co12, .slice Ao14 t245.length co14] 28 (0, 0)) (by (with_reducible repeat (first | refine blk_drewN ?_ _ | refine blk_drew ?_ | refine blk_alloc ?_ _)); exact BK249.out)) : gb260 ≠ gb249)); clear HO241; clear HO244; clear HO247; clear HO252; clear HO255; clear HO258; clear BK249; clear HB; have HO241 := n0_; have HO244 := n1_; have HO247 := n2_; have HO252 := n3_; have HO255 := n4_; have HO258 := n5_; have BK249 := n6_; have HB := n7_; have BK260 := n8_; have GW260 := n9_; have GE260 := n10_; have NB249_260 := n11_; have NB260_249 := n12_; clear n0_ n1_ n2_ n3_ n4_ n5_ n6_ n7_ n8_ n9_ n10_ n11_ n12_; clear hb hbox hg; obtain ⟨Ao19, co19, eo19⟩ := Kd.R_slice HO255.out; subst eo19; have hnb20 := NB260_249.out; have hnc20 := NB249_260.out; have hcz21_0 : w18.cell? ⟨gb260, 0, none⟩ = some (.slice none 0 0) := (blk_cell BK260.out 0).trans rfl; have hcz21_1 : w18.cell? ⟨gb260, 1, none⟩ = some (.slice none 0 0) := (blk_cell BK260.out 1).trans rfl; have hfz21_0 := blk_frozen BK260.out 0; have hfz21_1 := blk_frozen BK260.out 1; obtain ⟨Ao22, co22, eo22⟩ := Kd.R_slice HO258.out; subst eo22))
    (try simp only [Act.put, List.setIfInBounds_toArray, List.set_cons_zero, List.set_cons_succ])
    go_cut [37] (fun v37 wc => ∃ (kq : Nat) (x37_6 : Bool), v37 = .bool x37_6 ∧ Aside0 (laws_FnExactFromPermutation.j0 kq l0 t248 t250 t259 x37_6 t242 t245 t253 t256 = some true) ∧ Aside0 (kq ≤ k) ∧ Aside0 (Kd.R (Kd.int .i64) 3 wc w.heap.size (fun k_ => some k_ ≠ ((.slice Ao12 t242.length co12) : Value).ownBlock ∧ some k_ ≠ ((.slice Ao14 t245.length co14) : Value).ownBlock ∧ some k_ ≠ ((.slice Ao19 t253.length co19) : Value).ownBlock ∧ some k_ ≠ ((.slice Ao22 t256.length co22) : Value).ownBlock) (.slice Ao16 t250.length co16) t250) ∧ Aside0 (Kd.R (Kd.int .i64) 3 wc w.heap.size (fun k_ => some k_ ≠ ((.slice Ao16 t250.length co16) : Value).ownBlock ∧ some k_ ≠ ((.slice Ao14 t245.length co14) : Value).ownBlock ∧ some k_ ≠ ((.slice Ao19 t253.length co19) : Value).ownBlock ∧ some k_ ≠ ((.slice Ao22 t256.length co22) : Value).ownBlock) (.slice Ao12 t242.length co12) t242) ∧ Aside0 (Kd.R (Kd.int .i64) 3 wc w.heap.size (fun k_ => some k_ ≠ ((.slice Ao16 t250.length co16) : Value).ownBlock ∧ some k_ ≠ ((.slice Ao12 t242.length co12) : Value).ownBlock ∧ some k_ ≠ ((.slice Ao19 t253.length co19) : Value).ownBlock ∧ some k_ ≠ ((.slice Ao22 t256.length co22) : Value).ownBlock) (.slice Ao14 t245.length co14) t245) ∧ Aside0 (Kd.R (Kd.int .i64) 3 wc w.heap.size (fun k_ => some k_ ≠ ((.slice Ao16 t250.length co16) : Value).ownBlock ∧ some k_ ≠ ((.slice Ao12 t242.length co12) : Value).ownBlock ∧ some k_ ≠ ((.slice Ao14 t245.length co14) : Value).ownBlock ∧ some k_ ≠ ((.slice Ao22 t256.length co22) : Value).ownBlock) (.slice Ao19 t253.length co19) t253) ∧ Aside0 (Kd.R (Kd.int .i64) 3 wc w.heap.size (fun k_ => some k_ ≠ ((.slice Ao16 t250.length co16) : Value).ownBlock ∧ some k_ ≠ ((.slice Ao12 t242.length co12) : Value).ownBlock ∧ some k_ ≠ ((.slice Ao14 t245.length co14) : Value).ownBlock ∧ some k_ ≠ ((.slice Ao19 t253.length co19) : Value).ownBlock) (.slice Ao22 t256.length co22) t256) ∧ Aside0 (wc.heap[gb249]? = some (.cells #[(.slice Ao12 t242.length co12), (.slice Ao14 t245.length co14)] 28 (0, 0))) ∧ Aside0 (wc.heap[gb260]? = some (.cells #[(.slice Ao19 t253.length co19), (.slice Ao22 t256.length co22)] 28 (0, 0))) ∧ Aside0 (Below w.heap.size w wc))
    case first =>
      have H := HC7.out
      clear HC7
      replace H := Option.bind_eq_some_iff.mp H
      obtain ⟨t261, A230, H⟩ := H
      replace H : (if t261 = true then (laws_FnExactFromPermutation.j0 k l0 t248 t250 t259 (t259 != t248) t242 t245 t253 t256) else (laws_FnExactFromPermutation.j0 k l0 t248 t250 t259 true t242 t245 t253 t256)) = some true := H
      have A23 := Aside0.mk A230
      clear A230
      by_cases c24 : t261 = true
      · subst c24
        have H1 : (laws_FnExactFromPermutation.j0 k l0 t248 t250 t259 (t259 != t248) t242 t245 t253 t256) = some true := by rw [if_pos rfl] at H; first | done | exact H
        clear H
        have H := H1
        clear H1
        have H' := Aside0.mk H
        clear H
        have hnb25 := NB260_249.out
        have hnc25 := NB249_260.out
        have hcz26_0 : w18.cell? ⟨gb260, 0, none⟩ = some (.slice none 0 0) := (blk_cell BK260.out 0).trans rfl
        have hcz26_1 : w18.cell? ⟨gb260, 1, none⟩ = some (.slice none 0 0) := (blk_cell BK260.out 1).trans rfl
        have hfz26_0 := blk_frozen BK260.out 0
        have hfz26_1 := blk_frozen BK260.out 1
        have hcz27_0 : w18.cell? ⟨gb249, 0, none⟩ = some (.slice Ao12 t242.length co12) := (blk_cell BK249.out 0).trans rfl
        have hcz27_1 : w18.cell? ⟨gb249, 1, none⟩ = some (.slice Ao14 t245.length co14) := (blk_cell BK249.out 1).trans rfl
        have hfz27_0 := blk_frozen BK249.out 0
        have hfz27_1 := blk_frozen BK249.out 1
        go_wp2_with (first | ((with_reducible refine gate_callee (f := 15) rfl ?_); refine goesL_ (some 31) rfl rfl Try.func15 (by kernel_rfl) rfl #[.agg #[.slice Ao19 t253.length co19, .slice Ao22 t256.length co22], .agg #[.slice Ao12 t242.length co12, .slice Ao14 t245.length co14]] rfl (by (try simp only [List.map_toArray, List.map_cons, List.map_nil]); first | done | rfl) ?_; (with_reducible refine (laws_eqMeander.calls k _ _ t253 _ _ t256 _ _ t242 _ _ t245 true _ ?side1 ?side2 ?side3 ?side4 ?side5 ?side6 ?side7 ?side8 A23.out).mono ?_); (case side1 => refine (Kd.R_reads' (e := 3) (base := w.heap.size) (ok := fun k_ => ((((some k_ ≠ (.slice Ao22 t256.length co22 : Value).ownBlock ∧ some k_ ≠ (.slice Ao9 t239.length co9 : Value).ownBlock) ∧ some k_ ≠ (.slice Ao12 t242.length co12 : Value).ownBlock) ∧ some k_ ≠ (.slice Ao14 t245.length co14 : Value).ownBlock) ∧ some k_ ≠ (.slice Ao16 t250.length co16 : Value).ownBlock)) (n := t253.length) (c := co19) ?_).2.2; exact (by (with_reducible repeat (first | apply Kd.R_alloc | apply Kd.R_drewN | apply Kd.R_drew)); exact (Kd.R_mono (Kd.R_far (p := ⟨gb260, 1, none⟩) (Kd.R_far (p := ⟨gb260, 0, none⟩) (Kd.R_types HO255.out BK260.out (by decide)) (fun _ hk => hk.2) (.slice Ao19 t253.length co19)) (fun _ hk => hk.2) (.slice Ao22 t256.length co22)) (fun _ h_ => h_.1)))); (case side2 => exact (Kd.R_reads' HO255.out).2.1); (case side3 => refine (Kd.R_reads' (e := 3) (base := w.heap.size) (ok := fun k_ => ((((some k_ ≠ (.slice Ao19 t253.length co19 : Value).ownBlock ∧ some k_ ≠ (.slice Ao9 t239.length co9 : Value).ownBlock) ∧ some k_ ≠ (.slice Ao12 t242.length co12 : Value).ownBlock) ∧ some k_ ≠ (.slice Ao14 t245.length co14 : Value).ownBlock) ∧ some k_ ≠ (.slice Ao16 t250.length co16 : Value).ownBlock)) (n := t256.length) (c := co22) ?_).2.2; exact (by (with_reducible repeat (first | apply Kd.R_alloc | apply Kd.R_drewN | apply Kd.R_drew)); exact (Kd.R_mono (Kd.R_far (p := ⟨gb260, 1, none⟩) (Kd.R_far (p := ⟨gb260, 0, none⟩) (Kd.R_types HO258.out BK260.out (by decide)) (fun _ hk => hk.2) (.slice Ao19 t253.length co19)) (fun _ hk => hk.2) (.slice Ao22 t256.length co22)) (fun _ h_ => h_.1)))); (case side4 => exact (Kd.R_reads' HO258.out).2.1); (case side5 => refine (Kd.R_reads' (e := 3) (base := w.heap.size) (ok := fun k_ => ((((some k_ ≠ (.slice Ao14 t245.length co14 : Value).ownBlock ∧ some k_ ≠ (.slice Ao9 t239.length co9 : Value).ownBlock) ∧ some k_ ≠ (.slice Ao16 t250.length co16 : Value).ownBlock) ∧ some k_ ≠ (.slice Ao19 t253.length co19 : Value).ownBlock) ∧ some k_ ≠ (.slice Ao22 t256.length co22 : Value).ownBlock)) (n := t242.length) (c := co12) ?_).2.2; exact (by (with_reducible repeat (first | apply Kd.R_alloc | apply Kd.R_drewN | apply Kd.R_drew)); exact (Kd.R_mono (Kd.R_far (p := ⟨gb260, 1, none⟩) (Kd.R_far (p := ⟨gb260, 0, none⟩) (Kd.R_types HO244.out BK260.out (by decide)) (fun _ hk => hk.2) (.slice Ao19 t253.length co19)) (fun _ hk => hk.2) (.slice Ao22 t256.length co22)) (fun _ h_ => h_.1)))); (case side6 => exact (Kd.R_reads' HO244.out).2.1); (case side7 => refine (Kd.R_reads' (e := 3) (base := w.heap.size) (ok := fun k_ => ((((some k_ ≠ (.slice Ao12 t242.length co12 : Value).ownBlock ∧ some k_ ≠ (.slice Ao9 t239.length co9 : Value).ownBlock) ∧ some k_ ≠ (.slice Ao16 t250.length co16 : Value).ownBlock) ∧ some k_ ≠ (.slice Ao19 t253.length co19 : Value).ownBlock) ∧ some k_ ≠ (.slice Ao22 t256.length co22 : Value).ownBlock)) (n := t245.length) (c := co14) ?_).2.2; exact (by (with_reducible repeat (first | apply Kd.R_alloc | apply Kd.R_drewN | apply Kd.R_drew)); exact (Kd.R_mono (Kd.R_far (p := ⟨gb260, 1, none⟩) (Kd.R_far (p := ⟨gb260, 0, none⟩) (Kd.R_types HO247.out BK260.out (by decide)) (fun _ hk => hk.2) (.slice Ao19 t253.length co19)) (fun _ hk => hk.2) (.slice Ao22 t256.length co22)) (fun _ h_ => h_.1)))); (case side8 => exact (Kd.R_reads' HO247.out).2.1); rintro e w28 ⟨rfl, hb⟩; refine ⟨_, rfl, ?_⟩; have n0_ := Aside0.mk (Kd.R_below (by (with_reducible repeat (first | apply Kd.R_alloc | apply Kd.R_drewN | apply Kd.R_drew)); exact (Kd.R_mono (Kd.R_far (p := ⟨gb260, 1, none⟩) (Kd.R_far (p := ⟨gb260, 0, none⟩) (Kd.R_types HO241.out BK260.out (by decide)) (fun _ hk => hk.2) (.slice Ao19 t253.length co19)) (fun _ hk => hk.2) (.slice Ao22 t256.length co22)) (fun _ h_ => h_.1))) hb); have n1_ := Aside0.mk (Kd.R_below (by (with_reducible repeat (first | apply Kd.R_alloc | apply Kd.R_drewN | apply Kd.R_drew)); exact (Kd.R_mono (Kd.R_far (p := ⟨gb260, 1, none⟩) (Kd.R_far (p := ⟨gb260, 0, none⟩) (Kd.R_types HO244.out BK260.out (by decide)) (fun _ hk => hk.2) (.slice Ao19 t253.length co19)) (fun _ hk => hk.2) (.slice Ao22 t256.length co22)) (fun _ h_ => h_.1))) hb); have n2_ := Aside0.mk (Kd.R_below (by (with_reducible repeat (first | apply Kd.R_alloc | apply Kd.R_drewN | apply Kd.R_drew)); exact (Kd.R_mono (Kd.R_far (p := ⟨gb260, 1, none⟩) (Kd.R_far (p := ⟨gb260, 0, none⟩) (Kd.R_types HO247.out BK260.out (by decide)) (fun _ hk => hk.2) (.slice Ao19 t253.length co19)) (fun _ hk => hk.2) (.slice Ao22 t256.length co22)) (fun _ h_ => h_.1))) hb); have n3_ := Aside0.mk (Kd.R_below (by (with_reducible repeat (first | apply Kd.R_alloc | apply Kd.R_drewN | apply Kd.R_drew)); exact (Kd.R_mono (Kd.R_far (p := ⟨gb260, 1, none⟩) (Kd.R_far (p := ⟨gb260, 0, none⟩) (Kd.R_types HO252.out BK260.out (by decide)) (fun _ hk => hk.2) (.slice Ao19 t253.length co19)) (fun _ hk => hk.2) (.slice Ao22 t256.length co22)) (fun _ h_ => h_.1))) hb); have n4_ := Aside0.mk (Kd.R_below (by (with_reducible repeat (first | apply Kd.R_alloc | apply Kd.R_drewN | apply Kd.R_drew)); exact (Kd.R_mono (Kd.R_far (p := ⟨gb260, 1, none⟩) (Kd.R_far (p := ⟨gb260, 0, none⟩) (Kd.R_types HO255.out BK260.out (by decide)) (fun _ hk => hk.2) (.slice Ao19 t253.length co19)) (fun _ hk => hk.2) (.slice Ao22 t256.length co22)) (fun _ h_ => h_.1))) hb); have n5_ := Aside0.mk (Kd.R_below (by (with_reducible repeat (first | apply Kd.R_alloc | apply Kd.R_drewN | apply Kd.R_drew)); exact (Kd.R_mono (Kd.R_far (p := ⟨gb260, 1, none⟩) (Kd.R_far (p := ⟨gb260, 0, none⟩) (Kd.R_types HO258.out BK260.out (by decide)) (fun _ hk => hk.2) (.slice Ao19 t253.length co19)) (fun _ hk => hk.2) (.slice Ao22 t256.length co22)) (fun _ h_ => h_.1))) hb); have n6_ := Aside0.mk (blk_below (g := gb249) (o := .cells #[.slice Ao12 t242.length co12, .slice Ao14 t245.length co14] 28 (0, 0)) (by (with_reducible repeat (first | refine blk_drewN ?_ _ | refine blk_drew ?_ | refine blk_alloc ?_ _)); refine blk_far ?_ NB249_260.out _; (with_reducible repeat (first | refine blk_drewN ?_ _ | refine blk_drew ?_ | refine blk_alloc ?_ _)); refine blk_far ?_ NB249_260.out _; (with_reducible repeat (first | refine blk_drewN ?_ _ | refine blk_drew ?_ | refine blk_alloc ?_ _)); exact BK249.out) hb); have n7_ := Aside0.mk (blk_below (g := gb260) (o := .cells #[.slice Ao19 t253.length co19, .slice Ao22 t256.length co22] 28 (0, 0)) (by (with_reducible repeat (first | refine blk_drewN ?_ _ | refine blk_drew ?_ | refine blk_alloc ?_ _)); refine blk_put (cs := #[.slice Ao19 t253.length co19, .slice none 0 0]) ?_ 1 _ rfl; (with_reducible repeat (first | refine blk_drewN ?_ _ | refine blk_drew ?_ | refine blk_alloc ?_ _)); refine blk_put (cs := #[.slice none 0 0, .slice none 0 0]) ?_ 0 _ rfl; (with_reducible repeat (first | refine blk_drewN ?_ _ | refine blk_drew ?_ | refine blk_alloc ?_ _)); exact BK260.out) hb); have n8_ := Aside0.mk (below_step (by repeat (first | (with_reducible first | exact HB.out | apply below_alloc | apply pw_below_drewN | apply below_drew1 | refine below_set ?_ GE249.out | refine below_set ?_ GE260.out) | exact HB.out)) hb); clear HO241; clear HO244; clear HO247; clear HO252; clear HO255; clear HO258; clear BK249; clear BK260; clear HB; have HO241 := n0_; have HO244 := n1_; have HO247 := n2_; have HO252 := n3_; have HO255 := n4_; have HO258 := n5_; have BK249 := n6_; have BK260 := n7_; have HB := n8_; clear n0_ n1_ n2_ n3_ n4_ n5_ n6_ n7_ n8_; (try clear hb); (try clear hb2); (try clear hk); (try clear hi)))
        go_meet
        case rel => exact ⟨_, ((t259 != t248)), (by first | rfl | simp | simp [*]), H', ⟨by first | omega | exact Nat.le_refl _⟩, ⟨by (with_reducible repeat (first | apply Kd.R_alloc | apply Kd.R_drewN | apply Kd.R_drew)); exact Kd.R_mono HO252.out (fun _ hk => ⟨hk.1.1.1.2, ⟨hk.1.1.2, ⟨hk.1.2, hk.2⟩⟩⟩)⟩, ⟨by (with_reducible repeat (first | apply Kd.R_alloc | apply Kd.R_drewN | apply Kd.R_drew)); exact Kd.R_mono HO244.out (fun _ hk => ⟨hk.1.1.2, ⟨hk.1.1.1.1, ⟨hk.1.2, hk.2⟩⟩⟩)⟩, ⟨by (with_reducible repeat (first | apply Kd.R_alloc | apply Kd.R_drewN | apply Kd.R_drew)); exact Kd.R_mono HO247.out (fun _ hk => ⟨hk.1.1.2, ⟨hk.1.1.1.1, ⟨hk.1.2, hk.2⟩⟩⟩)⟩, ⟨by (with_reducible repeat (first | apply Kd.R_alloc | apply Kd.R_drewN | apply Kd.R_drew)); exact Kd.R_mono HO255.out (fun _ hk => ⟨hk.2, ⟨hk.1.1.2, ⟨hk.1.2, hk.1.1.1.1⟩⟩⟩)⟩, ⟨by (with_reducible repeat (first | apply Kd.R_alloc | apply Kd.R_drewN | apply Kd.R_drew)); exact Kd.R_mono HO258.out (fun _ hk => ⟨hk.2, ⟨hk.1.1.2, ⟨hk.1.2, hk.1.1.1.1⟩⟩⟩)⟩, ⟨by (with_reducible repeat (first | refine blk_drewN ?_ _ | refine blk_drew ?_ | refine blk_alloc ?_ _)); exact BK249.out⟩, ⟨by (with_reducible repeat (first | refine blk_drewN ?_ _ | refine blk_drew ?_ | refine blk_alloc ?_ _)); exact BK260.out⟩, ⟨by repeat (first | (with_reducible first | exact HB.out | apply below_alloc | apply pw_below_drewN | apply below_drew1 | refine below_set ?_ GE249.out | refine below_set ?_ GE260.out) | exact HB.out)⟩⟩
      · replace c24 := Bool.eq_false_iff.mpr c24
        subst c24
        have H1 : (laws_FnExactFromPermutation.j0 k l0 t248 t250 t259 true t242 t245 t253 t256) = some true := by rw [if_neg (show ¬ (false = true) by decide)] at H; first | done | exact H
        clear H
        have H := H1
        clear H1
        have H' := Aside0.mk H
        clear H
        have hnb29 := NB260_249.out
        have hnc29 := NB249_260.out
        have hcz30_0 : w18.cell? ⟨gb260, 0, none⟩ = some (.slice none 0 0) := (blk_cell BK260.out 0).trans rfl
        have hcz30_1 : w18.cell? ⟨gb260, 1, none⟩ = some (.slice none 0 0) := (blk_cell BK260.out 1).trans rfl
        have hfz30_0 := blk_frozen BK260.out 0
        have hfz30_1 := blk_frozen BK260.out 1
        have hcz31_0 : w18.cell? ⟨gb249, 0, none⟩ = some (.slice Ao12 t242.length co12) := (blk_cell BK249.out 0).trans rfl
        have hcz31_1 : w18.cell? ⟨gb249, 1, none⟩ = some (.slice Ao14 t245.length co14) := (blk_cell BK249.out 1).trans rfl
        have hfz31_0 := blk_frozen BK249.out 0
        have hfz31_1 := blk_frozen BK249.out 1
        go_wp2_with (first | ((with_reducible refine gate_callee (f := 15) rfl ?_); refine goesL_ (some 31) rfl rfl Try.func15 (by kernel_rfl) rfl #[.agg #[.slice Ao19 t253.length co19, .slice Ao22 t256.length co22], .agg #[.slice Ao12 t242.length co12, .slice Ao14 t245.length co14]] rfl (by (try simp only [List.map_toArray, List.map_cons, List.map_nil]); first | done | rfl) ?_; (with_reducible refine (laws_eqMeander.calls k _ _ t253 _ _ t256 _ _ t242 _ _ t245 false _ ?side1 ?side2 ?side3 ?side4 ?side5 ?side6 ?side7 ?side8 A23.out).mono ?_); (case side1 => refine (Kd.R_reads' (e := 3) (base := w.heap.size) (ok := fun k_ => ((((some k_ ≠ (.slice Ao22 t256.length co22 : Value).ownBlock ∧ some k_ ≠ (.slice Ao9 t239.length co9 : Value).ownBlock) ∧ some k_ ≠ (.slice Ao12 t242.length co12 : Value).ownBlock) ∧ some k_ ≠ (.slice Ao14 t245.length co14 : Value).ownBlock) ∧ some k_ ≠ (.slice Ao16 t250.length co16 : Value).ownBlock)) (n := t253.length) (c := co19) ?_).2.2; exact (by (with_reducible repeat (first | apply Kd.R_alloc | apply Kd.R_drewN | apply Kd.R_drew)); exact (Kd.R_mono (Kd.R_far (p := ⟨gb260, 1, none⟩) (Kd.R_far (p := ⟨gb260, 0, none⟩) (Kd.R_types HO255.out BK260.out (by decide)) (fun _ hk => hk.2) (.slice Ao19 t253.length co19)) (fun _ hk => hk.2) (.slice Ao22 t256.length co22)) (fun _ h_ => h_.1)))); (case side2 => exact (Kd.R_reads' HO255.out).2.1); (case side3 => refine (Kd.R_reads' (e := 3) (base := w.heap.size) (ok := fun k_ => ((((some k_ ≠ (.slice Ao19 t253.length co19 : Value).ownBlock ∧ some k_ ≠ (.slice Ao9 t239.length co9 : Value).ownBlock) ∧ some k_ ≠ (.slice Ao12 t242.length co12 : Value).ownBlock) ∧ some k_ ≠ (.slice Ao14 t245.length co14 : Value).ownBlock) ∧ some k_ ≠ (.slice Ao16 t250.length co16 : Value).ownBlock)) (n := t256.length) (c := co22) ?_).2.2; exact (by (with_reducible repeat (first | apply Kd.R_alloc | apply Kd.R_drewN | apply Kd.R_drew)); exact (Kd.R_mono (Kd.R_far (p := ⟨gb260, 1, none⟩) (Kd.R_far (p := ⟨gb260, 0, none⟩) (Kd.R_types HO258.out BK260.out (by decide)) (fun _ hk => hk.2) (.slice Ao19 t253.length co19)) (fun _ hk => hk.2) (.slice Ao22 t256.length co22)) (fun _ h_ => h_.1)))); (case side4 => exact (Kd.R_reads' HO258.out).2.1); (case side5 => refine (Kd.R_reads' (e := 3) (base := w.heap.size) (ok := fun k_ => ((((some k_ ≠ (.slice Ao14 t245.length co14 : Value).ownBlock ∧ some k_ ≠ (.slice Ao9 t239.length co9 : Value).ownBlock) ∧ some k_ ≠ (.slice Ao16 t250.length co16 : Value).ownBlock) ∧ some k_ ≠ (.slice Ao19 t253.length co19 : Value).ownBlock) ∧ some k_ ≠ (.slice Ao22 t256.length co22 : Value).ownBlock)) (n := t242.length) (c := co12) ?_).2.2; exact (by (with_reducible repeat (first | apply Kd.R_alloc | apply Kd.R_drewN | apply Kd.R_drew)); exact (Kd.R_mono (Kd.R_far (p := ⟨gb260, 1, none⟩) (Kd.R_far (p := ⟨gb260, 0, none⟩) (Kd.R_types HO244.out BK260.out (by decide)) (fun _ hk => hk.2) (.slice Ao19 t253.length co19)) (fun _ hk => hk.2) (.slice Ao22 t256.length co22)) (fun _ h_ => h_.1)))); (case side6 => exact (Kd.R_reads' HO244.out).2.1); (case side7 => refine (Kd.R_reads' (e := 3) (base := w.heap.size) (ok := fun k_ => ((((some k_ ≠ (.slice Ao12 t242.length co12 : Value).ownBlock ∧ some k_ ≠ (.slice Ao9 t239.length co9 : Value).ownBlock) ∧ some k_ ≠ (.slice Ao16 t250.length co16 : Value).ownBlock) ∧ some k_ ≠ (.slice Ao19 t253.length co19 : Value).ownBlock) ∧ some k_ ≠ (.slice Ao22 t256.length co22 : Value).ownBlock)) (n := t245.length) (c := co14) ?_).2.2; exact (by (with_reducible repeat (first | apply Kd.R_alloc | apply Kd.R_drewN | apply Kd.R_drew)); exact (Kd.R_mono (Kd.R_far (p := ⟨gb260, 1, none⟩) (Kd.R_far (p := ⟨gb260, 0, none⟩) (Kd.R_types HO247.out BK260.out (by decide)) (fun _ hk => hk.2) (.slice Ao19 t253.length co19)) (fun _ hk => hk.2) (.slice Ao22 t256.length co22)) (fun _ h_ => h_.1)))); (case side8 => exact (Kd.R_reads' HO247.out).2.1); rintro e w32 ⟨rfl, hb⟩; refine ⟨_, rfl, ?_⟩; have n0_ := Aside0.mk (Kd.R_below (by (with_reducible repeat (first | apply Kd.R_alloc | apply Kd.R_drewN | apply Kd.R_drew)); exact (Kd.R_mono (Kd.R_far (p := ⟨gb260, 1, none⟩) (Kd.R_far (p := ⟨gb260, 0, none⟩) (Kd.R_types HO241.out BK260.out (by decide)) (fun _ hk => hk.2) (.slice Ao19 t253.length co19)) (fun _ hk => hk.2) (.slice Ao22 t256.length co22)) (fun _ h_ => h_.1))) hb); have n1_ := Aside0.mk (Kd.R_below (by (with_reducible repeat (first | apply Kd.R_alloc | apply Kd.R_drewN | apply Kd.R_drew)); exact (Kd.R_mono (Kd.R_far (p := ⟨gb260, 1, none⟩) (Kd.R_far (p := ⟨gb260, 0, none⟩) (Kd.R_types HO244.out BK260.out (by decide)) (fun _ hk => hk.2) (.slice Ao19 t253.length co19)) (fun _ hk => hk.2) (.slice Ao22 t256.length co22)) (fun _ h_ => h_.1))) hb); have n2_ := Aside0.mk (Kd.R_below (by (with_reducible repeat (first | apply Kd.R_alloc | apply Kd.R_drewN | apply Kd.R_drew)); exact (Kd.R_mono (Kd.R_far (p := ⟨gb260, 1, none⟩) (Kd.R_far (p := ⟨gb260, 0, none⟩) (Kd.R_types HO247.out BK260.out (by decide)) (fun _ hk => hk.2) (.slice Ao19 t253.length co19)) (fun _ hk => hk.2) (.slice Ao22 t256.length co22)) (fun _ h_ => h_.1))) hb); have n3_ := Aside0.mk (Kd.R_below (by (with_reducible repeat (first | apply Kd.R_alloc | apply Kd.R_drewN | apply Kd.R_drew)); exact (Kd.R_mono (Kd.R_far (p := ⟨gb260, 1, none⟩) (Kd.R_far (p := ⟨gb260, 0, none⟩) (Kd.R_types HO252.out BK260.out (by decide)) (fun _ hk => hk.2) (.slice Ao19 t253.length co19)) (fun _ hk => hk.2) (.slice Ao22 t256.length co22)) (fun _ h_ => h_.1))) hb); have n4_ := Aside0.mk (Kd.R_below (by (with_reducible repeat (first | apply Kd.R_alloc | apply Kd.R_drewN | apply Kd.R_drew)); exact (Kd.R_mono (Kd.R_far (p := ⟨gb260, 1, none⟩) (Kd.R_far (p := ⟨gb260, 0, none⟩) (Kd.R_types HO255.out BK260.out (by decide)) (fun _ hk => hk.2) (.slice Ao19 t253.length co19)) (fun _ hk => hk.2) (.slice Ao22 t256.length co22)) (fun _ h_ => h_.1))) hb); have n5_ := Aside0.mk (Kd.R_below (by (with_reducible repeat (first | apply Kd.R_alloc | apply Kd.R_drewN | apply Kd.R_drew)); exact (Kd.R_mono (Kd.R_far (p := ⟨gb260, 1, none⟩) (Kd.R_far (p := ⟨gb260, 0, none⟩) (Kd.R_types HO258.out BK260.out (by decide)) (fun _ hk => hk.2) (.slice Ao19 t253.length co19)) (fun _ hk => hk.2) (.slice Ao22 t256.length co22)) (fun _ h_ => h_.1))) hb); have n6_ := Aside0.mk (blk_below (g := gb249) (o := .cells #[.slice Ao12 t242.length co12, .slice Ao14 t245.length co14] 28 (0, 0)) (by (with_reducible repeat (first | refine blk_drewN ?_ _ | refine blk_drew ?_ | refine blk_alloc ?_ _)); refine blk_far ?_ NB249_260.out _; (with_reducible repeat (first | refine blk_drewN ?_ _ | refine blk_drew ?_ | refine blk_alloc ?_ _)); refine blk_far ?_ NB249_260.out _; (with_reducible repeat (first | refine blk_drewN ?_ _ | refine blk_drew ?_ | refine blk_alloc ?_ _)); exact BK249.out) hb); have n7_ := Aside0.mk (blk_below (g := gb260) (o := .cells #[.slice Ao19 t253.length co19, .slice Ao22 t256.length co22] 28 (0, 0)) (by (with_reducible repeat (first | refine blk_drewN ?_ _ | refine blk_drew ?_ | refine blk_alloc ?_ _)); refine blk_put (cs := #[.slice Ao19 t253.length co19, .slice none 0 0]) ?_ 1 _ rfl; (with_reducible repeat (first | refine blk_drewN ?_ _ | refine blk_drew ?_ | refine blk_alloc ?_ _)); refine blk_put (cs := #[.slice none 0 0, .slice none 0 0]) ?_ 0 _ rfl; (with_reducible repeat (first | refine blk_drewN ?_ _ | refine blk_drew ?_ | refine blk_alloc ?_ _)); exact BK260.out) hb); have n8_ := Aside0.mk (below_step (by repeat (first | (with_reducible first | exact HB.out | apply below_alloc | apply pw_below_drewN | apply below_drew1 | refine below_set ?_ GE249.out | refine below_set ?_ GE260.out) | exact HB.out)) hb); clear HO241; clear HO244; clear HO247; clear HO252; clear HO255; clear HO258; clear BK249; clear BK260; clear HB; have HO241 := n0_; have HO244 := n1_; have HO247 := n2_; have HO252 := n3_; have HO255 := n4_; have HO258 := n5_; have BK249 := n6_; have BK260 := n7_; have HB := n8_; clear n0_ n1_ n2_ n3_ n4_ n5_ n6_ n7_ n8_; (try clear hb); (try clear hb2); (try clear hk); (try clear hi)))
        go_meet
        case rel => exact ⟨_, (true), (by first | rfl | simp | simp [*]), H', ⟨by first | omega | exact Nat.le_refl _⟩, ⟨by (with_reducible repeat (first | apply Kd.R_alloc | apply Kd.R_drewN | apply Kd.R_drew)); exact Kd.R_mono HO252.out (fun _ hk => ⟨hk.1.1.1.2, ⟨hk.1.1.2, ⟨hk.1.2, hk.2⟩⟩⟩)⟩, ⟨by (with_reducible repeat (first | apply Kd.R_alloc | apply Kd.R_drewN | apply Kd.R_drew)); exact Kd.R_mono HO244.out (fun _ hk => ⟨hk.1.1.2, ⟨hk.1.1.1.1, ⟨hk.1.2, hk.2⟩⟩⟩)⟩, ⟨by (with_reducible repeat (first | apply Kd.R_alloc | apply Kd.R_drewN | apply Kd.R_drew)); exact Kd.R_mono HO247.out (fun _ hk => ⟨hk.1.1.2, ⟨hk.1.1.1.1, ⟨hk.1.2, hk.2⟩⟩⟩)⟩, ⟨by (with_reducible repeat (first | apply Kd.R_alloc | apply Kd.R_drewN | apply Kd.R_drew)); exact Kd.R_mono HO255.out (fun _ hk => ⟨hk.2, ⟨hk.1.1.2, ⟨hk.1.2, hk.1.1.1.1⟩⟩⟩)⟩, ⟨by (with_reducible repeat (first | apply Kd.R_alloc | apply Kd.R_drewN | apply Kd.R_drew)); exact Kd.R_mono HO258.out (fun _ hk => ⟨hk.2, ⟨hk.1.1.2, ⟨hk.1.2, hk.1.1.1.1⟩⟩⟩)⟩, ⟨by (with_reducible repeat (first | refine blk_drewN ?_ _ | refine blk_drew ?_ | refine blk_alloc ?_ _)); exact BK249.out⟩, ⟨by (with_reducible repeat (first | refine blk_drewN ?_ _ | refine blk_drew ?_ | refine blk_alloc ?_ _)); exact BK260.out⟩, ⟨by repeat (first | (with_reducible first | exact HB.out | apply below_alloc | apply pw_below_drewN | apply below_drew1 | refine below_set ?_ GE249.out | refine below_set ?_ GE260.out) | exact HB.out)⟩⟩
    case rest =>
      clear HC7
      try clear c1
      try clear c2
      try clear c2b0
      try clear c2b1
      try clear p2
      try clear c5
      try clear c15
      try clear c20
      try clear c24
      try clear c25
      try clear c26
      try clear c29
      try clear hcz13_0
      try clear hcz13_1
      try clear hcz21_0
      try clear hcz21_1
      try clear hcz26_0
      try clear hcz26_1
      try clear hcz27_0
      try clear hcz27_1
      try clear hcz30_0
      try clear hcz30_1
      try clear hcz31_0
      try clear hcz31_1
      try clear hfz13_0
      try clear hfz13_1
      try clear hfz21_0
      try clear hfz21_1
      try clear hfz26_0
      try clear hfz26_1
      try clear hfz27_0
      try clear hfz27_1
      try clear hfz30_0
      try clear hfz30_1
      try clear hfz31_0
      try clear hfz31_1
      obtain ⟨kq, x37_6, rfl, HA, HJ6, HO_5, HO_250000, HO_250001, HO_261000, HO_261001, BK249, BK260, HB⟩ := hcut
      cases kq with
      | zero => exact absurd HA.out (by simp [laws_FnExactFromPermutation.j0])
      | succ kj6 =>
        have H := HA.out
        clear HA
        simp only [laws_FnExactFromPermutation.j0] at H
        by_cases c33 : x37_6 = true
        · subst c33
          have H1 : (some false) = some true := by rw [if_pos rfl] at H; first | done | exact H
          clear H
          have H := H1
          clear H1
          exact absurd H (by simp)
        · replace c33 := Bool.eq_false_iff.mpr c33
          subst c33
          have H1 : ((laws_toIntS.f kj6 l0).bind fun t262 => ((laws_eqIntS.f kj6 t250 t262).bind fun t265 => (if t265 = true then ((laws_markIntS.f kj6 t250 1).bind fun bt266 => (if bt266.1 < 0 then (laws_FnExactFromPermutation.j1 kj6 l0 t248 true t242 t245 t253 t256) else ((laws_eqMeander.f kj6 t253 t256 t242 t245).bind fun t268 => (if t268 = true then (laws_FnExactFromPermutation.j1 kj6 l0 t248 (t259 != t248) t242 t245 t253 t256) else (laws_FnExactFromPermutation.j1 kj6 l0 t248 true t242 t245 t253 t256))))) else (some false)))) = some true := by rw [if_neg (show ¬ (false = true) by decide)] at H; first | done | exact H
          clear H
          have H := H1
          clear H1
          replace H := Option.bind_eq_some_iff.mp H
          obtain ⟨t262, A340, H⟩ := H
          replace H : ((laws_eqIntS.f kj6 t250 t262).bind fun t265 => (if t265 = true then ((laws_markIntS.f kj6 t250 1).bind fun bt266 => (if bt266.1 < 0 then (laws_FnExactFromPermutation.j1 kj6 l0 t248 true t242 t245 t253 t256) else ((laws_eqMeander.f kj6 t253 t256 t242 t245).bind fun t268 => (if t268 = true then (laws_FnExactFromPermutation.j1 kj6 l0 t248 (t259 != t248) t242 t245 t253 t256) else (laws_FnExactFromPermutation.j1 kj6 l0 t248 true t242 t245 t253 t256))))) else (some false))) = some true := H
          have A34 := Aside0.mk A340
          clear A340
          replace H := Option.bind_eq_some_iff.mp H
          obtain ⟨t265, A350, H⟩ := H
          replace H : (if t265 = true then ((laws_markIntS.f kj6 t250 1).bind fun bt266 => (if bt266.1 < 0 then (laws_FnExactFromPermutation.j1 kj6 l0 t248 true t242 t245 t253 t256) else ((laws_eqMeander.f kj6 t253 t256 t242 t245).bind fun t268 => (if t268 = true then (laws_FnExactFromPermutation.j1 kj6 l0 t248 (t259 != t248) t242 t245 t253 t256) else (laws_FnExactFromPermutation.j1 kj6 l0 t248 true t242 t245 t253 t256))))) else (some false)) = some true := H
          have A35 := Aside0.mk A350
          clear A350
          by_cases c36 : t265 = true
          · subst c36
            have H1 : ((laws_markIntS.f kj6 t250 1).bind fun bt266 => (if bt266.1 < 0 then (laws_FnExactFromPermutation.j1 kj6 l0 t248 true t242 t245 t253 t256) else ((laws_eqMeander.f kj6 t253 t256 t242 t245).bind fun t268 => (if t268 = true then (laws_FnExactFromPermutation.j1 kj6 l0 t248 (t259 != t248) t242 t245 t253 t256) else (laws_FnExactFromPermutation.j1 kj6 l0 t248 true t242 t245 t253 t256))))) = some true := by rw [if_pos rfl] at H; first | done | exact H
            clear H
            have H := H1
            clear H1
            replace H := Option.bind_eq_some_iff.mp H
            obtain ⟨⟨t266, t267⟩, A370, H⟩ := H
            replace H : (if t266 < 0 then (laws_FnExactFromPermutation.j1 kj6 l0 t248 true t242 t245 t253 t256) else ((laws_eqMeander.f kj6 t253 t256 t242 t245).bind fun t268 => (if t268 = true then (laws_FnExactFromPermutation.j1 kj6 l0 t248 (t259 != t248) t242 t245 t253 t256) else (laws_FnExactFromPermutation.j1 kj6 l0 t248 true t242 t245 t253 t256)))) = some true := H
            have A37 := Aside0.mk A370
            clear A370
            have HC38 := Aside0.mk H
            clear H
            go_upto_region 12 with (first | ((with_reducible refine gate_callee (f := 25) rfl ?_); refine goesL_ (some 40) rfl rfl Try.func25 (by kernel_rfl) rfl #[.slice A0 l0.length c0] rfl (by (try simp only [List.map_toArray, List.map_cons, List.map_nil]); first | done | rfl) ?_; (with_reducible refine (laws_toIntS.calls kj6 _ _ l0 t262 _ ?side1 ?side2 A34.out).mono ?_); (case side1 => repeat (first | exact (Kd.C_below HR0.out HB.out) | (with_reducible refine Kd.C_alloc ?_ _) | (with_reducible refine Kd.C_drewN ?_ _) | (with_reducible refine Kd.C_drew ?_))); (case side2 => exact HC0.out); rintro e w39 ⟨v263, rfl, ho0, hb⟩; refine ⟨_, rfl, ?_⟩; have n0_ := Aside0.mk (Kd.R_elder' (by (with_reducible repeat (first | apply Kd.R_alloc | apply Kd.R_drewN | apply Kd.R_drew)); exact HO_5.out) (Kd.R_base ho0) hb); have n1_ := Aside0.mk (Kd.R_elder' (by (with_reducible repeat (first | apply Kd.R_alloc | apply Kd.R_drewN | apply Kd.R_drew)); exact HO_250000.out) (Kd.R_base ho0) hb); have n2_ := Aside0.mk (Kd.R_elder' (by (with_reducible repeat (first | apply Kd.R_alloc | apply Kd.R_drewN | apply Kd.R_drew)); exact HO_250001.out) (Kd.R_base ho0) hb); have n3_ := Aside0.mk (Kd.R_elder' (by (with_reducible repeat (first | apply Kd.R_alloc | apply Kd.R_drewN | apply Kd.R_drew)); exact HO_261000.out) (Kd.R_base ho0) hb); have n4_ := Aside0.mk (Kd.R_elder' (by (with_reducible repeat (first | apply Kd.R_alloc | apply Kd.R_drewN | apply Kd.R_drew)); exact HO_261001.out) (Kd.R_base ho0) hb); have n5_ := Aside0.mk (Kd.R_lower (Kd.R_new' (Kd.R_new' (Kd.R_new' (Kd.R_new' (Kd.R_new' ho0 (Kd.R_lt (by (with_reducible repeat (first | apply Kd.R_alloc | apply Kd.R_drewN | apply Kd.R_drew)); exact HO_5.out))) (Kd.R_lt (by (with_reducible repeat (first | apply Kd.R_alloc | apply Kd.R_drewN | apply Kd.R_drew)); exact HO_250000.out))) (Kd.R_lt (by (with_reducible repeat (first | apply Kd.R_alloc | apply Kd.R_drewN | apply Kd.R_drew)); exact HO_250001.out))) (Kd.R_lt (by (with_reducible repeat (first | apply Kd.R_alloc | apply Kd.R_drewN | apply Kd.R_drew)); exact HO_261000.out))) (Kd.R_lt (by (with_reducible repeat (first | apply Kd.R_alloc | apply Kd.R_drewN | apply Kd.R_drew)); exact HO_261001.out))) (below_size (by repeat (first | (with_reducible first | exact HB.out | apply below_alloc | apply pw_below_drewN | apply below_drew1 | refine below_set ?_ GE249.out | refine below_set ?_ GE260.out) | exact HB.out)))); have n6_ := Aside0.mk (blk_below (g := gb249) (o := .cells #[.slice Ao12 t242.length co12, .slice Ao14 t245.length co14] 28 (0, 0)) (by (with_reducible repeat (first | refine blk_drewN ?_ _ | refine blk_drew ?_ | refine blk_alloc ?_ _)); exact BK249.out) hb); have n7_ := Aside0.mk (blk_below (g := gb260) (o := .cells #[.slice Ao19 t253.length co19, .slice Ao22 t256.length co22] 28 (0, 0)) (by (with_reducible repeat (first | refine blk_drewN ?_ _ | refine blk_drew ?_ | refine blk_alloc ?_ _)); exact BK260.out) hb); have n8_ := Aside0.mk (below_step (by repeat (first | (with_reducible first | exact HB.out | apply below_alloc | apply pw_below_drewN | apply below_drew1 | refine below_set ?_ GE249.out | refine below_set ?_ GE260.out) | exact HB.out)) hb); clear HO_5; clear HO_250000; clear HO_250001; clear HO_261000; clear HO_261001; clear BK249; clear BK260; clear HB; have HO_5 := n0_; have HO_250000 := n1_; have HO_250001 := n2_; have HO_261000 := n3_; have HO_261001 := n4_; have HO264 := n5_; have BK249 := n6_; have BK260 := n7_; have HB := n8_; clear n0_ n1_ n2_ n3_ n4_ n5_ n6_ n7_ n8_; (try clear hb); (try clear hb2); (try clear hk); (try clear hi); (try clear ho0); obtain ⟨Ao40, co40, eo40⟩ := Kd.R_slice HO264.out; subst eo40) | ((with_reducible refine gate_callee (f := 14) rfl ?_); refine goesL_ (some 41) rfl rfl Try.func14 (by kernel_rfl) rfl #[.slice Ao16 t250.length co16, .slice Ao40 t262.length co40] rfl (by (try simp only [List.map_toArray, List.map_cons, List.map_nil]); first | done | rfl) ?_; (with_reducible refine (laws_eqIntS.calls kj6 _ _ t250 _ _ t262 true _ ?side1 ?side2 ?side3 ?side4 A35.out).mono ?_); (case side1 => repeat (first | exact (Kd.R_reads' HO_5.out).2.2 | (with_reducible refine Kd.C_alloc ?_ _) | (with_reducible refine Kd.C_drewN ?_ _) | (with_reducible refine Kd.C_drew ?_))); (case side2 => exact (Kd.R_reads' HO_5.out).2.1); (case side3 => repeat (first | exact (Kd.R_reads' HO264.out).2.2 | (with_reducible refine Kd.C_alloc ?_ _) | (with_reducible refine Kd.C_drewN ?_ _) | (with_reducible refine Kd.C_drew ?_))); (case side4 => exact (Kd.R_reads' HO264.out).2.1); rintro e w' ⟨rfl, ⟨nd, rfl⟩⟩; refine ⟨_, rfl, ?_⟩) | ((with_reducible refine gate_callee (f := 17) rfl ?_); refine goesL_ (some 45) rfl rfl Try.func17 (by kernel_rfl) rfl #[.slice Ao16 t250.length co16, .int .i64 1] rfl (by (try simp only [List.map_toArray, List.map_cons, List.map_nil]); first | done | rfl) ?_; (with_reducible refine (laws_markIntS.calls kj6 (fun k_ => some k_ = (.slice Ao16 t250.length co16 : Value).ownBlock) (.slice Ao16 t250.length co16) t250 1 t266 t267 w _ ?side1 ?side2 A37.out).mono ?_); (case side1 => repeat (first | (with_reducible first | exact HB.out | apply below_alloc | apply pw_below_drewN | apply below_drew1 | refine below_set ?_ GE249.out | refine below_set ?_ GE260.out) | exact HB.out)); (case side2 => exact Kd.R_tight rfl HO_5.out); rintro e w41 ⟨rfl, hy0, hb, hkp⟩; refine ⟨_, rfl, ?_⟩; have n0_ := Aside0.mk (Kd.R_reok rfl hy0 (fun k_ e_ => HO_5.out.1 k_ e_)); have n1_ := Aside0.mk (Kd.R_mono (ok' := fun k_ => some k_ ≠ (.slice Ao16 t250.length co16 : Value).ownBlock ∧ some k_ ≠ (.slice Ao14 t245.length co14 : Value).ownBlock ∧ some k_ ≠ (.slice Ao19 t253.length co19 : Value).ownBlock ∧ some k_ ≠ (.slice Ao22 t256.length co22 : Value).ownBlock ∧ some k_ ≠ (.slice Ao40 t262.length co40 : Value).ownBlock) (Kd.R_keptB (HO_250000.out) hkp (fun k_ hk_ hs_ => (hk_.1.1) hs_)) (fun k_ hk_ => ⟨hk_.1.1.1, hk_.1.1.2.1, hk_.1.1.2.2.1, hk_.1.1.2.2.2, hk_.1.2⟩)); have n2_ := Aside0.mk (Kd.R_mono (ok' := fun k_ => some k_ ≠ (.slice Ao16 t250.length co16 : Value).ownBlock ∧ some k_ ≠ (.slice Ao12 t242.length co12 : Value).ownBlock ∧ some k_ ≠ (.slice Ao19 t253.length co19 : Value).ownBlock ∧ some k_ ≠ (.slice Ao22 t256.length co22 : Value).ownBlock ∧ some k_ ≠ (.slice Ao40 t262.length co40 : Value).ownBlock) (Kd.R_keptB (HO_250001.out) hkp (fun k_ hk_ hs_ => (hk_.1.1) hs_)) (fun k_ hk_ => ⟨hk_.1.1.1, hk_.1.1.2.1, hk_.1.1.2.2.1, hk_.1.1.2.2.2, hk_.1.2⟩)); have n3_ := Aside0.mk (Kd.R_mono (ok' := fun k_ => some k_ ≠ (.slice Ao16 t250.length co16 : Value).ownBlock ∧ some k_ ≠ (.slice Ao12 t242.length co12 : Value).ownBlock ∧ some k_ ≠ (.slice Ao14 t245.length co14 : Value).ownBlock ∧ some k_ ≠ (.slice Ao22 t256.length co22 : Value).ownBlock ∧ some k_ ≠ (.slice Ao40 t262.length co40 : Value).ownBlock) (Kd.R_keptB (HO_261000.out) hkp (fun k_ hk_ hs_ => (hk_.1.1) hs_)) (fun k_ hk_ => ⟨hk_.1.1.1, hk_.1.1.2.1, hk_.1.1.2.2.1, hk_.1.1.2.2.2, hk_.1.2⟩)); have n4_ := Aside0.mk (Kd.R_mono (ok' := fun k_ => some k_ ≠ (.slice Ao16 t250.length co16 : Value).ownBlock ∧ some k_ ≠ (.slice Ao12 t242.length co12 : Value).ownBlock ∧ some k_ ≠ (.slice Ao14 t245.length co14 : Value).ownBlock ∧ some k_ ≠ (.slice Ao19 t253.length co19 : Value).ownBlock ∧ some k_ ≠ (.slice Ao40 t262.length co40 : Value).ownBlock) (Kd.R_keptB (HO_261001.out) hkp (fun k_ hk_ hs_ => (hk_.1.1) hs_)) (fun k_ hk_ => ⟨hk_.1.1.1, hk_.1.1.2.1, hk_.1.1.2.2.1, hk_.1.1.2.2.2, hk_.1.2⟩)); have n5_ := Aside0.mk (blk_kept (by (with_reducible repeat (first | refine blk_drewN ?_ _ | refine blk_drew ?_ | refine blk_alloc ?_ _)); exact BK249.out) hkp (fun hs_ => (fun e_ => (Kd.R_ne HO_5.out BK249.out (by decide)) e_) hs_)); have n6_ := Aside0.mk (blk_kept (by (with_reducible repeat (first | refine blk_drewN ?_ _ | refine blk_drew ?_ | refine blk_alloc ?_ _)); exact BK260.out) hkp (fun hs_ => (fun e_ => (Kd.R_ne HO_5.out BK260.out (by decide)) e_) hs_)); have n7_ := Aside0.mk (Kd.R_mono (ok' := fun k_ => some k_ ≠ (.slice Ao16 t250.length co16 : Value).ownBlock ∧ some k_ ≠ (.slice Ao12 t242.length co12 : Value).ownBlock ∧ some k_ ≠ (.slice Ao14 t245.length co14 : Value).ownBlock ∧ some k_ ≠ (.slice Ao19 t253.length co19 : Value).ownBlock ∧ some k_ ≠ (.slice Ao22 t256.length co22 : Value).ownBlock) (Kd.R_keptB (HO264.out) hkp (fun k_ hk_ hs_ => (hk_.1.1.1.1.2) hs_)) (fun k_ hk_ => ⟨hk_.1.1.1.1.1.2, hk_.1.1.1.1.2, hk_.1.1.1.2, hk_.1.1.2, hk_.1.2⟩)); have n8_ := Aside0.mk (hb); clear HO_5; clear HO_250000; clear HO_250001; clear HO_261000; clear HO_261001; clear BK249; clear BK260; clear HO264; clear HB; have HO_5 := n0_; have HO_250000 := n1_; have HO_250001 := n2_; have HO_261000 := n3_; have HO_261001 := n4_; have BK249 := n5_; have BK260 := n6_; have HO264 := n7_; have HB := n8_; clear n0_ n1_ n2_ n3_ n4_ n5_ n6_ n7_ n8_; (try clear hb); (try clear hkp); (try clear hy0)))
            (try simp only [Act.put, List.setIfInBounds_toArray, List.set_cons_zero, List.set_cons_succ])
            go_cut [58] (fun v58 wc => ∃ (kq : Nat) (x58_37 : Bool), v58 = .bool x58_37 ∧ Aside0 (laws_FnExactFromPermutation.j1 kq l0 t248 x58_37 t242 t245 t253 t256 = some true) ∧ Aside0 (kq ≤ kj6) ∧ Aside0 (Kd.R (Kd.int .i64) 3 wc w.heap.size (fun k_ => some k_ ≠ ((.slice Ao14 t245.length co14) : Value).ownBlock ∧ some k_ ≠ ((.slice Ao19 t253.length co19) : Value).ownBlock ∧ some k_ ≠ ((.slice Ao22 t256.length co22) : Value).ownBlock) (.slice Ao12 t242.length co12) t242) ∧ Aside0 (Kd.R (Kd.int .i64) 3 wc w.heap.size (fun k_ => some k_ ≠ ((.slice Ao12 t242.length co12) : Value).ownBlock ∧ some k_ ≠ ((.slice Ao19 t253.length co19) : Value).ownBlock ∧ some k_ ≠ ((.slice Ao22 t256.length co22) : Value).ownBlock) (.slice Ao14 t245.length co14) t245) ∧ Aside0 (Kd.R (Kd.int .i64) 3 wc w.heap.size (fun k_ => some k_ ≠ ((.slice Ao12 t242.length co12) : Value).ownBlock ∧ some k_ ≠ ((.slice Ao14 t245.length co14) : Value).ownBlock ∧ some k_ ≠ ((.slice Ao22 t256.length co22) : Value).ownBlock) (.slice Ao19 t253.length co19) t253) ∧ Aside0 (Kd.R (Kd.int .i64) 3 wc w.heap.size (fun k_ => some k_ ≠ ((.slice Ao12 t242.length co12) : Value).ownBlock ∧ some k_ ≠ ((.slice Ao14 t245.length co14) : Value).ownBlock ∧ some k_ ≠ ((.slice Ao19 t253.length co19) : Value).ownBlock) (.slice Ao22 t256.length co22) t256) ∧ Aside0 (wc.heap[gb249]? = some (.cells #[(.slice Ao12 t242.length co12), (.slice Ao14 t245.length co14)] 28 (0, 0))) ∧ Aside0 (wc.heap[gb260]? = some (.cells #[(.slice Ao19 t253.length co19), (.slice Ao22 t256.length co22)] 28 (0, 0))) ∧ Aside0 (Below w.heap.size w wc))
            case first =>
              have H := HC38.out
              clear HC38
              by_cases c42 : t266 < 0
              · rw [if_pos c42] at H
                have c42b0 : decide (t266 < 0) = true := decide_eq_true c42
                clear c42
                (first | rw [c42b0] | (simp only [i64_w, i32_w]; rw [c42b0]) | skip)
                have H' := Aside0.mk H
                clear H
                go_wp2
                go_meet
                case rel => exact ⟨_, (true), (by first | rfl | simp | simp [*]), H', ⟨by have := HJ6.out; first | omega | exact Nat.le_refl _⟩, ⟨by (with_reducible repeat (first | apply Kd.R_alloc | apply Kd.R_drewN | apply Kd.R_drew)); exact Kd.R_mono HO_250000.out (fun _ hk => ⟨hk.2.1, ⟨hk.2.2.1, hk.2.2.2.1⟩⟩)⟩, ⟨by (with_reducible repeat (first | apply Kd.R_alloc | apply Kd.R_drewN | apply Kd.R_drew)); exact Kd.R_mono HO_250001.out (fun _ hk => ⟨hk.2.1, ⟨hk.2.2.1, hk.2.2.2.1⟩⟩)⟩, ⟨by (with_reducible repeat (first | apply Kd.R_alloc | apply Kd.R_drewN | apply Kd.R_drew)); exact Kd.R_mono HO_261000.out (fun _ hk => ⟨hk.2.1, ⟨hk.2.2.1, hk.2.2.2.1⟩⟩)⟩, ⟨by (with_reducible repeat (first | apply Kd.R_alloc | apply Kd.R_drewN | apply Kd.R_drew)); exact Kd.R_mono HO_261001.out (fun _ hk => ⟨hk.2.1, ⟨hk.2.2.1, hk.2.2.2.1⟩⟩)⟩, ⟨by (with_reducible repeat (first | refine blk_drewN ?_ _ | refine blk_drew ?_ | refine blk_alloc ?_ _)); exact BK249.out⟩, ⟨by (with_reducible repeat (first | refine blk_drewN ?_ _ | refine blk_drew ?_ | refine blk_alloc ?_ _)); exact BK260.out⟩, ⟨by repeat (first | (with_reducible first | exact HB.out | apply below_alloc | apply pw_below_drewN | apply below_drew1 | refine below_set ?_ GE249.out | refine below_set ?_ GE260.out) | exact HB.out)⟩⟩
              · rw [if_neg c42] at H
                have c42b0 : decide (t266 < 0) = false := decide_eq_false c42
                clear c42
                (first | rw [c42b0] | (simp only [i64_w, i32_w]; rw [c42b0]) | skip)
                replace H := Option.bind_eq_some_iff.mp H
                obtain ⟨t268, A430, H⟩ := H
                replace H : (if t268 = true then (laws_FnExactFromPermutation.j1 kj6 l0 t248 (t259 != t248) t242 t245 t253 t256) else (laws_FnExactFromPermutation.j1 kj6 l0 t248 true t242 t245 t253 t256)) = some true := H
                have A43 := Aside0.mk A430
                clear A430
                by_cases c44 : t268 = true
                · subst c44
                  have H1 : (laws_FnExactFromPermutation.j1 kj6 l0 t248 (t259 != t248) t242 t245 t253 t256) = some true := by rw [if_pos rfl] at H; first | done | exact H
                  clear H
                  have H := H1
                  clear H1
                  have H' := Aside0.mk H
                  clear H
                  have hnb45 := NB260_249.out
                  have hnc45 := NB249_260.out
                  have hcz46_0 : w41.cell? ⟨gb260, 0, none⟩ = some (.slice Ao19 t253.length co19) := (blk_cell BK260.out 0).trans rfl
                  have hcz46_1 : w41.cell? ⟨gb260, 1, none⟩ = some (.slice Ao22 t256.length co22) := (blk_cell BK260.out 1).trans rfl
                  have hfz46_0 := blk_frozen BK260.out 0
                  have hfz46_1 := blk_frozen BK260.out 1
                  have hcz47_0 : w41.cell? ⟨gb249, 0, none⟩ = some (.slice Ao12 t242.length co12) := (blk_cell BK249.out 0).trans rfl
                  have hcz47_1 : w41.cell? ⟨gb249, 1, none⟩ = some (.slice Ao14 t245.length co14) := (blk_cell BK249.out 1).trans rfl
                  have hfz47_0 := blk_frozen BK249.out 0
                  have hfz47_1 := blk_frozen BK249.out 1
                  go_wp2_with (first | (go_at_call 15; (with_reducible refine (laws_eqMeander.calls kj6 _ _ t253 _ _ t256 _ _ t242 _ _ t245 true _ ?side1 ?side2 ?side3 ?side4 ?side5 ?side6 ?side7 ?side8 A43.out).mono ?_); (case side1 => repeat (first | exact (Kd.R_reads' HO_261000.out).2.2 | (with_reducible refine Kd.C_alloc ?_ _) | (with_reducible refine Kd.C_drewN ?_ _) | (with_reducible refine Kd.C_drew ?_))); (case side2 => exact (Kd.R_reads' HO_261000.out).2.1); (case side3 => repeat (first | exact (Kd.R_reads' HO_261001.out).2.2 | (with_reducible refine Kd.C_alloc ?_ _) | (with_reducible refine Kd.C_drewN ?_ _) | (with_reducible refine Kd.C_drew ?_))); (case side4 => exact (Kd.R_reads' HO_261001.out).2.1); (case side5 => repeat (first | exact (Kd.R_reads' HO_250000.out).2.2 | (with_reducible refine Kd.C_alloc ?_ _) | (with_reducible refine Kd.C_drewN ?_ _) | (with_reducible refine Kd.C_drew ?_))); (case side6 => exact (Kd.R_reads' HO_250000.out).2.1); (case side7 => repeat (first | exact (Kd.R_reads' HO_250001.out).2.2 | (with_reducible refine Kd.C_alloc ?_ _) | (with_reducible refine Kd.C_drewN ?_ _) | (with_reducible refine Kd.C_drew ?_))); (case side8 => exact (Kd.R_reads' HO_250001.out).2.1); rintro e w48 ⟨rfl, hb⟩; have n0_ := Aside0.mk (Kd.R_below (by (with_reducible repeat (first | apply Kd.R_alloc | apply Kd.R_drewN | apply Kd.R_drew)); exact HO_5.out) hb); have n1_ := Aside0.mk (Kd.R_below (by (with_reducible repeat (first | apply Kd.R_alloc | apply Kd.R_drewN | apply Kd.R_drew)); exact HO_250000.out) hb); have n2_ := Aside0.mk (Kd.R_below (by (with_reducible repeat (first | apply Kd.R_alloc | apply Kd.R_drewN | apply Kd.R_drew)); exact HO_250001.out) hb); have n3_ := Aside0.mk (Kd.R_below (by (with_reducible repeat (first | apply Kd.R_alloc | apply Kd.R_drewN | apply Kd.R_drew)); exact HO_261000.out) hb); have n4_ := Aside0.mk (Kd.R_below (by (with_reducible repeat (first | apply Kd.R_alloc | apply Kd.R_drewN | apply Kd.R_drew)); exact HO_261001.out) hb); have n5_ := Aside0.mk (Kd.R_below (by (with_reducible repeat (first | apply Kd.R_alloc | apply Kd.R_drewN | apply Kd.R_drew)); exact HO264.out) hb); have n6_ := Aside0.mk (blk_below (g := gb249) (o := .cells #[.slice Ao12 t242.length co12, .slice Ao14 t245.length co14] 28 (0, 0)) (by (with_reducible repeat (first | refine blk_drewN ?_ _ | refine blk_drew ?_ | refine blk_alloc ?_ _)); exact BK249.out) hb); have n7_ := Aside0.mk (blk_below (g := gb260) (o := .cells #[.slice Ao19 t253.length co19, .slice Ao22 t256.length co22] 28 (0, 0)) (by (with_reducible repeat (first | refine blk_drewN ?_ _ | refine blk_drew ?_ | refine blk_alloc ?_ _)); exact BK260.out) hb); have n8_ := Aside0.mk (below_step (by repeat (first | (with_reducible first | exact HB.out | apply below_alloc | apply pw_below_drewN | apply below_drew1 | refine below_set ?_ GE249.out | refine below_set ?_ GE260.out) | exact HB.out)) hb); clear HO_5; clear HO_250000; clear HO_250001; clear HO_261000; clear HO_261001; clear HO264; clear BK249; clear BK260; clear HB; have HO_5 := n0_; have HO_250000 := n1_; have HO_250001 := n2_; have HO_261000 := n3_; have HO_261001 := n4_; have HO264 := n5_; have BK249 := n6_; have BK260 := n7_; have HB := n8_; clear n0_ n1_ n2_ n3_ n4_ n5_ n6_ n7_ n8_; (try clear hb); (try clear hb2); (try clear hk); (try clear hi)))
                  go_meet
                  case rel => exact ⟨_, ((t259 != t248)), (by first | rfl | simp | simp [*]), H', ⟨by have := HJ6.out; first | omega | exact Nat.le_refl _⟩, ⟨by (with_reducible repeat (first | apply Kd.R_alloc | apply Kd.R_drewN | apply Kd.R_drew)); exact Kd.R_mono HO_250000.out (fun _ hk => ⟨hk.2.1, ⟨hk.2.2.1, hk.2.2.2.1⟩⟩)⟩, ⟨by (with_reducible repeat (first | apply Kd.R_alloc | apply Kd.R_drewN | apply Kd.R_drew)); exact Kd.R_mono HO_250001.out (fun _ hk => ⟨hk.2.1, ⟨hk.2.2.1, hk.2.2.2.1⟩⟩)⟩, ⟨by (with_reducible repeat (first | apply Kd.R_alloc | apply Kd.R_drewN | apply Kd.R_drew)); exact Kd.R_mono HO_261000.out (fun _ hk => ⟨hk.2.1, ⟨hk.2.2.1, hk.2.2.2.1⟩⟩)⟩, ⟨by (with_reducible repeat (first | apply Kd.R_alloc | apply Kd.R_drewN | apply Kd.R_drew)); exact Kd.R_mono HO_261001.out (fun _ hk => ⟨hk.2.1, ⟨hk.2.2.1, hk.2.2.2.1⟩⟩)⟩, ⟨by (with_reducible repeat (first | refine blk_drewN ?_ _ | refine blk_drew ?_ | refine blk_alloc ?_ _)); exact BK249.out⟩, ⟨by (with_reducible repeat (first | refine blk_drewN ?_ _ | refine blk_drew ?_ | refine blk_alloc ?_ _)); exact BK260.out⟩, ⟨by repeat (first | (with_reducible first | exact HB.out | apply below_alloc | apply pw_below_drewN | apply below_drew1 | refine below_set ?_ GE249.out | refine below_set ?_ GE260.out) | exact HB.out)⟩⟩
                · replace c44 := Bool.eq_false_iff.mpr c44
                  subst c44
                  have H1 : (laws_FnExactFromPermutation.j1 kj6 l0 t248 true t242 t245 t253 t256) = some true := by rw [if_neg (show ¬ (false = true) by decide)] at H; first | done | exact H
                  clear H
                  have H := H1
                  clear H1
                  have H' := Aside0.mk H
                  clear H
                  have hnb49 := NB260_249.out
                  have hnc49 := NB249_260.out
                  have hcz50_0 : w41.cell? ⟨gb260, 0, none⟩ = some (.slice Ao19 t253.length co19) := (blk_cell BK260.out 0).trans rfl
                  have hcz50_1 : w41.cell? ⟨gb260, 1, none⟩ = some (.slice Ao22 t256.length co22) := (blk_cell BK260.out 1).trans rfl
                  have hfz50_0 := blk_frozen BK260.out 0
                  have hfz50_1 := blk_frozen BK260.out 1
                  have hcz51_0 : w41.cell? ⟨gb249, 0, none⟩ = some (.slice Ao12 t242.length co12) := (blk_cell BK249.out 0).trans rfl
                  have hcz51_1 : w41.cell? ⟨gb249, 1, none⟩ = some (.slice Ao14 t245.length co14) := (blk_cell BK249.out 1).trans rfl
                  have hfz51_0 := blk_frozen BK249.out 0
                  have hfz51_1 := blk_frozen BK249.out 1
                  go_wp2_with (first | (go_at_call 15; (with_reducible refine (laws_eqMeander.calls kj6 _ _ t253 _ _ t256 _ _ t242 _ _ t245 false _ ?side1 ?side2 ?side3 ?side4 ?side5 ?side6 ?side7 ?side8 A43.out).mono ?_); (case side1 => repeat (first | exact (Kd.R_reads' HO_261000.out).2.2 | (with_reducible refine Kd.C_alloc ?_ _) | (with_reducible refine Kd.C_drewN ?_ _) | (with_reducible refine Kd.C_drew ?_))); (case side2 => exact (Kd.R_reads' HO_261000.out).2.1); (case side3 => repeat (first | exact (Kd.R_reads' HO_261001.out).2.2 | (with_reducible refine Kd.C_alloc ?_ _) | (with_reducible refine Kd.C_drewN ?_ _) | (with_reducible refine Kd.C_drew ?_))); (case side4 => exact (Kd.R_reads' HO_261001.out).2.1); (case side5 => repeat (first | exact (Kd.R_reads' HO_250000.out).2.2 | (with_reducible refine Kd.C_alloc ?_ _) | (with_reducible refine Kd.C_drewN ?_ _) | (with_reducible refine Kd.C_drew ?_))); (case side6 => exact (Kd.R_reads' HO_250000.out).2.1); (case side7 => repeat (first | exact (Kd.R_reads' HO_250001.out).2.2 | (with_reducible refine Kd.C_alloc ?_ _) | (with_reducible refine Kd.C_drewN ?_ _) | (with_reducible refine Kd.C_drew ?_))); (case side8 => exact (Kd.R_reads' HO_250001.out).2.1); rintro e w52 ⟨rfl, hb⟩; have n0_ := Aside0.mk (Kd.R_below (by (with_reducible repeat (first | apply Kd.R_alloc | apply Kd.R_drewN | apply Kd.R_drew)); exact HO_5.out) hb); have n1_ := Aside0.mk (Kd.R_below (by (with_reducible repeat (first | apply Kd.R_alloc | apply Kd.R_drewN | apply Kd.R_drew)); exact HO_250000.out) hb); have n2_ := Aside0.mk (Kd.R_below (by (with_reducible repeat (first | apply Kd.R_alloc | apply Kd.R_drewN | apply Kd.R_drew)); exact HO_250001.out) hb); have n3_ := Aside0.mk (Kd.R_below (by (with_reducible repeat (first | apply Kd.R_alloc | apply Kd.R_drewN | apply Kd.R_drew)); exact HO_261000.out) hb); have n4_ := Aside0.mk (Kd.R_below (by (with_reducible repeat (first | apply Kd.R_alloc | apply Kd.R_drewN | apply Kd.R_drew)); exact HO_261001.out) hb); have n5_ := Aside0.mk (Kd.R_below (by (with_reducible repeat (first | apply Kd.R_alloc | apply Kd.R_drewN | apply Kd.R_drew)); exact HO264.out) hb); have n6_ := Aside0.mk (blk_below (g := gb249) (o := .cells #[.slice Ao12 t242.length co12, .slice Ao14 t245.length co14] 28 (0, 0)) (by (with_reducible repeat (first | refine blk_drewN ?_ _ | refine blk_drew ?_ | refine blk_alloc ?_ _)); exact BK249.out) hb); have n7_ := Aside0.mk (blk_below (g := gb260) (o := .cells #[.slice Ao19 t253.length co19, .slice Ao22 t256.length co22] 28 (0, 0)) (by (with_reducible repeat (first | refine blk_drewN ?_ _ | refine blk_drew ?_ | refine blk_alloc ?_ _)); exact BK260.out) hb); have n8_ := Aside0.mk (below_step (by repeat (first | (with_reducible first | exact HB.out | apply below_alloc | apply pw_below_drewN | apply below_drew1 | refine below_set ?_ GE249.out | refine below_set ?_ GE260.out) | exact HB.out)) hb); clear HO_5; clear HO_250000; clear HO_250001; clear HO_261000; clear HO_261001; clear HO264; clear BK249; clear BK260; clear HB; have HO_5 := n0_; have HO_250000 := n1_; have HO_250001 := n2_; have HO_261000 := n3_; have HO_261001 := n4_; have HO264 := n5_; have BK249 := n6_; have BK260 := n7_; have HB := n8_; clear n0_ n1_ n2_ n3_ n4_ n5_ n6_ n7_ n8_; (try clear hb); (try clear hb2); (try clear hk); (try clear hi)))
                  go_meet
                  case rel => exact ⟨_, (true), (by first | rfl | simp | simp [*]), H', ⟨by have := HJ6.out; first | omega | exact Nat.le_refl _⟩, ⟨by (with_reducible repeat (first | apply Kd.R_alloc | apply Kd.R_drewN | apply Kd.R_drew)); exact Kd.R_mono HO_250000.out (fun _ hk => ⟨hk.2.1, ⟨hk.2.2.1, hk.2.2.2.1⟩⟩)⟩, ⟨by (with_reducible repeat (first | apply Kd.R_alloc | apply Kd.R_drewN | apply Kd.R_drew)); exact Kd.R_mono HO_250001.out (fun _ hk => ⟨hk.2.1, ⟨hk.2.2.1, hk.2.2.2.1⟩⟩)⟩, ⟨by (with_reducible repeat (first | apply Kd.R_alloc | apply Kd.R_drewN | apply Kd.R_drew)); exact Kd.R_mono HO_261000.out (fun _ hk => ⟨hk.2.1, ⟨hk.2.2.1, hk.2.2.2.1⟩⟩)⟩, ⟨by (with_reducible repeat (first | apply Kd.R_alloc | apply Kd.R_drewN | apply Kd.R_drew)); exact Kd.R_mono HO_261001.out (fun _ hk => ⟨hk.2.1, ⟨hk.2.2.1, hk.2.2.2.1⟩⟩)⟩, ⟨by (with_reducible repeat (first | refine blk_drewN ?_ _ | refine blk_drew ?_ | refine blk_alloc ?_ _)); exact BK249.out⟩, ⟨by (with_reducible repeat (first | refine blk_drewN ?_ _ | refine blk_drew ?_ | refine blk_alloc ?_ _)); exact BK260.out⟩, ⟨by repeat (first | (with_reducible first | exact HB.out | apply below_alloc | apply pw_below_drewN | apply below_drew1 | refine below_set ?_ GE249.out | refine below_set ?_ GE260.out) | exact HB.out)⟩⟩
            case rest =>
              clear HC38
              try clear c1
              try clear c2
              try clear c2b0
              try clear c2b1
              try clear p2
              try clear c3
              try clear c4
              try clear c5
              try clear c14
              try clear c15
              try clear c17
              try clear c20
              try clear c24
              try clear c25
              try clear c26
              try clear c29
              try clear c33
              try clear c36
              try clear c42
              try clear c42b0
              try clear c44
              try clear c45
              try clear c49
              try clear hcz13_0
              try clear hcz13_1
              try clear hcz21_0
              try clear hcz21_1
              try clear hcz26_0
              try clear hcz26_1
              try clear hcz27_0
              try clear hcz27_1
              try clear hcz30_0
              try clear hcz30_1
              try clear hcz31_0
              try clear hcz31_1
              try clear hcz46_0
              try clear hcz46_1
              try clear hcz47_0
              try clear hcz47_1
              try clear hcz50_0
              try clear hcz50_1
              try clear hcz51_0
              try clear hcz51_1
              try clear hfz13_0
              try clear hfz13_1
              try clear hfz21_0
              try clear hfz21_1
              try clear hfz26_0
              try clear hfz26_1
              try clear hfz27_0
              try clear hfz27_1
              try clear hfz30_0
              try clear hfz30_1
              try clear hfz31_0
              try clear hfz31_1
              try clear hfz46_0
              try clear hfz46_1
              try clear hfz47_0
              try clear hfz47_1
              try clear hfz50_0
              try clear hfz50_1
              try clear hfz51_0
              try clear hfz51_1
              try clear p2
              obtain ⟨kq, x58_37, rfl, HA, HJ37, HO_250000, HO_250001, HO_261000, HO_261001, BK249, BK260, HB⟩ := hcut
              cases kq with
              | zero => exact absurd HA.out (by simp [laws_FnExactFromPermutation.j1])
              | succ kj37 =>
                have H := HA.out
                clear HA
                simp only [laws_FnExactFromPermutation.j1] at H
                by_cases c53 : x58_37 = true
                · subst c53
                  have H1 : (some false) = some true := by rw [if_pos rfl] at H; first | done | exact H
                  clear H
                  have H := H1
                  clear H1
                  exact absurd H (by simp)
                · replace c53 := Bool.eq_false_iff.mpr c53
                  subst c53
                  have H1 : ((laws_markMeander.f kj37 t253 t256 1).bind fun bt269 => ((laws_heldMeander.f kj37 bt269.2.1 bt269.2.2 1).bind fun t272 => (if t272 < 0 then (some false) else (if t272 = bt269.1 then ((laws_toIntS.f kj37 l0).bind fun t273 => ((impl_FromPermutation.f kj37 t273).bind fun bt276 => ((laws_eqMeander.f kj37 bt276.1 bt276.2.1 t242 t245).bind fun t284 => (if t284 = true then (laws_FnExactFromPermutation.j2 kj37 bt269.1 (bt276.2.2 != t248) bt269.2.1 bt269.2.2) else (laws_FnExactFromPermutation.j2 kj37 bt269.1 true bt269.2.1 bt269.2.2))))) else (some false))))) = some true := by rw [if_neg (show ¬ (false = true) by decide)] at H; first | done | exact H
                  clear H
                  have H := H1
                  clear H1
                  replace H := Option.bind_eq_some_iff.mp H
                  obtain ⟨⟨t269, t270, t271⟩, A540, H⟩ := H
                  replace H : ((laws_heldMeander.f kj37 t270 t271 1).bind fun t272 => (if t272 < 0 then (some false) else (if t272 = t269 then ((laws_toIntS.f kj37 l0).bind fun t273 => ((impl_FromPermutation.f kj37 t273).bind fun bt276 => ((laws_eqMeander.f kj37 bt276.1 bt276.2.1 t242 t245).bind fun t284 => (if t284 = true then (laws_FnExactFromPermutation.j2 kj37 t269 (bt276.2.2 != t248) t270 t271) else (laws_FnExactFromPermutation.j2 kj37 t269 true t270 t271))))) else (some false)))) = some true := H
                  have A54 := Aside0.mk A540
                  clear A540
                  replace H := Option.bind_eq_some_iff.mp H
                  obtain ⟨t272, A550, H⟩ := H
                  replace H : (if t272 < 0 then (some false) else (if t272 = t269 then ((laws_toIntS.f kj37 l0).bind fun t273 => ((impl_FromPermutation.f kj37 t273).bind fun bt276 => ((laws_eqMeander.f kj37 bt276.1 bt276.2.1 t242 t245).bind fun t284 => (if t284 = true then (laws_FnExactFromPermutation.j2 kj37 t269 (bt276.2.2 != t248) t270 t271) else (laws_FnExactFromPermutation.j2 kj37 t269 true t270 t271))))) else (some false))) = some true := H
                  have A55 := Aside0.mk A550
                  clear A550
                  by_cases c56 : t272 < 0
                  · rw [if_pos c56] at H
                    have c56b0 : decide (t272 < 0) = true := decide_eq_true c56
                    clear c56
                    exact absurd H (by simp)
                  · rw [if_neg c56] at H
                    have c56b0 : decide (t272 < 0) = false := decide_eq_false c56
                    clear c56
                    by_cases c57 : t272 = t269
                    · rw [if_pos c57] at H
                      have c57b0 : (t272 == t269) = true := beq_iff_eq.mpr c57
                      have c57b1 : (t272 != t269) = false := bne_eq_false_iff_eq.mpr c57
                      clear c57
                      replace H := Option.bind_eq_some_iff.mp H
                      obtain ⟨t273, A580, H⟩ := H
                      replace H : ((impl_FromPermutation.f kj37 t273).bind fun bt276 => ((laws_eqMeander.f kj37 bt276.1 bt276.2.1 t242 t245).bind fun t284 => (if t284 = true then (laws_FnExactFromPermutation.j2 kj37 t269 (bt276.2.2 != t248) t270 t271) else (laws_FnExactFromPermutation.j2 kj37 t269 true t270 t271)))) = some true := H
                      have A58 := Aside0.mk A580
                      clear A580
                      replace H := Option.bind_eq_some_iff.mp H
                      obtain ⟨⟨t276, t279, t282⟩, A590, H⟩ := H
                      replace H : ((laws_eqMeander.f kj37 t276 t279 t242 t245).bind fun t284 => (if t284 = true then (laws_FnExactFromPermutation.j2 kj37 t269 (t282 != t248) t270 t271) else (laws_FnExactFromPermutation.j2 kj37 t269 true t270 t271))) = some true := H
                      have A59 := Aside0.mk A590
                      clear A590
                      have HC60 := Aside0.mk H
                      clear H
                      have hnb61 := NB260_249.out
                      have hnc61 := NB249_260.out
                      have hcz62_0 : wc.cell? ⟨gb260, 0, none⟩ = some (.slice Ao19 t253.length co19) := (blk_cell BK260.out 0).trans rfl
                      have hcz62_1 : wc.cell? ⟨gb260, 1, none⟩ = some (.slice Ao22 t256.length co22) := (blk_cell BK260.out 1).trans rfl
                      have hfz62_0 := blk_frozen BK260.out 0
                      have hfz62_1 := blk_frozen BK260.out 1
                      go_upto_region 23 with (first | ((with_reducible refine gate_callee (f := 16) rfl ?_); refine goesL_ (some 61) rfl rfl Try.func16 (by kernel_rfl) rfl #[.agg #[.slice Ao19 t253.length co19, .slice Ao22 t256.length co22], .int .i64 1] rfl (by (try simp only [List.map_toArray, List.map_cons, List.map_nil]); first | done | rfl) ?_; (with_reducible refine (laws_markMeander.calls kj37 (fun k_ => some k_ = (.slice Ao19 t253.length co19 : Value).ownBlock) (.slice Ao19 t253.length co19) t253 (fun k_ => some k_ = (.slice Ao22 t256.length co22 : Value).ownBlock) (.slice Ao22 t256.length co22) t256 1 t269 t270 t271 w _ ?side1 ?side2 ?side3 ?side4 ?side5 A54.out).mono ?_); (case side1 => repeat (first | (with_reducible first | exact HB.out | apply below_alloc | apply pw_below_drewN | apply below_drew1 | refine below_set ?_ GE249.out | refine below_set ?_ GE260.out) | exact HB.out)); (case side2 => exact Kd.R_tight rfl HO_261000.out); (case side3 => exact fun k_ e_ => (HO_261000.out.1 k_ e_.symm).2.2); (case side4 => exact Kd.R_tight rfl HO_261001.out); (case side5 => exact fun k_ e_ => (HO_261001.out.1 k_ e_.symm).2.2); rintro e w63 ⟨rfl, hy0, hy1, hb, hkp⟩; refine ⟨_, rfl, ?_⟩; have n0_ := Aside0.mk (Kd.R_mono (ok' := fun k_ => some k_ ≠ (.slice Ao14 t245.length co14 : Value).ownBlock ∧ some k_ ≠ (.slice Ao19 t253.length co19 : Value).ownBlock ∧ some k_ ≠ (.slice Ao22 t256.length co22 : Value).ownBlock) (Kd.R_keptB (HO_250000.out) hkp (fun k_ hk_ hs_ => Or.elim hs_ (fun e_ => (hk_.2.1) e_) (fun e_ => (hk_.2.2) e_))) (fun k_ hk_ => ⟨hk_.1.1, hk_.1.2.1, hk_.1.2.2⟩)); have n1_ := Aside0.mk (Kd.R_mono (ok' := fun k_ => some k_ ≠ (.slice Ao12 t242.length co12 : Value).ownBlock ∧ some k_ ≠ (.slice Ao19 t253.length co19 : Value).ownBlock ∧ some k_ ≠ (.slice Ao22 t256.length co22 : Value).ownBlock) (Kd.R_keptB (HO_250001.out) hkp (fun k_ hk_ hs_ => Or.elim hs_ (fun e_ => (hk_.2.1) e_) (fun e_ => (hk_.2.2) e_))) (fun k_ hk_ => ⟨hk_.1.1, hk_.1.2.1, hk_.1.2.2⟩)); have n2_ := Aside0.mk (Kd.R_reok rfl hy0 (fun k_ e_ => HO_261000.out.1 k_ e_)); have n3_ := Aside0.mk (Kd.R_reok rfl hy1 (fun k_ e_ => HO_261001.out.1 k_ e_)); have n4_ := Aside0.mk (blk_kept (by (with_reducible repeat (first | refine blk_drewN ?_ _ | refine blk_drew ?_ | refine blk_alloc ?_ _)); exact BK249.out) hkp (fun hs_ => Or.elim hs_ (fun e_ => (fun e_ => (Kd.R_ne HO_261000.out BK249.out (by decide)) e_) e_) (fun e_ => (fun e_ => (Kd.R_ne HO_261001.out BK249.out (by decide)) e_) e_))); have n5_ := Aside0.mk (blk_kept (by (with_reducible repeat (first | refine blk_drewN ?_ _ | refine blk_drew ?_ | refine blk_alloc ?_ _)); exact BK260.out) hkp (fun hs_ => Or.elim hs_ (fun e_ => (fun e_ => (Kd.R_ne HO_261000.out BK260.out (by decide)) e_) e_) (fun e_ => (fun e_ => (Kd.R_ne HO_261001.out BK260.out (by decide)) e_) e_))); have n6_ := Aside0.mk (hb); clear HO_250000; clear HO_250001; clear HO_261000; clear HO_261001; clear BK249; clear BK260; clear HB; have HO_250000 := n0_; have HO_250001 := n1_; have HO_261000 := n2_; have HO_261001 := n3_; have BK249 := n4_; have BK260 := n5_; have HB := n6_; clear n0_ n1_ n2_ n3_ n4_ n5_ n6_; (try clear hb); (try clear hkp); (try clear hy0); (try clear hy1); have hcz64_0 : w63.cell? ⟨gb260, 0, none⟩ = some (.slice Ao19 t253.length co19) := (blk_cell BK260.out 0).trans rfl; have hcz64_1 : w63.cell? ⟨gb260, 1, none⟩ = some (.slice Ao22 t256.length co22) := (blk_cell BK260.out 1).trans rfl; have hfz64_0 := blk_frozen BK260.out 0; have hfz64_1 := blk_frozen BK260.out 1) | ((with_reducible refine gate_callee (f := 27) rfl ?_); refine goesL_ (some 64) rfl rfl Try.func27 (by kernel_rfl) rfl #[.agg #[.slice Ao19 t270.length co19, .slice Ao22 t271.length co22], .int .i64 1] rfl (by (try simp only [List.map_toArray, List.map_cons, List.map_nil]); first | done | (rw [show t270.length = t253.length from (Kd.R_reads' HO_261000.out).1.symm, show t271.length = t256.length from (Kd.R_reads' HO_261001.out).1.symm] <;> rfl) | rfl | (simp only [List.length_drop, List.length_take]; rfl)) ?_; (with_reducible refine (laws_heldMeander.calls kj37 _ _ t270 _ _ t271 1 t272 _ ?side1 ?side2 ?side3 ?side4 A55.out).mono ?_); (case side1 => repeat (first | exact (Kd.R_reads' HO_261000.out).2.2 | (with_reducible refine Kd.C_alloc ?_ _) | (with_reducible refine Kd.C_drewN ?_ _) | (with_reducible refine Kd.C_drew ?_))); (case side2 => rw [show t270.length = t253.length from (Kd.R_reads' HO_261000.out).1.symm]; exact (Kd.R_reads' HO_261000.out).2.1); (case side3 => repeat (first | exact (Kd.R_reads' HO_261001.out).2.2 | (with_reducible refine Kd.C_alloc ?_ _) | (with_reducible refine Kd.C_drewN ?_ _) | (with_reducible refine Kd.C_drew ?_))); (case side4 => rw [show t271.length = t256.length from (Kd.R_reads' HO_261001.out).1.symm]; exact (Kd.R_reads' HO_261001.out).2.1); rintro e w65 ⟨rfl, hb⟩; refine ⟨_, rfl, ?_⟩; have n0_ := Aside0.mk (Kd.R_below (by (with_reducible repeat (first | apply Kd.R_alloc | apply Kd.R_drewN | apply Kd.R_drew)); exact HO_250000.out) hb); have n1_ := Aside0.mk (Kd.R_below (by (with_reducible repeat (first | apply Kd.R_alloc | apply Kd.R_drewN | apply Kd.R_drew)); exact HO_250001.out) hb); have n2_ := Aside0.mk (Kd.R_below (by (with_reducible repeat (first | apply Kd.R_alloc | apply Kd.R_drewN | apply Kd.R_drew)); exact HO_261000.out) hb); have n3_ := Aside0.mk (Kd.R_below (by (with_reducible repeat (first | apply Kd.R_alloc | apply Kd.R_drewN | apply Kd.R_drew)); exact HO_261001.out) hb); have n4_ := Aside0.mk (blk_below (g := gb249) (o := .cells #[.slice Ao12 t242.length co12, .slice Ao14 t245.length co14] 28 (0, 0)) (by (with_reducible repeat (first | refine blk_drewN ?_ _ | refine blk_drew ?_ | refine blk_alloc ?_ _)); exact BK249.out) hb); have n5_ := Aside0.mk (blk_below (g := gb260) (o := .cells #[.slice Ao19 t253.length co19, .slice Ao22 t256.length co22] 28 (0, 0)) (by (with_reducible repeat (first | refine blk_drewN ?_ _ | refine blk_drew ?_ | refine blk_alloc ?_ _)); exact BK260.out) hb); have n6_ := Aside0.mk (below_step (by repeat (first | (with_reducible first | exact HB.out | apply below_alloc | apply pw_below_drewN | apply below_drew1 | refine below_set ?_ GE249.out | refine below_set ?_ GE260.out) | exact HB.out)) hb); clear HO_250000; clear HO_250001; clear HO_261000; clear HO_261001; clear BK249; clear BK260; clear HB; have HO_250000 := n0_; have HO_250001 := n1_; have HO_261000 := n2_; have HO_261001 := n3_; have BK249 := n4_; have BK260 := n5_; have HB := n6_; clear n0_ n1_ n2_ n3_ n4_ n5_ n6_; (try clear hb); (try clear hb2); (try clear hk); (try clear hi)) | ((with_reducible refine gate_callee (f := 25) rfl ?_); refine goesL_ (some 72) rfl rfl Try.func25 (by kernel_rfl) rfl #[.slice A0 l0.length c0] rfl (by (try simp only [List.map_toArray, List.map_cons, List.map_nil]); first | done | rfl) ?_; (with_reducible refine (laws_toIntS.calls kj37 _ _ l0 t273 _ ?side1 ?side2 A58.out).mono ?_); (case side1 => repeat (first | exact (Kd.C_below HR0.out HB.out) | (with_reducible refine Kd.C_alloc ?_ _) | (with_reducible refine Kd.C_drewN ?_ _) | (with_reducible refine Kd.C_drew ?_))); (case side2 => exact HC0.out); rintro e w66 ⟨v274, rfl, ho0, hb⟩; refine ⟨_, rfl, ?_⟩; have n0_ := Aside0.mk (Kd.R_elder' (by (with_reducible repeat (first | apply Kd.R_alloc | apply Kd.R_drewN | apply Kd.R_drew)); exact HO_250000.out) (Kd.R_base ho0) hb); have n1_ := Aside0.mk (Kd.R_elder' (by (with_reducible repeat (first | apply Kd.R_alloc | apply Kd.R_drewN | apply Kd.R_drew)); exact HO_250001.out) (Kd.R_base ho0) hb); have n2_ := Aside0.mk (Kd.R_elder' (by (with_reducible repeat (first | apply Kd.R_alloc | apply Kd.R_drewN | apply Kd.R_drew)); exact HO_261000.out) (Kd.R_base ho0) hb); have n3_ := Aside0.mk (Kd.R_elder' (by (with_reducible repeat (first | apply Kd.R_alloc | apply Kd.R_drewN | apply Kd.R_drew)); exact HO_261001.out) (Kd.R_base ho0) hb); have n4_ := Aside0.mk (Kd.R_lower (Kd.R_new' (Kd.R_new' (Kd.R_new' (Kd.R_new' ho0 (Kd.R_lt (by (with_reducible repeat (first | apply Kd.R_alloc | apply Kd.R_drewN | apply Kd.R_drew)); exact HO_250000.out))) (Kd.R_lt (by (with_reducible repeat (first | apply Kd.R_alloc | apply Kd.R_drewN | apply Kd.R_drew)); exact HO_250001.out))) (Kd.R_lt (by (with_reducible repeat (first | apply Kd.R_alloc | apply Kd.R_drewN | apply Kd.R_drew)); exact HO_261000.out))) (Kd.R_lt (by (with_reducible repeat (first | apply Kd.R_alloc | apply Kd.R_drewN | apply Kd.R_drew)); exact HO_261001.out))) (below_size (by repeat (first | (with_reducible first | exact HB.out | apply below_alloc | apply pw_below_drewN | apply below_drew1 | refine below_set ?_ GE249.out | refine below_set ?_ GE260.out) | exact HB.out)))); have n5_ := Aside0.mk (blk_below (g := gb249) (o := .cells #[.slice Ao12 t242.length co12, .slice Ao14 t245.length co14] 28 (0, 0)) (by (with_reducible repeat (first | refine blk_drewN ?_ _ | refine blk_drew ?_ | refine blk_alloc ?_ _)); exact BK249.out) hb); have n6_ := Aside0.mk (blk_below (g := gb260) (o := .cells #[.slice Ao19 t253.length co19, .slice Ao22 t256.length co22] 28 (0, 0)) (by (with_reducible repeat (first | refine blk_drewN ?_ _ | refine blk_drew ?_ | refine blk_alloc ?_ _)); exact BK260.out) hb); have n7_ := Aside0.mk (below_step (by repeat (first | (with_reducible first | exact HB.out | apply below_alloc | apply pw_below_drewN | apply below_drew1 | refine below_set ?_ GE249.out | refine below_set ?_ GE260.out) | exact HB.out)) hb); clear HO_250000; clear HO_250001; clear HO_261000; clear HO_261001; clear BK249; clear BK260; clear HB; have HO_250000 := n0_; have HO_250001 := n1_; have HO_261000 := n2_; have HO_261001 := n3_; have HO275 := n4_; have BK249 := n5_; have BK260 := n6_; have HB := n7_; clear n0_ n1_ n2_ n3_ n4_ n5_ n6_ n7_; (try clear hb); (try clear hb2); (try clear hk); (try clear hi); (try clear ho0); obtain ⟨Ao67, co67, eo67⟩ := Kd.R_slice HO275.out; subst eo67) | ((with_reducible refine gate_callee (f := 26) rfl ?_); refine goesL_ (some 73) rfl rfl Try.func26 (by kernel_rfl) rfl #[.slice Ao67 t273.length co67] rfl (by (try simp only [List.map_toArray, List.map_cons, List.map_nil]); first | done | rfl) ?_; (with_reducible refine (impl_FromPermutation.calls kj37 _ _ t273 t276 t279 t282 _ ?side1 ?side2 A59.out).mono ?_); (case side1 => repeat (first | exact (Kd.R_reads' HO275.out).2.2 | (with_reducible refine Kd.C_alloc ?_ _) | (with_reducible refine Kd.C_drewN ?_ _) | (with_reducible refine Kd.C_drew ?_))); (case side2 => exact (Kd.R_reads' HO275.out).2.1); rintro e w68 ⟨v277, v280, rfl, ho0, ho1, hb⟩; refine ⟨_, rfl, ?_⟩; have n0_ := Aside0.mk (Kd.R_mono (Kd.R_told (Kd.R_told (Kd.R_old (by (with_reducible repeat (first | apply Kd.R_alloc | apply Kd.R_drewN | apply Kd.R_drew)); exact HO_250000.out) hb) (Kd.R_base ho0)) (Kd.R_base ho1)) (fun _ h_ => h_.1)); have n1_ := Aside0.mk (Kd.R_mono (Kd.R_told (Kd.R_told (Kd.R_old (by (with_reducible repeat (first | apply Kd.R_alloc | apply Kd.R_drewN | apply Kd.R_drew)); exact HO_250001.out) hb) (Kd.R_base ho0)) (Kd.R_base ho1)) (fun _ h_ => h_.1)); have n2_ := Aside0.mk (Kd.R_mono (Kd.R_told (Kd.R_told (Kd.R_old (by (with_reducible repeat (first | apply Kd.R_alloc | apply Kd.R_drewN | apply Kd.R_drew)); exact HO_261000.out) hb) (Kd.R_base ho0)) (Kd.R_base ho1)) (fun _ h_ => h_.1)); have n3_ := Aside0.mk (Kd.R_mono (Kd.R_told (Kd.R_told (Kd.R_old (by (with_reducible repeat (first | apply Kd.R_alloc | apply Kd.R_drewN | apply Kd.R_drew)); exact HO_261001.out) hb) (Kd.R_base ho0)) (Kd.R_base ho1)) (fun _ h_ => h_.1)); have n4_ := Aside0.mk (Kd.R_mono (Kd.R_told (Kd.R_told (Kd.R_old (by (with_reducible repeat (first | apply Kd.R_alloc | apply Kd.R_drewN | apply Kd.R_drew)); exact HO275.out) hb) (Kd.R_base ho0)) (Kd.R_base ho1)) (fun _ h_ => h_.1)); have n5_ := Aside0.mk (Kd.R_lower (Kd.R_new' (Kd.R_new' (Kd.R_new' (Kd.R_new' (Kd.R_new' ho0 (Kd.R_lt (by (with_reducible repeat (first | apply Kd.R_alloc | apply Kd.R_drewN | apply Kd.R_drew)); exact HO_250000.out))) (Kd.R_lt (by (with_reducible repeat (first | apply Kd.R_alloc | apply Kd.R_drewN | apply Kd.R_drew)); exact HO_250001.out))) (Kd.R_lt (by (with_reducible repeat (first | apply Kd.R_alloc | apply Kd.R_drewN | apply Kd.R_drew)); exact HO_261000.out))) (Kd.R_lt (by (with_reducible repeat (first | apply Kd.R_alloc | apply Kd.R_drewN | apply Kd.R_drew)); exact HO_261001.out))) (Kd.R_lt (by (with_reducible repeat (first | apply Kd.R_alloc | apply Kd.R_drewN | apply Kd.R_drew)); exact HO275.out))) (below_size (by repeat (first | (with_reducible first | exact HB.out | apply below_alloc | apply pw_below_drewN | apply below_drew1 | refine below_set ?_ GE249.out | refine below_set ?_ GE260.out) | exact HB.out)))); have n6_ := Aside0.mk (Kd.R_lower (Kd.R_new' (Kd.R_new' (Kd.R_new' (Kd.R_new' (Kd.R_new' ho1 (Kd.R_lt (by (with_reducible repeat (first | apply Kd.R_alloc | apply Kd.R_drewN | apply Kd.R_drew)); exact HO_250000.out))) (Kd.R_lt (by (with_reducible repeat (first | apply Kd.R_alloc | apply Kd.R_drewN | apply Kd.R_drew)); exact HO_250001.out))) (Kd.R_lt (by (with_reducible repeat (first | apply Kd.R_alloc | apply Kd.R_drewN | apply Kd.R_drew)); exact HO_261000.out))) (Kd.R_lt (by (with_reducible repeat (first | apply Kd.R_alloc | apply Kd.R_drewN | apply Kd.R_drew)); exact HO_261001.out))) (Kd.R_lt (by (with_reducible repeat (first | apply Kd.R_alloc | apply Kd.R_drewN | apply Kd.R_drew)); exact HO275.out))) (below_size (by repeat (first | (with_reducible first | exact HB.out | apply below_alloc | apply pw_below_drewN | apply below_drew1 | refine below_set ?_ GE249.out | refine below_set ?_ GE260.out) | exact HB.out)))); have n7_ := Aside0.mk (blk_below (g := gb249) (o := .cells #[.slice Ao12 t242.length co12, .slice Ao14 t245.length co14] 28 (0, 0)) (by (with_reducible repeat (first | refine blk_drewN ?_ _ | refine blk_drew ?_ | refine blk_alloc ?_ _)); exact BK249.out) hb); have n8_ := Aside0.mk (blk_below (g := gb260) (o := .cells #[.slice Ao19 t253.length co19, .slice Ao22 t256.length co22] 28 (0, 0)) (by (with_reducible repeat (first | refine blk_drewN ?_ _ | refine blk_drew ?_ | refine blk_alloc ?_ _)); exact BK260.out) hb); have n9_ := Aside0.mk (below_step (by repeat (first | (with_reducible first | exact HB.out | apply below_alloc | apply pw_below_drewN | apply below_drew1 | refine below_set ?_ GE249.out | refine below_set ?_ GE260.out) | exact HB.out)) hb); clear HO_250000; clear HO_250001; clear HO_261000; clear HO_261001; clear HO275; clear BK249; clear BK260; clear HB; have HO_250000 := n0_; have HO_250001 := n1_; have HO_261000 := n2_; have HO_261001 := n3_; have HO275 := n4_; have HO278 := n5_; have HO281 := n6_; have BK249 := n7_; have BK260 := n8_; have HB := n9_; clear n0_ n1_ n2_ n3_ n4_ n5_ n6_ n7_ n8_ n9_; (try clear hb); (try clear hb2); (try clear hk); (try clear hi); (try clear ho0); (try clear ho1)) | ((with_reducible refine gate_dst (N := 11) rfl ?_); refine box_event ?hg (N := 11) ?hd (cs := #[.slice none 0 0, .slice none 0 0]) (t := 28) ?hr ?_; (case hd => rfl); (case hg => rfl); (case hr => first | (go_simp; done) | (go_simp; rfl)); intro gb283 hg w69 hbox hb; have n0_ := Aside0.mk (Kd.R_below (by (with_reducible repeat (first | apply Kd.R_alloc | apply Kd.R_drewN | apply Kd.R_drew)); exact HO_250000.out) hb); have n1_ := Aside0.mk (Kd.R_below (by (with_reducible repeat (first | apply Kd.R_alloc | apply Kd.R_drewN | apply Kd.R_drew)); exact HO_250001.out) hb); have n2_ := Aside0.mk (Kd.R_below (by (with_reducible repeat (first | apply Kd.R_alloc | apply Kd.R_drewN | apply Kd.R_drew)); exact HO_261000.out) hb); have n3_ := Aside0.mk (Kd.R_below (by (with_reducible repeat (first | apply Kd.R_alloc | apply Kd.R_drewN | apply Kd.R_drew)); exact HO_261001.out) hb); have n4_ := Aside0.mk (Kd.R_below (by (with_reducible repeat (first | apply Kd.R_alloc | apply Kd.R_drewN | apply Kd.R_drew)); exact HO275.out) hb); have n5_ := Aside0.mk (Kd.R_below (by (with_reducible repeat (first | apply Kd.R_alloc | apply Kd.R_drewN | apply Kd.R_drew)); exact HO278.out) hb); have n6_ := Aside0.mk (Kd.R_below (by (with_reducible repeat (first | apply Kd.R_alloc | apply Kd.R_drewN | apply Kd.R_drew)); exact HO281.out) hb); have n7_ := Aside0.mk (blk_below (g := gb249) (o := .cells #[.slice Ao12 t242.length co12, .slice Ao14 t245.length co14] 28 (0, 0)) (by (with_reducible repeat (first | refine blk_drewN ?_ _ | refine blk_drew ?_ | refine blk_alloc ?_ _)); exact BK249.out) hb); have n8_ := Aside0.mk (blk_below (g := gb260) (o := .cells #[.slice Ao19 t253.length co19, .slice Ao22 t256.length co22] 28 (0, 0)) (by (with_reducible repeat (first | refine blk_drewN ?_ _ | refine blk_drew ?_ | refine blk_alloc ?_ _)); exact BK260.out) hb); have n9_ := Aside0.mk (below_step (by repeat (first | (with_reducible first | exact HB.out | apply below_alloc | apply pw_below_drewN | apply below_drew1 | refine below_set ?_ GE249.out | refine below_set ?_ GE260.out) | exact HB.out)) hb); have n10_ := Aside0.mk (hbox); have n11_ := Aside0.mk ((by rw [hg]; exact (below_size (by repeat (first | (with_reducible first | exact HB.out | apply below_alloc | apply pw_below_drewN | apply below_drew1 | refine below_set ?_ GE249.out | refine below_set ?_ GE260.out) | exact HB.out))) : w.heap.size ≤ gb283)); have n12_ := Aside0.mk ((by rw [hg]; exact (below_size (by repeat (first | (with_reducible first | exact HB.out | apply below_alloc | apply pw_below_drewN | apply below_drew1 | refine below_set ?_ GE249.out | refine below_set ?_ GE260.out) | exact HB.out))) : w.heap.size ≤ gb283)); have n13_ := Aside0.mk ((by rw [hg]; exact Nat.ne_of_lt (blk_lt (g := gb249) (o := .cells #[.slice Ao12 t242.length co12, .slice Ao14 t245.length co14] 28 (0, 0)) (by (with_reducible repeat (first | refine blk_drewN ?_ _ | refine blk_drew ?_ | refine blk_alloc ?_ _)); exact BK249.out)) : gb249 ≠ gb283)); have n14_ := Aside0.mk ((by rw [hg]; exact Nat.ne_of_gt (blk_lt (g := gb249) (o := .cells #[.slice Ao12 t242.length co12, .slice Ao14 t245.length co14] 28 (0, 0)) (by (with_reducible repeat (first | refine blk_drewN ?_ _ | refine blk_drew ?_ | refine blk_alloc ?_ _)); exact BK249.out)) : gb283 ≠ gb249)); have n15_ := Aside0.mk ((by rw [hg]; exact Nat.ne_of_lt (blk_lt (g := gb260) (o := .cells #[.slice Ao19 t253.length co19, .slice Ao22 t256.length co22] 28 (0, 0)) (by (with_reducible repeat (first | refine blk_drewN ?_ _ | refine blk_drew ?_ | refine blk_alloc ?_ _)); exact BK260.out)) : gb260 ≠ gb283)); have n16_ := Aside0.mk ((by rw [hg]; exact Nat.ne_of_gt (blk_lt (g := gb260) (o := .cells #[.slice Ao19 t253.length co19, .slice Ao22 t256.length co22] 28 (0, 0)) (by (with_reducible repeat (first | refine blk_drewN ?_ _ | refine blk_drew ?_ | refine blk_alloc ?_ _)); exact BK260.out)) : gb283 ≠ gb260)); clear HO_250000; clear HO_250001; clear HO_261000; clear HO_261001; clear HO275; clear HO278; clear HO281; clear BK249; clear BK260; clear HB; have HO_250000 := n0_; have HO_250001 := n1_; have HO_261000 := n2_; have HO_261001 := n3_; have HO275 := n4_; have HO278 := n5_; have HO281 := n6_; have BK249 := n7_; have BK260 := n8_; have HB := n9_; have BK283 := n10_; have GW283 := n11_; have GE283 := n12_; have NB249_283 := n13_; have NB283_249 := n14_; have NB260_283 := n15_; have NB283_260 := n16_; clear n0_ n1_ n2_ n3_ n4_ n5_ n6_ n7_ n8_ n9_ n10_ n11_ n12_ n13_ n14_ n15_ n16_; clear hb hbox hg; obtain ⟨Ao70, co70, eo70⟩ := Kd.R_slice HO278.out; subst eo70; have hnb71 := NB283_249.out; have hnc71 := NB249_283.out; have hnb72 := NB283_260.out; have hnc72 := NB260_283.out; have hcz73_0 : w69.cell? ⟨gb283, 0, none⟩ = some (.slice none 0 0) := (blk_cell BK283.out 0).trans rfl; have hcz73_1 : w69.cell? ⟨gb283, 1, none⟩ = some (.slice none 0 0) := (blk_cell BK283.out 1).trans rfl; have hfz73_0 := blk_frozen BK283.out 0; have hfz73_1 := blk_frozen BK283.out 1; obtain ⟨Ao74, co74, eo74⟩ := Kd.R_slice HO281.out; subst eo74))
                      (try simp only [Act.put, List.setIfInBounds_toArray, List.set_cons_zero, List.set_cons_succ])
                      go_cut [84] (fun v84 wc => ∃ (kq : Nat) (x84_59 : Bool), v84 = .bool x84_59 ∧ Aside0 (laws_FnExactFromPermutation.j2 kq t269 x84_59 t270 t271 = some true) ∧ Aside0 (kq ≤ kj37) ∧ Aside0 (Kd.R (Kd.int .i64) 3 wc w.heap.size (fun k_ => some k_ ≠ ((.slice Ao14 t245.length co14) : Value).ownBlock ∧ some k_ ≠ ((.slice Ao19 t253.length co19) : Value).ownBlock ∧ some k_ ≠ ((.slice Ao22 t256.length co22) : Value).ownBlock ∧ some k_ ≠ ((.slice Ao70 t276.length co70) : Value).ownBlock ∧ some k_ ≠ ((.slice Ao74 t279.length co74) : Value).ownBlock) (.slice Ao12 t242.length co12) t242) ∧ Aside0 (Kd.R (Kd.int .i64) 3 wc w.heap.size (fun k_ => some k_ ≠ ((.slice Ao12 t242.length co12) : Value).ownBlock ∧ some k_ ≠ ((.slice Ao19 t253.length co19) : Value).ownBlock ∧ some k_ ≠ ((.slice Ao22 t256.length co22) : Value).ownBlock ∧ some k_ ≠ ((.slice Ao70 t276.length co70) : Value).ownBlock ∧ some k_ ≠ ((.slice Ao74 t279.length co74) : Value).ownBlock) (.slice Ao14 t245.length co14) t245) ∧ Aside0 (Kd.R (Kd.int .i64) 3 wc w.heap.size (fun k_ => some k_ ≠ ((.slice Ao12 t242.length co12) : Value).ownBlock ∧ some k_ ≠ ((.slice Ao14 t245.length co14) : Value).ownBlock ∧ some k_ ≠ ((.slice Ao22 t256.length co22) : Value).ownBlock ∧ some k_ ≠ ((.slice Ao70 t276.length co70) : Value).ownBlock ∧ some k_ ≠ ((.slice Ao74 t279.length co74) : Value).ownBlock) (.slice Ao19 t253.length co19) t270) ∧ Aside0 (Kd.R (Kd.int .i64) 3 wc w.heap.size (fun k_ => some k_ ≠ ((.slice Ao12 t242.length co12) : Value).ownBlock ∧ some k_ ≠ ((.slice Ao14 t245.length co14) : Value).ownBlock ∧ some k_ ≠ ((.slice Ao19 t253.length co19) : Value).ownBlock ∧ some k_ ≠ ((.slice Ao70 t276.length co70) : Value).ownBlock ∧ some k_ ≠ ((.slice Ao74 t279.length co74) : Value).ownBlock) (.slice Ao22 t256.length co22) t271) ∧ Aside0 (Kd.R (Kd.int .i64) 3 wc w.heap.size (fun k_ => some k_ ≠ ((.slice Ao12 t242.length co12) : Value).ownBlock ∧ some k_ ≠ ((.slice Ao14 t245.length co14) : Value).ownBlock ∧ some k_ ≠ ((.slice Ao19 t253.length co19) : Value).ownBlock ∧ some k_ ≠ ((.slice Ao22 t256.length co22) : Value).ownBlock ∧ some k_ ≠ ((.slice Ao74 t279.length co74) : Value).ownBlock) (.slice Ao70 t276.length co70) t276) ∧ Aside0 (Kd.R (Kd.int .i64) 3 wc w.heap.size (fun k_ => some k_ ≠ ((.slice Ao12 t242.length co12) : Value).ownBlock ∧ some k_ ≠ ((.slice Ao14 t245.length co14) : Value).ownBlock ∧ some k_ ≠ ((.slice Ao19 t253.length co19) : Value).ownBlock ∧ some k_ ≠ ((.slice Ao22 t256.length co22) : Value).ownBlock ∧ some k_ ≠ ((.slice Ao70 t276.length co70) : Value).ownBlock) (.slice Ao74 t279.length co74) t279) ∧ Aside0 (wc.heap[gb249]? = some (.cells #[(.slice Ao12 t242.length co12), (.slice Ao14 t245.length co14)] 28 (0, 0))) ∧ Aside0 (wc.heap[gb260]? = some (.cells #[(.slice Ao19 t253.length co19), (.slice Ao22 t256.length co22)] 28 (0, 0))) ∧ Aside0 (wc.heap[gb283]? = some (.cells #[(.slice Ao70 t276.length co70), (.slice Ao74 t279.length co74)] 28 (0, 0))) ∧ Aside0 (Below w.heap.size w wc))
                      case first =>
                        have H := HC60.out
                        clear HC60
                        replace H := Option.bind_eq_some_iff.mp H
                        obtain ⟨t284, A750, H⟩ := H
                        replace H : (if t284 = true then (laws_FnExactFromPermutation.j2 kj37 t269 (t282 != t248) t270 t271) else (laws_FnExactFromPermutation.j2 kj37 t269 true t270 t271)) = some true := H
                        have A75 := Aside0.mk A750
                        clear A750
                        by_cases c76 : t284 = true
                        · subst c76
                          have H1 : (laws_FnExactFromPermutation.j2 kj37 t269 (t282 != t248) t270 t271) = some true := by rw [if_pos rfl] at H; first | done | exact H
                          clear H
                          have H := H1
                          clear H1
                          have H' := Aside0.mk H
                          clear H
                          have hnb77 := NB283_249.out
                          have hnc77 := NB249_283.out
                          have hnb78 := NB283_260.out
                          have hnc78 := NB260_283.out
                          have hcz79_0 : w69.cell? ⟨gb283, 0, none⟩ = some (.slice none 0 0) := (blk_cell BK283.out 0).trans rfl
                          have hcz79_1 : w69.cell? ⟨gb283, 1, none⟩ = some (.slice none 0 0) := (blk_cell BK283.out 1).trans rfl
                          have hfz79_0 := blk_frozen BK283.out 0
                          have hfz79_1 := blk_frozen BK283.out 1
                          have hnb80 := NB249_260.out
                          have hnc80 := NB260_249.out
                          have hcz81_0 : w69.cell? ⟨gb249, 0, none⟩ = some (.slice Ao12 t242.length co12) := (blk_cell BK249.out 0).trans rfl
                          have hcz81_1 : w69.cell? ⟨gb249, 1, none⟩ = some (.slice Ao14 t245.length co14) := (blk_cell BK249.out 1).trans rfl
                          have hfz81_0 := blk_frozen BK249.out 0
                          have hfz81_1 := blk_frozen BK249.out 1
                          go_wp2_with (first | ((with_reducible refine gate_callee (f := 15) rfl ?_); refine goesL_ (some 78) rfl rfl Try.func15 (by kernel_rfl) rfl #[.agg #[.slice Ao70 t276.length co70, .slice Ao74 t279.length co74], .agg #[.slice Ao12 t242.length co12, .slice Ao14 t245.length co14]] rfl (by (try simp only [List.map_toArray, List.map_cons, List.map_nil]); first | done | rfl) ?_; (with_reducible refine (laws_eqMeander.calls kj37 _ _ t276 _ _ t279 _ _ t242 _ _ t245 true _ ?side1 ?side2 ?side3 ?side4 ?side5 ?side6 ?side7 ?side8 A75.out).mono ?_); (case side1 => refine (Kd.R_reads' (e := 3) (base := w.heap.size) (ok := fun k_ => (((((some k_ ≠ (.slice Ao74 t279.length co74 : Value).ownBlock ∧ some k_ ≠ (.slice Ao12 t242.length co12 : Value).ownBlock) ∧ some k_ ≠ (.slice Ao14 t245.length co14 : Value).ownBlock) ∧ some k_ ≠ (.slice Ao19 t253.length co19 : Value).ownBlock) ∧ some k_ ≠ (.slice Ao22 t256.length co22 : Value).ownBlock) ∧ some k_ ≠ (.slice Ao67 t273.length co67 : Value).ownBlock)) (n := t276.length) (c := co70) ?_).2.2; exact (by (with_reducible repeat (first | apply Kd.R_alloc | apply Kd.R_drewN | apply Kd.R_drew)); exact (Kd.R_mono (Kd.R_far (p := ⟨gb283, 1, none⟩) (Kd.R_far (p := ⟨gb283, 0, none⟩) (Kd.R_types HO278.out BK283.out (by decide)) (fun _ hk => hk.2) (.slice Ao70 t276.length co70)) (fun _ hk => hk.2) (.slice Ao74 t279.length co74)) (fun _ h_ => h_.1)))); (case side2 => exact (Kd.R_reads' HO278.out).2.1); (case side3 => refine (Kd.R_reads' (e := 3) (base := w.heap.size) (ok := fun k_ => (((((some k_ ≠ (.slice Ao70 t276.length co70 : Value).ownBlock ∧ some k_ ≠ (.slice Ao12 t242.length co12 : Value).ownBlock) ∧ some k_ ≠ (.slice Ao14 t245.length co14 : Value).ownBlock) ∧ some k_ ≠ (.slice Ao19 t253.length co19 : Value).ownBlock) ∧ some k_ ≠ (.slice Ao22 t256.length co22 : Value).ownBlock) ∧ some k_ ≠ (.slice Ao67 t273.length co67 : Value).ownBlock)) (n := t279.length) (c := co74) ?_).2.2; exact (by (with_reducible repeat (first | apply Kd.R_alloc | apply Kd.R_drewN | apply Kd.R_drew)); exact (Kd.R_mono (Kd.R_far (p := ⟨gb283, 1, none⟩) (Kd.R_far (p := ⟨gb283, 0, none⟩) (Kd.R_types HO281.out BK283.out (by decide)) (fun _ hk => hk.2) (.slice Ao70 t276.length co70)) (fun _ hk => hk.2) (.slice Ao74 t279.length co74)) (fun _ h_ => h_.1)))); (case side4 => exact (Kd.R_reads' HO281.out).2.1); (case side5 => refine (Kd.R_reads' (e := 3) (base := w.heap.size) (ok := fun k_ => ((((some k_ ≠ (.slice Ao14 t245.length co14 : Value).ownBlock ∧ (some k_ ≠ (.slice Ao19 t253.length co19 : Value).ownBlock ∧ some k_ ≠ (.slice Ao22 t256.length co22 : Value).ownBlock)) ∧ some k_ ≠ (.slice Ao67 t273.length co67 : Value).ownBlock) ∧ some k_ ≠ (.slice Ao70 t276.length co70 : Value).ownBlock) ∧ some k_ ≠ (.slice Ao74 t279.length co74 : Value).ownBlock)) (n := t242.length) (c := co12) ?_).2.2; exact (by (with_reducible repeat (first | apply Kd.R_alloc | apply Kd.R_drewN | apply Kd.R_drew)); exact (Kd.R_mono (Kd.R_far (p := ⟨gb283, 1, none⟩) (Kd.R_far (p := ⟨gb283, 0, none⟩) (Kd.R_types HO_250000.out BK283.out (by decide)) (fun _ hk => hk.2) (.slice Ao70 t276.length co70)) (fun _ hk => hk.2) (.slice Ao74 t279.length co74)) (fun _ h_ => h_.1)))); (case side6 => exact (Kd.R_reads' HO_250000.out).2.1); (case side7 => refine (Kd.R_reads' (e := 3) (base := w.heap.size) (ok := fun k_ => ((((some k_ ≠ (.slice Ao12 t242.length co12 : Value).ownBlock ∧ (some k_ ≠ (.slice Ao19 t253.length co19 : Value).ownBlock ∧ some k_ ≠ (.slice Ao22 t256.length co22 : Value).ownBlock)) ∧ some k_ ≠ (.slice Ao67 t273.length co67 : Value).ownBlock) ∧ some k_ ≠ (.slice Ao70 t276.length co70 : Value).ownBlock) ∧ some k_ ≠ (.slice Ao74 t279.length co74 : Value).ownBlock)) (n := t245.length) (c := co14) ?_).2.2; exact (by (with_reducible repeat (first | apply Kd.R_alloc | apply Kd.R_drewN | apply Kd.R_drew)); exact (Kd.R_mono (Kd.R_far (p := ⟨gb283, 1, none⟩) (Kd.R_far (p := ⟨gb283, 0, none⟩) (Kd.R_types HO_250001.out BK283.out (by decide)) (fun _ hk => hk.2) (.slice Ao70 t276.length co70)) (fun _ hk => hk.2) (.slice Ao74 t279.length co74)) (fun _ h_ => h_.1)))); (case side8 => exact (Kd.R_reads' HO_250001.out).2.1); rintro e w82 ⟨rfl, hb⟩; refine ⟨_, rfl, ?_⟩; have n0_ := Aside0.mk (Kd.R_below (by (with_reducible repeat (first | apply Kd.R_alloc | apply Kd.R_drewN | apply Kd.R_drew)); exact (Kd.R_mono (Kd.R_far (p := ⟨gb283, 1, none⟩) (Kd.R_far (p := ⟨gb283, 0, none⟩) (Kd.R_types HO_250000.out BK283.out (by decide)) (fun _ hk => hk.2) (.slice Ao70 t276.length co70)) (fun _ hk => hk.2) (.slice Ao74 t279.length co74)) (fun _ h_ => h_.1))) hb); have n1_ := Aside0.mk (Kd.R_below (by (with_reducible repeat (first | apply Kd.R_alloc | apply Kd.R_drewN | apply Kd.R_drew)); exact (Kd.R_mono (Kd.R_far (p := ⟨gb283, 1, none⟩) (Kd.R_far (p := ⟨gb283, 0, none⟩) (Kd.R_types HO_250001.out BK283.out (by decide)) (fun _ hk => hk.2) (.slice Ao70 t276.length co70)) (fun _ hk => hk.2) (.slice Ao74 t279.length co74)) (fun _ h_ => h_.1))) hb); have n2_ := Aside0.mk (Kd.R_below (by (with_reducible repeat (first | apply Kd.R_alloc | apply Kd.R_drewN | apply Kd.R_drew)); exact (Kd.R_mono (Kd.R_far (p := ⟨gb283, 1, none⟩) (Kd.R_far (p := ⟨gb283, 0, none⟩) (Kd.R_types HO_261000.out BK283.out (by decide)) (fun _ hk => hk.2) (.slice Ao70 t276.length co70)) (fun _ hk => hk.2) (.slice Ao74 t279.length co74)) (fun _ h_ => h_.1))) hb); have n3_ := Aside0.mk (Kd.R_below (by (with_reducible repeat (first | apply Kd.R_alloc | apply Kd.R_drewN | apply Kd.R_drew)); exact (Kd.R_mono (Kd.R_far (p := ⟨gb283, 1, none⟩) (Kd.R_far (p := ⟨gb283, 0, none⟩) (Kd.R_types HO_261001.out BK283.out (by decide)) (fun _ hk => hk.2) (.slice Ao70 t276.length co70)) (fun _ hk => hk.2) (.slice Ao74 t279.length co74)) (fun _ h_ => h_.1))) hb); have n4_ := Aside0.mk (Kd.R_below (by (with_reducible repeat (first | apply Kd.R_alloc | apply Kd.R_drewN | apply Kd.R_drew)); exact (Kd.R_mono (Kd.R_far (p := ⟨gb283, 1, none⟩) (Kd.R_far (p := ⟨gb283, 0, none⟩) (Kd.R_types HO275.out BK283.out (by decide)) (fun _ hk => hk.2) (.slice Ao70 t276.length co70)) (fun _ hk => hk.2) (.slice Ao74 t279.length co74)) (fun _ h_ => h_.1))) hb); have n5_ := Aside0.mk (Kd.R_below (by (with_reducible repeat (first | apply Kd.R_alloc | apply Kd.R_drewN | apply Kd.R_drew)); exact (Kd.R_mono (Kd.R_far (p := ⟨gb283, 1, none⟩) (Kd.R_far (p := ⟨gb283, 0, none⟩) (Kd.R_types HO278.out BK283.out (by decide)) (fun _ hk => hk.2) (.slice Ao70 t276.length co70)) (fun _ hk => hk.2) (.slice Ao74 t279.length co74)) (fun _ h_ => h_.1))) hb); have n6_ := Aside0.mk (Kd.R_below (by (with_reducible repeat (first | apply Kd.R_alloc | apply Kd.R_drewN | apply Kd.R_drew)); exact (Kd.R_mono (Kd.R_far (p := ⟨gb283, 1, none⟩) (Kd.R_far (p := ⟨gb283, 0, none⟩) (Kd.R_types HO281.out BK283.out (by decide)) (fun _ hk => hk.2) (.slice Ao70 t276.length co70)) (fun _ hk => hk.2) (.slice Ao74 t279.length co74)) (fun _ h_ => h_.1))) hb); have n7_ := Aside0.mk (blk_below (g := gb249) (o := .cells #[.slice Ao12 t242.length co12, .slice Ao14 t245.length co14] 28 (0, 0)) (by (with_reducible repeat (first | refine blk_drewN ?_ _ | refine blk_drew ?_ | refine blk_alloc ?_ _)); refine blk_far ?_ NB249_283.out _; (with_reducible repeat (first | refine blk_drewN ?_ _ | refine blk_drew ?_ | refine blk_alloc ?_ _)); refine blk_far ?_ NB249_283.out _; (with_reducible repeat (first | refine blk_drewN ?_ _ | refine blk_drew ?_ | refine blk_alloc ?_ _)); exact BK249.out) hb); have n8_ := Aside0.mk (blk_below (g := gb260) (o := .cells #[.slice Ao19 t253.length co19, .slice Ao22 t256.length co22] 28 (0, 0)) (by (with_reducible repeat (first | refine blk_drewN ?_ _ | refine blk_drew ?_ | refine blk_alloc ?_ _)); refine blk_far ?_ NB260_283.out _; (with_reducible repeat (first | refine blk_drewN ?_ _ | refine blk_drew ?_ | refine blk_alloc ?_ _)); refine blk_far ?_ NB260_283.out _; (with_reducible repeat (first | refine blk_drewN ?_ _ | refine blk_drew ?_ | refine blk_alloc ?_ _)); exact BK260.out) hb); have n9_ := Aside0.mk (blk_below (g := gb283) (o := .cells #[.slice Ao70 t276.length co70, .slice Ao74 t279.length co74] 28 (0, 0)) (by (with_reducible repeat (first | refine blk_drewN ?_ _ | refine blk_drew ?_ | refine blk_alloc ?_ _)); refine blk_put (cs := #[.slice Ao70 t276.length co70, .slice none 0 0]) ?_ 1 _ rfl; (with_reducible repeat (first | refine blk_drewN ?_ _ | refine blk_drew ?_ | refine blk_alloc ?_ _)); refine blk_put (cs := #[.slice none 0 0, .slice none 0 0]) ?_ 0 _ rfl; (with_reducible repeat (first | refine blk_drewN ?_ _ | refine blk_drew ?_ | refine blk_alloc ?_ _)); exact BK283.out) hb); have n10_ := Aside0.mk (below_step (by repeat (first | (with_reducible first | exact HB.out | apply below_alloc | apply pw_below_drewN | apply below_drew1 | refine below_set ?_ GE249.out | refine below_set ?_ GE260.out | refine below_set ?_ GE283.out) | exact HB.out)) hb); clear HO_250000; clear HO_250001; clear HO_261000; clear HO_261001; clear HO275; clear HO278; clear HO281; clear BK249; clear BK260; clear BK283; clear HB; have HO_250000 := n0_; have HO_250001 := n1_; have HO_261000 := n2_; have HO_261001 := n3_; have HO275 := n4_; have HO278 := n5_; have HO281 := n6_; have BK249 := n7_; have BK260 := n8_; have BK283 := n9_; have HB := n10_; clear n0_ n1_ n2_ n3_ n4_ n5_ n6_ n7_ n8_ n9_ n10_; (try clear hb); (try clear hb2); (try clear hk); (try clear hi)))
                          go_meet
                          case rel => exact ⟨_, ((t282 != t248)), (by first | rfl | simp | simp [*]), H', ⟨by have := HJ6.out; have := HJ37.out; first | omega | exact Nat.le_refl _⟩, ⟨by (with_reducible repeat (first | apply Kd.R_alloc | apply Kd.R_drewN | apply Kd.R_drew)); exact Kd.R_mono HO_250000.out (fun _ hk => ⟨hk.1.1.1.1, ⟨hk.1.1.1.2.1, ⟨hk.1.1.1.2.2, ⟨hk.1.2, hk.2⟩⟩⟩⟩)⟩, ⟨by (with_reducible repeat (first | apply Kd.R_alloc | apply Kd.R_drewN | apply Kd.R_drew)); exact Kd.R_mono HO_250001.out (fun _ hk => ⟨hk.1.1.1.1, ⟨hk.1.1.1.2.1, ⟨hk.1.1.1.2.2, ⟨hk.1.2, hk.2⟩⟩⟩⟩)⟩, ⟨by (with_reducible repeat (first | apply Kd.R_alloc | apply Kd.R_drewN | apply Kd.R_drew)); exact Kd.R_mono HO_261000.out (fun _ hk => ⟨hk.1.1.1.1, ⟨hk.1.1.1.2.1, ⟨hk.1.1.1.2.2, ⟨hk.1.2, hk.2⟩⟩⟩⟩)⟩, ⟨by (with_reducible repeat (first | apply Kd.R_alloc | apply Kd.R_drewN | apply Kd.R_drew)); exact Kd.R_mono HO_261001.out (fun _ hk => ⟨hk.1.1.1.1, ⟨hk.1.1.1.2.1, ⟨hk.1.1.1.2.2, ⟨hk.1.2, hk.2⟩⟩⟩⟩)⟩, ⟨by (with_reducible repeat (first | apply Kd.R_alloc | apply Kd.R_drewN | apply Kd.R_drew)); exact Kd.R_mono HO278.out (fun _ hk => ⟨hk.1.1.1.1.2, ⟨hk.1.1.1.2, ⟨hk.1.1.2, ⟨hk.1.2, hk.1.1.1.1.1⟩⟩⟩⟩)⟩, ⟨by (with_reducible repeat (first | apply Kd.R_alloc | apply Kd.R_drewN | apply Kd.R_drew)); exact Kd.R_mono HO281.out (fun _ hk => ⟨hk.1.1.1.1.2, ⟨hk.1.1.1.2, ⟨hk.1.1.2, ⟨hk.1.2, hk.1.1.1.1.1⟩⟩⟩⟩)⟩, ⟨by (with_reducible repeat (first | refine blk_drewN ?_ _ | refine blk_drew ?_ | refine blk_alloc ?_ _)); exact BK249.out⟩, ⟨by (with_reducible repeat (first | refine blk_drewN ?_ _ | refine blk_drew ?_ | refine blk_alloc ?_ _)); exact BK260.out⟩, ⟨by (with_reducible repeat (first | refine blk_drewN ?_ _ | refine blk_drew ?_ | refine blk_alloc ?_ _)); exact BK283.out⟩, ⟨by repeat (first | (with_reducible first | exact HB.out | apply below_alloc | apply pw_below_drewN | apply below_drew1 | refine below_set ?_ GE249.out | refine below_set ?_ GE260.out | refine below_set ?_ GE283.out) | exact HB.out)⟩⟩
                        · replace c76 := Bool.eq_false_iff.mpr c76
                          subst c76
                          have H1 : (laws_FnExactFromPermutation.j2 kj37 t269 true t270 t271) = some true := by rw [if_neg (show ¬ (false = true) by decide)] at H; first | done | exact H
                          clear H
                          have H := H1
                          clear H1
                          have H' := Aside0.mk H
                          clear H
                          have hnb83 := NB283_249.out
                          have hnc83 := NB249_283.out
                          have hnb84 := NB283_260.out
                          have hnc84 := NB260_283.out
                          have hcz85_0 : w69.cell? ⟨gb283, 0, none⟩ = some (.slice none 0 0) := (blk_cell BK283.out 0).trans rfl
                          have hcz85_1 : w69.cell? ⟨gb283, 1, none⟩ = some (.slice none 0 0) := (blk_cell BK283.out 1).trans rfl
                          have hfz85_0 := blk_frozen BK283.out 0
                          have hfz85_1 := blk_frozen BK283.out 1
                          have hnb86 := NB249_260.out
                          have hnc86 := NB260_249.out
                          have hcz87_0 : w69.cell? ⟨gb249, 0, none⟩ = some (.slice Ao12 t242.length co12) := (blk_cell BK249.out 0).trans rfl
                          have hcz87_1 : w69.cell? ⟨gb249, 1, none⟩ = some (.slice Ao14 t245.length co14) := (blk_cell BK249.out 1).trans rfl
                          have hfz87_0 := blk_frozen BK249.out 0
                          have hfz87_1 := blk_frozen BK249.out 1
                          go_wp2_with (first | ((with_reducible refine gate_callee (f := 15) rfl ?_); refine goesL_ (some 78) rfl rfl Try.func15 (by kernel_rfl) rfl #[.agg #[.slice Ao70 t276.length co70, .slice Ao74 t279.length co74], .agg #[.slice Ao12 t242.length co12, .slice Ao14 t245.length co14]] rfl (by (try simp only [List.map_toArray, List.map_cons, List.map_nil]); first | done | rfl) ?_; (with_reducible refine (laws_eqMeander.calls kj37 _ _ t276 _ _ t279 _ _ t242 _ _ t245 false _ ?side1 ?side2 ?side3 ?side4 ?side5 ?side6 ?side7 ?side8 A75.out).mono ?_); (case side1 => refine (Kd.R_reads' (e := 3) (base := w.heap.size) (ok := fun k_ => (((((some k_ ≠ (.slice Ao74 t279.length co74 : Value).ownBlock ∧ some k_ ≠ (.slice Ao12 t242.length co12 : Value).ownBlock) ∧ some k_ ≠ (.slice Ao14 t245.length co14 : Value).ownBlock) ∧ some k_ ≠ (.slice Ao19 t253.length co19 : Value).ownBlock) ∧ some k_ ≠ (.slice Ao22 t256.length co22 : Value).ownBlock) ∧ some k_ ≠ (.slice Ao67 t273.length co67 : Value).ownBlock)) (n := t276.length) (c := co70) ?_).2.2; exact (by (with_reducible repeat (first | apply Kd.R_alloc | apply Kd.R_drewN | apply Kd.R_drew)); exact (Kd.R_mono (Kd.R_far (p := ⟨gb283, 1, none⟩) (Kd.R_far (p := ⟨gb283, 0, none⟩) (Kd.R_types HO278.out BK283.out (by decide)) (fun _ hk => hk.2) (.slice Ao70 t276.length co70)) (fun _ hk => hk.2) (.slice Ao74 t279.length co74)) (fun _ h_ => h_.1)))); (case side2 => exact (Kd.R_reads' HO278.out).2.1); (case side3 => refine (Kd.R_reads' (e := 3) (base := w.heap.size) (ok := fun k_ => (((((some k_ ≠ (.slice Ao70 t276.length co70 : Value).ownBlock ∧ some k_ ≠ (.slice Ao12 t242.length co12 : Value).ownBlock) ∧ some k_ ≠ (.slice Ao14 t245.length co14 : Value).ownBlock) ∧ some k_ ≠ (.slice Ao19 t253.length co19 : Value).ownBlock) ∧ some k_ ≠ (.slice Ao22 t256.length co22 : Value).ownBlock) ∧ some k_ ≠ (.slice Ao67 t273.length co67 : Value).ownBlock)) (n := t279.length) (c := co74) ?_).2.2; exact (by (with_reducible repeat (first | apply Kd.R_alloc | apply Kd.R_drewN | apply Kd.R_drew)); exact (Kd.R_mono (Kd.R_far (p := ⟨gb283, 1, none⟩) (Kd.R_far (p := ⟨gb283, 0, none⟩) (Kd.R_types HO281.out BK283.out (by decide)) (fun _ hk => hk.2) (.slice Ao70 t276.length co70)) (fun _ hk => hk.2) (.slice Ao74 t279.length co74)) (fun _ h_ => h_.1)))); (case side4 => exact (Kd.R_reads' HO281.out).2.1); (case side5 => refine (Kd.R_reads' (e := 3) (base := w.heap.size) (ok := fun k_ => ((((some k_ ≠ (.slice Ao14 t245.length co14 : Value).ownBlock ∧ (some k_ ≠ (.slice Ao19 t253.length co19 : Value).ownBlock ∧ some k_ ≠ (.slice Ao22 t256.length co22 : Value).ownBlock)) ∧ some k_ ≠ (.slice Ao67 t273.length co67 : Value).ownBlock) ∧ some k_ ≠ (.slice Ao70 t276.length co70 : Value).ownBlock) ∧ some k_ ≠ (.slice Ao74 t279.length co74 : Value).ownBlock)) (n := t242.length) (c := co12) ?_).2.2; exact (by (with_reducible repeat (first | apply Kd.R_alloc | apply Kd.R_drewN | apply Kd.R_drew)); exact (Kd.R_mono (Kd.R_far (p := ⟨gb283, 1, none⟩) (Kd.R_far (p := ⟨gb283, 0, none⟩) (Kd.R_types HO_250000.out BK283.out (by decide)) (fun _ hk => hk.2) (.slice Ao70 t276.length co70)) (fun _ hk => hk.2) (.slice Ao74 t279.length co74)) (fun _ h_ => h_.1)))); (case side6 => exact (Kd.R_reads' HO_250000.out).2.1); (case side7 => refine (Kd.R_reads' (e := 3) (base := w.heap.size) (ok := fun k_ => ((((some k_ ≠ (.slice Ao12 t242.length co12 : Value).ownBlock ∧ (some k_ ≠ (.slice Ao19 t253.length co19 : Value).ownBlock ∧ some k_ ≠ (.slice Ao22 t256.length co22 : Value).ownBlock)) ∧ some k_ ≠ (.slice Ao67 t273.length co67 : Value).ownBlock) ∧ some k_ ≠ (.slice Ao70 t276.length co70 : Value).ownBlock) ∧ some k_ ≠ (.slice Ao74 t279.length co74 : Value).ownBlock)) (n := t245.length) (c := co14) ?_).2.2; exact (by (with_reducible repeat (first | apply Kd.R_alloc | apply Kd.R_drewN | apply Kd.R_drew)); exact (Kd.R_mono (Kd.R_far (p := ⟨gb283, 1, none⟩) (Kd.R_far (p := ⟨gb283, 0, none⟩) (Kd.R_types HO_250001.out BK283.out (by decide)) (fun _ hk => hk.2) (.slice Ao70 t276.length co70)) (fun _ hk => hk.2) (.slice Ao74 t279.length co74)) (fun _ h_ => h_.1)))); (case side8 => exact (Kd.R_reads' HO_250001.out).2.1); rintro e w88 ⟨rfl, hb⟩; refine ⟨_, rfl, ?_⟩; have n0_ := Aside0.mk (Kd.R_below (by (with_reducible repeat (first | apply Kd.R_alloc | apply Kd.R_drewN | apply Kd.R_drew)); exact (Kd.R_mono (Kd.R_far (p := ⟨gb283, 1, none⟩) (Kd.R_far (p := ⟨gb283, 0, none⟩) (Kd.R_types HO_250000.out BK283.out (by decide)) (fun _ hk => hk.2) (.slice Ao70 t276.length co70)) (fun _ hk => hk.2) (.slice Ao74 t279.length co74)) (fun _ h_ => h_.1))) hb); have n1_ := Aside0.mk (Kd.R_below (by (with_reducible repeat (first | apply Kd.R_alloc | apply Kd.R_drewN | apply Kd.R_drew)); exact (Kd.R_mono (Kd.R_far (p := ⟨gb283, 1, none⟩) (Kd.R_far (p := ⟨gb283, 0, none⟩) (Kd.R_types HO_250001.out BK283.out (by decide)) (fun _ hk => hk.2) (.slice Ao70 t276.length co70)) (fun _ hk => hk.2) (.slice Ao74 t279.length co74)) (fun _ h_ => h_.1))) hb); have n2_ := Aside0.mk (Kd.R_below (by (with_reducible repeat (first | apply Kd.R_alloc | apply Kd.R_drewN | apply Kd.R_drew)); exact (Kd.R_mono (Kd.R_far (p := ⟨gb283, 1, none⟩) (Kd.R_far (p := ⟨gb283, 0, none⟩) (Kd.R_types HO_261000.out BK283.out (by decide)) (fun _ hk => hk.2) (.slice Ao70 t276.length co70)) (fun _ hk => hk.2) (.slice Ao74 t279.length co74)) (fun _ h_ => h_.1))) hb); have n3_ := Aside0.mk (Kd.R_below (by (with_reducible repeat (first | apply Kd.R_alloc | apply Kd.R_drewN | apply Kd.R_drew)); exact (Kd.R_mono (Kd.R_far (p := ⟨gb283, 1, none⟩) (Kd.R_far (p := ⟨gb283, 0, none⟩) (Kd.R_types HO_261001.out BK283.out (by decide)) (fun _ hk => hk.2) (.slice Ao70 t276.length co70)) (fun _ hk => hk.2) (.slice Ao74 t279.length co74)) (fun _ h_ => h_.1))) hb); have n4_ := Aside0.mk (Kd.R_below (by (with_reducible repeat (first | apply Kd.R_alloc | apply Kd.R_drewN | apply Kd.R_drew)); exact (Kd.R_mono (Kd.R_far (p := ⟨gb283, 1, none⟩) (Kd.R_far (p := ⟨gb283, 0, none⟩) (Kd.R_types HO275.out BK283.out (by decide)) (fun _ hk => hk.2) (.slice Ao70 t276.length co70)) (fun _ hk => hk.2) (.slice Ao74 t279.length co74)) (fun _ h_ => h_.1))) hb); have n5_ := Aside0.mk (Kd.R_below (by (with_reducible repeat (first | apply Kd.R_alloc | apply Kd.R_drewN | apply Kd.R_drew)); exact (Kd.R_mono (Kd.R_far (p := ⟨gb283, 1, none⟩) (Kd.R_far (p := ⟨gb283, 0, none⟩) (Kd.R_types HO278.out BK283.out (by decide)) (fun _ hk => hk.2) (.slice Ao70 t276.length co70)) (fun _ hk => hk.2) (.slice Ao74 t279.length co74)) (fun _ h_ => h_.1))) hb); have n6_ := Aside0.mk (Kd.R_below (by (with_reducible repeat (first | apply Kd.R_alloc | apply Kd.R_drewN | apply Kd.R_drew)); exact (Kd.R_mono (Kd.R_far (p := ⟨gb283, 1, none⟩) (Kd.R_far (p := ⟨gb283, 0, none⟩) (Kd.R_types HO281.out BK283.out (by decide)) (fun _ hk => hk.2) (.slice Ao70 t276.length co70)) (fun _ hk => hk.2) (.slice Ao74 t279.length co74)) (fun _ h_ => h_.1))) hb); have n7_ := Aside0.mk (blk_below (g := gb249) (o := .cells #[.slice Ao12 t242.length co12, .slice Ao14 t245.length co14] 28 (0, 0)) (by (with_reducible repeat (first | refine blk_drewN ?_ _ | refine blk_drew ?_ | refine blk_alloc ?_ _)); refine blk_far ?_ NB249_283.out _; (with_reducible repeat (first | refine blk_drewN ?_ _ | refine blk_drew ?_ | refine blk_alloc ?_ _)); refine blk_far ?_ NB249_283.out _; (with_reducible repeat (first | refine blk_drewN ?_ _ | refine blk_drew ?_ | refine blk_alloc ?_ _)); exact BK249.out) hb); have n8_ := Aside0.mk (blk_below (g := gb260) (o := .cells #[.slice Ao19 t253.length co19, .slice Ao22 t256.length co22] 28 (0, 0)) (by (with_reducible repeat (first | refine blk_drewN ?_ _ | refine blk_drew ?_ | refine blk_alloc ?_ _)); refine blk_far ?_ NB260_283.out _; (with_reducible repeat (first | refine blk_drewN ?_ _ | refine blk_drew ?_ | refine blk_alloc ?_ _)); refine blk_far ?_ NB260_283.out _; (with_reducible repeat (first | refine blk_drewN ?_ _ | refine blk_drew ?_ | refine blk_alloc ?_ _)); exact BK260.out) hb); have n9_ := Aside0.mk (blk_below (g := gb283) (o := .cells #[.slice Ao70 t276.length co70, .slice Ao74 t279.length co74] 28 (0, 0)) (by (with_reducible repeat (first | refine blk_drewN ?_ _ | refine blk_drew ?_ | refine blk_alloc ?_ _)); refine blk_put (cs := #[.slice Ao70 t276.length co70, .slice none 0 0]) ?_ 1 _ rfl; (with_reducible repeat (first | refine blk_drewN ?_ _ | refine blk_drew ?_ | refine blk_alloc ?_ _)); refine blk_put (cs := #[.slice none 0 0, .slice none 0 0]) ?_ 0 _ rfl; (with_reducible repeat (first | refine blk_drewN ?_ _ | refine blk_drew ?_ | refine blk_alloc ?_ _)); exact BK283.out) hb); have n10_ := Aside0.mk (below_step (by repeat (first | (with_reducible first | exact HB.out | apply below_alloc | apply pw_below_drewN | apply below_drew1 | refine below_set ?_ GE249.out | refine below_set ?_ GE260.out | refine below_set ?_ GE283.out) | exact HB.out)) hb); clear HO_250000; clear HO_250001; clear HO_261000; clear HO_261001; clear HO275; clear HO278; clear HO281; clear BK249; clear BK260; clear BK283; clear HB; have HO_250000 := n0_; have HO_250001 := n1_; have HO_261000 := n2_; have HO_261001 := n3_; have HO275 := n4_; have HO278 := n5_; have HO281 := n6_; have BK249 := n7_; have BK260 := n8_; have BK283 := n9_; have HB := n10_; clear n0_ n1_ n2_ n3_ n4_ n5_ n6_ n7_ n8_ n9_ n10_; (try clear hb); (try clear hb2); (try clear hk); (try clear hi)))
                          go_meet
                          case rel => exact ⟨_, (true), (by first | rfl | simp | simp [*]), H', ⟨by have := HJ6.out; have := HJ37.out; first | omega | exact Nat.le_refl _⟩, ⟨by (with_reducible repeat (first | apply Kd.R_alloc | apply Kd.R_drewN | apply Kd.R_drew)); exact Kd.R_mono HO_250000.out (fun _ hk => ⟨hk.1.1.1.1, ⟨hk.1.1.1.2.1, ⟨hk.1.1.1.2.2, ⟨hk.1.2, hk.2⟩⟩⟩⟩)⟩, ⟨by (with_reducible repeat (first | apply Kd.R_alloc | apply Kd.R_drewN | apply Kd.R_drew)); exact Kd.R_mono HO_250001.out (fun _ hk => ⟨hk.1.1.1.1, ⟨hk.1.1.1.2.1, ⟨hk.1.1.1.2.2, ⟨hk.1.2, hk.2⟩⟩⟩⟩)⟩, ⟨by (with_reducible repeat (first | apply Kd.R_alloc | apply Kd.R_drewN | apply Kd.R_drew)); exact Kd.R_mono HO_261000.out (fun _ hk => ⟨hk.1.1.1.1, ⟨hk.1.1.1.2.1, ⟨hk.1.1.1.2.2, ⟨hk.1.2, hk.2⟩⟩⟩⟩)⟩, ⟨by (with_reducible repeat (first | apply Kd.R_alloc | apply Kd.R_drewN | apply Kd.R_drew)); exact Kd.R_mono HO_261001.out (fun _ hk => ⟨hk.1.1.1.1, ⟨hk.1.1.1.2.1, ⟨hk.1.1.1.2.2, ⟨hk.1.2, hk.2⟩⟩⟩⟩)⟩, ⟨by (with_reducible repeat (first | apply Kd.R_alloc | apply Kd.R_drewN | apply Kd.R_drew)); exact Kd.R_mono HO278.out (fun _ hk => ⟨hk.1.1.1.1.2, ⟨hk.1.1.1.2, ⟨hk.1.1.2, ⟨hk.1.2, hk.1.1.1.1.1⟩⟩⟩⟩)⟩, ⟨by (with_reducible repeat (first | apply Kd.R_alloc | apply Kd.R_drewN | apply Kd.R_drew)); exact Kd.R_mono HO281.out (fun _ hk => ⟨hk.1.1.1.1.2, ⟨hk.1.1.1.2, ⟨hk.1.1.2, ⟨hk.1.2, hk.1.1.1.1.1⟩⟩⟩⟩)⟩, ⟨by (with_reducible repeat (first | refine blk_drewN ?_ _ | refine blk_drew ?_ | refine blk_alloc ?_ _)); exact BK249.out⟩, ⟨by (with_reducible repeat (first | refine blk_drewN ?_ _ | refine blk_drew ?_ | refine blk_alloc ?_ _)); exact BK260.out⟩, ⟨by (with_reducible repeat (first | refine blk_drewN ?_ _ | refine blk_drew ?_ | refine blk_alloc ?_ _)); exact BK283.out⟩, ⟨by repeat (first | (with_reducible first | exact HB.out | apply below_alloc | apply pw_below_drewN | apply below_drew1 | refine below_set ?_ GE249.out | refine below_set ?_ GE260.out | refine below_set ?_ GE283.out) | exact HB.out)⟩⟩
                      case rest =>
                        clear HC60
                        try clear c1
                        try clear c2
                        try clear c2b0
                        try clear c2b1
                        try clear p2
                        try clear c3
                        try clear c4
                        try clear c5
                        try clear c6
                        try clear c7
                        try clear c8
                        try clear c14
                        try clear c15
                        try clear c16
                        try clear c17
                        try clear c20
                        try clear c24
                        try clear c25
                        try clear c26
                        try clear c27
                        try clear c29
                        try clear c33
                        try clear c36
                        try clear c42
                        try clear c42b0
                        try clear c44
                        try clear c45
                        try clear c49
                        try clear c53
                        try clear c56
                        try clear c56b0
                        try clear c57
                        try clear c57b0
                        try clear c57b1
                        try clear c61
                        try clear c71
                        try clear c72
                        try clear c76
                        try clear c77
                        try clear c78
                        try clear c80
                        try clear c83
                        try clear c84
                        try clear c86
                        try clear hcz13_0
                        try clear hcz13_1
                        try clear hcz21_0
                        try clear hcz21_1
                        try clear hcz26_0
                        try clear hcz26_1
                        try clear hcz27_0
                        try clear hcz27_1
                        try clear hcz30_0
                        try clear hcz30_1
                        try clear hcz31_0
                        try clear hcz31_1
                        try clear hcz46_0
                        try clear hcz46_1
                        try clear hcz47_0
                        try clear hcz47_1
                        try clear hcz50_0
                        try clear hcz50_1
                        try clear hcz51_0
                        try clear hcz51_1
                        try clear hcz62_0
                        try clear hcz62_1
                        try clear hcz64_0
                        try clear hcz64_1
                        try clear hcz73_0
                        try clear hcz73_1
                        try clear hcz79_0
                        try clear hcz79_1
                        try clear hcz81_0
                        try clear hcz81_1
                        try clear hcz85_0
                        try clear hcz85_1
                        try clear hcz87_0
                        try clear hcz87_1
                        try clear hfz13_0
                        try clear hfz13_1
                        try clear hfz21_0
                        try clear hfz21_1
                        try clear hfz26_0
                        try clear hfz26_1
                        try clear hfz27_0
                        try clear hfz27_1
                        try clear hfz30_0
                        try clear hfz30_1
                        try clear hfz31_0
                        try clear hfz31_1
                        try clear hfz46_0
                        try clear hfz46_1
                        try clear hfz47_0
                        try clear hfz47_1
                        try clear hfz50_0
                        try clear hfz50_1
                        try clear hfz51_0
                        try clear hfz51_1
                        try clear hfz62_0
                        try clear hfz62_1
                        try clear hfz64_0
                        try clear hfz64_1
                        try clear hfz73_0
                        try clear hfz73_1
                        try clear hfz79_0
                        try clear hfz79_1
                        try clear hfz81_0
                        try clear hfz81_1
                        try clear hfz85_0
                        try clear hfz85_1
                        try clear hfz87_0
                        try clear hfz87_1
                        try clear p2
                        obtain ⟨kq, x84_59, rfl, HA, HJ59, HO_250000, HO_250001, HO_261000, HO_261001, HO_284000, HO_284001, BK249, BK260, BK283, HB⟩ := hcut
                        have hl261000_59 := (Kd.R_reads' HO_261000.out).1
                        rw [hl261000_59] at HO_261000
                        (try simp only [hl261000_59])
                        (try simp only [hl261000_59] at BK249)
                        (try simp only [hl261000_59] at BK260)
                        (try simp only [hl261000_59] at BK283)
                        (try simp only [hl261000_59] at HO_250000)
                        (try simp only [hl261000_59] at HO_250001)
                        (try simp only [hl261000_59] at HO_261001)
                        (try simp only [hl261000_59] at HO_284000)
                        (try simp only [hl261000_59] at HO_284001)
                        have hl261001_59 := (Kd.R_reads' HO_261001.out).1
                        rw [hl261001_59] at HO_261001
                        (try simp only [hl261001_59])
                        (try simp only [hl261001_59] at BK249)
                        (try simp only [hl261001_59] at BK260)
                        (try simp only [hl261001_59] at BK283)
                        (try simp only [hl261001_59] at HO_250000)
                        (try simp only [hl261001_59] at HO_250001)
                        (try simp only [hl261001_59] at HO_261000)
                        (try simp only [hl261001_59] at HO_284000)
                        (try simp only [hl261001_59] at HO_284001)
                        cases kq with
                        | zero => exact absurd HA.out (by simp [laws_FnExactFromPermutation.j2])
                        | succ kj59 =>
                          have H := HA.out
                          clear HA
                          simp only [laws_FnExactFromPermutation.j2] at H
                          by_cases c89 : x84_59 = true
                          · subst c89
                            have H1 : (some false) = some true := by rw [if_pos rfl] at H; first | done | exact H
                            clear H
                            have H := H1
                            clear H1
                            exact absurd H (by simp)
                          · replace c89 := Bool.eq_false_iff.mpr c89
                            subst c89
                            have H1 : ((laws_heldMeander.f kj59 t270 t271 1).bind fun t285 => (if t285 < 0 then (some false) else (if t285 = t269 then (some true) else (some false)))) = some true := by rw [if_neg (show ¬ (false = true) by decide)] at H; first | done | exact H
                            clear H
                            have H := H1
                            clear H1
                            replace H := Option.bind_eq_some_iff.mp H
                            obtain ⟨t285, A900, H⟩ := H
                            replace H : (if t285 < 0 then (some false) else (if t285 = t269 then (some true) else (some false))) = some true := H
                            have A90 := Aside0.mk A900
                            clear A900
                            by_cases c91 : t285 < 0
                            · rw [if_pos c91] at H
                              have c91b0 : decide (t285 < 0) = true := decide_eq_true c91
                              clear c91
                              (try simp only [hl261000_59, hl261001_59] at c91b0)
                              exact absurd H (by simp)
                            · rw [if_neg c91] at H
                              have c91b0 : decide (t285 < 0) = false := decide_eq_false c91
                              clear c91
                              (try simp only [hl261000_59, hl261001_59] at c91b0)
                              by_cases c92 : t285 = t269
                              · rw [if_pos c92] at H
                                have c92b0 : (t285 == t269) = true := beq_iff_eq.mpr c92
                                have c92b1 : (t285 != t269) = false := bne_eq_false_iff_eq.mpr c92
                                clear c92
                                (try simp only [hl261000_59, hl261001_59] at c92b0 c92b1)
                                clear H
                                have hnb93 := NB260_249.out
                                have hnc93 := NB249_260.out
                                have hnb94 := NB260_283.out
                                have hnc94 := NB283_260.out
                                have hcz95_0 : wc.cell? ⟨gb260, 0, none⟩ = some (.slice Ao19 t270.length co19) := (blk_cell BK260.out 0).trans rfl
                                have hcz95_1 : wc.cell? ⟨gb260, 1, none⟩ = some (.slice Ao22 t271.length co22) := (blk_cell BK260.out 1).trans rfl
                                have hfz95_0 := blk_frozen BK260.out 0
                                have hfz95_1 := blk_frozen BK260.out 1
                                go_wp2_with (first | ((with_reducible refine gate_callee (f := 27) rfl ?_); refine goesL_ (some 87) rfl rfl Try.func27 (by kernel_rfl) rfl #[.agg #[.slice Ao19 t270.length co19, .slice Ao22 t271.length co22], .int .i64 1] rfl (by (try simp only [List.map_toArray, List.map_cons, List.map_nil]); first | done | rfl) ?_; (with_reducible refine (laws_heldMeander.calls kj59 _ _ t270 _ _ t271 1 t285 _ ?side1 ?side2 ?side3 ?side4 A90.out).mono ?_); (case side1 => repeat (first | exact (Kd.R_reads' HO_261000.out).2.2 | (with_reducible refine Kd.C_alloc ?_ _) | (with_reducible refine Kd.C_drewN ?_ _) | (with_reducible refine Kd.C_drew ?_))); (case side2 => exact (Kd.R_reads' HO_261000.out).2.1); (case side3 => repeat (first | exact (Kd.R_reads' HO_261001.out).2.2 | (with_reducible refine Kd.C_alloc ?_ _) | (with_reducible refine Kd.C_drewN ?_ _) | (with_reducible refine Kd.C_drew ?_))); (case side4 => exact (Kd.R_reads' HO_261001.out).2.1); rintro e w96 ⟨rfl, hb⟩; refine ⟨_, rfl, ?_⟩; have n0_ := Aside0.mk (Kd.R_below (by (with_reducible repeat (first | apply Kd.R_alloc | apply Kd.R_drewN | apply Kd.R_drew)); exact HO_250000.out) hb); have n1_ := Aside0.mk (Kd.R_below (by (with_reducible repeat (first | apply Kd.R_alloc | apply Kd.R_drewN | apply Kd.R_drew)); exact HO_250001.out) hb); have n2_ := Aside0.mk (Kd.R_below (by (with_reducible repeat (first | apply Kd.R_alloc | apply Kd.R_drewN | apply Kd.R_drew)); exact HO_261000.out) hb); have n3_ := Aside0.mk (Kd.R_below (by (with_reducible repeat (first | apply Kd.R_alloc | apply Kd.R_drewN | apply Kd.R_drew)); exact HO_261001.out) hb); have n4_ := Aside0.mk (Kd.R_below (by (with_reducible repeat (first | apply Kd.R_alloc | apply Kd.R_drewN | apply Kd.R_drew)); exact HO_284000.out) hb); have n5_ := Aside0.mk (Kd.R_below (by (with_reducible repeat (first | apply Kd.R_alloc | apply Kd.R_drewN | apply Kd.R_drew)); exact HO_284001.out) hb); have n6_ := Aside0.mk (blk_below (g := gb249) (o := .cells #[.slice Ao12 t242.length co12, .slice Ao14 t245.length co14] 28 (0, 0)) (by (with_reducible repeat (first | refine blk_drewN ?_ _ | refine blk_drew ?_ | refine blk_alloc ?_ _)); exact BK249.out) hb); have n7_ := Aside0.mk (blk_below (g := gb260) (o := .cells #[.slice Ao19 t270.length co19, .slice Ao22 t271.length co22] 28 (0, 0)) (by (with_reducible repeat (first | refine blk_drewN ?_ _ | refine blk_drew ?_ | refine blk_alloc ?_ _)); exact BK260.out) hb); have n8_ := Aside0.mk (blk_below (g := gb283) (o := .cells #[.slice Ao70 t276.length co70, .slice Ao74 t279.length co74] 28 (0, 0)) (by (with_reducible repeat (first | refine blk_drewN ?_ _ | refine blk_drew ?_ | refine blk_alloc ?_ _)); exact BK283.out) hb); have n9_ := Aside0.mk (below_step (by repeat (first | (with_reducible first | exact HB.out | apply below_alloc | apply pw_below_drewN | apply below_drew1 | refine below_set ?_ GE249.out | refine below_set ?_ GE260.out | refine below_set ?_ GE283.out) | exact HB.out)) hb); clear HO_250000; clear HO_250001; clear HO_261000; clear HO_261001; clear HO_284000; clear HO_284001; clear BK249; clear BK260; clear BK283; clear HB; have HO_250000 := n0_; have HO_250001 := n1_; have HO_261000 := n2_; have HO_261001 := n3_; have HO_284000 := n4_; have HO_284001 := n5_; have BK249 := n6_; have BK260 := n7_; have BK283 := n8_; have HB := n9_; clear n0_ n1_ n2_ n3_ n4_ n5_ n6_ n7_ n8_ n9_; (try clear hb); (try clear hb2); (try clear hk); (try clear hi)))
                                go_ret
                                exact ⟨by first | rfl | (simp [errW_none, errW_some] <;> rfl) | (simp [*, errW_none, errW_some] <;> rfl), by repeat (first | (with_reducible first | exact HB.out | apply below_alloc | apply pw_below_drewN | apply below_drew1 | refine below_set ?_ GE249.out | refine below_set ?_ GE260.out | refine below_set ?_ GE283.out) | exact HB.out)⟩
                              · rw [if_neg c92] at H
                                have c92b0 : (t285 == t269) = false := beq_eq_false_iff_ne.mpr c92
                                have c92b1 : (t285 != t269) = true := bne_iff_ne.mpr c92
                                (try simp only [hl261000_59, hl261001_59] at c92b0 c92b1)
                                exact absurd H (by simp)
                    · rw [if_neg c57] at H
                      have c57b0 : (t272 == t269) = false := beq_eq_false_iff_ne.mpr c57
                      have c57b1 : (t272 != t269) = true := bne_iff_ne.mpr c57
                      exact absurd H (by simp)
          · replace c36 := Bool.eq_false_iff.mpr c36
            subst c36
            have H1 : (some false) = some true := by rw [if_neg (show ¬ (false = true) by decide)] at H; first | done | exact H
            clear H
            have H := H1
            clear H1
            exact absurd H (by simp)

/-- THE ONE PURE STATEMENT of laws_FnExactFromPermutation: yours. -/
def laws_FnExactFromPermutation.Pure : Prop := ∀ (l0 : List Int), l0.length ≤ maxLen → l0.length * 8 ≤ 140737488351232 → (∀ x ∈ l0, (Lit.int .i64 x).wf = true) → ∃ k, laws_FnExactFromPermutation.f k l0 = some true
theorem laws_FnExactFromPermutation.walk (P : laws_FnExactFromPermutation.Pure) (a0 : Option Addr) (len0 cap0 : Nat) (z0 : List Int) (w : World) (w0 : (a0 = none ∧ len0 = 0 ∧ cap0 = 0 ∧ z0 = []) ∨ ∃ x, a0 = some x ∧ len0 ≤ cap0 ∧ cap0 ≤ maxLen ∧ z0.length = cap0 ∧ (∀ i, i < z0.length → w.cell? (x.add i) = some (.int .i64 (z0.getD i 0))) ∧ ∀ n ∈ z0, (Lit.int .i64 n).wf = true) (y0 : len0 * 8 ≤ 140737488351232) :
    Calls Try.prog 5 #[.slice a0 len0 cap0] w fun e w' => e = .returned (.bool true) ∧ Below w.heap.size w w' := by
  obtain ⟨l0, rfl, hr0, hm0, hw0, hc0⟩ := ReadsInt.ofRowC w0
  obtain ⟨k, h⟩ := P l0 hm0 y0 hw0
  refine (laws_FnExactFromPermutation.calls k _ _ l0 w (Kd.C_of_reads (d := (0 : Int)) (h1 := fun _ => rfl) hr0) hc0 h).mono ?_
  rintro e w' ⟨rfl, hd⟩
  exact ⟨rfl, hd⟩

/-! ### spec_l1Own: function 66 -/
def spec_l1Own.f (l0 : List Int) : Option (List Int) := (some (([] : List Int) : List Int)).bind fun y286 => (if y286.length + l0.length < 17592186044416 then (some (y286 ++ l0)) else (none))
set_option maxHeartbeats 8000000 in
set_option maxRecDepth 100000 in
theorem spec_l1Own.calls (A0 : Option Addr) (c0 : Nat) (l0 : List Int) (r : List Int) (w : World) (hr0 : Kd.C (Kd.int .i64) w A0 l0.length l0) (hc0 : l0.length ≤ c0) (h : spec_l1Own.f l0 = some r) :
    Calls Try.prog 66 #[.slice A0 l0.length c0] w fun e w' => ∃ v0_ : Value, e = .returned (v0_) ∧ Kd.R (Kd.int .i64) 3 w' w.heap.size (fun _ => True) v0_ r ∧ Below w.heap.size w w' := by
  have HR0 := Aside0.mk hr0
  have HC0 := Aside0.mk hc0
  clear hr0 hc0
  have HB := Aside0.mk (Below.refl w.heap.size w)
  have H : ((some (([] : List Int) : List Int)).bind fun y286 => (if y286.length + l0.length < 17592186044416 then (some (y286 ++ l0)) else (none))) = some r := h
  clear h
  obtain ⟨y286, hy286⟩ : ∃ y_ : List Int, y_ = (([] : List Int)) := ⟨_, rfl⟩
  replace H : (if y286.length + l0.length < 17592186044416 then (some (y286 ++ l0)) else (none)) = some r := by first | (rw [hy286]; with_reducible exact H) | (have H2_ := (Option.bind_some _ _).symm.trans H; rw [hy286]; with_reducible exact H2_) | (have H2_ := (Option.bind_some _ _).symm.trans H; with_reducible exact H2_) | with_reducible exact H | (rw [hy286]; exact H) | exact H
  have Ny286 := Aside0.mk hy286
  clear hy286
  by_cases c2 : y286.length + l0.length < 17592186044416
  · rw [if_pos c2] at H
    have LMc2 := Aside0.mk c2
    clear c2
    obtain ⟨y289, hy289⟩ : ∃ y_ : List Int, y_ = (y286 ++ l0) := ⟨_, rfl⟩
    replace H : (some y289) = some r := by first | (rw [hy289]; with_reducible exact H) | (have H2_ := (Option.bind_some _ _).symm.trans H; rw [hy289]; with_reducible exact H2_) | (have H2_ := (Option.bind_some _ _).symm.trans H; with_reducible exact H2_) | with_reducible exact H | (rw [hy289]; exact H) | exact H
    have Ny289 := Aside0.mk hy289
    clear hy289
    obtain rfl := Option.some.inj H
    go_enter Try.func66, Try.ntmps66
    go_wp2_with (first | ((with_reducible refine gate_dst (N := 3) rfl ?_); refine Kd.R_lit (Kd.int .i64) _ 3 ?hg (N := 3) ?hd (xs := ([] : List Int)) (inner := []) (ok := fun _ => True) (okp := fun _ => True) ?hr ?hp (fun _ hk => hk) trivial (Below.refl _ _) (Nat.le_refl _) (by simp) ?_; (case hd => rfl); (case hg => rfl); (case hr => first | (go_simp; done) | (go_simp; rfl)); (case hp => exact (Reps.none _ _)); intro v287 w3 ho4 hb hg_ hnew_; clear hg_ hnew_; (first | rw [← Ny286.out] at ho4 | (simp only [Int.reduceToNat] at ho4; rw [← Ny286.out] at ho4)); have n0_ := Aside0.mk (Kd.R_lower ho4 (below_size (by repeat (first | (with_reducible first | exact HB.out | apply below_alloc | apply pw_below_drewN | apply below_drew1) | exact HB.out)))); have n1_ := Aside0.mk (below_step (by repeat (first | (with_reducible first | exact HB.out | apply below_alloc | apply pw_below_drewN | apply below_drew1) | exact HB.out)) hb); clear HB; have HO288 := n0_; have HB := n1_; clear n0_ n1_; clear hb ho4) | ((with_reducible refine gate_builtin (b := .append) (xs := #[.tmp 3, .tmp 4]) rfl ?_); at_builtin; refine Kd.R_append_rows (Kd.int .i64) (w0 := w) w.heap.size rfl (.tmp 3) (.tmp 4) 22 3 (.int .i64 0) 8 rfl Try.underlying22 info3 rfl (by decide) (by omega) v287 y286 l0 _ _ _ (fun _ => True) (fun _ => False) rfl rfl ?aO ?aR (fun _ _ h => h) (fun _ h => h.elim) ?aF ?aB ?aS ?aL ?_; (case aR => repeat (first | exact (Kd.C_below HR0.out HB.out) | (with_reducible refine Kd.C_alloc ?_ _) | (with_reducible refine Kd.C_drewN ?_ _) | (with_reducible refine Kd.C_drew ?_))); (case aB => exact (by repeat (first | (with_reducible first | exact HB.out | apply below_alloc | apply pw_below_drewN | apply below_drew1) | exact HB.out))); (case aF => exact (fun _ _ => trivial)); (case aO => exact (by (with_reducible repeat (first | apply Kd.R_alloc | apply Kd.R_drewN | apply Kd.R_drew)); exact HO288.out)); (case aS => exact (below_size (by repeat (first | (with_reducible first | exact HB.out | apply below_alloc | apply pw_below_drewN | apply below_drew1) | exact HB.out)))); (case aL => have := LMc2.out; omega); intro v290 w5 ho hb hg hat; rw [← Ny289.out] at ho; have n0_ := Aside0.mk (hb); have n1_ := Aside0.mk (ho); clear HB; clear HO288; have HB := n0_; have HO291 := n1_; clear n0_ n1_; clear ho hb hg hat))
    go_ret
    exact ⟨_, by first | rfl | (simp [errW_none, errW_some] <;> rfl) | (simp [*, errW_none, errW_some] <;> rfl), by (with_reducible repeat (first | apply Kd.R_alloc | apply Kd.R_drewN | apply Kd.R_drew)); exact HO291.out, by repeat (first | (with_reducible first | exact HB.out | apply below_alloc | apply pw_below_drewN | apply below_drew1) | exact HB.out)⟩
  · rw [if_neg c2] at H
    exact absurd H (by simp)

end Go.Proofs.Yteflkoghligofaa.M
