/- Written by a program of this session (a turned copy of the kit's printer): what each Go function answers, and that it does. -/
import Derived.Test.YtmhdmebbefbcbaaPFnSidesx0
import Derived.Test.YtmhdmebbefbcbaaPFnSidesx1
namespace Go.Proofs.Ytmhdmebbefbcbaa.PFnSides
open Go.RowKit Go.Proofs.YtmhdmebbefbcbaaW.PrintWords Go.Proofs.YtmhdmebbefbcbaaW.PrintLast Go.Proofs.YtmhdmebbefbcbaaW.PrintMore
attribute [local go_sem] max2_int min2_int max_two min_two max_three min_three max_four min_four   -- for this text's walks alone
set_option linter.unusedVariables false
set_option linter.unusedSimpArgs false

/-! ### laws_FnSides: function 13 -/
mutual
def laws_FnSides.l0 : Nat → Int → Int → List (List Int) → Int → Int → Option (Bool)
  | 0, _, _, _, _, _ => none
  | k + 1, x4, x5, x6, x7, x8 => if x8 < (x6.length : Int) then (if 0 ≤ x8 then (if ((rd_L1 x6 x8).length : Int) = 0 then (laws_FnSides.j1 k x4 x5 x6 x7 x8 true) else (if ((rd_L1 x6 x8).length : Int) > x5 then (laws_FnSides.j1 k x4 x5 x6 x7 x8 true) else (if (wrap64 (x8 + 1)) < (x6.length : Int) then (laws_FnSides.j1 k x4 x5 x6 x7 x8 (((rd_L1 x6 x8).length : Int) != x5)) else (laws_FnSides.j1 k x4 x5 x6 x7 x8 false)))) else (none)) else ((impl_SheetsFor.f k x4 x5 true).bind fun t163 => (if x7 = (wrap64 (x4 + 1)) then ((impl_SheetsFor.f k x4 x5 false).bind fun t164 => (if t164 = (x6.length : Int) then (if (wrap64 (2 * t163)) ≥ (x6.length : Int) then (some (decide ((wrap64 (2 * t163)) ≤ (wrap64 ((x6.length : Int) + 1))))) else (some false)) else (some false))) else (some false)))
def laws_FnSides.j1 : Nat → Int → Int → List (List Int) → Int → Int → Bool → Option (Bool)
  | 0, _, _, _, _, _, _ => none
  | k + 1, x4, x5, x6, x7, x8, x66 => if x66 = true then (some false) else (laws_FnSides.l1 k x4 x5 x6 x7 x8 0)
def laws_FnSides.l1 : Nat → Int → Int → List (List Int) → Int → Int → Int → Option (Bool)
  | 0, _, _, _, _, _, _ => none
  | k + 1, x4, x5, x6, x7, x8, x9 => if 0 ≤ x8 then (if x8 < (x6.length : Int) then (if x9 < ((rd_L1 x6 x8).length : Int) then (if 0 ≤ x9 then (if (rd (rd_L1 x6 x8) x9) = x7 then (laws_FnSides.l1 k x4 x5 x6 (wrap64 (x7 + 1)) x8 (wrap64 (x9 + 1))) else (some false)) else (none)) else (laws_FnSides.l0 k x4 x5 x6 x7 (wrap64 (x8 + 1)))) else (none)) else (none)
end
def laws_FnSides.f (k : Nat) (l0 : List Int) : Option (Bool) := (laws_big.f l0).bind fun t150 => (if t150 = true then (some true) else ((spec_DrawPlaces.f k l0).bind fun t151 => (if 0 < (t151.length : Int) then ((some (([1, 2, 4, 8, 16] : List Int) : List Int)).bind fun y155 => (if 1 < (t151.length : Int) then (if 0 ≤ (Int.tmod (rd t151 1) 5) then (if (Int.tmod (rd t151 1) 5) < (y155.length : Int) then ((impl_SidesFor.f k (wrap64 (1 + (Int.tmod (rd t151 0) 64))) (rd y155 (Int.tmod (rd t151 1) 5))).bind fun t160 => (laws_FnSides.l0 k (wrap64 (1 + (Int.tmod (rd t151 0) 64))) (rd y155 (Int.tmod (rd t151 1) 5)) t160 1 0)) else (none)) else (none)) else (none))) else (none))))
theorem laws_FnSides.mono_l : ∀ k, (∀ y0 y1 y2 y3 y4, LeO (laws_FnSides.l0 k y0 y1 y2 y3 y4) (laws_FnSides.l0 (k + 1) y0 y1 y2 y3 y4)) ∧ (∀ y0 y1 y2 y3 y4 y5, LeO (laws_FnSides.j1 k y0 y1 y2 y3 y4 y5) (laws_FnSides.j1 (k + 1) y0 y1 y2 y3 y4 y5)) ∧ (∀ y0 y1 y2 y3 y4 y5, LeO (laws_FnSides.l1 k y0 y1 y2 y3 y4 y5) (laws_FnSides.l1 (k + 1) y0 y1 y2 y3 y4 y5))
  | 0 => ⟨fun _ _ _ _ _ r h => by simp [laws_FnSides.l0] at h, fun _ _ _ _ _ _ r h => by simp [laws_FnSides.j1] at h, fun _ _ _ _ _ _ r h => by simp [laws_FnSides.l1] at h⟩
  | k + 1 => by
    obtain ⟨ih0, ih1, ih2⟩ := laws_FnSides.mono_l k
    refine ⟨?_, ?_, ?_⟩
    · intro y0 y1 y2 y3 y4
      unfold laws_FnSides.l0
      repeat' first
      | (with_reducible exact ih0 _ _ _ _ _)
      | (with_reducible exact ih1 _ _ _ _ _ _)
      | (with_reducible exact ih2 _ _ _ _ _ _)
      | (with_reducible exact impl_SheetsFor.mono _ _ _ _)
      | (with_reducible exact impl_SidesFor.mono _ _ _)
      | (with_reducible exact spec_DrawPlaces.mono _ _)
      | (with_reducible exact LeO.refl _)
      | (with_reducible exact LeO.none _)
      | (with_reducible refine LeO.ite ?_ ?_)
      | (with_reducible refine LeO.bind ?_ (fun _ => ?_))
      | exact ih0 _ _ _ _ _
      | exact ih1 _ _ _ _ _ _
      | exact ih2 _ _ _ _ _ _
      | exact impl_SheetsFor.mono _ _ _ _
      | exact impl_SidesFor.mono _ _ _
      | exact spec_DrawPlaces.mono _ _
      | exact LeO.none _
      | refine LeO.ite ?_ ?_
      | refine LeO.bind ?_ (fun _ => ?_)
    · intro y0 y1 y2 y3 y4 y5
      unfold laws_FnSides.j1
      repeat' first
      | (with_reducible exact ih0 _ _ _ _ _)
      | (with_reducible exact ih1 _ _ _ _ _ _)
      | (with_reducible exact ih2 _ _ _ _ _ _)
      | (with_reducible exact impl_SheetsFor.mono _ _ _ _)
      | (with_reducible exact impl_SidesFor.mono _ _ _)
      | (with_reducible exact spec_DrawPlaces.mono _ _)
      | (with_reducible exact LeO.refl _)
      | (with_reducible exact LeO.none _)
      | (with_reducible refine LeO.ite ?_ ?_)
      | (with_reducible refine LeO.bind ?_ (fun _ => ?_))
      | exact ih0 _ _ _ _ _
      | exact ih1 _ _ _ _ _ _
      | exact ih2 _ _ _ _ _ _
      | exact impl_SheetsFor.mono _ _ _ _
      | exact impl_SidesFor.mono _ _ _
      | exact spec_DrawPlaces.mono _ _
      | exact LeO.none _
      | refine LeO.ite ?_ ?_
      | refine LeO.bind ?_ (fun _ => ?_)
    · intro y0 y1 y2 y3 y4 y5
      unfold laws_FnSides.l1
      repeat' first
      | (with_reducible exact ih0 _ _ _ _ _)
      | (with_reducible exact ih1 _ _ _ _ _ _)
      | (with_reducible exact ih2 _ _ _ _ _ _)
      | (with_reducible exact impl_SheetsFor.mono _ _ _ _)
      | (with_reducible exact impl_SidesFor.mono _ _ _)
      | (with_reducible exact spec_DrawPlaces.mono _ _)
      | (with_reducible exact LeO.refl _)
      | (with_reducible exact LeO.none _)
      | (with_reducible refine LeO.ite ?_ ?_)
      | (with_reducible refine LeO.bind ?_ (fun _ => ?_))
      | exact ih0 _ _ _ _ _
      | exact ih1 _ _ _ _ _ _
      | exact ih2 _ _ _ _ _ _
      | exact impl_SheetsFor.mono _ _ _ _
      | exact impl_SidesFor.mono _ _ _
      | exact spec_DrawPlaces.mono _ _
      | exact LeO.none _
      | refine LeO.ite ?_ ?_
      | refine LeO.bind ?_ (fun _ => ?_)
theorem laws_FnSides.mono : ∀ a0 k, LeO (laws_FnSides.f k a0) (laws_FnSides.f (k + 1) a0) := by
  intro a0 k
  obtain ⟨ih0, ih1, ih2⟩ := laws_FnSides.mono_l k
  unfold laws_FnSides.f
  repeat' first
      | (with_reducible exact ih0 _ _ _ _ _)
      | (with_reducible exact ih1 _ _ _ _ _ _)
      | (with_reducible exact ih2 _ _ _ _ _ _)
      | (with_reducible exact impl_SheetsFor.mono _ _ _ _)
      | (with_reducible exact impl_SidesFor.mono _ _ _)
      | (with_reducible exact spec_DrawPlaces.mono _ _)
      | (with_reducible exact LeO.refl _)
      | (with_reducible exact LeO.none _)
      | (with_reducible refine LeO.ite ?_ ?_)
      | (with_reducible refine LeO.bind ?_ (fun _ => ?_))
      | exact ih0 _ _ _ _ _
      | exact ih1 _ _ _ _ _ _
      | exact ih2 _ _ _ _ _ _
      | exact impl_SheetsFor.mono _ _ _ _
      | exact impl_SidesFor.mono _ _ _
      | exact spec_DrawPlaces.mono _ _
      | exact LeO.none _
      | refine LeO.ite ?_ ?_
      | refine LeO.bind ?_ (fun _ => ?_)
set_option maxHeartbeats 8000000 in
set_option maxRecDepth 100000 in
theorem laws_FnSides.calls (k : Nat) (A0 : Option Addr) (c0 : Nat) (l0 : List Int) (r : Bool) (w : World) (hr0 : Kd.C (Kd.int .u8) w A0 l0.length l0) (hc0 : l0.length ≤ c0) (h : laws_FnSides.f k l0 = some r) :
    Calls Try.prog 13 #[.slice A0 l0.length c0] w fun e w' => e = .returned (.bool r) ∧ Below w.heap.size w w' := by
  have HR0 := Aside0.mk hr0
  have HC0 := Aside0.mk hc0
  clear hr0 hc0
  have HB := Aside0.mk (Below.refl w.heap.size w)
  have H : ((laws_big.f l0).bind fun t150 => (if t150 = true then (some true) else ((spec_DrawPlaces.f k l0).bind fun t151 => (if 0 < (t151.length : Int) then ((some (([1, 2, 4, 8, 16] : List Int) : List Int)).bind fun y155 => (if 1 < (t151.length : Int) then (if 0 ≤ (Int.tmod (rd t151 1) 5) then (if (Int.tmod (rd t151 1) 5) < (y155.length : Int) then ((impl_SidesFor.f k (wrap64 (1 + (Int.tmod (rd t151 0) 64))) (rd y155 (Int.tmod (rd t151 1) 5))).bind fun t160 => (laws_FnSides.l0 k (wrap64 (1 + (Int.tmod (rd t151 0) 64))) (rd y155 (Int.tmod (rd t151 1) 5)) t160 1 0)) else (none)) else (none)) else (none))) else (none))))) = some r := h
  clear h
  replace H := Option.bind_eq_some_iff.mp H
  obtain ⟨t150, A20, H⟩ := H
  replace H : (if t150 = true then (some true) else ((spec_DrawPlaces.f k l0).bind fun t151 => (if 0 < (t151.length : Int) then ((some (([1, 2, 4, 8, 16] : List Int) : List Int)).bind fun y155 => (if 1 < (t151.length : Int) then (if 0 ≤ (Int.tmod (rd t151 1) 5) then (if (Int.tmod (rd t151 1) 5) < (y155.length : Int) then ((impl_SidesFor.f k (wrap64 (1 + (Int.tmod (rd t151 0) 64))) (rd y155 (Int.tmod (rd t151 1) 5))).bind fun t160 => (laws_FnSides.l0 k (wrap64 (1 + (Int.tmod (rd t151 0) 64))) (rd y155 (Int.tmod (rd t151 1) 5)) t160 1 0)) else (none)) else (none)) else (none))) else (none)))) = some r := H
  have A2 := Aside0.mk A20
  clear A20
  by_cases c3 : t150 = true
  · subst c3
    have H1 : (some true) = some r := by rw [if_pos rfl] at H; exact H
    clear H
    have H := H1
    clear H1
    obtain rfl := Option.some.inj H
    go_enter Try.func13, Try.ntmps13
    go_wp2_with (first | ((with_reducible refine gate_callee (f := 41) rfl ?_); refine goesL_ (some 12) rfl rfl Try.func41 (by kernel_rfl) rfl #[.slice A0 l0.length c0] rfl (by (try simp only [List.map_toArray, List.map_cons, List.map_nil]); first | done | rfl | (simp only [List.length_drop, List.length_take]; rfl)) ?_; (with_reducible refine (laws_big.calls _ _ l0 true _ ?side1 ?side2 A2.out).mono ?_); (case side1 => repeat (first | exact HR0.out | (with_reducible refine Kd.C_alloc ?_ _) | (with_reducible refine Kd.C_drewN ?_ _) | (with_reducible refine Kd.C_drew ?_))); (case side2 => exact HC0.out); rintro e w' ⟨rfl, ⟨nd, rfl⟩⟩; refine ⟨_, rfl, ?_⟩))
    go_ret
    exact ⟨by first | rfl | (simp [errW_none, errW_some] <;> rfl) | (simp [*, errW_none, errW_some] <;> rfl), by repeat (first | (with_reducible first | exact HB.out | apply below_alloc | apply pw_below_drewN | apply below_drew1) | exact HB.out)⟩
  · replace c3 := Bool.eq_false_iff.mpr c3
    subst c3
    have H1 : ((spec_DrawPlaces.f k l0).bind fun t151 => (if 0 < (t151.length : Int) then ((some (([1, 2, 4, 8, 16] : List Int) : List Int)).bind fun y155 => (if 1 < (t151.length : Int) then (if 0 ≤ (Int.tmod (rd t151 1) 5) then (if (Int.tmod (rd t151 1) 5) < (y155.length : Int) then ((impl_SidesFor.f k (wrap64 (1 + (Int.tmod (rd t151 0) 64))) (rd y155 (Int.tmod (rd t151 1) 5))).bind fun t160 => (laws_FnSides.l0 k (wrap64 (1 + (Int.tmod (rd t151 0) 64))) (rd y155 (Int.tmod (rd t151 1) 5)) t160 1 0)) else (none)) else (none)) else (none))) else (none))) = some r := by rw [if_neg (show ¬ (false = true) by decide)] at H; exact H
    clear H
    have H := H1
    clear H1
    replace H := Option.bind_eq_some_iff.mp H
    obtain ⟨t151, A40, H⟩ := H
    replace H : (if 0 < (t151.length : Int) then ((some (([1, 2, 4, 8, 16] : List Int) : List Int)).bind fun y155 => (if 1 < (t151.length : Int) then (if 0 ≤ (Int.tmod (rd t151 1) 5) then (if (Int.tmod (rd t151 1) 5) < (y155.length : Int) then ((impl_SidesFor.f k (wrap64 (1 + (Int.tmod (rd t151 0) 64))) (rd y155 (Int.tmod (rd t151 1) 5))).bind fun t160 => (laws_FnSides.l0 k (wrap64 (1 + (Int.tmod (rd t151 0) 64))) (rd y155 (Int.tmod (rd t151 1) 5)) t160 1 0)) else (none)) else (none)) else (none))) else (none)) = some r := H
    have A4 := Aside0.mk A40
    clear A40
    by_cases c5 : 0 < (t151.length : Int)
    · rw [if_pos c5] at H
      have c5b0 : decide (0 < (t151.length : Int)) = true := decide_eq_true c5
      have c5b1 : decide (0 < t151.length) = true := decide_eq_true (by omega)
      clear c5
      obtain ⟨y155, hy155⟩ : ∃ y_ : List Int, y_ = (([1, 2, 4, 8, 16] : List Int)) := ⟨_, rfl⟩
      replace H : (if 1 < (t151.length : Int) then (if 0 ≤ (Int.tmod (rd t151 1) 5) then (if (Int.tmod (rd t151 1) 5) < (y155.length : Int) then ((impl_SidesFor.f k (wrap64 (1 + (Int.tmod (rd t151 0) 64))) (rd y155 (Int.tmod (rd t151 1) 5))).bind fun t160 => (laws_FnSides.l0 k (wrap64 (1 + (Int.tmod (rd t151 0) 64))) (rd y155 (Int.tmod (rd t151 1) 5)) t160 1 0)) else (none)) else (none)) else (none)) = some r := by first | (rw [hy155]; with_reducible exact H) | (have H2_ := (Option.bind_some _ _).symm.trans H; rw [hy155]; with_reducible exact H2_) | (have H2_ := (Option.bind_some _ _).symm.trans H; with_reducible exact H2_) | with_reducible exact H | (rw [hy155]; exact H) | exact H
      have Ny155 := Aside0.mk hy155
      clear hy155
      by_cases c6 : 1 < (t151.length : Int)
      · rw [if_pos c6] at H
        have c6b0 : decide (1 < (t151.length : Int)) = true := decide_eq_true c6
        have c6b1 : decide (1 < t151.length) = true := decide_eq_true (by omega)
        clear c6
        obtain ⟨ji7, hji7⟩ : ∃ j_ : Int, (Int.tmod (rd t151 1) 5) = j_ := ⟨_, rfl⟩
        replace H : (if 0 ≤ (ji7) then (if (ji7) < (y155.length : Int) then ((impl_SidesFor.f k (wrap64 (1 + (Int.tmod (rd t151 0) 64))) (rd y155 (ji7))).bind fun t160 => (laws_FnSides.l0 k (wrap64 (1 + (Int.tmod (rd t151 0) 64))) (rd y155 (ji7)) t160 1 0)) else (none)) else (none)) = some r := by first | (rw [hji7] at H; exact H) | (simp only [hji7] at H ⊢; exact H)
        (try rw [hji7] at A2)
        (try rw [hji7] at A4)
        by_cases c8 : 0 ≤ (ji7)
        · rw [if_pos c8] at H
          have c8b0 : decide (0 ≤ (ji7)) = true := decide_eq_true c8
          clear c8
          by_cases c9 : (ji7) < (y155.length : Int)
          · rw [if_pos c9] at H
            have c9b0 : decide ((ji7) < (y155.length : Int)) = true := decide_eq_true c9
            clear c9
            replace H := Option.bind_eq_some_iff.mp H
            obtain ⟨t160, A100, H⟩ := H
            replace H : (laws_FnSides.l0 k (wrap64 (1 + (Int.tmod (rd t151 0) 64))) (rd y155 (ji7)) t160 1 0) = some r := H
            have A10 := Aside0.mk A100
            clear A100
            have H' := Aside0.mk H
            clear H
            go_enter Try.func13, Try.ntmps13
            go_wp2_with (first | ((with_reducible refine gate_callee (f := 41) rfl ?_); refine goesL_ (some 12) rfl rfl Try.func41 (by kernel_rfl) rfl #[.slice A0 l0.length c0] rfl (by (try simp only [List.map_toArray, List.map_cons, List.map_nil]); first | done | rfl | (simp only [List.length_drop, List.length_take]; rfl)) ?_; (with_reducible refine (laws_big.calls _ _ l0 false _ ?side1 ?side2 A2.out).mono ?_); (case side1 => repeat (first | exact HR0.out | (with_reducible refine Kd.C_alloc ?_ _) | (with_reducible refine Kd.C_drewN ?_ _) | (with_reducible refine Kd.C_drew ?_))); (case side2 => exact HC0.out); rintro e w' ⟨rfl, ⟨nd, rfl⟩⟩; refine ⟨_, rfl, ?_⟩) | ((with_reducible refine gate_callee (f := 42) rfl ?_); refine goesL_ (some 14) rfl rfl Try.func42 (by kernel_rfl) rfl #[.slice A0 l0.length c0] rfl (by (try simp only [List.map_toArray, List.map_cons, List.map_nil]); first | done | rfl | (simp only [List.length_drop, List.length_take]; rfl)) ?_; (with_reducible refine (spec_DrawPlaces.calls k _ _ l0 t151 _ ?side1 ?side2 A4.out).mono ?_); (case side1 => repeat (first | exact HR0.out | (with_reducible refine Kd.C_alloc ?_ _) | (with_reducible refine Kd.C_drewN ?_ _) | (with_reducible refine Kd.C_drew ?_))); (case side2 => exact HC0.out); rintro e w11 ⟨v152, rfl, ho0, hb⟩; refine ⟨_, rfl, ?_⟩; have n0_ := Aside0.mk (Kd.R_lower ho0 (below_size (by repeat (first | (with_reducible first | exact HB.out | apply below_alloc | apply pw_below_drewN | apply below_drew1) | exact HB.out)))); have n1_ := Aside0.mk (below_step (by repeat (first | (with_reducible first | exact HB.out | apply below_alloc | apply pw_below_drewN | apply below_drew1) | exact HB.out)) hb); clear HB; have HO153 := n0_; have HB := n1_; clear n0_ n1_; (try clear hb); (try clear hb2); (try clear hk); (try clear hi); (try clear ho0); obtain ⟨Ao12, co12, eo12⟩ := Kd.R_slice HO153.out; subst eo12; have p154 : 0 ≤ (0 : Int) := (by omega); have q154 : 0 < (t151.length : Int) := of_decide_eq_true (by first | (with_reducible assumption) | assumption); obtain ⟨ad154, e154, hx154_0⟩ := Kd.at_int (Kd.R_reads' HO153.out).2.2 0 p154 q154; cases e154; have qi154 : (0 < t151.length) = True := eq_true (by omega); (try rw [show ((0 : Int)).toNat = 0 from rfl] at hx154_0); (try rw [Addr.add_zero'] at hx154_0); replace p154 := eq_true p154; replace q154 := eq_true q154) | ((with_reducible refine gate_dst (N := 20) rfl ?_); (try (refine gate_guard (by rfl) ?_; dsimp only)); refine Kd.R_lit (Kd.int .i64) _ 3 ?hg (N := 20) ?hd (xs := ([1, 2, 4, 8, 16] : List Int)) (inner := [.int .i64 1, .int .i64 2, .int .i64 4, .int .i64 8, .int .i64 16]) (ok := fun _ => True) (okp := fun _ => True) ?hr ?hp (fun _ hk => hk) trivial (Below.refl _ _) (Nat.le_refl _) (by simp) ?_; (case hd => rfl); (case hg => rfl); (case hr => first | (go_simp; done) | (go_simp; rfl)); (case hp => exact (Reps.one (show Kd.M (Kd.int .i64) _ _ _ 1 [.int .i64 1] from rfl) (Reps.one (show Kd.M (Kd.int .i64) _ _ _ 2 [.int .i64 2] from rfl) (Reps.one (show Kd.M (Kd.int .i64) _ _ _ 4 [.int .i64 4] from rfl) (Reps.one (show Kd.M (Kd.int .i64) _ _ _ 8 [.int .i64 8] from rfl) (Reps.one (show Kd.M (Kd.int .i64) _ _ _ 16 [.int .i64 16] from rfl) (Reps.none _ _))))))); intro v156 w13 ho14 hb hg_ hnew_; clear hg_ hnew_; (first | rw [← Ny155.out] at ho14 | (simp only [Int.reduceToNat] at ho14; rw [← Ny155.out] at ho14)); have n0_ := Aside0.mk (Kd.R_elder' (by (with_reducible repeat (first | apply Kd.R_alloc | apply Kd.R_drewN | apply Kd.R_drew)); exact HO153.out) (Kd.R_base ho14) hb); have n1_ := Aside0.mk (Kd.R_lower (Kd.R_new' ho14 (Kd.R_lt (by (with_reducible repeat (first | apply Kd.R_alloc | apply Kd.R_drewN | apply Kd.R_drew)); exact HO153.out))) (below_size (by repeat (first | (with_reducible first | exact HB.out | apply below_alloc | apply pw_below_drewN | apply below_drew1) | exact HB.out)))); have n2_ := Aside0.mk (below_step (by repeat (first | (with_reducible first | exact HB.out | apply below_alloc | apply pw_below_drewN | apply below_drew1) | exact HB.out)) hb); clear HO153; clear HB; have HO153 := n0_; have HO157 := n1_; have HB := n2_; clear n0_ n1_ n2_; clear hb ho14; have p158 : 0 ≤ (1 : Int) := (by omega); have q158 : 1 < (t151.length : Int) := of_decide_eq_true (by first | (with_reducible assumption) | assumption); obtain ⟨ad158, e158, hx158_0⟩ := Kd.at_int (Kd.R_reads' HO153.out).2.2 1 p158 q158; obtain rfl : ad154 = ad158 := (by injection e158); (try simp only [show (1 : Int).toNat = 1 from rfl, Nat.reduceMul, Nat.reduceEqDiff, Go.Addr.add, ↓reduceIte] at hx158_0); have qi158 : (1 < t151.length) = True := eq_true (by omega); (try rw [show ((1 : Int)).toNat = 1 from rfl] at hx158_0); replace p158 := eq_true p158; replace q158 := eq_true q158; obtain ⟨Ao15, co15, eo15⟩ := Kd.R_slice HO157.out; subst eo15; have p159 : 0 ≤ ((ji7) : Int) := of_decide_eq_true (by first | (with_reducible assumption) | assumption); have q159 : (ji7) < (y155.length : Int) := of_decide_eq_true (by first | (with_reducible assumption) | assumption); obtain ⟨ad159, e159, hx159_0⟩ := Kd.at_int (Kd.R_reads' HO157.out).2.2 (ji7) p159 q159; cases e159; replace p159 := eq_true p159; replace q159 := eq_true q159) | ((with_reducible refine gate_callee (f := 43) rfl ?_); refine goesL_ (some 29) rfl rfl Try.func43 (by kernel_rfl) rfl #[.int .i64 (wrap64 (1 + (Int.tmod (rd t151 0) 64))), .int .i64 (rd y155 (ji7))] rfl (by (try simp only [List.map_toArray, List.map_cons, List.map_nil]); first | done | (simp only [hji7]; rfl) | rfl | (simp only [List.length_drop, List.length_take]; rfl)) ?_; (with_reducible refine (impl_SidesFor.calls k (wrap64 (1 + (Int.tmod (rd t151 0) 64))) (rd y155 (ji7)) t160 _ A10.out).mono ?_); rintro e w16 ⟨v161, rfl, ho0, hb⟩; refine ⟨_, rfl, ?_⟩; have n0_ := Aside0.mk (Kd.R_below (by (with_reducible repeat (first | apply Kd.R_alloc | apply Kd.R_drewN | apply Kd.R_drew)); exact HO153.out) hb); have n1_ := Aside0.mk (Kd.R_below (by (with_reducible repeat (first | apply Kd.R_alloc | apply Kd.R_drewN | apply Kd.R_drew)); exact HO157.out) hb); have n2_ := Aside0.mk (Kd.S_lower (Kd.S_new' (Kd.S_new' ho0 (Kd.R_lt (by (with_reducible repeat (first | apply Kd.R_alloc | apply Kd.R_drewN | apply Kd.R_drew)); exact HO153.out))) (Kd.R_lt (by (with_reducible repeat (first | apply Kd.R_alloc | apply Kd.R_drewN | apply Kd.R_drew)); exact HO157.out))) (below_size (by repeat (first | (with_reducible first | exact HB.out | apply below_alloc | apply pw_below_drewN | apply below_drew1) | exact HB.out)))); have n3_ := Aside0.mk (below_step (by repeat (first | (with_reducible first | exact HB.out | apply below_alloc | apply pw_below_drewN | apply below_drew1) | exact HB.out)) hb); clear HO153; clear HO157; clear HB; have HO153 := n0_; have HO157 := n1_; have HO162 := n2_; have HB := n3_; clear n0_ n1_ n2_ n3_; (try clear hb); (try clear hb2); (try clear hk); (try clear hi); (try clear ho0)))
            go_loopg [7, 8] k (fun kq v7 v8 w' => ∃ (x7_1 : Int) (x8_1 : Int), v7 = .int .i64 x7_1 ∧ v8 = .int .i64 x8_1 ∧ Aside0 (laws_FnSides.l0 kq (wrap64 (1 + (Int.tmod (rd t151 0) 64))) (rd y155 (ji7)) t160 x7_1 x8_1 = some r) ∧ Aside0 (kq ≤ k) ∧ Aside0 (Kd.S (Kd.slice 3 (Kd.int .i64)) 41 w' w.heap.size (fun _ => True) v161 t160) ∧ Aside0 (Below w.heap.size w w'))
            case atStart => exact ⟨(1), (0), (by first | rfl | (simp; done) | (simp [*]; done)), (by first | rfl | (simp; done) | (simp [*]; done)), H', ⟨Nat.le_refl _⟩, ⟨by (with_reducible repeat (first | apply Kd.S_alloc | apply Kd.S_drewN | apply Kd.S_drew)); exact Kd.S_mono HO162.out (fun _ hk => trivial)⟩, ⟨by repeat (first | (with_reducible first | exact HB.out | apply below_alloc | apply pw_below_drewN | apply below_drew1) | exact HB.out)⟩⟩
            case round =>
              clear H'
              try clear c1
              try clear p1
              try clear q1
              try clear hx1
              try clear qi1
              try clear p2
              try clear c3
              try clear c4
              try clear c5
              try clear c5b0
              try clear c5b1
              try clear c6
              try clear c6b0
              try clear c6b1
              try clear p6
              try clear c8
              try clear c8b0
              try clear c9
              try clear c9b0
              try clear c13
              try clear p15
              try clear q15
              try clear hx15
              try clear qi15
              try clear hx154_0
              try clear hx158_0
              try clear hx159_0
              try clear p154
              try clear p158
              try clear p159
              try clear q154
              try clear q158
              try clear q159
              obtain ⟨x7_1, x8_1, rfl, rfl, HA, HK1, HO_6, HB⟩ := hrel
              cases gk with
              | zero => exact absurd HA.out (by simp [laws_FnSides.l0])
              | succ k1 =>
                have H := HA.out
                clear HA
                simp only [laws_FnSides.l0] at H
                by_cases c17 : x8_1 < (t160.length : Int)
                · rw [if_pos c17] at H
                  have c17b0 : decide (x8_1 < (t160.length : Int)) = true := decide_eq_true c17
                  clear c17
                  have HC18 := Aside0.mk H
                  clear H
                  obtain ⟨Ao19, co19, eo19⟩ := Kd.S_slice HO_6.out
                  subst eo19
                  go_upto_region 11 with (fail)
                  go_cut [66] (fun v66 wc => ∃ (kq : Nat) (x66_17 : Bool), v66 = .bool x66_17 ∧ Aside0 (laws_FnSides.j1 kq (wrap64 (1 + (Int.tmod (rd t151 0) 64))) (rd y155 (ji7)) t160 x7_1 x8_1 x66_17 = some r) ∧ Aside0 (kq ≤ k1) ∧ Aside0 (Kd.S (Kd.slice 3 (Kd.int .i64)) 41 wc w.heap.size (fun _ => True) (.slice Ao19 t160.length co19) t160) ∧ Aside0 (Below w.heap.size w wc))
                  case first =>
                    have H := HC18.out
                    clear HC18
                    by_cases c20 : 0 ≤ x8_1
                    · rw [if_pos c20] at H
                      have c20b0 : decide (0 ≤ x8_1) = true := decide_eq_true c20
                      clear c20
                      (first | rw [c20b0] | (simp only [i64_w, i32_w]; rw [c20b0]) | skip)
                      by_cases c21 : ((rd_L1 t160 x8_1).length : Int) = 0
                      · rw [if_pos c21] at H
                        have c21b0 : (((rd_L1 t160 x8_1).length : Int) == 0) = true := beq_iff_eq.mpr c21
                        have c21b1 : (((rd_L1 t160 x8_1).length : Int) != 0) = false := bne_eq_false_iff_eq.mpr c21
                        clear c21
                        have H' := Aside0.mk H
                        clear H
                        have p165 : 0 ≤ (x8_1 : Int) := of_decide_eq_true (by first | (with_reducible assumption) | assumption)
                        have q165 : x8_1 < (t160.length : Int) := of_decide_eq_true (by first | (with_reducible assumption) | assumption)
                        obtain ⟨ad165, A165_0, c165_0, e165, hx165_0, hl165_0, hi165_0⟩ := at_L1 (Kd.S_reads' HO_6.out).2.2 x8_1 p165 q165
                        cases e165
                        obtain ⟨ce165, hce165, hMe165, hcc165⟩ := Kd.S_get HO_6.out [] x8_1 p165 (by first | exact q165 | exact of_decide_eq_true (by first | (with_reducible assumption) | assumption) | (have e_ := (Kd.S_reads' HO_6.out).1; omega))
                        obtain ⟨ve165_0, rfl, ge165_0⟩ := hMe165
                        have hv165_0 := hcc165 0 _ rfl
                        rw [Nat.add_zero, show ((Kd.slice 3 (Kd.int .i64))).sz = 1 from rfl, Nat.mul_one] at hv165_0
                        replace hv165_0 := Option.some.inj (hv165_0.symm.trans hx165_0)
                        rw [hv165_0] at ge165_0
                        have HL165_0 := Aside0.mk (show Kd.R (Kd.int .i64) 3 _ _ _ _ (rd_L1 t160 x8_1) from ge165_0)
                        clear hv165_0 ge165_0
                        clear hcc165 hce165
                        have HR165_0 := Aside0.mk hi165_0
                        have HC165_0 := Aside0.mk hl165_0
                        clear hi165_0 hl165_0
                        replace p165 := eq_true p165
                        replace q165 := eq_true q165
                        go_wp2
                        go_meet
                        case rel => exact ⟨_, (true), (by first | rfl | (simp; done) | (simp [*]; done)), H', ⟨by have := HK1.out; first | omega | exact Nat.le_refl _⟩, ⟨by (with_reducible repeat (first | apply Kd.S_alloc | apply Kd.S_drewN | apply Kd.S_drew)); exact HO_6.out⟩, ⟨by repeat (first | (with_reducible first | exact HB.out | apply below_alloc | apply pw_below_drewN | apply below_drew1) | exact HB.out)⟩⟩
                      · rw [if_neg c21] at H
                        have c21b0 : (((rd_L1 t160 x8_1).length : Int) == 0) = false := beq_eq_false_iff_ne.mpr c21
                        have c21b1 : (((rd_L1 t160 x8_1).length : Int) != 0) = true := bne_iff_ne.mpr c21
                        have c21b2 : ¬ ((rd_L1 t160 x8_1) = []) := fun h_ => c21 (by rw [h_]; rfl)
                        by_cases c22 : ((rd_L1 t160 x8_1).length : Int) > (rd y155 (ji7))
                        · rw [if_pos c22] at H
                          have c22b0 : decide ((rd y155 (ji7)) < ((rd_L1 t160 x8_1).length : Int)) = true := decide_eq_true c22
                          clear c22
                          have H' := Aside0.mk H
                          clear H
                          have p165 : 0 ≤ (x8_1 : Int) := of_decide_eq_true (by first | (with_reducible assumption) | assumption)
                          have q165 : x8_1 < (t160.length : Int) := of_decide_eq_true (by first | (with_reducible assumption) | assumption)
                          obtain ⟨ad165, A165_0, c165_0, e165, hx165_0, hl165_0, hi165_0⟩ := at_L1 (Kd.S_reads' HO_6.out).2.2 x8_1 p165 q165
                          cases e165
                          obtain ⟨ce165, hce165, hMe165, hcc165⟩ := Kd.S_get HO_6.out [] x8_1 p165 (by first | exact q165 | exact of_decide_eq_true (by first | (with_reducible assumption) | assumption) | (have e_ := (Kd.S_reads' HO_6.out).1; omega))
                          obtain ⟨ve165_0, rfl, ge165_0⟩ := hMe165
                          have hv165_0 := hcc165 0 _ rfl
                          rw [Nat.add_zero, show ((Kd.slice 3 (Kd.int .i64))).sz = 1 from rfl, Nat.mul_one] at hv165_0
                          replace hv165_0 := Option.some.inj (hv165_0.symm.trans hx165_0)
                          rw [hv165_0] at ge165_0
                          have HL165_0 := Aside0.mk (show Kd.R (Kd.int .i64) 3 _ _ _ _ (rd_L1 t160 x8_1) from ge165_0)
                          clear hv165_0 ge165_0
                          clear hcc165 hce165
                          have HR165_0 := Aside0.mk hi165_0
                          have HC165_0 := Aside0.mk hl165_0
                          clear hi165_0 hl165_0
                          replace p165 := eq_true p165
                          replace q165 := eq_true q165
                          have p166 : 0 ≤ (x8_1 : Int) := of_decide_eq_true (by first | (with_reducible assumption) | assumption)
                          have q166 : x8_1 < (t160.length : Int) := of_decide_eq_true (by first | (with_reducible assumption) | assumption)
                          obtain ⟨ad166, A166_0, c166_0, e166, hx166_0, hl166_0, hi166_0⟩ := at_L1 (Kd.S_reads' HO_6.out).2.2 x8_1 p166 q166
                          obtain rfl : ad165 = ad166 := (by injection e166)
                          obtain ⟨ce166, hce166, hMe166, hcc166⟩ := Kd.S_get HO_6.out [] x8_1 p166 (by first | exact q166 | exact of_decide_eq_true (by first | (with_reducible assumption) | assumption) | (have e_ := (Kd.S_reads' HO_6.out).1; omega))
                          obtain ⟨ve166_0, rfl, ge166_0⟩ := hMe166
                          have hv166_0 := hcc166 0 _ rfl
                          rw [Nat.add_zero, show ((Kd.slice 3 (Kd.int .i64))).sz = 1 from rfl, Nat.mul_one] at hv166_0
                          replace hv166_0 := Option.some.inj (hv166_0.symm.trans hx166_0)
                          rw [hv166_0] at ge166_0
                          have HL166_0 := Aside0.mk (show Kd.R (Kd.int .i64) 3 _ _ _ _ (rd_L1 t160 x8_1) from ge166_0)
                          clear hv166_0 ge166_0
                          clear hcc166 hce166
                          have HR166_0 := Aside0.mk hi166_0
                          have HC166_0 := Aside0.mk hl166_0
                          clear hi166_0 hl166_0
                          replace p166 := eq_true p166
                          replace q166 := eq_true q166
                          have ea_ := Option.some.inj (hx165_0.symm.trans hx166_0)
                          injection ea_ with ea_ en_ ec_
                          subst ea_
                          subst ec_
                          clear en_
                          go_wp2
                          go_meet
                          case rel => exact ⟨_, (true), (by first | rfl | (simp; done) | (simp [*]; done)), H', ⟨by have := HK1.out; first | omega | exact Nat.le_refl _⟩, ⟨by (with_reducible repeat (first | apply Kd.S_alloc | apply Kd.S_drewN | apply Kd.S_drew)); exact HO_6.out⟩, ⟨by repeat (first | (with_reducible first | exact HB.out | apply below_alloc | apply pw_below_drewN | apply below_drew1) | exact HB.out)⟩⟩
                        · rw [if_neg c22] at H
                          have c22b0 : decide ((rd y155 (ji7)) < ((rd_L1 t160 x8_1).length : Int)) = false := decide_eq_false c22
                          clear c22
                          by_cases c23 : (wrap64 (x8_1 + 1)) < (t160.length : Int)
                          · rw [if_pos c23] at H
                            have c23b0 : decide ((wrap64 (x8_1 + 1)) < (t160.length : Int)) = true := decide_eq_true c23
                            clear c23
                            have H' := Aside0.mk H
                            clear H
                            have p165 : 0 ≤ (x8_1 : Int) := of_decide_eq_true (by first | (with_reducible assumption) | assumption)
                            have q165 : x8_1 < (t160.length : Int) := of_decide_eq_true (by first | (with_reducible assumption) | assumption)
                            obtain ⟨ad165, A165_0, c165_0, e165, hx165_0, hl165_0, hi165_0⟩ := at_L1 (Kd.S_reads' HO_6.out).2.2 x8_1 p165 q165
                            cases e165
                            obtain ⟨ce165, hce165, hMe165, hcc165⟩ := Kd.S_get HO_6.out [] x8_1 p165 (by first | exact q165 | exact of_decide_eq_true (by first | (with_reducible assumption) | assumption) | (have e_ := (Kd.S_reads' HO_6.out).1; omega))
                            obtain ⟨ve165_0, rfl, ge165_0⟩ := hMe165
                            have hv165_0 := hcc165 0 _ rfl
                            rw [Nat.add_zero, show ((Kd.slice 3 (Kd.int .i64))).sz = 1 from rfl, Nat.mul_one] at hv165_0
                            replace hv165_0 := Option.some.inj (hv165_0.symm.trans hx165_0)
                            rw [hv165_0] at ge165_0
                            have HL165_0 := Aside0.mk (show Kd.R (Kd.int .i64) 3 _ _ _ _ (rd_L1 t160 x8_1) from ge165_0)
                            clear hv165_0 ge165_0
                            clear hcc165 hce165
                            have HR165_0 := Aside0.mk hi165_0
                            have HC165_0 := Aside0.mk hl165_0
                            clear hi165_0 hl165_0
                            replace p165 := eq_true p165
                            replace q165 := eq_true q165
                            have p166 : 0 ≤ (x8_1 : Int) := of_decide_eq_true (by first | (with_reducible assumption) | assumption)
                            have q166 : x8_1 < (t160.length : Int) := of_decide_eq_true (by first | (with_reducible assumption) | assumption)
                            obtain ⟨ad166, A166_0, c166_0, e166, hx166_0, hl166_0, hi166_0⟩ := at_L1 (Kd.S_reads' HO_6.out).2.2 x8_1 p166 q166
                            obtain rfl : ad165 = ad166 := (by injection e166)
                            obtain ⟨ce166, hce166, hMe166, hcc166⟩ := Kd.S_get HO_6.out [] x8_1 p166 (by first | exact q166 | exact of_decide_eq_true (by first | (with_reducible assumption) | assumption) | (have e_ := (Kd.S_reads' HO_6.out).1; omega))
                            obtain ⟨ve166_0, rfl, ge166_0⟩ := hMe166
                            have hv166_0 := hcc166 0 _ rfl
                            rw [Nat.add_zero, show ((Kd.slice 3 (Kd.int .i64))).sz = 1 from rfl, Nat.mul_one] at hv166_0
                            replace hv166_0 := Option.some.inj (hv166_0.symm.trans hx166_0)
                            rw [hv166_0] at ge166_0
                            have HL166_0 := Aside0.mk (show Kd.R (Kd.int .i64) 3 _ _ _ _ (rd_L1 t160 x8_1) from ge166_0)
                            clear hv166_0 ge166_0
                            clear hcc166 hce166
                            have HR166_0 := Aside0.mk hi166_0
                            have HC166_0 := Aside0.mk hl166_0
                            clear hi166_0 hl166_0
                            replace p166 := eq_true p166
                            replace q166 := eq_true q166
                            have ea_ := Option.some.inj (hx165_0.symm.trans hx166_0)
                            injection ea_ with ea_ en_ ec_
                            subst ea_
                            subst ec_
                            clear en_
                            have p167 : 0 ≤ (x8_1 : Int) := of_decide_eq_true (by first | (with_reducible assumption) | assumption)
                            have q167 : x8_1 < (t160.length : Int) := of_decide_eq_true (by first | (with_reducible assumption) | assumption)
                            obtain ⟨ad167, A167_0, c167_0, e167, hx167_0, hl167_0, hi167_0⟩ := at_L1 (Kd.S_reads' HO_6.out).2.2 x8_1 p167 q167
                            obtain rfl : ad165 = ad167 := (by injection e167)
                            obtain ⟨ce167, hce167, hMe167, hcc167⟩ := Kd.S_get HO_6.out [] x8_1 p167 (by first | exact q167 | exact of_decide_eq_true (by first | (with_reducible assumption) | assumption) | (have e_ := (Kd.S_reads' HO_6.out).1; omega))
                            obtain ⟨ve167_0, rfl, ge167_0⟩ := hMe167
                            have hv167_0 := hcc167 0 _ rfl
                            rw [Nat.add_zero, show ((Kd.slice 3 (Kd.int .i64))).sz = 1 from rfl, Nat.mul_one] at hv167_0
                            replace hv167_0 := Option.some.inj (hv167_0.symm.trans hx167_0)
                            rw [hv167_0] at ge167_0
                            have HL167_0 := Aside0.mk (show Kd.R (Kd.int .i64) 3 _ _ _ _ (rd_L1 t160 x8_1) from ge167_0)
                            clear hv167_0 ge167_0
                            clear hcc167 hce167
                            have HR167_0 := Aside0.mk hi167_0
                            have HC167_0 := Aside0.mk hl167_0
                            clear hi167_0 hl167_0
                            replace p167 := eq_true p167
                            replace q167 := eq_true q167
                            have ea_ := Option.some.inj (hx165_0.symm.trans hx167_0)
                            injection ea_ with ea_ en_ ec_
                            subst ea_
                            subst ec_
                            clear en_
                            go_wp2
                            go_meet
                            case rel => exact ⟨_, ((((rd_L1 t160 x8_1).length : Int) != (rd y155 (ji7)))), (by first | rfl | (simp; done) | (simp only [← hji7] <;> (first | rfl | simp)) | (simp [*]; done)), H', ⟨by have := HK1.out; first | omega | exact Nat.le_refl _⟩, ⟨by (with_reducible repeat (first | apply Kd.S_alloc | apply Kd.S_drewN | apply Kd.S_drew)); exact HO_6.out⟩, ⟨by repeat (first | (with_reducible first | exact HB.out | apply below_alloc | apply pw_below_drewN | apply below_drew1) | exact HB.out)⟩⟩
                          · rw [if_neg c23] at H
                            have c23b0 : decide ((wrap64 (x8_1 + 1)) < (t160.length : Int)) = false := decide_eq_false c23
                            clear c23
                            have H' := Aside0.mk H
                            clear H
                            have p165 : 0 ≤ (x8_1 : Int) := of_decide_eq_true (by first | (with_reducible assumption) | assumption)
                            have q165 : x8_1 < (t160.length : Int) := of_decide_eq_true (by first | (with_reducible assumption) | assumption)
                            obtain ⟨ad165, A165_0, c165_0, e165, hx165_0, hl165_0, hi165_0⟩ := at_L1 (Kd.S_reads' HO_6.out).2.2 x8_1 p165 q165
                            cases e165
                            obtain ⟨ce165, hce165, hMe165, hcc165⟩ := Kd.S_get HO_6.out [] x8_1 p165 (by first | exact q165 | exact of_decide_eq_true (by first | (with_reducible assumption) | assumption) | (have e_ := (Kd.S_reads' HO_6.out).1; omega))
                            obtain ⟨ve165_0, rfl, ge165_0⟩ := hMe165
                            have hv165_0 := hcc165 0 _ rfl
                            rw [Nat.add_zero, show ((Kd.slice 3 (Kd.int .i64))).sz = 1 from rfl, Nat.mul_one] at hv165_0
                            replace hv165_0 := Option.some.inj (hv165_0.symm.trans hx165_0)
                            rw [hv165_0] at ge165_0
                            have HL165_0 := Aside0.mk (show Kd.R (Kd.int .i64) 3 _ _ _ _ (rd_L1 t160 x8_1) from ge165_0)
                            clear hv165_0 ge165_0
                            clear hcc165 hce165
                            have HR165_0 := Aside0.mk hi165_0
                            have HC165_0 := Aside0.mk hl165_0
                            clear hi165_0 hl165_0
                            replace p165 := eq_true p165
                            replace q165 := eq_true q165
                            have p166 : 0 ≤ (x8_1 : Int) := of_decide_eq_true (by first | (with_reducible assumption) | assumption)
                            have q166 : x8_1 < (t160.length : Int) := of_decide_eq_true (by first | (with_reducible assumption) | assumption)
                            obtain ⟨ad166, A166_0, c166_0, e166, hx166_0, hl166_0, hi166_0⟩ := at_L1 (Kd.S_reads' HO_6.out).2.2 x8_1 p166 q166
                            obtain rfl : ad165 = ad166 := (by injection e166)
                            obtain ⟨ce166, hce166, hMe166, hcc166⟩ := Kd.S_get HO_6.out [] x8_1 p166 (by first | exact q166 | exact of_decide_eq_true (by first | (with_reducible assumption) | assumption) | (have e_ := (Kd.S_reads' HO_6.out).1; omega))
                            obtain ⟨ve166_0, rfl, ge166_0⟩ := hMe166
                            have hv166_0 := hcc166 0 _ rfl
                            rw [Nat.add_zero, show ((Kd.slice 3 (Kd.int .i64))).sz = 1 from rfl, Nat.mul_one] at hv166_0
                            replace hv166_0 := Option.some.inj (hv166_0.symm.trans hx166_0)
                            rw [hv166_0] at ge166_0
                            have HL166_0 := Aside0.mk (show Kd.R (Kd.int .i64) 3 _ _ _ _ (rd_L1 t160 x8_1) from ge166_0)
                            clear hv166_0 ge166_0
                            clear hcc166 hce166
                            have HR166_0 := Aside0.mk hi166_0
                            have HC166_0 := Aside0.mk hl166_0
                            clear hi166_0 hl166_0
                            replace p166 := eq_true p166
                            replace q166 := eq_true q166
                            have ea_ := Option.some.inj (hx165_0.symm.trans hx166_0)
                            injection ea_ with ea_ en_ ec_
                            subst ea_
                            subst ec_
                            clear en_
                            go_wp2
                            go_meet
                            case rel => exact ⟨_, (false), (by first | rfl | (simp; done) | (simp [*]; done)), H', ⟨by have := HK1.out; first | omega | exact Nat.le_refl _⟩, ⟨by (with_reducible repeat (first | apply Kd.S_alloc | apply Kd.S_drewN | apply Kd.S_drew)); exact HO_6.out⟩, ⟨by repeat (first | (with_reducible first | exact HB.out | apply below_alloc | apply pw_below_drewN | apply below_drew1) | exact HB.out)⟩⟩
                    · rw [if_neg c20] at H
                      exact absurd H (by simp)
                  case rest =>
                    clear HC18
                    try clear c1
                    try clear p1
                    try clear q1
                    try clear hx1
                    try clear qi1
                    try clear c2
                    try clear p2
                    try clear c3
                    try clear c4
                    try clear c5
                    try clear c5b0
                    try clear c5b1
                    try clear c6
                    try clear c6b0
                    try clear c6b1
                    try clear p6
                    try clear c8
                    try clear c8b0
                    try clear c9
                    try clear c9b0
                    try clear c13
                    try clear p15
                    try clear q15
                    try clear hx15
                    try clear qi15
                    try clear c16
                    try clear p16
                    try clear q16
                    try clear hx16
                    try clear c17
                    try clear c17b0
                    try clear c20
                    try clear c20b0
                    try clear c21
                    try clear c21b0
                    try clear c21b1
                    try clear c21b2
                    try clear c22
                    try clear c22b0
                    try clear c23
                    try clear c23b0
                    try clear hx154_0
                    try clear hx158_0
                    try clear hx159_0
                    try clear hx165_0
                    try clear hx166_0
                    try clear hx167_0
                    try clear p1
                    try clear p15
                    try clear p154
                    try clear p158
                    try clear p159
                    try clear p165
                    try clear p166
                    try clear p167
                    try clear p2
                    try clear p6
                    try clear q1
                    try clear q15
                    try clear q154
                    try clear q158
                    try clear q159
                    try clear q165
                    try clear q166
                    try clear q167
                    obtain ⟨kq, x66_17, rfl, HA, HJ17, HO_6, HB⟩ := hcut
                    cases kq with
                    | zero => exact absurd HA.out (by simp [laws_FnSides.j1])
                    | succ kj17 =>
                      have H := HA.out
                      clear HA
                      simp only [laws_FnSides.j1] at H
                      by_cases c24 : x66_17 = true
                      · subst c24
                        have H1 : (some false) = some r := by rw [if_pos rfl] at H; exact H
                        clear H
                        have H := H1
                        clear H1
                        obtain rfl := Option.some.inj H
                        go_wp2
                        go_ret
                        exact ⟨by first | rfl | (simp [errW_none, errW_some] <;> rfl) | (simp only [← hji7]; first | rfl | (simp [errW_none, errW_some] <;> rfl)) | (simp [*, errW_none, errW_some] <;> rfl), by repeat (first | (with_reducible first | exact HB.out | apply below_alloc | apply pw_below_drewN | apply below_drew1) | exact HB.out)⟩
                      · replace c24 := Bool.eq_false_iff.mpr c24
                        subst c24
                        have H1 : (laws_FnSides.l1 kj17 (wrap64 (1 + (Int.tmod (rd t151 0) 64))) (rd y155 (ji7)) t160 x7_1 x8_1 0) = some r := by rw [if_neg (show ¬ (false = true) by decide)] at H; exact H
                        clear H
                        have H := H1
                        clear H1
                        have H' := Aside0.mk H
                        clear H
                        go_wp2
                        go_loopg [7, 9] kj17 (fun kq v7 v9 w' => ∃ (x7_3 : Int) (x9_3 : Int), v7 = .int .i64 x7_3 ∧ v9 = .int .i64 x9_3 ∧ Aside0 (laws_FnSides.l1 kq (wrap64 (1 + (Int.tmod (rd t151 0) 64))) (rd y155 (ji7)) t160 x7_3 x8_1 x9_3 = some r) ∧ Aside0 (kq ≤ kj17) ∧ Aside0 (Kd.S (Kd.slice 3 (Kd.int .i64)) 41 w' w.heap.size (fun _ => True) (.slice Ao19 t160.length co19) t160) ∧ Aside0 (Below w.heap.size w w'))
                        case atStart => exact ⟨(x7_1), (0), (by first | rfl | (simp; done) | (simp [*]; done)), (by first | rfl | (simp; done) | (simp [*]; done)), H', ⟨Nat.le_refl _⟩, ⟨by (with_reducible repeat (first | apply Kd.S_alloc | apply Kd.S_drewN | apply Kd.S_drew)); exact HO_6.out⟩, ⟨by repeat (first | (with_reducible first | exact HB.out | apply below_alloc | apply pw_below_drewN | apply below_drew1) | exact HB.out)⟩⟩
                        case round =>
                          clear H'
                          try clear c1
                          try clear p1
                          try clear q1
                          try clear hx1
                          try clear qi1
                          try clear c2
                          try clear p2
                          try clear c3
                          try clear c4
                          try clear c5
                          try clear c5b0
                          try clear c5b1
                          try clear c6
                          try clear c6b0
                          try clear c6b1
                          try clear p6
                          try clear c8
                          try clear c8b0
                          try clear c9
                          try clear c9b0
                          try clear c13
                          try clear p15
                          try clear q15
                          try clear hx15
                          try clear qi15
                          try clear c16
                          try clear p16
                          try clear q16
                          try clear hx16
                          try clear c17
                          try clear c17b0
                          try clear c20
                          try clear c20b0
                          try clear c21
                          try clear c21b0
                          try clear c21b1
                          try clear c21b2
                          try clear c22
                          try clear c22b0
                          try clear c23
                          try clear c23b0
                          try clear c24
                          try clear hx154_0
                          try clear hx158_0
                          try clear hx159_0
                          try clear hx165_0
                          try clear hx166_0
                          try clear hx167_0
                          try clear p1
                          try clear p15
                          try clear p154
                          try clear p158
                          try clear p159
                          try clear p16
                          try clear p165
                          try clear p166
                          try clear p167
                          try clear p2
                          try clear p6
                          try clear q1
                          try clear q15
                          try clear q154
                          try clear q158
                          try clear q159
                          try clear q16
                          try clear q165
                          try clear q166
                          try clear q167
                          obtain ⟨x7_3, x9_3, rfl, rfl, HA, HK3, HO_6, HB⟩ := hrel
                          cases gk with
                          | zero => exact absurd HA.out (by simp [laws_FnSides.l1])
                          | succ k3 =>
                            have H := HA.out
                            clear HA
                            simp only [laws_FnSides.l1] at H
                            by_cases c25 : 0 ≤ x8_1
                            · rw [if_pos c25] at H
                              have c25b0 : decide (0 ≤ x8_1) = true := decide_eq_true c25
                              clear c25
                              by_cases c26 : x8_1 < (t160.length : Int)
                              · rw [if_pos c26] at H
                                have c26b0 : decide (x8_1 < (t160.length : Int)) = true := decide_eq_true c26
                                clear c26
                                by_cases c27 : x9_3 < ((rd_L1 t160 x8_1).length : Int)
                                · rw [if_pos c27] at H
                                  have c27b0 : decide (x9_3 < ((rd_L1 t160 x8_1).length : Int)) = true := decide_eq_true c27
                                  clear c27
                                  by_cases c28 : 0 ≤ x9_3
                                  · rw [if_pos c28] at H
                                    have c28b0 : decide (0 ≤ x9_3) = true := decide_eq_true c28
                                    clear c28
                                    by_cases c29 : (rd (rd_L1 t160 x8_1) x9_3) = x7_3
                                    · rw [if_pos c29] at H
                                      have c29b0 : ((rd (rd_L1 t160 x8_1) x9_3) == x7_3) = true := beq_iff_eq.mpr c29
                                      have c29b1 : ((rd (rd_L1 t160 x8_1) x9_3) != x7_3) = false := bne_eq_false_iff_eq.mpr c29
                                      clear c29
                                      have H' := Aside0.mk H
                                      clear H
                                      have p168 : 0 ≤ (x8_1 : Int) := of_decide_eq_true (by first | (with_reducible assumption) | assumption)
                                      have q168 : x8_1 < (t160.length : Int) := of_decide_eq_true (by first | (with_reducible assumption) | assumption)
                                      obtain ⟨ad168, A168_0, c168_0, e168, hx168_0, hl168_0, hi168_0⟩ := at_L1 (Kd.S_reads' HO_6.out).2.2 x8_1 p168 q168
                                      cases e168
                                      obtain ⟨ce168, hce168, hMe168, hcc168⟩ := Kd.S_get HO_6.out [] x8_1 p168 (by first | exact q168 | exact of_decide_eq_true (by first | (with_reducible assumption) | assumption) | (have e_ := (Kd.S_reads' HO_6.out).1; omega))
                                      obtain ⟨ve168_0, rfl, ge168_0⟩ := hMe168
                                      have hv168_0 := hcc168 0 _ rfl
                                      rw [Nat.add_zero, show ((Kd.slice 3 (Kd.int .i64))).sz = 1 from rfl, Nat.mul_one] at hv168_0
                                      replace hv168_0 := Option.some.inj (hv168_0.symm.trans hx168_0)
                                      rw [hv168_0] at ge168_0
                                      have HL168_0 := Aside0.mk (show Kd.R (Kd.int .i64) 3 _ _ _ _ (rd_L1 t160 x8_1) from ge168_0)
                                      clear hv168_0 ge168_0
                                      clear hcc168 hce168
                                      have HR168_0 := Aside0.mk hi168_0
                                      have HC168_0 := Aside0.mk hl168_0
                                      clear hi168_0 hl168_0
                                      replace p168 := eq_true p168
                                      replace q168 := eq_true q168
                                      have p169 : 0 ≤ (x8_1 : Int) := of_decide_eq_true (by first | (with_reducible assumption) | assumption)
                                      have q169 : x8_1 < (t160.length : Int) := of_decide_eq_true (by first | (with_reducible assumption) | assumption)
                                      obtain ⟨ad169, A169_0, c169_0, e169, hx169_0, hl169_0, hi169_0⟩ := at_L1 (Kd.S_reads' HO_6.out).2.2 x8_1 p169 q169
                                      obtain rfl : ad168 = ad169 := (by injection e169)
                                      obtain ⟨ce169, hce169, hMe169, hcc169⟩ := Kd.S_get HO_6.out [] x8_1 p169 (by first | exact q169 | exact of_decide_eq_true (by first | (with_reducible assumption) | assumption) | (have e_ := (Kd.S_reads' HO_6.out).1; omega))
                                      obtain ⟨ve169_0, rfl, ge169_0⟩ := hMe169
                                      have hv169_0 := hcc169 0 _ rfl
                                      rw [Nat.add_zero, show ((Kd.slice 3 (Kd.int .i64))).sz = 1 from rfl, Nat.mul_one] at hv169_0
                                      replace hv169_0 := Option.some.inj (hv169_0.symm.trans hx169_0)
                                      rw [hv169_0] at ge169_0
                                      have HL169_0 := Aside0.mk (show Kd.R (Kd.int .i64) 3 _ _ _ _ (rd_L1 t160 x8_1) from ge169_0)
                                      clear hv169_0 ge169_0
                                      clear hcc169 hce169
                                      have HR169_0 := Aside0.mk hi169_0
                                      have HC169_0 := Aside0.mk hl169_0
                                      clear hi169_0 hl169_0
                                      replace p169 := eq_true p169
                                      replace q169 := eq_true q169
                                      have ea_ := Option.some.inj (hx168_0.symm.trans hx169_0)
                                      injection ea_ with ea_ en_ ec_
                                      subst ea_
                                      subst ec_
                                      clear en_
                                      have p170 : 0 ≤ (x9_3 : Int) := of_decide_eq_true (by first | (with_reducible assumption) | assumption)
                                      have q170 : x9_3 < ((rd_L1 t160 x8_1).length : Int) := of_decide_eq_true (by first | (with_reducible assumption) | assumption)
                                      obtain ⟨ad170, e170, hx170_0⟩ := Kd.at_int (by repeat (first | (with_reducible exact HR169_0.out) | (with_reducible refine Kd.C_alloc ?_ _) | (with_reducible refine Kd.C_drewN ?_ _) | (with_reducible refine Kd.C_drew ?_) | exact HR169_0.out)) x9_3 p170 q170
                                      cases e170
                                      replace p170 := eq_true p170
                                      replace q170 := eq_true q170
                                      go_wp2
                                      go_roundg k3
                                      case measure => have := HK1.out; have := HJ17.out; have := HK3.out; omega
                                      case rel => exact ⟨(wrap64 (x7_3 + 1)), (wrap64 (x9_3 + 1)), (by first | rfl | (simp; done) | (simp [*]; done)), (by first | rfl | (simp; done) | (simp [*]; done)), H', ⟨by have := HK1.out; have := HJ17.out; have := HK3.out; omega⟩, ⟨by (with_reducible repeat (first | apply Kd.S_alloc | apply Kd.S_drewN | apply Kd.S_drew)); exact HO_6.out⟩, ⟨by repeat (first | (with_reducible first | exact HB.out | apply below_alloc | apply pw_below_drewN | apply below_drew1) | exact HB.out)⟩⟩
                                    · rw [if_neg c29] at H
                                      have c29b0 : ((rd (rd_L1 t160 x8_1) x9_3) == x7_3) = false := beq_eq_false_iff_ne.mpr c29
                                      have c29b1 : ((rd (rd_L1 t160 x8_1) x9_3) != x7_3) = true := bne_iff_ne.mpr c29
                                      obtain rfl := Option.some.inj H
                                      have p168 : 0 ≤ (x8_1 : Int) := of_decide_eq_true (by first | (with_reducible assumption) | assumption)
                                      have q168 : x8_1 < (t160.length : Int) := of_decide_eq_true (by first | (with_reducible assumption) | assumption)
                                      obtain ⟨ad168, A168_0, c168_0, e168, hx168_0, hl168_0, hi168_0⟩ := at_L1 (Kd.S_reads' HO_6.out).2.2 x8_1 p168 q168
                                      cases e168
                                      obtain ⟨ce168, hce168, hMe168, hcc168⟩ := Kd.S_get HO_6.out [] x8_1 p168 (by first | exact q168 | exact of_decide_eq_true (by first | (with_reducible assumption) | assumption) | (have e_ := (Kd.S_reads' HO_6.out).1; omega))
                                      obtain ⟨ve168_0, rfl, ge168_0⟩ := hMe168
                                      have hv168_0 := hcc168 0 _ rfl
                                      rw [Nat.add_zero, show ((Kd.slice 3 (Kd.int .i64))).sz = 1 from rfl, Nat.mul_one] at hv168_0
                                      replace hv168_0 := Option.some.inj (hv168_0.symm.trans hx168_0)
                                      rw [hv168_0] at ge168_0
                                      have HL168_0 := Aside0.mk (show Kd.R (Kd.int .i64) 3 _ _ _ _ (rd_L1 t160 x8_1) from ge168_0)
                                      clear hv168_0 ge168_0
                                      clear hcc168 hce168
                                      have HR168_0 := Aside0.mk hi168_0
                                      have HC168_0 := Aside0.mk hl168_0
                                      clear hi168_0 hl168_0
                                      replace p168 := eq_true p168
                                      replace q168 := eq_true q168
                                      have p169 : 0 ≤ (x8_1 : Int) := of_decide_eq_true (by first | (with_reducible assumption) | assumption)
                                      have q169 : x8_1 < (t160.length : Int) := of_decide_eq_true (by first | (with_reducible assumption) | assumption)
                                      obtain ⟨ad169, A169_0, c169_0, e169, hx169_0, hl169_0, hi169_0⟩ := at_L1 (Kd.S_reads' HO_6.out).2.2 x8_1 p169 q169
                                      obtain rfl : ad168 = ad169 := (by injection e169)
                                      obtain ⟨ce169, hce169, hMe169, hcc169⟩ := Kd.S_get HO_6.out [] x8_1 p169 (by first | exact q169 | exact of_decide_eq_true (by first | (with_reducible assumption) | assumption) | (have e_ := (Kd.S_reads' HO_6.out).1; omega))
                                      obtain ⟨ve169_0, rfl, ge169_0⟩ := hMe169
                                      have hv169_0 := hcc169 0 _ rfl
                                      rw [Nat.add_zero, show ((Kd.slice 3 (Kd.int .i64))).sz = 1 from rfl, Nat.mul_one] at hv169_0
                                      replace hv169_0 := Option.some.inj (hv169_0.symm.trans hx169_0)
                                      rw [hv169_0] at ge169_0
                                      have HL169_0 := Aside0.mk (show Kd.R (Kd.int .i64) 3 _ _ _ _ (rd_L1 t160 x8_1) from ge169_0)
                                      clear hv169_0 ge169_0
                                      clear hcc169 hce169
                                      have HR169_0 := Aside0.mk hi169_0
                                      have HC169_0 := Aside0.mk hl169_0
                                      clear hi169_0 hl169_0
                                      replace p169 := eq_true p169
                                      replace q169 := eq_true q169
                                      have ea_ := Option.some.inj (hx168_0.symm.trans hx169_0)
                                      injection ea_ with ea_ en_ ec_
                                      subst ea_
                                      subst ec_
                                      clear en_
                                      have p170 : 0 ≤ (x9_3 : Int) := of_decide_eq_true (by first | (with_reducible assumption) | assumption)
                                      have q170 : x9_3 < ((rd_L1 t160 x8_1).length : Int) := of_decide_eq_true (by first | (with_reducible assumption) | assumption)
                                      obtain ⟨ad170, e170, hx170_0⟩ := Kd.at_int (by repeat (first | (with_reducible exact HR169_0.out) | (with_reducible refine Kd.C_alloc ?_ _) | (with_reducible refine Kd.C_drewN ?_ _) | (with_reducible refine Kd.C_drew ?_) | exact HR169_0.out)) x9_3 p170 q170
                                      cases e170
                                      replace p170 := eq_true p170
                                      replace q170 := eq_true q170
                                      go_wp2
                                      go_ret
                                      exact ⟨by first | rfl | (simp [errW_none, errW_some] <;> rfl) | (simp only [← hji7]; first | rfl | (simp [errW_none, errW_some] <;> rfl)) | (simp [*, errW_none, errW_some] <;> rfl), by repeat (first | (with_reducible first | exact HB.out | apply below_alloc | apply pw_below_drewN | apply below_drew1) | exact HB.out)⟩
                                  · rw [if_neg c28] at H
                                    exact absurd H (by simp)
                                · rw [if_neg c27] at H
                                  have c27b0 : decide (x9_3 < ((rd_L1 t160 x8_1).length : Int)) = false := decide_eq_false c27
                                  clear c27
                                  have H' := Aside0.mk H
                                  clear H
                                  have p168 : 0 ≤ (x8_1 : Int) := of_decide_eq_true (by first | (with_reducible assumption) | assumption)
                                  have q168 : x8_1 < (t160.length : Int) := of_decide_eq_true (by first | (with_reducible assumption) | assumption)
                                  obtain ⟨ad168, A168_0, c168_0, e168, hx168_0, hl168_0, hi168_0⟩ := at_L1 (Kd.S_reads' HO_6.out).2.2 x8_1 p168 q168
                                  cases e168
                                  obtain ⟨ce168, hce168, hMe168, hcc168⟩ := Kd.S_get HO_6.out [] x8_1 p168 (by first | exact q168 | exact of_decide_eq_true (by first | (with_reducible assumption) | assumption) | (have e_ := (Kd.S_reads' HO_6.out).1; omega))
                                  obtain ⟨ve168_0, rfl, ge168_0⟩ := hMe168
                                  have hv168_0 := hcc168 0 _ rfl
                                  rw [Nat.add_zero, show ((Kd.slice 3 (Kd.int .i64))).sz = 1 from rfl, Nat.mul_one] at hv168_0
                                  replace hv168_0 := Option.some.inj (hv168_0.symm.trans hx168_0)
                                  rw [hv168_0] at ge168_0
                                  have HL168_0 := Aside0.mk (show Kd.R (Kd.int .i64) 3 _ _ _ _ (rd_L1 t160 x8_1) from ge168_0)
                                  clear hv168_0 ge168_0
                                  clear hcc168 hce168
                                  have HR168_0 := Aside0.mk hi168_0
                                  have HC168_0 := Aside0.mk hl168_0
                                  clear hi168_0 hl168_0
                                  replace p168 := eq_true p168
                                  replace q168 := eq_true q168
                                  go_wp2
                                  go_roundg k3
                                  case measure => have := HK1.out; have := HJ17.out; have := HK3.out; omega
                                  case rel => exact ⟨(x7_3), (wrap64 (x8_1 + 1)), (by first | rfl | (simp; done) | (simp [*]; done)), (by first | rfl | (simp; done) | (simp [*]; done)), H', ⟨by have := HK1.out; have := HJ17.out; have := HK3.out; omega⟩, ⟨by (with_reducible repeat (first | apply Kd.S_alloc | apply Kd.S_drewN | apply Kd.S_drew)); exact HO_6.out⟩, ⟨by repeat (first | (with_reducible first | exact HB.out | apply below_alloc | apply pw_below_drewN | apply below_drew1) | exact HB.out)⟩⟩
                              · rw [if_neg c26] at H
                                exact absurd H (by simp)
                            · rw [if_neg c25] at H
                              exact absurd H (by simp)
                · rw [if_neg c17] at H
                  have c17b0 : decide (x8_1 < (t160.length : Int)) = false := decide_eq_false c17
                  clear c17
                  replace H := Option.bind_eq_some_iff.mp H
                  obtain ⟨t163, A300, H⟩ := H
                  replace H : (if x7_1 = (wrap64 ((wrap64 (1 + (Int.tmod (rd t151 0) 64))) + 1)) then ((impl_SheetsFor.f k1 (wrap64 (1 + (Int.tmod (rd t151 0) 64))) (rd y155 (ji7)) false).bind fun t164 => (if t164 = (t160.length : Int) then (if (wrap64 (2 * t163)) ≥ (t160.length : Int) then (some (decide ((wrap64 (2 * t163)) ≤ (wrap64 ((t160.length : Int) + 1))))) else (some false)) else (some false))) else (some false)) = some r := H
                  have A30 := Aside0.mk A300
                  clear A300
                  by_cases c31 : x7_1 = (wrap64 ((wrap64 (1 + (Int.tmod (rd t151 0) 64))) + 1))
                  · rw [if_pos c31] at H
                    have c31b0 : (x7_1 == (wrap64 ((wrap64 (1 + (Int.tmod (rd t151 0) 64))) + 1))) = true := beq_iff_eq.mpr c31
                    have c31b1 : (x7_1 != (wrap64 ((wrap64 (1 + (Int.tmod (rd t151 0) 64))) + 1))) = false := bne_eq_false_iff_eq.mpr c31
                    clear c31
                    replace H := Option.bind_eq_some_iff.mp H
                    obtain ⟨t164, A320, H⟩ := H
                    replace H : (if t164 = (t160.length : Int) then (if (wrap64 (2 * t163)) ≥ (t160.length : Int) then (some (decide ((wrap64 (2 * t163)) ≤ (wrap64 ((t160.length : Int) + 1))))) else (some false)) else (some false)) = some r := H
                    have A32 := Aside0.mk A320
                    clear A320
                    by_cases c33 : t164 = (t160.length : Int)
                    · rw [if_pos c33] at H
                      have c33b0 : (t164 == (t160.length : Int)) = true := beq_iff_eq.mpr c33
                      have c33b1 : (t164 != (t160.length : Int)) = false := bne_eq_false_iff_eq.mpr c33
                      clear c33
                      by_cases c34 : (wrap64 (2 * t163)) ≥ (t160.length : Int)
                      · rw [if_pos c34] at H
                        have c34b0 : decide ((t160.length : Int) ≤ (wrap64 (2 * t163))) = true := decide_eq_true c34
                        clear c34
                        obtain rfl := Option.some.inj H
                        obtain ⟨Ao35, co35, eo35⟩ := Kd.S_slice HO_6.out
                        subst eo35
                        go_wp2_with (first | ((with_reducible refine gate_callee (f := 35) rfl ?_); refine goesL_ (some 89) rfl rfl Try.func35 (by kernel_rfl) rfl #[.int .i64 (wrap64 (1 + (Int.tmod (rd t151 0) 64))), .int .i64 (rd y155 (ji7)), .bool true] rfl (by (try simp only [List.map_toArray, List.map_cons, List.map_nil]); first | done | (simp only [hji7]; rfl) | rfl | (simp only [List.length_drop, List.length_take]; rfl)) ?_; (with_reducible refine (impl_SheetsFor.calls k1 (wrap64 (1 + (Int.tmod (rd t151 0) 64))) (rd y155 (ji7)) true t163 _ A30.out).mono ?_); rintro e w36 ⟨rfl, hb⟩; refine ⟨_, rfl, ?_⟩; have n0_ := Aside0.mk (Kd.S_below (by (with_reducible repeat (first | apply Kd.S_alloc | apply Kd.S_drewN | apply Kd.S_drew)); exact HO_6.out) hb); have n1_ := Aside0.mk (below_step (by repeat (first | (with_reducible first | exact HB.out | apply below_alloc | apply pw_below_drewN | apply below_drew1) | exact HB.out)) hb); clear HO_6; clear HB; have HO_6 := n0_; have HB := n1_; clear n0_ n1_; (try clear hb); (try clear hb2); (try clear hk); (try clear hi)) | (go_at_call 35; (with_reducible refine (impl_SheetsFor.calls k1 (wrap64 (1 + (Int.tmod (rd t151 0) 64))) (rd y155 (ji7)) false t164 _ A32.out).mono ?_); rintro e w37 ⟨rfl, hb⟩; have n0_ := Aside0.mk (Kd.S_below (by (with_reducible repeat (first | apply Kd.S_alloc | apply Kd.S_drewN | apply Kd.S_drew)); exact HO_6.out) hb); have n1_ := Aside0.mk (below_step (by repeat (first | (with_reducible first | exact HB.out | apply below_alloc | apply pw_below_drewN | apply below_drew1) | exact HB.out)) hb); clear HO_6; clear HB; have HO_6 := n0_; have HB := n1_; clear n0_ n1_; (try clear hb); (try clear hb2); (try clear hk); (try clear hi)))
                        go_ret
                        exact ⟨by first | rfl | (simp [errW_none, errW_some] <;> rfl) | (simp only [← hji7]; first | rfl | (simp [errW_none, errW_some] <;> rfl)) | (simp [*, errW_none, errW_some] <;> rfl), by repeat (first | (with_reducible first | exact HB.out | apply below_alloc | apply pw_below_drewN | apply below_drew1) | exact HB.out)⟩
                      · rw [if_neg c34] at H
                        have c34b0 : decide ((t160.length : Int) ≤ (wrap64 (2 * t163))) = false := decide_eq_false c34
                        clear c34
                        obtain rfl := Option.some.inj H
                        obtain ⟨Ao38, co38, eo38⟩ := Kd.S_slice HO_6.out
                        subst eo38
                        go_wp2_with (first | ((with_reducible refine gate_callee (f := 35) rfl ?_); refine goesL_ (some 89) rfl rfl Try.func35 (by kernel_rfl) rfl #[.int .i64 (wrap64 (1 + (Int.tmod (rd t151 0) 64))), .int .i64 (rd y155 (ji7)), .bool true] rfl (by (try simp only [List.map_toArray, List.map_cons, List.map_nil]); first | done | (simp only [hji7]; rfl) | rfl | (simp only [List.length_drop, List.length_take]; rfl)) ?_; (with_reducible refine (impl_SheetsFor.calls k1 (wrap64 (1 + (Int.tmod (rd t151 0) 64))) (rd y155 (ji7)) true t163 _ A30.out).mono ?_); rintro e w39 ⟨rfl, hb⟩; refine ⟨_, rfl, ?_⟩; have n0_ := Aside0.mk (Kd.S_below (by (with_reducible repeat (first | apply Kd.S_alloc | apply Kd.S_drewN | apply Kd.S_drew)); exact HO_6.out) hb); have n1_ := Aside0.mk (below_step (by repeat (first | (with_reducible first | exact HB.out | apply below_alloc | apply pw_below_drewN | apply below_drew1) | exact HB.out)) hb); clear HO_6; clear HB; have HO_6 := n0_; have HB := n1_; clear n0_ n1_; (try clear hb); (try clear hb2); (try clear hk); (try clear hi)) | (go_at_call 35; (with_reducible refine (impl_SheetsFor.calls k1 (wrap64 (1 + (Int.tmod (rd t151 0) 64))) (rd y155 (ji7)) false t164 _ A32.out).mono ?_); rintro e w40 ⟨rfl, hb⟩; have n0_ := Aside0.mk (Kd.S_below (by (with_reducible repeat (first | apply Kd.S_alloc | apply Kd.S_drewN | apply Kd.S_drew)); exact HO_6.out) hb); have n1_ := Aside0.mk (below_step (by repeat (first | (with_reducible first | exact HB.out | apply below_alloc | apply pw_below_drewN | apply below_drew1) | exact HB.out)) hb); clear HO_6; clear HB; have HO_6 := n0_; have HB := n1_; clear n0_ n1_; (try clear hb); (try clear hb2); (try clear hk); (try clear hi)))
                        go_ret
                        exact ⟨by first | rfl | (simp [errW_none, errW_some] <;> rfl) | (simp only [← hji7]; first | rfl | (simp [errW_none, errW_some] <;> rfl)) | (simp [*, errW_none, errW_some] <;> rfl), by repeat (first | (with_reducible first | exact HB.out | apply below_alloc | apply pw_below_drewN | apply below_drew1) | exact HB.out)⟩
                    · rw [if_neg c33] at H
                      have c33b0 : (t164 == (t160.length : Int)) = false := beq_eq_false_iff_ne.mpr c33
                      have c33b1 : (t164 != (t160.length : Int)) = true := bne_iff_ne.mpr c33
                      obtain rfl := Option.some.inj H
                      obtain ⟨Ao41, co41, eo41⟩ := Kd.S_slice HO_6.out
                      subst eo41
                      go_wp2_with (first | ((with_reducible refine gate_callee (f := 35) rfl ?_); refine goesL_ (some 89) rfl rfl Try.func35 (by kernel_rfl) rfl #[.int .i64 (wrap64 (1 + (Int.tmod (rd t151 0) 64))), .int .i64 (rd y155 (ji7)), .bool true] rfl (by (try simp only [List.map_toArray, List.map_cons, List.map_nil]); first | done | (simp only [hji7]; rfl) | rfl | (simp only [List.length_drop, List.length_take]; rfl)) ?_; (with_reducible refine (impl_SheetsFor.calls k1 (wrap64 (1 + (Int.tmod (rd t151 0) 64))) (rd y155 (ji7)) true t163 _ A30.out).mono ?_); rintro e w42 ⟨rfl, hb⟩; refine ⟨_, rfl, ?_⟩; have n0_ := Aside0.mk (Kd.S_below (by (with_reducible repeat (first | apply Kd.S_alloc | apply Kd.S_drewN | apply Kd.S_drew)); exact HO_6.out) hb); have n1_ := Aside0.mk (below_step (by repeat (first | (with_reducible first | exact HB.out | apply below_alloc | apply pw_below_drewN | apply below_drew1) | exact HB.out)) hb); clear HO_6; clear HB; have HO_6 := n0_; have HB := n1_; clear n0_ n1_; (try clear hb); (try clear hb2); (try clear hk); (try clear hi)) | (go_at_call 35; (with_reducible refine (impl_SheetsFor.calls k1 (wrap64 (1 + (Int.tmod (rd t151 0) 64))) (rd y155 (ji7)) false t164 _ A32.out).mono ?_); rintro e w43 ⟨rfl, hb⟩; have n0_ := Aside0.mk (Kd.S_below (by (with_reducible repeat (first | apply Kd.S_alloc | apply Kd.S_drewN | apply Kd.S_drew)); exact HO_6.out) hb); have n1_ := Aside0.mk (below_step (by repeat (first | (with_reducible first | exact HB.out | apply below_alloc | apply pw_below_drewN | apply below_drew1) | exact HB.out)) hb); clear HO_6; clear HB; have HO_6 := n0_; have HB := n1_; clear n0_ n1_; (try clear hb); (try clear hb2); (try clear hk); (try clear hi)))
                      go_ret
                      exact ⟨by first | rfl | (simp [errW_none, errW_some] <;> rfl) | (simp only [← hji7]; first | rfl | (simp [errW_none, errW_some] <;> rfl)) | (simp [*, errW_none, errW_some] <;> rfl), by repeat (first | (with_reducible first | exact HB.out | apply below_alloc | apply pw_below_drewN | apply below_drew1) | exact HB.out)⟩
                  · rw [if_neg c31] at H
                    have c31b0 : (x7_1 == (wrap64 ((wrap64 (1 + (Int.tmod (rd t151 0) 64))) + 1))) = false := beq_eq_false_iff_ne.mpr c31
                    have c31b1 : (x7_1 != (wrap64 ((wrap64 (1 + (Int.tmod (rd t151 0) 64))) + 1))) = true := bne_iff_ne.mpr c31
                    obtain rfl := Option.some.inj H
                    obtain ⟨Ao44, co44, eo44⟩ := Kd.S_slice HO_6.out
                    subst eo44
                    go_wp2_with (first | ((with_reducible refine gate_callee (f := 35) rfl ?_); refine goesL_ (some 89) rfl rfl Try.func35 (by kernel_rfl) rfl #[.int .i64 (wrap64 (1 + (Int.tmod (rd t151 0) 64))), .int .i64 (rd y155 (ji7)), .bool true] rfl (by (try simp only [List.map_toArray, List.map_cons, List.map_nil]); first | done | (simp only [hji7]; rfl) | rfl | (simp only [List.length_drop, List.length_take]; rfl)) ?_; (with_reducible refine (impl_SheetsFor.calls k1 (wrap64 (1 + (Int.tmod (rd t151 0) 64))) (rd y155 (ji7)) true t163 _ A30.out).mono ?_); rintro e w45 ⟨rfl, hb⟩; refine ⟨_, rfl, ?_⟩; have n0_ := Aside0.mk (Kd.S_below (by (with_reducible repeat (first | apply Kd.S_alloc | apply Kd.S_drewN | apply Kd.S_drew)); exact HO_6.out) hb); have n1_ := Aside0.mk (below_step (by repeat (first | (with_reducible first | exact HB.out | apply below_alloc | apply pw_below_drewN | apply below_drew1) | exact HB.out)) hb); clear HO_6; clear HB; have HO_6 := n0_; have HB := n1_; clear n0_ n1_; (try clear hb); (try clear hb2); (try clear hk); (try clear hi)))
                    go_ret
                    exact ⟨by first | rfl | (simp [errW_none, errW_some] <;> rfl) | (simp only [← hji7]; first | rfl | (simp [errW_none, errW_some] <;> rfl)) | (simp [*, errW_none, errW_some] <;> rfl), by repeat (first | (with_reducible first | exact HB.out | apply below_alloc | apply pw_below_drewN | apply below_drew1) | exact HB.out)⟩
          · rw [if_neg c9] at H
            exact absurd H (by simp)
        · rw [if_neg c8] at H
          exact absurd H (by simp)
      · rw [if_neg c6] at H
        exact absurd H (by simp)
    · rw [if_neg c5] at H
      exact absurd H (by simp)

/-- THE ONE PURE STATEMENT of laws_FnSides: yours. -/
def laws_FnSides.Pure : Prop := ∀ (l0 : List Int), l0.length ≤ maxLen → l0.length * 1 ≤ 140737488351232 → (∀ x ∈ l0, (Lit.int .u8 x).wf = true) → ∃ k, laws_FnSides.f k l0 = some true
theorem laws_FnSides.walk (P : laws_FnSides.Pure) (a0 : Option Addr) (len0 cap0 : Nat) (z0 : List Int) (w : World) (w0 : (a0 = none ∧ len0 = 0 ∧ cap0 = 0 ∧ z0 = []) ∨ ∃ x, a0 = some x ∧ len0 ≤ cap0 ∧ cap0 ≤ maxLen ∧ z0.length = cap0 ∧ (∀ i, i < z0.length → w.cell? (x.add i) = some (.int .u8 (z0.getD i 0))) ∧ ∀ n ∈ z0, (Lit.int .u8 n).wf = true) (y0 : len0 * 1 ≤ 140737488351232) :
    Calls Try.prog 13 #[.slice a0 len0 cap0] w fun e w' => e = .returned (.bool true) ∧ Below w.heap.size w w' := by
  obtain ⟨l0, rfl, hr0, hm0, hw0, hc0⟩ := ReadsInt.ofRowC w0
  obtain ⟨k, h⟩ := P l0 hm0 y0 hw0
  refine (laws_FnSides.calls k _ _ l0 true w (Kd.C_of_reads (d := (0 : Int)) (h1 := fun _ => rfl) hr0) hc0 h).mono ?_
  rintro e w' ⟨rfl, hd⟩
  exact ⟨rfl, hd⟩

end Go.Proofs.Ytmhdmebbefbcbaa.PFnSides
