/- Written by a program of this session (a turned copy of the kit's printer): what each Go function answers, and that it does. -/
import Derived.Test.YtanllimeiofaaaaPFnAlignedx0
import Derived.Test.YtanllimeiofaaaaPFnAlignedx1
import Derived.Test.YtanllimeiofaaaaPFnAlignedx2
namespace Go.Proofs.Ytanllimeiofaaaa.PFnAligned
open Go.RowKit Go.Proofs.YtanllimeiofaaaaW.PrintWords Go.Proofs.YtanllimeiofaaaaW.PrintLast Go.Proofs.YtanllimeiofaaaaW.PrintMore
attribute [local go_sem] max2_int min2_int max_two min_two max_three min_three max_four min_four   -- for this text's walks alone
set_option linter.unusedVariables false
set_option linter.unusedSimpArgs false

/-! ### laws_FnAligned: function 11 -/
mutual
def laws_FnAligned.l0 : Nat → List Int → Int → List (List Int) → Int → Option (Bool)
  | 0, _, _, _, _ => none
  | k + 1, x3, x4, x5, x6 => if x6 < (x5.length : Int) then (laws_FnAligned.l1 k x3 x4 x5 x6 0) else (some true)
def laws_FnAligned.l1 : Nat → List Int → Int → List (List Int) → Int → Int → Option (Bool)
  | 0, _, _, _, _, _ => none
  | k + 1, x3, x4, x5, x6, x7 => if x7 < 3 then (if 0 ≤ x6 then (if x6 < (x5.length : Int) then ((impl_StartsOf.f k x3 (rd_L2 x5 x6) x4 x7).bind fun t184 => (if (t184.length : Int) = ((rd_L2 x5 x6).length : Int) then (laws_FnAligned.l2 k x3 x4 x5 x6 x7 t184 0) else (some false))) else (none)) else (none)) else (laws_FnAligned.l0 k x3 x4 x5 (wrap64 (x6 + 1)))
def laws_FnAligned.l2 : Nat → List Int → Int → List (List Int) → Int → Int → List Int → Int → Option (Bool)
  | 0, _, _, _, _, _, _, _ => none
  | k + 1, x3, x4, x5, x6, x7, x8, x9 => if x9 < (x8.length : Int) then (if 0 ≤ x9 then (if (rd x8 x9) < 0 then (some false) else (if 0 ≤ x6 then (if x6 < (x5.length : Int) then (if x9 < ((rd_L2 x5 x6).length : Int) then (if 0 ≤ (rd (rd_L2 x5 x6) x9) then (if (rd (rd_L2 x5 x6) x9) < (x3.length : Int) then (if (wrap64 ((rd x8 x9) + (rd x3 (rd (rd_L2 x5 x6) x9)))) > x4 then (some false) else (if x9 > 0 then (if 0 ≤ (wrap64 (x9 - 1)) then (if (wrap64 (x9 - 1)) < (x8.length : Int) then (if (wrap64 (x9 - 1)) < ((rd_L2 x5 x6).length : Int) then (if 0 ≤ (rd (rd_L2 x5 x6) (wrap64 (x9 - 1))) then (if (rd (rd_L2 x5 x6) (wrap64 (x9 - 1))) < (x3.length : Int) then (if (rd x8 x9) = (wrap64 ((wrap64 ((rd x8 (wrap64 (x9 - 1))) + (rd x3 (rd (rd_L2 x5 x6) (wrap64 (x9 - 1)))))) + 1)) then (laws_FnAligned.l2 k x3 x4 x5 x6 x7 x8 (wrap64 (x9 + 1))) else (some false)) else (none)) else (none)) else (none)) else (none)) else (none)) else (laws_FnAligned.l2 k x3 x4 x5 x6 x7 x8 (wrap64 (x9 + 1))))) else (none)) else (none)) else (none)) else (none)) else (none))) else (none)) else (laws_FnAligned.l1 k x3 x4 x5 x6 (wrap64 (x7 + 1)))
end
def laws_FnAligned.f (k : Nat) (l0 : List Int) : Option (Bool) := (laws_big.f l0).bind fun t175 => (if t175 = true then (some true) else ((spec_DrawWords.f k l0).bind fun bt176 => ((spec_BreakLines.f k bt176.1 bt176.2).bind fun t180 => (laws_FnAligned.l0 k bt176.1 bt176.2 t180 0))))
theorem laws_FnAligned.mono_l : ∀ k, (∀ y0 y1 y2 y3, LeO (laws_FnAligned.l0 k y0 y1 y2 y3) (laws_FnAligned.l0 (k + 1) y0 y1 y2 y3)) ∧ (∀ y0 y1 y2 y3 y4, LeO (laws_FnAligned.l1 k y0 y1 y2 y3 y4) (laws_FnAligned.l1 (k + 1) y0 y1 y2 y3 y4)) ∧ (∀ y0 y1 y2 y3 y4 y5 y6, LeO (laws_FnAligned.l2 k y0 y1 y2 y3 y4 y5 y6) (laws_FnAligned.l2 (k + 1) y0 y1 y2 y3 y4 y5 y6))
  | 0 => ⟨fun _ _ _ _ r h => by simp [laws_FnAligned.l0] at h, fun _ _ _ _ _ r h => by simp [laws_FnAligned.l1] at h, fun _ _ _ _ _ _ _ r h => by simp [laws_FnAligned.l2] at h⟩
  | k + 1 => by
    obtain ⟨ih0, ih1, ih2⟩ := laws_FnAligned.mono_l k
    refine ⟨?_, ?_, ?_⟩
    · intro y0 y1 y2 y3
      unfold laws_FnAligned.l0
      repeat' first
      | (with_reducible exact ih0 _ _ _ _)
      | (with_reducible exact ih1 _ _ _ _ _)
      | (with_reducible exact ih2 _ _ _ _ _ _ _)
      | (with_reducible exact impl_StartsOf.mono _ _ _ _ _)
      | (with_reducible exact spec_BreakLines.mono _ _ _)
      | (with_reducible exact spec_DrawWords.mono _ _)
      | (with_reducible exact LeO.refl _)
      | (with_reducible exact LeO.none _)
      | (with_reducible refine LeO.ite ?_ ?_)
      | (with_reducible refine LeO.bind ?_ (fun _ => ?_))
      | exact ih0 _ _ _ _
      | exact ih1 _ _ _ _ _
      | exact ih2 _ _ _ _ _ _ _
      | exact impl_StartsOf.mono _ _ _ _ _
      | exact spec_BreakLines.mono _ _ _
      | exact spec_DrawWords.mono _ _
      | exact LeO.none _
      | refine LeO.ite ?_ ?_
      | refine LeO.bind ?_ (fun _ => ?_)
    · intro y0 y1 y2 y3 y4
      unfold laws_FnAligned.l1
      repeat' first
      | (with_reducible exact ih0 _ _ _ _)
      | (with_reducible exact ih1 _ _ _ _ _)
      | (with_reducible exact ih2 _ _ _ _ _ _ _)
      | (with_reducible exact impl_StartsOf.mono _ _ _ _ _)
      | (with_reducible exact spec_BreakLines.mono _ _ _)
      | (with_reducible exact spec_DrawWords.mono _ _)
      | (with_reducible exact LeO.refl _)
      | (with_reducible exact LeO.none _)
      | (with_reducible refine LeO.ite ?_ ?_)
      | (with_reducible refine LeO.bind ?_ (fun _ => ?_))
      | exact ih0 _ _ _ _
      | exact ih1 _ _ _ _ _
      | exact ih2 _ _ _ _ _ _ _
      | exact impl_StartsOf.mono _ _ _ _ _
      | exact spec_BreakLines.mono _ _ _
      | exact spec_DrawWords.mono _ _
      | exact LeO.none _
      | refine LeO.ite ?_ ?_
      | refine LeO.bind ?_ (fun _ => ?_)
    · intro y0 y1 y2 y3 y4 y5 y6
      unfold laws_FnAligned.l2
      repeat' first
      | (with_reducible exact ih0 _ _ _ _)
      | (with_reducible exact ih1 _ _ _ _ _)
      | (with_reducible exact ih2 _ _ _ _ _ _ _)
      | (with_reducible exact impl_StartsOf.mono _ _ _ _ _)
      | (with_reducible exact spec_BreakLines.mono _ _ _)
      | (with_reducible exact spec_DrawWords.mono _ _)
      | (with_reducible exact LeO.refl _)
      | (with_reducible exact LeO.none _)
      | (with_reducible refine LeO.ite ?_ ?_)
      | (with_reducible refine LeO.bind ?_ (fun _ => ?_))
      | exact ih0 _ _ _ _
      | exact ih1 _ _ _ _ _
      | exact ih2 _ _ _ _ _ _ _
      | exact impl_StartsOf.mono _ _ _ _ _
      | exact spec_BreakLines.mono _ _ _
      | exact spec_DrawWords.mono _ _
      | exact LeO.none _
      | refine LeO.ite ?_ ?_
      | refine LeO.bind ?_ (fun _ => ?_)
theorem laws_FnAligned.mono : ∀ a0 k, LeO (laws_FnAligned.f k a0) (laws_FnAligned.f (k + 1) a0) := by
  intro a0 k
  obtain ⟨ih0, ih1, ih2⟩ := laws_FnAligned.mono_l k
  unfold laws_FnAligned.f
  repeat' first
      | (with_reducible exact ih0 _ _ _ _)
      | (with_reducible exact ih1 _ _ _ _ _)
      | (with_reducible exact ih2 _ _ _ _ _ _ _)
      | (with_reducible exact impl_StartsOf.mono _ _ _ _ _)
      | (with_reducible exact spec_BreakLines.mono _ _ _)
      | (with_reducible exact spec_DrawWords.mono _ _)
      | (with_reducible exact LeO.refl _)
      | (with_reducible exact LeO.none _)
      | (with_reducible refine LeO.ite ?_ ?_)
      | (with_reducible refine LeO.bind ?_ (fun _ => ?_))
      | exact ih0 _ _ _ _
      | exact ih1 _ _ _ _ _
      | exact ih2 _ _ _ _ _ _ _
      | exact impl_StartsOf.mono _ _ _ _ _
      | exact spec_BreakLines.mono _ _ _
      | exact spec_DrawWords.mono _ _
      | exact LeO.none _
      | refine LeO.ite ?_ ?_
      | refine LeO.bind ?_ (fun _ => ?_)
set_option maxHeartbeats 8000000 in
set_option maxRecDepth 100000 in
theorem laws_FnAligned.calls (k : Nat) (A0 : Option Addr) (c0 : Nat) (l0 : List Int) (r : Bool) (w : World) (hr0 : Kd.C (Kd.int .u8) w A0 l0.length l0) (hc0 : l0.length ≤ c0) (h : laws_FnAligned.f k l0 = some r) :
    Calls Try.prog 11 #[.slice A0 l0.length c0] w fun e w' => e = .returned (.bool r) ∧ Below w.heap.size w w' := by
  have HR0 := Aside0.mk hr0
  have HC0 := Aside0.mk hc0
  clear hr0 hc0
  have HB := Aside0.mk (Below.refl w.heap.size w)
  have H : ((laws_big.f l0).bind fun t175 => (if t175 = true then (some true) else ((spec_DrawWords.f k l0).bind fun bt176 => ((spec_BreakLines.f k bt176.1 bt176.2).bind fun t180 => (laws_FnAligned.l0 k bt176.1 bt176.2 t180 0))))) = some r := h
  clear h
  replace H := Option.bind_eq_some_iff.mp H
  obtain ⟨t175, A20, H⟩ := H
  replace H : (if t175 = true then (some true) else ((spec_DrawWords.f k l0).bind fun bt176 => ((spec_BreakLines.f k bt176.1 bt176.2).bind fun t180 => (laws_FnAligned.l0 k bt176.1 bt176.2 t180 0)))) = some r := H
  have A2 := Aside0.mk A20
  clear A20
  by_cases c3 : t175 = true
  · subst c3
    have H1 : (some true) = some r := by rw [if_pos rfl] at H; exact H
    clear H
    have H := H1
    clear H1
    obtain rfl := Option.some.inj H
    go_enter Try.func11, Try.ntmps11
    go_wp2_with (first | (go_at_call 15; (with_reducible refine (laws_big.calls _ _ l0 true _ ?side1 ?side2 A2.out).mono ?_); (case side1 => repeat (first | exact HR0.out | (with_reducible refine Kd.C_alloc ?_ _) | (with_reducible refine Kd.C_drewN ?_ _) | (with_reducible refine Kd.C_drew ?_))); (case side2 => exact HC0.out); rintro e w' ⟨rfl, ⟨nd, rfl⟩⟩; (try first | exact ⟨rfl, _, World.drewN_drewN _ _ _⟩ | exact ⟨rfl, _, Eq.trans (World.drewN_drewN _ _ _) (congrArg (World.drewN _) (Nat.add_assoc _ _ _))⟩)))
    repeat (go_quiet (first | (go_at_call 15; (with_reducible refine (laws_big.calls _ _ l0 true _ ?side1 ?side2 A2.out).mono ?_); (case side1 => repeat (first | exact HR0.out | (with_reducible refine Kd.C_alloc ?_ _) | (with_reducible refine Kd.C_drewN ?_ _) | (with_reducible refine Kd.C_drew ?_))); (case side2 => exact HC0.out); rintro e w' ⟨rfl, ⟨nd, rfl⟩⟩; (try first | exact ⟨rfl, _, World.drewN_drewN _ _ _⟩ | exact ⟨rfl, _, Eq.trans (World.drewN_drewN _ _ _) (congrArg (World.drewN _) (Nat.add_assoc _ _ _))⟩))); try go_wp2_with (first | (go_at_call 15; (with_reducible refine (laws_big.calls _ _ l0 true _ ?side1 ?side2 A2.out).mono ?_); (case side1 => repeat (first | exact HR0.out | (with_reducible refine Kd.C_alloc ?_ _) | (with_reducible refine Kd.C_drewN ?_ _) | (with_reducible refine Kd.C_drew ?_))); (case side2 => exact HC0.out); rintro e w' ⟨rfl, ⟨nd, rfl⟩⟩; (try first | exact ⟨rfl, _, World.drewN_drewN _ _ _⟩ | exact ⟨rfl, _, Eq.trans (World.drewN_drewN _ _ _) (congrArg (World.drewN _) (Nat.add_assoc _ _ _))⟩))))
    go_ret
    exact ⟨by first | rfl | (simp [errW_none, errW_some] <;> rfl) | (simp [*, errW_none, errW_some] <;> rfl), by repeat (first | (with_reducible first | exact HB.out | apply below_alloc | apply pw_below_drewN | apply below_drew1) | exact HB.out)⟩
  · replace c3 := Bool.eq_false_iff.mpr c3
    subst c3
    have H1 : ((spec_DrawWords.f k l0).bind fun bt176 => ((spec_BreakLines.f k bt176.1 bt176.2).bind fun t180 => (laws_FnAligned.l0 k bt176.1 bt176.2 t180 0))) = some r := by rw [if_neg (show ¬ (false = true) by decide)] at H; exact H
    clear H
    have H := H1
    clear H1
    replace H := Option.bind_eq_some_iff.mp H
    obtain ⟨⟨t176, t177⟩, A40, H⟩ := H
    replace H : ((spec_BreakLines.f k t176 t177).bind fun t180 => (laws_FnAligned.l0 k t176 t177 t180 0)) = some r := H
    have A4 := Aside0.mk A40
    clear A40
    replace H := Option.bind_eq_some_iff.mp H
    obtain ⟨t180, A50, H⟩ := H
    replace H : (laws_FnAligned.l0 k t176 t177 t180 0) = some r := H
    have A5 := Aside0.mk A50
    clear A50
    have H' := Aside0.mk H
    clear H
    go_enter Try.func11, Try.ntmps11
    go_wp2_with (first | (go_at_call 15; (with_reducible refine (laws_big.calls _ _ l0 false _ ?side1 ?side2 A2.out).mono ?_); (case side1 => repeat (first | exact HR0.out | (with_reducible refine Kd.C_alloc ?_ _) | (with_reducible refine Kd.C_drewN ?_ _) | (with_reducible refine Kd.C_drew ?_))); (case side2 => exact HC0.out); rintro e w' ⟨rfl, ⟨nd, rfl⟩⟩; (try first | exact ⟨rfl, _, World.drewN_drewN _ _ _⟩ | exact ⟨rfl, _, Eq.trans (World.drewN_drewN _ _ _) (congrArg (World.drewN _) (Nat.add_assoc _ _ _))⟩)) | (go_at_call 36; (with_reducible refine (spec_DrawWords.calls k _ _ l0 t176 t177 _ ?side1 ?side2 A4.out).mono ?_); (case side1 => repeat (first | exact HR0.out | (with_reducible refine Kd.C_alloc ?_ _) | (with_reducible refine Kd.C_drewN ?_ _) | (with_reducible refine Kd.C_drew ?_))); (case side2 => exact HC0.out); rintro e w6 ⟨v178, rfl, ho0, hb⟩; have n0_ := Aside0.mk (Kd.R_lower ho0 (below_size (by repeat (first | (with_reducible first | exact HB.out | apply below_alloc | apply pw_below_drewN | apply below_drew1) | exact HB.out)))); have n1_ := Aside0.mk (below_step (by repeat (first | (with_reducible first | exact HB.out | apply below_alloc | apply pw_below_drewN | apply below_drew1) | exact HB.out)) hb); clear HB; have HO179 := n0_; have HB := n1_; clear n0_ n1_; (try clear hb); (try clear hb2); (try clear hk); (try clear hi); (try clear ho0); obtain ⟨Ao7, co7, eo7⟩ := Kd.R_slice HO179.out; subst eo7) | (go_at_call 52; (with_reducible refine (spec_BreakLines.calls k _ _ t176 t177 t180 _ ?side1 ?side2 A5.out).mono ?_); (case side1 => repeat (first | exact (Kd.R_reads' HO179.out).2.2 | (with_reducible refine Kd.C_alloc ?_ _) | (with_reducible refine Kd.C_drewN ?_ _) | (with_reducible refine Kd.C_drew ?_))); (case side2 => exact (Kd.R_reads' HO179.out).2.1); rintro e w8 ⟨v181, rfl, ho0, hb⟩; have n0_ := Aside0.mk (Kd.R_below (by (with_reducible repeat (first | apply Kd.R_alloc | apply Kd.R_drewN | apply Kd.R_drew)); exact HO179.out) hb); have n1_ := Aside0.mk (Kd.S_lower (Kd.S_new' ho0 (Kd.R_lt (by (with_reducible repeat (first | apply Kd.R_alloc | apply Kd.R_drewN | apply Kd.R_drew)); exact HO179.out))) (below_size (by repeat (first | (with_reducible first | exact HB.out | apply below_alloc | apply pw_below_drewN | apply below_drew1) | exact HB.out)))); have n2_ := Aside0.mk (below_step (by repeat (first | (with_reducible first | exact HB.out | apply below_alloc | apply pw_below_drewN | apply below_drew1) | exact HB.out)) hb); clear HO179; clear HB; have HO179 := n0_; have HO182 := n1_; have HB := n2_; clear n0_ n1_ n2_; (try clear hb); (try clear hb2); (try clear hk); (try clear hi); (try clear ho0)))
    repeat (go_quiet (first | (go_at_call 15; (with_reducible refine (laws_big.calls _ _ l0 false _ ?side1 ?side2 A2.out).mono ?_); (case side1 => repeat (first | exact HR0.out | (with_reducible refine Kd.C_alloc ?_ _) | (with_reducible refine Kd.C_drewN ?_ _) | (with_reducible refine Kd.C_drew ?_))); (case side2 => exact HC0.out); rintro e w' ⟨rfl, ⟨nd, rfl⟩⟩; (try first | exact ⟨rfl, _, World.drewN_drewN _ _ _⟩ | exact ⟨rfl, _, Eq.trans (World.drewN_drewN _ _ _) (congrArg (World.drewN _) (Nat.add_assoc _ _ _))⟩)) | (go_at_call 36; (with_reducible refine (spec_DrawWords.calls k _ _ l0 t176 t177 _ ?side1 ?side2 A4.out).mono ?_); (case side1 => repeat (first | exact HR0.out | (with_reducible refine Kd.C_alloc ?_ _) | (with_reducible refine Kd.C_drewN ?_ _) | (with_reducible refine Kd.C_drew ?_))); (case side2 => exact HC0.out); rintro e w6 ⟨v178, rfl, ho0, hb⟩; have n0_ := Aside0.mk (Kd.R_lower ho0 (below_size (by repeat (first | (with_reducible first | exact HB.out | apply below_alloc | apply pw_below_drewN | apply below_drew1) | exact HB.out)))); have n1_ := Aside0.mk (below_step (by repeat (first | (with_reducible first | exact HB.out | apply below_alloc | apply pw_below_drewN | apply below_drew1) | exact HB.out)) hb); clear HB; have HO179 := n0_; have HB := n1_; clear n0_ n1_; (try clear hb); (try clear hb2); (try clear hk); (try clear hi); (try clear ho0); obtain ⟨Ao7, co7, eo7⟩ := Kd.R_slice HO179.out; subst eo7) | (go_at_call 52; (with_reducible refine (spec_BreakLines.calls k _ _ t176 t177 t180 _ ?side1 ?side2 A5.out).mono ?_); (case side1 => repeat (first | exact (Kd.R_reads' HO179.out).2.2 | (with_reducible refine Kd.C_alloc ?_ _) | (with_reducible refine Kd.C_drewN ?_ _) | (with_reducible refine Kd.C_drew ?_))); (case side2 => exact (Kd.R_reads' HO179.out).2.1); rintro e w8 ⟨v181, rfl, ho0, hb⟩; have n0_ := Aside0.mk (Kd.R_below (by (with_reducible repeat (first | apply Kd.R_alloc | apply Kd.R_drewN | apply Kd.R_drew)); exact HO179.out) hb); have n1_ := Aside0.mk (Kd.S_lower (Kd.S_new' ho0 (Kd.R_lt (by (with_reducible repeat (first | apply Kd.R_alloc | apply Kd.R_drewN | apply Kd.R_drew)); exact HO179.out))) (below_size (by repeat (first | (with_reducible first | exact HB.out | apply below_alloc | apply pw_below_drewN | apply below_drew1) | exact HB.out)))); have n2_ := Aside0.mk (below_step (by repeat (first | (with_reducible first | exact HB.out | apply below_alloc | apply pw_below_drewN | apply below_drew1) | exact HB.out)) hb); clear HO179; clear HB; have HO179 := n0_; have HO182 := n1_; have HB := n2_; clear n0_ n1_ n2_; (try clear hb); (try clear hb2); (try clear hk); (try clear hi); (try clear ho0))); try go_wp2_with (first | (go_at_call 15; (with_reducible refine (laws_big.calls _ _ l0 false _ ?side1 ?side2 A2.out).mono ?_); (case side1 => repeat (first | exact HR0.out | (with_reducible refine Kd.C_alloc ?_ _) | (with_reducible refine Kd.C_drewN ?_ _) | (with_reducible refine Kd.C_drew ?_))); (case side2 => exact HC0.out); rintro e w' ⟨rfl, ⟨nd, rfl⟩⟩; (try first | exact ⟨rfl, _, World.drewN_drewN _ _ _⟩ | exact ⟨rfl, _, Eq.trans (World.drewN_drewN _ _ _) (congrArg (World.drewN _) (Nat.add_assoc _ _ _))⟩)) | (go_at_call 36; (with_reducible refine (spec_DrawWords.calls k _ _ l0 t176 t177 _ ?side1 ?side2 A4.out).mono ?_); (case side1 => repeat (first | exact HR0.out | (with_reducible refine Kd.C_alloc ?_ _) | (with_reducible refine Kd.C_drewN ?_ _) | (with_reducible refine Kd.C_drew ?_))); (case side2 => exact HC0.out); rintro e w6 ⟨v178, rfl, ho0, hb⟩; have n0_ := Aside0.mk (Kd.R_lower ho0 (below_size (by repeat (first | (with_reducible first | exact HB.out | apply below_alloc | apply pw_below_drewN | apply below_drew1) | exact HB.out)))); have n1_ := Aside0.mk (below_step (by repeat (first | (with_reducible first | exact HB.out | apply below_alloc | apply pw_below_drewN | apply below_drew1) | exact HB.out)) hb); clear HB; have HO179 := n0_; have HB := n1_; clear n0_ n1_; (try clear hb); (try clear hb2); (try clear hk); (try clear hi); (try clear ho0); obtain ⟨Ao7, co7, eo7⟩ := Kd.R_slice HO179.out; subst eo7) | (go_at_call 52; (with_reducible refine (spec_BreakLines.calls k _ _ t176 t177 t180 _ ?side1 ?side2 A5.out).mono ?_); (case side1 => repeat (first | exact (Kd.R_reads' HO179.out).2.2 | (with_reducible refine Kd.C_alloc ?_ _) | (with_reducible refine Kd.C_drewN ?_ _) | (with_reducible refine Kd.C_drew ?_))); (case side2 => exact (Kd.R_reads' HO179.out).2.1); rintro e w8 ⟨v181, rfl, ho0, hb⟩; have n0_ := Aside0.mk (Kd.R_below (by (with_reducible repeat (first | apply Kd.R_alloc | apply Kd.R_drewN | apply Kd.R_drew)); exact HO179.out) hb); have n1_ := Aside0.mk (Kd.S_lower (Kd.S_new' ho0 (Kd.R_lt (by (with_reducible repeat (first | apply Kd.R_alloc | apply Kd.R_drewN | apply Kd.R_drew)); exact HO179.out))) (below_size (by repeat (first | (with_reducible first | exact HB.out | apply below_alloc | apply pw_below_drewN | apply below_drew1) | exact HB.out)))); have n2_ := Aside0.mk (below_step (by repeat (first | (with_reducible first | exact HB.out | apply below_alloc | apply pw_below_drewN | apply below_drew1) | exact HB.out)) hb); clear HO179; clear HB; have HO179 := n0_; have HO182 := n1_; have HB := n2_; clear n0_ n1_ n2_; (try clear hb); (try clear hb2); (try clear hk); (try clear hi); (try clear ho0))))
    go_loopg [6] k (fun kq v6 w' => ∃ (x6_1 : Int), v6 = .int .i64 x6_1 ∧ Aside0 (laws_FnAligned.l0 kq t176 t177 t180 x6_1 = some r) ∧ Aside0 (kq ≤ k) ∧ Aside0 (Kd.R (Kd.int .i64) 3 w' w.heap.size (fun _ => True) (.slice Ao7 t176.length co7) t176) ∧ Aside0 (Kd.S (Kd.slice 3 (Kd.int .i64)) 27 w' w.heap.size (fun k_ => some k_ ≠ ((.slice Ao7 t176.length co7) : Value).ownBlock) v181 t180) ∧ Aside0 (Below w.heap.size w w'))
    case atStart => exact ⟨(0), (by first | rfl | (simp; done) | (simp [*]; done)), H', ⟨Nat.le_refl _⟩, ⟨by (with_reducible repeat (first | apply Kd.R_alloc | apply Kd.R_drewN | apply Kd.R_drew)); exact HO179.out⟩, ⟨by (with_reducible repeat (first | apply Kd.S_alloc | apply Kd.S_drewN | apply Kd.S_drew)); exact Kd.S_mono HO182.out (fun _ hk => hk.2)⟩, ⟨by repeat (first | (with_reducible first | exact HB.out | apply below_alloc | apply pw_below_drewN | apply below_drew1) | exact HB.out)⟩⟩
    case round =>
      clear H'
      try clear c1
      try clear p2
      try clear c3
      obtain ⟨x6_1, rfl, HA, HK1, HO_3, HO_5, HB⟩ := hrel
      cases gk with
      | zero => exact absurd HA.out (by simp [laws_FnAligned.l0])
      | succ k1 =>
        have H := HA.out
        clear HA
        simp only [laws_FnAligned.l0] at H
        by_cases c9 : x6_1 < (t180.length : Int)
        · rw [if_pos c9] at H
          have c9b0 : decide (x6_1 < (t180.length : Int)) = true := decide_eq_true c9
          clear c9
          have H' := Aside0.mk H
          clear H
          obtain ⟨Ao10, co10, eo10⟩ := Kd.S_slice HO_5.out
          subst eo10
          go_wp2
          repeat (go_quiet (fail); try go_wp2)
          go_loopg [7] k1 (fun kq v7 w' => ∃ (x7_2 : Int), v7 = .int .i64 x7_2 ∧ Aside0 (laws_FnAligned.l1 kq t176 t177 t180 x6_1 x7_2 = some r) ∧ Aside0 (kq ≤ k1) ∧ Aside0 (Kd.R (Kd.int .i64) 3 w' w.heap.size (fun _ => True) (.slice Ao7 t176.length co7) t176) ∧ Aside0 (Kd.S (Kd.slice 3 (Kd.int .i64)) 27 w' w.heap.size (fun k_ => some k_ ≠ ((.slice Ao7 t176.length co7) : Value).ownBlock) (.slice Ao10 t180.length co10) t180) ∧ Aside0 (Below w.heap.size w w'))
          case atStart => exact ⟨(0), (by first | rfl | (simp; done) | (simp [*]; done)), H', ⟨Nat.le_refl _⟩, ⟨by (with_reducible repeat (first | apply Kd.R_alloc | apply Kd.R_drewN | apply Kd.R_drew)); exact HO_3.out⟩, ⟨by (with_reducible repeat (first | apply Kd.S_alloc | apply Kd.S_drewN | apply Kd.S_drew)); exact HO_5.out⟩, ⟨by repeat (first | (with_reducible first | exact HB.out | apply below_alloc | apply pw_below_drewN | apply below_drew1) | exact HB.out)⟩⟩
          case round =>
            clear H'
            try clear c1
            try clear p2
            try clear c3
            try clear c9
            try clear c9b0
            try clear p2
            obtain ⟨x7_2, rfl, HA, HK2, HO_3, HO_5, HB⟩ := hrel
            cases gk with
            | zero => exact absurd HA.out (by simp [laws_FnAligned.l1])
            | succ k2 =>
              have H := HA.out
              clear HA
              simp only [laws_FnAligned.l1] at H
              by_cases c11 : x7_2 < 3
              · rw [if_pos c11] at H
                have c11b0 : decide (x7_2 < 3) = true := decide_eq_true c11
                clear c11
                by_cases c12 : 0 ≤ x6_1
                · rw [if_pos c12] at H
                  have c12b0 : decide (0 ≤ x6_1) = true := decide_eq_true c12
                  clear c12
                  by_cases c13 : x6_1 < (t180.length : Int)
                  · rw [if_pos c13] at H
                    have c13b0 : decide (x6_1 < (t180.length : Int)) = true := decide_eq_true c13
                    clear c13
                    replace H := Option.bind_eq_some_iff.mp H
                    obtain ⟨t184, A140, H⟩ := H
                    replace H : (if (t184.length : Int) = ((rd_L2 t180 x6_1).length : Int) then (laws_FnAligned.l2 k2 t176 t177 t180 x6_1 x7_2 t184 0) else (some false)) = some r := H
                    have A14 := Aside0.mk A140
                    clear A140
                    by_cases c15 : (t184.length : Int) = ((rd_L2 t180 x6_1).length : Int)
                    · rw [if_pos c15] at H
                      have c15b0 : ((t184.length : Int) == ((rd_L2 t180 x6_1).length : Int)) = true := beq_iff_eq.mpr c15
                      have c15b1 : ((t184.length : Int) != ((rd_L2 t180 x6_1).length : Int)) = false := bne_eq_false_iff_eq.mpr c15
                      have c15b2 : (t184.length == (rd_L2 t180 x6_1).length) = true := by first | simpa using c15 | (simp at c15 ⊢; omega)
                      clear c15
                      have H' := Aside0.mk H
                      clear H
                      have p183 : 0 ≤ (x6_1 : Int) := of_decide_eq_true (by first | (with_reducible assumption) | assumption)
                      have q183 : x6_1 < (t180.length : Int) := of_decide_eq_true (by first | (with_reducible assumption) | assumption)
                      obtain ⟨ad183, A183_0, c183_0, e183, hx183_0, hl183_0, hi183_0⟩ := at_L2 (Kd.S_reads' HO_5.out).2.2 x6_1 p183 q183
                      cases e183
                      obtain ⟨ce183, hce183, hMe183, hcc183⟩ := Kd.S_get HO_5.out [] x6_1 p183 (by first | exact q183 | exact of_decide_eq_true (by first | (with_reducible assumption) | assumption) | (have e_ := (Kd.S_reads' HO_5.out).1; omega))
                      obtain ⟨ve183_0, rfl, ge183_0⟩ := hMe183
                      have hv183_0 := hcc183 0 _ rfl
                      rw [Nat.add_zero, show ((Kd.slice 3 (Kd.int .i64))).sz = 1 from rfl, Nat.mul_one] at hv183_0
                      replace hv183_0 := Option.some.inj (hv183_0.symm.trans hx183_0)
                      rw [hv183_0] at ge183_0
                      have HL183_0 := Aside0.mk (show Kd.R (Kd.int .i64) 3 _ _ _ _ (rd_L2 t180 x6_1) from ge183_0)
                      clear hv183_0 ge183_0
                      clear hcc183 hce183
                      have HR183_0 := Aside0.mk hi183_0
                      have HC183_0 := Aside0.mk hl183_0
                      clear hi183_0 hl183_0
                      replace p183 := eq_true p183
                      replace q183 := eq_true q183
                      go_wp2_with (first | (go_at_call 41; (with_reducible refine (impl_StartsOf.calls k2 _ _ t176 _ _ (rd_L2 t180 x6_1) t177 x7_2 t184 _ ?side1 ?side2 ?side3 ?side4 A14.out).mono ?_); (case side1 => repeat (first | exact (Kd.R_reads' HO_3.out).2.2 | (with_reducible refine Kd.C_alloc ?_ _) | (with_reducible refine Kd.C_drewN ?_ _) | (with_reducible refine Kd.C_drew ?_))); (case side2 => exact (Kd.R_reads' HO_3.out).2.1); (case side3 => repeat (first | exact (by repeat (first | (with_reducible exact HR183_0.out) | (with_reducible refine Kd.C_alloc ?_ _) | (with_reducible refine Kd.C_drewN ?_ _) | (with_reducible refine Kd.C_drew ?_) | exact HR183_0.out)) | (with_reducible refine Kd.C_alloc ?_ _) | (with_reducible refine Kd.C_drewN ?_ _) | (with_reducible refine Kd.C_drew ?_))); (case side4 => exact HC183_0.out); rintro e w16 ⟨v185, rfl, ho0, hb⟩; have n0_ := Aside0.mk (Kd.R_elder' (by (with_reducible repeat (first | apply Kd.R_alloc | apply Kd.R_drewN | apply Kd.R_drew)); exact HO_3.out) (Kd.R_base ho0) hb); have n1_ := Aside0.mk (Kd.S_elder' (by (with_reducible repeat (first | apply Kd.S_alloc | apply Kd.S_drewN | apply Kd.S_drew)); exact HO_5.out) (Kd.R_base ho0) hb); have n2_ := Aside0.mk (Kd.R_elder' (by (with_reducible repeat (first | apply Kd.R_alloc | apply Kd.R_drewN | apply Kd.R_drew)); exact HL183_0.out) (Kd.R_base ho0) hb); have n3_ := Aside0.mk (Kd.R_lower (Kd.R_new' (Kd.R_new' ho0 (Kd.R_lt (by (with_reducible repeat (first | apply Kd.R_alloc | apply Kd.R_drewN | apply Kd.R_drew)); exact HO_3.out))) (Kd.R_lt (by (with_reducible repeat (first | apply Kd.R_alloc | apply Kd.R_drewN | apply Kd.R_drew)); exact HL183_0.out))) (below_size (by repeat (first | (with_reducible first | exact HB.out | apply below_alloc | apply pw_below_drewN | apply below_drew1) | exact HB.out)))); have n4_ := Aside0.mk (Kd.C_below (by repeat (first | (with_reducible exact HR183_0.out) | (with_reducible refine Kd.C_alloc ?_ _) | (with_reducible refine Kd.C_drewN ?_ _) | (with_reducible refine Kd.C_drew ?_) | exact HR183_0.out)) hb); have n5_ := Aside0.mk (below_step (by repeat (first | (with_reducible first | exact HB.out | apply below_alloc | apply pw_below_drewN | apply below_drew1) | exact HB.out)) hb); clear HO_3; clear HO_5; clear HL183_0; clear HR183_0; clear HB; have HO_3 := n0_; have HO_5 := n1_; have HL183_0 := n2_; have HO186 := n3_; have HR183_0 := n4_; have HB := n5_; clear n0_ n1_ n2_ n3_ n4_ n5_; (try clear hb); (try clear hb2); (try clear hk); (try clear hi); (try clear ho0); obtain ⟨Ao17, co17, eo17⟩ := Kd.R_slice HO186.out; subst eo17; have p187 : 0 ≤ (x6_1 : Int) := of_decide_eq_true (by first | (with_reducible assumption) | assumption); have q187 : x6_1 < (t180.length : Int) := of_decide_eq_true (by first | (with_reducible assumption) | assumption); obtain ⟨ad187, A187_0, c187_0, e187, hx187_0, hl187_0, hi187_0⟩ := at_L2 (Kd.S_reads' HO_5.out).2.2 x6_1 p187 q187; obtain rfl : ad183 = ad187 := (by injection e187); obtain ⟨ce187, hce187, hMe187, hcc187⟩ := Kd.S_get HO_5.out [] x6_1 p187 (by first | exact q187 | exact of_decide_eq_true (by first | (with_reducible assumption) | assumption) | (have e_ := (Kd.S_reads' HO_5.out).1; omega)); obtain ⟨ve187_0, rfl, ge187_0⟩ := hMe187; have hv187_0 := hcc187 0 _ rfl; rw [Nat.add_zero, show ((Kd.slice 3 (Kd.int .i64))).sz = 1 from rfl, Nat.mul_one] at hv187_0; replace hv187_0 := Option.some.inj (hv187_0.symm.trans hx187_0); rw [hv187_0] at ge187_0; have HL187_0 := Aside0.mk (show Kd.R (Kd.int .i64) 3 _ _ _ _ (rd_L2 t180 x6_1) from ge187_0); clear hv187_0 ge187_0; clear hcc187 hce187; have HR187_0 := Aside0.mk hi187_0; have HC187_0 := Aside0.mk hl187_0; clear hi187_0 hl187_0; replace p187 := eq_true p187; replace q187 := eq_true q187))
                      repeat (go_quiet (first | (go_at_call 41; (with_reducible refine (impl_StartsOf.calls k2 _ _ t176 _ _ (rd_L2 t180 x6_1) t177 x7_2 t184 _ ?side1 ?side2 ?side3 ?side4 A14.out).mono ?_); (case side1 => repeat (first | exact (Kd.R_reads' HO_3.out).2.2 | (with_reducible refine Kd.C_alloc ?_ _) | (with_reducible refine Kd.C_drewN ?_ _) | (with_reducible refine Kd.C_drew ?_))); (case side2 => exact (Kd.R_reads' HO_3.out).2.1); (case side3 => repeat (first | exact (by repeat (first | (with_reducible exact HR183_0.out) | (with_reducible refine Kd.C_alloc ?_ _) | (with_reducible refine Kd.C_drewN ?_ _) | (with_reducible refine Kd.C_drew ?_) | exact HR183_0.out)) | (with_reducible refine Kd.C_alloc ?_ _) | (with_reducible refine Kd.C_drewN ?_ _) | (with_reducible refine Kd.C_drew ?_))); (case side4 => exact HC183_0.out); rintro e w16 ⟨v185, rfl, ho0, hb⟩; have n0_ := Aside0.mk (Kd.R_elder' (by (with_reducible repeat (first | apply Kd.R_alloc | apply Kd.R_drewN | apply Kd.R_drew)); exact HO_3.out) (Kd.R_base ho0) hb); have n1_ := Aside0.mk (Kd.S_elder' (by (with_reducible repeat (first | apply Kd.S_alloc | apply Kd.S_drewN | apply Kd.S_drew)); exact HO_5.out) (Kd.R_base ho0) hb); have n2_ := Aside0.mk (Kd.R_elder' (by (with_reducible repeat (first | apply Kd.R_alloc | apply Kd.R_drewN | apply Kd.R_drew)); exact HL183_0.out) (Kd.R_base ho0) hb); have n3_ := Aside0.mk (Kd.R_lower (Kd.R_new' (Kd.R_new' ho0 (Kd.R_lt (by (with_reducible repeat (first | apply Kd.R_alloc | apply Kd.R_drewN | apply Kd.R_drew)); exact HO_3.out))) (Kd.R_lt (by (with_reducible repeat (first | apply Kd.R_alloc | apply Kd.R_drewN | apply Kd.R_drew)); exact HL183_0.out))) (below_size (by repeat (first | (with_reducible first | exact HB.out | apply below_alloc | apply pw_below_drewN | apply below_drew1) | exact HB.out)))); have n4_ := Aside0.mk (Kd.C_below (by repeat (first | (with_reducible exact HR183_0.out) | (with_reducible refine Kd.C_alloc ?_ _) | (with_reducible refine Kd.C_drewN ?_ _) | (with_reducible refine Kd.C_drew ?_) | exact HR183_0.out)) hb); have n5_ := Aside0.mk (below_step (by repeat (first | (with_reducible first | exact HB.out | apply below_alloc | apply pw_below_drewN | apply below_drew1) | exact HB.out)) hb); clear HO_3; clear HO_5; clear HL183_0; clear HR183_0; clear HB; have HO_3 := n0_; have HO_5 := n1_; have HL183_0 := n2_; have HO186 := n3_; have HR183_0 := n4_; have HB := n5_; clear n0_ n1_ n2_ n3_ n4_ n5_; (try clear hb); (try clear hb2); (try clear hk); (try clear hi); (try clear ho0); obtain ⟨Ao17, co17, eo17⟩ := Kd.R_slice HO186.out; subst eo17; have p187 : 0 ≤ (x6_1 : Int) := of_decide_eq_true (by first | (with_reducible assumption) | assumption); have q187 : x6_1 < (t180.length : Int) := of_decide_eq_true (by first | (with_reducible assumption) | assumption); obtain ⟨ad187, A187_0, c187_0, e187, hx187_0, hl187_0, hi187_0⟩ := at_L2 (Kd.S_reads' HO_5.out).2.2 x6_1 p187 q187; obtain rfl : ad183 = ad187 := (by injection e187); obtain ⟨ce187, hce187, hMe187, hcc187⟩ := Kd.S_get HO_5.out [] x6_1 p187 (by first | exact q187 | exact of_decide_eq_true (by first | (with_reducible assumption) | assumption) | (have e_ := (Kd.S_reads' HO_5.out).1; omega)); obtain ⟨ve187_0, rfl, ge187_0⟩ := hMe187; have hv187_0 := hcc187 0 _ rfl; rw [Nat.add_zero, show ((Kd.slice 3 (Kd.int .i64))).sz = 1 from rfl, Nat.mul_one] at hv187_0; replace hv187_0 := Option.some.inj (hv187_0.symm.trans hx187_0); rw [hv187_0] at ge187_0; have HL187_0 := Aside0.mk (show Kd.R (Kd.int .i64) 3 _ _ _ _ (rd_L2 t180 x6_1) from ge187_0); clear hv187_0 ge187_0; clear hcc187 hce187; have HR187_0 := Aside0.mk hi187_0; have HC187_0 := Aside0.mk hl187_0; clear hi187_0 hl187_0; replace p187 := eq_true p187; replace q187 := eq_true q187)); try go_wp2_with (first | (go_at_call 41; (with_reducible refine (impl_StartsOf.calls k2 _ _ t176 _ _ (rd_L2 t180 x6_1) t177 x7_2 t184 _ ?side1 ?side2 ?side3 ?side4 A14.out).mono ?_); (case side1 => repeat (first | exact (Kd.R_reads' HO_3.out).2.2 | (with_reducible refine Kd.C_alloc ?_ _) | (with_reducible refine Kd.C_drewN ?_ _) | (with_reducible refine Kd.C_drew ?_))); (case side2 => exact (Kd.R_reads' HO_3.out).2.1); (case side3 => repeat (first | exact (by repeat (first | (with_reducible exact HR183_0.out) | (with_reducible refine Kd.C_alloc ?_ _) | (with_reducible refine Kd.C_drewN ?_ _) | (with_reducible refine Kd.C_drew ?_) | exact HR183_0.out)) | (with_reducible refine Kd.C_alloc ?_ _) | (with_reducible refine Kd.C_drewN ?_ _) | (with_reducible refine Kd.C_drew ?_))); (case side4 => exact HC183_0.out); rintro e w16 ⟨v185, rfl, ho0, hb⟩; have n0_ := Aside0.mk (Kd.R_elder' (by (with_reducible repeat (first | apply Kd.R_alloc | apply Kd.R_drewN | apply Kd.R_drew)); exact HO_3.out) (Kd.R_base ho0) hb); have n1_ := Aside0.mk (Kd.S_elder' (by (with_reducible repeat (first | apply Kd.S_alloc | apply Kd.S_drewN | apply Kd.S_drew)); exact HO_5.out) (Kd.R_base ho0) hb); have n2_ := Aside0.mk (Kd.R_elder' (by (with_reducible repeat (first | apply Kd.R_alloc | apply Kd.R_drewN | apply Kd.R_drew)); exact HL183_0.out) (Kd.R_base ho0) hb); have n3_ := Aside0.mk (Kd.R_lower (Kd.R_new' (Kd.R_new' ho0 (Kd.R_lt (by (with_reducible repeat (first | apply Kd.R_alloc | apply Kd.R_drewN | apply Kd.R_drew)); exact HO_3.out))) (Kd.R_lt (by (with_reducible repeat (first | apply Kd.R_alloc | apply Kd.R_drewN | apply Kd.R_drew)); exact HL183_0.out))) (below_size (by repeat (first | (with_reducible first | exact HB.out | apply below_alloc | apply pw_below_drewN | apply below_drew1) | exact HB.out)))); have n4_ := Aside0.mk (Kd.C_below (by repeat (first | (with_reducible exact HR183_0.out) | (with_reducible refine Kd.C_alloc ?_ _) | (with_reducible refine Kd.C_drewN ?_ _) | (with_reducible refine Kd.C_drew ?_) | exact HR183_0.out)) hb); have n5_ := Aside0.mk (below_step (by repeat (first | (with_reducible first | exact HB.out | apply below_alloc | apply pw_below_drewN | apply below_drew1) | exact HB.out)) hb); clear HO_3; clear HO_5; clear HL183_0; clear HR183_0; clear HB; have HO_3 := n0_; have HO_5 := n1_; have HL183_0 := n2_; have HO186 := n3_; have HR183_0 := n4_; have HB := n5_; clear n0_ n1_ n2_ n3_ n4_ n5_; (try clear hb); (try clear hb2); (try clear hk); (try clear hi); (try clear ho0); obtain ⟨Ao17, co17, eo17⟩ := Kd.R_slice HO186.out; subst eo17; have p187 : 0 ≤ (x6_1 : Int) := of_decide_eq_true (by first | (with_reducible assumption) | assumption); have q187 : x6_1 < (t180.length : Int) := of_decide_eq_true (by first | (with_reducible assumption) | assumption); obtain ⟨ad187, A187_0, c187_0, e187, hx187_0, hl187_0, hi187_0⟩ := at_L2 (Kd.S_reads' HO_5.out).2.2 x6_1 p187 q187; obtain rfl : ad183 = ad187 := (by injection e187); obtain ⟨ce187, hce187, hMe187, hcc187⟩ := Kd.S_get HO_5.out [] x6_1 p187 (by first | exact q187 | exact of_decide_eq_true (by first | (with_reducible assumption) | assumption) | (have e_ := (Kd.S_reads' HO_5.out).1; omega)); obtain ⟨ve187_0, rfl, ge187_0⟩ := hMe187; have hv187_0 := hcc187 0 _ rfl; rw [Nat.add_zero, show ((Kd.slice 3 (Kd.int .i64))).sz = 1 from rfl, Nat.mul_one] at hv187_0; replace hv187_0 := Option.some.inj (hv187_0.symm.trans hx187_0); rw [hv187_0] at ge187_0; have HL187_0 := Aside0.mk (show Kd.R (Kd.int .i64) 3 _ _ _ _ (rd_L2 t180 x6_1) from ge187_0); clear hv187_0 ge187_0; clear hcc187 hce187; have HR187_0 := Aside0.mk hi187_0; have HC187_0 := Aside0.mk hl187_0; clear hi187_0 hl187_0; replace p187 := eq_true p187; replace q187 := eq_true q187)))
                      go_loopg [9] k2 (fun kq v9 w' => ∃ (x9_3 : Int), v9 = .int .i64 x9_3 ∧ Aside0 (laws_FnAligned.l2 kq t176 t177 t180 x6_1 x7_2 t184 x9_3 = some r) ∧ Aside0 (kq ≤ k2) ∧ Aside0 (Kd.R (Kd.int .i64) 3 w' w.heap.size (fun k_ => some k_ ≠ ((.slice Ao17 t184.length co17) : Value).ownBlock) (.slice Ao7 t176.length co7) t176) ∧ Aside0 (Kd.S (Kd.slice 3 (Kd.int .i64)) 27 w' w.heap.size (fun k_ => some k_ ≠ ((.slice Ao7 t176.length co7) : Value).ownBlock ∧ some k_ ≠ ((.slice Ao17 t184.length co17) : Value).ownBlock) (.slice (some ad183) t180.length co10) t180) ∧ Aside0 (Kd.R (Kd.int .i64) 3 w' w.heap.size (fun k_ => some k_ ≠ ((.slice Ao7 t176.length co7) : Value).ownBlock) (.slice Ao17 t184.length co17) t184) ∧ Aside0 (Kd.C (Kd.int .i64) w' A183_0 (rd_L2 t180 x6_1).length (rd_L2 t180 x6_1)) ∧ Aside0 (Kd.C (Kd.int .i64) w' A187_0 (rd_L2 t180 x6_1).length (rd_L2 t180 x6_1)) ∧ Aside0 (Below w.heap.size w w'))
                      case atStart => exact ⟨(0), (by first | rfl | (simp; done) | (simp [*]; done)), H', ⟨Nat.le_refl _⟩, ⟨by (with_reducible repeat (first | apply Kd.R_alloc | apply Kd.R_drewN | apply Kd.R_drew)); exact Kd.R_mono HO_3.out (fun _ hk => hk.2)⟩, ⟨by (with_reducible repeat (first | apply Kd.S_alloc | apply Kd.S_drewN | apply Kd.S_drew)); exact HO_5.out⟩, ⟨by (with_reducible repeat (first | apply Kd.R_alloc | apply Kd.R_drewN | apply Kd.R_drew)); exact Kd.R_mono HO186.out (fun _ hk => hk.1.2)⟩, ⟨by repeat (first | (with_reducible exact HR183_0.out) | (with_reducible refine Kd.C_alloc ?_ _) | (with_reducible refine Kd.C_drewN ?_ _) | (with_reducible refine Kd.C_drew ?_) | exact HR183_0.out)⟩, ⟨by repeat (first | (with_reducible exact HR187_0.out) | (with_reducible refine Kd.C_alloc ?_ _) | (with_reducible refine Kd.C_drewN ?_ _) | (with_reducible refine Kd.C_drew ?_) | exact HR187_0.out)⟩, ⟨by repeat (first | (with_reducible first | exact HB.out | apply below_alloc | apply pw_below_drewN | apply below_drew1) | exact HB.out)⟩⟩
                      case round =>
                        clear H'
                        try clear c1
                        try clear p1
                        try clear q1
                        try clear hx1
                        try clear p2
                        try clear c3
                        try clear c9
                        try clear c9b0
                        try clear c11
                        try clear c11b0
                        try clear c12
                        try clear c12b0
                        try clear c13
                        try clear c13b0
                        try clear c15
                        try clear c15b0
                        try clear c15b1
                        try clear c15b2
                        try clear hx183_0
                        try clear hx187_0
                        try clear p183
                        try clear p187
                        try clear p2
                        try clear q183
                        try clear q187
                        obtain ⟨x9_3, rfl, HA, HK3, HO_3, HO_5, HO_8, HR183_0, HR187_0, HB⟩ := hrel
                        cases gk with
                        | zero => exact absurd HA.out (by simp [laws_FnAligned.l2])
                        | succ k3 =>
                          have H := HA.out
                          clear HA
                          simp only [laws_FnAligned.l2] at H
                          by_cases c18 : x9_3 < (t184.length : Int)
                          · rw [if_pos c18] at H
                            have c18b0 : decide (x9_3 < (t184.length : Int)) = true := decide_eq_true c18
                            clear c18
                            by_cases c19 : 0 ≤ x9_3
                            · rw [if_pos c19] at H
                              have c19b0 : decide (0 ≤ x9_3) = true := decide_eq_true c19
                              clear c19
                              by_cases c20 : (rd t184 x9_3) < 0
                              · rw [if_pos c20] at H
                                have c20b0 : decide ((rd t184 x9_3) < 0) = true := decide_eq_true c20
                                clear c20
                                obtain rfl := Option.some.inj H
                                have p188 : 0 ≤ (x9_3 : Int) := of_decide_eq_true (by first | (with_reducible assumption) | assumption)
                                have q188 : x9_3 < (t184.length : Int) := of_decide_eq_true (by first | (with_reducible assumption) | assumption)
                                obtain ⟨ad188, e188, hx188_0⟩ := Kd.at_int (Kd.R_reads' HO_8.out).2.2 x9_3 p188 q188
                                cases e188
                                replace p188 := eq_true p188
                                replace q188 := eq_true q188
                                go_wp2
                                repeat (go_quiet (fail); try go_wp2)
                                go_ret
                                exact ⟨by first | rfl | (simp [errW_none, errW_some] <;> rfl) | (simp [*, errW_none, errW_some] <;> rfl), by repeat (first | (with_reducible first | exact HB.out | apply below_alloc | apply pw_below_drewN | apply below_drew1) | exact HB.out)⟩
                              · rw [if_neg c20] at H
                                have c20b0 : decide ((rd t184 x9_3) < 0) = false := decide_eq_false c20
                                clear c20
                                by_cases c21 : 0 ≤ x6_1
                                · rw [if_pos c21] at H
                                  have c21b0 : decide (0 ≤ x6_1) = true := decide_eq_true c21
                                  clear c21
                                  by_cases c22 : x6_1 < (t180.length : Int)
                                  · rw [if_pos c22] at H
                                    have c22b0 : decide (x6_1 < (t180.length : Int)) = true := decide_eq_true c22
                                    clear c22
                                    by_cases c23 : x9_3 < ((rd_L2 t180 x6_1).length : Int)
                                    · rw [if_pos c23] at H
                                      have c23b0 : decide (x9_3 < ((rd_L2 t180 x6_1).length : Int)) = true := decide_eq_true c23
                                      clear c23
                                      by_cases c24 : 0 ≤ (rd (rd_L2 t180 x6_1) x9_3)
                                      · rw [if_pos c24] at H
                                        have c24b0 : decide (0 ≤ (rd (rd_L2 t180 x6_1) x9_3)) = true := decide_eq_true c24
                                        clear c24
                                        by_cases c25 : (rd (rd_L2 t180 x6_1) x9_3) < (t176.length : Int)
                                        · rw [if_pos c25] at H
                                          have c25b0 : decide ((rd (rd_L2 t180 x6_1) x9_3) < (t176.length : Int)) = true := decide_eq_true c25
                                          clear c25
                                          by_cases c26 : (wrap64 ((rd t184 x9_3) + (rd t176 (rd (rd_L2 t180 x6_1) x9_3)))) > t177
                                          · rw [if_pos c26] at H
                                            have c26b0 : decide (t177 < (wrap64 ((rd t184 x9_3) + (rd t176 (rd (rd_L2 t180 x6_1) x9_3))))) = true := decide_eq_true c26
                                            clear c26
                                            obtain rfl := Option.some.inj H
                                            have p188 : 0 ≤ (x9_3 : Int) := of_decide_eq_true (by first | (with_reducible assumption) | assumption)
                                            have q188 : x9_3 < (t184.length : Int) := of_decide_eq_true (by first | (with_reducible assumption) | assumption)
                                            obtain ⟨ad188, e188, hx188_0⟩ := Kd.at_int (Kd.R_reads' HO_8.out).2.2 x9_3 p188 q188
                                            cases e188
                                            replace p188 := eq_true p188
                                            replace q188 := eq_true q188
                                            have p189 : 0 ≤ (x9_3 : Int) := of_decide_eq_true (by first | (with_reducible assumption) | assumption)
                                            have q189 : x9_3 < (t184.length : Int) := of_decide_eq_true (by first | (with_reducible assumption) | assumption)
                                            obtain ⟨ad189, e189, hx189_0⟩ := Kd.at_int (Kd.R_reads' HO_8.out).2.2 x9_3 p189 q189
                                            obtain rfl : ad188 = ad189 := (by injection e189)
                                            replace p189 := eq_true p189
                                            replace q189 := eq_true q189
                                            have p190 : 0 ≤ (x6_1 : Int) := of_decide_eq_true (by first | (with_reducible assumption) | assumption)
                                            have q190 : x6_1 < (t180.length : Int) := of_decide_eq_true (by first | (with_reducible assumption) | assumption)
                                            obtain ⟨ad190, A190_0, c190_0, e190, hx190_0, hl190_0, hi190_0⟩ := at_L2 (Kd.S_reads' HO_5.out).2.2 x6_1 p190 q190
                                            obtain rfl : ad183 = ad190 := (by injection e190)
                                            obtain ⟨ce190, hce190, hMe190, hcc190⟩ := Kd.S_get HO_5.out [] x6_1 p190 (by first | exact q190 | exact of_decide_eq_true (by first | (with_reducible assumption) | assumption) | (have e_ := (Kd.S_reads' HO_5.out).1; omega))
                                            obtain ⟨ve190_0, rfl, ge190_0⟩ := hMe190
                                            have hv190_0 := hcc190 0 _ rfl
                                            rw [Nat.add_zero, show ((Kd.slice 3 (Kd.int .i64))).sz = 1 from rfl, Nat.mul_one] at hv190_0
                                            replace hv190_0 := Option.some.inj (hv190_0.symm.trans hx190_0)
                                            rw [hv190_0] at ge190_0
                                            have HL190_0 := Aside0.mk (show Kd.R (Kd.int .i64) 3 _ _ _ _ (rd_L2 t180 x6_1) from ge190_0)
                                            clear hv190_0 ge190_0
                                            clear hcc190 hce190
                                            have HR190_0 := Aside0.mk hi190_0
                                            have HC190_0 := Aside0.mk hl190_0
                                            clear hi190_0 hl190_0
                                            replace p190 := eq_true p190
                                            replace q190 := eq_true q190
                                            have p191 : 0 ≤ (x9_3 : Int) := of_decide_eq_true (by first | (with_reducible assumption) | assumption)
                                            have q191 : x9_3 < ((rd_L2 t180 x6_1).length : Int) := of_decide_eq_true (by first | (with_reducible assumption) | assumption)
                                            obtain ⟨ad191, e191, hx191_0⟩ := Kd.at_int (by repeat (first | (with_reducible exact HR190_0.out) | (with_reducible refine Kd.C_alloc ?_ _) | (with_reducible refine Kd.C_drewN ?_ _) | (with_reducible refine Kd.C_drew ?_) | exact HR190_0.out)) x9_3 p191 q191
                                            cases e191
                                            replace p191 := eq_true p191
                                            replace q191 := eq_true q191
                                            have p192 : 0 ≤ ((rd (rd_L2 t180 x6_1) x9_3) : Int) := of_decide_eq_true (by first | (with_reducible assumption) | assumption)
                                            have q192 : (rd (rd_L2 t180 x6_1) x9_3) < (t176.length : Int) := of_decide_eq_true (by first | (with_reducible assumption) | assumption)
                                            obtain ⟨ad192, e192, hx192_0⟩ := Kd.at_int (Kd.R_reads' HO_3.out).2.2 (rd (rd_L2 t180 x6_1) x9_3) p192 q192
                                            cases e192
                                            replace p192 := eq_true p192
                                            replace q192 := eq_true q192
                                            go_wp2
                                            repeat (go_quiet (fail); try go_wp2)
                                            go_ret
                                            exact ⟨by first | rfl | (simp [errW_none, errW_some] <;> rfl) | (simp [*, errW_none, errW_some] <;> rfl), by repeat (first | (with_reducible first | exact HB.out | apply below_alloc | apply pw_below_drewN | apply below_drew1) | exact HB.out)⟩
                                          · rw [if_neg c26] at H
                                            have c26b0 : decide (t177 < (wrap64 ((rd t184 x9_3) + (rd t176 (rd (rd_L2 t180 x6_1) x9_3))))) = false := decide_eq_false c26
                                            clear c26
                                            by_cases c27 : x9_3 > 0
                                            · rw [if_pos c27] at H
                                              have c27b0 : decide (0 < x9_3) = true := decide_eq_true c27
                                              clear c27
                                              obtain ⟨ji28, hji28⟩ : ∃ j_ : Int, (wrap64 (x9_3 - 1)) = j_ := ⟨_, rfl⟩
                                              replace H : (if 0 ≤ (ji28) then (if (ji28) < (t184.length : Int) then (if (ji28) < ((rd_L2 t180 x6_1).length : Int) then (if 0 ≤ (rd (rd_L2 t180 x6_1) (ji28)) then (if (rd (rd_L2 t180 x6_1) (ji28)) < (t176.length : Int) then (if (rd t184 x9_3) = (wrap64 ((wrap64 ((rd t184 (ji28)) + (rd t176 (rd (rd_L2 t180 x6_1) (ji28))))) + 1)) then (laws_FnAligned.l2 k3 t176 t177 t180 x6_1 x7_2 t184 (wrap64 (x9_3 + 1))) else (some false)) else (none)) else (none)) else (none)) else (none)) else (none)) = some r := by first | (rw [hji28] at H; exact H) | (simp only [hji28] at H ⊢; exact H)
                                              have hji28w : (IntKind.i64.wrap (x9_3 - 1)) = ji28 := (i64_w _).trans hji28
                                              by_cases c29 : 0 ≤ (ji28)
                                              · rw [if_pos c29] at H
                                                have c29b0 : decide (0 ≤ (ji28)) = true := decide_eq_true c29
                                                clear c29
                                                by_cases c30 : (ji28) < (t184.length : Int)
                                                · rw [if_pos c30] at H
                                                  have c30b0 : decide ((ji28) < (t184.length : Int)) = true := decide_eq_true c30
                                                  clear c30
                                                  by_cases c31 : (ji28) < ((rd_L2 t180 x6_1).length : Int)
                                                  · rw [if_pos c31] at H
                                                    have c31b0 : decide ((ji28) < ((rd_L2 t180 x6_1).length : Int)) = true := decide_eq_true c31
                                                    clear c31
                                                    by_cases c32 : 0 ≤ (rd (rd_L2 t180 x6_1) (ji28))
                                                    · rw [if_pos c32] at H
                                                      have c32b0 : decide (0 ≤ (rd (rd_L2 t180 x6_1) (ji28))) = true := decide_eq_true c32
                                                      clear c32
                                                      by_cases c33 : (rd (rd_L2 t180 x6_1) (ji28)) < (t176.length : Int)
                                                      · rw [if_pos c33] at H
                                                        have c33b0 : decide ((rd (rd_L2 t180 x6_1) (ji28)) < (t176.length : Int)) = true := decide_eq_true c33
                                                        clear c33
                                                        by_cases c34 : (rd t184 x9_3) = (wrap64 ((wrap64 ((rd t184 (ji28)) + (rd t176 (rd (rd_L2 t180 x6_1) (ji28))))) + 1))
                                                        · rw [if_pos c34] at H
                                                          have c34b0 : ((rd t184 x9_3) == (wrap64 ((wrap64 ((rd t184 (ji28)) + (rd t176 (rd (rd_L2 t180 x6_1) (ji28))))) + 1))) = true := beq_iff_eq.mpr c34
                                                          have c34b1 : ((rd t184 x9_3) != (wrap64 ((wrap64 ((rd t184 (ji28)) + (rd t176 (rd (rd_L2 t180 x6_1) (ji28))))) + 1))) = false := bne_eq_false_iff_eq.mpr c34
                                                          clear c34
                                                          have H' := Aside0.mk H
                                                          clear H
                                                          have p188 : 0 ≤ (x9_3 : Int) := of_decide_eq_true (by first | (with_reducible assumption) | assumption)
                                                          have q188 : x9_3 < (t184.length : Int) := of_decide_eq_true (by first | (with_reducible assumption) | assumption)
                                                          obtain ⟨ad188, e188, hx188_0⟩ := Kd.at_int (Kd.R_reads' HO_8.out).2.2 x9_3 p188 q188
                                                          cases e188
                                                          replace p188 := eq_true p188
                                                          replace q188 := eq_true q188
                                                          have p189 : 0 ≤ (x9_3 : Int) := of_decide_eq_true (by first | (with_reducible assumption) | assumption)
                                                          have q189 : x9_3 < (t184.length : Int) := of_decide_eq_true (by first | (with_reducible assumption) | assumption)
                                                          obtain ⟨ad189, e189, hx189_0⟩ := Kd.at_int (Kd.R_reads' HO_8.out).2.2 x9_3 p189 q189
                                                          obtain rfl : ad188 = ad189 := (by injection e189)
                                                          replace p189 := eq_true p189
                                                          replace q189 := eq_true q189
                                                          have p190 : 0 ≤ (x6_1 : Int) := of_decide_eq_true (by first | (with_reducible assumption) | assumption)
                                                          have q190 : x6_1 < (t180.length : Int) := of_decide_eq_true (by first | (with_reducible assumption) | assumption)
                                                          obtain ⟨ad190, A190_0, c190_0, e190, hx190_0, hl190_0, hi190_0⟩ := at_L2 (Kd.S_reads' HO_5.out).2.2 x6_1 p190 q190
                                                          obtain rfl : ad183 = ad190 := (by injection e190)
                                                          obtain ⟨ce190, hce190, hMe190, hcc190⟩ := Kd.S_get HO_5.out [] x6_1 p190 (by first | exact q190 | exact of_decide_eq_true (by first | (with_reducible assumption) | assumption) | (have e_ := (Kd.S_reads' HO_5.out).1; omega))
                                                          obtain ⟨ve190_0, rfl, ge190_0⟩ := hMe190
                                                          have hv190_0 := hcc190 0 _ rfl
                                                          rw [Nat.add_zero, show ((Kd.slice 3 (Kd.int .i64))).sz = 1 from rfl, Nat.mul_one] at hv190_0
                                                          replace hv190_0 := Option.some.inj (hv190_0.symm.trans hx190_0)
                                                          rw [hv190_0] at ge190_0
                                                          have HL190_0 := Aside0.mk (show Kd.R (Kd.int .i64) 3 _ _ _ _ (rd_L2 t180 x6_1) from ge190_0)
                                                          clear hv190_0 ge190_0
                                                          clear hcc190 hce190
                                                          have HR190_0 := Aside0.mk hi190_0
                                                          have HC190_0 := Aside0.mk hl190_0
                                                          clear hi190_0 hl190_0
                                                          replace p190 := eq_true p190
                                                          replace q190 := eq_true q190
                                                          have p191 : 0 ≤ (x9_3 : Int) := of_decide_eq_true (by first | (with_reducible assumption) | assumption)
                                                          have q191 : x9_3 < ((rd_L2 t180 x6_1).length : Int) := of_decide_eq_true (by first | (with_reducible assumption) | assumption)
                                                          obtain ⟨ad191, e191, hx191_0⟩ := Kd.at_int (by repeat (first | (with_reducible exact HR190_0.out) | (with_reducible refine Kd.C_alloc ?_ _) | (with_reducible refine Kd.C_drewN ?_ _) | (with_reducible refine Kd.C_drew ?_) | exact HR190_0.out)) x9_3 p191 q191
                                                          cases e191
                                                          replace p191 := eq_true p191
                                                          replace q191 := eq_true q191
                                                          have p192 : 0 ≤ ((rd (rd_L2 t180 x6_1) x9_3) : Int) := of_decide_eq_true (by first | (with_reducible assumption) | assumption)
                                                          have q192 : (rd (rd_L2 t180 x6_1) x9_3) < (t176.length : Int) := of_decide_eq_true (by first | (with_reducible assumption) | assumption)
                                                          obtain ⟨ad192, e192, hx192_0⟩ := Kd.at_int (Kd.R_reads' HO_3.out).2.2 (rd (rd_L2 t180 x6_1) x9_3) p192 q192
                                                          cases e192
                                                          replace p192 := eq_true p192
                                                          replace q192 := eq_true q192
                                                          have p193 : 0 ≤ (x9_3 : Int) := of_decide_eq_true (by first | (with_reducible assumption) | assumption)
                                                          have q193 : x9_3 < (t184.length : Int) := of_decide_eq_true (by first | (with_reducible assumption) | assumption)
                                                          obtain ⟨ad193, e193, hx193_0⟩ := Kd.at_int (Kd.R_reads' HO_8.out).2.2 x9_3 p193 q193
                                                          obtain rfl : ad188 = ad193 := (by injection e193)
                                                          replace p193 := eq_true p193
                                                          replace q193 := eq_true q193
                                                          have p194 : 0 ≤ ((ji28) : Int) := of_decide_eq_true (by first | (with_reducible assumption) | assumption)
                                                          have q194 : (ji28) < (t184.length : Int) := of_decide_eq_true (by first | (with_reducible assumption) | assumption)
                                                          obtain ⟨ad194, e194, hx194_0⟩ := Kd.at_int (Kd.R_reads' HO_8.out).2.2 (ji28) p194 q194
                                                          obtain rfl : ad188 = ad194 := (by injection e194)
                                                          replace p194 := eq_true p194
                                                          replace q194 := eq_true q194
                                                          have p195 : 0 ≤ (x6_1 : Int) := of_decide_eq_true (by first | (with_reducible assumption) | assumption)
                                                          have q195 : x6_1 < (t180.length : Int) := of_decide_eq_true (by first | (with_reducible assumption) | assumption)
                                                          obtain ⟨ad195, A195_0, c195_0, e195, hx195_0, hl195_0, hi195_0⟩ := at_L2 (Kd.S_reads' HO_5.out).2.2 x6_1 p195 q195
                                                          obtain rfl : ad183 = ad195 := (by injection e195)
                                                          obtain ⟨ce195, hce195, hMe195, hcc195⟩ := Kd.S_get HO_5.out [] x6_1 p195 (by first | exact q195 | exact of_decide_eq_true (by first | (with_reducible assumption) | assumption) | (have e_ := (Kd.S_reads' HO_5.out).1; omega))
                                                          obtain ⟨ve195_0, rfl, ge195_0⟩ := hMe195
                                                          have hv195_0 := hcc195 0 _ rfl
                                                          rw [Nat.add_zero, show ((Kd.slice 3 (Kd.int .i64))).sz = 1 from rfl, Nat.mul_one] at hv195_0
                                                          replace hv195_0 := Option.some.inj (hv195_0.symm.trans hx195_0)
                                                          rw [hv195_0] at ge195_0
                                                          have HL195_0 := Aside0.mk (show Kd.R (Kd.int .i64) 3 _ _ _ _ (rd_L2 t180 x6_1) from ge195_0)
                                                          clear hv195_0 ge195_0
                                                          clear hcc195 hce195
                                                          have HR195_0 := Aside0.mk hi195_0
                                                          have HC195_0 := Aside0.mk hl195_0
                                                          clear hi195_0 hl195_0
                                                          replace p195 := eq_true p195
                                                          replace q195 := eq_true q195
                                                          have ea_ := Option.some.inj (hx190_0.symm.trans hx195_0)
                                                          injection ea_ with ea_ en_ ec_
                                                          subst ea_
                                                          subst ec_
                                                          clear en_
                                                          have p196 : 0 ≤ ((ji28) : Int) := of_decide_eq_true (by first | (with_reducible assumption) | assumption)
                                                          have q196 : (ji28) < ((rd_L2 t180 x6_1).length : Int) := of_decide_eq_true (by first | (with_reducible assumption) | assumption)
                                                          obtain ⟨ad196, e196, hx196_0⟩ := Kd.at_int (by repeat (first | (with_reducible exact HR195_0.out) | (with_reducible refine Kd.C_alloc ?_ _) | (with_reducible refine Kd.C_drewN ?_ _) | (with_reducible refine Kd.C_drew ?_) | exact HR195_0.out)) (ji28) p196 q196
                                                          cases e196
                                                          replace p196 := eq_true p196
                                                          replace q196 := eq_true q196
                                                          have p197 : 0 ≤ ((rd (rd_L2 t180 x6_1) (ji28)) : Int) := of_decide_eq_true (by first | (with_reducible assumption) | assumption)
                                                          have q197 : (rd (rd_L2 t180 x6_1) (ji28)) < (t176.length : Int) := of_decide_eq_true (by first | (with_reducible assumption) | assumption)
                                                          obtain ⟨ad197, e197, hx197_0⟩ := Kd.at_int (Kd.R_reads' HO_3.out).2.2 (rd (rd_L2 t180 x6_1) (ji28)) p197 q197
                                                          obtain rfl : ad192 = ad197 := (by injection e197)
                                                          replace p197 := eq_true p197
                                                          replace q197 := eq_true q197
                                                          go_wp2
                                                          repeat (go_quiet (fail); try go_wp2)
                                                          go_roundg k3
                                                          case measure => have := HK1.out; have := HK2.out; have := HK3.out; omega
                                                          case rel => exact ⟨(wrap64 (x9_3 + 1)), (by first | rfl | (simp; done) | (simp [*]; done)), H', ⟨by have := HK1.out; have := HK2.out; have := HK3.out; omega⟩, ⟨by (with_reducible repeat (first | apply Kd.R_alloc | apply Kd.R_drewN | apply Kd.R_drew)); exact HO_3.out⟩, ⟨by (with_reducible repeat (first | apply Kd.S_alloc | apply Kd.S_drewN | apply Kd.S_drew)); exact HO_5.out⟩, ⟨by (with_reducible repeat (first | apply Kd.R_alloc | apply Kd.R_drewN | apply Kd.R_drew)); exact HO_8.out⟩, ⟨by repeat (first | (with_reducible exact HR183_0.out) | (with_reducible refine Kd.C_alloc ?_ _) | (with_reducible refine Kd.C_drewN ?_ _) | (with_reducible refine Kd.C_drew ?_) | exact HR183_0.out)⟩, ⟨by repeat (first | (with_reducible exact HR187_0.out) | (with_reducible refine Kd.C_alloc ?_ _) | (with_reducible refine Kd.C_drewN ?_ _) | (with_reducible refine Kd.C_drew ?_) | exact HR187_0.out)⟩, ⟨by repeat (first | (with_reducible first | exact HB.out | apply below_alloc | apply pw_below_drewN | apply below_drew1) | exact HB.out)⟩⟩
                                                        · rw [if_neg c34] at H
                                                          have c34b0 : ((rd t184 x9_3) == (wrap64 ((wrap64 ((rd t184 (ji28)) + (rd t176 (rd (rd_L2 t180 x6_1) (ji28))))) + 1))) = false := beq_eq_false_iff_ne.mpr c34
                                                          have c34b1 : ((rd t184 x9_3) != (wrap64 ((wrap64 ((rd t184 (ji28)) + (rd t176 (rd (rd_L2 t180 x6_1) (ji28))))) + 1))) = true := bne_iff_ne.mpr c34
                                                          obtain rfl := Option.some.inj H
                                                          have p188 : 0 ≤ (x9_3 : Int) := of_decide_eq_true (by first | (with_reducible assumption) | assumption)
                                                          have q188 : x9_3 < (t184.length : Int) := of_decide_eq_true (by first | (with_reducible assumption) | assumption)
                                                          obtain ⟨ad188, e188, hx188_0⟩ := Kd.at_int (Kd.R_reads' HO_8.out).2.2 x9_3 p188 q188
                                                          cases e188
                                                          replace p188 := eq_true p188
                                                          replace q188 := eq_true q188
                                                          have p189 : 0 ≤ (x9_3 : Int) := of_decide_eq_true (by first | (with_reducible assumption) | assumption)
                                                          have q189 : x9_3 < (t184.length : Int) := of_decide_eq_true (by first | (with_reducible assumption) | assumption)
                                                          obtain ⟨ad189, e189, hx189_0⟩ := Kd.at_int (Kd.R_reads' HO_8.out).2.2 x9_3 p189 q189
                                                          obtain rfl : ad188 = ad189 := (by injection e189)
                                                          replace p189 := eq_true p189
                                                          replace q189 := eq_true q189
                                                          have p190 : 0 ≤ (x6_1 : Int) := of_decide_eq_true (by first | (with_reducible assumption) | assumption)
                                                          have q190 : x6_1 < (t180.length : Int) := of_decide_eq_true (by first | (with_reducible assumption) | assumption)
                                                          obtain ⟨ad190, A190_0, c190_0, e190, hx190_0, hl190_0, hi190_0⟩ := at_L2 (Kd.S_reads' HO_5.out).2.2 x6_1 p190 q190
                                                          obtain rfl : ad183 = ad190 := (by injection e190)
                                                          obtain ⟨ce190, hce190, hMe190, hcc190⟩ := Kd.S_get HO_5.out [] x6_1 p190 (by first | exact q190 | exact of_decide_eq_true (by first | (with_reducible assumption) | assumption) | (have e_ := (Kd.S_reads' HO_5.out).1; omega))
                                                          obtain ⟨ve190_0, rfl, ge190_0⟩ := hMe190
                                                          have hv190_0 := hcc190 0 _ rfl
                                                          rw [Nat.add_zero, show ((Kd.slice 3 (Kd.int .i64))).sz = 1 from rfl, Nat.mul_one] at hv190_0
                                                          replace hv190_0 := Option.some.inj (hv190_0.symm.trans hx190_0)
                                                          rw [hv190_0] at ge190_0
                                                          have HL190_0 := Aside0.mk (show Kd.R (Kd.int .i64) 3 _ _ _ _ (rd_L2 t180 x6_1) from ge190_0)
                                                          clear hv190_0 ge190_0
                                                          clear hcc190 hce190
                                                          have HR190_0 := Aside0.mk hi190_0
                                                          have HC190_0 := Aside0.mk hl190_0
                                                          clear hi190_0 hl190_0
                                                          replace p190 := eq_true p190
                                                          replace q190 := eq_true q190
                                                          have p191 : 0 ≤ (x9_3 : Int) := of_decide_eq_true (by first | (with_reducible assumption) | assumption)
                                                          have q191 : x9_3 < ((rd_L2 t180 x6_1).length : Int) := of_decide_eq_true (by first | (with_reducible assumption) | assumption)
                                                          obtain ⟨ad191, e191, hx191_0⟩ := Kd.at_int (by repeat (first | (with_reducible exact HR190_0.out) | (with_reducible refine Kd.C_alloc ?_ _) | (with_reducible refine Kd.C_drewN ?_ _) | (with_reducible refine Kd.C_drew ?_) | exact HR190_0.out)) x9_3 p191 q191
                                                          cases e191
                                                          replace p191 := eq_true p191
                                                          replace q191 := eq_true q191
                                                          have p192 : 0 ≤ ((rd (rd_L2 t180 x6_1) x9_3) : Int) := of_decide_eq_true (by first | (with_reducible assumption) | assumption)
                                                          have q192 : (rd (rd_L2 t180 x6_1) x9_3) < (t176.length : Int) := of_decide_eq_true (by first | (with_reducible assumption) | assumption)
                                                          obtain ⟨ad192, e192, hx192_0⟩ := Kd.at_int (Kd.R_reads' HO_3.out).2.2 (rd (rd_L2 t180 x6_1) x9_3) p192 q192
                                                          cases e192
                                                          replace p192 := eq_true p192
                                                          replace q192 := eq_true q192
                                                          have p193 : 0 ≤ (x9_3 : Int) := of_decide_eq_true (by first | (with_reducible assumption) | assumption)
                                                          have q193 : x9_3 < (t184.length : Int) := of_decide_eq_true (by first | (with_reducible assumption) | assumption)
                                                          obtain ⟨ad193, e193, hx193_0⟩ := Kd.at_int (Kd.R_reads' HO_8.out).2.2 x9_3 p193 q193
                                                          obtain rfl : ad188 = ad193 := (by injection e193)
                                                          replace p193 := eq_true p193
                                                          replace q193 := eq_true q193
                                                          have p194 : 0 ≤ ((ji28) : Int) := of_decide_eq_true (by first | (with_reducible assumption) | assumption)
                                                          have q194 : (ji28) < (t184.length : Int) := of_decide_eq_true (by first | (with_reducible assumption) | assumption)
                                                          obtain ⟨ad194, e194, hx194_0⟩ := Kd.at_int (Kd.R_reads' HO_8.out).2.2 (ji28) p194 q194
                                                          obtain rfl : ad188 = ad194 := (by injection e194)
                                                          replace p194 := eq_true p194
                                                          replace q194 := eq_true q194
                                                          have p195 : 0 ≤ (x6_1 : Int) := of_decide_eq_true (by first | (with_reducible assumption) | assumption)
                                                          have q195 : x6_1 < (t180.length : Int) := of_decide_eq_true (by first | (with_reducible assumption) | assumption)
                                                          obtain ⟨ad195, A195_0, c195_0, e195, hx195_0, hl195_0, hi195_0⟩ := at_L2 (Kd.S_reads' HO_5.out).2.2 x6_1 p195 q195
                                                          obtain rfl : ad183 = ad195 := (by injection e195)
                                                          obtain ⟨ce195, hce195, hMe195, hcc195⟩ := Kd.S_get HO_5.out [] x6_1 p195 (by first | exact q195 | exact of_decide_eq_true (by first | (with_reducible assumption) | assumption) | (have e_ := (Kd.S_reads' HO_5.out).1; omega))
                                                          obtain ⟨ve195_0, rfl, ge195_0⟩ := hMe195
                                                          have hv195_0 := hcc195 0 _ rfl
                                                          rw [Nat.add_zero, show ((Kd.slice 3 (Kd.int .i64))).sz = 1 from rfl, Nat.mul_one] at hv195_0
                                                          replace hv195_0 := Option.some.inj (hv195_0.symm.trans hx195_0)
                                                          rw [hv195_0] at ge195_0
                                                          have HL195_0 := Aside0.mk (show Kd.R (Kd.int .i64) 3 _ _ _ _ (rd_L2 t180 x6_1) from ge195_0)
                                                          clear hv195_0 ge195_0
                                                          clear hcc195 hce195
                                                          have HR195_0 := Aside0.mk hi195_0
                                                          have HC195_0 := Aside0.mk hl195_0
                                                          clear hi195_0 hl195_0
                                                          replace p195 := eq_true p195
                                                          replace q195 := eq_true q195
                                                          have ea_ := Option.some.inj (hx190_0.symm.trans hx195_0)
                                                          injection ea_ with ea_ en_ ec_
                                                          subst ea_
                                                          subst ec_
                                                          clear en_
                                                          have p196 : 0 ≤ ((ji28) : Int) := of_decide_eq_true (by first | (with_reducible assumption) | assumption)
                                                          have q196 : (ji28) < ((rd_L2 t180 x6_1).length : Int) := of_decide_eq_true (by first | (with_reducible assumption) | assumption)
                                                          obtain ⟨ad196, e196, hx196_0⟩ := Kd.at_int (by repeat (first | (with_reducible exact HR195_0.out) | (with_reducible refine Kd.C_alloc ?_ _) | (with_reducible refine Kd.C_drewN ?_ _) | (with_reducible refine Kd.C_drew ?_) | exact HR195_0.out)) (ji28) p196 q196
                                                          cases e196
                                                          replace p196 := eq_true p196
                                                          replace q196 := eq_true q196
                                                          have p197 : 0 ≤ ((rd (rd_L2 t180 x6_1) (ji28)) : Int) := of_decide_eq_true (by first | (with_reducible assumption) | assumption)
                                                          have q197 : (rd (rd_L2 t180 x6_1) (ji28)) < (t176.length : Int) := of_decide_eq_true (by first | (with_reducible assumption) | assumption)
                                                          obtain ⟨ad197, e197, hx197_0⟩ := Kd.at_int (Kd.R_reads' HO_3.out).2.2 (rd (rd_L2 t180 x6_1) (ji28)) p197 q197
                                                          obtain rfl : ad192 = ad197 := (by injection e197)
                                                          replace p197 := eq_true p197
                                                          replace q197 := eq_true q197
                                                          go_wp2
                                                          repeat (go_quiet (fail); try go_wp2)
                                                          go_ret
                                                          exact ⟨by first | rfl | (simp [errW_none, errW_some] <;> rfl) | (simp only [← hji28]; first | rfl | (simp [errW_none, errW_some] <;> rfl)) | (simp [*, errW_none, errW_some] <;> rfl), by repeat (first | (with_reducible first | exact HB.out | apply below_alloc | apply pw_below_drewN | apply below_drew1) | exact HB.out)⟩
                                                      · rw [if_neg c33] at H
                                                        exact absurd H (by simp)
                                                    · rw [if_neg c32] at H
                                                      exact absurd H (by simp)
                                                  · rw [if_neg c31] at H
                                                    exact absurd H (by simp)
                                                · rw [if_neg c30] at H
                                                  exact absurd H (by simp)
                                              · rw [if_neg c29] at H
                                                exact absurd H (by simp)
                                            · rw [if_neg c27] at H
                                              have c27b0 : decide (0 < x9_3) = false := decide_eq_false c27
                                              clear c27
                                              have H' := Aside0.mk H
                                              clear H
                                              have p188 : 0 ≤ (x9_3 : Int) := of_decide_eq_true (by first | (with_reducible assumption) | assumption)
                                              have q188 : x9_3 < (t184.length : Int) := of_decide_eq_true (by first | (with_reducible assumption) | assumption)
                                              obtain ⟨ad188, e188, hx188_0⟩ := Kd.at_int (Kd.R_reads' HO_8.out).2.2 x9_3 p188 q188
                                              cases e188
                                              replace p188 := eq_true p188
                                              replace q188 := eq_true q188
                                              have p189 : 0 ≤ (x9_3 : Int) := of_decide_eq_true (by first | (with_reducible assumption) | assumption)
                                              have q189 : x9_3 < (t184.length : Int) := of_decide_eq_true (by first | (with_reducible assumption) | assumption)
                                              obtain ⟨ad189, e189, hx189_0⟩ := Kd.at_int (Kd.R_reads' HO_8.out).2.2 x9_3 p189 q189
                                              obtain rfl : ad188 = ad189 := (by injection e189)
                                              replace p189 := eq_true p189
                                              replace q189 := eq_true q189
                                              have p190 : 0 ≤ (x6_1 : Int) := of_decide_eq_true (by first | (with_reducible assumption) | assumption)
                                              have q190 : x6_1 < (t180.length : Int) := of_decide_eq_true (by first | (with_reducible assumption) | assumption)
                                              obtain ⟨ad190, A190_0, c190_0, e190, hx190_0, hl190_0, hi190_0⟩ := at_L2 (Kd.S_reads' HO_5.out).2.2 x6_1 p190 q190
                                              obtain rfl : ad183 = ad190 := (by injection e190)
                                              obtain ⟨ce190, hce190, hMe190, hcc190⟩ := Kd.S_get HO_5.out [] x6_1 p190 (by first | exact q190 | exact of_decide_eq_true (by first | (with_reducible assumption) | assumption) | (have e_ := (Kd.S_reads' HO_5.out).1; omega))
                                              obtain ⟨ve190_0, rfl, ge190_0⟩ := hMe190
                                              have hv190_0 := hcc190 0 _ rfl
                                              rw [Nat.add_zero, show ((Kd.slice 3 (Kd.int .i64))).sz = 1 from rfl, Nat.mul_one] at hv190_0
                                              replace hv190_0 := Option.some.inj (hv190_0.symm.trans hx190_0)
                                              rw [hv190_0] at ge190_0
                                              have HL190_0 := Aside0.mk (show Kd.R (Kd.int .i64) 3 _ _ _ _ (rd_L2 t180 x6_1) from ge190_0)
                                              clear hv190_0 ge190_0
                                              clear hcc190 hce190
                                              have HR190_0 := Aside0.mk hi190_0
                                              have HC190_0 := Aside0.mk hl190_0
                                              clear hi190_0 hl190_0
                                              replace p190 := eq_true p190
                                              replace q190 := eq_true q190
                                              have p191 : 0 ≤ (x9_3 : Int) := of_decide_eq_true (by first | (with_reducible assumption) | assumption)
                                              have q191 : x9_3 < ((rd_L2 t180 x6_1).length : Int) := of_decide_eq_true (by first | (with_reducible assumption) | assumption)
                                              obtain ⟨ad191, e191, hx191_0⟩ := Kd.at_int (by repeat (first | (with_reducible exact HR190_0.out) | (with_reducible refine Kd.C_alloc ?_ _) | (with_reducible refine Kd.C_drewN ?_ _) | (with_reducible refine Kd.C_drew ?_) | exact HR190_0.out)) x9_3 p191 q191
                                              cases e191
                                              replace p191 := eq_true p191
                                              replace q191 := eq_true q191
                                              have p192 : 0 ≤ ((rd (rd_L2 t180 x6_1) x9_3) : Int) := of_decide_eq_true (by first | (with_reducible assumption) | assumption)
                                              have q192 : (rd (rd_L2 t180 x6_1) x9_3) < (t176.length : Int) := of_decide_eq_true (by first | (with_reducible assumption) | assumption)
                                              obtain ⟨ad192, e192, hx192_0⟩ := Kd.at_int (Kd.R_reads' HO_3.out).2.2 (rd (rd_L2 t180 x6_1) x9_3) p192 q192
                                              cases e192
                                              replace p192 := eq_true p192
                                              replace q192 := eq_true q192
                                              go_wp2
                                              repeat (go_quiet (fail); try go_wp2)
                                              go_roundg k3
                                              case measure => have := HK1.out; have := HK2.out; have := HK3.out; omega
                                              case rel => exact ⟨(wrap64 (x9_3 + 1)), (by first | rfl | (simp; done) | (simp [*]; done)), H', ⟨by have := HK1.out; have := HK2.out; have := HK3.out; omega⟩, ⟨by (with_reducible repeat (first | apply Kd.R_alloc | apply Kd.R_drewN | apply Kd.R_drew)); exact HO_3.out⟩, ⟨by (with_reducible repeat (first | apply Kd.S_alloc | apply Kd.S_drewN | apply Kd.S_drew)); exact HO_5.out⟩, ⟨by (with_reducible repeat (first | apply Kd.R_alloc | apply Kd.R_drewN | apply Kd.R_drew)); exact HO_8.out⟩, ⟨by repeat (first | (with_reducible exact HR183_0.out) | (with_reducible refine Kd.C_alloc ?_ _) | (with_reducible refine Kd.C_drewN ?_ _) | (with_reducible refine Kd.C_drew ?_) | exact HR183_0.out)⟩, ⟨by repeat (first | (with_reducible exact HR187_0.out) | (with_reducible refine Kd.C_alloc ?_ _) | (with_reducible refine Kd.C_drewN ?_ _) | (with_reducible refine Kd.C_drew ?_) | exact HR187_0.out)⟩, ⟨by repeat (first | (with_reducible first | exact HB.out | apply below_alloc | apply pw_below_drewN | apply below_drew1) | exact HB.out)⟩⟩
                                        · rw [if_neg c25] at H
                                          exact absurd H (by simp)
                                      · rw [if_neg c24] at H
                                        exact absurd H (by simp)
                                    · rw [if_neg c23] at H
                                      exact absurd H (by simp)
                                  · rw [if_neg c22] at H
                                    exact absurd H (by simp)
                                · rw [if_neg c21] at H
                                  exact absurd H (by simp)
                            · rw [if_neg c19] at H
                              exact absurd H (by simp)
                          · rw [if_neg c18] at H
                            have c18b0 : decide (x9_3 < (t184.length : Int)) = false := decide_eq_false c18
                            clear c18
                            have H' := Aside0.mk H
                            clear H
                            go_wp2
                            repeat (go_quiet (fail); try go_wp2)
                            go_roundg k3
                            case measure => have := HK1.out; have := HK2.out; have := HK3.out; omega
                            case rel => exact ⟨(wrap64 (x7_2 + 1)), (by first | rfl | (simp; done) | (simp [*]; done)), H', ⟨by have := HK1.out; have := HK2.out; have := HK3.out; omega⟩, ⟨by (with_reducible repeat (first | apply Kd.R_alloc | apply Kd.R_drewN | apply Kd.R_drew)); exact Kd.R_mono HO_3.out (fun _ hk => trivial)⟩, ⟨by (with_reducible repeat (first | apply Kd.S_alloc | apply Kd.S_drewN | apply Kd.S_drew)); exact Kd.S_mono HO_5.out (fun _ hk => hk.1)⟩, ⟨by repeat (first | (with_reducible first | exact HB.out | apply below_alloc | apply pw_below_drewN | apply below_drew1) | exact HB.out)⟩⟩
                    · rw [if_neg c15] at H
                      have c15b0 : ((t184.length : Int) == ((rd_L2 t180 x6_1).length : Int)) = false := beq_eq_false_iff_ne.mpr c15
                      have c15b1 : ((t184.length : Int) != ((rd_L2 t180 x6_1).length : Int)) = true := bne_iff_ne.mpr c15
                      have c15b2 : (t184.length == (rd_L2 t180 x6_1).length) = false := by first | simpa using c15 | (simp at c15 ⊢; omega)
                      obtain rfl := Option.some.inj H
                      have p183 : 0 ≤ (x6_1 : Int) := of_decide_eq_true (by first | (with_reducible assumption) | assumption)
                      have q183 : x6_1 < (t180.length : Int) := of_decide_eq_true (by first | (with_reducible assumption) | assumption)
                      obtain ⟨ad183, A183_0, c183_0, e183, hx183_0, hl183_0, hi183_0⟩ := at_L2 (Kd.S_reads' HO_5.out).2.2 x6_1 p183 q183
                      cases e183
                      obtain ⟨ce183, hce183, hMe183, hcc183⟩ := Kd.S_get HO_5.out [] x6_1 p183 (by first | exact q183 | exact of_decide_eq_true (by first | (with_reducible assumption) | assumption) | (have e_ := (Kd.S_reads' HO_5.out).1; omega))
                      obtain ⟨ve183_0, rfl, ge183_0⟩ := hMe183
                      have hv183_0 := hcc183 0 _ rfl
                      rw [Nat.add_zero, show ((Kd.slice 3 (Kd.int .i64))).sz = 1 from rfl, Nat.mul_one] at hv183_0
                      replace hv183_0 := Option.some.inj (hv183_0.symm.trans hx183_0)
                      rw [hv183_0] at ge183_0
                      have HL183_0 := Aside0.mk (show Kd.R (Kd.int .i64) 3 _ _ _ _ (rd_L2 t180 x6_1) from ge183_0)
                      clear hv183_0 ge183_0
                      clear hcc183 hce183
                      have HR183_0 := Aside0.mk hi183_0
                      have HC183_0 := Aside0.mk hl183_0
                      clear hi183_0 hl183_0
                      replace p183 := eq_true p183
                      replace q183 := eq_true q183
                      go_wp2_with (first | (go_at_call 41; (with_reducible refine (impl_StartsOf.calls k2 _ _ t176 _ _ (rd_L2 t180 x6_1) t177 x7_2 t184 _ ?side1 ?side2 ?side3 ?side4 A14.out).mono ?_); (case side1 => repeat (first | exact (Kd.R_reads' HO_3.out).2.2 | (with_reducible refine Kd.C_alloc ?_ _) | (with_reducible refine Kd.C_drewN ?_ _) | (with_reducible refine Kd.C_drew ?_))); (case side2 => exact (Kd.R_reads' HO_3.out).2.1); (case side3 => repeat (first | exact (by repeat (first | (with_reducible exact HR183_0.out) | (with_reducible refine Kd.C_alloc ?_ _) | (with_reducible refine Kd.C_drewN ?_ _) | (with_reducible refine Kd.C_drew ?_) | exact HR183_0.out)) | (with_reducible refine Kd.C_alloc ?_ _) | (with_reducible refine Kd.C_drewN ?_ _) | (with_reducible refine Kd.C_drew ?_))); (case side4 => exact HC183_0.out); rintro e w35 ⟨v185, rfl, ho0, hb⟩; have n0_ := Aside0.mk (Kd.R_elder' (by (with_reducible repeat (first | apply Kd.R_alloc | apply Kd.R_drewN | apply Kd.R_drew)); exact HO_3.out) (Kd.R_base ho0) hb); have n1_ := Aside0.mk (Kd.S_elder' (by (with_reducible repeat (first | apply Kd.S_alloc | apply Kd.S_drewN | apply Kd.S_drew)); exact HO_5.out) (Kd.R_base ho0) hb); have n2_ := Aside0.mk (Kd.R_elder' (by (with_reducible repeat (first | apply Kd.R_alloc | apply Kd.R_drewN | apply Kd.R_drew)); exact HL183_0.out) (Kd.R_base ho0) hb); have n3_ := Aside0.mk (Kd.R_lower (Kd.R_new' (Kd.R_new' ho0 (Kd.R_lt (by (with_reducible repeat (first | apply Kd.R_alloc | apply Kd.R_drewN | apply Kd.R_drew)); exact HO_3.out))) (Kd.R_lt (by (with_reducible repeat (first | apply Kd.R_alloc | apply Kd.R_drewN | apply Kd.R_drew)); exact HL183_0.out))) (below_size (by repeat (first | (with_reducible first | exact HB.out | apply below_alloc | apply pw_below_drewN | apply below_drew1) | exact HB.out)))); have n4_ := Aside0.mk (Kd.C_below (by repeat (first | (with_reducible exact HR183_0.out) | (with_reducible refine Kd.C_alloc ?_ _) | (with_reducible refine Kd.C_drewN ?_ _) | (with_reducible refine Kd.C_drew ?_) | exact HR183_0.out)) hb); have n5_ := Aside0.mk (below_step (by repeat (first | (with_reducible first | exact HB.out | apply below_alloc | apply pw_below_drewN | apply below_drew1) | exact HB.out)) hb); clear HO_3; clear HO_5; clear HL183_0; clear HR183_0; clear HB; have HO_3 := n0_; have HO_5 := n1_; have HL183_0 := n2_; have HO186 := n3_; have HR183_0 := n4_; have HB := n5_; clear n0_ n1_ n2_ n3_ n4_ n5_; (try clear hb); (try clear hb2); (try clear hk); (try clear hi); (try clear ho0); obtain ⟨Ao36, co36, eo36⟩ := Kd.R_slice HO186.out; subst eo36; have p187 : 0 ≤ (x6_1 : Int) := of_decide_eq_true (by first | (with_reducible assumption) | assumption); have q187 : x6_1 < (t180.length : Int) := of_decide_eq_true (by first | (with_reducible assumption) | assumption); obtain ⟨ad187, A187_0, c187_0, e187, hx187_0, hl187_0, hi187_0⟩ := at_L2 (Kd.S_reads' HO_5.out).2.2 x6_1 p187 q187; obtain rfl : ad183 = ad187 := (by injection e187); obtain ⟨ce187, hce187, hMe187, hcc187⟩ := Kd.S_get HO_5.out [] x6_1 p187 (by first | exact q187 | exact of_decide_eq_true (by first | (with_reducible assumption) | assumption) | (have e_ := (Kd.S_reads' HO_5.out).1; omega)); obtain ⟨ve187_0, rfl, ge187_0⟩ := hMe187; have hv187_0 := hcc187 0 _ rfl; rw [Nat.add_zero, show ((Kd.slice 3 (Kd.int .i64))).sz = 1 from rfl, Nat.mul_one] at hv187_0; replace hv187_0 := Option.some.inj (hv187_0.symm.trans hx187_0); rw [hv187_0] at ge187_0; have HL187_0 := Aside0.mk (show Kd.R (Kd.int .i64) 3 _ _ _ _ (rd_L2 t180 x6_1) from ge187_0); clear hv187_0 ge187_0; clear hcc187 hce187; have HR187_0 := Aside0.mk hi187_0; have HC187_0 := Aside0.mk hl187_0; clear hi187_0 hl187_0; replace p187 := eq_true p187; replace q187 := eq_true q187))
                      repeat (go_quiet (first | (go_at_call 41; (with_reducible refine (impl_StartsOf.calls k2 _ _ t176 _ _ (rd_L2 t180 x6_1) t177 x7_2 t184 _ ?side1 ?side2 ?side3 ?side4 A14.out).mono ?_); (case side1 => repeat (first | exact (Kd.R_reads' HO_3.out).2.2 | (with_reducible refine Kd.C_alloc ?_ _) | (with_reducible refine Kd.C_drewN ?_ _) | (with_reducible refine Kd.C_drew ?_))); (case side2 => exact (Kd.R_reads' HO_3.out).2.1); (case side3 => repeat (first | exact (by repeat (first | (with_reducible exact HR183_0.out) | (with_reducible refine Kd.C_alloc ?_ _) | (with_reducible refine Kd.C_drewN ?_ _) | (with_reducible refine Kd.C_drew ?_) | exact HR183_0.out)) | (with_reducible refine Kd.C_alloc ?_ _) | (with_reducible refine Kd.C_drewN ?_ _) | (with_reducible refine Kd.C_drew ?_))); (case side4 => exact HC183_0.out); rintro e w35 ⟨v185, rfl, ho0, hb⟩; have n0_ := Aside0.mk (Kd.R_elder' (by (with_reducible repeat (first | apply Kd.R_alloc | apply Kd.R_drewN | apply Kd.R_drew)); exact HO_3.out) (Kd.R_base ho0) hb); have n1_ := Aside0.mk (Kd.S_elder' (by (with_reducible repeat (first | apply Kd.S_alloc | apply Kd.S_drewN | apply Kd.S_drew)); exact HO_5.out) (Kd.R_base ho0) hb); have n2_ := Aside0.mk (Kd.R_elder' (by (with_reducible repeat (first | apply Kd.R_alloc | apply Kd.R_drewN | apply Kd.R_drew)); exact HL183_0.out) (Kd.R_base ho0) hb); have n3_ := Aside0.mk (Kd.R_lower (Kd.R_new' (Kd.R_new' ho0 (Kd.R_lt (by (with_reducible repeat (first | apply Kd.R_alloc | apply Kd.R_drewN | apply Kd.R_drew)); exact HO_3.out))) (Kd.R_lt (by (with_reducible repeat (first | apply Kd.R_alloc | apply Kd.R_drewN | apply Kd.R_drew)); exact HL183_0.out))) (below_size (by repeat (first | (with_reducible first | exact HB.out | apply below_alloc | apply pw_below_drewN | apply below_drew1) | exact HB.out)))); have n4_ := Aside0.mk (Kd.C_below (by repeat (first | (with_reducible exact HR183_0.out) | (with_reducible refine Kd.C_alloc ?_ _) | (with_reducible refine Kd.C_drewN ?_ _) | (with_reducible refine Kd.C_drew ?_) | exact HR183_0.out)) hb); have n5_ := Aside0.mk (below_step (by repeat (first | (with_reducible first | exact HB.out | apply below_alloc | apply pw_below_drewN | apply below_drew1) | exact HB.out)) hb); clear HO_3; clear HO_5; clear HL183_0; clear HR183_0; clear HB; have HO_3 := n0_; have HO_5 := n1_; have HL183_0 := n2_; have HO186 := n3_; have HR183_0 := n4_; have HB := n5_; clear n0_ n1_ n2_ n3_ n4_ n5_; (try clear hb); (try clear hb2); (try clear hk); (try clear hi); (try clear ho0); obtain ⟨Ao36, co36, eo36⟩ := Kd.R_slice HO186.out; subst eo36; have p187 : 0 ≤ (x6_1 : Int) := of_decide_eq_true (by first | (with_reducible assumption) | assumption); have q187 : x6_1 < (t180.length : Int) := of_decide_eq_true (by first | (with_reducible assumption) | assumption); obtain ⟨ad187, A187_0, c187_0, e187, hx187_0, hl187_0, hi187_0⟩ := at_L2 (Kd.S_reads' HO_5.out).2.2 x6_1 p187 q187; obtain rfl : ad183 = ad187 := (by injection e187); obtain ⟨ce187, hce187, hMe187, hcc187⟩ := Kd.S_get HO_5.out [] x6_1 p187 (by first | exact q187 | exact of_decide_eq_true (by first | (with_reducible assumption) | assumption) | (have e_ := (Kd.S_reads' HO_5.out).1; omega)); obtain ⟨ve187_0, rfl, ge187_0⟩ := hMe187; have hv187_0 := hcc187 0 _ rfl; rw [Nat.add_zero, show ((Kd.slice 3 (Kd.int .i64))).sz = 1 from rfl, Nat.mul_one] at hv187_0; replace hv187_0 := Option.some.inj (hv187_0.symm.trans hx187_0); rw [hv187_0] at ge187_0; have HL187_0 := Aside0.mk (show Kd.R (Kd.int .i64) 3 _ _ _ _ (rd_L2 t180 x6_1) from ge187_0); clear hv187_0 ge187_0; clear hcc187 hce187; have HR187_0 := Aside0.mk hi187_0; have HC187_0 := Aside0.mk hl187_0; clear hi187_0 hl187_0; replace p187 := eq_true p187; replace q187 := eq_true q187)); try go_wp2_with (first | (go_at_call 41; (with_reducible refine (impl_StartsOf.calls k2 _ _ t176 _ _ (rd_L2 t180 x6_1) t177 x7_2 t184 _ ?side1 ?side2 ?side3 ?side4 A14.out).mono ?_); (case side1 => repeat (first | exact (Kd.R_reads' HO_3.out).2.2 | (with_reducible refine Kd.C_alloc ?_ _) | (with_reducible refine Kd.C_drewN ?_ _) | (with_reducible refine Kd.C_drew ?_))); (case side2 => exact (Kd.R_reads' HO_3.out).2.1); (case side3 => repeat (first | exact (by repeat (first | (with_reducible exact HR183_0.out) | (with_reducible refine Kd.C_alloc ?_ _) | (with_reducible refine Kd.C_drewN ?_ _) | (with_reducible refine Kd.C_drew ?_) | exact HR183_0.out)) | (with_reducible refine Kd.C_alloc ?_ _) | (with_reducible refine Kd.C_drewN ?_ _) | (with_reducible refine Kd.C_drew ?_))); (case side4 => exact HC183_0.out); rintro e w35 ⟨v185, rfl, ho0, hb⟩; have n0_ := Aside0.mk (Kd.R_elder' (by (with_reducible repeat (first | apply Kd.R_alloc | apply Kd.R_drewN | apply Kd.R_drew)); exact HO_3.out) (Kd.R_base ho0) hb); have n1_ := Aside0.mk (Kd.S_elder' (by (with_reducible repeat (first | apply Kd.S_alloc | apply Kd.S_drewN | apply Kd.S_drew)); exact HO_5.out) (Kd.R_base ho0) hb); have n2_ := Aside0.mk (Kd.R_elder' (by (with_reducible repeat (first | apply Kd.R_alloc | apply Kd.R_drewN | apply Kd.R_drew)); exact HL183_0.out) (Kd.R_base ho0) hb); have n3_ := Aside0.mk (Kd.R_lower (Kd.R_new' (Kd.R_new' ho0 (Kd.R_lt (by (with_reducible repeat (first | apply Kd.R_alloc | apply Kd.R_drewN | apply Kd.R_drew)); exact HO_3.out))) (Kd.R_lt (by (with_reducible repeat (first | apply Kd.R_alloc | apply Kd.R_drewN | apply Kd.R_drew)); exact HL183_0.out))) (below_size (by repeat (first | (with_reducible first | exact HB.out | apply below_alloc | apply pw_below_drewN | apply below_drew1) | exact HB.out)))); have n4_ := Aside0.mk (Kd.C_below (by repeat (first | (with_reducible exact HR183_0.out) | (with_reducible refine Kd.C_alloc ?_ _) | (with_reducible refine Kd.C_drewN ?_ _) | (with_reducible refine Kd.C_drew ?_) | exact HR183_0.out)) hb); have n5_ := Aside0.mk (below_step (by repeat (first | (with_reducible first | exact HB.out | apply below_alloc | apply pw_below_drewN | apply below_drew1) | exact HB.out)) hb); clear HO_3; clear HO_5; clear HL183_0; clear HR183_0; clear HB; have HO_3 := n0_; have HO_5 := n1_; have HL183_0 := n2_; have HO186 := n3_; have HR183_0 := n4_; have HB := n5_; clear n0_ n1_ n2_ n3_ n4_ n5_; (try clear hb); (try clear hb2); (try clear hk); (try clear hi); (try clear ho0); obtain ⟨Ao36, co36, eo36⟩ := Kd.R_slice HO186.out; subst eo36; have p187 : 0 ≤ (x6_1 : Int) := of_decide_eq_true (by first | (with_reducible assumption) | assumption); have q187 : x6_1 < (t180.length : Int) := of_decide_eq_true (by first | (with_reducible assumption) | assumption); obtain ⟨ad187, A187_0, c187_0, e187, hx187_0, hl187_0, hi187_0⟩ := at_L2 (Kd.S_reads' HO_5.out).2.2 x6_1 p187 q187; obtain rfl : ad183 = ad187 := (by injection e187); obtain ⟨ce187, hce187, hMe187, hcc187⟩ := Kd.S_get HO_5.out [] x6_1 p187 (by first | exact q187 | exact of_decide_eq_true (by first | (with_reducible assumption) | assumption) | (have e_ := (Kd.S_reads' HO_5.out).1; omega)); obtain ⟨ve187_0, rfl, ge187_0⟩ := hMe187; have hv187_0 := hcc187 0 _ rfl; rw [Nat.add_zero, show ((Kd.slice 3 (Kd.int .i64))).sz = 1 from rfl, Nat.mul_one] at hv187_0; replace hv187_0 := Option.some.inj (hv187_0.symm.trans hx187_0); rw [hv187_0] at ge187_0; have HL187_0 := Aside0.mk (show Kd.R (Kd.int .i64) 3 _ _ _ _ (rd_L2 t180 x6_1) from ge187_0); clear hv187_0 ge187_0; clear hcc187 hce187; have HR187_0 := Aside0.mk hi187_0; have HC187_0 := Aside0.mk hl187_0; clear hi187_0 hl187_0; replace p187 := eq_true p187; replace q187 := eq_true q187)))
                      go_ret
                      exact ⟨by first | rfl | (simp [errW_none, errW_some] <;> rfl) | (simp [*, errW_none, errW_some] <;> rfl), by repeat (first | (with_reducible first | exact HB.out | apply below_alloc | apply pw_below_drewN | apply below_drew1) | exact HB.out)⟩
                  · rw [if_neg c13] at H
                    exact absurd H (by simp)
                · rw [if_neg c12] at H
                  exact absurd H (by simp)
              · rw [if_neg c11] at H
                have c11b0 : decide (x7_2 < 3) = false := decide_eq_false c11
                clear c11
                have H' := Aside0.mk H
                clear H
                go_wp2
                repeat (go_quiet (fail); try go_wp2)
                go_roundg k2
                case measure => have := HK1.out; have := HK2.out; omega
                case rel => exact ⟨(wrap64 (x6_1 + 1)), (by first | rfl | (simp; done) | (simp [*]; done)), H', ⟨by have := HK1.out; have := HK2.out; omega⟩, ⟨by (with_reducible repeat (first | apply Kd.R_alloc | apply Kd.R_drewN | apply Kd.R_drew)); exact HO_3.out⟩, ⟨by (with_reducible repeat (first | apply Kd.S_alloc | apply Kd.S_drewN | apply Kd.S_drew)); exact HO_5.out⟩, ⟨by repeat (first | (with_reducible first | exact HB.out | apply below_alloc | apply pw_below_drewN | apply below_drew1) | exact HB.out)⟩⟩
        · rw [if_neg c9] at H
          have c9b0 : decide (x6_1 < (t180.length : Int)) = false := decide_eq_false c9
          clear c9
          obtain rfl := Option.some.inj H
          obtain ⟨Ao37, co37, eo37⟩ := Kd.S_slice HO_5.out
          subst eo37
          go_wp2
          repeat (go_quiet (fail); try go_wp2)
          go_ret
          exact ⟨by first | rfl | (simp [errW_none, errW_some] <;> rfl) | (simp [*, errW_none, errW_some] <;> rfl), by repeat (first | (with_reducible first | exact HB.out | apply below_alloc | apply pw_below_drewN | apply below_drew1) | exact HB.out)⟩

/-- THE ONE PURE STATEMENT of laws_FnAligned: yours. -/
def laws_FnAligned.Pure : Prop := ∀ (l0 : List Int), l0.length ≤ maxLen → l0.length * 1 ≤ 140737488351232 → (∀ x ∈ l0, (Lit.int .u8 x).wf = true) → ∃ k, laws_FnAligned.f k l0 = some true
theorem laws_FnAligned.walk (P : laws_FnAligned.Pure) (a0 : Option Addr) (len0 cap0 : Nat) (z0 : List Int) (w : World) (w0 : (a0 = none ∧ len0 = 0 ∧ cap0 = 0 ∧ z0 = []) ∨ ∃ x, a0 = some x ∧ len0 ≤ cap0 ∧ cap0 ≤ maxLen ∧ z0.length = cap0 ∧ (∀ i, i < z0.length → w.cell? (x.add i) = some (.int .u8 (z0.getD i 0))) ∧ ∀ n ∈ z0, (Lit.int .u8 n).wf = true) (y0 : len0 * 1 ≤ 140737488351232) :
    Calls Try.prog 11 #[.slice a0 len0 cap0] w fun e w' => e = .returned (.bool true) ∧ Below w.heap.size w w' := by
  obtain ⟨l0, rfl, hr0, hm0, hw0, hc0⟩ := ReadsInt.ofRowC w0
  obtain ⟨k, h⟩ := P l0 hm0 y0 hw0
  refine (laws_FnAligned.calls k _ _ l0 true w (Kd.C_of_reads (d := (0 : Int)) (h1 := fun _ => rfl) hr0) hc0 h).mono ?_
  rintro e w' ⟨rfl, hd⟩
  exact ⟨rfl, hd⟩

end Go.Proofs.Ytanllimeiofaaaa.PFnAligned
